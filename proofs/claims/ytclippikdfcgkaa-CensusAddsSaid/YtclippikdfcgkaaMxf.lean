/- Package census: Add. Conditions: no more than a thousand events each. -/
import Derived.Test.YtclippikdfcgkaaMxc
namespace Go.Proofs.Ytclippikdfcgkaa.M
open Go.RowKit Go.Proofs.YtclippikdfcgkaaW.PrintWords Go.Proofs.YtclippikdfcgkaaW.PrintLast Go.Proofs.YtclippikdfcgkaaW.PrintMore
attribute [local go_sem] max2_int max_two
set_option linter.unusedVariables false
set_option linter.unusedSimpArgs false
set_option maxHeartbeats 8000000 in
set_option maxRecDepth 100000 in
theorem Add_calls {base : Nat} (es fs : List Ev) (n m g1 c1 g2 c2 g3 c3 g4 c4 : Nat) (w : World) (hn : 1 ≤ n ∧ n ≤ 65536) (hm : 1 ≤ m ∧ m ≤ 64) (hl : es.length ≤ 1000 ∧ fs.length ≤ 1000)
    (hga : w.ownsRow base 141 3 (.slice (some ⟨g1, 0, none⟩) n c1) n (tabV (n * 3) (fG es))) (hpa : w.ownsRow base 3 1 (.slice (some ⟨g2, 0, none⟩) m c2) m (tabV m (cP es)))
    (hgb : w.ownsRow base 141 3 (.slice (some ⟨g3, 0, none⟩) n c3) n (tabV (n * 3) (fG fs))) (hpb : w.ownsRow base 3 1 (.slice (some ⟨g4, 0, none⟩) m c4) m (tabV m (cP fs))) :
    Calls Try.prog 17 #[.agg (cenA (cK es) (.slice (some ⟨g1, 0, none⟩) n c1) (.slice (some ⟨g2, 0, none⟩) m c2) (cMost es) (cNow es)), .agg (cenA (cK fs) (.slice (some ⟨g3, 0, none⟩) n c3) (.slice (some ⟨g4, 0, none⟩) m c4) (cMost fs) (cNow fs))] w fun r w' =>
      ∃ b g5 c5 g6 c6, r = .returned (.tuple #[.agg (cenC (cK (es ++ fs)) (.slice (some ⟨g5, 0, none⟩) n c5) (.slice (some ⟨g6, 0, none⟩) m c6) (cMost (es ++ fs)) (cNow (es ++ fs))), .int .i64 0]) ∧ IsCen w' w.heap.size b g5 c5 g6 c6 n m (cK (es ++ fs)) (fG (es ++ fs)) (cP (es ++ fs)) (cMost (es ++ fs)) (cNow (es ++ fs)) ∧ Bw w w' := by
  obtain ⟨A, hA⟩ : ∃ A, A = cenA (cK es) (.slice (some ⟨g1, 0, none⟩) n c1) (.slice (some ⟨g2, 0, none⟩) m c2) (cMost es) (cNow es) := ⟨_, rfl⟩
  obtain ⟨B, hB⟩ : ∃ B, B = cenA (cK fs) (.slice (some ⟨g3, 0, none⟩) n c3) (.slice (some ⟨g4, 0, none⟩) m c4) (cMost fs) (cNow fs) := ⟨_, rfl⟩
  have L1 := ((Blk.new w A 31).alloc (.cells B 31)).alloc (.cells cenZ 31)
  have L2 := (Blk.new (w.alloc (.cells A 31)) B 31).alloc (.cells cenZ 31)
  have L3 := Blk.new ((w.alloc (.cells A 31)).alloc (.cells B 31)) cenZ 31
  have HW0 := Aside0.mk ((((Bw.refl w).alloc (.cells A 31)).alloc (.cells B 31)).alloc (.cells cenZ 31))
  rw [show (w.alloc (.cells A 31)).heap.size = w.heap.size + 1 by simp] at L2
  rw [show ((w.alloc (.cells A 31)).alloc (.cells B 31)).heap.size = w.heap.size + 1 + 1 by simp] at L3
  obtain ⟨W0, hW0⟩ : ∃ W0, W0 = ((w.alloc (.cells A 31)).alloc (.cells B 31)).alloc (.cells cenZ 31) := ⟨_, rfl⟩
  rw [← hW0] at L1 L2 L3 HW0
  rw [hA] at L1
  rw [hB] at L2
  rw [hA, hB] at hW0
  have HL1 := Aside0.mk L1
  have HL2 := Aside0.mk L2
  have HGA := Aside0.mk (pw_own_below hga HW0.out)
  have HPA := Aside0.mk (pw_own_below hpa HW0.out)
  have HGB := Aside0.mk (pw_own_below hgb HW0.out)
  have HPB := Aside0.mk (pw_own_below hpb HW0.out)
  have HL3 := Aside0.mk L3
  have HLE := Aside0.mk hl
  have HNE := Aside0.mk hn
  have HME := Aside0.mk hm
  have e1 : ((n : Int) != (n : Int)) = false := by simp
  have e2 : ((m : Int) != (m : Int)) = false := by simp
  clear hga hpa hgb hpb hA hB A B L1 L2 L3 hl
  unfold cenA at hW0 ⊢
  unfold cenZ at hW0
  go_enter Try.func17, Try.ntmps17
  go_upto_region 3 with fail
  rw [← hW0]
  clear hW0 e1 e2
  generalize (Value.agg #[.int .i64 (cK es 0), .int .i64 (cK es 1), .int .i64 (cK es 2), .int .i64 (cK es 3), .int .i64 (cK es 4), .int .i64 (cK es 5), .int .i64 (cK es 6), .int .i64 (cK es 7), .int .i64 (cK es 8), .int .i64 (cK es 9), .int .i64 (cK es 10), .int .i64 (cK es 11), .slice (some ⟨g1, 0, none⟩) n c1, .slice (some ⟨g2, 0, none⟩) m c2, .int .i64 (cMost es), .int .i64 (cNow es)]) = T0
  generalize (Value.agg #[.int .i64 (cK fs 0), .int .i64 (cK fs 1), .int .i64 (cK fs 2), .int .i64 (cK fs 3), .int .i64 (cK fs 4), .int .i64 (cK fs 5), .int .i64 (cK fs 6), .int .i64 (cK fs 7), .int .i64 (cK fs 8), .int .i64 (cK fs 9), .int .i64 (cK fs 10), .int .i64 (cK fs 11), .slice (some ⟨g3, 0, none⟩) n c3, .slice (some ⟨g4, 0, none⟩) m c4, .int .i64 (cMost fs), .int .i64 (cNow fs)]) = T1
  have r1 : w.heap.size < W0.heap.size := HL1.out.lt
  have r2 : w.heap.size + 1 < W0.heap.size := HL2.out.lt
  obtain ⟨mx, hmx⟩ : ∃ mx, (if cMost es < cNow es + cMost fs then cNow es + cMost fs else cMost es) = mx := ⟨_, rfl⟩
  have nr1 := cNow_range es
  have nr2 := cNow_range fs
  have mr1 := cMost_range es
  have mr2 := cMost_range fs
  have hw1 : IntKind.i64.wrap (cNow es + cNow fs) = cNow es + cNow fs := by rw [i64_wrap]; have := HLE.out; omega
  have hw2 : IntKind.i64.wrap (cNow es + cMost fs) = cNow es + cMost fs := by rw [i64_wrap]; have := HLE.out; omega
  clear nr1 nr2 mr1 mr2
  go_cut [6] from 29 to 48 (fun v wx => ∃ b g5 c5 g6 c6, v = .pointer (some ⟨b, 0, none⟩) ∧ Aside0 (IsCen wx W0.heap.size b g5 c5 g6 c6 n m (fun _ => 0) (fG es) (cP es) mx (cNow es + cNow fs)) ∧ Aside0 (Bw W0 wx))
  case first =>
    have a12 : W0.cell? ⟨w.heap.size, 12, none⟩ = some (.slice (some ⟨g1, 0, none⟩) n c1) := HL1.out.cell 12 _ rfl
    have a13 : W0.cell? ⟨w.heap.size, 13, none⟩ = some (.slice (some ⟨g2, 0, none⟩) m c2) := HL1.out.cell 13 _ rfl
    have a14 : W0.cell? ⟨w.heap.size, 14, none⟩ = some (.int .i64 (cMost es)) := HL1.out.cell 14 _ rfl
    have a15 : W0.cell? ⟨w.heap.size, 15, none⟩ = some (.int .i64 (cNow es)) := HL1.out.cell 15 _ rfl
    have b14 : W0.cell? ⟨w.heap.size + 1, 14, none⟩ = some (.int .i64 (cMost fs)) := HL2.out.cell 14 _ rfl
    have b15 : W0.cell? ⟨w.heap.size + 1, 15, none⟩ = some (.int .i64 (cNow fs)) := HL2.out.cell 15 _ rfl
    go_wp2_with fail
    refine wp_region_noPanic ?_
    refine wp_region_held_drew (S := (fun W => Bw W0 W ∧ W.cell? ⟨w.heap.size, 12, none⟩ = some (.slice (some ⟨g1, 0, none⟩) n c1) ∧ W.cell? ⟨w.heap.size, 13, none⟩ = some (.slice (some ⟨g2, 0, none⟩) m c2) ∧ W.cell? ⟨w.heap.size, 14, none⟩ = some (.int .i64 (cMost es)) ∧ W.cell? ⟨w.heap.size, 15, none⟩ = some (.int .i64 (cNow es)) ∧ W.cell? ⟨w.heap.size + 1, 14, none⟩ = some (.int .i64 (cMost fs)) ∧ W.cell? ⟨w.heap.size + 1, 15, none⟩ = some (.int .i64 (cNow fs)))) (by kernel_rfl) ?_ (fun hHeld => ?_)
    · (refine (fun hb => ⟨hb, hb.kept a12, hb.kept a13, hb.kept a14, hb.kept a15, hb.kept b14, hb.kept b15⟩) ?_; (repeat (first | (with_reducible assumption) | (with_reducible exact Bw.refl W0) | (with_reducible refine Bw.alloc ?_ _) | (with_reducible refine Bw.setCell ?_ (by first | exact Nat.le_refl _ | exact hq5.size | exact hq6.size) _) | (with_reducible refine Bw.drew ?_))))
    refine wpAnyH_take (i := 0) (v := ?v1) (by simp only [List.getElem?_toArray, List.getElem?_cons_zero, List.getElem?_cons_succ]; rfl) (by kernel_rfl) (by kernel_rfl) (by kernel_rfl) (fun _ _ _ h => h) (Or.inl ⟨by rfl, ?h1⟩) (by assumption) ?r1
    case h1 => (intro w hSw; (try dsimp only at hSw); go_simp; (try with_reducible rfl))
    try simp only [Act.put, List.setIfInBounds_toArray, List.set_cons_zero, List.set_cons_succ]
    refine wpAnyH_take (i := 1) (v := ?v2) (by simp only [List.getElem?_toArray, List.getElem?_cons_zero, List.getElem?_cons_succ]; rfl) (by kernel_rfl) (by kernel_rfl) (by kernel_rfl) (fun _ _ _ h => h) (Or.inl ⟨by rfl, ?h2⟩) (by assumption) ?r2
    case h2 => (intro w hSw; (try dsimp only at hSw); go_simp; (try with_reducible rfl))
    try simp only [Act.put, List.setIfInBounds_toArray, List.set_cons_zero, List.set_cons_succ]
    refine wpAnyH_take (i := 3) (v := ?v3) (by simp only [List.getElem?_toArray, List.getElem?_cons_zero, List.getElem?_cons_succ]; rfl) (by kernel_rfl) (by kernel_rfl) (by kernel_rfl) (fun _ _ _ h => h) (Or.inl ⟨by rfl, ?h3⟩) (by assumption) ?r3
    case h3 => (intro w hSw; (try dsimp only at hSw); go_simp; (try with_reducible rfl))
    try simp only [Act.put, List.setIfInBounds_toArray, List.set_cons_zero, List.set_cons_succ]
    refine wpAnyH_take (i := 4) (v := ?v4) (by simp only [List.getElem?_toArray, List.getElem?_cons_zero, List.getElem?_cons_succ]; rfl) (by kernel_rfl) (by kernel_rfl) (by kernel_rfl) (fun _ _ _ h => h) (Or.inl ⟨by rfl, ?h4⟩) (by assumption) ?r4
    case h4 => (intro w hSw; (try dsimp only at hSw); go_simp; (try with_reducible rfl))
    try simp only [Act.put, List.setIfInBounds_toArray, List.set_cons_zero, List.set_cons_succ]
    refine wpAnyH_take (i := 6) (v := ?v5) (by simp only [List.getElem?_toArray, List.getElem?_cons_zero, List.getElem?_cons_succ]; rfl) (by kernel_rfl) (by kernel_rfl) (by kernel_rfl) (fun _ _ _ h => h) (Or.inl ⟨by rfl, ?h5⟩) (by assumption) ?r5
    case h5 => (intro w hSw; (try dsimp only at hSw); go_simp; (try with_reducible rfl))
    try simp only [Act.put, List.setIfInBounds_toArray, List.set_cons_zero, List.set_cons_succ]
    refine wpAnyH_take (i := 7) (v := ?v6) (by simp only [List.getElem?_toArray, List.getElem?_cons_zero, List.getElem?_cons_succ]; rfl) (by kernel_rfl) (by kernel_rfl) (by kernel_rfl) (fun _ _ _ h => h) (Or.inl ⟨by rfl, ?h6⟩) (by assumption) ?r6
    case h6 => (intro w hSw; (try dsimp only at hSw); go_simp; (try with_reducible rfl))
    try simp only [Act.put, List.setIfInBounds_toArray, List.set_cons_zero, List.set_cons_succ]
    refine wpAnyH_take (i := 8) (v := ?v7) (by simp only [List.getElem?_toArray, List.getElem?_cons_zero, List.getElem?_cons_succ]; rfl) (by kernel_rfl) (by kernel_rfl) (by kernel_rfl) (fun _ _ _ h => h) (Or.inl ⟨by rfl, ?h7⟩) (by assumption) ?r7
    case h7 => (intro w hSw; (try dsimp only at hSw); go_simp; (try with_reducible rfl))
    try simp only [Act.put, List.setIfInBounds_toArray, List.set_cons_zero, List.set_cons_succ]
    refine wpAnyH_take (i := 9) (v := ?v8) (by simp only [List.getElem?_toArray, List.getElem?_cons_zero, List.getElem?_cons_succ]; rfl) (by kernel_rfl) (by kernel_rfl) (by kernel_rfl) (fun _ _ _ h => h) (Or.inl ⟨by rfl, ?h8⟩) (by assumption) ?r8
    case h8 => (intro w hSw; (try dsimp only at hSw); go_simp; (try with_reducible rfl))
    try simp only [Act.put, List.setIfInBounds_toArray, List.set_cons_zero, List.set_cons_succ]
    refine wpAnyH_take (i := 10) (v := ?v9) (by simp only [List.getElem?_toArray, List.getElem?_cons_zero, List.getElem?_cons_succ]; rfl) (by kernel_rfl) (by kernel_rfl) (by kernel_rfl) (fun _ _ _ h => h) (Or.inl ⟨by rfl, ?h9⟩) (by assumption) ?r9
    case h9 => (intro w hSw; (try dsimp only at hSw); go_simp; (try with_reducible rfl))
    try simp only [Act.put, List.setIfInBounds_toArray, List.set_cons_zero, List.set_cons_succ]
    refine wpAnyH_take (i := 11) (v := ?v10) (by simp only [List.getElem?_toArray, List.getElem?_cons_zero, List.getElem?_cons_succ]; rfl) (by kernel_rfl) (by kernel_rfl) (by kernel_rfl) (fun _ _ _ h => h) (Or.inl ⟨by rfl, ?h10⟩) (by assumption) ?r10
    case h10 => (intro w hSw; (try dsimp only at hSw); go_simp; (try with_reducible rfl))
    try simp only [Act.put, List.setIfInBounds_toArray, List.set_cons_zero, List.set_cons_succ]
    refine wpAnyH_take (i := 12) (v := ?v11) (by simp only [List.getElem?_toArray, List.getElem?_cons_zero, List.getElem?_cons_succ]; rfl) (by kernel_rfl) (by kernel_rfl) (by kernel_rfl) (fun _ _ _ h => h) (Or.inl ⟨by rfl, ?h11⟩) (by assumption) ?r11
    case h11 => (intro w hSw; (try dsimp only at hSw); go_simp; (try with_reducible rfl))
    try simp only [Act.put, List.setIfInBounds_toArray, List.set_cons_zero, List.set_cons_succ]
    refine wpAnyH_take (i := 13) (v := ?v12) (by simp only [List.getElem?_toArray, List.getElem?_cons_zero, List.getElem?_cons_succ]; rfl) (by kernel_rfl) (by kernel_rfl) (by kernel_rfl) (fun _ _ _ h => h) (Or.inl ⟨by rfl, ?h12⟩) (by assumption) ?r12
    case h12 => (intro w hSw; (try dsimp only at hSw); go_simp; (try with_reducible rfl))
    try simp only [Act.put, List.setIfInBounds_toArray, List.set_cons_zero, List.set_cons_succ]
    refine wpAnyH_take (i := 14) (v := ?v13) (by simp only [List.getElem?_toArray, List.getElem?_cons_zero, List.getElem?_cons_succ]; rfl) (by kernel_rfl) (by kernel_rfl) (by kernel_rfl) (fun _ _ _ h => h) (Or.inl ⟨by rfl, ?h13⟩) (by assumption) ?r13
    case h13 => (intro w hSw; (try dsimp only at hSw); go_simp; (try with_reducible rfl))
    try simp only [Act.put, List.setIfInBounds_toArray, List.set_cons_zero, List.set_cons_succ]
    refine wpAnyH_take (i := 15) (v := ?v14) (by simp only [List.getElem?_toArray, List.getElem?_cons_zero, List.getElem?_cons_succ]; rfl) (by kernel_rfl) (by kernel_rfl) (by kernel_rfl) (fun _ _ _ h => h) (Or.inl ⟨by rfl, ?h14⟩) (by assumption) ?r14
    case h14 => (intro w hSw; (try dsimp only at hSw); go_simp; (try with_reducible rfl))
    try simp only [Act.put, List.setIfInBounds_toArray, List.set_cons_zero, List.set_cons_succ]
    refine wpAnyH_take (i := 16) (v := ?v15) (by simp only [List.getElem?_toArray, List.getElem?_cons_zero, List.getElem?_cons_succ]; rfl) (by kernel_rfl) (by kernel_rfl) (by kernel_rfl) (fun _ _ _ h => h) (Or.inl ⟨by rfl, ?h15⟩) (by assumption) ?r15
    case h15 => (intro w hSw; (try dsimp only at hSw); go_simp; (try with_reducible rfl))
    try simp only [Act.put, List.setIfInBounds_toArray, List.set_cons_zero, List.set_cons_succ]
    refine wpAnyH_take (i := 17) (v := ?v16) (by simp only [List.getElem?_toArray, List.getElem?_cons_zero, List.getElem?_cons_succ]; rfl) (by kernel_rfl) (by kernel_rfl) (by kernel_rfl) (fun _ _ _ h => h) (Or.inl ⟨by rfl, ?h16⟩) (by assumption) ?r16
    case h16 => (intro w hSw; (try dsimp only at hSw); go_simp; (try with_reducible rfl))
    try simp only [Act.put, List.setIfInBounds_toArray, List.set_cons_zero, List.set_cons_succ]
    refine wpAnyH_take (i := 18) (v := ?v17) (by simp only [List.getElem?_toArray, List.getElem?_cons_zero, List.getElem?_cons_succ]; rfl) (by kernel_rfl) (by kernel_rfl) (by kernel_rfl) (fun _ _ _ h => h) (Or.inl ⟨by rfl, ?h17⟩) (by assumption) ?r17
    case h17 => (intro w hSw; (try dsimp only at hSw); go_simp; (try with_reducible rfl))
    try simp only [Act.put, List.setIfInBounds_toArray, List.set_cons_zero, List.set_cons_succ]
    refine wpAnyH_ready (rs := [2, 20]) (by kernel_rfl) (by simp) ?_
    refine AllReadyH.cons (by simp only [List.getElem?_toArray, List.getElem?_cons_zero, List.getElem?_cons_succ]; rfl) (fun K hK => ?_) ?_
    · go_simp
      (first | (go_at_call 86; refine (CloneRow_calls (base := base) g1 n c1 (fG es) _ (pw_own_below HGA.out ?hbR) HNE.out.2).mono ?_; (case hbR => (repeat (first | (with_reducible assumption) | (with_reducible exact Bw.refl _) | refine Bw.alloc ?_ _ | refine Bw.drew ?_))); rintro e w5 ⟨v5, rfl, ho5, hb5⟩; have hq5 : Bw W0 w5 := Bw.trans (by (repeat (first | (with_reducible assumption) | (with_reducible exact Bw.refl _) | refine Bw.alloc ?_ _ | refine Bw.drew ?_))) hb5; obtain ⟨g5, c5, rfl, _, _⟩ := ho5.form HNE.out.1; have HR5 := Aside0.mk (own_weaken (base' := W0.heap.size) ho5 (bsize (by (repeat (first | (with_reducible assumption) | (with_reducible exact Bw.refl _) | refine Bw.alloc ?_ _ | refine Bw.drew ?_))))); (try (have HP6 := Aside0.mk (pw_own_below HP6.out (Bw.trans (by (repeat (first | (with_reducible assumption) | (with_reducible exact Bw.refl _) | refine Bw.alloc ?_ _ | refine Bw.drew ?_))) hb5)))); (try (have HZ := Aside0.mk (HZ.out.bw (Bw.trans (by (repeat (first | (with_reducible assumption) | (with_reducible exact Bw.refl _) | refine Bw.alloc ?_ _ | refine Bw.drew ?_))) hb5)))); (try (with_reducible have HZ := Aside0.mk (zed hb5))); (try (with_reducible have HZ := Aside0.mk (zed' hb5))); (try (have hz9 := HZ.out; obtain ⟨⟨z0, z1, z2, z3, z4, z5, z6, z7⟩, ⟨z8, z9, z10, z11, z12, z13, z14, z15⟩, zf, zl⟩ := cen_cells hz9; clear hz9)); clear hb5 ho5) | (go_at_call 87; refine (CloneInt_calls (base := base) g2 m c2 (cP es) _ (pw_own_below HPA.out ?hbP) (Nat.le_trans HME.out.2 (by decide))).mono ?_; (case hbP => (repeat (first | (with_reducible assumption) | (with_reducible exact Bw.refl _) | refine Bw.alloc ?_ _ | refine Bw.drew ?_))); rintro e w6 ⟨v6, rfl, ho6, hb6⟩; have hq6 : Bw W0 w6 := Bw.trans (by (repeat (first | (with_reducible assumption) | (with_reducible exact Bw.refl _) | refine Bw.alloc ?_ _ | refine Bw.drew ?_))) hb6; obtain ⟨g6, c6, rfl, _, _⟩ := ho6.form HME.out.1; have HP6 := Aside0.mk (own_weaken (base' := W0.heap.size) ho6 (bsize (by (repeat (first | (with_reducible assumption) | (with_reducible exact Bw.refl _) | refine Bw.alloc ?_ _ | refine Bw.drew ?_))))); (try (have HR5 := Aside0.mk (pw_own_below HR5.out (Bw.trans (by (repeat (first | (with_reducible assumption) | (with_reducible exact Bw.refl _) | refine Bw.alloc ?_ _ | refine Bw.drew ?_))) hb6)))); (try (have HZ := Aside0.mk (HZ.out.bw (Bw.trans (by (repeat (first | (with_reducible assumption) | (with_reducible exact Bw.refl _) | refine Bw.alloc ?_ _ | refine Bw.drew ?_))) hb6)))); (try (with_reducible have HZ := Aside0.mk (zed hb6))); (try (with_reducible have HZ := Aside0.mk (zed' hb6))); (try (have hz9 := HZ.out; obtain ⟨⟨z0, z1, z2, z3, z4, z5, z6, z7⟩, ⟨z8, z9, z10, z11, z12, z13, z14, z15⟩, zf, zl⟩ := cen_cells hz9; clear hz9)); clear hb6 ho6))
      dsimp only
      refine hK.out _ _ ?_ (fun hHeld => ?_)
      · (refine (fun hb => ⟨hb, hb.kept a12, hb.kept a13, hb.kept a14, hb.kept a15, hb.kept b14, hb.kept b15⟩) ?_; (repeat (first | (with_reducible assumption) | (with_reducible exact Bw.refl W0) | (with_reducible refine Bw.alloc ?_ _) | (with_reducible refine Bw.setCell ?_ (by first | exact Nat.le_refl _ | exact hq5.size | exact hq6.size) _) | (with_reducible refine Bw.drew ?_))))
      clear hK K
      try simp only [Act.put, List.setIfInBounds_toArray, List.set_cons_zero, List.set_cons_succ]
      refine wpAnyH_ready (rs := [5, 20]) (by kernel_rfl) (by simp) ?_
      refine AllReadyH.cons (by simp only [List.getElem?_toArray, List.getElem?_cons_zero, List.getElem?_cons_succ]; rfl) (fun K hK => ?_) ?_
      · go_simp
        (first | (go_at_call 86; refine (CloneRow_calls (base := base) g1 n c1 (fG es) _ (pw_own_below HGA.out ?hbR) HNE.out.2).mono ?_; (case hbR => (repeat (first | (with_reducible assumption) | (with_reducible exact Bw.refl _) | refine Bw.alloc ?_ _ | refine Bw.drew ?_))); rintro e w5 ⟨v5, rfl, ho5, hb5⟩; have hq5 : Bw W0 w5 := Bw.trans (by (repeat (first | (with_reducible assumption) | (with_reducible exact Bw.refl _) | refine Bw.alloc ?_ _ | refine Bw.drew ?_))) hb5; obtain ⟨g5, c5, rfl, _, _⟩ := ho5.form HNE.out.1; have HR5 := Aside0.mk (own_weaken (base' := W0.heap.size) ho5 (bsize (by (repeat (first | (with_reducible assumption) | (with_reducible exact Bw.refl _) | refine Bw.alloc ?_ _ | refine Bw.drew ?_))))); (try (have HP6 := Aside0.mk (pw_own_below HP6.out (Bw.trans (by (repeat (first | (with_reducible assumption) | (with_reducible exact Bw.refl _) | refine Bw.alloc ?_ _ | refine Bw.drew ?_))) hb5)))); (try (have HZ := Aside0.mk (HZ.out.bw (Bw.trans (by (repeat (first | (with_reducible assumption) | (with_reducible exact Bw.refl _) | refine Bw.alloc ?_ _ | refine Bw.drew ?_))) hb5)))); (try (with_reducible have HZ := Aside0.mk (zed hb5))); (try (with_reducible have HZ := Aside0.mk (zed' hb5))); (try (have hz9 := HZ.out; obtain ⟨⟨z0, z1, z2, z3, z4, z5, z6, z7⟩, ⟨z8, z9, z10, z11, z12, z13, z14, z15⟩, zf, zl⟩ := cen_cells hz9; clear hz9)); clear hb5 ho5) | (go_at_call 87; refine (CloneInt_calls (base := base) g2 m c2 (cP es) _ (pw_own_below HPA.out ?hbP) (Nat.le_trans HME.out.2 (by decide))).mono ?_; (case hbP => (repeat (first | (with_reducible assumption) | (with_reducible exact Bw.refl _) | refine Bw.alloc ?_ _ | refine Bw.drew ?_))); rintro e w6 ⟨v6, rfl, ho6, hb6⟩; have hq6 : Bw W0 w6 := Bw.trans (by (repeat (first | (with_reducible assumption) | (with_reducible exact Bw.refl _) | refine Bw.alloc ?_ _ | refine Bw.drew ?_))) hb6; obtain ⟨g6, c6, rfl, _, _⟩ := ho6.form HME.out.1; have HP6 := Aside0.mk (own_weaken (base' := W0.heap.size) ho6 (bsize (by (repeat (first | (with_reducible assumption) | (with_reducible exact Bw.refl _) | refine Bw.alloc ?_ _ | refine Bw.drew ?_))))); (try (have HR5 := Aside0.mk (pw_own_below HR5.out (Bw.trans (by (repeat (first | (with_reducible assumption) | (with_reducible exact Bw.refl _) | refine Bw.alloc ?_ _ | refine Bw.drew ?_))) hb6)))); (try (have HZ := Aside0.mk (HZ.out.bw (Bw.trans (by (repeat (first | (with_reducible assumption) | (with_reducible exact Bw.refl _) | refine Bw.alloc ?_ _ | refine Bw.drew ?_))) hb6)))); (try (with_reducible have HZ := Aside0.mk (zed hb6))); (try (with_reducible have HZ := Aside0.mk (zed' hb6))); (try (have hz9 := HZ.out; obtain ⟨⟨z0, z1, z2, z3, z4, z5, z6, z7⟩, ⟨z8, z9, z10, z11, z12, z13, z14, z15⟩, zf, zl⟩ := cen_cells hz9; clear hz9)); clear hb6 ho6))
        dsimp only
        refine hK.out _ _ ?_ (fun hHeld => ?_)
        · (refine (fun hb => ⟨hb, hb.kept a12, hb.kept a13, hb.kept a14, hb.kept a15, hb.kept b14, hb.kept b15⟩) ?_; (repeat (first | (with_reducible assumption) | (with_reducible exact Bw.refl W0) | (with_reducible refine Bw.alloc ?_ _) | (with_reducible refine Bw.setCell ?_ (by first | exact Nat.le_refl _ | exact hq5.size | exact hq6.size) _) | (with_reducible refine Bw.drew ?_))))
        clear hK K
        try simp only [Act.put, List.setIfInBounds_toArray, List.set_cons_zero, List.set_cons_succ]
        refine wpAnyH_take (i := 19) (v := ?v18) (by simp only [List.getElem?_toArray, List.getElem?_cons_zero, List.getElem?_cons_succ]; rfl) (by kernel_rfl) (by kernel_rfl) (by kernel_rfl) (fun _ _ _ h => h) (Or.inl ⟨by rfl, ?h18⟩) (by assumption) ?r18
        case h18 => (intro w hSw; (try dsimp only at hSw); go_simp; (try with_reducible rfl))
        try simp only [Act.put, List.setIfInBounds_toArray, List.set_cons_zero, List.set_cons_succ]
        refine wpAnyH_ready (rs := [20]) (by kernel_rfl) (by simp) ?_
        refine AllReadyH.cons (by simp only [List.getElem?_toArray, List.getElem?_cons_zero, List.getElem?_cons_succ]; rfl) (fun K hK => ?_) ?_
        · go_simp
          refine hK.out _ _ ?_ (fun hHeld => ?_)
          · (refine (fun hb => ⟨hb, hb.kept a12, hb.kept a13, hb.kept a14, hb.kept a15, hb.kept b14, hb.kept b15⟩) ?_; (repeat (first | (with_reducible assumption) | (with_reducible exact Bw.refl W0) | (with_reducible refine Bw.alloc ?_ _) | (with_reducible refine Bw.setCell ?_ (by first | exact Nat.le_refl _ | exact hq5.size | exact hq6.size) _) | (with_reducible refine Bw.drew ?_))))
          clear hK K
          try simp only [Act.put, List.setIfInBounds_toArray, List.set_cons_zero, List.set_cons_succ]
          refine wpAnyH_ready (rs := [21]) (by kernel_rfl) (by simp) ?_
          refine AllReadyH.cons (by simp only [List.getElem?_toArray, List.getElem?_cons_zero, List.getElem?_cons_succ]; rfl) (fun K hK => ?_) ?_
          · go_simp
            refine hK.out _ _ ?_ (fun hHeld => ?_)
            · (refine (fun hb => ⟨hb, hb.kept a12, hb.kept a13, hb.kept a14, hb.kept a15, hb.kept b14, hb.kept b15⟩) ?_; (repeat (first | (with_reducible assumption) | (with_reducible exact Bw.refl W0) | (with_reducible refine Bw.alloc ?_ _) | (with_reducible refine Bw.setCell ?_ (by first | exact Nat.le_refl _ | exact hq5.size | exact hq6.size) _) | (with_reducible refine Bw.drew ?_))))
            clear hK K
            try simp only [Act.put, List.setIfInBounds_toArray, List.set_cons_zero, List.set_cons_succ]
            refine wpAnyH_done (by kernel_rfl) ?_ _
            refine NoPanic.normal ?_
            go_wp2_with fail
            go_meet
            case rel =>
              have h := cen_alloc (mx := mx) (nw := cNow es + cNow fs) hq6 HR5.out HP6.out
              refine ⟨w6.heap.size, g5, c5, g6, c6, ?_, ?_, ?_⟩
              · with_reducible rfl
              · constructor
                with_reducible exact h
              · constructor
                with_reducible exact hq6.alloc _
          with_reducible exact AllReadyH.nil
        with_reducible exact AllReadyH.nil
      refine AllReadyH.cons (by simp only [List.getElem?_toArray, List.getElem?_cons_zero, List.getElem?_cons_succ]; rfl) (fun K hK => ?_) ?_
      · go_simp
        refine hK.out _ _ ?_ (fun hHeld => ?_)
        · (refine (fun hb => ⟨hb, hb.kept a12, hb.kept a13, hb.kept a14, hb.kept a15, hb.kept b14, hb.kept b15⟩) ?_; (repeat (first | (with_reducible assumption) | (with_reducible exact Bw.refl W0) | (with_reducible refine Bw.alloc ?_ _) | (with_reducible refine Bw.setCell ?_ (by first | exact Nat.le_refl _ | exact hq5.size | exact hq6.size) _) | (with_reducible refine Bw.drew ?_))))
        clear hK K
        try simp only [Act.put, List.setIfInBounds_toArray, List.set_cons_zero, List.set_cons_succ]
        refine wpAnyH_ready (rs := [5]) (by kernel_rfl) (by simp) ?_
        refine AllReadyH.cons (by simp only [List.getElem?_toArray, List.getElem?_cons_zero, List.getElem?_cons_succ]; rfl) (fun K hK => ?_) ?_
        · go_simp
          (first | (go_at_call 86; refine (CloneRow_calls (base := base) g1 n c1 (fG es) _ (pw_own_below HGA.out ?hbR) HNE.out.2).mono ?_; (case hbR => (repeat (first | (with_reducible assumption) | (with_reducible exact Bw.refl _) | refine Bw.alloc ?_ _ | refine Bw.drew ?_))); rintro e w5 ⟨v5, rfl, ho5, hb5⟩; have hq5 : Bw W0 w5 := Bw.trans (by (repeat (first | (with_reducible assumption) | (with_reducible exact Bw.refl _) | refine Bw.alloc ?_ _ | refine Bw.drew ?_))) hb5; obtain ⟨g5, c5, rfl, _, _⟩ := ho5.form HNE.out.1; have HR5 := Aside0.mk (own_weaken (base' := W0.heap.size) ho5 (bsize (by (repeat (first | (with_reducible assumption) | (with_reducible exact Bw.refl _) | refine Bw.alloc ?_ _ | refine Bw.drew ?_))))); (try (have HP6 := Aside0.mk (pw_own_below HP6.out (Bw.trans (by (repeat (first | (with_reducible assumption) | (with_reducible exact Bw.refl _) | refine Bw.alloc ?_ _ | refine Bw.drew ?_))) hb5)))); (try (have HZ := Aside0.mk (HZ.out.bw (Bw.trans (by (repeat (first | (with_reducible assumption) | (with_reducible exact Bw.refl _) | refine Bw.alloc ?_ _ | refine Bw.drew ?_))) hb5)))); (try (with_reducible have HZ := Aside0.mk (zed hb5))); (try (with_reducible have HZ := Aside0.mk (zed' hb5))); (try (have hz9 := HZ.out; obtain ⟨⟨z0, z1, z2, z3, z4, z5, z6, z7⟩, ⟨z8, z9, z10, z11, z12, z13, z14, z15⟩, zf, zl⟩ := cen_cells hz9; clear hz9)); clear hb5 ho5) | (go_at_call 87; refine (CloneInt_calls (base := base) g2 m c2 (cP es) _ (pw_own_below HPA.out ?hbP) (Nat.le_trans HME.out.2 (by decide))).mono ?_; (case hbP => (repeat (first | (with_reducible assumption) | (with_reducible exact Bw.refl _) | refine Bw.alloc ?_ _ | refine Bw.drew ?_))); rintro e w6 ⟨v6, rfl, ho6, hb6⟩; have hq6 : Bw W0 w6 := Bw.trans (by (repeat (first | (with_reducible assumption) | (with_reducible exact Bw.refl _) | refine Bw.alloc ?_ _ | refine Bw.drew ?_))) hb6; obtain ⟨g6, c6, rfl, _, _⟩ := ho6.form HME.out.1; have HP6 := Aside0.mk (own_weaken (base' := W0.heap.size) ho6 (bsize (by (repeat (first | (with_reducible assumption) | (with_reducible exact Bw.refl _) | refine Bw.alloc ?_ _ | refine Bw.drew ?_))))); (try (have HR5 := Aside0.mk (pw_own_below HR5.out (Bw.trans (by (repeat (first | (with_reducible assumption) | (with_reducible exact Bw.refl _) | refine Bw.alloc ?_ _ | refine Bw.drew ?_))) hb6)))); (try (have HZ := Aside0.mk (HZ.out.bw (Bw.trans (by (repeat (first | (with_reducible assumption) | (with_reducible exact Bw.refl _) | refine Bw.alloc ?_ _ | refine Bw.drew ?_))) hb6)))); (try (with_reducible have HZ := Aside0.mk (zed hb6))); (try (with_reducible have HZ := Aside0.mk (zed' hb6))); (try (have hz9 := HZ.out; obtain ⟨⟨z0, z1, z2, z3, z4, z5, z6, z7⟩, ⟨z8, z9, z10, z11, z12, z13, z14, z15⟩, zf, zl⟩ := cen_cells hz9; clear hz9)); clear hb6 ho6))
          dsimp only
          refine hK.out _ _ ?_ (fun hHeld => ?_)
          · (refine (fun hb => ⟨hb, hb.kept a12, hb.kept a13, hb.kept a14, hb.kept a15, hb.kept b14, hb.kept b15⟩) ?_; (repeat (first | (with_reducible assumption) | (with_reducible exact Bw.refl W0) | (with_reducible refine Bw.alloc ?_ _) | (with_reducible refine Bw.setCell ?_ (by first | exact Nat.le_refl _ | exact hq5.size | exact hq6.size) _) | (with_reducible refine Bw.drew ?_))))
          clear hK K
          try simp only [Act.put, List.setIfInBounds_toArray, List.set_cons_zero, List.set_cons_succ]
          refine wpAnyH_take (i := 19) (v := ?v19) (by simp only [List.getElem?_toArray, List.getElem?_cons_zero, List.getElem?_cons_succ]; rfl) (by kernel_rfl) (by kernel_rfl) (by kernel_rfl) (fun _ _ _ h => h) (Or.inl ⟨by rfl, ?h19⟩) (by assumption) ?r19
          case h19 => (intro w hSw; (try dsimp only at hSw); go_simp; (try with_reducible rfl))
          try simp only [Act.put, List.setIfInBounds_toArray, List.set_cons_zero, List.set_cons_succ]
          refine wpAnyH_ready (rs := [21]) (by kernel_rfl) (by simp) ?_
          refine AllReadyH.cons (by simp only [List.getElem?_toArray, List.getElem?_cons_zero, List.getElem?_cons_succ]; rfl) (fun K hK => ?_) ?_
          · go_simp
            refine hK.out _ _ ?_ (fun hHeld => ?_)
            · (refine (fun hb => ⟨hb, hb.kept a12, hb.kept a13, hb.kept a14, hb.kept a15, hb.kept b14, hb.kept b15⟩) ?_; (repeat (first | (with_reducible assumption) | (with_reducible exact Bw.refl W0) | (with_reducible refine Bw.alloc ?_ _) | (with_reducible refine Bw.setCell ?_ (by first | exact Nat.le_refl _ | exact hq5.size | exact hq6.size) _) | (with_reducible refine Bw.drew ?_))))
            clear hK K
            try simp only [Act.put, List.setIfInBounds_toArray, List.set_cons_zero, List.set_cons_succ]
            refine wpAnyH_done (by kernel_rfl) ?_ _
            refine NoPanic.normal ?_
            go_wp2_with fail
            go_meet
            case rel =>
              have h := cen_store (mx := mx) (nw := cNow es + cNow fs) (b := w5.heap.size) hq5.size hq6 HZ.out HR5.out HP6.out
              refine ⟨w5.heap.size, g5, c5, g6, c6, ?_, ?_, ?_⟩
              · with_reducible rfl
              · constructor
                with_reducible exact h.1
              · constructor
                with_reducible exact h.2
          with_reducible exact AllReadyH.nil
        with_reducible exact AllReadyH.nil
      with_reducible exact AllReadyH.nil
    refine AllReadyH.cons (by simp only [List.getElem?_toArray, List.getElem?_cons_zero, List.getElem?_cons_succ]; rfl) (fun K hK => ?_) ?_
    · go_simp
      refine hK.out _ _ ?_ (fun hHeld => ?_)
      · (refine (fun hb => ⟨hb, hb.kept a12, hb.kept a13, hb.kept a14, hb.kept a15, hb.kept b14, hb.kept b15⟩) ?_; (repeat (first | (with_reducible assumption) | (with_reducible exact Bw.refl W0) | (with_reducible refine Bw.alloc ?_ _) | (with_reducible refine Bw.setCell ?_ (by first | exact Nat.le_refl _ | exact hq5.size | exact hq6.size) _) | (with_reducible refine Bw.drew ?_))))
      clear hK K
      try simp only [Act.put, List.setIfInBounds_toArray, List.set_cons_zero, List.set_cons_succ]
      refine wpAnyH_ready (rs := [2]) (by kernel_rfl) (by simp) ?_
      refine AllReadyH.cons (by simp only [List.getElem?_toArray, List.getElem?_cons_zero, List.getElem?_cons_succ]; rfl) (fun K hK => ?_) ?_
      · go_simp
        (first | (go_at_call 86; refine (CloneRow_calls (base := base) g1 n c1 (fG es) _ (pw_own_below HGA.out ?hbR) HNE.out.2).mono ?_; (case hbR => (repeat (first | (with_reducible assumption) | (with_reducible exact Bw.refl _) | refine Bw.alloc ?_ _ | refine Bw.drew ?_))); rintro e w5 ⟨v5, rfl, ho5, hb5⟩; have hq5 : Bw W0 w5 := Bw.trans (by (repeat (first | (with_reducible assumption) | (with_reducible exact Bw.refl _) | refine Bw.alloc ?_ _ | refine Bw.drew ?_))) hb5; obtain ⟨g5, c5, rfl, _, _⟩ := ho5.form HNE.out.1; have HR5 := Aside0.mk (own_weaken (base' := W0.heap.size) ho5 (bsize (by (repeat (first | (with_reducible assumption) | (with_reducible exact Bw.refl _) | refine Bw.alloc ?_ _ | refine Bw.drew ?_))))); (try (have HP6 := Aside0.mk (pw_own_below HP6.out (Bw.trans (by (repeat (first | (with_reducible assumption) | (with_reducible exact Bw.refl _) | refine Bw.alloc ?_ _ | refine Bw.drew ?_))) hb5)))); (try (have HZ := Aside0.mk (HZ.out.bw (Bw.trans (by (repeat (first | (with_reducible assumption) | (with_reducible exact Bw.refl _) | refine Bw.alloc ?_ _ | refine Bw.drew ?_))) hb5)))); (try (with_reducible have HZ := Aside0.mk (zed hb5))); (try (with_reducible have HZ := Aside0.mk (zed' hb5))); (try (have hz9 := HZ.out; obtain ⟨⟨z0, z1, z2, z3, z4, z5, z6, z7⟩, ⟨z8, z9, z10, z11, z12, z13, z14, z15⟩, zf, zl⟩ := cen_cells hz9; clear hz9)); clear hb5 ho5) | (go_at_call 87; refine (CloneInt_calls (base := base) g2 m c2 (cP es) _ (pw_own_below HPA.out ?hbP) (Nat.le_trans HME.out.2 (by decide))).mono ?_; (case hbP => (repeat (first | (with_reducible assumption) | (with_reducible exact Bw.refl _) | refine Bw.alloc ?_ _ | refine Bw.drew ?_))); rintro e w6 ⟨v6, rfl, ho6, hb6⟩; have hq6 : Bw W0 w6 := Bw.trans (by (repeat (first | (with_reducible assumption) | (with_reducible exact Bw.refl _) | refine Bw.alloc ?_ _ | refine Bw.drew ?_))) hb6; obtain ⟨g6, c6, rfl, _, _⟩ := ho6.form HME.out.1; have HP6 := Aside0.mk (own_weaken (base' := W0.heap.size) ho6 (bsize (by (repeat (first | (with_reducible assumption) | (with_reducible exact Bw.refl _) | refine Bw.alloc ?_ _ | refine Bw.drew ?_))))); (try (have HR5 := Aside0.mk (pw_own_below HR5.out (Bw.trans (by (repeat (first | (with_reducible assumption) | (with_reducible exact Bw.refl _) | refine Bw.alloc ?_ _ | refine Bw.drew ?_))) hb6)))); (try (have HZ := Aside0.mk (HZ.out.bw (Bw.trans (by (repeat (first | (with_reducible assumption) | (with_reducible exact Bw.refl _) | refine Bw.alloc ?_ _ | refine Bw.drew ?_))) hb6)))); (try (with_reducible have HZ := Aside0.mk (zed hb6))); (try (with_reducible have HZ := Aside0.mk (zed' hb6))); (try (have hz9 := HZ.out; obtain ⟨⟨z0, z1, z2, z3, z4, z5, z6, z7⟩, ⟨z8, z9, z10, z11, z12, z13, z14, z15⟩, zf, zl⟩ := cen_cells hz9; clear hz9)); clear hb6 ho6))
        dsimp only
        refine hK.out _ _ ?_ (fun hHeld => ?_)
        · (refine (fun hb => ⟨hb, hb.kept a12, hb.kept a13, hb.kept a14, hb.kept a15, hb.kept b14, hb.kept b15⟩) ?_; (repeat (first | (with_reducible assumption) | (with_reducible exact Bw.refl W0) | (with_reducible refine Bw.alloc ?_ _) | (with_reducible refine Bw.setCell ?_ (by first | exact Nat.le_refl _ | exact hq5.size | exact hq6.size) _) | (with_reducible refine Bw.drew ?_))))
        clear hK K
        try simp only [Act.put, List.setIfInBounds_toArray, List.set_cons_zero, List.set_cons_succ]
        refine wpAnyH_ready (rs := [5]) (by kernel_rfl) (by simp) ?_
        refine AllReadyH.cons (by simp only [List.getElem?_toArray, List.getElem?_cons_zero, List.getElem?_cons_succ]; rfl) (fun K hK => ?_) ?_
        · go_simp
          (first | (go_at_call 86; refine (CloneRow_calls (base := base) g1 n c1 (fG es) _ (pw_own_below HGA.out ?hbR) HNE.out.2).mono ?_; (case hbR => (repeat (first | (with_reducible assumption) | (with_reducible exact Bw.refl _) | refine Bw.alloc ?_ _ | refine Bw.drew ?_))); rintro e w5 ⟨v5, rfl, ho5, hb5⟩; have hq5 : Bw W0 w5 := Bw.trans (by (repeat (first | (with_reducible assumption) | (with_reducible exact Bw.refl _) | refine Bw.alloc ?_ _ | refine Bw.drew ?_))) hb5; obtain ⟨g5, c5, rfl, _, _⟩ := ho5.form HNE.out.1; have HR5 := Aside0.mk (own_weaken (base' := W0.heap.size) ho5 (bsize (by (repeat (first | (with_reducible assumption) | (with_reducible exact Bw.refl _) | refine Bw.alloc ?_ _ | refine Bw.drew ?_))))); (try (have HP6 := Aside0.mk (pw_own_below HP6.out (Bw.trans (by (repeat (first | (with_reducible assumption) | (with_reducible exact Bw.refl _) | refine Bw.alloc ?_ _ | refine Bw.drew ?_))) hb5)))); (try (have HZ := Aside0.mk (HZ.out.bw (Bw.trans (by (repeat (first | (with_reducible assumption) | (with_reducible exact Bw.refl _) | refine Bw.alloc ?_ _ | refine Bw.drew ?_))) hb5)))); (try (with_reducible have HZ := Aside0.mk (zed hb5))); (try (with_reducible have HZ := Aside0.mk (zed' hb5))); (try (have hz9 := HZ.out; obtain ⟨⟨z0, z1, z2, z3, z4, z5, z6, z7⟩, ⟨z8, z9, z10, z11, z12, z13, z14, z15⟩, zf, zl⟩ := cen_cells hz9; clear hz9)); clear hb5 ho5) | (go_at_call 87; refine (CloneInt_calls (base := base) g2 m c2 (cP es) _ (pw_own_below HPA.out ?hbP) (Nat.le_trans HME.out.2 (by decide))).mono ?_; (case hbP => (repeat (first | (with_reducible assumption) | (with_reducible exact Bw.refl _) | refine Bw.alloc ?_ _ | refine Bw.drew ?_))); rintro e w6 ⟨v6, rfl, ho6, hb6⟩; have hq6 : Bw W0 w6 := Bw.trans (by (repeat (first | (with_reducible assumption) | (with_reducible exact Bw.refl _) | refine Bw.alloc ?_ _ | refine Bw.drew ?_))) hb6; obtain ⟨g6, c6, rfl, _, _⟩ := ho6.form HME.out.1; have HP6 := Aside0.mk (own_weaken (base' := W0.heap.size) ho6 (bsize (by (repeat (first | (with_reducible assumption) | (with_reducible exact Bw.refl _) | refine Bw.alloc ?_ _ | refine Bw.drew ?_))))); (try (have HR5 := Aside0.mk (pw_own_below HR5.out (Bw.trans (by (repeat (first | (with_reducible assumption) | (with_reducible exact Bw.refl _) | refine Bw.alloc ?_ _ | refine Bw.drew ?_))) hb6)))); (try (have HZ := Aside0.mk (HZ.out.bw (Bw.trans (by (repeat (first | (with_reducible assumption) | (with_reducible exact Bw.refl _) | refine Bw.alloc ?_ _ | refine Bw.drew ?_))) hb6)))); (try (with_reducible have HZ := Aside0.mk (zed hb6))); (try (with_reducible have HZ := Aside0.mk (zed' hb6))); (try (have hz9 := HZ.out; obtain ⟨⟨z0, z1, z2, z3, z4, z5, z6, z7⟩, ⟨z8, z9, z10, z11, z12, z13, z14, z15⟩, zf, zl⟩ := cen_cells hz9; clear hz9)); clear hb6 ho6))
          dsimp only
          refine hK.out _ _ ?_ (fun hHeld => ?_)
          · (refine (fun hb => ⟨hb, hb.kept a12, hb.kept a13, hb.kept a14, hb.kept a15, hb.kept b14, hb.kept b15⟩) ?_; (repeat (first | (with_reducible assumption) | (with_reducible exact Bw.refl W0) | (with_reducible refine Bw.alloc ?_ _) | (with_reducible refine Bw.setCell ?_ (by first | exact Nat.le_refl _ | exact hq5.size | exact hq6.size) _) | (with_reducible refine Bw.drew ?_))))
          clear hK K
          try simp only [Act.put, List.setIfInBounds_toArray, List.set_cons_zero, List.set_cons_succ]
          refine wpAnyH_take (i := 19) (v := ?v20) (by simp only [List.getElem?_toArray, List.getElem?_cons_zero, List.getElem?_cons_succ]; rfl) (by kernel_rfl) (by kernel_rfl) (by kernel_rfl) (fun _ _ _ h => h) (Or.inl ⟨by rfl, ?h20⟩) (by assumption) ?r20
          case h20 => (intro w hSw; (try dsimp only at hSw); go_simp; (try with_reducible rfl))
          try simp only [Act.put, List.setIfInBounds_toArray, List.set_cons_zero, List.set_cons_succ]
          refine wpAnyH_ready (rs := [21]) (by kernel_rfl) (by simp) ?_
          refine AllReadyH.cons (by simp only [List.getElem?_toArray, List.getElem?_cons_zero, List.getElem?_cons_succ]; rfl) (fun K hK => ?_) ?_
          · go_simp
            refine hK.out _ _ ?_ (fun hHeld => ?_)
            · (refine (fun hb => ⟨hb, hb.kept a12, hb.kept a13, hb.kept a14, hb.kept a15, hb.kept b14, hb.kept b15⟩) ?_; (repeat (first | (with_reducible assumption) | (with_reducible exact Bw.refl W0) | (with_reducible refine Bw.alloc ?_ _) | (with_reducible refine Bw.setCell ?_ (by first | exact Nat.le_refl _ | exact hq5.size | exact hq6.size) _) | (with_reducible refine Bw.drew ?_))))
            clear hK K
            try simp only [Act.put, List.setIfInBounds_toArray, List.set_cons_zero, List.set_cons_succ]
            refine wpAnyH_done (by kernel_rfl) ?_ _
            refine NoPanic.normal ?_
            go_wp2_with fail
            go_meet
            case rel =>
              have h := cen_store (mx := mx) (nw := cNow es + cNow fs) (b := W0.heap.size) (Nat.le_refl _) hq6 HZ.out HR5.out HP6.out
              refine ⟨W0.heap.size, g5, c5, g6, c6, ?_, ?_, ?_⟩
              · with_reducible rfl
              · constructor
                with_reducible exact h.1
              · constructor
                with_reducible exact h.2
          with_reducible exact AllReadyH.nil
        with_reducible exact AllReadyH.nil
      with_reducible exact AllReadyH.nil
    with_reducible exact AllReadyH.nil
  case rest =>
    obtain ⟨b, g5, c5, g6, c6, rfl, HC, HBc⟩ := hcut
    rename_i hK
    exact hK _ _ (Add_tail es fs n m g1 c1 g2 c2 g3 c3 g4 c4 w W0 wc b g5 c5 g6 c6 T0 T1 mx _ _ _ _ _ _ _ _ _ _ _ _ _ _ _ _ _ _ _ _ HW0 HL1 HL2 HGB HPB HL3 HLE HNE HME r1 r2 hmx HC HBc)
end Go.Proofs.Ytclippikdfcgkaa.M
