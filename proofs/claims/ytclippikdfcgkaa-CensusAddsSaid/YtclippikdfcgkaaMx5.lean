/- Package census: what Of answers. Conditions: no more than a million events. -/
import Derived.Test.YtclippikdfcgkaaMx4
import Derived.Deep.RegionHeld3
namespace Go.Proofs.Ytclippikdfcgkaa.M
open Go.RowKit Go.Proofs.YtclippikdfcgkaaW.PrintWords Go.Proofs.YtclippikdfcgkaaW.PrintLast Go.Proofs.YtclippikdfcgkaaW.PrintMore
set_option linter.unusedVariables false
set_option linter.unusedSimpArgs false
theorem infoRow : (Try.prog.info? 141).map (fun i => (i.zero, i.size, i.bytes)) = some (some (.agg #[.int .i64 0, .int .i64 0, .int .i64 0]), 3, 24) := by kernel_rfl
theorem infoInt : (Try.prog.info? 3).map (fun i => (i.zero, i.size, i.bytes)) = some (some (.int .i64 0), 1, 8) := by kernel_rfl

theorem made3 (k : Nat) : (madeCells #[Value.int .i64 0, .int .i64 0, .int .i64 0] k).toList = tabV k (fun _ => 0) := by
  apply List.ext_getElem?
  intro j
  rcases Nat.lt_or_ge j k with hj | hj
  · rw [tabV_get k _ j hj]
    have : j % 3 = 0 ∨ j % 3 = 1 ∨ j % 3 = 2 := by omega
    rcases this with h | h | h <;> simp [madeCells, hj, h]
  · rw [List.getElem?_eq_none (by simp [size_madeCells]; omega), List.getElem?_eq_none (by rw [tabV_len]; omega)]
theorem made1 (k : Nat) : (madeCells #[Value.int .i64 0] k).toList = tabV k (fun _ => 0) := by
  apply List.ext_getElem?
  intro j
  rcases Nat.lt_or_ge j k with hj | hj
  · rw [tabV_get k _ j hj]
    simp [madeCells, hj, Nat.mod_one]
  · rw [List.getElem?_eq_none (by simp [size_madeCells]; omega), List.getElem?_eq_none (by rw [tabV_len]; omega)]
theorem make_rows (n : Nat) (hn : n ≤ 65536) (W : World) : (Instr.makeSlice 28 (.int .i64 (n : Int)) (.int .i64 (n : Int))).run Try.prog W = .ok (.slice (some ⟨W.heap.size, 0, none⟩) n n) (W.alloc (.cells (madeCells #[.int .i64 0, .int .i64 0, .int .i64 0] (n * 3)) 141)) := by
  obtain ⟨i, hi, hzz⟩ := Option.map_eq_some_iff.1 infoRow
  simp only [Prod.mk.injEq] at hzz
  obtain ⟨hz, hs, hb⟩ := hzz
  have := run_make (P := Try.prog) W 28 141 i _ Try.underlying28 hi hz .i64 .i64 (n : Int) (n : Int) (by omega) (Int.le_refl _) (by rw [hb]; omega) (by omega)
  simpa [hs, Value.cells] using this

theorem make_ints (n : Nat) (hn : n ≤ 65536) (W : World) : (Instr.makeSlice 29 (.int .i64 (n : Int)) (.int .i64 (n : Int))).run Try.prog W = .ok (.slice (some ⟨W.heap.size, 0, none⟩) n n) (W.alloc (.cells (madeCells #[.int .i64 0] n) 3)) :=
  print_make (P := Try.prog) 29 3 .i64 8 Try.underlying29 infoInt (by omega) n (by omega) W

theorem IsCen.ge {w : World} {base b g1 c1 g2 c2 n m : Nat} {fK fg fP : Int → Int} {most now : Int} (h : IsCen w base b g1 c1 g2 c2 n m fK fg fP most now) : ∀ i, CenF b g1 g2 i → base ≤ i := by
  rintro i (rfl | rfl | rfl)
  · exact h.le
  · exact own_base h.gs _ rfl
  · exact own_base h.ps _ rfl
theorem IsCen.lower {w : World} {base base' b g1 c1 g2 c2 n m : Nat} {fK fg fP : Int → Int} {most now : Int} (h : IsCen w base b g1 c1 g2 c2 n m fK fg fP most now) (hb : base' ≤ base) : IsCen w base' b g1 c1 g2 c2 n m fK fg fP most now :=
  ⟨Nat.le_trans hb h.le, h.blk, own_weaken h.gs hb, own_weaken h.ps hb⟩
theorem IsCen.chg {w w1 : World} {base b g1 c1 g2 c2 n m : Nat} {fK fg fP : Int → Int} {most now : Int} {S : Nat → Prop} (h : IsCen w base b g1 c1 g2 c2 n m fK fg fP most now) (hc : Chg S w w1) (hd : ∀ i, CenF b g1 g2 i → ¬ S i) : IsCen w1 base b g1 c1 g2 c2 n m fK fg fP most now :=
  ⟨h.le, h.blk.of_block (hc.block b h.blk.lt (hd b (.inl rfl))), own_of_block h.gs (fun k hk => hc.block k (own_lt h.gs k hk) (hd k (.inr (.inl (Option.some.inj hk).symm)))), own_of_block h.ps (fun k hk => hc.block k (own_lt h.ps k hk) (hd k (.inr (.inr (Option.some.inj hk).symm))))⟩
theorem IsCen.cells {w : World} {base b g1 c1 g2 c2 n m : Nat} {fK fg fP : Int → Int} {most now : Int} (h : IsCen w base b g1 c1 g2 c2 n m fK fg fP most now) :
    w.cell? ⟨b, 0, none⟩ = some (.int .i64 (fK 0)) ∧ w.cell? ⟨b, 1, none⟩ = some (.int .i64 (fK 1)) ∧ w.cell? ⟨b, 2, none⟩ = some (.int .i64 (fK 2)) ∧ w.cell? ⟨b, 3, none⟩ = some (.int .i64 (fK 3)) ∧ w.cell? ⟨b, 4, none⟩ = some (.int .i64 (fK 4)) ∧ w.cell? ⟨b, 5, none⟩ = some (.int .i64 (fK 5)) ∧ w.cell? ⟨b, 6, none⟩ = some (.int .i64 (fK 6)) ∧ w.cell? ⟨b, 7, none⟩ = some (.int .i64 (fK 7))
    ∧ w.cell? ⟨b, 8, none⟩ = some (.int .i64 (fK 8)) ∧ w.cell? ⟨b, 9, none⟩ = some (.int .i64 (fK 9)) ∧ w.cell? ⟨b, 10, none⟩ = some (.int .i64 (fK 10)) ∧ w.cell? ⟨b, 11, none⟩ = some (.int .i64 (fK 11)) ∧ w.cell? ⟨b, 12, none⟩ = some (.slice (some ⟨g1, 0, none⟩) n c1) ∧ w.cell? ⟨b, 13, none⟩ = some (.slice (some ⟨g2, 0, none⟩) m c2) ∧ w.cell? ⟨b, 14, none⟩ = some (.int .i64 most) ∧ w.cell? ⟨b, 15, none⟩ = some (.int .i64 now) :=
  ⟨h.blk.cell 0 _ rfl, h.blk.cell 1 _ rfl, h.blk.cell 2 _ rfl, h.blk.cell 3 _ rfl, h.blk.cell 4 _ rfl, h.blk.cell 5 _ rfl, h.blk.cell 6 _ rfl, h.blk.cell 7 _ rfl, h.blk.cell 8 _ rfl, h.blk.cell 9 _ rfl, h.blk.cell 10 _ rfl, h.blk.cell 11 _ rfl, h.cg, h.cp, h.cm, h.cn⟩
theorem own_heap3 (W1 W : World) (n : Nat) (hn : n ≤ 65536) (g : Nat) (hg : W1.heap.size ≤ g) (h : W.heap[g]? = some (.cells (madeCells #[.int .i64 0, .int .i64 0, .int .i64 0] (n * 3)) 141 (0, 0))) : W.ownsRow W1.heap.size 141 3 (.slice (some ⟨g, 0, none⟩) n n) n (tabV (n * 3) (fG [])) := by
  have e : tabV (n * 3) (fG []) = (madeCells #[Value.int .i64 0, .int .i64 0, .int .i64 0] (n * 3)).toList := (made3 _).symm
  rw [e]
  exact ⟨by simp [size_madeCells], .inr ⟨g, n, _, rfl, hg, h, Nat.le_refl _, by simp [maxLen]; omega, by simp [size_madeCells], by rw [List.take_of_length_le (by simp [size_madeCells])]⟩⟩
theorem own_heap1 (W1 W : World) (n : Nat) (hn : n ≤ 65536) (g : Nat) (hg : W1.heap.size ≤ g) (h : W.heap[g]? = some (.cells (madeCells #[.int .i64 0] n) 3 (0, 0))) : W.ownsRow W1.heap.size 3 1 (.slice (some ⟨g, 0, none⟩) n n) n (tabV n (cP [])) := by
  have e : tabV n (cP []) = (madeCells #[Value.int .i64 0] n).toList := (made1 _).symm
  rw [e]
  exact ⟨by simp [size_madeCells], .inr ⟨g, n, _, rfl, hg, h, Nat.le_refl _, by simp [maxLen]; omega, by simp [size_madeCells], by rw [List.take_of_length_le (by simp [size_madeCells])]⟩⟩
theorem cenC_nil (vg vp : Value) : cenC (cK []) vg vp (cMost []) (cNow []) = #[.int .i64 0, .int .i64 0, .int .i64 0, .int .i64 0, .int .i64 0, .int .i64 0, .int .i64 0, .int .i64 0, .int .i64 0, .int .i64 0, .int .i64 0, .int .i64 0, vg, vp, .int .i64 0, .int .i64 0] := rfl
theorem look3 (W1 : World) (o1 o2 o3 : Obj) : (((W1.alloc o1).alloc o2).alloc o3).drew.heap[W1.heap.size]? = some o1 ∧ (((W1.alloc o1).alloc o2).alloc o3).drew.heap[W1.heap.size + 1]? = some o2 ∧ (((W1.alloc o1).alloc o2).alloc o3).drew.heap[W1.heap.size + 1 + 1]? = some o3 := by
  show (((W1.heap.push o1).push o2).push o3)[W1.heap.size]? = some o1 ∧ (((W1.heap.push o1).push o2).push o3)[W1.heap.size + 1]? = some o2 ∧ (((W1.heap.push o1).push o2).push o3)[W1.heap.size + 1 + 1]? = some o3
  refine ⟨?_, ?_, ?_⟩
  · rw [Array.getElem?_push, if_neg (by simp; omega), Array.getElem?_push, if_neg (by simp), Array.getElem?_push, if_pos rfl]
  · rw [Array.getElem?_push, if_neg (by simp), Array.getElem?_push, if_pos (by simp)]
  · rw [Array.getElem?_push, if_pos (by simp)]
theorem of_start (W1 W : World) (m n : Nat) (hm : m ≤ 64) (hn : n ≤ 65536) (b g1 g2 : Nat) {v : Value} (hv : v = .pointer (some ⟨b, 0, none⟩)) (h1 : W1.heap.size ≤ b) (h2 : W1.heap.size ≤ g1) (h3 : W1.heap.size ≤ g2)
    (k1 : W.heap[b]? = some (.cells #[.int .i64 0, .int .i64 0, .int .i64 0, .int .i64 0, .int .i64 0, .int .i64 0, .int .i64 0, .int .i64 0, .int .i64 0, .int .i64 0, .int .i64 0, .int .i64 0, .slice (some ⟨g1, 0, none⟩) n n, .slice (some ⟨g2, 0, none⟩) m m, .int .i64 0, .int .i64 0] 31 (0, 0)))
    (k2 : W.heap[g1]? = some (.cells (madeCells #[.int .i64 0, .int .i64 0, .int .i64 0] (n * 3)) 141 (0, 0))) (k3 : W.heap[g2]? = some (.cells (madeCells #[.int .i64 0] m) 3 (0, 0))) (hbw : Bw W1 W) :
    ∃ b g1 g2, v = .pointer (some ⟨b, 0, none⟩) ∧ Aside0 (IsCen W W1.heap.size b g1 n g2 m n m (cK []) (fG []) (cP []) (cMost []) (cNow [])) ∧ Aside0 (Bw W1 W) :=
  ⟨b, g1, g2, hv, ⟨⟨h1, k1, own_heap3 W1 W n hn g1 h2 k2, own_heap1 W1 W m (by omega) g2 h3 k3⟩⟩, ⟨hbw⟩⟩
set_option maxRecDepth 100000 in
set_option maxHeartbeats 4000000 in
theorem Of_calls' (m n : Nat) (t : Int) (hm : 1 ≤ m ∧ m ≤ 64) (hn : 1 ≤ n ∧ n ≤ 65536) (A : Option Addr) (cap : Nat) (es : List Ev) (w : World) (hx : Rows encV 5 w A es) (hl : es.length ≤ 1000000) :
    Calls Try.prog 16 #[.agg #[.int .i64 m, .int .i64 t, .int .i64 n], .slice A es.length cap] w fun r w' => ∃ b g1 g2, r = .returned (.tuple #[.agg (cenC (cK es) (.slice (some ⟨g1, 0, none⟩) n n) (.slice (some ⟨g2, 0, none⟩) m m) (cMost es) (cNow es)), .int .i64 0]) ∧ IsCen w' w.heap.size b g1 n g2 m n m (cK es) (fG es) (cP es) (cMost es) (cNow es) ∧ Bw w w' := by
  have HB := Aside0.mk (Bw.refl w)
  have HX := Aside0.mk hx
  have hmk1 := make_rows n hn.2
  have hmk2 := make_ints m (by omega)
  obtain ⟨m1, m2⟩ := hm
  obtain ⟨n1, n2⟩ := hn
  clear hx
  go_enter Try.func16, Try.ntmps16
  go_upto_region 3 with fail
  obtain ⟨W1, hW1⟩ : ∃ W1, W1 = ((w.alloc (.cells #[.int .i64 m, .int .i64 t, .int .i64 n] 23)).alloc (.cells #[.int .i64 0, .int .i64 0, .int .i64 0, .int .i64 0, .int .i64 0, .int .i64 0, .int .i64 0, .int .i64 0, .int .i64 0, .int .i64 0, .int .i64 0, .int .i64 0, .slice none 0 0, .slice none 0 0, .int .i64 0, .int .i64 0] 31)) := ⟨_, rfl⟩
  have L1 : Blk W1 w.heap.size #[.int .i64 m, .int .i64 t, .int .i64 n] 23 := by rw [hW1]; exact (Blk.new w _ _).alloc _
  have L2 : Blk W1 (w.heap.size + 1) #[.int .i64 0, .int .i64 0, .int .i64 0, .int .i64 0, .int .i64 0, .int .i64 0, .int .i64 0, .int .i64 0, .int .i64 0, .int .i64 0, .int .i64 0, .int .i64 0, .slice none 0 0, .slice none 0 0, .int .i64 0, .int .i64 0] 31 := by
    rw [hW1]
    have := Blk.new (w.alloc (.cells #[.int .i64 m, .int .i64 t, .int .i64 n] 23)) #[.int .i64 0, .int .i64 0, .int .i64 0, .int .i64 0, .int .i64 0, .int .i64 0, .int .i64 0, .int .i64 0, .int .i64 0, .int .i64 0, .int .i64 0, .int .i64 0, .slice none 0 0, .slice none 0 0, .int .i64 0, .int .i64 0] 31
    simpa using this
  have HW1 := Aside0.mk (show Bw w W1 by rw [hW1]; exact (HB.out.alloc _).alloc _)
  rw [← hW1]
  clear hW1
  go_cut [6] from 28 to 34 (fun v wx => ∃ b g1 g2, v = .pointer (some ⟨b, 0, none⟩) ∧ Aside0 (IsCen wx W1.heap.size b g1 n g2 m n m (cK []) (fG []) (cP []) (cMost []) (cNow [])) ∧ Aside0 (Bw W1 wx))
  case first =>
    as_aux_lemma =>
      have c0 := L1.cell 0 (.int .i64 (m : Int)) rfl
      have c2 := L1.cell 2 (.int .i64 (n : Int)) rfl
      have hl1 := L1.lt
      have hb1 : ∀ o, o < W1.heap.size → True := fun _ _ => trivial
      clear hb1
      go_wp2_with fail
      go_region_held3 (fun W => W.cell? ⟨w.heap.size, 0, none⟩ = some (.int .i64 (m : Int)) ∧ W.cell? ⟨w.heap.size, 2, none⟩ = some (.int .i64 (n : Int))) (refine ⟨Bw.kept ?_ c0, Bw.kept ?_ c2⟩ <;> (repeat (first | (with_reducible exact Bw.refl W1) | refine Bw.alloc ?_ _ | refine Bw.setCell ?_ (by simp; omega) _ | refine Bw.drew ?_))) (fail)
      all_goals go_wp2_with fail
      all_goals go_meet
      all_goals (case rel =>
        first
          | exact of_start W1 _ m n m2 n2 (W1.heap.size + 1 + 1) W1.heap.size (W1.heap.size + 1) rfl (Nat.le_trans (Nat.le_succ _) (Nat.le_succ _)) (Nat.le_refl _) (Nat.le_succ _) (look3 W1 _ _ _).2.2 (look3 W1 _ _ _).1 (look3 W1 _ _ _).2.1 ((((Bw.refl W1).alloc _).alloc _).alloc _).drew
          | exact of_start W1 _ m n m2 n2 (W1.heap.size + 1) W1.heap.size (W1.heap.size + 1 + 1) rfl (Nat.le_succ _) (Nat.le_refl _) (Nat.le_trans (Nat.le_succ _) (Nat.le_succ _)) (look3 W1 _ _ _).2.1 (look3 W1 _ _ _).1 (look3 W1 _ _ _).2.2 ((((Bw.refl W1).alloc _).alloc _).alloc _).drew
          | exact of_start W1 _ m n m2 n2 (W1.heap.size + 1 + 1) (W1.heap.size + 1) W1.heap.size rfl (Nat.le_trans (Nat.le_succ _) (Nat.le_succ _)) (Nat.le_succ _) (Nat.le_refl _) (look3 W1 _ _ _).2.2 (look3 W1 _ _ _).2.1 (look3 W1 _ _ _).1 ((((Bw.refl W1).alloc _).alloc _).alloc _).drew
          | exact of_start W1 _ m n m2 n2 (W1.heap.size + 1) (W1.heap.size + 1 + 1) W1.heap.size rfl (Nat.le_succ _) (Nat.le_trans (Nat.le_succ _) (Nat.le_succ _)) (Nat.le_refl _) (look3 W1 _ _ _).2.1 (look3 W1 _ _ _).2.2 (look3 W1 _ _ _).1 ((((Bw.refl W1).alloc _).alloc _).alloc _).drew
          | exact of_start W1 _ m n m2 n2 W1.heap.size (W1.heap.size + 1) (W1.heap.size + 1 + 1) rfl (Nat.le_refl _) (Nat.le_succ _) (Nat.le_trans (Nat.le_succ _) (Nat.le_succ _)) (look3 W1 _ _ _).1 (look3 W1 _ _ _).2.1 (look3 W1 _ _ _).2.2 ((((Bw.refl W1).alloc _).alloc _).alloc _).drew
          | exact of_start W1 _ m n m2 n2 W1.heap.size (W1.heap.size + 1 + 1) (W1.heap.size + 1) rfl (Nat.le_refl _) (Nat.le_trans (Nat.le_succ _) (Nat.le_succ _)) (Nat.le_succ _) (look3 W1 _ _ _).1 (look3 W1 _ _ _).2.2 (look3 W1 _ _ _).2.1 ((((Bw.refl W1).alloc _).alloc _).alloc _).drew
        )
  case rest =>
    obtain ⟨b, g1, g2, rfl, HC, HBc⟩ := hcut
    obtain ⟨wq, hwq⟩ : ∃ wq, wq = W1 := ⟨_, rfl⟩
    have HWX := Aside0.mk (HW1.out.trans HBc.out)
    go_wp2_with fail
    go_loopw [37] (fun iv wr => ∃ k : Nat, k ≤ es.length ∧ iv = .int .i64 k ∧ Aside0 (IsCen wr W1.heap.size b g1 n g2 m n m (cK (es.take k)) (fG (es.take k)) (cP (es.take k)) (cMost (es.take k)) (cNow (es.take k))) ∧ Aside0 (Bw W1 wr)) (fun iv _ => es.length - (intOf iv).toNat)
    case atStart => exact ⟨0, by omega, rfl, HC, HBc⟩
    case round =>
      obtain ⟨k, hk, rfl, HCk, HBk⟩ := hrel
      have HX1 := Aside0.mk (HX.out.bw (HW1.out.trans HBk.out))
      have hel : es.length ≤ 9223372036854775807 := by omega
      by_cases hlt : k < es.length
      · obtain ⟨e, he⟩ : ∃ e, es[k]? = some e := ⟨_, List.getElem?_eq_getElem hlt⟩
        obtain ⟨ad, rfl, h0, hi⟩ := HX1.out.atS k e he
        have s0 := h0 _ rfl
        have s1 := hi 1 _ (by decide) rfl
        have s2 := hi 2 _ (by decide) rfl
        have s3 := hi 3 _ (by decide) rfl
        have s4 := hi 4 _ (by decide) rfl
        have HE := Aside0.mk he
        have HCA := Aside0.mk (HCk.out.bw ((Bw.refl wr).alloc (.cells #[.int .i64 e.kind, .int .i64 e.g, .int .i64 e.other, .int .i64 e.thread, .int .i64 e.proc] 38)))
        clear he h0 hi
        go_wp2_with fail
        refine (put_calls (es.take k) e (by rw [List.length_take]; omega) HCA.out).mono ?_
        rintro e w3 ⟨rfl, hc3, hg3⟩
        have HC3 := Aside0.mk hc3
        have HB3 := Aside0.mk (hg3.below (HBk.out.alloc (.cells #[.int .i64 e.kind, .int .i64 e.g, .int .i64 e.other, .int .i64 e.thread, .int .i64 e.proc] 38)) HCk.out.ge)
        clear hc3 hg3
        go_wp2_with fail
        go_roundw
        case rel =>
          have e1 : es.take (k + 1) = es.take k ++ [e] := by rw [List.take_add_one, HE.out]; rfl
          exact ⟨k + 1, by omega, by go_num, ⟨by rw [e1]; exact HC3.out⟩, HB3⟩
        case measure => simp [intOf]; omega
      · obtain rfl : k = es.length := by omega
        have hce := HCk.out
        rw [List.take_length] at hce
        have HCE := Aside0.mk hce
        obtain ⟨c0, c1, c2, c3, c4, c5, c6, c7, c8, c9, c10, c11, c12, c13, c14, c15⟩ := hce.cells
        have L2' := L2.bw HBk.out
        have f0 := L2'.free 0
        have f1 := L2'.free 1
        have f2 := L2'.free 2
        have f3 := L2'.free 3
        have f4 := L2'.free 4
        have f5 := L2'.free 5
        have f6 := L2'.free 6
        have f7 := L2'.free 7
        have f8 := L2'.free 8
        have f9 := L2'.free 9
        have f10 := L2'.free 10
        have f11 := L2'.free 11
        have f12 := L2'.free 12
        have f13 := L2'.free 13
        have f14 := L2'.free 14
        have f15 := L2'.free 15
        have q0 := L2'.cell 0 _ rfl
        have q1 := L2'.cell 1 _ rfl
        have q2 := L2'.cell 2 _ rfl
        have q3 := L2'.cell 3 _ rfl
        have q4 := L2'.cell 4 _ rfl
        have q5 := L2'.cell 5 _ rfl
        have q6 := L2'.cell 6 _ rfl
        have q7 := L2'.cell 7 _ rfl
        have q8 := L2'.cell 8 _ rfl
        have q9 := L2'.cell 9 _ rfl
        have q10 := L2'.cell 10 _ rfl
        have q11 := L2'.cell 11 _ rfl
        have q12 := L2'.cell 12 _ rfl
        have q13 := L2'.cell 13 _ rfl
        have q14 := L2'.cell 14 _ rfl
        have q15 := L2'.cell 15 _ rfl
        have hbl := L2'.lt
        clear hce L2'
        go_wp2_with fail
        refine bodyPost_ret (v := .tuple #[.agg #[.int .i64 (cK es 0), .int .i64 (cK es 1), .int .i64 (cK es 2), .int .i64 (cK es 3), .int .i64 (cK es 4), .int .i64 (cK es 5), .int .i64 (cK es 6), .int .i64 (cK es 7), .int .i64 (cK es 8), .int .i64 (cK es 9), .int .i64 (cK es 10), .int .i64 (cK es 11), .slice (some ⟨g1, 0, none⟩) n n, .slice (some ⟨g2, 0, none⟩) m m, .int .i64 (cMost es), .int .i64 (cNow es)], .int .i64 0]) ?_ rfl ⟨b, g1, g2, rfl, ?_, ?_⟩
        · simp [results, Try.results16, go_sem, q0, q1, q2, q3, q4, q5, q6, q7, q8, q9, q10, q11, q12, q13, q14, q15, hbl]
        · refine IsCen.lower ?_ HW1.out.size
          refine HCE.out.chg ?_ (S := fun i => i = w.heap.size + 1) (fun i hi e => ?_)
          · repeat (first | (with_reducible exact Chg.refl _ _) | (with_reducible refine Chg.setb ?_ ?_ _; rotate_left; exact rfl))
          · have := HCE.out.ge i hi
            have := L2.lt
            omega
        · repeat (first | (with_reducible exact HW1.out.trans HBk.out) | (with_reducible refine Bw.setCell ?_ (Nat.le_succ _) _))
end Go.Proofs.Ytclippikdfcgkaa.M
