/- Package census: Add. Conditions: no more than a thousand events each. -/
import Derived.Test.YtclippikdfcgkaaMxb
import Derived.Test.YtclippikdfcgkaaMx8
namespace Go.Proofs.Ytclippikdfcgkaa.M
open Go.RowKit Go.Proofs.YtclippikdfcgkaaW.PrintWords Go.Proofs.YtclippikdfcgkaaW.PrintLast Go.Proofs.YtclippikdfcgkaaW.PrintMore
attribute [local go_sem] max2_int max_two
set_option linter.unusedVariables false
set_option linter.unusedSimpArgs false
abbrev cenZ : Array Value := #[.int .i64 0, .int .i64 0, .int .i64 0, .int .i64 0, .int .i64 0, .int .i64 0, .int .i64 0, .int .i64 0, .int .i64 0, .int .i64 0, .int .i64 0, .int .i64 0, .slice none 0 0, .slice none 0 0, .int .i64 0, .int .i64 0]
theorem cen_cells {W : World} {b : Nat} (h : Blk W b cenZ 31) : (W.cell? ⟨b, 0, none⟩ = some (.int .i64 0) ∧ W.cell? ⟨b, 1, none⟩ = some (.int .i64 0) ∧ W.cell? ⟨b, 2, none⟩ = some (.int .i64 0) ∧ W.cell? ⟨b, 3, none⟩ = some (.int .i64 0) ∧ W.cell? ⟨b, 4, none⟩ = some (.int .i64 0) ∧ W.cell? ⟨b, 5, none⟩ = some (.int .i64 0) ∧ W.cell? ⟨b, 6, none⟩ = some (.int .i64 0) ∧ W.cell? ⟨b, 7, none⟩ = some (.int .i64 0)) ∧ (W.cell? ⟨b, 8, none⟩ = some (.int .i64 0) ∧ W.cell? ⟨b, 9, none⟩ = some (.int .i64 0) ∧ W.cell? ⟨b, 10, none⟩ = some (.int .i64 0) ∧ W.cell? ⟨b, 11, none⟩ = some (.int .i64 0) ∧ W.cell? ⟨b, 12, none⟩ = some (.slice none 0 0) ∧ W.cell? ⟨b, 13, none⟩ = some (.slice none 0 0) ∧ W.cell? ⟨b, 14, none⟩ = some (.int .i64 0) ∧ W.cell? ⟨b, 15, none⟩ = some (.int .i64 0)) ∧ (∀ i, W.frozen? ⟨b, i, none⟩ = false) ∧ b < W.heap.size :=
  ⟨⟨h.cell 0 _ rfl, h.cell 1 _ rfl, h.cell 2 _ rfl, h.cell 3 _ rfl, h.cell 4 _ rfl, h.cell 5 _ rfl, h.cell 6 _ rfl, h.cell 7 _ rfl⟩, ⟨h.cell 8 _ rfl, h.cell 9 _ rfl, h.cell 10 _ rfl, h.cell 11 _ rfl, h.cell 12 _ rfl, h.cell 13 _ rfl, h.cell 14 _ rfl, h.cell 15 _ rfl⟩, h.free, h.lt⟩
theorem zed {W w5 : World} (h : Bw (W.alloc (.cells cenZ 31)) w5) : Blk w5 W.heap.size cenZ 31 := (Blk.new W cenZ _).bw h
theorem zed' {W w5 : World} (h : Bw (W.alloc (.cells cenZ 31)).drew w5) : Blk w5 W.heap.size cenZ 31 := (Blk.new W cenZ _).drew.bw h
abbrev cenS (W : World) (b : Nat) (v12 v13 v14 v15 : Value) : World := (((((((((((((((W.setCell ⟨b, 0, none⟩ (.int .i64 0)).setCell ⟨b, 1, none⟩ (.int .i64 0)).setCell ⟨b, 2, none⟩ (.int .i64 0)).setCell ⟨b, 3, none⟩ (.int .i64 0)).setCell ⟨b, 4, none⟩ (.int .i64 0)).setCell ⟨b, 5, none⟩ (.int .i64 0)).setCell ⟨b, 6, none⟩ (.int .i64 0)).setCell ⟨b, 7, none⟩ (.int .i64 0)).setCell ⟨b, 8, none⟩ (.int .i64 0)).setCell ⟨b, 9, none⟩ (.int .i64 0)).setCell ⟨b, 10, none⟩ (.int .i64 0)).setCell ⟨b, 11, none⟩ (.int .i64 0)).setCell ⟨b, 12, none⟩ v12).setCell ⟨b, 13, none⟩ v13).setCell ⟨b, 14, none⟩ v14).setCell ⟨b, 15, none⟩ v15
theorem cen_alloc {W0 W : World} {g5 c5 g6 c6 n m : Nat} {f h : Int → Int} {mx nw : Int} (hw : Bw W0 W) (hr : W.ownsRow W0.heap.size 141 3 (.slice (some ⟨g5, 0, none⟩) n c5) n (tabV (n * 3) f)) (hp : W.ownsRow W0.heap.size 3 1 (.slice (some ⟨g6, 0, none⟩) m c6) m (tabV m h)) :
    IsCen (W.alloc (.cells #[.int .i64 0, .int .i64 0, .int .i64 0, .int .i64 0, .int .i64 0, .int .i64 0, .int .i64 0, .int .i64 0, .int .i64 0, .int .i64 0, .int .i64 0, .int .i64 0, .slice (some ⟨g5, 0, none⟩) n c5, .slice (some ⟨g6, 0, none⟩) m c6, .int .i64 mx, .int .i64 nw] 31)) W0.heap.size W.heap.size g5 c5 g6 c6 n m (fun _ => 0) f h mx nw :=
  ⟨hw.size, Blk.new W _ _, pw_own_below hr ((Bw.refl W).alloc _), pw_own_below hp ((Bw.refl W).alloc _)⟩
theorem cen_store {W0 W : World} {b g5 c5 g6 c6 n m : Nat} {f h : Int → Int} {mx nw : Int} (hb : W0.heap.size ≤ b) (hw : Bw W0 W) (hz : Blk W b cenZ 31) (hr : W.ownsRow W0.heap.size 141 3 (.slice (some ⟨g5, 0, none⟩) n c5) n (tabV (n * 3) f)) (hp : W.ownsRow W0.heap.size 3 1 (.slice (some ⟨g6, 0, none⟩) m c6) m (tabV m h)) :
    IsCen (cenS W b (.slice (some ⟨g5, 0, none⟩) n c5) (.slice (some ⟨g6, 0, none⟩) m c6) (.int .i64 mx) (.int .i64 nw)) W0.heap.size b g5 c5 g6 c6 n m (fun _ => 0) f h mx nw ∧ Bw W0 (cenS W b (.slice (some ⟨g5, 0, none⟩) n c5) (.slice (some ⟨g6, 0, none⟩) m c6) (.int .i64 mx) (.int .i64 nw)) := by
  have hC : Chg (fun i => i = b) W (cenS W b (.slice (some ⟨g5, 0, none⟩) n c5) (.slice (some ⟨g6, 0, none⟩) m c6) (.int .i64 mx) (.int .i64 nw)) := by
    unfold cenS
    exact (((((((((((((((((Chg.refl (fun i => i = b) W).setb rfl _).setb rfl _).setb rfl _).setb rfl _).setb rfl _).setb rfl _).setb rfl _).setb rfl _).setb rfl _).setb rfl _).setb rfl _).setb rfl _).setb rfl _).setb rfl _).setb rfl _).setb rfl _)
  refine ⟨⟨hb, ?_, own_of_block hr (fun k hk => hC.block k (own_lt hr k hk) (fun e => own_ne hr hz (by decide) (by rw [← e]; exact hk.symm))), own_of_block hp (fun k hk => hC.block k (own_lt hp k hk) (fun e => own_ne hp hz (by decide) (by rw [← e]; exact hk.symm)))⟩, hC.below hw (fun i e => by rw [e]; exact hb)⟩
  have := (((((((((((((((hz.set 0 (.int .i64 0)).set 1 (.int .i64 0)).set 2 (.int .i64 0)).set 3 (.int .i64 0)).set 4 (.int .i64 0)).set 5 (.int .i64 0)).set 6 (.int .i64 0)).set 7 (.int .i64 0)).set 8 (.int .i64 0)).set 9 (.int .i64 0)).set 10 (.int .i64 0)).set 11 (.int .i64 0)).set 12 (.slice (some ⟨g5, 0, none⟩) n c5)).set 13 (.slice (some ⟨g6, 0, none⟩) m c6)).set 14 (.int .i64 mx)).set 15 (.int .i64 nw)
  simp at this
  exact this
section
variable {w w1 : World} {base b g1 c1 g2 c2 n m : Nat} {fK fg fP : Int → Int} {most now : Int}
theorem IsCen.rowj (h : IsCen w base b g1 c1 g2 c2 n m fK fg fP most now) (j : Nat) (hj : j < n * 3) (fg' : Int → Int) (hf : ∀ i : Nat, i < n * 3 → i ≠ j → fg' i = fg i) : IsCen (w.setCell ⟨g1, j, none⟩ (.int .i64 (fg' j))) base b g1 c1 g2 c2 n m fK fg' fP most now := by
  have n2 : g1 ≠ b := by
    have := own_ne h.gs h.blk (by decide)
    intro q
    exact this (by rw [← q]; rfl)
  have hn := ne_types h.gs h.ps (by decide)
  refine ⟨h.le, h.blk.other _ _ n2, ?_, own_setCell (p := ⟨g1, j, none⟩) h.ps (fun q => hn g1 rfl q.symm) _⟩
  have := own_setj h.gs j (.int .i64 (fg' j)) hj
  rw [tabV_set (n * 3) fg fg' j hf]
  exact this
theorem IsCen.procj (h : IsCen w base b g1 c1 g2 c2 n m fK fg fP most now) (j : Nat) (hj : j < m) (fP' : Int → Int) (hf : ∀ i : Nat, i < m → i ≠ j → fP' i = fP i) : IsCen (w.setCell ⟨g2, j, none⟩ (.int .i64 (fP' j))) base b g1 c1 g2 c2 n m fK fg fP' most now := by
  have n2 : g2 ≠ b := by
    have := own_ne h.ps h.blk (by decide)
    intro q
    exact this (by rw [← q]; rfl)
  have hn := ne_types h.gs h.ps (by decide)
  refine ⟨h.le, h.blk.other _ _ n2, own_setCell (p := ⟨g2, j, none⟩) h.gs (fun q => hn g1 rfl q) _, ?_⟩
  have := own_setj h.ps j (.int .i64 (fP' j)) (by omega)
  rw [tabV_set m fP fP' j hf]
  exact this
theorem IsCen.sameF (h : IsCen w base b g1 c1 g2 c2 n m fK fg fP most now) (fK' fg' fP' : Int → Int) (h1 : ∀ j : Nat, j < 12 → fK' j = fK j) (h2 : ∀ j : Nat, j < n * 3 → fg' j = fg j) (h3 : ∀ j : Nat, j < m → fP' j = fP j) : IsCen w base b g1 c1 g2 c2 n m fK' fg' fP' most now := by
  refine ⟨h.le, ?_, ?_, ?_⟩
  · have := h.blk
    unfold cenC at this ⊢
    rw [tabV_same 12 fK fK' h1]
    exact this
  · rw [tabV_same _ fg fg' h2]; exact h.gs
  · rw [tabV_same _ fP fP' h3]; exact h.ps
end
/-- The first t of them added. -/
def upTo (t : Nat) (f g d : Int → Int) : Int → Int := fun j => if j < (t : Int) then f j + g j else d j
theorem upTo_step (t : Nat) (f g d : Int → Int) (i : Nat) (hi : i ≠ t) : upTo (t + 1) f g d i = upTo t f g d i := by
  unfold upTo
  by_cases h : (i : Int) < (t : Int)
  · rw [if_pos h, if_pos (by omega)]
  · rw [if_neg h, if_neg (by omega)]
theorem upTo_at (t : Nat) (f g d : Int → Int) : upTo (t + 1) f g d t = f t + g t := by unfold upTo; rw [if_pos (by omega)]
theorem upTo_old (t : Nat) (f g d : Int → Int) (i : Nat) (hi : t ≤ i) : upTo t f g d i = d i := by unfold upTo; rw [if_neg (by omega)]
theorem upTo_new (t : Nat) (f g d : Int → Int) (i : Nat) (hi : i < t) : upTo t f g d i = f i + g i := by unfold upTo; rw [if_pos (by omega)]
/-- The code behind a region. -/
def behindR (k : Nat) : Code → Option Code
  | .seq (.region j _ _) c => if j = k then some c else behindR k c
  | .seq _ c => behindR k c
  | _ => none
noncomputable def addTail : Code := ((Try.f17.body.bind (behindR 3)).getD .skip)
set_option maxHeartbeats 8000000 in
set_option maxRecDepth 100000 in
theorem Add_tail {base : Nat} (es fs : List Ev) (n m g1 c1 g2 c2 g3 c3 g4 c4 : Nat) (w W0 wc : World) (b g5 c5 g6 c6 : Nat) (T0 T1 : Value) (mx : Int)
    (u29 u30 u31 u32 u33 u34 u35 u36 u37 u38 u39 u40 u41 u42 u43 u44 u45 u46 u47 u48 : Value)
    (HW0 : Aside0 (Bw w W0))
    (HL1 : Aside0 (Blk W0 w.heap.size (cenA (cK es) (.slice (some ⟨g1, 0, none⟩) n c1) (.slice (some ⟨g2, 0, none⟩) m c2) (cMost es) (cNow es)) 31))
    (HL2 : Aside0 (Blk W0 (w.heap.size + 1) (cenA (cK fs) (.slice (some ⟨g3, 0, none⟩) n c3) (.slice (some ⟨g4, 0, none⟩) m c4) (cMost fs) (cNow fs)) 31))
    (HGB : Aside0 (W0.ownsRow base 141 3 (.slice (some ⟨g3, 0, none⟩) n c3) n (tabV (n * 3) (fG fs))))
    (HPB : Aside0 (W0.ownsRow base 3 1 (.slice (some ⟨g4, 0, none⟩) m c4) m (tabV m (cP fs))))
    (HL3 : Aside0 (Blk W0 (w.heap.size + 1 + 1) cenZ 31))
    (HLE : Aside0 (es.length ≤ 1000 ∧ fs.length ≤ 1000)) (HNE : Aside0 (1 ≤ n ∧ n ≤ 65536)) (HME : Aside0 (1 ≤ m ∧ m ≤ 64))
    (r1 : w.heap.size < W0.heap.size) (r2 : w.heap.size + 1 < W0.heap.size)
    (hmx : (if cMost es < cNow es + cMost fs then cNow es + cMost fs else cMost es) = mx)
    (HC : Aside0 (IsCen wc W0.heap.size b g5 c5 g6 c6 n m (fun _ => 0) (fG es) (cP es) mx (cNow es + cNow fs))) (HBc : Aside0 (Bw W0 wc)) :
    Code.wp Try.prog addTail (bodyPost Try.prog Try.f17 fun r w' =>
      ∃ b g5 c5 g6 c6, r = .returned (.tuple #[.agg (cenC (cK (es ++ fs)) (.slice (some ⟨g5, 0, none⟩) n c5) (.slice (some ⟨g6, 0, none⟩) m c6) (cMost (es ++ fs)) (cNow (es ++ fs))), .int .i64 0]) ∧ IsCen w' w.heap.size b g5 c5 g6 c6 n m (cK (es ++ fs)) (fG (es ++ fs)) (cP (es ++ fs)) (cMost (es ++ fs)) (cNow (es ++ fs)) ∧ Bw w w') ⟨#[T0, T1, .pointer (some ⟨w.heap.size, 0, none⟩), .pointer (some ⟨w.heap.size + 1, 0, none⟩), .pointer (some ⟨w.heap.size + 1 + 1, 0, none⟩), .int .i64 0, .pointer (some ⟨b, 0, none⟩), undef, undef, undef, undef, undef, .pointer (some ⟨w.heap.size, 12, none⟩), .slice (some ⟨g1, 0, none⟩) n c1, .int .i64 n, .pointer (some ⟨w.heap.size + 1, 12, none⟩), .slice (some ⟨g3, 0, none⟩) n c3, .int .i64 n, .bool false, .bool false, .pointer (some ⟨w.heap.size, 13, none⟩), .slice (some ⟨g2, 0, none⟩) m c2, .int .i64 m, .pointer (some ⟨w.heap.size + 1, 13, none⟩), .slice (some ⟨g4, 0, none⟩) m c4, .int .i64 m, .bool false, .bool false, undef, u29, u30, u31, u32, u33, u34, u35, u36, u37, u38, u39, u40, u41, u42, u43, u44, u45, u46, u47, u48, undef, undef, undef, undef, undef, undef, undef, undef, undef, undef, undef, undef, undef, undef, undef, undef, undef, undef, undef, undef, undef, undef, undef, undef, undef, undef, undef, undef, undef, undef, undef, undef, undef, undef, undef, undef, undef, undef, undef, undef, undef, undef, undef, undef, undef, undef, undef, undef, undef, undef, undef, undef, undef, undef, undef, undef, undef, undef, undef, undef, undef, undef, undef, undef, undef, undef, undef, undef, undef, undef, undef, undef, undef, undef, undef, undef], []⟩ wc := by
  have hn := HNE.out
  have hm := HME.out
  conv => arg 2; whnf
  have HKR := Aside0.mk (show ∀ k : Nat, (0 ≤ cK es k ∧ cK es k ≤ 1000) ∧ (0 ≤ cK fs k ∧ cK fs k ≤ 1000) from fun k => by
    have h1 := cB_range es (isK k)
    have h2 := cB_range fs (isK k)
    have := HLE.out
    unfold cK
    omega)
  have HGRr := Aside0.mk (show ∀ k : Nat, (0 ≤ fG es k ∧ fG es k ≤ 1000) ∧ (0 ≤ fG fs k ∧ fG fs k ≤ 1000) from fun k => by
    have h1 := fG_range es k
    have h2 := fG_range fs k
    have := HLE.out
    omega)
  have HPRr := Aside0.mk (show ∀ k : Nat, (0 ≤ cP es k ∧ cP es k ≤ 1000) ∧ (0 ≤ cP fs k ∧ cP fs k ≤ 1000) from fun k => by
    have h1 := cB_range es (isP k)
    have h2 := cB_range fs (isP k)
    have := HLE.out
    unfold cP
    omega)
  have HMX := Aside0.mk hmx
  clear hmx
  go_wp2_with fail
  go_loopw [49] (fun iv wr => ∃ k : Nat, k ≤ 12 ∧ iv = .int .i64 k ∧ Aside0 (IsCen wr W0.heap.size b g5 c5 g6 c6 n m (upTo k (cK es) (cK fs) (fun _ => 0)) (fG es) (cP es) mx (cNow es + cNow fs)) ∧ Aside0 (Bw W0 wr)) (fun iv _ => 12 - (intOf iv).toNat)
  case atStart => exact ⟨0, by omega, rfl, ⟨HC.out.sameF _ _ _ (fun j hj => upTo_old 0 _ _ _ j (Nat.zero_le _)) (fun _ _ => rfl) (fun _ _ => rfl)⟩, HBc⟩
  case round =>
    obtain ⟨k, hk, rfl, HCk, HBk⟩ := hrel
    by_cases hlt : k < 12
    · obtain ⟨x, hx⟩ : ∃ x, cK es k = x := ⟨_, rfl⟩
      obtain ⟨y, hy⟩ : ∃ y, cK fs k = y := ⟨_, rfl⟩
      have hxy := HKR.out k
      rw [hx, hy] at hxy
      have hw : wrap64 (x + y) = x + y := by unfold wrap64; omega
      have q1 : wr.cell? ⟨w.heap.size, k, none⟩ = some (.int .i64 x) := (HL1.out.bw HBk.out).cell k _ (by rw [← hx]; exact cenC_kind (cK es) _ _ (cMost es) (cNow es) k hlt)
      have q2 : wr.cell? ⟨w.heap.size + 1, k, none⟩ = some (.int .i64 y) := (HL2.out.bw HBk.out).cell k _ (by rw [← hy]; exact cenC_kind (cK fs) _ _ (cMost fs) (cNow fs) k hlt)
      have q3 : wr.cell? ⟨b, k, none⟩ = some (.int .i64 0) := HCk.out.blk.cell k _ (by rw [cenC_kind _ _ _ _ _ k hlt, upTo_old k _ _ _ k (Nat.le_refl _)])
      have q4 := HCk.out.blk.free k
      have q5 := HCk.out.blk.lt
      have HX := Aside0.mk hx
      have HY := Aside0.mk hy
      clear hx hy hxy
      go_wp2_with fail
      go_region
      rw [hw]
      go_wp2_with fail
      go_roundw
      case rel =>
        have h := HCk.out.kind k hlt (upTo (k + 1) (cK es) (cK fs) (fun _ => 0)) (fun j hj hne => upTo_step k _ _ _ j hne)
        rw [upTo_at, HX.out, HY.out] at h
        exact ⟨k + 1, by omega, by go_num, ⟨h.bw (Bw.refl _).drew⟩, ⟨(HBk.out.setCell HCk.out.le _).drew⟩⟩
      case measure => simp [intOf]; omega
    · obtain rfl : k = 12 := by omega
      have HC2 := Aside0.mk (HCk.out.sameF (cK (es ++ fs)) (fG es) (cP es) (fun j hj => by rw [upTo_new 12 _ _ _ j hj]; exact cB_append _ _ _) (fun _ _ => rfl) (fun _ _ => rfl))
      have hb13 : wr.cell? ⟨w.heap.size + 1, 12, none⟩ = some (.slice (some ⟨g3, 0, none⟩) n c3) := (HL2.out.bw HBk.out).cell 12 _ rfl
      have hn65 : n ≤ 65536 := HNE.out.2
      clear hlt
      go_wp2_with fail
      obtain ⟨w2, hw2⟩ : ∃ w2, w2 = wr := ⟨_, rfl⟩
      subst hw2
      clear hb13
      go_loopw [68] (fun iv wr => ∃ k : Nat, k ≤ n ∧ iv = .int .i64 k ∧ Aside0 (IsCen wr W0.heap.size b g5 c5 g6 c6 n m (cK (es ++ fs)) (upTo (k * 3) (fG es) (fG fs) (fG es)) (cP es) mx (cNow es + cNow fs)) ∧ Aside0 (Bw W0 wr)) (fun iv _ => n - (intOf iv).toNat)
      case atStart => exact ⟨0, by omega, rfl, ⟨HC2.out.sameF _ _ _ (fun _ _ => rfl) (fun j hj => by rw [Nat.zero_mul]; exact upTo_old 0 _ _ _ j (Nat.zero_le _)) (fun _ _ => rfl)⟩, HBk⟩
      case round =>
        obtain ⟨k, hk, rfl, HCk, HBk⟩ := hrel
        by_cases hlt : k < n
        · obtain ⟨x0, hx0⟩ : ∃ x, fG es ((k * 3 : Nat) : Int) = x := ⟨_, rfl⟩
          obtain ⟨x1, hx1⟩ : ∃ x, fG es ((k * 3 + 1 : Nat) : Int) = x := ⟨_, rfl⟩
          obtain ⟨x2, hx2⟩ : ∃ x, fG es ((k * 3 + 2 : Nat) : Int) = x := ⟨_, rfl⟩
          obtain ⟨y0, hy0⟩ : ∃ x, fG fs ((k * 3 : Nat) : Int) = x := ⟨_, rfl⟩
          obtain ⟨y1, hy1⟩ : ∃ x, fG fs ((k * 3 + 1 : Nat) : Int) = x := ⟨_, rfl⟩
          obtain ⟨y2, hy2⟩ : ∃ x, fG fs ((k * 3 + 2 : Nat) : Int) = x := ⟨_, rfl⟩
          have z0 := HGRr.out (k * 3)
          have z1 := HGRr.out (k * 3 + 1)
          have z2 := HGRr.out (k * 3 + 2)
          rw [hx0, hy0] at z0
          rw [hx1, hy1] at z1
          rw [hx2, hy2] at z2
          have hw0 : wrap64 (x0 + y0) = x0 + y0 := by unfold wrap64; omega
          have hw1 : wrap64 (x1 + y1) = x1 + y1 := by unfold wrap64; omega
          have hw2 : wrap64 (x2 + y2) = x2 + y2 := by unfold wrap64; omega
          have HGB2 := Aside0.mk (pw_own_below HGB.out HBk.out)
          have r0 := own_cellj HGB2.out (k * 3) (.int .i64 y0) (by rw [tabV_get _ _ _ (by omega), hy0])
          have r1' := own_cellj HGB2.out (k * 3 + 1) (.int .i64 y1) (by rw [tabV_get _ _ _ (by omega), hy1])
          have r2' := own_cellj HGB2.out (k * 3 + 2) (.int .i64 y2) (by rw [tabV_get _ _ _ (by omega), hy2])
          have X0 := Aside0.mk hx0
          have X1 := Aside0.mk hx1
          have X2 := Aside0.mk hx2
          have Y0 := Aside0.mk hy0
          have Y1 := Aside0.mk hy1
          have Y2 := Aside0.mk hy2
          have HLR := Aside0.mk (Blk.new wr #[.int .i64 y0, .int .i64 y1, .int .i64 y2] 141)
          have HCA := Aside0.mk (HCk.out.bw ((Bw.refl wr).alloc (.cells #[.int .i64 y0, .int .i64 y1, .int .i64 y2] 141)))
          have HBA := Aside0.mk (HBk.out.alloc (.cells #[.int .i64 y0, .int .i64 y1, .int .i64 y2] 141))
          have nr : g5 ≠ wr.heap.size := by
            have := own_lt HCk.out.gs g5 rfl
            omega
          have nr' : wr.heap.size ≠ g5 := Ne.symm nr
          obtain ⟨rb, hrb⟩ : ∃ rb, rb = wr.heap.size := ⟨_, rfl⟩
          obtain ⟨wa, hwa⟩ : ∃ wa, wa = wr.alloc (.cells #[.int .i64 y0, .int .i64 y1, .int .i64 y2] 141) := ⟨_, rfl⟩
          clear hx0 hx1 hx2 hy0 hy1 hy2 z0 z1 z2
          go_upto_region 12 with fail
          rw [← hwa, ← hrb]
          rw [← hwa, ← hrb] at HLR
          rw [← hwa] at HCA HBA
          rw [← hrb] at nr nr'
          clear hwa hrb r0 r1' r2'
          have p1 : wa.cell? ⟨b, 12, none⟩ = some (.slice (some ⟨g5, 0, none⟩) n c5) := HCA.out.cg
          have p2 : wa.cell? ⟨g5, k * 3, none⟩ = some (.int .i64 x0) := own_cellj HCA.out.gs (k * 3) _ (by rw [tabV_get _ _ _ (by omega), upTo_old _ _ _ _ _ (Nat.le_refl _), X0.out])
          have p3 : wa.cell? ⟨rb, 0, none⟩ = some (.int .i64 y0) := HLR.out.cell 0 _ rfl
          have p4 := own_free HCA.out.gs (k * 3)
          have p5 : g5 < wa.heap.size := own_lt HCA.out.gs g5 rfl
          go_region
          rw [hw0]
          have hc1 := HCA.out.rowj (k * 3) (by omega) (upTo (k * 3 + 1) (fG es) (fG fs) (fG es)) (fun j hj hne => upTo_step (k * 3) _ _ _ j hne)
          rw [upTo_at, X0.out, Y0.out] at hc1
          have HC1 := Aside0.mk (hc1.bw (Bw.refl _).drew)
          have HL1r := Aside0.mk ((HLR.out.other ⟨g5, k * 3, none⟩ (.int .i64 (x0 + y0)) nr).drew)
          have HB1 := Aside0.mk ((HBA.out.setCell (p := ⟨g5, k * 3, none⟩) (own_base HCA.out.gs g5 rfl) (.int .i64 (x0 + y0))).drew)
          obtain ⟨wb, hwb⟩ : ∃ wb, wb = (wa.setCell ⟨g5, k * 3, none⟩ (.int .i64 (x0 + y0))).drew := ⟨_, rfl⟩
          rw [← hwb] at HC1 HL1r HB1 ⊢
          clear hwb hc1 p1 p2 p3 p4 p5
          have p1 : wb.cell? ⟨b, 12, none⟩ = some (.slice (some ⟨g5, 0, none⟩) n c5) := HC1.out.cg
          have p2 : wb.cell? ⟨g5, k * 3 + 1, none⟩ = some (.int .i64 x1) := own_cellj HC1.out.gs (k * 3 + 1) _ (by rw [tabV_get _ _ _ (by omega), upTo_old _ _ _ _ _ (Nat.le_refl _), X1.out])
          have p3 : wb.cell? ⟨rb, 1, none⟩ = some (.int .i64 y1) := HL1r.out.cell 1 _ rfl
          have p4 := own_free HC1.out.gs (k * 3 + 1)
          have p5 : g5 < wb.heap.size := own_lt HC1.out.gs g5 rfl
          go_wp2_with fail
          go_region
          rw [hw1]
          have hc1 := HC1.out.rowj (k * 3 + 1) (by omega) (upTo (k * 3 + 1 + 1) (fG es) (fG fs) (fG es)) (fun j hj hne => upTo_step (k * 3 + 1) _ _ _ j hne)
          rw [upTo_at, X1.out, Y1.out] at hc1
          have HC2 := Aside0.mk (hc1.bw (Bw.refl _).drew)
          have HL2r := Aside0.mk ((HL1r.out.other ⟨g5, k * 3 + 1, none⟩ (.int .i64 (x1 + y1)) nr).drew)
          have HB2 := Aside0.mk ((HB1.out.setCell (p := ⟨g5, k * 3 + 1, none⟩) (own_base HC1.out.gs g5 rfl) (.int .i64 (x1 + y1))).drew)
          obtain ⟨wd, hwd⟩ : ∃ wd, wd = (wb.setCell ⟨g5, k * 3 + 1, none⟩ (.int .i64 (x1 + y1))).drew := ⟨_, rfl⟩
          rw [← hwd] at HC2 HL2r HB2 ⊢
          clear hwd hc1 p1 p2 p3 p4 p5
          have p1 : wd.cell? ⟨b, 12, none⟩ = some (.slice (some ⟨g5, 0, none⟩) n c5) := HC2.out.cg
          have p2 : wd.cell? ⟨g5, k * 3 + 2, none⟩ = some (.int .i64 x2) := own_cellj HC2.out.gs (k * 3 + 2) _ (by rw [tabV_get _ _ _ (by omega), upTo_old _ _ _ _ _ (by omega), X2.out])
          have p3 : wd.cell? ⟨rb, 2, none⟩ = some (.int .i64 y2) := HL2r.out.cell 2 _ rfl
          have p4 := own_free HC2.out.gs (k * 3 + 2)
          have p5 : g5 < wd.heap.size := own_lt HC2.out.gs g5 rfl
          go_wp2_with fail
          go_region
          rw [hw2]
          have hc1 := HC2.out.rowj (k * 3 + 2) (by omega) (upTo (k * 3 + 2 + 1) (fG es) (fG fs) (fG es)) (fun j hj hne => upTo_step (k * 3 + 2) _ _ _ j hne)
          rw [upTo_at, X2.out, Y2.out] at hc1
          have HC3 := Aside0.mk (hc1.bw (Bw.refl _).drew)
          have HB3 := Aside0.mk ((HB2.out.setCell (p := ⟨g5, k * 3 + 2, none⟩) (own_base HC2.out.gs g5 rfl) (.int .i64 (x2 + y2))).drew)
          clear hc1 p1 p2 p3 p4 p5
          go_wp2_with fail
          go_roundw
          case rel => exact ⟨k + 1, by omega, by go_num, ⟨by rw [Nat.succ_mul]; exact HC3.out⟩, HB3⟩
          case measure => simp [intOf]; omega
        · obtain rfl : n = k := by omega
          have HC3 := Aside0.mk (HCk.out.sameF (cK (es ++ fs)) (fG (es ++ fs)) (cP es) (fun _ _ => rfl) (fun j hj => by rw [upTo_new _ _ _ _ j hj, fG_append]) (fun _ _ => rfl))
          have hb13 : wr.cell? ⟨w.heap.size + 1, 13, none⟩ = some (.slice (some ⟨g4, 0, none⟩) m c4) := (HL2.out.bw HBk.out).cell 13 _ rfl
          have hm64 : m ≤ 64 := HME.out.2
          clear hlt
          go_wp2_with fail
          obtain ⟨w3, hw3⟩ : ∃ w3, w3 = wr := ⟨_, rfl⟩
          subst hw3
          clear hb13
          go_loopw [110] (fun iv wr => ∃ k : Nat, k ≤ m ∧ iv = .int .i64 k ∧ Aside0 (IsCen wr W0.heap.size b g5 c5 g6 c6 n m (cK (es ++ fs)) (fG (es ++ fs)) (upTo k (cP es) (cP fs) (cP es)) mx (cNow es + cNow fs)) ∧ Aside0 (Bw W0 wr)) (fun iv _ => m - (intOf iv).toNat)
          case atStart => exact ⟨0, by omega, rfl, ⟨HC3.out.sameF _ _ _ (fun _ _ => rfl) (fun _ _ => rfl) (fun j hj => upTo_old 0 _ _ _ j (Nat.zero_le _))⟩, HBk⟩
          case round =>
            obtain ⟨k, hk, rfl, HCk, HBk⟩ := hrel
            by_cases hlt : k < m
            · obtain ⟨x, hx⟩ : ∃ x, cP es k = x := ⟨_, rfl⟩
              obtain ⟨y, hy⟩ : ∃ y, cP fs k = y := ⟨_, rfl⟩
              have hxy := HPRr.out k
              rw [hx, hy] at hxy
              have hw : wrap64 (x + y) = x + y := by unfold wrap64; omega
              have q2 := own_cellj (pw_own_below HPB.out HBk.out) k (.int .i64 y) (by rw [tabV_get _ _ _ hlt, hy])
              have q1 := HCk.out.cp
              have q3 := own_cellj HCk.out.ps k (.int .i64 x) (by rw [tabV_get _ _ _ hlt, upTo_old _ _ _ _ _ (Nat.le_refl _), hx])
              have q4 := own_free HCk.out.ps k
              have q5 : g6 < wr.heap.size := own_lt HCk.out.ps g6 rfl
              have HX := Aside0.mk hx
              have HY := Aside0.mk hy
              obtain ⟨⟨b1, b2⟩, b3, b4⟩ := hxy
              clear hx hy hw
              go_wp2_with fail
              go_roundw
              case rel =>
                have h := HCk.out.procj k hlt (upTo (k + 1) (cP es) (cP fs) (cP es)) (fun j hj hne => upTo_step k _ _ _ j hne)
                rw [upTo_at, HX.out, HY.out] at h
                exact ⟨k + 1, by omega, by go_num, ⟨h⟩, ⟨HBk.out.setCell (own_base HCk.out.ps g6 rfl) _⟩⟩
              case measure => simp [intOf]; omega
            · obtain rfl : m = k := by omega
              have emx : mx = cMost (es ++ fs) := by rw [cMost_append, ← HMX.out]; rfl
              have HC4 := HCk.out.sameF (cK (es ++ fs)) (fG (es ++ fs)) (cP (es ++ fs)) (fun _ _ => rfl) (fun _ _ => rfl) (fun j hj => by rw [upTo_new _ _ _ _ j hj]; exact cB_append _ _ _)
              rw [emx, ← cNow_append] at HC4
              have HCE := Aside0.mk HC4
              obtain ⟨u0, u1, u2, u3, u4, u5, u6, u7, u8, u9, u10, u11, u12, u13, u14, u15⟩ := HC4.cells
              obtain ⟨⟨z0, z1, z2, z3, z4, z5, z6, z7⟩, ⟨z8, z9, z10, z11, z12, z13, z14, z15⟩, zf, zl⟩ := cen_cells (HL3.out.bw HBk.out)
              clear HC4 hlt emx
              go_wp2_with fail
              refine bodyPost_ret (v := .tuple #[.agg #[.int .i64 (cK (es ++ fs) 0), .int .i64 (cK (es ++ fs) 1), .int .i64 (cK (es ++ fs) 2), .int .i64 (cK (es ++ fs) 3), .int .i64 (cK (es ++ fs) 4), .int .i64 (cK (es ++ fs) 5), .int .i64 (cK (es ++ fs) 6), .int .i64 (cK (es ++ fs) 7), .int .i64 (cK (es ++ fs) 8), .int .i64 (cK (es ++ fs) 9), .int .i64 (cK (es ++ fs) 10), .int .i64 (cK (es ++ fs) 11), .slice (some ⟨g5, 0, none⟩) n c5, .slice (some ⟨g6, 0, none⟩) m c6, .int .i64 (cMost (es ++ fs)), .int .i64 (cNow (es ++ fs))], .int .i64 0]) ?_ rfl ⟨b, g5, c5, g6, c6, rfl, ?_, ?_⟩
              · simp [results, Try.results17, go_sem, z0, z1, z2, z3, z4, z5, z6, z7, z8, z9, z10, z11, z12, z13, z14, z15, zl]
              · refine IsCen.lower ?_ HW0.out.size
                refine HCE.out.chg ?_ (S := fun i => i = w.heap.size + 1 + 1) (fun i hi e => ?_)
                · repeat (first | (with_reducible exact Chg.refl _ _) | (with_reducible refine Chg.setb ?_ ?_ _; rotate_left; exact rfl))
                · have := HCE.out.ge i hi
                  have := HL3.out.lt
                  omega
              · repeat (first | (with_reducible exact HW0.out.trans HBk.out) | (with_reducible refine Bw.setCell ?_ (Nat.le_trans (Nat.le_succ _) (Nat.le_succ _)) _))
end Go.Proofs.Ytclippikdfcgkaa.M
