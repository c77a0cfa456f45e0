/- The law package of flow: awake. No condition. -/
import Derived.Test.YtclippikdfcgkaaMf7
namespace Go.Proofs.Ytclippikdfcgkaa.M
open Go.RowKit Go.Proofs.YtclippikdfcgkaaW.PrintWords Go.Proofs.YtclippikdfcgkaaW.PrintLast Go.Proofs.YtclippikdfcgkaaW.PrintMore
set_option linter.unusedVariables false
set_option linter.unusedSimpArgs false
section
variable {w w1 : World} {base b : Nat} {s : ChS} {tv : Value} {A : Option Addr} {cap : Nat} {vg : Value} {mb bm : Nat} {vm : Value} {m : MemS}
def awl : List Acc := [⟨1, 0, 0, 0, 0, false⟩, ⟨2, 0, 1, 0, 5, false⟩]
theorem awRows (w : World) : Rows encAc 6 (w.alloc (.cells #[.int .i64 1, .int .i64 0, .int .i64 0, .int .u64 0, .int .u64 0, .bool false, .int .i64 2, .int .i64 0, .int .i64 1, .int .u64 0, .int .u64 5, .bool false] 76)) (some ⟨w.heap.size, 0, none⟩) awl := by
  have h : (w.alloc (.cells #[.int .i64 1, .int .i64 0, .int .i64 0, .int .u64 0, .int .u64 0, .bool false, .int .i64 2, .int .i64 0, .int .i64 1, .int .u64 0, .int .u64 5, .bool false] 76)).ownsRow w.heap.size 76 6 (.slice (some ⟨w.heap.size, 0, none⟩) 2 2) 2 (awl.flatMap encAc) := ⟨rfl, .inr ⟨_, 2, #[.int .i64 1, .int .i64 0, .int .i64 0, .int .u64 0, .int .u64 0, .bool false, .int .i64 2, .int .i64 0, .int .i64 1, .int .u64 0, .int .u64 5, .bool false], rfl, Nat.le_refl _, Blk.new w _ _, Nat.le_refl _, by decide, rfl, rfl⟩⟩
  obtain ⟨A, c, e, hR⟩ := Rows.own (enc := encAc) (xs := awl) (fun _ => rfl) h rfl (by simp [awl])
  injection e with e1 _ _
  rw [e1]
  exact hR
def aw0 : MemS := memOf (List.replicate 2 0)
def aw1 : ChS := newS 0 awl
def aw2 : ChS × MemS := aw1.step aw0
def aw3 : ChS × MemS := aw2.1.step aw2.2
theorem aw1_kind : aw1.kind = 1 := by decide
theorem aw2_kind : aw2.1.kind = 2 := by decide
theorem aw3_kind : aw3.1.kind = 0 := by decide
theorem IsChain.down {N N' : Nat} (h : IsChain w N b s tv A cap vg) (hn : N' ≤ N) : IsChain w N' b s tv A cap vg :=
  ⟨Nat.le_trans hn h.le, h.blk, h.rest, own_weaken h.got hn, h.then_, h.fun_⟩
theorem IsChain.off {N : Nat} (h : IsChain w N b s tv A cap vg) (hm : ∀ i, MemF bm vm i → i < N) : ∀ i, ChF b vg i → MemF bm vm i → False := fun i hi hj => by
  have := h.ge i hi
  have := hm i hj
  omega
set_option maxHeartbeats 1000000 in
theorem fawake_calls (w : World) :
    Calls Try.prog 65 #[] w fun e w' => e = .returned (.bool true) ∧ Bw w w' := by
  have HB := Aside0.mk (Bw.refl w)
  go_enter Try.func65, Try.ntmps65
  go_wp2_with fail
  refine (New_calls 2 w (by omega)).mono ?_
  rintro e w1 ⟨bm, vm, rfl, hM1, hb1⟩
  have HB := Aside0.mk (HB.out.trans hb1)
  have HM := Aside0.mk hM1
  clear hM1
  have HML := Aside0.mk HM.out.lt
  have HSZ := Aside0.mk hb1.size
  go_wp2_with fail
  refine (flowNew_calls 0 _ 2 awl _ (awRows w1) (by simp [awl])).mono ?_
  rintro e w2 ⟨b, tv, A, cap, rfl, hch, hb2⟩
  have hb2 := ((Bw.refl w1).alloc _).trans hb2
  have HM := Aside0.mk (HM.out.bw hb2)
  have HB := Aside0.mk (HB.out.trans hb2)
  have H := Aside0.mk (hch.down (N' := w1.heap.size) (by simp))
  clear hch hb2 hb1
  go_wp2_with fail
  refine (cStep_calls H.out HM.out (H.out.off HML.out) (by unfold MemS.ok; decide) (by decide) (by decide) (by decide) (by decide)).mono ?_
  rintro e w3 ⟨rfl, tv3, A3, cap3, vg3, h3, hm3, hc3, hn3⟩
  have H3 := Aside0.mk h3
  have HM3 := Aside0.mk hm3
  have HC3 := Aside0.mk hc3
  clear h3 hm3 hc3 hn3
  rw [show (((newS 0 awl).step (memOf (List.replicate 2 0))).fst.kind == 0) = false by decide]
  go_wp2_with fail
  refine (cStep_calls H3.out HM3.out (H3.out.off HML.out) (by unfold MemS.ok; decide) (by decide) (by decide) (by decide) (by decide)).mono ?_
  rintro e w4 ⟨rfl, tv4, A4, cap4, vg4, h4, hm4, hc4, hn4⟩
  have H4 := Aside0.mk h4
  have HM4 := Aside0.mk hm4
  have HC4 := Aside0.mk hc4
  clear h4 hm4 hc4 hn4
  rw [show ((((newS 0 awl).step (memOf (List.replicate 2 0))).fst.step ((newS 0 awl).step (memOf (List.replicate 2 0))).2).fst.kind == 0) = true by decide]
  go_wp2_with fail
  refine (Peek_calls _ bm vm _ 1 _ HM4.out).mono ?_
  rintro e w5 ⟨rfl, hb5⟩
  have H5 := Aside0.mk (H4.out.bw hb5)
  have HB5 := Aside0.mk hb5
  clear hb5
  rw [show ((((newS 0 awl).step (memOf (List.replicate 2 0))).fst.step ((newS 0 awl).step (memOf (List.replicate 2 0))).2).2.peek 1).1 = 5 by decide]
  go_wp2_with fail
  refine (cDone_calls b _ _ (H5.out.blk.cell 1 _ rfl) (H5.out.blk.cell 7 _ rfl)).mono ?_
  rintro e w6 ⟨rfl, hb6⟩
  rw [show ((((newS 0 awl).step (memOf (List.replicate 2 0))).fst.step ((newS 0 awl).step (memOf (List.replicate 2 0))).2).fst.kind == 0) = true by decide]
  go_wp2_with fail
  go_ret
  have hS : ∀ i, MemF bm vm i → w.heap.size ≤ i := HM.out.ge
  have hW3 := HC3.out.below HB.out (fun i hi => hi.elim (fun h => Nat.le_trans HSZ.out (H.out.ge i h)) (hS i))
  have hW4 := HC4.out.below hW3 (fun i hi => hi.elim (fun h => Nat.le_trans HSZ.out (H3.out.ge i h)) (hS i))
  exact ⟨rfl, (hW4.trans HB5.out).trans hb6⟩
end
end Go.Proofs.Ytclippikdfcgkaa.M
