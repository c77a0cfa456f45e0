/- Package flow: New; slices.Clone of accesses. Condition: no more than 2^18 accesses. -/
import Derived.Test.YtclippikdfcgkaaMf6
import Derived.Test.YtclippikdfcgkaaMne
namespace Go.Proofs.Ytclippikdfcgkaa.M
open Go.RowKit Go.Proofs.YtclippikdfcgkaaW.PrintWords Go.Proofs.YtclippikdfcgkaaW.PrintLast Go.Proofs.YtclippikdfcgkaaW.PrintMore
set_option linter.unusedVariables false
set_option linter.unusedSimpArgs false
section
variable {w w1 : World} {base b : Nat} {s : ChS} {tv : Value} {A : Option Addr} {cap : Nat} {vg : Value} {mb bm : Nat} {vm : Value} {m : MemS}
theorem infoAc : (Try.prog.info? 76).map (fun i => (i.zero, i.size, i.bytes)) = some (some (.agg #[.int .i64 0, .int .i64 0, .int .i64 0, .int .u64 0, .int .u64 0, .bool false]), 6, 48) := by kernel_rfl
set_option maxHeartbeats 1000000 in
theorem CloneAc_calls (A : Option Addr) (cap : Nat) (xs : List Acc) (w : World) (hx : Rows encAc 6 w A xs) (hs : xs.length ≤ 262144) :
    Calls Try.prog 112 #[.slice A xs.length cap] w fun e w' => ∃ v, e = .returned v ∧ w'.ownsRow w.heap.size 76 6 v xs.length (xs.flatMap encAc) ∧ Bw w w' := by
  have HB := Aside0.mk (Bw.refl w)
  have hnil := fun (W : World) (a : Option Addr) (n c : Nat) => Lib.run_eql_slice_nil (P := Try.prog) W 113 76 a n c 0 0 Try.underlying113
  rcases A with _ | ad
  · have h0 : xs = [] := by
      apply Classical.byContradiction
      intro hn
      obtain ⟨ad, e, _⟩ := hx.2 hn
      cases e
    subst h0
    clear hx
    go_enter Try.func112, Try.ntmps112
    go_wp2
    go_ret
    exact ⟨_, rfl, own_nil _ _ _ _, HB.out⟩
  · have HO := Aside0.mk (show (w.alloc (.cells #[] 76)).ownsRow w.heap.size 76 6 (.slice (some ⟨w.heap.size, 0, none⟩) 0 0) 0 [] from World.ownsRow_made w #[] 0 (Nat.le_refl _) (by simp [maxLen]) (by simp))
    have HX2 := Aside0.mk (hx.bw ((Bw.refl w).alloc (.cells #[] 76)))
    clear hx
    go_enter Try.func112, Try.ntmps112
    go_wp2_with (at_builtin; go_loud (refine append_rows encAc (w0 := w) w.heap.size rfl (.tmp 5) (.tmp 6) 113 76 (.agg #[.int .i64 0, .int .i64 0, .int .i64 0, .int .u64 0, .int .u64 0, .bool false]) 6 48 rfl Try.underlying113 infoAc rfl (by omega) (by omega) (.slice (some ⟨w.heap.size, 0, none⟩) 0 0) 0 [] xs ad cap rfl rfl (fun _ => rfl) (by simp [Value.oneCell']) HO.out HX2.out (HB.out.alloc _) (by simp) (by omega) ?_); intro v1 w2 hown2 hbel2 hg2 hat2)
    go_ret
    exact ⟨_, rfl, by simpa using hown2, hbel2⟩
def ChS.new (who : Int) (xs : List Acc) : ChS := ⟨who, 0, 0, 0, 0, false, xs, []⟩
/-- A new chain. -/
def newS (who : Int) (xs : List Acc) : ChS := goS (ChS.new who xs) xs
set_option maxHeartbeats 1000000 in
theorem flowOf_calls (b : Nat) (x : Int) (v0 : Value) (w : World) (k0 : w.cell? ⟨b, 0, none⟩ = some v0) (f0 : w.frozen? ⟨b, 0, none⟩ = false) :
    Calls Try.prog 113 #[.pointer (some ⟨b, 0, none⟩), .int .i64 x] w fun e w' => e = .returned (.tuple #[]) ∧ w.setCell ⟨b, 0, none⟩ (.int .i64 x) = w' := by
  go_enter Try.func113, Try.ntmps113
  go_wp2_with fail
  go_end0
  exact ⟨rfl, rfl⟩
theorem RestOk.own {v : Value} {xs : List Acc} (h : w.ownsRow base 76 6 v xs.length (xs.flatMap encAc)) (hs : xs.length ≤ 262144) : ∃ A cap, v = .slice A xs.length cap ∧ RestOk w A cap xs := by
  rcases h.2 with ⟨e, e2⟩ | ⟨g, cap, cur, e, h1, h2, h3, h4, h5, h6⟩
  · have : xs = [] := List.length_eq_zero_iff.1 e2
    subst this
    exact ⟨_, _, e, by simp, by omega, fun h => absurd rfl h⟩
  · refine ⟨_, _, e, h3, by simp only [maxLen] at h4; omega, fun _ => ⟨g, base, cap, 0, xs, by simp, ?_, rfl⟩⟩
    rw [e] at h
    exact h
set_option maxHeartbeats 1000000 in
theorem flowNew_calls (who : Int) (A : Option Addr) (cap : Nat) (xs : List Acc) (w : World) (hx : Rows encAc 6 w A xs) (hs : xs.length ≤ 262144) :
    Calls Try.prog 66 #[.int .i64 who, .slice A xs.length cap] w fun e w' => ∃ b tv A cap, e = .returned (.pointer (some ⟨b, 0, none⟩)) ∧ IsChain w' w.heap.size b (newS who xs) tv A cap (.slice none 0 0) ∧ Bw w w' := by
  have HB := Aside0.mk (Bw.refl w)
  have HX := Aside0.mk hx
  clear hx
  go_enter Try.func66, Try.ntmps66
  go_wp2_with fail
  refine (CloneAc_calls A cap xs _ HX.out hs).mono ?_
  rintro e w1 ⟨v, rfl, hown, hb1⟩
  obtain ⟨A', cap', rfl, hR⟩ := RestOk.own hown hs
  have HR := Aside0.mk hR
  have HO := Aside0.mk hown
  have HB := Aside0.mk (HB.out.trans hb1)
  clear hown hR
  go_wp2_with fail
  have HBK := Aside0.mk (Blk.new w1 #[.int .i64 0, .int .i64 0, .int .i64 0, .int .u64 0, .int .u64 0, Value.nilFunc, .bool false, Value.nilIface, Value.nilFunc, .slice A' xs.length cap', .slice none 0 0, .slice none 0 0] 185)
  obtain ⟨w2, hw2⟩ : ∃ w2, w2 = w1.alloc (.cells #[.int .i64 0, .int .i64 0, .int .i64 0, .int .u64 0, .int .u64 0, Value.nilFunc, .bool false, Value.nilIface, Value.nilFunc, .slice A' xs.length cap', .slice none 0 0, .slice none 0 0] 185) := ⟨_, rfl⟩
  have hb2 : Bw w1 w2 := by rw [hw2]; exact (Bw.refl w1).alloc _
  rw [← hw2] at HBK ⊢
  obtain ⟨b, hb⟩ : ∃ b, b = w1.heap.size := ⟨_, rfl⟩
  rw [← hb] at HBK ⊢
  have HGE := Aside0.mk (show w.heap.size ≤ b by rw [hb]; exact HB.out.size)
  have HR2 := Aside0.mk (HR.out.keepT (Chg.of_bw hb2) (OnlyT.none w1))
  have HB := Aside0.mk (HB.out.trans hb2)
  clear hb2 hw2 hb
  refine (flowOf_calls b who (.int .i64 0) w2 (HBK.out.cell 0 _ rfl) (HBK.out.free 0)).mono ?_
  rintro e w3 ⟨rfl, hw3⟩
  have C3 : Chg (fun i => i = b) w2 w3 := by rw [← hw3]; exact (Chg.refl (fun i => i = b) w2).setb (k := b) (i := 0) rfl (.int .i64 who)
  have HI3 := Aside0.mk (show IsChain w3 w.heap.size b (ChS.new who xs) Value.nilFunc A' cap' (.slice none 0 0) from
    ⟨HGE.out, by rw [← hw3]; exact HBK.out.set 0 (.int .i64 who), HR2.out.keepT C3 (OnlyT.blk HBK.out), own_nil _ _ _ _, by unfold ThenOk; rw [if_pos (show (ChS.new who xs).kind = 0 from rfl)]; trivial, ⟨.func 0, #[], #[], .inr rfl⟩⟩)
  have HC3 := Aside0.mk C3
  have HW3 := Aside0.mk (C3.below HB.out (fun i e => e ▸ HGE.out))
  clear C3 hw3
  go_wp2_with fail
  refine (goOn_calls xs (ChS.new who xs) _ _ _ w3 rfl rfl HI3.out).mono ?_
  rintro e w4 ⟨rfl, tv4, A4, cap4, hch, hcg⟩
  have HCH := Aside0.mk hch
  have HW4 := Aside0.mk (hcg.below HW3.out (fun i e => e ▸ HGE.out))
  clear hch hcg
  go_wp2_with fail
  go_ret
  exact ⟨_, _, _, _, rfl, HCH.out, HW4.out⟩
end
end Go.Proofs.Ytclippikdfcgkaa.M
