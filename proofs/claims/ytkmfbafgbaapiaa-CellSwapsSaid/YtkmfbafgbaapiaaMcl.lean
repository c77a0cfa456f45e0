/- The examples of package cell hold, and the law CellAdds, walked: it answers true. Conditions: the arguments are of their kinds. -/
import Derived.Test.YtkmfbafgbaapiaaMca
import Derived.Test.YtkmfbafgbaapiaaMcb
import Derived.Test.YtkmfbafgbaapiaaMs
namespace Go.Proofs.Ytkmfbafgbaapiaa.M
open Go.RowKit Go.Proofs.YtkmfbafgbaapiaaW.PrintWords Go.Proofs.YtkmfbafgbaapiaaW.PrintLast Go.Proofs.YtkmfbafgbaapiaaW.PrintMore
set_option linter.unusedVariables false
set_option linter.unusedSimpArgs false

theorem MemS.does_at (m : MemS) (a : Acc) (f : Int → Int × Bool) (h : 0 ≤ a.at_ ∧ a.at_ < m.words.length) :
    m.does a f = { words := m.words.set a.at_.toNat (f (rd m.words a.at_)).1, clock := m.clock + 1, bad := m.bad, last := { a with old := rd m.words a.at_, done := (f (rd m.words a.at_)).2 } } := by
  unfold MemS.does
  rw [if_pos h]
theorem rd_set (xs : List Int) (i v : Int) (h : 0 ≤ i ∧ i < xs.length) : rd (xs.set i.toNat v) i = v := by
  unfold rd
  rw [List.getD_eq_getElem?_getD, List.getElem?_set_self (by omega)]
  rfl
theorem MemS.add_at (m : MemS) (who at_ x : Int) (h : 0 ≤ at_ ∧ at_ < m.words.length) :
    (m.add who at_ x).2 = (rd m.words at_ % 4294967296 + x % 4294967296) % 4294967296 ∧
    (m.add who at_ x).1.words = m.words.set at_.toNat ((rd m.words at_ % 4294967296 + x % 4294967296) % 4294967296) ∧ (m.add who at_ x).1.clock = m.clock + 1 ∧ (m.add who at_ x).1.bad = m.bad := by
  unfold MemS.add
  rw [MemS.does_at m ⟨4, who, at_, 0, x, false⟩ (addF x) h]
  simp only [addF, if_true]
  exact ⟨rd_set _ _ _ h, trivial, trivial, trivial⟩

set_option maxHeartbeats 1000000 in
theorem cawake_calls (w : World) :
    Calls Try.prog 25 #[] w fun e w' => e = .returned (.bool true) ∧ Bw w w' := by
  have HB := Aside0.mk (Bw.refl w)
  go_enter Try.func25, Try.ntmps25
  go_wp2_with fail
  refine (New_calls 1 w (by omega)).mono ?_
  rintro e w1 ⟨b, v, rfl, hM1, hb1⟩
  have HM1 := Aside0.mk hM1
  clear hM1
  go_wp2_with fail
  refine (Add_in _ b v _ 0 0 4294967295 _ HM1.out (by decide) (by omega) (by decide) (by decide)).mono ?_
  rintro e w2 ⟨rfl, hM2, hC2⟩
  have HM2 := Aside0.mk hM2
  have HC2 := Aside0.mk hC2
  clear hM2 hC2
  rw [show ((memOf (List.replicate 1 0)).add 0 0 4294967295).2 = 4294967295 from rfl]
  go_wp2_with fail
  refine (Add_in _ b v _ 0 0 2 _ HM2.out (by decide) (by omega) (by decide) (by decide)).mono ?_
  rintro e w3 ⟨rfl, hM3, hC3⟩
  have HM3 := Aside0.mk hM3
  have HC3 := Aside0.mk hC3
  clear hM3 hC3
  rw [show (((memOf (List.replicate 1 0)).add 0 0 4294967295).1.add 0 0 2).2 = 1 from rfl]
  go_wp2_with fail
  refine (Clock_calls _ b v _ _ HM3.out).mono ?_
  rintro e w4 ⟨rfl, hb4⟩
  rw [show (((memOf (List.replicate 1 0)).add 0 0 4294967295).1.add 0 0 2).1.clock = 2 from rfl]
  go_wp2_with fail
  go_ret
  have hS : ∀ i, MemF b v i → w.heap.size ≤ i := by
    rintro i (rfl | h)
    · exact HM1.out.1
    · exact own_base HM1.out.2.2.1 i h
  exact ⟨rfl, ((HC3.out.below (HC2.out.below hb1 hS) hS)).trans hb4⟩
end Go.Proofs.Ytkmfbafgbaapiaa.M
