/- The examples of package cell hold, and the law CellAdds, walked: it answers true. Conditions: the arguments are of their kinds. -/
import Derived.Test.YtclippikdfcgkaaMca
import Derived.Test.YtclippikdfcgkaaMcb
import Derived.Test.YtclippikdfcgkaaMs
namespace Go.Proofs.Ytclippikdfcgkaa.M
open Go.RowKit Go.Proofs.YtclippikdfcgkaaW.PrintWords Go.Proofs.YtclippikdfcgkaaW.PrintLast Go.Proofs.YtclippikdfcgkaaW.PrintMore
set_option linter.unusedVariables false
set_option linter.unusedSimpArgs false

theorem MemS.does_at (m : MemS) (a : Acc) (f : Int → Int × Bool) (h : 0 ≤ a.at_ ∧ a.at_ < m.words.length) :
    m.does a f = { words := m.words.set a.at_.toNat (f (rd m.words a.at_)).1, clock := m.clock + 1, bad := m.bad, last := { a with old := rd m.words a.at_, done := (f (rd m.words a.at_)).2 } } := by
  unfold MemS.does
  rw [if_pos h]
theorem rd_set (xs : List Int) (i v : Int) (h : 0 ≤ i ∧ i < xs.length) : rd (xs.set i.toNat v) i = v := by
  unfold rd
  rw [List.getD_eq_getElem?_getD, List.getElem?_set_self (by omega)]
  rfl
theorem MemS.add_at (m : MemS) (who at_ x : Int) (h : 0 ≤ at_ ∧ at_ < m.words.length) :
    (m.add who at_ x).2 = (rd m.words at_ % 4294967296 + x % 4294967296) % 4294967296 ∧
    (m.add who at_ x).1.words = m.words.set at_.toNat ((rd m.words at_ % 4294967296 + x % 4294967296) % 4294967296) ∧ (m.add who at_ x).1.clock = m.clock + 1 ∧ (m.add who at_ x).1.bad = m.bad := by
  unfold MemS.add
  rw [MemS.does_at m ⟨4, who, at_, 0, x, false⟩ (addF x) h]
  simp only [addF, if_true]
  exact ⟨rd_set _ _ _ h, trivial, trivial, trivial⟩

theorem IsMem.chg {w w1 : World} {base b : Nat} {v : Value} {m : MemS} {S : Nat → Prop} (h : IsMem w base b v m) (hc : Chg S w w1) (hd : ∀ i, MemF b v i → ¬ S i) : IsMem w1 base b v m :=
  ⟨h.1, h.2.1.of_block (hc.block b h.2.1.lt (hd b (.inl rfl))), own_of_block h.2.2.1 (fun k hk => hc.block k (own_lt h.2.2.1 k hk) (hd k (.inr hk))), h.2.2.2⟩
theorem IsMem.lt {w : World} {base b : Nat} {v : Value} {m : MemS} (h : IsMem w base b v m) : ∀ i, MemF b v i → i < w.heap.size := by
  rintro i (rfl | hi)
  · exact h.2.1.lt
  · exact own_lt h.2.2.1 i hi
theorem IsMem.ge {w : World} {base b : Nat} {v : Value} {m : MemS} (h : IsMem w base b v m) : ∀ i, MemF b v i → base ≤ i := by
  rintro i (rfl | hi)
  · exact h.1
  · exact own_base h.2.2.1 i hi
theorem IsMem.lower {w : World} {base base' b : Nat} {v : Value} {m : MemS} (h : IsMem w base b v m) (hb : base' ≤ base) : IsMem w base' b v m :=
  ⟨Nat.le_trans hb h.1, h.2.1, own_weaken h.2.2.1 hb, h.2.2.2⟩
theorem Rows.of_blk {k : IntKind} {w : World} {b : Nat} {T : TypeId} (xs : List Int) (h : Blk w b (xs.map (Value.int k)).toArray T) (hl : xs.length ≤ 1000) : Rows (fun x => [Value.int k x]) 1 w (some ⟨b, 0, none⟩) xs := by
  refine ⟨by omega, fun _ => ⟨_, rfl, fun j x hx i v hv => ?_⟩⟩
  have hi : i = 0 := by have := (List.getElem?_eq_some_iff.1 hv).1; simpa using this
  subst hi
  simp at hv
  subst hv
  rw [add_plain]
  refine h.cell _ _ ?_
  simp [hx]

set_option maxHeartbeats 1000000 in
theorem cawake_calls (w : World) :
    Calls Try.prog 32 #[] w fun e w' => e = .returned (.bool true) ∧ Bw w w' := by
  have HB := Aside0.mk (Bw.refl w)
  go_enter Try.func32, Try.ntmps32
  go_wp2_with fail
  refine (New_calls 1 w (by omega)).mono ?_
  rintro e w1 ⟨b, v, rfl, hM1, hb1⟩
  have HM1 := Aside0.mk hM1
  clear hM1
  go_wp2_with fail
  refine (Add_in _ b v _ 0 0 4294967295 _ HM1.out (by decide) (by omega) (by decide) (by decide)).mono ?_
  rintro e w2 ⟨rfl, hM2, hC2⟩
  have HM2 := Aside0.mk hM2
  have HC2 := Aside0.mk hC2
  clear hM2 hC2
  rw [show ((memOf (List.replicate 1 0)).add 0 0 4294967295).2 = 4294967295 from rfl]
  go_wp2_with fail
  refine (Add_in _ b v _ 0 0 2 _ HM2.out (by decide) (by omega) (by decide) (by decide)).mono ?_
  rintro e w3 ⟨rfl, hM3, hC3⟩
  have HM3 := Aside0.mk hM3
  have HC3 := Aside0.mk hC3
  clear hM3 hC3
  rw [show (((memOf (List.replicate 1 0)).add 0 0 4294967295).1.add 0 0 2).2 = 1 from rfl]
  go_wp2_with fail
  refine (Clock_calls _ b v _ _ HM3.out).mono ?_
  rintro e w4 ⟨rfl, hb4⟩
  rw [show (((memOf (List.replicate 1 0)).add 0 0 4294967295).1.add 0 0 2).1.clock = 2 from rfl]
  go_wp2_with fail
  go_ret
  have hS : ∀ i, MemF b v i → w.heap.size ≤ i := by
    rintro i (rfl | h)
    · exact HM1.out.1
    · exact own_base HM1.out.2.2.1 i h
  exact ⟨rfl, ((HC3.out.below (HC2.out.below hb1 hS) hS)).trans hb4⟩
end Go.Proofs.Ytclippikdfcgkaa.M
