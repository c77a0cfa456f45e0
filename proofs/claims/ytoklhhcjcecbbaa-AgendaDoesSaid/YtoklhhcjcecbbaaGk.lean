/- Agenda: New, Len, First; of none. Conditions: as in the texts before. -/
import Derived.Test.YtoklhhcjcecbbaaGj
namespace Go.Proofs.Ytoklhhcjcecbbaa.M
open Go.RowKit Go.Maps Go.Proofs.YtoklhhcjcecbbaaW.PrintWords Go.Proofs.YtoklhhcjcecbbaaW.PrintLast Go.Proofs.YtoklhhcjcecbbaaW.PrintMore
set_option linter.unusedVariables false
set_option linter.unusedSimpArgs false
structure IsAg (w : World) (base ab b mb : Nat) (v : Value) (L : List It) : Prop where
  le : base ≤ ab
  blk : Blk w ab #[.pointer (some ⟨b, 0, none⟩)] 91
  pl : IsPl w base b mb v L
theorem two_st {W : World} {b : Nat} {T : TypeId} {x y : Int} (h : Blk W b #[.int .i64 x, .int .i64 y] T) : W.cell? ⟨b, 0, none⟩ = some (.int .i64 x) ∧ W.cell? ⟨b, 1, none⟩ = some (.int .i64 y) ∧ (∀ i, W.frozen? ⟨b, i, none⟩ = false) ∧ b < W.heap.size :=
  ⟨h.cell 0 _ rfl, h.cell 1 _ rfl, h.free, h.lt⟩
section
variable {w w1 : World} {base ab b mb : Nat} {v : Value} {L : List It}
theorem IsAg.bw (h : IsAg w base ab b mb v L) (hb : Bw w w1) : IsAg w1 base ab b mb v L := ⟨h.le, h.blk.bw hb, h.pl.bw hb⟩
theorem agNew_calls (w : World) : Calls Try.prog 9 #[] w fun e w' => ∃ ab b mb, e = .returned (.pointer (some ⟨ab, 0, none⟩)) ∧ IsAg w' w.heap.size ab b mb (.slice none 0 0) [] ∧ Bw w w' := by
  have HB := Aside0.mk (Bw.refl w)
  obtain ⟨W1, hW1⟩ : ∃ W1, W1 = w.alloc (.map #[] 0) := ⟨_, rfl⟩
  have HM := Aside0.mk (show isMi W1 w.heap.size 0 (.map []) by rw [hW1]; exact World.ownsMap_made w Try.prog 3 (plainElem (H := Unit) Try.prog 3))
  have HB1 := Aside0.mk (show Bw w W1 by rw [hW1]; exact HB.out.alloc _)
  go_enter Try.func9, Try.ntmps9
  go_wp2_with fail
  rw [show Sem.run Try.prog (Instr.makeMap 87 none) w = .ok (.map (some w.heap.size)) (w.alloc (.map #[] 0)) from rfl, ← hW1]
  go_wp2_with fail
  go_ret
  have HP := Blk.new W1 #[.slice none 0 0, .map (some w.heap.size)] 89
  have HA := Blk.new (W1.alloc (.cells #[.slice none 0 0, .map (some w.heap.size)] 89)) #[.pointer (some ⟨W1.heap.size, 0, none⟩)] 91
  have e1 : w.heap.size + 1 = W1.heap.size := by rw [hW1]; simp
  have e2 : (W1.alloc (.cells #[.slice none 0 0, .map (some w.heap.size)] 89)).heap.size = W1.heap.size + 1 := by simp
  rw [e2] at HA
  rw [← hW1]
  simp only [e1]
  refine ⟨_, W1.heap.size, w.heap.size, rfl, ⟨?_, HA, ⟨_, ⟨⟨HB1.out.size, Nat.le_refl _⟩, HP.alloc _, own_nil _ _ _ _, (HM.out.alloc _).alloc _, ⟨fun i x h => by simp at h, fun k hk => by simp [has]⟩, by simp, by simp, by simp⟩⟩⟩, (HB1.out.alloc _).alloc _⟩
  have := HB1.out.size
  simp
  omega
theorem agLen_nil (w : World) : Calls Try.prog 14 #[.pointer none] w fun e w' => e = .returned (.int .i64 0) ∧ Bw w w' := by
  have HB := Aside0.mk (Bw.refl w)
  go_enter Try.func14, Try.ntmps14
  go_wp2_with fail
  go_ret
  exact ⟨rfl, HB.out⟩
theorem agLen_calls (h : IsAg w base ab b mb v L) : Calls Try.prog 14 #[.pointer (some ⟨ab, 0, none⟩)] w fun e w' => e = .returned (.int .i64 L.length) ∧ Bw w w' := by
  have c0 := h.blk.cell 0 (.pointer (some ⟨b, 0, none⟩)) rfl
  have HL := Aside0.mk (hLen h.pl)
  clear h
  go_enter Try.func14, Try.ntmps14
  go_wp2_with fail
  refine (HL.out).mono ?_
  rintro e w1 ⟨rfl, hb1⟩
  go_wp2_with fail
  go_ret
  exact ⟨rfl, hb1⟩
def firstV (x : It) (is : Bool) : Value := .tuple #[itV x, .bool is]
theorem res_first {W : World} {c : Nat} {T : TypeId} {x y : Int} {ok : Bool} {tmps : Array Value} (h2 : tmps[2]?.getD undef = .pointer (some ⟨c, 0, none⟩)) (h3 : tmps[3]?.getD undef = .bool ok) (h : Blk W c #[.int .i64 x, .int .i64 y] T) :
    (results Try.f19 tmps).run Try.prog W = .ok (firstV (x, y) ok) W := by
  have c0 := h.cell 0 (.int .i64 x) rfl
  have c1 := h.cell 1 (.int .i64 y) rfl
  simp [results, Try.results19, h2, h3, c0, c1, go_sem, firstV]
theorem agFirst_nil (w : World) : Calls Try.prog 19 #[.pointer none] w fun e w' => e = .returned (firstV (0, 0) false) ∧ Bw w w' := by
  have HB := Aside0.mk (Bw.refl w)
  obtain ⟨w0, hw0⟩ : ∃ w0, w0 = w.alloc (.cells #[.int .i64 0, .int .i64 0] 30) := ⟨_, rfl⟩
  have HB0 := Aside0.mk (show Bw w w0 by rw [hw0]; exact (Bw.refl w).alloc _)
  have HK0 := Aside0.mk (show Blk w0 w.heap.size #[.int .i64 0, .int .i64 0] 30 by rw [hw0]; exact Blk.new w _ _)
  go_enter Try.func19, Try.ntmps19
  go_wp2_with fail
  rw [← hw0]
  refine (agLen_nil _).mono ?_
  rintro e w1 ⟨rfl, hb1⟩
  obtain ⟨a0, a1, af, al⟩ := two_st (HK0.out.bw hb1)
  have HB1 := Aside0.mk (HB0.out.trans hb1)
  have HK1 := Aside0.mk (HK0.out.bw hb1)
  clear hb1
  go_wp2_with fail
  refine bodyPost_ret (res_first rfl rfl ((HK1.out.set 0 (.int .i64 0)).set 1 (.int .i64 0))) rfl ⟨rfl, (HB1.out.setCell (Nat.le_refl _) _).setCell (Nat.le_refl _) _⟩
end
end Go.Proofs.Ytoklhhcjcecbbaa.M
