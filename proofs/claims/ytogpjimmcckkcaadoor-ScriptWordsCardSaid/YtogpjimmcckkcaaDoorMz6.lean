/- Programs (package code): what All answers, and slices.Clone of instructions; what args and Word answer. Conditions: sizes below 2^18. -/
import Derived.Test.YtogpjimmcckkcaaDoorMz5
import Derived.Test.YtogpjimmcckkcaaDoorMt1
import Derived.WalkSpells
namespace Go.Proofs.YtogpjimmcckkcaaDoor.M
open Go.RowKit Go.Proofs.YtogpjimmcckkcaaDoorW.PrintWords Go.Proofs.YtogpjimmcckkcaaDoorW.PrintLast Go.Proofs.YtogpjimmcckkcaaDoorW.PrintMore
set_option linter.unusedVariables false
set_option linter.unusedSimpArgs false

def rowAt (pss : List (List (Int × Int))) (p : Int) : List (Int × Int) := if p < 0 then [] else pss.getD p.toNat []
theorem rowAt_len (pss : List (List (Int × Int))) (p : Int) : longOf pss p = (rowAt pss p).length := by unfold longOf rowAt; split <;> rfl

set_option maxHeartbeats 1000000 in
theorem CloneI_calls (A : Option Addr) (cap : Nat) (xs : List (Int × Int)) (w : World) (hx : Rows encP 2 w A xs) (hs : xs.length ≤ 262144) :
    Calls Tryd.prog 79 #[.slice A xs.length cap] w fun e w' => ∃ v, e = .returned v ∧ w'.ownsRow w.heap.size 23 2 v xs.length (xs.flatMap encP) ∧ Bw w w' := by
  have HB := Aside0.mk (Bw.refl w)
  have hnil := fun (W : World) (a : Option Addr) (n c : Nat) => Lib.run_eql_slice_nil (P := Tryd.prog) W 73 23 a n c 0 0 Tryd.underlying73
  rcases A with _ | ad
  · have h0 : xs = [] := by
      apply Classical.byContradiction
      intro hn
      obtain ⟨ad, e, _⟩ := hx.2 hn
      cases e
    subst h0
    clear hx
    go_enter Tryd.func79, Tryd.ntmps79
    go_wp2
    go_ret
    exact ⟨_, rfl, own_nil _ _ _ _, HB.out⟩
  · have HO := Aside0.mk (show (w.alloc (.cells #[] 23)).ownsRow w.heap.size 23 2 (.slice (some ⟨w.heap.size, 0, none⟩) 0 0) 0 [] from World.ownsRow_made w #[] 0 (Nat.le_refl _) (by simp [maxLen]) (by simp))
    have HX2 := Aside0.mk (hx.bw ((Bw.refl w).alloc (.cells #[] 23)))
    clear hx
    go_enter Tryd.func79, Tryd.ntmps79
    go_wp2_with (at_builtin; go_loud (refine append_rows encP (w0 := w) w.heap.size rfl (.tmp 5) (.tmp 6) 73 23 (.agg #[.int .i64 0, .int .i64 0]) 2 16 rfl Tryd.underlying73 infoIn rfl (by omega) (by omega) (.slice (some ⟨w.heap.size, 0, none⟩) 0 0) 0 [] xs ad cap rfl rfl (fun _ => rfl) (by simp [Value.oneCell']) HO.out HX2.out (HB.out.alloc _) (by simp) (by omega) ?_); intro v1 w2 hown2 hbel2 hg2 hat2)
    go_ret
    exact ⟨_, rfl, by simpa using hown2, hbel2⟩

section
variable {w : World} {base b : Nat} {v : Value} {us : List Value} {pss : List (List (Int × Int))}
theorem All_calls (p : Int) (h : IsCode w base b v us pss) (hsm : ∀ ps ∈ pss, ps.length ≤ 262144) : Calls Tryd.prog 60 #[.pointer (some ⟨b, 0, none⟩), .int .i64 p] w fun e w' => ∃ A c, e = .returned (.slice A (rowAt pss p).length c) ∧ Rows encP 2 w' A (rowAt pss p) ∧ Bw w w' := by
  have HB := Aside0.mk (Bw.refl w)
  have H := Aside0.mk h
  by_cases hp : p < 0
  · have d : decide (p < 0) = true := by simpa using hp
    have HL := Aside0.mk (show rowAt pss p = [] by unfold rowAt; rw [if_pos hp])
    clear hp h
    go_enter Tryd.func60, Tryd.ntmps60
    go_wp2_with fail
    go_ret
    rw [HL.out]
    exact ⟨_, _, rfl, Rows.nil, HB.out⟩
  · have d : decide (p < 0) = false := by simpa using hp
    by_cases hq : (pss.length : Int) ≤ p
    · have d2 : decide ((pss.length : Int) ≤ p) = true := by simpa using hq
      have HL := Aside0.mk (show rowAt pss p = [] by
        unfold rowAt
        rw [if_neg hp, List.getD_eq_getElem?_getD, List.getElem?_eq_none (by omega)]; rfl)
      clear hp hq h
      go_enter Tryd.func60, Tryd.ntmps60
      go_wp2_with fail
      refine (Len_calls H.out).mono ?_
      rintro e w1 ⟨rfl, hb1⟩
      go_wp2_with fail
      go_ret
      rw [HL.out]
      exact ⟨_, _, rfl, Rows.nil, HB.out.trans hb1⟩
    · have d2 : decide ((pss.length : Int) ≤ p) = false := by simpa using hq
      obtain ⟨n, rfl⟩ := Int.eq_ofNat_of_zero_le (show 0 ≤ p by omega)
      have hn : n < pss.length := by omega
      have HL := Aside0.mk (show rowAt pss n = pss[n] by
        unfold rowAt
        rw [if_neg hp, List.getD_eq_getElem?_getD, Int.toNat_natCast, List.getElem?_eq_getElem hn]; rfl)
      have HN := Aside0.mk (List.getElem?_eq_getElem hn)
      have hps1 := hsm _ (List.getElem_mem hn)
      obtain ⟨ps, hps⟩ : ∃ ps, ps = pss[n] := ⟨_, rfl⟩
      rw [← hps] at HL HN hps1
      clear hps hp hq h d2 hsm
      have d2 : decide ((pss.length : Int) ≤ (n : Int)) = false := by simp; omega
      go_enter Tryd.func60, Tryd.ntmps60
      go_wp2_with fail
      refine (Len_calls H.out).mono ?_
      rintro e w1 ⟨rfl, hb1⟩
      obtain ⟨A, c, hc, hr⟩ := (H.out.bw hb1).rows
      obtain ⟨ad, B, c', rfl, hck, hrow⟩ := hr.at_ n ps HN.out
      have HW1 := Aside0.mk (HB.out.trans hb1)
      have HR := Aside0.mk hrow
      clear hr hrow hb1
      go_wp2_with fail
      refine (CloneI_calls B c' ps _ HR.out hps1).mono ?_
      rintro e w2 ⟨v2, rfl, hown, hb2⟩
      obtain ⟨A3, c3, rfl, hrow⟩ := Rows.own (enc := encP) (fun _ => rfl) hown rfl (own_len hown)
      have HR2 := Aside0.mk hrow
      clear hown hrow
      go_wp2_with fail
      go_ret
      rw [HL.out]
      exact ⟨_, _, rfl, HR2.out, HW1.out.trans hb2⟩
end
end Go.Proofs.YtogpjimmcckkcaaDoor.M
