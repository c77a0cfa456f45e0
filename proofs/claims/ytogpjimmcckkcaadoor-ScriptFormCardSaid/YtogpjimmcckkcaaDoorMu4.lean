/- Script: the law ScriptReads. Conditions: what the library's variables hold. -/
import Derived.Test.YtogpjimmcckkcaaDoorMu3
import Derived.Test.YtogpjimmcckkcaaDoorMt6
namespace Go.Proofs.YtogpjimmcckkcaaDoor.M
open Go.RowKit Go.Proofs.YtogpjimmcckkcaaDoorW.PrintWords Go.Proofs.YtogpjimmcckkcaaDoorW.PrintLast Go.Proofs.YtogpjimmcckkcaaDoorW.PrintMore
set_option linter.unusedVariables false
set_option linter.unusedSimpArgs false
theorem readF_some {t : List UInt8} {out : List En} (h : readF t = some out) : out.all rightE = true ∧ wrL 0 out = t := by
  unfold readF at h
  split at h
  · cases h
  · split at h
    · rename_i o _ hc
      obtain rfl := Option.some.inj h
      exact hc.2
    · cases h
set_option maxHeartbeats 1000000 in
theorem ScriptReads_list (w : World) (he : Env w) (t : List UInt8) : Calls Tryd.prog 9 #[.string (bs t)] w fun e w' => e = .returned (.bool true) ∧ Bw w w' := by
  have HE := Aside0.mk he
  by_cases h4 : t.length ≤ 400
  · have d0 : decide ((400 : Int) < (t.length : Int)) = false := decide_eq_false (by omega)
    have HRD := Aside0.mk (Read_calls t w he (by omega))
    cases hr : readF t with
    | none =>
      rw [hr] at HRD
      clear hr he h4
      go_enter Tryd.func9, Tryd.ntmps9
      go_wp2_with fail
      refine HRD.out.mono ?_
      rintro e w1 ⟨rfl, hb1⟩
      have HB1 := Aside0.mk hb1
      clear hb1 HRD
      go_wp2_with fail
      refine (sawake_calls _ (HE.out.bw HB1.out).tab).mono ?_
      rintro e w2 ⟨rfl, hb2⟩
      have HB2 := Aside0.mk (HB1.out.trans hb2)
      clear hb2
      go_wp2_with fail
      go_ret
      exact ⟨rfl, HB2.out⟩
    | some out =>
      rw [hr] at HRD
      obtain ⟨hal, hw⟩ := readF_some hr
      have HA := Aside0.mk (show out.all rightE = true from hal)
      have HW := Aside0.mk hw
      clear hr he h4 hal hw
      go_enter Tryd.func9, Tryd.ntmps9
      go_wp2_with fail
      refine HRD.out.mono ?_
      rintro e w1 ⟨⟨v, rfl, ho, hl⟩, hb1⟩
      obtain ⟨A, c, rfl, hR⟩ := Rows.own (enc := encN) (sz := 2) (xs := out) (fun _ => rfl) ho rfl (own_len ho)
      have HB1 := Aside0.mk hb1
      have HWR := Aside0.mk (Write_calls A c out w1 (HE.out.bw hb1).tab hR hl)
      rw [HA.out, if_pos rfl, if_pos rfl, HW.out] at HWR
      clear hb1 HRD ho hR hl
      go_wp2_with fail
      refine (HWR.out).mono ?_
      rintro e w2 ⟨rfl, hb2⟩
      have HB2 := Aside0.mk (HB1.out.trans hb2)
      clear hb2
      go_wp2_with fail
      refine (sawake_calls _ (HE.out.bw HB2.out).tab).mono ?_
      rintro e w3 ⟨rfl, hb3⟩
      have HB3 := Aside0.mk (HB2.out.trans hb3)
      clear hb3
      go_wp2_with fail
      go_ret
      exact ⟨by simp, HB3.out⟩
  · have d0 : decide ((400 : Int) < (t.length : Int)) = true := decide_eq_true (by omega)
    clear he h4
    go_enter Tryd.func9, Tryd.ntmps9
    go_wp2_with fail
    refine (sawake_calls _ HE.out.tab).mono ?_
    rintro e w1 ⟨rfl, hb1⟩
    go_wp2_with fail
    go_ret
    exact ⟨rfl, hb1⟩
theorem ScriptReads_walk (w : World) (he : Env w) (b : ByteArray) (hb : b.size ≤ 140737488351232) : Calls Tryd.prog 9 #[.string b] w fun e w' => e = .returned (.bool true) ∧ Bw w w' :=
  ScriptReads_list w he b.data.toList
end Go.Proofs.YtogpjimmcckkcaaDoor.M
