/- Report: the law ReportReads. Condition: what the library's variables and the words' table hold. -/
import Derived.Test.YtogpjimmcckkcaaDoorMvc
namespace Go.Proofs.YtogpjimmcckkcaaDoor.M
open Go.RowKit Go.Proofs.YtogpjimmcckkcaaDoorW.PrintWords Go.Proofs.YtogpjimmcckkcaaDoorW.PrintLast Go.Proofs.YtogpjimmcckkcaaDoorW.PrintMore
set_option linter.unusedVariables false
set_option linter.unusedSimpArgs false
set_option maxHeartbeats 1000000 in
theorem ReportReads_list (t : List UInt8) (A : Option Addr) (cap : Nat) (l : List Rep) (w : World) (he : EnvR w) (hx : Rows encR 5 w A l) : Calls Tryd.prog 5 #[.string (bs t), .slice A l.length cap] w fun e w' => e = .returned (.bool true) ∧ Bw w w' := by
  have HE := Aside0.mk he
  have HX := Aside0.mk hx
  have hlm := hx.1
  have bad : (400 < t.length ∨ 50 < l.length) → Calls Tryd.prog 5 #[.string (bs t), .slice A l.length cap] w fun e w' => e = .returned (.bool true) ∧ Bw w w' := by
    intro hb
    clear he hx
    by_cases h4 : 400 < t.length
    · have d0 : decide ((400 : Int) < (t.length : Int)) = true := decide_eq_true (by omega)
      clear hb h4
      go_enter Tryd.func5, Tryd.ntmps5
      go_wp2_with fail
      refine (rawake_calls _ HE.out).mono ?_
      rintro e w1 ⟨rfl, hb1⟩
      go_wp2_with fail
      go_ret
      exact ⟨rfl, hb1⟩
    · have d0 : decide ((400 : Int) < (t.length : Int)) = false := decide_eq_false (by omega)
      have d1 : decide ((50 : Int) < (l.length : Int)) = true := decide_eq_true (by omega)
      clear hb h4
      go_enter Tryd.func5, Tryd.ntmps5
      go_wp2_with fail
      refine (rawake_calls _ HE.out).mono ?_
      rintro e w1 ⟨rfl, hb1⟩
      go_wp2_with fail
      go_ret
      exact ⟨rfl, hb1⟩
  by_cases h4 : 400 < t.length
  · exact bad (.inl h4)
  by_cases h5 : 50 < l.length
  · exact bad (.inr h5)
  have d0 : decide ((400 : Int) < (t.length : Int)) = false := decide_eq_false (by omega)
  have d1 : decide ((50 : Int) < (l.length : Int)) = false := decide_eq_false (by omega)
  have HW0 := Aside0.mk (Bw.refl w)
  have h50 : l.length ≤ 50 := by omega
  have HT4 := Aside0.mk (show t.length ≤ 400 by omega)
  clear he hx hlm bad h4 h5
  go_enter Tryd.func5, Tryd.ntmps5
  go_wp2_with fail
  go_loopw [5, 6] (fun rv iv wr => ∃ i : Nat, i ≤ l.length ∧ iv = .int .i64 i ∧ rv = .bool ((l.take i).all rightR) ∧ Aside0 (Bw w wr)) (fun _ iv _ => l.length - (intOf iv).toNat)
  case atStart => exact ⟨0, by omega, rfl, rfl, HW0⟩
  case round =>
    obtain ⟨i, hi, rfl, rfl, HW⟩ := hrel
    obtain ⟨rb, hrb⟩ : ∃ rb, rb = (l.take i).all rightR := ⟨_, rfl⟩
    rw [← hrb]
    by_cases hlt : i < l.length
    · obtain ⟨⟨k, g, o, q, p⟩, hk⟩ : ∃ e, l[i]? = some e := ⟨_, List.getElem?_eq_getElem hlt⟩
      have HRN := Aside0.mk (show (l.take (i + 1)).all rightR = (rb && rightR ⟨k, g, o, q, p⟩) by rw [List.take_add_one, hk, List.all_append, ← hrb]; simp)
      cases rb
      · clear hrb hk
        go_wp2_with fail
        go_roundw
        case rel => exact ⟨i + 1, by omega, by go_num, by rw [HRN.out]; rfl, HW⟩
        case measure => simp [intOf]; omega
      · obtain ⟨ad, hA, m0, mi⟩ := (HX.out.bw HW.out).atS i _ hk
        subst hA
        have s0 := m0 _ rfl
        have s1 := mi 1 _ (by decide) rfl
        have s2 := mi 2 _ (by decide) rfl
        have s3 := mi 3 _ (by decide) rfl
        have s4 := mi 4 _ (by decide) rfl
        clear hrb hk m0 mi
        go_wp2_with fail
        refine (refRep_calls k g o q p _).mono ?_
        rintro e w1 ⟨rfl, hb1⟩
        go_wp2_with fail
        go_roundw
        case rel => exact ⟨i + 1, by omega, by go_num, by rw [HRN.out]; rfl, ⟨HW.out.trans hb1⟩⟩
        case measure => simp [intOf]; omega
    · obtain rfl : i = l.length := by omega
      rw [List.take_length] at hrb
      have HRD := Aside0.mk (repRead_calls t wr (HE.out.bw HW.out) (by have := HT4.out; omega))
      cases hr : readR t with
      | none =>
        rw [hr] at HRD
        cases rb
        · clear hrb hr
          go_wp2_with fail
          refine HRD.out.mono ?_
          rintro e w1 ⟨rfl, hb1⟩
          have HB1 := Aside0.mk (HW.out.trans hb1)
          clear hb1
          go_wp2_with fail
          refine (rawake_calls _ (HE.out.bw HB1.out)).mono ?_
          rintro e w2 ⟨rfl, hb2⟩
          have HB2 := Aside0.mk (HB1.out.trans hb2)
          clear hb2
          go_wp2_with fail
          go_ret
          exact ⟨rfl, HB2.out⟩
        · have hne : ¬ l.flatMap lineR = t := fun h => by
            have := readR_lines l hrb.symm (by omega)
            rw [h, hr] at this
            cases this
          have HRW := Aside0.mk (fun W hW => refWriteR_calls A cap l W hW hrb.symm (by omega))
          obtain ⟨tx, htx⟩ : ∃ tx, tx = l.flatMap lineR := ⟨_, rfl⟩
          rw [← htx] at HRW hne
          have dq : (tx == t) = false := by simpa using hne
          clear hrb hr htx hne
          go_wp2_with fail
          refine HRD.out.mono ?_
          rintro e w1 ⟨rfl, hb1⟩
          have HB1 := Aside0.mk (HW.out.trans hb1)
          clear hb1
          go_wp2_with fail
          refine (rawake_calls _ (HE.out.bw HB1.out)).mono ?_
          rintro e w2 ⟨rfl, hb2⟩
          have HB2 := Aside0.mk (HB1.out.trans hb2)
          clear hb2
          go_wp2_with fail
          refine (HRW.out _ (HX.out.bw HB2.out)).mono ?_
          rintro e w3 ⟨rfl, hb3⟩
          have HB3 := Aside0.mk (HB2.out.trans hb3)
          clear hb3
          go_wp2_with fail
          go_ret
          exact ⟨rfl, HB3.out⟩
      | some back =>
        rw [hr] at HRD
        obtain ⟨hba, hbt⟩ := readR_some hr
        have HBA := Aside0.mk (show back.all rightR = true from hba)
        have HBT := Aside0.mk hbt
        clear hrb hr hba hbt
        go_wp2_with fail
        refine HRD.out.mono ?_
        rintro e w1 ⟨⟨v, rfl, ho, hl⟩, hb1⟩
        obtain ⟨A2, c2, rfl, hR⟩ := Rows.own (enc := encR) (sz := 5) (xs := back) (fun _ => rfl) ho rfl (own_len ho)
        have HR1 := Aside0.mk hR
        have HB1 := Aside0.mk (HW.out.trans hb1)
        clear ho hR hb1
        have HW1 := Aside0.mk (Bw.refl w1)
        go_wp2_with fail
        go_loopw [9] (fun iv wr2 => ∃ i : Nat, i ≤ back.length ∧ iv = .int .i64 i ∧ Aside0 (Bw w1 wr2)) (fun iv _ => back.length - (intOf iv).toNat)
        case atStart => exact ⟨0, by omega, rfl, HW1⟩
        case round =>
          obtain ⟨i, hi2, rfl, HW2⟩ := hrel
          by_cases hlt2 : i < back.length
          · obtain ⟨⟨k, g, o, q, p⟩, hk⟩ : ∃ e, back[i]? = some e := ⟨_, List.getElem?_eq_getElem hlt2⟩
            have hre : rightR ⟨k, g, o, q, p⟩ = true := List.all_eq_true.1 HBA.out _ (List.mem_of_getElem? hk)
            have HRR := Aside0.mk (show ∀ W, Calls Tryd.prog 18 #[.agg #[.int .i64 k, .int .i64 g, .int .i64 o, .int .i64 q, .int .i64 p]] W fun e w' => e = .returned (.bool true) ∧ Bw W w' from fun W => by have := refRep_calls k g o q p W; rwa [hre] at this)
            obtain ⟨ad, hA, m0, mi⟩ := (HR1.out.bw HW2.out).atS i _ hk
            subst hA
            have s0 := m0 _ rfl
            have s1 := mi 1 _ (by decide) rfl
            have s2 := mi 2 _ (by decide) rfl
            have s3 := mi 3 _ (by decide) rfl
            have s4 := mi 4 _ (by decide) rfl
            clear hre hk m0 mi
            go_wp2_with fail
            refine (HRR.out _).mono ?_
            rintro e w4 ⟨rfl, hb4⟩
            go_wp2_with fail
            go_roundw
            case rel => exact ⟨i + 1, by omega, by go_num, ⟨HW2.out.trans hb4⟩⟩
            case measure => simp [intOf]; omega
          · obtain rfl : i = back.length := by omega
            have HRW := Aside0.mk (fun W hW => refWriteR_calls A2 c2 back W hW HBA.out hl)
            rw [HBT.out] at HRW
            go_wp2_with fail
            refine (rawake_calls _ (HE.out.bw (HB1.out.trans HW2.out))).mono ?_
            rintro e w4 ⟨rfl, hb4⟩
            have HB4 := Aside0.mk (HW2.out.trans hb4)
            clear hb4
            go_wp2_with fail
            refine (HRW.out _ (HR1.out.bw HB4.out)).mono ?_
            rintro e w5 ⟨rfl, hb5⟩
            go_wp2_with fail
            go_ret
            exact ⟨by simp, (HB1.out.trans HB4.out).trans hb5⟩
theorem ReportReads_walk (w : World) (he : EnvR w) (b : ByteArray) (hb : b.size ≤ 140737488351232) (a : Option Addr) (len cap : Nat) (f : RdRow [.int .i64, .int .i64, .int .i64, .int .i64, .int .i64] w a len cap) (y : len * 40 ≤ 140737488351232) : Calls Tryd.prog 5 #[.string b, .slice a len cap] w fun e w' => e = .returned (.bool true) ∧ Bw w w' := by
  obtain ⟨xs, hl, hx⟩ := rd_reps f
  subst hl
  exact ReportReads_list b.data.toList a cap xs w he hx
end Go.Proofs.YtogpjimmcckkcaaDoor.M
