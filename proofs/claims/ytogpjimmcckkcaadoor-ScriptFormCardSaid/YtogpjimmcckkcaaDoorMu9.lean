/- Script: the law ScriptForm. Conditions: what the library's variables hold. -/
import Derived.Test.YtogpjimmcckkcaaDoorMu8
namespace Go.Proofs.YtogpjimmcckkcaaDoor.M
open Go.RowKit Go.Proofs.YtogpjimmcckkcaaDoorW.PrintWords Go.Proofs.YtogpjimmcckkcaaDoorW.PrintLast Go.Proofs.YtogpjimmcckkcaaDoorW.PrintMore
set_option linter.unusedVariables false
set_option linter.unusedSimpArgs false
set_option maxHeartbeats 1000000 in
theorem ScriptForm_list (A : Option Addr) (cap : Nat) (l : List En) (m : Nat) (hm : m < 4) (a : Int) (ha : a.tmod 4 = (m : Int)) (ha0 : 0 ≤ a) (ha1 : a < 256) (w : World) (he : Env w) (hx : Rows encN 2 w A l) : Calls Tryd.prog 10 #[.slice A l.length cap, .int .u8 a] w fun e w' => e = .returned (.bool true) ∧ Bw w w' := by
  have HE := Aside0.mk he
  have HX := Aside0.mk hx
  have hlm := hx.1
  by_cases h2 : l.length ≤ 200
  · have d0 : decide ((200 : Int) < (l.length : Int)) = false := decide_eq_false (by omega)
    have HW0 := Aside0.mk (Bw.refl w)
    clear he hx hlm
    go_enter Tryd.func10, Tryd.ntmps10
    go_wp2_with fail
    go_loopw [5, 6] (fun ov iv wr => ∃ (i : Nat) (A1 : Option Addr) (c1 : Nat) (out : List En), i ≤ l.length ∧ iv = .int .i64 i ∧ ov = .slice A1 out.length c1 ∧ out.length = i * (m + 1) ∧ Aside0 (wr.ownsRow w.heap.size 55 2 (.slice A1 out.length c1) out.length (out.flatMap encN)) ∧ Aside0 (out.all rightE = true) ∧ Aside0 (Bw w wr)) (fun _ iv _ => l.length - (intOf iv).toNat)
    case atStart => exact ⟨0, none, 0, [], by omega, rfl, rfl, by simp, ⟨own_nil _ _ _ _⟩, ⟨rfl⟩, HW0⟩
    case round =>
      obtain ⟨i, A1, c1, out, hi, rfl, rfl, ho, HO, HA, HW⟩ := hrel
      have ho8 : out.length ≤ 800 := by
        rw [ho]
        exact Nat.le_trans (Nat.mul_le_mul (Nat.le_trans hi h2) (show m + 1 ≤ 4 by omega)) (by omega)
      have HOL := Aside0.mk ho
      clear ho
      by_cases hlt : i < l.length
      · obtain ⟨⟨k, h⟩, hk⟩ : ∃ e, l[i]? = some e := ⟨_, List.getElem?_eq_getElem hlt⟩
        obtain ⟨ad, hA, m0, mi⟩ := (HX.out.bw HW.out).atS i _ hk
        subst hA
        have s0 := m0 _ rfl
        have s1 := mi 1 _ (by decide) rfl
        have HM0 := Aside0.mk s0
        have HM1 := Aside0.mk s1
        have HKK := Aside0.mk hk
        clear hk m0 mi
        cases hr : rightE (k, h)
        · have HRR := Aside0.mk (show ∀ W, Calls Tryd.prog 29 #[.agg #[.int .i64 k, .int .i64 h], .int .i64 256] W fun e w' => e = .returned (.bool false) ∧ Bw W w' from fun W => by have := refRight_calls k h W; rwa [hr] at this)
          clear hr
          go_wp2_with fail
          refine (HRR.out _).mono ?_
          rintro e w1 ⟨rfl, hb1⟩
          go_wp2_with fail
          refine (sawake_calls _ ((HE.out.bw HW.out).bw hb1).tab).mono ?_
          rintro e w2 ⟨rfl, hb2⟩
          go_wp2_with fail
          go_ret
          exact ⟨rfl, (HW.out.trans hb1).trans hb2⟩
        · have HRR := Aside0.mk (show ∀ W, Calls Tryd.prog 29 #[.agg #[.int .i64 k, .int .i64 h], .int .i64 256] W fun e w' => e = .returned (.bool true) ∧ Bw W w' from fun W => by have := refRight_calls k h W; rwa [hr] at this)
          have HAR := Aside0.mk hr
          clear hr
          go_wp2_with fail
          refine (HRR.out _).mono ?_
          rintro e w1 ⟨rfl, hb1⟩
          have HO1 := Aside0.mk (pw_own_below HO.out hb1)
          have HB1 := Aside0.mk (HW.out.trans hb1)
          have HM0 := Aside0.mk (hb1.kept HM0.out)
          have HM1 := Aside0.mk (hb1.kept HM1.out)
          clear s0 s1 hb1
          go_wp2_with fail
          go_loopw [5, 7] (fun ov cv wr2 => ∃ (c : Nat) (A2 : Option Addr) (c2 : Nat), c ≤ m + 1 ∧ cv = .int .i64 c ∧ ov = .slice A2 (out.length + c) c2 ∧ Aside0 (wr2.ownsRow w.heap.size 55 2 (.slice A2 (out.length + c) c2) (out.length + c) ((out ++ List.replicate c (k, h)).flatMap encN)) ∧ Aside0 (Bw w wr2)) (fun _ cv _ => m + 1 - (intOf cv).toNat)
          case atStart => exact ⟨0, A1, c1, by omega, rfl, rfl, ⟨by simpa using HO1.out⟩, HB1⟩
          case round =>
            obtain ⟨c, A2, c2, hc, rfl, rfl, HO2, HB2⟩ := hrel
            have hrem : (a.tmod 4) = (m : Int) := ha
            by_cases hcm : c ≤ m
            · have d1 : decide ((c : Int) ≤ (m : Int)) = true := decide_eq_true (by omega)
              have x0 := HB2.out
              obtain ⟨ad2, hA2, m0, mi⟩ := (HX.out.bw HB2.out).atS i _ HKK.out
              obtain rfl : ad = ad2 := Option.some.inj hA2
              have s0 := m0 _ rfl
              have s1 := mi 1 _ (by decide) rfl
              clear x0 m0 mi
              go_wp2_with (at_builtin; go_loud (refine print_append_cells (w0 := w) w.heap.size rfl (.tmp 34) (.tmp 39) 52 55 (.agg #[.int .i64 0, .int .i64 0]) 2 16 rfl Tryd.underlying52 infoEn rfl (by omega) (by omega) (.slice A2 (out.length + c) c2) (out.length + c) _ [.int .i64 k, .int .i64 h] rfl rfl rfl (by simp [Value.oneCell']) HO2.out HB2.out HB2.out.size (by omega) ?_); intro v1 w4 hown4 hbel4 hg4 hat4)
              go_roundw
              case rel =>
                obtain ⟨g3, cap3, rfl, _, _⟩ := hown4.form (by omega)
                refine ⟨c + 1, some ⟨g3, 0, none⟩, cap3, by omega, by go_num, rfl, ⟨?_⟩, ⟨hbel4⟩⟩
                rw [List.replicate_succ', ← List.append_assoc, List.flatMap_append]
                exact hown4
              case measure => simp [intOf]; omega
            · have d1 : decide ((c : Int) ≤ (m : Int)) = false := decide_eq_false (by omega)
              obtain rfl : c = m + 1 := by omega
              go_wp2_with fail
              go_roundw
              case rel =>
                refine ⟨i + 1, A2, c2, out ++ List.replicate (m + 1) (k, h), by omega, by go_num, by rw [List.length_append, List.length_replicate], by rw [List.length_append, List.length_replicate, HOL.out, Nat.succ_mul], ⟨by rw [List.length_append, List.length_replicate]; exact HO2.out⟩, ⟨?_⟩, HB2⟩
                rw [List.all_append, HA.out, List.all_eq_true.2]
                · rfl
                · intro x hx
                  rw [(List.mem_replicate.1 hx).2]
                  exact HAR.out
              case measure => simp [intOf]; omega
      · obtain rfl : i = l.length := by omega
        have hR0 : Rows encN 2 wr A1 out := by
          obtain ⟨A3, c3, hv, hR⟩ := Rows.own (enc := encN) (sz := 2) (xs := out) (fun _ => rfl) HO.out rfl (own_len HO.out)
          injection hv with hv1 _ _
          rw [hv1]
          exact hR
        have HR0 := Aside0.mk hR0
        have hsh := wrL_short out 0 HA.out (by omega)
        have HRD := Aside0.mk (fun W hW => Read_calls (wrL 0 out) W hW (by omega))
        rw [readF_wrL out HA.out (by omega)] at HRD
        have HRW := Aside0.mk (refWrite_calls A1 c1 out wr HR0.out HA.out (by omega))
        obtain ⟨tx, htx⟩ : ∃ tx, tx = wrL 0 out := ⟨_, rfl⟩
        rw [← htx] at HRD HRW
        clear hsh htx hR0
        go_wp2_with fail
        refine (HRW.out).mono ?_
        rintro e w1 ⟨rfl, hb1⟩
        go_wp2_with fail
        refine (HRD.out _ ((HE.out.bw HW.out).bw hb1)).mono ?_
        rintro e w2 ⟨⟨v, rfl, ho, hl⟩, hb2⟩
        obtain ⟨A2, c2, rfl, hR⟩ := Rows.own (enc := encN) (sz := 2) (xs := out) (fun _ => rfl) ho rfl (own_len ho)
        have HR2 := Aside0.mk hR
        have HS2 := Aside0.mk ((HR0.out.bw hb1).bw hb2)
        have HB2 := Aside0.mk ((HW.out.trans hb1).trans hb2)
        clear ho hR hb1 hb2 hl
        go_wp2_with fail
        refine (sawake_calls _ (HE.out.bw HB2.out).tab).mono ?_
        rintro e w3 ⟨rfl, hb3⟩
        have HB3 := Aside0.mk (HB2.out.trans hb3)
        have HR3 := Aside0.mk (HR2.out.bw hb3)
        have HS3 := Aside0.mk (HS2.out.bw hb3)
        clear hb3
        go_wp2_with fail
        refine (same_calls A2 A1 c2 c1 out _ HR3.out HS3.out (by omega)).mono ?_
        rintro e w5 ⟨rfl, hb5⟩
        have HB5 := Aside0.mk (HB3.out.trans hb5)
        clear hb5
        go_wp2_with fail
        go_ret
        exact ⟨by simp, HB5.out⟩
  · have d0 : decide ((200 : Int) < (l.length : Int)) = true := decide_eq_true (by omega)
    clear he hx
    go_enter Tryd.func10, Tryd.ntmps10
    go_wp2_with fail
    refine (sawake_calls _ HE.out.tab).mono ?_
    rintro e w1 ⟨rfl, hb1⟩
    go_wp2_with fail
    go_ret
    exact ⟨rfl, hb1⟩
theorem ScriptForm_walk (w : World) (he : Env w) (a : Option Addr) (len cap : Nat) (f : RdRow [.int .i64, .int .i64] w a len cap) (y : len * 16 ≤ 140737488351232) (a1 : Int) (w1 : (Lit.int .u8 a1).wf = true) : Calls Tryd.prog 10 #[.slice a len cap, .int .u8 a1] w fun e w' => e = .returned (.bool true) ∧ Bw w w' := by
  obtain ⟨xs, hl, hx, _⟩ := rd_pairs f
  subst hl
  have hb : 0 ≤ a1 ∧ a1 ≤ 255 := by simpa [Lit.wf, IntKind.min, IntKind.max, IntKind.signed, IntKind.bits] using w1
  obtain ⟨b, rfl⟩ := Int.eq_ofNat_of_zero_le hb.1
  exact ScriptForm_list a cap xs (b % 4) (by omega) b (by rw [Int.tmod_eq_emod_of_nonneg (by omega)]; omega) (by omega) (by omega) w he hx
end Go.Proofs.YtogpjimmcckkcaaDoor.M
