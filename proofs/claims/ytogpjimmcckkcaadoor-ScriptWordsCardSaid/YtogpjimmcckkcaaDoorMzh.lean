/- Script: the law ScriptWords. Conditions: what the library's variables hold. -/
import Derived.Test.YtogpjimmcckkcaaDoorMzg
namespace Go.Proofs.YtogpjimmcckkcaaDoor.M
open Go.RowKit Go.Proofs.YtogpjimmcckkcaaDoorW.PrintWords Go.Proofs.YtogpjimmcckkcaaDoorW.PrintLast Go.Proofs.YtogpjimmcckkcaaDoorW.PrintMore
set_option linter.unusedVariables false
set_option linter.unusedSimpArgs false
theorem own_cap {w : World} {base n cap : Nat} {e : TypeId} {sz : Nat} {A : Option Addr} {xs : List Value} (h : w.ownsRow base e sz (.slice A n cap) n xs) : n ≤ cap := by
  rcases h.2 with ⟨h1, h2⟩ | ⟨g, c, cur, h1, _, _, hle, _⟩
  · cases h1; exact Nat.le_refl _
  · cases h1; exact hle
set_option maxHeartbeats 1000000 in
theorem SameX_calls (A B : Option Addr) (c c' : Nat) (l : List Int) (w : World) (ha : Rows encX 1 w A l) (hb : Rows encX 1 w B l) (hl : l.length ≤ 65536) :
    Calls Tryd.prog 40 #[.slice A l.length c, .slice B l.length c'] w fun e w' => e = .returned (.bool true) ∧ Bw w w' := by
  have HA := Aside0.mk ha
  have HB := Aside0.mk hb
  have HW0 := Aside0.mk (Bw.refl w)
  clear ha hb
  go_enter Tryd.func40, Tryd.ntmps40
  go_wp2_with fail
  go_loopw [5] (fun iv wr => ∃ i : Nat, i ≤ l.length ∧ iv = .int .i64 i ∧ Aside0 (Bw w wr)) (fun iv _ => l.length - (intOf iv).toNat)
  case atStart => exact ⟨0, by omega, rfl, HW0⟩
  case round =>
    obtain ⟨i, hi, rfl, HW⟩ := hrel
    by_cases hlt : i < l.length
    · obtain ⟨x, he⟩ : ∃ e, l[i]? = some e := ⟨_, List.getElem?_eq_getElem hlt⟩
      obtain ⟨ad, hA, m0⟩ := (HA.out.bw HW.out).at1 i _ he
      obtain ⟨ad', hB, n0⟩ := (HB.out.bw HW.out).at1 i _ he
      subst hA
      subst hB
      have S0 : ∀ p : BwW wr, p.W.cell? (ad.add i) = some (.int .u64 x) := fun p => p.cell m0
      have N0 : ∀ p : BwW wr, p.W.cell? (ad'.add i) = some (.int .u64 x) := fun p => p.cell n0
      clear he m0 n0
      go_wp2_with fail
      refine wp_region_bw (by kernel_rfl) (by kernel_rfl) ?_
      repeat (first | go_big_quiet_skip | (go_big_quiet_want; go_big_quiet_op; first | go_big_quiet_on | go_big_quiet_call (fail)))
      refine wpQuiet_nil ?_
      rintro w3 ⟨⟨_, hb3⟩, rfl⟩
      have HB3 := Aside0.mk (HW.out.trans hb3)
      clear S0 N0 hb3
      go_wp2_with fail
      go_roundw
      case rel => exact ⟨i + 1, by omega, by go_num, HB3⟩
      case measure => simp [intOf]; omega
    · go_wp2_with fail
      go_ret
      exact ⟨rfl, HW.out⟩
def spawnB (n x : Int) : Bool := x % 8 == 2 && decide (n ≤ x / 8)
set_option maxHeartbeats 4000000 in
set_option maxRecDepth 100000 in
theorem ScriptWords_list (t : List UInt8) (w : World) (he : Env w) : Calls Tryd.prog 12 #[.string (bs t)] w fun e w' => e = .returned (.bool true) ∧ Bw w w' := by
  have HE := Aside0.mk he
  by_cases h4 : 400 < t.length
  · have d0 : decide ((400 : Int) < (t.length : Int)) = true := decide_eq_true (by omega)
    clear he h4
    go_enter Tryd.func12, Tryd.ntmps12
    go_wp2_with fail
    refine (sawake_calls _ HE.out.tab).mono ?_
    rintro e w1 ⟨rfl, hb1⟩
    go_wp2_with fail
    go_ret
    exact ⟨rfl, hb1⟩
  · have d0 : decide ((400 : Int) < (t.length : Int)) = false := decide_eq_false (by omega)
    have ht4 : t.length ≤ 400 := by omega
    have HWC := Aside0.mk (fun W hW => Words_calls t W hW (by omega))
    cases hws : wordsF t with
    | none =>
      rw [hws] at HWC
      clear he h4 hws
      go_enter Tryd.func12, Tryd.ntmps12
      go_wp2_with fail
      refine (HWC.out _ HE.out).mono ?_
      rintro e w1 ⟨rfl, hb1⟩
      have HB1 := Aside0.mk hb1
      clear hb1
      go_wp2_with fail
      refine (sawake_calls _ (HE.out.bw HB1.out).tab).mono ?_
      rintro e w2 ⟨rfl, hb2⟩
      go_wp2_with fail
      go_ret
      exact ⟨rfl, HB1.out.trans hb2⟩
    | some ws =>
      rw [hws] at HWC
      obtain ⟨hl, hwr, hlt, hback⟩ := wordsF_some hws
      have hw4 : ws.length ≤ 400 := by omega
      have h0 : ∀ x ∈ ws, 0 ≤ x := fun x hx => (hwr x hx).1
      have HBK := Aside0.mk hback
      have HWR := Aside0.mk hwr
      have HWT := Aside0.mk hws
      have hcr := cntP_range hl
      have HOK := Aside0.mk (progsOf_ok hl h0)
      have HSM := Aside0.mk (progs_each (xs := ws))
      have HSH := Aside0.mk (show (progsT (progsOf ws)).length ≤ 1048576 by have := progs_short hl h0; omega)
      have HRC := Aside0.mk (fun A cap W hW (hcap : ws.length ≤ cap) => codeRead_calls A cap ws W hW hcap hwr)
      have HLEN := Aside0.mk (show ((progsOf ws).length : Int) = cntP ws by rw [progsOf_small hl, List.length_map]; rfl)
      obtain ⟨pss, hpss⟩ : ∃ pss, pss = progsOf ws := ⟨_, rfl⟩
      have HP := Aside0.mk hpss
      rw [← hpss] at HOK HSM HSH HRC HLEN
      clear he h4 hws h0 hback hwr hlt hpss
      go_enter Tryd.func12, Tryd.ntmps12
      go_wp2_with fail
      refine (HWC.out _ HE.out).mono ?_
      rintro e w1 ⟨⟨v1, rfl, ho1⟩, hb1⟩
      obtain ⟨A1, c1, rfl, hR1⟩ := Rows.own (enc := encX) (sz := 1) (xs := ws) (fun _ => rfl) ho1 rfl (own_len ho1)
      have hcap := own_cap ho1
      have HR1 := Aside0.mk hR1
      have HB1 := Aside0.mk hb1
      clear hR1 hb1 ho1
      go_wp2_with fail
      refine (HRC.out _ _ _ HR1.out hcap).mono ?_
      rintro e w2 ⟨b, v, us, rfl, hc, hb2⟩
      have HC2 := Aside0.mk hc
      have HB2 := Aside0.mk (HB1.out.trans hb2)
      have HR2 := Aside0.mk (HR1.out.bw hb2)
      have HS2 := Aside0.mk (Bw.refl w2)
      clear hc hb2
      go_wp2_with fail
      go_loopw [6] (fun iv wr => ∃ i : Nat, i ≤ ws.length ∧ iv = .int .i64 i ∧ Aside0 (∀ x ∈ ws.take i, x % 8 = 2 → x / 8 < cntP ws) ∧ Aside0 (Bw w2 wr)) (fun iv _ => ws.length - (intOf iv).toNat)
      case atStart => exact ⟨0, by omega, rfl, ⟨by simp⟩, HS2⟩
      case round =>
        obtain ⟨i, hi, rfl, HG, HS⟩ := hrel
        by_cases hlt : i < ws.length
        · obtain ⟨x, hx⟩ : ∃ x, ws[i]? = some x := ⟨_, List.getElem?_eq_getElem hlt⟩
          have hxr := HWR.out x (List.mem_of_getElem? hx)
          have hx0 := hxr.1
          have hx1 := hxr.2
          obtain ⟨ad, hA, m0⟩ := (HR2.out.bw HS.out).at1 i _ hx
          subst hA
          have HNX := Aside0.mk (show (x % 8 = 2 → x / 8 < cntP ws) → ∀ y ∈ ws.take (i + 1), y % 8 = 2 → y / 8 < cntP ws from fun h y hy => by
            rw [List.take_add_one, hx] at hy
            rcases List.mem_append.1 hy with hy | hy
            · exact HG.out y hy
            · simp at hy; subst hy; exact h)
          have S0 : ∀ p : BwW wr, p.W.cell? (ad.add i) = some (.int .u64 x) := fun p => p.cell m0
          have hcn : ∀ q : Bool, (x % 8 == 2) = q → Aside0 ((x % 8 == 2) = q) := fun q h => ⟨h⟩
          have hm0 : 0 ≤ x % 8 ∧ x % 8 < 8 := by omega
          cases hq : (x % 8 == 2)
          · have HN2 := Aside0.mk (HNX.out fun h => by rw [h] at hq; cases hq)
            clear hx m0 HNX hcn hxr
            go_wp2_with fail
            refine wp_region_bw (by kernel_rfl) (by kernel_rfl) ?_
            repeat (first | go_big_quiet_skip | (go_big_quiet_want; go_big_quiet_op; first | go_big_quiet_on | go_big_quiet_call (first | (go_at_call 39; exact qcall (Len_calls ((HC2.out.bw HS.out).bw (BwW.h _)))))))
            refine wpQuiet_nil ?_
            rintro w3 ⟨⟨_, hb3⟩, rfl⟩
            have HS3 := Aside0.mk (HS.out.trans hb3)
            clear S0 hb3
            go_wp2_with fail
            go_roundw
            case rel => exact ⟨i + 1, by omega, by go_num, HN2, HS3⟩
            case measure => simp [intOf]; omega
          · obtain ⟨n, hn⟩ : ∃ n, n = pss.length := ⟨_, rfl⟩
            have hnl : (n : Int) = cntP ws := by rw [hn]; exact HLEN.out
            have hnw : (n : Int) % 18446744073709551616 = n := by omega
            have HLC := Aside0.mk (show ∀ W, IsCode W w1.heap.size b v us pss → Calls Tryd.prog 39 #[.pointer (some ⟨b, 0, none⟩)] W fun e w' => e = .returned (.int .i64 n) ∧ Bw W w' from fun W hW => by rw [hn]; exact Len_calls hW)
            have hq8 : 0 ≤ x / 8 ∧ x / 8 < 18446744073709551616 := by omega
            by_cases hge : (n : Int) ≤ x / 8
            · have d3 : decide ((n : Int) ≤ x / 8) = true := decide_eq_true hge
              clear hx m0 HNX hcn hxr hn
              go_wp2_with fail
              refine wp_region_bw (by kernel_rfl) (by kernel_rfl) ?_
              repeat (first | go_big_quiet_skip | (go_big_quiet_want; go_big_quiet_op; first | go_big_quiet_on | go_big_quiet_call (first | (go_at_call 39; exact qcall (HLC.out _ ((HC2.out.bw HS.out).bw (BwW.h _)))))))
              refine wpQuiet_nil ?_
              rintro w3 ⟨⟨_, hb3⟩, rfl⟩
              have HS3 := Aside0.mk ((HB2.out.trans HS.out).trans hb3)
              clear S0 hb3
              go_wp2_with fail
              refine (sawake_calls _ (HE.out.bw HS3.out).tab).mono ?_
              rintro e w4 ⟨rfl, hb4⟩
              go_wp2_with fail
              go_ret
              exact ⟨rfl, HS3.out.trans hb4⟩
            · have d3 : decide ((n : Int) ≤ x / 8) = false := decide_eq_false hge
              have HN2 := Aside0.mk (HNX.out fun _ => by omega)
              clear hx m0 HNX hcn hxr hn
              go_wp2_with fail
              refine wp_region_bw (by kernel_rfl) (by kernel_rfl) ?_
              repeat (first | go_big_quiet_skip | (go_big_quiet_want; go_big_quiet_op; first | go_big_quiet_on | go_big_quiet_call (first | (go_at_call 39; exact qcall (HLC.out _ ((HC2.out.bw HS.out).bw (BwW.h _)))))))
              refine wpQuiet_nil ?_
              rintro w3 ⟨⟨_, hb3⟩, rfl⟩
              have HS3 := Aside0.mk (HS.out.trans hb3)
              clear S0 hb3
              go_wp2_with fail
              go_roundw
              case rel => exact ⟨i + 1, by omega, by go_num, HN2, HS3⟩
              case measure => simp [intOf]; omega
        · obtain rfl : i = ws.length := by omega
          have hg := HG.out
          rw [List.take_length] at hg
          obtain ⟨htx, _⟩ := HBK.out hg
          have HPC := Aside0.mk (show ∀ W, IsCode W w1.heap.size b v us pss → Tab W → Calls Tryd.prog 35 #[.pointer (some ⟨b, 0, none⟩)] W fun e w' => e = .returned (strV t) ∧ Bw W w' from fun W hW hT => by
            have := Programs_calls hW HOK.out (fun ps hp => Nat.le_trans (HSM.out ps hp) (by decide)) HSH.out hT
            rwa [HP.out, htx] at this)
          have tt : (t == t) = true := by simp
          have HBS := Aside0.mk (HB2.out.trans HS.out)
          have HCS := Aside0.mk (HC2.out.bw HS.out)
          have HRS := Aside0.mk (HR2.out.bw HS.out)
          clear hg htx HBK HG
          go_wp2_with fail
          refine (HPC.out _ HCS.out (HE.out.bw HBS.out).tab).mono ?_
          rintro e w4 ⟨rfl, hb4⟩
          have HB4 := Aside0.mk (HBS.out.trans hb4)
          have HC4 := Aside0.mk (HCS.out.bw hb4)
          have HR4 := Aside0.mk (HRS.out.bw hb4)
          clear hb4
          go_wp2_with fail
          refine (HWC.out _ (HE.out.bw HB4.out)).mono ?_
          rintro e w5 ⟨⟨v5, rfl, ho5⟩, hb5⟩
          obtain ⟨A5, c5, rfl, hR5⟩ := Rows.own (enc := encX) (sz := 1) (xs := ws) (fun _ => rfl) ho5 rfl (own_len ho5)
          have HQ5 := Aside0.mk hR5
          have HB5 := Aside0.mk (HB4.out.trans hb5)
          have HC5 := Aside0.mk (HC4.out.bw hb5)
          have HR5 := Aside0.mk (HR4.out.bw hb5)
          clear ho5 hR5 hb5
          go_wp2_with fail
          refine (sawake_calls _ (HE.out.bw HB5.out).tab).mono ?_
          rintro e w6 ⟨rfl, hb6⟩
          have HB6 := Aside0.mk (HB5.out.trans hb6)
          have HC6 := Aside0.mk (HC5.out.bw hb6)
          have HR6 := Aside0.mk (HR5.out.bw hb6)
          have HQ6 := Aside0.mk (HQ5.out.bw hb6)
          clear hb6
          go_wp2_with fail
          refine (SameX_calls _ _ _ _ ws _ HQ6.out HR6.out (by omega)).mono ?_
          rintro e w7 ⟨rfl, hb7⟩
          have HB7 := Aside0.mk (HB6.out.trans hb7)
          have HC7 := Aside0.mk (HC6.out.bw hb7)
          clear hb7
          go_wp2_with fail
          refine (HPC.out _ HC7.out (HE.out.bw HB7.out).tab).mono ?_
          rintro e w8 ⟨rfl, hb8⟩
          go_wp2_with fail
          go_ret
          exact ⟨by simp, HB7.out.trans hb8⟩
theorem ScriptWords_walk (w : World) (he : Env w) (b : ByteArray) (hb : b.size ≤ 140737488351232) : Calls Tryd.prog 12 #[.string b] w fun e w' => e = .returned (.bool true) ∧ Bw w w' :=
  ScriptWords_list b.data.toList w he
end Go.Proofs.YtogpjimmcckkcaaDoor.M
