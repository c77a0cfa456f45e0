/- Script: the law ScriptPrograms. Conditions: what the library's variables hold. -/
import Derived.Test.YtogpjimmcckkcaaDoorMze
import Derived.Test.YtogpjimmcckkcaaDoorMzf
import Derived.Test.YtogpjimmcckkcaaDoorMzb
import Derived.Test.YtogpjimmcckkcaaDoorMzl
import Derived.Test.YtogpjimmcckkcaaDoorMr
namespace Go.Proofs.YtogpjimmcckkcaaDoor.M
open Go.RowKit Go.Proofs.YtogpjimmcckkcaaDoorW.PrintWords Go.Proofs.YtogpjimmcckkcaaDoorW.PrintLast Go.Proofs.YtogpjimmcckkcaaDoorW.PrintMore
set_option linter.unusedVariables false
set_option linter.unusedSimpArgs false
theorem dec_short {n : Nat} (h : n ≤ 65535) : (Lib.decDigits n).length ≤ 6 := by
  by_cases h1 : n < 10
  · rw [dec_small h1]; simp
  · rw [dec_big h1, List.length_append]
    by_cases h2 : n / 10 < 10
    · rw [dec_small h2]; simp
    · rw [dec_big h2, List.length_append]
      by_cases h3 : n / 10 / 10 < 10
      · rw [dec_small h3]; simp
      · rw [dec_big h3, List.length_append]
        by_cases h4 : n / 10 / 10 / 10 < 10
        · rw [dec_small h4]; simp
        · rw [dec_big h4, List.length_append, dec_small (by omega)]; simp
theorem lineN_short {n x : Int} (h0 : 0 ≤ x) (hn : 1 ≤ n) (hn2 : n ≤ 4097) : (lineN n x).length ≤ 14 := by
  unfold lineN
  cases hp : prt x
  · simp only [Bool.false_eq_true, if_false]
    obtain ⟨k, a, he, hk, ha, hg⟩ := (ins_ok h0 hn hn2 hp).nat
    rw [he]
    unfold inL
    have h1 := inW_len k
    have h2 := dec_short ha
    simp only [List.length_append, Int.toNat_natCast]
    split
    · simp only [List.length_cons]; omega
    · simp; omega
  · simp
theorem progs_short {xs : List Int} (hl : xs.length ≤ 4096) (h0 : ∀ x ∈ xs, 0 ≤ x) : (progsT (progsOf xs)).length ≤ xs.length * 15 := by
  rw [progsOf_text hl]
  have hr := cntP_range hl
  revert h0
  generalize cntP xs = n at hr
  clear hl
  induction xs with
  | nil => simp
  | cons x r ih =>
    intro h0
    have h1 := ih fun y hy => h0 y (List.mem_cons_of_mem _ hy)
    have h2 := lineN_short (h0 x (by simp)) hr.1 hr.2
    simp only [List.flatMap_cons, List.length_append, List.length_cons, List.length_nil] at h1 ⊢
    omega
theorem progs_each {xs : List Int} : ∀ ps ∈ progsOf xs, ps.length ≤ 4096 := by
  intro ps hp
  unfold progsOf at hp
  obtain ⟨q, hq, rfl⟩ := List.mem_map.1 hp
  rw [List.length_map]
  have hl : (xs.take 4096).length ≤ 4096 := by rw [List.length_take]; omega
  exact (pieces_mem (xs.take 4096) (fun _ => True) (fun _ _ => trivial) hl q hq).1
set_option maxHeartbeats 4000000 in
set_option maxRecDepth 100000 in
theorem ScriptPrograms_list (A : Option Addr) (cap : Nat) (xs : List Int) (w : World) (he : Env w) (hx : Rows encU 1 w A xs) (hcap : xs.length ≤ cap) (hr : ∀ x ∈ xs, 0 ≤ x ∧ x < 18446744073709551616) :
    Calls Tryd.prog 11 #[.slice A xs.length cap] w fun e w' => e = .returned (.bool true) ∧ Bw w w' := by
  have HE := Aside0.mk he
  have HX := Aside0.mk hx
  have HR := Aside0.mk hr
  have hlm := hx.1
  by_cases h4 : 300 < xs.length
  · have d0 : decide ((300 : Int) < (xs.length : Int)) = true := decide_eq_true (by omega)
    clear he hx hr h4
    go_enter Tryd.func11, Tryd.ntmps11
    go_wp2_with fail
    refine (sawake_calls _ HE.out.tab).mono ?_
    rintro e w1 ⟨rfl, hb1⟩
    go_wp2_with fail
    go_ret
    exact ⟨rfl, hb1⟩
  · have d0 : decide ((300 : Int) < (xs.length : Int)) = false := decide_eq_false (by omega)
    have hl : xs.length ≤ 4096 := by omega
    have h0 : ∀ x ∈ xs, 0 ≤ x := fun x hx => (hr x hx).1
    obtain ⟨ws, hws⟩ : ∃ ws, ws = xs.map (normN (cntP xs)) := ⟨_, rfl⟩
    have hwb := words_back hl h0
    rw [← hws] at hwb
    have hwr : ∀ x ∈ ws, 0 ≤ x ∧ x < 18446744073709551616 := (wordsF_some hwb.1).2.1
    have HWR := Aside0.mk hwr
    have hsh := progs_short hl h0
    have HOK := Aside0.mk (progsOf_ok hl h0)
    have HSM := Aside0.mk (progs_each (xs := xs))
    have HRC := Aside0.mk (fun W hW => codeRead_calls A cap xs W hW hcap hr)
    have HRF := Aside0.mk (fun W hW => refRead_calls A cap xs W hW hr)
    have HRB := Aside0.mk (fun B c W hW => refRead_calls B c ws W hW hwr)
    rw [hwb.2] at HRB
    have HWF := Aside0.mk hwb.1
    have HTL := Aside0.mk (show (progsT (progsOf xs)).length ≤ 1048576 by omega)
    obtain ⟨pss, hpss⟩ : ∃ pss, pss = progsOf xs := ⟨_, rfl⟩
    rw [← hpss] at HOK HSM HRC HRF HRB HWF HTL
    obtain ⟨T, hT⟩ : ∃ T, T = progsT pss := ⟨_, rfl⟩
    have HT := Aside0.mk hT
    have HWC := Aside0.mk (fun W hW => Words_calls T W hW (by rw [hT]; exact HTL.out))
    rw [show wordsF T = some ws by rw [hT]; exact HWF.out] at HWC
    clear he hx hr h4 h0 hws hwb hwr hsh hpss hT hlm
    have HW0 := Aside0.mk (Bw.refl w)
    go_enter Tryd.func11, Tryd.ntmps11
    go_wp2_with fail
    refine (HRF.out _ HX.out).mono ?_
    rintro e w1 ⟨A1, c1, rfl, hw1, hb1⟩
    have HA1 := Aside0.mk hw1
    have HB1 := Aside0.mk hb1
    clear hw1 hb1
    go_wp2_with fail
    refine (HRC.out _ (HX.out.bw HB1.out)).mono ?_
    rintro e w2 ⟨b, v, us, rfl, hc, hb2⟩
    have HC2 := Aside0.mk hc
    have HB2 := Aside0.mk (HB1.out.trans hb2)
    have HA2 := Aside0.mk (HA1.out.bw hb2)
    clear hc hb2
    go_wp2_with fail
    refine (Programs_calls HC2.out HOK.out (fun ps hp => Nat.le_trans (HSM.out ps hp) (by decide)) HTL.out (HE.out.bw HB2.out).tab).mono ?_
    rintro e w3 ⟨rfl, hb3⟩
    rw [← HT.out]
    have HB3 := Aside0.mk (HB2.out.trans hb3)
    have HA3 := Aside0.mk (HA2.out.bw hb3)
    clear hb3
    go_wp2_with fail
    refine (HWC.out _ (HE.out.bw HB3.out)).mono ?_
    rintro e w4 ⟨⟨v4, rfl, ho4⟩, hb4⟩
    obtain ⟨A4, c4, rfl, hR4⟩ := Rows.own (enc := encX) (sz := 1) (xs := ws) (fun _ => rfl) ho4 rfl (own_len ho4)
    have HR4 := Aside0.mk hR4
    have HB4 := Aside0.mk (HB3.out.trans hb4)
    have HA4 := Aside0.mk (HA3.out.bw hb4)
    clear ho4 hR4 hb4
    go_wp2_with fail
    refine (refPrograms_calls HA4.out HOK.out HTL.out).mono ?_
    rintro e w5 ⟨rfl, hb5⟩
    rw [← HT.out]
    have HB5 := Aside0.mk (HB4.out.trans hb5)
    have HA5 := Aside0.mk (HA4.out.bw hb5)
    have HR5 := Aside0.mk (HR4.out.bw hb5)
    clear hb5
    have tt : (T == T) = true := by simp
    go_wp2_with fail
    refine (HRB.out _ _ _ HR5.out).mono ?_
    rintro e w6 ⟨A6, c6, rfl, hw6, hb6⟩
    have HQ6 := Aside0.mk hw6
    have HB6 := Aside0.mk (HB5.out.trans hb6)
    have HA6 := Aside0.mk (HA5.out.bw hb6)
    clear hw6 hb6
    have HS6 := Aside0.mk (Bw.refl w6)
    have hpm : pss.length ≤ 9223372036854775807 := HA6.out.1
    go_wp2_with fail
    go_loopw [8] (fun iv wr => ∃ p : Nat, p ≤ pss.length ∧ iv = .int .i64 p ∧ Aside0 (Bw w6 wr)) (fun iv _ => pss.length - (intOf iv).toNat)
    case atStart => exact ⟨0, by omega, rfl, HS6⟩
    case round =>
      obtain ⟨p, hp, rfl, HS⟩ := hrel
      obtain ⟨wo, hwo⟩ : ∃ wo, wo = wr := ⟨_, rfl⟩
      subst hwo
      by_cases hlt : p < pss.length
      · obtain ⟨ps, hps⟩ : ∃ ps, pss[p]? = some ps := ⟨_, List.getElem?_eq_getElem hlt⟩
        obtain ⟨ad, B1, d1, rfl, k1, r1⟩ := (HA6.out.bw HS.out).at_ p ps hps
        obtain ⟨ad', B2, d2, rfl, k2, r2⟩ := (HQ6.out.bw HS.out).at_ p ps hps
        have HR1 := Aside0.mk r1
        have HR2 := Aside0.mk r2
        have hpl := r1.1
        have K1 : ∀ q : BwW wo, q.W.cell? (ad.add p) = some (.slice B1 ps.length d1) := fun q => q.cell k1
        have K2 : ∀ q : BwW wo, q.W.cell? (ad'.add p) = some (.slice B2 ps.length d2) := fun q => q.cell k2
        clear hps r1 r2
        go_wp2_with fail
        refine wp_region_bw (by kernel_rfl) (by kernel_rfl) ?_
        repeat (first | go_big_quiet_skip | (go_big_quiet_want; go_big_quiet_op; first | go_big_quiet_on | go_big_quiet_call (fail)))
        refine wpQuiet_nil ?_
        rintro w7 ⟨⟨_, hb7⟩, rfl⟩
        have HS7 := Aside0.mk (HS.out.trans hb7)
        have k17 := hb7.kept k1
        have k27 := hb7.kept k2
        have HR17 := Aside0.mk (HR1.out.bw hb7)
        have HR27 := Aside0.mk (HR2.out.bw hb7)
        clear K1 K2 hb7 k1 k2
        have HZ7 := Aside0.mk (Bw.refl w7)
        go_wp2_with fail
        go_loopw [9] (fun iv wr => ∃ i : Nat, i ≤ ps.length ∧ iv = .int .i64 i ∧ Aside0 (Bw w7 wr)) (fun iv _ => ps.length - (intOf iv).toNat)
        case atStart => exact ⟨0, by omega, rfl, HZ7⟩
        case round =>
          obtain ⟨i, hi, rfl, HZ⟩ := hrel
          obtain ⟨wi, hwi⟩ : ∃ wi, wi = wr := ⟨_, rfl⟩
          subst hwi
          have k18 := HZ.out.kept k17
          by_cases hlt2 : i < ps.length
          · obtain ⟨⟨k, a⟩, hx⟩ : ∃ x, ps[i]? = some x := ⟨_, List.getElem?_eq_getElem hlt2⟩
            obtain ⟨e1, hA, m0, mi⟩ := (HR17.out.bw HZ.out).atS i _ hx
            subst hA
            obtain ⟨e2, hA, n0, ni⟩ := (HR27.out.bw HZ.out).atS i _ hx
            subst hA
            have K1 : ∀ q : BwW wi, q.W.cell? (ad.add p) = some (.slice (some e1) ps.length d1) := fun q => q.cell (HZ.out.kept k17)
            have K2 : ∀ q : BwW wi, q.W.cell? (ad'.add p) = some (.slice (some e2) ps.length d2) := fun q => q.cell (HZ.out.kept k27)
            have S0 : ∀ q : BwW wi, q.W.cell? (e1.add (i * 2)) = some (.int .i64 k) := fun q => q.cell (m0 _ rfl)
            have S1 : ∀ q : BwW wi, q.W.cell? ⟨(e1.add (i * 2)).block, (e1.add (i * 2)).off + 1, none⟩ = some (.int .i64 a) := fun q => q.cell (mi 1 _ (by decide) rfl)
            have N0 : ∀ q : BwW wi, q.W.cell? (e2.add (i * 2)) = some (.int .i64 k) := fun q => q.cell (n0 _ rfl)
            have N1 : ∀ q : BwW wi, q.W.cell? ⟨(e2.add (i * 2)).block, (e2.add (i * 2)).off + 1, none⟩ = some (.int .i64 a) := fun q => q.cell (ni 1 _ (by decide) rfl)
            have qe : ∀ (d : Nat) (W : World), (Op.equalIn (d + 2) 23 (.agg #[.int .i64 k, .int .i64 a]) (.agg #[.int .i64 k, .int .i64 a])).run Tryd.prog W = .ok true W := fun d W => by rw [eqInstr d W k k a a]; simp
            clear hx m0 mi n0 ni
            go_wp2_with fail
            refine wp_region_bw (by kernel_rfl) (by kernel_rfl) ?_
            repeat (first | go_big_quiet_skip | (go_big_quiet_want; go_big_quiet_op; first | go_big_quiet_on | go_big_quiet_call (fail)))
            refine wpQuiet_nil ?_
            rintro w8 ⟨⟨_, hb8⟩, rfl⟩
            have HZ8 := Aside0.mk (HZ.out.trans hb8)
            clear K1 K2 S0 S1 N0 N1 qe hb8
            go_wp2_with fail
            go_roundw
            case rel => exact ⟨i + 1, by omega, by go_num, HZ8⟩
            case measure => simp [intOf]; omega
          · obtain rfl : i = ps.length := by omega
            go_wp2_with fail
            go_roundw
            case rel => exact ⟨p + 1, by omega, by go_num, ⟨HS7.out.trans HZ.out⟩⟩
            case measure => simp [intOf]; omega
      · obtain rfl : p = pss.length := by omega
        have HBS := Aside0.mk (HB6.out.trans HS.out)
        go_wp2_with fail
        refine (sawake_calls _ (HE.out.bw HBS.out).tab).mono ?_
        rintro e w9 ⟨rfl, hb9⟩
        have HBT := Aside0.mk (HBS.out.trans hb9)
        clear hb9
        go_wp2_with fail
        refine (Programs_nil _).mono ?_
        rintro e w10 ⟨rfl, hb10⟩
        go_wp2_with fail
        go_ret
        exact ⟨rfl, HBT.out.trans hb10⟩
theorem ScriptPrograms_walk (w : World) (he : Env w) (a : Option Addr) (len cap : Nat) (f : RdRow [.int .u64] w a len cap) (y : len * 8 ≤ 140737488351232) : Calls Tryd.prog 11 #[.slice a len cap] w fun e w' => e = .returned (.bool true) ∧ Bw w w' := by
  have hcap : len ≤ cap := by
    rcases f with ⟨_, h1, h2⟩ | ⟨_, _, h, _⟩
    · omega
    · exact h
  obtain ⟨xs, rfl, hx, hxw⟩ := rd_ints f
  exact ScriptPrograms_list a cap xs w he hx hcap (fun x hx => wf_u64 (hxw x hx))
end Go.Proofs.YtogpjimmcckkcaaDoor.M
