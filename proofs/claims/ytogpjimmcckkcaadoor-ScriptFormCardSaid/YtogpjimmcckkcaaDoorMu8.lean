/- Script: the laws ScriptWrites and ScriptForm. Conditions: what the library's variables hold. -/
import Derived.Test.YtogpjimmcckkcaaDoorMu7
import Derived.Test.YtogpjimmcckkcaaDoorMu4
namespace Go.Proofs.YtogpjimmcckkcaaDoor.M
open Go.RowKit Go.Proofs.YtogpjimmcckkcaaDoorW.PrintWords Go.Proofs.YtogpjimmcckkcaaDoorW.PrintLast Go.Proofs.YtogpjimmcckkcaaDoorW.PrintMore
set_option linter.unusedVariables false
set_option linter.unusedSimpArgs false
set_option maxHeartbeats 1000000 in
theorem same_calls (A B : Option Addr) (c c' : Nat) (l : List En) (w : World) (ha : Rows encN 2 w A l) (hb : Rows encN 2 w B l) (hl : l.length ≤ 65536) :
    Calls Tryd.prog 33 #[.slice A l.length c, .slice B l.length c'] w fun e w' => e = .returned (.bool true) ∧ Bw w w' := by
  have HA := Aside0.mk ha
  have HB := Aside0.mk hb
  have HW0 := Aside0.mk (Bw.refl w)
  clear ha hb
  go_enter Tryd.func33, Tryd.ntmps33
  go_wp2_with fail
  go_loopw [5] (fun iv wr => ∃ i : Nat, i ≤ l.length ∧ iv = .int .i64 i ∧ Aside0 (Bw w wr)) (fun iv _ => l.length - (intOf iv).toNat)
  case atStart => exact ⟨0, by omega, rfl, HW0⟩
  case round =>
    obtain ⟨i, hi, rfl, HW⟩ := hrel
    by_cases hlt : i < l.length
    · obtain ⟨⟨k, h⟩, he⟩ : ∃ e, l[i]? = some e := ⟨_, List.getElem?_eq_getElem hlt⟩
      obtain ⟨ad, hA, m0, mi⟩ := (HA.out.bw HW.out).atS i _ he
      obtain ⟨ad', hB, n0, ni⟩ := (HB.out.bw HW.out).atS i _ he
      subst hA
      subst hB
      have S0 : ∀ p : BwW wr, p.W.cell? (ad.add (i * 2)) = some (.int .i64 k) := fun p => p.cell (m0 _ rfl)
      have S1 : ∀ p : BwW wr, p.W.cell? ⟨(ad.add (i * 2)).block, (ad.add (i * 2)).off + 1, none⟩ = some (.int .i64 h) := fun p => p.cell (mi 1 _ (by decide) rfl)
      have N0 : ∀ p : BwW wr, p.W.cell? (ad'.add (i * 2)) = some (.int .i64 k) := fun p => p.cell (n0 _ rfl)
      have N1 : ∀ p : BwW wr, p.W.cell? ⟨(ad'.add (i * 2)).block, (ad'.add (i * 2)).off + 1, none⟩ = some (.int .i64 h) := fun p => p.cell (ni 1 _ (by decide) rfl)
      have qe : ∀ (d : Nat) (W : World), (Op.equalIn (d + 2) 55 (.agg #[.int .i64 k, .int .i64 h]) (.agg #[.int .i64 k, .int .i64 h])).run Tryd.prog W = .ok true W := fun d W => by rw [eqEntry d W k k h h]; simp
      clear he m0 mi n0 ni
      go_wp2_with fail
      refine wp_region_bw (by kernel_rfl) (by kernel_rfl) ?_
      repeat (first | go_big_quiet_skip | (go_big_quiet_want; go_big_quiet_op; first | go_big_quiet_on | go_big_quiet_call (fail)))
      refine wpQuiet_nil ?_
      rintro w3 ⟨⟨_, hb3⟩, rfl⟩
      have HB3 := Aside0.mk (HW.out.trans hb3)
      clear S0 S1 N0 N1 qe hb3
      go_wp2_with fail
      go_roundw
      case rel => exact ⟨i + 1, by omega, by go_num, HB3⟩
      case measure => simp [intOf]; omega
    · go_wp2_with fail
      go_ret
      exact ⟨rfl, HW.out⟩
theorem lineL_short (k : Int) (h n : Nat) (hh : h < 256) (hn : n ≤ 800) : (lineL k h n).length ≤ 1100 := by
  unfold lineL
  have := enW_len k
  have := dec_len h
  have := dec_len n
  simp only [List.length_append]
  repeat' split
  all_goals simp
  all_goals omega
theorem wrL_short : ∀ (l : List En) (run : Nat), l.all rightE = true → run + l.length ≤ 800 → (wrL run l).length ≤ l.length * 1100
  | [], _, _, _ => by simp [wrL]
  | (k, h) :: r, run, hr, hl => by
    rw [List.all_cons, Bool.and_eq_true] at hr
    have hw := rightE_who hr.1
    dsimp only at hw
    simp only [List.length_cons] at hl ⊢
    rw [wrL]
    split
    · exact Nat.le_trans (wrL_short r (run + 1) hr.2 (by omega)) (Nat.mul_le_mul_right _ (by omega))
    · rw [List.length_append, Nat.add_mul]
      have h1 := lineL_short k h.toNat (run + 1) (by omega) (by omega)
      have h2 := wrL_short r 0 hr.2 (by omega)
      dsimp only
      omega
set_option maxHeartbeats 1000000 in
theorem ScriptWrites_list (A : Option Addr) (cap : Nat) (l : List En) (w : World) (he : Env w) (hx : Rows encN 2 w A l) : Calls Tryd.prog 8 #[.slice A l.length cap] w fun e w' => e = .returned (.bool true) ∧ Bw w w' := by
  have HE := Aside0.mk he
  have HX := Aside0.mk hx
  have hlm := hx.1
  by_cases h2 : l.length ≤ 200
  · have d0 : decide ((200 : Int) < (l.length : Int)) = false := decide_eq_false (by omega)
    have HW0 := Aside0.mk (Bw.refl w)
    clear he hx hlm
    go_enter Tryd.func8, Tryd.ntmps8
    go_wp2_with fail
    go_loopw [3, 4] (fun rv iv wr => ∃ i : Nat, i ≤ l.length ∧ iv = .int .i64 i ∧ rv = .bool ((l.take i).all rightE) ∧ Aside0 (Bw w wr)) (fun _ iv _ => l.length - (intOf iv).toNat)
    case atStart => exact ⟨0, by omega, rfl, rfl, HW0⟩
    case round =>
      obtain ⟨i, hi, rfl, rfl, HW⟩ := hrel
      obtain ⟨rb, hrb⟩ : ∃ rb, rb = (l.take i).all rightE := ⟨_, rfl⟩
      rw [← hrb]
      by_cases hlt : i < l.length
      · obtain ⟨⟨k, h⟩, hk⟩ : ∃ e, l[i]? = some e := ⟨_, List.getElem?_eq_getElem hlt⟩
        have HRN := Aside0.mk (show (l.take (i + 1)).all rightE = (rb && rightE (k, h)) by rw [List.take_add_one, hk, List.all_append, ← hrb]; simp)
        cases rb
        · clear hrb hk
          go_wp2_with fail
          go_roundw
          case rel => exact ⟨i + 1, by omega, by go_num, by rw [HRN.out]; rfl, HW⟩
          case measure => simp [intOf]; omega
        · obtain ⟨ad, hA, m0, mi⟩ := (HX.out.bw HW.out).atS i _ hk
          subst hA
          have s0 := m0 _ rfl
          have s1 := mi 1 _ (by decide) rfl
          clear hrb hk m0 mi
          go_wp2_with fail
          refine (refRight_calls k h _).mono ?_
          rintro e w1 ⟨rfl, hb1⟩
          go_wp2_with fail
          go_roundw
          case rel => exact ⟨i + 1, by omega, by go_num, by rw [HRN.out]; rfl, ⟨HW.out.trans hb1⟩⟩
          case measure => simp [intOf]; omega
      · obtain rfl : i = l.length := by omega
        rw [List.take_length] at hrb
        have HWR := Aside0.mk (Write_calls A cap l wr (HE.out.bw HW.out).tab (HX.out.bw HW.out) (by omega))
        cases rb
        · rw [← hrb, if_neg (by decide), if_neg (by decide)] at HWR
          clear hrb
          go_wp2_with fail
          refine (HWR.out).mono ?_
          rintro e w1 ⟨rfl, hb1⟩
          go_wp2_with fail
          refine (sawake_calls _ ((HE.out.bw HW.out).bw hb1).tab).mono ?_
          rintro e w2 ⟨rfl, hb2⟩
          go_wp2_with fail
          go_ret
          exact ⟨rfl, (HW.out.trans hb1).trans hb2⟩
        · rw [← hrb, if_pos rfl, if_pos rfl] at HWR
          have hsh := wrL_short l 0 hrb.symm (by omega)
          have HRD := Aside0.mk (fun W hW => Read_calls (wrL 0 l) W hW (by omega))
          rw [readF_wrL l hrb.symm (by omega)] at HRD
          have HRW := Aside0.mk (fun W hW => refWrite_calls A cap l W hW hrb.symm (by omega))
          obtain ⟨tx, htx⟩ : ∃ tx, tx = wrL 0 l := ⟨_, rfl⟩
          rw [← htx] at HWR HRD HRW
          clear hrb hsh htx
          go_wp2_with fail
          refine (HWR.out).mono ?_
          rintro e w1 ⟨rfl, hb1⟩
          go_wp2_with fail
          refine (HRD.out _ ((HE.out.bw HW.out).bw hb1)).mono ?_
          rintro e w2 ⟨⟨v, rfl, ho, hl⟩, hb2⟩
          obtain ⟨A2, c2, rfl, hR⟩ := Rows.own (enc := encN) (sz := 2) (xs := l) (fun _ => rfl) ho rfl (own_len ho)
          have HR2 := Aside0.mk hR
          have HB2 := Aside0.mk ((HW.out.trans hb1).trans hb2)
          clear ho hR hb1 hb2 hl
          go_wp2_with fail
          refine (sawake_calls _ (HE.out.bw HB2.out).tab).mono ?_
          rintro e w3 ⟨rfl, hb3⟩
          have HB3 := Aside0.mk (HB2.out.trans hb3)
          have HR3 := Aside0.mk (HR2.out.bw hb3)
          clear hb3
          go_wp2_with fail
          refine (HRW.out _ (HX.out.bw HB3.out)).mono ?_
          rintro e w4 ⟨rfl, hb4⟩
          have HB4 := Aside0.mk (HB3.out.trans hb4)
          have HR4 := Aside0.mk (HR3.out.bw hb4)
          clear hb4
          go_wp2_with fail
          refine (same_calls A2 A c2 cap l _ HR4.out (HX.out.bw HB4.out) (by omega)).mono ?_
          rintro e w5 ⟨rfl, hb5⟩
          have HB5 := Aside0.mk (HB4.out.trans hb5)
          clear hb5
          go_wp2_with fail
          go_ret
          exact ⟨by simp, HB5.out⟩
  · have d0 : decide ((200 : Int) < (l.length : Int)) = true := decide_eq_true (by omega)
    clear he hx
    go_enter Tryd.func8, Tryd.ntmps8
    go_wp2_with fail
    refine (sawake_calls _ HE.out.tab).mono ?_
    rintro e w1 ⟨rfl, hb1⟩
    go_wp2_with fail
    go_ret
    exact ⟨rfl, hb1⟩
theorem ScriptWrites_walk (w : World) (he : Env w) (a : Option Addr) (len cap : Nat) (f : RdRow [.int .i64, .int .i64] w a len cap) (y : len * 16 ≤ 140737488351232) : Calls Tryd.prog 8 #[.slice a len cap] w fun e w' => e = .returned (.bool true) ∧ Bw w w' := by
  obtain ⟨xs, hl, hx, _⟩ := rd_pairs f
  subst hl
  exact ScriptWrites_list a cap xs w he hx
end Go.Proofs.YtogpjimmcckkcaaDoor.M
