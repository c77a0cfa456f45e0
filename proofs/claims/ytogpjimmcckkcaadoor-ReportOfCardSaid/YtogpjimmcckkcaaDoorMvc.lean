/- Report: the law ReportWrites. Condition: what the library's variables and the words' table hold. -/
import Derived.Test.YtogpjimmcckkcaaDoorMvb
import Derived.Test.YtogpjimmcckkcaaDoorMva
namespace Go.Proofs.YtogpjimmcckkcaaDoor.M
open Go.RowKit Go.Proofs.YtogpjimmcckkcaaDoorW.PrintWords Go.Proofs.YtogpjimmcckkcaaDoorW.PrintLast Go.Proofs.YtogpjimmcckkcaaDoorW.PrintMore
set_option linter.unusedVariables false
set_option linter.unusedSimpArgs false
/-- A line's length: a number below m has fewer than .. digits; here the plain bound by halves. -/
theorem dec_log : ∀ (m n : Nat), n < 10 ^ m → (Lib.decDigits n).length ≤ m + 1
  | 0, n, h => by rw [dec_small (by omega)]; simp
  | m + 1, n, h => by
    by_cases hn : n < 10
    · rw [dec_small hn]; simp
    · rw [dec_big hn, List.length_append]
      have := dec_log m (n / 10) (by rw [Nat.pow_succ] at h; omega)
      simp
      omega
theorem lineR_tight (e : Rep) (hr : rightR e = true) : (lineR e).length ≤ 50 := by
  obtain ⟨⟨hk0, hk1⟩, ⟨hg0, hg1⟩, ⟨ho0, ho1⟩, ⟨ht0, ht1⟩, ⟨hp0, hp1⟩⟩ := rightR_range hr
  unfold lineR
  have h0 := evW_len e.k.toNat
  have nl : ∀ (c : UInt8) (n : Int), n < 65536 → (namedL c n).length ≤ 8 := fun c n h => by
    unfold namedL
    split
    · simp
    · have := dec_log 5 n.toNat (by omega)
      simp only [List.length_cons]
      omega
  have h1 := nl 103 e.g (by omega)
  have h2 := nl 103 e.o (by omega)
  have h3 := nl 116 e.t (by omega)
  have h4 := nl 112 e.p (by omega)
  simp only [List.length_append, List.length_singleton]
  omega
theorem lines_tight : ∀ l : List Rep, l.all rightR = true → (l.flatMap lineR).length ≤ l.length * 50
  | [], _ => by simp
  | e :: l, h => by
    rw [List.all_cons, Bool.and_eq_true] at h
    rw [List.flatMap_cons, List.length_append, List.length_cons, Nat.add_mul]
    have := lineR_tight e h.1
    have := lines_tight l h.2
    omega
set_option maxHeartbeats 1000000 in
theorem ReportWrites_list (A : Option Addr) (cap : Nat) (l : List Rep) (w : World) (he : EnvR w) (hx : Rows encR 5 w A l) : Calls Tryd.prog 7 #[.slice A l.length cap] w fun e w' => e = .returned (.bool true) ∧ Bw w w' := by
  have HE := Aside0.mk he
  have HX := Aside0.mk hx
  have hlm := hx.1
  by_cases h2 : l.length ≤ 200
  · have d0 : decide ((200 : Int) < (l.length : Int)) = false := decide_eq_false (by omega)
    have HW0 := Aside0.mk (Bw.refl w)
    clear he hx hlm
    go_enter Tryd.func7, Tryd.ntmps7
    go_wp2_with fail
    go_loopw [3, 4] (fun rv iv wr => ∃ i : Nat, i ≤ l.length ∧ iv = .int .i64 i ∧ rv = .bool ((l.take i).all rightR) ∧ Aside0 (Bw w wr)) (fun _ iv _ => l.length - (intOf iv).toNat)
    case atStart => exact ⟨0, by omega, rfl, rfl, HW0⟩
    case round =>
      obtain ⟨i, hi, rfl, rfl, HW⟩ := hrel
      obtain ⟨rb, hrb⟩ : ∃ rb, rb = (l.take i).all rightR := ⟨_, rfl⟩
      rw [← hrb]
      by_cases hlt : i < l.length
      · obtain ⟨⟨k, g, o, t, q⟩, hk⟩ : ∃ e, l[i]? = some e := ⟨_, List.getElem?_eq_getElem hlt⟩
        have HRN := Aside0.mk (show (l.take (i + 1)).all rightR = (rb && rightR ⟨k, g, o, t, q⟩) by rw [List.take_add_one, hk, List.all_append, ← hrb]; simp)
        cases rb
        · clear hrb hk
          go_wp2_with fail
          go_roundw
          case rel => exact ⟨i + 1, by omega, by go_num, by rw [HRN.out]; rfl, HW⟩
          case measure => simp [intOf]; omega
        · obtain ⟨ad, hA, m0, mi⟩ := (HX.out.bw HW.out).atS i _ hk
          subst hA
          have s0 := m0 _ rfl
          have s1 := mi 1 _ (by decide) rfl
          have s2 := mi 2 _ (by decide) rfl
          have s3 := mi 3 _ (by decide) rfl
          have s4 := mi 4 _ (by decide) rfl
          clear hrb hk m0 mi
          go_wp2_with fail
          refine (refRep_calls k g o t q _).mono ?_
          rintro e w1 ⟨rfl, hb1⟩
          go_wp2_with fail
          go_roundw
          case rel => exact ⟨i + 1, by omega, by go_num, by rw [HRN.out]; rfl, ⟨HW.out.trans hb1⟩⟩
          case measure => simp [intOf]; omega
      · obtain rfl : i = l.length := by omega
        rw [List.take_length] at hrb
        have HWR := Aside0.mk (repWrite_calls A cap l wr (HE.out.bw HW.out) (HX.out.bw HW.out) (by omega))
        cases rb
        · rw [show writeR l = ([], 1) by unfold writeR; rw [← hrb, if_neg (by decide)]] at HWR
          clear hrb
          go_wp2_with fail
          refine (HWR.out).mono ?_
          rintro e w1 ⟨rfl, hb1⟩
          go_wp2_with fail
          refine (rawake_calls _ ((HE.out.bw HW.out).bw hb1)).mono ?_
          rintro e w2 ⟨rfl, hb2⟩
          go_wp2_with fail
          go_ret
          exact ⟨rfl, (HW.out.trans hb1).trans hb2⟩
        · rw [show writeR l = (l.flatMap lineR, 0) by unfold writeR; rw [← hrb, if_pos rfl]] at HWR
          have hsh := lines_tight l hrb.symm
          have HRD := Aside0.mk (fun W hW => repRead_calls (l.flatMap lineR) W hW (by omega))
          rw [readR_lines l hrb.symm (by omega)] at HRD
          have HRW := Aside0.mk (fun W hW => refWriteR_calls A cap l W hW hrb.symm (by omega))
          obtain ⟨tx, htx⟩ : ∃ tx, tx = l.flatMap lineR := ⟨_, rfl⟩
          rw [← htx] at HWR HRD HRW
          clear hrb hsh htx
          go_wp2_with fail
          refine (HWR.out).mono ?_
          rintro e w1 ⟨rfl, hb1⟩
          go_wp2_with fail
          refine (HRD.out _ ((HE.out.bw HW.out).bw hb1)).mono ?_
          rintro e w2 ⟨⟨v, rfl, ho, hl⟩, hb2⟩
          obtain ⟨A2, c2, rfl, hR⟩ := Rows.own (enc := encR) (sz := 5) (xs := l) (fun _ => rfl) ho rfl (own_len ho)
          have HR2 := Aside0.mk hR
          have HB2 := Aside0.mk ((HW.out.trans hb1).trans hb2)
          clear ho hR hb1 hb2 hl
          go_wp2_with fail
          refine (rawake_calls _ (HE.out.bw HB2.out)).mono ?_
          rintro e w3 ⟨rfl, hb3⟩
          have HB3 := Aside0.mk (HB2.out.trans hb3)
          have HR3 := Aside0.mk (HR2.out.bw hb3)
          clear hb3
          go_wp2_with fail
          refine (HRW.out _ (HX.out.bw HB3.out)).mono ?_
          rintro e w4 ⟨rfl, hb4⟩
          have HB4 := Aside0.mk (HB3.out.trans hb4)
          have HR4 := Aside0.mk (HR3.out.bw hb4)
          clear hb4
          go_wp2_with fail
          refine (Same_calls A2 A c2 cap l _ HR4.out (HX.out.bw HB4.out) (by omega)).mono ?_
          rintro e w5 ⟨rfl, hb5⟩
          have HB5 := Aside0.mk (HB4.out.trans hb5)
          clear hb5
          go_wp2_with fail
          go_ret
          exact ⟨by simp, HB5.out⟩
  · have d0 : decide ((200 : Int) < (l.length : Int)) = true := decide_eq_true (by omega)
    clear he hx
    go_enter Tryd.func7, Tryd.ntmps7
    go_wp2_with fail
    refine (rawake_calls _ HE.out).mono ?_
    rintro e w1 ⟨rfl, hb1⟩
    go_wp2_with fail
    go_ret
    exact ⟨rfl, hb1⟩
theorem rd_reps {w : World} {a : Option Addr} {len cap : Nat} (h : RdRow [.int .i64, .int .i64, .int .i64, .int .i64, .int .i64] w a len cap) :
    ∃ xs : List Rep, xs.length = len ∧ Rows encR 5 w a xs := by
  obtain ⟨css, hl, hf, hr⟩ := rd_cells h
  refine ⟨css.map fun cs => ⟨geti cs 0, geti cs 1, geti cs 2, geti cs 3, geti cs 4⟩, by simpa using hl, hr.map fun cs hcs => ?_⟩
  obtain ⟨k, _, rfl, _, h1⟩ := (hf cs hcs).int
  obtain ⟨g, _, rfl, _, h2⟩ := h1.int
  obtain ⟨o, _, rfl, _, h3⟩ := h2.int
  obtain ⟨t, _, rfl, _, h4⟩ := h3.int
  obtain ⟨p, _, rfl, _, h5⟩ := h4.int
  obtain rfl := h5.nil
  rfl
theorem ReportWrites_walk (w : World) (he : EnvR w) (a : Option Addr) (len cap : Nat) (f : RdRow [.int .i64, .int .i64, .int .i64, .int .i64, .int .i64] w a len cap) (y : len * 40 ≤ 140737488351232) : Calls Tryd.prog 7 #[.slice a len cap] w fun e w' => e = .returned (.bool true) ∧ Bw w w' := by
  obtain ⟨xs, hl, hx⟩ := rd_reps f
  subst hl
  exact ReportWrites_list a cap xs w he hx
end Go.Proofs.YtogpjimmcckkcaaDoor.M
