/- Report: the law package's awake and Same; the document's Right. Condition: what the library's variables and the words' table hold. -/
import Derived.Test.YtogpjimmcckkcaaDoorMv6
namespace Go.Proofs.YtogpjimmcckkcaaDoor.M
open Go.RowKit Go.Proofs.YtogpjimmcckkcaaDoorW.PrintWords Go.Proofs.YtogpjimmcckkcaaDoorW.PrintLast Go.Proofs.YtogpjimmcckkcaaDoorW.PrintMore
set_option linter.unusedVariables false
set_option linter.unusedSimpArgs false
theorem eqRep (d : Nat) (w : World) (x0 x1 x2 x3 x4 y0 y1 y2 y3 y4 : Int) :
    (Op.equalIn (d + 2) 34 (.agg #[.int .i64 x0, .int .i64 x1, .int .i64 x2, .int .i64 x3, .int .i64 x4]) (.agg #[.int .i64 y0, .int .i64 y1, .int .i64 y2, .int .i64 y3, .int .i64 y4])).run Tryd.prog w = .ok (x0 == y0 && (x1 == y1 && (x2 == y2 && (x3 == y3 && x4 == y4)))) w := by
  refine eqA_of Tryd.underlying34 (by kernel_rfl) ?_
  refine eqf_cons (by rfl) (by go_simp; rfl) (by go_simp; rfl) (by go_simp) ?_
  refine eqf_cons (by rfl) (by go_simp; rfl) (by go_simp; rfl) (by go_simp) ?_
  refine eqf_cons (by rfl) (by go_simp; rfl) (by go_simp; rfl) (by go_simp) ?_
  refine eqf_cons (by rfl) (by go_simp; rfl) (by go_simp; rfl) (by go_simp) ?_
  exact eqf_last (by rfl) (by go_simp; rfl) (by go_simp; rfl) (by go_simp)
abbrev awR : Rep := ⟨2, 0, 3, 1, 0⟩
theorem aw34 : readR [115, 112, 97, 119, 110, 32, 103, 48, 32, 103, 51, 32, 116, 49, 32, 112, 48, 10] = some [awR] := by
  have h0 : Lib.decDigits 0 = [48] := dec_small (by decide)
  have h1 : Lib.decDigits 1 = [49] := dec_small (by decide)
  have h3 : Lib.decDigits 3 = [51] := dec_small (by decide)
  have e : [awR].flatMap lineR = [115, 112, 97, 119, 110, 32, 103, 48, 32, 103, 51, 32, 116, 49, 32, 112, 48, 10] := by
    rw [List.flatMap_cons, List.flatMap_nil, List.append_nil]
    unfold lineR namedL
    simp [h0, h1, h3, evW]
  rw [← e]
  exact readR_lines [awR] (by decide) (by decide)
theorem own_cellr {w : World} {base g cap n : Nat} {e : TypeId} {sz : Nat} {xs : List Value} (h : w.ownsRow base e sz (.slice (some ⟨g, 0, none⟩) n cap) n xs) (j : Nat) (u : Value) (hj : xs[j]? = some u) : w.cell? ⟨g, j, none⟩ = some u := by
  have := h.cells (g := g) rfl j u hj
  have hadd : (⟨g, 0, none⟩ : Addr).add j = ⟨g, j, none⟩ := by unfold Addr.add; split <;> simp_all
  rw [hadd] at this
  exact this
set_option maxHeartbeats 1000000 in
theorem rawake_calls (w : World) (he : EnvR w) : Calls Tryd.prog 19 #[] w fun e w' => e = .returned (.bool true) ∧ Bw w w' := by
  have HE := Aside0.mk he
  have HRD := Aside0.mk (repRead_calls [115, 112, 97, 119, 110, 32, 103, 48, 32, 103, 51, 32, 116, 49, 32, 112, 48, 10] w he (by decide))
  rw [aw34] at HRD
  have qe := eqRep
  clear he
  go_enter Tryd.func19, Tryd.ntmps19
  go_wp2_with fail
  refine HRD.out.mono ?_
  rintro e w1 ⟨⟨v, rfl, ho, hl⟩, hb1⟩
  obtain ⟨g, c, rfl, _, _⟩ := ho.form (by decide)
  have HB1 := Aside0.mk hb1
  have s0 : w1.cell? ⟨g, 0, none⟩ = some (.int .i64 2) := own_cellr ho 0 _ rfl
  have s1 : w1.cell? ⟨g, 1, none⟩ = some (.int .i64 0) := own_cellr ho 1 _ rfl
  have s2 : w1.cell? ⟨g, 2, none⟩ = some (.int .i64 3) := own_cellr ho 2 _ rfl
  have s3 : w1.cell? ⟨g, 3, none⟩ = some (.int .i64 1) := own_cellr ho 3 _ rfl
  have s4 : w1.cell? ⟨g, 4, none⟩ = some (.int .i64 0) := own_cellr ho 4 _ rfl
  clear hb1 HRD ho hl
  go_wp2_with fail
  go_ret
  exact ⟨rfl, HB1.out⟩
set_option maxHeartbeats 1000000 in
theorem refRep_calls (k g o t p : Int) (w : World) : Calls Tryd.prog 18 #[.agg #[.int .i64 k, .int .i64 g, .int .i64 o, .int .i64 t, .int .i64 p]] w fun e w' => e = .returned (.bool (rightR ⟨k, g, o, t, p⟩)) ∧ Bw w w' := by
  have HB := Aside0.mk ((Bw.refl w).alloc (.cells #[.int .i64 k, .int .i64 g, .int .i64 o, .int .i64 t, .int .i64 p] 34))
  by_cases h0 : k < 1
  · have d0 : decide (k < 1) = true := decide_eq_true h0
    have HF := Aside0.mk (show rightR ⟨k, g, o, t, p⟩ = false by unfold rightR belowB; simp; omega)
    clear h0
    go_enter Tryd.func18, Tryd.ntmps18
    go_wp2_with fail
    go_ret
    rw [HF.out]
    exact ⟨rfl, HB.out⟩
  have d0 : decide (k < 1) = false := decide_eq_false h0
  by_cases h1 : 11 < k
  · have d1 : decide (11 < k) = true := decide_eq_true h1
    have HF := Aside0.mk (show rightR ⟨k, g, o, t, p⟩ = false by unfold rightR belowB; simp; omega)
    clear h0 h1
    go_enter Tryd.func18, Tryd.ntmps18
    go_wp2_with fail
    go_ret
    rw [HF.out]
    exact ⟨rfl, HB.out⟩
  have d1 : decide (11 < k) = false := decide_eq_false h1
  by_cases h2 : g < 0
  · have d2 : decide (g < 0) = true := decide_eq_true h2
    have HF := Aside0.mk (show rightR ⟨k, g, o, t, p⟩ = false by unfold rightR belowB; simp; omega)
    clear h0 h1 h2
    go_enter Tryd.func18, Tryd.ntmps18
    go_wp2_with fail
    go_ret
    rw [HF.out]
    exact ⟨rfl, HB.out⟩
  have d2 : decide (g < 0) = false := decide_eq_false h2
  by_cases h3 : 65535 < g
  · have d3 : decide (65535 < g) = true := decide_eq_true h3
    have HF := Aside0.mk (show rightR ⟨k, g, o, t, p⟩ = false by unfold rightR belowB; simp; omega)
    clear h0 h1 h2 h3
    go_enter Tryd.func18, Tryd.ntmps18
    go_wp2_with fail
    go_ret
    rw [HF.out]
    exact ⟨rfl, HB.out⟩
  have d3 : decide (65535 < g) = false := decide_eq_false h3
  by_cases h4 : o < -1
  · have d4 : decide (o < -1) = true := decide_eq_true h4
    have HF := Aside0.mk (show rightR ⟨k, g, o, t, p⟩ = false by unfold rightR belowB; simp; omega)
    clear h0 h1 h2 h3 h4
    go_enter Tryd.func18, Tryd.ntmps18
    go_wp2_with fail
    go_ret
    rw [HF.out]
    exact ⟨rfl, HB.out⟩
  have d4 : decide (o < -1) = false := decide_eq_false h4
  by_cases h5 : 65535 < o
  · have d5 : decide (65535 < o) = true := decide_eq_true h5
    have HF := Aside0.mk (show rightR ⟨k, g, o, t, p⟩ = false by unfold rightR belowB; simp; omega)
    clear h0 h1 h2 h3 h4 h5
    go_enter Tryd.func18, Tryd.ntmps18
    go_wp2_with fail
    go_ret
    rw [HF.out]
    exact ⟨rfl, HB.out⟩
  have d5 : decide (65535 < o) = false := decide_eq_false h5
  by_cases h6 : 0 ≤ t
  rotate_left
  · have d6 : decide (0 ≤ t) = false := decide_eq_false h6
    have HF := Aside0.mk (show rightR ⟨k, g, o, t, p⟩ = false by unfold rightR belowB; simp; omega)
    clear h0 h1 h2 h3 h4 h5 h6
    go_enter Tryd.func18, Tryd.ntmps18
    go_wp2_with fail
    go_ret
    rw [HF.out]
    exact ⟨rfl, HB.out⟩
  have d6 : decide (0 ≤ t) = true := decide_eq_true h6
  by_cases h7 : t ≤ 255
  rotate_left
  · have d7 : decide (t ≤ 255) = false := decide_eq_false h7
    have HF := Aside0.mk (show rightR ⟨k, g, o, t, p⟩ = false by unfold rightR belowB; simp; omega)
    clear h0 h1 h2 h3 h4 h5 h6 h7
    go_enter Tryd.func18, Tryd.ntmps18
    go_wp2_with fail
    go_ret
    rw [HF.out]
    exact ⟨rfl, HB.out⟩
  have d7 : decide (t ≤ 255) = true := decide_eq_true h7
  by_cases h8 : -1 ≤ p
  rotate_left
  · have d8 : decide (-1 ≤ p) = false := decide_eq_false h8
    have HF := Aside0.mk (show rightR ⟨k, g, o, t, p⟩ = false by unfold rightR belowB; simp; omega)
    clear h0 h1 h2 h3 h4 h5 h6 h7 h8
    go_enter Tryd.func18, Tryd.ntmps18
    go_wp2_with fail
    go_ret
    rw [HF.out]
    exact ⟨rfl, HB.out⟩
  have d8 : decide (-1 ≤ p) = true := decide_eq_true h8
  by_cases h9 : p ≤ 63
  rotate_left
  · have d9 : decide (p ≤ 63) = false := decide_eq_false h9
    have HF := Aside0.mk (show rightR ⟨k, g, o, t, p⟩ = false by unfold rightR belowB; simp; omega)
    clear h0 h1 h2 h3 h4 h5 h6 h7 h8 h9
    go_enter Tryd.func18, Tryd.ntmps18
    go_wp2_with fail
    go_ret
    rw [HF.out]
    exact ⟨rfl, HB.out⟩
  have d9 : decide (p ≤ 63) = true := decide_eq_true h9
  have HF := Aside0.mk (show rightR ⟨k, g, o, t, p⟩ = true by unfold rightR belowB; simp; omega)
  clear h0 h1 h2 h3 h4 h5 h6 h7 h8 h9
  go_enter Tryd.func18, Tryd.ntmps18
  go_wp2_with fail
  go_ret
  rw [HF.out]
  exact ⟨rfl, HB.out⟩
set_option maxHeartbeats 1000000 in
theorem Same_calls (A B : Option Addr) (c c' : Nat) (l : List Rep) (w : World) (ha : Rows encR 5 w A l) (hb : Rows encR 5 w B l) (hl : l.length ≤ 65536) :
    Calls Tryd.prog 23 #[.slice A l.length c, .slice B l.length c'] w fun e w' => e = .returned (.bool true) ∧ Bw w w' := by
  have HA := Aside0.mk ha
  have HB := Aside0.mk hb
  have HW0 := Aside0.mk (Bw.refl w)
  clear ha hb
  go_enter Tryd.func23, Tryd.ntmps23
  go_wp2_with fail
  go_loopw [5] (fun iv wr => ∃ i : Nat, i ≤ l.length ∧ iv = .int .i64 i ∧ Aside0 (Bw w wr)) (fun iv _ => l.length - (intOf iv).toNat)
  case atStart => exact ⟨0, by omega, rfl, HW0⟩
  case round =>
    obtain ⟨i, hi, rfl, HW⟩ := hrel
    by_cases hlt : i < l.length
    · obtain ⟨⟨k, g, o, t, p⟩, he⟩ : ∃ e, l[i]? = some e := ⟨_, List.getElem?_eq_getElem hlt⟩
      obtain ⟨ad, hA, m0, mi⟩ := (HA.out.bw HW.out).atS i _ he
      obtain ⟨ad', hB, n0, ni⟩ := (HB.out.bw HW.out).atS i _ he
      subst hA
      subst hB
      have S0 : ∀ q : BwW wr, q.W.cell? (ad.add (i * 5)) = some (.int .i64 k) := fun q => q.cell (m0 _ rfl)
      have N0 : ∀ q : BwW wr, q.W.cell? (ad'.add (i * 5)) = some (.int .i64 k) := fun q => q.cell (n0 _ rfl)
      have S1 : ∀ q : BwW wr, q.W.cell? ⟨(ad.add (i * 5)).block, (ad.add (i * 5)).off + 1, none⟩ = some (.int .i64 g) := fun q => q.cell (mi 1 _ (by decide) rfl)
      have N1 : ∀ q : BwW wr, q.W.cell? ⟨(ad'.add (i * 5)).block, (ad'.add (i * 5)).off + 1, none⟩ = some (.int .i64 g) := fun q => q.cell (ni 1 _ (by decide) rfl)
      have S2 : ∀ q : BwW wr, q.W.cell? ⟨(ad.add (i * 5)).block, (ad.add (i * 5)).off + 2, none⟩ = some (.int .i64 o) := fun q => q.cell (mi 2 _ (by decide) rfl)
      have N2 : ∀ q : BwW wr, q.W.cell? ⟨(ad'.add (i * 5)).block, (ad'.add (i * 5)).off + 2, none⟩ = some (.int .i64 o) := fun q => q.cell (ni 2 _ (by decide) rfl)
      have S3 : ∀ q : BwW wr, q.W.cell? ⟨(ad.add (i * 5)).block, (ad.add (i * 5)).off + 3, none⟩ = some (.int .i64 t) := fun q => q.cell (mi 3 _ (by decide) rfl)
      have N3 : ∀ q : BwW wr, q.W.cell? ⟨(ad'.add (i * 5)).block, (ad'.add (i * 5)).off + 3, none⟩ = some (.int .i64 t) := fun q => q.cell (ni 3 _ (by decide) rfl)
      have S4 : ∀ q : BwW wr, q.W.cell? ⟨(ad.add (i * 5)).block, (ad.add (i * 5)).off + 4, none⟩ = some (.int .i64 p) := fun q => q.cell (mi 4 _ (by decide) rfl)
      have N4 : ∀ q : BwW wr, q.W.cell? ⟨(ad'.add (i * 5)).block, (ad'.add (i * 5)).off + 4, none⟩ = some (.int .i64 p) := fun q => q.cell (ni 4 _ (by decide) rfl)
      have qe : ∀ (d : Nat) (W : World), (Op.equalIn (d + 2) 34 (.agg #[.int .i64 k, .int .i64 g, .int .i64 o, .int .i64 t, .int .i64 p]) (.agg #[.int .i64 k, .int .i64 g, .int .i64 o, .int .i64 t, .int .i64 p])).run Tryd.prog W = .ok true W := fun d W => by rw [eqRep d W]; simp
      clear he m0 mi n0 ni
      go_wp2_with fail
      refine wp_region_bw (by kernel_rfl) (by kernel_rfl) ?_
      repeat (first | go_big_quiet_skip | (go_big_quiet_want; go_big_quiet_op; first | go_big_quiet_on | go_big_quiet_call (fail)))
      refine wpQuiet_nil ?_
      rintro w3 ⟨⟨_, hb3⟩, rfl⟩
      have HB3 := Aside0.mk (HW.out.trans hb3)
      clear S0 S1 S2 S3 S4 N0 N1 N2 N3 N4 qe hb3
      go_wp2_with fail
      go_roundw
      case rel => exact ⟨i + 1, by omega, by go_num, HB3⟩
      case measure => simp [intOf]; omega
    · go_wp2_with fail
      go_ret
      exact ⟨rfl, HW.out⟩
end Go.Proofs.YtogpjimmcckkcaaDoor.M
