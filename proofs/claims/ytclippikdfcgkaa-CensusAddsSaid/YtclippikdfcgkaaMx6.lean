/- The document's counts of events (package turnspitref35). Conditions: no more than a thousand events. -/
import Derived.Test.YtclippikdfcgkaaMx5
namespace Go.Proofs.Ytclippikdfcgkaa.M
open Go.RowKit Go.Proofs.YtclippikdfcgkaaW.PrintWords Go.Proofs.YtclippikdfcgkaaW.PrintLast Go.Proofs.YtclippikdfcgkaaW.PrintMore
attribute [local go_sem] max2_int max_two
set_option linter.unusedVariables false
set_option linter.unusedSimpArgs false
theorem evCells {w : World} {ad : Addr} {es : List Ev} {k : Nat} {e : Ev} (h : Rows encV 5 w (some ad) es) (hk : es[k]? = some e) :
    w.cell? (ad.add (k * 5)) = some (.int .i64 e.kind) ∧ w.cell? ⟨(ad.add (k * 5)).block, (ad.add (k * 5)).off + 1, none⟩ = some (.int .i64 e.g) ∧ w.cell? ⟨(ad.add (k * 5)).block, (ad.add (k * 5)).off + 2, none⟩ = some (.int .i64 e.other)
    ∧ w.cell? ⟨(ad.add (k * 5)).block, (ad.add (k * 5)).off + 3, none⟩ = some (.int .i64 e.thread) ∧ w.cell? ⟨(ad.add (k * 5)).block, (ad.add (k * 5)).off + 4, none⟩ = some (.int .i64 e.proc) := by
  obtain ⟨ad', e', h0, hi⟩ := h.atS k e hk
  injection e' with e'
  subst e'
  exact ⟨h0 _ rfl, hi 1 _ (by decide) rfl, hi 2 _ (by decide) rfl, hi 3 _ (by decide) rfl, hi 4 _ (by decide) rfl⟩
theorem cB_next (es : List Ev) (k : Nat) (e : Ev) (p : Ev → Bool) (h : es[k]? = some e) : cB (es.take (k + 1)) p = cB (es.take k) p + if p e = true then 1 else 0 := by
  rw [List.take_add_one, h]
  exact cB_snoc _ _ _
set_option maxHeartbeats 2000000 in
theorem refKind_calls (A : Option Addr) (cap : Nat) (es : List Ev) (q : Int) (w : World) (hx : Rows encV 5 w A es) (hl : es.length ≤ 1000) :
    Calls Try.prog 90 #[.slice A es.length cap, .int .i64 q] w fun e w' => e = .returned (.int .i64 (cK es q)) ∧ Bw w w' := by
  have HB := Aside0.mk (Bw.refl w)
  have HX := Aside0.mk hx
  clear hx
  go_enter Try.func90, Try.ntmps90
  go_wp2
  go_loopw [5, 6] (fun nv iv wr => ∃ (k : Nat) (n : Int), k ≤ es.length ∧ 0 ≤ n ∧ n ≤ k ∧ iv = .int .i64 k ∧ nv = .int .i64 n ∧ Aside0 (n = cK (es.take k) q) ∧ Aside0 (Bw w wr)) (fun _ iv _ => es.length - (intOf iv).toNat)
  case atStart => exact ⟨0, 0, by omega, by omega, by omega, rfl, rfl, ⟨rfl⟩, HB⟩
  case round =>
    obtain ⟨k, n, hk, n0, n1, rfl, rfl, HN, HW⟩ := hrel
    by_cases hlt : k < es.length
    · obtain ⟨e, he⟩ : ∃ e, es[k]? = some e := ⟨_, List.getElem?_eq_getElem hlt⟩
      obtain ⟨ad, rfl, _⟩ := (HX.out.bw HW.out).atS k e he
      obtain ⟨s0, _⟩ := evCells (HX.out.bw HW.out) he
      have HNX := Aside0.mk (cB_next es k e (isK q) he)
      clear he
      have fin : ∀ m : Int, m = n + (if isK q e = true then 1 else 0) → m = cK (es.take (k + 1)) q := fun m hm => by rw [hm, HN.out]; exact HNX.out.symm
      have FIN := Aside0.mk fin
      clear fin
      by_cases h1 : e.kind < 1
      · have d1 : decide (e.kind < 1) = true := by simpa using h1
        have HK := Aside0.mk (show isK q e = (0 == q) by unfold isK normK; rw [if_pos (by omega)])
        clear h1
        cases hb : ((0 : Int) == q)
        · rw [hb] at HK
          go_wp2_with fail
          go_roundw
          case rel => exact ⟨k + 1, n, by omega, by omega, by omega, by go_num, rfl, ⟨FIN.out n (by rw [HK.out]; simp)⟩, HW⟩
          case measure => simp [intOf]; omega
        · rw [hb] at HK
          go_wp2_with fail
          go_roundw
          case rel => exact ⟨k + 1, n + 1, by omega, by omega, by omega, by go_num, rfl, ⟨FIN.out (n + 1) (by rw [HK.out]; simp)⟩, HW⟩
          case measure => simp [intOf]; omega
      · have d1 : decide (e.kind < 1) = false := by simpa using h1
        by_cases h2 : 11 < e.kind
        · have d2 : decide (11 < e.kind) = true := by simpa using h2
          have HK := Aside0.mk (show isK q e = (0 == q) by unfold isK normK; rw [if_pos (by omega)])
          clear h1 h2
          cases hb : ((0 : Int) == q)
          · rw [hb] at HK
            go_wp2_with fail
            go_roundw
            case rel => exact ⟨k + 1, n, by omega, by omega, by omega, by go_num, rfl, ⟨FIN.out n (by rw [HK.out]; simp)⟩, HW⟩
            case measure => simp [intOf]; omega
          · rw [hb] at HK
            go_wp2_with fail
            go_roundw
            case rel => exact ⟨k + 1, n + 1, by omega, by omega, by omega, by go_num, rfl, ⟨FIN.out (n + 1) (by rw [HK.out]; simp)⟩, HW⟩
            case measure => simp [intOf]; omega
        · have d2 : decide (11 < e.kind) = false := by simpa using h2
          have HK := Aside0.mk (show isK q e = (e.kind == q) by unfold isK normK; rw [if_neg (by omega)])
          clear h1 h2
          cases hb : (e.kind == q)
          · rw [hb] at HK
            go_wp2_with fail
            go_roundw
            case rel => exact ⟨k + 1, n, by omega, by omega, by omega, by go_num, rfl, ⟨FIN.out n (by rw [HK.out]; simp)⟩, HW⟩
            case measure => simp [intOf]; omega
          · rw [hb] at HK
            go_wp2_with fail
            go_roundw
            case rel => exact ⟨k + 1, n + 1, by omega, by omega, by omega, by go_num, rfl, ⟨FIN.out (n + 1) (by rw [HK.out]; simp)⟩, HW⟩
            case measure => simp [intOf]; omega
    · obtain rfl : k = es.length := by omega
      have HN' := HN.out
      rw [List.take_length] at HN'
      go_wp2_with fail
      go_ret
      exact ⟨ret_int HN', HW.out⟩
set_option maxHeartbeats 2000000 in
theorem refOf_calls (A : Option Addr) (cap : Nat) (es : List Ev) (q g : Int) (w : World) (hx : Rows encV 5 w A es) (hl : es.length ≤ 1000) :
    Calls Try.prog 91 #[.slice A es.length cap, .int .i64 q, .int .i64 g] w fun e w' => e = .returned (.int .i64 (cO es q g)) ∧ Bw w w' := by
  have HB := Aside0.mk (Bw.refl w)
  have HX := Aside0.mk hx
  clear hx
  go_enter Try.func91, Try.ntmps91
  go_wp2
  go_loopw [7, 8] (fun nv iv wr => ∃ (k : Nat) (n : Int), k ≤ es.length ∧ 0 ≤ n ∧ n ≤ k ∧ iv = .int .i64 k ∧ nv = .int .i64 n ∧ Aside0 (n = cO (es.take k) q g) ∧ Aside0 (Bw w wr)) (fun _ iv _ => es.length - (intOf iv).toNat)
  case atStart => exact ⟨0, 0, by omega, by omega, by omega, rfl, rfl, ⟨rfl⟩, HB⟩
  case round =>
    obtain ⟨k, n, hk, n0, n1, rfl, rfl, HN, HW⟩ := hrel
    by_cases hlt : k < es.length
    · obtain ⟨e, he⟩ : ∃ e, es[k]? = some e := ⟨_, List.getElem?_eq_getElem hlt⟩
      obtain ⟨ad, rfl, _⟩ := (HX.out.bw HW.out).atS k e he
      obtain ⟨s0, s1, s2, _⟩ := evCells (HX.out.bw HW.out) he
      have HNX := Aside0.mk (cB_next es k e (isO q g) he)
      clear he
      have fin : ∀ m : Int, m = n + (if isO q g e = true then 1 else 0) → m = cO (es.take (k + 1)) q g := fun m hm => by rw [hm, HN.out]; exact HNX.out.symm
      have FIN := Aside0.mk fin
      clear fin
      have HD : Aside0 (isO q g e = (e.kind == q && (if q = 2 then e.other == g else e.g == g))) := ⟨rfl⟩
      by_cases h2 : q = 2
      · rw [if_pos h2] at HD
        have e2 : (q == 2) = true := by simpa using h2
        have e3 : (q != 2) = false := by simpa using h2
        clear h2
        cases hb1 : (e.kind == q)
        · go_wp2_with fail
          go_roundw
          case rel => exact ⟨k + 1, n, by omega, by omega, by omega, by go_num, rfl, ⟨FIN.out n (by rw [HD.out, hb1]; simp)⟩, HW⟩
          case measure => simp [intOf]; omega
        · cases hb2 : (e.other == g)
          · go_wp2_with fail
            go_roundw
            case rel => exact ⟨k + 1, n, by omega, by omega, by omega, by go_num, rfl, ⟨FIN.out n (by rw [HD.out, hb1, hb2]; simp)⟩, HW⟩
            case measure => simp [intOf]; omega
          · go_wp2_with fail
            go_roundw
            case rel => exact ⟨k + 1, n + 1, by omega, by omega, by omega, by go_num, rfl, ⟨FIN.out (n + 1) (by rw [HD.out, hb1, hb2]; simp)⟩, HW⟩
            case measure => simp [intOf]; omega
      · rw [if_neg h2] at HD
        have e2 : (q == 2) = false := by simpa using h2
        have e3 : (q != 2) = true := by simpa using h2
        clear h2
        cases hb1 : (e.kind == q)
        · go_wp2_with fail
          go_roundw
          case rel => exact ⟨k + 1, n, by omega, by omega, by omega, by go_num, rfl, ⟨FIN.out n (by rw [HD.out, hb1]; simp)⟩, HW⟩
          case measure => simp [intOf]; omega
        · cases hb2 : (e.g == g)
          · go_wp2_with fail
            go_roundw
            case rel => exact ⟨k + 1, n, by omega, by omega, by omega, by go_num, rfl, ⟨FIN.out n (by rw [HD.out, hb1, hb2]; simp)⟩, HW⟩
            case measure => simp [intOf]; omega
          · go_wp2_with fail
            go_roundw
            case rel => exact ⟨k + 1, n + 1, by omega, by omega, by omega, by go_num, rfl, ⟨FIN.out (n + 1) (by rw [HD.out, hb1, hb2]; simp)⟩, HW⟩
            case measure => simp [intOf]; omega
    · obtain rfl : k = es.length := by omega
      have HN' := HN.out
      rw [List.take_length] at HN'
      go_wp2_with fail
      go_ret
      exact ⟨ret_int HN', HW.out⟩
set_option maxHeartbeats 2000000 in
theorem refProc_calls (A : Option Addr) (cap : Nat) (es : List Ev) (q : Int) (w : World) (hx : Rows encV 5 w A es) (hl : es.length ≤ 1000) :
    Calls Try.prog 92 #[.slice A es.length cap, .int .i64 q] w fun e w' => e = .returned (.int .i64 (cP es q)) ∧ Bw w w' := by
  have HB := Aside0.mk (Bw.refl w)
  have HX := Aside0.mk hx
  clear hx
  go_enter Try.func92, Try.ntmps92
  go_wp2
  go_loopw [5, 6] (fun nv iv wr => ∃ (k : Nat) (n : Int), k ≤ es.length ∧ 0 ≤ n ∧ n ≤ k ∧ iv = .int .i64 k ∧ nv = .int .i64 n ∧ Aside0 (n = cP (es.take k) q) ∧ Aside0 (Bw w wr)) (fun _ iv _ => es.length - (intOf iv).toNat)
  case atStart => exact ⟨0, 0, by omega, by omega, by omega, rfl, rfl, ⟨rfl⟩, HB⟩
  case round =>
    obtain ⟨k, n, hk, n0, n1, rfl, rfl, HN, HW⟩ := hrel
    by_cases hlt : k < es.length
    · obtain ⟨e, he⟩ : ∃ e, es[k]? = some e := ⟨_, List.getElem?_eq_getElem hlt⟩
      obtain ⟨ad, rfl, _⟩ := (HX.out.bw HW.out).atS k e he
      obtain ⟨s0, s1, s2, s3, s4⟩ := evCells (HX.out.bw HW.out) he
      have HNX := Aside0.mk (cB_next es k e (isP q) he)
      clear he
      have fin : ∀ m : Int, m = n + (if isP q e = true then 1 else 0) → m = cP (es.take (k + 1)) q := fun m hm => by rw [hm, HN.out]; exact HNX.out.symm
      have FIN := Aside0.mk fin
      clear fin
      have HD : Aside0 (isP q e = ((e.kind == 1 || e.kind == 9) && e.proc == q)) := ⟨rfl⟩
      cases hb1 : (e.kind == 1)
      · cases hb2 : (e.kind == 9)
        · go_wp2_with fail
          go_roundw
          case rel => exact ⟨k + 1, n, by omega, by omega, by omega, by go_num, rfl, ⟨FIN.out n (by rw [HD.out, hb1, hb2]; simp)⟩, HW⟩
          case measure => simp [intOf]; omega
        · cases hb3 : (e.proc == q)
          · go_wp2_with fail
            go_roundw
            case rel => exact ⟨k + 1, n, by omega, by omega, by omega, by go_num, rfl, ⟨FIN.out n (by rw [HD.out, hb1, hb2, hb3]; simp)⟩, HW⟩
            case measure => simp [intOf]; omega
          · go_wp2_with fail
            go_roundw
            case rel => exact ⟨k + 1, n + 1, by omega, by omega, by omega, by go_num, rfl, ⟨FIN.out (n + 1) (by rw [HD.out, hb1, hb2, hb3]; simp)⟩, HW⟩
            case measure => simp [intOf]; omega
      · cases hb3 : (e.proc == q)
        · go_wp2_with fail
          go_roundw
          case rel => exact ⟨k + 1, n, by omega, by omega, by omega, by go_num, rfl, ⟨FIN.out n (by rw [HD.out, hb1, hb3]; simp)⟩, HW⟩
          case measure => simp [intOf]; omega
        · go_wp2_with fail
          go_roundw
          case rel => exact ⟨k + 1, n + 1, by omega, by omega, by omega, by go_num, rfl, ⟨FIN.out (n + 1) (by rw [HD.out, hb1, hb3]; simp)⟩, HW⟩
          case measure => simp [intOf]; omega
    · obtain rfl : k = es.length := by omega
      have HN' := HN.out
      rw [List.take_length] at HN'
      go_wp2_with fail
      go_ret
      exact ⟨ret_int HN', HW.out⟩
set_option maxHeartbeats 2000000 in
theorem refNow_calls (A : Option Addr) (cap : Nat) (es : List Ev) (w : World) (hx : Rows encV 5 w A es) (hl : es.length ≤ 1000) :
    Calls Try.prog 89 #[.slice A es.length cap] w fun e w' => e = .returned (.int .i64 (cNow es)) ∧ Bw w w' := by
  have HB := Aside0.mk (Bw.refl w)
  have HX := Aside0.mk hx
  have HN : Aside0 (cNow es = cK es 1 + cK es 9 - (cK es 4 + cK es 5 + cK es 6 + cK es 8 + cK es 11)) := ⟨rfl⟩
  have h := fun k => cB_range es (isK k)
  obtain ⟨x1, hx1⟩ : ∃ x, x = cK es 1 := ⟨_, rfl⟩
  obtain ⟨x9, hx9⟩ : ∃ x, x = cK es 9 := ⟨_, rfl⟩
  obtain ⟨x4, hx4⟩ : ∃ x, x = cK es 4 := ⟨_, rfl⟩
  obtain ⟨x5, hx5⟩ : ∃ x, x = cK es 5 := ⟨_, rfl⟩
  obtain ⟨x6, hx6⟩ : ∃ x, x = cK es 6 := ⟨_, rfl⟩
  obtain ⟨x8, hx8⟩ : ∃ x, x = cK es 8 := ⟨_, rfl⟩
  obtain ⟨x11, hx11⟩ : ∃ x, x = cK es 11 := ⟨_, rfl⟩
  have r1 : 0 ≤ x1 ∧ x1 ≤ 1000 := by have := h 1; rw [hx1]; unfold cK; omega
  have r9 : 0 ≤ x9 ∧ x9 ≤ 1000 := by have := h 9; rw [hx9]; unfold cK; omega
  have r4 : 0 ≤ x4 ∧ x4 ≤ 1000 := by have := h 4; rw [hx4]; unfold cK; omega
  have r5 : 0 ≤ x5 ∧ x5 ≤ 1000 := by have := h 5; rw [hx5]; unfold cK; omega
  have r6 : 0 ≤ x6 ∧ x6 ≤ 1000 := by have := h 6; rw [hx6]; unfold cK; omega
  have r8 : 0 ≤ x8 ∧ x8 ≤ 1000 := by have := h 8; rw [hx8]; unfold cK; omega
  have r11 : 0 ≤ x11 ∧ x11 ≤ 1000 := by have := h 11; rw [hx11]; unfold cK; omega
  rw [← hx1, ← hx9, ← hx4, ← hx5, ← hx6, ← hx8, ← hx11] at HN
  have K1 := Aside0.mk hx1
  have K9 := Aside0.mk hx9
  have K4 := Aside0.mk hx4
  have K5 := Aside0.mk hx5
  have K6 := Aside0.mk hx6
  have K8 := Aside0.mk hx8
  have K11 := Aside0.mk hx11
  clear hx h hx1 hx9 hx4 hx5 hx6 hx8 hx11
  go_enter Try.func89, Try.ntmps89
  go_wp2_with fail
  refine (refKind_calls A cap es 4 _ HX.out hl).mono ?_
  rintro e w1 ⟨rfl, hb1⟩
  rw [← K4.out]
  have HW := Aside0.mk (HB.out.trans hb1)
  go_wp2_with fail
  refine (refKind_calls A cap es 5 _ (HX.out.bw HW.out) hl).mono ?_
  rintro e w2 ⟨rfl, hb2⟩
  rw [← K5.out]
  have HW := Aside0.mk (HW.out.trans hb2)
  go_wp2_with fail
  refine (refKind_calls A cap es 6 _ (HX.out.bw HW.out) hl).mono ?_
  rintro e w3 ⟨rfl, hb3⟩
  rw [← K6.out]
  have HW := Aside0.mk (HW.out.trans hb3)
  go_wp2_with fail
  refine (refKind_calls A cap es 8 _ (HX.out.bw HW.out) hl).mono ?_
  rintro e w4 ⟨rfl, hb4⟩
  rw [← K8.out]
  have HW := Aside0.mk (HW.out.trans hb4)
  go_wp2_with fail
  refine (refKind_calls A cap es 11 _ (HX.out.bw HW.out) hl).mono ?_
  rintro e w5 ⟨rfl, hb5⟩
  rw [← K11.out]
  have HW := Aside0.mk (HW.out.trans hb5)
  go_wp2_with fail
  refine (refKind_calls A cap es 1 _ (HX.out.bw HW.out) hl).mono ?_
  rintro e w6 ⟨rfl, hb6⟩
  rw [← K1.out]
  have HW := Aside0.mk (HW.out.trans hb6)
  go_wp2_with fail
  refine (refKind_calls A cap es 9 _ (HX.out.bw HW.out) hl).mono ?_
  rintro e w7 ⟨rfl, hb7⟩
  rw [← K9.out]
  have HW := Aside0.mk (HW.out.trans hb7)
  go_wp2_with fail
  go_ret
  exact ⟨ret_int HN.out.symm, HW.out⟩
end Go.Proofs.Ytclippikdfcgkaa.M
