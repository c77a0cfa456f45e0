/- Programs (package code): what Len, Long and At answer. Condition: the programs are there. -/
import Derived.Test.YtoklhhcjcecbbaaH4
namespace Go.Proofs.Ytoklhhcjcecbbaa.M
open Go.RowKit Go.Proofs.YtoklhhcjcecbbaaW.PrintWords Go.Proofs.YtoklhhcjcecbbaaW.PrintLast Go.Proofs.YtoklhhcjcecbbaaW.PrintMore
set_option linter.unusedVariables false
set_option linter.unusedSimpArgs false

theorem Read_calls (A : Option Addr) (cap : Nat) (xs : List Int) (w : World) (hx : Rows encU 1 w A xs) (hcap : xs.length ≤ cap) (hr : ∀ x ∈ xs, 0 ≤ x ∧ x < 18446744073709551616) :
    Calls Try.prog 25 #[.slice A xs.length cap] w fun e w' => ∃ b v us, e = .returned (.pointer (some ⟨b, 0, none⟩)) ∧ IsCode w' w.heap.size b v us (progsOf xs) ∧ Bw w w' := by
  refine Read_calls' A cap (min xs.length 4096) xs w hx (by omega) ?_ hcap hr
  split <;> omega

def longOf (pss : List (List (Int × Int))) (p : Int) : Nat := if p < 0 then 0 else (pss.getD p.toNat []).length
def atOf (pss : List (List (Int × Int))) (p i : Int) : Int × Int := if p < 0 then (0, 0) else if i < 0 then (0, 0) else (pss.getD p.toNat []).getD i.toNat (0, 0)
def insV (x : Int × Int) : Value := .agg #[.int .i64 x.1, .int .i64 x.2]
section
variable {w : World} {base b : Nat} {v : Value} {us : List Value} {pss : List (List (Int × Int))}
theorem IsCode.len (h : IsCode w base b v us pss) : pss.length ≤ 9223372036854775807 ∧ ∀ ps ∈ pss, ps.length ≤ 9223372036854775807 := by
  refine ⟨h.nest.1 ▸ own_len h.out, fun ps hp => ?_⟩
  obtain ⟨j, hj, rfl⟩ := List.getElem_of_mem hp
  have hu : j < us.length := by rw [h.nest.1]; exact hj
  exact own_len (h.nest.2 j _ _ (List.getElem?_eq_getElem hu) (List.getElem?_eq_getElem hj))
theorem IsCode.rows (h : IsCode w base b v us pss) : ∃ A c, w.cell? ⟨b, 0, none⟩ = some (.slice A pss.length c) ∧ Rows2 encP 2 w A pss := by
  obtain ⟨A, c, rfl, hr⟩ := Rows2.own (enc := encP) (sz := 2) (tO := 115) (tI := 66) (fun _ => rfl) h.out h.nest h.len.2 h.len.1
  exact ⟨A, c, h.blk.cell 0 _ rfl, hr⟩

theorem Len_nil (w : World) : Calls Try.prog 105 #[.pointer none] w fun e w' => e = .returned (.int .i64 0) ∧ Bw w w' := by
  have HB := Aside0.mk (Bw.refl w)
  go_enter Try.func105, Try.ntmps105
  go_wp2_with fail
  go_ret
  exact ⟨rfl, HB.out⟩
theorem Len_calls (h : IsCode w base b v us pss) : Calls Try.prog 105 #[.pointer (some ⟨b, 0, none⟩)] w fun e w' => e = .returned (.int .i64 pss.length) ∧ Bw w w' := by
  have HB := Aside0.mk (Bw.refl w)
  obtain ⟨A, c, hc, hr⟩ := h.rows
  clear hr h
  go_enter Try.func105, Try.ntmps105
  go_wp2_with fail
  go_ret
  exact ⟨rfl, HB.out⟩
theorem Long_nil (p : Int) (w : World) : Calls Try.prog 81 #[.pointer none, .int .i64 p] w fun e w' => e = .returned (.int .i64 0) ∧ Bw w w' := by
  have HB := Aside0.mk (Bw.refl w)
  by_cases hp : p < 0
  · have d : decide (p < 0) = true := by simpa using hp
    clear hp
    go_enter Try.func81, Try.ntmps81
    go_wp2_with fail
    go_ret
    exact ⟨rfl, HB.out⟩
  · have d : decide (p < 0) = false := by simpa using hp
    have d2 : decide (0 ≤ p) = true := by simp; omega
    clear hp
    go_enter Try.func81, Try.ntmps81
    go_wp2_with fail
    refine (Len_nil w).mono ?_
    rintro e w1 ⟨rfl, hb1⟩
    go_wp2_with fail
    go_ret
    exact ⟨rfl, HB.out.trans hb1⟩
theorem Long_calls (p : Int) (h : IsCode w base b v us pss) : Calls Try.prog 81 #[.pointer (some ⟨b, 0, none⟩), .int .i64 p] w fun e w' => e = .returned (.int .i64 (longOf pss p)) ∧ Bw w w' := by
  have HB := Aside0.mk (Bw.refl w)
  have H := Aside0.mk h
  by_cases hp : p < 0
  · have d : decide (p < 0) = true := by simpa using hp
    have HL := Aside0.mk (show longOf pss p = 0 by unfold longOf; rw [if_pos hp])
    clear hp h
    go_enter Try.func81, Try.ntmps81
    go_wp2_with fail
    go_ret
    exact ⟨ret_int (by rw [HL.out]; rfl), HB.out⟩
  · have d : decide (p < 0) = false := by simpa using hp
    by_cases hq : (pss.length : Int) ≤ p
    · have d2 : decide ((pss.length : Int) ≤ p) = true := by simpa using hq
      have HL := Aside0.mk (show longOf pss p = 0 by
        unfold longOf
        rw [if_neg hp, List.getD_eq_getElem?_getD, List.getElem?_eq_none (by omega)]; rfl)
      clear hp hq h
      go_enter Try.func81, Try.ntmps81
      go_wp2_with fail
      refine (Len_calls H.out).mono ?_
      rintro e w1 ⟨rfl, hb1⟩
      go_wp2_with fail
      go_ret
      exact ⟨ret_int (by rw [HL.out]; rfl), HB.out.trans hb1⟩
    · have d2 : decide ((pss.length : Int) ≤ p) = false := by simpa using hq
      obtain ⟨n, rfl⟩ := Int.eq_ofNat_of_zero_le (show 0 ≤ p by omega)
      have hn : n < pss.length := by omega
      have HL := Aside0.mk (show longOf pss n = (pss[n]).length by
        unfold longOf
        rw [if_neg hp, List.getD_eq_getElem?_getD, Int.toNat_natCast, List.getElem?_eq_getElem hn]; rfl)
      have HN := Aside0.mk (List.getElem?_eq_getElem hn)
      obtain ⟨ps, hps⟩ : ∃ ps, ps = pss[n] := ⟨_, rfl⟩
      rw [← hps] at HL HN
      clear hps hp hq h d2
      have d2 : decide ((pss.length : Int) ≤ (n : Int)) = false := by simp; omega
      go_enter Try.func81, Try.ntmps81
      go_wp2_with fail
      refine (Len_calls H.out).mono ?_
      rintro e w1 ⟨rfl, hb1⟩
      obtain ⟨A, c, hc, hr⟩ := (H.out.bw hb1).rows
      obtain ⟨ad, B, c', rfl, hck, hrow⟩ := hr.at_ n ps HN.out
      have HW1 := Aside0.mk (HB.out.trans hb1)
      clear hr hrow hb1
      go_wp2_with fail
      go_ret
      exact ⟨ret_int (by rw [HL.out]), HW1.out⟩

theorem At_nil (p i : Int) (w : World) : Calls Try.prog 82 #[.pointer none, .int .i64 p, .int .i64 i] w fun e w' => e = .returned (insV (0, 0)) ∧ Bw w w' := by
  have HB := Aside0.mk (Bw.refl w)
  by_cases hp : i < 0
  · have d : decide (i < 0) = true := by simpa using hp
    clear hp
    go_enter Try.func82, Try.ntmps82
    go_wp2_with fail
    refine bodyPost_ret (v := insV (0, 0)) ?_ rfl ⟨rfl, (by repeat (first | (with_reducible first | exact HB.out) | refine Bw.alloc ?_ _ | refine Bw.setCell ?_ (by first | exact Nat.le_refl _ | (simp; omega)) _ | refine Bw.drew ?_ | refine Bw.drewN ?_ _))⟩
    simp [results, Try.results82, go_sem, insV]
  · have d : decide (i < 0) = false := by simpa using hp
    have d2 : decide (0 ≤ i) = true := by simp; omega
    clear hp
    go_enter Try.func82, Try.ntmps82
    go_wp2_with fail
    refine (Long_nil p _).mono ?_
    rintro e w1 ⟨rfl, hb1⟩
    have B1 := (Blk.new w _ _).bw hb1
    have HW1 := Aside0.mk ((HB.out.alloc _).trans hb1)
    have c0 := B1.cell 0 (.int .i64 0) rfl
    have c1 := B1.cell 1 (.int .i64 0) rfl
    have f0 := B1.free 0
    have f1 := B1.free 1
    go_wp2_with fail
    refine bodyPost_ret (v := insV (0, 0)) ?_ rfl ⟨rfl, (by repeat (first | (with_reducible first | exact HB.out | exact HW1.out) | refine Bw.alloc ?_ _ | refine Bw.setCell ?_ (by first | exact Nat.le_refl _ | (simp; omega)) _ | refine Bw.drew ?_ | refine Bw.drewN ?_ _))⟩
    simp [results, Try.results82, go_sem, c0, c1, insV]
set_option maxHeartbeats 1000000 in
theorem At_calls (p i : Int) (h : IsCode w base b v us pss) : Calls Try.prog 82 #[.pointer (some ⟨b, 0, none⟩), .int .i64 p, .int .i64 i] w fun e w' => e = .returned (insV (atOf pss p i)) ∧ Bw w w' := by
  have HB := Aside0.mk (Bw.refl w)
  have H := Aside0.mk h
  by_cases hi : i < 0
  · have d : decide (i < 0) = true := by simpa using hi
    have HL := Aside0.mk (show atOf pss p i = (0, 0) by unfold atOf; split; rfl; rfl)
    clear hi h
    go_enter Try.func82, Try.ntmps82
    go_wp2_with fail
    refine bodyPost_ret (v := insV (atOf pss p i)) ?_ rfl ⟨rfl, (by repeat (first | (with_reducible first | exact HB.out) | refine Bw.alloc ?_ _ | refine Bw.setCell ?_ (by first | exact Nat.le_refl _ | (simp; omega)) _ | refine Bw.drew ?_ | refine Bw.drewN ?_ _))⟩
    rw [HL.out]
    simp [results, Try.results82, go_sem, insV]
  · have d : decide (i < 0) = false := by simpa using hi
    by_cases hq : (longOf pss p : Int) ≤ i
    · have d2 : decide ((longOf pss p : Int) ≤ i) = true := by simpa using hq
      have HL := Aside0.mk (show atOf pss p i = (0, 0) by
        unfold atOf longOf at *
        split
        · rfl
        · rename_i hp
          rw [if_neg hp] at hq
          rw [List.getD_eq_getElem?_getD (l := pss.getD p.toNat []), List.getElem?_eq_none (by omega)]; rfl)
      clear hi hq h
      go_enter Try.func82, Try.ntmps82
      go_wp2_with fail
      refine (Long_calls p (H.out.bw ((Bw.refl w).alloc _))).mono ?_
      rintro e w1 ⟨rfl, hb1⟩
      have B1 := (Blk.new w _ _).bw hb1
      have HW1 := Aside0.mk ((HB.out.alloc _).trans hb1)
      have c0 := B1.cell 0 (.int .i64 0) rfl
      have c1 := B1.cell 1 (.int .i64 0) rfl
      have f0 := B1.free 0
      have f1 := B1.free 1
      go_wp2_with fail
      refine bodyPost_ret (v := insV (atOf pss p i)) ?_ rfl ⟨rfl, (by repeat (first | (with_reducible first | exact HB.out | exact HW1.out) | refine Bw.alloc ?_ _ | refine Bw.setCell ?_ (by first | exact Nat.le_refl _ | (simp; omega)) _ | refine Bw.drew ?_ | refine Bw.drewN ?_ _))⟩
      rw [HL.out]
      simp [results, Try.results82, go_sem, c0, c1, insV]
    · have d2 : decide ((longOf pss p : Int) ≤ i) = false := by simpa using hq
      have hp : ¬ p < 0 := by
        intro hp
        unfold longOf at hq
        rw [if_pos hp] at hq
        omega
      obtain ⟨n, rfl⟩ := Int.eq_ofNat_of_zero_le (show 0 ≤ p by omega)
      obtain ⟨m, rfl⟩ := Int.eq_ofNat_of_zero_le (show 0 ≤ i by omega)
      have hl : (longOf pss n) = (pss.getD n []).length := by unfold longOf; rw [if_neg hp]; rfl
      have hn : n < pss.length := by
        apply Classical.byContradiction
        intro hn
        rw [hl, List.getD_eq_getElem?_getD, List.getElem?_eq_none (by omega)] at hq
        simp at hq
      have HN := Aside0.mk (List.getElem?_eq_getElem hn)
      obtain ⟨ps, hps⟩ : ∃ ps, ps = pss[n] := ⟨_, rfl⟩
      rw [← hps] at HN
      have hl2 : longOf pss n = ps.length := by rw [hl, List.getD_eq_getElem?_getD, HN.out]; rfl
      have hm : m < ps.length := by omega
      obtain ⟨x, hx⟩ : ∃ x, ps[m]? = some x := ⟨_, List.getElem?_eq_getElem hm⟩
      have HX := Aside0.mk hx
      have HL := Aside0.mk (show atOf pss n m = x by
        unfold atOf
        rw [if_neg hp, if_neg hi, Int.toNat_natCast, Int.toNat_natCast, List.getD_eq_getElem?_getD (l := pss), HN.out]
        simp [hx])
      have hnl : (m : Int) < (ps.length : Int) := by omega
      have hnl2 : (n : Int) < (pss.length : Int) := by omega
      have HL2 := Aside0.mk hl2
      clear hps hp hi hl hl2 hx hq h d2
      have d2 : decide (longOf pss (n : Int) ≤ m) = false := by rw [HL2.out]; simp; omega
      go_enter Try.func82, Try.ntmps82
      go_wp2_with fail
      refine (Long_calls (n : Int) (H.out.bw ((Bw.refl w).alloc _))).mono ?_
      rintro e w1 ⟨rfl, hb1⟩
      have B1 := (Blk.new w _ _).bw hb1
      obtain ⟨A, c, hc, hr⟩ := ((H.out.bw ((Bw.refl w).alloc _)).bw hb1).rows
      obtain ⟨ad, B, c', rfl, hck, hrow⟩ := hr.at_ n ps HN.out
      obtain ⟨ad2, rfl, hx0, hx1⟩ := hrow.atS m x HX.out
      have x0 := hx0 _ rfl
      have x1 := hx1 1 _ (by omega) rfl
      have HW1 := Aside0.mk ((HB.out.alloc _).trans hb1)
      have f0 := B1.free 0
      have f1 := B1.free 1
      have c0 := B1.cell 0 (.int .i64 0) rfl
      have c1 := B1.cell 1 (.int .i64 0) rfl
      clear hr hrow hb1 hx0 hx1
      go_wp2_with fail
      refine bodyPost_ret (v := insV (atOf pss n m)) ?_ rfl ⟨rfl, (by repeat (first | (with_reducible first | exact HB.out | exact HW1.out) | refine Bw.alloc ?_ _ | refine Bw.setCell ?_ (by first | exact Nat.le_refl _ | (simp; omega)) _ | refine Bw.drew ?_ | refine Bw.drewN ?_ _))⟩
      rw [HL.out]
      simp [results, Try.results82, go_sem, c0, c1, insV]
end
end Go.Proofs.Ytoklhhcjcecbbaa.M
