/- Package goro: Now and Step of arenas; the page's example; the law GoroMakes, walked. Conditions: counters below 2^62; the arguments are of their kinds. -/
import Derived.Test.YtclippikdfcgkaaMg2
namespace Go.Proofs.Ytclippikdfcgkaa.M
open Go.RowKit Go.Proofs.YtclippikdfcgkaaW.PrintWords Go.Proofs.YtclippikdfcgkaaW.PrintLast Go.Proofs.YtclippikdfcgkaaW.PrintMore
set_option linter.unusedVariables false
set_option linter.unusedSimpArgs false
attribute [local go_sem ↓] eqInstr
section
variable {w w1 : World} {base b g n cbase cb : Nat} {cv : Value} {us : List Value} {pss : List (List (Int × Int))} {pl : List PlaceS}
set_option maxHeartbeats 1000000 in
theorem gStep_calls (j : Nat) {p : PlaceS} {x : Int × Int} (h : IsArena w base b g n cbase cb cv us pss pl) (hj : pl[j]? = some p) (hx : nowP pss p = x) (hok : PlOk x p) :
    Calls Try.prog 53 #[.pointer (some ⟨b, 0, none⟩), .int .i64 (j : Int)] w fun e w' => e = .returned (.agg #[.int .i64 x.1, .int .i64 x.2]) ∧ IsArena w' base b g n cbase cb cv us pss (pl.set j (stepP x p)) ∧ Chg (fun i => i = g) w w' := by
  have HA0 := Aside0.mk h
  have HA := Aside0.mk (h.bw ((Bw.refl w).alloc (.cells #[.int .i64 0, .int .i64 0] 48)))
  have C0 := Aside0.mk ((Chg.refl (fun i => i = g) w).alloc (.cells #[.int .i64 0, .int .i64 0] 48))
  have HP := Aside0.mk (Blk.new w #[.int .i64 0, .int .i64 0] 48)
  have hgl : g < w.heap.size := own_lt h.row g rfl
  have HS := Aside0.mk (fun (W : World) (hA : IsArena W base b g n cbase cb cv us pss pl) => step_calls hA hj hx hok)
  have HJ := Aside0.mk hj
  clear h hj hx hok
  go_enter Try.func53, Try.ntmps53
  go_wp2_with fail
  refine (gtells_in j 106 x (pl.set j (stepP x p)) HA.out HJ.out (fun args W => enters_of Try.func106 (by kernel_rfl) rfl args W) HS.out).mono ?_
  rintro e w1 ⟨rfl, hA1, hC1⟩
  have HA1 := Aside0.mk hA1
  have HC1 := Aside0.mk (C0.out.trans hC1)
  have HP1 := HP.out.of_block (hC1.block _ HP.out.lt (by omega))
  have f0 := HP1.free 0
  have f1 := HP1.free 1
  have c0 := HP1.cell 0 _ rfl
  have c1 := HP1.cell 1 _ rfl
  have hlt := HP1.lt
  clear hA1 hC1
  go_wp2_with fail
  refine bodyPost_ret (v := .agg #[.int .i64 x.1, .int .i64 x.2]) ?_ rfl ⟨rfl, ?_, ?_⟩
  · simp [results, Try.results53, go_sem, c0, c1, hlt]
  · refine HA1.out.chg (((Chg.refl (fun i => i = w.heap.size) w1).setb rfl _).setb rfl _) (fun i hi e => ?_)
    have := HA0.out.lt i hi
    omega
  · exact (HC1.out.set (p := ⟨w.heap.size, 0, none⟩) (.inr (Nat.le_refl _)) _).set (p := ⟨w.heap.size, 1, none⟩) (.inr (Nat.le_refl _)) _
set_option maxHeartbeats 1000000 in
theorem gNow_calls (j : Nat) {p : PlaceS} {x : Int × Int} (h : IsArena w base b g n cbase cb cv us pss pl) (hj : pl[j]? = some p) (hx : nowP pss p = x) :
    Calls Try.prog 55 #[.pointer (some ⟨b, 0, none⟩), .int .i64 (j : Int)] w fun e w' => e = .returned (.agg #[.int .i64 x.1, .int .i64 x.2]) ∧ IsArena w' base b g n cbase cb cv us pss pl ∧ Chg (fun i => i = g) w w' := by
  have HA0 := Aside0.mk h
  have HA := Aside0.mk (h.bw ((Bw.refl w).alloc (.cells #[.int .i64 0, .int .i64 0] 48)))
  have C0 := Aside0.mk ((Chg.refl (fun i => i = g) w).alloc (.cells #[.int .i64 0, .int .i64 0] 48))
  have HP := Aside0.mk (Blk.new w #[.int .i64 0, .int .i64 0] 48)
  have hgl : g < w.heap.size := own_lt h.row g rfl
  have HS := Aside0.mk (show ∀ (W : World), IsArena W base b g n cbase cb cv us pss pl → Calls Try.prog 107 #[.pointer (some ⟨g, j * 4, none⟩), .pointer (some ⟨cb, 0, none⟩)] W fun e W' => e = .returned (.agg #[.int .i64 x.1, .int .i64 x.2]) ∧ IsArena W' base b g n cbase cb cv us pss pl ∧ Chg (fun i => i = g) W W' from fun W hA => (now_calls hA hj).mono fun e W' ⟨he, hb⟩ => ⟨by rw [he, hx], hA.bw hb, Chg.of_bw hb⟩)
  have HJ := Aside0.mk hj
  clear h hj hx
  go_enter Try.func55, Try.ntmps55
  go_wp2_with fail
  refine (gtells_in j 107 x pl HA.out HJ.out (fun args W => enters_of Try.func107 (by kernel_rfl) rfl args W) HS.out).mono ?_
  rintro e w1 ⟨rfl, hA1, hC1⟩
  have HA1 := Aside0.mk hA1
  have HC1 := Aside0.mk (C0.out.trans hC1)
  have HP1 := HP.out.of_block (hC1.block _ HP.out.lt (by omega))
  have f0 := HP1.free 0
  have f1 := HP1.free 1
  have c0 := HP1.cell 0 _ rfl
  have c1 := HP1.cell 1 _ rfl
  have hlt := HP1.lt
  clear hA1 hC1
  go_wp2_with fail
  refine bodyPost_ret (v := .agg #[.int .i64 x.1, .int .i64 x.2]) ?_ rfl ⟨rfl, ?_, ?_⟩
  · simp [results, Try.results55, go_sem, c0, c1, hlt]
  · refine HA1.out.chg (((Chg.refl (fun i => i = w.heap.size) w1).setb rfl _).setb rfl _) (fun i hi e => ?_)
    have := HA0.out.lt i hi
    omega
  · exact (HC1.out.set (p := ⟨w.heap.size, 0, none⟩) (.inr (Nat.le_refl _)) _).set (p := ⟨w.heap.size, 1, none⟩) (.inr (Nat.le_refl _)) _
theorem gNow_nil (i : Int) (w : World) : Calls Try.prog 55 #[.pointer none, .int .i64 i] w fun e w' => e = .returned (.agg #[.int .i64 0, .int .i64 0]) ∧ Bw w w' := by
  have HB := Aside0.mk (Bw.refl w)
  have HP := Aside0.mk (Blk.new w #[.int .i64 0, .int .i64 0] 48)
  go_enter Try.func55, Try.ntmps55
  go_wp2_with fail
  refine (gtells_nil i _ _).mono ?_
  rintro e w1 ⟨rfl, hb1⟩
  have HP1 := HP.out.bw hb1
  have f0 := HP1.free 0
  have f1 := HP1.free 1
  have c0 := HP1.cell 0 _ rfl
  have c1 := HP1.cell 1 _ rfl
  have hlt := HP1.lt
  have HW1 := Aside0.mk ((HB.out.alloc _).trans hb1)
  go_wp2_with fail
  refine bodyPost_ret (v := .agg #[.int .i64 0, .int .i64 0]) ?_ rfl ⟨rfl, (by repeat (first | (with_reducible first | exact HW1.out) | refine Bw.alloc ?_ _ | refine Bw.setCell ?_ (by first | exact Nat.le_refl _ | (simp; omega)) _ | refine Bw.drew ?_ | refine Bw.drewN ?_ _))⟩
  simp [results, Try.results55, go_sem, c0, c1, hlt]
theorem gStep_nil (i : Int) (w : World) : Calls Try.prog 53 #[.pointer none, .int .i64 i] w fun e w' => e = .returned (.agg #[.int .i64 0, .int .i64 0]) ∧ Bw w w' := by
  have HB := Aside0.mk (Bw.refl w)
  have HP := Aside0.mk (Blk.new w #[.int .i64 0, .int .i64 0] 48)
  go_enter Try.func53, Try.ntmps53
  go_wp2_with fail
  refine (gtells_nil i _ _).mono ?_
  rintro e w1 ⟨rfl, hb1⟩
  have HP1 := HP.out.bw hb1
  have f0 := HP1.free 0
  have f1 := HP1.free 1
  have c0 := HP1.cell 0 _ rfl
  have c1 := HP1.cell 1 _ rfl
  have hlt := HP1.lt
  have HW1 := Aside0.mk ((HB.out.alloc _).trans hb1)
  go_wp2_with fail
  refine bodyPost_ret (v := .agg #[.int .i64 0, .int .i64 0]) ?_ rfl ⟨rfl, (by repeat (first | (with_reducible first | exact HW1.out) | refine Bw.alloc ?_ _ | refine Bw.setCell ?_ (by first | exact Nat.le_refl _ | (simp; omega)) _ | refine Bw.drew ?_ | refine Bw.drewN ?_ _))⟩
  simp [results, Try.results53, go_sem, c0, c1, hlt]
theorem IsArena.gel (h : IsArena w base b g n cbase cb cv us pss pl) : base ≤ g := own_base h.row g rfl
end
theorem progs2 : progsOf [9, 3] = [[(1, 2), (3, 0)]] := by decide
set_option maxHeartbeats 2000000 in
set_option maxRecDepth 100000 in
theorem gawake_calls (w : World) :
    Calls Try.prog 49 #[] w fun e w' => e = .returned (.bool true) ∧ Bw w w' := by
  have HB := Aside0.mk (Bw.refl w)
  have hfd := fieldInstr0
  go_enter Try.func49, Try.ntmps49
  go_wp2_with fail
  refine (Read_calls _ 2 [9, 3] _ (rows_lit w [9, 3] (by simp) _ rfl) (by simp) (by simp)).mono ?_
  rintro e w1 ⟨cb, cv, us, rfl, hc, hb1⟩
  rw [progs2] at hc
  have HC := Aside0.mk hc
  have HW1 := Aside0.mk ((HB.out.alloc _).trans hb1)
  clear hc hb1
  go_wp2_with fail
  refine (gNew_calls 1 (by decide) HC.out).mono ?_
  rintro e w2 ⟨b, g, rfl, hA, hb2⟩
  have HA := Aside0.mk hA
  have HW := Aside0.mk (HW1.out.trans hb2)
  have HG := Aside0.mk (show w.heap.size ≤ g from Nat.le_trans HW1.out.size hA.gel)
  clear hA hb2
  rw [show List.replicate 1 (⟨0, 0, 0, 0⟩ : PlaceS) = [⟨0, 0, 0, 0⟩] from rfl] at HA
  go_wp2_with fail
  refine (gBegin_calls 0 0 (p := ⟨0, 0, 0, 0⟩) HA.out rfl (by decide) (by decide)).mono ?_
  rintro e w3 ⟨rfl, hA3, hC3⟩
  have HA := Aside0.mk hA3
  have HW := Aside0.mk (hC3.below HW.out (fun i e => by rw [e]; exact HG.out))
  clear hA3 hC3
  rw [show [(⟨0, 0, 0, 0⟩ : PlaceS)].set 0 ⟨0, 0, 0, 0 + 1⟩ = [⟨0, 0, 0, 1⟩] from rfl] at HA
  go_wp2_with fail
  refine (gStep_calls 0 (p := ⟨0, 0, 0, 1⟩) (x := (1, 2)) HA.out rfl rfl (by unfold PlOk; decide)).mono ?_
  rintro e w4 ⟨rfl, hA4, hC4⟩
  have HA := Aside0.mk hA4
  have HW := Aside0.mk (hC4.below HW.out (fun i e => by rw [e]; exact HG.out))
  clear hA4 hC4
  rw [show [(⟨0, 0, 0, 1⟩ : PlaceS)].set 0 (stepP (1, 2) ⟨0, 0, 0, 1⟩) = [⟨0, 0, 1, 1⟩] from rfl] at HA
  go_wp2_with fail
  refine (gStep_calls 0 (p := ⟨0, 0, 1, 1⟩) (x := (1, 2)) HA.out rfl rfl (by unfold PlOk; decide)).mono ?_
  rintro e w5 ⟨rfl, hA5, hC5⟩
  have HA := Aside0.mk hA5
  have HW := Aside0.mk (hC5.below HW.out (fun i e => by rw [e]; exact HG.out))
  clear hA5 hC5
  rw [show [(⟨0, 0, 1, 1⟩ : PlaceS)].set 0 (stepP (1, 2) ⟨0, 0, 1, 1⟩) = [⟨0, 1, 0, 1⟩] from rfl] at HA
  go_wp2_with fail
  refine (gStep_calls 0 (p := ⟨0, 1, 0, 1⟩) (x := (3, 0)) HA.out rfl rfl (by unfold PlOk; decide)).mono ?_
  rintro e w6 ⟨rfl, hA6, hC6⟩
  have HA := Aside0.mk hA6
  have HW := Aside0.mk (hC6.below HW.out (fun i e => by rw [e]; exact HG.out))
  clear hA6 hC6
  rw [show [(⟨0, 1, 0, 1⟩ : PlaceS)].set 0 (stepP (3, 0) ⟨0, 1, 0, 1⟩) = [⟨0, 2, 0, 1⟩] from rfl] at HA
  go_wp2_with fail
  have HA := Aside0.mk (HA.out.bw ((((Bw.refl w6).alloc (.cells #[.int .i64 1, .int .i64 2] 48)).alloc (.cells #[.int .i64 1, .int .i64 2] 48)).alloc (.cells #[.int .i64 3, .int .i64 0] 48)))
  have HW := Aside0.mk (((HW.out.alloc (.cells #[.int .i64 1, .int .i64 2] 48)).alloc (.cells #[.int .i64 1, .int .i64 2] 48)).alloc (.cells #[.int .i64 3, .int .i64 0] 48))
  refine (gNow_calls 0 (p := ⟨0, 2, 0, 1⟩) (x := (0, 0)) HA.out rfl rfl).mono ?_
  rintro e w7 ⟨rfl, hA7, hC7⟩
  have HW := Aside0.mk (hC7.below HW.out (fun i e => by rw [e]; exact HG.out))
  clear hA7 hC7
  go_wp2_with fail
  go_ret
  exact ⟨rfl, HW.out⟩
end Go.Proofs.Ytclippikdfcgkaa.M
