/- Package goro: New, Begin, Now, Step, Place, Len, Code. Conditions: counters below 2^62. -/
import Derived.Test.YtclippikdfcgkaaMg
import Derived.RegionTactic
namespace Go.Proofs.Ytclippikdfcgkaa.M
open Go.RowKit Go.Proofs.YtclippikdfcgkaaW.PrintWords Go.Proofs.YtclippikdfcgkaaW.PrintLast Go.Proofs.YtclippikdfcgkaaW.PrintMore
set_option linter.unusedVariables false
set_option linter.unusedSimpArgs false
theorem made_flat {α : Type} {enc : α → List Value} {sz : Nat} (hs : ∀ x, (enc x).length = sz) (hz : 0 < sz) (x : α) (zc : Array Value) (he : enc x = zc.toList) (n : Nat) : (madeCells zc (n * sz)).toList = (List.replicate n x).flatMap enc := by
  have hzs : zc.size = sz := by rw [← hs x, he]; simp
  apply List.ext_getElem?
  intro j
  rcases Nat.lt_or_ge j (n * sz) with hj | hj
  · have h1 : j / sz < n := Nat.div_lt_of_lt_mul (by rw [Nat.mul_comm]; exact hj)
    have h2 : j % sz < sz := Nat.mod_lt _ hz
    have hr : (List.replicate n x)[j / sz]? = some x := by simp [h1]
    have hu : (enc x)[j % sz]? = some (zc[j % sz]'(by omega)) := by rw [he]; simp [hzs, h2]
    have := flat_get hs (List.replicate n x) (j / sz) x hr (j % sz) _ hu
    rw [Nat.mul_comm, Nat.div_add_mod] at this
    rw [this]
    simp [madeCells, hj, hzs, h2]
  · rw [List.getElem?_eq_none (by simp [size_madeCells]; omega), List.getElem?_eq_none (by rw [flat_len hs]; simpa using hj)]
theorem make_any {P : Program} (t e : TypeId) (z : Value) (size bytes : Nat) (ht : P.underlying t = some (.slice e)) (hinfo : (P.info? e).map (fun i => (i.zero, i.size, i.bytes)) = some (some z, size, bytes)) (n : Nat) (hn : bytes * n ≤ 281474976710656) (hn' : n ≤ 9223372036854775807) (W : World) :
    (Instr.makeSlice t (.int .i64 (n : Int)) (.int .i64 (n : Int))).run P W = .ok (.slice (some ⟨W.heap.size, 0, none⟩) n n) (W.alloc (.cells (madeCells z.cells (n * size)) e)) := by
  obtain ⟨i, hi, hzz⟩ := Option.map_eq_some_iff.1 hinfo
  simp only [Prod.mk.injEq] at hzz
  obtain ⟨hz, hs, hb⟩ := hzz
  have := run_make (P := P) W t e i _ ht hi hz .i64 .i64 (n : Int) (n : Int) (by omega) (Int.le_refl _) (by rw [hb]; omega) (by omega)
  simpa [hs] using this
theorem own_made_any {α : Type} {enc : α → List Value} {sz : Nat} (hs : ∀ x, (enc x).length = sz) (hz : 0 < sz) (x : α) (zc : Array Value) (he : enc x = zc.toList) (e : TypeId) (W : World) (base n : Nat) (hb : base ≤ W.heap.size) (hm : n ≤ 9223372036854775807) :
    (W.alloc (.cells (madeCells zc (n * sz)) e)).ownsRow base e sz (.slice (some ⟨W.heap.size, 0, none⟩) n n) n ((List.replicate n x).flatMap enc) := by
  have h := World.ownsRow_lit (base := base) (e := e) (size := sz) W (madeCells zc (n * sz)) n hb (by simpa [maxLen] using hm) (by simp [size_madeCells])
  rwa [made_flat hs hz x zc he n] at h
section
variable {w w1 : World} {base b g n cbase cb : Nat} {cv : Value} {us : List Value} {pss : List (List (Int × Int))} {pl : List PlaceS}
set_option maxHeartbeats 1000000 in
theorem gNew_calls (m : Nat) (hm : 1 ≤ m ∧ m ≤ 65536) (hc : IsCode w cbase cb cv us pss) :
    Calls Try.prog 50 #[.pointer (some ⟨cb, 0, none⟩), .int .i64 m] w fun e w' => ∃ b g, e = .returned (.tuple #[.pointer (some ⟨b, 0, none⟩), .int .i64 0]) ∧ IsArena w' w.heap.size b g m cbase cb cv us pss (List.replicate m ⟨0, 0, 0, 0⟩) ∧ Bw w w' := by
  have HB := Aside0.mk (Bw.refl w)
  have HC := Aside0.mk hc
  obtain ⟨m1, m2⟩ := hm
  have hmk := make_any (P := Try.prog) 160 164 _ 4 32 Try.underlying160 infoPl m (by omega) (by omega)
  have d1 : decide ((m : Int) < 1) = false := by simp; omega
  have d2 : decide ((65536 : Int) < (m : Int)) = false := by simp; omega
  clear hc
  go_enter Try.func50, Try.ntmps50
  go_wp2_with fail
  go_ret2
  have HO := own_made_any (enc := encPl) (sz := 4) (fun _ => rfl) (by decide) ⟨0, 0, 0, 0⟩ #[.int .i64 0, .int .i64 0, .int .i64 0, .int .i64 0] rfl 164 w w.heap.size m (Nat.le_refl _) (by omega)
  refine ⟨_, _, rfl, ⟨by simp, by simpa using Blk.new (w.alloc (.cells (madeCells #[.int .i64 0, .int .i64 0, .int .i64 0, .int .i64 0] (m * 4)) 164)) #[.pointer (some ⟨cb, 0, none⟩), .slice (some ⟨w.heap.size, 0, none⟩) m m] 162, ?_, by simp, (HC.out.bw (HB.out.alloc _)).bw ((Bw.refl _).alloc _)⟩, (HB.out.alloc _).alloc _⟩
  exact pw_own_below HO ((Bw.refl _).alloc _)
theorem gNew_nil (m : Int) (w : World) : Calls Try.prog 50 #[.pointer none, .int .i64 m] w fun e w' => e = .returned (.tuple #[.pointer none, .int .i64 1]) ∧ Bw w w' := by
  have HB := Aside0.mk (Bw.refl w)
  go_enter Try.func50, Try.ntmps50
  go_wp2_with fail
  go_ret2
  exact ⟨rfl, HB.out⟩
theorem gNew_out (m : Int) (hm : m < 1 ∨ 65536 < m) (cb : Nat) (w : World) : Calls Try.prog 50 #[.pointer (some ⟨cb, 0, none⟩), .int .i64 m] w fun e w' => e = .returned (.tuple #[.pointer none, .int .i64 1]) ∧ Bw w w' := by
  have HB := Aside0.mk (Bw.refl w)
  by_cases h : m < 1
  · have d1 : decide (m < 1) = true := by simpa using h
    clear h hm
    go_enter Try.func50, Try.ntmps50
    go_wp2_with fail
    go_ret2
    exact ⟨rfl, HB.out⟩
  · have d1 : decide (m < 1) = false := by simpa using h
    have d2 : decide (65536 < m) = true := by simp; omega
    clear h hm
    go_enter Try.func50, Try.ntmps50
    go_wp2_with fail
    go_ret2
    exact ⟨rfl, HB.out⟩
theorem gLen_nil (w : World) : Calls Try.prog 56 #[.pointer none] w fun e w' => e = .returned (.int .i64 0) ∧ Bw w w' := by
  have HB := Aside0.mk (Bw.refl w)
  go_enter Try.func56, Try.ntmps56
  go_wp2_with fail
  go_ret
  exact ⟨rfl, HB.out⟩
theorem gLen_calls (h : IsArena w base b g n cbase cb cv us pss pl) : Calls Try.prog 56 #[.pointer (some ⟨b, 0, none⟩)] w fun e w' => e = .returned (.int .i64 n) ∧ Bw w w' := by
  have HB := Aside0.mk (Bw.refl w)
  have k1 := h.blk.cell 1 _ rfl
  clear h
  go_enter Try.func56, Try.ntmps56
  go_wp2_with fail
  go_ret
  exact ⟨rfl, HB.out⟩
theorem gCode_nil (w : World) : Calls Try.prog 57 #[.pointer none] w fun e w' => e = .returned (.pointer none) ∧ Bw w w' := by
  have HB := Aside0.mk (Bw.refl w)
  go_enter Try.func57, Try.ntmps57
  go_wp2_with fail
  go_ret
  exact ⟨rfl, HB.out⟩
theorem gCode_calls (h : IsArena w base b g n cbase cb cv us pss pl) : Calls Try.prog 57 #[.pointer (some ⟨b, 0, none⟩)] w fun e w' => e = .returned (.pointer (some ⟨cb, 0, none⟩)) ∧ Bw w w' := by
  have HB := Aside0.mk (Bw.refl w)
  have k1 := h.blk.cell 0 _ rfl
  clear h
  go_enter Try.func57, Try.ntmps57
  go_wp2_with fail
  go_ret
  exact ⟨rfl, HB.out⟩
theorem gBegin_nil (i q : Int) (w : World) : Calls Try.prog 51 #[.pointer none, .int .i64 i, .int .i64 q] w fun e w' => e = .returned (.int .i64 1) ∧ Bw w w' := by
  have HB := Aside0.mk (Bw.refl w)
  go_enter Try.func51, Try.ntmps51
  go_wp2_with fail
  go_ret
  exact ⟨rfl, HB.out⟩
theorem gBegin_out (i q : Int) (h : IsArena w base b g n cbase cb cv us pss pl) (hi : i < 0 ∨ (n : Int) ≤ i) : Calls Try.prog 51 #[.pointer (some ⟨b, 0, none⟩), .int .i64 i, .int .i64 q] w fun e w' => e = .returned (.int .i64 5) ∧ Bw w w' := by
  have HB := Aside0.mk (Bw.refl w)
  have k1 := h.blk.cell 1 _ rfl
  clear h
  by_cases h0 : i < 0
  · have d1 : decide (i < 0) = true := by simpa using h0
    clear h0 hi
    go_enter Try.func51, Try.ntmps51
    go_wp2_with fail
    go_ret
    exact ⟨rfl, HB.out⟩
  · have d1 : decide (i < 0) = false := by simpa using h0
    have d2 : decide ((n : Int) ≤ i) = true := by simp; omega
    clear h0 hi
    go_enter Try.func51, Try.ntmps51
    go_wp2_with fail
    go_ret
    exact ⟨rfl, HB.out⟩
theorem gBegin_none (j : Nat) (q : Int) (h : IsArena w base b g n cbase cb cv us pss pl) (hj : j < n) (hq : q < 0 ∨ (pss.length : Int) ≤ q) : Calls Try.prog 51 #[.pointer (some ⟨b, 0, none⟩), .int .i64 (j : Int), .int .i64 q] w fun e w' => e = .returned (.int .i64 4) ∧ Bw w w' := by
  have HB := Aside0.mk (Bw.refl w)
  have k0 := h.blk.cell 0 _ rfl
  have k1 := h.blk.cell 1 _ rfl
  have HC := Aside0.mk h.code
  have d2 : decide (n ≤ j) = false := by simp; omega
  have d3 : decide ((n : Int) ≤ (j : Int)) = false := by simp; omega
  clear h
  by_cases h0 : q < 0
  · have d1 : decide (q < 0) = true := by simpa using h0
    clear h0 hq
    go_enter Try.func51, Try.ntmps51
    go_wp2_with fail
    go_ret
    exact ⟨rfl, HB.out⟩
  · have d1 : decide (q < 0) = false := by simpa using h0
    have d4 : decide ((pss.length : Int) ≤ q) = true := by simp; omega
    clear h0 hq
    go_enter Try.func51, Try.ntmps51
    go_wp2_with fail
    refine (Len_calls HC.out).mono ?_
    rintro e w1 ⟨rfl, hb1⟩
    go_wp2_with fail
    go_ret
    exact ⟨rfl, hb1⟩
set_option maxHeartbeats 2000000 in
set_option maxRecDepth 100000 in
theorem gBegin_calls (j : Nat) (q : Int) {p : PlaceS} (h : IsArena w base b g n cbase cb cv us pss pl) (hj : pl[j]? = some p) (hq : 0 ≤ q ∧ q < pss.length) (hb : 0 ≤ p.begun ∧ p.begun < 4611686018427387904) :
    Calls Try.prog 51 #[.pointer (some ⟨b, 0, none⟩), .int .i64 (j : Int), .int .i64 q] w fun e w' => e = .returned (.int .i64 0) ∧ IsArena w' base b g n cbase cb cv us pss (pl.set j ⟨q, 0, 0, p.begun + 1⟩) ∧ Chg (fun i => i = g) w w' := by
  have HB := Aside0.mk (Bw.refl w)
  have HA := Aside0.mk h
  have k0 := h.blk.cell 0 _ rfl
  have k1 := h.blk.cell 1 _ rfl
  have hjn : j < n := by rw [← h.len]; exact (List.getElem?_eq_some_iff.1 hj).1
  have hnm : n ≤ 9223372036854775807 := own_len h.row
  have d2 : decide (n ≤ j) = false := by simp; omega
  have d3 : decide ((n : Int) ≤ (j : Int)) = false := by simp; omega
  have d1 : decide (q < 0) = false := by simp; omega
  have d4 : decide ((pss.length : Int) ≤ q) = false := by simp; omega
  have HJ := Aside0.mk hj
  obtain ⟨b0, b1⟩ := hb
  clear h hj hq
  go_enter Try.func51, Try.ntmps51
  go_wp2_with fail
  refine (Len_calls HA.out.code).mono ?_
  rintro e w1 ⟨rfl, hb1⟩
  have HA1 := Aside0.mk (HA.out.bw hb1)
  have k0 := HA1.out.blk.cell 0 _ rfl
  have k1 := HA1.out.blk.cell 1 _ rfl
  obtain ⟨c0, c1, c2, c3⟩ := HA1.out.cell HJ.out
  have fr0 := own_free HA1.out.row (j * 4)
  have fr1 := own_free HA1.out.row (j * 4 + 1)
  have fr2 := own_free HA1.out.row (j * 4 + 2)
  have fr3 := own_free HA1.out.row (j * 4 + 3)
  have hgl : g < w1.heap.size := own_lt HA1.out.row g rfl
  have hgb : g ≠ b := by
    have := own_ne HA1.out.row HA1.out.blk (by decide)
    intro q
    exact this (by rw [← q]; rfl)
  go_wp2_with fail
  go_region
  all_goals go_wp2_with fail
  all_goals go_ret
  all_goals
    have A1 := (HA1.out.bw (Bw.refl w1).drew).set HJ.out 0 (.int .i64 q) (by omega) (p' := { p with program := q }) rfl
    have A2 := A1.set (set_set_at HJ.out) 1 (.int .i64 0) (by omega) (p' := { p with program := q, at_ := 0 }) rfl
    have A3 := A2.set (set_set_at (set_set_at HJ.out)) 2 (.int .i64 0) (by omega) (p' := { p with program := q, at_ := 0, left := 0 }) rfl
    have A4 := A3.set (set_set_at (set_set_at (set_set_at HJ.out))) 3 (.int .i64 (p.begun + 1)) (by omega) (p' := ⟨q, 0, 0, p.begun + 1⟩) rfl
    rw [List.set_set, List.set_set, List.set_set] at A4
    exact ⟨rfl, A4, (((((Chg.of_bw hb1 : Chg (fun i => i = g) w w1).setb rfl _).setb rfl _).setb rfl _).setb rfl _).drew⟩

/-! ### Now, Step, Place -/
theorem gPlace_nil (i : Int) (w : World) : Calls Try.prog 54 #[.pointer none, .int .i64 i] w fun e w' => e = .returned (.tuple #[.int .i64 0, .int .i64 0, .int .i64 0, .int .i64 0]) ∧ Bw w w' := by
  have HB := Aside0.mk (Bw.refl w)
  go_enter Try.func54, Try.ntmps54
  go_wp2_with fail
  refine bodyPost_ret (v := .tuple #[.int .i64 0, .int .i64 0, .int .i64 0, .int .i64 0]) (by simp [results, Try.results54, go_sem]) rfl ⟨rfl, HB.out⟩
theorem gtells_nil (i : Int) (fv : Value) (w : World) : Calls Try.prog 105 #[.pointer none, .int .i64 i, fv] w fun e w' => e = .returned (.agg #[.int .i64 0, .int .i64 0]) ∧ Bw w w' := by
  have HB := Aside0.mk (Bw.refl w)
  go_enter Try.func105, Try.ntmps105
  go_wp2_with fail
  refine bodyPost_ret (v := .agg #[.int .i64 0, .int .i64 0]) (by simp [results, Try.results105, go_sem]) rfl ⟨rfl, (by repeat (first | (with_reducible first | exact HB.out) | refine Bw.alloc ?_ _ | refine Bw.setCell ?_ (by first | exact Nat.le_refl _ | (simp; omega)) _ | refine Bw.drew ?_ | refine Bw.drewN ?_ _))⟩
theorem gtells_out (i : Int) (fv : Value) (h : IsArena w base b g n cbase cb cv us pss pl) (hi : i < 0 ∨ (n : Int) ≤ i) : Calls Try.prog 105 #[.pointer (some ⟨b, 0, none⟩), .int .i64 i, fv] w fun e w' => e = .returned (.agg #[.int .i64 0, .int .i64 0]) ∧ Bw w w' := by
  have HB := Aside0.mk (Bw.refl w)
  have k1 := h.blk.cell 1 _ rfl
  have hlt := h.blk.lt
  clear h
  by_cases h0 : i < 0
  · have d1 : decide (i < 0) = true := by simpa using h0
    clear h0 hi
    go_enter Try.func105, Try.ntmps105
    go_wp2_with fail
    refine bodyPost_ret (v := .agg #[.int .i64 0, .int .i64 0]) (by simp [results, Try.results105, go_sem]) rfl ⟨rfl, (by repeat (first | (with_reducible first | exact HB.out) | refine Bw.alloc ?_ _ | refine Bw.setCell ?_ (by first | exact Nat.le_refl _ | (simp; omega)) _ | refine Bw.drew ?_ | refine Bw.drewN ?_ _))⟩
  · have d1 : decide (i < 0) = false := by simpa using h0
    have d2 : decide ((n : Int) ≤ i) = true := by simp; omega
    clear h0 hi
    go_enter Try.func105, Try.ntmps105
    go_wp2_with fail
    refine bodyPost_ret (v := .agg #[.int .i64 0, .int .i64 0]) (by simp [results, Try.results105, go_sem]) rfl ⟨rfl, (by repeat (first | (with_reducible first | exact HB.out) | refine Bw.alloc ?_ _ | refine Bw.setCell ?_ (by first | exact Nat.le_refl _ | (simp; omega)) _ | refine Bw.drew ?_ | refine Bw.drewN ?_ _))⟩
set_option maxHeartbeats 2000000 in
set_option maxRecDepth 100000 in
/-- A place is asked by a function (number N). -/
theorem gtells_in (j N : Nat) {p : PlaceS} (x : Int × Int) (pl' : List PlaceS) (h : IsArena w base b g n cbase cb cv us pss pl) (hj : pl[j]? = some p)
    (he : ∀ args W, (callFunc N args).run Try.prog W = .ok (.enter N args) W)
    (hf : ∀ W, IsArena W base b g n cbase cb cv us pss pl → Calls Try.prog N #[.pointer (some ⟨g, j * 4, none⟩), .pointer (some ⟨cb, 0, none⟩)] W fun e W' => e = .returned (.agg #[.int .i64 x.1, .int .i64 x.2]) ∧ IsArena W' base b g n cbase cb cv us pss pl' ∧ Chg (fun i => i = g) W W') :
    Calls Try.prog 105 #[.pointer (some ⟨b, 0, none⟩), .int .i64 (j : Int), .func (.func N) #[] #[]] w fun e w' => e = .returned (.agg #[.int .i64 x.1, .int .i64 x.2]) ∧ IsArena w' base b g n cbase cb cv us pss pl' ∧ Chg (fun i => i = g) w w' := by
  have HF := Aside0.mk hf
  have HA0 := Aside0.mk h
  have HA := Aside0.mk (h.bw ((Bw.refl w).alloc (.cells #[.int .i64 0, .int .i64 0] 48)).drew)
  have C0 := Aside0.mk ((Chg.refl (fun i => i = g) w).alloc (.cells #[.int .i64 0, .int .i64 0] 48)).drew
  have k0 := h.blk.cell 0 _ rfl
  have k1 := h.blk.cell 1 _ rfl
  have hjn : j < n := by rw [← h.len]; exact (List.getElem?_eq_some_iff.1 hj).1
  have hnm : n ≤ 9223372036854775807 := own_len h.row
  have d2 : decide (n ≤ j) = false := by simp; omega
  have d3 : decide ((n : Int) ≤ (j : Int)) = false := by simp; omega
  have hlb := h.blk.lt
  have hgl : g < w.heap.size := own_lt h.row g rfl
  have HP := Aside0.mk (show Blk (w.alloc (.cells #[.int .i64 0, .int .i64 0] 48)).drew w.heap.size #[.int .i64 0, .int .i64 0] 48 from Blk.new w _ _)
  clear h hj hf
  go_enter Try.func105, Try.ntmps105
  go_wp2_with fail
  go_region_held3 (fun W => W.cell? ⟨b, 0, none⟩ = some (.pointer (some ⟨cb, 0, none⟩)) ∧ W.cell? ⟨b, 1, none⟩ = some (.slice (some ⟨g, 0, none⟩) n n)) (simp [*, World.cell?_alloc_some, World.cell?_setCell_far, World.cell?_setCell_other]) ((refine (HF.out _ HA.out).mono ?_; rintro e w1 ⟨rfl, hA1, hC1⟩; have j0 := hA1.blk.cell 0 _ rfl; have j1 := hA1.blk.cell 1 _ rfl; have HA1 := Aside0.mk hA1; have HC1 := Aside0.mk (C0.out.trans hC1); have HP1 := Aside0.mk (HP.out.of_block (hC1.block _ HP.out.lt (by omega))); have f0 := HP1.out.free 0; have f1 := HP1.out.free 1; have c0 := HP1.out.cell 0 _ rfl; have c1 := HP1.out.cell 1 _ rfl; clear hA1 hC1))
  all_goals go_wp2_with fail
  all_goals
    have hlt := HP1.out.lt
    refine bodyPost_ret (v := .agg #[.int .i64 x.1, .int .i64 x.2]) ?_ rfl ⟨rfl, ?_, ?_⟩
    · simp [results, Try.results105, go_sem, c0, c1, hlt]
    · refine HA1.out.chg (((Chg.refl (fun i => i = w.heap.size) w1).setb rfl _).setb rfl _) (fun i hi e => ?_)
      have := HA0.out.lt i hi
      omega
    · exact (HC1.out.set (p := ⟨w.heap.size, 0, none⟩) (.inr (Nat.le_refl _)) _).set (p := ⟨w.heap.size, 1, none⟩) (.inr (Nat.le_refl _)) _
end
end Go.Proofs.Ytclippikdfcgkaa.M
