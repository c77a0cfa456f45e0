/- Package goro: what an arena is; a place's instruction, and its steps. Conditions: counters below 2^62. -/
import Derived.Test.YtclippikdfcgkaaMdl
import Derived.Test.YtclippikdfcgkaaMc
import Derived.Deep.RegionHeld3
namespace Go.Proofs.Ytclippikdfcgkaa.M
open Go.RowKit Go.Proofs.YtclippikdfcgkaaW.PrintWords Go.Proofs.YtclippikdfcgkaaW.PrintLast Go.Proofs.YtclippikdfcgkaaW.PrintMore
set_option linter.unusedVariables false
set_option linter.unusedSimpArgs false
theorem flat_get {α : Type} {enc : α → List Value} {sz : Nat} (hs : ∀ x, (enc x).length = sz) : ∀ (xs : List α) (j : Nat) (x : α), xs[j]? = some x → ∀ (i : Nat) (u : Value), (enc x)[i]? = some u → (xs.flatMap enc)[j * sz + i]? = some u
  | [], j, x, h, _, _, _ => by simp at h
  | y :: ys, j, x, h, i, u, hu => by
    rw [List.flatMap_cons]
    cases j with
    | zero =>
      simp at h
      subst h
      have hi : i < (enc y).length := (List.getElem?_eq_some_iff.1 hu).1
      rw [Nat.zero_mul, Nat.zero_add, List.getElem?_append_left hi]
      exact hu
    | succ j =>
      rw [List.getElem?_append_right (by rw [hs, Nat.succ_mul]; omega)]
      have : (j + 1) * sz + i - (enc y).length = j * sz + i := by rw [hs, Nat.succ_mul]; omega
      rw [this]
      exact flat_get hs ys j x (by simpa using h) i u hu
theorem flat_set {α : Type} {enc : α → List Value} {sz : Nat} (hs : ∀ x, (enc x).length = sz) : ∀ (xs : List α) (j : Nat) (x x' : α), xs[j]? = some x → ∀ (i : Nat) (u : Value), i < sz → enc x' = (enc x).set i u → (xs.flatMap enc).set (j * sz + i) u = (xs.set j x').flatMap enc
  | [], j, x, x', h, _, _, _, _ => by simp at h
  | y :: ys, j, x, x', h, i, u, hi, he => by
    rw [List.flatMap_cons]
    cases j with
    | zero =>
      simp at h
      subst h
      rw [Nat.zero_mul, Nat.zero_add, List.set_append_left _ _ (by rw [hs]; exact hi), List.set_cons_zero, List.flatMap_cons, he]
    | succ j =>
      rw [List.set_append_right _ _ (by rw [hs, Nat.succ_mul]; omega)]
      have : (j + 1) * sz + i - (enc y).length = j * sz + i := by rw [hs, Nat.succ_mul]; omega
      rw [this, flat_set hs ys j x x' (by simpa using h) i u hi he, List.set_cons_succ, List.flatMap_cons]
theorem own_cellg {w : World} {base g cap n : Nat} {e : TypeId} {sz : Nat} {xs : List Value} (h : w.ownsRow base e sz (.slice (some ⟨g, 0, none⟩) n cap) n xs) (j : Nat) (u : Value) (hj : xs[j]? = some u) : w.cell? ⟨g, j, none⟩ = some u := by
  have := h.cells (g := g) rfl j u hj
  have hadd : (⟨g, 0, none⟩ : Addr).add j = ⟨g, j, none⟩ := by unfold Addr.add; split <;> simp_all
  rw [hadd] at this
  exact this
theorem own_setg {w : World} {base g cap n : Nat} {e : TypeId} {sz : Nat} {xs : List Value} (h : w.ownsRow base e sz (.slice (some ⟨g, 0, none⟩) n cap) n xs) (j : Nat) (u : Value) (hj : j < n * sz) : (w.setCell ⟨g, j, none⟩ u).ownsRow base e sz (.slice (some ⟨g, 0, none⟩) n cap) n (xs.set j u) := by
  refine ⟨by rw [List.length_set]; exact h.1, ?_⟩
  rcases h.2 with ⟨hv, _⟩ | ⟨g', cap', cur, hv, hb, hh, hn, hc, hs, ht⟩
  · cases hv
  · injection hv with h1 h2 h3
    injection h1 with h1
    injection h1 with h1
    subst h1
    subst h3
    refine .inr ⟨g, cap, cur.setIfInBounds j u, rfl, hb, ?_, hn, hc, by simpa using hs, ?_⟩
    · simp only [World.setCell, Array.getElem?_modify, if_pos, hh, Option.map_some]
      simp
    · rw [Array.toList_setIfInBounds, ← ht, List.take_set]

structure PlaceS where
  program : Int
  at_ : Int
  left : Int
  begun : Int
abbrev encPl : PlaceS → List Value := fun p => [.int .i64 p.program, .int .i64 p.at_, .int .i64 p.left, .int .i64 p.begun]
theorem infoPl : (Try.prog.info? 164).map (fun i => (i.zero, i.size, i.bytes)) = some (some (.agg #[.int .i64 0, .int .i64 0, .int .i64 0, .int .i64 0]), 4, 32) := by kernel_rfl
structure IsArena (w : World) (base b g n cbase cb : Nat) (cv : Value) (us : List Value) (pss : List (List (Int × Int))) (pl : List PlaceS) : Prop where
  le : base ≤ b
  blk : Blk w b #[.pointer (some ⟨cb, 0, none⟩), .slice (some ⟨g, 0, none⟩) n n] 162
  row : w.ownsRow base 164 4 (.slice (some ⟨g, 0, none⟩) n n) n (pl.flatMap encPl)
  len : pl.length = n
  code : IsCode w cbase cb cv us pss
section
variable {w w1 : World} {base b g n cbase cb : Nat} {cv : Value} {us : List Value} {pss : List (List (Int × Int))} {pl : List PlaceS}
theorem IsArena.bw (h : IsArena w base b g n cbase cb cv us pss pl) (hb : Bw w w1) : IsArena w1 base b g n cbase cb cv us pss pl := ⟨h.le, h.blk.bw hb, pw_own_below h.row hb, h.len, h.code.bw hb⟩
theorem IsArena.set (h : IsArena w base b g n cbase cb cv us pss pl) {j : Nat} {p p' : PlaceS} (hj : pl[j]? = some p) (i : Nat) (u : Value) (hi : i < 4) (he : encPl p' = (encPl p).set i u) : IsArena (w.setCell ⟨g, j * 4 + i, none⟩ u) base b g n cbase cb cv us pss (pl.set j p') := by
  have hjn : j < n := by rw [← h.len]; exact (List.getElem?_eq_some_iff.1 hj).1
  have hgb : g ≠ b := by
    have := own_ne h.row h.blk (by decide)
    intro q
    exact this (by rw [← q]; rfl)
  have hgc : g ≠ cb := by
    have := own_ne h.row h.code.blk (by decide)
    intro q
    exact this (by rw [← q]; rfl)
  refine ⟨h.le, h.blk.other _ _ hgb, ?_, by rw [List.length_set]; exact h.len, ⟨h.code.le, h.code.blk.other _ _ hgc, ?_, ?_⟩⟩
  · rw [← flat_set (enc := encPl) (sz := 4) (fun _ => rfl) pl j p p' hj i u hi he]
    exact own_setg h.row _ u (by omega)
  · refine own_setCell h.code.out (fun e => ?_) _
    exact (ne_types h.row h.code.out (by decide)) g rfl e.symm
  · refine h.code.nest.setCell (fun u' hu e => ?_) _
    exact (h.code.nest.ty h.row (by decide)) u' hu g rfl e.symm
theorem IsArena.cell (h : IsArena w base b g n cbase cb cv us pss pl) {j : Nat} {p : PlaceS} (hj : pl[j]? = some p) :
    w.cell? ⟨g, j * 4, none⟩ = some (.int .i64 p.program) ∧ w.cell? ⟨g, j * 4 + 1, none⟩ = some (.int .i64 p.at_) ∧ w.cell? ⟨g, j * 4 + 2, none⟩ = some (.int .i64 p.left) ∧ w.cell? ⟨g, j * 4 + 3, none⟩ = some (.int .i64 p.begun) :=
  ⟨own_cellg h.row _ _ (by simpa using flat_get (enc := encPl) (sz := 4) (fun _ => rfl) pl j p hj 0 _ rfl), own_cellg h.row _ _ (flat_get (enc := encPl) (sz := 4) (fun _ => rfl) pl j p hj 1 _ rfl), own_cellg h.row _ _ (flat_get (enc := encPl) (sz := 4) (fun _ => rfl) pl j p hj 2 _ rfl), own_cellg h.row _ _ (flat_get (enc := encPl) (sz := 4) (fun _ => rfl) pl j p hj 3 _ rfl)⟩

/-- The blocks of an arena. -/
def ArenaF (b g cb : Nat) (cv : Value) (us : List Value) : Nat → Prop := fun i => i = b ∨ i = g ∨ i = cb ∨ cv.ownBlock = some i ∨ ∃ u ∈ us, u.ownBlock = some i
theorem IsArena.lt (h : IsArena w base b g n cbase cb cv us pss pl) : ∀ i, ArenaF b g cb cv us i → i < w.heap.size := by
  rintro i (rfl | rfl | rfl | hi | ⟨u, hu, hi⟩)
  · exact h.blk.lt
  · exact own_lt h.row _ rfl
  · exact h.code.blk.lt
  · exact own_lt h.code.out i hi
  · obtain ⟨ps, hp⟩ := h.code.nest.mem hu
    exact own_lt hp i hi
theorem own_of_blk {w w1 : World} {base n : Nat} {e : TypeId} {sz : Nat} {v : Value} {xs : List Value} (h : w.ownsRow base e sz v n xs) (hk : ∀ g, v.ownBlock = some g → w1.heap[g]? = w.heap[g]?) : w1.ownsRow base e sz v n xs := by
  refine ⟨h.1, ?_⟩
  rcases h.2 with h2 | ⟨g, cap, cur, rfl, hg, hh, r⟩
  · exact .inl h2
  · exact .inr ⟨g, cap, cur, rfl, hg, (hk g rfl).trans hh, r⟩
theorem IsArena.chg {S : Nat → Prop} (h : IsArena w base b g n cbase cb cv us pss pl) (hc : Chg S w w1) (hd : ∀ i, ArenaF b g cb cv us i → ¬ S i) : IsArena w1 base b g n cbase cb cv us pss pl :=
  ⟨h.le, (hc.block b h.blk.lt (hd b (.inl rfl))).trans h.blk, own_of_blk h.row (fun k hk => hc.block k (own_lt h.row k hk) (hd k (.inr (.inl (by have : g = k := Option.some.inj hk; exact this.symm))))), h.len,
    ⟨h.code.le, (hc.block cb h.code.blk.lt (hd cb (.inr (.inr (.inl rfl))))).trans h.code.blk, own_of_blk h.code.out (fun k hk => hc.block k (own_lt h.code.out k hk) (hd k (.inr (.inr (.inr (.inl hk)))))),
      h.code.nest.imp fun u hu m xs hr => own_of_blk hr (fun k hk => hc.block k (own_lt hr k hk) (hd k (.inr (.inr (.inr (.inr ⟨u, hu, hk⟩))))))⟩⟩

theorem At_ag {p i : Int} {y : Int × Int} (he : atOf pss p i = y) (h : IsCode w cbase cb cv us pss) : Calls Try.prog 24 #[.pointer (some ⟨cb, 0, none⟩), .int .i64 p, .int .i64 i] w fun e w' => e = .returned (.agg #[.int .i64 y.1, .int .i64 y.2]) ∧ Bw w w' := he ▸ At_calls p i h

def nowP (pss : List (List (Int × Int))) (p : PlaceS) : Int × Int := if p.begun = 0 then (0, 0) else atOf pss p.program p.at_
set_option maxHeartbeats 1000000 in
set_option maxRecDepth 100000 in
theorem now_calls {j : Nat} {p : PlaceS} (h : IsArena w base b g n cbase cb cv us pss pl) (hj : pl[j]? = some p) :
    Calls Try.prog 107 #[.pointer (some ⟨g, j * 4, none⟩), .pointer (some ⟨cb, 0, none⟩)] w fun e w' => e = .returned (.agg #[.int .i64 (nowP pss p).1, .int .i64 (nowP pss p).2]) ∧ Bw w w' := by
  have HB := Aside0.mk (Bw.refl w)
  have hgl : g < w.heap.size := own_lt h.row g rfl
  have hne : g ≠ w.heap.size := by omega
  obtain ⟨k0, k1, k2, k3⟩ := h.cell hj
  by_cases hb : p.begun = 0
  · have d : (p.begun == 0) = true := by simpa using hb
    have HN := Aside0.mk (show nowP pss p = (0, 0) by unfold nowP; rw [if_pos hb])
    clear h hj hb
    go_enter Try.func107, Try.ntmps107
    go_wp2_with fail
    rw [HN.out]
    refine bodyPost_ret (v := .agg #[.int .i64 0, .int .i64 0]) ?_ rfl ⟨rfl, (by repeat (first | (with_reducible first | exact HB.out) | refine Bw.alloc ?_ _ | refine Bw.setCell ?_ (by first | exact Nat.le_refl _ | (simp; omega)) _ | refine Bw.drew ?_ | refine Bw.drewN ?_ _))⟩
    simp [results, Try.results107, go_sem]
  · have d : (p.begun == 0) = false := by simpa using hb
    obtain ⟨y, hy⟩ : ∃ y, atOf pss p.program p.at_ = y := ⟨_, rfl⟩
    have HN := Aside0.mk (show nowP pss p = y by unfold nowP; rw [if_neg hb]; exact hy)
    have HY := Aside0.mk hy
    have HC := Aside0.mk (h.code.bw (((Bw.refl w).alloc (.cells #[.int .i64 0, .int .i64 0] 48)).drew))
    have HK0 := Aside0.mk (show (w.alloc (.cells #[.int .i64 0, .int .i64 0] 48)).drew.cell? ⟨g, j * 4, none⟩ = some (.int .i64 p.program) from ((Bw.refl w).alloc _).drew.kept k0)
    have HK1 := Aside0.mk (show (w.alloc (.cells #[.int .i64 0, .int .i64 0] 48)).drew.cell? ⟨g, j * 4 + 1, none⟩ = some (.int .i64 p.at_) from ((Bw.refl w).alloc _).drew.kept k1)
    have HP := Aside0.mk (show Blk (w.alloc (.cells #[.int .i64 0, .int .i64 0] 48)).drew w.heap.size #[.int .i64 0, .int .i64 0] 48 from Blk.new w _ _)
    clear h hj hb hy
    go_enter Try.func107, Try.ntmps107
    go_wp2_with fail
    go_region_held3 (fun W => W.cell? ⟨g, j * 4, none⟩ = some (.int .i64 p.program) ∧ W.cell? ⟨g, j * 4 + 1, none⟩ = some (.int .i64 p.at_)) (simp [*, World.cell?_alloc_some, World.cell?_setCell_far, World.cell?_setCell_other]) ((go_at_call 24; refine (At_ag (cbase := cbase) (cv := cv) (us := us) (pss := pss) (y := y) HY.out HC.out).mono ?_; rintro e w1 ⟨rfl, hb1⟩; have j0 := hb1.kept HK0.out; have j1 := hb1.kept HK1.out; have HP1 := Aside0.mk (HP.out.bw hb1); have f0 := HP1.out.free 0; have f1 := HP1.out.free 1; have c0 := HP1.out.cell 0 _ rfl; have c1 := HP1.out.cell 1 _ rfl))
    go_wp2_with fail
    rw [HN.out]
    have HW1 := Aside0.mk ((((HB.out.alloc (.cells #[.int .i64 0, .int .i64 0] 48)).drew).trans hb1))
    have hlt := HP1.out.lt
    refine bodyPost_ret (v := .agg #[.int .i64 y.1, .int .i64 y.2]) ?_ rfl ⟨rfl, (by repeat (first | (with_reducible first | exact HW1.out) | refine Bw.alloc ?_ _ | refine Bw.setCell ?_ (by first | exact Nat.le_refl _ | (simp; omega)) _ | refine Bw.drew ?_ | refine Bw.drewN ?_ _))⟩
    simp [results, Try.results107, go_sem, c0, c1, hlt]

/-- A step of a place, whose instruction is x. -/
def stepP (x : Int × Int) (p : PlaceS) : PlaceS :=
  if x.1 = 0 then p
  else if x.1 = 1 then
    (if (if p.left = 0 then x.2 else p.left) = 1 then { p with at_ := p.at_ + 1, left := 0 } else { p with left := (if p.left = 0 then x.2 else p.left) - 1 })
  else { p with at_ := p.at_ + 1 }
theorem set_same {pl : List PlaceS} {j : Nat} {p : PlaceS} (h : pl[j]? = some p) : pl.set j p = pl := by
  apply List.ext_getElem?
  intro i
  rw [List.getElem?_set]
  split
  · subst_vars
    rw [if_pos (List.getElem?_eq_some_iff.1 h).1, h]
  · rfl
theorem set_set_at {pl : List PlaceS} {j : Nat} {p p' : PlaceS} (h : pl[j]? = some p) : (pl.set j p')[j]? = some p' := by
  rw [List.getElem?_set, if_pos rfl, if_pos (List.getElem?_eq_some_iff.1 h).1]
def PlOk (x : Int × Int) (p : PlaceS) : Prop := (x.1 = 1 → 1 ≤ x.2 ∧ x.2 < 4611686018427387904) ∧ (0 ≤ p.at_ ∧ p.at_ < 4611686018427387904) ∧ (0 ≤ p.left ∧ p.left < 4611686018427387904)
set_option maxHeartbeats 2000000 in
set_option maxRecDepth 100000 in
theorem step_calls {j : Nat} {p : PlaceS} {x : Int × Int} (h : IsArena w base b g n cbase cb cv us pss pl) (hj : pl[j]? = some p) (hx : nowP pss p = x) (hok : PlOk x p) :
    Calls Try.prog 106 #[.pointer (some ⟨g, j * 4, none⟩), .pointer (some ⟨cb, 0, none⟩)] w fun e w' => e = .returned (.agg #[.int .i64 x.1, .int .i64 x.2]) ∧ IsArena w' base b g n cbase cb cv us pss (pl.set j (stepP x p)) ∧ Chg (fun i => i = g) w w' := by
  have HA := Aside0.mk (h.bw ((Bw.refl w).alloc (.cells #[.int .i64 0, .int .i64 0] 48)))
  have HA0 := Aside0.mk h
  have HX := Aside0.mk hx
  have HJ := Aside0.mk hj
  have C0 := Aside0.mk ((Chg.refl (fun i => i = g) w).alloc (.cells #[.int .i64 0, .int .i64 0] 48))
  have HP := Blk.new w #[.int .i64 0, .int .i64 0] 48
  have hgw : g < w.heap.size := own_lt h.row g rfl
  have HGB := Aside0.mk (show g ≠ b by
    have := own_ne h.row h.blk (by decide)
    intro q
    exact this (by rw [← q]; rfl))
  obtain ⟨y, z⟩ := x
  obtain ⟨hk1, ⟨p1, p2⟩, ⟨p3, p4⟩⟩ := hok
  simp only at hk1
  clear h hj hx
  go_enter Try.func106, Try.ntmps106
  go_wp2_with fail
  refine (now_calls HA.out HJ.out).mono ?_
  rintro e w1 ⟨rfl, hb1⟩
  rw [HX.out]
  have HA1 := Aside0.mk ((HA.out.bw hb1).bw ((Bw.refl w1).alloc (.cells #[.int .i64 y, .int .i64 z] 48)))
  obtain ⟨k0, k1, k2, k3⟩ := (HA.out.bw hb1).cell HJ.out
  have fr1 := own_free (HA.out.bw hb1).row (j * 4 + 1)
  have fr2 := own_free (HA.out.bw hb1).row (j * 4 + 2)
  have hgl : g < w1.heap.size := own_lt (HA.out.bw hb1).row g rfl
  have C1 := Aside0.mk ((C0.out.trans (Chg.of_bw hb1)).alloc (.cells #[.int .i64 y, .int .i64 z] 48))
  have B0 := HP.bw hb1
  have L1 := Blk.new w1 #[.int .i64 y, .int .i64 z] 48
  have B1 := B0.alloc (.cells #[.int .i64 y, .int .i64 z] 48)
  have hlt := B0.lt
  have f0 := B0.free 0
  have f1 := B0.free 1
  have q0 := B0.cell 0 _ rfl
  have q1 := B0.cell 1 _ rfl
  have hgw' : g ≠ w.heap.size := by omega
  have hgw2 : g ≠ w1.heap.size := by omega
  have hww : w.heap.size ≠ w1.heap.size := by omega
  clear HP
  have HLT := Aside0.mk (fun i hi => HA0.out.lt i hi)
  have HB1 := Aside0.mk (HA.out.bw hb1)
  have CW := Aside0.mk (C0.out.trans (Chg.of_bw hb1))
  have fin : ∀ (W2 : World) (pl' : List PlaceS), IsArena W2 base b g n cbase cb cv us pss pl' → Chg (fun i => i = g) w W2 → w1.heap.size ≤ W2.heap.size →
      IsArena (((W2.setCell ⟨w.heap.size, 0, none⟩ (.int .i64 y)).setCell ⟨w.heap.size, 1, none⟩ (.int .i64 z)).alloc (.cells #[.int .i64 y, .int .i64 z] 48)) base b g n cbase cb cv us pss pl' ∧ Chg (fun i => i = g) w (((W2.setCell ⟨w.heap.size, 0, none⟩ (.int .i64 y)).setCell ⟨w.heap.size, 1, none⟩ (.int .i64 z)).alloc (.cells #[.int .i64 y, .int .i64 z] 48)) := by
    intro W2 pl' hA hC _
    refine ⟨hA.chg ((((Chg.refl (fun i => i = w.heap.size) W2).setb rfl _).setb rfl _).alloc _) (fun i hi e => ?_), ((hC.set (p := ⟨w.heap.size, 0, none⟩) (.inr (Nat.le_refl _)) _).set (p := ⟨w.heap.size, 1, none⟩) (.inr (Nat.le_refl _)) _).alloc _⟩
    have := HLT.out i hi
    omega
  have FIN := Aside0.mk fin
  clear fin
  by_cases hy0 : y = 0
  · subst hy0
    go_wp2_with fail
    refine bodyPost_ret (v := .agg #[.int .i64 0, .int .i64 z]) ?_ rfl ⟨rfl, ?_⟩
    · simp [results, Try.results106, go_sem, hlt, q0, q1, hgw', Ne.symm hgw']
    · rw [show stepP (0, z) p = p from rfl, set_same HJ.out]
      exact FIN.out w1 pl HB1.out CW.out (Nat.le_refl _)
  by_cases hy1 : y = 1
  · subst hy1
    obtain ⟨z1, z2⟩ := hk1 rfl
    by_cases hl : p.left = 0
    · have l0 : (p.left == 0) = true := by simpa using hl
      have HL := Aside0.mk hl
      by_cases hz : z = 1
      · subst hz
        have HS := Aside0.mk (show stepP (1, 1) p = { p with at_ := p.at_ + 1, left := 0 } by unfold stepP; rw [if_neg (by decide), if_pos rfl, if_pos hl, if_pos rfl])
        clear hl
        go_wp2_with fail
        refine bodyPost_ret (v := .agg #[.int .i64 1, .int .i64 1]) ?_ rfl ⟨rfl, ?_⟩
        · simp [results, Try.results106, go_sem, hlt, q0, q1, hgw', Ne.symm hgw']
        · rw [HS.out]
          have A1 := HB1.out.set HJ.out 2 (.int .i64 1) (by omega) (p' := { p with left := 1 }) rfl
          have A2 := A1.set (set_set_at HJ.out) 2 (.int .i64 0) (by omega) (p' := { p with left := 0 }) rfl
          rw [List.set_set] at A2
          have A3 := A2.set (set_set_at HJ.out) 1 (.int .i64 (p.at_ + 1)) (by omega) (p' := { p with at_ := p.at_ + 1, left := 0 }) rfl
          rw [List.set_set] at A3
          exact FIN.out _ _ A3 (((CW.out.setb rfl _).setb rfl _).setb rfl _) (by simp)
      · have HS := Aside0.mk (show stepP (1, z) p = { p with left := z - 1 } by unfold stepP; rw [if_neg (by simp), if_pos rfl, if_pos hl, if_neg hz])
        have e5 : (z - 1 == 0) = false := by simp; omega
        clear hl hz
        go_wp2_with fail
        refine bodyPost_ret (v := .agg #[.int .i64 1, .int .i64 z]) ?_ rfl ⟨rfl, ?_⟩
        · simp [results, Try.results106, go_sem, hlt, q0, q1, hgw', Ne.symm hgw']
        · rw [HS.out]
          have A1 := HB1.out.set HJ.out 2 (.int .i64 z) (by omega) (p' := { p with left := z }) rfl
          have A2 := A1.set (set_set_at HJ.out) 2 (.int .i64 (z - 1)) (by omega) (p' := { p with left := z - 1 }) rfl
          rw [List.set_set] at A2
          exact FIN.out _ _ A2 ((CW.out.setb rfl _).setb rfl _) (by simp)
    · have l0 : (p.left == 0) = false := by simpa using hl
      have HL := Aside0.mk hl
      by_cases hz : p.left = 1
      · have HS := Aside0.mk (show stepP (1, z) p = { p with at_ := p.at_ + 1, left := 0 } by unfold stepP; rw [if_neg (by simp), if_pos rfl, if_neg hl, if_pos hz])
        have e5 : (p.left - 1 == 0) = true := by simp; omega
        have HZ := Aside0.mk hz
        clear hl hz
        go_wp2_with fail
        refine bodyPost_ret (v := .agg #[.int .i64 1, .int .i64 z]) ?_ rfl ⟨rfl, ?_⟩
        · simp [results, Try.results106, go_sem, hlt, q0, q1, hgw', Ne.symm hgw']
        · rw [HS.out]
          rw [show p.left - 1 = 0 by have := HZ.out; omega]
          have A2 := HB1.out.set HJ.out 2 (.int .i64 0) (by omega) (p' := { p with left := 0 }) rfl
          have A3 := A2.set (set_set_at HJ.out) 1 (.int .i64 (p.at_ + 1)) (by omega) (p' := { p with at_ := p.at_ + 1, left := 0 }) rfl
          rw [List.set_set] at A3
          exact FIN.out _ _ A3 ((CW.out.setb rfl _).setb rfl _) (by simp)
      · have HS := Aside0.mk (show stepP (1, z) p = { p with left := p.left - 1 } by unfold stepP; rw [if_neg (by simp), if_pos rfl, if_neg hl, if_neg hz])
        have e5 : (p.left - 1 == 0) = false := by simp; omega
        clear hl hz
        go_wp2_with fail
        refine bodyPost_ret (v := .agg #[.int .i64 1, .int .i64 z]) ?_ rfl ⟨rfl, ?_⟩
        · simp [results, Try.results106, go_sem, hlt, q0, q1, hgw', Ne.symm hgw']
        · rw [HS.out]
          have A2 := HB1.out.set HJ.out 2 (.int .i64 (p.left - 1)) (by omega) (p' := { p with left := p.left - 1 }) rfl
          exact FIN.out _ _ A2 (CW.out.setb rfl _) (by simp)
  · have e0 : (y == 0) = false := by simpa using hy0
    have e1 : (y != 1) = true := by simpa using hy1
    have HS := Aside0.mk (show stepP (y, z) p = { p with at_ := p.at_ + 1 } by unfold stepP; rw [if_neg hy0, if_neg hy1])
    clear hy0 hy1
    go_wp2_with fail
    refine bodyPost_ret (v := .agg #[.int .i64 y, .int .i64 z]) ?_ rfl ⟨rfl, ?_⟩
    · simp [results, Try.results106, go_sem, hlt, q0, q1, hgw', Ne.symm hgw']
    · rw [HS.out]
      exact FIN.out _ _ (HB1.out.set HJ.out 1 (.int .i64 (p.at_ + 1)) (by omega) rfl) (CW.out.setb rfl _) (by simp)
end
end Go.Proofs.Ytclippikdfcgkaa.M
