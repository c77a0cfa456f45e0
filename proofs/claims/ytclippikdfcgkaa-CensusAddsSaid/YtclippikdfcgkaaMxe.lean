/- Package census: Add, as the law's walk meets it; a made slice of events that is filled. No condition. -/
import Derived.Test.YtclippikdfcgkaaMxf
namespace Go.Proofs.Ytclippikdfcgkaa.M
open Go.RowKit Go.Proofs.YtclippikdfcgkaaW.PrintWords Go.Proofs.YtclippikdfcgkaaW.PrintLast Go.Proofs.YtclippikdfcgkaaW.PrintMore
set_option linter.unusedVariables false
set_option linter.unusedSimpArgs false
theorem Add_lit {base : Nat} (es fs : List Ev) (n m g1 c1 g2 c2 g3 c3 g4 c4 : Nat) (w : World) (hn : 1 ≤ n ∧ n ≤ 65536) (hm : 1 ≤ m ∧ m ≤ 64) (hl : es.length ≤ 1000 ∧ fs.length ≤ 1000)
    (hga : w.ownsRow base 141 3 (.slice (some ⟨g1, 0, none⟩) n c1) n (tabV (n * 3) (fG es))) (hpa : w.ownsRow base 3 1 (.slice (some ⟨g2, 0, none⟩) m c2) m (tabV m (cP es)))
    (hgb : w.ownsRow base 141 3 (.slice (some ⟨g3, 0, none⟩) n c3) n (tabV (n * 3) (fG fs))) (hpb : w.ownsRow base 3 1 (.slice (some ⟨g4, 0, none⟩) m c4) m (tabV m (cP fs))) :
    Calls Try.prog 17 #[.agg #[.int .i64 (cK es 0), .int .i64 (cK es 1), .int .i64 (cK es 2), .int .i64 (cK es 3), .int .i64 (cK es 4), .int .i64 (cK es 5), .int .i64 (cK es 6), .int .i64 (cK es 7), .int .i64 (cK es 8), .int .i64 (cK es 9), .int .i64 (cK es 10), .int .i64 (cK es 11), .slice (some ⟨g1, 0, none⟩) n c1, .slice (some ⟨g2, 0, none⟩) m c2, .int .i64 (cMost es), .int .i64 (cNow es)], .agg #[.int .i64 (cK fs 0), .int .i64 (cK fs 1), .int .i64 (cK fs 2), .int .i64 (cK fs 3), .int .i64 (cK fs 4), .int .i64 (cK fs 5), .int .i64 (cK fs 6), .int .i64 (cK fs 7), .int .i64 (cK fs 8), .int .i64 (cK fs 9), .int .i64 (cK fs 10), .int .i64 (cK fs 11), .slice (some ⟨g3, 0, none⟩) n c3, .slice (some ⟨g4, 0, none⟩) m c4, .int .i64 (cMost fs), .int .i64 (cNow fs)]] w fun r w' =>
      ∃ b g5 c5 g6 c6, r = .returned (.tuple #[.agg #[.int .i64 (cK (es ++ fs) 0), .int .i64 (cK (es ++ fs) 1), .int .i64 (cK (es ++ fs) 2), .int .i64 (cK (es ++ fs) 3), .int .i64 (cK (es ++ fs) 4), .int .i64 (cK (es ++ fs) 5), .int .i64 (cK (es ++ fs) 6), .int .i64 (cK (es ++ fs) 7), .int .i64 (cK (es ++ fs) 8), .int .i64 (cK (es ++ fs) 9), .int .i64 (cK (es ++ fs) 10), .int .i64 (cK (es ++ fs) 11), .slice (some ⟨g5, 0, none⟩) n c5, .slice (some ⟨g6, 0, none⟩) m c6, .int .i64 (cMost (es ++ fs)), .int .i64 (cNow (es ++ fs))], .int .i64 0]) ∧ IsCen w' w.heap.size b g5 c5 g6 c6 n m (cK (es ++ fs)) (fG (es ++ fs)) (cP (es ++ fs)) (cMost (es ++ fs)) (cNow (es ++ fs)) ∧ Bw w w' :=
  Add_calls es fs n m g1 c1 g2 c2 g3 c3 g4 c4 w hn hm hl hga hpa hgb hpb
set_option maxHeartbeats 2000000 in
set_option maxRecDepth 100000 in
theorem Add_unlike {a0 a1 a2 a3 a4 a5 a6 a7 a8 a9 a10 a11 a12 a13 b0 b1 b2 b3 b4 b5 b6 b7 b8 b9 b10 b11 b12 b13 : Int} {A1 A2 A3 A4 : Option Addr} {n m n' m' c1 c2 c3 c4 : Nat} {w : World} (hne : n ≠ n' ∨ m ≠ m') :
    Calls Try.prog 17 #[.agg #[.int .i64 a0, .int .i64 a1, .int .i64 a2, .int .i64 a3, .int .i64 a4, .int .i64 a5, .int .i64 a6, .int .i64 a7, .int .i64 a8, .int .i64 a9, .int .i64 a10, .int .i64 a11, .slice A1 n c1, .slice A2 m c2, .int .i64 a12, .int .i64 a13], .agg #[.int .i64 b0, .int .i64 b1, .int .i64 b2, .int .i64 b3, .int .i64 b4, .int .i64 b5, .int .i64 b6, .int .i64 b7, .int .i64 b8, .int .i64 b9, .int .i64 b10, .int .i64 b11, .slice A3 n' c3, .slice A4 m' c4, .int .i64 b12, .int .i64 b13]] w fun r w' =>
      r = .returned (.tuple #[.agg #[.int .i64 0, .int .i64 0, .int .i64 0, .int .i64 0, .int .i64 0, .int .i64 0, .int .i64 0, .int .i64 0, .int .i64 0, .int .i64 0, .int .i64 0, .int .i64 0, .slice none 0 0, .slice none 0 0, .int .i64 0, .int .i64 0], .int .i64 1]) ∧ Bw w w' := by
  have HB := Aside0.mk (Bw.refl w)
  by_cases h : n = n'
  · have h2 : m ≠ m' := by omega
    have e1 : ((n : Int) != (n' : Int)) = false := by simp; omega
    have e2 : ((m : Int) != (m' : Int)) = true := by simp; omega
    clear h h2 hne
    go_enter Try.func17, Try.ntmps17
    go_wp2_with fail
    exact bodyPost_ret (v := .tuple #[.agg #[.int .i64 0, .int .i64 0, .int .i64 0, .int .i64 0, .int .i64 0, .int .i64 0, .int .i64 0, .int .i64 0, .int .i64 0, .int .i64 0, .int .i64 0, .int .i64 0, .slice none 0 0, .slice none 0 0, .int .i64 0, .int .i64 0], .int .i64 1]) (by simp [results, Try.results17, go_sem]) rfl ⟨rfl, (by repeat (first | (with_reducible first | exact HB.out) | refine Bw.alloc ?_ _ | refine Bw.setCell ?_ (by first | exact Nat.le_refl _ | (simp; omega)) _ | refine Bw.drew ?_ | refine Bw.drewN ?_ _))⟩
  · have e1 : ((n : Int) != (n' : Int)) = true := by simp; omega
    clear h hne
    go_enter Try.func17, Try.ntmps17
    go_wp2_with fail
    exact bodyPost_ret (v := .tuple #[.agg #[.int .i64 0, .int .i64 0, .int .i64 0, .int .i64 0, .int .i64 0, .int .i64 0, .int .i64 0, .int .i64 0, .int .i64 0, .int .i64 0, .int .i64 0, .int .i64 0, .slice none 0 0, .slice none 0 0, .int .i64 0, .int .i64 0], .int .i64 1]) (by simp [results, Try.results17, go_sem]) rfl ⟨rfl, (by repeat (first | (with_reducible first | exact HB.out) | refine Bw.alloc ?_ _ | refine Bw.setCell ?_ (by first | exact Nat.le_refl _ | (simp; omega)) _ | refine Bw.drew ?_ | refine Bw.drewN ?_ _))⟩
theorem infoEv : (Try.prog.info? 38).map (fun i => (i.zero, i.size, i.bytes)) = some (some (.agg #[.int .i64 0, .int .i64 0, .int .i64 0, .int .i64 0, .int .i64 0]), 5, 40) := by kernel_rfl
theorem make_evs (n : Nat) (hn : n ≤ 65536) (W : World) : (Instr.makeSlice 25 (.int .i64 (n : Int)) (.int .i64 (n : Int))).run Try.prog W = .ok (.slice (some ⟨W.heap.size, 0, none⟩) n n) (W.alloc (.cells (madeCells #[.int .i64 0, .int .i64 0, .int .i64 0, .int .i64 0, .int .i64 0] (n * 5)) 38)) := by
  obtain ⟨i, hi, hzz⟩ := Option.map_eq_some_iff.1 infoEv
  simp only [Prod.mk.injEq] at hzz
  obtain ⟨hz, hs, hb⟩ := hzz
  have := run_make (P := Try.prog) W 25 38 i _ Try.underlying25 hi hz .i64 .i64 (n : Int) (n : Int) (by omega) (Int.le_refl _) (by rw [hb]; omega) (by omega)
  simpa [hs, Value.cells] using this
theorem made5 (k : Nat) : (madeCells #[Value.int .i64 0, .int .i64 0, .int .i64 0, .int .i64 0, .int .i64 0] k).toList = tabV k (fun _ => 0) := by
  apply List.ext_getElem?
  intro j
  rcases Nat.lt_or_ge j k with hj | hj
  · rw [tabV_get k _ j hj]
    have : j % 5 = 0 ∨ j % 5 = 1 ∨ j % 5 = 2 ∨ j % 5 = 3 ∨ j % 5 = 4 := by omega
    rcases this with h | h | h | h | h <;> simp [madeCells, hj, h]
  · rw [List.getElem?_eq_none (by simp [size_madeCells]; omega), List.getElem?_eq_none (by rw [tabV_len]; omega)]
/-- The events' numbers. -/
def evI (es : List Ev) : List Int := es.flatMap fun e => [e.kind, e.g, e.other, e.thread, e.proc]
def evF (es : List Ev) (j : Int) : Int := (evI es).getD j.toNat 0
theorem evI_len (es : List Ev) : (evI es).length = es.length * 5 := by
  unfold evI
  induction es with
  | nil => rfl
  | cons e es ih => rw [List.flatMap_cons, List.length_append, ih]; simp only [List.length_cons, List.length_nil]; omega
theorem tab_list (xs : List Int) (n : Nat) (h : xs.length = n) : tab n (fun j => xs.getD j.toNat 0) = xs := by
  apply List.ext_getElem?
  intro i
  rcases Nat.lt_or_ge i n with hi | hi
  · rw [tab_get _ _ _ hi, List.getElem?_eq_getElem (by omega)]
    simp [List.getD_eq_getElem?_getD, List.getElem?_eq_getElem (show i < xs.length by omega)]
  · rw [List.getElem?_eq_none (by rw [tab_len]; omega), List.getElem?_eq_none (by omega)]
theorem evV (es : List Ev) : tabV (es.length * 5) (evF es) = es.flatMap encV := by
  unfold tabV
  rw [show tab (es.length * 5) (evF es) = evI es from tab_list _ _ (evI_len es)]
  unfold evI nums
  rw [List.map_flatMap]
  rfl
theorem evI_at (es : List Ev) (i : Nat) (e : Ev) (h : es[i]? = some e) : (evI es)[i * 5]? = some e.kind ∧ (evI es)[i * 5 + 1]? = some e.g ∧ (evI es)[i * 5 + 2]? = some e.other ∧ (evI es)[i * 5 + 3]? = some e.thread ∧ (evI es)[i * 5 + 4]? = some e.proc := by
  unfold evI
  induction es generalizing i with
  | nil => simp at h
  | cons x xs ih =>
    rw [List.flatMap_cons]
    cases i with
    | zero =>
      simp at h
      subst h
      exact ⟨rfl, rfl, rfl, rfl, rfl⟩
    | succ i =>
      have := ih i (by simpa using h)
      rw [Nat.succ_mul, show i * 5 + 5 = 5 + i * 5 by omega]
      refine ⟨?_, ?_, ?_, ?_, ?_⟩
      · rw [List.getElem?_append_right (by simp)]; simpa using this.1
      · rw [List.getElem?_append_right (by simp; omega)]; simpa [show 5 + i * 5 + 1 - 5 = i * 5 + 1 by omega] using this.2.1
      · rw [List.getElem?_append_right (by simp; omega)]; simpa [show 5 + i * 5 + 2 - 5 = i * 5 + 2 by omega] using this.2.2.1
      · rw [List.getElem?_append_right (by simp; omega)]; simpa [show 5 + i * 5 + 3 - 5 = i * 5 + 3 by omega] using this.2.2.2.1
      · rw [List.getElem?_append_right (by simp; omega)]; simpa [show 5 + i * 5 + 4 - 5 = i * 5 + 4 by omega] using this.2.2.2.2
theorem evF_at (es : List Ev) (i : Nat) (e : Ev) (h : es[i]? = some e) : evF es ((i * 5 : Nat) : Int) = e.kind ∧ evF es ((i * 5 + 1 : Nat) : Int) = e.g ∧ evF es ((i * 5 + 2 : Nat) : Int) = e.other ∧ evF es ((i * 5 + 3 : Nat) : Int) = e.thread ∧ evF es ((i * 5 + 4 : Nat) : Int) = e.proc := by
  obtain ⟨h0, h1, h2, h3, h4⟩ := evI_at es i e h
  unfold evF
  simp only [Int.toNat_natCast, List.getD_eq_getElem?_getD]
  rw [h0, h1, h2, h3, h4]
  exact ⟨rfl, rfl, rfl, rfl, rfl⟩
/-- All events so far, noughts behind them. -/
def evP (t : Nat) (es : List Ev) : Int → Int := upTo t (evF es) (fun _ => 0) (fun _ => 0)
abbrev evS (w : World) (g i : Nat) (e : Ev) : World := ((((w.setCell ⟨g, i * 5, none⟩ (.int .i64 e.kind)).setCell ⟨g, i * 5 + 1, none⟩ (.int .i64 e.g)).setCell ⟨g, i * 5 + 2, none⟩ (.int .i64 e.other)).setCell ⟨g, i * 5 + 3, none⟩ (.int .i64 e.thread)).setCell ⟨g, i * 5 + 4, none⟩ (.int .i64 e.proc)
theorem ev_set {w : World} {base g c n : Nat} {es : List Ev} (i : Nat) (e : Ev) (he : es[i]? = some e) (hi : i < n) (h : w.ownsRow base 38 5 (.slice (some ⟨g, 0, none⟩) n c) n (tabV (n * 5) (evP (i * 5) es))) :
    (evS w g i e).ownsRow base 38 5 (.slice (some ⟨g, 0, none⟩) n c) n (tabV (n * 5) (evP ((i + 1) * 5) es)) := by
  obtain ⟨f0, f1, f2, f3, f4⟩ := evF_at es i e he
  have key : ∀ (q : Nat) (x : Int), q < n * 5 → evF es q = x → tabV (n * 5) (evP (q + 1) es) = (tabV (n * 5) (evP q es)).set q (.int .i64 x) := by
    intro q x hq hx
    have := tabV_set (n * 5) (evP q es) (evP (q + 1) es) q (fun j hj hne => upTo_step q _ _ _ j hne)
    rw [this]
    unfold evP
    rw [upTo_at, hx, Int.add_zero]
  have h0 := own_setj h (i * 5) (.int .i64 e.kind) (by omega)
  rw [← key (i * 5) _ (by omega) f0] at h0
  have h1 := own_setj h0 (i * 5 + 1) (.int .i64 e.g) (by omega)
  rw [← key (i * 5 + 1) _ (by omega) f1] at h1
  have h2 := own_setj h1 (i * 5 + 2) (.int .i64 e.other) (by omega)
  rw [← key (i * 5 + 2) _ (by omega) f2] at h2
  have h3 := own_setj h2 (i * 5 + 3) (.int .i64 e.thread) (by omega)
  rw [← key (i * 5 + 3) _ (by omega) f3] at h3
  have h4 := own_setj h3 (i * 5 + 4) (.int .i64 e.proc) (by omega)
  rw [← key (i * 5 + 4) _ (by omega) f4] at h4
  rw [Nat.succ_mul]
  exact h4
theorem ev_cell {w : World} {base g c n : Nat} {es : List Ev} (i q : Nat) (hq : q < 5) (hi : i < n) (h : w.ownsRow base 38 5 (.slice (some ⟨g, 0, none⟩) n c) n (tabV (n * 5) (evP (i * 5) es))) : w.cell? ⟨g, i * 5 + q, none⟩ = some (.int .i64 0) :=
  own_cellj h (i * 5 + q) _ (by rw [tabV_get _ _ _ (by omega)]; unfold evP; rw [upTo_old _ _ _ _ _ (by omega)])
theorem ev_done {w : World} {base g c n : Nat} {es : List Ev} (hn : es.length = n) (h : w.ownsRow base 38 5 (.slice (some ⟨g, 0, none⟩) n c) n (tabV (n * 5) (evP (n * 5) es))) (hl : n ≤ 65536) : Rows encV 5 w (some ⟨g, 0, none⟩) es := by
  subst hn
  have e : tabV (es.length * 5) (evP (es.length * 5) es) = es.flatMap encV := by
    rw [← evV es]
    exact tabV_same _ _ _ fun j hj => by unfold evP; rw [upTo_new _ _ _ _ _ hj, Int.add_zero]
  rw [e] at h
  obtain ⟨A, c', hv, hR⟩ := Rows.own (enc := encV) (sz := 5) (xs := es) (fun _ => rfl) h rfl (by omega)
  injection hv with h1 h2 h3
  rw [h1]
  exact hR
theorem ev_made (W1 W : World) (n : Nat) (hn : n ≤ 65536) (g : Nat) (hg : W1.heap.size ≤ g) (es : List Ev) (h : W.heap[g]? = some (.cells (madeCells #[.int .i64 0, .int .i64 0, .int .i64 0, .int .i64 0, .int .i64 0] (n * 5)) 38 (0, 0))) : W.ownsRow W1.heap.size 38 5 (.slice (some ⟨g, 0, none⟩) n n) n (tabV (n * 5) (evP 0 es)) := by
  have e : tabV (n * 5) (evP 0 es) = (madeCells #[Value.int .i64 0, .int .i64 0, .int .i64 0, .int .i64 0, .int .i64 0] (n * 5)).toList := by
    rw [made5]
    exact tabV_same _ _ _ fun j hj => upTo_old 0 _ _ _ j (Nat.zero_le _)
  rw [e]
  exact ⟨by simp [size_madeCells], .inr ⟨g, n, _, rfl, hg, h, Nat.le_refl _, by simp [maxLen]; omega, by simp [size_madeCells], by rw [List.take_of_length_le (by simp [size_madeCells])]⟩⟩
end Go.Proofs.Ytclippikdfcgkaa.M
