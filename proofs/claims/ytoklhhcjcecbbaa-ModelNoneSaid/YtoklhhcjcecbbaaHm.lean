/- Package model: New, known, next, What, Program, Count; of none. Conditions: no more than 65,536 goroutines. -/
import Derived.Test.YtoklhhcjcecbbaaH5
import Derived.Test.YtoklhhcjcecbbaaHl
import Derived.Test.YtoklhhcjcecbbaaGa
import Derived.Test.YtoklhhcjcecbbaaMs
import Derived.Maps.OwnIn
import Derived.RegionTactic
namespace Go.Proofs.Ytoklhhcjcecbbaa.M
open Go.RowKit Go.Maps Go.Proofs.YtoklhhcjcecbbaaW.PrintWords Go.Proofs.YtoklhhcjcecbbaaW.PrintLast Go.Proofs.YtoklhhcjcecbbaaW.PrintMore
set_option linter.unusedVariables false
set_option linter.unusedSimpArgs false
theorem made_flat {α : Type} {enc : α → List Value} {sz : Nat} (hs : ∀ x, (enc x).length = sz) (hz : 0 < sz) (x : α) (zc : Array Value) (he : enc x = zc.toList) (n : Nat) : (madeCells zc (n * sz)).toList = (List.replicate n x).flatMap enc := by
  have hzs : zc.size = sz := by rw [← hs x, he]; simp
  apply List.ext_getElem?
  intro j
  rcases Nat.lt_or_ge j (n * sz) with hj | hj
  · have h1 : j / sz < n := Nat.div_lt_of_lt_mul (by rw [Nat.mul_comm]; exact hj)
    have h2 : j % sz < sz := Nat.mod_lt _ hz
    have hr : (List.replicate n x)[j / sz]? = some x := by simp [h1]
    have hu : (enc x)[j % sz]? = some (zc[j % sz]'(by omega)) := by rw [he]; simp [hzs, h2]
    have := flat_get hs (List.replicate n x) (j / sz) x hr (j % sz) _ hu
    rw [Nat.mul_comm, Nat.div_add_mod] at this
    rw [this]
    simp [madeCells, hj, hzs, h2]
  · rw [List.getElem?_eq_none (by simp [size_madeCells]; omega), List.getElem?_eq_none (by rw [flat_len hs]; simpa using hj)]
theorem make_any {P : Program} (t e : TypeId) (z : Value) (size bytes : Nat) (ht : P.underlying t = some (.slice e)) (hinfo : (P.info? e).map (fun i => (i.zero, i.size, i.bytes)) = some (some z, size, bytes)) (n : Nat) (hn : bytes * n ≤ 281474976710656) (hn' : n ≤ 9223372036854775807) (W : World) :
    (Instr.makeSlice t (.int .i64 (n : Int)) (.int .i64 (n : Int))).run P W = .ok (.slice (some ⟨W.heap.size, 0, none⟩) n n) (W.alloc (.cells (madeCells z.cells (n * size)) e)) := by
  obtain ⟨i, hi, hzz⟩ := Option.map_eq_some_iff.1 hinfo
  simp only [Prod.mk.injEq] at hzz
  obtain ⟨hz, hs, hb⟩ := hzz
  have := run_make (P := P) W t e i _ ht hi hz .i64 .i64 (n : Int) (n : Int) (by omega) (Int.le_refl _) (by rw [hb]; omega) (by omega)
  simpa [hs] using this
theorem own_made_any {α : Type} {enc : α → List Value} {sz : Nat} (hs : ∀ x, (enc x).length = sz) (hz : 0 < sz) (x : α) (zc : Array Value) (he : enc x = zc.toList) (e : TypeId) (W : World) (base n : Nat) (hb : base ≤ W.heap.size) (hm : n ≤ 9223372036854775807) :
    (W.alloc (.cells (madeCells zc (n * sz)) e)).ownsRow base e sz (.slice (some ⟨W.heap.size, 0, none⟩) n n) n ((List.replicate n x).flatMap enc) := by
  have h := World.ownsRow_lit (base := base) (e := e) (size := sz) W (madeCells zc (n * sz)) n hb (by simpa [maxLen] using hm) (by simp [size_madeCells])
  rwa [made_flat hs hz x zc he n] at h
structure GR where
  what : Int
  program : Int
  at_ : Int
  th : Int
  pr : Int
abbrev encR : GR → List Value := fun r => [.int .i64 r.what, .int .i64 r.program, .int .i64 r.at_, .int .i64 r.th, .int .i64 r.pr]
theorem infoRow : (Try.prog.info? 106).map (fun i => (i.zero, i.size, i.bytes)) = some (some (.agg #[.int .i64 0, .int .i64 0, .int .i64 0, .int .i64 0, .int .i64 0]), 5, 40) := by kernel_rfl
/-- Where a model's parts lie. -/
structure MS where
  mb : Nat
  g : Nat
  n : Nat
  tb : Nat
  pb : Nat
  cbase : Nat
  cb : Nat
  cv : Value
  us : List Value
  pss : List (List (Int × Int))
abbrev MS.rv (s : MS) : Value := .slice (some ⟨s.g, 0, none⟩) s.n s.n
structure IsMod (w : World) (base : Nat) (s : MS) (rows : List GR) (k : Nat) (Dt Dp : DataW Unit) : Prop where
  le : base ≤ s.mb ∧ base ≤ s.tb ∧ base ≤ s.pb
  blk : Blk w s.mb #[.pointer (some ⟨s.cb, 0, none⟩), s.rv, .map (some s.tb), .map (some s.pb)] 104
  row : w.ownsRow base 106 5 s.rv s.n (rows.flatMap encR)
  len : rows.length = s.n
  small : s.n ≤ 65536 ∧ k ≤ 1000000
  code : IsCode w s.cbase s.cb s.cv s.us s.pss
  mt : ∃ m, m ≤ k ∧ isMi w s.tb m Dt
  mp : ∃ m, m ≤ k ∧ isMi w s.pb m Dp
  ne : s.tb ≠ s.pb
section
variable {w w1 : World} {base k : Nat} {s : MS} {rows : List GR} {Dt Dp : DataW Unit}
theorem IsMod.bw (h : IsMod w base s rows k Dt Dp) (hb : Bw w w1) : IsMod w1 base s rows k Dt Dp :=
  ⟨h.le, h.blk.bw hb, pw_own_below h.row hb, h.len, h.small, h.code.bw hb, let ⟨m, h1, h2⟩ := h.mt; ⟨m, h1, mi_bw h2 hb⟩, let ⟨m, h1, h2⟩ := h.mp; ⟨m, h1, mi_bw h2 hb⟩, h.ne⟩
theorem IsMod.cells (h : IsMod w base s rows k Dt Dp) : w.cell? ⟨s.mb, 0, none⟩ = some (.pointer (some ⟨s.cb, 0, none⟩)) ∧ w.cell? ⟨s.mb, 1, none⟩ = some s.rv ∧ w.cell? ⟨s.mb, 2, none⟩ = some (.map (some s.tb)) ∧ w.cell? ⟨s.mb, 3, none⟩ = some (.map (some s.pb)) ∧ s.mb < w.heap.size :=
  ⟨h.blk.cell 0 _ rfl, h.blk.cell 1 _ rfl, h.blk.cell 2 _ rfl, h.blk.cell 3 _ rfl, h.blk.lt⟩
theorem IsMod.rowAt (h : IsMod w base s rows k Dt Dp) {i : Nat} {r : GR} (hr : rows[i]? = some r) : w.cell? ⟨s.g, i * 5, none⟩ = some (.int .i64 r.what) ∧ w.cell? ⟨s.g, i * 5 + 1, none⟩ = some (.int .i64 r.program) ∧ w.cell? ⟨s.g, i * 5 + 2, none⟩ = some (.int .i64 r.at_) ∧ w.cell? ⟨s.g, i * 5 + 3, none⟩ = some (.int .i64 r.th) ∧ w.cell? ⟨s.g, i * 5 + 4, none⟩ = some (.int .i64 r.pr) ∧ i < s.n := by
  have c (j : Nat) (u : Value) (hj : (encR r)[j]? = some u) := own_cellg h.row (i * 5 + j) u (flat_get (enc := encR) (sz := 5) (fun _ => rfl) rows i r hr j u hj)
  exact ⟨c 0 _ rfl, c 1 _ rfl, c 2 _ rfl, c 3 _ rfl, c 4 _ rfl, by rw [← h.len]; exact (List.getElem?_eq_some_iff.1 hr).1⟩
def rows0 (n : Nat) : List GR := (List.replicate n ⟨0, 0, 0, 0, 0⟩).set 0 ⟨1, 0, 0, 0, 0⟩
theorem mm (W : World) : Sem.run Try.prog (Instr.makeMap 87 none) W = .ok (.map (some W.heap.size)) (W.alloc (.map #[] 0)) := rfl
set_option maxHeartbeats 2000000 in
set_option maxRecDepth 100000 in
theorem mNew_calls {cbase cb : Nat} {cv : Value} {us : List Value} {pss : List (List (Int × Int))} (hc : IsCode w cbase cb cv us pss) (p t : Int) (m : Nat) (hp : 1 ≤ p ∧ p ≤ 64) (hm : 1 ≤ m ∧ m ≤ 65536) :
    Calls Try.prog 24 #[.pointer (some ⟨cb, 0, none⟩), .agg #[.int .i64 p, .int .i64 t, .int .i64 m]] w fun e w' => ∃ s : MS, e = .returned (.tuple #[.pointer (some ⟨s.mb, 0, none⟩), .int .i64 0]) ∧ s.n = m ∧ s.pss = pss ∧ IsMod w' w.heap.size s (rows0 m) 0 (.map []) (.map []) ∧ Bw w w' := by
  have HC := Aside0.mk hc
  obtain ⟨m1, m2⟩ := hm
  obtain ⟨p1, p2⟩ := hp
  have hmk := make_any (P := Try.prog) 102 106 _ 5 40 Try.underlying102 infoRow m (by omega) (by omega)
  have d1 : decide ((m : Int) < 1) = false := by simp; omega
  have d2 : decide ((65536 : Int) < (m : Int)) = false := by simp; omega
  have d3 : decide (p < 1) = false := by simp; omega
  have d4 : decide ((64 : Int) < p) = false := by simp; omega
  obtain ⟨w0, hw0⟩ : ∃ w0, w0 = w.alloc (.cells #[.int .i64 p, .int .i64 t, .int .i64 m] 53) := ⟨_, rfl⟩
  have HB0 := Aside0.mk (show Bw w w0 by rw [hw0]; exact (Bw.refl w).alloc _)
  have HK0 := Aside0.mk (show Blk w0 w.heap.size #[.int .i64 p, .int .i64 t, .int .i64 m] 53 by rw [hw0]; exact Blk.new w _ _)
  have k0 := HK0.out.cell 0 (.int .i64 p) rfl
  have k2 := HK0.out.cell 2 (.int .i64 m) rfl
  obtain ⟨W2, hW2⟩ : ∃ W2, W2 = (w.alloc (.cells #[.int .i64 p, .int .i64 t, .int .i64 m] 53)).alloc (.cells (madeCells #[.int .i64 0, .int .i64 0, .int .i64 0, .int .i64 0, .int .i64 0] (m * 5)) 106) := ⟨_, rfl⟩
  have hsz0 : w0.heap.size = w.heap.size + 1 := by rw [hw0]; simp
  have hb2 : Bw w W2 := by rw [hW2]; exact ((Bw.refl w).alloc _).alloc _
  have HB2 := Aside0.mk hb2
  have hr2 : W2.ownsRow w.heap.size 106 5 (.slice (some ⟨w.heap.size + 1, 0, none⟩) m m) m ((List.replicate m ⟨0, 0, 0, 0, 0⟩ : List GR).flatMap encR) := by
    have := own_made_any (enc := encR) (sz := 5) (fun _ => rfl) (by decide) ⟨0, 0, 0, 0, 0⟩ #[.int .i64 0, .int .i64 0, .int .i64 0, .int .i64 0, .int .i64 0] rfl 106 w0 w.heap.size m HB0.out.size (by omega)
    rw [hsz0, hw0, ← hW2] at this
    exact this
  obtain ⟨W3, hW3⟩ : ∃ W3, W3 = W2.alloc (.map #[] 0) := ⟨_, rfl⟩
  obtain ⟨W4, hW4⟩ : ∃ W4, W4 = W3.alloc (.map #[] 0) := ⟨_, rfl⟩
  have hm3 : isMi W3 W2.heap.size 0 (.map []) := by rw [hW3]; exact World.ownsMap_made W2 Try.prog 3 (plainElem (H := Unit) Try.prog 3)
  have hm4 : isMi W4 W3.heap.size 0 (.map []) := by rw [hW4]; exact World.ownsMap_made W3 Try.prog 3 (plainElem (H := Unit) Try.prog 3)
  have hb3 : Bw W2 W3 := by rw [hW3]; exact (Bw.refl W2).alloc _
  have hb4 : Bw W3 W4 := by rw [hW4]; exact (Bw.refl W3).alloc _
  have HR4 := Aside0.mk (pw_own_below (pw_own_below hr2 hb3) hb4)
  have HM3 := Aside0.mk (mi_bw hm3 hb4)
  have HM4 := Aside0.mk hm4
  have HB4 := Aside0.mk ((hb2.trans hb3).trans hb4)
  have HS2 := Aside0.mk (And.intro (show W2.heap.size = w.heap.size + 2 by rw [hW2]; simp) (And.intro (show W3.heap.size = W2.heap.size + 1 by rw [hW3]; simp) (show W4.heap.size = W3.heap.size + 1 by rw [hW4]; simp)))
  obtain ⟨g0, gf, gl⟩ : W4.cell? ⟨w.heap.size + 1, 0, none⟩ = some (.int .i64 0) ∧ W4.frozen? ⟨w.heap.size + 1, 0, none⟩ = false ∧ w.heap.size + 1 < W4.heap.size := by
    refine ⟨own_cellg HR4.out 0 _ ?_, own_free HR4.out 0, own_lt HR4.out _ rfl⟩
    have := flat_get (enc := encR) (sz := 5) (fun _ => rfl) (List.replicate m ⟨0, 0, 0, 0, 0⟩) 0 ⟨0, 0, 0, 0, 0⟩ (by rw [List.getElem?_replicate, if_pos (by omega)]) 0 (.int .i64 0) rfl
    simpa using this
  have hm0 : 0 < m := by omega
  have hm0' : (0 : Int) < (m : Int) := by omega
  clear hc hb2 hr2 hm3 hm4 hb3 hb4 hw0 hsz0
  go_enter Try.func24, Try.ntmps24
  go_wp2_with fail
  rw [← hW2, mm, ← hW3]
  clear hW2 hW3
  go_wp2_with fail
  rw [mm, ← hW4]
  clear hW4
  go_wp2_with fail
  go_ret2
  have hX : (W4.setCell ⟨w.heap.size + 1, 0, none⟩ (.int .i64 1)).ownsRow w.heap.size 106 5 (.slice (some ⟨w.heap.size + 1, 0, none⟩) m m) m ((rows0 m).flatMap encR) := by
    have h := own_setg HR4.out 0 (.int .i64 1) (by omega)
    have e := flat_set (enc := encR) (sz := 5) (fun _ => rfl) (List.replicate m ⟨0, 0, 0, 0, 0⟩) 0 ⟨0, 0, 0, 0, 0⟩ ⟨1, 0, 0, 0, 0⟩ (by rw [List.getElem?_replicate, if_pos (by omega)]) 0 (.int .i64 1) (by omega) rfl
    rw [Nat.zero_mul, Nat.zero_add] at e
    rw [e] at h
    exact h
  obtain ⟨z1, z2, z3⟩ := HS2.out
  refine ⟨⟨W4.heap.size, w.heap.size + 1, m, W2.heap.size, W3.heap.size, cbase, cb, cv, us, pss⟩, rfl, rfl, rfl, ⟨⟨by dsimp only; omega, by dsimp only; omega, by dsimp only; omega⟩, ?_, hX.alloc _, by simp [rows0], ⟨m2, by omega⟩, ?_, ⟨0, Nat.le_refl _, (HM3.out.setCell (by dsimp only; omega) _).alloc _⟩, ⟨0, Nat.le_refl _, (HM4.out.setCell (by dsimp only; omega) _).alloc _⟩, by dsimp only; omega⟩, (HB4.out.setCell (by simp) _).alloc _⟩
  · have hsz : (W4.setCell ⟨w.heap.size + 1, 0, none⟩ (.int .i64 1)).heap.size = W4.heap.size := by simp [World.setCell]
    have := Blk.new (W4.setCell ⟨w.heap.size + 1, 0, none⟩ (.int .i64 1)) #[.pointer (some ⟨cb, 0, none⟩), .slice (some ⟨w.heap.size + 1, 0, none⟩) m m, .map (some W2.heap.size), .map (some W3.heap.size)] 104
    rw [hsz] at this
    exact this
  · exact HC.out.bw ((HB4.out.setCell (by simp) _).alloc _)
theorem mNew_nil (p t m : Int) (w : World) : Calls Try.prog 24 #[.pointer none, .agg #[.int .i64 p, .int .i64 t, .int .i64 m]] w fun e w' => e = .returned (.tuple #[.pointer none, .int .i64 1]) ∧ Bw w w' := by
  have HB := Aside0.mk (show Bw w (w.alloc (.cells #[.int .i64 p, .int .i64 t, .int .i64 m] 53)) from (Bw.refl w).alloc _)
  go_enter Try.func24, Try.ntmps24
  go_wp2_with fail
  go_ret2
  exact ⟨rfl, HB.out⟩
theorem mNew_out (p t m : Int) (cb : Nat) (w : World) (h : ¬ (1 ≤ p ∧ p ≤ 64 ∧ 1 ≤ m ∧ m ≤ 65536)) : Calls Try.prog 24 #[.pointer (some ⟨cb, 0, none⟩), .agg #[.int .i64 p, .int .i64 t, .int .i64 m]] w fun e w' => e = .returned (.tuple #[.pointer none, .int .i64 1]) ∧ Bw w w' := by
  obtain ⟨w0, hw0⟩ : ∃ w0, w0 = w.alloc (.cells #[.int .i64 p, .int .i64 t, .int .i64 m] 53) := ⟨_, rfl⟩
  have HB := Aside0.mk (show Bw w (w.alloc (.cells #[.int .i64 p, .int .i64 t, .int .i64 m] 53)) from (Bw.refl w).alloc _)
  clear hw0
  cases d1 : decide (p < 1)
  · cases d2 : decide ((64 : Int) < p)
    · cases d3 : decide (m < 1)
      · have d4 : decide ((65536 : Int) < m) = true := by simp at d1 d2 d3 ⊢; omega
        clear h
        go_enter Try.func24, Try.ntmps24
        go_wp2_with fail
        go_ret2
        exact ⟨rfl, HB.out⟩
      · clear h
        go_enter Try.func24, Try.ntmps24
        go_wp2_with fail
        go_ret2
        exact ⟨rfl, HB.out⟩
    · clear h
      go_enter Try.func24, Try.ntmps24
      go_wp2_with fail
      go_ret2
      exact ⟨rfl, HB.out⟩
  · clear h
    go_enter Try.func24, Try.ntmps24
    go_wp2_with fail
    go_ret2
    exact ⟨rfl, HB.out⟩
theorem known_nil (g : Int) (w : World) : Calls Try.prog 58 #[.pointer none, .int .i64 g] w fun e w' => e = .returned (.bool false) ∧ Bw w w' := by
  have HB := Aside0.mk (Bw.refl w)
  go_enter Try.func58, Try.ntmps58
  go_wp2_with fail
  go_ret
  exact ⟨rfl, HB.out⟩
theorem known_in (h : IsMod w base s rows k Dt Dp) (i : Nat) (hi : i < s.n) : Calls Try.prog 58 #[.pointer (some ⟨s.mb, 0, none⟩), .int .i64 (i : Int)] w fun e w' => e = .returned (.bool true) ∧ Bw w w' := by
  have HB := Aside0.mk (Bw.refl w)
  obtain ⟨c0, c1, c2, c3, cl⟩ := h.cells
  clear h
  go_enter Try.func58, Try.ntmps58
  go_wp2_with fail
  go_ret
  exact ⟨rfl, HB.out⟩
theorem what_nil (g : Int) (w : World) : Calls Try.prog 29 #[.pointer none, .int .i64 g] w fun e w' => e = .returned (.int .i64 0) ∧ Bw w w' := by
  go_enter Try.func29, Try.ntmps29
  go_wp2_with fail
  refine (known_nil g _).mono ?_
  rintro e w1 ⟨rfl, hb1⟩
  go_wp2_with fail
  go_ret
  exact ⟨rfl, hb1⟩
theorem what_in (h : IsMod w base s rows k Dt Dp) (i : Nat) (r : GR) (hr : rows[i]? = some r) : Calls Try.prog 29 #[.pointer (some ⟨s.mb, 0, none⟩), .int .i64 (i : Int)] w fun e w' => e = .returned (.int .i64 r.what) ∧ Bw w w' := by
  have H := Aside0.mk h
  have HR := Aside0.mk hr
  have HK := Aside0.mk (known_in h i (h.rowAt hr).2.2.2.2.2)
  clear h hr
  go_enter Try.func29, Try.ntmps29
  go_wp2_with fail
  refine (HK.out).mono ?_
  rintro e w1 ⟨rfl, hb1⟩
  obtain ⟨c0, c1, c2, c3, cl⟩ := (H.out.bw hb1).cells
  obtain ⟨r0, r1, r2, r3, r4, hi⟩ := (H.out.bw hb1).rowAt HR.out
  go_wp2_with fail
  go_ret
  exact ⟨rfl, hb1⟩
theorem program_nil (g : Int) (w : World) : Calls Try.prog 30 #[.pointer none, .int .i64 g] w fun e w' => e = .returned (.int .i64 0) ∧ Bw w w' := by
  go_enter Try.func30, Try.ntmps30
  go_wp2_with fail
  refine (known_nil g _).mono ?_
  rintro e w1 ⟨rfl, hb1⟩
  go_wp2_with fail
  go_ret
  exact ⟨rfl, hb1⟩
theorem count_nil (g : Int) (w : World) : Calls Try.prog 32 #[.pointer none, .int .i64 g] w fun e w' => e = .returned (.int .i64 0) ∧ Bw w w' := by
  have HB := Aside0.mk (Bw.refl w)
  go_enter Try.func32, Try.ntmps32
  go_wp2_with fail
  go_ret
  exact ⟨rfl, HB.out⟩
theorem may_nil (c0 c1 c2 c3 c4 : Int) (w : World) : Calls Try.prog 27 #[.pointer none, .agg #[.int .i64 c0, .int .i64 c1, .int .i64 c2, .int .i64 c3, .int .i64 c4]] w fun e w' => e = .returned (.bool false) ∧ Bw w w' := by
  have HB := Aside0.mk ((Bw.refl w).alloc (.cells #[.int .i64 c0, .int .i64 c1, .int .i64 c2, .int .i64 c3, .int .i64 c4] 55))
  go_enter Try.func27, Try.ntmps27
  go_wp2_with fail
  refine (known_nil c1 _).mono ?_
  rintro e w1 ⟨rfl, hb1⟩
  go_wp2_with fail
  go_ret
  exact ⟨rfl, HB.out.trans hb1⟩
set_option maxRecDepth 100000 in
theorem do_nil (c0 c1 c2 c3 c4 : Int) (w : World) : Calls Try.prog 28 #[.pointer none, .agg #[.int .i64 c0, .int .i64 c1, .int .i64 c2, .int .i64 c3, .int .i64 c4]] w fun e w' => e = .returned (.int .i64 1) ∧ Bw w w' := by
  have HB := Aside0.mk ((Bw.refl w).alloc (.cells #[.int .i64 c0, .int .i64 c1, .int .i64 c2, .int .i64 c3, .int .i64 c4] 55))
  go_enter Try.func28, Try.ntmps28
  go_wp2_with fail
  go_ret
  exact ⟨rfl, HB.out⟩
theorem all_nil (w : World) : Calls Try.prog 26 #[.pointer none, .slice none 0 0] w fun e w' => e = .returned (.tuple #[.int .i64 0, .bool false]) ∧ Bw w w' := by
  have HB := Aside0.mk (Bw.refl w)
  go_enter Try.func26, Try.ntmps26
  go_wp2_with fail
  go_loopw [10] (fun iv wr => iv = .int .i64 0 ∧ wr = w) (fun _ _ => 0)
  case atStart => exact ⟨rfl, rfl⟩
  case round =>
    obtain ⟨rfl, rfl⟩ := hrel
    go_wp2_with fail
    go_ret2
    exact ⟨rfl, HB.out⟩
end
end Go.Proofs.Ytoklhhcjcecbbaa.M
