/- Package model: Count, next, Next. Conditions: as in the text before; the next instruction stands where the goroutine is, or there is none. -/
import Derived.Test.YtoklhhcjcecbbaaHm
import Derived.Deep.RegionHeld3
namespace Go.Proofs.Ytoklhhcjcecbbaa.M
open Go.RowKit Go.Maps Go.Proofs.YtoklhhcjcecbbaaW.PrintWords Go.Proofs.YtoklhhcjcecbbaaW.PrintLast Go.Proofs.YtoklhhcjcecbbaaW.PrintMore
set_option linter.unusedVariables false
set_option linter.unusedSimpArgs false
def cntR (rows : List GR) (x : Int) : Nat := (rows.filter (fun r => r.what == x)).length
theorem cntR_snoc (l : List GR) (r : GR) (x : Int) : cntR (l ++ [r]) x = cntR l x + (if (r.what == x) = true then 1 else 0) := by
  unfold cntR
  rw [List.filter_append, List.length_append, List.filter_cons]
  split <;> simp
section
variable {w w1 : World} {base k : Nat} {s : MS} {rows : List GR} {Dt Dp : DataW Unit}
set_option maxHeartbeats 1000000 in
theorem count_calls (h : IsMod w base s rows k Dt Dp) (x : Int) : Calls Try.prog 32 #[.pointer (some ⟨s.mb, 0, none⟩), .int .i64 x] w fun e w' => e = .returned (.int .i64 (cntR rows x)) ∧ Bw w w' := by
  have H := Aside0.mk h
  obtain ⟨c0, c1, c2, c3, cl⟩ := h.cells
  have hsm := h.small.1
  have HL := Aside0.mk h.len
  clear h
  go_enter Try.func32, Try.ntmps32
  go_wp2_with fail
  go_loopw [5, 15] (fun nv iv wr => ∃ i c : Nat, i ≤ s.n ∧ iv = .int .i64 i ∧ nv = .int .i64 c ∧ c ≤ i ∧ Aside0 (c = cntR (rows.take i) x) ∧ Aside0 (Bw w wr)) (fun _ iv _ => s.n - (intOf iv).toNat)
  case atStart => exact ⟨0, 0, by omega, rfl, rfl, by omega, ⟨rfl⟩, ⟨Bw.refl w⟩⟩
  case round =>
    obtain ⟨i, c, hi, rfl, rfl, hci, HC, HW⟩ := hrel
    by_cases hlt : i < s.n
    · obtain ⟨r, hr⟩ : ∃ r, rows[i]? = some r := ⟨_, List.getElem?_eq_getElem (by rw [HL.out]; exact hlt)⟩
      obtain ⟨r0, r1, r2, r3, r4, _⟩ := (H.out.bw HW.out).rowAt hr
      have HT := Aside0.mk (show rows.take (i + 1) = rows.take i ++ [r] by rw [List.take_add_one, hr]; rfl)
      clear hr
      cases hq : (r.what == x)
      · have HN := Aside0.mk (show c = cntR (rows.take (i + 1)) x by rw [HT.out, cntR_snoc, hq, HC.out]; rfl)
        go_wp2_with fail
        go_roundw
        case rel => exact ⟨i + 1, c, by omega, by go_num, rfl, by omega, HN, ⟨HW.out.alloc _⟩⟩
        case measure => simp [intOf]; omega
      · have HN := Aside0.mk (show c + 1 = cntR (rows.take (i + 1)) x by rw [HT.out, cntR_snoc, hq, HC.out]; rfl)
        go_wp2_with fail
        go_roundw
        case rel => exact ⟨i + 1, c + 1, by omega, by go_num, by go_num, by omega, HN, ⟨HW.out.alloc _⟩⟩
        case measure => simp [intOf]; omega
    · obtain rfl : i = s.n := by omega
      have HN := Aside0.mk (show (c : Int) = (cntR rows x : Int) by rw [HC.out, List.take_of_length_le (by rw [HL.out]; exact Nat.le_refl _)])
      go_wp2_with fail
      go_ret
      exact ⟨ret_int HN.out, HW.out⟩
theorem two_sh {W : World} {b : Nat} {T : TypeId} {x y : Int} (h : Blk W b #[.int .i64 x, .int .i64 y] T) : W.cell? ⟨b, 0, none⟩ = some (.int .i64 x) ∧ W.cell? ⟨b, 1, none⟩ = some (.int .i64 y) ∧ (∀ i, W.frozen? ⟨b, i, none⟩ = false) ∧ b < W.heap.size :=
  ⟨h.cell 0 _ rfl, h.cell 1 _ rfl, h.free, h.lt⟩
/-- What next answers. -/
def nextV (i : Int × Int) (p : Int) : Value := .tuple #[insV i, .int .i64 p]
theorem res_next {W : World} {c : Nat} {T : TypeId} {x y p : Int} {tmps : Array Value} (h4 : tmps[4]?.getD undef = .pointer (some ⟨c, 0, none⟩)) (h5 : tmps[5]?.getD undef = .int .i64 p) (h : Blk W c #[.int .i64 x, .int .i64 y] T) :
    (results Try.f63 tmps).run Try.prog W = .ok (nextV (x, y) p) W := by
  have c0 := h.cell 0 (.int .i64 x) rfl
  have c1 := h.cell 1 (.int .i64 y) rfl
  simp [results, Try.results63, h4, h5, c0, c1, go_sem, nextV, insV]
set_option maxHeartbeats 4000000 in
set_option maxRecDepth 100000 in
theorem next_none (h : IsMod w base s rows k Dt Dp) (i : Nat) (r : GR) (hr : rows[i]? = some r) (L : Nat) (hL : longOf s.pss r.program = L) (ha : (L : Int) ≤ r.at_) : Calls Try.prog 63 #[.pointer (some ⟨s.mb, 0, none⟩), .int .i64 (i : Int)] w fun e w' => e = .returned (nextV (0, 0) L) ∧ Bw w w' := by
  obtain ⟨w1, hw1⟩ : ∃ w1, w1 = (w.alloc (.cells #[.int .i64 0, .int .i64 0] 66)).alloc (.cells #[.int .i64 r.what, .int .i64 r.program, .int .i64 r.at_, .int .i64 r.th, .int .i64 r.pr] 106) := ⟨_, rfl⟩
  have HB1 := Aside0.mk (show Bw w w1 by rw [hw1]; exact ((Bw.refl w).alloc _).alloc _)
  have HK4 := Aside0.mk (show Blk w1 w.heap.size #[.int .i64 0, .int .i64 0] 66 by rw [hw1]; exact (Blk.new w _ _).alloc _)
  have HK6 := Aside0.mk (show Blk w1 (w.heap.size + 1) #[.int .i64 r.what, .int .i64 r.program, .int .i64 r.at_, .int .i64 r.th, .int .i64 r.pr] 106 by rw [hw1]; simpa using Blk.new (w.alloc (.cells #[.int .i64 0, .int .i64 0] 66)) #[.int .i64 r.what, .int .i64 r.program, .int .i64 r.at_, .int .i64 r.th, .int .i64 r.pr] 106)
  have H1 := Aside0.mk (h.bw HB1.out)
  obtain ⟨c0, c1, c2, c3, cl⟩ := h.cells
  obtain ⟨r0, r1, r2, r3, r4, hi⟩ := h.rowAt hr
  have hgl : s.g < w.heap.size := own_lt h.row _ rfl
  have HLO := Aside0.mk (fun W (hW : IsMod W base s rows k Dt Dp) => Long_calls r.program hW.code)
  rw [hL] at HLO
  have hd : decide (r.at_ < (L : Int)) = false := decide_eq_false (by omega)
  clear h hr hL
  obtain ⟨ra, rp, rt, rh, rq⟩ := r
  dsimp only at *
  go_enter Try.func63, Try.ntmps63
  go_wp2_with fail
  rw [← hw1]
  clear hw1 c0 c1 c2 c3 r0 r1 r2 r3 r4 hgl
  go_loopw [7] (fun v wr => v = .int .i64 rt ∧ wr = w1) (fun _ _ => 0)
  case atStart => exact ⟨rfl, rfl⟩
  case round =>
    obtain ⟨rfl, rfl⟩ := hrel
    have S0 : ∀ p : BwW wr, p.W.cell? ⟨s.mb, 0, none⟩ = some (.pointer (some ⟨s.cb, 0, none⟩)) := fun p => p.cell H1.out.cells.1
    have S1 : ∀ p : BwW wr, p.W.cell? ⟨w.heap.size + 1, 1, none⟩ = some (.int .i64 rp) := fun p => p.cell (HK6.out.cell 1 _ rfl)
    go_wp2_with fail
    refine wp_region_bw (by kernel_rfl) (by kernel_rfl) ?_
    repeat (first | go_big_quiet_skip | (go_big_quiet_want; go_big_quiet_op; first | go_big_quiet_on | go_big_quiet_call ((go_at_call 81; exact qcall (HLO.out _ (H1.out.bw (BwW.h _)))))))
    refine wpQuiet_nil ?_
    rintro w3 ⟨⟨_, hb3⟩, rfl⟩
    clear S0 S1
    have HB3 := Aside0.mk (HB1.out.trans hb3)
    have H3 := Aside0.mk (H1.out.bw hb3)
    have H3d := Aside0.mk (H1.out.bw hb3.drew)
    have HKd := Aside0.mk (HK4.out.bw hb3.drew)
    have s0 := H3.out.cells.1
    have s1 := (HK6.out.bw hb3).cell 1 (.int .i64 rp) rfl
    have hn1 : ¬ s.mb = w.heap.size := by omega
    have hn2 : ¬ w.heap.size = s.mb := by omega
    clear hb3
    go_wp2_with fail
    go_region_held3 (fun W => W.cell? ⟨s.mb, 0, none⟩ = some (.pointer (some ⟨s.cb, 0, none⟩)) ∧ W.cell? ⟨w.heap.size + 1, 1, none⟩ = some (.int .i64 rp)) (first | exact ⟨s0, s1⟩ | (simp [*, World.cell?_alloc_some, World.cell?_setCell_far, World.cell?_setCell_other])) ((go_at_call 81; refine (HLO.out _ H3d.out).mono ?_; rintro e w5 ⟨rfl, hb5⟩; have s0 := hb5.kept (a := ⟨s.mb, 0, none⟩) s0; have s1 := hb5.kept (a := ⟨w.heap.size + 1, 1, none⟩) s1; have HK5 := Aside0.mk (HKd.out.bw hb5); obtain ⟨z0, z1, zf, zl⟩ := two_sh HK5.out; have HB5 := Aside0.mk (HB3.out.drew.trans hb5); clear hb5))
    all_goals go_wp2_with fail
    refine bodyPost_ret (res_next rfl rfl ((HK5.out.set 0 (.int .i64 0)).set 1 (.int .i64 0))) rfl ⟨rfl, (HB5.out.setCell (Nat.le_refl _) _).setCell (Nat.le_refl _) _⟩
set_option maxHeartbeats 4000000 in
set_option maxRecDepth 100000 in
theorem next_some (h : IsMod w base s rows k Dt Dp) (i : Nat) (r : GR) (hr : rows[i]? = some r) (L a : Nat) (hL : longOf s.pss r.program = L) (ha : r.at_ = a) (hal : a < L) (x : Int × Int) (hx : atOf s.pss r.program a = x) (h1 : x.1 ≠ 1) (h5 : x.1 ≠ 5) : Calls Try.prog 63 #[.pointer (some ⟨s.mb, 0, none⟩), .int .i64 (i : Int)] w fun e w' => e = .returned (nextV x a) ∧ Bw w w' := by
  obtain ⟨w1, hw1⟩ : ∃ w1, w1 = (w.alloc (.cells #[.int .i64 0, .int .i64 0] 66)).alloc (.cells #[.int .i64 r.what, .int .i64 r.program, .int .i64 r.at_, .int .i64 r.th, .int .i64 r.pr] 106) := ⟨_, rfl⟩
  have HB1 := Aside0.mk (show Bw w w1 by rw [hw1]; exact ((Bw.refl w).alloc _).alloc _)
  have HK4 := Aside0.mk (show Blk w1 w.heap.size #[.int .i64 0, .int .i64 0] 66 by rw [hw1]; exact (Blk.new w _ _).alloc _)
  have HK6 := Aside0.mk (show Blk w1 (w.heap.size + 1) #[.int .i64 r.what, .int .i64 r.program, .int .i64 r.at_, .int .i64 r.th, .int .i64 r.pr] 106 by rw [hw1]; simpa using Blk.new (w.alloc (.cells #[.int .i64 0, .int .i64 0] 66)) #[.int .i64 r.what, .int .i64 r.program, .int .i64 r.at_, .int .i64 r.th, .int .i64 r.pr] 106)
  have H1 := Aside0.mk (h.bw HB1.out)
  obtain ⟨c0, c1, c2, c3, cl⟩ := h.cells
  obtain ⟨r0, r1, r2, r3, r4, hi⟩ := h.rowAt hr
  have hgl : s.g < w.heap.size := own_lt h.row _ rfl
  have HLO := Aside0.mk (fun W (hW : IsMod W base s rows k Dt Dp) => Long_calls r.program hW.code)
  have HAT := Aside0.mk (fun W (hW : IsMod W base s rows k Dt Dp) => At_calls r.program (a : Int) hW.code)
  rw [hL] at HLO
  rw [hx] at HAT
  have q1 : (x.1 != 1) = true := by simpa using h1
  have q5 : (x.1 != 5) = true := by simpa using h5
  clear h hr hL hx h1 h5
  obtain ⟨ra, rp, rt, rh, rq⟩ := r
  obtain ⟨xk, xa⟩ := x
  dsimp only [insV] at *
  subst ha
  go_enter Try.func63, Try.ntmps63
  go_wp2_with fail
  rw [← hw1]
  clear hw1 c0 c1 c2 c3 r0 r1 r2 r3 r4 hgl
  go_loopw [7] (fun v wr => v = .int .i64 a ∧ wr = w1) (fun _ _ => 0)
  case atStart => exact ⟨rfl, rfl⟩
  case round =>
    obtain ⟨rfl, rfl⟩ := hrel
    have S0 : ∀ p : BwW wr, p.W.cell? ⟨s.mb, 0, none⟩ = some (.pointer (some ⟨s.cb, 0, none⟩)) := fun p => p.cell H1.out.cells.1
    have S1 : ∀ p : BwW wr, p.W.cell? ⟨w.heap.size + 1, 1, none⟩ = some (.int .i64 rp) := fun p => p.cell (HK6.out.cell 1 _ rfl)
    go_wp2_with fail
    refine wp_region_bw (by kernel_rfl) (by kernel_rfl) ?_
    repeat (first | go_big_quiet_skip | (go_big_quiet_want; go_big_quiet_op; first | go_big_quiet_on | go_big_quiet_call ((go_at_call 81; exact qcall (HLO.out _ (H1.out.bw (BwW.h _)))))))
    refine wpQuiet_nil ?_
    rintro w3 ⟨⟨_, hb3⟩, rfl⟩
    clear S0 S1
    have HB3 := Aside0.mk (HB1.out.trans hb3)
    have H3 := Aside0.mk (H1.out.bw hb3)
    have HK43 := Aside0.mk (HK4.out.bw hb3)
    have s0 := H3.out.cells.1
    have s1 := (HK6.out.bw hb3).cell 1 (.int .i64 rp) rfl
    have h6l := (HK6.out.bw hb3).lt
    have hn1 : ¬ s.mb = w.heap.size := by omega
    have hn2 : ¬ w.heap.size = s.mb := by omega
    clear hb3
    have hm1 : s.mb < w3.heap.size := H3.out.blk.lt
    have hm2 : w.heap.size + 1 < w3.heap.size := h6l
    have hn3 : ¬ s.mb = w3.heap.size := by omega
    have hn4 : ¬ w3.heap.size = s.mb := by omega
    have hn5 : ¬ w.heap.size + 1 = w3.heap.size := by omega
    have hn6 : ¬ w3.heap.size = w.heap.size + 1 := by omega
    go_wp2_with fail
    have HMk := Aside0.mk (H3.out.bw (Bw.refl w3).drew)
    have HMa := Aside0.mk (H3.out.bw ((Bw.refl w3).drew.alloc (.cells #[.int .i64 0, .int .i64 0] 66)))
    have HBa := Aside0.mk (show Blk (w3.drew.alloc (.cells #[.int .i64 0, .int .i64 0] 66)) w3.heap.size #[.int .i64 0, .int .i64 0] 66 from Blk.new w3.drew _ _)
    go_region_held3 (fun W => W.cell? ⟨s.mb, 0, none⟩ = some (.pointer (some ⟨s.cb, 0, none⟩)) ∧ W.cell? ⟨w.heap.size + 1, 1, none⟩ = some (.int .i64 rp)) (first | exact ⟨s0, s1⟩ | (simp [*, World.cell?_alloc_some, World.cell?_setCell_far, World.cell?_setCell_other])) ((first | (go_at_call 82; refine (HAT.out _ HMk.out).mono ?_; rintro e w5 ⟨rfl, hb5⟩; have s0 := hb5.kept (a := ⟨s.mb, 0, none⟩) s0; have s1 := hb5.kept (a := ⟨w.heap.size + 1, 1, none⟩) s1; have HB5 := Aside0.mk (HB3.out.drew.trans hb5); have HQ5 := Aside0.mk ((Bw.refl w3).drew.trans hb5); clear hb5) | (go_at_call 82; refine (HAT.out _ HMa.out).mono ?_; rintro e w5 ⟨rfl, hb5⟩; have HL5 := Aside0.mk (HBa.out.bw hb5); have HQ5 := Aside0.mk (((Bw.refl w3).drew.alloc _).trans hb5); have HB5 := Aside0.mk ((HB3.out.drew.alloc _).trans hb5); obtain ⟨z0, z1, zf, zl⟩ := two_sh HL5.out; have s0 := HQ5.out.kept (a := ⟨s.mb, 0, none⟩) s0; have s1 := HQ5.out.kept (a := ⟨w.heap.size + 1, 1, none⟩) s1; clear hb5)))
    · obtain ⟨y0, y1, yf, yl⟩ := two_sh (HK43.out.bw HQ5.out)
      clear s0 s1
      go_wp2_with fail
      refine bodyPost_ret (res_next rfl rfl ((((HK43.out.bw HQ5.out).set 0 (.int .i64 xk)).set 1 (.int .i64 xa)).alloc _)) rfl ⟨rfl, ((HB5.out.setCell (Nat.le_refl _) _).setCell (Nat.le_refl _) _).alloc _⟩
    · obtain ⟨y0, y1, yf, yl⟩ := two_sh (HK43.out.bw HQ5.out)
      have hw3 : w.heap.size ≤ w3.heap.size := by omega
      have hn7 : ¬ w3.heap.size = w.heap.size := by omega
      have hn8 : ¬ w.heap.size = w3.heap.size := by omega
      clear s0 s1
      go_wp2_with fail
      refine bodyPost_ret (res_next rfl rfl (((((HK43.out.bw HQ5.out).other _ _ hn7).other _ _ hn7).set 0 (.int .i64 xk)).set 1 (.int .i64 xa))) rfl ⟨rfl, (((HB5.out.setCell hw3 _).setCell hw3 _).setCell (Nat.le_refl _) _).setCell (Nat.le_refl _) _⟩
theorem res_Next {W : World} {c : Nat} {T : TypeId} {x y : Int} {tmps : Array Value} (h4 : tmps[4]?.getD undef = .pointer (some ⟨c, 0, none⟩)) (h : Blk W c #[.int .i64 x, .int .i64 y] T) :
    (results Try.f31 tmps).run Try.prog W = .ok (insV (x, y)) W := by
  have c0 := h.cell 0 (.int .i64 x) rfl
  have c1 := h.cell 1 (.int .i64 y) rfl
  simp [results, Try.results31, h4, c0, c1, go_sem, insV]
theorem Next_nil (g : Int) (w : World) : Calls Try.prog 31 #[.pointer none, .int .i64 g] w fun e w' => e = .returned (insV (0, 0)) ∧ Bw w w' := by
  obtain ⟨w0, hw0⟩ : ∃ w0, w0 = w.alloc (.cells #[.int .i64 0, .int .i64 0] 66) := ⟨_, rfl⟩
  have HB0 := Aside0.mk (show Bw w w0 by rw [hw0]; exact (Bw.refl w).alloc _)
  have HK0 := Aside0.mk (show Blk w0 w.heap.size #[.int .i64 0, .int .i64 0] 66 by rw [hw0]; exact Blk.new w _ _)
  go_enter Try.func31, Try.ntmps31
  go_wp2_with fail
  rw [← hw0]
  refine (known_nil g _).mono ?_
  rintro e w1 ⟨rfl, hb1⟩
  obtain ⟨z0, z1, zf, zl⟩ := two_sh (HK0.out.bw hb1)
  have HK1 := Aside0.mk (HK0.out.bw hb1)
  have HB1 := Aside0.mk (HB0.out.trans hb1)
  clear hb1
  go_wp2_with fail
  refine bodyPost_ret (res_Next rfl ((HK1.out.set 0 (.int .i64 0)).set 1 (.int .i64 0))) rfl ⟨rfl, (HB1.out.setCell (Nat.le_refl _) _).setCell (Nat.le_refl _) _⟩
set_option maxHeartbeats 1000000 in
theorem Next_of (h : IsMod w base s rows k Dt Dp) (i : Nat) (hi : i < s.n) (x : Int × Int) (p : Int) (hn : ∀ W, IsMod W base s rows k Dt Dp → Calls Try.prog 63 #[.pointer (some ⟨s.mb, 0, none⟩), .int .i64 (i : Int)] W fun e w' => e = .returned (nextV x p) ∧ Bw W w') :
    Calls Try.prog 31 #[.pointer (some ⟨s.mb, 0, none⟩), .int .i64 (i : Int)] w fun e w' => e = .returned (insV x) ∧ Bw w w' := by
  obtain ⟨xk, xa⟩ := x
  dsimp only [nextV, insV] at hn
  obtain ⟨w0, hw0⟩ : ∃ w0, w0 = w.alloc (.cells #[.int .i64 0, .int .i64 0] 66) := ⟨_, rfl⟩
  have HB0 := Aside0.mk (show Bw w w0 by rw [hw0]; exact (Bw.refl w).alloc _)
  have HK0 := Aside0.mk (show Blk w0 w.heap.size #[.int .i64 0, .int .i64 0] 66 by rw [hw0]; exact Blk.new w _ _)
  have HN := Aside0.mk hn
  have H0 := Aside0.mk (h.bw HB0.out)
  have HK := Aside0.mk (fun W (hW : IsMod W base s rows k Dt Dp) => known_in hW i hi)
  clear h hn
  go_enter Try.func31, Try.ntmps31
  go_wp2_with fail
  rw [← hw0]
  refine (HK.out _ H0.out).mono ?_
  rintro e w1 ⟨rfl, hb1⟩
  have HB1 := Aside0.mk (HB0.out.trans hb1)
  have HK1 := Aside0.mk (HK0.out.bw hb1)
  have H1 := Aside0.mk (H0.out.bw hb1)
  clear hb1
  go_wp2_with fail
  refine (HN.out _ H1.out).mono ?_
  rintro e w2 ⟨rfl, hb2⟩
  have HB2 := Aside0.mk (HB1.out.trans hb2)
  have HK2 := Aside0.mk (HK1.out.bw hb2)
  obtain ⟨z0, z1, zf, zl⟩ := two_sh HK2.out
  clear hb2
  go_wp2_with fail
  refine bodyPost_ret (res_Next rfl (((HK2.out.set 0 (.int .i64 xk)).set 1 (.int .i64 xa)).alloc _)) rfl ⟨rfl, ((HB2.out.setCell (Nat.le_refl _) _).setCell (Nat.le_refl _) _).alloc _⟩
theorem asks_4 (w : World) : Calls Try.prog 80 #[.int .i64 4] w fun e w' => e = .returned (.int .i64 3) ∧ Bw w w' := by
  have HB := Aside0.mk (Bw.refl w)
  go_enter Try.func80, Try.ntmps80
  go_wp2_with fail
  go_ret
  exact ⟨rfl, HB.out⟩
theorem asks_11 (w : World) : Calls Try.prog 80 #[.int .i64 11] w fun e w' => e = .returned (.int .i64 0) ∧ Bw w w' := by
  have HB := Aside0.mk (Bw.refl w)
  go_enter Try.func80, Try.ntmps80
  go_wp2_with fail
  go_ret
  exact ⟨rfl, HB.out⟩
end
end Go.Proofs.Ytoklhhcjcecbbaa.M
