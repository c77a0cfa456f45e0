/- The laws CodeInstr and CodeMost, walked: they answer true. Conditions: the arguments are of their kinds. -/
import Derived.Test.YtkmfbafgbaapiaaMdl
import Derived.Test.YtkmfbafgbaapiaaMr
namespace Go.Proofs.Ytkmfbafgbaapiaa.M
open Go.RowKit Go.Proofs.YtkmfbafgbaapiaaW.PrintWords Go.Proofs.YtkmfbafgbaapiaaW.PrintLast Go.Proofs.YtkmfbafgbaapiaaW.PrintMore
attribute [local go_sem ↓] eqInstr
attribute [local go_sem] max2_int max_two
set_option linter.unusedVariables false
set_option linter.unusedSimpArgs false

theorem ins_prt (x p : Int) (h : prt x = true) : ins x p = (0, 0) := by
  unfold prt top48 at h
  simp at h
  unfold ins top48
  rw [if_neg (by omega), if_pos h.2]
theorem insR_not (x p : Int) (h : prt x = false) : insR x p = ins x p := by unfold insR; rw [h]; rfl
theorem ins_spawn (x p : Int) (h0 : 0 ≤ x) (h : (ins x p).1 = 2) : 0 ≤ (ins x p).2 ∧ (ins x p).2 < atl1 p := by
  have hp1 : 1 ≤ atl1 p := by unfold atl1; split <;> omega
  have : 0 ≤ x / 8 % atl1 p ∧ x / 8 % atl1 p < atl1 p := ⟨Int.emod_nonneg _ (by omega), Int.emod_lt_of_pos _ (by omega)⟩
  unfold ins top48 at h ⊢
  by_cases h1 : 281474976710656 ≤ x
  · rw [if_pos h1] at h; simp at h
  · rw [if_neg h1] at h ⊢
    by_cases h2 : x % 8 = 7
    · rw [if_pos h2] at h; simp at h
    · rw [if_neg h2] at h ⊢
      by_cases h3 : x % 8 = 1
      · rw [if_pos h3] at h; simp at h
      · rw [if_neg h3] at h ⊢
        by_cases h4 : x % 8 = 2
        · rw [if_pos h4]; exact this
        · rw [if_neg h4] at h ⊢
          by_cases h5 : x % 8 = 5
          · rw [if_pos h5] at h; simp at h
          · rw [if_neg h5] at h
            exact absurd h h4

theorem refInstr_at {x n : Int} {y : Int × Int} (he : insR x n = y) (h0 : 0 ≤ x) (h1 : x < 18446744073709551616) (hp : n < 9223372036854775808) (w : World) :
    Calls Try.prog 45 #[.int .u64 x, .int .i64 n] w fun e w' => e = .returned (.agg #[.int .i64 y.1, .int .i64 y.2]) ∧ Bw w w' := he ▸ refInstr_calls x n h0 h1 hp w
set_option maxHeartbeats 1000000 in
set_option maxRecDepth 100000 in
theorem CodeInstr_walk (x : Int) (wx : (Lit.int .u64 x).wf = true) (n : Int) (wn : (Lit.int .i64 n).wf = true) (w : World) :
    Calls Try.prog 13 #[.int .u64 x, .int .i64 n] w fun e w' => e = .returned (.bool true) ∧ Bw w w' := by
  have HB := Aside0.mk (Bw.refl w)
  obtain ⟨h0, h1⟩ := wf_u64 wx
  have hn := (wf_i64 wn).2
  clear wx wn
  cases hp : prt x
  · have HR := Aside0.mk (insR_not x n hp)
    have HP := Aside0.mk hp
    have HS := Aside0.mk (ins_spawn x n h0)
    clear hp
    go_enter Try.func13, Try.ntmps13
    go_wp2_with fail
    refine (Instr_calls x n h0 h1 hn _).mono ?_
    rintro e w1 ⟨rfl, hb1⟩
    rw [HP.out]
    obtain ⟨⟨k, a⟩, hka⟩ : ∃ y, y = ins x n := ⟨_, rfl⟩
    rw [← hka] at HR HS ⊢
    clear hka
    have HW1 := Aside0.mk ((HB.out.trans hb1).alloc (.cells #[.int .i64 k, .int .i64 a] 71))
    have B1 := Blk.new w1 #[.int .i64 k, .int .i64 a] 71
    go_wp2_with fail
    refine (Parts_calls x h0 h1 _).mono ?_
    rintro e w2 ⟨rfl, hb2⟩
    rw [HP.out]
    have B2 := B1.bw hb2
    have HW2 := Aside0.mk (HW1.out.trans hb2)
    have c0 : ∀ p : BwW w2, p.W.cell? ⟨w1.heap.size, 0, none⟩ = some (.int .i64 k) := fun p => p.cell (B2.cell 0 _ rfl)
    have c1 : ∀ p : BwW w2, p.W.cell? ⟨w1.heap.size, 1, none⟩ = some (.int .i64 a) := fun p => p.cell (B2.cell 1 _ rfl)
    go_wp2_with fail
    by_cases hk : k = 2
    · subst hk
      obtain ⟨s0, s1⟩ := HS.out rfl
      have d0 : decide (0 ≤ a) = true := by simpa using s0
      have HD := Aside0.mk (show decide (a < if n < 1 then 1 else n) = true by simpa [atl1] using s1)
      clear s0 s1
      refine wp_region_bw (by kernel_rfl) (by kernel_rfl) ?_
      repeat (first | go_big_quiet_skip | (go_big_quiet_want; go_big_quiet_op; first | go_big_quiet_on | go_big_quiet_call (first | (go_at_call 44; exact qcall (dawake_calls _)) | (go_at_call 45; exact qcall (refInstr_at HR.out h0 h1 hn _)))))
      refine wpQuiet_nil ?_
      rintro w3 ⟨⟨_, hb3⟩, rfl⟩
      rw [HD.out]
      go_wp2_with fail
      all_goals (go_ret; exact ⟨rfl, HW2.out.trans hb3⟩)
    · have d0 : (k == 2) = false := by simpa using hk
      have d1 : (k != 2) = true := by simpa using hk
      clear hk
      refine wp_region_bw (by kernel_rfl) (by kernel_rfl) ?_
      repeat (first | go_big_quiet_skip | (go_big_quiet_want; go_big_quiet_op; first | go_big_quiet_on | go_big_quiet_call (first | (go_at_call 44; exact qcall (dawake_calls _)) | (go_at_call 45; exact qcall (refInstr_at HR.out h0 h1 hn _)))))
      refine wpQuiet_nil ?_
      rintro w3 ⟨⟨_, hb3⟩, rfl⟩
      go_wp2_with fail
      go_ret
      exact ⟨rfl, HW2.out.trans hb3⟩
  · have HP := Aside0.mk hp
    have HI := Aside0.mk (ins_prt x n hp)
    clear hp
    go_enter Try.func13, Try.ntmps13
    go_wp2_with fail
    refine (Instr_calls x n h0 h1 hn _).mono ?_
    rintro e w1 ⟨rfl, hb1⟩
    rw [HP.out, HI.out]
    have HW1 := Aside0.mk ((HB.out.trans hb1).alloc (.cells #[.int .i64 0, .int .i64 0] 71))
    have B1 := Blk.new w1 #[.int .i64 0, .int .i64 0] 71
    go_wp2_with fail
    refine (Parts_calls x h0 h1 _).mono ?_
    rintro e w2 ⟨rfl, hb2⟩
    rw [HP.out]
    have B2 := B1.bw hb2
    have HW2 := Aside0.mk (HW1.out.trans hb2)
    go_wp2_with fail
    refine (dawake_calls _).mono ?_
    rintro e w3 ⟨rfl, hb3⟩
    have B3 := B2.bw hb3
    have c0 := B3.cell 0 (.int .i64 0) rfl
    have c1 := B3.cell 1 (.int .i64 0) rfl
    go_wp2_with fail
    go_ret
    exact ⟨rfl, HW2.out.trans hb3⟩

theorem runW_rep (n : Nat) (x : Int) (h : prt x = false) : runW (List.replicate n x) = ([], List.replicate n x) := by
  induction n with
  | zero => rfl
  | succ n ih =>
    rw [List.replicate_succ', runW_snoc, ih, stepW, if_neg (by simp [h])]
theorem progs_rep (n : Nat) (xs : List Int) (x : Int) (h : prt x = false) (ht : xs.take 4096 = List.replicate n x) : progsOf xs = [List.replicate n (ins x 1)] := by
  unfold progsOf pieces
  rw [ht, runW_rep n x h]
  simp

theorem long_gen (N : Nat) (y : Int × Int) : longOf [List.replicate N y] 0 = N := by
  unfold longOf
  rw [if_neg (by omega)]
  simp
theorem at_gen (N i : Nat) (y : Int × Int) : atOf [List.replicate N y] 0 i = if i < N then y else (0, 0) := by
  unfold atOf
  rw [if_neg (by omega), if_neg (by omega), List.getD_eq_getElem?_getD]
  simp [List.getElem?_replicate]
  split <;> rfl
theorem long_rep : ((longOf [List.replicate 4096 (3, 0)] 0 : Nat) : Int) = 4096 := by rw [long_gen]; rfl
theorem at_rep1 : insV (atOf [List.replicate 4096 (3, 0)] 0 4095) = .agg #[.int .i64 3, .int .i64 0] := by
  rw [show (4095 : Int) = ((4095 : Nat) : Int) from rfl, at_gen, if_pos (by omega)]
  rfl
theorem at_rep2 : insV (atOf [List.replicate 4096 (3, 0)] 0 4096) = .agg #[.int .i64 0, .int .i64 0] := by
  rw [show (4096 : Int) = ((4096 : Nat) : Int) from rfl, at_gen, if_neg (by omega)]
  rfl
theorem rep_flat (k : Nat) : (List.replicate k (3 : Int)).flatMap encU = List.replicate k (.int .u64 3) := by
  induction k with
  | zero => rfl
  | succ k ih => rw [List.replicate_succ, List.flatMap_cons, ih]; rfl
theorem set_flat (k j : Nat) (x : Int) : ((List.replicate k (3 : Int)).set j x).flatMap encU = (List.replicate k (Value.int .u64 3)).set j (.int .u64 x) := by
  have : ∀ (xs : List Int) (j : Nat), (xs.set j x).flatMap encU = (xs.flatMap encU).set j (.int .u64 x) := by
    intro xs
    induction xs with
    | nil => intro j; rfl
    | cons y ys ih =>
      intro j
      cases j with
      | zero => rfl
      | succ j => rw [List.set_cons_succ, List.flatMap_cons, ih, List.flatMap_cons]; rfl
  rw [this, rep_flat]
set_option maxHeartbeats 1000000 in
set_option maxRecDepth 100000 in
theorem CodeMost_walk (m : Int) (wm : (Lit.int .u8 m).wf = true) (x : Int) (wx : (Lit.int .u64 x).wf = true) (w : World) :
    Calls Try.prog 14 #[.int .u8 m, .int .u64 x] w fun e w' => e = .returned (.bool true) ∧ Bw w w' := by
  have HB := Aside0.mk (Bw.refl w)
  obtain ⟨h0, h1⟩ := wf_u64 wx
  obtain ⟨m0, m1⟩ := wf_u8 wm
  obtain ⟨n, rfl⟩ := Int.eq_ofNat_of_zero_le m0
  have hfd := fieldInstr0
  clear wm wx
  go_enter Try.func14, Try.ntmps14
  go_wp2_with fail
  go_loopw [5, 6] (fun v i wr => ∃ k : Nat, k ≤ 4096 + n ∧ i = .int .i64 k ∧ Aside0 (wr.ownsRow w.heap.size 22 1 v k ((List.replicate k (3 : Int)).flatMap encU)) ∧ Aside0 (Bw w wr)) (fun _ i _ => 4096 + n - (intOf i).toNat)
  case atStart => exact ⟨0, by omega, rfl, ⟨by simpa using own_nil w _ _ _⟩, HB⟩
  case round =>
    obtain ⟨k, hk, rfl, HO, HW⟩ := hrel
    by_cases hlt : k < 4096 + n
    · go_wp2_with (at_builtin; go_loud (refine print_append_cells (w0 := w) w.heap.size rfl (.tmp 15) (.tmp 16) 35 22 (.int .u64 0) 1 8 rfl Try.underlying35 infoU64 rfl (by omega) (by omega) u5 k _ [.int .u64 3] rfl rfl rfl (by simp [Value.oneCell']) HO.out HW.out HW.out.size (by omega) ?_); intro v1 w2 hown2 hbel2 hg2 hat2)
      have HO2 := Aside0.mk hown2
      clear hown2 hg2 hat2
      go_roundw
      case rel =>
        refine ⟨k + 1, by omega, by go_num, ⟨?_⟩, ⟨hbel2⟩⟩
        rw [List.replicate_succ', List.flatMap_append]
        exact HO2.out
      case measure => simp [intOf]; omega
    · obtain rfl : k = 4096 + n := by omega
      obtain ⟨g, cap, rfl, hg1, hg2⟩ := HO.out.form (by omega)
      have hcap := own_cap HO.out
      suffices hfin : ∀ (W : World) (xs : List Int), Bw w W → W.ownsRow w.heap.size 22 1 (.slice (some ⟨g, 0, none⟩) (4096 + n) cap) (4096 + n) (xs.flatMap encU) → xs.length = 4096 + n → (∀ y ∈ xs, 0 ≤ y ∧ y < 18446744073709551616) → xs.take 4096 = List.replicate 4096 3 → Calls Try.prog 46 #[.slice (some ⟨g, 0, none⟩) (4096 + n) cap] W fun e w' => ∃ b v us, e = .returned (.pointer (some ⟨b, 0, none⟩)) ∧ IsCode w' W.heap.size b v us [List.replicate 4096 (3, 0)] ∧ Bw W w' from by
        rcases Nat.eq_zero_or_pos n with hn | hn
        · subst hn
          go_wp2_with fail
          refine (hfin wr _ HW.out HO.out (by simp) (by intro y hy; have := List.eq_of_mem_replicate hy; subst this; omega) (by rw [List.take_replicate]; congr 1)).mono ?_
          rintro e w2 ⟨b, v, us, rfl, hc, hb2⟩
          have HC2 := Aside0.mk hc
          have HW2 := Aside0.mk (HW.out.trans hb2)
          clear hc hb2
          go_wp2_with fail
          refine (dawake_calls _).mono ?_
          rintro e w3 ⟨rfl, hb3⟩
          have HC3 := Aside0.mk (HC2.out.bw hb3)
          go_wp2_with fail
          refine (Len_calls HC3.out).mono ?_
          rintro e w4 ⟨rfl, hb4⟩
          rw [show ((([List.replicate 4096 (3, 0)] : List (List (Int × Int))).length : Nat) : Int) = 1 from rfl]
          have HC4 := Aside0.mk (HC3.out.bw hb4)
          go_wp2_with fail
          refine (Long_calls 0 HC4.out).mono ?_
          rintro e w5 ⟨rfl, hb5⟩
          rw [long_rep]
          have HC5 := Aside0.mk (HC4.out.bw hb5)
          go_wp2_with fail
          refine (At_calls 0 4095 HC5.out).mono ?_
          rintro e w6 ⟨rfl, hb6⟩
          rw [at_rep1]
          have HC6 := Aside0.mk (HC5.out.bw hb6)
          go_wp2_with fail
          refine (At_calls 0 4096 HC6.out).mono ?_
          rintro e w7 ⟨rfl, hb7⟩
          rw [at_rep2]
          go_wp2_with fail
          go_ret
          exact ⟨rfl, (((((HW2.out.trans hb3).trans hb4).trans hb5).trans hb6).trans hb7)⟩
        · have d2 : decide (0 < n) = true := by simpa using hn
          have fr := own_free HO.out 4096
          have cc := own_cell HO.out 4096 (.int .u64 3) (by rw [rep_flat]; rw [List.getElem?_replicate]; rw [if_pos (by omega)])
          have cc1 := cc.1
          have hgl : g < wr.heap.size := hg2
          have hO2 := own_set1 HO.out 4096 (.int .u64 x) (by omega)
          rw [rep_flat, ← set_flat] at hO2
          have HO2 := Aside0.mk hO2
          have HF := Aside0.mk hfin
          have hbd : (4096 : Nat) < 4096 + n := by omega
          clear hO2 hfin cc
          go_wp2_with fail
          refine (HF.out (wr.setCell ⟨g, 4096, none⟩ (.int .u64 x)) _ (HW.out.setCell hg1 _) HO2.out (by simp) ?_ ?_).mono ?_
          · intro y hy
            rcases List.mem_or_eq_of_mem_set hy with hy | rfl
            · have := List.eq_of_mem_replicate hy; subst this; omega
            · exact ⟨h0, h1⟩
          · rw [List.take_set_of_le (by omega), List.take_replicate]
            congr 1
            omega
          rintro e w2 ⟨b, v, us, rfl, hc, hb2⟩
          have HC2 := Aside0.mk hc
          have HW2 := Aside0.mk ((HW.out.setCell (p := ⟨g, 4096, none⟩) hg1 (.int .u64 x)).trans hb2)
          clear hc hb2
          go_wp2_with fail
          refine (dawake_calls _).mono ?_
          rintro e w3 ⟨rfl, hb3⟩
          have HC3 := Aside0.mk (HC2.out.bw hb3)
          go_wp2_with fail
          refine (Len_calls HC3.out).mono ?_
          rintro e w4 ⟨rfl, hb4⟩
          rw [show ((([List.replicate 4096 (3, 0)] : List (List (Int × Int))).length : Nat) : Int) = 1 from rfl]
          have HC4 := Aside0.mk (HC3.out.bw hb4)
          go_wp2_with fail
          refine (Long_calls 0 HC4.out).mono ?_
          rintro e w5 ⟨rfl, hb5⟩
          rw [long_rep]
          have HC5 := Aside0.mk (HC4.out.bw hb5)
          go_wp2_with fail
          refine (At_calls 0 4095 HC5.out).mono ?_
          rintro e w6 ⟨rfl, hb6⟩
          rw [at_rep1]
          have HC6 := Aside0.mk (HC5.out.bw hb6)
          go_wp2_with fail
          refine (At_calls 0 4096 HC6.out).mono ?_
          rintro e w7 ⟨rfl, hb7⟩
          rw [at_rep2]
          go_wp2_with fail
          go_ret
          exact ⟨rfl, (((((HW2.out.trans hb3).trans hb4).trans hb5).trans hb6).trans hb7)⟩
      intro W xs hb ho hl hr ht
      obtain ⟨A, c, he, hrow⟩ := Rows.own (enc := encU) (fun _ => rfl) ho hl (by omega)
      injection he with e1 e2 e3
      subst e1
      subst e3
      rw [← hl]
      have hp := progs_rep 4096 xs 3 rfl ht
      rw [show ins 3 1 = (3, 0) from rfl] at hp
      have := Read_calls (some ⟨g, 0, none⟩) cap xs W hrow (by omega) hr
      rw [hp] at this
      exact this
end Go.Proofs.Ytkmfbafgbaapiaa.M
