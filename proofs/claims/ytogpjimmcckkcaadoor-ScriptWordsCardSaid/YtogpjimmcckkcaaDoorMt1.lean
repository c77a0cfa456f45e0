/- Script: Word of an instruction; numbers in decimal digits. Condition: numbers below 10^18. -/
import Derived.Test.YtogpjimmcckkcaaDoorMne
import Derived.Test.YtogpjimmcckkcaaDoorShelf
import Derived.WalkSpells
namespace Go.Proofs.YtogpjimmcckkcaaDoor.M
open Go.RowKit Go.Proofs.YtogpjimmcckkcaaDoorW.PrintWords Go.Proofs.YtogpjimmcckkcaaDoorW.PrintLast Go.Proofs.YtogpjimmcckkcaaDoorW.PrintMore
set_option linter.unusedVariables false
set_option linter.unusedSimpArgs false
def argsL (k : Int) : Int := if k = 1 then 1 else 0
def argsM (k : Int) : Int := if k = 1 then 16 else if k = 2 then 4096 else if k = 5 then 65535 else 0
theorem args_calls (k : Int) (w : World) : Calls Tryd.prog 44 #[.int .i64 k] w fun e w' => e = .returned (.tuple #[.int .i64 (argsL k), .int .i64 (argsM k)]) ∧ Bw w w' := by
  have HB := Aside0.mk (Bw.refl w)
  by_cases h1 : k = 1
  · subst h1
    go_enter Tryd.func44, Tryd.ntmps44
    go_wp2_with fail
    go_ret2
    exact ⟨rfl, HB.out⟩
  · have d1 : (k == 1) = false := by simpa using h1
    by_cases h2 : k = 2
    · subst h2
      go_enter Tryd.func44, Tryd.ntmps44
      go_wp2_with fail
      go_ret2
      exact ⟨rfl, HB.out⟩
    · have d2 : (k == 2) = false := by simpa using h2
      by_cases h5 : k = 5
      · subst h5
        go_enter Tryd.func44, Tryd.ntmps44
        go_wp2_with fail
        go_ret2
        exact ⟨rfl, HB.out⟩
      · have d3 : (k == 5) = false := by simpa using h5
        have HL := Aside0.mk (show argsL k = 0 ∧ argsM k = 0 by unfold argsL argsM; rw [if_neg h1, if_neg h1, if_neg h2, if_neg h5]; exact ⟨rfl, rfl⟩)
        clear h1 h2 h5
        go_enter Tryd.func44, Tryd.ntmps44
        go_wp2_with fail
        go_ret2
        rw [HL.out.1, HL.out.2]
        exact ⟨rfl, HB.out⟩
theorem or8 (h c : Int) (h0 : 0 ≤ h) (h1 : h < 1048576) (c0 : 0 ≤ c) (c1 : c < 8) : bits .or .u64 (h * 8) c = h * 8 + c := by
  obtain ⟨a, rfl⟩ := Int.eq_ofNat_of_zero_le h0
  obtain ⟨b, rfl⟩ := Int.eq_ofNat_of_zero_le c0
  rw [u64_or _ _ (by omega) (by omega) (by omega) (by omega)]
  have := nat_join 3 (a * 8) b (by omega) (by omega)
  have e1 : ((a : Int) * 8).toNat = a * 8 := by omega
  rw [e1, Int.toNat_natCast, this]
  omega
/-- The least word of an instruction; why it has none. -/
def wordE (k a : Int) : Int := if k < 0 ∨ 6 < k then 1 else if a < argsL k ∨ argsM k < a then 5 else 0
def wordW (k a : Int) : Int := if k < 0 ∨ 6 < k then 0 else if a < argsL k ∨ argsM k < a then 0 else (a - argsL k) * 8 + k
theorem args_range (k : Int) : 0 ≤ argsL k ∧ argsL k ≤ 1 ∧ 0 ≤ argsM k ∧ argsM k ≤ 65535 := by unfold argsL argsM; (repeat' split) <;> omega

set_option maxHeartbeats 1000000 in
set_option maxRecDepth 100000 in
theorem Word_calls (k a : Int) (w : World) : Calls Tryd.prog 14 #[.agg #[.int .i64 k, .int .i64 a]] w fun e w' => e = .returned (.tuple #[.int .u64 (wordW k a), .int .i64 (wordE k a)]) ∧ Bw w w' := by
  have HB := Aside0.mk (Bw.refl w)
  have hr := args_range k
  by_cases h1 : k < 0
  · have d1 : decide (k < 0) = true := by simpa using h1
    have HL := Aside0.mk (show wordW k a = 0 ∧ wordE k a = 1 by unfold wordW wordE; rw [if_pos (.inl h1), if_pos (.inl h1)]; exact ⟨rfl, rfl⟩)
    clear h1
    go_enter Tryd.func14, Tryd.ntmps14
    go_wp2_with fail
    refine (args_calls k _).mono ?_
    rintro e w1 ⟨rfl, hb1⟩
    have B1 := (Blk.new w _ _).bw hb1
    have c0 := B1.cell 0 (.int .i64 k) rfl
    have HW1 := Aside0.mk ((HB.out.alloc _).trans hb1)
    go_wp2_with fail
    go_ret2
    rw [HL.out.1, HL.out.2]
    exact ⟨rfl, HW1.out⟩
  · have d1 : decide (k < 0) = false := by simpa using h1
    by_cases h2 : 6 < k
    · have d2 : decide (6 < k) = true := by simpa using h2
      have HL := Aside0.mk (show wordW k a = 0 ∧ wordE k a = 1 by unfold wordW wordE; rw [if_pos (.inr h2), if_pos (.inr h2)]; exact ⟨rfl, rfl⟩)
      clear h1 h2
      go_enter Tryd.func14, Tryd.ntmps14
      go_wp2_with fail
      refine (args_calls k _).mono ?_
      rintro e w1 ⟨rfl, hb1⟩
      have B1 := (Blk.new w _ _).bw hb1
      have c0 := B1.cell 0 (.int .i64 k) rfl
      have HW1 := Aside0.mk ((HB.out.alloc _).trans hb1)
      go_wp2_with fail
      go_ret2
      rw [HL.out.1, HL.out.2]
      exact ⟨rfl, HW1.out⟩
    · have d2 : decide (6 < k) = false := by simpa using h2
      by_cases h3 : a < argsL k
      · have d3 : decide (a < argsL k) = true := by simpa using h3
        have HL := Aside0.mk (show wordW k a = 0 ∧ wordE k a = 5 by unfold wordW wordE; rw [if_neg (show ¬ (k < 0 ∨ 6 < k) by omega), if_neg (show ¬ (k < 0 ∨ 6 < k) by omega), if_pos (show a < argsL k ∨ argsM k < a from .inl h3), if_pos (show a < argsL k ∨ argsM k < a from .inl h3)]; exact ⟨rfl, rfl⟩)
        clear h1 h2 h3
        go_enter Tryd.func14, Tryd.ntmps14
        go_wp2_with fail
        refine (args_calls k _).mono ?_
        rintro e w1 ⟨rfl, hb1⟩
        have B1 := (Blk.new w _ _).bw hb1
        have c0 := B1.cell 0 (.int .i64 k) rfl
        have c1 := B1.cell 1 (.int .i64 a) rfl
        have HW1 := Aside0.mk ((HB.out.alloc _).trans hb1)
        go_wp2_with fail
        go_ret2
        rw [HL.out.1, HL.out.2]
        exact ⟨rfl, HW1.out⟩
      · have d3 : decide (a < argsL k) = false := by simpa using h3
        by_cases h4 : argsM k < a
        · have d4 : decide (argsM k < a) = true := by simpa using h4
          have HL := Aside0.mk (show wordW k a = 0 ∧ wordE k a = 5 by unfold wordW wordE; rw [if_neg (show ¬ (k < 0 ∨ 6 < k) by omega), if_neg (show ¬ (k < 0 ∨ 6 < k) by omega), if_pos (show a < argsL k ∨ argsM k < a from .inr h4), if_pos (show a < argsL k ∨ argsM k < a from .inr h4)]; exact ⟨rfl, rfl⟩)
          clear h1 h2 h3 h4
          go_enter Tryd.func14, Tryd.ntmps14
          go_wp2_with fail
          refine (args_calls k _).mono ?_
          rintro e w1 ⟨rfl, hb1⟩
          have B1 := (Blk.new w _ _).bw hb1
          have c0 := B1.cell 0 (.int .i64 k) rfl
          have c1 := B1.cell 1 (.int .i64 a) rfl
          have HW1 := Aside0.mk ((HB.out.alloc _).trans hb1)
          go_wp2_with fail
          go_ret2
          rw [HL.out.1, HL.out.2]
          exact ⟨rfl, HW1.out⟩
        · have d4 : decide (argsM k < a) = false := by simpa using h4
          have hL : wordW k a = (a - argsL k) * 8 + k ∧ wordE k a = 0 := by unfold wordW wordE; rw [if_neg (show ¬ (k < 0 ∨ 6 < k) by omega), if_neg (show ¬ (k < 0 ∨ 6 < k) by omega), if_neg (show ¬ (a < argsL k ∨ argsM k < a) by omega), if_neg (show ¬ (a < argsL k ∨ argsM k < a) by omega)]; exact ⟨rfl, rfl⟩
          have HL := Aside0.mk (show wordW k a = bits .or .u64 ((a - argsL k) * 8) k ∧ wordE k a = 0 by rw [or8 _ _ (by omega) (by omega) (by omega) (by omega)]; exact hL)
          have k0 : 0 ≤ k := by omega
          have k1 : k < 7 := by omega
          have a0 : 0 ≤ a - argsL k := by omega
          have a1 : a - argsL k ≤ 65535 := by omega
          clear h1 h2 h3 h4 hL
          go_enter Tryd.func14, Tryd.ntmps14
          go_wp2_with fail
          refine (args_calls k _).mono ?_
          rintro e w1 ⟨rfl, hb1⟩
          have B1 := (Blk.new w _ _).bw hb1
          have c0 := B1.cell 0 (.int .i64 k) rfl
          have c1 := B1.cell 1 (.int .i64 a) rfl
          have HW1 := Aside0.mk ((HB.out.alloc _).trans hb1)
          go_wp2_with fail
          go_ret2
          rw [HL.out.1, HL.out.2]
          exact ⟨rfl, HW1.out⟩

abbrev strV (l : List UInt8) : Value := .string ⟨l.toArray⟩
theorem dec_small {n : Nat} (h : n < 10) : Lib.decDigits n = [UInt8.ofNat (48 + n)] := by rw [Lib.decDigits, dif_pos h]
theorem dec_big {n : Nat} (h : ¬ n < 10) : Lib.decDigits n = Lib.decDigits (n / 10) ++ [UInt8.ofNat (48 + n % 10)] := by rw [Lib.decDigits, dif_neg h]
theorem dec_len (n : Nat) : (Lib.decDigits n).length ≤ n + 1 := by
  induction n using Nat.strongRecOn with
  | _ n ih =>
    by_cases h : n < 10
    · rw [dec_small h]; simp
    · rw [dec_big h, List.length_append]
      have := ih (n / 10) (by omega)
      simp
      omega
set_option maxHeartbeats 1000000 in
theorem Number_one (n : Nat) (h : n < 10) (w : World) : Calls Tryd.prog 45 #[.int .i64 (n : Int)] w fun e w' => e = .returned (strV (Lib.decDigits n)) ∧ Bw w w' := by
  have HB := Aside0.mk (Bw.refl w)
  have HD := Aside0.mk (dec_small h)
  have d0 : decide ((n : Int) < 10) = true := by simp; omega
  go_enter Tryd.func45, Tryd.ntmps45
  go_wp2_with fail
  go_ret
  refine ⟨?_, HB.out⟩
  rw [HD.out]
  rcases n with _ | _ | _ | _ | _ | _ | _ | _ | _ | _ | n
  all_goals first | rfl | omega
set_option maxHeartbeats 1000000 in
theorem Number_more (n : Nat) (h : ¬ n < 10) (hn : n < 1000000000000000000) (w : World) (ih : ∀ W, Calls Tryd.prog 45 #[.int .i64 ((n / 10 : Nat) : Int)] W fun e w' => e = .returned (strV (Lib.decDigits (n / 10))) ∧ Bw W w') : Calls Tryd.prog 45 #[.int .i64 (n : Int)] w fun e w' => e = .returned (strV (Lib.decDigits n)) ∧ Bw w w' := by
  have HB := Aside0.mk (Bw.refl w)
  have d0 : decide ((n : Int) < 10) = false := by simp; omega
  obtain ⟨q, hq⟩ : ∃ q, q = n / 10 := ⟨_, rfl⟩
  obtain ⟨r, hr⟩ : ∃ r, r = n % 10 := ⟨_, rfl⟩
  have hr10 : r < 10 := by omega
  have e1 : (n : Int).tdiv 10 = (q : Int) := by rw [Int.tdiv_eq_ediv_of_nonneg (by omega)]; omega
  have e2 : (n : Int).tmod 10 = (r : Int) := by rw [Int.tmod_eq_emod_of_nonneg (by omega)]; omega
  have e3 : IntKind.i64.wrap ((r : Int) + 1) = (r : Int) + 1 := by rw [i64_wrap]; omega
  have e4 : IntKind.i64.wrap (q : Int) = (q : Int) := by rw [i64_wrap]; omega
  have e5 : IntKind.i64.wrap (r : Int) = (r : Int) := by rw [i64_wrap]; omega
  obtain ⟨ds, hds⟩ : ∃ ds, ds = Lib.decDigits q := ⟨_, rfl⟩
  have hlen := dec_len q
  rw [← hds] at hlen
  have HD := Aside0.mk (show Lib.decDigits n = ds ++ [UInt8.ofNat (48 + r)] by rw [dec_big h, hds, hq, hr])
  have HI := Aside0.mk (show ∀ W, Calls Tryd.prog 45 #[.int .i64 (q : Int)] W fun e w' => e = .returned (.string ⟨ds.toArray⟩) ∧ Bw W w' by rw [hds, hq]; exact ih)
  have hs := (show ({ data := #[48, 49, 50, 51, 52, 53, 54, 55, 56, 57] } : ByteArray).extract r (r + 1) = ⟨#[UInt8.ofNat (48 + r)]⟩ by
    rcases r with _ | _ | _ | _ | _ | _ | _ | _ | _ | _ | r
    all_goals first | rfl | omega)
  obtain ⟨c, hc⟩ : ∃ c, c = UInt8.ofNat (48 + r) := ⟨_, rfl⟩
  rw [← hc] at hs HD
  have hz : ¬ (9223372036854775807 < ds.length + 1) := by omega
  clear ih hq hr hds h hc
  go_enter Tryd.func45, Tryd.ntmps45
  go_wp2_with fail
  refine wp_region_bw (by kernel_rfl) (by kernel_rfl) ?_
  repeat (first | go_big_quiet_skip | (go_big_quiet_want; go_big_quiet_op; first | go_big_quiet_on | go_big_quiet_call ((with_reducible exact qcall (HI.out _)))))
  refine wpQuiet_nil ?_
  rintro w3 ⟨⟨_, hb3⟩, rfl⟩
  go_wp2_with fail
  go_ret
  refine ⟨?_, HB.out.trans hb3⟩
  rw [HD.out]
  exact congrArg (fun x => Ending.returned (Value.string x)) (ByteArray.mk_append_mk ds [c])
theorem Number_calls (n : Nat) (hn : n < 1000000000000000000) (w : World) : Calls Tryd.prog 45 #[.int .i64 (n : Int)] w fun e w' => e = .returned (strV (Lib.decDigits n)) ∧ Bw w w' := by
  induction n using Nat.strongRecOn generalizing w with
  | _ n ih =>
    by_cases h : n < 10
    · exact Number_one n h w
    · exact Number_more n h hn w fun W => ih (n / 10) (by omega) (by omega) W
end Go.Proofs.YtogpjimmcckkcaaDoor.M
