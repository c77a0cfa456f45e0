/- Script: the line of an instruction, the program's and the document's; the law ScriptInstr, walked. Conditions: the table of powers lies in the world. -/
import Derived.Test.YtogpjimmcckkcaaDoorMt6
import Derived.Test.YtogpjimmcckkcaaDoorMr
namespace Go.Proofs.YtogpjimmcckkcaaDoor.M
open Go.RowKit Go.Proofs.YtogpjimmcckkcaaDoorW.PrintWords Go.Proofs.YtogpjimmcckkcaaDoorW.PrintLast Go.Proofs.YtogpjimmcckkcaaDoorW.PrintMore
set_option linter.unusedVariables false
set_option linter.unusedSimpArgs false
def inL (k a : Nat) : List UInt8 := inW k ++ (if toldB (k : Int) = true then 32 :: Lib.decDigits a else [])
theorem inW_len (k : Nat) : (inW k).length ≤ 7 := by unfold inW; (repeat' split) <;> simp
set_option maxHeartbeats 1000000 in
theorem Instr_bad (k a : Int) (w : World) (hb : wordE k a ≠ 0) : Calls Tryd.prog 13 #[.agg #[.int .i64 k, .int .i64 a]] w fun e w' => e = .returned (.tuple #[.string ⟨#[]⟩, .bool false]) ∧ Bw w w' := by
  have HB := Aside0.mk (Bw.refl w)
  have HW := Aside0.mk (fun W => Word_calls k a W)
  obtain ⟨x, hx⟩ : ∃ x, x = wordE k a := ⟨_, rfl⟩
  rw [← hx] at HW hb
  have d0 : (x != 0) = true := by simpa using hb
  obtain ⟨y, hy⟩ : ∃ y, y = wordW k a := ⟨_, rfl⟩
  rw [← hy] at HW
  clear hb hx hy
  go_enter Tryd.func13, Tryd.ntmps13
  go_wp2_with fail
  refine (HW.out _).mono ?_
  rintro e w1 ⟨rfl, hb1⟩
  go_wp2_with fail
  go_ret2
  exact ⟨rfl, (HB.out.alloc _).trans hb1⟩
set_option maxHeartbeats 1000000 in
theorem Instr_good (k a : Nat) (w : World) (hk : k < 7) (ha : a ≤ 65535) (hg : wordE k a = 0) (ht : Tab w) : Calls Tryd.prog 13 #[.agg #[.int .i64 (k : Int), .int .i64 (a : Int)]] w fun e w' => e = .returned (.tuple #[strV (inL k a), .bool true]) ∧ Bw w w' := by
  have HT := Aside0.mk ht
  have HW := Aside0.mk (fun W => Word_calls k a W)
  rw [hg] at HW
  obtain ⟨y, hy⟩ : ∃ y, y = wordW k a := ⟨_, rfl⟩
  rw [← hy] at HW
  have HN := Aside0.mk (fun W => instrWord_calls k hk W)
  have HO := Aside0.mk (fun W => told_calls k hk W)
  have HI := Aside0.mk (fun W ht => Itoa_calls a (by omega) W ht)
  obtain ⟨s, hs⟩ : ∃ s, s = inW k := ⟨_, rfl⟩
  obtain ⟨d, hd⟩ : ∃ d, d = Lib.decDigits a := ⟨_, rfl⟩
  have ls : s.length ≤ 7 := by rw [hs]; exact inW_len k
  have ld : d.length ≤ 65536 := by rw [hd]; have := dec_len a; omega
  rw [← hs] at HN
  rw [← hd] at HI
  have HL : Aside0 (inL k a = s ++ (if toldB (k : Int) = true then 32 :: d else [])) := ⟨by unfold inL; rw [hs, hd]⟩
  have z1 : ¬ (9223372036854775807 < 1 + d.length) := by omega
  have z2 : ¬ (9223372036854775807 < s.length + (1 + d.length)) := by omega
  have HW0 := Aside0.mk ((Bw.refl w).alloc (.cells #[.int .i64 (k : Int), .int .i64 (a : Int)] 23))
  have HB0 := Aside0.mk (Blk.new w #[.int .i64 (k : Int), .int .i64 (a : Int)] 23)
  clear hg ht hy hs hd hk ha
  cases hb : toldB (k : Int)
  · rw [hb] at HO HL
    clear hb
    go_enter Tryd.func13, Tryd.ntmps13
    go_wp2_with fail
    refine (HW.out _).mono ?_
    rintro e w1 ⟨rfl, hb1⟩
    have HB1 := Aside0.mk (HB0.out.bw hb1)
    have HW0 := Aside0.mk (HW0.out.trans hb1)
    have c0 : w1.cell? ⟨w.heap.size, 0, none⟩ = some (.int .i64 (k : Int)) := HB1.out.cell 0 _ rfl
    clear hb1
    go_wp2_with fail
    refine (HN.out _).mono ?_
    rintro e w2 ⟨rfl, hb2⟩
    have HB2 := Aside0.mk (HB1.out.bw hb2)
    have HW0 := Aside0.mk (HW0.out.trans hb2)
    have c0 : w2.cell? ⟨w.heap.size, 0, none⟩ = some (.int .i64 (k : Int)) := HB2.out.cell 0 _ rfl
    clear hb2
    go_wp2_with fail
    refine (HO.out _).mono ?_
    rintro e w3 ⟨rfl, hb3⟩
    have HW0 := Aside0.mk (HW0.out.trans hb3)
    go_wp2_with fail
    go_ret2
    refine ⟨?_, HW0.out⟩
    rw [HL.out]
    simp
  · rw [hb] at HO HL
    clear hb
    go_enter Tryd.func13, Tryd.ntmps13
    go_wp2_with fail
    refine (HW.out _).mono ?_
    rintro e w1 ⟨rfl, hb1⟩
    have HB1 := Aside0.mk (HB0.out.bw hb1)
    have HW0 := Aside0.mk (HW0.out.trans hb1)
    have c0 : w1.cell? ⟨w.heap.size, 0, none⟩ = some (.int .i64 (k : Int)) := HB1.out.cell 0 _ rfl
    clear hb1
    go_wp2_with fail
    refine (HN.out _).mono ?_
    rintro e w2 ⟨rfl, hb2⟩
    have HB2 := Aside0.mk (HB1.out.bw hb2)
    have HW0 := Aside0.mk (HW0.out.trans hb2)
    have c0 : w2.cell? ⟨w.heap.size, 0, none⟩ = some (.int .i64 (k : Int)) := HB2.out.cell 0 _ rfl
    clear hb2
    go_wp2_with fail
    refine (HO.out _).mono ?_
    rintro e w3 ⟨rfl, hb3⟩
    have HB3 := Aside0.mk (HB2.out.bw hb3)
    have HW0 := Aside0.mk (HW0.out.trans hb3)
    have c1 : w3.cell? ⟨w.heap.size, 1, none⟩ = some (.int .i64 (a : Int)) := HB3.out.cell 1 _ rfl
    clear hb3
    go_wp2_with fail
    refine (HI.out _ (HT.out.bw HW0.out)).mono ?_
    rintro e w4 ⟨rfl, hb4⟩
    have HW0 := Aside0.mk (HW0.out.trans hb4)
    clear hb4
    go_wp2_with fail
    go_ret2
    refine ⟨?_, HW0.out⟩
    rw [HL.out]
    apply congrArg (fun x => Ending.returned (Value.tuple #[Value.string x, .bool true]))
    simp only [if_true, ← str_two]
    rfl
set_option maxHeartbeats 1000000 in
theorem refInstr_calls (k a : Nat) (w : World) (hk : k < 7) (ha : a ≤ 65535) : Calls Tryd.prog 16 #[.agg #[.int .i64 (k : Int), .int .i64 (a : Int)]] w fun e w' => e = .returned (strV (inL k a)) ∧ Bw w w' := by
  have HB := Aside0.mk (Bw.refl w)
  have HI := Aside0.mk (fun W => Number_calls a (by omega) W)
  obtain ⟨d, hd⟩ : ∃ d, d = Lib.decDigits a := ⟨_, rfl⟩
  have ld : d.length ≤ 65536 := by rw [hd]; have := dec_len a; omega
  rw [← hd] at HI
  have z1 : ¬ (9223372036854775807 < 8 + d.length) := by omega
  have z2 : ¬ (9223372036854775807 < 6 + d.length) := by omega
  have HL : Aside0 (inL k a = inW k ++ (if toldB (k : Int) = true then 32 :: d else [])) := ⟨by unfold inL; rw [hd]⟩
  have HW0 := Aside0.mk ((Bw.refl w).alloc (.cells #[.int .i64 (k : Int), .int .i64 (a : Int)] 23))
  clear hd ha
  rcases k with _ | _ | _ | _ | _ | _ | _ | k
  all_goals first
    | (exfalso; omega)
    | clear hk
  all_goals go_enter Tryd.func16, Tryd.ntmps16
  all_goals go_wp2_with fail
  all_goals first
    | (refine (HI.out _).mono ?_
       rintro e w1 ⟨rfl, hb1⟩
       have HB1 := Aside0.mk hb1
       clear hb1
       go_wp2_with fail
       go_ret
       refine ⟨?_, Bw.trans ?_ HB1.out⟩
       · rw [HL.out]
         apply congrArg (fun x => Ending.returned (Value.string x))
         simp only [← str_two]
         rfl
       · exact (by repeat (first | (with_reducible first | exact HB.out) | refine Bw.alloc ?_ _ | refine Bw.setCell ?_ (by first | exact Nat.le_refl _ | (simp; omega)) _ | refine Bw.drew ?_ | refine Bw.drewN ?_ _)))
    | (go_ret
       exact ⟨rfl, (by repeat (first | (with_reducible first | exact HB.out) | refine Bw.alloc ?_ _ | refine Bw.setCell ?_ (by first | exact Nat.le_refl _ | (simp; omega)) _ | refine Bw.drew ?_ | refine Bw.drewN ?_ _))⟩)
set_option maxHeartbeats 1000000 in
theorem ScriptInstr_bad (k a : Int) (w : World) (hb : wordE k a ≠ 0) (ht : Tab w) : Calls Tryd.prog 3 #[.agg #[.int .i64 k, .int .i64 a]] w fun e w' => e = .returned (.bool true) ∧ Bw w w' := by
  have HT := Aside0.mk ht
  have HI := Aside0.mk (fun W => Instr_bad k a W hb)
  have HW := Aside0.mk (fun W => Word_calls k a W)
  obtain ⟨x, hx⟩ : ∃ x, x = wordE k a := ⟨_, rfl⟩
  obtain ⟨y, hy⟩ : ∃ y, y = wordW k a := ⟨_, rfl⟩
  rw [← hx, ← hy] at HW
  rw [← hx] at hb
  have d0 : (x != 0) = true := by simpa using hb
  have HW0 := Aside0.mk ((Bw.refl w).alloc (.cells #[.int .i64 k, .int .i64 a] 23))
  have HB0 := Aside0.mk (Blk.new w #[.int .i64 k, .int .i64 a] 23)
  clear hx hy hb ht
  obtain ⟨b1, hb1⟩ : ∃ b1, decide (k < 0) = b1 := ⟨_, rfl⟩
  obtain ⟨b2, hb2⟩ : ∃ b2, decide (6 < k) = b2 := ⟨_, rfl⟩
  cases b1 <;> cases b2
  all_goals
    go_enter Tryd.func3, Tryd.ntmps3
    go_wp2_with fail
    refine (HI.out _).mono ?_
    rintro e w1 ⟨rfl, hb1⟩
    have HB1 := Aside0.mk (HB0.out.bw hb1)
    have HW1 := Aside0.mk (HW0.out.trans hb1)
    have c0 : w1.cell? ⟨w.heap.size, 0, none⟩ = some (.int .i64 k) := HB1.out.cell 0 _ rfl
    have c1 : w1.cell? ⟨w.heap.size, 1, none⟩ = some (.int .i64 a) := HB1.out.cell 1 _ rfl
    have hlt := HB1.out.lt
    clear hb1
    go_wp2_with fail
    refine (HW.out _).mono ?_
    rintro e w2 ⟨rfl, hb2⟩
    have HB2 := Aside0.mk (HB1.out.bw hb2)
    have HW2 := Aside0.mk (HW1.out.trans hb2)
    have c0 : w2.cell? ⟨w.heap.size, 0, none⟩ = some (.int .i64 k) := HB2.out.cell 0 _ rfl
    have hlt := HB2.out.lt
    clear hb2 c1
    go_wp2_with fail
    refine (sawake_calls _ (HT.out.bw HW2.out)).mono ?_
    rintro e w3 ⟨rfl, hb3⟩
    have HW3 := Aside0.mk (HW2.out.trans hb3)
    clear hb3
    go_wp2_with fail
    go_ret
    exact ⟨rfl, HW3.out⟩
set_option maxHeartbeats 1000000 in
theorem ScriptInstr_good (k a : Nat) (w : World) (hk : k < 7) (ha : a ≤ 65535) (hg : wordE k a = 0) (ht : Tab w) : Calls Tryd.prog 3 #[.agg #[.int .i64 (k : Int), .int .i64 (a : Int)]] w fun e w' => e = .returned (.bool true) ∧ Bw w w' := by
  have HT := Aside0.mk ht
  have HI := Aside0.mk (fun W ht => Instr_good k a W hk ha hg ht)
  have HR := Aside0.mk (fun W => refInstr_calls k a W hk ha)
  have HW := Aside0.mk (fun W => Word_calls k a W)
  rw [hg] at HW
  obtain ⟨y, hy⟩ : ∃ y, y = wordW k a := ⟨_, rfl⟩
  rw [← hy] at HW
  obtain ⟨s, hs⟩ : ∃ s, s = inL k a := ⟨_, rfl⟩
  rw [← hs] at HI HR
  have d1 : decide ((k : Int) < 0) = false := decide_eq_false (by omega)
  have d2 : decide ((6 : Int) < (k : Int)) = false := decide_eq_false (by omega)
  have HW0 := Aside0.mk ((Bw.refl w).alloc (.cells #[.int .i64 (k : Int), .int .i64 (a : Int)] 23))
  have HB0 := Aside0.mk (Blk.new w #[.int .i64 (k : Int), .int .i64 (a : Int)] 23)
  clear hy hs hg ha hk ht
  go_enter Tryd.func3, Tryd.ntmps3
  go_wp2_with fail
  refine (HI.out _ (HT.out.bw HW0.out)).mono ?_
  rintro e w1 ⟨rfl, hb1⟩
  have HB1 := Aside0.mk (HB0.out.bw hb1)
  have HW0 := Aside0.mk (HW0.out.trans hb1)
  have c0 : w1.cell? ⟨w.heap.size, 0, none⟩ = some (.int .i64 (k : Int)) := HB1.out.cell 0 _ rfl
  have c1 : w1.cell? ⟨w.heap.size, 1, none⟩ = some (.int .i64 (a : Int)) := HB1.out.cell 1 _ rfl
  have hlt := HB1.out.lt
  clear hb1
  go_wp2_with fail
  refine (HW.out _).mono ?_
  rintro e w2 ⟨rfl, hb2⟩
  have HB2 := Aside0.mk (HB1.out.bw hb2)
  have HW0 := Aside0.mk (HW0.out.trans hb2)
  have c0 : w2.cell? ⟨w.heap.size, 0, none⟩ = some (.int .i64 (k : Int)) := HB2.out.cell 0 _ rfl
  have hlt := HB2.out.lt
  clear hb2 c1
  go_wp2_with fail
  refine (sawake_calls _ (HT.out.bw HW0.out)).mono ?_
  rintro e w3 ⟨rfl, hb3⟩
  have HB3 := Aside0.mk (HB2.out.bw hb3)
  have HW0 := Aside0.mk (HW0.out.trans hb3)
  have c0 : w3.cell? ⟨w.heap.size, 0, none⟩ = some (.int .i64 (k : Int)) := HB3.out.cell 0 _ rfl
  have c1 : w3.cell? ⟨w.heap.size, 1, none⟩ = some (.int .i64 (a : Int)) := HB3.out.cell 1 _ rfl
  have hlt := HB3.out.lt
  clear hb3
  go_wp2_with fail
  refine (HR.out _).mono ?_
  rintro e w4 ⟨rfl, hb4⟩
  have HW0 := Aside0.mk (HW0.out.trans hb4)
  go_wp2_with fail
  go_ret
  exact ⟨by simp, HW0.out⟩
theorem ScriptInstr_walk (w : World) (ht : Tab w) (cs : List Value) (f : Fits [.int .i64, .int .i64] cs) : Calls Tryd.prog 3 #[.agg cs.toArray] w fun e w' => e = .returned (.bool true) ∧ Bw w w' := by
  obtain ⟨k, _, rfl, _, h1⟩ := f.int
  obtain ⟨a, _, rfl, _, h2⟩ := h1.int
  obtain rfl := h2.nil
  by_cases hb : wordE k a = 0
  · have h := hb
    unfold wordE at h
    have hk : ¬ (k < 0 ∨ 6 < k) := fun q => by rw [if_pos q] at h; omega
    rw [if_neg hk] at h
    have ha : ¬ (a < argsL k ∨ argsM k < a) := fun q => by rw [if_pos q] at h; omega
    have hr := args_range k
    obtain ⟨k, rfl⟩ := Int.eq_ofNat_of_zero_le (show 0 ≤ k by omega)
    obtain ⟨a, rfl⟩ := Int.eq_ofNat_of_zero_le (show 0 ≤ a by omega)
    exact ScriptInstr_good k a w (by omega) (by omega) hb ht
  · exact ScriptInstr_bad k a w hb ht
end Go.Proofs.YtogpjimmcckkcaaDoor.M
