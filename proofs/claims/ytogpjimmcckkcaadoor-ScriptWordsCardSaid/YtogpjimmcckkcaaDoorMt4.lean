/- Script: the line of an entry, so often. Conditions: a thread that may be, no more than 65536 times. -/
import Derived.Test.YtogpjimmcckkcaaDoorMt3
namespace Go.Proofs.YtogpjimmcckkcaaDoor.M
open Go.RowKit Go.Proofs.YtogpjimmcckkcaaDoorW.PrintWords Go.Proofs.YtogpjimmcckkcaaDoorW.PrintLast Go.Proofs.YtogpjimmcckkcaaDoorW.PrintMore
set_option linter.unusedVariables false
set_option linter.unusedSimpArgs false
def lineL (k : Int) (h n : Nat) : List UInt8 := enW k ++ (if thrB k = true then 32 :: Lib.decDigits h else []) ++ (if 1 < n then [32, 120, 32] ++ Lib.decDigits n else []) ++ [10]
theorem enW_len (k : Int) : (enW k).length ≤ 6 := by unfold enW; (repeat' split) <;> simp
theorem str_two (x y : List UInt8) : (ByteArray.mk x.toArray ++ ByteArray.mk y.toArray) = ByteArray.mk (x ++ y).toArray := ByteArray.mk_append_mk x y
set_option maxHeartbeats 1000000 in
theorem line_calls (k : Int) (h n : Nat) (w : World) (ht : Tab w) (hh : h < 65536) (hn : n ≤ 65536) : Calls Tryd.prog 54 #[.agg #[.int .i64 k, .int .i64 (h : Int)], .int .i64 (n : Int)] w fun e w' => e = .returned (strV (lineL k h n)) ∧ Bw w w' := by
  have HT := Aside0.mk ht
  obtain ⟨a, ha⟩ : ∃ a, a = enW k := ⟨_, rfl⟩
  obtain ⟨d, hd⟩ : ∃ d, d = Lib.decDigits h := ⟨_, rfl⟩
  obtain ⟨m, hm⟩ : ∃ m, m = Lib.decDigits n := ⟨_, rfl⟩
  have la : a.length ≤ 6 := by rw [ha]; exact enW_len k
  have ld : d.length ≤ 65537 := by rw [hd]; have := dec_len h; omega
  have lm : m.length ≤ 65537 := by rw [hm]; have := dec_len n; omega
  have z1 : ¬ (9223372036854775807 < 1 + d.length) := by omega
  have z2 : ¬ (9223372036854775807 < a.length + (1 + d.length)) := by omega
  have z3 : ¬ (9223372036854775807 < 3 + m.length) := by omega
  have z4 : ¬ (9223372036854775807 < a.length + (3 + m.length)) := by omega
  have z5 : ¬ (9223372036854775807 < a.length + (1 + d.length) + (3 + m.length)) := by omega
  have z6 : ¬ (9223372036854775807 < a.length + 1) := by omega
  have z7 : ¬ (9223372036854775807 < a.length + (1 + d.length) + 1) := by omega
  have z8 : ¬ (9223372036854775807 < a.length + (3 + m.length) + 1) := by omega
  have z9 : ¬ (9223372036854775807 < a.length + (1 + d.length) + (3 + m.length) + 1) := by omega
  have HE := Aside0.mk (fun W => entryWord_calls k W)
  have HH := Aside0.mk (fun W => threaded_calls k W)
  have HD := Aside0.mk (fun W ht => Itoa_calls h (by omega) W ht)
  have HM := Aside0.mk (fun W ht => Itoa_calls n (by omega) W ht)
  rw [← ha] at HE
  rw [← hd] at HD
  rw [← hm] at HM
  have HL : Aside0 (lineL k h n = a ++ (if thrB k = true then 32 :: d else []) ++ (if 1 < n then [32, 120, 32] ++ m else []) ++ [10]) := ⟨by unfold lineL; rw [ha, hd, hm]⟩
  have HW0 := Aside0.mk ((Bw.refl w).alloc (.cells #[.int .i64 k, .int .i64 (h : Int)] 55))
  have HB0 := Aside0.mk (Blk.new w #[.int .i64 k, .int .i64 (h : Int)] 55)
  clear ht ha hd hm
  cases hk : thrB k
  · rw [hk] at HH HL
    have HK := Aside0.mk hk
    clear hk
    by_cases h1 : 1 < n
    · have HN1 := Aside0.mk h1
      have d1 : decide ((1 : Int) < (n : Int)) = true := decide_eq_true (by omega)
      clear h1
      go_enter Tryd.func54, Tryd.ntmps54
      go_wp2_with fail
      refine (HE.out _).mono ?_
      rintro e w1 ⟨rfl, hb1⟩
      have HB1 := Aside0.mk (HB0.out.bw hb1)
      have HW0 := Aside0.mk (HW0.out.trans hb1)
      have c0 : w1.cell? ⟨w.heap.size, 0, none⟩ = some (.int .i64 k) := HB1.out.cell 0 _ rfl
      clear hb1
      go_wp2_with fail
      refine (HH.out _).mono ?_
      rintro e w2 ⟨rfl, hb2⟩
      have HB2 := Aside0.mk (HB1.out.bw hb2)
      have HW0 := Aside0.mk (HW0.out.trans hb2)
      have c0 : w2.cell? ⟨w.heap.size, 0, none⟩ = some (.int .i64 k) := HB2.out.cell 0 _ rfl
      have c1 : w2.cell? ⟨w.heap.size, 1, none⟩ = some (.int .i64 (h : Int)) := HB2.out.cell 1 _ rfl
      clear hb2
      go_wp2_with fail
      refine (HM.out _ (HT.out.bw HW0.out)).mono ?_
      rintro e w4 ⟨rfl, hb4⟩
      have HW0 := Aside0.mk (HW0.out.trans hb4)
      clear hb4
      go_wp2_with fail
      go_ret
      refine ⟨?_, HW0.out⟩
      rw [HL.out]
      rw [if_pos HN1.out]
      apply congrArg (fun x => Ending.returned (Value.string x))
      (simp only [Bool.false_eq_true, if_false, if_true, List.append_nil, ← str_two]) <;> first | rfl | (simp only [ByteArray.append_assoc]; rfl)
    · have HN1 := Aside0.mk h1
      have d1 : decide ((1 : Int) < (n : Int)) = false := decide_eq_false (by omega)
      clear h1
      go_enter Tryd.func54, Tryd.ntmps54
      go_wp2_with fail
      refine (HE.out _).mono ?_
      rintro e w1 ⟨rfl, hb1⟩
      have HB1 := Aside0.mk (HB0.out.bw hb1)
      have HW0 := Aside0.mk (HW0.out.trans hb1)
      have c0 : w1.cell? ⟨w.heap.size, 0, none⟩ = some (.int .i64 k) := HB1.out.cell 0 _ rfl
      clear hb1
      go_wp2_with fail
      refine (HH.out _).mono ?_
      rintro e w2 ⟨rfl, hb2⟩
      have HB2 := Aside0.mk (HB1.out.bw hb2)
      have HW0 := Aside0.mk (HW0.out.trans hb2)
      have c0 : w2.cell? ⟨w.heap.size, 0, none⟩ = some (.int .i64 k) := HB2.out.cell 0 _ rfl
      have c1 : w2.cell? ⟨w.heap.size, 1, none⟩ = some (.int .i64 (h : Int)) := HB2.out.cell 1 _ rfl
      clear hb2
      go_wp2_with fail
      go_ret
      refine ⟨?_, HW0.out⟩
      rw [HL.out]
      rw [if_neg HN1.out]
      apply congrArg (fun x => Ending.returned (Value.string x))
      (simp only [Bool.false_eq_true, if_false, if_true, List.append_nil, ← str_two]) <;> first | rfl | (simp only [ByteArray.append_assoc]; rfl)
  · rw [hk] at HH HL
    have HK := Aside0.mk hk
    clear hk
    by_cases h1 : 1 < n
    · have HN1 := Aside0.mk h1
      have d1 : decide ((1 : Int) < (n : Int)) = true := decide_eq_true (by omega)
      clear h1
      go_enter Tryd.func54, Tryd.ntmps54
      go_wp2_with fail
      refine (HE.out _).mono ?_
      rintro e w1 ⟨rfl, hb1⟩
      have HB1 := Aside0.mk (HB0.out.bw hb1)
      have HW0 := Aside0.mk (HW0.out.trans hb1)
      have c0 : w1.cell? ⟨w.heap.size, 0, none⟩ = some (.int .i64 k) := HB1.out.cell 0 _ rfl
      clear hb1
      go_wp2_with fail
      refine (HH.out _).mono ?_
      rintro e w2 ⟨rfl, hb2⟩
      have HB2 := Aside0.mk (HB1.out.bw hb2)
      have HW0 := Aside0.mk (HW0.out.trans hb2)
      have c0 : w2.cell? ⟨w.heap.size, 0, none⟩ = some (.int .i64 k) := HB2.out.cell 0 _ rfl
      have c1 : w2.cell? ⟨w.heap.size, 1, none⟩ = some (.int .i64 (h : Int)) := HB2.out.cell 1 _ rfl
      clear hb2
      go_wp2_with fail
      refine (HD.out _ (HT.out.bw HW0.out)).mono ?_
      rintro e w3 ⟨rfl, hb3⟩
      have HW0 := Aside0.mk (HW0.out.trans hb3)
      clear hb3
      go_wp2_with fail
      refine (HM.out _ (HT.out.bw HW0.out)).mono ?_
      rintro e w4 ⟨rfl, hb4⟩
      have HW0 := Aside0.mk (HW0.out.trans hb4)
      clear hb4
      go_wp2_with fail
      go_ret
      refine ⟨?_, HW0.out⟩
      rw [HL.out]
      rw [if_pos HN1.out]
      apply congrArg (fun x => Ending.returned (Value.string x))
      (simp only [Bool.false_eq_true, if_false, if_true, List.append_nil, ← str_two]) <;> first | rfl | (simp only [ByteArray.append_assoc]; rfl)
    · have HN1 := Aside0.mk h1
      have d1 : decide ((1 : Int) < (n : Int)) = false := decide_eq_false (by omega)
      clear h1
      go_enter Tryd.func54, Tryd.ntmps54
      go_wp2_with fail
      refine (HE.out _).mono ?_
      rintro e w1 ⟨rfl, hb1⟩
      have HB1 := Aside0.mk (HB0.out.bw hb1)
      have HW0 := Aside0.mk (HW0.out.trans hb1)
      have c0 : w1.cell? ⟨w.heap.size, 0, none⟩ = some (.int .i64 k) := HB1.out.cell 0 _ rfl
      clear hb1
      go_wp2_with fail
      refine (HH.out _).mono ?_
      rintro e w2 ⟨rfl, hb2⟩
      have HB2 := Aside0.mk (HB1.out.bw hb2)
      have HW0 := Aside0.mk (HW0.out.trans hb2)
      have c0 : w2.cell? ⟨w.heap.size, 0, none⟩ = some (.int .i64 k) := HB2.out.cell 0 _ rfl
      have c1 : w2.cell? ⟨w.heap.size, 1, none⟩ = some (.int .i64 (h : Int)) := HB2.out.cell 1 _ rfl
      clear hb2
      go_wp2_with fail
      refine (HD.out _ (HT.out.bw HW0.out)).mono ?_
      rintro e w3 ⟨rfl, hb3⟩
      have HW0 := Aside0.mk (HW0.out.trans hb3)
      clear hb3
      go_wp2_with fail
      go_ret
      refine ⟨?_, HW0.out⟩
      rw [HL.out]
      rw [if_neg HN1.out]
      apply congrArg (fun x => Ending.returned (Value.string x))
      (simp only [Bool.false_eq_true, if_false, if_true, List.append_nil, ← str_two]) <;> first | rfl | (simp only [ByteArray.append_assoc]; rfl)
end Go.Proofs.YtogpjimmcckkcaaDoor.M
