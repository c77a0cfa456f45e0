/- Script: the law package's awake; the line of an instruction, the program's and the document's. Conditions: the table of powers lies in the world. -/
import Derived.Test.YtogpjimmcckkcaaDoorMt5
namespace Go.Proofs.YtogpjimmcckkcaaDoor.M
open Go.RowKit Go.Proofs.YtogpjimmcckkcaaDoorW.PrintWords Go.Proofs.YtogpjimmcckkcaaDoorW.PrintLast Go.Proofs.YtogpjimmcckkcaaDoorW.PrintMore
set_option linter.unusedVariables false
set_option linter.unusedSimpArgs false
abbrev awL : List En := [(1, 1), (1, 1), (3, 0)]
theorem awL_text : wrL 0 awL = [115, 116, 101, 112, 32, 49, 32, 120, 32, 50, 10, 116, 105, 99, 107, 10] := by
  have h1 : Lib.decDigits 1 = [49] := dec_small (by decide)
  have h2 : Lib.decDigits 2 = [50] := dec_small (by decide)
  have e1 : lineL 1 1 2 = [115, 116, 101, 112, 32, 49, 32, 120, 32, 50, 10] := by unfold lineL; rw [h1, h2]; rfl
  have e2 : lineL 3 0 1 = [116, 105, 99, 107, 10] := by unfold lineL; rfl
  show lineL 1 1 2 ++ (lineL 3 0 1 ++ []) = _
  rw [e1, e2]
  rfl
theorem awL_right : awL.all rightE = true := by decide
theorem awL_rows (w : World) : Rows encN 2 (w.alloc (.cells #[.int .i64 1, .int .i64 1, .int .i64 1, .int .i64 1, .int .i64 3, .int .i64 0] 55)) (some ⟨w.heap.size, 0, none⟩) awL := by
  have h : (w.alloc (.cells #[.int .i64 1, .int .i64 1, .int .i64 1, .int .i64 1, .int .i64 3, .int .i64 0] 55)).ownsRow w.heap.size 55 2 (.slice (some ⟨w.heap.size, 0, none⟩) 3 3) 3 (awL.flatMap encN) := ⟨rfl, .inr ⟨_, 3, #[.int .i64 1, .int .i64 1, .int .i64 1, .int .i64 1, .int .i64 3, .int .i64 0], rfl, Nat.le_refl _, Blk.new w _ _, Nat.le_refl _, by decide, rfl, rfl⟩⟩
  obtain ⟨A, c, e, hR⟩ := Rows.own (enc := encN) (xs := awL) (fun _ => rfl) h rfl (by simp [awL])
  injection e with e1 _ _
  rw [e1]
  exact hR
set_option maxHeartbeats 1000000 in
theorem sawake_calls (w : World) (ht : Tab w) : Calls Tryd.prog 15 #[] w fun e w' => e = .returned (.bool true) ∧ Bw w w' := by
  have HB := Aside0.mk (Bw.refl w)
  have HC := Aside0.mk (Write_calls (some ⟨w.heap.size, 0, none⟩) 3 awL (w.alloc (.cells #[.int .i64 1, .int .i64 1, .int .i64 1, .int .i64 1, .int .i64 3, .int .i64 0] 55)) (ht.bw (HB.out.alloc _)) (awL_rows w) (by decide))
  rw [awL_right, if_pos rfl, if_pos rfl, awL_text] at HC
  clear ht
  go_enter Tryd.func15, Tryd.ntmps15
  go_wp2_with fail
  refine (HC.out).mono ?_
  rintro e w1 ⟨rfl, hb1⟩
  go_wp2_with fail
  go_ret
  exact ⟨rfl, (HB.out.alloc _).trans hb1⟩
/-- The words of the instructions' kinds. -/
def inW (k : Nat) : List UInt8 := if k = 0 then [101, 120, 105, 116] else if k = 1 then [99, 111, 109, 112, 117, 116, 101] else if k = 2 then [115, 112, 97, 119, 110] else if k = 3 then [121, 105, 101, 108, 100] else if k = 4 then [112, 97, 114, 107] else if k = 5 then [114, 101, 97, 100, 121] else [115, 121, 115, 99, 97, 108, 108]
set_option maxHeartbeats 1000000 in
theorem instrWord_calls (k : Nat) (hk : k < 7) (w : World) : Calls Tryd.prog 41 #[.int .i64 (k : Int)] w fun e w' => e = .returned (strV (inW k)) ∧ Bw w w' := by
  have HB := Aside0.mk (Bw.refl w)
  rcases k with _ | _ | _ | _ | _ | _ | _ | k
  all_goals first
    | (exfalso; omega)
    | (clear hk
       go_enter Tryd.func41, Tryd.ntmps41
       go_wp2_with fail
       go_ret
       exact ⟨rfl, (by repeat (first | (with_reducible first | exact HB.out) | refine Bw.alloc ?_ _ | refine Bw.setCell ?_ (by first | exact Nat.le_refl _ | (simp; omega)) _ | refine Bw.drew ?_ | refine Bw.drewN ?_ _))⟩)
def toldB (k : Int) : Bool := k == 1 || (k == 2 || k == 5)
theorem told_calls (k : Nat) (hk : k < 7) (w : World) : Calls Tryd.prog 42 #[.int .i64 (k : Int)] w fun e w' => e = .returned (.bool (toldB k)) ∧ Bw w w' := by
  have HB := Aside0.mk (Bw.refl w)
  rcases k with _ | _ | _ | _ | _ | _ | _ | k
  all_goals first
    | (exfalso; omega)
    | (clear hk
       go_enter Tryd.func42, Tryd.ntmps42
       go_wp2_with fail
       go_ret
       exact ⟨rfl, HB.out⟩)
end Go.Proofs.YtogpjimmcckkcaaDoor.M
