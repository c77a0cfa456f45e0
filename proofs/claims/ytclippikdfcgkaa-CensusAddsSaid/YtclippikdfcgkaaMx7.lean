/- The document's greatest count, and what Total and Live of package census tell. Conditions: no more than a thousand events. -/
import Derived.Test.YtclippikdfcgkaaMx6
namespace Go.Proofs.Ytclippikdfcgkaa.M
open Go.RowKit Go.Proofs.YtclippikdfcgkaaW.PrintWords Go.Proofs.YtclippikdfcgkaaW.PrintLast Go.Proofs.YtclippikdfcgkaaW.PrintMore
attribute [local go_sem] max2_int max_two
set_option linter.unusedVariables false
set_option linter.unusedSimpArgs false
theorem Rows.takeE {α : Type} {enc : α → List Value} {sz : Nat} {w : World} {A : Option Addr} {xs : List α} (h : Rows enc sz w A xs) (m : Nat) : Rows enc sz w A (xs.take m) :=
  ⟨by have := h.1; rw [List.length_take]; omega, fun hn => by
    obtain ⟨ad, e, hc⟩ := h.2 (by rintro rfl; simp at hn)
    refine ⟨ad, e, fun j x hj i v hv => hc j x ?_ i v hv⟩
    rw [List.getElem?_take] at hj
    split at hj
    · exact hj
    · simp at hj⟩
def mostTo (es : List Ev) : Nat → Int
  | 0 => 0
  | n + 1 => maxI (mostTo es n) (cNow (es.take n))
theorem mostTo_fold (es : List Ev) : ∀ n, mostTo es n = (List.range n).foldl (fun m n => maxI m (cNow (es.take n))) 0
  | 0 => rfl
  | n + 1 => by rw [List.range_succ, List.foldl_append]; simp only [mostTo, List.foldl_cons, List.foldl_nil, mostTo_fold es n]
theorem mostTo_all (es : List Ev) : mostTo es (es.length + 1) = cMost es := mostTo_fold es _
theorem mostTo_range (es : List Ev) (hl : es.length ≤ 1000) : ∀ n, 0 ≤ mostTo es n ∧ mostTo es n ≤ 2000
  | 0 => by simp [mostTo]
  | n + 1 => by
    have h1 := mostTo_range es hl n
    have h2 := cNow_range (es.take n)
    rw [List.length_take] at h2
    simp only [mostTo, maxI]
    split <;> omega
theorem refNow_take (ad : Addr) (cap : Nat) (es : List Ev) (k : Nat) (x : Int) (w : World) (hx : Rows encV 5 w (some ad) es) (hl : es.length ≤ 1000) (hk : k ≤ es.length) (he : cNow (es.take k) = x) :
    Calls Try.prog 89 #[.slice (some ad) k cap] w fun e w' => e = .returned (.int .i64 x) ∧ Bw w w' := by
  have h := refNow_calls (some ad) cap (es.take k) w (hx.takeE k) (by rw [List.length_take]; omega)
  rw [he, List.length_take, Nat.min_eq_left hk] at h
  exact h
set_option maxHeartbeats 2000000 in
theorem refMost_calls (A : Option Addr) (cap : Nat) (es : List Ev) (w : World) (hx : Rows encV 5 w A es) (hl : es.length ≤ 1000) (hcap : es.length ≤ cap) (hcm : cap ≤ 9223372036854775807) (hz : A = none → es = [] ∧ cap = 0) :
    Calls Try.prog 88 #[.slice A es.length cap] w fun e w' => e = .returned (.int .i64 (cMost es)) ∧ Bw w w' := by
  have HB := Aside0.mk (Bw.refl w)
  have HX := Aside0.mk hx
  clear hx
  rcases A with _ | ad
  · obtain ⟨rfl, rfl⟩ := hz rfl
    have HM := Aside0.mk (show cMost [] = 0 from rfl)
    go_enter Try.func88, Try.ntmps88
    go_wp2
    go_loopw [3, 4] (fun nv iv wr => ∃ k : Nat, k ≤ 1 ∧ iv = .int .i64 k ∧ nv = .int .i64 0 ∧ Aside0 (Bw w wr)) (fun _ iv _ => 1 - (intOf iv).toNat)
    case atStart => exact ⟨0, by omega, rfl, rfl, HB⟩
    case round =>
      obtain ⟨k, hk, rfl, rfl, HW⟩ := hrel
      by_cases hlt : k = 0
      · subst hlt
        go_wp2_with fail
        refine (refNow_calls none 0 [] _ (HX.out.bw HW.out) (by simp)).mono ?_
        rintro e w1 ⟨rfl, hb1⟩
        rw [show cNow [] = 0 from rfl]
        have HW := Aside0.mk (HW.out.trans hb1)
        go_wp2_with fail
        go_roundw
        case rel => exact ⟨1, by omega, by go_num, by go_num, HW⟩
        case measure => simp [intOf]
      · obtain rfl : k = 1 := by omega
        go_wp2_with fail
        go_ret
        exact ⟨rfl, HW.out⟩
  · clear hz
    go_enter Try.func88, Try.ntmps88
    go_wp2
    go_loopw [3, 4] (fun nv iv wr => ∃ (k : Nat) (m : Int), k ≤ es.length + 1 ∧ iv = .int .i64 k ∧ nv = .int .i64 m ∧ Aside0 (m = mostTo es k) ∧ Aside0 (Bw w wr)) (fun _ iv _ => es.length + 1 - (intOf iv).toNat)
    case atStart => exact ⟨0, 0, by omega, rfl, rfl, ⟨rfl⟩, HB⟩
    case round =>
      obtain ⟨k, m, hk, rfl, rfl, HM, HW⟩ := hrel
      by_cases hlt : k ≤ es.length
      · obtain ⟨x, hx⟩ : ∃ x, cNow (es.take k) = x := ⟨_, rfl⟩
        have HXX := Aside0.mk hx
        have hkc : k ≤ cap := by omega
        clear hx
        by_cases hmx : m < x
        · go_wp2_with fail
          refine (refNow_take ad cap es k x _ (HX.out.bw HW.out) hl hlt HXX.out).mono ?_
          rintro e w1 ⟨rfl, hb1⟩
          have HW := Aside0.mk (HW.out.trans hb1)
          go_wp2_with fail
          go_roundw
          case rel => exact ⟨k + 1, x, by omega, by go_num, by go_num, ⟨by simp only [mostTo]; rw [← HM.out, HXX.out]; unfold maxI; rw [if_pos hmx]⟩, HW⟩
          case measure => simp [intOf]; omega
        · go_wp2_with fail
          refine (refNow_take ad cap es k x _ (HX.out.bw HW.out) hl hlt HXX.out).mono ?_
          rintro e w1 ⟨rfl, hb1⟩
          have HW := Aside0.mk (HW.out.trans hb1)
          go_wp2_with fail
          go_roundw
          case rel => exact ⟨k + 1, m, by omega, by go_num, by go_num, ⟨by simp only [mostTo]; rw [← HM.out, HXX.out]; unfold maxI; rw [if_neg (by omega)]⟩, HW⟩
          case measure => simp [intOf]; omega
      · obtain rfl : k = es.length + 1 := by omega
        have HM' := HM.out
        rw [mostTo_all] at HM'
        go_wp2_with fail
        go_ret
        exact ⟨ret_int HM', HW.out⟩

def cenA (f : Int → Int) (vg vp : Value) (most now : Int) : Array Value := #[.int .i64 (f 0), .int .i64 (f 1), .int .i64 (f 2), .int .i64 (f 3), .int .i64 (f 4), .int .i64 (f 5), .int .i64 (f 6), .int .i64 (f 7), .int .i64 (f 8), .int .i64 (f 9), .int .i64 (f 10), .int .i64 (f 11), vg, vp, .int .i64 most, .int .i64 now]
def sumTo (f : Int → Int) : Nat → Int
  | 0 => 0
  | n + 1 => sumTo f n + f n
theorem sumTo_range (f : Int → Int) (hf : ∀ j : Nat, 0 ≤ f j ∧ f j ≤ 1000) : ∀ n, 0 ≤ sumTo f n ∧ sumTo f n ≤ 1000 * n
  | 0 => by simp [sumTo]
  | n + 1 => by
    have h1 := sumTo_range f hf n
    have h2 := hf n
    simp only [sumTo]
    omega
theorem index12 (f : Int → Int) : ∀ (k : Nat) (hk : k < 12) (W : World), (Instr.index 27 (.agg #[.int .i64 (f 0), .int .i64 (f 1), .int .i64 (f 2), .int .i64 (f 3), .int .i64 (f 4), .int .i64 (f 5), .int .i64 (f 6), .int .i64 (f 7), .int .i64 (f 8), .int .i64 (f 9), .int .i64 (f 10), .int .i64 (f 11)]) (.int .i64 (k : Int))).run Try.prog W = .ok (.int .i64 (f (k : Int))) W
  | 0, _, W => show (Instr.index 27 (.agg #[.int .i64 (f 0), .int .i64 (f 1), .int .i64 (f 2), .int .i64 (f 3), .int .i64 (f 4), .int .i64 (f 5), .int .i64 (f 6), .int .i64 (f 7), .int .i64 (f 8), .int .i64 (f 9), .int .i64 (f 10), .int .i64 (f 11)]) (.int .i64 ((0 : Nat) : Int))).run Try.prog W = .ok (.int .i64 (f ((0 : Nat) : Int))) W from by kernel_rfl
  | 1, _, W => show (Instr.index 27 (.agg #[.int .i64 (f 0), .int .i64 (f 1), .int .i64 (f 2), .int .i64 (f 3), .int .i64 (f 4), .int .i64 (f 5), .int .i64 (f 6), .int .i64 (f 7), .int .i64 (f 8), .int .i64 (f 9), .int .i64 (f 10), .int .i64 (f 11)]) (.int .i64 ((1 : Nat) : Int))).run Try.prog W = .ok (.int .i64 (f ((1 : Nat) : Int))) W from by kernel_rfl
  | 2, _, W => show (Instr.index 27 (.agg #[.int .i64 (f 0), .int .i64 (f 1), .int .i64 (f 2), .int .i64 (f 3), .int .i64 (f 4), .int .i64 (f 5), .int .i64 (f 6), .int .i64 (f 7), .int .i64 (f 8), .int .i64 (f 9), .int .i64 (f 10), .int .i64 (f 11)]) (.int .i64 ((2 : Nat) : Int))).run Try.prog W = .ok (.int .i64 (f ((2 : Nat) : Int))) W from by kernel_rfl
  | 3, _, W => show (Instr.index 27 (.agg #[.int .i64 (f 0), .int .i64 (f 1), .int .i64 (f 2), .int .i64 (f 3), .int .i64 (f 4), .int .i64 (f 5), .int .i64 (f 6), .int .i64 (f 7), .int .i64 (f 8), .int .i64 (f 9), .int .i64 (f 10), .int .i64 (f 11)]) (.int .i64 ((3 : Nat) : Int))).run Try.prog W = .ok (.int .i64 (f ((3 : Nat) : Int))) W from by kernel_rfl
  | 4, _, W => show (Instr.index 27 (.agg #[.int .i64 (f 0), .int .i64 (f 1), .int .i64 (f 2), .int .i64 (f 3), .int .i64 (f 4), .int .i64 (f 5), .int .i64 (f 6), .int .i64 (f 7), .int .i64 (f 8), .int .i64 (f 9), .int .i64 (f 10), .int .i64 (f 11)]) (.int .i64 ((4 : Nat) : Int))).run Try.prog W = .ok (.int .i64 (f ((4 : Nat) : Int))) W from by kernel_rfl
  | 5, _, W => show (Instr.index 27 (.agg #[.int .i64 (f 0), .int .i64 (f 1), .int .i64 (f 2), .int .i64 (f 3), .int .i64 (f 4), .int .i64 (f 5), .int .i64 (f 6), .int .i64 (f 7), .int .i64 (f 8), .int .i64 (f 9), .int .i64 (f 10), .int .i64 (f 11)]) (.int .i64 ((5 : Nat) : Int))).run Try.prog W = .ok (.int .i64 (f ((5 : Nat) : Int))) W from by kernel_rfl
  | 6, _, W => show (Instr.index 27 (.agg #[.int .i64 (f 0), .int .i64 (f 1), .int .i64 (f 2), .int .i64 (f 3), .int .i64 (f 4), .int .i64 (f 5), .int .i64 (f 6), .int .i64 (f 7), .int .i64 (f 8), .int .i64 (f 9), .int .i64 (f 10), .int .i64 (f 11)]) (.int .i64 ((6 : Nat) : Int))).run Try.prog W = .ok (.int .i64 (f ((6 : Nat) : Int))) W from by kernel_rfl
  | 7, _, W => show (Instr.index 27 (.agg #[.int .i64 (f 0), .int .i64 (f 1), .int .i64 (f 2), .int .i64 (f 3), .int .i64 (f 4), .int .i64 (f 5), .int .i64 (f 6), .int .i64 (f 7), .int .i64 (f 8), .int .i64 (f 9), .int .i64 (f 10), .int .i64 (f 11)]) (.int .i64 ((7 : Nat) : Int))).run Try.prog W = .ok (.int .i64 (f ((7 : Nat) : Int))) W from by kernel_rfl
  | 8, _, W => show (Instr.index 27 (.agg #[.int .i64 (f 0), .int .i64 (f 1), .int .i64 (f 2), .int .i64 (f 3), .int .i64 (f 4), .int .i64 (f 5), .int .i64 (f 6), .int .i64 (f 7), .int .i64 (f 8), .int .i64 (f 9), .int .i64 (f 10), .int .i64 (f 11)]) (.int .i64 ((8 : Nat) : Int))).run Try.prog W = .ok (.int .i64 (f ((8 : Nat) : Int))) W from by kernel_rfl
  | 9, _, W => show (Instr.index 27 (.agg #[.int .i64 (f 0), .int .i64 (f 1), .int .i64 (f 2), .int .i64 (f 3), .int .i64 (f 4), .int .i64 (f 5), .int .i64 (f 6), .int .i64 (f 7), .int .i64 (f 8), .int .i64 (f 9), .int .i64 (f 10), .int .i64 (f 11)]) (.int .i64 ((9 : Nat) : Int))).run Try.prog W = .ok (.int .i64 (f ((9 : Nat) : Int))) W from by kernel_rfl
  | 10, _, W => show (Instr.index 27 (.agg #[.int .i64 (f 0), .int .i64 (f 1), .int .i64 (f 2), .int .i64 (f 3), .int .i64 (f 4), .int .i64 (f 5), .int .i64 (f 6), .int .i64 (f 7), .int .i64 (f 8), .int .i64 (f 9), .int .i64 (f 10), .int .i64 (f 11)]) (.int .i64 ((10 : Nat) : Int))).run Try.prog W = .ok (.int .i64 (f ((10 : Nat) : Int))) W from by kernel_rfl
  | 11, _, W => show (Instr.index 27 (.agg #[.int .i64 (f 0), .int .i64 (f 1), .int .i64 (f 2), .int .i64 (f 3), .int .i64 (f 4), .int .i64 (f 5), .int .i64 (f 6), .int .i64 (f 7), .int .i64 (f 8), .int .i64 (f 9), .int .i64 (f 10), .int .i64 (f 11)]) (.int .i64 ((11 : Nat) : Int))).run Try.prog W = .ok (.int .i64 (f ((11 : Nat) : Int))) W from by kernel_rfl
  | q + 12, h, _ => absurd h (by omega)
set_option maxHeartbeats 4000000 in
set_option maxRecDepth 100000 in
theorem Total_calls (f : Int → Int) (vg vp : Value) (most now : Int) (w : World) (hf : ∀ j : Nat, 0 ≤ f j ∧ f j ≤ 1000) :
    Calls Try.prog 18 #[.agg (cenA f vg vp most now)] w fun e w' => e = .returned (.int .i64 (sumTo f 12)) ∧ Bw w w' := by
  have HB := Aside0.mk (Bw.refl w)
  have HF := Aside0.mk hf
  have HSR := Aside0.mk (sumTo_range f hf)
  clear hf
  unfold cenA
  go_enter Try.func18, Try.ntmps18
  go_wp2_with fail
  go_loopw [3, 8] (fun nv iv wr => ∃ (k : Nat) (n : Int), k ≤ 12 ∧ 0 ≤ n ∧ n ≤ 12000 ∧ iv = .int .i64 k ∧ nv = .int .i64 n ∧ Aside0 (n = sumTo f k) ∧ Aside0 (Bw w wr)) (fun _ iv _ => 12 - (intOf iv).toNat)
  case atStart => exact ⟨0, 0, by omega, by omega, by omega, rfl, rfl, ⟨rfl⟩, ⟨HB.out.alloc _⟩⟩
  case round =>
    obtain ⟨k, n, hk, n0, n1, rfl, rfl, HN, HW⟩ := hrel
    by_cases hlt : k < 12
    · have hfk := HF.out k
      have hs1 := HSR.out (k + 1)
      have HNX := Aside0.mk (show n + f k = sumTo f (k + 1) by simp only [sumTo]; rw [HN.out])
      have hb1 : 0 ≤ n + f k ∧ n + f k ≤ 12000 := by rw [HNX.out]; omega
      clear hs1
      have hidx := index12 f k hlt
      go_wp2_with fail
      go_roundw
      case rel => exact ⟨k + 1, _, by omega, hb1.1, hb1.2, by go_num, rfl, HNX, HW⟩
      case measure => simp [intOf]; omega
    · obtain rfl : k = 12 := by omega
      have HN' := HN.out
      go_wp2_with fail
      go_ret
      exact ⟨ret_int HN', HW.out⟩
theorem Live_calls (f : Int → Int) (vg vp : Value) (most now : Int) (w : World) (h2 : 0 ≤ f 2 ∧ f 2 ≤ 1000) (h11 : 0 ≤ f 11 ∧ f 11 ≤ 1000) :
    Calls Try.prog 84 #[.agg (cenA f vg vp most now)] w fun e w' => e = .returned (.int .i64 (1 + f 2 - f 11)) ∧ Bw w w' := by
  have HB := Aside0.mk (Bw.refl w)
  unfold cenA
  go_enter Try.func84, Try.ntmps84
  go_wp2_with fail
  go_ret
  exact ⟨rfl, HB.out.alloc _⟩
end Go.Proofs.Ytclippikdfcgkaa.M
