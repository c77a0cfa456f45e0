/- Package flow: what a chain is; an access comes. No condition. -/
import Derived.Test.YtclippikdfcgkaaMci
import Derived.RegionTactic
import Derived.Laws.EntriesVeiled
namespace Go.Proofs.Ytclippikdfcgkaa.M
open Go.RowKit Go.Proofs.YtclippikdfcgkaaW.PrintWords Go.Proofs.YtclippikdfcgkaaW.PrintLast Go.Proofs.YtclippikdfcgkaaW.PrintMore
set_option linter.unusedVariables false
set_option linter.unusedSimpArgs false
/-- The world behind 'comes'. -/
def comesW (w : World) (b : Nat) (k a o x : Int) (t : Value) : World :=
  ((((w.setCell ⟨b, 1, none⟩ (.int .i64 k)).setCell ⟨b, 2, none⟩ (.int .i64 a)).setCell ⟨b, 3, none⟩ (.int .u64 o)).setCell ⟨b, 4, none⟩ (.int .u64 x)).setCell ⟨b, 5, none⟩ t
/-- A flow's cells are there. -/
def FlowThere (w : World) (b : Nat) : Prop := ∀ i, 1 ≤ i → i ≤ 6 → (∃ v, w.cell? ⟨b, i, none⟩ = some v) ∧ w.frozen? ⟨b, i, none⟩ = false
theorem FlowThere.bw {w w1 : World} {b : Nat} (h : FlowThere w b) (hlt : b < w.heap.size) (hb : Bw w w1) : FlowThere w1 b := fun i h1 h2 => by
  obtain ⟨⟨v, hv⟩, hf⟩ := h i h1 h2
  exact ⟨⟨v, hb.kept hv⟩, (Below.frozen hb (p := ⟨b, i, none⟩) hlt).trans hf⟩
set_option maxHeartbeats 1000000 in
theorem comes_calls (b : Nat) (k a o x : Int) (fn : Fn) (bs cs : Array Value) (w : World) (h : FlowThere w b) (hlt : b < w.heap.size) :
    Calls Try.prog 149 #[.pointer (some ⟨b, 0, none⟩), .int .i64 k, .int .i64 a, .int .u64 o, .int .u64 x, (.func fn bs cs)] w fun e w' => e = .returned (.tuple #[]) ∧ comesW w b k a o x (.func fn bs cs) = w' := by
  obtain ⟨⟨v1, c1⟩, f1⟩ := h 1 (by omega) (by omega)
  obtain ⟨⟨v2, c2⟩, f2⟩ := h 2 (by omega) (by omega)
  obtain ⟨⟨v3, c3⟩, f3⟩ := h 3 (by omega) (by omega)
  obtain ⟨⟨v4, c4⟩, f4⟩ := h 4 (by omega) (by omega)
  obtain ⟨⟨v5, c5⟩, f5⟩ := h 5 (by omega) (by omega)
  clear h
  go_enter Try.func149, Try.ntmps149
  go_wp2_with fail

  go_end0
  exact ⟨rfl, rfl⟩
set_option maxHeartbeats 1000000 in
theorem fLoad_calls (b : Nat) (a : Int) (fn : Fn) (bs cs : Array Value) (w : World) (h : FlowThere w b) (hlt : b < w.heap.size) :
    Calls Try.prog 137 #[.pointer (some ⟨b, 0, none⟩), .int .i64 a, (.func fn bs cs)] w fun e w' => e = .returned (.tuple #[]) ∧ comesW w b 1 a 0 0 (.func fn bs cs) = w' := by
  have H := Aside0.mk h
  clear h
  go_enter Try.func137, Try.ntmps137
  go_wp2_with fail
  refine (comes_calls b 1 a 0 0 fn bs cs _ H.out hlt).mono ?_
  rintro e w1 ⟨rfl, rfl⟩
  go_wp2_with fail
  go_end0
  exact ⟨rfl, rfl⟩
set_option maxHeartbeats 1000000 in
theorem fAdd_calls (b : Nat) (a x : Int) (fn : Fn) (bs cs : Array Value) (w : World) (h : FlowThere w b) (hlt : b < w.heap.size) :
    Calls Try.prog 142 #[.pointer (some ⟨b, 0, none⟩), .int .i64 a, .int .u64 x, (.func fn bs cs)] w fun e w' => e = .returned (.tuple #[]) ∧ comesW w b 4 a 0 x (.func fn bs cs) = w' := by
  have H := Aside0.mk h
  clear h
  go_enter Try.func142, Try.ntmps142
  go_wp2_with fail
  refine (comes_calls b 4 a 0 x fn bs cs _ H.out hlt).mono ?_
  rintro e w1 ⟨rfl, rfl⟩
  go_wp2_with fail
  go_end0
  exact ⟨rfl, rfl⟩
set_option maxHeartbeats 1000000 in
theorem fSleep_calls (b : Nat) (a : Int) (fn : Fn) (bs cs : Array Value) (w : World) (h : FlowThere w b) (hlt : b < w.heap.size) :
    Calls Try.prog 135 #[.pointer (some ⟨b, 0, none⟩), .int .i64 a, (.func fn bs cs)] w fun e w' => e = .returned (.tuple #[]) ∧ comesW (w.setCell ⟨b, 6, none⟩ (.bool false)) b 5 a 0 0 (.func fn bs cs) = w' := by
  obtain ⟨⟨v6, c6⟩, f6⟩ := h 6 (by omega) (by omega)
  have H := Aside0.mk (show FlowThere (w.setCell ⟨b, 6, none⟩ (.bool false)) b from fun i h1 h2 => by
    obtain ⟨⟨v, hv⟩, hf⟩ := h i h1 h2
    exact ⟨cell?_setCell_some (w := w) (p := ⟨b, 6, none⟩) (x := .bool false) hv, by rw [World.frozen?_setCell]; exact hf⟩)
  clear h
  go_enter Try.func135, Try.ntmps135
  go_wp2_with fail
  refine (comes_calls b 5 a 0 0 fn bs cs _ H.out (by simpa using hlt)).mono ?_
  rintro e w1 ⟨rfl, rfl⟩
  go_wp2_with fail
  go_end0
  exact ⟨rfl, rfl⟩
set_option maxHeartbeats 1000000 in
theorem fStore_calls (b : Nat) (a x : Int) (fn : Fn) (bs cs : Array Value) (w : World) (h : FlowThere w b) (hlt : b < w.heap.size) :
    Calls Try.prog 138 #[.pointer (some ⟨b, 0, none⟩), .int .i64 a, .int .u64 x, (.func fn bs cs)] w fun e w' => e = .returned (.tuple #[]) ∧ comesW (w.alloc (.cells #[.func fn bs cs] 1)) b 2 a 0 x (.func (.func 150) #[] #[.pointer (some ⟨w.heap.size, 0, none⟩)]) = w' := by
  have H := Aside0.mk (h.bw hlt ((Bw.refl w).alloc (.cells #[.func fn bs cs] 1)))
  clear h
  go_enter Try.func138, Try.ntmps138
  go_wp2_with fail
  refine (comes_calls b 2 a 0 x _ _ _ _ H.out (by simp; omega)).mono ?_
  rintro e w1 ⟨rfl, rfl⟩
  go_wp2_with fail
  go_end0
  exact ⟨rfl, rfl⟩
set_option maxHeartbeats 1000000 in
theorem fSwap_calls (b : Nat) (a o x : Int) (fn : Fn) (bs cs : Array Value) (w : World) (h : FlowThere w b) (hlt : b < w.heap.size) :
    Calls Try.prog 140 #[.pointer (some ⟨b, 0, none⟩), .int .i64 a, .int .u64 o, .int .u64 x, (.func fn bs cs)] w fun e w' => e = .returned (.tuple #[]) ∧ comesW (w.alloc (.cells #[.func fn bs cs] 215)) b 3 a o x (.func (.func 151) #[] #[.pointer (some ⟨w.heap.size, 0, none⟩)]) = w' := by
  have H := Aside0.mk (h.bw hlt ((Bw.refl w).alloc (.cells #[.func fn bs cs] 215)))
  clear h
  go_enter Try.func140, Try.ntmps140
  go_wp2_with fail
  refine (comes_calls b 3 a o x _ _ _ _ H.out (by simp; omega)).mono ?_
  rintro e w1 ⟨rfl, rfl⟩
  go_wp2_with fail
  go_end0
  exact ⟨rfl, rfl⟩
end Go.Proofs.Ytclippikdfcgkaa.M
