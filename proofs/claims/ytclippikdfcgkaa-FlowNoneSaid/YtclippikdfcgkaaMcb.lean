/- What New, Of, Peek and Clock of package cell answer, and slices.Clone of numbers. Conditions: sizes below 2^18. -/
import Derived.Test.YtclippikdfcgkaaMc
import Derived.WalkSpells
namespace Go.Proofs.Ytclippikdfcgkaa.M
open Go.RowKit Go.Proofs.YtclippikdfcgkaaW.PrintWords Go.Proofs.YtclippikdfcgkaaW.PrintLast Go.Proofs.YtclippikdfcgkaaW.PrintMore
set_option linter.unusedVariables false
set_option linter.unusedSimpArgs false

theorem infoU : (Try.prog.info? 55).map (fun i => (i.zero, i.size, i.bytes)) = some (some (.int .u64 0), 1, 8) := by kernel_rfl
theorem Rows.reads {k : IntKind} {w : World} {A : Option Addr} {xs : List Int} (h : Rows (fun x => [Value.int k x]) 1 w A xs) : ReadsInt w k A xs.length xs := by
  refine ⟨rfl, h.1, fun hn => ?_⟩
  obtain ⟨ad, e, hc⟩ := h.2 (by rintro rfl; simp at hn)
  refine ⟨ad, e, fun j hj => ?_⟩
  have := hc j xs[j] (List.getElem?_eq_getElem hj) 0 _ rfl
  rw [List.getD_eq_getElem?_getD, List.getElem?_eq_getElem hj]
  simpa using this

def acc0 : Acc := ⟨0, 0, 0, 0, 0, false⟩
def memOf (xs : List Int) : MemS := ⟨xs, 0, 0, acc0⟩

set_option maxHeartbeats 1000000 in
theorem Clone64_calls (A : Option Addr) (cap : Nat) (xs : List Int) (w : World) (hx : Rows (fun x => [Value.int .u64 x]) 1 w A xs) (hs : xs.length ≤ 262144) (hz : A = none → xs = [] ∧ cap = 0) :
    Calls Try.prog 98 #[.slice A xs.length cap] w fun e w' => ∃ v, e = .returned v ∧ w'.ownsRow w.heap.size 55 1 v xs.length (nums .u64 xs) ∧ Bw w w' := by
  have HB := Aside0.mk (Bw.refl w)
  have HX := Aside0.mk hx.reads
  clear hx
  have hnil := fun (W : World) (a : Option Addr) (n c : Nat) => Lib.run_eql_slice_nil (P := Try.prog) W 41 55 a n c 0 0 Try.underlying41
  rcases A with _ | ad
  · obtain ⟨rfl, rfl⟩ := hz rfl
    go_enter Try.func98, Try.ntmps98
    go_wp2
    go_ret
    exact ⟨_, rfl, own_nil _ _ _ _, HB.out⟩
  · clear hz
    go_enter Try.func98, Try.ntmps98
    have HO := Aside0.mk (own_lit w w.heap.size 55 .u64 [] (Nat.le_refl _) (by simp))
    have HX2 := Aside0.mk (HX.out.below (w1 := w.alloc (.cells #[] 55)) (HB.out.alloc _))
    go_wp2_with (at_builtin; refine print_append_row (w0 := w) w.heap.size rfl (.tmp 5) (.tmp 6) 41 55 .u64 8 rfl Try.underlying41 infoU (by omega) (.slice (some ⟨w.heap.size, 0, none⟩) 0 0) [] xs (some ad) xs.length cap rfl rfl HO.out HX2.out (HB.out.alloc _) (by simp) (by simp; omega) ?_; intro v1 w2 hown2 hbel2 hg2 hat2)
    go_ret
    exact ⟨_, rfl, hown2, hbel2⟩

set_option maxHeartbeats 1000000 in
/-- A memory of words that are copied. -/
theorem Of_calls (A : Option Addr) (cap : Nat) (xs : List Int) (w : World) (hx : Rows (fun x => [Value.int .u64 x]) 1 w A xs) (hs : xs.length ≤ 262144) (hz : A = none → xs = [] ∧ cap = 0) :
    Calls Try.prog 33 #[.slice A xs.length cap] w fun e w' => ∃ b v, e = .returned (.tuple #[.pointer (some ⟨b, 0, none⟩), .int .i64 0]) ∧ IsMem w' w.heap.size b v (memOf xs) ∧ Bw w w' := by
  have HB := Aside0.mk (Bw.refl w)
  have HX := Aside0.mk hx
  clear hx
  have d1 : decide ((262144 : Int) < (xs.length : Int)) = false := by simp; omega
  go_enter Try.func33, Try.ntmps33
  go_wp2_with fail
  refine (Clone64_calls A cap xs w HX.out hs hz).mono ?_
  rintro e w1 ⟨v, rfl, hown, hb1⟩
  obtain ⟨A1, c1, rfl⟩ := own_slice hown
  have HO := Aside0.mk hown
  clear hown
  go_wp2_with fail
  go_ret2
  refine ⟨_, _, rfl, ⟨hb1.size, ?_, pw_own_below HO.out ((Bw.refl w1).alloc _), ?_⟩, hb1.alloc _⟩
  · exact Blk.new w1 _ _
  · intro hk
    have := own_lt HO.out _ hk
    omega

set_option maxHeartbeats 1000000 in
/-- A memory of noughts. -/
theorem New_calls (n : Nat) (w : World) (hs : n ≤ 262144) :
    Calls Try.prog 40 #[.int .i64 n] w fun e w' => ∃ b v, e = .returned (.tuple #[.pointer (some ⟨b, 0, none⟩), .int .i64 0]) ∧ IsMem w' w.heap.size b v (memOf (List.replicate n 0)) ∧ Bw w w' := by
  have HB := Aside0.mk (Bw.refl w)
  have hmk := print_make (P := Try.prog) 41 55 .u64 8 Try.underlying41 infoU (by omega) n (by omega)
  have d1 : decide ((n : Int) < 0) = false := by simp
  have d2 : decide ((262144 : Int) < (n : Int)) = false := by simp; omega
  go_enter Try.func40, Try.ntmps40
  go_wp2_with fail
  go_ret2
  have HO := own_made w w.heap.size 55 .u64 n (Nat.le_refl _) (by omega)
  refine ⟨_, _, rfl, ⟨by simp, by simpa [memCells, memOf, acc0] using Blk.new (w.alloc _) _ _, ?_, ?_⟩, (HB.out.alloc _).alloc _⟩
  · simpa [memOf] using pw_own_below HO ((Bw.refl _).alloc _)
  · simp [Value.ownBlock]
theorem New_neg (n : Int) (w : World) (hs : n < 0) :
    Calls Try.prog 40 #[.int .i64 n] w fun e w' => e = .returned (.tuple #[.pointer none, .int .i64 1]) ∧ Bw w w' := by
  have HB := Aside0.mk (Bw.refl w)
  go_enter Try.func40, Try.ntmps40
  go_wp2_with fail
  go_ret2
  exact ⟨rfl, HB.out⟩
theorem New_long (n : Int) (w : World) (hs : 262144 < n) :
    Calls Try.prog 40 #[.int .i64 n] w fun e w' => e = .returned (.tuple #[.pointer none, .int .i64 2]) ∧ Bw w w' := by
  have HB := Aside0.mk (Bw.refl w)
  have d1 : decide (n < 0) = false := by simp; omega
  go_enter Try.func40, Try.ntmps40
  go_wp2_with fail
  go_ret2
  exact ⟨rfl, HB.out⟩

theorem Clock_calls (base b : Nat) (v : Value) (m : MemS) (w : World) (h : IsMem w base b v m) :
    Calls Try.prog 46 #[.pointer (some ⟨b, 0, none⟩)] w fun e w' => e = .returned (.int .i64 m.clock) ∧ Bw w w' := by
  have HB := Aside0.mk (Bw.refl w)
  have k1 : w.cell? ⟨b, 1, none⟩ = some (.int .i64 m.clock) := h.2.1.cell 1 _ rfl
  clear h
  go_enter Try.func46, Try.ntmps46
  go_wp2
  go_ret
  exact ⟨rfl, HB.out⟩

def MemS.peek (m : MemS) (at_ : Int) : Int × Bool := if 0 ≤ at_ ∧ at_ < m.words.length then (rd m.words at_, true) else (0, false)
set_option maxHeartbeats 1000000 in
theorem Peek_calls (base b : Nat) (v : Value) (m : MemS) (at_ : Int) (w : World) (h : IsMem w base b v m) :
    Calls Try.prog 42 #[.pointer (some ⟨b, 0, none⟩), .int .i64 at_] w fun e w' => e = .returned (.tuple #[.int .u64 (m.peek at_).1, .bool (m.peek at_).2]) ∧ Bw w w' := by
  have HB := Aside0.mk (Bw.refl w)
  obtain ⟨h1, h2, h3, h4⟩ := h
  by_cases n1 : at_ < 0
  · have HP := Aside0.mk (show m.peek at_ = (0, false) by unfold MemS.peek; rw [if_neg (by omega)])
    have d1 : decide (at_ < 0) = true := by simpa using n1
    clear h2 h3 h4
    go_enter Try.func42, Try.ntmps42
    go_wp2_with fail
    go_ret2
    rw [HP.out]
    exact ⟨rfl, HB.out⟩
  · have d1 : decide (at_ < 0) = false := by simpa using n1
    obtain ⟨A, cap, rfl⟩ := own_slice h3
    have k0 : w.cell? ⟨b, 0, none⟩ = some (.slice A m.words.length cap) := h2.cell 0 _ rfl
    by_cases n2 : at_ < m.words.length
    · have HP := Aside0.mk (show m.peek at_ = (rd m.words at_, true) by unfold MemS.peek; rw [if_pos (by omega)])
      obtain ⟨g, cap', he, _, _⟩ := h3.form (by omega)
      injection he with e1 e2 e3
      subst e1 e3
      have x0 := (own_at h3 at_ (by omega) (by omega)).1
      have d2 : decide ((m.words.length : Int) ≤ at_) = false := by simp; omega
      have a1 : 0 ≤ at_ := by omega
      clear h2 h3 h4 n1
      go_enter Try.func42, Try.ntmps42
      go_wp2_with fail
      go_ret2
      rw [HP.out]
      exact ⟨rfl, HB.out⟩
    · have HP := Aside0.mk (show m.peek at_ = (0, false) by unfold MemS.peek; rw [if_neg (by omega)])
      have d2 : decide ((m.words.length : Int) ≤ at_) = true := by simp; omega
      clear h2 h3 h4
      go_enter Try.func42, Try.ntmps42
      go_wp2_with fail
      go_ret2
      rw [HP.out]
      exact ⟨rfl, HB.out⟩
end Go.Proofs.Ytclippikdfcgkaa.M
