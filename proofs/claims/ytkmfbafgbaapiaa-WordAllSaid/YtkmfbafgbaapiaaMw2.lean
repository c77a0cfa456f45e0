/- What the functions of package word, and of its reference, answer (second part). Conditions: the arguments are of their kinds. -/
import Derived.Test.YtkmfbafgbaapiaaMw
namespace Go.Proofs.Ytkmfbafgbaapiaa.M
open Go.RowKit Go.Proofs.YtkmfbafgbaapiaaW.PrintWords Go.Proofs.YtkmfbafgbaapiaaW.PrintLast Go.Proofs.YtkmfbafgbaapiaaW.PrintMore
attribute [local go_sem] max2_int min2_int max_two min_two
set_option linter.unusedVariables false
set_option linter.unusedSimpArgs false

/-- The entry of a word: its kind, and who. -/
def rKind (x : Int) : Int := kindOf (x % 8)
def rWho (x n : Int) : Int := if whoB (rKind x) = true then x / 8 % many n else 0
def entryV (k h : Int) : Value := .agg #[.int .i64 k, .int .i64 h]

set_option maxHeartbeats 1000000 in
theorem Read_calls (x n : Int) (h0 : 0 ≤ x) (h1 : x < 18446744073709551616) (w : World) :
    Calls Try.prog 18 #[.int .u64 x, .int .i64 n] w fun e w' => e = .returned (entryV (rKind x) (rWho x n)) ∧ Bw w w' := by
  have HB := Aside0.mk (Bw.refl w)
  have hm := many_range n
  have m1 := hm.1
  have m2 := hm.2
  clear hm
  have k0 : 0 ≤ x % 8 := by omega
  have E8 := Aside0.mk (show x / 2 ^ (0 : Int).toNat % 2 ^ (3 : Int).toNat = x % 8 by simp)
  have E9 := Aside0.mk (show x / 2 ^ (3 : Int).toNat % 2 ^ (64 : Int).toNat = x / 8 by simp; omega)
  have q0 : 0 ≤ x / 8 := by omega
  have q1 : x / 8 ≤ 9223372036854775807 := by omega
  have r0 : 0 ≤ x / 8 % many n := Int.emod_nonneg _ (by omega)
  have r1 : x / 8 % many n < 256 := by have := Int.emod_lt_of_pos (x / 8) (show 0 < many n by omega); omega
  have hw : rWho x n = if whoB (rKind x) = true then x / 8 % many n else 0 := rfl
  cases hk : whoB (rKind x) with
  | false =>
    have HK := Aside0.mk hk
    have HW := Aside0.mk (show rWho x n = 0 by rw [hw, hk]; rfl)
    clear hw hk
    go_enter Try.func18, Try.ntmps18
    go_wp2_with fail
    refine (Bits_calls _ _ _ h0 h1 (by omega) (by omega) (by omega) (by omega) _).mono ?_
    rintro e w1 ⟨rfl, hb1⟩
    rw [E8.out]
    have B1 := (Blk.new w _ _).bw hb1
    go_wp2_with fail
    refine (kindOf_calls _ k0 _).mono ?_
    rintro e w2 ⟨rfl, hb2⟩
    have B2 := B1.bw hb2
    rw [show kindOf (x % 8) = rKind x from rfl]
    go_wp2_with fail
    refine (who_calls _ _).mono ?_
    rintro e w3 ⟨rfl, hb3⟩
    have B3 := (B2.alloc _).bw hb3
    have D3 := (Blk.new w2 _ _).bw hb3
    have c0 := B3.cell 0 (.int .i64 0) rfl
    have c1 := B3.cell 1 (.int .i64 0) rfl
    have f0 := B3.free 0
    have f1 := B3.free 1
    have d0 := D3.cell 0 (.int .i64 (rKind x)) rfl
    have d1 := D3.cell 1 (.int .i64 0) rfl
    have HW3 := Aside0.mk ((((HB.out.alloc _).trans hb1).trans hb2).alloc _ |>.trans hb3)
    rw [HK.out]
    go_wp2_with fail
    refine bodyPost_ret (v := entryV (rKind x) (rWho x n)) ?_ rfl ⟨rfl, (HW3.out.setCell (Nat.le_refl _) _).setCell (Nat.le_refl _) _⟩
    rw [HW.out]
    simp [results, Try.results18, go_sem, c0, c1, entryV]
  | true =>
    have HK := Aside0.mk hk
    have HW := Aside0.mk (show rWho x n = x / 8 % many n by rw [hw, hk]; rfl)
    clear hw hk
    go_enter Try.func18, Try.ntmps18
    go_wp2_with fail
    refine (Bits_calls _ _ _ h0 h1 (by omega) (by omega) (by omega) (by omega) _).mono ?_
    rintro e w1 ⟨rfl, hb1⟩
    rw [E8.out]
    have B1 := (Blk.new w _ _).bw hb1
    go_wp2_with fail
    refine (kindOf_calls _ k0 _).mono ?_
    rintro e w2 ⟨rfl, hb2⟩
    have B2 := B1.bw hb2
    rw [show kindOf (x % 8) = rKind x from rfl]
    go_wp2_with fail
    refine (who_calls _ _).mono ?_
    rintro e w3 ⟨rfl, hb3⟩
    have B3 := (B2.alloc _).bw hb3
    have D3 := (Blk.new w2 _ _).bw hb3
    have HW3 := Aside0.mk ((((HB.out.alloc _).trans hb1).trans hb2).alloc _ |>.trans hb3)
    have z3 := B3.lt
    rw [HK.out]
    go_wp2_with fail
    refine (Bits_calls _ _ _ h0 h1 (by omega) (by omega) (by omega) (by omega) _).mono ?_
    rintro e w4 ⟨rfl, hb4⟩
    rw [E9.out]
    go_wp2_with fail
    refine (many_calls _ _).mono ?_
    rintro e w5 ⟨rfl, hb5⟩
    have B5 := (B3.bw hb4).bw hb5
    have D5 := (D3.bw hb4).bw hb5
    have HW5 := Aside0.mk ((HW3.out.trans hb4).trans hb5)
    have c0 := B5.cell 0 (.int .i64 0) rfl
    have c1 := B5.cell 1 (.int .i64 0) rfl
    have f0 := B5.free 0
    have f1 := B5.free 1
    have d0 := D5.cell 0 (.int .i64 (rKind x)) rfl
    have d1 := D5.cell 1 (.int .i64 0) rfl
    have g0 := D5.free 0
    have g1 := D5.free 1
    have hne : w.heap.size ≠ w2.heap.size := by have := B2.lt; omega
    go_wp2_with fail
    refine bodyPost_ret (v := entryV (rKind x) (rWho x n)) ?_ rfl ⟨rfl, ((HW5.out.setCell (by have := HB.out.size; have := (HB.out.alloc (.cells #[.int .i64 0, .int .i64 0] 27)).trans (hb1.trans hb2); have := this.size; omega) _).setCell (Nat.le_refl _) _).setCell (Nat.le_refl _) _⟩
    rw [HW.out]
    simp [results, Try.results18, go_sem, c0, c1, entryV, hne]
end Go.Proofs.Ytkmfbafgbaapiaa.M
