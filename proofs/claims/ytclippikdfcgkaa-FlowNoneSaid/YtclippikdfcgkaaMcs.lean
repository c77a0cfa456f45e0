/- What Swap of package cell does. Conditions: counters below 2^62. -/
import Derived.Test.YtclippikdfcgkaaMc
import Derived.Shelf.Abstract
namespace Go.Proofs.Ytclippikdfcgkaa.M
open Go.RowKit Go.Proofs.YtclippikdfcgkaaW.PrintWords Go.Proofs.YtclippikdfcgkaaW.PrintLast Go.Proofs.YtclippikdfcgkaaW.PrintMore
set_option linter.unusedVariables false
set_option linter.unusedSimpArgs false

def swapF (old x : Int) (now : Int) : Int × Bool := if now = old then (x, true) else (now, false)
theorem Swap1_calls (now old x : Int) (c d : Nat) (w : World) (hc : w.cell? ⟨c, 0, none⟩ = some (.int .u64 old)) (hd : w.cell? ⟨d, 0, none⟩ = some (.int .u64 x)) :
    Calls Try.prog 103 #[.int .u64 now, .pointer (some ⟨c, 0, none⟩), .pointer (some ⟨d, 0, none⟩)] w fun e w' => e = .returned (.tuple #[.int .u64 (swapF old x now).1, .bool (swapF old x now).2]) ∧ Bw w w' := by
  have HB := Aside0.mk (Bw.refl w)
  unfold swapF
  by_cases h : now = old
  · rw [if_pos h]
    have h1 : (now != old) = false := by simpa using h
    clear h
    go_enter Try.func103, Try.ntmps103
    go_wp2
    go_ret2
    exact ⟨rfl, HB.out⟩
  · rw [if_neg h]
    have h1 : (now != old) = true := by simpa using h
    clear h
    go_enter Try.func103, Try.ntmps103
    go_wp2
    go_ret2
    exact ⟨rfl, HB.out⟩

def MemS.swap (m : MemS) (who at_ old x : Int) : MemS := m.does ⟨3, who, at_, 0, x, false⟩ (swapF old x)

set_option maxHeartbeats 1000000 in
set_option maxRecDepth 100000 in
theorem Swap_in (base b : Nat) (v : Value) (m : MemS) (who at_ old x : Int) (w : World) (h : IsMem w base b v m) (hc : 0 ≤ m.clock ∧ m.clock < 4611686018427387904)
    (hat : 0 ≤ at_ ∧ at_ < m.words.length) :
    Calls Try.prog 44 #[.pointer (some ⟨b, 0, none⟩), .int .i64 who, .int .i64 at_, .int .u64 old, .int .u64 x] w fun e w' => e = .returned (.bool (m.swap who at_ old x).last.done) ∧ IsMem w' base b v (m.swap who at_ old x) ∧ Chg (MemF b v) w w' := by
  have hlt := h.2.1.lt
  have HM := Aside0.mk (show IsMem ((w.alloc (.cells #[.int .u64 old] 55)).alloc (.cells #[.int .u64 x] 55)) base b v m from h.bw (((Bw.refl w).alloc _).alloc _))
  have HV := Aside0.mk (fun k (hk : v.ownBlock = some k) => own_lt h.2.2.1 k hk)
  have BO := (Blk.new w #[.int .u64 old] 55).alloc (.cells #[.int .u64 x] 55)
  have BX := Blk.new (w.alloc (.cells #[.int .u64 old] 55)) #[.int .u64 x] 55
  simp at BX
  clear h
  go_enter Try.func44, Try.ntmps44
  go_wp2_with fail
  refine (does_in base b v m ⟨3, who, at_, 0, x, false⟩ 103 #[.pointer (some ⟨w.heap.size, 0, none⟩), .pointer (some ⟨w.heap.size + 1, 0, none⟩)] (swapF old x) _ HM.out hc hat (fun args W => enters_of Try.func103 (by kernel_rfl) rfl args W) ?_).mono ?_
  · intro W hW
    have BW : Blk W w.heap.size #[.int .u64 old] 55 := BO.of_block (hW.block _ BO.lt (by rintro (h | h); omega; have := HV.out _ h; omega))
    have BW2 : Blk W (w.heap.size + 1) #[.int .u64 x] 55 := BX.of_block (hW.block _ BX.lt (by rintro (h | h); omega; have := HV.out _ h; omega))
    exact Swap1_calls _ old x _ _ W (BW.cell 0 _ rfl) (BW2.cell 0 _ rfl)
  · rintro e w1 ⟨rfl, hM1, hC1⟩
    rw [show m.does ⟨3, who, at_, 0, x, false⟩ (swapF old x) = m.swap who at_ old x from rfl] at hM1
    have k8 : w1.cell? ⟨b, 8, none⟩ = some (.bool (m.swap who at_ old x).last.done) := hM1.2.1.cell 8 _ rfl
    have HM1 := Aside0.mk hM1
    have HC1 := Aside0.mk hC1
    clear hM1 hC1
    go_wp2_with fail
    go_ret
    exact ⟨rfl, HM1.out, ((Chg.refl _ w).alloc _).alloc _ |>.trans HC1.out⟩
end Go.Proofs.Ytclippikdfcgkaa.M
