/- What Add of package cell does, and Peek and Clock tell. Conditions: counters below 2^62. -/
import Derived.Test.YtclippikdfcgkaaMc
import Derived.Shelf.Abstract
namespace Go.Proofs.Ytclippikdfcgkaa.M
open Go.RowKit Go.Proofs.YtclippikdfcgkaaW.PrintWords Go.Proofs.YtclippikdfcgkaaW.PrintLast Go.Proofs.YtclippikdfcgkaaW.PrintMore
set_option linter.unusedVariables false
set_option linter.unusedSimpArgs false

def addF (x : Int) (now : Int) : Int × Bool := ((now % 4294967296 + x % 4294967296) % 4294967296, true)
theorem Add1_calls (now x : Int) (c : Nat) (w : World) (hc : w.cell? ⟨c, 0, none⟩ = some (.int .u64 x)) (h0 : 0 ≤ now) (h1 : 0 ≤ x) :
    Calls Try.prog 104 #[.int .u64 now, .pointer (some ⟨c, 0, none⟩)] w fun e w' => e = .returned (.tuple #[.int .u64 (addF x now).1, .bool (addF x now).2]) ∧ Bw w w' := by
  have HB := Aside0.mk (Bw.refl w)
  have b0 : 0 ≤ now % 4294967296 := by omega
  have b1 : now % 4294967296 < 4294967296 := by omega
  have b2 : 0 ≤ x % 4294967296 := by omega
  have b3 : x % 4294967296 < 4294967296 := by omega
  go_enter Try.func104, Try.ntmps104
  go_wp2
  go_ret2
  exact ⟨rfl, HB.out⟩

def MemS.add (m : MemS) (who at_ x : Int) : MemS × Int :=
  let m1 := m.does ⟨4, who, at_, 0, x, false⟩ (addF x)
  if m1.last.done = true then ({ m1 with last := { m1.last with new := rd m1.words at_ } }, rd m1.words at_) else (m1, 0)

set_option maxHeartbeats 1000000 in
set_option maxRecDepth 100000 in
theorem Add_in (base b : Nat) (v : Value) (m : MemS) (who at_ x : Int) (w : World) (h : IsMem w base b v m) (hc : 0 ≤ m.clock ∧ m.clock < 4611686018427387904) (hx : 0 ≤ x) (hn : 0 ≤ rd m.words at_)
    (hat : 0 ≤ at_ ∧ at_ < m.words.length) :
    Calls Try.prog 45 #[.pointer (some ⟨b, 0, none⟩), .int .i64 who, .int .i64 at_, .int .u64 x] w fun e w' => e = .returned (.int .u64 (m.add who at_ x).2) ∧ IsMem w' base b v (m.add who at_ x).1 ∧ Chg (MemF b v) w w' := by
  have hlt := h.2.1.lt
  have HM := Aside0.mk (show IsMem (w.alloc (.cells #[.int .u64 x] 55)) base b v m from h.bw ((Bw.refl w).alloc _))
  have HV := Aside0.mk (fun k (hk : v.ownBlock = some k) => own_lt h.2.2.1 k hk)
  have BX := Blk.new w #[.int .u64 x] 55
  clear h
  go_enter Try.func45, Try.ntmps45
  go_wp2_with fail
  refine (does_in base b v m ⟨4, who, at_, 0, x, false⟩ 104 #[.pointer (some ⟨w.heap.size, 0, none⟩)] (addF x) _ HM.out hc hat (fun args W => enters_of Try.func104 (by kernel_rfl) rfl args W) ?_).mono ?_
  · intro W hW
    have BW : Blk W w.heap.size #[.int .u64 x] 55 := BX.of_block (hW.block _ BX.lt (by rintro (h | h); omega; have := HV.out _ h; omega))
    exact Add1_calls _ x _ W (BW.cell 0 _ rfl) hn hx
  · rintro e w1 ⟨rfl, hM1, hC1⟩
    have hw1 : (m.does ⟨4, who, at_, 0, x, false⟩ (addF x)).words.length = m.words.length := by
      unfold MemS.does
      split <;> simp
    have hd1 : (m.does ⟨4, who, at_, 0, x, false⟩ (addF x)).last.done = true := by
      unfold MemS.does
      rw [if_pos (show 0 ≤ (⟨4, who, at_, 0, x, false⟩ : Acc).at_ ∧ (⟨4, who, at_, 0, x, false⟩ : Acc).at_ < m.words.length from hat)]
      rfl
    have HA := Aside0.mk (show m.add who at_ x = ({ m.does ⟨4, who, at_, 0, x, false⟩ (addF x) with last := { (m.does ⟨4, who, at_, 0, x, false⟩ (addF x)).last with new := rd (m.does ⟨4, who, at_, 0, x, false⟩ (addF x)).words at_ } }, rd (m.does ⟨4, who, at_, 0, x, false⟩ (addF x)).words at_) by
      unfold MemS.add
      simp only [hd1, if_true])
    generalize m.does ⟨4, who, at_, 0, x, false⟩ (addF x) = m1 at HA hM1 hw1 hd1
    obtain ⟨h1, h2, h3, h4⟩ := hM1
    obtain ⟨g, cap, rfl, hg1, hg2⟩ := h3.form (by omega)
    rw [← hw1] at hat
    obtain ⟨a1, a2⟩ := hat
    have hat := own_at h3 at_ a1 (by omega)
    have x0 := hat.1
    have k0 : w1.cell? ⟨b, 0, none⟩ = some (.slice (some ⟨g, 0, none⟩) m1.words.length cap) := h2.cell 0 _ rfl
    have k8 : w1.cell? ⟨b, 8, none⟩ = some (.bool true) := by rw [← hd1]; exact h2.cell 8 _ rfl
    have k7 : w1.cell? ⟨b, 7, none⟩ = some (.int .u64 m1.last.new) := h2.cell 7 _ rfl
    have f7 := h2.free 7
    have hgb : g ≠ b := by simpa [Value.ownBlock] using h4
    have H2 := Aside0.mk h2
    have H3 := Aside0.mk h3
    have HC := Aside0.mk hC1
    have HW1 := Aside0.mk hw1
    clear h2 h3 hat hw1 hd1 h4 hC1
    go_wp2_with fail
    go_ret
    rw [HA.out]
    have B2 := H2.out.set 7 (.int .u64 (rd m1.words at_))
    refine ⟨rfl, ⟨h1, by simpa [memCells] using B2, ?_, by simpa [Value.ownBlock] using hgb⟩, ?_⟩
    · exact own_of_block H3.out (fun k hk => Below.heap_setCell _ _ _ _ (by rintro rfl; simp [Value.ownBlock] at hk; exact hgb hk))
    · exact ((Chg.refl _ w).alloc _ |>.trans HC.out).setb (.inl rfl) _
end Go.Proofs.Ytclippikdfcgkaa.M
