/- The document's memory (package turnspitref03): New, Do in one word, Peek. Conditions: counters below 2^62, sizes below 2^18. -/
import Derived.Test.YtclippikdfcgkaaMce
namespace Go.Proofs.Ytclippikdfcgkaa.M
open Go.RowKit Go.Proofs.YtclippikdfcgkaaW.PrintWords Go.Proofs.YtclippikdfcgkaaW.PrintLast Go.Proofs.YtclippikdfcgkaaW.PrintMore
set_option linter.unusedVariables false
set_option linter.unusedSimpArgs false
section
variable {w w1 : World} {base b : Nat} {v : Value} {m : MemS}
theorem refDo_calls (k who at_ old x : Int) (hk : k = 1 ∧ x = 0 ∨ k = 2 ∨ k = 3 ∨ k = 4) (h : IsRef w base b v m) (hc : m.ok) (hr : (∀ y ∈ m.words, 0 ≤ y) ∧ 0 ≤ x) :
    Calls Try.prog 99 #[.pointer (some ⟨b, 0, none⟩), .int .i64 k, .int .i64 who, .int .i64 at_, .int .u64 old, .int .u64 x] w fun e w' => e = .returned (.int .u64 (m.act k who at_ old x).2) ∧ IsRef w' base b v (m.act k who at_ old x).1 ∧ Chg (MemF b v) w w' := by
  by_cases hat : 0 ≤ at_ ∧ at_ < m.words.length
  · refine refDo_in k who at_ old x hk h hc hat ⟨?_, hr.2⟩
    unfold rd
    rw [List.getD_eq_getElem?_getD, List.getElem?_eq_getElem (by omega)]
    exact hr.1 _ (List.getElem_mem _)
  · exact refDo_out k who at_ old x hk h hc hat

set_option maxHeartbeats 1000000 in
theorem refPeek_calls (at_ : Int) (h : IsRef w base b v m) :
    Calls Try.prog 68 #[.pointer (some ⟨b, 0, none⟩), .int .i64 at_] w fun e w' => e = .returned (.tuple #[.int .u64 (m.peek at_).1, .bool (m.peek at_).2]) ∧ Bw w w' := by
  have HB := Aside0.mk (Bw.refl w)
  obtain ⟨h1, h2, h3, h4⟩ := h
  by_cases n1 : at_ < 0
  · have HP := Aside0.mk (show m.peek at_ = (0, false) by unfold MemS.peek; rw [if_neg (by omega)])
    have d1 : decide (at_ < 0) = true := by simpa using n1
    clear h2 h3 h4
    go_enter Try.func68, Try.ntmps68
    go_wp2_with fail
    go_ret2
    rw [HP.out]
    exact ⟨rfl, HB.out⟩
  · have d1 : decide (at_ < 0) = false := by simpa using n1
    obtain ⟨A, cap, rfl⟩ := own_slice h3
    have k0 : w.cell? ⟨b, 0, none⟩ = some (.slice A m.words.length cap) := h2.cell 0 _ rfl
    by_cases n2 : at_ < m.words.length
    · have HP := Aside0.mk (show m.peek at_ = (rd m.words at_, true) by unfold MemS.peek; rw [if_pos (by omega)])
      obtain ⟨g, cap', he, _, _⟩ := h3.form (by omega)
      injection he with e1 e2 e3
      subst e1 e3
      have x0 := (own_at h3 at_ (by omega) (by omega)).1
      have d2 : decide ((m.words.length : Int) ≤ at_) = false := by simp; omega
      have a1 : 0 ≤ at_ := by omega
      clear h2 h3 h4 n1
      go_enter Try.func68, Try.ntmps68
      go_wp2_with fail
      go_ret2
      rw [HP.out]
      exact ⟨rfl, HB.out⟩
    · have HP := Aside0.mk (show m.peek at_ = (0, false) by unfold MemS.peek; rw [if_neg (by omega)])
      have d2 : decide ((m.words.length : Int) ≤ at_) = true := by simp; omega
      clear h2 h3 h4
      go_enter Try.func68, Try.ntmps68
      go_wp2_with fail
      go_ret2
      rw [HP.out]
      exact ⟨rfl, HB.out⟩
end
set_option maxHeartbeats 1000000 in
theorem refNew_calls (A : Option Addr) (cap : Nat) (xs : List Int) (w : World) (hx : Rows (fun x => [Value.int .u64 x]) 1 w A xs) (hs : xs.length ≤ 262144) :
    Calls Try.prog 34 #[.slice A xs.length cap] w fun e w' => ∃ b v, e = .returned (.pointer (some ⟨b, 0, none⟩)) ∧ IsRef w' w.heap.size b v (memOf xs) ∧ Bw w w' := by
  have HB := Aside0.mk (Bw.refl w)
  have HX := Aside0.mk hx
  clear hx
  go_enter Try.func34, Try.ntmps34
  go_wp2
  go_loopw [4] (fun i wr => ∃ (k : Nat) (v : Value), k ≤ xs.length ∧ i = .int .i64 k ∧ Aside0 (IsRef wr w.heap.size w.heap.size v (memOf (xs.take k))) ∧ Aside0 (Bw w wr)) (fun i _ => xs.length - (intOf i).toNat)
  case atStart =>
    refine ⟨0, .slice none 0 0, by omega, rfl, ⟨Nat.le_refl _, ?_, own_nil _ _ _ _, by simp [Value.ownBlock]⟩, ⟨HB.out.alloc _⟩⟩
    exact Blk.new w _ _
  case round =>
    obtain ⟨k, v, hk, rfl, HM, HW⟩ := hrel
    by_cases hlt : k < xs.length
    · obtain ⟨y, hy⟩ : ∃ y, xs[k]? = some y := ⟨_, List.getElem?_eq_getElem hlt⟩
      obtain ⟨ad, rfl, hck⟩ := (HX.out.bw HW.out).at1 k y hy
      obtain ⟨i0, hi, hzz⟩ := Option.map_eq_some_iff.1 infoU
      simp only [Prod.mk.injEq] at hzz
      obtain ⟨hz, hs1, hb1⟩ := hzz
      have hlen : (memOf (xs.take k)).words.length = k := by simp [memOf]; omega
      have hown : wr.ownsRow w.heap.size 55 1 v k (nums .u64 (xs.take k)) := by have := HM.out.2.2.1; rw [hlen] at this; exact this
      obtain ⟨A', c', rfl⟩ := own_slice hown
      have k0 := HM.out.cells.1
      have f0 := HM.out.2.1.free 0
      have hbl := HM.out.2.1.lt
      have HO := Aside0.mk hown
      have HY := Aside0.mk hy
      have HI := Aside0.mk hi
      have HZ := Aside0.mk hz
      have HS1 := Aside0.mk hs1
      have HB1 := Aside0.mk hb1
      clear hy hi hz hs1 hb1 hlen hown
      have HO1 := Aside0.mk (show (wr.alloc (.cells #[.int .u64 y] 55)).drew.ownsRow w.heap.size 55 1 (.slice A' k c') k (nums .u64 (xs.take k)) from HO.out.alloc _)
      have HN1 := Aside0.mk (show ∀ (j : Nat) (u : Value), [Value.int .u64 y][j]? = some u → (wr.alloc (.cells #[.int .u64 y] 55)).drew.cell? ((⟨wr.heap.size, 0, none⟩ : Addr).add j) = some u from World.news_of_block (w := (wr.alloc (.cells #[.int .u64 y] 55)).drew) (cs := #[.int .u64 y]) (Blk.new wr #[.int .u64 y] 55))
      have HBK := Aside0.mk (show Blk (wr.alloc (.cells #[.int .u64 y] 55)).drew w.heap.size (memCells (.slice A' k c') (memOf (xs.take k))) 78 from HM.out.2.1.alloc _)
      have HNE := Aside0.mk (own_ne HO1.out HBK.out (by decide))
      have HSZ := Aside0.mk (show (wr.alloc (.cells #[.int .u64 y] 55)).drew.heap.size = wr.heap.size + 1 by simp)
      have HBS := Aside0.mk HW.out.size
      have HBS2 := Aside0.mk (show w.heap.size ≤ (wr.alloc (.cells #[.int .u64 y] 55)).drew.heap.size by have := HSZ.out; have := HBS.out; omega)
      have h63 : k + 1 ≤ maxLen := by unfold maxLen; omega
      go_wp2_with fail
      go_region_law (refine step_append_lies _ rfl (.tmp 17) (.tmp 22) 41 (by rfl) w.heap.size 55 i0 (.int .u64 0) 1 8 Try.underlying41 HI.out HZ.out HS1.out HB1.out rfl (by omega) (.slice A' k c') k (nums .u64 (xs.take k)) (by rfl) HO1.out ⟨wr.heap.size, 0, none⟩ 1 1 [.int .u64 y] (by rfl) rfl HN1.out (by simp [Value.oneCell']) (by omega) h63 (by omega) (by have := HSZ.out; have := HBS.out; omega) (wr.heap.size + 1) HSZ.out ?_; intro g cap2 w2 hown2 hg2 hat2 hlt2; have HB2 := Aside0.mk (HBK.out.of_block (hg2.block _ HBK.out.lt HNE.out)); have c2 := HB2.out.cell 0 _ rfl; have f2 := HB2.out.free 0; have HO2 := Aside0.mk hown2; have HBW2 := Aside0.mk ((HW.out.alloc (.cells #[.int .u64 y] 55)).drew.grown hg2 HBS2.out (own_base HO1.out)); have l2 := HB2.out.lt; clear hown2 hg2 hat2)
      all_goals go_wp2_with fail
      all_goals go_roundw
      all_goals first
        | (case rel =>
            have hlen : (xs.take (k + 1)).length = k + 1 := by simp; omega
            have e : xs.take (k + 1) = xs.take k ++ [y] := by rw [List.take_add_one, HY.out]; rfl
            have hne : some w.heap.size ≠ (Value.slice (some ⟨g, 0, none⟩) (k + 1) cap2).ownBlock := own_ne HO2.out HB2.out (by decide)
            refine ⟨k + 1, .slice (some ⟨g, 0, none⟩) (k + 1) cap2, by omega, by go_num, ⟨Nat.le_refl _, ?_, ?_, Ne.symm hne⟩, ⟨HBW2.out.setCell (Nat.le_refl _) _⟩⟩
            · have := HB2.out.set 0 (.slice (some ⟨g, 0, none⟩) (k + 1) cap2)
              simpa [memCells, memOf] using this
            · show World.ownsRow _ _ _ _ _ (xs.take (k + 1)).length (nums .u64 (xs.take (k + 1)))
              rw [hlen, e]
              refine own_setCell ?_ hne _
              have := HO2.out
              simpa [nums] using this)
        | (case measure => simp [intOf]; omega)
    · obtain rfl : k = xs.length := by omega
      go_wp2
      go_ret
      have := HM.out
      rw [List.take_length] at this
      exact ⟨_, _, rfl, this, HW.out⟩
end Go.Proofs.Ytclippikdfcgkaa.M
