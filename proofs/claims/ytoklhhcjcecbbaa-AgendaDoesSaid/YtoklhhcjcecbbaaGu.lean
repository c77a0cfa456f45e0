/- Agenda: the document's At and Drop; the law's first. Conditions: the lists are no more than 1000000. -/
import Derived.Test.YtoklhhcjcecbbaaGt
namespace Go.Proofs.Ytoklhhcjcecbbaa.M
open Go.RowKit Go.Maps Go.Proofs.YtoklhhcjcecbbaaW.PrintWords Go.Proofs.YtoklhhcjcecbbaaW.PrintLast Go.Proofs.YtoklhhcjcecbbaaW.PrintMore
set_option linter.unusedVariables false
set_option linter.unusedSimpArgs false
/-- Where a key lies; -1: nowhere. -/
def atL (l : List It) (k : Int) : Int := if hasK l k then (keyAt l k : Int) else -1
theorem atL_hit {l : List It} {k : Int} {i : Nat} {x : It} (hx : l[i]? = some x) (hk : x.2 = k) (hb : ∀ (j : Nat) (y : It), j < i → l[j]? = some y → y.2 ≠ k) : atL l k = i := by
  have hh : hasK l k = true := by
    unfold hasK
    rw [List.any_eq_true]
    exact ⟨x, List.mem_of_getElem? hx, by rw [hk]; simp⟩
  unfold atL
  rw [if_pos hh]
  obtain ⟨y, hy, hyk⟩ := keyAt_some hh
  have h1 : ¬ keyAt l k < i := fun hlt => hb _ y hlt hy hyk
  have h2 : keyAt l k ≤ i := by
    apply Classical.byContradiction
    intro hn
    have hlt : i < keyAt l k := by omega
    have := List.not_of_lt_findIdx hlt
    have hil := (List.getElem?_eq_some_iff.1 hx).1
    rw [List.getElem?_eq_getElem hil] at hx
    rw [Option.some.inj hx] at this
    simp [hk] at this
  omega
theorem atL_miss {l : List It} {k : Int} (hb : ∀ (j : Nat) (y : It), l[j]? = some y → y.2 ≠ k) : hasK l k = false ∧ atL l k = -1 := by
  have hh : hasK l k = false := by
    unfold hasK
    rw [List.any_eq_false]
    intro x hx
    obtain ⟨i, hi⟩ := List.mem_iff_getElem?.1 hx
    simpa using hb i x hi
  exact ⟨hh, by unfold atL; rw [hh]; rfl⟩
section
variable {w w1 : World} {base ab b mb : Nat} {v : Value} {L l : List It} {D : DataW Unit}
set_option maxHeartbeats 1000000 in
theorem refAt_calls (A : Option Addr) (c : Nat) (l : List It) (k : Int) (w : World) (hx : Rows encI 2 w A l) (hl : l.length ≤ 1000000) :
    Calls Try.prog 18 #[.slice A l.length c, .int .i64 k] w fun e w' => e = .returned (.int .i64 (atL l k)) ∧ Bw w w' := by
  have HX := Aside0.mk hx
  clear hx
  go_enter Try.func18, Try.ntmps18
  go_wp2_with fail
  go_loopw [5] (fun iv wr => ∃ i : Nat, i ≤ l.length ∧ iv = .int .i64 i ∧ Aside0 (∀ j y, j < i → l[j]? = some y → y.2 ≠ k) ∧ Aside0 (Bw w wr)) (fun iv _ => l.length - (intOf iv).toNat)
  case atStart => exact ⟨0, by omega, rfl, ⟨fun j y h => absurd h (Nat.not_lt_zero _)⟩, ⟨Bw.refl w⟩⟩
  case round =>
    obtain ⟨i, hi, rfl, HB, HW⟩ := hrel
    by_cases hlt : i < l.length
    · obtain ⟨⟨ya, yk⟩, hy⟩ := getLt (L := l) (i := i) hlt
      obtain ⟨ad, rfl, m0, mi⟩ := (HX.out.bw HW.out).atS i _ hy
      have s1 := mi 1 _ (by decide) rfl
      have HY := Aside0.mk hy
      clear hy m0 mi
      cases hq : (yk == k)
      · have HQ := Aside0.mk (show yk ≠ k by simpa using hq)
        go_wp2_with fail
        go_roundw
        case rel =>
          refine ⟨i + 1, by omega, by go_num, ⟨fun j y hj hjy => ?_⟩, HW⟩
          by_cases e : j = i
          · subst e
            obtain rfl := Option.some.inj (HY.out.symm.trans hjy)
            exact HQ.out
          · exact HB.out j y (by omega) hjy
        case measure => simp [intOf]; omega
      · have HQ := Aside0.mk (show yk = k by simpa using hq)
        go_wp2_with fail
        go_ret
        refine ⟨ret_int ?_, HW.out⟩
        exact (atL_hit HY.out HQ.out HB.out).symm
    · obtain rfl : i = l.length := by omega
      go_wp2_with fail
      go_ret
      refine ⟨ret_int ?_, HW.out⟩
      exact (atL_miss (fun j y hjy => HB.out j y (List.getElem?_eq_some_iff.1 hjy).1 hjy)).2.symm
set_option maxHeartbeats 1000000 in
theorem refDrop_calls (A : Option Addr) (c : Nat) (l : List It) (p : Int) (w : World) (hx : Rows encI 2 w A l) (hl : l.length ≤ 1000000) :
    Calls Try.prog 47 #[.slice A l.length c, .int .i64 p] w fun e w' => ∃ v, e = .returned v ∧ ownR w' w.heap.size v (dropN l 0 p) ∧ Bw w w' := by
  have HX := Aside0.mk hx
  clear hx
  go_enter Try.func47, Try.ntmps47
  go_wp2_with fail
  go_loopw [5, 6] (fun ov iv wr => ∃ (i n : Nat) (out : List It), i ≤ l.length ∧ iv = .int .i64 i ∧ n ≤ i ∧ out.length = n ∧ Aside0 (out ++ dropN (l.drop i) i p = dropN l 0 p) ∧ Aside0 (wr.ownsRow w.heap.size 32 2 ov n (out.flatMap encI)) ∧ Aside0 (Bw w wr)) (fun _ iv _ => l.length - (intOf iv).toNat)
  case atStart => exact ⟨0, 0, [], by omega, rfl, by omega, rfl, ⟨rfl⟩, ⟨own_nil w _ _ _⟩, ⟨Bw.refl w⟩⟩
  case round =>
    obtain ⟨i, n, out, hi, rfl, hn, hln, HE, HO, HW⟩ := hrel
    by_cases hlt : i < l.length
    · obtain ⟨⟨ya, yb⟩, hy⟩ := getLt (L := l) (i := i) hlt
      have HD := Aside0.mk (show l.drop i = (ya, yb) :: l.drop (i + 1) by rw [List.drop_eq_getElem_cons hlt]; rw [List.getElem?_eq_getElem hlt] at hy; rw [Option.some.inj hy])
      obtain ⟨ad, rfl, m0, mi⟩ := (HX.out.bw HW.out).atS i _ hy
      have s0 := m0 _ rfl
      have s1 := mi 1 _ (by decide) rfl
      clear hy m0 mi
      cases hq : ((i : Int) == p)
      · have HQ := Aside0.mk (show (i : Int) ≠ p by simpa using hq)
        have hq2 : ((i : Int) != p) = true := by simp [bne, hq]
        go_wp2_with (at_builtin; go_loud (refine print_append_cells (w0 := w) w.heap.size rfl (.tmp 16) (.tmp 21) 26 32 (.agg #[.int .i64 0, .int .i64 0]) 2 16 rfl Try.underlying26 infoR rfl (by omega) (by omega) u5 n _ [.int .i64 ya, .int .i64 yb] rfl rfl rfl (by simp [Value.oneCell']) HO.out HW.out HW.out.size (by omega) ?_); intro v5 w5 hown5 hbel5 hg5 hat5)
        have HO5 := Aside0.mk hown5
        have HW5 := Aside0.mk hbel5
        clear hown5 hbel5 hg5 hat5
        go_roundw
        case rel =>
          refine ⟨i + 1, n + 1, out ++ [(ya, yb)], by omega, by go_num, by omega, by simp; omega, ⟨?_⟩, ⟨by rw [List.flatMap_append]; exact HO5.out⟩, HW5⟩
          rw [← HE.out, HD.out, dropN, if_neg HQ.out]
          simp
        case measure => simp [intOf]; omega
      · have HQ := Aside0.mk (show (i : Int) = p by simpa using hq)
        have hq2 : ((i : Int) != p) = false := by simp [bne, hq]
        go_wp2_with fail
        go_roundw
        case rel =>
          refine ⟨i + 1, n, out, by omega, by go_num, by omega, hln, ⟨?_⟩, HO, HW⟩
          rw [← HE.out, HD.out, dropN, if_pos HQ.out]
        case measure => simp [intOf]; omega
    · obtain rfl : i = l.length := by omega
      have HE := Aside0.mk (show dropN l 0 p = out by rw [← HE.out, List.drop_of_length_le (Nat.le_refl _)]; simp [dropN])
      go_wp2_with fail
      go_ret
      refine ⟨_, rfl, ?_, HW.out⟩
      unfold ownR
      rw [HE.out, hln]
      exact HO.out
set_option maxHeartbeats 1000000 in
theorem first36_nil (A : Option Addr) (c : Nat) (w : World) : Calls Try.prog 48 #[.agg #[.int .i64 0, .int .i64 0], .bool false, .slice A 0 c] w fun e w' => e = .returned (.bool true) ∧ Bw w w' := by
  have HB := Aside0.mk (show Bw w (w.alloc (.cells #[.int .i64 0, .int .i64 0] 30)) from (Bw.refl w).alloc _)
  go_enter Try.func48, Try.ntmps48
  go_wp2_with fail
  go_ret
  exact ⟨rfl, HB.out⟩
set_option maxHeartbeats 1000000 in
theorem first36_cons (A : Option Addr) (c n : Nat) (m : It) (t : List It) (w : World) (hx : Rows encI 2 w A (m :: t)) (hn : (m :: t).length = n) : Calls Try.prog 48 #[itV m, .bool true, .slice A n c] w fun e w' => e = .returned (.bool true) ∧ Bw w w' := by
  obtain ⟨a, k⟩ := m
  obtain ⟨w0, hw0⟩ : ∃ w0, w0 = w.alloc (.cells #[.int .i64 a, .int .i64 k] 30) := ⟨_, rfl⟩
  have HB0 := Aside0.mk (show Bw w w0 by rw [hw0]; exact (Bw.refl w).alloc _)
  obtain ⟨a0, a1, af, al⟩ := two_st (show Blk w0 w.heap.size #[.int .i64 a, .int .i64 k] 30 by rw [hw0]; exact Blk.new w _ _)
  obtain ⟨ad, rfl, m0, mi⟩ := (hx.bw HB0.out).atS 0 _ rfl
  have e0 : ad.add (0 * 2) = ad := by cases ad; simp [Addr.add]
  rw [e0] at m0 mi
  have S0 : ∀ p : BwW w0, p.W.cell? ad = some (.int .i64 a) := fun p => p.cell (m0 _ rfl)
  have S1 : ∀ p : BwW w0, p.W.cell? ⟨ad.block, ad.off + 1, none⟩ = some (.int .i64 k) := fun p => p.cell (mi 1 _ (by decide) rfl)
  have e1 : ad.add 0 = ad := by cases ad; simp [Addr.add]
  have N0 : ∀ p : BwW w0, p.W.cell? ⟨w.heap.size, 0, none⟩ = some (.int .i64 a) := fun p => p.cell a0
  have N1 : ∀ p : BwW w0, p.W.cell? ⟨w.heap.size, 1, none⟩ = some (.int .i64 k) := fun p => p.cell a1
  have hn0 : ((n : Int) == 0) = false := by rw [beq_eq_false_iff_ne]; simp at hn; omega
  have hn1 : n ≠ 0 := by simp at hn; omega
  have hn2 : 0 < n := by omega
  have hn3 : (0 : Int) < n := by omega
  clear hx m0 mi hn a0 a1 af al
  go_enter Try.func48, Try.ntmps48
  go_wp2_with fail
  rw [← hw0]
  clear hw0
  refine wp_region_bw (by kernel_rfl) (by kernel_rfl) ?_
  repeat (first | go_big_quiet_skip | (go_big_quiet_want; go_big_quiet_op; first | go_big_quiet_on | go_big_quiet_call (fail)))
  refine wpQuiet_nil ?_
  rintro w3 ⟨⟨_, hb3⟩, rfl⟩
  clear S0 S1 N0 N1
  go_wp2_with fail
  go_ret
  exact ⟨rfl, HB0.out.trans hb3⟩
end
end Go.Proofs.Ytoklhhcjcecbbaa.M
