/- Agenda: the document's list: Put, At, Drop; the law's same. Conditions: the lists are of numbers of their kind, no more than 1000000. -/
import Derived.Test.YtoklhhcjcecbbaaGn
import Derived.Test.YtoklhhcjcecbbaaGm
namespace Go.Proofs.Ytoklhhcjcecbbaa.M
open Go.RowKit Go.Maps Go.Proofs.YtoklhhcjcecbbaaW.PrintWords Go.Proofs.YtoklhhcjcecbbaaW.PrintLast Go.Proofs.YtoklhhcjcecbbaaW.PrintMore
set_option linter.unusedVariables false
set_option linter.unusedSimpArgs false
theorem infoR : (Try.prog.info? 32).map (fun i => (i.zero, i.size, i.bytes)) = some (some (.agg #[.int .i64 0, .int .i64 0]), 2, 16) := by kernel_rfl
def putR : List It → It → List It
  | [], x => [x]
  | a :: l, x => if aheadB x a = true then x :: a :: l else a :: putR l x
theorem putR_len : ∀ (l : List It) (x : It), (putR l x).length = l.length + 1
  | [], x => rfl
  | a :: l, x => by
    rw [putR]
    split
    · rfl
    · simp [putR_len l x]
abbrev ownR (w : World) (base : Nat) (v : Value) (l : List It) : Prop := w.ownsRow base 32 2 v l.length (l.flatMap encI)
theorem ownR.rows {w : World} {base : Nat} {v : Value} {l : List It} (h : ownR w base v l) : ∃ A c, v = .slice A l.length c ∧ Rows encI 2 w A l := Rows.own (enc := encI) (sz := 2) (fun _ => rfl) h rfl (own_len h)
theorem ahead_ff {xa xb ya yb : Int} (h1 : decide (xa < ya) = false) (h2 : (xa == ya) = false) : aheadB (xa, xb) (ya, yb) = false := by unfold aheadB; rw [h1, h2]; rfl
theorem ahead_t {xa xb ya yb : Int} (h1 : decide (xa < ya) = true) : aheadB (xa, xb) (ya, yb) = true := by unfold aheadB; rw [h1]; rfl
theorem ahead_3 {xa xb ya yb : Int} {b : Bool} (h1 : decide (xa < ya) = false) (h2 : (xa == ya) = true) (h3 : decide (xb < yb) = b) : aheadB (xa, xb) (ya, yb) = b := by unfold aheadB; rw [h1, h2, h3]; rfl
section
variable {w w1 : World} {base ab b mb : Nat} {v : Value} {L : List It} {D : DataW Unit}
set_option maxHeartbeats 4000000 in
set_option maxRecDepth 100000 in
theorem refPut_calls (A : Option Addr) (c : Nat) (l : List It) (x : It) (w : World) (hx : Rows encI 2 w A l) (hl : l.length ≤ 1000000) :
    Calls Try.prog 11 #[.slice A l.length c, itV x] w fun e w' => ∃ v, e = .returned v ∧ ownR w' w.heap.size v (putR l x) ∧ Bw w w' := by
  obtain ⟨xa, xb⟩ := x
  obtain ⟨w0, hw0⟩ : ∃ w0, w0 = w.alloc (.cells #[.int .i64 xa, .int .i64 xb] 32) := ⟨_, rfl⟩
  have HB0 := Aside0.mk (show Bw w w0 by rw [hw0]; exact (Bw.refl w).alloc _)
  have HK0 := Aside0.mk (show Blk w0 w.heap.size #[.int .i64 xa, .int .i64 xb] 32 by rw [hw0]; exact Blk.new w _ _)
  have HX := Aside0.mk (hx.bw HB0.out)
  clear hx
  go_enter Try.func11, Try.ntmps11
  go_wp2_with fail
  rw [← hw0]
  clear hw0
  go_loopw [5, 6, 7] (fun ov dv iv wr => ∃ (i : Nat) (d : Bool) (out : List It) (n : Nat), i ≤ l.length ∧ iv = .int .i64 i ∧ dv = .bool d ∧ n ≤ i + (if d then 1 else 0) ∧ out.length = n ∧ Aside0 (out ++ (if d then l.drop i else putR (l.drop i) (xa, xb)) = putR l (xa, xb)) ∧ Aside0 (wr.ownsRow w0.heap.size 32 2 ov n (out.flatMap encI)) ∧ Aside0 (Bw w0 wr)) (fun ov dv iv _ => l.length - (intOf iv).toNat)
  case atStart => exact ⟨0, false, [], 0, by omega, rfl, rfl, by simp, rfl, ⟨rfl⟩, ⟨own_nil w0 _ _ _⟩, ⟨Bw.refl w0⟩⟩
  case round =>
    obtain ⟨i, d, out, n, hi, rfl, rfl, hn, hln, HE, HO, HW⟩ := hrel
    have hn2 : n ≤ 1000001 := by cases d <;> simp at hn <;> omega
    obtain ⟨a0, a1, af, al⟩ := two_st (HK0.out.bw HW.out)
    by_cases hlt : i < l.length
    · obtain ⟨⟨ya, yb⟩, hy⟩ : ∃ y, l[i]? = some y := ⟨_, List.getElem?_eq_getElem hlt⟩
      have HD := Aside0.mk (show l.drop i = (ya, yb) :: l.drop (i + 1) by rw [List.drop_eq_getElem_cons hlt]; rw [List.getElem?_eq_getElem hlt] at hy; rw [Option.some.inj hy])
      obtain ⟨ad, hA, m0, mi⟩ := (HX.out.bw HW.out).atS i _ hy
      subst hA
      have s0 := m0 _ rfl
      have s1 := mi 1 _ (by decide) rfl
      have S0 : ∀ p : BwW wr, p.W.cell? (ad.add (i * 2)) = some (.int .i64 ya) := fun p => p.cell (m0 _ rfl)
      have S1 : ∀ p : BwW wr, p.W.cell? ⟨(ad.add (i * 2)).block, (ad.add (i * 2)).off + 1, none⟩ = some (.int .i64 yb) := fun p => p.cell (mi 1 _ (by decide) rfl)
      have N0 : ∀ p : BwW wr, p.W.cell? ⟨w.heap.size, 0, none⟩ = some (.int .i64 xa) := fun p => p.cell a0
      have N1 : ∀ p : BwW wr, p.W.cell? ⟨w.heap.size, 1, none⟩ = some (.int .i64 xb) := fun p => p.cell a1
      have HS := Aside0.mk (show ∀ W, Bw w0 W → W.cell? (ad.add (i * 2)) = some (.int .i64 ya) ∧ W.cell? ⟨(ad.add (i * 2)).block, (ad.add (i * 2)).off + 1, none⟩ = some (.int .i64 yb) ∧ W.cell? ⟨w.heap.size, 0, none⟩ = some (.int .i64 xa) ∧ W.cell? ⟨w.heap.size, 1, none⟩ = some (.int .i64 xb) from fun W hW => by
        obtain ⟨a0, a1, _⟩ := two_st (HK0.out.bw hW)
        obtain ⟨ad', hA, m0, mi⟩ := (HX.out.bw hW).atS i _ hy
        obtain rfl := Option.some.inj hA
        exact ⟨m0 _ rfl, mi 1 _ (by decide) rfl, a0, a1⟩)
      clear hy m0 mi s0 s1 a0 a1 af al
      cases d
      · cases h1 : decide (xa < ya)
        · cases h2 : (xa == ya)
          · have HA := Aside0.mk (ahead_ff (xb := xb) (yb := yb) h1 h2)
            go_wp2_with fail
            refine wp_region_bw (by kernel_rfl) (by kernel_rfl) ?_
            repeat (first | go_big_quiet_skip | (go_big_quiet_want; go_big_quiet_op; first | go_big_quiet_on | go_big_quiet_call (fail)))
            refine wpQuiet_nil ?_
            rintro w3 ⟨⟨_, hb3⟩, rfl⟩
            have HW3 := Aside0.mk (HW.out.trans hb3)
            have HO := Aside0.mk (pw_own_below HO.out hb3)
            obtain ⟨s0, s1, a0, a1⟩ := HS.out _ HW3.out
            clear S0 S1 N0 N1 hb3
            go_wp2_with (at_builtin; go_loud (refine print_append_cells (w0 := w0) w0.heap.size rfl (.tmp 50) (.tmp 55) 26 32 (.agg #[.int .i64 0, .int .i64 0]) 2 16 rfl Try.underlying26 infoR rfl (by omega) (by omega) u5 n _ [.int .i64 ya, .int .i64 yb] rfl rfl rfl (by simp [Value.oneCell']) HO.out HW3.out HW3.out.size (by omega) ?_); intro v5 w5 hown5 hbel5 hg5 hat5)
            have HO5 := Aside0.mk hown5
            have HW5 := Aside0.mk hbel5
            clear hown5 hg5 hat5 hbel5
            go_roundw
            case rel =>
              refine ⟨i + 1, false, out ++ [(ya, yb)], n + 1, by omega, by go_num, rfl, by simp at hn ⊢; omega, by simp; omega, ⟨?_⟩, ⟨by rw [List.flatMap_append]; exact HO5.out⟩, HW5⟩
              rw [← HE.out, HD.out]
              simp [putR, HA.out]
            case measure => simp [intOf]; omega
          · cases h3 : decide (xb < yb)
            · have HA := Aside0.mk (ahead_3 h1 h2 h3)
              go_wp2_with fail
              refine wp_region_bw (by kernel_rfl) (by kernel_rfl) ?_
              repeat (first | go_big_quiet_skip | (go_big_quiet_want; go_big_quiet_op; first | go_big_quiet_on | go_big_quiet_call (fail)))
              refine wpQuiet_nil ?_
              rintro w3 ⟨⟨_, hb3⟩, rfl⟩
              have HW3 := Aside0.mk (HW.out.trans hb3)
              have HO := Aside0.mk (pw_own_below HO.out hb3)
              obtain ⟨s0, s1, a0, a1⟩ := HS.out _ HW3.out
              clear S0 S1 N0 N1 hb3
              go_wp2_with (at_builtin; go_loud (refine print_append_cells (w0 := w0) w0.heap.size rfl (.tmp 50) (.tmp 55) 26 32 (.agg #[.int .i64 0, .int .i64 0]) 2 16 rfl Try.underlying26 infoR rfl (by omega) (by omega) u5 n _ [.int .i64 ya, .int .i64 yb] rfl rfl rfl (by simp [Value.oneCell']) HO.out HW3.out HW3.out.size (by omega) ?_); intro v5 w5 hown5 hbel5 hg5 hat5)
              have HO5 := Aside0.mk hown5
              have HW5 := Aside0.mk hbel5
              clear hown5 hg5 hat5 hbel5
              go_roundw
              case rel =>
                refine ⟨i + 1, false, out ++ [(ya, yb)], n + 1, by omega, by go_num, rfl, by simp at hn ⊢; omega, by simp; omega, ⟨?_⟩, ⟨by rw [List.flatMap_append]; exact HO5.out⟩, HW5⟩
                rw [← HE.out, HD.out]
                simp [putR, HA.out]
              case measure => simp [intOf]; omega
            · have HA := Aside0.mk (ahead_3 h1 h2 h3)
              go_wp2_with fail
              refine wp_region_bw (by kernel_rfl) (by kernel_rfl) ?_
              repeat (first | go_big_quiet_skip | (go_big_quiet_want; go_big_quiet_op; first | go_big_quiet_on | go_big_quiet_call (fail)))
              refine wpQuiet_nil ?_
              rintro w3 ⟨⟨_, hb3⟩, rfl⟩
              have HW3 := Aside0.mk (HW.out.trans hb3)
              have HO := Aside0.mk (pw_own_below HO.out hb3)
              obtain ⟨s0, s1, a0, a1⟩ := HS.out _ HW3.out
              clear S0 S1 N0 N1 hb3
              go_wp2_with (at_builtin; first | (refine print_append_cells (w0 := w0) w0.heap.size rfl (.tmp 46) (.tmp 48) 26 32 (.agg #[.int .i64 0, .int .i64 0]) 2 16 rfl Try.underlying26 infoR rfl (by omega) (by omega) u5 n _ [.int .i64 xa, .int .i64 xb] rfl rfl rfl (by simp [Value.oneCell']) HO.out HW3.out HW3.out.size (by omega) ?_; intro v4 w4 hown4 hbel4 hg4 hat4; have HO4 := Aside0.mk hown4; have HW4 := Aside0.mk hbel4; obtain ⟨s0, s1, a0, a1⟩ := HS.out _ hbel4; clear hown4 hg4 hat4 hbel4) | (refine print_append_cells (w0 := w0) w0.heap.size rfl (.tmp 50) (.tmp 55) 26 32 (.agg #[.int .i64 0, .int .i64 0]) 2 16 rfl Try.underlying26 infoR rfl (by omega) (by omega) v4 (n + 1) _ [.int .i64 ya, .int .i64 yb] rfl rfl rfl (by simp [Value.oneCell']) HO4.out HW4.out HW4.out.size (by omega) ?_; intro v5 w5 hown5 hbel5 hg5 hat5))
              have HO5 := Aside0.mk hown5
              have HW5 := Aside0.mk hbel5
              clear hown5 hg5 hat5 hbel5
              go_roundw
              case rel =>
                refine ⟨i + 1, true, out ++ [(xa, xb)] ++ [(ya, yb)], n + 1 + 1, by omega, by go_num, rfl, by simp at hn ⊢; omega, by simp; omega, ⟨?_⟩, ⟨by rw [List.flatMap_append, List.flatMap_append]; exact HO5.out⟩, HW5⟩
                rw [← HE.out, HD.out]
                simp [putR, HA.out]
              case measure => simp [intOf]; omega
        · have HA := Aside0.mk (ahead_t (xb := xb) (yb := yb) h1)
          go_wp2_with fail
          refine wp_region_bw (by kernel_rfl) (by kernel_rfl) ?_
          repeat (first | go_big_quiet_skip | (go_big_quiet_want; go_big_quiet_op; first | go_big_quiet_on | go_big_quiet_call (fail)))
          refine wpQuiet_nil ?_
          rintro w3 ⟨⟨_, hb3⟩, rfl⟩
          have HW3 := Aside0.mk (HW.out.trans hb3)
          have HO := Aside0.mk (pw_own_below HO.out hb3)
          obtain ⟨s0, s1, a0, a1⟩ := HS.out _ HW3.out
          clear S0 S1 N0 N1 hb3
          go_wp2_with (at_builtin; first | (refine print_append_cells (w0 := w0) w0.heap.size rfl (.tmp 46) (.tmp 48) 26 32 (.agg #[.int .i64 0, .int .i64 0]) 2 16 rfl Try.underlying26 infoR rfl (by omega) (by omega) u5 n _ [.int .i64 xa, .int .i64 xb] rfl rfl rfl (by simp [Value.oneCell']) HO.out HW3.out HW3.out.size (by omega) ?_; intro v4 w4 hown4 hbel4 hg4 hat4; have HO4 := Aside0.mk hown4; have HW4 := Aside0.mk hbel4; obtain ⟨s0, s1, a0, a1⟩ := HS.out _ hbel4; clear hown4 hg4 hat4 hbel4) | (refine print_append_cells (w0 := w0) w0.heap.size rfl (.tmp 50) (.tmp 55) 26 32 (.agg #[.int .i64 0, .int .i64 0]) 2 16 rfl Try.underlying26 infoR rfl (by omega) (by omega) v4 (n + 1) _ [.int .i64 ya, .int .i64 yb] rfl rfl rfl (by simp [Value.oneCell']) HO4.out HW4.out HW4.out.size (by omega) ?_; intro v5 w5 hown5 hbel5 hg5 hat5))
          have HO5 := Aside0.mk hown5
          have HW5 := Aside0.mk hbel5
          clear hown5 hg5 hat5 hbel5
          go_roundw
          case rel =>
            refine ⟨i + 1, true, out ++ [(xa, xb)] ++ [(ya, yb)], n + 1 + 1, by omega, by go_num, rfl, by simp at hn ⊢; omega, by simp; omega, ⟨?_⟩, ⟨by rw [List.flatMap_append, List.flatMap_append]; exact HO5.out⟩, HW5⟩
            rw [← HE.out, HD.out]
            simp [putR, HA.out]
          case measure => simp [intOf]; omega
      · skip
        go_wp2_with fail
        refine wp_region_bw (by kernel_rfl) (by kernel_rfl) ?_
        repeat (first | go_big_quiet_skip | (go_big_quiet_want; go_big_quiet_op; first | go_big_quiet_on | go_big_quiet_call (fail)))
        refine wpQuiet_nil ?_
        rintro w3 ⟨⟨_, hb3⟩, rfl⟩
        have HW3 := Aside0.mk (HW.out.trans hb3)
        have HO := Aside0.mk (pw_own_below HO.out hb3)
        obtain ⟨s0, s1, a0, a1⟩ := HS.out _ HW3.out
        clear S0 S1 N0 N1 hb3
        go_wp2_with (at_builtin; go_loud (refine print_append_cells (w0 := w0) w0.heap.size rfl (.tmp 50) (.tmp 55) 26 32 (.agg #[.int .i64 0, .int .i64 0]) 2 16 rfl Try.underlying26 infoR rfl (by omega) (by omega) u5 n _ [.int .i64 ya, .int .i64 yb] rfl rfl rfl (by simp [Value.oneCell']) HO.out HW3.out HW3.out.size (by omega) ?_); intro v5 w5 hown5 hbel5 hg5 hat5)
        have HO5 := Aside0.mk hown5
        have HW5 := Aside0.mk hbel5
        clear hown5 hg5 hat5 hbel5
        go_roundw
        case rel =>
          refine ⟨i + 1, true, out ++ [(ya, yb)], n + 1, by omega, by go_num, rfl, by simp at hn ⊢; omega, by simp; omega, ⟨?_⟩, ⟨by rw [List.flatMap_append]; exact HO5.out⟩, HW5⟩
          rw [← HE.out, HD.out]
          simp
        case measure => simp [intOf]; omega
    · obtain rfl : i = l.length := by omega
      have HE := Aside0.mk (show out ++ (if d then [] else [(xa, xb)]) = putR l (xa, xb) by rw [← HE.out, List.drop_of_length_le (Nat.le_refl _)]; rfl)
      cases d
      · go_wp2_with (at_builtin; go_loud (refine print_append_cells (w0 := w0) w0.heap.size rfl (.tmp 59) (.tmp 61) 26 32 (.agg #[.int .i64 0, .int .i64 0]) 2 16 rfl Try.underlying26 infoR rfl (by omega) (by omega) u5 n _ [.int .i64 xa, .int .i64 xb] rfl rfl rfl (by simp [Value.oneCell']) HO.out HW.out HW.out.size (by omega) ?_); intro v4 w4 hown4 hbel4 hg4 hat4)
        have HO4 := Aside0.mk hown4
        have HW4 := Aside0.mk hbel4
        clear hown4 hg4 hat4 hbel4
        go_wp2_with fail
        go_ret
        refine ⟨v4, rfl, ?_, HB0.out.trans HW4.out⟩
        have e : putR l (xa, xb) = out ++ [(xa, xb)] := by rw [← HE.out]; rfl
        unfold ownR
        rw [e, List.flatMap_append, List.length_append, hln]
        exact own_weaken HO4.out HB0.out.size
      · go_wp2_with fail
        go_ret
        refine ⟨_, rfl, ?_, HB0.out.trans HW.out⟩
        have e : putR l (xa, xb) = out := by rw [← HE.out]; simp
        unfold ownR
        rw [e, hln]
        exact own_weaken HO.out HB0.out.size
set_option maxHeartbeats 1000000 in
theorem same36_calls (A B : Option Addr) (c c' : Nat) (l : List It) (w : World) (ha : Rows encI 2 w A l) (hb : Rows encI 2 w B l) (hl : l.length ≤ 1000000) :
    Calls Try.prog 13 #[.slice A l.length c, .slice B l.length c'] w fun e w' => e = .returned (.bool true) ∧ Bw w w' := by
  have HA := Aside0.mk ha
  have HB := Aside0.mk hb
  have HW0 := Aside0.mk (Bw.refl w)
  clear ha hb
  go_enter Try.func13, Try.ntmps13
  go_wp2_with fail
  go_loopw [5] (fun iv wr => ∃ i : Nat, i ≤ l.length ∧ iv = .int .i64 i ∧ Aside0 (Bw w wr)) (fun iv _ => l.length - (intOf iv).toNat)
  case atStart => exact ⟨0, by omega, rfl, HW0⟩
  case round =>
    obtain ⟨i, hi, rfl, HW⟩ := hrel
    by_cases hlt : i < l.length
    · obtain ⟨⟨k, h⟩, he⟩ : ∃ e, l[i]? = some e := ⟨_, List.getElem?_eq_getElem hlt⟩
      obtain ⟨ad, hA, m0, mi⟩ := (HA.out.bw HW.out).atS i _ he
      obtain ⟨ad', hB, n0, ni⟩ := (HB.out.bw HW.out).atS i _ he
      subst hA
      subst hB
      have S0 : ∀ p : BwW wr, p.W.cell? (ad.add (i * 2)) = some (.int .i64 k) := fun p => p.cell (m0 _ rfl)
      have S1 : ∀ p : BwW wr, p.W.cell? ⟨(ad.add (i * 2)).block, (ad.add (i * 2)).off + 1, none⟩ = some (.int .i64 h) := fun p => p.cell (mi 1 _ (by decide) rfl)
      have N0 : ∀ p : BwW wr, p.W.cell? (ad'.add (i * 2)) = some (.int .i64 k) := fun p => p.cell (n0 _ rfl)
      have N1 : ∀ p : BwW wr, p.W.cell? ⟨(ad'.add (i * 2)).block, (ad'.add (i * 2)).off + 1, none⟩ = some (.int .i64 h) := fun p => p.cell (ni 1 _ (by decide) rfl)
      have q1 : (k != k) = false := by simp
      have q2 : (h != h) = false := by simp
      clear he m0 mi n0 ni
      go_wp2_with fail
      refine wp_region_bw (by kernel_rfl) (by kernel_rfl) ?_
      repeat (first | go_big_quiet_skip | (go_big_quiet_want; go_big_quiet_op; first | go_big_quiet_on | go_big_quiet_call (fail)))
      refine wpQuiet_nil ?_
      rintro w3 ⟨⟨_, hb3⟩, rfl⟩
      have HB3 := Aside0.mk (HW.out.trans hb3)
      clear S0 S1 N0 N1 hb3
      go_wp2_with fail
      go_roundw
      case rel => exact ⟨i + 1, by omega, by go_num, HB3⟩
      case measure => simp [intOf]; omega
    · go_wp2_with fail
      go_ret
      exact ⟨rfl, HW.out⟩
end
end Go.Proofs.Ytoklhhcjcecbbaa.M
