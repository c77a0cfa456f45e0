/- Agenda: the law AgendaDoes. Conditions: the calls' numbers are of their kind. -/
import Derived.Test.YtoklhhcjcecbbaaGv
import Derived.Test.YtoklhhcjcecbbaaGw
import Derived.Test.YtoklhhcjcecbbaaGx
import Derived.Test.YtoklhhcjcecbbaaGy
namespace Go.Proofs.Ytoklhhcjcecbbaa.M
open Go.RowKit Go.Maps Go.Proofs.YtoklhhcjcecbbaaW.PrintWords Go.Proofs.YtoklhhcjcecbbaaW.PrintLast Go.Proofs.YtoklhhcjcecbbaaW.PrintMore
set_option linter.unusedVariables false
set_option linter.unusedSimpArgs false
abbrev ActT := Int × Int × Int
abbrev encAct : ActT → List Value := fun a => [.int .i64 a.1, .int .i64 a.2.1, .int .i64 a.2.2]
theorem rd_acts {w : World} {a : Option Addr} {len cap : Nat} (h : RdRow [.int .i64, .int .i64, .int .i64] w a len cap) :
    ∃ xs : List ActT, xs.length = len ∧ Rows encAct 3 w a xs ∧ ∀ x ∈ xs, (Lit.int .i64 x.2.1).wf = true ∧ (Lit.int .i64 x.2.2).wf = true := by
  obtain ⟨css, hl, hf, hr⟩ := rd_cells h
  refine ⟨css.map fun cs => (geti cs 0, geti cs 1, geti cs 2), by simpa using hl, hr.map fun cs hcs => ?_, ?_⟩
  · obtain ⟨n, _, rfl, _, h1⟩ := (hf cs hcs).int
    obtain ⟨m, _, rfl, _, h2⟩ := h1.int
    obtain ⟨k, _, rfl, _, h3⟩ := h2.int
    obtain rfl := h3.nil
    rfl
  · intro x hx
    obtain ⟨cs, hcs, rfl⟩ := List.mem_map.1 hx
    obtain ⟨n, _, rfl, hw, h1⟩ := (hf cs hcs).int
    obtain ⟨m, _, rfl, hw', h2⟩ := h1.int
    obtain ⟨k, _, rfl, hw'', h3⟩ := h2.int
    obtain rfl := h3.nil
    exact ⟨hw', hw''⟩
section
variable {w w1 : World} {base ab b mb : Nat} {v : Value} {L l : List It} {D : DataW Unit} {A : Option Addr}
theorem does_any (h : AgL w base ab b mb v l) (hr : LR w A l) (c : Nat) (hl : l.length ≤ 1000) (hc : l.length ≤ c) (kind due key : Int) (hwd : (Lit.int .i64 due).wf = true) (hwk : (Lit.int .i64 key).wf = true) :
    Calls Try.prog 15 #[.pointer (some ⟨ab, 0, none⟩), .slice A l.length c, .agg #[.int .i64 kind, .int .i64 due, .int .i64 key]] w (DoesP w base ab b mb v l) := by
  cases q0 : (kind == 0)
  · cases q1 : (kind == 1)
    · cases q2 : (kind == 2)
      · cases q3 : (kind == 3)
        · cases q4 : (kind == 4)
          · rcases l with _ | ⟨m, t⟩
            · exact does_first_nil h hr c hl hc kind due key hwd hwk q0 q1 q2 q3 q4 rfl
            · exact does_first_cons h hr c hl hc kind due key hwd hwk q0 q1 q2 q3 q4 m t rfl
          · exact does_due h hr c hl hc kind due key hwd hwk q0 q1 q2 q3 q4
        · cases hk : hasK l key
          · exact does_move_miss h hr c hl hc kind due key hwd hwk q0 q1 q2 q3 hk
          · exact does_move_hit h hr c hl hc kind due key hwd hwk q0 q1 q2 q3 hk
      · cases hk : hasK l key
        · exact does_drop_miss h hr c hl hc kind due key hwd hwk q0 q1 q2 hk
        · exact does_drop_hit h hr c hl hc kind due key hwd hwk q0 q1 q2 hk
    · rcases l with _ | ⟨m, t⟩
      · exact does_pop_nil h hr c hl hc kind due key hwd hwk q0 q1 rfl
      · exact does_pop_cons h hr c hl hc kind due key hwd hwk q0 q1 m t rfl
  · cases hk : hasK l key
    · exact does_put_new h hr c hl hc kind due key hwd hwk q0 hk
    · exact does_put_old h hr c hl hc kind due key hwd hwk q0 hk
theorem LR.nil (w : World) : LR w none [] := ⟨Rows.nil, fun ad e => by cases e⟩
set_option maxHeartbeats 4000000 in
set_option maxRecDepth 100000 in
theorem AgendaDoes_list (A : Option Addr) (cap : Nat) (xs : List ActT) (w : World) (hx : Rows encAct 3 w A xs) (hw : ∀ x ∈ xs, (Lit.int .i64 x.2.1).wf = true ∧ (Lit.int .i64 x.2.2).wf = true) : Calls Try.prog 4 #[.slice A xs.length cap] w fun e w' => e = .returned (.bool true) ∧ Bw w w' := by
  have HX := Aside0.mk hx
  have HWF := Aside0.mk hw
  have hlm := hx.1
  have HA := Aside0.mk (fun W => aawake_calls W)
  by_cases h2 : xs.length ≤ 200
  · have d0 : decide ((200 : Int) < (xs.length : Int)) = false := decide_eq_false (by omega)
    clear hx hw
    go_enter Try.func4, Try.ntmps4
    go_wp2_with fail
    refine (agNew_calls w).mono ?_
    rintro e w1 ⟨ab, b, mb, rfl, h1, hb1⟩
    have H1 := Aside0.mk (show AgL w1 w.heap.size ab b mb (.slice none 0 0) [] from ⟨⟨[], h1, fun c x y _ h => absurd h (Nat.not_lt_zero _), List.Perm.refl _⟩, List.Pairwise.nil⟩)
    have HB1 := Aside0.mk hb1
    clear h1 hb1
    go_wp2_with fail
    go_loopw [4, 5] (fun lv iv wr => ∃ (i : Nat) (l : List It) (n : Nat) (A' : Option Addr) (c : Nat) (v : Value), i ≤ xs.length ∧ iv = .int .i64 i ∧ lv = .slice A' n c ∧ n = l.length ∧ n ≤ i ∧ n ≤ c ∧ Aside0 (LR wr A' l) ∧ Aside0 (AgL wr w.heap.size ab b mb v l) ∧ Aside0 (Bw w wr)) (fun _ iv _ => xs.length - (intOf iv).toNat)
    case atStart => exact ⟨0, [], 0, none, 0, _, by omega, rfl, rfl, rfl, by omega, by omega, ⟨LR.nil _⟩, H1, HB1⟩
    case round =>
      obtain ⟨i, l, n, A', c, v, hi, rfl, rfl, hn, hni, hnc, HR, HG, HB⟩ := hrel
      by_cases hlt : i < xs.length
      · obtain ⟨⟨kind, due, key⟩, hy⟩ : ∃ y, xs[i]? = some y := ⟨_, List.getElem?_eq_getElem hlt⟩
        have HWX := Aside0.mk (HWF.out _ (List.mem_of_getElem? hy))
        have HS := Aside0.mk (show ∀ W, Bw w W → ∃ ad, A = some ad ∧ W.cell? (ad.add (i * 3)) = some (.int .i64 kind) ∧ W.cell? ⟨(ad.add (i * 3)).block, (ad.add (i * 3)).off + 1, none⟩ = some (.int .i64 due) ∧ W.cell? ⟨(ad.add (i * 3)).block, (ad.add (i * 3)).off + 2, none⟩ = some (.int .i64 key) from fun W hW => by
          obtain ⟨ad', hA, m0, mi⟩ := (HX.out.bw hW).atS i _ hy
          exact ⟨ad', hA, m0 _ rfl, mi 1 _ (by decide) rfl, mi 2 _ (by decide) rfl⟩)
        obtain ⟨ad, rfl, s0, s1, s2⟩ := HS.out _ HB.out
        have HS := Aside0.mk (show ∀ W, Bw w W → W.cell? ⟨(ad.add (i * 3)).block, (ad.add (i * 3)).off + 2, none⟩ = some (.int .i64 key) from fun W hW => by
          obtain ⟨ad', hA, m0, m1, m2⟩ := HS.out W hW
          obtain rfl := Option.some.inj hA
          exact m2)
        have DO := does_any HG.out HR.out c (by omega) (by omega) kind due key HWX.out.1 HWX.out.2
        rw [← hn] at DO
        have DO := Aside0.mk DO
        have HN0 := Aside0.mk hn
        clear hy hn
        go_wp2_with fail
        refine DO.out.mono ?_
        rintro e w2 ⟨l', B, c', rfl, hl1, hl2, hr2, v2, h2', s2'⟩
        have HB2 := Aside0.mk (HG.out.under (v' := v2) s2'.chg HB.out (Nat.le_refl _))
        have HG2 := Aside0.mk h2'
        have HR2 := Aside0.mk hr2
        have hn5 : l'.length ≤ 1000 := by have := HN0.out; omega
        have AL := Aside0.mk (h2'.all (by omega))
        have LE := Aside0.mk (fun W (hW : AgL W w.heap.size ab b mb v2 l') => hW.len)
        have SM := Aside0.mk (fun W G cg (h1 : Rows encI 2 W G l') (h2 : Rows encI 2 W B l') => same36_calls G B cg c' l' W h1 h2 (by omega))
        have RAT := Aside0.mk (fun W (h1 : Rows encI 2 W B l') => refAt_calls B c' l' key W h1 (by omega))
        have ATH := Aside0.mk (fun W (hW : AgL W w.heap.size ab b mb v2 l') => hW.at_hit key HWX.out.2)
        have ATM := Aside0.mk (fun W (hW : AgL W w.heap.size ab b mb v2 l') => hW.at_miss key HWX.out.2)
        obtain ⟨n', hn'⟩ : ∃ n', n' = l'.length := ⟨_, rfl⟩
        have HN := Aside0.mk hn'
        clear hn5
        rw [← hn'] at hl1 hl2 AL LE SM RAT ⊢
        have hln : n' ≤ i + 1 := by have := HN0.out; omega
        clear h2' s2' hr2 hn' hl1 s0 s1 s2
        go_wp2_with fail
        refine AL.out.mono ?_
        rintro e w3 ⟨G, cg, rfl, hRG, hb3⟩
        have HRG := Aside0.mk hRG
        have HB3 := Aside0.mk (HB2.out.trans hb3)
        have HG3 := Aside0.mk (HG2.out.bw hb3)
        have HR3 := Aside0.mk (HR2.out.bw hb3)
        clear hRG hb3
        go_wp2_with fail
        refine (SM.out _ G cg HRG.out HR3.out.rows).mono ?_
        rintro e w4 ⟨rfl, hb4⟩
        have HB4 := Aside0.mk (HB3.out.trans hb4)
        have HG4 := Aside0.mk (HG3.out.bw hb4)
        have HR4 := Aside0.mk (HR3.out.bw hb4)
        clear hb4
        go_wp2_with fail
        refine (LE.out _ HG4.out).mono ?_
        rintro e w5 ⟨rfl, hb5⟩
        have HB5 := Aside0.mk (HB4.out.trans hb5)
        have HG5 := Aside0.mk (HG4.out.bw hb5)
        have HR5 := Aside0.mk (HR4.out.bw hb5)
        clear hb5
        have s2 := HS.out _ HB5.out
        cases hk : hasK l' key
        · have e1 : atL l' key = -1 := by unfold atL; rw [hk]; rfl
          rw [e1] at RAT
          have AT := Aside0.mk (ATM.out _ HG5.out hk)
          clear hk e1
          go_wp2_with fail
          refine (AT.out).mono ?_
          rintro e w6 ⟨rfl, hb6⟩
          have HB6 := Aside0.mk (HB5.out.trans hb6)
          have HG6 := Aside0.mk (HG5.out.bw hb6)
          have HR6 := Aside0.mk (HR5.out.bw hb6)
          clear hb6
          have s2 := HS.out _ HB6.out
          go_wp2_with fail
          refine (RAT.out _ HR6.out.rows).mono ?_
          rintro e w7 ⟨rfl, hb7⟩
          have HB7 := Aside0.mk (HB6.out.trans hb7)
          have HG7 := Aside0.mk (HG6.out.bw hb7)
          have HR7 := Aside0.mk (HR6.out.bw hb7)
          clear hb7 s2
          go_wp2_with fail
          go_roundw
          case rel => exact ⟨i + 1, l', n', B, c', v2, by omega, by go_num, rfl, HN.out, by omega, hl2, HR7, HG7, HB7⟩
          case measure => simp [intOf]; omega
        · obtain ⟨x, hx, hc5⟩ := ATH.out _ HG5.out hk
          have e1 : atL l' key = (keyAt l' key : Int) := by unfold atL; rw [hk]; rfl
          obtain ⟨p, hp⟩ : ∃ p, p = keyAt l' key := ⟨_, rfl⟩
          rw [e1, ← hp] at RAT
          rw [← hp] at hx
          have hpl : p < n' := by rw [HN.out]; exact (List.getElem?_eq_some_iff.1 hx).1
          have AT := Aside0.mk hc5
          have HXP := Aside0.mk hx
          obtain ⟨xd, xk⟩ := x
          have q1 : (xd != xd) = false := by simp
          dsimp only at AT
          clear hk e1 hp hc5 hx
          go_wp2_with fail
          refine (AT.out).mono ?_
          rintro e w6 ⟨rfl, hb6⟩
          have HB6 := Aside0.mk (HB5.out.trans hb6)
          have HG6 := Aside0.mk (HG5.out.bw hb6)
          have HR6 := Aside0.mk (HR5.out.bw hb6)
          clear hb6
          have s2 := HS.out _ HB6.out
          go_wp2_with fail
          refine (RAT.out _ HR6.out.rows).mono ?_
          rintro e w7 ⟨rfl, hb7⟩
          have HB7 := Aside0.mk (HB6.out.trans hb7)
          have HG7 := Aside0.mk (HG6.out.bw hb7)
          have HR7 := Aside0.mk (HR6.out.bw hb7)
          clear hb7 s2
          obtain ⟨ad', hB, m0, _⟩ := HR7.out.rows.atS p _ HXP.out
          subst hB
          have s0 := m0 _ rfl
          clear m0
          have g0 : decide ((0 : Int) ≤ (p : Int)) = true := decide_eq_true (by omega)
          have g1 : decide ((p : Int) < 0) = false := decide_eq_false (by omega)
          go_wp2_with fail
          go_roundw
          case rel => exact ⟨i + 1, l', n', some ad', c', v2, by omega, by go_num, rfl, HN.out, by omega, hl2, HR7, HG7, HB7⟩
          case measure => simp [intOf]; omega
      · obtain rfl : i = xs.length := by omega
        have HN0 := Aside0.mk hn
        clear hn
        go_wp2_with fail
        refine (HA.out _).mono ?_
        rintro e w3 ⟨rfl, hb3⟩
        have HB3 := Aside0.mk (HB.out.trans hb3)
        clear hb3
        go_wp2_with fail
        go_ret
        exact ⟨rfl, HB3.out⟩
  · have d0 : decide ((200 : Int) < (xs.length : Int)) = true := decide_eq_true (by omega)
    clear hx hw
    go_enter Try.func4, Try.ntmps4
    go_wp2_with fail
    refine (HA.out _).mono ?_
    rintro e w1 ⟨rfl, hb1⟩
    go_wp2_with fail
    go_ret
    exact ⟨rfl, hb1⟩
theorem AgendaDoes_walk (w : World) (a : Option Addr) (len cap : Nat) (h : RdRow [.int .i64, .int .i64, .int .i64] w a len cap) (y : len * 24 ≤ 140737488351232) :
    Calls Try.prog 4 #[.slice a len cap] w fun e w' => e = .returned (.bool true) ∧ Bw w w' := by
  obtain ⟨l, rfl, hx, hw⟩ := rd_acts h
  exact AgendaDoes_list a cap l w hx hw
end
end Go.Proofs.Ytoklhhcjcecbbaa.M
