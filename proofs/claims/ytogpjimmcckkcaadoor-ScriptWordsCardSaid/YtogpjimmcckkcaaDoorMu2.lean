/- Script: a line's entry, and how often it comes. Conditions: lines below 2^20 bytes. -/
import Derived.Test.YtogpjimmcckkcaaDoorMu1
namespace Go.Proofs.YtogpjimmcckkcaaDoor.M
open Go.RowKit Go.Proofs.YtogpjimmcckkcaaDoorW.PrintWords Go.Proofs.YtogpjimmcckkcaaDoorW.PrintLast Go.Proofs.YtogpjimmcckkcaaDoorW.PrintMore
set_option linter.unusedVariables false
set_option linter.unusedSimpArgs false
theorem cut_le (s sep : List UInt8) : (Lib.cut s sep).1.length ≤ s.length ∧ (Lib.cut s sep).2.1.length ≤ s.length := by
  unfold Lib.cut
  split
  · exact ⟨by simp; omega, by simp⟩
  · exact ⟨Nat.le_refl _, by simp⟩
def hitB (u : List UInt8) (has : Bool) (k : Int) : Bool := enW k == u && thrB k == has
/-- An entry of a kind, with what is behind its word. -/
def endF (v : List UInt8) (has : Bool) (n : Int) (k : Int) : (Int × Int) × Int × Bool :=
  if has = true then (if (numF v 255).2 = true then ((k, (numF v 255).1), n, true) else ((0, 0), 0, false)) else ((k, 0), n, true)
def tailF (u v : List UInt8) (has : Bool) (n : Int) : (Int × Int) × Int × Bool :=
  match [1, 2, 3, 4].find? (hitB u has) with
  | none => ((0, 0), 0, false)
  | some k => endF v has n k
/-- A line's entry, and how often it comes; whether it is one. -/
def oneF (s : List UInt8) : (Int × Int) × Int × Bool :=
  let c := Lib.cut s [32, 120, 32]
  if c.2.2 = true then
    (if (numF c.2.1 65536).2 = true ∧ 2 ≤ (numF c.2.1 65536).1 then tailF (Lib.cut c.1 [32]).1 (Lib.cut c.1 [32]).2.1 (Lib.cut c.1 [32]).2.2 (numF c.2.1 65536).1 else ((0, 0), 0, false))
  else tailF (Lib.cut s [32]).1 (Lib.cut s [32]).2.1 (Lib.cut s [32]).2.2 1
theorem tailF_hit {u v : List UInt8} {has : Bool} {n : Int} {j : Nat} (h1 : 1 ≤ j) (h4 : j < 5) (hno : ∀ i : Nat, 1 ≤ i → i < j → hitB u has i = false) (h : hitB u has j = true) : tailF u v has n = endF v has n j := by
  unfold tailF
  rcases (show j = 1 ∨ j = 2 ∨ j = 3 ∨ j = 4 by omega) with rfl | rfl | rfl | rfl
  · rw [List.find?_cons_of_pos (by exact h)]; rfl
  · rw [List.find?_cons_of_neg (by rw [show hitB u has 1 = false from hno 1 (by omega) (by omega)]; decide), List.find?_cons_of_pos (by exact h)]; rfl
  · rw [List.find?_cons_of_neg (by rw [show hitB u has 1 = false from hno 1 (by omega) (by omega)]; decide), List.find?_cons_of_neg (by rw [show hitB u has 2 = false from hno 2 (by omega) (by omega)]; decide), List.find?_cons_of_pos (by exact h)]; rfl
  · rw [List.find?_cons_of_neg (by rw [show hitB u has 1 = false from hno 1 (by omega) (by omega)]; decide), List.find?_cons_of_neg (by rw [show hitB u has 2 = false from hno 2 (by omega) (by omega)]; decide), List.find?_cons_of_neg (by rw [show hitB u has 3 = false from hno 3 (by omega) (by omega)]; decide), List.find?_cons_of_pos (by exact h)]; rfl
theorem tailF_miss {u v : List UInt8} {has : Bool} {n : Int} (hno : ∀ i : Nat, 1 ≤ i → i < 5 → hitB u has i = false) : tailF u v has n = ((0, 0), 0, false) := by
  unfold tailF
  rw [List.find?_cons_of_neg (by rw [show hitB u has 1 = false from hno 1 (by omega) (by omega)]; decide), List.find?_cons_of_neg (by rw [show hitB u has 2 = false from hno 2 (by omega) (by omega)]; decide), List.find?_cons_of_neg (by rw [show hitB u has 3 = false from hno 3 (by omega) (by omega)]; decide), List.find?_cons_of_neg (by rw [show hitB u has 4 = false from hno 4 (by omega) (by omega)]; decide)]
  rfl
def oneV (r : (Int × Int) × Int × Bool) : Value := .tuple #[.agg #[.int .i64 r.1.1, .int .i64 r.1.2], .int .i64 r.2.1, .bool r.2.2]
theorem Cut_calls (s sep : List UInt8) (w : World) (he : Env w) (hs : s.length ≤ 1048576) :
    Calls Tryd.prog 48 #[.string (bs s), .string (bs sep)] w fun e w' => e = .returned (.tuple #[strV (Lib.cut s sep).1, strV (Lib.cut s sep).2.1, .bool (Lib.cut s sep).2.2]) ∧ Bw w w' := by
  obtain ⟨m, hm⟩ := he.mx
  exact (Tryd.strings_Cut (bs s) (bs sep) m w (by rw [bs_size]; omega) hm).mono fun e w' ⟨h1, n, h2⟩ => ⟨h1, by rw [h2]; exact (Bw.refl w).drewN n⟩
theorem cut3 (h sep : List UInt8) : ∃ u v has, Lib.cut h sep = (u, v, has) ∧ (h.length ≤ 1048576 → u.length ≤ 1048576 ∧ v.length ≤ 1048576) := by
  obtain ⟨⟨u, v, has⟩, hc⟩ : ∃ c, c = Lib.cut h sep := ⟨_, rfl⟩
  refine ⟨u, v, has, hc.symm, fun hl => ?_⟩
  have := cut_le h sep
  rw [← hc] at this
  dsimp only at this
  omega
theorem two_cells {W : World} {b : Nat} {T : TypeId} {x y : Value} (h : Blk W b #[x, y] T) : W.cell? ⟨b, 0, none⟩ = some x ∧ W.cell? ⟨b, 1, none⟩ = some y ∧ (∀ i, W.frozen? ⟨b, i, none⟩ = false) ∧ b < W.heap.size :=
  ⟨h.cell 0 _ rfl, h.cell 1 _ rfl, h.free, h.lt⟩
theorem res_one {W : World} {b : Nat} {T : TypeId} {x y n : Int} {ok : Bool} {tmps : Array Value} (h2 : tmps[2]?.getD undef = .pointer (some ⟨b, 0, none⟩)) (h3 : tmps[3]?.getD undef = .int .i64 n) (h4 : tmps[4]?.getD undef = .bool ok) (h : Blk W b #[.int .i64 x, .int .i64 y] T) :
    (results Tryd.f56 tmps).run Tryd.prog W = .ok (oneV ((x, y), n, ok)) W := by
  have c0 := h.cell 0 (.int .i64 x) rfl
  have c1 := h.cell 1 (.int .i64 y) rfl
  simp [results, Tryd.results56, h2, h3, h4, c0, c1, go_sem, oneV]
set_option maxHeartbeats 4000000 in
set_option maxRecDepth 100000 in
theorem one_calls (s : List UInt8) (w : World) (he : Env w) (hs : s.length ≤ 1048576) :
    Calls Tryd.prog 56 #[.string (bs s)] w fun e w' => e = .returned (oneV (oneF s)) ∧ Bw w w' := by
  have HE := Aside0.mk he
  obtain ⟨c1, c2, c3, hc, hcl⟩ := cut3 s [32, 120, 32]
  obtain ⟨hc1, hc2⟩ := hcl hs
  have HC := Aside0.mk (show ∀ W, Env W → Calls Tryd.prog 48 #[.string (bs s), .string (bs [32, 120, 32])] W fun e w' => e = .returned (.tuple #[strV c1, strV c2, .bool c3]) ∧ Bw W w' from fun W hW => by have := Cut_calls s [32, 120, 32] W hW hs; rw [hc] at this; exact this)
  obtain ⟨w0, hw0⟩ : ∃ w0, w0 = w.alloc (.cells #[.int .i64 0, .int .i64 0] 55) := ⟨_, rfl⟩
  have HB0 := Aside0.mk (show Bw w w0 by rw [hw0]; exact (Bw.refl w).alloc _)
  have HK0 := Aside0.mk (show Blk w0 w.heap.size #[.int .i64 0, .int .i64 0] 55 by rw [hw0]; exact Blk.new w _ _)
  have HE0 := Aside0.mk (he.bw HB0.out)
  cases c3
  · obtain ⟨u, v, has, hd, hv⟩ := cut3 s [32]
    have HV := Aside0.mk (hv hs).2
    have HF := Aside0.mk (show oneF s = tailF u v has 1 by unfold oneF; simp only [hc, hd]; rfl)
    have HC2 := Aside0.mk (show ∀ W, Env W → Calls Tryd.prog 48 #[.string (bs s), .string (bs [32])] W fun e w' => e = .returned (.tuple #[strV u, strV v, .bool has]) ∧ Bw W w' from fun W hW => by have := Cut_calls s [32] W hW hs; rw [hd] at this; exact this)
    clear hc hd he hs hv hcl hc1 hc2
    go_enter Tryd.func56, Tryd.ntmps56
    go_wp2_with fail
    rw [← hw0]
    refine (HC.out _ HE0.out).mono ?_
    rintro e w1 ⟨rfl, hb1⟩
    go_wp2_with fail
    refine (HC2.out _ (HE0.out.bw hb1)).mono ?_
    rintro e w2 ⟨rfl, hb2⟩
    have HB := Aside0.mk (hb1.trans hb2)
    clear hb1 hb2
    go_wp2_with fail
    go_loopw [14] (fun kv wr => ∃ j : Nat, 1 ≤ j ∧ j ≤ 5 ∧ kv = .int .i64 j ∧ Aside0 (∀ i : Nat, 1 ≤ i → i < j → hitB u has i = false) ∧ Aside0 (Bw w0 wr)) (fun kv _ => 5 - (intOf kv).toNat)
    case atStart => exact ⟨1, by omega, by omega, rfl, ⟨fun i h1 h2 => by omega⟩, HB⟩
    case round =>
      obtain ⟨j, hj1, hj5, rfl, HN, HW⟩ := hrel
      by_cases hlt : j < 5
      · have hw := Aside0.mk (show ∀ W, Calls Tryd.prog 74 #[.int .i64 (j : Int)] W fun e w' => e = .returned (strV (enW j)) ∧ Bw W w' from fun W => entryWord_calls j W)
        have ht := Aside0.mk (show ∀ W, Calls Tryd.prog 75 #[.int .i64 (j : Int)] W fun e w' => e = .returned (.bool (thrB j)) ∧ Bw W w' from fun W => threaded_calls j W)
        obtain ⟨x, hx⟩ : ∃ x, x = enW j := ⟨_, rfl⟩
        obtain ⟨b, hb⟩ : ∃ b, b = thrB j := ⟨_, rfl⟩
        rw [← hx] at hw
        rw [← hb] at ht
        cases hq : (x == u)
        · have HH := Aside0.mk (show hitB u has j = false by unfold hitB; rw [← hx, hq]; rfl)
          clear hx hb
          go_wp2_with fail
          refine (hw.out _).mono ?_
          rintro e w3 ⟨rfl, hb3⟩
          have HW3 := Aside0.mk (HW.out.trans hb3)
          clear hb3
          obtain ⟨a0, a1, af, al⟩ := two_cells (HK0.out.bw HW3.out)
          go_wp2_with fail
          go_roundw
          case rel =>
            refine ⟨j + 1, by omega, by omega, by go_num, ⟨fun i h1 h2 => ?_⟩, HW3⟩
            rcases Nat.lt_succ_iff_lt_or_eq.1 h2 with h | rfl
            · exact HN.out i h1 h
            · exact HH.out
          case measure => simp [intOf]; omega
        · cases hq2 : (b == has)
          · have HH := Aside0.mk (show hitB u has j = false by unfold hitB; rw [← hx, ← hb, hq, hq2]; rfl)
            clear hx hb
            go_wp2_with fail
            refine (hw.out _).mono ?_
            rintro e w3 ⟨rfl, hb3⟩
            have HW3 := Aside0.mk (HW.out.trans hb3)
            clear hb3
            go_wp2_with fail
            refine (ht.out _).mono ?_
            rintro e w4 ⟨rfl, hb4⟩
            have HW4 := Aside0.mk (HW3.out.trans hb4)
            clear hb4
            obtain ⟨a0, a1, af, al⟩ := two_cells (HK0.out.bw HW4.out)
            go_wp2_with fail
            go_roundw
            case rel =>
              refine ⟨j + 1, by omega, by omega, by go_num, ⟨fun i h1 h2 => ?_⟩, HW4⟩
              rcases Nat.lt_succ_iff_lt_or_eq.1 h2 with h | rfl
              · exact HN.out i h1 h
              · exact HH.out
            case measure => simp [intOf]; omega
          · have HH := Aside0.mk (show hitB u has j = true by unfold hitB; rw [← hx, ← hb, hq, hq2]; rfl)
            have HR := Aside0.mk (HF.out.trans (tailF_hit hj1 hlt HN.out HH.out))
            clear hx hb
            go_wp2_with fail
            refine (hw.out _).mono ?_
            rintro e w3 ⟨rfl, hb3⟩
            have HW3 := Aside0.mk (HW.out.trans hb3)
            clear hb3
            go_wp2_with fail
            refine (ht.out _).mono ?_
            rintro e w4 ⟨rfl, hb4⟩
            have HW4 := Aside0.mk (HW3.out.trans hb4)
            clear hb4
            obtain ⟨a0, a1, af, al⟩ := two_cells (HK0.out.bw HW4.out)
            cases has
            · have HR := Aside0.mk (show oneF s = (((j : Int), 0), 1, true) from HR.out)
              clear hw ht HN HH HV HC HC2
              go_wp2_with fail
              refine bodyPost_ret (res_one rfl rfl rfl ((((HK0.out.bw HW4.out).set 0 (.int .i64 (j : Int))).set 1 (.int .i64 0)).alloc _)) rfl ⟨?_, ?_⟩
              · rw [HR.out]
              · exact (((HB0.out.trans HW4.out).setCell (Nat.le_refl _) _).setCell (Nat.le_refl _) _).alloc _
            · cases hz : (numF v 255).2
              · have HR := Aside0.mk (show oneF s = ((0, 0), 0, false) by rw [HR.out]; unfold endF; rw [if_pos rfl, hz]; rfl)
                have HN3 := Aside0.mk (show ∀ W, Env W → Calls Tryd.prog 78 #[.string (bs v), .int .i64 255] W fun e w' => e = .returned (.tuple #[.int .i64 (numF v 255).1, .bool false]) ∧ Bw W w' from fun W hW => by have := number_calls v 255 W hW HV.out (by decide); rw [hz] at this; exact this)
                clear hw ht HN HH HV HC HC2 hz
                go_wp2_with fail
                refine (HN3.out _ ((HE0.out.bw HW4.out).bw ((Bw.refl _).alloc _))).mono ?_
                rintro e w5 ⟨rfl, hb5⟩
                obtain ⟨d0, d1, df, dl⟩ := two_cells ((Blk.new w4 #[.int .i64 (j : Int), .int .i64 0] 55).bw hb5)
                obtain ⟨a0, a1, af, al⟩ := two_cells (((HK0.out.bw HW4.out).alloc (.cells #[.int .i64 (j : Int), .int .i64 0] 55)).bw hb5)
                have HW5 := Aside0.mk ((HW4.out.alloc _).trans hb5)
                clear hb5
                go_wp2_with fail
                refine bodyPost_ret (res_one rfl rfl rfl (((HK0.out.bw HW5.out).set 0 (.int .i64 0)).set 1 (.int .i64 0))) rfl ⟨?_, ?_⟩
                · rw [HR.out]
                · exact ((HB0.out.trans HW5.out).setCell (Nat.le_refl _) _).setCell (Nat.le_refl _) _
              · have HR := Aside0.mk (show oneF s = (((j : Int), (numF v 255).1), 1, true) by rw [HR.out]; unfold endF; rw [if_pos rfl, hz]; rfl)
                obtain ⟨who, hwho⟩ : ∃ who, who = (numF v 255).1 := ⟨_, rfl⟩
                rw [← hwho] at HR
                have HN3 := Aside0.mk (show ∀ W, Env W → Calls Tryd.prog 78 #[.string (bs v), .int .i64 255] W fun e w' => e = .returned (.tuple #[.int .i64 who, .bool true]) ∧ Bw W w' from fun W hW => by have := number_calls v 255 W hW HV.out (by decide); rw [hz, ← hwho] at this; exact this)
                clear hw ht HN HH HV HC HC2 hz hwho
                go_wp2_with fail
                refine (HN3.out _ ((HE0.out.bw HW4.out).bw ((Bw.refl _).alloc _))).mono ?_
                rintro e w5 ⟨rfl, hb5⟩
                have HD5 := Aside0.mk ((Blk.new w4 #[.int .i64 (j : Int), .int .i64 0] 55).bw hb5)
                obtain ⟨d0, d1, df, dl⟩ := two_cells HD5.out
                obtain ⟨a0, a1, af, al⟩ := two_cells (((HK0.out.bw HW4.out).alloc (.cells #[.int .i64 (j : Int), .int .i64 0] 55)).bw hb5)
                have HW5 := Aside0.mk ((HW4.out.alloc _).trans hb5)
                have hne : w.heap.size ≠ w4.heap.size := by have := (HK0.out.bw HW4.out).lt; omega
                have hne' : w4.heap.size ≠ w.heap.size := Ne.symm hne
                clear hb5
                go_wp2_with fail
                refine bodyPost_ret (res_one rfl rfl rfl ((((HK0.out.bw HW5.out).other _ _ hne').set 0 (.int .i64 (j : Int))).set 1 (.int .i64 who))) rfl ⟨?_, ?_⟩
                · rw [HR.out]
                · exact (((HB0.out.trans HW5.out).setCell (Nat.le_of_lt (by have := (HK0.out.bw HW4.out).lt; exact this)) _).setCell (Nat.le_refl _) _).setCell (Nat.le_refl _) _
      · obtain rfl : j = 5 := by omega
        have HR := Aside0.mk (HF.out.trans (tailF_miss HN.out))
        obtain ⟨a0, a1, af, al⟩ := two_cells (HK0.out.bw HW.out)
        go_wp2_with fail
        refine bodyPost_ret (res_one rfl rfl rfl (((HK0.out.bw HW.out).set 0 (.int .i64 0)).set 1 (.int .i64 0))) rfl ⟨?_, ?_⟩
        · rw [HR.out]
        · exact ((HB0.out.trans HW.out).setCell (Nat.le_refl _) _).setCell (Nat.le_refl _) _
  · -- TWICE: printed by wip/gen/scriptone.py
    obtain ⟨k, hk⟩ : ∃ k, k = (numF c2 65536).1 := ⟨_, rfl⟩
    cases hz : (numF c2 65536).2
    · have HN1 := Aside0.mk (show ∀ W, Env W → Calls Tryd.prog 78 #[.string (bs c2), .int .i64 65536] W fun e w' => e = .returned (.tuple #[.int .i64 k, .bool false]) ∧ Bw W w' from fun W hW => by have := number_calls c2 65536 W hW hc2 (by decide); rw [hz, ← hk] at this; exact this)
      have HR := Aside0.mk (show oneF s = ((0, 0), 0, false) by unfold oneF; simp only [hc]; rw [if_pos trivial, hz, if_neg (by rintro ⟨h, _⟩; cases h)])
      clear hc he hs hcl hc1 hc2 hk hz
      go_enter Tryd.func56, Tryd.ntmps56
      go_wp2_with fail
      rw [← hw0]
      refine (HC.out _ HE0.out).mono ?_
      rintro e w1 ⟨rfl, hb1⟩
      go_wp2_with fail
      refine (HN1.out _ (HE0.out.bw hb1)).mono ?_
      rintro e w2 ⟨rfl, hb2⟩
      have HW := Aside0.mk (hb1.trans hb2)
      obtain ⟨a0, a1, af, al⟩ := two_cells (HK0.out.bw HW.out)
      clear hb1 hb2
      go_wp2_with fail
      refine bodyPost_ret (res_one rfl rfl rfl (((HK0.out.bw HW.out).set 0 (.int .i64 0)).set 1 (.int .i64 0))) rfl ⟨?_, ?_⟩
      · rw [HR.out]
      · exact ((HB0.out.trans HW.out).setCell (Nat.le_refl _) _).setCell (Nat.le_refl _) _
    · have HN1 := Aside0.mk (show ∀ W, Env W → Calls Tryd.prog 78 #[.string (bs c2), .int .i64 65536] W fun e w' => e = .returned (.tuple #[.int .i64 k, .bool true]) ∧ Bw W w' from fun W hW => by have := number_calls c2 65536 W hW hc2 (by decide); rw [hz, ← hk] at this; exact this)
      by_cases hk2 : k < 2
      · have HR := Aside0.mk (show oneF s = ((0, 0), 0, false) by unfold oneF; simp only [hc]; rw [if_pos trivial, hz, if_neg (by rintro ⟨_, h⟩; rw [← hk] at h; omega)])
        have d1 : decide (k < 2) = true := decide_eq_true hk2
        clear hc he hs hcl hc1 hc2 hk hz hk2
        go_enter Tryd.func56, Tryd.ntmps56
        go_wp2_with fail
        rw [← hw0]
        refine (HC.out _ HE0.out).mono ?_
        rintro e w1 ⟨rfl, hb1⟩
        go_wp2_with fail
        refine (HN1.out _ (HE0.out.bw hb1)).mono ?_
        rintro e w2 ⟨rfl, hb2⟩
        have HW := Aside0.mk (hb1.trans hb2)
        obtain ⟨a0, a1, af, al⟩ := two_cells (HK0.out.bw HW.out)
        clear hb1 hb2
        go_wp2_with fail
        refine bodyPost_ret (res_one rfl rfl rfl (((HK0.out.bw HW.out).set 0 (.int .i64 0)).set 1 (.int .i64 0))) rfl ⟨?_, ?_⟩
        · rw [HR.out]
        · exact ((HB0.out.trans HW.out).setCell (Nat.le_refl _) _).setCell (Nat.le_refl _) _
      · have d1 : decide (k < 2) = false := decide_eq_false hk2
        obtain ⟨u, v, has, hd, hv⟩ := cut3 c1 [32]
        have HV := Aside0.mk (hv hc1).2
        have HF := Aside0.mk (show oneF s = tailF u v has k by unfold oneF; simp only [hc]; rw [if_pos trivial, hz, ← hk, if_pos ⟨rfl, by omega⟩, hd])
        have HC2 := Aside0.mk (show ∀ W, Env W → Calls Tryd.prog 48 #[.string (bs c1), .string (bs [32])] W fun e w' => e = .returned (.tuple #[strV u, strV v, .bool has]) ∧ Bw W w' from fun W hW => by have := Cut_calls c1 [32] W hW hc1; rw [hd] at this; exact this)
        clear hc hd he hs hv hcl hc1 hc2 hk hz hk2
        go_enter Tryd.func56, Tryd.ntmps56
        go_wp2_with fail
        rw [← hw0]
        refine (HC.out _ HE0.out).mono ?_
        rintro e w1 ⟨rfl, hb1⟩
        go_wp2_with fail
        refine (HN1.out _ (HE0.out.bw hb1)).mono ?_
        rintro e w2 ⟨rfl, hb2⟩
        go_wp2_with fail
        refine (HC2.out _ ((HE0.out.bw hb1).bw hb2)).mono ?_
        rintro e w3 ⟨rfl, hb3⟩
        have HB := Aside0.mk ((hb1.trans hb2).trans hb3)
        clear hb1 hb2 hb3
        go_wp2_with fail
        go_loopw [14] (fun kv wr => ∃ j : Nat, 1 ≤ j ∧ j ≤ 5 ∧ kv = .int .i64 j ∧ Aside0 (∀ i : Nat, 1 ≤ i → i < j → hitB u has i = false) ∧ Aside0 (Bw w0 wr)) (fun kv _ => 5 - (intOf kv).toNat)
        case atStart => exact ⟨1, by omega, by omega, rfl, ⟨fun i h1 h2 => by omega⟩, HB⟩
        case round =>
          obtain ⟨j, hj1, hj5, rfl, HN, HW⟩ := hrel
          by_cases hlt : j < 5
          · have hw := Aside0.mk (show ∀ W, Calls Tryd.prog 74 #[.int .i64 (j : Int)] W fun e w' => e = .returned (strV (enW j)) ∧ Bw W w' from fun W => entryWord_calls j W)
            have ht := Aside0.mk (show ∀ W, Calls Tryd.prog 75 #[.int .i64 (j : Int)] W fun e w' => e = .returned (.bool (thrB j)) ∧ Bw W w' from fun W => threaded_calls j W)
            obtain ⟨x, hx⟩ : ∃ x, x = enW j := ⟨_, rfl⟩
            obtain ⟨b, hb⟩ : ∃ b, b = thrB j := ⟨_, rfl⟩
            rw [← hx] at hw
            rw [← hb] at ht
            cases hq : (x == u)
            · have HH := Aside0.mk (show hitB u has j = false by unfold hitB; rw [← hx, hq]; rfl)
              clear hx hb
              go_wp2_with fail
              refine (hw.out _).mono ?_
              rintro e w3 ⟨rfl, hb3⟩
              have HW3 := Aside0.mk (HW.out.trans hb3)
              clear hb3
              obtain ⟨a0, a1, af, al⟩ := two_cells (HK0.out.bw HW3.out)
              go_wp2_with fail
              go_roundw
              case rel =>
                refine ⟨j + 1, by omega, by omega, by go_num, ⟨fun i h1 h2 => ?_⟩, HW3⟩
                rcases Nat.lt_succ_iff_lt_or_eq.1 h2 with h | rfl
                · exact HN.out i h1 h
                · exact HH.out
              case measure => simp [intOf]; omega
            · cases hq2 : (b == has)
              · have HH := Aside0.mk (show hitB u has j = false by unfold hitB; rw [← hx, ← hb, hq, hq2]; rfl)
                clear hx hb
                go_wp2_with fail
                refine (hw.out _).mono ?_
                rintro e w3 ⟨rfl, hb3⟩
                have HW3 := Aside0.mk (HW.out.trans hb3)
                clear hb3
                go_wp2_with fail
                refine (ht.out _).mono ?_
                rintro e w4 ⟨rfl, hb4⟩
                have HW4 := Aside0.mk (HW3.out.trans hb4)
                clear hb4
                obtain ⟨a0, a1, af, al⟩ := two_cells (HK0.out.bw HW4.out)
                go_wp2_with fail
                go_roundw
                case rel =>
                  refine ⟨j + 1, by omega, by omega, by go_num, ⟨fun i h1 h2 => ?_⟩, HW4⟩
                  rcases Nat.lt_succ_iff_lt_or_eq.1 h2 with h | rfl
                  · exact HN.out i h1 h
                  · exact HH.out
                case measure => simp [intOf]; omega
              · have HH := Aside0.mk (show hitB u has j = true by unfold hitB; rw [← hx, ← hb, hq, hq2]; rfl)
                have HR := Aside0.mk (HF.out.trans (tailF_hit hj1 hlt HN.out HH.out))
                clear hx hb
                go_wp2_with fail
                refine (hw.out _).mono ?_
                rintro e w3 ⟨rfl, hb3⟩
                have HW3 := Aside0.mk (HW.out.trans hb3)
                clear hb3
                go_wp2_with fail
                refine (ht.out _).mono ?_
                rintro e w4 ⟨rfl, hb4⟩
                have HW4 := Aside0.mk (HW3.out.trans hb4)
                clear hb4
                obtain ⟨a0, a1, af, al⟩ := two_cells (HK0.out.bw HW4.out)
                cases has
                · have HR := Aside0.mk (show oneF s = (((j : Int), 0), k, true) from HR.out)
                  clear hw ht HN HH HV HC HC2
                  go_wp2_with fail
                  refine bodyPost_ret (res_one rfl rfl rfl ((((HK0.out.bw HW4.out).set 0 (.int .i64 (j : Int))).set 1 (.int .i64 0)).alloc _)) rfl ⟨?_, ?_⟩
                  · rw [HR.out]
                  · exact (((HB0.out.trans HW4.out).setCell (Nat.le_refl _) _).setCell (Nat.le_refl _) _).alloc _
                · cases hz : (numF v 255).2
                  · have HR := Aside0.mk (show oneF s = ((0, 0), 0, false) by rw [HR.out]; unfold endF; rw [if_pos rfl, hz]; rfl)
                    have HN3 := Aside0.mk (show ∀ W, Env W → Calls Tryd.prog 78 #[.string (bs v), .int .i64 255] W fun e w' => e = .returned (.tuple #[.int .i64 (numF v 255).1, .bool false]) ∧ Bw W w' from fun W hW => by have := number_calls v 255 W hW HV.out (by decide); rw [hz] at this; exact this)
                    clear hw ht HN HH HV HC HC2 hz
                    go_wp2_with fail
                    refine (HN3.out _ ((HE0.out.bw HW4.out).bw ((Bw.refl _).alloc _))).mono ?_
                    rintro e w5 ⟨rfl, hb5⟩
                    obtain ⟨d0, d1, df, dl⟩ := two_cells ((Blk.new w4 #[.int .i64 (j : Int), .int .i64 0] 55).bw hb5)
                    obtain ⟨a0, a1, af, al⟩ := two_cells (((HK0.out.bw HW4.out).alloc (.cells #[.int .i64 (j : Int), .int .i64 0] 55)).bw hb5)
                    have HW5 := Aside0.mk ((HW4.out.alloc _).trans hb5)
                    clear hb5
                    go_wp2_with fail
                    refine bodyPost_ret (res_one rfl rfl rfl (((HK0.out.bw HW5.out).set 0 (.int .i64 0)).set 1 (.int .i64 0))) rfl ⟨?_, ?_⟩
                    · rw [HR.out]
                    · exact ((HB0.out.trans HW5.out).setCell (Nat.le_refl _) _).setCell (Nat.le_refl _) _
                  · have HR := Aside0.mk (show oneF s = (((j : Int), (numF v 255).1), k, true) by rw [HR.out]; unfold endF; rw [if_pos rfl, hz]; rfl)
                    obtain ⟨who, hwho⟩ : ∃ who, who = (numF v 255).1 := ⟨_, rfl⟩
                    rw [← hwho] at HR
                    have HN3 := Aside0.mk (show ∀ W, Env W → Calls Tryd.prog 78 #[.string (bs v), .int .i64 255] W fun e w' => e = .returned (.tuple #[.int .i64 who, .bool true]) ∧ Bw W w' from fun W hW => by have := number_calls v 255 W hW HV.out (by decide); rw [hz, ← hwho] at this; exact this)
                    clear hw ht HN HH HV HC HC2 hz hwho
                    go_wp2_with fail
                    refine (HN3.out _ ((HE0.out.bw HW4.out).bw ((Bw.refl _).alloc _))).mono ?_
                    rintro e w5 ⟨rfl, hb5⟩
                    have HD5 := Aside0.mk ((Blk.new w4 #[.int .i64 (j : Int), .int .i64 0] 55).bw hb5)
                    obtain ⟨d0, d1, df, dl⟩ := two_cells HD5.out
                    obtain ⟨a0, a1, af, al⟩ := two_cells (((HK0.out.bw HW4.out).alloc (.cells #[.int .i64 (j : Int), .int .i64 0] 55)).bw hb5)
                    have HW5 := Aside0.mk ((HW4.out.alloc _).trans hb5)
                    have hne : w.heap.size ≠ w4.heap.size := by have := (HK0.out.bw HW4.out).lt; omega
                    have hne' : w4.heap.size ≠ w.heap.size := Ne.symm hne
                    clear hb5
                    go_wp2_with fail
                    refine bodyPost_ret (res_one rfl rfl rfl ((((HK0.out.bw HW5.out).other _ _ hne').set 0 (.int .i64 (j : Int))).set 1 (.int .i64 who))) rfl ⟨?_, ?_⟩
                    · rw [HR.out]
                    · exact (((HB0.out.trans HW5.out).setCell (Nat.le_of_lt (by have := (HK0.out.bw HW4.out).lt; exact this)) _).setCell (Nat.le_refl _) _).setCell (Nat.le_refl _) _
          · obtain rfl : j = 5 := by omega
            have HR := Aside0.mk (HF.out.trans (tailF_miss HN.out))
            obtain ⟨a0, a1, af, al⟩ := two_cells (HK0.out.bw HW.out)
            go_wp2_with fail
            refine bodyPost_ret (res_one rfl rfl rfl (((HK0.out.bw HW.out).set 0 (.int .i64 0)).set 1 (.int .i64 0))) rfl ⟨?_, ?_⟩
            · rw [HR.out]
            · exact ((HB0.out.trans HW.out).setCell (Nat.le_refl _) _).setCell (Nat.le_refl _) _
end Go.Proofs.YtogpjimmcckkcaaDoor.M
