/- Package model: the example of law29; the law ModelNone. No condition. -/
import Derived.Test.YtoklhhcjcecbbaaHq
namespace Go.Proofs.Ytoklhhcjcecbbaa.M
open Go.RowKit Go.Maps Go.Proofs.YtoklhhcjcecbbaaW.PrintWords Go.Proofs.YtoklhhcjcecbbaaW.PrintLast Go.Proofs.YtoklhhcjcecbbaaW.PrintMore
set_option linter.unusedVariables false
set_option linter.unusedSimpArgs false
theorem progs3 : progsOf [3] = [[(3, 0)]] := by decide
theorem own_fromH {w : World} {base n g : Nat} {e : TypeId} {sz : Nat} {v : Value} {xs : List Value} (h : w.ownsRow base e sz v n xs) (hg : v.ownBlock = some g) : base ≤ g := own_base h g hg
section
variable {w w1 : World} {base k : Nat} {s : MS} {rows : List GR} {Dt Dp Dt' Dp' : DataW Unit}
theorem IsMod.ge (h : IsMod w base s rows k Dt Dp) (j : Nat) (hj : MF s j) : base ≤ j := by
  rcases hj with e | e | e
  · rw [e]; exact own_base h.row s.g rfl
  · rw [e]; exact h.le.2.1
  · rw [e]; exact h.le.2.2
theorem IsMod.old (h : IsMod w base s rows k Dt Dp) (j : Nat) (hj : MF s j) : j < w.heap.size := by
  rcases hj with e | e | e
  · rw [e]; exact own_lt h.row _ rfl
  · rw [e]; obtain ⟨_, _, hm⟩ := h.mt; exact hm.lt
  · rw [e]; obtain ⟨_, _, hm⟩ := h.mp; exact hm.lt
theorem IsMod.isMap (h : IsMod w base s rows k Dt Dp) : IsMap Dt ∧ IsMap Dp := by
  obtain ⟨_, _, h1⟩ := h.mt
  obtain ⟨_, _, h2⟩ := h.mp
  exact ⟨h1.isMap, h2.isMap⟩
/-- A start, of a goroutine whose next instruction is x. -/
theorem start0 (h : IsMod w base s rows k Dt Dp) (hk : k < 1000000) (r : GR) (hr : rows[0]? = some r) (hw : r.what = 1) (ht : Maps.has Dt (.int .i64 0) = false) (hp : Maps.has Dp (.int .i64 0) = false) (x : Int × Int) (p : Int)
    (hn : ∀ W, IsMod W base s rows k Dt Dp → Calls Try.prog 63 #[.pointer (some ⟨s.mb, 0, none⟩), .int .i64 0] W fun e w' => e = .returned (nextV x p) ∧ Bw W w') :
    Calls Try.prog 28 #[.pointer (some ⟨s.mb, 0, none⟩), .agg #[.int .i64 1, .int .i64 0, .int .i64 (-1), .int .i64 0, .int .i64 0]] w fun e w' => e = .returned (.int .i64 0) ∧ IsMod w' base s (rows.set 0 ⟨2, r.program, r.at_, 0, 0⟩) (k + 1) (Dt.put (.int .i64 0) (.lit (.int .i64 0))) (Dp.put (.int .i64 0) (.lit (.int .i64 0))) ∧ Chg (MF s) w w' :=
  do_start h hk 0 0 0 (by decide) (by decide) r hr x (fun W hW => may_start hW 0 0 0 r hr hw fun W' hW' => free_ok hW' 1 0 (-1) 0 0 (-1) (by decide) (by decide) ht hp)
    (fun W hW => Next_of hW 0 (by have := (hW.rowAt hr).2.2.2.2.2; exact this) x p hn)
theorem stop0 (h : IsMod w base s rows k Dt Dp) (kind st : Int) (hks : (kind = 4 ∧ st = 1) ∨ (kind = 11 ∧ st = 5)) (r : GR) (hr : rows[0]? = some r) (hw : r.what = 2) (hth : r.th = 0) (hpr : r.pr = 0) (x : Int × Int) (p : Nat) (hp : p ≤ 1000000) (ak : Int) (hak : ∀ W, Calls Try.prog 80 #[.int .i64 kind] W fun e w' => e = .returned (.int .i64 ak) ∧ Bw W w') (qa : (ak != -1) = true) (hx : (x.1 == ak) = true)
    (hn : ∀ W, IsMod W base s rows k Dt Dp → Calls Try.prog 63 #[.pointer (some ⟨s.mb, 0, none⟩), .int .i64 0] W fun e w' => e = .returned (nextV x p) ∧ Bw W w') :
    Calls Try.prog 28 #[.pointer (some ⟨s.mb, 0, none⟩), .agg #[.int .i64 kind, .int .i64 0, .int .i64 (-1), .int .i64 0, .int .i64 0]] w fun e w' => e = .returned (.int .i64 0) ∧ IsMod w' base s (rows.set 0 ⟨st, r.program, (p : Int) + 1, 0, 0⟩) k (Dt.del (.int .i64 0)) (Dp.del (.int .i64 0)) ∧ Chg (MF s) w w' := by
  have hN : ∀ W, IsMod W base s rows k Dt Dp → Calls Try.prog 31 #[.pointer (some ⟨s.mb, 0, none⟩), .int .i64 0] W fun e w' => e = .returned (insV x) ∧ Bw W w' := fun W hW => Next_of hW 0 (by have := (hW.rowAt hr).2.2.2.2.2; exact this) x p hn
  have q5 : (kind == 5) = false := by rcases hks with ⟨rfl, _⟩ | ⟨rfl, _⟩ <;> rfl
  have q7 : (kind == 7) = false := by rcases hks with ⟨rfl, _⟩ | ⟨rfl, _⟩ <;> rfl
  have q2 : (kind == 2) = false := by rcases hks with ⟨rfl, _⟩ | ⟨rfl, _⟩ <;> rfl
  have q1 : (kind == 1) = false := by rcases hks with ⟨rfl, _⟩ | ⟨rfl, _⟩ <;> rfl
  have q9 : (kind == 9) = false := by rcases hks with ⟨rfl, _⟩ | ⟨rfl, _⟩ <;> rfl
  have q10 : (kind == 10) = false := by rcases hks with ⟨rfl, _⟩ | ⟨rfl, _⟩ <;> rfl
  have qs : (st != 4) = true := by rcases hks with ⟨_, rfl⟩ | ⟨_, rfl⟩ <;> rfl
  obtain ⟨ra, rp, rt, rh, rq⟩ := r
  dsimp only at hw hth hpr
  subst hw hth hpr
  have hil := (List.getElem?_eq_some_iff.1 hr).1
  refine do_stop h kind st hks 0 ⟨2, rp, rt, 0, 0⟩ hr p x (fun W hW => may_runs hW kind q1 q9 q10 0 (-1) 0 0 true _ hr fun W' hW' => ?_) hN (fun W hW => passes_calls hW kind q7 0 _ hr (-1) 0 0 ak hak qa x p hp hn) (fun W hW => ?_)
  · have := runs_calls hW' kind q5 q7 q2 0 ⟨2, rp, rt, 0, 0⟩ hr rfl ak hak qa x hN
    rw [hx] at this
    exact this
  · have := stops_calls hW 0 ⟨2, rp, (p : Int) + 1, 0, 0⟩ (by rw [List.getElem?_set_self hil]) st qs (show (Lit.int .i64 0).wf = true by decide) (show (Lit.int .i64 0).wf = true by decide)
    rw [List.set_set] at this
    exact this
end
set_option maxHeartbeats 4000000 in
set_option maxRecDepth 100000 in
theorem mawake_calls (w : World) : Calls Try.prog 23 #[] w fun e w' => e = .returned (.bool true) ∧ Bw w w' := by
  have HB := Aside0.mk (Bw.refl w)
  go_enter Try.func23, Try.ntmps23
  go_wp2_with fail
  refine (Read_calls _ 1 [3] _ (rows_lit w [3] (by simp) _ rfl) (by simp) (by simp)).mono ?_
  rintro e w1 ⟨cb, cv, us, rfl, hc, hb1⟩
  rw [progs3] at hc
  have HN := Aside0.mk (mNew_calls hc 1 1 1 (by decide) (by decide))
  have HB1 := Aside0.mk ((HB.out.alloc _).trans hb1)
  clear hc hb1
  go_wp2_with fail
  refine HN.out.mono ?_
  rintro e w2 ⟨s, rfl, hsn, hsp, h2, hb2⟩
  have H2 := Aside0.mk h2
  have HB2 := Aside0.mk (HB1.out.trans hb2)
  have OLD := Aside0.mk (fun j (hj : MF s j) => h2.old j hj)
  have HL := Aside0.mk (show longOf s.pss 0 = 1 by rw [hsp]; rfl)
  have HA0 := Aside0.mk (show atOf s.pss 0 ((0 : Nat) : Int) = (3, 0) by rw [hsp]; rfl)
  clear h2 hb2 hsp hsn
  obtain ⟨w3, hw3⟩ : ∃ w3, w3 = ((w2.alloc (.cells (evC 1 0 (-1) 0 0) 55)).alloc (.cells (evC 4 0 (-1) 0 0) 55)).alloc (.cells (evC 11 0 (-1) 0 0) 55) := ⟨_, rfl⟩
  have KA := Aside0.mk (show Blk w3 w2.heap.size (evC 1 0 (-1) 0 0) 55 by rw [hw3]; exact ((Blk.new w2 _ _).alloc _).alloc _)
  have KB := Aside0.mk (show Blk w3 (w2.heap.size + 1) (evC 4 0 (-1) 0 0) 55 by
    rw [hw3]
    exact (show Blk ((w2.alloc (.cells (evC 1 0 (-1) 0 0) 55)).alloc (.cells (evC 4 0 (-1) 0 0) 55)) (w2.heap.size + 1) (evC 4 0 (-1) 0 0) 55 by simpa using Blk.new (w2.alloc (.cells (evC 1 0 (-1) 0 0) 55)) (evC 4 0 (-1) 0 0) 55).alloc _)
  have KC := Aside0.mk (show Blk w3 (w2.heap.size + 1 + 1) (evC 11 0 (-1) 0 0) 55 by
    rw [hw3]
    simpa using Blk.new ((w2.alloc (.cells (evC 1 0 (-1) 0 0) 55)).alloc (.cells (evC 4 0 (-1) 0 0) 55)) (evC 11 0 (-1) 0 0) 55)
  have H3 := Aside0.mk (show IsMod w3 w1.heap.size s [⟨1, 0, 0, 0, 0⟩] 0 (.map []) (.map []) by rw [hw3]; exact H2.out.bw ((((Bw.refl w2).alloc _).alloc _).alloc _))
  have HB3 := Aside0.mk (show Bw w w3 by rw [hw3]; exact ((HB2.out.alloc _).alloc _).alloc _)
  have D4 := Aside0.mk (start0 H3.out (by decide) ⟨1, 0, 0, 0, 0⟩ rfl rfl (by simp [has]) (by simp [has]) (3, 0) 0 fun W hW => next_some hW 0 ⟨1, 0, 0, 0, 0⟩ rfl 1 0 HL.out rfl (by decide) (3, 0) HA0.out (by decide) (by decide))
  go_wp2_with fail
  rw [← hw3]
  clear hw3
  refine D4.out.mono ?_
  rintro e w4 ⟨rfl, h4, c4⟩
  have H4 := Aside0.mk (show IsMod w4 w1.heap.size s [⟨2, 0, 0, 0, 0⟩] 1 ((DataW.map [] : DataW Unit).put (.int .i64 0) (.lit (.int .i64 0))) ((DataW.map [] : DataW Unit).put (.int .i64 0) (.lit (.int .i64 0))) from h4)
  have KA := Aside0.mk (KA.out.of_block (c4.block _ KA.out.lt (fun e => by have := OLD.out _ e; omega)))
  have KB := Aside0.mk (KB.out.of_block (c4.block _ KB.out.lt (fun e => by have := OLD.out _ e; omega)))
  have KC := Aside0.mk (KC.out.of_block (c4.block _ KC.out.lt (fun e => by have := OLD.out _ e; omega)))
  have HB4 := Aside0.mk (c4.below HB3.out (fun j hj => Nat.le_trans HB1.out.size (H3.out.ge j hj)))
  clear h4 c4
  obtain ⟨a0, a1, a2, a3, a4, al⟩ := ev_cells KA.out
  obtain ⟨b0, b1, b2, b3, b4, bl⟩ := ev_cells KB.out
  obtain ⟨d0, d1, d2, d3, d4, dl⟩ := ev_cells KC.out
  have M5 := Aside0.mk (show Calls Try.prog 27 #[.pointer (some ⟨s.mb, 0, none⟩), .agg #[.int .i64 11, .int .i64 0, .int .i64 (-1), .int .i64 0, .int .i64 0]] w4 (fun e w' => e = .returned (.bool false) ∧ Bw w4 w') from may_runs H4.out 11 rfl rfl rfl 0 (-1) 0 0 false ⟨2, 0, 0, 0, 0⟩ rfl fun W hW => runs_calls hW 11 rfl rfl rfl 0 ⟨2, 0, 0, 0, 0⟩ rfl rfl 0 (fun W => asks_11 W) rfl (3, 0) fun W' hW' => Next_of hW' 0 (hW'.rowAt (r := ⟨2, 0, 0, 0, 0⟩) rfl).2.2.2.2.2 (3, 0) 0 fun W2 hW2 => next_some hW2 0 ⟨2, 0, 0, 0, 0⟩ rfl 1 0 HL.out rfl (by decide) (3, 0) HA0.out (by decide) (by decide))
  go_wp2_with fail
  refine M5.out.mono ?_
  rintro e w5 ⟨rfl, hb5⟩
  have H5 := Aside0.mk (H4.out.bw hb5)
  have HB5 := Aside0.mk (HB4.out.trans hb5)
  have KA := Aside0.mk (KA.out.bw hb5)
  have KB := Aside0.mk (KB.out.bw hb5)
  have KC := Aside0.mk (KC.out.bw hb5)
  clear hb5 a0 a1 a2 a3 a4 al b0 b1 b2 b3 b4 bl d0 d1 d2 d3 d4 dl
  obtain ⟨a0, a1, a2, a3, a4, al⟩ := ev_cells KA.out
  obtain ⟨b0, b1, b2, b3, b4, bl⟩ := ev_cells KB.out
  obtain ⟨d0, d1, d2, d3, d4, dl⟩ := ev_cells KC.out
  have D6 := Aside0.mk (stop0 H5.out 4 1 (.inl ⟨rfl, rfl⟩) ⟨2, 0, 0, 0, 0⟩ rfl rfl rfl rfl (3, 0) 0 (by decide) 3 (fun W => asks_4 W) rfl rfl fun W hW => next_some hW 0 ⟨2, 0, 0, 0, 0⟩ rfl 1 0 HL.out rfl (by decide) (3, 0) HA0.out (by decide) (by decide))
  go_wp2_with fail
  refine D6.out.mono ?_
  rintro e w6 ⟨rfl, h6, c6⟩
  have H6 := Aside0.mk (show IsMod w6 w1.heap.size s [⟨1, 0, 1, 0, 0⟩] 1 (((DataW.map [] : DataW Unit).put (.int .i64 0) (.lit (.int .i64 0))).del (.int .i64 0)) (((DataW.map [] : DataW Unit).put (.int .i64 0) (.lit (.int .i64 0))).del (.int .i64 0)) from h6)
  have KA := Aside0.mk (KA.out.of_block (c6.block _ KA.out.lt (fun e => by have := OLD.out _ e; omega)))
  have KB := Aside0.mk (KB.out.of_block (c6.block _ KB.out.lt (fun e => by have := OLD.out _ e; omega)))
  have KC := Aside0.mk (KC.out.of_block (c6.block _ KC.out.lt (fun e => by have := OLD.out _ e; omega)))
  have HB6 := Aside0.mk (c6.below HB5.out (fun j hj => Nat.le_trans HB1.out.size (H5.out.ge j hj)))
  clear h6 c6 a0 a1 a2 a3 a4 al b0 b1 b2 b3 b4 bl d0 d1 d2 d3 d4 dl
  obtain ⟨a0, a1, a2, a3, a4, al⟩ := ev_cells KA.out
  obtain ⟨b0, b1, b2, b3, b4, bl⟩ := ev_cells KB.out
  obtain ⟨d0, d1, d2, d3, d4, dl⟩ := ev_cells KC.out
  have D7 := Aside0.mk (start0 H6.out (by decide) ⟨1, 0, 1, 0, 0⟩ rfl rfl has_del_same has_del_same (0, 0) 1 fun W hW => next_none hW 0 ⟨1, 0, 1, 0, 0⟩ rfl 1 HL.out (by decide))
  go_wp2_with fail
  refine D7.out.mono ?_
  rintro e w7 ⟨rfl, h7, c7⟩
  have H7 := Aside0.mk (show IsMod w7 w1.heap.size s [⟨2, 0, 1, 0, 0⟩] 2 ((((DataW.map [] : DataW Unit).put (.int .i64 0) (.lit (.int .i64 0))).del (.int .i64 0)).put (.int .i64 0) (.lit (.int .i64 0))) ((((DataW.map [] : DataW Unit).put (.int .i64 0) (.lit (.int .i64 0))).del (.int .i64 0)).put (.int .i64 0) (.lit (.int .i64 0))) from h7)
  have KA := Aside0.mk (KA.out.of_block (c7.block _ KA.out.lt (fun e => by have := OLD.out _ e; omega)))
  have KB := Aside0.mk (KB.out.of_block (c7.block _ KB.out.lt (fun e => by have := OLD.out _ e; omega)))
  have KC := Aside0.mk (KC.out.of_block (c7.block _ KC.out.lt (fun e => by have := OLD.out _ e; omega)))
  have HB7 := Aside0.mk (c7.below HB6.out (fun j hj => Nat.le_trans HB1.out.size (H6.out.ge j hj)))
  clear h7 c7 a0 a1 a2 a3 a4 al b0 b1 b2 b3 b4 bl d0 d1 d2 d3 d4 dl
  obtain ⟨a0, a1, a2, a3, a4, al⟩ := ev_cells KA.out
  obtain ⟨b0, b1, b2, b3, b4, bl⟩ := ev_cells KB.out
  obtain ⟨d0, d1, d2, d3, d4, dl⟩ := ev_cells KC.out
  have D8 := Aside0.mk (stop0 H7.out 11 5 (.inr ⟨rfl, rfl⟩) ⟨2, 0, 1, 0, 0⟩ rfl rfl rfl rfl (0, 0) 1 (by decide) 0 (fun W => asks_11 W) rfl rfl fun W hW => next_none hW 0 ⟨2, 0, 1, 0, 0⟩ rfl 1 HL.out (by decide))
  go_wp2_with fail
  refine D8.out.mono ?_
  rintro e w8 ⟨rfl, h8, c8⟩
  have H8 := Aside0.mk (show IsMod w8 w1.heap.size s [⟨5, 0, 2, 0, 0⟩] 2 (((((DataW.map [] : DataW Unit).put (.int .i64 0) (.lit (.int .i64 0))).del (.int .i64 0)).put (.int .i64 0) (.lit (.int .i64 0))).del (.int .i64 0)) (((((DataW.map [] : DataW Unit).put (.int .i64 0) (.lit (.int .i64 0))).del (.int .i64 0)).put (.int .i64 0) (.lit (.int .i64 0))).del (.int .i64 0)) from h8)
  have KA := Aside0.mk (KA.out.of_block (c8.block _ KA.out.lt (fun e => by have := OLD.out _ e; omega)))
  have KB := Aside0.mk (KB.out.of_block (c8.block _ KB.out.lt (fun e => by have := OLD.out _ e; omega)))
  have KC := Aside0.mk (KC.out.of_block (c8.block _ KC.out.lt (fun e => by have := OLD.out _ e; omega)))
  have HB8 := Aside0.mk (c8.below HB7.out (fun j hj => Nat.le_trans HB1.out.size (H7.out.ge j hj)))
  clear h8 c8 a0 a1 a2 a3 a4 al b0 b1 b2 b3 b4 bl d0 d1 d2 d3 d4 dl
  obtain ⟨a0, a1, a2, a3, a4, al⟩ := ev_cells KA.out
  obtain ⟨b0, b1, b2, b3, b4, bl⟩ := ev_cells KB.out
  obtain ⟨d0, d1, d2, d3, d4, dl⟩ := ev_cells KC.out
  have W9 := Aside0.mk (what_in H8.out 0 ⟨5, 0, 2, 0, 0⟩ rfl)
  go_wp2_with fail
  refine (W9.out).mono ?_
  rintro e w9 ⟨rfl, hb9⟩
  have HB9 := Aside0.mk (HB8.out.trans hb9)
  clear hb9
  go_wp2_with fail
  go_ret
  exact ⟨rfl, HB9.out⟩
end Go.Proofs.Ytoklhhcjcecbbaa.M
