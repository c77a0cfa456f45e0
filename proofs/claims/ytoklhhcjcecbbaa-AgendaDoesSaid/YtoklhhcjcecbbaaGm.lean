/- Agenda: the methods of none; the example of law36. No condition. -/
import Derived.Test.YtoklhhcjcecbbaaGl
namespace Go.Proofs.Ytoklhhcjcecbbaa.M
open Go.RowKit Go.Maps Go.Proofs.YtoklhhcjcecbbaaW.PrintWords Go.Proofs.YtoklhhcjcecbbaaW.PrintLast Go.Proofs.YtoklhhcjcecbbaaW.PrintMore
set_option linter.unusedVariables false
set_option linter.unusedSimpArgs false
set_option maxHeartbeats 1000000
set_option maxRecDepth 100000
section
variable {w w1 : World} {base ab b mb : Nat} {v : Value} {L : List It} {D : DataW Unit}
theorem agPut_nil (w : World) (x : It) : Calls Try.prog 10 #[.pointer none, itV x] w fun e w' => e = .returned (.int .i64 1) ∧ Bw w w' := by
  obtain ⟨xa, xb⟩ := x
  have HB := Aside0.mk (show Bw w (w.alloc (.cells #[.int .i64 xa, .int .i64 xb] 30)) from (Bw.refl w).alloc _)
  go_enter Try.func10, Try.ntmps10
  go_wp2_with fail
  go_ret
  exact ⟨rfl, HB.out⟩
theorem agPop_nil (w : World) : Calls Try.prog 12 #[.pointer none] w fun e w' => e = .returned (firstV (0, 0) false) ∧ Bw w w' := by
  obtain ⟨w0, hw0⟩ : ∃ w0, w0 = w.alloc (.cells #[.int .i64 0, .int .i64 0] 30) := ⟨_, rfl⟩
  have HB0 := Aside0.mk (show Bw w w0 by rw [hw0]; exact (Bw.refl w).alloc _)
  have HK0 := Aside0.mk (show Blk w0 w.heap.size #[.int .i64 0, .int .i64 0] 30 by rw [hw0]; exact Blk.new w _ _)
  have HL := agFirst_nil w0
  dsimp only [firstV, itV] at HL
  have HL := Aside0.mk HL
  go_enter Try.func12, Try.ntmps12
  go_wp2_with fail
  rw [← hw0]
  refine (HL.out).mono ?_
  rintro e w1 ⟨rfl, hb1⟩
  have HB1 := Aside0.mk (HB0.out.trans hb1)
  have HK1 := Aside0.mk (HK0.out.bw hb1)
  obtain ⟨a0, a1, af, al⟩ := two_st HK1.out
  clear hb1
  go_wp2_with fail
  refine bodyPost_ret (res_pop rfl rfl (((HK1.out.set 0 (.int .i64 0)).set 1 (.int .i64 0)).alloc _)) rfl ⟨rfl, ((HB1.out.setCell (Nat.le_refl _) _).setCell (Nat.le_refl _) _).alloc _⟩
theorem agAt_nil (w : World) (k : Int) : Calls Try.prog 17 #[.pointer none, .int .i64 k] w fun e w' => e = .returned (.tuple #[.int .i64 0, .bool false]) ∧ Bw w w' := by
  go_enter Try.func17, Try.ntmps17
  go_wp2_with fail
  refine (agPlace_nil _ k).mono ?_
  rintro e w1 ⟨rfl, hb1⟩
  go_wp2_with fail
  go_ret2
  exact ⟨rfl, hb1⟩
theorem agDrop_nil (w : World) (k : Int) : Calls Try.prog 20 #[.pointer none, .int .i64 k] w fun e w' => e = .returned (.bool false) ∧ Bw w w' := by
  go_enter Try.func20, Try.ntmps20
  go_wp2_with fail
  refine (agPlace_nil _ k).mono ?_
  rintro e w1 ⟨rfl, hb1⟩
  go_wp2_with fail
  go_ret
  exact ⟨rfl, hb1⟩
theorem agMove_nil (w : World) (k d : Int) : Calls Try.prog 21 #[.pointer none, .int .i64 k, .int .i64 d] w fun e w' => e = .returned (.bool false) ∧ Bw w w' := by
  go_enter Try.func21, Try.ntmps21
  go_wp2_with fail
  refine (agPlace_nil _ k).mono ?_
  rintro e w1 ⟨rfl, hb1⟩
  go_wp2_with fail
  go_ret
  exact ⟨rfl, hb1⟩
theorem agAll_nil (w : World) : Calls Try.prog 16 #[.pointer none] w fun e w' => e = .returned (.slice none 0 0) ∧ Bw w w' := by
  have HB := Aside0.mk (Bw.refl w)
  go_enter Try.func16, Try.ntmps16
  go_wp2_with fail
  go_ret
  exact ⟨rfl, HB.out⟩
theorem agDue_nil (w : World) (d : Int) : Calls Try.prog 22 #[.pointer none, .int .i64 d] w fun e w' => e = .returned (.slice none 0 0) ∧ Bw w w' := by
  have HL := fun W => agFirst_nil W
  dsimp only [firstV, itV] at HL
  have HL := Aside0.mk HL
  have HB := Aside0.mk (Bw.refl w)
  go_enter Try.func22, Try.ntmps22
  go_wp2_with fail
  go_loopw [5] (fun ov wr => ov = .slice none 0 0 ∧ wr = w) (fun _ _ => 0)
  case atStart => exact ⟨rfl, rfl⟩
  case round =>
    obtain ⟨rfl, rfl⟩ := hrel
    go_wp2_with fail
    refine (HL.out _).mono ?_
    rintro e w1 ⟨rfl, hb1⟩
    have HB1 := Aside0.mk hb1
    clear hb1
    go_wp2_with fail
    go_ret
    exact ⟨rfl, HB1.out.alloc _⟩
theorem own_from {w : World} {base n g : Nat} {e : TypeId} {sz : Nat} {v : Value} {xs : List Value} (h : w.ownsRow base e sz v n xs) (hg : v.ownBlock = some g) : base ≤ g := by
  rcases h.2 with ⟨rfl, _⟩ | ⟨g', cap, cur, rfl, hb, _⟩
  · simp [Value.ownBlock] at hg
  · have : g' = g := by simpa [Value.ownBlock] using hg
    omega
def stA (W0 W : World) (ab b mb : Nat) (base : Nat) (v : Value) (L : List It) : Prop := IsAg W base ab b mb v L ∧ Bw W0 W
theorem AgS.under {v' : Value} {W0 : World} (h : Chg (PlF b mb v) w w1) (hb : Bw W0 w) (hs : W0.heap.size ≤ base) (ha : IsAg w base ab b mb v L) : Bw W0 w1 := by
  refine h.below hb fun i hi => Nat.le_trans hs ?_
  obtain ⟨D, hd⟩ := ha.pl
  rcases hi with rfl | hi | rfl
  · exact hd.le.1
  · exact own_from hd.row hi
  · exact hd.le.2
theorem PlF.eq {v' : Value} (h : v'.ownBlock = v.ownBlock) {i : Nat} (hi : PlF b mb v' i) : PlF b mb v i := by
  rcases hi with hi | hi | hi
  · exact .inl hi
  · exact .inr (.inl (h ▸ hi))
  · exact .inr (.inr hi)
theorem aawake_calls (w : World) : Calls Try.prog 8 #[] w fun e w' => e = .returned (.bool true) ∧ Bw w w' := by
  have e1 : hasK ([] : List It) 5 = false := rfl
  go_enter Try.func8, Try.ntmps8
  go_wp2_with fail
  refine (agNew_calls w).mono ?_
  rintro e w1 ⟨ab, b, mb, rfl, h1, hb1⟩
  have H1 := Aside0.mk h1
  have B1 := Aside0.mk hb1
  have P1 := Aside0.mk (agPut_calls h1 (9, 5) (by constructor <;> decide) (by decide))
  clear h1 hb1
  go_wp2_with fail
  refine P1.out.mono ?_
  rintro e w2 ⟨rfl, v2, h2, s2⟩
  have H2 := Aside0.mk (show IsAg w2 w.heap.size ab b mb v2 [(9, 5)] from h2)
  have B2 := Aside0.mk (AgS.under (v' := v2) s2.chg B1.out (Nat.le_refl _) H1.out)
  have P2 := Aside0.mk (agPut_calls H2.out (9, 3) (by constructor <;> decide) (by decide))
  clear h2 s2
  go_wp2_with fail
  refine P2.out.mono ?_
  rintro e w3 ⟨rfl, v3, h3, s3⟩
  have H3 := Aside0.mk (show IsAg w3 w.heap.size ab b mb v3 [(9, 3), (9, 5)] from h3)
  have B3 := Aside0.mk (AgS.under (v' := v3) s3.chg B2.out (Nat.le_refl _) H2.out)
  have P3 := Aside0.mk (agPut_calls H3.out (2, 8) (by constructor <;> decide) (by decide))
  clear h3 s3
  go_wp2_with fail
  refine P3.out.mono ?_
  rintro e w4 ⟨rfl, v4, h4, s4⟩
  have H4 := Aside0.mk (show IsAg w4 w.heap.size ab b mb v4 [(2, 8), (9, 5), (9, 3)] from h4)
  have B4 := Aside0.mk (AgS.under (v' := v4) s4.chg B3.out (Nat.le_refl _) H3.out)
  have P4 := agPop_calls H4.out (2, 8) rfl
  dsimp only [firstV, itV] at P4
  have P4 := Aside0.mk P4
  clear h4 s4
  go_wp2_with fail
  refine P4.out.mono ?_
  rintro e w5 ⟨rfl, v5, h5, n5, c5⟩
  have H5 := Aside0.mk (show IsAg w5 w.heap.size ab b mb v5 [(9, 3), (9, 5)] from h5)
  have B5 := Aside0.mk (AgS.under (v' := v5) c5 B4.out (Nat.le_refl _) H4.out)
  clear h5 n5 c5
  have O5 := Aside0.mk (fun i (hi : PlF b mb v5 i) => IsAg.old H5.out i hi)
  obtain ⟨x5, hx5⟩ : ∃ x5, x5 = w5.alloc (.cells #[.int .i64 2, .int .i64 8] 30) := ⟨_, rfl⟩
  have K5 := Aside0.mk (show Blk x5 w5.heap.size #[.int .i64 2, .int .i64 8] 30 by rw [hx5]; exact Blk.new w5 _ _)
  have H5 := Aside0.mk (show IsAg x5 w.heap.size ab b mb v5 [(9, 3), (9, 5)] by rw [hx5]; exact H5.out.bw ((Bw.refl w5).alloc _))
  have B5 := Aside0.mk (show Bw w x5 by rw [hx5]; exact B5.out.alloc _)
  have Z5 := Aside0.mk (show w5.heap.size < x5.heap.size by rw [hx5]; simp)
  have P5 := agPop_calls H5.out (9, 3) rfl
  dsimp only [firstV, itV] at P5
  have P5 := Aside0.mk P5
  go_wp2_with fail
  rw [← hx5]
  refine P5.out.mono ?_
  rintro e w6 ⟨rfl, v6, h6, n6, c6⟩
  have H6 := Aside0.mk (show IsAg w6 w.heap.size ab b mb v6 [(9, 5)] from h6)
  have B6 := Aside0.mk (AgS.under (v' := v6) c6 B5.out (Nat.le_refl _) H5.out)
  have K5 := Aside0.mk (K5.out.of_block (c6.block _ K5.out.lt (fun e => by have := O5.out _ e; omega)))
  have O6 := Aside0.mk (fun i (hi : PlF b mb v6 i) => O5.out i (hi.eq n6))
  clear h6 n6 c6
  obtain ⟨x6, hx6⟩ : ∃ x6, x6 = w6.alloc (.cells #[.int .i64 9, .int .i64 3] 30) := ⟨_, rfl⟩
  have L6 := Aside0.mk (show w5.heap.size ≤ w6.heap.size from Nat.le_of_lt K5.out.lt)
  have J6 := Aside0.mk (show Blk x6 w6.heap.size #[.int .i64 9, .int .i64 3] 30 by rw [hx6]; exact Blk.new w6 _ _)
  have K5 := Aside0.mk (show Blk x6 w5.heap.size #[.int .i64 2, .int .i64 8] 30 by rw [hx6]; exact K5.out.alloc _)
  have H6 := Aside0.mk (show IsAg x6 w.heap.size ab b mb v6 [(9, 5)] by rw [hx6]; exact H6.out.bw ((Bw.refl w6).alloc _))
  have B6 := Aside0.mk (show Bw w x6 by rw [hx6]; exact B6.out.alloc _)
  have P6 := agPop_calls H6.out (9, 5) rfl
  dsimp only [firstV, itV] at P6
  have P6 := Aside0.mk P6
  go_wp2_with fail
  rw [← hx6]
  refine P6.out.mono ?_
  rintro e w7 ⟨rfl, v7, h7, n7, c7⟩
  have H7 := Aside0.mk (show IsAg w7 w.heap.size ab b mb v7 [] from h7)
  have B7 := Aside0.mk (AgS.under (v' := v7) c7 B6.out (Nat.le_refl _) H6.out)
  have K5 := Aside0.mk (K5.out.of_block (c7.block _ K5.out.lt (fun e => by have := O6.out _ e; omega)))
  have J6 := Aside0.mk (J6.out.of_block (c7.block _ J6.out.lt (fun e => by have := O6.out _ e; have := L6.out; omega)))
  clear h7 n7 c7
  obtain ⟨k5, q5⟩ : w7.cell? ⟨w5.heap.size, 1, none⟩ = some (.int .i64 8) ∧ w5.heap.size < w7.heap.size := ⟨K5.out.cell 1 (.int .i64 8) rfl, K5.out.lt⟩
  obtain ⟨j6, q6⟩ : w7.cell? ⟨w6.heap.size, 1, none⟩ = some (.int .i64 3) ∧ w6.heap.size < w7.heap.size := ⟨J6.out.cell 1 (.int .i64 3) rfl, J6.out.lt⟩
  obtain ⟨x7, hx7⟩ : ∃ x7, x7 = w7.alloc (.cells #[.int .i64 9, .int .i64 5] 30) := ⟨_, rfl⟩
  have H7 := Aside0.mk (show IsAg x7 w.heap.size ab b mb v7 [] by rw [hx7]; exact H7.out.bw ((Bw.refl w7).alloc _))
  have B7 := Aside0.mk (show Bw w x7 by rw [hx7]; exact B7.out.alloc _)
  have HL := Aside0.mk (agLen_calls H7.out)
  go_wp2_with fail
  rw [← hx7]
  refine (HL.out).mono ?_
  rintro e w1 ⟨rfl, hb1⟩
  have HB := Aside0.mk (B7.out.trans hb1)
  clear hb1
  go_wp2_with fail
  go_ret
  exact ⟨rfl, HB.out⟩
set_option maxHeartbeats 2000000 in
theorem AgendaNone_go (a c : Int) (w : World) : Calls Try.prog 5 #[.agg #[.int .i64 a, .int .i64 c]] w fun e w' => e = .returned (.bool true) ∧ Bw w w' := by
  obtain ⟨w0, hw0⟩ : ∃ w0, w0 = w.alloc (.cells #[.int .i64 a, .int .i64 c] 30) := ⟨_, rfl⟩
  have B0 := Aside0.mk (show Bw w w0 by rw [hw0]; exact (Bw.refl w).alloc _)
  have K0 := Aside0.mk (show Blk w0 w.heap.size #[.int .i64 a, .int .i64 c] 30 by rw [hw0]; exact Blk.new w _ _)
  have P0 := agPop_nil w0
  dsimp only [firstV, itV] at P0
  have P0 := Aside0.mk P0
  go_enter Try.func5, Try.ntmps5
  go_wp2_with fail
  rw [← hw0]
  refine (P0.out).mono ?_
  rintro e w1 ⟨rfl, hb1⟩
  have B1 := Aside0.mk (B0.out.trans hb1)
  have K0 := Aside0.mk (K0.out.bw hb1)
  clear hb1
  obtain ⟨x1, hx1⟩ : ∃ x1, x1 = w1.alloc (.cells #[.int .i64 0, .int .i64 0] 30) := ⟨_, rfl⟩
  have B1 := Aside0.mk (show Bw w x1 by rw [hx1]; exact B1.out.alloc _)
  have K1 := Aside0.mk (show Blk x1 w1.heap.size #[.int .i64 0, .int .i64 0] 30 by rw [hx1]; exact Blk.new w1 _ _)
  have K0 := Aside0.mk (show Blk x1 w.heap.size #[.int .i64 a, .int .i64 c] 30 by rw [hx1]; exact K0.out.alloc _)
  have P1 := agFirst_nil x1
  dsimp only [firstV, itV] at P1
  have P1 := Aside0.mk P1
  go_wp2_with fail
  rw [← hx1]
  refine (P1.out).mono ?_
  rintro e w2 ⟨rfl, hb2⟩
  have B2 := Aside0.mk (B1.out.trans hb2)
  have K0 := Aside0.mk (K0.out.bw hb2)
  have K1 := Aside0.mk (K1.out.bw hb2)
  have k0 := K0.out.cell 0 (.int .i64 a) rfl
  have k1 := K0.out.cell 1 (.int .i64 c) rfl
  have kl := K0.out.lt
  clear hb2
  obtain ⟨x2, hx2⟩ : ∃ x2, x2 = w2.alloc (.cells #[.int .i64 0, .int .i64 0] 30) := ⟨_, rfl⟩
  have B2 := Aside0.mk (show Bw w x2 by rw [hx2]; exact B2.out.alloc _)
  have K2 := Aside0.mk (show Blk x2 w2.heap.size #[.int .i64 0, .int .i64 0] 30 by rw [hx2]; exact Blk.new w2 _ _)
  have K1 := Aside0.mk (show Blk x2 w1.heap.size #[.int .i64 0, .int .i64 0] 30 by rw [hx2]; exact K1.out.alloc _)
  have K0 := Aside0.mk (show Blk x2 w.heap.size #[.int .i64 a, .int .i64 c] 30 by rw [hx2]; exact K0.out.alloc _)
  go_wp2_with fail
  rw [← hx2]
  clear hw0 hx1 hx2 k0 k1 kl
  refine (agAt_nil _ c).mono ?_
  rintro e w3 ⟨rfl, hb3⟩
  have B := Aside0.mk (B2.out.trans hb3)
  have K0 := Aside0.mk (K0.out.bw hb3)
  have K1 := Aside0.mk (K1.out.bw hb3)
  have K2 := Aside0.mk (K2.out.bw hb3)
  clear hb3
  obtain ⟨a0, a1, af, al⟩ := two_st K0.out
  obtain ⟨b0, b1, bf, bl⟩ := two_st K1.out
  obtain ⟨c0, c1, cf, cl⟩ := two_st K2.out
  have HA := Aside0.mk (fun W => aawake_calls W)
  go_wp2_with fail
  refine (HA.out _).mono ?_
  rintro e w4 ⟨rfl, hb4⟩
  have B := Aside0.mk (B.out.trans hb4)
  have K0 := Aside0.mk (K0.out.bw hb4)
  have K1 := Aside0.mk (K1.out.bw hb4)
  have K2 := Aside0.mk (K2.out.bw hb4)
  clear hb4 a0 a1 af al b0 b1 bf bl c0 c1 cf cl
  obtain ⟨a0, a1, af, al⟩ := two_st K0.out
  obtain ⟨b0, b1, bf, bl⟩ := two_st K1.out
  obtain ⟨c0, c1, cf, cl⟩ := two_st K2.out
  go_wp2_with fail
  refine (agPut_nil _ (a, c)).mono ?_
  rintro e w5 ⟨rfl, hb5⟩
  have B := Aside0.mk (B.out.trans hb5)
  have K0 := Aside0.mk (K0.out.bw hb5)
  have K1 := Aside0.mk (K1.out.bw hb5)
  have K2 := Aside0.mk (K2.out.bw hb5)
  clear hb5 a0 a1 af al b0 b1 bf bl c0 c1 cf cl
  obtain ⟨a0, a1, af, al⟩ := two_st K0.out
  obtain ⟨b0, b1, bf, bl⟩ := two_st K1.out
  obtain ⟨c0, c1, cf, cl⟩ := two_st K2.out
  go_wp2_with fail
  refine (agDrop_nil _ c).mono ?_
  rintro e w6 ⟨rfl, hb6⟩
  have B := Aside0.mk (B.out.trans hb6)
  have K0 := Aside0.mk (K0.out.bw hb6)
  have K1 := Aside0.mk (K1.out.bw hb6)
  have K2 := Aside0.mk (K2.out.bw hb6)
  clear hb6 a0 a1 af al b0 b1 bf bl c0 c1 cf cl
  obtain ⟨a0, a1, af, al⟩ := two_st K0.out
  obtain ⟨b0, b1, bf, bl⟩ := two_st K1.out
  obtain ⟨c0, c1, cf, cl⟩ := two_st K2.out
  go_wp2_with fail
  refine (agMove_nil _ c a).mono ?_
  rintro e w7 ⟨rfl, hb7⟩
  have B := Aside0.mk (B.out.trans hb7)
  have K0 := Aside0.mk (K0.out.bw hb7)
  have K1 := Aside0.mk (K1.out.bw hb7)
  have K2 := Aside0.mk (K2.out.bw hb7)
  clear hb7 a0 a1 af al b0 b1 bf bl c0 c1 cf cl
  obtain ⟨a0, a1, af, al⟩ := two_st K0.out
  obtain ⟨b0, b1, bf, bl⟩ := two_st K1.out
  obtain ⟨c0, c1, cf, cl⟩ := two_st K2.out
  go_wp2_with fail
  refine (agDue_nil _ a).mono ?_
  rintro e w8 ⟨rfl, hb8⟩
  have B := Aside0.mk (B.out.trans hb8)
  have K0 := Aside0.mk (K0.out.bw hb8)
  have K1 := Aside0.mk (K1.out.bw hb8)
  have K2 := Aside0.mk (K2.out.bw hb8)
  clear hb8 a0 a1 af al b0 b1 bf bl c0 c1 cf cl
  obtain ⟨a0, a1, af, al⟩ := two_st K0.out
  obtain ⟨b0, b1, bf, bl⟩ := two_st K1.out
  obtain ⟨c0, c1, cf, cl⟩ := two_st K2.out
  go_wp2_with fail
  refine (agAll_nil _).mono ?_
  rintro e w9 ⟨rfl, hb9⟩
  have B := Aside0.mk (B.out.trans hb9)
  have K0 := Aside0.mk (K0.out.bw hb9)
  have K1 := Aside0.mk (K1.out.bw hb9)
  have K2 := Aside0.mk (K2.out.bw hb9)
  clear hb9 a0 a1 af al b0 b1 bf bl c0 c1 cf cl
  obtain ⟨a0, a1, af, al⟩ := two_st K0.out
  obtain ⟨b0, b1, bf, bl⟩ := two_st K1.out
  obtain ⟨c0, c1, cf, cl⟩ := two_st K2.out
  go_wp2_with fail
  refine (agLen_nil _).mono ?_
  rintro e w10 ⟨rfl, hb10⟩
  have B := Aside0.mk (B.out.trans hb10)
  have K0 := Aside0.mk (K0.out.bw hb10)
  have K1 := Aside0.mk (K1.out.bw hb10)
  have K2 := Aside0.mk (K2.out.bw hb10)
  clear hb10 a0 a1 af al b0 b1 bf bl c0 c1 cf cl
  obtain ⟨a0, a1, af, al⟩ := two_st K0.out
  obtain ⟨b0, b1, bf, bl⟩ := two_st K1.out
  obtain ⟨c0, c1, cf, cl⟩ := two_st K2.out
  go_wp2_with fail
  go_ret
  exact ⟨rfl, B.out⟩
theorem AgendaNone_walk (w : World) (cs : List Value) (f : Fits [.int .i64, .int .i64] cs) :
    Calls Try.prog 5 #[.agg cs.toArray] w fun e w' => e = .returned (.bool true) ∧ Bw w w' := by
  obtain ⟨a, _, rfl, _, h1⟩ := f.int
  obtain ⟨c, _, rfl, _, h2⟩ := h1.int
  obtain rfl := h2.nil
  exact AgendaNone_go a c w
end
end Go.Proofs.Ytoklhhcjcecbbaa.M
