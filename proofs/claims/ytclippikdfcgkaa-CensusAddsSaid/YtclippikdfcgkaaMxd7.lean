/- The law CensusAdds, walked: configs that are alike; the walk. Conditions: the arguments are of their kinds. -/
import Derived.Test.YtclippikdfcgkaaMxd6
namespace Go.Proofs.Ytclippikdfcgkaa.M
open Go.RowKit Go.Proofs.YtclippikdfcgkaaW.PrintWords Go.Proofs.YtclippikdfcgkaaW.PrintLast Go.Proofs.YtclippikdfcgkaaW.PrintMore
set_option linter.unusedVariables false
set_option linter.unusedSimpArgs false
set_option maxHeartbeats 4000000 in
set_option maxRecDepth 100000 in
theorem Adds_gg (m n : Nat) (t t' : Int) (A : Option Addr) (cap : Nat) (es : List Ev) (A' : Option Addr) (cap' : Nat) (fs : List Ev) (w : World) (h1 : es.length ≤ 50) (h2 : fs.length ≤ 50) (h3 : (n : Int) ≤ 60) (hx : 1 ≤ m ∧ m ≤ 64) (hxn : 1 ≤ n ∧ n ≤ 65536) (hr : Rows encV 5 w A es) (hr' : Rows encV 5 w A' fs) (hcap : es.length ≤ cap) (hcm : cap ≤ 9223372036854775807) (hcap' : fs.length ≤ cap') (hcm' : cap' ≤ 9223372036854775807) (hz : A = none → es = [] ∧ cap = 0) (hz' : A' = none → fs = [] ∧ cap' = 0) :
    Calls Try.prog 3 #[.agg #[.int .i64 (m : Int), .int .i64 t, .int .i64 (n : Int), .int .i64 (m : Int), .int .i64 t', .int .i64 (n : Int)], .slice A es.length cap, .slice A' fs.length cap'] w fun e w' => e = .returned (.bool true) ∧ Bw w w' := by
  have hy := hx
  have hyn := hxn
  have HB := Aside0.mk (Bw.refl w)
  have d0 : decide ((50 : Int) < (es.length : Int)) = false := by simp; omega
  have d1 : decide ((50 : Int) < (fs.length : Int)) = false := by simp; omega
  have d2 : decide ((60 : Int) < (n : Int)) = false := by simp; omega
  have HW0 := Aside0.mk (HB.out.alloc (.cells #[.int .i64 (m : Int), .int .i64 t, .int .i64 (n : Int), .int .i64 (m : Int), .int .i64 t', .int .i64 (n : Int)] 24))
  have HL := Aside0.mk (Blk.new w #[.int .i64 (m : Int), .int .i64 t, .int .i64 (n : Int), .int .i64 (m : Int), .int .i64 t', .int .i64 (n : Int)] 24)
  have Qhx := Aside0.mk hx
  have Qhxn := Aside0.mk hxn
  have Qhy := Aside0.mk hy
  have Qhyn := Aside0.mk hyn
  have Qhr := Aside0.mk hr
  have Qhr1 := Aside0.mk hr'
  have Qz := Aside0.mk (show (A = none → es = [] ∧ cap = 0) ∧ (A' = none → fs = [] ∧ cap' = 0) ∧ es.length ≤ cap ∧ cap ≤ 9223372036854775807 ∧ fs.length ≤ cap' ∧ cap' ≤ 9223372036854775807 from ⟨hz, hz', hcap, hcm, hcap', hcm'⟩)
  clear hx hxn hr hr' hy hyn h3 hz hz' hcap hcm hcap' hcm'
  go_enter Try.func3, Try.ntmps3
  go_wp2_with fail
  refine (Of_lit m n t Qhx.out Qhxn.out A cap es _ (Qhr.out.bw HW0.out) (by omega)).mono ?_
  rintro e w1 ⟨b1, g1, g2, rfl, hC1, hb1⟩
  have HG1 := Aside0.mk hC1.gs
  have HP1 := Aside0.mk hC1.ps
  have HL := Aside0.mk (HL.out.bw hb1)
  have HW0 := Aside0.mk (HW0.out.trans hb1)
  clear hb1 hC1
  go_upto_region 4 with fail
  generalize (Value.tuple #[.agg #[.int .i64 (cK es 0), .int .i64 (cK es 1), .int .i64 (cK es 2), .int .i64 (cK es 3), .int .i64 (cK es 4), .int .i64 (cK es 5), .int .i64 (cK es 6), .int .i64 (cK es 7), .int .i64 (cK es 8), .int .i64 (cK es 9), .int .i64 (cK es 10), .int .i64 (cK es 11), .slice (some ⟨g1, 0, none⟩) n n, .slice (some ⟨g2, 0, none⟩) m m, .int .i64 (cMost es), .int .i64 (cNow es)], .int .i64 0]) = V1
  generalize (Value.agg #[.int .i64 (cK es 0), .int .i64 (cK es 1), .int .i64 (cK es 2), .int .i64 (cK es 3), .int .i64 (cK es 4), .int .i64 (cK es 5), .int .i64 (cK es 6), .int .i64 (cK es 7), .int .i64 (cK es 8), .int .i64 (cK es 9), .int .i64 (cK es 10), .int .i64 (cK es 11), .slice (some ⟨g1, 0, none⟩) n n, .slice (some ⟨g2, 0, none⟩) m m, .int .i64 (cMost es), .int .i64 (cNow es)]) = V2
  obtain ⟨bc, hbc⟩ : ∃ bc, bc = w.heap.size := ⟨_, rfl⟩
  obtain ⟨bx, hbx⟩ : ∃ bx, bx = w1.heap.size := ⟨_, rfl⟩
  obtain ⟨W1, hW1⟩ : ∃ W1, W1 = w1.alloc (.cells #[.int .i64 (cK es 0), .int .i64 (cK es 1), .int .i64 (cK es 2), .int .i64 (cK es 3), .int .i64 (cK es 4), .int .i64 (cK es 5), .int .i64 (cK es 6), .int .i64 (cK es 7), .int .i64 (cK es 8), .int .i64 (cK es 9), .int .i64 (cK es 10), .int .i64 (cK es 11), .slice (some ⟨g1, 0, none⟩) n n, .slice (some ⟨g2, 0, none⟩) m m, .int .i64 (cMost es), .int .i64 (cNow es)] 31) := ⟨_, rfl⟩
  have HX := Aside0.mk (Blk.new w1 #[.int .i64 (cK es 0), .int .i64 (cK es 1), .int .i64 (cK es 2), .int .i64 (cK es 3), .int .i64 (cK es 4), .int .i64 (cK es 5), .int .i64 (cK es 6), .int .i64 (cK es 7), .int .i64 (cK es 8), .int .i64 (cK es 9), .int .i64 (cK es 10), .int .i64 (cK es 11), .slice (some ⟨g1, 0, none⟩) n n, .slice (some ⟨g2, 0, none⟩) m m, .int .i64 (cMost es), .int .i64 (cNow es)] 31)
  have HV := Aside0.mk ((Bw.refl w1).alloc (.cells #[.int .i64 (cK es 0), .int .i64 (cK es 1), .int .i64 (cK es 2), .int .i64 (cK es 3), .int .i64 (cK es 4), .int .i64 (cK es 5), .int .i64 (cK es 6), .int .i64 (cK es 7), .int .i64 (cK es 8), .int .i64 (cK es 9), .int .i64 (cK es 10), .int .i64 (cK es 11), .slice (some ⟨g1, 0, none⟩) n n, .slice (some ⟨g2, 0, none⟩) m m, .int .i64 (cMost es), .int .i64 (cNow es)] 31))
  rw [← hbc] at HL
  rw [← hW1] at HX HV
  rw [← hbx] at HX
  rw [← hW1, ← hbx, ← hbc]
  clear hW1 hbx hbc
  have HW0 := Aside0.mk (HW0.out.trans HV.out)
  have HL := Aside0.mk (HL.out.bw HV.out)
  have q0 : W1.cell? ⟨bc, 0, none⟩ = some (.int .i64 (m : Int)) := HL.out.cell 0 _ rfl
  have q1 : W1.cell? ⟨bc, 1, none⟩ = some (.int .i64 t) := HL.out.cell 1 _ rfl
  have q2 : W1.cell? ⟨bc, 2, none⟩ = some (.int .i64 (n : Int)) := HL.out.cell 2 _ rfl
  have q3 : W1.cell? ⟨bc, 3, none⟩ = some (.int .i64 (m : Int)) := HL.out.cell 3 _ rfl
  have q4 : W1.cell? ⟨bc, 4, none⟩ = some (.int .i64 t') := HL.out.cell 4 _ rfl
  have q5 : W1.cell? ⟨bc, 5, none⟩ = some (.int .i64 (n : Int)) := HL.out.cell 5 _ rfl
  have hlt := HL.out.lt
  go_wp2_with fail
  refine (Of_lit m n t' Qhy.out Qhyn.out A' cap' fs _ (Qhr1.out.bw HW0.out) (by omega)).mono ?_
  rintro e w2 ⟨b2, g3, g4, rfl, hC2, hb2⟩
  have HG2 := Aside0.mk hC2.gs
  have HP2 := Aside0.mk hC2.ps
  have HX := Aside0.mk (HX.out.bw hb2)
  have HV := Aside0.mk (HV.out.trans hb2)
  have HW0 := Aside0.mk (HW0.out.trans hb2)
  have HL := Aside0.mk (HL.out.bw hb2)
  clear hb2 hC2 q0 q1 q2 q3 q4 q5 hlt
  go_upto_region 7 with fail
  generalize (Value.tuple #[.agg #[.int .i64 (cK fs 0), .int .i64 (cK fs 1), .int .i64 (cK fs 2), .int .i64 (cK fs 3), .int .i64 (cK fs 4), .int .i64 (cK fs 5), .int .i64 (cK fs 6), .int .i64 (cK fs 7), .int .i64 (cK fs 8), .int .i64 (cK fs 9), .int .i64 (cK fs 10), .int .i64 (cK fs 11), .slice (some ⟨g3, 0, none⟩) n n, .slice (some ⟨g4, 0, none⟩) m m, .int .i64 (cMost fs), .int .i64 (cNow fs)], .int .i64 0]) = V3
  generalize (Value.agg #[.int .i64 (cK fs 0), .int .i64 (cK fs 1), .int .i64 (cK fs 2), .int .i64 (cK fs 3), .int .i64 (cK fs 4), .int .i64 (cK fs 5), .int .i64 (cK fs 6), .int .i64 (cK fs 7), .int .i64 (cK fs 8), .int .i64 (cK fs 9), .int .i64 (cK fs 10), .int .i64 (cK fs 11), .slice (some ⟨g3, 0, none⟩) n n, .slice (some ⟨g4, 0, none⟩) m m, .int .i64 (cMost fs), .int .i64 (cNow fs)]) = V4
  obtain ⟨bY, hbY⟩ : ∃ bY, bY = w2.heap.size := ⟨_, rfl⟩
  obtain ⟨W2, hW2⟩ : ∃ W2, W2 = w2.alloc (.cells #[.int .i64 (cK fs 0), .int .i64 (cK fs 1), .int .i64 (cK fs 2), .int .i64 (cK fs 3), .int .i64 (cK fs 4), .int .i64 (cK fs 5), .int .i64 (cK fs 6), .int .i64 (cK fs 7), .int .i64 (cK fs 8), .int .i64 (cK fs 9), .int .i64 (cK fs 10), .int .i64 (cK fs 11), .slice (some ⟨g3, 0, none⟩) n n, .slice (some ⟨g4, 0, none⟩) m m, .int .i64 (cMost fs), .int .i64 (cNow fs)] 31) := ⟨_, rfl⟩
  have HY := Aside0.mk (Blk.new w2 #[.int .i64 (cK fs 0), .int .i64 (cK fs 1), .int .i64 (cK fs 2), .int .i64 (cK fs 3), .int .i64 (cK fs 4), .int .i64 (cK fs 5), .int .i64 (cK fs 6), .int .i64 (cK fs 7), .int .i64 (cK fs 8), .int .i64 (cK fs 9), .int .i64 (cK fs 10), .int .i64 (cK fs 11), .slice (some ⟨g3, 0, none⟩) n n, .slice (some ⟨g4, 0, none⟩) m m, .int .i64 (cMost fs), .int .i64 (cNow fs)] 31)
  have HU := Aside0.mk ((Bw.refl w2).alloc (.cells #[.int .i64 (cK fs 0), .int .i64 (cK fs 1), .int .i64 (cK fs 2), .int .i64 (cK fs 3), .int .i64 (cK fs 4), .int .i64 (cK fs 5), .int .i64 (cK fs 6), .int .i64 (cK fs 7), .int .i64 (cK fs 8), .int .i64 (cK fs 9), .int .i64 (cK fs 10), .int .i64 (cK fs 11), .slice (some ⟨g3, 0, none⟩) n n, .slice (some ⟨g4, 0, none⟩) m m, .int .i64 (cMost fs), .int .i64 (cNow fs)] 31))
  rw [← hW2] at HY HU
  rw [← hbY] at HY
  rw [← hW2, ← hbY]
  clear hW2 hbY
  have HX := Aside0.mk (HX.out.bw HU.out)
  have HV := Aside0.mk (HV.out.trans HU.out)
  have HW0 := Aside0.mk (HW0.out.trans HU.out)
  have HL := Aside0.mk (HL.out.bw HU.out)
  go_cut [11, 12] from 58 to 63 (fun zv ev wx => ∃ bz g5 c5 g6 c6 bs, zv = .pointer (some ⟨bz, 0, none⟩) ∧ ev = .int .i64 0 ∧ Aside0 (Blk wx bz #[.int .i64 (cK (es ++ fs) 0), .int .i64 (cK (es ++ fs) 1), .int .i64 (cK (es ++ fs) 2), .int .i64 (cK (es ++ fs) 3), .int .i64 (cK (es ++ fs) 4), .int .i64 (cK (es ++ fs) 5), .int .i64 (cK (es ++ fs) 6), .int .i64 (cK (es ++ fs) 7), .int .i64 (cK (es ++ fs) 8), .int .i64 (cK (es ++ fs) 9), .int .i64 (cK (es ++ fs) 10), .int .i64 (cK (es ++ fs) 11), .slice (some ⟨g5, 0, none⟩) n c5, .slice (some ⟨g6, 0, none⟩) m c6, .int .i64 (cMost (es ++ fs)), .int .i64 (cNow (es ++ fs))] 31) ∧ Aside0 (Bw W2 wx) ∧ Aside0 (wx.ownsRow bs 141 3 (.slice (some ⟨g5, 0, none⟩) n c5) n (tabV (n * 3) (fG (es ++ fs)))) ∧ Aside0 (wx.ownsRow bs 3 1 (.slice (some ⟨g6, 0, none⟩) m c6) m (tabV m (cP (es ++ fs)))))
  case first =>
    have k0 : W2.cell? ⟨bx, 0, none⟩ = some (.int .i64 (cK es 0)) := HX.out.cell 0 _ rfl
    have k1 : W2.cell? ⟨bx, 1, none⟩ = some (.int .i64 (cK es 1)) := HX.out.cell 1 _ rfl
    have k2 : W2.cell? ⟨bx, 2, none⟩ = some (.int .i64 (cK es 2)) := HX.out.cell 2 _ rfl
    have k3 : W2.cell? ⟨bx, 3, none⟩ = some (.int .i64 (cK es 3)) := HX.out.cell 3 _ rfl
    have k4 : W2.cell? ⟨bx, 4, none⟩ = some (.int .i64 (cK es 4)) := HX.out.cell 4 _ rfl
    have k5 : W2.cell? ⟨bx, 5, none⟩ = some (.int .i64 (cK es 5)) := HX.out.cell 5 _ rfl
    have k6 : W2.cell? ⟨bx, 6, none⟩ = some (.int .i64 (cK es 6)) := HX.out.cell 6 _ rfl
    have k7 : W2.cell? ⟨bx, 7, none⟩ = some (.int .i64 (cK es 7)) := HX.out.cell 7 _ rfl
    have k8 : W2.cell? ⟨bx, 8, none⟩ = some (.int .i64 (cK es 8)) := HX.out.cell 8 _ rfl
    have k9 : W2.cell? ⟨bx, 9, none⟩ = some (.int .i64 (cK es 9)) := HX.out.cell 9 _ rfl
    have k10 : W2.cell? ⟨bx, 10, none⟩ = some (.int .i64 (cK es 10)) := HX.out.cell 10 _ rfl
    have k11 : W2.cell? ⟨bx, 11, none⟩ = some (.int .i64 (cK es 11)) := HX.out.cell 11 _ rfl
    have k12 : W2.cell? ⟨bx, 12, none⟩ = some (.slice (some ⟨g1, 0, none⟩) n n) := HX.out.cell 12 _ rfl
    have k13 : W2.cell? ⟨bx, 13, none⟩ = some (.slice (some ⟨g2, 0, none⟩) m m) := HX.out.cell 13 _ rfl
    have k14 : W2.cell? ⟨bx, 14, none⟩ = some (.int .i64 (cMost es)) := HX.out.cell 14 _ rfl
    have k15 : W2.cell? ⟨bx, 15, none⟩ = some (.int .i64 (cNow es)) := HX.out.cell 15 _ rfl
    have kl := HX.out.lt
    have y0 : W2.cell? ⟨bY, 0, none⟩ = some (.int .i64 (cK fs 0)) := HY.out.cell 0 _ rfl
    have y1 : W2.cell? ⟨bY, 1, none⟩ = some (.int .i64 (cK fs 1)) := HY.out.cell 1 _ rfl
    have y2 : W2.cell? ⟨bY, 2, none⟩ = some (.int .i64 (cK fs 2)) := HY.out.cell 2 _ rfl
    have y3 : W2.cell? ⟨bY, 3, none⟩ = some (.int .i64 (cK fs 3)) := HY.out.cell 3 _ rfl
    have y4 : W2.cell? ⟨bY, 4, none⟩ = some (.int .i64 (cK fs 4)) := HY.out.cell 4 _ rfl
    have y5 : W2.cell? ⟨bY, 5, none⟩ = some (.int .i64 (cK fs 5)) := HY.out.cell 5 _ rfl
    have y6 : W2.cell? ⟨bY, 6, none⟩ = some (.int .i64 (cK fs 6)) := HY.out.cell 6 _ rfl
    have y7 : W2.cell? ⟨bY, 7, none⟩ = some (.int .i64 (cK fs 7)) := HY.out.cell 7 _ rfl
    have y8 : W2.cell? ⟨bY, 8, none⟩ = some (.int .i64 (cK fs 8)) := HY.out.cell 8 _ rfl
    have y9 : W2.cell? ⟨bY, 9, none⟩ = some (.int .i64 (cK fs 9)) := HY.out.cell 9 _ rfl
    have y10 : W2.cell? ⟨bY, 10, none⟩ = some (.int .i64 (cK fs 10)) := HY.out.cell 10 _ rfl
    have y11 : W2.cell? ⟨bY, 11, none⟩ = some (.int .i64 (cK fs 11)) := HY.out.cell 11 _ rfl
    have y12 : W2.cell? ⟨bY, 12, none⟩ = some (.slice (some ⟨g3, 0, none⟩) n n) := HY.out.cell 12 _ rfl
    have y13 : W2.cell? ⟨bY, 13, none⟩ = some (.slice (some ⟨g4, 0, none⟩) m m) := HY.out.cell 13 _ rfl
    have y14 : W2.cell? ⟨bY, 14, none⟩ = some (.int .i64 (cMost fs)) := HY.out.cell 14 _ rfl
    have y15 : W2.cell? ⟨bY, 15, none⟩ = some (.int .i64 (cNow fs)) := HY.out.cell 15 _ rfl
    have yl := HY.out.lt
    go_wp2_with fail
    refine (Add_lit es fs n m g1 n g2 m g3 n g4 m _ Qhxn.out Qhx.out ⟨by omega, by omega⟩ (pw_own_below (own_weaken HG1.out (Nat.zero_le _)) HV.out) (pw_own_below (own_weaken HP1.out (Nat.zero_le _)) HV.out) (pw_own_below (own_weaken HG2.out (Nat.zero_le _)) HU.out) (pw_own_below (own_weaken HP2.out (Nat.zero_le _)) HU.out)).mono ?_
    rintro e w3 ⟨b5, g5, c5, g6, c6, rfl, hC3, hb3⟩
    clear k0 y0 k1 y1 k2 y2 k3 y3 k4 y4 k5 y5 k6 y6 k7 y7 k8 y8 k9 y9 k10 y10 k11 y11 k12 y12 k13 y13 k14 y14 k15 y15
    have HC3 := Aside0.mk hC3
    have HB3 := Aside0.mk hb3
    clear hb3 hC3
    go_wp2_with fail
    go_meet
    case rel => exact ⟨_, g5, c5, g6, c6, _, rfl, rfl, ⟨Blk.new w3 #[.int .i64 (cK (es ++ fs) 0), .int .i64 (cK (es ++ fs) 1), .int .i64 (cK (es ++ fs) 2), .int .i64 (cK (es ++ fs) 3), .int .i64 (cK (es ++ fs) 4), .int .i64 (cK (es ++ fs) 5), .int .i64 (cK (es ++ fs) 6), .int .i64 (cK (es ++ fs) 7), .int .i64 (cK (es ++ fs) 8), .int .i64 (cK (es ++ fs) 9), .int .i64 (cK (es ++ fs) 10), .int .i64 (cK (es ++ fs) 11), .slice (some ⟨g5, 0, none⟩) n c5, .slice (some ⟨g6, 0, none⟩) m c6, .int .i64 (cMost (es ++ fs)), .int .i64 (cNow (es ++ fs))] 31⟩, ⟨HB3.out.alloc _⟩, ⟨HC3.out.gs.alloc _⟩, ⟨HC3.out.ps.alloc _⟩⟩
  case rest =>
    obtain ⟨bz, g5, c5, g6, c6, bs, rfl, rfl, HZ, HBz, HG3, HP3⟩ := hcut
    rename_i hK
    have hb := HW0.out.trans HBz.out
    exact hK _ _ (Adds_tail m n t t' A cap es A' cap' fs w wc bc bx bY bz g1 g2 g3 g4 g5 c5 g6 c6 _ _ bs _ _ _ _ _ _ _ _ _ _ _ _ _ _ _ _ _ _ _ _ _ _ _ _ _ _ _ _ _ _ _ _ _ _ _ _ _ _ _ _ _ _ _ _ _ _ _ _ _ _ _ _ _ _ _ _ _ _ _ _ _ _ _ _ _ _ _ _ _ _ _ _ _ _ _ _ _ _ _ _ _ _ _ _ _ _ _ _ _ _ _ _ _ _ _ _ _ _ _ _ _ _ _ _ _ _ _ _ _ _ _ _ _ _ _ _ _ _ _ _ _ _ _ _ _ _ _ _ _ _ _ _ _ _ _ _ _ _ _ _ _ _ _ _ _ _ _ _ _ _ h1 h2 ⟨⟨Qhx.out, Qhxn.out⟩⟩ Qz ⟨Qhr.out.bw hb⟩ ⟨Qhr1.out.bw hb⟩ ⟨HL.out.bw HBz.out⟩ ⟨HX.out.bw HBz.out⟩ ⟨HY.out.bw HBz.out⟩ HZ ⟨pw_own_below HG1.out (HV.out.trans HBz.out)⟩ ⟨pw_own_below HP1.out (HV.out.trans HBz.out)⟩ ⟨pw_own_below HG2.out (HU.out.trans HBz.out)⟩ ⟨pw_own_below HP2.out (HU.out.trans HBz.out)⟩ HG3 HP3 ⟨hb⟩)
theorem rd_evs {w : World} {a : Option Addr} {len cap : Nat} (h : RdRow [.int .i64, .int .i64, .int .i64, .int .i64, .int .i64] w a len cap) :
    ∃ es : List Ev, es.length = len ∧ Rows encV 5 w a es := by
  obtain ⟨css, hl, hf, hr⟩ := rd_cells h
  refine ⟨css.map fun cs => ⟨geti cs 0, geti cs 1, geti cs 2, geti cs 3, geti cs 4⟩, by simpa using hl, hr.map fun cs hcs => ?_⟩
  obtain ⟨n0, _, rfl, _, h1⟩ := (hf cs hcs).int
  obtain ⟨n1, _, rfl, _, h2⟩ := h1.int
  obtain ⟨n2, _, rfl, _, h3⟩ := h2.int
  obtain ⟨n3, _, rfl, _, h4⟩ := h3.int
  obtain ⟨n4, _, rfl, _, h5⟩ := h4.int
  obtain rfl := h5.nil
  rfl
theorem rd_cap {ks : List FK} {w : World} {a : Option Addr} {len cap : Nat} (h : RdRow ks w a len cap) : len ≤ cap ∧ cap ≤ 9223372036854775807 ∧ (a = none → len = 0 ∧ cap = 0) := by
  rcases h with ⟨_, h1, h2⟩ | ⟨x, rfl, h1, h2, _⟩
  · exact ⟨by omega, by omega, fun _ => ⟨h1, h2⟩⟩
  · refine ⟨h1, ?_, fun h => by cases h⟩
    simp only [maxLen] at h2
    omega
theorem CensusAdds_walk (w : World) (cs : List Value) (f : Fits [.int .i64, .int .i64, .int .i64, .int .i64, .int .i64, .int .i64] cs) (a : Option Addr) (len cap : Nat) (h : RdRow [.int .i64, .int .i64, .int .i64, .int .i64, .int .i64] w a len cap) (y : len * 40 ≤ 140737488351232)
    (a' : Option Addr) (len' cap' : Nat) (h' : RdRow [.int .i64, .int .i64, .int .i64, .int .i64, .int .i64] w a' len' cap') (y' : len' * 40 ≤ 140737488351232) :
    Calls Try.prog 3 #[.agg cs.toArray, .slice a len cap, .slice a' len' cap'] w fun e w' => e = .returned (.bool true) ∧ Bw w w' := by
  obtain ⟨c1, c2, c3⟩ := rd_cap h
  obtain ⟨d1, d2, d3⟩ := rd_cap h'
  obtain ⟨es, rfl, hx⟩ := rd_evs h
  obtain ⟨fs, rfl, hx'⟩ := rd_evs h'
  obtain ⟨p, _, rfl, _, h1⟩ := f.int
  obtain ⟨t, _, rfl, _, h2⟩ := h1.int
  obtain ⟨g, _, rfl, _, h3⟩ := h2.int
  obtain ⟨p', _, rfl, _, h4⟩ := h3.int
  obtain ⟨t', _, rfl, _, h5⟩ := h4.int
  obtain ⟨g', _, rfl, _, h6⟩ := h5.int
  obtain rfl := h6.nil
  clear h h' f h1 h2 h3 h4 h5 h6
  by_cases q1 : es.length ≤ 50
  · by_cases q2 : fs.length ≤ 50
    · by_cases q3 : g ≤ 60
      · by_cases q4 : g' ≤ 60
        · by_cases b1 : p < 1 ∨ 64 < p ∨ g < 1 ∨ 65536 < g
          · by_cases b2 : p' < 1 ∨ 64 < p' ∨ g' < 1 ∨ 65536 < g'
            · exact Adds_bb p t g p' t' g' a cap es a' cap' fs w q1 q2 q3 q4 b1 b2
            · obtain ⟨m', rfl⟩ := Int.eq_ofNat_of_zero_le (show 0 ≤ p' by omega)
              obtain ⟨n', rfl⟩ := Int.eq_ofNat_of_zero_le (show 0 ≤ g' by omega)
              exact Adds_bg p t g m' n' t' a cap es a' cap' fs w q1 q2 q3 q4 b1 (by omega) (by omega) hx'
          · obtain ⟨m, rfl⟩ := Int.eq_ofNat_of_zero_le (show 0 ≤ p by omega)
            obtain ⟨n, rfl⟩ := Int.eq_ofNat_of_zero_le (show 0 ≤ g by omega)
            by_cases b2 : p' < 1 ∨ 64 < p' ∨ g' < 1 ∨ 65536 < g'
            · exact Adds_gb m n t p' t' g' a cap es a' cap' fs w q1 q2 q3 q4 (by omega) (by omega) hx b2
            · obtain ⟨m', rfl⟩ := Int.eq_ofNat_of_zero_le (show 0 ≤ p' by omega)
              obtain ⟨n', rfl⟩ := Int.eq_ofNat_of_zero_le (show 0 ≤ g' by omega)
              by_cases hne : n ≠ n' ∨ m ≠ m'
              · exact Adds_ne m n m' n' t t' a cap es a' cap' fs w q1 q2 q3 q4 (by omega) (by omega) hx hx' (by omega) (by omega) hne
              · obtain rfl : n = n' := by omega
                obtain rfl : m = m' := by omega
                exact Adds_gg m n t t' a cap es a' cap' fs w q1 q2 q3 (by omega) (by omega) hx hx' c1 c2 d1 d2 (fun ha => ⟨List.length_eq_zero_iff.1 (c3 ha).1, (c3 ha).2⟩) (fun ha => ⟨List.length_eq_zero_iff.1 (d3 ha).1, (d3 ha).2⟩)
        · exact Adds_e4 p t g p' t' g' a cap es a' cap' fs w q1 q2 q3 (by omega)
      · exact Adds_e3 p t g p' t' g' a cap es a' cap' fs w q1 q2 (by omega)
    · exact Adds_e2 p t g p' t' g' a cap es a' cap' fs w q1 (by omega)
  · exact Adds_e1 p t g p' t' g' a cap es a' cap' fs w (by omega)
end Go.Proofs.Ytclippikdfcgkaa.M
