/- The law CensusAdds, walked: up to Add. Conditions: the arguments are of their kinds. -/
import Derived.Test.YtclippikdfcgkaaMxd3
namespace Go.Proofs.Ytclippikdfcgkaa.M
open Go.RowKit Go.Proofs.YtclippikdfcgkaaW.PrintWords Go.Proofs.YtclippikdfcgkaaW.PrintLast Go.Proofs.YtclippikdfcgkaaW.PrintMore
set_option linter.unusedVariables false
set_option linter.unusedSimpArgs false
set_option maxHeartbeats 4000000 in
set_option maxRecDepth 100000 in
theorem Adds_ne (m n m' n' : Nat) (t t' : Int) (A : Option Addr) (cap : Nat) (es : List Ev) (A' : Option Addr) (cap' : Nat) (fs : List Ev) (w : World) (h1 : es.length ≤ 50) (h2 : fs.length ≤ 50) (h3 : (n : Int) ≤ 60) (h4 : (n' : Int) ≤ 60) (hx : 1 ≤ m ∧ m ≤ 64) (hxn : 1 ≤ n ∧ n ≤ 65536) (hr : Rows encV 5 w A es) (hr' : Rows encV 5 w A' fs) (hy : 1 ≤ m' ∧ m' ≤ 64) (hyn : 1 ≤ n' ∧ n' ≤ 65536) (hne : n ≠ n' ∨ m ≠ m') :
    Calls Try.prog 3 #[.agg #[.int .i64 (m : Int), .int .i64 t, .int .i64 (n : Int), .int .i64 (m' : Int), .int .i64 t', .int .i64 (n' : Int)], .slice A es.length cap, .slice A' fs.length cap'] w fun e w' => e = .returned (.bool true) ∧ Bw w w' := by
  have HB := Aside0.mk (Bw.refl w)
  have d0 : decide ((50 : Int) < (es.length : Int)) = false := by simp; omega
  have d1 : decide ((50 : Int) < (fs.length : Int)) = false := by simp; omega
  have d2 : decide ((60 : Int) < (n : Int)) = false := by simp; omega
  have d3 : decide ((60 : Int) < (n' : Int)) = false := by simp; omega
  have HW0 := Aside0.mk (HB.out.alloc (.cells #[.int .i64 (m : Int), .int .i64 t, .int .i64 (n : Int), .int .i64 (m' : Int), .int .i64 t', .int .i64 (n' : Int)] 24))
  have HL := Aside0.mk (Blk.new w #[.int .i64 (m : Int), .int .i64 t, .int .i64 (n : Int), .int .i64 (m' : Int), .int .i64 t', .int .i64 (n' : Int)] 24)
  have Qhx := Aside0.mk hx
  have Qhxn := Aside0.mk hxn
  have Qhy := Aside0.mk hy
  have Qhyn := Aside0.mk hyn
  have Qhr := Aside0.mk hr
  have Qhr1 := Aside0.mk hr'
  have Qne := Aside0.mk hne
  clear hx hxn hr hr' hy hyn h3 h4 hne
  go_enter Try.func3, Try.ntmps3
  go_wp2_with fail
  refine (Of_lit m n t Qhx.out Qhxn.out A cap es _ (Qhr.out.bw HW0.out) (by omega)).mono ?_
  rintro e w1 ⟨b1, g1, g2, rfl, hC1, hb1⟩
  have HG1 := Aside0.mk hC1.gs
  have HP1 := Aside0.mk hC1.ps
  have HL := Aside0.mk (HL.out.bw hb1)
  have HW0 := Aside0.mk (HW0.out.trans hb1)
  clear hb1 hC1
  go_upto_region 4 with fail
  generalize (Value.tuple #[.agg #[.int .i64 (cK es 0), .int .i64 (cK es 1), .int .i64 (cK es 2), .int .i64 (cK es 3), .int .i64 (cK es 4), .int .i64 (cK es 5), .int .i64 (cK es 6), .int .i64 (cK es 7), .int .i64 (cK es 8), .int .i64 (cK es 9), .int .i64 (cK es 10), .int .i64 (cK es 11), .slice (some ⟨g1, 0, none⟩) n n, .slice (some ⟨g2, 0, none⟩) m m, .int .i64 (cMost es), .int .i64 (cNow es)], .int .i64 0]) = V1
  generalize (Value.agg #[.int .i64 (cK es 0), .int .i64 (cK es 1), .int .i64 (cK es 2), .int .i64 (cK es 3), .int .i64 (cK es 4), .int .i64 (cK es 5), .int .i64 (cK es 6), .int .i64 (cK es 7), .int .i64 (cK es 8), .int .i64 (cK es 9), .int .i64 (cK es 10), .int .i64 (cK es 11), .slice (some ⟨g1, 0, none⟩) n n, .slice (some ⟨g2, 0, none⟩) m m, .int .i64 (cMost es), .int .i64 (cNow es)]) = V2
  obtain ⟨bc, hbc⟩ : ∃ bc, bc = w.heap.size := ⟨_, rfl⟩
  obtain ⟨bx, hbx⟩ : ∃ bx, bx = w1.heap.size := ⟨_, rfl⟩
  obtain ⟨W1, hW1⟩ : ∃ W1, W1 = w1.alloc (.cells #[.int .i64 (cK es 0), .int .i64 (cK es 1), .int .i64 (cK es 2), .int .i64 (cK es 3), .int .i64 (cK es 4), .int .i64 (cK es 5), .int .i64 (cK es 6), .int .i64 (cK es 7), .int .i64 (cK es 8), .int .i64 (cK es 9), .int .i64 (cK es 10), .int .i64 (cK es 11), .slice (some ⟨g1, 0, none⟩) n n, .slice (some ⟨g2, 0, none⟩) m m, .int .i64 (cMost es), .int .i64 (cNow es)] 31) := ⟨_, rfl⟩
  have HX := Aside0.mk (Blk.new w1 #[.int .i64 (cK es 0), .int .i64 (cK es 1), .int .i64 (cK es 2), .int .i64 (cK es 3), .int .i64 (cK es 4), .int .i64 (cK es 5), .int .i64 (cK es 6), .int .i64 (cK es 7), .int .i64 (cK es 8), .int .i64 (cK es 9), .int .i64 (cK es 10), .int .i64 (cK es 11), .slice (some ⟨g1, 0, none⟩) n n, .slice (some ⟨g2, 0, none⟩) m m, .int .i64 (cMost es), .int .i64 (cNow es)] 31)
  have HV := Aside0.mk ((Bw.refl w1).alloc (.cells #[.int .i64 (cK es 0), .int .i64 (cK es 1), .int .i64 (cK es 2), .int .i64 (cK es 3), .int .i64 (cK es 4), .int .i64 (cK es 5), .int .i64 (cK es 6), .int .i64 (cK es 7), .int .i64 (cK es 8), .int .i64 (cK es 9), .int .i64 (cK es 10), .int .i64 (cK es 11), .slice (some ⟨g1, 0, none⟩) n n, .slice (some ⟨g2, 0, none⟩) m m, .int .i64 (cMost es), .int .i64 (cNow es)] 31))
  rw [← hbc] at HL
  rw [← hW1] at HX HV
  rw [← hbx] at HX
  rw [← hW1, ← hbx, ← hbc]
  clear hW1 hbx hbc
  have HW0 := Aside0.mk (HW0.out.trans HV.out)
  have HL := Aside0.mk (HL.out.bw HV.out)
  have q0 : W1.cell? ⟨bc, 0, none⟩ = some (.int .i64 (m : Int)) := HL.out.cell 0 _ rfl
  have q1 : W1.cell? ⟨bc, 1, none⟩ = some (.int .i64 t) := HL.out.cell 1 _ rfl
  have q2 : W1.cell? ⟨bc, 2, none⟩ = some (.int .i64 (n : Int)) := HL.out.cell 2 _ rfl
  have q3 : W1.cell? ⟨bc, 3, none⟩ = some (.int .i64 (m' : Int)) := HL.out.cell 3 _ rfl
  have q4 : W1.cell? ⟨bc, 4, none⟩ = some (.int .i64 t') := HL.out.cell 4 _ rfl
  have q5 : W1.cell? ⟨bc, 5, none⟩ = some (.int .i64 (n' : Int)) := HL.out.cell 5 _ rfl
  have hlt := HL.out.lt
  go_wp2_with fail
  refine (Of_lit m' n' t' Qhy.out Qhyn.out A' cap' fs _ (Qhr1.out.bw HW0.out) (by omega)).mono ?_
  rintro e w2 ⟨b2, g3, g4, rfl, hC2, hb2⟩
  have HG2 := Aside0.mk hC2.gs
  have HP2 := Aside0.mk hC2.ps
  have HX := Aside0.mk (HX.out.bw hb2)
  have HV := Aside0.mk (HV.out.trans hb2)
  have HW0 := Aside0.mk (HW0.out.trans hb2)
  have HL := Aside0.mk (HL.out.bw hb2)
  clear hb2 hC2 q0 q1 q2 q3 q4 q5 hlt
  go_upto_region 7 with fail
  generalize (Value.tuple #[.agg #[.int .i64 (cK fs 0), .int .i64 (cK fs 1), .int .i64 (cK fs 2), .int .i64 (cK fs 3), .int .i64 (cK fs 4), .int .i64 (cK fs 5), .int .i64 (cK fs 6), .int .i64 (cK fs 7), .int .i64 (cK fs 8), .int .i64 (cK fs 9), .int .i64 (cK fs 10), .int .i64 (cK fs 11), .slice (some ⟨g3, 0, none⟩) n' n', .slice (some ⟨g4, 0, none⟩) m' m', .int .i64 (cMost fs), .int .i64 (cNow fs)], .int .i64 0]) = V3
  generalize (Value.agg #[.int .i64 (cK fs 0), .int .i64 (cK fs 1), .int .i64 (cK fs 2), .int .i64 (cK fs 3), .int .i64 (cK fs 4), .int .i64 (cK fs 5), .int .i64 (cK fs 6), .int .i64 (cK fs 7), .int .i64 (cK fs 8), .int .i64 (cK fs 9), .int .i64 (cK fs 10), .int .i64 (cK fs 11), .slice (some ⟨g3, 0, none⟩) n' n', .slice (some ⟨g4, 0, none⟩) m' m', .int .i64 (cMost fs), .int .i64 (cNow fs)]) = V4
  obtain ⟨bY, hbY⟩ : ∃ bY, bY = w2.heap.size := ⟨_, rfl⟩
  obtain ⟨W2, hW2⟩ : ∃ W2, W2 = w2.alloc (.cells #[.int .i64 (cK fs 0), .int .i64 (cK fs 1), .int .i64 (cK fs 2), .int .i64 (cK fs 3), .int .i64 (cK fs 4), .int .i64 (cK fs 5), .int .i64 (cK fs 6), .int .i64 (cK fs 7), .int .i64 (cK fs 8), .int .i64 (cK fs 9), .int .i64 (cK fs 10), .int .i64 (cK fs 11), .slice (some ⟨g3, 0, none⟩) n' n', .slice (some ⟨g4, 0, none⟩) m' m', .int .i64 (cMost fs), .int .i64 (cNow fs)] 31) := ⟨_, rfl⟩
  have HY := Aside0.mk (Blk.new w2 #[.int .i64 (cK fs 0), .int .i64 (cK fs 1), .int .i64 (cK fs 2), .int .i64 (cK fs 3), .int .i64 (cK fs 4), .int .i64 (cK fs 5), .int .i64 (cK fs 6), .int .i64 (cK fs 7), .int .i64 (cK fs 8), .int .i64 (cK fs 9), .int .i64 (cK fs 10), .int .i64 (cK fs 11), .slice (some ⟨g3, 0, none⟩) n' n', .slice (some ⟨g4, 0, none⟩) m' m', .int .i64 (cMost fs), .int .i64 (cNow fs)] 31)
  have HU := Aside0.mk ((Bw.refl w2).alloc (.cells #[.int .i64 (cK fs 0), .int .i64 (cK fs 1), .int .i64 (cK fs 2), .int .i64 (cK fs 3), .int .i64 (cK fs 4), .int .i64 (cK fs 5), .int .i64 (cK fs 6), .int .i64 (cK fs 7), .int .i64 (cK fs 8), .int .i64 (cK fs 9), .int .i64 (cK fs 10), .int .i64 (cK fs 11), .slice (some ⟨g3, 0, none⟩) n' n', .slice (some ⟨g4, 0, none⟩) m' m', .int .i64 (cMost fs), .int .i64 (cNow fs)] 31))
  rw [← hW2] at HY HU
  rw [← hbY] at HY
  rw [← hW2, ← hbY]
  clear hW2 hbY
  have HX := Aside0.mk (HX.out.bw HU.out)
  have HV := Aside0.mk (HV.out.trans HU.out)
  have HW0 := Aside0.mk (HW0.out.trans HU.out)
  have HL := Aside0.mk (HL.out.bw HU.out)
  go_cut [11, 12] from 58 to 63 (fun zv ev wx => ∃ bz, zv = .pointer (some ⟨bz, 0, none⟩) ∧ ev = .int .i64 1 ∧ Aside0 (Blk wx bz #[.int .i64 0, .int .i64 0, .int .i64 0, .int .i64 0, .int .i64 0, .int .i64 0, .int .i64 0, .int .i64 0, .int .i64 0, .int .i64 0, .int .i64 0, .int .i64 0, .slice none 0 0, .slice none 0 0, .int .i64 0, .int .i64 0] 31) ∧ Aside0 (Bw W2 wx))
  case first =>
    have k0 : W2.cell? ⟨bx, 0, none⟩ = some (.int .i64 (cK es 0)) := HX.out.cell 0 _ rfl
    have k1 : W2.cell? ⟨bx, 1, none⟩ = some (.int .i64 (cK es 1)) := HX.out.cell 1 _ rfl
    have k2 : W2.cell? ⟨bx, 2, none⟩ = some (.int .i64 (cK es 2)) := HX.out.cell 2 _ rfl
    have k3 : W2.cell? ⟨bx, 3, none⟩ = some (.int .i64 (cK es 3)) := HX.out.cell 3 _ rfl
    have k4 : W2.cell? ⟨bx, 4, none⟩ = some (.int .i64 (cK es 4)) := HX.out.cell 4 _ rfl
    have k5 : W2.cell? ⟨bx, 5, none⟩ = some (.int .i64 (cK es 5)) := HX.out.cell 5 _ rfl
    have k6 : W2.cell? ⟨bx, 6, none⟩ = some (.int .i64 (cK es 6)) := HX.out.cell 6 _ rfl
    have k7 : W2.cell? ⟨bx, 7, none⟩ = some (.int .i64 (cK es 7)) := HX.out.cell 7 _ rfl
    have k8 : W2.cell? ⟨bx, 8, none⟩ = some (.int .i64 (cK es 8)) := HX.out.cell 8 _ rfl
    have k9 : W2.cell? ⟨bx, 9, none⟩ = some (.int .i64 (cK es 9)) := HX.out.cell 9 _ rfl
    have k10 : W2.cell? ⟨bx, 10, none⟩ = some (.int .i64 (cK es 10)) := HX.out.cell 10 _ rfl
    have k11 : W2.cell? ⟨bx, 11, none⟩ = some (.int .i64 (cK es 11)) := HX.out.cell 11 _ rfl
    have k12 : W2.cell? ⟨bx, 12, none⟩ = some (.slice (some ⟨g1, 0, none⟩) n n) := HX.out.cell 12 _ rfl
    have k13 : W2.cell? ⟨bx, 13, none⟩ = some (.slice (some ⟨g2, 0, none⟩) m m) := HX.out.cell 13 _ rfl
    have k14 : W2.cell? ⟨bx, 14, none⟩ = some (.int .i64 (cMost es)) := HX.out.cell 14 _ rfl
    have k15 : W2.cell? ⟨bx, 15, none⟩ = some (.int .i64 (cNow es)) := HX.out.cell 15 _ rfl
    have kl := HX.out.lt
    have y0 : W2.cell? ⟨bY, 0, none⟩ = some (.int .i64 (cK fs 0)) := HY.out.cell 0 _ rfl
    have y1 : W2.cell? ⟨bY, 1, none⟩ = some (.int .i64 (cK fs 1)) := HY.out.cell 1 _ rfl
    have y2 : W2.cell? ⟨bY, 2, none⟩ = some (.int .i64 (cK fs 2)) := HY.out.cell 2 _ rfl
    have y3 : W2.cell? ⟨bY, 3, none⟩ = some (.int .i64 (cK fs 3)) := HY.out.cell 3 _ rfl
    have y4 : W2.cell? ⟨bY, 4, none⟩ = some (.int .i64 (cK fs 4)) := HY.out.cell 4 _ rfl
    have y5 : W2.cell? ⟨bY, 5, none⟩ = some (.int .i64 (cK fs 5)) := HY.out.cell 5 _ rfl
    have y6 : W2.cell? ⟨bY, 6, none⟩ = some (.int .i64 (cK fs 6)) := HY.out.cell 6 _ rfl
    have y7 : W2.cell? ⟨bY, 7, none⟩ = some (.int .i64 (cK fs 7)) := HY.out.cell 7 _ rfl
    have y8 : W2.cell? ⟨bY, 8, none⟩ = some (.int .i64 (cK fs 8)) := HY.out.cell 8 _ rfl
    have y9 : W2.cell? ⟨bY, 9, none⟩ = some (.int .i64 (cK fs 9)) := HY.out.cell 9 _ rfl
    have y10 : W2.cell? ⟨bY, 10, none⟩ = some (.int .i64 (cK fs 10)) := HY.out.cell 10 _ rfl
    have y11 : W2.cell? ⟨bY, 11, none⟩ = some (.int .i64 (cK fs 11)) := HY.out.cell 11 _ rfl
    have y12 : W2.cell? ⟨bY, 12, none⟩ = some (.slice (some ⟨g3, 0, none⟩) n' n') := HY.out.cell 12 _ rfl
    have y13 : W2.cell? ⟨bY, 13, none⟩ = some (.slice (some ⟨g4, 0, none⟩) m' m') := HY.out.cell 13 _ rfl
    have y14 : W2.cell? ⟨bY, 14, none⟩ = some (.int .i64 (cMost fs)) := HY.out.cell 14 _ rfl
    have y15 : W2.cell? ⟨bY, 15, none⟩ = some (.int .i64 (cNow fs)) := HY.out.cell 15 _ rfl
    have yl := HY.out.lt
    go_wp2_with fail
    refine (Add_unlike Qne.out).mono ?_
    rintro e w3 ⟨rfl, hb3⟩
    clear k0 y0 k1 y1 k2 y2 k3 y3 k4 y4 k5 y5 k6 y6 k7 y7 k8 y8 k9 y9 k10 y10 k11 y11 k12 y12 k13 y13 k14 y14 k15 y15
    have HB3 := Aside0.mk hb3
    clear hb3
    go_wp2_with fail
    go_meet
    case rel => exact ⟨_, rfl, rfl, ⟨Blk.new w3 #[.int .i64 0, .int .i64 0, .int .i64 0, .int .i64 0, .int .i64 0, .int .i64 0, .int .i64 0, .int .i64 0, .int .i64 0, .int .i64 0, .int .i64 0, .int .i64 0, .slice none 0 0, .slice none 0 0, .int .i64 0, .int .i64 0] 31⟩, ⟨HB3.out.alloc _⟩⟩
  case rest =>
    obtain ⟨bz, rfl, rfl, HZ, HBz⟩ := hcut
    rename_i hK
    by_cases hnn : n = n'
    · have hmm : m ≠ m' := by have := Qne.out; omega
      exact hK _ _ (Adds_neb m n m' n' t t' w wc bc bz _ _ _ _ _ _ _ _ _ _ _ _ _ _ _ _ _ _ _ _ _ _ _ _ _ _ _ _ _ _ _ _ _ _ _ _ _ _ _ _ _ _ _ _ _ _ _ _ _ _ _ _ _ _ _ _ _ _ _ _ _ _ _ _ _ _ _ _ _ _ _ _ _ _ _ _ _ _ _ _ _ _ _ _ _ _ _ _ _ _ _ _ _ _ _ _ _ _ _ _ _ _ _ _ _ _ _ _ _ _ _ _ _ _ _ _ _ _ _ _ _ _ _ _ _ _ _ _ _ _ _ _ _ _ _ _ _ _ _ _ _ _ _ _ _ _ _ _ _ _ _ _ _ _ hnn hmm (Aside0.mk (HL.out.bw HBz.out)) HZ (Aside0.mk (HW0.out.trans HBz.out)))
    · exact hK _ _ (Adds_nea m n m' n' t t' w wc bc bz _ _ _ _ _ _ _ _ _ _ _ _ _ _ _ _ _ _ _ _ _ _ _ _ _ _ _ _ _ _ _ _ _ _ _ _ _ _ _ _ _ _ _ _ _ _ _ _ _ _ _ _ _ _ _ _ _ _ _ _ _ _ _ _ _ _ _ _ _ _ _ _ _ _ _ _ _ _ _ _ _ _ _ _ _ _ _ _ _ _ _ _ _ _ _ _ _ _ _ _ _ _ _ _ _ _ _ _ _ _ _ _ _ _ _ _ _ _ _ _ _ _ _ _ _ _ _ _ _ _ _ _ _ _ _ _ _ _ _ _ _ _ _ _ _ _ _ _ _ _ _ _ _ _ hnn (Aside0.mk (HL.out.bw HBz.out)) HZ (Aside0.mk (HW0.out.trans HBz.out)))
end Go.Proofs.Ytclippikdfcgkaa.M
