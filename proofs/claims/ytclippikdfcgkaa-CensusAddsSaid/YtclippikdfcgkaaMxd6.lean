/- The law CensusAdds, walked: configs that are alike, the end; all. Conditions: the arguments are of their kinds. -/
import Derived.Test.YtclippikdfcgkaaMxd5
import Derived.Test.YtclippikdfcgkaaMxd2
import Derived.Test.YtclippikdfcgkaaMxd
import Derived.Test.YtclippikdfcgkaaMx8
import Derived.Test.YtclippikdfcgkaaMr
namespace Go.Proofs.Ytclippikdfcgkaa.M
open Go.RowKit Go.Proofs.YtclippikdfcgkaaW.PrintWords Go.Proofs.YtclippikdfcgkaaW.PrintLast Go.Proofs.YtclippikdfcgkaaW.PrintMore
set_option linter.unusedVariables false
set_option linter.unusedSimpArgs false
theorem fits_lit' (A : Option Addr) (cap : Nat) (es : List Ev) (m n : Nat) (t : Int) (base g1 c1 g2 c2 : Nat) (w : World) (hx : Rows encV 5 w A es) (hl : es.length ≤ 1000) (hcap : es.length ≤ cap) (hcm : cap ≤ 9223372036854775807) (hz : A = none → es = [] ∧ cap = 0)
    (hm : m ≤ 64) (hn : n ≤ 65536) (hg : w.ownsRow base 141 3 (.slice (some ⟨g1, 0, none⟩) n c1) n (tabV (n * 3) (fG es))) (hp : w.ownsRow base 3 1 (.slice (some ⟨g2, 0, none⟩) m c2) m (tabV m (cP es))) :
    Calls Try.prog 19 #[.agg #[.int .i64 (cK es 0), .int .i64 (cK es 1), .int .i64 (cK es 2), .int .i64 (cK es 3), .int .i64 (cK es 4), .int .i64 (cK es 5), .int .i64 (cK es 6), .int .i64 (cK es 7), .int .i64 (cK es 8), .int .i64 (cK es 9), .int .i64 (cK es 10), .int .i64 (cK es 11), .slice (some ⟨g1, 0, none⟩) n c1, .slice (some ⟨g2, 0, none⟩) m c2, .int .i64 (cMost es), .int .i64 (cNow es)], .agg #[.int .i64 m, .int .i64 t, .int .i64 n], .slice A es.length cap] w fun e w' => e = .returned (.bool true) ∧ Bw w w' := fits_calls A cap es m n t base g1 c1 g2 c2 w hx hl hcap hcm hz hm hn hg hp
set_option maxHeartbeats 4000000 in
set_option maxRecDepth 100000 in
theorem Adds_fin (m n : Nat) (t t' : Int) (A : Option Addr) (cap : Nat) (es : List Ev) (A' : Option Addr) (cap' : Nat) (fs : List Ev) (w W : World) (bc bx bY bz g1 g2 g3 g4 g5 c5 g6 c6 s1 s2 s3 : Nat) (g : Nat) (zs : List Ev) (hl12 : zs.length ≤ 100) (u0 u4 u5 u6 u8 u10 u14 u15 u16 u17 u18 u19 u20 u21 u22 u23 u24 u25 u26 u27 u28 u29 u30 u31 u32 u33 u34 u35 u36 u37 u38 u39 u40 u41 u42 u43 u44 u45 u46 u47 u48 u49 u50 u51 u52 u53 u54 u55 u56 u57 u58 u59 u60 u61 u62 u63 u64 u65 u66 u67 u68 u69 u70 u71 u72 u73 u74 u75 u76 u77 u78 u79 u80 u81 u82 u83 u84 u85 u86 u87 u88 u89 u90 u91 u92 u93 u94 u95 u96 u97 u98 u99 u100 u101 u102 u103 u104 u105 u106 u107 u108 u109 u110 u111 u112 u113 u114 u115 u116 u117 u118 u119 u120 u121 u122 u123 u124 u125 u126 u127 u128 u129 u130 u131 u132 u133 u134 u135 u136 u137 u138 u139 u140 u141 u142 u143 u144 u145 u146 u147 u148 u149 u150 u151 u152 u153 u154 u155 u156 : Value) (h1 : es.length ≤ 50) (h2 : fs.length ≤ 50) (Qx : Aside0 ((1 ≤ m ∧ m ≤ 64) ∧ 1 ≤ n ∧ n ≤ 65536))
    (Qz : Aside0 ((A = none → es = [] ∧ cap = 0) ∧ (A' = none → fs = [] ∧ cap' = 0) ∧ es.length ≤ cap ∧ cap ≤ 9223372036854775807 ∧ fs.length ≤ cap' ∧ cap' ≤ 9223372036854775807))
    (HR : Aside0 (Rows encV 5 W A es)) (HS : Aside0 (Rows encV 5 W A' fs))
    (HL : Aside0 (Blk W bc #[.int .i64 (m : Int), .int .i64 t, .int .i64 (n : Int), .int .i64 (m : Int), .int .i64 t', .int .i64 (n : Int)] 24)) (HX : Aside0 (Blk W bx #[.int .i64 (cK es 0), .int .i64 (cK es 1), .int .i64 (cK es 2), .int .i64 (cK es 3), .int .i64 (cK es 4), .int .i64 (cK es 5), .int .i64 (cK es 6), .int .i64 (cK es 7), .int .i64 (cK es 8), .int .i64 (cK es 9), .int .i64 (cK es 10), .int .i64 (cK es 11), .slice (some ⟨g1, 0, none⟩) n n, .slice (some ⟨g2, 0, none⟩) m m, .int .i64 (cMost es), .int .i64 (cNow es)] 31)) (HY : Aside0 (Blk W bY #[.int .i64 (cK fs 0), .int .i64 (cK fs 1), .int .i64 (cK fs 2), .int .i64 (cK fs 3), .int .i64 (cK fs 4), .int .i64 (cK fs 5), .int .i64 (cK fs 6), .int .i64 (cK fs 7), .int .i64 (cK fs 8), .int .i64 (cK fs 9), .int .i64 (cK fs 10), .int .i64 (cK fs 11), .slice (some ⟨g3, 0, none⟩) n n, .slice (some ⟨g4, 0, none⟩) m m, .int .i64 (cMost fs), .int .i64 (cNow fs)] 31)) (HZ : Aside0 (Blk W bz #[.int .i64 (cK zs 0), .int .i64 (cK zs 1), .int .i64 (cK zs 2), .int .i64 (cK zs 3), .int .i64 (cK zs 4), .int .i64 (cK zs 5), .int .i64 (cK zs 6), .int .i64 (cK zs 7), .int .i64 (cK zs 8), .int .i64 (cK zs 9), .int .i64 (cK zs 10), .int .i64 (cK zs 11), .slice (some ⟨g5, 0, none⟩) n c5, .slice (some ⟨g6, 0, none⟩) m c6, .int .i64 (cMost zs), .int .i64 (cNow zs)] 31))
    (HG1 : Aside0 (W.ownsRow s1 141 3 (.slice (some ⟨g1, 0, none⟩) n n) n (tabV (n * 3) (fG es)))) (HP1 : Aside0 (W.ownsRow s1 3 1 (.slice (some ⟨g2, 0, none⟩) m m) m (tabV m (cP es))))
    (HG2 : Aside0 (W.ownsRow s2 141 3 (.slice (some ⟨g3, 0, none⟩) n n) n (tabV (n * 3) (fG fs)))) (HP2 : Aside0 (W.ownsRow s2 3 1 (.slice (some ⟨g4, 0, none⟩) m m) m (tabV m (cP fs))))
    (HG3 : Aside0 (W.ownsRow s3 141 3 (.slice (some ⟨g5, 0, none⟩) n c5) n (tabV (n * 3) (fG zs)))) (HP3 : Aside0 (W.ownsRow s3 3 1 (.slice (some ⟨g6, 0, none⟩) m c6) m (tabV m (cP zs))))
    (HW0 : Aside0 (Bw w W))
    (HE : Aside0 (Rows encV 5 W (some ⟨g, 0, none⟩) zs)) :
    Code.wp Try.prog addsFin (bodyPost Try.prog Try.f3 fun e w' => e = .returned (.bool true) ∧ Bw w w') ⟨#[u0, .slice A es.length cap, .slice A' fs.length cap', .pointer (some ⟨bc, 0, none⟩), u4, u5, u6, .pointer (some ⟨bx, 0, none⟩), u8, .pointer (some ⟨bY, 0, none⟩), u10, .pointer (some ⟨bz, 0, none⟩), .int .i64 0, .slice (some ⟨g, 0, none⟩) zs.length zs.length, u14, u15, u16, u17, u18, u19, u20, u21, u22, u23, u24, u25, u26, u27, u28, u29, u30, u31, u32, u33, u34, u35, u36, u37, u38, u39, u40, u41, u42, u43, u44, u45, u46, u47, u48, u49, u50, u51, u52, u53, u54, u55, u56, u57, u58, u59, u60, u61, u62, u63, u64, u65, u66, u67, u68, u69, u70, u71, u72, u73, u74, u75, u76, u77, u78, u79, u80, u81, u82, u83, u84, u85, u86, u87, u88, u89, u90, u91, u92, u93, u94, u95, u96, u97, u98, u99, u100, u101, u102, u103, u104, u105, u106, u107, u108, u109, u110, u111, u112, u113, u114, u115, u116, u117, u118, u119, u120, u121, u122, u123, u124, u125, u126, u127, u128, u129, u130, u131, u132, u133, u134, u135, u136, u137, u138, u139, u140, u141, u142, u143, u144, u145, u146, u147, u148, u149, u150, u151, u152, u153, u154, u155, u156], []⟩ W := by
  conv => arg 2; whnf
  go_wp2_with fail
  refine (xawake_calls _).mono ?_
  rintro e w4 ⟨rfl, hb4⟩
  have HX := Aside0.mk (HX.out.bw hb4)
  have HY := Aside0.mk (HY.out.bw hb4)
  have HZ := Aside0.mk (HZ.out.bw hb4)
  have HL := Aside0.mk (HL.out.bw hb4)
  have HV := Aside0.mk hb4
  clear hb4
  have z0 : w4.cell? ⟨bz, 0, none⟩ = some (.int .i64 (cK zs 0)) := HZ.out.cell 0 _ rfl
  have z1 : w4.cell? ⟨bz, 1, none⟩ = some (.int .i64 (cK zs 1)) := HZ.out.cell 1 _ rfl
  have z2 : w4.cell? ⟨bz, 2, none⟩ = some (.int .i64 (cK zs 2)) := HZ.out.cell 2 _ rfl
  have z3 : w4.cell? ⟨bz, 3, none⟩ = some (.int .i64 (cK zs 3)) := HZ.out.cell 3 _ rfl
  have z4 : w4.cell? ⟨bz, 4, none⟩ = some (.int .i64 (cK zs 4)) := HZ.out.cell 4 _ rfl
  have z5 : w4.cell? ⟨bz, 5, none⟩ = some (.int .i64 (cK zs 5)) := HZ.out.cell 5 _ rfl
  have z6 : w4.cell? ⟨bz, 6, none⟩ = some (.int .i64 (cK zs 6)) := HZ.out.cell 6 _ rfl
  have z7 : w4.cell? ⟨bz, 7, none⟩ = some (.int .i64 (cK zs 7)) := HZ.out.cell 7 _ rfl
  have z8 : w4.cell? ⟨bz, 8, none⟩ = some (.int .i64 (cK zs 8)) := HZ.out.cell 8 _ rfl
  have z9 : w4.cell? ⟨bz, 9, none⟩ = some (.int .i64 (cK zs 9)) := HZ.out.cell 9 _ rfl
  have z10 : w4.cell? ⟨bz, 10, none⟩ = some (.int .i64 (cK zs 10)) := HZ.out.cell 10 _ rfl
  have z11 : w4.cell? ⟨bz, 11, none⟩ = some (.int .i64 (cK zs 11)) := HZ.out.cell 11 _ rfl
  have z12 : w4.cell? ⟨bz, 12, none⟩ = some (.slice (some ⟨g5, 0, none⟩) n c5) := HZ.out.cell 12 _ rfl
  have z13 : w4.cell? ⟨bz, 13, none⟩ = some (.slice (some ⟨g6, 0, none⟩) m c6) := HZ.out.cell 13 _ rfl
  have z14 : w4.cell? ⟨bz, 14, none⟩ = some (.int .i64 (cMost zs)) := HZ.out.cell 14 _ rfl
  have z15 : w4.cell? ⟨bz, 15, none⟩ = some (.int .i64 (cNow zs)) := HZ.out.cell 15 _ rfl
  have zl := HZ.out.lt
  have q0 : w4.cell? ⟨bc, 0, none⟩ = some (.int .i64 (m : Int)) := HL.out.cell 0 _ rfl
  have q1 : w4.cell? ⟨bc, 1, none⟩ = some (.int .i64 t) := HL.out.cell 1 _ rfl
  have q2 : w4.cell? ⟨bc, 2, none⟩ = some (.int .i64 (n : Int)) := HL.out.cell 2 _ rfl
  have q3 : w4.cell? ⟨bc, 3, none⟩ = some (.int .i64 (m : Int)) := HL.out.cell 3 _ rfl
  have q4 : w4.cell? ⟨bc, 4, none⟩ = some (.int .i64 t') := HL.out.cell 4 _ rfl
  have q5 : w4.cell? ⟨bc, 5, none⟩ = some (.int .i64 (n : Int)) := HL.out.cell 5 _ rfl
  have hlt := HL.out.lt
  go_wp2_with fail
  refine (fits_lit' (some ⟨g, 0, none⟩) zs.length zs m n t s3 g5 c5 g6 c6 _ (HE.out.bw HV.out) (by omega) (Nat.le_refl _) (by omega) (by simp) Qx.out.1.2 Qx.out.2.2 (pw_own_below HG3.out HV.out) (pw_own_below HP3.out HV.out)).mono ?_
  rintro e w5 ⟨rfl, hb5⟩
  have HX := Aside0.mk (HX.out.bw hb5)
  have HY := Aside0.mk (HY.out.bw hb5)
  have HL := Aside0.mk (HL.out.bw hb5)
  have HV := Aside0.mk (HV.out.trans hb5)
  clear hb5
  clear z0 z1 z2 z3 z4 z5 z6 z7 z8 z9 z10 z11 z12 z13 z14 z15 zl
  clear q0 q1 q2 q3 q4 q5 hlt
  have x0 : w5.cell? ⟨bx, 0, none⟩ = some (.int .i64 (cK es 0)) := HX.out.cell 0 _ rfl
  have x1 : w5.cell? ⟨bx, 1, none⟩ = some (.int .i64 (cK es 1)) := HX.out.cell 1 _ rfl
  have x2 : w5.cell? ⟨bx, 2, none⟩ = some (.int .i64 (cK es 2)) := HX.out.cell 2 _ rfl
  have x3 : w5.cell? ⟨bx, 3, none⟩ = some (.int .i64 (cK es 3)) := HX.out.cell 3 _ rfl
  have x4 : w5.cell? ⟨bx, 4, none⟩ = some (.int .i64 (cK es 4)) := HX.out.cell 4 _ rfl
  have x5 : w5.cell? ⟨bx, 5, none⟩ = some (.int .i64 (cK es 5)) := HX.out.cell 5 _ rfl
  have x6 : w5.cell? ⟨bx, 6, none⟩ = some (.int .i64 (cK es 6)) := HX.out.cell 6 _ rfl
  have x7 : w5.cell? ⟨bx, 7, none⟩ = some (.int .i64 (cK es 7)) := HX.out.cell 7 _ rfl
  have x8 : w5.cell? ⟨bx, 8, none⟩ = some (.int .i64 (cK es 8)) := HX.out.cell 8 _ rfl
  have x9 : w5.cell? ⟨bx, 9, none⟩ = some (.int .i64 (cK es 9)) := HX.out.cell 9 _ rfl
  have x10 : w5.cell? ⟨bx, 10, none⟩ = some (.int .i64 (cK es 10)) := HX.out.cell 10 _ rfl
  have x11 : w5.cell? ⟨bx, 11, none⟩ = some (.int .i64 (cK es 11)) := HX.out.cell 11 _ rfl
  have x12 : w5.cell? ⟨bx, 12, none⟩ = some (.slice (some ⟨g1, 0, none⟩) n n) := HX.out.cell 12 _ rfl
  have x13 : w5.cell? ⟨bx, 13, none⟩ = some (.slice (some ⟨g2, 0, none⟩) m m) := HX.out.cell 13 _ rfl
  have x14 : w5.cell? ⟨bx, 14, none⟩ = some (.int .i64 (cMost es)) := HX.out.cell 14 _ rfl
  have x15 : w5.cell? ⟨bx, 15, none⟩ = some (.int .i64 (cNow es)) := HX.out.cell 15 _ rfl
  have xl := HX.out.lt
  have q0 : w5.cell? ⟨bc, 0, none⟩ = some (.int .i64 (m : Int)) := HL.out.cell 0 _ rfl
  have q1 : w5.cell? ⟨bc, 1, none⟩ = some (.int .i64 t) := HL.out.cell 1 _ rfl
  have q2 : w5.cell? ⟨bc, 2, none⟩ = some (.int .i64 (n : Int)) := HL.out.cell 2 _ rfl
  have q3 : w5.cell? ⟨bc, 3, none⟩ = some (.int .i64 (m : Int)) := HL.out.cell 3 _ rfl
  have q4 : w5.cell? ⟨bc, 4, none⟩ = some (.int .i64 t') := HL.out.cell 4 _ rfl
  have q5 : w5.cell? ⟨bc, 5, none⟩ = some (.int .i64 (n : Int)) := HL.out.cell 5 _ rfl
  have hlt := HL.out.lt
  go_wp2_with fail
  refine (fits_lit' A cap es m n t s1 g1 n g2 m _ (HR.out.bw HV.out) (by omega) Qz.out.2.2.1 Qz.out.2.2.2.1 Qz.out.1 Qx.out.1.2 Qx.out.2.2 (pw_own_below HG1.out HV.out) (pw_own_below HP1.out HV.out)).mono ?_
  rintro e w6 ⟨rfl, hb6⟩
  have HY := Aside0.mk (HY.out.bw hb6)
  have HL := Aside0.mk (HL.out.bw hb6)
  have HV := Aside0.mk (HV.out.trans hb6)
  clear hb6
  clear x0 x1 x2 x3 x4 x5 x6 x7 x8 x9 x10 x11 x12 x13 x14 x15 xl
  clear q0 q1 q2 q3 q4 q5 hlt
  have y0 : w6.cell? ⟨bY, 0, none⟩ = some (.int .i64 (cK fs 0)) := HY.out.cell 0 _ rfl
  have y1 : w6.cell? ⟨bY, 1, none⟩ = some (.int .i64 (cK fs 1)) := HY.out.cell 1 _ rfl
  have y2 : w6.cell? ⟨bY, 2, none⟩ = some (.int .i64 (cK fs 2)) := HY.out.cell 2 _ rfl
  have y3 : w6.cell? ⟨bY, 3, none⟩ = some (.int .i64 (cK fs 3)) := HY.out.cell 3 _ rfl
  have y4 : w6.cell? ⟨bY, 4, none⟩ = some (.int .i64 (cK fs 4)) := HY.out.cell 4 _ rfl
  have y5 : w6.cell? ⟨bY, 5, none⟩ = some (.int .i64 (cK fs 5)) := HY.out.cell 5 _ rfl
  have y6 : w6.cell? ⟨bY, 6, none⟩ = some (.int .i64 (cK fs 6)) := HY.out.cell 6 _ rfl
  have y7 : w6.cell? ⟨bY, 7, none⟩ = some (.int .i64 (cK fs 7)) := HY.out.cell 7 _ rfl
  have y8 : w6.cell? ⟨bY, 8, none⟩ = some (.int .i64 (cK fs 8)) := HY.out.cell 8 _ rfl
  have y9 : w6.cell? ⟨bY, 9, none⟩ = some (.int .i64 (cK fs 9)) := HY.out.cell 9 _ rfl
  have y10 : w6.cell? ⟨bY, 10, none⟩ = some (.int .i64 (cK fs 10)) := HY.out.cell 10 _ rfl
  have y11 : w6.cell? ⟨bY, 11, none⟩ = some (.int .i64 (cK fs 11)) := HY.out.cell 11 _ rfl
  have y12 : w6.cell? ⟨bY, 12, none⟩ = some (.slice (some ⟨g3, 0, none⟩) n n) := HY.out.cell 12 _ rfl
  have y13 : w6.cell? ⟨bY, 13, none⟩ = some (.slice (some ⟨g4, 0, none⟩) m m) := HY.out.cell 13 _ rfl
  have y14 : w6.cell? ⟨bY, 14, none⟩ = some (.int .i64 (cMost fs)) := HY.out.cell 14 _ rfl
  have y15 : w6.cell? ⟨bY, 15, none⟩ = some (.int .i64 (cNow fs)) := HY.out.cell 15 _ rfl
  have yl := HY.out.lt
  have q0 : w6.cell? ⟨bc, 0, none⟩ = some (.int .i64 (m : Int)) := HL.out.cell 0 _ rfl
  have q1 : w6.cell? ⟨bc, 1, none⟩ = some (.int .i64 t) := HL.out.cell 1 _ rfl
  have q2 : w6.cell? ⟨bc, 2, none⟩ = some (.int .i64 (n : Int)) := HL.out.cell 2 _ rfl
  have q3 : w6.cell? ⟨bc, 3, none⟩ = some (.int .i64 (m : Int)) := HL.out.cell 3 _ rfl
  have q4 : w6.cell? ⟨bc, 4, none⟩ = some (.int .i64 t') := HL.out.cell 4 _ rfl
  have q5 : w6.cell? ⟨bc, 5, none⟩ = some (.int .i64 (n : Int)) := HL.out.cell 5 _ rfl
  have hlt := HL.out.lt
  go_wp2_with fail
  refine (fits_lit' A' cap' fs m n t' s2 g3 n g4 m _ (HS.out.bw HV.out) (by omega) Qz.out.2.2.2.2.1 Qz.out.2.2.2.2.2 Qz.out.2.1 Qx.out.1.2 Qx.out.2.2 (pw_own_below HG2.out HV.out) (pw_own_below HP2.out HV.out)).mono ?_
  rintro e w7 ⟨rfl, hb7⟩
  have HV := Aside0.mk (HV.out.trans hb7)
  clear hb7
  clear y0 y1 y2 y3 y4 y5 y6 y7 y8 y9 y10 y11 y12 y13 y14 y15 yl
  go_wp2_with fail
  go_ret
  exact ⟨rfl, HW0.out.trans HV.out⟩
set_option maxHeartbeats 4000000 in
set_option maxRecDepth 100000 in
theorem Adds_tail (m n : Nat) (t t' : Int) (A : Option Addr) (cap : Nat) (es : List Ev) (A' : Option Addr) (cap' : Nat) (fs : List Ev) (w W : World) (bc bx bY bz g1 g2 g3 g4 g5 c5 g6 c6 s1 s2 s3 : Nat) (u0 u4 u5 u6 u8 u10 u13 u14 u15 u16 u17 u18 u19 u20 u21 u22 u23 u24 u25 u26 u27 u28 u29 u30 u31 u32 u33 u34 u35 u36 u37 u38 u39 u40 u41 u42 u43 u44 u45 u46 u47 u48 u49 u50 u51 u52 u53 u54 u55 u56 u57 u58 u59 u60 u61 u62 u63 u64 u65 u66 u67 u68 u69 u70 u71 u72 u73 u74 u75 u76 u77 u78 u79 u80 u81 u82 u83 u84 u85 u86 u87 u88 u89 u90 u91 u92 u93 u94 u95 u96 u97 u98 u99 u100 u101 u102 u103 u104 u105 u106 u107 u108 u109 u110 u111 u112 u113 u114 u115 u116 u117 u118 u119 u120 u121 u122 u123 u124 u125 u126 u127 u128 u129 u130 u131 u132 u133 u134 u135 u136 u137 u138 u139 u140 u141 u142 u143 u144 u145 u146 u147 u148 u149 u150 u151 u152 u153 u154 u155 u156 : Value) (h1 : es.length ≤ 50) (h2 : fs.length ≤ 50) (Qx : Aside0 ((1 ≤ m ∧ m ≤ 64) ∧ 1 ≤ n ∧ n ≤ 65536))
    (Qz : Aside0 ((A = none → es = [] ∧ cap = 0) ∧ (A' = none → fs = [] ∧ cap' = 0) ∧ es.length ≤ cap ∧ cap ≤ 9223372036854775807 ∧ fs.length ≤ cap' ∧ cap' ≤ 9223372036854775807))
    (HR : Aside0 (Rows encV 5 W A es)) (HS : Aside0 (Rows encV 5 W A' fs))
    (HL : Aside0 (Blk W bc #[.int .i64 (m : Int), .int .i64 t, .int .i64 (n : Int), .int .i64 (m : Int), .int .i64 t', .int .i64 (n : Int)] 24)) (HX : Aside0 (Blk W bx #[.int .i64 (cK es 0), .int .i64 (cK es 1), .int .i64 (cK es 2), .int .i64 (cK es 3), .int .i64 (cK es 4), .int .i64 (cK es 5), .int .i64 (cK es 6), .int .i64 (cK es 7), .int .i64 (cK es 8), .int .i64 (cK es 9), .int .i64 (cK es 10), .int .i64 (cK es 11), .slice (some ⟨g1, 0, none⟩) n n, .slice (some ⟨g2, 0, none⟩) m m, .int .i64 (cMost es), .int .i64 (cNow es)] 31)) (HY : Aside0 (Blk W bY #[.int .i64 (cK fs 0), .int .i64 (cK fs 1), .int .i64 (cK fs 2), .int .i64 (cK fs 3), .int .i64 (cK fs 4), .int .i64 (cK fs 5), .int .i64 (cK fs 6), .int .i64 (cK fs 7), .int .i64 (cK fs 8), .int .i64 (cK fs 9), .int .i64 (cK fs 10), .int .i64 (cK fs 11), .slice (some ⟨g3, 0, none⟩) n n, .slice (some ⟨g4, 0, none⟩) m m, .int .i64 (cMost fs), .int .i64 (cNow fs)] 31)) (HZ : Aside0 (Blk W bz #[.int .i64 (cK (es ++ fs) 0), .int .i64 (cK (es ++ fs) 1), .int .i64 (cK (es ++ fs) 2), .int .i64 (cK (es ++ fs) 3), .int .i64 (cK (es ++ fs) 4), .int .i64 (cK (es ++ fs) 5), .int .i64 (cK (es ++ fs) 6), .int .i64 (cK (es ++ fs) 7), .int .i64 (cK (es ++ fs) 8), .int .i64 (cK (es ++ fs) 9), .int .i64 (cK (es ++ fs) 10), .int .i64 (cK (es ++ fs) 11), .slice (some ⟨g5, 0, none⟩) n c5, .slice (some ⟨g6, 0, none⟩) m c6, .int .i64 (cMost (es ++ fs)), .int .i64 (cNow (es ++ fs))] 31))
    (HG1 : Aside0 (W.ownsRow s1 141 3 (.slice (some ⟨g1, 0, none⟩) n n) n (tabV (n * 3) (fG es)))) (HP1 : Aside0 (W.ownsRow s1 3 1 (.slice (some ⟨g2, 0, none⟩) m m) m (tabV m (cP es))))
    (HG2 : Aside0 (W.ownsRow s2 141 3 (.slice (some ⟨g3, 0, none⟩) n n) n (tabV (n * 3) (fG fs)))) (HP2 : Aside0 (W.ownsRow s2 3 1 (.slice (some ⟨g4, 0, none⟩) m m) m (tabV m (cP fs))))
    (HG3 : Aside0 (W.ownsRow s3 141 3 (.slice (some ⟨g5, 0, none⟩) n c5) n (tabV (n * 3) (fG (es ++ fs))))) (HP3 : Aside0 (W.ownsRow s3 3 1 (.slice (some ⟨g6, 0, none⟩) m c6) m (tabV m (cP (es ++ fs)))))
    (HW0 : Aside0 (Bw w W)) :
    Code.wp Try.prog addsTail (bodyPost Try.prog Try.f3 fun e w' => e = .returned (.bool true) ∧ Bw w w') ⟨#[u0, .slice A es.length cap, .slice A' fs.length cap', .pointer (some ⟨bc, 0, none⟩), u4, u5, u6, .pointer (some ⟨bx, 0, none⟩), u8, .pointer (some ⟨bY, 0, none⟩), u10, .pointer (some ⟨bz, 0, none⟩), .int .i64 0, u13, u14, u15, u16, u17, u18, u19, u20, u21, u22, u23, u24, u25, u26, u27, u28, u29, u30, u31, u32, u33, u34, u35, u36, u37, u38, u39, u40, u41, u42, u43, u44, u45, u46, u47, u48, u49, u50, u51, u52, u53, u54, u55, u56, u57, u58, u59, u60, u61, u62, u63, u64, u65, u66, u67, u68, u69, u70, u71, u72, u73, u74, u75, u76, u77, u78, u79, u80, u81, u82, u83, u84, u85, u86, u87, u88, u89, u90, u91, u92, u93, u94, u95, u96, u97, u98, u99, u100, u101, u102, u103, u104, u105, u106, u107, u108, u109, u110, u111, u112, u113, u114, u115, u116, u117, u118, u119, u120, u121, u122, u123, u124, u125, u126, u127, u128, u129, u130, u131, u132, u133, u134, u135, u136, u137, u138, u139, u140, u141, u142, u143, u144, u145, u146, u147, u148, u149, u150, u151, u152, u153, u154, u155, u156], []⟩ W := by
  conv => arg 2; whnf
  have q0 : W.cell? ⟨bc, 0, none⟩ = some (.int .i64 (m : Int)) := HL.out.cell 0 _ rfl
  have q1 : W.cell? ⟨bc, 1, none⟩ = some (.int .i64 t) := HL.out.cell 1 _ rfl
  have q2 : W.cell? ⟨bc, 2, none⟩ = some (.int .i64 (n : Int)) := HL.out.cell 2 _ rfl
  have q3 : W.cell? ⟨bc, 3, none⟩ = some (.int .i64 (m : Int)) := HL.out.cell 3 _ rfl
  have q4 : W.cell? ⟨bc, 4, none⟩ = some (.int .i64 t') := HL.out.cell 4 _ rfl
  have q5 : W.cell? ⟨bc, 5, none⟩ = some (.int .i64 (n : Int)) := HL.out.cell 5 _ rfl
  have hlt := HL.out.lt
  have e1 : ((n : Int) != (n : Int)) = false := by simp
  have e2 : ((m : Int) != (m : Int)) = false := by simp
  refine wp_seq_k fun K1 hK1 => ?_
  have HK1 := Aside0.mk hK1
  clear hK1
  go_wp2_with fail
  refine HK1.out _ _ ?_
  clear HK1 q0 q1 q2 q3 q4 q5 hlt e1 e2
  refine wp_seq_k fun K2 hK2 => ?_
  have HK2 := Aside0.mk hK2
  clear hK2
  have hmk := make_evs (es.length + fs.length) (by omega)
  have hcast : ((es.length : Int) + (fs.length : Int)) = ((es.length + fs.length : Nat) : Int) := by push_cast; rfl
  rw [← hcast] at hmk
  clear hcast
  go_wp2_with fail
  refine HK2.out _ _ ?_
  clear HK2 hmk
  have hge : W.heap.size ≤ W.heap.size := Nat.le_refl _
  have HEV := Aside0.mk (ev_made W (W.alloc (.cells (madeCells #[.int .i64 0, .int .i64 0, .int .i64 0, .int .i64 0, .int .i64 0] ((es.length + fs.length) * 5)) 38)) (es.length + fs.length) (by omega) W.heap.size hge (es ++ fs) (Blk.new W _ _))
  have HBM := Aside0.mk ((Bw.refl W).alloc (.cells (madeCells #[.int .i64 0, .int .i64 0, .int .i64 0, .int .i64 0, .int .i64 0] ((es.length + fs.length) * 5)) 38))
  generalize W.alloc (.cells (madeCells #[.int .i64 0, .int .i64 0, .int .i64 0, .int .i64 0, .int .i64 0] ((es.length + fs.length) * 5)) 38) = W9 at HEV HBM ⊢
  obtain ⟨N, hN⟩ : ∃ N, es.length + fs.length = N := ⟨_, rfl⟩
  obtain ⟨g, hg⟩ : ∃ g, W.heap.size = g := ⟨_, rfl⟩
  rw [hN, hg] at HEV ⊢
  refine wp_seq_k fun K1 hK1 => ?_
  refine Adds_loop1 A cap es A' cap' fs W W9 g N _ _ _ _ _ _ _ _ _ _ _ _ _ _ _ _ _ _ _ _ _ _ _ _ _ _ _ _ _ _ _ _ _ _ _ _ _ _ _ _ _ _ _ _ _ _ _ _ _ _ _ _ _ _ _ _ _ _ _ _ _ _ _ _ _ _ _ _ _ _ _ _ _ _ _ _ _ _ _ _ _ _ _ _ _ _ _ _ _ _ _ _ _ _ _ _ _ _ _ _ _ _ _ _ _ _ _ _ _ _ _ _ _ _ _ _ _ _ _ _ _ _ _ _ _ _ _ _ _ _ _ _ _ _ _ _ _ _ _ _ _ _ _ _ _ _ _ _ _ _ _ _ _ _ hN h1 h2 (by omega) HR (by rw [hg]; exact HEV) HBM K1 _ ?_
  intro v14 v102 v103 v104 v105 v106 v107 v108 v109 v110 v111 v112 v113 v114 W10 HE10 HB10
  refine hK1 _ _ ?_
  refine wp_seq_k fun K2 hK2 => ?_
  refine Adds_loop2 A cap es A' cap' fs W W10 g N _ _ _ _ _ _ _ _ _ _ _ _ _ _ _ _ _ _ _ _ _ _ _ _ _ _ _ _ _ _ _ _ _ _ _ _ _ _ _ _ _ _ _ _ _ _ _ _ _ _ _ _ _ _ _ _ _ _ _ _ _ _ _ _ _ _ _ _ _ _ _ _ _ _ _ _ _ _ _ _ _ _ _ _ _ _ _ _ _ _ _ _ _ _ _ _ _ _ _ _ _ _ _ _ _ _ _ _ _ _ _ _ _ _ _ _ _ _ _ _ _ _ _ _ _ _ _ _ _ _ _ _ _ _ _ _ _ _ _ _ _ _ _ _ _ _ _ _ _ _ _ _ _ _ hN h1 h2 (by omega) HS HE10 HB10 K2 _ ?_
  intro v15 v115 v116 v117 v118 v119 v120 v121 v122 v123 v124 v125 v126 v127 v128 v129 v130 W11 HE11 HB11
  refine hK2 _ _ ?_
  have hNl : (es ++ fs).length = N := by rw [List.length_append]; exact hN
  have HEF := Aside0.mk (ev_done hNl HE11.out (by omega))
  subst hNl
  have hb := HB11.out
  exact Adds_fin m n t t' A cap es A' cap' fs w W11 bc bx bY bz g1 g2 g3 g4 g5 c5 g6 c6 s1 s2 s3 g (es ++ fs) (by omega) _ _ _ _ _ _ _ _ _ _ _ _ _ _ _ _ _ _ _ _ _ _ _ _ _ _ _ _ _ _ _ _ _ _ _ _ _ _ _ _ _ _ _ _ _ _ _ _ _ _ _ _ _ _ _ _ _ _ _ _ _ _ _ _ _ _ _ _ _ _ _ _ _ _ _ _ _ _ _ _ _ _ _ _ _ _ _ _ _ _ _ _ _ _ _ _ _ _ _ _ _ _ _ _ _ _ _ _ _ _ _ _ _ _ _ _ _ _ _ _ _ _ _ _ _ _ _ _ _ _ _ _ _ _ _ _ _ _ _ _ _ _ _ _ _ _ _ _ _ h1 h2 Qx Qz ⟨HR.out.bw hb⟩ ⟨HS.out.bw hb⟩ ⟨HL.out.bw hb⟩ ⟨HX.out.bw hb⟩ ⟨HY.out.bw hb⟩ ⟨HZ.out.bw hb⟩ ⟨pw_own_below HG1.out hb⟩ ⟨pw_own_below HP1.out hb⟩ ⟨pw_own_below HG2.out hb⟩ ⟨pw_own_below HP2.out hb⟩ ⟨pw_own_below HG3.out hb⟩ ⟨pw_own_below HP3.out hb⟩ ⟨HW0.out.trans hb⟩ HEF
end Go.Proofs.Ytclippikdfcgkaa.M
