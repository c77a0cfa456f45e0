/- The law CensusAdds, walked: configs that are not alike, behind Add. Conditions: the arguments are of their kinds. -/
import Derived.Test.YtclippikdfcgkaaMxe
import Derived.Test.YtclippikdfcgkaaMx9
namespace Go.Proofs.Ytclippikdfcgkaa.M
open Go.RowKit Go.Proofs.YtclippikdfcgkaaW.PrintWords Go.Proofs.YtclippikdfcgkaaW.PrintLast Go.Proofs.YtclippikdfcgkaaW.PrintMore
set_option linter.unusedVariables false
set_option linter.unusedSimpArgs false
noncomputable def addsTail : Code := ((Try.f3.body.bind (behindR 7)).getD .skip)
set_option maxHeartbeats 4000000 in
set_option maxRecDepth 100000 in
theorem Adds_nea (m n m' n' : Nat) (t t' : Int) (w w3 : World) (bc bz : Nat) (u0 u1 u2 u4 u5 u6 u7 u8 u9 u10 u13 u14 u15 u16 u17 u18 u19 u20 u21 u22 u23 u24 u25 u26 u27 u28 u29 u30 u31 u32 u33 u34 u35 u36 u37 u38 u39 u40 u41 u42 u43 u44 u45 u46 u47 u48 u49 u50 u51 u52 u53 u54 u55 u56 u57 u58 u59 u60 u61 u62 u63 u64 u65 u66 u67 u68 u69 u70 u71 u72 u73 u74 u75 u76 u77 u78 u79 u80 u81 u82 u83 u84 u85 u86 u87 u88 u89 u90 u91 u92 u93 u94 u95 u96 u97 u98 u99 u100 u101 u102 u103 u104 u105 u106 u107 u108 u109 u110 u111 u112 u113 u114 u115 u116 u117 u118 u119 u120 u121 u122 u123 u124 u125 u126 u127 u128 u129 u130 u131 u132 u133 u134 u135 u136 u137 u138 u139 u140 u141 u142 u143 u144 u145 u146 u147 u148 u149 u150 u151 u152 u153 u154 u155 u156 : Value) (hne : n ≠ n')
    (HL : Aside0 (Blk w3 bc #[.int .i64 (m : Int), .int .i64 t, .int .i64 (n : Int), .int .i64 (m' : Int), .int .i64 t', .int .i64 (n' : Int)] 24)) (HZ : Aside0 (Blk w3 bz #[.int .i64 0, .int .i64 0, .int .i64 0, .int .i64 0, .int .i64 0, .int .i64 0, .int .i64 0, .int .i64 0, .int .i64 0, .int .i64 0, .int .i64 0, .int .i64 0, .slice none 0 0, .slice none 0 0, .int .i64 0, .int .i64 0] 31)) (HW0 : Aside0 (Bw w w3)) :
    Code.wp Try.prog addsTail (bodyPost Try.prog Try.f3 fun e w' => e = .returned (.bool true) ∧ Bw w w') ⟨#[u0, u1, u2, .pointer (some ⟨bc, 0, none⟩), u4, u5, u6, u7, u8, u9, u10, .pointer (some ⟨bz, 0, none⟩), .int .i64 1, u13, u14, u15, u16, u17, u18, u19, u20, u21, u22, u23, u24, u25, u26, u27, u28, u29, u30, u31, u32, u33, u34, u35, u36, u37, u38, u39, u40, u41, u42, u43, u44, u45, u46, u47, u48, u49, u50, u51, u52, u53, u54, u55, u56, u57, u58, u59, u60, u61, u62, u63, u64, u65, u66, u67, u68, u69, u70, u71, u72, u73, u74, u75, u76, u77, u78, u79, u80, u81, u82, u83, u84, u85, u86, u87, u88, u89, u90, u91, u92, u93, u94, u95, u96, u97, u98, u99, u100, u101, u102, u103, u104, u105, u106, u107, u108, u109, u110, u111, u112, u113, u114, u115, u116, u117, u118, u119, u120, u121, u122, u123, u124, u125, u126, u127, u128, u129, u130, u131, u132, u133, u134, u135, u136, u137, u138, u139, u140, u141, u142, u143, u144, u145, u146, u147, u148, u149, u150, u151, u152, u153, u154, u155, u156], []⟩ w3 := by
  have e1 : ((n : Int) != (n' : Int)) = true := by simp; omega
  clear hne
  have q0 : w3.cell? ⟨bc, 0, none⟩ = some (.int .i64 (m : Int)) := HL.out.cell 0 _ rfl
  have q1 : w3.cell? ⟨bc, 1, none⟩ = some (.int .i64 t) := HL.out.cell 1 _ rfl
  have q2 : w3.cell? ⟨bc, 2, none⟩ = some (.int .i64 (n : Int)) := HL.out.cell 2 _ rfl
  have q3 : w3.cell? ⟨bc, 3, none⟩ = some (.int .i64 (m' : Int)) := HL.out.cell 3 _ rfl
  have q4 : w3.cell? ⟨bc, 4, none⟩ = some (.int .i64 t') := HL.out.cell 4 _ rfl
  have q5 : w3.cell? ⟨bc, 5, none⟩ = some (.int .i64 (n' : Int)) := HL.out.cell 5 _ rfl
  have hlt := HL.out.lt
  conv => arg 2; whnf
  go_wp2_with fail
  refine (xawake_calls _).mono ?_
  rintro e w4 ⟨rfl, hb4⟩
  have HW0 := Aside0.mk (HW0.out.trans hb4)
  have z0 : w4.cell? ⟨bz, 0, none⟩ = some (.int .i64 0) := (HZ.out.bw hb4).cell 0 _ rfl
  have z1 : w4.cell? ⟨bz, 1, none⟩ = some (.int .i64 0) := (HZ.out.bw hb4).cell 1 _ rfl
  have z2 : w4.cell? ⟨bz, 2, none⟩ = some (.int .i64 0) := (HZ.out.bw hb4).cell 2 _ rfl
  have z3 : w4.cell? ⟨bz, 3, none⟩ = some (.int .i64 0) := (HZ.out.bw hb4).cell 3 _ rfl
  have z4 : w4.cell? ⟨bz, 4, none⟩ = some (.int .i64 0) := (HZ.out.bw hb4).cell 4 _ rfl
  have z5 : w4.cell? ⟨bz, 5, none⟩ = some (.int .i64 0) := (HZ.out.bw hb4).cell 5 _ rfl
  have z6 : w4.cell? ⟨bz, 6, none⟩ = some (.int .i64 0) := (HZ.out.bw hb4).cell 6 _ rfl
  have z7 : w4.cell? ⟨bz, 7, none⟩ = some (.int .i64 0) := (HZ.out.bw hb4).cell 7 _ rfl
  have z8 : w4.cell? ⟨bz, 8, none⟩ = some (.int .i64 0) := (HZ.out.bw hb4).cell 8 _ rfl
  have z9 : w4.cell? ⟨bz, 9, none⟩ = some (.int .i64 0) := (HZ.out.bw hb4).cell 9 _ rfl
  have z10 : w4.cell? ⟨bz, 10, none⟩ = some (.int .i64 0) := (HZ.out.bw hb4).cell 10 _ rfl
  have z11 : w4.cell? ⟨bz, 11, none⟩ = some (.int .i64 0) := (HZ.out.bw hb4).cell 11 _ rfl
  have z12 : w4.cell? ⟨bz, 12, none⟩ = some (.slice none 0 0) := (HZ.out.bw hb4).cell 12 _ rfl
  have z13 : w4.cell? ⟨bz, 13, none⟩ = some (.slice none 0 0) := (HZ.out.bw hb4).cell 13 _ rfl
  have z14 : w4.cell? ⟨bz, 14, none⟩ = some (.int .i64 0) := (HZ.out.bw hb4).cell 14 _ rfl
  have z15 : w4.cell? ⟨bz, 15, none⟩ = some (.int .i64 0) := (HZ.out.bw hb4).cell 15 _ rfl
  have zl := (HZ.out.bw hb4).lt
  clear hb4
  go_wp2_with fail
  refine (total_eq (f := fun _ => 0) (vg := .slice none 0 0) (vp := .slice none 0 0) (most := 0) (now := 0) (x := 0) rfl (fun j => by omega)).mono ?_
  rintro e w5 ⟨rfl, hb5⟩
  have HW0 := Aside0.mk (HW0.out.trans hb5)
  have z12 := hb5.kept z12
  go_wp2_with fail
  go_ret
  exact ⟨rfl, HW0.out⟩
set_option maxHeartbeats 4000000 in
set_option maxRecDepth 100000 in
theorem Adds_neb (m n m' n' : Nat) (t t' : Int) (w w3 : World) (bc bz : Nat) (u0 u1 u2 u4 u5 u6 u7 u8 u9 u10 u13 u14 u15 u16 u17 u18 u19 u20 u21 u22 u23 u24 u25 u26 u27 u28 u29 u30 u31 u32 u33 u34 u35 u36 u37 u38 u39 u40 u41 u42 u43 u44 u45 u46 u47 u48 u49 u50 u51 u52 u53 u54 u55 u56 u57 u58 u59 u60 u61 u62 u63 u64 u65 u66 u67 u68 u69 u70 u71 u72 u73 u74 u75 u76 u77 u78 u79 u80 u81 u82 u83 u84 u85 u86 u87 u88 u89 u90 u91 u92 u93 u94 u95 u96 u97 u98 u99 u100 u101 u102 u103 u104 u105 u106 u107 u108 u109 u110 u111 u112 u113 u114 u115 u116 u117 u118 u119 u120 u121 u122 u123 u124 u125 u126 u127 u128 u129 u130 u131 u132 u133 u134 u135 u136 u137 u138 u139 u140 u141 u142 u143 u144 u145 u146 u147 u148 u149 u150 u151 u152 u153 u154 u155 u156 : Value) (hnn : n = n') (hne : m ≠ m')
    (HL : Aside0 (Blk w3 bc #[.int .i64 (m : Int), .int .i64 t, .int .i64 (n : Int), .int .i64 (m' : Int), .int .i64 t', .int .i64 (n' : Int)] 24)) (HZ : Aside0 (Blk w3 bz #[.int .i64 0, .int .i64 0, .int .i64 0, .int .i64 0, .int .i64 0, .int .i64 0, .int .i64 0, .int .i64 0, .int .i64 0, .int .i64 0, .int .i64 0, .int .i64 0, .slice none 0 0, .slice none 0 0, .int .i64 0, .int .i64 0] 31)) (HW0 : Aside0 (Bw w w3)) :
    Code.wp Try.prog addsTail (bodyPost Try.prog Try.f3 fun e w' => e = .returned (.bool true) ∧ Bw w w') ⟨#[u0, u1, u2, .pointer (some ⟨bc, 0, none⟩), u4, u5, u6, u7, u8, u9, u10, .pointer (some ⟨bz, 0, none⟩), .int .i64 1, u13, u14, u15, u16, u17, u18, u19, u20, u21, u22, u23, u24, u25, u26, u27, u28, u29, u30, u31, u32, u33, u34, u35, u36, u37, u38, u39, u40, u41, u42, u43, u44, u45, u46, u47, u48, u49, u50, u51, u52, u53, u54, u55, u56, u57, u58, u59, u60, u61, u62, u63, u64, u65, u66, u67, u68, u69, u70, u71, u72, u73, u74, u75, u76, u77, u78, u79, u80, u81, u82, u83, u84, u85, u86, u87, u88, u89, u90, u91, u92, u93, u94, u95, u96, u97, u98, u99, u100, u101, u102, u103, u104, u105, u106, u107, u108, u109, u110, u111, u112, u113, u114, u115, u116, u117, u118, u119, u120, u121, u122, u123, u124, u125, u126, u127, u128, u129, u130, u131, u132, u133, u134, u135, u136, u137, u138, u139, u140, u141, u142, u143, u144, u145, u146, u147, u148, u149, u150, u151, u152, u153, u154, u155, u156], []⟩ w3 := by
  have e1 : ((n : Int) != (n' : Int)) = false := by simp [hnn]
  have e2 : ((m : Int) != (m' : Int)) = true := by simp; omega
  clear hne hnn
  have q0 : w3.cell? ⟨bc, 0, none⟩ = some (.int .i64 (m : Int)) := HL.out.cell 0 _ rfl
  have q1 : w3.cell? ⟨bc, 1, none⟩ = some (.int .i64 t) := HL.out.cell 1 _ rfl
  have q2 : w3.cell? ⟨bc, 2, none⟩ = some (.int .i64 (n : Int)) := HL.out.cell 2 _ rfl
  have q3 : w3.cell? ⟨bc, 3, none⟩ = some (.int .i64 (m' : Int)) := HL.out.cell 3 _ rfl
  have q4 : w3.cell? ⟨bc, 4, none⟩ = some (.int .i64 t') := HL.out.cell 4 _ rfl
  have q5 : w3.cell? ⟨bc, 5, none⟩ = some (.int .i64 (n' : Int)) := HL.out.cell 5 _ rfl
  have hlt := HL.out.lt
  conv => arg 2; whnf
  go_wp2_with fail
  refine (xawake_calls _).mono ?_
  rintro e w4 ⟨rfl, hb4⟩
  have HW0 := Aside0.mk (HW0.out.trans hb4)
  have z0 : w4.cell? ⟨bz, 0, none⟩ = some (.int .i64 0) := (HZ.out.bw hb4).cell 0 _ rfl
  have z1 : w4.cell? ⟨bz, 1, none⟩ = some (.int .i64 0) := (HZ.out.bw hb4).cell 1 _ rfl
  have z2 : w4.cell? ⟨bz, 2, none⟩ = some (.int .i64 0) := (HZ.out.bw hb4).cell 2 _ rfl
  have z3 : w4.cell? ⟨bz, 3, none⟩ = some (.int .i64 0) := (HZ.out.bw hb4).cell 3 _ rfl
  have z4 : w4.cell? ⟨bz, 4, none⟩ = some (.int .i64 0) := (HZ.out.bw hb4).cell 4 _ rfl
  have z5 : w4.cell? ⟨bz, 5, none⟩ = some (.int .i64 0) := (HZ.out.bw hb4).cell 5 _ rfl
  have z6 : w4.cell? ⟨bz, 6, none⟩ = some (.int .i64 0) := (HZ.out.bw hb4).cell 6 _ rfl
  have z7 : w4.cell? ⟨bz, 7, none⟩ = some (.int .i64 0) := (HZ.out.bw hb4).cell 7 _ rfl
  have z8 : w4.cell? ⟨bz, 8, none⟩ = some (.int .i64 0) := (HZ.out.bw hb4).cell 8 _ rfl
  have z9 : w4.cell? ⟨bz, 9, none⟩ = some (.int .i64 0) := (HZ.out.bw hb4).cell 9 _ rfl
  have z10 : w4.cell? ⟨bz, 10, none⟩ = some (.int .i64 0) := (HZ.out.bw hb4).cell 10 _ rfl
  have z11 : w4.cell? ⟨bz, 11, none⟩ = some (.int .i64 0) := (HZ.out.bw hb4).cell 11 _ rfl
  have z12 : w4.cell? ⟨bz, 12, none⟩ = some (.slice none 0 0) := (HZ.out.bw hb4).cell 12 _ rfl
  have z13 : w4.cell? ⟨bz, 13, none⟩ = some (.slice none 0 0) := (HZ.out.bw hb4).cell 13 _ rfl
  have z14 : w4.cell? ⟨bz, 14, none⟩ = some (.int .i64 0) := (HZ.out.bw hb4).cell 14 _ rfl
  have z15 : w4.cell? ⟨bz, 15, none⟩ = some (.int .i64 0) := (HZ.out.bw hb4).cell 15 _ rfl
  have zl := (HZ.out.bw hb4).lt
  clear hb4
  go_wp2_with fail
  refine (total_eq (f := fun _ => 0) (vg := .slice none 0 0) (vp := .slice none 0 0) (most := 0) (now := 0) (x := 0) rfl (fun j => by omega)).mono ?_
  rintro e w5 ⟨rfl, hb5⟩
  have HW0 := Aside0.mk (HW0.out.trans hb5)
  have z12 := hb5.kept z12
  go_wp2_with fail
  go_ret
  exact ⟨rfl, HW0.out⟩
end Go.Proofs.Ytclippikdfcgkaa.M
