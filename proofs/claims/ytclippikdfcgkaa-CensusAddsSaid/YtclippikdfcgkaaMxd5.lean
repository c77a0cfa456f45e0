/- The law CensusAdds, walked: configs that are alike, the loops. Conditions: the arguments are of their kinds. -/
import Derived.Test.YtclippikdfcgkaaMxd4
namespace Go.Proofs.Ytclippikdfcgkaa.M
open Go.RowKit Go.Proofs.YtclippikdfcgkaaW.PrintWords Go.Proofs.YtclippikdfcgkaaW.PrintLast Go.Proofs.YtclippikdfcgkaaW.PrintMore
set_option linter.unusedVariables false
set_option linter.unusedSimpArgs false
def sndSeq : Code → Code | .seq _ b => b | c => c
def fstSeq : Code → Code | .seq a _ => a | c => c
noncomputable def addsT10 : Code := ((Try.f3.body.bind (behindR 10)).getD .skip)
noncomputable def addsL1 : Code := fstSeq addsT10
noncomputable def addsL2 : Code := fstSeq (sndSeq addsT10)
noncomputable def addsFin : Code := sndSeq (sndSeq addsT10)
set_option maxHeartbeats 4000000 in
set_option maxRecDepth 100000 in
theorem Adds_loop1 (A : Option Addr) (cap : Nat) (es : List Ev) (A' : Option Addr) (cap' : Nat) (fs : List Ev) (W8 W : World) (g N : Nat) (u0 u3 u4 u5 u6 u7 u8 u9 u10 u11 u12 u14 u15 u16 u17 u18 u19 u20 u21 u22 u23 u24 u25 u26 u27 u28 u29 u30 u31 u32 u33 u34 u35 u36 u37 u38 u39 u40 u41 u42 u43 u44 u45 u46 u47 u48 u49 u50 u51 u52 u53 u54 u55 u56 u57 u58 u59 u60 u61 u62 u63 u64 u65 u66 u67 u68 u69 u70 u71 u72 u73 u74 u75 u76 u77 u78 u79 u80 u81 u82 u83 u84 u85 u86 u87 u88 u89 u90 u91 u92 u93 u94 u95 u96 u97 u98 u99 u100 u101 u102 u103 u104 u105 u106 u107 u108 u109 u110 u111 u112 u113 u114 u115 u116 u117 u118 u119 u120 u121 u122 u123 u124 u125 u126 u127 u128 u129 u130 u131 u132 u133 u134 u135 u136 u137 u138 u139 u140 u141 u142 u143 u144 u145 u146 u147 u148 u149 u150 u151 u152 u153 u154 u155 u156 : Value) (hN : es.length + fs.length = N) (h1 : es.length ≤ 50) (h2 : fs.length ≤ 50) (hg : W8.heap.size ≤ g)
    (HR : Aside0 (Rows encV 5 W8 A es)) (HE : Aside0 (W.ownsRow W8.heap.size 38 5 (.slice (some ⟨g, 0, none⟩) N N) N (tabV (N * 5) (evP (0) (es ++ fs))))) (HB : Aside0 (Bw W8 W)) (K : Act → World → Prop) (Q : Exit → Act → World → Prop)
    (hK : ∀ (v14 v102 v103 v104 v105 v106 v107 v108 v109 v110 v111 v112 v113 v114 : Value) (W' : World), Aside0 (W'.ownsRow W8.heap.size 38 5 (.slice (some ⟨g, 0, none⟩) N N) N (tabV (N * 5) (evP (es.length * 5) (es ++ fs)))) → Aside0 (Bw W8 W') → K ⟨#[u0, .slice A es.length cap, .slice A' fs.length cap', u3, u4, u5, u6, u7, u8, u9, u10, u11, u12, .slice (some ⟨g, 0, none⟩) N N, v14, u15, u16, u17, u18, u19, u20, u21, u22, u23, u24, u25, u26, u27, u28, u29, u30, u31, u32, u33, u34, u35, u36, u37, u38, u39, u40, u41, u42, u43, u44, u45, u46, u47, u48, u49, u50, u51, u52, u53, u54, u55, u56, u57, u58, u59, u60, u61, u62, u63, u64, u65, u66, u67, u68, u69, u70, u71, u72, u73, u74, u75, u76, u77, u78, u79, u80, u81, u82, u83, u84, u85, u86, u87, u88, u89, u90, u91, u92, u93, u94, u95, u96, u97, u98, u99, u100, u101, v102, v103, v104, v105, v106, v107, v108, v109, v110, v111, v112, v113, v114, u115, u116, u117, u118, u119, u120, u121, u122, u123, u124, u125, u126, u127, u128, u129, u130, u131, u132, u133, u134, u135, u136, u137, u138, u139, u140, u141, u142, u143, u144, u145, u146, u147, u148, u149, u150, u151, u152, u153, u154, u155, u156], []⟩ W') :
    Code.wp Try.prog addsL1 (Exit.then K Q) ⟨#[u0, .slice A es.length cap, .slice A' fs.length cap', u3, u4, u5, u6, u7, u8, u9, u10, u11, u12, .slice (some ⟨g, 0, none⟩) N N, u14, u15, u16, u17, u18, u19, u20, u21, u22, u23, u24, u25, u26, u27, u28, u29, u30, u31, u32, u33, u34, u35, u36, u37, u38, u39, u40, u41, u42, u43, u44, u45, u46, u47, u48, u49, u50, u51, u52, u53, u54, u55, u56, u57, u58, u59, u60, u61, u62, u63, u64, u65, u66, u67, u68, u69, u70, u71, u72, u73, u74, u75, u76, u77, u78, u79, u80, u81, u82, u83, u84, u85, u86, u87, u88, u89, u90, u91, u92, u93, u94, u95, u96, u97, u98, u99, u100, u101, u102, u103, u104, u105, u106, u107, u108, u109, u110, u111, u112, u113, u114, u115, u116, u117, u118, u119, u120, u121, u122, u123, u124, u125, u126, u127, u128, u129, u130, u131, u132, u133, u134, u135, u136, u137, u138, u139, u140, u141, u142, u143, u144, u145, u146, u147, u148, u149, u150, u151, u152, u153, u154, u155, u156], []⟩ W := by
  have HK := Aside0.mk hK
  have HG := Aside0.mk hg
  have HN := Aside0.mk hN
  clear hK hg hN
  conv => arg 2; whnf
  go_wp2_with fail
  go_loopw [14] (fun iv wr => ∃ k : Nat, k ≤ es.length ∧ iv = .int .i64 k ∧ Aside0 (wr.ownsRow W8.heap.size 38 5 (.slice (some ⟨g, 0, none⟩) N N) N (tabV (N * 5) (evP (k * 5) (es ++ fs)))) ∧ Aside0 (Bw W8 wr)) (fun iv _ => es.length - (intOf iv).toNat)
  case atStart => exact ⟨0, by omega, rfl, HE, HB⟩
  case round =>
    obtain ⟨k, hk, rfl, HEk, HBk⟩ := hrel
    have hel : es.length ≤ 9223372036854775807 := by omega
    by_cases hlt : k < es.length
    · obtain ⟨e, he⟩ : ∃ e, es[k]? = some e := ⟨_, List.getElem?_eq_getElem hlt⟩
      obtain ⟨ad, hA, h0, hi⟩ := (HR.out.bw HBk.out).atS k e he
      subst hA
      have s0 := h0 _ rfl
      have s1 := hi 1 _ (by decide) rfl
      have s2 := hi 2 _ (by decide) rfl
      have s3 := hi 3 _ (by decide) rfl
      have s4 := hi 4 _ (by decide) rfl
      have hkN : k < N := by have := HN.out; omega
      have HEA := Aside0.mk (show (es ++ fs)[k]? = some e by rw [List.getElem?_append_left hlt]; exact he)
      have z0 : wr.cell? ⟨g, k * 5, none⟩ = some (.int .i64 0) := ev_cell k 0 (by omega) hkN HEk.out
      have z1 := ev_cell k 1 (by omega) hkN HEk.out
      have z2 := ev_cell k 2 (by omega) hkN HEk.out
      have z3 := ev_cell k 3 (by omega) hkN HEk.out
      have z4 := ev_cell k 4 (by omega) hkN HEk.out
      have f0 := own_free HEk.out (k * 5)
      have f1 := own_free HEk.out (k * 5 + 1)
      have f2 := own_free HEk.out (k * 5 + 2)
      have f3 := own_free HEk.out (k * 5 + 3)
      have f4 := own_free HEk.out (k * 5 + 4)
      have gl : g < wr.heap.size := own_lt HEk.out g rfl
      have hN9 : N ≤ 100 := by have := HN.out; omega
      clear he h0 hi
      go_wp2_with fail
      go_roundw
      case rel => exact ⟨k + 1, by omega, by go_num, ⟨ev_set k e HEA.out hkN HEk.out⟩, ⟨((((HBk.out.setCell (p := ⟨g, k * 5, none⟩) HG.out _).setCell (p := ⟨g, k * 5 + 1, none⟩) HG.out _).setCell (p := ⟨g, k * 5 + 2, none⟩) HG.out _).setCell (p := ⟨g, k * 5 + 3, none⟩) HG.out _).setCell (p := ⟨g, k * 5 + 4, none⟩) HG.out _⟩⟩
      case measure => simp [intOf]; omega
    · obtain rfl : k = es.length := by omega
      go_wp2_with fail
      exact HK.out _ _ _ _ _ _ _ _ _ _ _ _ _ _ _ HEk HBk
set_option maxHeartbeats 4000000 in
set_option maxRecDepth 100000 in
theorem Adds_loop2 (A : Option Addr) (cap : Nat) (es : List Ev) (A' : Option Addr) (cap' : Nat) (fs : List Ev) (W8 W : World) (g N : Nat) (u0 u3 u4 u5 u6 u7 u8 u9 u10 u11 u12 u14 u15 u16 u17 u18 u19 u20 u21 u22 u23 u24 u25 u26 u27 u28 u29 u30 u31 u32 u33 u34 u35 u36 u37 u38 u39 u40 u41 u42 u43 u44 u45 u46 u47 u48 u49 u50 u51 u52 u53 u54 u55 u56 u57 u58 u59 u60 u61 u62 u63 u64 u65 u66 u67 u68 u69 u70 u71 u72 u73 u74 u75 u76 u77 u78 u79 u80 u81 u82 u83 u84 u85 u86 u87 u88 u89 u90 u91 u92 u93 u94 u95 u96 u97 u98 u99 u100 u101 u102 u103 u104 u105 u106 u107 u108 u109 u110 u111 u112 u113 u114 u115 u116 u117 u118 u119 u120 u121 u122 u123 u124 u125 u126 u127 u128 u129 u130 u131 u132 u133 u134 u135 u136 u137 u138 u139 u140 u141 u142 u143 u144 u145 u146 u147 u148 u149 u150 u151 u152 u153 u154 u155 u156 : Value) (hN : es.length + fs.length = N) (h1 : es.length ≤ 50) (h2 : fs.length ≤ 50) (hg : W8.heap.size ≤ g)
    (HR : Aside0 (Rows encV 5 W8 A' fs)) (HE : Aside0 (W.ownsRow W8.heap.size 38 5 (.slice (some ⟨g, 0, none⟩) N N) N (tabV (N * 5) (evP (es.length * 5) (es ++ fs))))) (HB : Aside0 (Bw W8 W)) (K : Act → World → Prop) (Q : Exit → Act → World → Prop)
    (hK : ∀ (v15 v115 v116 v117 v118 v119 v120 v121 v122 v123 v124 v125 v126 v127 v128 v129 v130 : Value) (W' : World), Aside0 (W'.ownsRow W8.heap.size 38 5 (.slice (some ⟨g, 0, none⟩) N N) N (tabV (N * 5) (evP (N * 5) (es ++ fs)))) → Aside0 (Bw W8 W') → K ⟨#[u0, .slice A es.length cap, .slice A' fs.length cap', u3, u4, u5, u6, u7, u8, u9, u10, u11, u12, .slice (some ⟨g, 0, none⟩) N N, u14, v15, u16, u17, u18, u19, u20, u21, u22, u23, u24, u25, u26, u27, u28, u29, u30, u31, u32, u33, u34, u35, u36, u37, u38, u39, u40, u41, u42, u43, u44, u45, u46, u47, u48, u49, u50, u51, u52, u53, u54, u55, u56, u57, u58, u59, u60, u61, u62, u63, u64, u65, u66, u67, u68, u69, u70, u71, u72, u73, u74, u75, u76, u77, u78, u79, u80, u81, u82, u83, u84, u85, u86, u87, u88, u89, u90, u91, u92, u93, u94, u95, u96, u97, u98, u99, u100, u101, u102, u103, u104, u105, u106, u107, u108, u109, u110, u111, u112, u113, u114, v115, v116, v117, v118, v119, v120, v121, v122, v123, v124, v125, v126, v127, v128, v129, v130, u131, u132, u133, u134, u135, u136, u137, u138, u139, u140, u141, u142, u143, u144, u145, u146, u147, u148, u149, u150, u151, u152, u153, u154, u155, u156], []⟩ W') :
    Code.wp Try.prog addsL2 (Exit.then K Q) ⟨#[u0, .slice A es.length cap, .slice A' fs.length cap', u3, u4, u5, u6, u7, u8, u9, u10, u11, u12, .slice (some ⟨g, 0, none⟩) N N, u14, u15, u16, u17, u18, u19, u20, u21, u22, u23, u24, u25, u26, u27, u28, u29, u30, u31, u32, u33, u34, u35, u36, u37, u38, u39, u40, u41, u42, u43, u44, u45, u46, u47, u48, u49, u50, u51, u52, u53, u54, u55, u56, u57, u58, u59, u60, u61, u62, u63, u64, u65, u66, u67, u68, u69, u70, u71, u72, u73, u74, u75, u76, u77, u78, u79, u80, u81, u82, u83, u84, u85, u86, u87, u88, u89, u90, u91, u92, u93, u94, u95, u96, u97, u98, u99, u100, u101, u102, u103, u104, u105, u106, u107, u108, u109, u110, u111, u112, u113, u114, u115, u116, u117, u118, u119, u120, u121, u122, u123, u124, u125, u126, u127, u128, u129, u130, u131, u132, u133, u134, u135, u136, u137, u138, u139, u140, u141, u142, u143, u144, u145, u146, u147, u148, u149, u150, u151, u152, u153, u154, u155, u156], []⟩ W := by
  have HK := Aside0.mk hK
  have HG := Aside0.mk hg
  have HN := Aside0.mk hN
  clear hK hg hN
  conv => arg 2; whnf
  go_wp2_with fail
  go_loopw [15] (fun iv wr => ∃ k : Nat, k ≤ fs.length ∧ iv = .int .i64 k ∧ Aside0 (wr.ownsRow W8.heap.size 38 5 (.slice (some ⟨g, 0, none⟩) N N) N (tabV (N * 5) (evP ((es.length + k) * 5) (es ++ fs)))) ∧ Aside0 (Bw W8 wr)) (fun iv _ => fs.length - (intOf iv).toNat)
  case atStart => exact ⟨0, by omega, rfl, ⟨by rw [Nat.add_zero]; exact HE.out⟩, HB⟩
  case round =>
    obtain ⟨k, hk, rfl, HEk, HBk⟩ := hrel
    have hel : fs.length ≤ 9223372036854775807 := by omega
    by_cases hlt : k < fs.length
    · obtain ⟨e, he⟩ : ∃ e, fs[k]? = some e := ⟨_, List.getElem?_eq_getElem hlt⟩
      obtain ⟨ad, hA, h0, hi⟩ := (HR.out.bw HBk.out).atS k e he
      subst hA
      have s0 := h0 _ rfl
      have s1 := hi 1 _ (by decide) rfl
      have s2 := hi 2 _ (by decide) rfl
      have s3 := hi 3 _ (by decide) rfl
      have s4 := hi 4 _ (by decide) rfl
      have hkN : (es.length + k) < N := by have := HN.out; omega
      have HEA := Aside0.mk (show (es ++ fs)[(es.length + k)]? = some e by rw [List.getElem?_append_right (Nat.le_add_right _ _), Nat.add_sub_cancel_left]; exact he)
      have z0 : wr.cell? ⟨g, (es.length + k) * 5, none⟩ = some (.int .i64 0) := ev_cell (es.length + k) 0 (by omega) hkN HEk.out
      have z1 := ev_cell (es.length + k) 1 (by omega) hkN HEk.out
      have z2 := ev_cell (es.length + k) 2 (by omega) hkN HEk.out
      have z3 := ev_cell (es.length + k) 3 (by omega) hkN HEk.out
      have z4 := ev_cell (es.length + k) 4 (by omega) hkN HEk.out
      have f0 := own_free HEk.out ((es.length + k) * 5)
      have f1 := own_free HEk.out ((es.length + k) * 5 + 1)
      have f2 := own_free HEk.out ((es.length + k) * 5 + 2)
      have f3 := own_free HEk.out ((es.length + k) * 5 + 3)
      have f4 := own_free HEk.out ((es.length + k) * 5 + 4)
      have gl : g < wr.heap.size := own_lt HEk.out g rfl
      have hN9 : N ≤ 100 := by have := HN.out; omega
      clear he h0 hi
      go_wp2_with fail
      go_roundw
      case rel => exact ⟨k + 1, by omega, by go_num, ⟨ev_set (es.length + k) e HEA.out hkN HEk.out⟩, ⟨((((HBk.out.setCell (p := ⟨g, (es.length + k) * 5, none⟩) HG.out _).setCell (p := ⟨g, (es.length + k) * 5 + 1, none⟩) HG.out _).setCell (p := ⟨g, (es.length + k) * 5 + 2, none⟩) HG.out _).setCell (p := ⟨g, (es.length + k) * 5 + 3, none⟩) HG.out _).setCell (p := ⟨g, (es.length + k) * 5 + 4, none⟩) HG.out _⟩⟩
      case measure => simp [intOf]; omega
    · obtain rfl : k = fs.length := by omega
      go_wp2_with fail
      exact HK.out _ _ _ _ _ _ _ _ _ _ _ _ _ _ _ _ _ _ ⟨by have q := HEk.out; rwa [HN.out] at q⟩ HBk
end Go.Proofs.Ytclippikdfcgkaa.M
