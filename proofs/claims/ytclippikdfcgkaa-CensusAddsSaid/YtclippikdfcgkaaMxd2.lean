/- The law CensusAdds, walked: it answers true. Conditions: the arguments are of their kinds. -/
import Derived.Test.YtclippikdfcgkaaMxe
import Derived.Test.YtclippikdfcgkaaMx9
namespace Go.Proofs.Ytclippikdfcgkaa.M
open Go.RowKit Go.Proofs.YtclippikdfcgkaaW.PrintWords Go.Proofs.YtclippikdfcgkaaW.PrintLast Go.Proofs.YtclippikdfcgkaaW.PrintMore
set_option linter.unusedVariables false
set_option linter.unusedSimpArgs false
set_option maxHeartbeats 4000000 in
set_option maxRecDepth 100000 in
theorem Adds_gb (m n : Nat) (t : Int) (p' t' g' : Int) (A : Option Addr) (cap : Nat) (es : List Ev) (A' : Option Addr) (cap' : Nat) (fs : List Ev) (w : World) (h1 : es.length ≤ 50) (h2 : fs.length ≤ 50) (h3 : (n : Int) ≤ 60) (h4 : g' ≤ 60) (hx : 1 ≤ m ∧ m ≤ 64) (hxn : 1 ≤ n ∧ n ≤ 65536) (hr : Rows encV 5 w A es) (hy : p' < 1 ∨ 64 < p' ∨ g' < 1 ∨ 65536 < g') :
    Calls Try.prog 3 #[.agg #[.int .i64 (m : Int), .int .i64 t, .int .i64 (n : Int), .int .i64 p', .int .i64 t', .int .i64 g'], .slice A es.length cap, .slice A' fs.length cap'] w fun e w' => e = .returned (.bool true) ∧ Bw w w' := by
  have HB := Aside0.mk (Bw.refl w)
  have d0 : decide ((50 : Int) < (es.length : Int)) = false := by simp; omega
  have d1 : decide ((50 : Int) < (fs.length : Int)) = false := by simp; omega
  have d2 : decide ((60 : Int) < (n : Int)) = false := by simp; omega
  have d3 : decide ((60 : Int) < g') = false := by simp; omega
  have HW0 := Aside0.mk (HB.out.alloc (.cells #[.int .i64 (m : Int), .int .i64 t, .int .i64 (n : Int), .int .i64 p', .int .i64 t', .int .i64 g'] 24))
  have HL0 := Aside0.mk (Blk.new w #[.int .i64 (m : Int), .int .i64 t, .int .i64 (n : Int), .int .i64 p', .int .i64 t', .int .i64 g'] 24)
  have Qhx := Aside0.mk hx
  have Qhy := Aside0.mk hy
  have Qhxn := Aside0.mk hxn
  have Qhr := Aside0.mk hr
  clear hx hy hxn hr h3 h4
  go_enter Try.func3, Try.ntmps3
  go_wp2_with fail
  refine (Of_lit m n t Qhx.out Qhxn.out A cap es _ (Qhr.out.bw HW0.out) (by omega)).mono ?_
  rintro e w1 ⟨b1, g1, g2, rfl, hC1, hb1⟩
  have HL0 := Aside0.mk (HL0.out.bw hb1)
  have HW0 := Aside0.mk (HW0.out.trans hb1)
  have q0 : w1.cell? ⟨w.heap.size, 0, none⟩ = some (.int .i64 (m : Int)) := HL0.out.cell 0 _ rfl
  have q1 : w1.cell? ⟨w.heap.size, 1, none⟩ = some (.int .i64 t) := HL0.out.cell 1 _ rfl
  have q2 : w1.cell? ⟨w.heap.size, 2, none⟩ = some (.int .i64 (n : Int)) := HL0.out.cell 2 _ rfl
  have q3 : w1.cell? ⟨w.heap.size, 3, none⟩ = some (.int .i64 p') := HL0.out.cell 3 _ rfl
  have q4 : w1.cell? ⟨w.heap.size, 4, none⟩ = some (.int .i64 t') := HL0.out.cell 4 _ rfl
  have q5 : w1.cell? ⟨w.heap.size, 5, none⟩ = some (.int .i64 g') := HL0.out.cell 5 _ rfl
  have hlt := HL0.out.lt
  clear hb1
  go_wp2_with fail
  have HW0 := Aside0.mk (HW0.out.alloc (.cells #[.int .i64 (cK es 0), .int .i64 (cK es 1), .int .i64 (cK es 2), .int .i64 (cK es 3), .int .i64 (cK es 4), .int .i64 (cK es 5), .int .i64 (cK es 6), .int .i64 (cK es 7), .int .i64 (cK es 8), .int .i64 (cK es 9), .int .i64 (cK es 10), .int .i64 (cK es 11), .slice (some ⟨g1, 0, none⟩) n n, .slice (some ⟨g2, 0, none⟩) m m, .int .i64 (cMost es), .int .i64 (cNow es)] 31))
  have HL0 := Aside0.mk (HL0.out.alloc (.cells #[.int .i64 (cK es 0), .int .i64 (cK es 1), .int .i64 (cK es 2), .int .i64 (cK es 3), .int .i64 (cK es 4), .int .i64 (cK es 5), .int .i64 (cK es 6), .int .i64 (cK es 7), .int .i64 (cK es 8), .int .i64 (cK es 9), .int .i64 (cK es 10), .int .i64 (cK es 11), .slice (some ⟨g1, 0, none⟩) n n, .slice (some ⟨g2, 0, none⟩) m m, .int .i64 (cMost es), .int .i64 (cNow es)] 31))
  refine (Of_bad p' t' g' Qhy.out (.slice A' fs.length cap') _).mono ?_
  rintro e w2 ⟨rfl, hb2⟩
  have HW0 := Aside0.mk (HW0.out.trans hb2)
  clear hb2
  go_wp2_with fail
  have HW0 := Aside0.mk (HW0.out.alloc (.cells #[.int .i64 0, .int .i64 0, .int .i64 0, .int .i64 0, .int .i64 0, .int .i64 0, .int .i64 0, .int .i64 0, .int .i64 0, .int .i64 0, .int .i64 0, .int .i64 0, .slice none 0 0, .slice none 0 0, .int .i64 0, .int .i64 0] 31))
  refine (xawake_calls _).mono ?_
  rintro e w3 ⟨rfl, hb3⟩
  go_wp2_with fail
  go_ret
  exact ⟨rfl, HW0.out.trans hb3⟩
end Go.Proofs.Ytclippikdfcgkaa.M
