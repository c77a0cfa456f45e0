/- The law CellMakes, walked: the arguments as they come. Conditions: the arguments are of their kinds. -/
import Derived.Test.YtclippikdfcgkaaMcj
namespace Go.Proofs.Ytclippikdfcgkaa.M
open Go.RowKit Go.Proofs.YtclippikdfcgkaaW.PrintWords Go.Proofs.YtclippikdfcgkaaW.PrintLast Go.Proofs.YtclippikdfcgkaaW.PrintMore
set_option linter.unusedVariables false
set_option linter.unusedSimpArgs false
set_option maxHeartbeats 1000000 in
set_option maxRecDepth 100000 in
theorem CellMakes_walk (w : World) (n : Int) (wn : (Lit.int .i64 n).wf = true) (a : Option Addr) (len cap : Nat) (f : RdRow [.int .u64] w a len cap) (y : len * 8 ≤ 140737488351232) (cs : List Value) (g : Fits [.int .i64, .int .i64, .int .i64, .int .u64, .int .u64] cs) :
    Calls Try.prog 7 #[.int .i64 n, .slice a len cap, .agg cs.toArray] w fun e w' => e = .returned (.bool true) ∧ Bw w w' := by
  obtain ⟨ws, rfl, hx, hxw⟩ := rd_ints f
  obtain ⟨n0, _, rfl, _, h1⟩ := g.int
  obtain ⟨n1, _, rfl, _, h2⟩ := h1.int
  obtain ⟨n2, _, rfl, _, h3⟩ := h2.int
  obtain ⟨n3, _, rfl, _, h4⟩ := h3.int
  obtain ⟨n4, _, rfl, _, h5⟩ := h4.int
  obtain rfl := h5.nil
  have HB := Aside0.mk (Bw.refl w)
  by_cases q1 : 300 < n ∧ n ≤ 262144
  · have e1 : decide (300 < n) = true := by simp; omega
    have e2 : decide (n ≤ 262144) = true := by simp; omega
    clear f hx hxw g h1 h2 h3 h4 h5 q1
    go_enter Try.func7, Try.ntmps7
    go_wp2_with fail
    refine (cawake_calls _).mono ?_
    rintro e w1 ⟨rfl, hb1⟩
    go_wp2_with fail
    go_ret
    exact ⟨rfl, (HB.out.alloc _).trans hb1⟩
  · by_cases q2 : ws.length ≤ 100
    · by_cases q3 : n < 0
      · exact CellMakes_neg n a cap ws ⟨n0, n1, n2, n3, n4⟩ w hx q2 q3
      · by_cases q4 : 262144 < n
        · exact CellMakes_long n a cap ws ⟨n0, n1, n2, n3, n4⟩ w hx q2 q4
        · exact CellMakes_ok n a cap ws ⟨n0, n1, n2, n3, n4⟩ w hx q2 (by omega)
    · have d1 : decide ((100 : Int) < (ws.length : Int)) = true := by simp; omega
      by_cases q3 : 300 < n
      · have e1 : decide (300 < n) = true := by simp; omega
        have e2 : decide (n ≤ 262144) = false := by simp; omega
        clear f hx hxw g h1 h2 h3 h4 h5 q1 q2 q3
        go_enter Try.func7, Try.ntmps7
        go_wp2_with fail
        refine (cawake_calls _).mono ?_
        rintro e w1 ⟨rfl, hb1⟩
        go_wp2_with fail
        go_ret
        exact ⟨rfl, (HB.out.alloc _).trans hb1⟩
      · have e1 : decide (300 < n) = false := by simp; omega
        clear f hx hxw g h1 h2 h3 h4 h5 q1 q2 q3
        go_enter Try.func7, Try.ntmps7
        go_wp2_with fail
        refine (cawake_calls _).mono ?_
        rintro e w1 ⟨rfl, hb1⟩
        go_wp2_with fail
        go_ret
        exact ⟨rfl, (HB.out.alloc _).trans hb1⟩
end Go.Proofs.Ytclippikdfcgkaa.M
