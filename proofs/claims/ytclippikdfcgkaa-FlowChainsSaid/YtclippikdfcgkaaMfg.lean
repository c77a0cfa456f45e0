/- The law FlowChains, walked: it answers true. Conditions: the arguments are of their kinds. -/
import Derived.Test.YtclippikdfcgkaaMff
namespace Go.Proofs.Ytclippikdfcgkaa.M
open Go.RowKit Go.Proofs.YtclippikdfcgkaaW.PrintWords Go.Proofs.YtclippikdfcgkaaW.PrintLast Go.Proofs.YtclippikdfcgkaaW.PrintMore
set_option linter.unusedVariables false
set_option linter.unusedSimpArgs false
def getb (cs : List Value) (i : Nat) : Bool := match cs[i]? with | some (.bool n) => n | _ => false
theorem rd_accs {w : World} {a : Option Addr} {len cap : Nat} (h : RdRow [.int .i64, .int .i64, .int .i64, .int .u64, .int .u64, .bool] w a len cap) :
    ∃ xs : List Acc, xs.length = len ∧ Rows encAc 6 w a xs ∧ ∀ x ∈ xs, 0 ≤ x.new := by
  obtain ⟨css, hl, hf, hr⟩ := rd_cells h
  refine ⟨css.map fun cs => ⟨geti cs 0, geti cs 1, geti cs 2, geti cs 3, geti cs 4, getb cs 5⟩, by simpa using hl, hr.map fun cs hcs => ?_, ?_⟩
  · obtain ⟨n0, _, rfl, _, h1⟩ := (hf cs hcs).int
    obtain ⟨n1, _, rfl, _, h2⟩ := h1.int
    obtain ⟨n2, _, rfl, _, h3⟩ := h2.int
    obtain ⟨n3, _, rfl, _, h4⟩ := h3.int
    obtain ⟨n4, _, rfl, _, h5⟩ := h4.int
    obtain ⟨n5, _, rfl, h6⟩ := h5.bool
    obtain rfl := h6.nil
    rfl
  · intro x hx
    obtain ⟨cs, hcs, rfl⟩ := List.mem_map.1 hx
    obtain ⟨n0, _, rfl, _, h1⟩ := (hf cs hcs).int
    obtain ⟨n1, _, rfl, _, h2⟩ := h1.int
    obtain ⟨n2, _, rfl, _, h3⟩ := h2.int
    obtain ⟨n3, _, rfl, _, h4⟩ := h3.int
    obtain ⟨n4, _, rfl, hw, h5⟩ := h4.int
    exact (wf_u64 hw).1
theorem rd_pokes {w : World} {a : Option Addr} {len cap : Nat} (h : RdRow [.bool, .int .i64, .int .i64, .int .i64, .int .u64, .int .u64] w a len cap) :
    ∃ xs : List PkS, xs.length = len ∧ Rows encPk 6 w a xs ∧ ∀ x ∈ xs, 0 ≤ x.act.w := by
  obtain ⟨css, hl, hf, hr⟩ := rd_cells h
  refine ⟨css.map fun cs => ⟨getb cs 0, ⟨geti cs 1, geti cs 2, geti cs 3, geti cs 4, geti cs 5⟩⟩, by simpa using hl, hr.map fun cs hcs => ?_, ?_⟩
  · obtain ⟨n0, _, rfl, h1⟩ := (hf cs hcs).bool
    obtain ⟨n1, _, rfl, _, h2⟩ := h1.int
    obtain ⟨n2, _, rfl, _, h3⟩ := h2.int
    obtain ⟨n3, _, rfl, _, h4⟩ := h3.int
    obtain ⟨n4, _, rfl, _, h5⟩ := h4.int
    obtain ⟨n5, _, rfl, _, h6⟩ := h5.int
    obtain rfl := h6.nil
    rfl
  · intro x hx
    obtain ⟨cs, hcs, rfl⟩ := List.mem_map.1 hx
    obtain ⟨n0, _, rfl, h1⟩ := (hf cs hcs).bool
    obtain ⟨n1, _, rfl, _, h2⟩ := h1.int
    obtain ⟨n2, _, rfl, _, h3⟩ := h2.int
    obtain ⟨n3, _, rfl, _, h4⟩ := h3.int
    obtain ⟨n4, _, rfl, _, h5⟩ := h4.int
    obtain ⟨n5, _, rfl, hw, h6⟩ := h5.int
    exact (wf_u64 hw).1
set_option maxHeartbeats 1000000 in
set_option maxRecDepth 100000 in
theorem FlowChains_walk (w : World) (a : Option Addr) (n cap : Nat) (f : RdRow [.int .u64] w a n cap) (y : n * 8 ≤ 140737488351232) (a2 : Option Addr) (n2 cap2 : Nat) (f2 : RdRow [.int .i64, .int .i64, .int .i64, .int .u64, .int .u64, .bool] w a2 n2 cap2) (y2 : n2 * 48 ≤ 140737488351232)
    (a3 : Option Addr) (n3 cap3 : Nat) (f3 : RdRow [.bool, .int .i64, .int .i64, .int .i64, .int .u64, .int .u64] w a3 n3 cap3) (y3 : n3 * 48 ≤ 140737488351232) :
    Calls Try.prog 11 #[.slice a n cap, .slice a2 n2 cap2, .slice a3 n3 cap3] w fun e w' => e = .returned (.bool true) ∧ Bw w w' := by
  have hz := f.nil
  obtain ⟨ws, rfl, hx, hxw⟩ := rd_ints f
  obtain ⟨l, rfl, hx2, hxw2⟩ := rd_accs f2
  obtain ⟨ps, rfl, hx3, hxw3⟩ := rd_pokes f3
  by_cases h1 : ws.length ≤ 60
  · by_cases h2 : l.length ≤ 60
    · by_cases h3 : ps.length ≤ 100
      · exact FlowChains_core a cap ws a2 cap2 l a3 cap3 ps w hx h1 (fun ha => ⟨List.length_eq_zero_iff.1 (hz ha).1, (hz ha).2⟩) (fun x hx => (wf_u64 (hxw x hx)).1) hx2 h2 hxw2 hx3 h3 hxw3
      · have HB := Aside0.mk (Bw.refl w)
        have d1 : decide ((60 : Int) < (ws.length : Int)) = false := by simp; omega
        have d2 : decide ((60 : Int) < (l.length : Int)) = false := by simp; omega
        have d3 : decide ((100 : Int) < (ps.length : Int)) = true := by simp; omega
        clear f hx hxw f2 hx2 hxw2 f3 hx3 hxw3 hz
        go_enter Try.func11, Try.ntmps11
        go_wp2_with fail
        refine (fawake_calls _).mono ?_
        rintro e w1 ⟨rfl, hb1⟩
        go_wp2_with fail
        go_ret
        exact ⟨rfl, HB.out.trans hb1⟩
    · have HB := Aside0.mk (Bw.refl w)
      have d1 : decide ((60 : Int) < (ws.length : Int)) = false := by simp; omega
      have d2 : decide ((60 : Int) < (l.length : Int)) = true := by simp; omega
      clear f hx hxw f2 hx2 hxw2 f3 hx3 hxw3 hz
      go_enter Try.func11, Try.ntmps11
      go_wp2_with fail
      refine (fawake_calls _).mono ?_
      rintro e w1 ⟨rfl, hb1⟩
      go_wp2_with fail
      go_ret
      exact ⟨rfl, HB.out.trans hb1⟩
  · have HB := Aside0.mk (Bw.refl w)
    have d1 : decide ((60 : Int) < (ws.length : Int)) = true := by simp; omega
    clear f hx hxw f2 hx2 hxw2 f3 hx3 hxw3 hz
    go_enter Try.func11, Try.ntmps11
    go_wp2_with fail
    refine (fawake_calls _).mono ?_
    rintro e w1 ⟨rfl, hb1⟩
    go_wp2_with fail
    go_ret
    exact ⟨rfl, HB.out.trans hb1⟩
end Go.Proofs.Ytclippikdfcgkaa.M
