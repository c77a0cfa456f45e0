/- The law CensusCounts, walked: it answers true. Conditions: the arguments are of their kinds. -/
import Derived.Test.YtclippikdfcgkaaMx8
namespace Go.Proofs.Ytclippikdfcgkaa.M
open Go.RowKit Go.Proofs.YtclippikdfcgkaaW.PrintWords Go.Proofs.YtclippikdfcgkaaW.PrintLast Go.Proofs.YtclippikdfcgkaaW.PrintMore
set_option linter.unusedVariables false
set_option linter.unusedSimpArgs false
theorem Of_lit (m n : Nat) (t : Int) (hm : 1 ≤ m ∧ m ≤ 64) (hn : 1 ≤ n ∧ n ≤ 65536) (A : Option Addr) (cap : Nat) (es : List Ev) (w : World) (hx : Rows encV 5 w A es) (hl : es.length ≤ 1000000) :
    Calls Try.prog 16 #[.agg #[.int .i64 m, .int .i64 t, .int .i64 n], .slice A es.length cap] w fun r w' => ∃ b g1 g2, r = .returned (.tuple #[.agg #[.int .i64 (cK es 0), .int .i64 (cK es 1), .int .i64 (cK es 2), .int .i64 (cK es 3), .int .i64 (cK es 4), .int .i64 (cK es 5), .int .i64 (cK es 6), .int .i64 (cK es 7), .int .i64 (cK es 8), .int .i64 (cK es 9), .int .i64 (cK es 10), .int .i64 (cK es 11), .slice (some ⟨g1, 0, none⟩) n n, .slice (some ⟨g2, 0, none⟩) m m, .int .i64 (cMost es), .int .i64 (cNow es)], .int .i64 0]) ∧ IsCen w' w.heap.size b g1 n g2 m n m (cK es) (fG es) (cP es) (cMost es) (cNow es) ∧ Bw w w' := Of_calls' m n t hm hn A cap es w hx hl
set_option maxHeartbeats 1000000 in
set_option maxRecDepth 100000 in
theorem Of_bad (p t g : Int) (hbad : p < 1 ∨ 64 < p ∨ g < 1 ∨ 65536 < g) (v : Value) (w : World) :
    Calls Try.prog 16 #[.agg #[.int .i64 p, .int .i64 t, .int .i64 g], v] w fun r w' => r = .returned (.tuple #[.agg #[.int .i64 0, .int .i64 0, .int .i64 0, .int .i64 0, .int .i64 0, .int .i64 0, .int .i64 0, .int .i64 0, .int .i64 0, .int .i64 0, .int .i64 0, .int .i64 0, .slice none 0 0, .slice none 0 0, .int .i64 0, .int .i64 0], .int .i64 1]) ∧ Bw w w' := by
  have HB := Aside0.mk (Bw.refl w)
  by_cases h1 : p < 1
  · have d1 : decide (p < 1) = true := by simpa using h1
    clear h1 hbad
    go_enter Try.func16, Try.ntmps16
    go_wp2_with fail
    refine bodyPost_ret (v := .tuple #[.agg #[.int .i64 0, .int .i64 0, .int .i64 0, .int .i64 0, .int .i64 0, .int .i64 0, .int .i64 0, .int .i64 0, .int .i64 0, .int .i64 0, .int .i64 0, .int .i64 0, .slice none 0 0, .slice none 0 0, .int .i64 0, .int .i64 0], .int .i64 1]) (by simp [results, Try.results16, go_sem]) rfl ⟨rfl, (by repeat (first | (with_reducible first | exact HB.out) | refine Bw.alloc ?_ _ | refine Bw.setCell ?_ (by first | exact Nat.le_refl _ | (simp; omega)) _ | refine Bw.drew ?_ | refine Bw.drewN ?_ _))⟩
  have d1 : decide (p < 1) = false := by simpa using h1
  by_cases h2 : 64 < p
  · have d2 : decide (64 < p) = true := by simpa using h2
    clear h1 h2 hbad
    go_enter Try.func16, Try.ntmps16
    go_wp2_with fail
    refine bodyPost_ret (v := .tuple #[.agg #[.int .i64 0, .int .i64 0, .int .i64 0, .int .i64 0, .int .i64 0, .int .i64 0, .int .i64 0, .int .i64 0, .int .i64 0, .int .i64 0, .int .i64 0, .int .i64 0, .slice none 0 0, .slice none 0 0, .int .i64 0, .int .i64 0], .int .i64 1]) (by simp [results, Try.results16, go_sem]) rfl ⟨rfl, (by repeat (first | (with_reducible first | exact HB.out) | refine Bw.alloc ?_ _ | refine Bw.setCell ?_ (by first | exact Nat.le_refl _ | (simp; omega)) _ | refine Bw.drew ?_ | refine Bw.drewN ?_ _))⟩
  have d2 : decide (64 < p) = false := by simpa using h2
  by_cases h3 : g < 1
  · have d3 : decide (g < 1) = true := by simpa using h3
    clear h1 h2 h3 hbad
    go_enter Try.func16, Try.ntmps16
    go_wp2_with fail
    refine bodyPost_ret (v := .tuple #[.agg #[.int .i64 0, .int .i64 0, .int .i64 0, .int .i64 0, .int .i64 0, .int .i64 0, .int .i64 0, .int .i64 0, .int .i64 0, .int .i64 0, .int .i64 0, .int .i64 0, .slice none 0 0, .slice none 0 0, .int .i64 0, .int .i64 0], .int .i64 1]) (by simp [results, Try.results16, go_sem]) rfl ⟨rfl, (by repeat (first | (with_reducible first | exact HB.out) | refine Bw.alloc ?_ _ | refine Bw.setCell ?_ (by first | exact Nat.le_refl _ | (simp; omega)) _ | refine Bw.drew ?_ | refine Bw.drewN ?_ _))⟩
  have d3 : decide (g < 1) = false := by simpa using h3
  have d4 : decide (65536 < g) = true := by simp; omega
  clear h1 h2 h3 hbad
  go_enter Try.func16, Try.ntmps16
  go_wp2_with fail
  refine bodyPost_ret (v := .tuple #[.agg #[.int .i64 0, .int .i64 0, .int .i64 0, .int .i64 0, .int .i64 0, .int .i64 0, .int .i64 0, .int .i64 0, .int .i64 0, .int .i64 0, .int .i64 0, .int .i64 0, .slice none 0 0, .slice none 0 0, .int .i64 0, .int .i64 0], .int .i64 1]) (by simp [results, Try.results16, go_sem]) rfl ⟨rfl, (by repeat (first | (with_reducible first | exact HB.out) | refine Bw.alloc ?_ _ | refine Bw.setCell ?_ (by first | exact Nat.le_refl _ | (simp; omega)) _ | refine Bw.drew ?_ | refine Bw.drewN ?_ _))⟩
theorem ev_lit (W : World) (es : List Ev) (hm : es.length ≤ 9223372036854775807) (cs : Array Value) (hcs : cs = (es.flatMap encV).toArray) : Rows encV 5 (W.alloc (.cells cs 38)) (some ⟨W.heap.size, 0, none⟩) es := by
  subst hcs
  have HO := World.ownsRow_lit (base := W.heap.size) (e := 38) (size := 5) W (es.flatMap encV).toArray es.length (Nat.le_refl _) (by simpa [maxLen] using hm) (by rw [List.size_toArray, flat_len (sz := 5) (fun _ => rfl)])
  obtain ⟨A5, c5, e, hR5⟩ := Rows.own (enc := encV) (sz := 5) (xs := es) (fun _ => rfl) (by simpa using HO) rfl hm
  injection e with e1 e2 e3
  rw [e1]
  exact hR5
abbrev es3 : List Ev := [⟨1, 0, -1, 0, 0⟩, ⟨4, 0, -1, 0, 0⟩, ⟨1, 0, -1, 0, 0⟩]
set_option maxHeartbeats 2000000 in
set_option maxRecDepth 100000 in
theorem xawake_calls (w : World) :
    Calls Try.prog 15 #[] w fun e w' => e = .returned (.bool true) ∧ Bw w w' := by
  have HB := Aside0.mk (Bw.refl w)
  go_enter Try.func15, Try.ntmps15
  go_wp2_with fail
  refine (Of_lit 1 1 1 (by omega) (by omega) (some ⟨w.heap.size, 0, none⟩) 3 es3 _ (ev_lit w es3 (by simp) _ rfl) (by simp)).mono ?_
  rintro e w1 ⟨b, g1, g2, rfl, hC, hb1⟩
  have HW := Aside0.mk ((HB.out.alloc _).trans hb1)
  rw [show cK es3 0 = 0 from rfl, show cK es3 1 = 2 from rfl, show cK es3 2 = 0 from rfl, show cK es3 3 = 0 from rfl, show cK es3 4 = 1 from rfl, show cK es3 5 = 0 from rfl, show cK es3 6 = 0 from rfl, show cK es3 7 = 0 from rfl, show cK es3 8 = 0 from rfl, show cK es3 9 = 0 from rfl, show cK es3 10 = 0 from rfl, show cK es3 11 = 0 from rfl, show cMost es3 = 1 from rfl, show cNow es3 = 1 from rfl]
  clear hC hb1
  go_wp2_with fail
  have HW := Aside0.mk (HW.out.alloc (.cells #[.int .i64 0, .int .i64 2, .int .i64 0, .int .i64 0, .int .i64 1, .int .i64 0, .int .i64 0, .int .i64 0, .int .i64 0, .int .i64 0, .int .i64 0, .int .i64 0, .slice (some ⟨g1, 0, none⟩) 1 1, .slice (some ⟨g2, 0, none⟩) 1 1, .int .i64 1, .int .i64 1] 31))
  refine (Live_lit (fun j => if j = 1 then 2 else if j = 4 then 1 else 0) (.slice (some ⟨g1, 0, none⟩) 1 1) (.slice (some ⟨g2, 0, none⟩) 1 1) 1 1 _ (by decide) (by decide)).mono ?_
  rintro e w2 ⟨rfl, hb2⟩
  rw [show (1 : Int) + (fun j : Int => if j = 1 then (2 : Int) else if j = 4 then 1 else 0) 2 - (fun j : Int => if j = 1 then (2 : Int) else if j = 4 then 1 else 0) 11 = 1 from rfl]
  have HL := (Blk.new w1 #[.int .i64 0, .int .i64 2, .int .i64 0, .int .i64 0, .int .i64 1, .int .i64 0, .int .i64 0, .int .i64 0, .int .i64 0, .int .i64 0, .int .i64 0, .int .i64 0, .slice (some ⟨g1, 0, none⟩) 1 1, .slice (some ⟨g2, 0, none⟩) 1 1, .int .i64 1, .int .i64 1] 31).bw hb2
  have HW := Aside0.mk (HW.out.trans hb2)
  have k0 : w2.cell? ⟨w1.heap.size, 0, none⟩ = some (.int .i64 0) := HL.cell 0 _ rfl
  have k1 : w2.cell? ⟨w1.heap.size, 1, none⟩ = some (.int .i64 2) := HL.cell 1 _ rfl
  have k2 : w2.cell? ⟨w1.heap.size, 2, none⟩ = some (.int .i64 0) := HL.cell 2 _ rfl
  have k3 : w2.cell? ⟨w1.heap.size, 3, none⟩ = some (.int .i64 0) := HL.cell 3 _ rfl
  have k4 : w2.cell? ⟨w1.heap.size, 4, none⟩ = some (.int .i64 1) := HL.cell 4 _ rfl
  have k5 : w2.cell? ⟨w1.heap.size, 5, none⟩ = some (.int .i64 0) := HL.cell 5 _ rfl
  have k6 : w2.cell? ⟨w1.heap.size, 6, none⟩ = some (.int .i64 0) := HL.cell 6 _ rfl
  have k7 : w2.cell? ⟨w1.heap.size, 7, none⟩ = some (.int .i64 0) := HL.cell 7 _ rfl
  have k8 : w2.cell? ⟨w1.heap.size, 8, none⟩ = some (.int .i64 0) := HL.cell 8 _ rfl
  have k9 : w2.cell? ⟨w1.heap.size, 9, none⟩ = some (.int .i64 0) := HL.cell 9 _ rfl
  have k10 : w2.cell? ⟨w1.heap.size, 10, none⟩ = some (.int .i64 0) := HL.cell 10 _ rfl
  have k11 : w2.cell? ⟨w1.heap.size, 11, none⟩ = some (.int .i64 0) := HL.cell 11 _ rfl
  have k12 : w2.cell? ⟨w1.heap.size, 12, none⟩ = some (.slice (some ⟨g1, 0, none⟩) 1 1) := HL.cell 12 _ rfl
  have k13 : w2.cell? ⟨w1.heap.size, 13, none⟩ = some (.slice (some ⟨g2, 0, none⟩) 1 1) := HL.cell 13 _ rfl
  have k14 : w2.cell? ⟨w1.heap.size, 14, none⟩ = some (.int .i64 1) := HL.cell 14 _ rfl
  have k15 : w2.cell? ⟨w1.heap.size, 15, none⟩ = some (.int .i64 1) := HL.cell 15 _ rfl
  clear HL
  go_wp2_with fail
  refine (total_eq (f := fun j => if j = 1 then 2 else if j = 4 then 1 else 0) (vg := .slice (some ⟨g1, 0, none⟩) 1 1) (vp := .slice (some ⟨g2, 0, none⟩) 1 1) (most := 1) (now := 1) (x := 3) rfl (fun j => by split; omega; split <;> omega)).mono ?_
  rintro e w3 ⟨rfl, hb3⟩
  have HW := Aside0.mk (HW.out.trans hb3)
  go_wp2_with fail
  go_ret
  exact ⟨rfl, HW.out⟩
end Go.Proofs.Ytclippikdfcgkaa.M
