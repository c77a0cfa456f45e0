/- The law CensusCounts, walked: it answers true. Conditions: the arguments are of their kinds. -/
import Derived.Test.YtkmfbafgbaapiaaMx9
namespace Go.Proofs.Ytkmfbafgbaapiaa.M
open Go.RowKit Go.Proofs.YtkmfbafgbaapiaaW.PrintWords Go.Proofs.YtkmfbafgbaapiaaW.PrintLast Go.Proofs.YtkmfbafgbaapiaaW.PrintMore
set_option linter.unusedVariables false
set_option linter.unusedSimpArgs false
theorem fits_lit (A : Option Addr) (cap : Nat) (es : List Ev) (m n : Nat) (t : Int) (base g1 c1 g2 c2 : Nat) (w : World) (hx : Rows encV 5 w A es) (hl : es.length ≤ 1000) (hcap : es.length ≤ cap) (hcm : cap ≤ 9223372036854775807) (hz : A = none → es = [] ∧ cap = 0)
    (hm : m ≤ 64) (hn : n ≤ 65536) (hg : w.ownsRow base 102 3 (.slice (some ⟨g1, 0, none⟩) n c1) n (tabV (n * 3) (fG es))) (hp : w.ownsRow base 3 1 (.slice (some ⟨g2, 0, none⟩) m c2) m (tabV m (cP es))) :
    Calls Try.prog 39 #[.agg #[.int .i64 (cK es 0), .int .i64 (cK es 1), .int .i64 (cK es 2), .int .i64 (cK es 3), .int .i64 (cK es 4), .int .i64 (cK es 5), .int .i64 (cK es 6), .int .i64 (cK es 7), .int .i64 (cK es 8), .int .i64 (cK es 9), .int .i64 (cK es 10), .int .i64 (cK es 11), .slice (some ⟨g1, 0, none⟩) n c1, .slice (some ⟨g2, 0, none⟩) m c2, .int .i64 (cMost es), .int .i64 (cNow es)], .agg #[.int .i64 m, .int .i64 t, .int .i64 n], .slice A es.length cap] w fun e w' => e = .returned (.bool true) ∧ Bw w w' := fits_calls A cap es m n t base g1 c1 g2 c2 w hx hl hcap hcm hz hm hn hg hp
set_option maxHeartbeats 4000000 in
set_option maxRecDepth 100000 in
theorem Counts_bada (p t g : Int) (A : Option Addr) (cap : Nat) (es : List Ev) (w : World) (hl : es.length ≤ 100) (hbad : p < 1 ∨ 64 < p ∨ g < 1 ∨ 65536 < g) (e60 : decide (60 < g) = true) (eM : decide (g ≤ 65536) = false) (f1 : decide (p < 1) = true) :
    Calls Try.prog 10 #[.agg #[.int .i64 p, .int .i64 t, .int .i64 g], .slice A es.length cap] w fun e w' => e = .returned (.bool true) ∧ Bw w w' := by
  have HB := Aside0.mk (Bw.refl w)
  have HO := Aside0.mk hbad
  have d0 : decide ((100 : Int) < (es.length : Int)) = false := by simp; omega
  clear hbad
  go_enter Try.func10, Try.ntmps10
  go_wp2_with fail
  refine (Of_bad p t g HO.out (.slice A es.length cap) _).mono ?_
  rintro e w1 ⟨rfl, hb1⟩
  have L0 := (Blk.new w #[.int .i64 p, .int .i64 t, .int .i64 g] 49).bw hb1
  have HW := Aside0.mk ((HB.out.alloc (.cells #[.int .i64 p, .int .i64 t, .int .i64 g] 49)).trans hb1)
  have p0 : w1.cell? ⟨w.heap.size, 0, none⟩ = some (.int .i64 p) := L0.cell 0 _ rfl
  have p2 : w1.cell? ⟨w.heap.size, 2, none⟩ = some (.int .i64 g) := L0.cell 2 _ rfl
  have hlt := L0.lt
  clear L0 hb1
  go_wp2_with fail
  have HW := Aside0.mk (HW.out.alloc (.cells #[.int .i64 0, .int .i64 0, .int .i64 0, .int .i64 0, .int .i64 0, .int .i64 0, .int .i64 0, .int .i64 0, .int .i64 0, .int .i64 0, .int .i64 0, .int .i64 0, .slice none 0 0, .slice none 0 0, .int .i64 0, .int .i64 0] 60))
  have L5 := Blk.new w1 #[.int .i64 0, .int .i64 0, .int .i64 0, .int .i64 0, .int .i64 0, .int .i64 0, .int .i64 0, .int .i64 0, .int .i64 0, .int .i64 0, .int .i64 0, .int .i64 0, .slice none 0 0, .slice none 0 0, .int .i64 0, .int .i64 0] 60
  refine (xawake_calls _).mono ?_
  rintro e w2 ⟨rfl, hb2⟩
  have L5 := L5.bw hb2
  have HW := Aside0.mk (HW.out.trans hb2)
  have k0 : w2.cell? ⟨w1.heap.size, 0, none⟩ = some (.int .i64 0) := L5.cell 0 _ rfl
  have k1 : w2.cell? ⟨w1.heap.size, 1, none⟩ = some (.int .i64 0) := L5.cell 1 _ rfl
  have k2 : w2.cell? ⟨w1.heap.size, 2, none⟩ = some (.int .i64 0) := L5.cell 2 _ rfl
  have k3 : w2.cell? ⟨w1.heap.size, 3, none⟩ = some (.int .i64 0) := L5.cell 3 _ rfl
  have k4 : w2.cell? ⟨w1.heap.size, 4, none⟩ = some (.int .i64 0) := L5.cell 4 _ rfl
  have k5 : w2.cell? ⟨w1.heap.size, 5, none⟩ = some (.int .i64 0) := L5.cell 5 _ rfl
  have k6 : w2.cell? ⟨w1.heap.size, 6, none⟩ = some (.int .i64 0) := L5.cell 6 _ rfl
  have k7 : w2.cell? ⟨w1.heap.size, 7, none⟩ = some (.int .i64 0) := L5.cell 7 _ rfl
  have k8 : w2.cell? ⟨w1.heap.size, 8, none⟩ = some (.int .i64 0) := L5.cell 8 _ rfl
  have k9 : w2.cell? ⟨w1.heap.size, 9, none⟩ = some (.int .i64 0) := L5.cell 9 _ rfl
  have k10 : w2.cell? ⟨w1.heap.size, 10, none⟩ = some (.int .i64 0) := L5.cell 10 _ rfl
  have k11 : w2.cell? ⟨w1.heap.size, 11, none⟩ = some (.int .i64 0) := L5.cell 11 _ rfl
  have k12 : w2.cell? ⟨w1.heap.size, 12, none⟩ = some (.slice none 0 0) := L5.cell 12 _ rfl
  have k13 : w2.cell? ⟨w1.heap.size, 13, none⟩ = some (.slice none 0 0) := L5.cell 13 _ rfl
  have k14 : w2.cell? ⟨w1.heap.size, 14, none⟩ = some (.int .i64 0) := L5.cell 14 _ rfl
  have k15 : w2.cell? ⟨w1.heap.size, 15, none⟩ = some (.int .i64 0) := L5.cell 15 _ rfl
  clear L5 hb2
  go_wp2_with fail
  refine (total_eq (f := fun _ => 0) (vg := .slice none 0 0) (vp := .slice none 0 0) (most := 0) (now := 0) (x := 0) rfl (fun j => by omega)).mono ?_
  rintro e w3 ⟨rfl, hb3⟩
  have HW := Aside0.mk (HW.out.trans hb3)
  go_wp2_with fail
  go_ret
  exact ⟨rfl, HW.out⟩
set_option maxHeartbeats 4000000 in
set_option maxRecDepth 100000 in
theorem Counts_badb (p t g : Int) (A : Option Addr) (cap : Nat) (es : List Ev) (w : World) (hl : es.length ≤ 100) (hbad : p < 1 ∨ 64 < p ∨ g < 1 ∨ 65536 < g) (e60 : decide (60 < g) = true) (eM : decide (g ≤ 65536) = false) (f1 : decide (p < 1) = false) (f2 : decide (64 < p) = true) :
    Calls Try.prog 10 #[.agg #[.int .i64 p, .int .i64 t, .int .i64 g], .slice A es.length cap] w fun e w' => e = .returned (.bool true) ∧ Bw w w' := by
  have HB := Aside0.mk (Bw.refl w)
  have HO := Aside0.mk hbad
  have d0 : decide ((100 : Int) < (es.length : Int)) = false := by simp; omega
  clear hbad
  go_enter Try.func10, Try.ntmps10
  go_wp2_with fail
  refine (Of_bad p t g HO.out (.slice A es.length cap) _).mono ?_
  rintro e w1 ⟨rfl, hb1⟩
  have L0 := (Blk.new w #[.int .i64 p, .int .i64 t, .int .i64 g] 49).bw hb1
  have HW := Aside0.mk ((HB.out.alloc (.cells #[.int .i64 p, .int .i64 t, .int .i64 g] 49)).trans hb1)
  have p0 : w1.cell? ⟨w.heap.size, 0, none⟩ = some (.int .i64 p) := L0.cell 0 _ rfl
  have p2 : w1.cell? ⟨w.heap.size, 2, none⟩ = some (.int .i64 g) := L0.cell 2 _ rfl
  have hlt := L0.lt
  clear L0 hb1
  go_wp2_with fail
  have HW := Aside0.mk (HW.out.alloc (.cells #[.int .i64 0, .int .i64 0, .int .i64 0, .int .i64 0, .int .i64 0, .int .i64 0, .int .i64 0, .int .i64 0, .int .i64 0, .int .i64 0, .int .i64 0, .int .i64 0, .slice none 0 0, .slice none 0 0, .int .i64 0, .int .i64 0] 60))
  have L5 := Blk.new w1 #[.int .i64 0, .int .i64 0, .int .i64 0, .int .i64 0, .int .i64 0, .int .i64 0, .int .i64 0, .int .i64 0, .int .i64 0, .int .i64 0, .int .i64 0, .int .i64 0, .slice none 0 0, .slice none 0 0, .int .i64 0, .int .i64 0] 60
  refine (xawake_calls _).mono ?_
  rintro e w2 ⟨rfl, hb2⟩
  have L5 := L5.bw hb2
  have HW := Aside0.mk (HW.out.trans hb2)
  have k0 : w2.cell? ⟨w1.heap.size, 0, none⟩ = some (.int .i64 0) := L5.cell 0 _ rfl
  have k1 : w2.cell? ⟨w1.heap.size, 1, none⟩ = some (.int .i64 0) := L5.cell 1 _ rfl
  have k2 : w2.cell? ⟨w1.heap.size, 2, none⟩ = some (.int .i64 0) := L5.cell 2 _ rfl
  have k3 : w2.cell? ⟨w1.heap.size, 3, none⟩ = some (.int .i64 0) := L5.cell 3 _ rfl
  have k4 : w2.cell? ⟨w1.heap.size, 4, none⟩ = some (.int .i64 0) := L5.cell 4 _ rfl
  have k5 : w2.cell? ⟨w1.heap.size, 5, none⟩ = some (.int .i64 0) := L5.cell 5 _ rfl
  have k6 : w2.cell? ⟨w1.heap.size, 6, none⟩ = some (.int .i64 0) := L5.cell 6 _ rfl
  have k7 : w2.cell? ⟨w1.heap.size, 7, none⟩ = some (.int .i64 0) := L5.cell 7 _ rfl
  have k8 : w2.cell? ⟨w1.heap.size, 8, none⟩ = some (.int .i64 0) := L5.cell 8 _ rfl
  have k9 : w2.cell? ⟨w1.heap.size, 9, none⟩ = some (.int .i64 0) := L5.cell 9 _ rfl
  have k10 : w2.cell? ⟨w1.heap.size, 10, none⟩ = some (.int .i64 0) := L5.cell 10 _ rfl
  have k11 : w2.cell? ⟨w1.heap.size, 11, none⟩ = some (.int .i64 0) := L5.cell 11 _ rfl
  have k12 : w2.cell? ⟨w1.heap.size, 12, none⟩ = some (.slice none 0 0) := L5.cell 12 _ rfl
  have k13 : w2.cell? ⟨w1.heap.size, 13, none⟩ = some (.slice none 0 0) := L5.cell 13 _ rfl
  have k14 : w2.cell? ⟨w1.heap.size, 14, none⟩ = some (.int .i64 0) := L5.cell 14 _ rfl
  have k15 : w2.cell? ⟨w1.heap.size, 15, none⟩ = some (.int .i64 0) := L5.cell 15 _ rfl
  clear L5 hb2
  go_wp2_with fail
  refine (total_eq (f := fun _ => 0) (vg := .slice none 0 0) (vp := .slice none 0 0) (most := 0) (now := 0) (x := 0) rfl (fun j => by omega)).mono ?_
  rintro e w3 ⟨rfl, hb3⟩
  have HW := Aside0.mk (HW.out.trans hb3)
  go_wp2_with fail
  go_ret
  exact ⟨rfl, HW.out⟩
set_option maxHeartbeats 4000000 in
set_option maxRecDepth 100000 in
theorem Counts_badc (p t g : Int) (A : Option Addr) (cap : Nat) (es : List Ev) (w : World) (hl : es.length ≤ 100) (hbad : p < 1 ∨ 64 < p ∨ g < 1 ∨ 65536 < g) (e60 : decide (60 < g) = true) (eM : decide (g ≤ 65536) = false) (f1 : decide (p < 1) = false) (f2 : decide (64 < p) = false) (f3 : decide (g < 1) = false) (f4 : decide (65536 < g) = true) :
    Calls Try.prog 10 #[.agg #[.int .i64 p, .int .i64 t, .int .i64 g], .slice A es.length cap] w fun e w' => e = .returned (.bool true) ∧ Bw w w' := by
  have HB := Aside0.mk (Bw.refl w)
  have HO := Aside0.mk hbad
  have d0 : decide ((100 : Int) < (es.length : Int)) = false := by simp; omega
  clear hbad
  go_enter Try.func10, Try.ntmps10
  go_wp2_with fail
  refine (Of_bad p t g HO.out (.slice A es.length cap) _).mono ?_
  rintro e w1 ⟨rfl, hb1⟩
  have L0 := (Blk.new w #[.int .i64 p, .int .i64 t, .int .i64 g] 49).bw hb1
  have HW := Aside0.mk ((HB.out.alloc (.cells #[.int .i64 p, .int .i64 t, .int .i64 g] 49)).trans hb1)
  have p0 : w1.cell? ⟨w.heap.size, 0, none⟩ = some (.int .i64 p) := L0.cell 0 _ rfl
  have p2 : w1.cell? ⟨w.heap.size, 2, none⟩ = some (.int .i64 g) := L0.cell 2 _ rfl
  have hlt := L0.lt
  clear L0 hb1
  go_wp2_with fail
  have HW := Aside0.mk (HW.out.alloc (.cells #[.int .i64 0, .int .i64 0, .int .i64 0, .int .i64 0, .int .i64 0, .int .i64 0, .int .i64 0, .int .i64 0, .int .i64 0, .int .i64 0, .int .i64 0, .int .i64 0, .slice none 0 0, .slice none 0 0, .int .i64 0, .int .i64 0] 60))
  have L5 := Blk.new w1 #[.int .i64 0, .int .i64 0, .int .i64 0, .int .i64 0, .int .i64 0, .int .i64 0, .int .i64 0, .int .i64 0, .int .i64 0, .int .i64 0, .int .i64 0, .int .i64 0, .slice none 0 0, .slice none 0 0, .int .i64 0, .int .i64 0] 60
  refine (xawake_calls _).mono ?_
  rintro e w2 ⟨rfl, hb2⟩
  have L5 := L5.bw hb2
  have HW := Aside0.mk (HW.out.trans hb2)
  have k0 : w2.cell? ⟨w1.heap.size, 0, none⟩ = some (.int .i64 0) := L5.cell 0 _ rfl
  have k1 : w2.cell? ⟨w1.heap.size, 1, none⟩ = some (.int .i64 0) := L5.cell 1 _ rfl
  have k2 : w2.cell? ⟨w1.heap.size, 2, none⟩ = some (.int .i64 0) := L5.cell 2 _ rfl
  have k3 : w2.cell? ⟨w1.heap.size, 3, none⟩ = some (.int .i64 0) := L5.cell 3 _ rfl
  have k4 : w2.cell? ⟨w1.heap.size, 4, none⟩ = some (.int .i64 0) := L5.cell 4 _ rfl
  have k5 : w2.cell? ⟨w1.heap.size, 5, none⟩ = some (.int .i64 0) := L5.cell 5 _ rfl
  have k6 : w2.cell? ⟨w1.heap.size, 6, none⟩ = some (.int .i64 0) := L5.cell 6 _ rfl
  have k7 : w2.cell? ⟨w1.heap.size, 7, none⟩ = some (.int .i64 0) := L5.cell 7 _ rfl
  have k8 : w2.cell? ⟨w1.heap.size, 8, none⟩ = some (.int .i64 0) := L5.cell 8 _ rfl
  have k9 : w2.cell? ⟨w1.heap.size, 9, none⟩ = some (.int .i64 0) := L5.cell 9 _ rfl
  have k10 : w2.cell? ⟨w1.heap.size, 10, none⟩ = some (.int .i64 0) := L5.cell 10 _ rfl
  have k11 : w2.cell? ⟨w1.heap.size, 11, none⟩ = some (.int .i64 0) := L5.cell 11 _ rfl
  have k12 : w2.cell? ⟨w1.heap.size, 12, none⟩ = some (.slice none 0 0) := L5.cell 12 _ rfl
  have k13 : w2.cell? ⟨w1.heap.size, 13, none⟩ = some (.slice none 0 0) := L5.cell 13 _ rfl
  have k14 : w2.cell? ⟨w1.heap.size, 14, none⟩ = some (.int .i64 0) := L5.cell 14 _ rfl
  have k15 : w2.cell? ⟨w1.heap.size, 15, none⟩ = some (.int .i64 0) := L5.cell 15 _ rfl
  clear L5 hb2
  go_wp2_with fail
  refine (total_eq (f := fun _ => 0) (vg := .slice none 0 0) (vp := .slice none 0 0) (most := 0) (now := 0) (x := 0) rfl (fun j => by omega)).mono ?_
  rintro e w3 ⟨rfl, hb3⟩
  have HW := Aside0.mk (HW.out.trans hb3)
  go_wp2_with fail
  go_ret
  exact ⟨rfl, HW.out⟩
set_option maxHeartbeats 4000000 in
set_option maxRecDepth 100000 in
theorem Counts_badd (p t g : Int) (A : Option Addr) (cap : Nat) (es : List Ev) (w : World) (hl : es.length ≤ 100) (hbad : p < 1 ∨ 64 < p ∨ g < 1 ∨ 65536 < g) (e60 : decide (60 < g) = false) (f1 : decide (p < 1) = true) :
    Calls Try.prog 10 #[.agg #[.int .i64 p, .int .i64 t, .int .i64 g], .slice A es.length cap] w fun e w' => e = .returned (.bool true) ∧ Bw w w' := by
  have HB := Aside0.mk (Bw.refl w)
  have HO := Aside0.mk hbad
  have d0 : decide ((100 : Int) < (es.length : Int)) = false := by simp; omega
  clear hbad
  go_enter Try.func10, Try.ntmps10
  go_wp2_with fail
  refine (Of_bad p t g HO.out (.slice A es.length cap) _).mono ?_
  rintro e w1 ⟨rfl, hb1⟩
  have L0 := (Blk.new w #[.int .i64 p, .int .i64 t, .int .i64 g] 49).bw hb1
  have HW := Aside0.mk ((HB.out.alloc (.cells #[.int .i64 p, .int .i64 t, .int .i64 g] 49)).trans hb1)
  have p0 : w1.cell? ⟨w.heap.size, 0, none⟩ = some (.int .i64 p) := L0.cell 0 _ rfl
  have p2 : w1.cell? ⟨w.heap.size, 2, none⟩ = some (.int .i64 g) := L0.cell 2 _ rfl
  have hlt := L0.lt
  clear L0 hb1
  go_wp2_with fail
  have HW := Aside0.mk (HW.out.alloc (.cells #[.int .i64 0, .int .i64 0, .int .i64 0, .int .i64 0, .int .i64 0, .int .i64 0, .int .i64 0, .int .i64 0, .int .i64 0, .int .i64 0, .int .i64 0, .int .i64 0, .slice none 0 0, .slice none 0 0, .int .i64 0, .int .i64 0] 60))
  have L5 := Blk.new w1 #[.int .i64 0, .int .i64 0, .int .i64 0, .int .i64 0, .int .i64 0, .int .i64 0, .int .i64 0, .int .i64 0, .int .i64 0, .int .i64 0, .int .i64 0, .int .i64 0, .slice none 0 0, .slice none 0 0, .int .i64 0, .int .i64 0] 60
  refine (xawake_calls _).mono ?_
  rintro e w2 ⟨rfl, hb2⟩
  have L5 := L5.bw hb2
  have HW := Aside0.mk (HW.out.trans hb2)
  have k0 : w2.cell? ⟨w1.heap.size, 0, none⟩ = some (.int .i64 0) := L5.cell 0 _ rfl
  have k1 : w2.cell? ⟨w1.heap.size, 1, none⟩ = some (.int .i64 0) := L5.cell 1 _ rfl
  have k2 : w2.cell? ⟨w1.heap.size, 2, none⟩ = some (.int .i64 0) := L5.cell 2 _ rfl
  have k3 : w2.cell? ⟨w1.heap.size, 3, none⟩ = some (.int .i64 0) := L5.cell 3 _ rfl
  have k4 : w2.cell? ⟨w1.heap.size, 4, none⟩ = some (.int .i64 0) := L5.cell 4 _ rfl
  have k5 : w2.cell? ⟨w1.heap.size, 5, none⟩ = some (.int .i64 0) := L5.cell 5 _ rfl
  have k6 : w2.cell? ⟨w1.heap.size, 6, none⟩ = some (.int .i64 0) := L5.cell 6 _ rfl
  have k7 : w2.cell? ⟨w1.heap.size, 7, none⟩ = some (.int .i64 0) := L5.cell 7 _ rfl
  have k8 : w2.cell? ⟨w1.heap.size, 8, none⟩ = some (.int .i64 0) := L5.cell 8 _ rfl
  have k9 : w2.cell? ⟨w1.heap.size, 9, none⟩ = some (.int .i64 0) := L5.cell 9 _ rfl
  have k10 : w2.cell? ⟨w1.heap.size, 10, none⟩ = some (.int .i64 0) := L5.cell 10 _ rfl
  have k11 : w2.cell? ⟨w1.heap.size, 11, none⟩ = some (.int .i64 0) := L5.cell 11 _ rfl
  have k12 : w2.cell? ⟨w1.heap.size, 12, none⟩ = some (.slice none 0 0) := L5.cell 12 _ rfl
  have k13 : w2.cell? ⟨w1.heap.size, 13, none⟩ = some (.slice none 0 0) := L5.cell 13 _ rfl
  have k14 : w2.cell? ⟨w1.heap.size, 14, none⟩ = some (.int .i64 0) := L5.cell 14 _ rfl
  have k15 : w2.cell? ⟨w1.heap.size, 15, none⟩ = some (.int .i64 0) := L5.cell 15 _ rfl
  clear L5 hb2
  go_wp2_with fail
  refine (total_eq (f := fun _ => 0) (vg := .slice none 0 0) (vp := .slice none 0 0) (most := 0) (now := 0) (x := 0) rfl (fun j => by omega)).mono ?_
  rintro e w3 ⟨rfl, hb3⟩
  have HW := Aside0.mk (HW.out.trans hb3)
  go_wp2_with fail
  go_ret
  exact ⟨rfl, HW.out⟩
set_option maxHeartbeats 4000000 in
set_option maxRecDepth 100000 in
theorem Counts_bade (p t g : Int) (A : Option Addr) (cap : Nat) (es : List Ev) (w : World) (hl : es.length ≤ 100) (hbad : p < 1 ∨ 64 < p ∨ g < 1 ∨ 65536 < g) (e60 : decide (60 < g) = false) (f1 : decide (p < 1) = false) (f2 : decide (64 < p) = true) :
    Calls Try.prog 10 #[.agg #[.int .i64 p, .int .i64 t, .int .i64 g], .slice A es.length cap] w fun e w' => e = .returned (.bool true) ∧ Bw w w' := by
  have HB := Aside0.mk (Bw.refl w)
  have HO := Aside0.mk hbad
  have d0 : decide ((100 : Int) < (es.length : Int)) = false := by simp; omega
  clear hbad
  go_enter Try.func10, Try.ntmps10
  go_wp2_with fail
  refine (Of_bad p t g HO.out (.slice A es.length cap) _).mono ?_
  rintro e w1 ⟨rfl, hb1⟩
  have L0 := (Blk.new w #[.int .i64 p, .int .i64 t, .int .i64 g] 49).bw hb1
  have HW := Aside0.mk ((HB.out.alloc (.cells #[.int .i64 p, .int .i64 t, .int .i64 g] 49)).trans hb1)
  have p0 : w1.cell? ⟨w.heap.size, 0, none⟩ = some (.int .i64 p) := L0.cell 0 _ rfl
  have p2 : w1.cell? ⟨w.heap.size, 2, none⟩ = some (.int .i64 g) := L0.cell 2 _ rfl
  have hlt := L0.lt
  clear L0 hb1
  go_wp2_with fail
  have HW := Aside0.mk (HW.out.alloc (.cells #[.int .i64 0, .int .i64 0, .int .i64 0, .int .i64 0, .int .i64 0, .int .i64 0, .int .i64 0, .int .i64 0, .int .i64 0, .int .i64 0, .int .i64 0, .int .i64 0, .slice none 0 0, .slice none 0 0, .int .i64 0, .int .i64 0] 60))
  have L5 := Blk.new w1 #[.int .i64 0, .int .i64 0, .int .i64 0, .int .i64 0, .int .i64 0, .int .i64 0, .int .i64 0, .int .i64 0, .int .i64 0, .int .i64 0, .int .i64 0, .int .i64 0, .slice none 0 0, .slice none 0 0, .int .i64 0, .int .i64 0] 60
  refine (xawake_calls _).mono ?_
  rintro e w2 ⟨rfl, hb2⟩
  have L5 := L5.bw hb2
  have HW := Aside0.mk (HW.out.trans hb2)
  have k0 : w2.cell? ⟨w1.heap.size, 0, none⟩ = some (.int .i64 0) := L5.cell 0 _ rfl
  have k1 : w2.cell? ⟨w1.heap.size, 1, none⟩ = some (.int .i64 0) := L5.cell 1 _ rfl
  have k2 : w2.cell? ⟨w1.heap.size, 2, none⟩ = some (.int .i64 0) := L5.cell 2 _ rfl
  have k3 : w2.cell? ⟨w1.heap.size, 3, none⟩ = some (.int .i64 0) := L5.cell 3 _ rfl
  have k4 : w2.cell? ⟨w1.heap.size, 4, none⟩ = some (.int .i64 0) := L5.cell 4 _ rfl
  have k5 : w2.cell? ⟨w1.heap.size, 5, none⟩ = some (.int .i64 0) := L5.cell 5 _ rfl
  have k6 : w2.cell? ⟨w1.heap.size, 6, none⟩ = some (.int .i64 0) := L5.cell 6 _ rfl
  have k7 : w2.cell? ⟨w1.heap.size, 7, none⟩ = some (.int .i64 0) := L5.cell 7 _ rfl
  have k8 : w2.cell? ⟨w1.heap.size, 8, none⟩ = some (.int .i64 0) := L5.cell 8 _ rfl
  have k9 : w2.cell? ⟨w1.heap.size, 9, none⟩ = some (.int .i64 0) := L5.cell 9 _ rfl
  have k10 : w2.cell? ⟨w1.heap.size, 10, none⟩ = some (.int .i64 0) := L5.cell 10 _ rfl
  have k11 : w2.cell? ⟨w1.heap.size, 11, none⟩ = some (.int .i64 0) := L5.cell 11 _ rfl
  have k12 : w2.cell? ⟨w1.heap.size, 12, none⟩ = some (.slice none 0 0) := L5.cell 12 _ rfl
  have k13 : w2.cell? ⟨w1.heap.size, 13, none⟩ = some (.slice none 0 0) := L5.cell 13 _ rfl
  have k14 : w2.cell? ⟨w1.heap.size, 14, none⟩ = some (.int .i64 0) := L5.cell 14 _ rfl
  have k15 : w2.cell? ⟨w1.heap.size, 15, none⟩ = some (.int .i64 0) := L5.cell 15 _ rfl
  clear L5 hb2
  go_wp2_with fail
  refine (total_eq (f := fun _ => 0) (vg := .slice none 0 0) (vp := .slice none 0 0) (most := 0) (now := 0) (x := 0) rfl (fun j => by omega)).mono ?_
  rintro e w3 ⟨rfl, hb3⟩
  have HW := Aside0.mk (HW.out.trans hb3)
  go_wp2_with fail
  go_ret
  exact ⟨rfl, HW.out⟩
set_option maxHeartbeats 4000000 in
set_option maxRecDepth 100000 in
theorem Counts_badf (p t g : Int) (A : Option Addr) (cap : Nat) (es : List Ev) (w : World) (hl : es.length ≤ 100) (hbad : p < 1 ∨ 64 < p ∨ g < 1 ∨ 65536 < g) (e60 : decide (60 < g) = false) (f1 : decide (p < 1) = false) (f2 : decide (64 < p) = false) (f3 : decide (g < 1) = true) :
    Calls Try.prog 10 #[.agg #[.int .i64 p, .int .i64 t, .int .i64 g], .slice A es.length cap] w fun e w' => e = .returned (.bool true) ∧ Bw w w' := by
  have HB := Aside0.mk (Bw.refl w)
  have HO := Aside0.mk hbad
  have d0 : decide ((100 : Int) < (es.length : Int)) = false := by simp; omega
  clear hbad
  go_enter Try.func10, Try.ntmps10
  go_wp2_with fail
  refine (Of_bad p t g HO.out (.slice A es.length cap) _).mono ?_
  rintro e w1 ⟨rfl, hb1⟩
  have L0 := (Blk.new w #[.int .i64 p, .int .i64 t, .int .i64 g] 49).bw hb1
  have HW := Aside0.mk ((HB.out.alloc (.cells #[.int .i64 p, .int .i64 t, .int .i64 g] 49)).trans hb1)
  have p0 : w1.cell? ⟨w.heap.size, 0, none⟩ = some (.int .i64 p) := L0.cell 0 _ rfl
  have p2 : w1.cell? ⟨w.heap.size, 2, none⟩ = some (.int .i64 g) := L0.cell 2 _ rfl
  have hlt := L0.lt
  clear L0 hb1
  go_wp2_with fail
  have HW := Aside0.mk (HW.out.alloc (.cells #[.int .i64 0, .int .i64 0, .int .i64 0, .int .i64 0, .int .i64 0, .int .i64 0, .int .i64 0, .int .i64 0, .int .i64 0, .int .i64 0, .int .i64 0, .int .i64 0, .slice none 0 0, .slice none 0 0, .int .i64 0, .int .i64 0] 60))
  have L5 := Blk.new w1 #[.int .i64 0, .int .i64 0, .int .i64 0, .int .i64 0, .int .i64 0, .int .i64 0, .int .i64 0, .int .i64 0, .int .i64 0, .int .i64 0, .int .i64 0, .int .i64 0, .slice none 0 0, .slice none 0 0, .int .i64 0, .int .i64 0] 60
  refine (xawake_calls _).mono ?_
  rintro e w2 ⟨rfl, hb2⟩
  have L5 := L5.bw hb2
  have HW := Aside0.mk (HW.out.trans hb2)
  have k0 : w2.cell? ⟨w1.heap.size, 0, none⟩ = some (.int .i64 0) := L5.cell 0 _ rfl
  have k1 : w2.cell? ⟨w1.heap.size, 1, none⟩ = some (.int .i64 0) := L5.cell 1 _ rfl
  have k2 : w2.cell? ⟨w1.heap.size, 2, none⟩ = some (.int .i64 0) := L5.cell 2 _ rfl
  have k3 : w2.cell? ⟨w1.heap.size, 3, none⟩ = some (.int .i64 0) := L5.cell 3 _ rfl
  have k4 : w2.cell? ⟨w1.heap.size, 4, none⟩ = some (.int .i64 0) := L5.cell 4 _ rfl
  have k5 : w2.cell? ⟨w1.heap.size, 5, none⟩ = some (.int .i64 0) := L5.cell 5 _ rfl
  have k6 : w2.cell? ⟨w1.heap.size, 6, none⟩ = some (.int .i64 0) := L5.cell 6 _ rfl
  have k7 : w2.cell? ⟨w1.heap.size, 7, none⟩ = some (.int .i64 0) := L5.cell 7 _ rfl
  have k8 : w2.cell? ⟨w1.heap.size, 8, none⟩ = some (.int .i64 0) := L5.cell 8 _ rfl
  have k9 : w2.cell? ⟨w1.heap.size, 9, none⟩ = some (.int .i64 0) := L5.cell 9 _ rfl
  have k10 : w2.cell? ⟨w1.heap.size, 10, none⟩ = some (.int .i64 0) := L5.cell 10 _ rfl
  have k11 : w2.cell? ⟨w1.heap.size, 11, none⟩ = some (.int .i64 0) := L5.cell 11 _ rfl
  have k12 : w2.cell? ⟨w1.heap.size, 12, none⟩ = some (.slice none 0 0) := L5.cell 12 _ rfl
  have k13 : w2.cell? ⟨w1.heap.size, 13, none⟩ = some (.slice none 0 0) := L5.cell 13 _ rfl
  have k14 : w2.cell? ⟨w1.heap.size, 14, none⟩ = some (.int .i64 0) := L5.cell 14 _ rfl
  have k15 : w2.cell? ⟨w1.heap.size, 15, none⟩ = some (.int .i64 0) := L5.cell 15 _ rfl
  clear L5 hb2
  go_wp2_with fail
  refine (total_eq (f := fun _ => 0) (vg := .slice none 0 0) (vp := .slice none 0 0) (most := 0) (now := 0) (x := 0) rfl (fun j => by omega)).mono ?_
  rintro e w3 ⟨rfl, hb3⟩
  have HW := Aside0.mk (HW.out.trans hb3)
  go_wp2_with fail
  go_ret
  exact ⟨rfl, HW.out⟩
theorem Counts_bad (p t g : Int) (A : Option Addr) (cap : Nat) (es : List Ev) (w : World) (hl : es.length ≤ 100) (hg : ¬ (60 < g ∧ g ≤ 65536)) (hbad : p < 1 ∨ 64 < p ∨ g < 1 ∨ 65536 < g) :
    Calls Try.prog 10 #[.agg #[.int .i64 p, .int .i64 t, .int .i64 g], .slice A es.length cap] w fun e w' => e = .returned (.bool true) ∧ Bw w w' := by
  by_cases h60 : 60 < g
  · by_cases h1 : p < 1
    · exact Counts_bada p t g A cap es w hl hbad (by simp; omega) (by simp; omega) (by simp; omega)
    · by_cases h2 : 64 < p
      · exact Counts_badb p t g A cap es w hl hbad (by simp; omega) (by simp; omega) (by simp; omega) (by simp; omega)
      · exact Counts_badc p t g A cap es w hl hbad (by simp; omega) (by simp; omega) (by simp; omega) (by simp; omega) (by simp; omega) (by simp; omega)
  · by_cases h1 : p < 1
    · exact Counts_badd p t g A cap es w hl hbad (by simp; omega) (by simp; omega)
    · by_cases h2 : 64 < p
      · exact Counts_bade p t g A cap es w hl hbad (by simp; omega) (by simp; omega) (by simp; omega)
      · exact Counts_badf p t g A cap es w hl hbad (by simp; omega) (by simp; omega) (by simp; omega) (by simp; omega)
set_option maxHeartbeats 4000000 in
set_option maxRecDepth 100000 in
theorem Counts_good (m n : Nat) (t : Int) (A : Option Addr) (cap : Nat) (es : List Ev) (w : World) (hx : Rows encV 5 w A es) (hl : es.length ≤ 100) (hcap : es.length ≤ cap) (hcm : cap ≤ 9223372036854775807) (hz : A = none → es = [] ∧ cap = 0) (hm : 1 ≤ m ∧ m ≤ 64) (hn : 1 ≤ n ∧ n ≤ 60) :
    Calls Try.prog 10 #[.agg #[.int .i64 m, .int .i64 t, .int .i64 n], .slice A es.length cap] w fun e w' => e = .returned (.bool true) ∧ Bw w w' := by
  have HB := Aside0.mk (Bw.refl w)
  have HX := Aside0.mk hx
  have HZ := Aside0.mk hz
  have HM := Aside0.mk hm
  have HN := Aside0.mk hn
  have d0 : decide ((100 : Int) < (es.length : Int)) = false := by simp; omega
  have e60 : decide ((60 : Int) < (n : Int)) = false := by simp; omega
  have f1 : decide ((m : Int) < 1) = false := by simp; omega
  have f2 : decide ((64 : Int) < (m : Int)) = false := by simp; omega
  have f3 : decide ((n : Int) < 1) = false := by simp; omega
  have f4 : decide ((65536 : Int) < (n : Int)) = false := by simp; omega
  clear hx hz hm hn
  go_enter Try.func10, Try.ntmps10
  go_wp2_with fail
  refine (Of_lit m n t HM.out (by have := HN.out; omega) A cap es _ (HX.out.bw (HB.out.alloc _)) (by omega)).mono ?_
  rintro e w1 ⟨b, g1, g2, rfl, hC, hb1⟩
  have HGR := Aside0.mk hC.gs
  have HPR := Aside0.mk hC.ps
  have L0 := (Blk.new w #[.int .i64 m, .int .i64 t, .int .i64 n] 49).bw hb1
  have HW := Aside0.mk ((HB.out.alloc (.cells #[.int .i64 m, .int .i64 t, .int .i64 n] 49)).trans hb1)
  have p0 : w1.cell? ⟨w.heap.size, 0, none⟩ = some (.int .i64 m) := L0.cell 0 _ rfl
  have p2 : w1.cell? ⟨w.heap.size, 2, none⟩ = some (.int .i64 n) := L0.cell 2 _ rfl
  have hlt := L0.lt
  have HL0 := Aside0.mk L0
  clear hb1 L0 hC
  go_wp2_with fail
  have HV := Aside0.mk ((Bw.refl w1).alloc (.cells #[.int .i64 (cK es 0), .int .i64 (cK es 1), .int .i64 (cK es 2), .int .i64 (cK es 3), .int .i64 (cK es 4), .int .i64 (cK es 5), .int .i64 (cK es 6), .int .i64 (cK es 7), .int .i64 (cK es 8), .int .i64 (cK es 9), .int .i64 (cK es 10), .int .i64 (cK es 11), .slice (some ⟨g1, 0, none⟩) n n, .slice (some ⟨g2, 0, none⟩) m m, .int .i64 (cMost es), .int .i64 (cNow es)] 60))
  have L5 := Blk.new w1 #[.int .i64 (cK es 0), .int .i64 (cK es 1), .int .i64 (cK es 2), .int .i64 (cK es 3), .int .i64 (cK es 4), .int .i64 (cK es 5), .int .i64 (cK es 6), .int .i64 (cK es 7), .int .i64 (cK es 8), .int .i64 (cK es 9), .int .i64 (cK es 10), .int .i64 (cK es 11), .slice (some ⟨g1, 0, none⟩) n n, .slice (some ⟨g2, 0, none⟩) m m, .int .i64 (cMost es), .int .i64 (cNow es)] 60
  refine (xawake_calls _).mono ?_
  rintro e w2 ⟨rfl, hb2⟩
  have L5 := L5.bw hb2
  have HV := Aside0.mk (HV.out.trans hb2)
  have L0 := HL0.out.bw HV.out
  have p0 : w2.cell? ⟨w.heap.size, 0, none⟩ = some (.int .i64 m) := L0.cell 0 _ rfl
  have p1 : w2.cell? ⟨w.heap.size, 1, none⟩ = some (.int .i64 t) := L0.cell 1 _ rfl
  have p2 : w2.cell? ⟨w.heap.size, 2, none⟩ = some (.int .i64 n) := L0.cell 2 _ rfl
  have k0 : w2.cell? ⟨w1.heap.size, 0, none⟩ = some (.int .i64 (cK es 0)) := L5.cell 0 _ rfl
  have k1 : w2.cell? ⟨w1.heap.size, 1, none⟩ = some (.int .i64 (cK es 1)) := L5.cell 1 _ rfl
  have k2 : w2.cell? ⟨w1.heap.size, 2, none⟩ = some (.int .i64 (cK es 2)) := L5.cell 2 _ rfl
  have k3 : w2.cell? ⟨w1.heap.size, 3, none⟩ = some (.int .i64 (cK es 3)) := L5.cell 3 _ rfl
  have k4 : w2.cell? ⟨w1.heap.size, 4, none⟩ = some (.int .i64 (cK es 4)) := L5.cell 4 _ rfl
  have k5 : w2.cell? ⟨w1.heap.size, 5, none⟩ = some (.int .i64 (cK es 5)) := L5.cell 5 _ rfl
  have k6 : w2.cell? ⟨w1.heap.size, 6, none⟩ = some (.int .i64 (cK es 6)) := L5.cell 6 _ rfl
  have k7 : w2.cell? ⟨w1.heap.size, 7, none⟩ = some (.int .i64 (cK es 7)) := L5.cell 7 _ rfl
  have k8 : w2.cell? ⟨w1.heap.size, 8, none⟩ = some (.int .i64 (cK es 8)) := L5.cell 8 _ rfl
  have k9 : w2.cell? ⟨w1.heap.size, 9, none⟩ = some (.int .i64 (cK es 9)) := L5.cell 9 _ rfl
  have k10 : w2.cell? ⟨w1.heap.size, 10, none⟩ = some (.int .i64 (cK es 10)) := L5.cell 10 _ rfl
  have k11 : w2.cell? ⟨w1.heap.size, 11, none⟩ = some (.int .i64 (cK es 11)) := L5.cell 11 _ rfl
  have k12 : w2.cell? ⟨w1.heap.size, 12, none⟩ = some (.slice (some ⟨g1, 0, none⟩) n n) := L5.cell 12 _ rfl
  have k13 : w2.cell? ⟨w1.heap.size, 13, none⟩ = some (.slice (some ⟨g2, 0, none⟩) m m) := L5.cell 13 _ rfl
  have k14 : w2.cell? ⟨w1.heap.size, 14, none⟩ = some (.int .i64 (cMost es)) := L5.cell 14 _ rfl
  have k15 : w2.cell? ⟨w1.heap.size, 15, none⟩ = some (.int .i64 (cNow es)) := L5.cell 15 _ rfl
  clear L5 hb2 L0
  go_wp2_with fail
  refine (fits_lit A cap es m n t _ g1 n g2 m _ (HX.out.bw (HW.out.trans HV.out)) (by omega) hcap hcm HZ.out HM.out.2 (by have := HN.out; omega) (pw_own_below HGR.out HV.out) (pw_own_below HPR.out HV.out)).mono ?_
  rintro e w3 ⟨rfl, hb3⟩
  go_wp2_with fail
  go_ret
  exact ⟨rfl, (HW.out.trans HV.out).trans hb3⟩
theorem rd_evs {w : World} {a : Option Addr} {len cap : Nat} (h : RdRow [.int .i64, .int .i64, .int .i64, .int .i64, .int .i64] w a len cap) :
    ∃ es : List Ev, es.length = len ∧ Rows encV 5 w a es := by
  obtain ⟨css, hl, hf, hr⟩ := rd_cells h
  refine ⟨css.map fun cs => ⟨geti cs 0, geti cs 1, geti cs 2, geti cs 3, geti cs 4⟩, by simpa using hl, hr.map fun cs hcs => ?_⟩
  obtain ⟨n0, _, rfl, _, h1⟩ := (hf cs hcs).int
  obtain ⟨n1, _, rfl, _, h2⟩ := h1.int
  obtain ⟨n2, _, rfl, _, h3⟩ := h2.int
  obtain ⟨n3, _, rfl, _, h4⟩ := h3.int
  obtain ⟨n4, _, rfl, _, h5⟩ := h4.int
  obtain rfl := h5.nil
  rfl
theorem rd_cap {ks : List FK} {w : World} {a : Option Addr} {len cap : Nat} (h : RdRow ks w a len cap) : len ≤ cap ∧ cap ≤ 9223372036854775807 ∧ (a = none → len = 0 ∧ cap = 0) := by
  rcases h with ⟨_, h1, h2⟩ | ⟨x, rfl, h1, h2, _⟩
  · exact ⟨by omega, by omega, fun _ => ⟨h1, h2⟩⟩
  · refine ⟨h1, ?_, fun h => by cases h⟩
    simp only [maxLen] at h2
    omega
set_option maxHeartbeats 1000000 in
set_option maxRecDepth 100000 in
theorem CensusCounts_walk (w : World) (cs : List Value) (f : Fits [.int .i64, .int .i64, .int .i64] cs) (a : Option Addr) (len cap : Nat) (h : RdRow [.int .i64, .int .i64, .int .i64, .int .i64, .int .i64] w a len cap) (y : len * 40 ≤ 140737488351232) :
    Calls Try.prog 10 #[.agg cs.toArray, .slice a len cap] w fun e w' => e = .returned (.bool true) ∧ Bw w w' := by
  obtain ⟨c1, c2, c3⟩ := rd_cap h
  obtain ⟨es, rfl, hx⟩ := rd_evs h
  obtain ⟨p, _, rfl, _, h1⟩ := f.int
  obtain ⟨t, _, rfl, _, h2⟩ := h1.int
  obtain ⟨g, _, rfl, _, h3⟩ := h2.int
  obtain rfl := h3.nil
  have HB := Aside0.mk (Bw.refl w)
  by_cases q1 : es.length ≤ 100
  · by_cases q2 : 60 < g ∧ g ≤ 65536
    · have d0 : decide ((100 : Int) < (es.length : Int)) = false := by simp; omega
      have e60 : decide (60 < g) = true := by simp; omega
      have eM : decide (g ≤ 65536) = true := by simp; omega
      clear h hx f h1 h2 h3 q1 q2 c1 c2 c3
      go_enter Try.func10, Try.ntmps10
      go_wp2_with fail
      refine (xawake_calls _).mono ?_
      rintro e w1 ⟨rfl, hb1⟩
      go_wp2_with fail
      go_ret
      exact ⟨rfl, (HB.out.alloc _).trans hb1⟩
    · by_cases q3 : p < 1 ∨ 64 < p ∨ g < 1 ∨ 65536 < g
      · exact Counts_bad p t g a cap es w q1 q2 q3
      · obtain ⟨m, rfl⟩ := Int.eq_ofNat_of_zero_le (show 0 ≤ p by omega)
        obtain ⟨n, rfl⟩ := Int.eq_ofNat_of_zero_le (show 0 ≤ g by omega)
        exact Counts_good m n t a cap es w hx q1 c1 c2 (fun ha => ⟨List.length_eq_zero_iff.1 (c3 ha).1, (c3 ha).2⟩) (by omega) (by omega)
  · have d0 : decide ((100 : Int) < (es.length : Int)) = true := by simp; omega
    clear h hx f h1 h2 h3 q1 c1 c2 c3
    go_enter Try.func10, Try.ntmps10
    go_wp2_with fail
    refine (xawake_calls _).mono ?_
    rintro e w1 ⟨rfl, hb1⟩
    go_wp2_with fail
    go_ret
    exact ⟨rfl, (HB.out.alloc _).trans hb1⟩
end Go.Proofs.Ytkmfbafgbaapiaa.M
