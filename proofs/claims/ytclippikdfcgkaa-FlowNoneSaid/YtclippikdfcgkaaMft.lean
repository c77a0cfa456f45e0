/- The law FlowNone: the walk. Conditions: none. -/
import Derived.Test.YtclippikdfcgkaaMfs
namespace Go.Proofs.Ytclippikdfcgkaa.M
open Go.RowKit Go.Proofs.YtclippikdfcgkaaW.PrintWords Go.Proofs.YtclippikdfcgkaaW.PrintLast Go.Proofs.YtclippikdfcgkaaW.PrintMore
set_option linter.unusedVariables false
set_option linter.unusedSimpArgs false
section
variable {w w1 : World} {base b : Nat} {s : ChS} {tv : Value} {A : Option Addr} {cap : Nat} {vg : Value} {mb bm : Nat} {vm : Value} {m : MemS} {who : Int} {subv afv : Value} {got : List Int}
set_option maxHeartbeats 1000000 in
/-- A step of one that is done. -/
theorem fStep_done (b bm : Nat) (w : World) (k1 : w.cell? ⟨b, 1, none⟩ = some (.int .i64 0)) (k7 : w.cell? ⟨b, 7, none⟩ = some Value.nilIface) :
    Calls Try.prog 122 #[.pointer (some ⟨b, 0, none⟩), .pointer (some ⟨bm, 0, none⟩)] w fun e w' => e = .returned (.bool true) ∧ Bw w w' := by
  have HB := Aside0.mk (Bw.refl w)
  have HD := Aside0.mk (fDone_calls b 0 w k1 k7)
  rw [show ((0 : Int) == 0) = true from rfl] at HD
  go_enter Try.func122, Try.ntmps122
  go_wp2_with fail
  refine (HD.out).mono ?_
  rintro e w1 ⟨rfl, hb1⟩
  have k1 := hb1.kept k1
  have k7 := hb1.kept k7
  have HD1 := Aside0.mk (fDone_calls b 0 w1 k1 k7)
  rw [show ((0 : Int) == 0) = true from rfl] at HD1
  have HB := Aside0.mk (HB.out.trans hb1)
  clear k1 k7
  go_wp2_with fail
  refine (HD1.out).mono ?_
  rintro e w2 ⟨rfl, hb2⟩
  have HB := Aside0.mk (HB.out.trans hb2)
  go_wp2_with fail
  go_ret
  exact ⟨rfl, HB.out⟩
set_option maxHeartbeats 1000000 in
theorem cStep_done (b bm : Nat) (w : World) (k1 : w.cell? ⟨b, 1, none⟩ = some (.int .i64 0)) (k7 : w.cell? ⟨b, 7, none⟩ = some Value.nilIface) :
    Calls Try.prog 72 #[.pointer (some ⟨b, 0, none⟩), .pointer (some ⟨bm, 0, none⟩)] w fun e w' => e = .returned (.bool true) ∧ Bw w w' := by
  have HF := Aside0.mk (fStep_done b bm w k1 k7)
  clear k1 k7
  go_enter Try.func72, Try.ntmps72
  go_wp2_with fail
  refine (HF.out).mono ?_
  rintro e w1 ⟨rfl, hb1⟩
  have HB := Aside0.mk hb1
  clear hb1
  go_wp2_with fail
  go_ret
  exact ⟨rfl, HB.out⟩
theorem cDone_done (b : Nat) (w : World) (k1 : w.cell? ⟨b, 1, none⟩ = some (.int .i64 0)) (k7 : w.cell? ⟨b, 7, none⟩ = some Value.nilIface) :
    Calls Try.prog 69 #[.pointer (some ⟨b, 0, none⟩)] w fun e w' => e = .returned (.bool true) ∧ Bw w w' := cDone_calls b 0 w k1 k7
theorem nextP_done : ∀ (ps : List Part) (got : List Int), (∀ p ∈ ps, p.2.kind = 0 ∧ p.2.got = []) → nextP ps got = (none, [], got)
  | [], got, _ => rfl
  | p :: r, got, h => by
    unfold nextP
    rw [if_pos (h p (List.mem_cons_self ..)).1, (h p (List.mem_cons_self ..)).2, List.append_nil]
    exact nextP_done r got fun q hq => h q (List.mem_cons_of_mem _ hq)
def noneL (x : Int) : List (List Acc) := [[], [⟨99, 0, x, 0, 0, false⟩], []]
theorem none_rows (w : World) (x : Int) : Rows2 encAc 6 ((w.alloc (.cells #[.int .i64 99, .int .i64 0, .int .i64 x, .int .u64 0, .int .u64 0, .bool false] 76)).alloc (.cells #[.slice none 0 0, .slice (some ⟨w.heap.size, 0, none⟩) 1 1, .slice none 0 0] 113)) (some ⟨w.heap.size + 1, 0, none⟩) (noneL x) := by
  have B1 := (Blk.new w #[.int .i64 99, .int .i64 0, .int .i64 x, .int .u64 0, .int .u64 0, .bool false] 76).alloc (.cells #[.slice none 0 0, .slice (some ⟨w.heap.size, 0, none⟩) 1 1, .slice none 0 0] 113)
  have B2 := Blk.new (w.alloc (.cells #[.int .i64 99, .int .i64 0, .int .i64 x, .int .u64 0, .int .u64 0, .bool false] 76)) #[.slice none 0 0, .slice (some ⟨w.heap.size, 0, none⟩) 1 1, .slice none 0 0] 113
  rw [show (w.alloc (.cells #[.int .i64 99, .int .i64 0, .int .i64 x, .int .u64 0, .int .u64 0, .bool false] 76)).heap.size = w.heap.size + 1 by simp] at B2
  refine ⟨by simp [noneL], fun _ => ⟨_, rfl, fun j ps hj => ?_⟩⟩
  rcases j with _ | _ | _ | j
  · simp [noneL] at hj
    subst hj
    exact ⟨none, 0, B2.cell 0 _ rfl, Rows.nil⟩
  · simp [noneL] at hj
    subst hj
    refine ⟨some ⟨w.heap.size, 0, none⟩, 1, by rw [add_one]; exact B2.cell 1 _ rfl, by simp, fun _ => ⟨_, rfl, fun j a ha i v hv => ?_⟩⟩
    rcases j with _ | j
    · simp at ha
      subst ha
      have : (⟨w.heap.size, 0, none⟩ : Addr).add (0 * 6 + i) = ⟨w.heap.size, i, none⟩ := by unfold Addr.add; simp; try omega
      rw [this]
      refine B1.cell i v ?_
      rw [← hv]
      simp [encAc]
    · simp at ha
  · simp [noneL] at hj
    subst hj
    exact ⟨none, 0, by rw [add_one]; exact B2.cell 2 _ rfl, Rows.nil⟩
  · simp [noneL] at hj
theorem none_done (x : Int) (ps : List Part) (h : ps.map (·.2) = (noneL x).map (newS 1)) : nextP ps [] = (none, [], []) := by
  refine nextP_done ps [] fun p hp => ?_
  have : p.2 ∈ (noneL x).map (newS 1) := by rw [← h]; exact List.mem_map_of_mem hp
  obtain ⟨l, hl, e⟩ := List.mem_map.1 this
  rw [← e]
  refine ⟨?_, newS_got _ _⟩
  simp [noneL] at hl
  rcases hl with rfl | rfl | rfl <;> rfl
set_option maxHeartbeats 2000000 in
set_option maxRecDepth 100000 in
theorem FlowNone_go (k who x o n : Int) (d : Bool) (w : World) :
    Calls Try.prog 12 #[.agg #[.int .i64 k, .int .i64 who, .int .i64 x, .int .u64 o, .int .u64 n, .bool d]] w fun e w' => e = .returned (.bool true) ∧ Bw w w' := by
  have HW := Aside0.mk ((Bw.refl w).alloc (.cells #[.int .i64 k, .int .i64 who, .int .i64 x, .int .u64 o, .int .u64 n, .bool d] 76))
  have HL := Aside0.mk (Blk.new w #[.int .i64 k, .int .i64 who, .int .i64 x, .int .u64 o, .int .u64 n, .bool d] 76)
  go_enter Try.func12, Try.ntmps12
  go_wp2_with fail
  refine (New_calls 4 _ (by omega)).mono ?_
  rintro e w1 ⟨bm, vm, rfl, hM1, hb1⟩
  have HW := Aside0.mk (HW.out.trans hb1)
  have HL := Aside0.mk (HL.out.bw hb1)
  have HM := Aside0.mk hM1
  clear hM1 hb1
  go_wp2_with fail
  refine (flowNew_calls 1 none 0 [] _ Rows.nil (by simp)).mono ?_
  rintro e w2 ⟨bc, tvc, Ac, cc, rfl, hc2, hb2⟩
  have HW := Aside0.mk (HW.out.trans hb2)
  have HL := Aside0.mk (HL.out.bw hb2)
  have HM := Aside0.mk (HM.out.bw hb2)
  have HC := Aside0.mk hc2
  have c2 : w2.cell? ⟨w.heap.size, 2, none⟩ = some (.int .i64 x) := HL.out.cell 2 _ rfl
  have hlt := HL.out.lt
  clear hc2 hb2
  go_wp2_with fail
  refine (Parts_calls 1 _ 3 (noneL x) _ (none_rows w2 x) (by simp [noneL]) (by simp [noneL])).mono ?_
  rintro e w3 ⟨bd, ps, sv, av, Ad, cd, vgd, rfl, hI3, hS3, _, hss, _, _, _, hb3⟩
  rw [none_done x ps hss] at hI3 hS3
  have hb3 : Bw w2 w3 := (((Bw.refl w2).alloc _).alloc _).trans hb3
  obtain rfl := hS3
  have HD := Aside0.mk hI3
  have HW := Aside0.mk (HW.out.trans hb3)
  have HM := Aside0.mk (HM.out.bw hb3)
  have HC := Aside0.mk (HC.out.bw hb3)
  clear hI3 hb3 hss c2 hlt
  go_wp2_with fail
  refine (fawake_calls _).mono ?_
  rintro e w4 ⟨rfl, hb4⟩
  have HW := Aside0.mk (HW.out.trans hb4)
  have HM := Aside0.mk (HM.out.bw hb4)
  have HC := Aside0.mk (HC.out.bw hb4)
  have HD := Aside0.mk (HD.out.bw hb4)
  clear hb4
  go_wp2_with fail
  refine (cDone_nil _).mono ?_
  rintro e w5 ⟨rfl, hb5⟩
  have HW := Aside0.mk (HW.out.trans hb5)
  have HM := Aside0.mk (HM.out.bw hb5)
  have HC := Aside0.mk (HC.out.bw hb5)
  have HD := Aside0.mk (HD.out.bw hb5)
  clear hb5
  go_wp2_with fail
  refine (cStep_nil _ _).mono ?_
  rintro e w6 ⟨rfl, hb6⟩
  have HW := Aside0.mk (HW.out.trans hb6)
  have HM := Aside0.mk (HM.out.bw hb6)
  have HC := Aside0.mk (HC.out.bw hb6)
  have HD := Aside0.mk (HD.out.bw hb6)
  clear hb6
  go_wp2_with fail
  refine (cAsleep_nil _ _).mono ?_
  rintro e w7 ⟨rfl, hb7⟩
  have HW := Aside0.mk (HW.out.trans hb7)
  have HM := Aside0.mk (HM.out.bw hb7)
  have HC := Aside0.mk (HC.out.bw hb7)
  have HD := Aside0.mk (HD.out.bw hb7)
  clear hb7
  go_wp2_with fail
  refine (cGot_nil _).mono ?_
  rintro e w8 ⟨rfl, hb8⟩
  have HW := Aside0.mk (HW.out.trans hb8)
  have HM := Aside0.mk (HM.out.bw hb8)
  have HC := Aside0.mk (HC.out.bw hb8)
  have HD := Aside0.mk (HD.out.bw hb8)
  clear hb8
  go_wp2_with fail
  refine (cDone_done bc _ (HC.out.blk.cell 1 _ rfl) (HC.out.blk.cell 7 _ rfl)).mono ?_
  rintro e w9 ⟨rfl, hb9⟩
  have HW := Aside0.mk (HW.out.trans hb9)
  have HM := Aside0.mk (HM.out.bw hb9)
  have HC := Aside0.mk (HC.out.bw hb9)
  have HD := Aside0.mk (HD.out.bw hb9)
  clear hb9
  go_wp2_with fail
  refine (cStep_done bc bm _ (HC.out.blk.cell 1 _ rfl) (HC.out.blk.cell 7 _ rfl)).mono ?_
  rintro e w10 ⟨rfl, hb10⟩
  have HW := Aside0.mk (HW.out.trans hb10)
  have HM := Aside0.mk (HM.out.bw hb10)
  have HD := Aside0.mk (HD.out.bw hb10)
  clear hb10
  go_wp2_with fail
  refine (cDone_done bd _ (HD.out.blk.cell 1 _ rfl) (HD.out.blk.cell 7 _ rfl)).mono ?_
  rintro e w11 ⟨rfl, hb11⟩
  have HW := Aside0.mk (HW.out.trans hb11)
  have HM := Aside0.mk (HM.out.bw hb11)
  have HD := Aside0.mk (HD.out.bw hb11)
  clear hb11
  go_wp2_with fail
  refine (cStep_done bd bm _ (HD.out.blk.cell 1 _ rfl) (HD.out.blk.cell 7 _ rfl)).mono ?_
  rintro e w12 ⟨rfl, hb12⟩
  have HW := Aside0.mk (HW.out.trans hb12)
  have HM := Aside0.mk (HM.out.bw hb12)
  clear hb12
  go_wp2_with fail
  refine (Clock_calls _ bm vm _ _ HM.out).mono ?_
  rintro e w13 ⟨rfl, hb13⟩
  have HW := Aside0.mk (HW.out.trans hb13)
  rw [show (memOf (List.replicate 4 0)).clock = 0 from rfl]
  go_wp2_with fail
  go_ret
  exact ⟨rfl, HW.out⟩
theorem FlowNone_walk (w : World) (cs : List Value) (f : Fits [.int .i64, .int .i64, .int .i64, .int .u64, .int .u64, .bool] cs) :
    Calls Try.prog 12 #[.agg cs.toArray] w fun e w' => e = .returned (.bool true) ∧ Bw w w' := by
  obtain ⟨k, _, rfl, _, h1⟩ := f.int
  obtain ⟨who, _, rfl, _, h2⟩ := h1.int
  obtain ⟨x, _, rfl, _, h3⟩ := h2.int
  obtain ⟨o, _, rfl, _, h4⟩ := h3.int
  obtain ⟨n, _, rfl, _, h5⟩ := h4.int
  obtain ⟨d, _, rfl, h6⟩ := h5.bool
  obtain rfl := h6.nil
  exact FlowNone_go k who x o n d w
end
end Go.Proofs.Ytclippikdfcgkaa.M
