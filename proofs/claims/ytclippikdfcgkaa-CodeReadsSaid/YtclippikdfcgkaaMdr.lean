/- The law CodeReads, walked: it answers true. Conditions: the arguments are of their kinds. -/
import Derived.Test.YtclippikdfcgkaaMd7
import Derived.Test.YtclippikdfcgkaaMdl
import Derived.Test.YtclippikdfcgkaaMr
namespace Go.Proofs.Ytclippikdfcgkaa.M
open Go.RowKit Go.Proofs.YtclippikdfcgkaaW.PrintWords Go.Proofs.YtclippikdfcgkaaW.PrintLast Go.Proofs.YtclippikdfcgkaaW.PrintMore
attribute [local go_sem ↓] eqInstr
set_option linter.unusedVariables false
set_option linter.unusedSimpArgs false

theorem progs_small (xs : List Int) : ∀ ps ∈ progsOf xs, ps.length ≤ 4096 := by
  intro ps hp
  unfold progsOf at hp
  obtain ⟨q, hq, rfl⟩ := List.mem_map.1 hp
  rw [List.length_map]
  have hl : (xs.take 4096).length ≤ 4096 := by rw [List.length_take]; omega
  exact (pieces_mem (xs.take 4096) (fun _ => True) (fun _ _ => trivial) hl q hq).1
section
variable {w : World} {base b : Nat} {v : Value} {us : List Value} {pss : List (List (Int × Int))}
theorem At_agg {p i : Int} {y : Int × Int} (he : atOf pss p i = y) (h : IsCode w base b v us pss) : Calls Try.prog 24 #[.pointer (some ⟨b, 0, none⟩), .int .i64 p, .int .i64 i] w fun e w' => e = .returned (.agg #[.int .i64 y.1, .int .i64 y.2]) ∧ Bw w w' := he ▸ At_calls p i h
theorem refAt_agg {p i : Int} {y : Int × Int} {A : Option Addr} {c : Nat} (he : atOf pss p i = y) (h : Rows2 encP 2 w A pss) : Calls Try.prog 25 #[.slice A pss.length c, .int .i64 p, .int .i64 i] w fun e w' => e = .returned (.agg #[.int .i64 y.1, .int .i64 y.2]) ∧ Bw w w' := he ▸ refAt_calls p i h
theorem At_nil_agg (p i : Int) (w : World) : Calls Try.prog 24 #[.pointer none, .int .i64 p, .int .i64 i] w fun e w' => e = .returned (.agg #[.int .i64 0, .int .i64 0]) ∧ Bw w w' := At_nil p i w
theorem Long_eq {p : Int} {n : Nat} (he : longOf pss p = n) (h : IsCode w base b v us pss) : Calls Try.prog 27 #[.pointer (some ⟨b, 0, none⟩), .int .i64 p] w fun e w' => e = .returned (.int .i64 n) ∧ Bw w w' := he ▸ Long_calls p h
theorem All_eq {p : Int} {ps : List (Int × Int)} (he : rowAt pss p = ps) (h : IsCode w base b v us pss) (hsm : ∀ ps ∈ pss, ps.length ≤ 262144) : Calls Try.prog 26 #[.pointer (some ⟨b, 0, none⟩), .int .i64 p] w fun e w' => ∃ A c, e = .returned (.slice A ps.length c) ∧ Rows encP 2 w' A ps ∧ Bw w w' := he ▸ All_calls p h hsm
end

set_option maxHeartbeats 8000000 in
set_option maxRecDepth 100000 in
theorem CodeReads_core (A : Option Addr) (cap : Nat) (xs : List Int) (x0 x1 : Int) (w : World) (hx : Rows encU 1 w A xs) (hl : xs.length ≤ 300) (hcap : xs.length ≤ cap) (hr : ∀ x ∈ xs, 0 ≤ x ∧ x < 18446744073709551616) :
    Calls Try.prog 4 #[.slice A xs.length cap, .agg #[.int .i64 x0, .int .i64 x1]] w fun e w' => e = .returned (.bool true) ∧ Bw w w' := by
  have HB := Aside0.mk (Bw.refl w)
  have HX := Aside0.mk (hx.bw ((Bw.refl w).alloc (.cells #[.int .i64 x0, .int .i64 x1] 42)))
  have HR := Aside0.mk hr
  have d0 : decide ((300 : Int) < (xs.length : Int)) = false := by simp; omega
  clear hx hr
  go_enter Try.func4, Try.ntmps4
  go_wp2_with fail
  refine (Read_calls A cap xs _ HX.out hcap HR.out).mono ?_
  rintro e w1 ⟨b, v, us, rfl, hc, hb1⟩
  have HX1 := Aside0.mk (HX.out.bw hb1)
  have HC1 := Aside0.mk hc
  have L1 := (Blk.new w #[.int .i64 x0, .int .i64 x1] 42).bw hb1
  have HW1 := Aside0.mk ((HB.out.alloc _).trans hb1)
  clear hc hb1
  go_wp2_with fail
  refine (refRead_calls A cap xs _ HX1.out HR.out).mono ?_
  rintro e w2 ⟨A', c', rfl, hw, hb2⟩
  have HSM := Aside0.mk (progs_small xs)
  obtain ⟨pss, hpss⟩ : ∃ pss, pss = progsOf xs := ⟨_, rfl⟩
  rw [← hpss] at hw HC1 HSM ⊢
  have HC := Aside0.mk (HC1.out.bw hb2)
  have HWant := Aside0.mk hw
  have L2 := L1.bw hb2
  have HW2 := Aside0.mk (HW1.out.trans hb2)
  obtain ⟨y, hy⟩ : ∃ y, atOf pss x0 x1 = y := ⟨_, rfl⟩
  have HY := Aside0.mk hy
  clear hpss hw hb2 HC1 hy
  have q0 : ∀ p : BwW w2, p.W.cell? ⟨w.heap.size, 0, none⟩ = some (.int .i64 x0) := fun p => p.cell (L2.cell 0 _ rfl)
  have q1 : ∀ p : BwW w2, p.W.cell? ⟨w.heap.size, 1, none⟩ = some (.int .i64 x1) := fun p => p.cell (L2.cell 1 _ rfl)
  go_wp2_with fail
  refine wp_region_bw (by kernel_rfl) (by kernel_rfl) ?_
  repeat (first | go_big_quiet_skip | (go_big_quiet_want; go_big_quiet_op; first | go_big_quiet_on | go_big_quiet_call (first | (go_at_call 23; exact qcall (Len_calls (HC.out.bw (BwW.h _)))) | (go_at_call 24; exact qcall (At_agg HY.out (HC.out.bw (BwW.h _)))) | (go_at_call 25; exact qcall (refAt_agg HY.out (HWant.out.bw (BwW.h _)))))))
  refine wpQuiet_nil ?_
  rintro w3 ⟨⟨_, hb3⟩, rfl⟩
  have HC3 := Aside0.mk (HC.out.bw hb3)
  have HWant3 := Aside0.mk (HWant.out.bw hb3)
  have L3 := L2.bw hb3
  have HW3 := Aside0.mk (HW2.out.trans hb3)
  clear q0 q1 hb3
  have hpl : pss.length ≤ 9223372036854775807 := HWant3.out.1
  go_wp2_with fail
  go_loopw [7] (fun i wr => ∃ k : Nat, k ≤ pss.length ∧ i = .int .i64 k ∧ Aside0 (Bw w3 wr)) (fun i _ => pss.length - (intOf i).toNat)
  case atStart => exact ⟨0, by omega, rfl, ⟨Bw.refl w3⟩⟩
  case round =>
    obtain ⟨k, hk, rfl, HBk⟩ := hrel
    obtain ⟨wo, hwo⟩ : ∃ wo, wo = wr := ⟨_, rfl⟩
    subst hwo
    by_cases hlt : k < pss.length
    · obtain ⟨ps, hps⟩ : ∃ ps, pss[k]? = some ps := ⟨_, List.getElem?_eq_getElem hlt⟩
      have HPS := Aside0.mk hps
      have hpsl := HSM.out ps (List.mem_of_getElem? hps)
      have HRA := Aside0.mk (show rowAt pss k = ps by unfold rowAt; rw [if_neg (by omega), List.getD_eq_getElem?_getD, Int.toNat_natCast, hps]; rfl)
      have HLA := Aside0.mk (show longOf pss k = ps.length by rw [rowAt_len, HRA.out])
      have hkl : (k : Int) < (pss.length : Int) := by omega
      clear hps
      go_wp2_with fail
      refine (All_eq HRA.out (HC3.out.bw HBk.out) (fun ps hp => by have := HSM.out ps hp; omega)).mono ?_
      rintro e w4 ⟨A3, c3, rfl, hrow, hb4⟩
      have HL := Aside0.mk hrow
      have HB4 := Aside0.mk (HBk.out.trans hb4)
      obtain ⟨ad, B, c4, rfl, hck, hrow2⟩ := (HWant3.out.bw HB4.out).at_ k ps HPS.out
      have HR2 := Aside0.mk hrow2
      have HCK := Aside0.mk hck
      have hck2 : ∀ p : BwW w4, p.W.cell? (ad.add k) = some (.slice B ps.length c4) := fun p => p.cell HCK.out
      clear hrow hb4 hrow2 hck
      go_wp2_with fail
      refine wp_region_bw (by kernel_rfl) (by kernel_rfl) ?_
      repeat (first | go_big_quiet_skip | (go_big_quiet_want; go_big_quiet_op; first | go_big_quiet_on | go_big_quiet_call (first | (go_at_call 27; exact qcall (Long_eq HLA.out ((HC3.out.bw HB4.out).bw (BwW.h _)))))))
      refine wpQuiet_nil ?_
      rintro w5 ⟨⟨_, hb5⟩, rfl⟩
      have HL5 := Aside0.mk (HL.out.bw hb5)
      have HR5 := Aside0.mk (HR2.out.bw hb5)
      have HB5 := Aside0.mk (HB4.out.trans hb5)
      have hck5 := hb5.kept HCK.out
      have HCK5 := Aside0.mk hck5
      clear hck2 hb5
      go_wp2_with fail
      go_loopw [9] (fun i wr => ∃ j : Nat, j ≤ ps.length ∧ i = .int .i64 j ∧ Aside0 (Bw w5 wr)) (fun i _ => ps.length - (intOf i).toNat)
      case atStart => exact ⟨0, by omega, rfl, ⟨Bw.refl w5⟩⟩
      case round =>
        obtain ⟨j, hj, rfl, HBj⟩ := hrel
        have hck6 := HBj.out.kept HCK5.out
        by_cases hlt2 : j < ps.length
        · obtain ⟨x, hx⟩ : ∃ x, ps[j]? = some x := ⟨_, List.getElem?_eq_getElem hlt2⟩
          obtain ⟨ad3, rfl, hx0, hx1⟩ := (HL5.out.bw HBj.out).atS j x hx
          obtain ⟨ad4, rfl, hy0, hy1⟩ := (HR5.out.bw HBj.out).atS j x hx
          have HAT := Aside0.mk (show atOf pss k j = x by
            unfold atOf
            rw [if_neg (by omega), if_neg (by omega), Int.toNat_natCast, Int.toNat_natCast, List.getD_eq_getElem?_getD (l := pss), HPS.out]
            simp [hx])
          have HX0 := Aside0.mk (hx0 _ rfl)
          have HX1 := Aside0.mk (hx1 1 _ (by omega) rfl)
          have HY0 := Aside0.mk (hy0 _ rfl)
          have HY1 := Aside0.mk (hy1 1 _ (by omega) rfl)
          have HCK6 := Aside0.mk hck6
          have hjl : (j : Int) < (ps.length : Int) := by omega
          clear hx0 hx1 hy0 hy1 hx hck6
          have hck6 := HCK6.out
          go_wp2_with fail
          have z0 : ∀ p : BwW wr, p.W.cell? (ad3.add (j * 2)) = some (.int .i64 x.1) := fun p => p.cell HX0.out
          have z1 : ∀ p : BwW wr, p.W.cell? ⟨(ad3.add (j * 2)).block, (ad3.add (j * 2)).off + 1, none⟩ = some (.int .i64 x.2) := fun p => p.cell HX1.out
          have y0 : ∀ p : BwW wr, p.W.cell? (ad4.add (j * 2)) = some (.int .i64 x.1) := fun p => p.cell HY0.out
          have y1 : ∀ p : BwW wr, p.W.cell? ⟨(ad4.add (j * 2)).block, (ad4.add (j * 2)).off + 1, none⟩ = some (.int .i64 x.2) := fun p => p.cell HY1.out
          have k0 : ∀ p : BwW wr, p.W.cell? (ad.add k) = some (.slice (some ad4) ps.length c4) := fun p => p.cell HCK6.out
          clear hck6
          refine wp_region_bw (by kernel_rfl) (by kernel_rfl) ?_
          repeat (first | go_big_quiet_skip | (go_big_quiet_want; go_big_quiet_op; first | go_big_quiet_on | go_big_quiet_call (first | (go_at_call 24; exact qcall (At_agg HAT.out (((HC3.out.bw HB5.out).bw HBj.out).bw (BwW.h _)))))))
          refine wpQuiet_nil ?_
          rintro w7 ⟨⟨_, hb7⟩, rfl⟩
          clear z0 z1 y0 y1 k0
          go_wp2_with fail
          go_roundw
          case rel => exact ⟨j + 1, by omega, by go_num, ⟨HBj.out.trans hb7⟩⟩
          case measure => simp [intOf]; omega
        · obtain rfl : j = ps.length := by omega
          go_wp2_with fail
          go_roundw
          case rel => exact ⟨k + 1, by omega, by go_num, ⟨HB5.out.trans HBj.out⟩⟩
          case measure => simp [intOf]; omega
    · obtain rfl : k = pss.length := by omega
      have HCk := Aside0.mk (HC3.out.bw HBk.out)
      have Lk := L3.bw HBk.out
      have HLN := Aside0.mk (show longOf pss (pss.length : Nat) = 0 by
        rw [rowAt_len]; unfold rowAt
        rw [if_neg (by omega), List.getD_eq_getElem?_getD, Int.toNat_natCast, List.getElem?_eq_none (Nat.le_refl _)]; rfl)
      have HRN := Aside0.mk (show rowAt pss (-1) = [] by unfold rowAt; rw [if_pos (by omega)])
      go_wp2_with fail
      refine (dawake_calls _).mono ?_
      rintro e w5 ⟨rfl, hb5⟩
      go_wp2_with fail
      refine (Long_eq HLN.out (HCk.out.bw hb5)).mono ?_
      rintro e w6 ⟨rfl, hb6⟩
      go_wp2_with fail
      refine (All_eq HRN.out ((HCk.out.bw hb5).bw hb6) (fun ps hp => by have := HSM.out ps hp; omega)).mono ?_
      rintro e w7 ⟨A7, c7, rfl, _, hb7⟩
      go_wp2_with fail
      refine (Len_nil _).mono ?_
      rintro e w8 ⟨rfl, hb8⟩
      have L8 := (((Lk.bw hb5).bw hb6).bw hb7).bw hb8
      have q0 := L8.cell 0 (.int .i64 x0) rfl
      have q1 := L8.cell 1 (.int .i64 x1) rfl
      go_wp2_with fail
      refine (Long_nil x0 _).mono ?_
      rintro e w9 ⟨rfl, hb9⟩
      have L9 := L8.bw hb9
      have q0 := L9.cell 0 (.int .i64 x0) rfl
      have q1 := L9.cell 1 (.int .i64 x1) rfl
      go_wp2_with fail
      refine (At_nil_agg x0 x1 _).mono ?_
      rintro e w10 ⟨rfl, hb10⟩
      go_wp2_with fail
      go_ret
      exact ⟨rfl, ((((((HW3.out.trans HBk.out).trans hb5).trans hb6).trans hb7).trans hb8).trans hb9).trans hb10⟩
theorem CodeReads_walk (w : World) (a : Option Addr) (n cap : Nat) (f : RdRow [.int .u64] w a n cap) (y : n * 8 ≤ 140737488351232) (cs : List Value) (g : Fits [.int .i64, .int .i64] cs) :
    Calls Try.prog 4 #[.slice a n cap, .agg cs.toArray] w fun e w' => e = .returned (.bool true) ∧ Bw w w' := by
  have hcap : n ≤ cap := by
    rcases f with ⟨_, h1, h2⟩ | ⟨_, _, h, _⟩
    · omega
    · exact h
  obtain ⟨xs, rfl, hx, hxw⟩ := rd_ints f
  obtain ⟨x0, _, rfl, _, h1⟩ := g.int
  obtain ⟨x1, _, rfl, _, h2⟩ := h1.int
  obtain rfl := h2.nil
  by_cases hl : xs.length ≤ 300
  · exact CodeReads_core a cap xs x0 x1 w hx hl hcap (fun x hx => wf_u64 (hxw x hx))
  · have HB := Aside0.mk (Bw.refl w)
    have d1 : decide ((300 : Int) < (xs.length : Int)) = true := by simp; omega
    clear f hx hxw g h1 h2
    go_enter Try.func4, Try.ntmps4
    go_wp2_with fail
    refine (dawake_calls _).mono ?_
    rintro e w1 ⟨rfl, hb1⟩
    go_wp2_with fail
    go_ret
    exact ⟨rfl, (HB.out.alloc _).trans hb1⟩
end Go.Proofs.Ytclippikdfcgkaa.M
