/- Is a census that of events (fits)? It is. Conditions: no more than a thousand events. -/
import Derived.Test.YtclippikdfcgkaaMx7
namespace Go.Proofs.Ytclippikdfcgkaa.M
open Go.RowKit Go.Proofs.YtclippikdfcgkaaW.PrintWords Go.Proofs.YtclippikdfcgkaaW.PrintLast Go.Proofs.YtclippikdfcgkaaW.PrintMore
set_option linter.unusedVariables false
set_option linter.unusedSimpArgs false
theorem fG0 (es : List Ev) (g : Nat) : fG es ((g * 3 : Nat) : Int) = cO es 1 g := by
  unfold fG
  rw [if_pos (by omega), show ((g * 3 : Nat) : Int) / 3 = (g : Int) by omega]
theorem fG1 (es : List Ev) (g : Nat) : fG es ((g * 3 + 1 : Nat) : Int) = cO es 9 g := by
  unfold fG
  rw [if_neg (by omega), if_pos (by omega), show ((g * 3 + 1 : Nat) : Int) / 3 = (g : Int) by omega]
theorem fG2 (es : List Ev) (g : Nat) : fG es ((g * 3 + 2 : Nat) : Int) = cO es 2 g := by
  unfold fG
  rw [if_neg (by omega), if_neg (by omega), show ((g * 3 + 2 : Nat) : Int) / 3 = (g : Int) by omega]
theorem refKind_eq {A : Option Addr} {cap : Nat} {es : List Ev} {q x : Int} {w : World} (he : cK es q = x) (hx : Rows encV 5 w A es) (hl : es.length ≤ 1000) : Calls Try.prog 90 #[.slice A es.length cap, .int .i64 q] w fun e w' => e = .returned (.int .i64 x) ∧ Bw w w' := he ▸ refKind_calls A cap es q w hx hl
theorem refOf_eq {A : Option Addr} {cap : Nat} {es : List Ev} {q g x : Int} {w : World} (he : cO es q g = x) (hx : Rows encV 5 w A es) (hl : es.length ≤ 1000) : Calls Try.prog 91 #[.slice A es.length cap, .int .i64 q, .int .i64 g] w fun e w' => e = .returned (.int .i64 x) ∧ Bw w w' := he ▸ refOf_calls A cap es q g w hx hl
theorem refProc_eq {A : Option Addr} {cap : Nat} {es : List Ev} {q x : Int} {w : World} (he : cP es q = x) (hx : Rows encV 5 w A es) (hl : es.length ≤ 1000) : Calls Try.prog 92 #[.slice A es.length cap, .int .i64 q] w fun e w' => e = .returned (.int .i64 x) ∧ Bw w w' := he ▸ refProc_calls A cap es q w hx hl
theorem refNow_eq {A : Option Addr} {cap : Nat} {es : List Ev} {x : Int} {w : World} (he : cNow es = x) (hx : Rows encV 5 w A es) (hl : es.length ≤ 1000) : Calls Try.prog 89 #[.slice A es.length cap] w fun e w' => e = .returned (.int .i64 x) ∧ Bw w w' := he ▸ refNow_calls A cap es w hx hl
theorem refMost_eq {A : Option Addr} {cap : Nat} {es : List Ev} {x : Int} {w : World} (he : cMost es = x) (hx : Rows encV 5 w A es) (hl : es.length ≤ 1000) (hcap : es.length ≤ cap) (hcm : cap ≤ 9223372036854775807) (hz : A = none → es = [] ∧ cap = 0) : Calls Try.prog 88 #[.slice A es.length cap] w fun e w' => e = .returned (.int .i64 x) ∧ Bw w w' := he ▸ refMost_calls A cap es w hx hl hcap hcm hz
theorem total_eq {f : Int → Int} {vg vp : Value} {most now x : Int} {w : World} (he : sumTo f 12 = x) (hf : ∀ j : Nat, 0 ≤ f j ∧ f j ≤ 1000) :
    Calls Try.prog 18 #[.agg #[.int .i64 (f 0), .int .i64 (f 1), .int .i64 (f 2), .int .i64 (f 3), .int .i64 (f 4), .int .i64 (f 5), .int .i64 (f 6), .int .i64 (f 7), .int .i64 (f 8), .int .i64 (f 9), .int .i64 (f 10), .int .i64 (f 11), vg, vp, .int .i64 most, .int .i64 now]] w fun e w' => e = .returned (.int .i64 x) ∧ Bw w w' := he ▸ Total_calls f vg vp most now w hf
theorem Live_lit (f : Int → Int) (vg vp : Value) (most now : Int) (w : World) (h2 : 0 ≤ f 2 ∧ f 2 ≤ 1000) (h11 : 0 ≤ f 11 ∧ f 11 ≤ 1000) :
    Calls Try.prog 84 #[.agg #[.int .i64 (f 0), .int .i64 (f 1), .int .i64 (f 2), .int .i64 (f 3), .int .i64 (f 4), .int .i64 (f 5), .int .i64 (f 6), .int .i64 (f 7), .int .i64 (f 8), .int .i64 (f 9), .int .i64 (f 10), .int .i64 (f 11), vg, vp, .int .i64 most, .int .i64 now]] w fun e w' => e = .returned (.int .i64 (1 + f 2 - f 11)) ∧ Bw w w' := Live_calls f vg vp most now w h2 h11
theorem sumTo_len (es : List Ev) : sumTo (cK es) 12 = es.length := by
  refine snoc_ind (P := fun es => sumTo (cK es) 12 = (es.length : Int)) rfl ?_ es
  intro es e ih
  have h := fun k => cK_snoc es e k
  have hr := normK_range e.kind
  simp only [sumTo] at ih ⊢
  rw [h, h, h, h, h, h, h, h, h, h, h, h, List.length_append, List.length_singleton]
  obtain ⟨z, hz⟩ : ∃ z, z = normK e.kind := ⟨_, rfl⟩
  rw [← hz] at hr ⊢
  have hc : z = 0 ∨ z = 1 ∨ z = 2 ∨ z = 3 ∨ z = 4 ∨ z = 5 ∨ z = 6 ∨ z = 7 ∨ z = 8 ∨ z = 9 ∨ z = 10 ∨ z = 11 := by omega
  clear hr hz h
  rcases hc with rfl | rfl | rfl | rfl | rfl | rfl | rfl | rfl | rfl | rfl | rfl | rfl <;> (simp; simp at ih; omega)

set_option maxHeartbeats 1000000 in
set_option maxRecDepth 100000 in
theorem fits_calls (A : Option Addr) (cap : Nat) (es : List Ev) (m n : Nat) (t : Int) (base g1 c1 g2 c2 : Nat) (w : World) (hx : Rows encV 5 w A es) (hl : es.length ≤ 1000) (hcap : es.length ≤ cap) (hcm : cap ≤ 9223372036854775807) (hz : A = none → es = [] ∧ cap = 0)
    (hm : m ≤ 64) (hn : n ≤ 65536) (hg : w.ownsRow base 141 3 (.slice (some ⟨g1, 0, none⟩) n c1) n (tabV (n * 3) (fG es))) (hp : w.ownsRow base 3 1 (.slice (some ⟨g2, 0, none⟩) m c2) m (tabV m (cP es))) :
    Calls Try.prog 19 #[.agg (cenA (cK es) (.slice (some ⟨g1, 0, none⟩) n c1) (.slice (some ⟨g2, 0, none⟩) m c2) (cMost es) (cNow es)), .agg #[.int .i64 m, .int .i64 t, .int .i64 n], .slice A es.length cap] w fun e w' => e = .returned (.bool true) ∧ Bw w w' := by
  have HX := Aside0.mk hx
  have HZ := Aside0.mk hz
  have HGR := Aside0.mk hg
  have HPR := Aside0.mk hp
  obtain ⟨mo, hmo⟩ : ∃ x, cMost es = x := ⟨_, rfl⟩
  obtain ⟨no, hno⟩ : ∃ x, cNow es = x := ⟨_, rfl⟩
  rw [hmo, hno]
  have HMO := Aside0.mk hmo
  have HNO := Aside0.mk hno
  have L1 := (Blk.new w (cenA (cK es) (.slice (some ⟨g1, 0, none⟩) n c1) (.slice (some ⟨g2, 0, none⟩) m c2) mo no) 31).alloc (.cells #[.int .i64 m, .int .i64 t, .int .i64 n] 23)
  have L2 := Blk.new (w.alloc (.cells (cenA (cK es) (.slice (some ⟨g1, 0, none⟩) n c1) (.slice (some ⟨g2, 0, none⟩) m c2) mo no) 31)) #[.int .i64 m, .int .i64 t, .int .i64 n] 23
  rw [show (w.alloc (.cells (cenA (cK es) (.slice (some ⟨g1, 0, none⟩) n c1) (.slice (some ⟨g2, 0, none⟩) m c2) mo no) 31)).heap.size = w.heap.size + 1 by simp] at L2
  have HW := Aside0.mk (((Bw.refl w).alloc (.cells (cenA (cK es) (.slice (some ⟨g1, 0, none⟩) n c1) (.slice (some ⟨g2, 0, none⟩) m c2) mo no) 31)).alloc (.cells #[.int .i64 m, .int .i64 t, .int .i64 n] 23))
  obtain ⟨W0, hW0⟩ : ∃ W0, W0 = (w.alloc (.cells (cenA (cK es) (.slice (some ⟨g1, 0, none⟩) n c1) (.slice (some ⟨g2, 0, none⟩) m c2) mo no) 31)).alloc (.cells #[.int .i64 m, .int .i64 t, .int .i64 n] 23) := ⟨_, rfl⟩
  rw [← hW0] at L1 L2 HW
  have HL1 := Aside0.mk L1
  have HL2 := Aside0.mk L2
  have hnm : n ≤ 9223372036854775807 := by omega
  have hmm : m ≤ 9223372036854775807 := by omega
  clear hx hz hg hp hmo hno L1 L2
  unfold cenA at hW0 ⊢
  go_enter Try.func19, Try.ntmps19
  go_upto_region 1 with fail
  rw [← hW0]
  clear hW0
  have q1 : ∀ p : BwW W0, p.W.cell? ⟨w.heap.size, 12, none⟩ = some (.slice (some ⟨g1, 0, none⟩) n c1) := fun p => p.cell (HL1.out.cell 12 _ rfl)
  have q2 : ∀ p : BwW W0, p.W.cell? ⟨w.heap.size, 13, none⟩ = some (.slice (some ⟨g2, 0, none⟩) m c2) := fun p => p.cell (HL1.out.cell 13 _ rfl)
  have q3 : ∀ p : BwW W0, p.W.cell? ⟨w.heap.size, 14, none⟩ = some (.int .i64 mo) := fun p => p.cell (HL1.out.cell 14 _ rfl)
  have q4 : ∀ p : BwW W0, p.W.cell? ⟨w.heap.size, 15, none⟩ = some (.int .i64 no) := fun p => p.cell (HL1.out.cell 15 _ rfl)
  have q5 : ∀ p : BwW W0, p.W.cell? ⟨w.heap.size + 1, 0, none⟩ = some (.int .i64 m) := fun p => p.cell (HL2.out.cell 0 _ rfl)
  have q6 : ∀ p : BwW W0, p.W.cell? ⟨w.heap.size + 1, 2, none⟩ = some (.int .i64 n) := fun p => p.cell (HL2.out.cell 2 _ rfl)
  have e1 : ((n : Int) != (n : Int)) = false := by simp
  have e2 : ((m : Int) != (m : Int)) = false := by simp
  have e3 : (mo != mo) = false := by simp
  have e4 : (no != no) = false := by simp
  refine wp_region_bw (by kernel_rfl) (by kernel_rfl) ?_
  repeat (first | go_big_quiet_skip | (go_big_quiet_want; go_big_quiet_op; first | go_big_quiet_on | go_big_quiet_call (first | (go_at_call 88; exact qcall (refMost_eq HMO.out ((HX.out.bw HW.out).bw (BwW.h _)) hl hcap hcm HZ.out)) | (go_at_call 89; exact qcall (refNow_eq HNO.out ((HX.out.bw HW.out).bw (BwW.h _)) hl)))))
  refine wpQuiet_nil ?_
  rintro w1 ⟨⟨_, hb1⟩, rfl⟩
  have HW1 := Aside0.mk (HW.out.trans hb1)
  have HL1 := Aside0.mk (HL1.out.bw hb1)
  have HL2 := Aside0.mk (HL2.out.bw hb1)
  clear q1 q2 q3 q4 q5 q6 e1 e2 e3 e4 hb1
  go_wp2_with fail
  go_loopw [7] (fun iv wr => ∃ k : Nat, k ≤ 12 ∧ iv = .int .i64 k ∧ Aside0 (Bw w1 wr)) (fun iv _ => 12 - (intOf iv).toNat)
  case atStart => exact ⟨0, by omega, rfl, ⟨Bw.refl _⟩⟩
  case round =>
    obtain ⟨k, hk, rfl, HV⟩ := hrel
    have HWk := Aside0.mk (HW1.out.trans HV.out)
    by_cases hlt : k < 12
    · obtain ⟨x, hx⟩ : ∃ x, cK es k = x := ⟨_, rfl⟩
      have HXX := Aside0.mk hx
      have q1 : ∀ p : BwW wr, p.W.cell? ⟨w.heap.size, k, none⟩ = some (.int .i64 x) := fun p => p.cell ((HL1.out.bw HV.out).cell k _ (by rw [← HXX.out]; exact cenC_kind (cK es) _ _ mo no k hlt))
      have e1 : (x != x) = false := by simp
      clear hx
      go_wp2_with fail
      refine wp_region_bw (by kernel_rfl) (by kernel_rfl) ?_
      repeat (first | go_big_quiet_skip | (go_big_quiet_want; go_big_quiet_op; first | go_big_quiet_on | go_big_quiet_call ((go_at_call 90; exact qcall (refKind_eq HXX.out ((HX.out.bw HWk.out).bw (BwW.h _)) hl)))))
      refine wpQuiet_nil ?_
      rintro w2 ⟨⟨_, hb2⟩, rfl⟩
      go_wp2_with fail
      go_roundw
      case rel => exact ⟨k + 1, by omega, by go_num, ⟨HV.out.trans hb2⟩⟩
      case measure => simp [intOf]; omega
    · obtain rfl : k = 12 := by omega
      have HL1 := Aside0.mk (HL1.out.bw HV.out)
      have HL2 := Aside0.mk (HL2.out.bw HV.out)
      go_wp2_with fail
      obtain ⟨w2, hw2⟩ : ∃ w2, w2 = wr := ⟨_, rfl⟩
      subst hw2
      go_loopw [8] (fun iv wr => ∃ k : Nat, k ≤ n ∧ iv = .int .i64 k ∧ Aside0 (Bw w2 wr)) (fun iv _ => n - (intOf iv).toNat)
      case atStart => exact ⟨0, by omega, rfl, ⟨Bw.refl _⟩⟩
      case round =>
        obtain ⟨k, hk, rfl, HV⟩ := hrel
        have HWk := Aside0.mk (HWk.out.trans HV.out)
        have hc2 : wr.cell? ⟨w.heap.size + 1, 2, none⟩ = some (.int .i64 n) := (HL2.out.bw HV.out).cell 2 _ rfl
        by_cases hlt : k < n
        · obtain ⟨x0, hx0⟩ : ∃ x, cO es 1 k = x := ⟨_, rfl⟩
          obtain ⟨x1, hx1⟩ : ∃ x, cO es 9 k = x := ⟨_, rfl⟩
          obtain ⟨x2, hx2⟩ : ∃ x, cO es 2 k = x := ⟨_, rfl⟩
          have X0 := Aside0.mk hx0
          have X1 := Aside0.mk hx1
          have X2 := Aside0.mk hx2
          have HGk := Aside0.mk (pw_own_below HGR.out HWk.out)
          have c0 := own_cellj HGk.out (k * 3) (.int .i64 x0) (by rw [tabV_get _ _ _ (by omega), fG0, hx0])
          have c1' := own_cellj HGk.out (k * 3 + 1) (.int .i64 x1) (by rw [tabV_get _ _ _ (by omega), fG1, hx1])
          have c2' := own_cellj HGk.out (k * 3 + 2) (.int .i64 x2) (by rw [tabV_get _ _ _ (by omega), fG2, hx2])
          have hc1 : wr.cell? ⟨w.heap.size, 12, none⟩ = some (.slice (some ⟨g1, 0, none⟩) n c1) := (HL1.out.bw HV.out).cell 12 _ rfl
          have LR := Blk.new wr #[.int .i64 x0, .int .i64 x1, .int .i64 x2] 141
          have HWR := Aside0.mk (HV.out.alloc (.cells #[.int .i64 x0, .int .i64 x1, .int .i64 x2] 141))
          have HWS := Aside0.mk (HWk.out.alloc (.cells #[.int .i64 x0, .int .i64 x1, .int .i64 x2] 141))
          obtain ⟨W3, hW3⟩ : ∃ W3, W3 = wr.alloc (.cells #[.int .i64 x0, .int .i64 x1, .int .i64 x2] 141) := ⟨_, rfl⟩
          rw [← hW3] at LR HWR HWS
          have q0 : ∀ p : BwW W3, p.W.cell? ⟨wr.heap.size, 0, none⟩ = some (.int .i64 x0) := fun p => p.cell (LR.cell 0 _ rfl)
          have q1 : ∀ p : BwW W3, p.W.cell? ⟨wr.heap.size, 1, none⟩ = some (.int .i64 x1) := fun p => p.cell (LR.cell 1 _ rfl)
          have q2 : ∀ p : BwW W3, p.W.cell? ⟨wr.heap.size, 2, none⟩ = some (.int .i64 x2) := fun p => p.cell (LR.cell 2 _ rfl)
          have e0 : (x0 != x0) = false := by simp
          have e1 : (x1 != x1) = false := by simp
          have e2 : (x2 != x2) = false := by simp
          have HW3 := Aside0.mk hW3
          clear hx0 hx1 hx2 hW3 LR
          go_upto_region 12 with fail
          rw [← HW3.out]
          refine wp_region_bw (by kernel_rfl) (by kernel_rfl) ?_
          repeat (first | go_big_quiet_skip | (go_big_quiet_want; go_big_quiet_op; first | go_big_quiet_on | go_big_quiet_call ((go_at_call 91; first | exact qcall (refOf_eq X0.out ((HX.out.bw HWS.out).bw (BwW.h _)) hl) | exact qcall (refOf_eq X1.out ((HX.out.bw HWS.out).bw (BwW.h _)) hl) | exact qcall (refOf_eq X2.out ((HX.out.bw HWS.out).bw (BwW.h _)) hl)))))
          refine wpQuiet_nil ?_
          rintro w4 ⟨⟨_, hb4⟩, rfl⟩
          go_wp2_with fail
          go_roundw
          case rel => exact ⟨k + 1, by omega, by go_num, ⟨HWR.out.trans hb4⟩⟩
          case measure => simp [intOf]; omega
        · obtain rfl : n = k := by omega
          have HL1 := Aside0.mk (HL1.out.bw HV.out)
          have HL2 := Aside0.mk (HL2.out.bw HV.out)
          clear hlt
          go_wp2_with fail
          obtain ⟨w3, hw3⟩ : ∃ w3, w3 = wr := ⟨_, rfl⟩
          subst hw3
          clear hc2
          go_loopw [10] (fun iv wr => ∃ k : Nat, k ≤ m ∧ iv = .int .i64 k ∧ Aside0 (Bw w3 wr)) (fun iv _ => m - (intOf iv).toNat)
          case atStart => exact ⟨0, by omega, rfl, ⟨Bw.refl _⟩⟩
          case round =>
            obtain ⟨k, hk, rfl, HV⟩ := hrel
            have HWk := Aside0.mk (HWk.out.trans HV.out)
            have hc2 : wr.cell? ⟨w.heap.size + 1, 0, none⟩ = some (.int .i64 m) := (HL2.out.bw HV.out).cell 0 _ rfl
            by_cases hlt : k < m
            · obtain ⟨x, hx⟩ : ∃ x, cP es k = x := ⟨_, rfl⟩
              have HXX := Aside0.mk hx
              have HPk := Aside0.mk (pw_own_below HPR.out HWk.out)
              have c0 := own_cellj HPk.out k (.int .i64 x) (by rw [tabV_get _ _ _ hlt, hx])
              have hc1 : wr.cell? ⟨w.heap.size, 13, none⟩ = some (.slice (some ⟨g2, 0, none⟩) m c2) := (HL1.out.bw HV.out).cell 13 _ rfl
              have q0 : ∀ p : BwW wr, p.W.cell? ⟨g2, k, none⟩ = some (.int .i64 x) := fun p => p.cell c0
              have q1 : ∀ p : BwW wr, p.W.cell? ⟨w.heap.size, 13, none⟩ = some (.slice (some ⟨g2, 0, none⟩) m c2) := fun p => p.cell hc1
              have e1 : (x != x) = false := by simp
              clear hx c0 hc1
              go_wp2_with fail
              refine wp_region_bw (by kernel_rfl) (by kernel_rfl) ?_
              repeat (first | go_big_quiet_skip | (go_big_quiet_want; go_big_quiet_op; first | go_big_quiet_on | go_big_quiet_call ((go_at_call 92; exact qcall (refProc_eq HXX.out ((HX.out.bw HWk.out).bw (BwW.h _)) hl)))))
              refine wpQuiet_nil ?_
              rintro w4 ⟨⟨_, hb4⟩, rfl⟩
              go_wp2_with fail
              go_roundw
              case rel => exact ⟨k + 1, by omega, by go_num, ⟨HV.out.trans hb4⟩⟩
              case measure => simp [intOf]; omega
            · obtain rfl : m = k := by omega
              have hL := HL1.out.bw HV.out
              have k0 : wr.cell? ⟨w.heap.size, 0, none⟩ = some (.int .i64 (cK es 0)) := hL.cell 0 _ rfl
              have k1 : wr.cell? ⟨w.heap.size, 1, none⟩ = some (.int .i64 (cK es 1)) := hL.cell 1 _ rfl
              have k2 : wr.cell? ⟨w.heap.size, 2, none⟩ = some (.int .i64 (cK es 2)) := hL.cell 2 _ rfl
              have k3 : wr.cell? ⟨w.heap.size, 3, none⟩ = some (.int .i64 (cK es 3)) := hL.cell 3 _ rfl
              have k4 : wr.cell? ⟨w.heap.size, 4, none⟩ = some (.int .i64 (cK es 4)) := hL.cell 4 _ rfl
              have k5 : wr.cell? ⟨w.heap.size, 5, none⟩ = some (.int .i64 (cK es 5)) := hL.cell 5 _ rfl
              have k6 : wr.cell? ⟨w.heap.size, 6, none⟩ = some (.int .i64 (cK es 6)) := hL.cell 6 _ rfl
              have k7 : wr.cell? ⟨w.heap.size, 7, none⟩ = some (.int .i64 (cK es 7)) := hL.cell 7 _ rfl
              have k8 : wr.cell? ⟨w.heap.size, 8, none⟩ = some (.int .i64 (cK es 8)) := hL.cell 8 _ rfl
              have k9 : wr.cell? ⟨w.heap.size, 9, none⟩ = some (.int .i64 (cK es 9)) := hL.cell 9 _ rfl
              have k10 : wr.cell? ⟨w.heap.size, 10, none⟩ = some (.int .i64 (cK es 10)) := hL.cell 10 _ rfl
              have k11 : wr.cell? ⟨w.heap.size, 11, none⟩ = some (.int .i64 (cK es 11)) := hL.cell 11 _ rfl
              have k12 : wr.cell? ⟨w.heap.size, 12, none⟩ = some (.slice (some ⟨g1, 0, none⟩) n c1) := hL.cell 12 _ rfl
              have k13 : wr.cell? ⟨w.heap.size, 13, none⟩ = some (.slice (some ⟨g2, 0, none⟩) m c2) := hL.cell 13 _ rfl
              have k14 : wr.cell? ⟨w.heap.size, 14, none⟩ = some (.int .i64 mo) := hL.cell 14 _ rfl
              have k15 : wr.cell? ⟨w.heap.size, 15, none⟩ = some (.int .i64 no) := hL.cell 15 _ rfl
              have HFR := Aside0.mk (show ∀ j : Nat, 0 ≤ cK es j ∧ cK es j ≤ 1000 from fun j => by have := cB_range es (isK j); unfold cK; omega)
              have HLk := Aside0.mk hL
              clear hL hlt
              go_wp2_with fail
              refine (total_eq (sumTo_len es) HFR.out).mono ?_
              rintro e w5 ⟨rfl, hb5⟩
              have HLk := Aside0.mk (HLk.out.bw hb5)
              have HWk := Aside0.mk (HWk.out.trans hb5)
              clear k0 k1 k2 k3 k4 k5 k6 k7 k8 k9 k10 k11 k12 k13 k14 k15
              have k0 : w5.cell? ⟨w.heap.size, 0, none⟩ = some (.int .i64 (cK es 0)) := HLk.out.cell 0 _ rfl
              have k1 : w5.cell? ⟨w.heap.size, 1, none⟩ = some (.int .i64 (cK es 1)) := HLk.out.cell 1 _ rfl
              have k2 : w5.cell? ⟨w.heap.size, 2, none⟩ = some (.int .i64 (cK es 2)) := HLk.out.cell 2 _ rfl
              have k3 : w5.cell? ⟨w.heap.size, 3, none⟩ = some (.int .i64 (cK es 3)) := HLk.out.cell 3 _ rfl
              have k4 : w5.cell? ⟨w.heap.size, 4, none⟩ = some (.int .i64 (cK es 4)) := HLk.out.cell 4 _ rfl
              have k5 : w5.cell? ⟨w.heap.size, 5, none⟩ = some (.int .i64 (cK es 5)) := HLk.out.cell 5 _ rfl
              have k6 : w5.cell? ⟨w.heap.size, 6, none⟩ = some (.int .i64 (cK es 6)) := HLk.out.cell 6 _ rfl
              have k7 : w5.cell? ⟨w.heap.size, 7, none⟩ = some (.int .i64 (cK es 7)) := HLk.out.cell 7 _ rfl
              have k8 : w5.cell? ⟨w.heap.size, 8, none⟩ = some (.int .i64 (cK es 8)) := HLk.out.cell 8 _ rfl
              have k9 : w5.cell? ⟨w.heap.size, 9, none⟩ = some (.int .i64 (cK es 9)) := HLk.out.cell 9 _ rfl
              have k10 : w5.cell? ⟨w.heap.size, 10, none⟩ = some (.int .i64 (cK es 10)) := HLk.out.cell 10 _ rfl
              have k11 : w5.cell? ⟨w.heap.size, 11, none⟩ = some (.int .i64 (cK es 11)) := HLk.out.cell 11 _ rfl
              have k12 : w5.cell? ⟨w.heap.size, 12, none⟩ = some (.slice (some ⟨g1, 0, none⟩) n c1) := HLk.out.cell 12 _ rfl
              have k13 : w5.cell? ⟨w.heap.size, 13, none⟩ = some (.slice (some ⟨g2, 0, none⟩) m c2) := HLk.out.cell 13 _ rfl
              have k14 : w5.cell? ⟨w.heap.size, 14, none⟩ = some (.int .i64 mo) := HLk.out.cell 14 _ rfl
              have k15 : w5.cell? ⟨w.heap.size, 15, none⟩ = some (.int .i64 no) := HLk.out.cell 15 _ rfl
              have e1 : ((es.length : Int) == (es.length : Int)) = true := by simp
              go_wp2_with fail
              refine (Live_lit (cK es) (.slice (some ⟨g1, 0, none⟩) n c1) (.slice (some ⟨g2, 0, none⟩) m c2) mo no _ (HFR.out 2) (HFR.out 11)).mono ?_
              rintro e w6 ⟨rfl, hb6⟩
              have HWk := Aside0.mk (HWk.out.trans hb6)
              obtain ⟨x2, hx2⟩ : ∃ x, cK es 2 = x := ⟨_, rfl⟩
              obtain ⟨x11, hx11⟩ : ∃ x, cK es 11 = x := ⟨_, rfl⟩
              have X2 := Aside0.mk hx2
              have X11 := Aside0.mk hx11
              have r2 : 0 ≤ x2 ∧ x2 ≤ 1000 := by rw [← hx2]; exact HFR.out 2
              have r11 : 0 ≤ x11 ∧ x11 ≤ 1000 := by rw [← hx11]; exact HFR.out 11
              rw [hx2, hx11]
              clear k0 k1 k2 k3 k4 k5 k6 k7 k8 k9 k10 k11 k12 k13 k14 k15 hx2 hx11
              go_wp2_with fail
              refine (refKind_eq X2.out (HX.out.bw HWk.out) hl).mono ?_
              rintro e w7 ⟨rfl, hb7⟩
              have HWk := Aside0.mk (HWk.out.trans hb7)
              go_wp2_with fail
              refine (refKind_eq X11.out (HX.out.bw HWk.out) hl).mono ?_
              rintro e w8 ⟨rfl, hb8⟩
              have HWk := Aside0.mk (HWk.out.trans hb8)
              have e2 : (1 + x2 - x11 == 1 + x2 - x11) = true := by simp
              go_wp2_with fail
              go_ret
              exact ⟨rfl, HWk.out⟩
end Go.Proofs.Ytclippikdfcgkaa.M
