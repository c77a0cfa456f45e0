/- Are two memories alike; have two slices the same words. Conditions: sizes below 2^18. -/
import Derived.Test.YtclippikdfcgkaaMcg
import Derived.Test.YtclippikdfcgkaaWEqStruct
namespace Go.Proofs.Ytclippikdfcgkaa.M
open Go.RowKit Go.Proofs.YtclippikdfcgkaaW.PrintWords Go.Proofs.YtclippikdfcgkaaW.PrintLast Go.Proofs.YtclippikdfcgkaaW.PrintMore
set_option linter.unusedVariables false
set_option linter.unusedSimpArgs false
theorem eqAccess (d : Nat) (w : World) (x0 y0 x1 y1 x2 y2 x3 y3 x4 y4 : Int) (x5 y5 : Bool) :
    (Op.equalIn (d + 2) 76 (.agg #[.int .i64 x0, .int .i64 x1, .int .i64 x2, .int .u64 x3, .int .u64 x4, .bool x5]) (.agg #[.int .i64 y0, .int .i64 y1, .int .i64 y2, .int .u64 y3, .int .u64 y4, .bool y5])).run Try.prog w = .ok (x0 == y0 && (x1 == y1 && (x2 == y2 && (x3 == y3 && (x4 == y4 && x5 == y5))))) w := by
  refine eqA_of Try.underlying76 (by kernel_rfl) ?_
  refine eqf_cons (by rfl) (by go_simp; rfl) (by go_simp; rfl) (by go_simp) ?_
  refine eqf_cons (by rfl) (by go_simp; rfl) (by go_simp; rfl) (by go_simp) ?_
  refine eqf_cons (by rfl) (by go_simp; rfl) (by go_simp; rfl) (by go_simp) ?_
  refine eqf_cons (by rfl) (by go_simp; rfl) (by go_simp; rfl) (by go_simp) ?_
  refine eqf_cons (by rfl) (by go_simp; rfl) (by go_simp; rfl) (by go_simp) ?_
  exact eqf_last (by rfl) (by go_simp; rfl) (by go_simp; rfl) (by go_simp)
attribute [local go_sem ↓] eqAccess
section
variable {w w1 : World} {base b b' : Nat} {v v' : Value} {m : MemS}
theorem Last_agg (h : IsMem w base b v m) :
    Calls Try.prog 48 #[.pointer (some ⟨b, 0, none⟩)] w fun e w' => e = .returned (.agg #[.int .i64 m.last.kind, .int .i64 m.last.who, .int .i64 m.last.at_, .int .u64 m.last.old, .int .u64 m.last.new, .bool m.last.done]) ∧ Bw w w' := Last_calls base b v m w h

set_option maxHeartbeats 2000000 in
set_option maxRecDepth 100000 in
theorem Alike_calls (h : Both w base b b' v v' m) : Calls Try.prog 36 #[.pointer (some ⟨b, 0, none⟩), .pointer (some ⟨b', 0, none⟩)] w fun e w' => e = .returned (.bool true) ∧ Bw w w' := by
  have HB := Aside0.mk (Bw.refl w)
  have HM := Aside0.mk h.1
  have HR := Aside0.mk h.2.1
  clear h
  have k5 := HR.out.cells.2.2.2.2.2.1
  go_enter Try.func36, Try.ntmps36
  go_wp2_with fail
  refine (Peek_calls base b v m m.last.at_ _ HM.out).mono ?_
  rintro e w1 ⟨rfl, hb1⟩
  have HM := Aside0.mk (HM.out.bw hb1)
  have HR := Aside0.mk (HR.out.bw hb1)
  have k5 := HR.out.cells.2.2.2.2.2.1
  go_wp2_with fail
  refine (refPeek_calls m.last.at_ HR.out).mono ?_
  rintro e w2 ⟨rfl, hb2⟩
  have HM := Aside0.mk (HM.out.bw hb2)
  have HR := Aside0.mk (HR.out.bw hb2)
  have HB2 := Aside0.mk (hb1.trans hb2)
  obtain ⟨k0, k1, k2, k3, k4, k5, k6, k7, k8⟩ := HR.out.cells
  have q1 : ∀ p : BwW w2, p.W.cell? ⟨b', 1, none⟩ = some (.int .i64 m.clock) := fun p => p.cell k1
  have q2 : ∀ p : BwW w2, p.W.cell? ⟨b', 2, none⟩ = some (.int .i64 m.bad) := fun p => p.cell k2
  have q3 : ∀ p : BwW w2, p.W.cell? ⟨b', 3, none⟩ = some (.int .i64 m.last.kind) := fun p => p.cell k3
  have q4 : ∀ p : BwW w2, p.W.cell? ⟨b', 4, none⟩ = some (.int .i64 m.last.who) := fun p => p.cell k4
  have q5 : ∀ p : BwW w2, p.W.cell? ⟨b', 5, none⟩ = some (.int .i64 m.last.at_) := fun p => p.cell k5
  have q6 : ∀ p : BwW w2, p.W.cell? ⟨b', 6, none⟩ = some (.int .u64 m.last.old) := fun p => p.cell k6
  have q7 : ∀ p : BwW w2, p.W.cell? ⟨b', 7, none⟩ = some (.int .u64 m.last.new) := fun p => p.cell k7
  have q8 : ∀ p : BwW w2, p.W.cell? ⟨b', 8, none⟩ = some (.bool m.last.done) := fun p => p.cell k8
  clear k0 k1 k2 k3 k4 k5 k6 k7 k8
  obtain ⟨x, hx⟩ : ∃ x, x = (m.peek m.last.at_).1 := ⟨_, rfl⟩
  obtain ⟨y, hy⟩ : ∃ y, y = (m.peek m.last.at_).2 := ⟨_, rfl⟩
  rw [← hx, ← hy]
  clear hx hy
  have ex : (x == x) = true := by simp
  have ey : (y == y) = true := by simp
  go_wp2_with fail
  refine wp_region_bw (by kernel_rfl) (by kernel_rfl) ?_
  repeat (first | go_big_quiet_skip | (go_big_quiet_want; go_big_quiet_op; first | go_big_quiet_on | go_big_quiet_call (first | (go_at_call 46; exact qcall (Clock_calls base b v m _ (HM.out.bw (BwW.h _)))) | (go_at_call 47; exact qcall (Bad_calls base b v m _ (HM.out.bw (BwW.h _)))) | (go_at_call 48; exact qcall (Last_agg (HM.out.bw (BwW.h _)))))))
  refine wpQuiet_nil ?_
  rintro w3 ⟨⟨_, hb3⟩, rfl⟩
  go_wp2_with fail
  go_ret
  exact ⟨by simp, HB2.out.trans hb3⟩

set_option maxHeartbeats 1000000 in
theorem Same_calls (A B : Option Addr) (ca cb : Nat) (xs ys : List Int) (w : World) (hx : Rows (fun x => [Value.int .u64 x]) 1 w A xs) (hy : Rows (fun x => [Value.int .u64 x]) 1 w B ys) :
    Calls Try.prog 37 #[.slice A xs.length ca, .slice B ys.length cb] w fun e w' => e = .returned (.bool (decide (xs = ys))) ∧ Bw w w' := by
  have HB := Aside0.mk (Bw.refl w)
  by_cases hl : xs.length = ys.length
  · have hn : ((xs.length : Int) != (ys.length : Int)) = false := by simp; omega
    have hnm : xs.length ≤ 9223372036854775807 := hx.1
    have HX := Aside0.mk hx
    have HY := Aside0.mk hy
    have HL := Aside0.mk hl
    clear hx hy hl
    go_enter Try.func37, Try.ntmps37
    go_wp2_with fail
    go_loopw [5] (fun i wr => ∃ k : Nat, k ≤ xs.length ∧ i = .int .i64 k ∧ Aside0 (xs.take k = ys.take k) ∧ Aside0 (Bw w wr)) (fun i _ => xs.length - (intOf i).toNat)
    case atStart => exact ⟨0, by omega, rfl, ⟨rfl⟩, HB⟩
    case round =>
      obtain ⟨k, hk, rfl, HE, HW⟩ := hrel
      by_cases hlt : k < xs.length
      · obtain ⟨x, hx⟩ : ∃ x, xs[k]? = some x := ⟨_, List.getElem?_eq_getElem hlt⟩
        obtain ⟨y, hy⟩ : ∃ y, ys[k]? = some y := ⟨_, List.getElem?_eq_getElem (by have := HL.out; omega)⟩
        obtain ⟨ad, rfl, hck⟩ := (HX.out.bw HW.out).at1 k x hx
        obtain ⟨ad2, rfl, hck2⟩ := (HY.out.bw HW.out).at1 k y hy
        have HXk := Aside0.mk hx
        have HYk := Aside0.mk hy
        have q0 : ∀ p : BwW wr, p.W.cell? (ad.add k) = some (.int .u64 x) := fun p => p.cell hck
        have q1 : ∀ p : BwW wr, p.W.cell? (ad2.add k) = some (.int .u64 y) := fun p => p.cell hck2
        have hky : k < ys.length := by have := HL.out; omega
        clear hx hy hck hck2
        by_cases he : x = y
        · have e1 : (x != y) = false := by simpa using he
          have HEQ := Aside0.mk he
          clear he
          go_wp2_with fail
          refine wp_region_bw (by kernel_rfl) (by kernel_rfl) ?_
          repeat (first | go_big_quiet_skip | (go_big_quiet_want; go_big_quiet_op; first | go_big_quiet_on | go_big_quiet_call (fail)))
          refine wpQuiet_nil ?_
          rintro w3 ⟨⟨_, hb3⟩, rfl⟩
          go_wp2_with fail
          go_roundw
          case rel =>
            refine ⟨k + 1, by omega, by go_num, ⟨?_⟩, ⟨HW.out.trans hb3⟩⟩
            rw [List.take_add_one, List.take_add_one, HXk.out, HYk.out, HE.out, HEQ.out]
          case measure => simp [intOf]; omega
        · have e1 : (x != y) = true := by simpa using he
          have HEQ := Aside0.mk he
          clear he
          go_wp2_with fail
          refine wp_region_bw (by kernel_rfl) (by kernel_rfl) ?_
          repeat (first | go_big_quiet_skip | (go_big_quiet_want; go_big_quiet_op; first | go_big_quiet_on | go_big_quiet_call (fail)))
          refine wpQuiet_nil ?_
          rintro w3 ⟨⟨_, hb3⟩, rfl⟩
          go_wp2_with fail
          go_ret
          refine ⟨ret_bool (decide_eq_false fun h => HEQ.out ?_).symm, HW.out.trans hb3⟩
          have h1 := HXk.out
          rw [h, HYk.out] at h1
          exact (Option.some.inj h1).symm
      · obtain rfl : k = xs.length := by omega
        go_wp2_with fail
        go_ret
        refine ⟨ret_bool (decide_eq_true ?_).symm, HW.out⟩
        have := HE.out
        rw [List.take_length, HL.out, List.take_length] at this
        exact this
  · have hn : ((xs.length : Int) != (ys.length : Int)) = true := by simp; omega
    have HL := Aside0.mk hl
    clear hl hx hy
    go_enter Try.func37, Try.ntmps37
    go_wp2_with fail
    go_ret
    exact ⟨ret_bool (decide_eq_false fun h => HL.out (by rw [h])).symm, HB.out⟩
end
end Go.Proofs.Ytclippikdfcgkaa.M
