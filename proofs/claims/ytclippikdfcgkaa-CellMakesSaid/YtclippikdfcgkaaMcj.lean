/- The law CellMakes, walked: it answers true. Conditions: the arguments are of their kinds. -/
import Derived.Test.YtclippikdfcgkaaMci
import Derived.Deep.CutRange
namespace Go.Proofs.Ytclippikdfcgkaa.M
open Go.RowKit Go.Proofs.YtclippikdfcgkaaW.PrintWords Go.Proofs.YtclippikdfcgkaaW.PrintLast Go.Proofs.YtclippikdfcgkaaW.PrintMore
set_option linter.unusedVariables false
set_option linter.unusedSimpArgs false
attribute [local go_sem ↓] eqAccess
def actV (a : ActS) : Array Value := #[.int .i64 a.kind, .int .i64 a.who, .int .i64 a.at_, .int .u64 a.old, .int .u64 a.w]

theorem Same_eq (A B : Option Addr) (ca cb n n' : Nat) (xs ys : List Int) (w : World) (hn : xs.length = n) (hn' : ys.length = n') (hx : Rows (fun x => [Value.int .u64 x]) 1 w A xs) (hy : Rows (fun x => [Value.int .u64 x]) 1 w B ys) (h : xs = ys) :
    Calls Try.prog 37 #[.slice A n ca, .slice B n' cb] w fun e w' => e = .returned (.bool true) ∧ Bw w w' := by
  subst hn hn'
  refine (Same_calls A B ca cb xs ys w hx hy).mono ?_
  rintro e w' ⟨rfl, hb⟩
  rw [decide_eq_true h]
  exact ⟨rfl, hb⟩
theorem Words_eq {w : World} {base b : Nat} {v : Value} {m : MemS} (xs : List Int) (n : Nat) (h : IsMem w base b v m) (he : m.words = xs) (hn : xs.length = n) (hl : n ≤ 262144) :
    Calls Try.prog 38 #[.pointer (some ⟨b, 0, none⟩)] w fun e w' => ∃ A c, e = .returned (.slice A n c) ∧ Rows (fun x => [Value.int .u64 x]) 1 w' A xs ∧ Bw w w' := by
  subst he hn
  refine (Words_calls base b v m w h hl).mono ?_
  rintro e w' ⟨u, rfl, hu, hb⟩
  obtain ⟨A5, c5, rfl, hR5⟩ := Rows.own (enc := fun x : Int => [Value.int .u64 x]) (xs := m.words) (fun _ => rfl) (by rw [nums_flat]; exact hu) rfl (by omega)
  exact ⟨A5, c5, rfl, hR5, hb⟩
theorem made_rows (W : World) (q : Nat) (hq : q ≤ 100000) : Rows (fun x => [Value.int .u64 x]) 1 (W.alloc (.cells (madeCells #[.int .u64 0] q) 55)) (some ⟨W.heap.size, 0, none⟩) (List.replicate q 0) := by
  have HO := own_made W W.heap.size 55 .u64 q (Nat.le_refl _) (by omega)
  obtain ⟨A5, c5, e, hR5⟩ := Rows.own (enc := fun x : Int => [Value.int .u64 x]) (xs := List.replicate q 0) (fun _ => rfl) (by rw [nums_flat]; exact HO) (by simp) (by omega)
  injection e with e1 e2 e3
  rw [e1]
  exact hR5

set_option maxHeartbeats 4000000 in
set_option maxRecDepth 100000 in
theorem CellMakes_neg (n : Int) (A : Option Addr) (cap : Nat) (ws : List Int) (a : ActS) (w : World) (hx : Rows (fun x => [Value.int .u64 x]) 1 w A ws) (hl : ws.length ≤ 100) (hn : n < 0) :
    Calls Try.prog 7 #[.int .i64 n, .slice A ws.length cap, .agg (actV a)] w fun e w' => e = .returned (.bool true) ∧ Bw w w' := by
  have HB := Aside0.mk (Bw.refl w)
  have HX := Aside0.mk hx
  have d1 : decide ((100 : Int) < (ws.length : Int)) = false := by simp; omega
  have hwl : ws.length ≤ 9223372036854775807 := by omega
  have L := Blk.new w #[.int .i64 a.kind, .int .i64 a.who, .int .i64 a.at_, .int .u64 a.old, .int .u64 a.w] 71
  have C0 := Aside0.mk (HB.out.alloc (.cells #[.int .i64 a.kind, .int .i64 a.who, .int .i64 a.at_, .int .u64 a.old, .int .u64 a.w] 71))
  clear hx
  unfold actV
  have e1 : decide (300 < n) = false := by simp; omega
  have e2 : decide (n < 0) = true := by simp; omega
  have HN := Aside0.mk hn
  clear hn
  go_enter Try.func7, Try.ntmps7
  go_wp2_with fail
  refine (New_neg n _ HN.out).mono ?_
  rintro e w1 ⟨rfl, hb1⟩
  have e4 : decide (262144 < n) = false := by have := HN.out; simp; omega
  go_wp2_with fail
  refine wp_region_bw (by kernel_rfl) (by kernel_rfl) ?_
  repeat (first | go_big_quiet_skip | (go_big_quiet_want; go_big_quiet_op; first | go_big_quiet_on | go_big_quiet_call (fail)))
  refine wpQuiet_nil ?_
  rintro w2 ⟨⟨_, hb2⟩, rfl⟩
  have C2 := Aside0.mk (C0.out.trans (hb1.trans hb2))
  have L := L.bw (hb1.trans hb2)
  clear hb1 hb2
  have hmk := print_make (P := Try.prog) 41 55 .u64 8 Try.underlying41 infoU (by omega) ws.length (by omega)
  go_wp2_with fail
  clear hmk
  have HO := own_made w2 w2.heap.size 55 .u64 ws.length (Nat.le_refl _) (by omega)
  go_loopw [11] (fun iv wr => ∃ (k : Nat) (ys : List Int), k ≤ ws.length ∧ iv = .int .i64 k ∧ Aside0 (ys.take k = ws.take k) ∧ Aside0 (wr.ownsRow w2.heap.size 55 1 (.slice (some ⟨w2.heap.size, 0, none⟩) ws.length ws.length) ws.length (nums .u64 ys)) ∧ Aside0 (ys.length = ws.length) ∧ Aside0 (Bw w2 wr)) (fun iv _ => ws.length - (intOf iv).toNat)
  case atStart => exact ⟨0, List.replicate ws.length 0, by omega, rfl, ⟨rfl⟩, ⟨HO⟩, ⟨by simp⟩, ⟨(Bw.refl _).alloc _⟩⟩
  case round =>
    obtain ⟨k, ys, hk, rfl, HE, HOk, HL, HW⟩ := hrel
    have HWX := Aside0.mk (C2.out.trans HW.out)
    by_cases hlt : k < ws.length
    · obtain ⟨x, hx⟩ : ∃ x, ws[k]? = some x := ⟨_, List.getElem?_eq_getElem hlt⟩
      obtain ⟨ad, rfl, hck⟩ := (HX.out.bw HWX.out).at1 k x hx
      have HXk := Aside0.mk hx
      have hat := own_at HOk.out (k : Int) (by omega) (by omega)
      simp only [Int.toNat_natCast] at hat
      have x0 := hat.1
      have x1 := hat.2
      have hbl : w2.heap.size < wr.heap.size := own_lt HOk.out _ rfl
      clear hx hat
      go_wp2_with fail
      go_roundw
      case rel =>
        have hs := (own_store HOk.out (k : Int) x).1
        simp only [Int.toNat_natCast] at hs
        refine ⟨k + 1, ys.set k x, by omega, by go_num, ⟨?_⟩, ⟨hs⟩, ⟨by simpa using HL.out⟩, ⟨HW.out.setCell (Nat.le_refl _) _⟩⟩
        have h1 : (ys.set k x)[k]? = some x := by
          rw [List.getElem?_set, if_pos rfl, if_pos (by have := HL.out; omega)]
        rw [List.take_add_one, List.take_add_one, HXk.out, List.take_set_of_le (Nat.le_refl _), HE.out, h1]
      case measure => simp [intOf]; omega
    · obtain rfl : k = ws.length := by omega
      have hys : ys = ws := by
        have h1 := HE.out
        rw [List.take_length, ← HL.out, List.take_length] at h1
        exact h1
      subst hys
      have hRy := Rows.own (enc := fun x : Int => [Value.int .u64 x]) (xs := ys) (fun _ => rfl) (by rw [nums_flat]; exact HOk.out) rfl (by omega)
      obtain ⟨A1, c1, e1, hR1⟩ := hRy
      injection e1 with e1 e2 e3
      subst e1
      have HRy := Aside0.mk hR1
      clear hR1 e2 e3
      go_wp2_with fail
      refine (Of_calls (some ⟨w2.heap.size, 0, none⟩) ys.length ys wr HRy.out (by omega) (by simp)).mono ?_
      rintro e w3 ⟨ob, ov, rfl, hM3, hb3⟩
      have HM3 := Aside0.mk hM3
      have HO3 := Aside0.mk (pw_own_below HOk.out hb3)
      have HW3 := Aside0.mk (HW.out.trans hb3)
      have HLT := Aside0.mk (own_lt HOk.out _ rfl)
      clear hM3 hb3
      go_wp2_with fail
      obtain ⟨wo, hwo⟩ : ∃ wo, wo = wr := ⟨_, rfl⟩
      subst hwo
      go_loopw [14] (fun iv wr => ∃ (k : Nat) (zs : List Int), k ≤ ys.length ∧ iv = .int .i64 k ∧ Aside0 (wr.ownsRow w2.heap.size 55 1 (.slice (some ⟨w2.heap.size, 0, none⟩) ys.length ys.length) ys.length (nums .u64 zs)) ∧ Aside0 (zs.length = ys.length) ∧ Aside0 (IsMem wr wo.heap.size ob ov (memOf ys)) ∧ Aside0 (Bw w2 wr)) (fun iv _ => ys.length - (intOf iv).toNat)
      case atStart => exact ⟨0, ys, by omega, rfl, HO3, ⟨rfl⟩, HM3, HW3⟩
      case round =>
        obtain ⟨k, zs, hk, rfl, HOz, HLz, HMz, HWz⟩ := hrel
        by_cases hlt : k < ys.length
        · have hat := own_at HOz.out (k : Int) (by omega) (by omega)
          simp only [Int.toNat_natCast] at hat
          have x0 := hat.1
          have x1 := hat.2
          have hbl : w2.heap.size < wr.heap.size := own_lt HOz.out _ rfl
          clear hat
          go_wp2_with fail
          go_roundw
          case rel =>
            have hs := (own_store HOz.out (k : Int) 77).1
            simp only [Int.toNat_natCast] at hs
            refine ⟨k + 1, zs.set k 77, by omega, by go_num, ⟨hs⟩, ⟨by simpa using HLz.out⟩, ⟨?_⟩, ⟨HWz.out.setCell (Nat.le_refl _) _⟩⟩
            refine HMz.out.chg ((Chg.refl (fun i => i = w2.heap.size) wr).setb rfl _) ?_
            intro i hi hj
            have h1 := HMz.out.ge i hi
            have h2 := HLT.out
            omega
          case measure => simp [intOf]; omega
        · obtain rfl : k = ys.length := by omega
          have HWY := Aside0.mk (C2.out.trans HWz.out)
          have L4 := L.bw HWz.out
          have e1 := L4.cell 1 (.int .i64 a.who) rfl
          have e2 := L4.cell 2 (.int .i64 a.at_) rfl
          have e4 := L4.cell 4 (.int .u64 a.w) rfl
          go_wp2_with fail
          refine (Store_nil a.who a.at_ a.w _).mono ?_
          rintro e w4 ⟨rfl, hb4⟩
          have HMz := Aside0.mk (HMz.out.bw hb4)
          have HWY := Aside0.mk (HWY.out.trans hb4)
          have L5 := L4.bw hb4
          have e2 := L5.cell 2 (.int .i64 a.at_) rfl
          go_wp2_with fail
          refine (Peek_nil a.at_ _).mono ?_
          rintro e w5 ⟨rfl, hb5⟩
          have HMz := Aside0.mk (HMz.out.bw hb5)
          have HWY := Aside0.mk (HWY.out.trans hb5)
          have L6 := L5.bw hb5
          go_wp2_with fail
          refine (cawake_calls _).mono ?_
          rintro e w6 ⟨rfl, hb6⟩
          have HMz := Aside0.mk (HMz.out.bw hb6)
          have HWY := Aside0.mk (HWY.out.trans hb6)
          have L7 := L6.bw hb6
          go_wp2_with fail
          refine (Words_eq ys ys.length HMz.out rfl rfl (by omega)).mono ?_
          rintro e w7 ⟨A7, c7, rfl, hr7, hb7⟩
          have HR7 := Aside0.mk hr7
          have HWY := Aside0.mk (HWY.out.trans hb7)
          have L8 := L7.bw hb7
          clear hr7
          go_wp2_with fail
          refine (Same_eq A7 A c7 cap ys.length ys.length ys ys _ rfl rfl HR7.out (HX.out.bw HWY.out) rfl).mono ?_
          rintro e w8 ⟨rfl, hb8⟩
          have HWY := Aside0.mk (HWY.out.trans hb8)
          have L9 := L8.bw hb8
          have e1 := L9.cell 1 (.int .i64 a.who) rfl
          have e2 := L9.cell 2 (.int .i64 a.at_) rfl
          go_wp2_with fail
          refine (Load_nil a.who a.at_ _).mono ?_
          rintro e w9 ⟨rfl, hb9⟩
          have HWY := Aside0.mk (HWY.out.trans hb9)
          clear e1 e2
          have L10 := L9.bw hb9
          have e1 := L10.cell 1 (.int .i64 a.who) rfl
          have e2 := L10.cell 2 (.int .i64 a.at_) rfl
          have e3 := L10.cell 3 (.int .u64 a.old) rfl
          have e4 := L10.cell 4 (.int .u64 a.w) rfl
          go_wp2_with fail
          refine (Swap_nil a.who a.at_ a.old a.w _).mono ?_
          rintro e w10 ⟨rfl, hb10⟩
          have HWY := Aside0.mk (HWY.out.trans hb10)
          clear e1 e2 e3 e4
          have L11 := L10.bw hb10
          have e1 := L11.cell 1 (.int .i64 a.who) rfl
          have e2 := L11.cell 2 (.int .i64 a.at_) rfl
          have e4 := L11.cell 4 (.int .u64 a.w) rfl
          go_wp2_with fail
          refine (Add_nil a.who a.at_ a.w _).mono ?_
          rintro e w11 ⟨rfl, hb11⟩
          have HWY := Aside0.mk (HWY.out.trans hb11)
          clear e1 e2 e4
          have L12 := L11.bw hb11
          go_wp2_with fail
          refine (Words_nil _).mono ?_
          rintro e w12 ⟨rfl, hb12⟩
          have HWY := Aside0.mk (HWY.out.trans hb12)
          have L13 := L12.bw hb12
          go_wp2_with fail
          refine (Len_nil _).mono ?_
          rintro e w13 ⟨rfl, hb13⟩
          have HWY := Aside0.mk (HWY.out.trans hb13)
          have L14 := L13.bw hb13
          go_wp2_with fail
          refine (Clock_nil _).mono ?_
          rintro e w14 ⟨rfl, hb14⟩
          have HWY := Aside0.mk (HWY.out.trans hb14)
          have L15 := L14.bw hb14
          go_wp2_with fail
          refine (Bad_nil _).mono ?_
          rintro e w15 ⟨rfl, hb15⟩
          have HWY := Aside0.mk (HWY.out.trans hb15)
          have L16 := L15.bw hb15
          go_wp2_with fail
          refine (Last_nil _).mono ?_
          rintro e w16 ⟨rfl, hb16⟩
          have HWY := Aside0.mk (HWY.out.trans hb16)
          unfold Acc.cells acc0
          go_wp2_with fail
          go_ret
          exact ⟨rfl, HWY.out⟩
set_option maxHeartbeats 4000000 in
set_option maxRecDepth 100000 in
theorem CellMakes_long (n : Int) (A : Option Addr) (cap : Nat) (ws : List Int) (a : ActS) (w : World) (hx : Rows (fun x => [Value.int .u64 x]) 1 w A ws) (hl : ws.length ≤ 100) (hn : 262144 < n) :
    Calls Try.prog 7 #[.int .i64 n, .slice A ws.length cap, .agg (actV a)] w fun e w' => e = .returned (.bool true) ∧ Bw w w' := by
  have HB := Aside0.mk (Bw.refl w)
  have HX := Aside0.mk hx
  have d1 : decide ((100 : Int) < (ws.length : Int)) = false := by simp; omega
  have hwl : ws.length ≤ 9223372036854775807 := by omega
  have L := Blk.new w #[.int .i64 a.kind, .int .i64 a.who, .int .i64 a.at_, .int .u64 a.old, .int .u64 a.w] 71
  have C0 := Aside0.mk (HB.out.alloc (.cells #[.int .i64 a.kind, .int .i64 a.who, .int .i64 a.at_, .int .u64 a.old, .int .u64 a.w] 71))
  clear hx
  unfold actV
  have e1 : decide (300 < n) = true := by simp; omega
  have e2 : decide (n ≤ 262144) = false := by simp; omega
  have HN := Aside0.mk hn
  clear hn
  go_enter Try.func7, Try.ntmps7
  go_wp2_with fail
  refine (New_long n _ HN.out).mono ?_
  rintro e w1 ⟨rfl, hb1⟩
  have e3 : decide (n < 0) = false := by have := HN.out; simp; omega
  have e4 : decide (262144 < n) = true := by have := HN.out; simp; omega
  go_wp2_with fail
  refine wp_region_bw (by kernel_rfl) (by kernel_rfl) ?_
  repeat (first | go_big_quiet_skip | (go_big_quiet_want; go_big_quiet_op; first | go_big_quiet_on | go_big_quiet_call (fail)))
  refine wpQuiet_nil ?_
  rintro w2 ⟨⟨_, hb2⟩, rfl⟩
  have C2 := Aside0.mk (C0.out.trans (hb1.trans hb2))
  have L := L.bw (hb1.trans hb2)
  clear hb1 hb2
  have hmk := print_make (P := Try.prog) 41 55 .u64 8 Try.underlying41 infoU (by omega) ws.length (by omega)
  go_wp2_with fail
  clear hmk
  have HO := own_made w2 w2.heap.size 55 .u64 ws.length (Nat.le_refl _) (by omega)
  go_loopw [11] (fun iv wr => ∃ (k : Nat) (ys : List Int), k ≤ ws.length ∧ iv = .int .i64 k ∧ Aside0 (ys.take k = ws.take k) ∧ Aside0 (wr.ownsRow w2.heap.size 55 1 (.slice (some ⟨w2.heap.size, 0, none⟩) ws.length ws.length) ws.length (nums .u64 ys)) ∧ Aside0 (ys.length = ws.length) ∧ Aside0 (Bw w2 wr)) (fun iv _ => ws.length - (intOf iv).toNat)
  case atStart => exact ⟨0, List.replicate ws.length 0, by omega, rfl, ⟨rfl⟩, ⟨HO⟩, ⟨by simp⟩, ⟨(Bw.refl _).alloc _⟩⟩
  case round =>
    obtain ⟨k, ys, hk, rfl, HE, HOk, HL, HW⟩ := hrel
    have HWX := Aside0.mk (C2.out.trans HW.out)
    by_cases hlt : k < ws.length
    · obtain ⟨x, hx⟩ : ∃ x, ws[k]? = some x := ⟨_, List.getElem?_eq_getElem hlt⟩
      obtain ⟨ad, rfl, hck⟩ := (HX.out.bw HWX.out).at1 k x hx
      have HXk := Aside0.mk hx
      have hat := own_at HOk.out (k : Int) (by omega) (by omega)
      simp only [Int.toNat_natCast] at hat
      have x0 := hat.1
      have x1 := hat.2
      have hbl : w2.heap.size < wr.heap.size := own_lt HOk.out _ rfl
      clear hx hat
      go_wp2_with fail
      go_roundw
      case rel =>
        have hs := (own_store HOk.out (k : Int) x).1
        simp only [Int.toNat_natCast] at hs
        refine ⟨k + 1, ys.set k x, by omega, by go_num, ⟨?_⟩, ⟨hs⟩, ⟨by simpa using HL.out⟩, ⟨HW.out.setCell (Nat.le_refl _) _⟩⟩
        have h1 : (ys.set k x)[k]? = some x := by
          rw [List.getElem?_set, if_pos rfl, if_pos (by have := HL.out; omega)]
        rw [List.take_add_one, List.take_add_one, HXk.out, List.take_set_of_le (Nat.le_refl _), HE.out, h1]
      case measure => simp [intOf]; omega
    · obtain rfl : k = ws.length := by omega
      have hys : ys = ws := by
        have h1 := HE.out
        rw [List.take_length, ← HL.out, List.take_length] at h1
        exact h1
      subst hys
      have hRy := Rows.own (enc := fun x : Int => [Value.int .u64 x]) (xs := ys) (fun _ => rfl) (by rw [nums_flat]; exact HOk.out) rfl (by omega)
      obtain ⟨A1, c1, e1, hR1⟩ := hRy
      injection e1 with e1 e2 e3
      subst e1
      have HRy := Aside0.mk hR1
      clear hR1 e2 e3
      go_wp2_with fail
      refine (Of_calls (some ⟨w2.heap.size, 0, none⟩) ys.length ys wr HRy.out (by omega) (by simp)).mono ?_
      rintro e w3 ⟨ob, ov, rfl, hM3, hb3⟩
      have HM3 := Aside0.mk hM3
      have HO3 := Aside0.mk (pw_own_below HOk.out hb3)
      have HW3 := Aside0.mk (HW.out.trans hb3)
      have HLT := Aside0.mk (own_lt HOk.out _ rfl)
      clear hM3 hb3
      go_wp2_with fail
      obtain ⟨wo, hwo⟩ : ∃ wo, wo = wr := ⟨_, rfl⟩
      subst hwo
      go_loopw [14] (fun iv wr => ∃ (k : Nat) (zs : List Int), k ≤ ys.length ∧ iv = .int .i64 k ∧ Aside0 (wr.ownsRow w2.heap.size 55 1 (.slice (some ⟨w2.heap.size, 0, none⟩) ys.length ys.length) ys.length (nums .u64 zs)) ∧ Aside0 (zs.length = ys.length) ∧ Aside0 (IsMem wr wo.heap.size ob ov (memOf ys)) ∧ Aside0 (Bw w2 wr)) (fun iv _ => ys.length - (intOf iv).toNat)
      case atStart => exact ⟨0, ys, by omega, rfl, HO3, ⟨rfl⟩, HM3, HW3⟩
      case round =>
        obtain ⟨k, zs, hk, rfl, HOz, HLz, HMz, HWz⟩ := hrel
        by_cases hlt : k < ys.length
        · have hat := own_at HOz.out (k : Int) (by omega) (by omega)
          simp only [Int.toNat_natCast] at hat
          have x0 := hat.1
          have x1 := hat.2
          have hbl : w2.heap.size < wr.heap.size := own_lt HOz.out _ rfl
          clear hat
          go_wp2_with fail
          go_roundw
          case rel =>
            have hs := (own_store HOz.out (k : Int) 77).1
            simp only [Int.toNat_natCast] at hs
            refine ⟨k + 1, zs.set k 77, by omega, by go_num, ⟨hs⟩, ⟨by simpa using HLz.out⟩, ⟨?_⟩, ⟨HWz.out.setCell (Nat.le_refl _) _⟩⟩
            refine HMz.out.chg ((Chg.refl (fun i => i = w2.heap.size) wr).setb rfl _) ?_
            intro i hi hj
            have h1 := HMz.out.ge i hi
            have h2 := HLT.out
            omega
          case measure => simp [intOf]; omega
        · obtain rfl : k = ys.length := by omega
          have HWY := Aside0.mk (C2.out.trans HWz.out)
          have L4 := L.bw HWz.out
          have e1 := L4.cell 1 (.int .i64 a.who) rfl
          have e2 := L4.cell 2 (.int .i64 a.at_) rfl
          have e4 := L4.cell 4 (.int .u64 a.w) rfl
          go_wp2_with fail
          refine (Store_nil a.who a.at_ a.w _).mono ?_
          rintro e w4 ⟨rfl, hb4⟩
          have HMz := Aside0.mk (HMz.out.bw hb4)
          have HWY := Aside0.mk (HWY.out.trans hb4)
          have L5 := L4.bw hb4
          have e2 := L5.cell 2 (.int .i64 a.at_) rfl
          go_wp2_with fail
          refine (Peek_nil a.at_ _).mono ?_
          rintro e w5 ⟨rfl, hb5⟩
          have HMz := Aside0.mk (HMz.out.bw hb5)
          have HWY := Aside0.mk (HWY.out.trans hb5)
          have L6 := L5.bw hb5
          go_wp2_with fail
          refine (cawake_calls _).mono ?_
          rintro e w6 ⟨rfl, hb6⟩
          have HMz := Aside0.mk (HMz.out.bw hb6)
          have HWY := Aside0.mk (HWY.out.trans hb6)
          have L7 := L6.bw hb6
          go_wp2_with fail
          refine (Words_eq ys ys.length HMz.out rfl rfl (by omega)).mono ?_
          rintro e w7 ⟨A7, c7, rfl, hr7, hb7⟩
          have HR7 := Aside0.mk hr7
          have HWY := Aside0.mk (HWY.out.trans hb7)
          have L8 := L7.bw hb7
          clear hr7
          go_wp2_with fail
          refine (Same_eq A7 A c7 cap ys.length ys.length ys ys _ rfl rfl HR7.out (HX.out.bw HWY.out) rfl).mono ?_
          rintro e w8 ⟨rfl, hb8⟩
          have HWY := Aside0.mk (HWY.out.trans hb8)
          have L9 := L8.bw hb8
          have e1 := L9.cell 1 (.int .i64 a.who) rfl
          have e2 := L9.cell 2 (.int .i64 a.at_) rfl
          go_wp2_with fail
          refine (Load_nil a.who a.at_ _).mono ?_
          rintro e w9 ⟨rfl, hb9⟩
          have HWY := Aside0.mk (HWY.out.trans hb9)
          clear e1 e2
          have L10 := L9.bw hb9
          have e1 := L10.cell 1 (.int .i64 a.who) rfl
          have e2 := L10.cell 2 (.int .i64 a.at_) rfl
          have e3 := L10.cell 3 (.int .u64 a.old) rfl
          have e4 := L10.cell 4 (.int .u64 a.w) rfl
          go_wp2_with fail
          refine (Swap_nil a.who a.at_ a.old a.w _).mono ?_
          rintro e w10 ⟨rfl, hb10⟩
          have HWY := Aside0.mk (HWY.out.trans hb10)
          clear e1 e2 e3 e4
          have L11 := L10.bw hb10
          have e1 := L11.cell 1 (.int .i64 a.who) rfl
          have e2 := L11.cell 2 (.int .i64 a.at_) rfl
          have e4 := L11.cell 4 (.int .u64 a.w) rfl
          go_wp2_with fail
          refine (Add_nil a.who a.at_ a.w _).mono ?_
          rintro e w11 ⟨rfl, hb11⟩
          have HWY := Aside0.mk (HWY.out.trans hb11)
          clear e1 e2 e4
          have L12 := L11.bw hb11
          go_wp2_with fail
          refine (Words_nil _).mono ?_
          rintro e w12 ⟨rfl, hb12⟩
          have HWY := Aside0.mk (HWY.out.trans hb12)
          have L13 := L12.bw hb12
          go_wp2_with fail
          refine (Len_nil _).mono ?_
          rintro e w13 ⟨rfl, hb13⟩
          have HWY := Aside0.mk (HWY.out.trans hb13)
          have L14 := L13.bw hb13
          go_wp2_with fail
          refine (Clock_nil _).mono ?_
          rintro e w14 ⟨rfl, hb14⟩
          have HWY := Aside0.mk (HWY.out.trans hb14)
          have L15 := L14.bw hb14
          go_wp2_with fail
          refine (Bad_nil _).mono ?_
          rintro e w15 ⟨rfl, hb15⟩
          have HWY := Aside0.mk (HWY.out.trans hb15)
          have L16 := L15.bw hb15
          go_wp2_with fail
          refine (Last_nil _).mono ?_
          rintro e w16 ⟨rfl, hb16⟩
          have HWY := Aside0.mk (HWY.out.trans hb16)
          unfold Acc.cells acc0
          go_wp2_with fail
          go_ret
          exact ⟨rfl, HWY.out⟩
set_option maxHeartbeats 4000000 in
set_option maxRecDepth 100000 in
theorem CellMakes_ok (n : Int) (A : Option Addr) (cap : Nat) (ws : List Int) (a : ActS) (w : World) (hx : Rows (fun x => [Value.int .u64 x]) 1 w A ws) (hl : ws.length ≤ 100) (hn : 0 ≤ n ∧ n ≤ 300) :
    Calls Try.prog 7 #[.int .i64 n, .slice A ws.length cap, .agg (actV a)] w fun e w' => e = .returned (.bool true) ∧ Bw w w' := by
  have HB := Aside0.mk (Bw.refl w)
  have HX := Aside0.mk hx
  have d1 : decide ((100 : Int) < (ws.length : Int)) = false := by simp; omega
  have hwl : ws.length ≤ 9223372036854775807 := by omega
  have L := Blk.new w #[.int .i64 a.kind, .int .i64 a.who, .int .i64 a.at_, .int .u64 a.old, .int .u64 a.w] 71
  have C0 := Aside0.mk (HB.out.alloc (.cells #[.int .i64 a.kind, .int .i64 a.who, .int .i64 a.at_, .int .u64 a.old, .int .u64 a.w] 71))
  clear hx
  unfold actV
  obtain ⟨n0, n1⟩ := hn
  obtain ⟨q, rfl⟩ := Int.eq_ofNat_of_zero_le n0
  have e1 : decide ((300 : Int) < (q : Int)) = false := by simp; omega
  have HN := Aside0.mk (show q ≤ 300 by omega)
  clear n0 n1
  go_enter Try.func7, Try.ntmps7
  go_wp2_with fail
  refine (New_calls q _ (by have := HN.out; omega)).mono ?_
  rintro e w1 ⟨b, v, rfl, hM1, hb1⟩
  obtain ⟨bs, hbs⟩ : ∃ bs, IsMem w1 bs b v (memOf (List.replicate q 0)) := ⟨_, hM1⟩
  have HM := Aside0.mk hbs
  clear hbs
  have e3 : decide ((q : Int) < 0) = false := by simp
  have e4 : decide ((262144 : Int) < (q : Int)) = false := by have := HN.out; simp; omega
  have L1 := L.bw hb1
  have C1 := Aside0.mk (C0.out.trans hb1)
  clear hM1
  go_upto_region 9 with fail
  have hmk := print_make (P := Try.prog) 41 55 .u64 8 Try.underlying41 infoU (by omega) q (by have := HN.out; omega)
  go_cut [66] from 39 to 66 (fun v wx => v = .bool false ∧ Aside0 (Bw w1 wx))
  case first =>
    have hq1 : ((q : Int) != (q : Int)) = false := by simp
    have HM := Aside0.mk (HM.out.bw (Bw.refl w1).drew)
    have HW := Aside0.mk (Bw.refl w1).drew
    have HQ := Aside0.mk (show q ≤ 100000 by have := HN.out; omega)
    have HQ2 := Aside0.mk (show q ≤ 262144 by have := HN.out; omega)
    have HL0 := Aside0.mk (List.length_replicate (n := q) (a := (0 : Int)))
    have HW0 := Aside0.mk (show (memOf (List.replicate q 0)).words = List.replicate q 0 from rfl)
    go_region_held3 (fun W => True) (trivial) ((first | (go_at_call 39; refine (Len_calls _ b v _ _ HM.out).mono ?_; rintro e w3 ⟨rfl, hb3⟩; rw [HW0.out, HL0.out]; have HM := Aside0.mk (HM.out.bw hb3); have HW := Aside0.mk (HW.out.trans hb3); clear hb3) | (go_at_call 38; refine (Words_eq (base := bs) (b := b) (v := v) (m := memOf (List.replicate q 0)) (List.replicate q 0) q (?hm) HW0.out HL0.out HQ2.out).mono ?_; (case hm => first | (with_reducible exact HM.out) | (with_reducible exact HM.out.bw ((Bw.refl _).alloc _))); rintro e w4 ⟨A4, c4, rfl, hr4, hb4⟩; have HR4 := Aside0.mk hr4; have HB4 := Aside0.mk hb4; clear hr4 hb4) | (go_at_call 37; refine (Same_eq A4 _ c4 q q q (List.replicate q 0) (List.replicate q 0) _ HL0.out HL0.out ?h1 ?h2 rfl).mono ?_; (case h1 => first | (with_reducible exact HR4.out) | (with_reducible exact HR4.out.bw ((Bw.refl _).alloc _))); (case h2 => first | (with_reducible exact made_rows _ q HQ.out) | (with_reducible exact (made_rows _ q HQ.out).bw HB4.out)); rintro e w5 ⟨rfl, hb5⟩; first | (have HW := Aside0.mk ((HW.out.trans HB4.out).trans hb5); clear hb5) | (have HW := Aside0.mk (((HW.out.alloc _).trans HB4.out).trans hb5); clear hb5) | (have HW := Aside0.mk (((HW.out.trans HB4.out).alloc _).trans hb5); clear hb5))))
    all_goals go_wp2_with fail
    all_goals go_meet
    all_goals (case rel => exact ⟨rfl, HW⟩)
  case rest =>
  obtain ⟨rfl, hcw⟩ := hcut
  have C2 := Aside0.mk (C1.out.trans hcw.out)
  have L := L1.bw hcw.out
  clear hb1 hcw hmk
  obtain ⟨w2, rfl⟩ : ∃ w2, w2 = wc := ⟨_, rfl⟩
  have hmk := print_make (P := Try.prog) 41 55 .u64 8 Try.underlying41 infoU (by omega) ws.length (by omega)
  go_wp2_with fail
  clear hmk
  have HO := own_made w2 w2.heap.size 55 .u64 ws.length (Nat.le_refl _) (by omega)
  go_loopw [11] (fun iv wr => ∃ (k : Nat) (ys : List Int), k ≤ ws.length ∧ iv = .int .i64 k ∧ Aside0 (ys.take k = ws.take k) ∧ Aside0 (wr.ownsRow w2.heap.size 55 1 (.slice (some ⟨w2.heap.size, 0, none⟩) ws.length ws.length) ws.length (nums .u64 ys)) ∧ Aside0 (ys.length = ws.length) ∧ Aside0 (Bw w2 wr)) (fun iv _ => ws.length - (intOf iv).toNat)
  case atStart => exact ⟨0, List.replicate ws.length 0, by omega, rfl, ⟨rfl⟩, ⟨HO⟩, ⟨by simp⟩, ⟨(Bw.refl _).alloc _⟩⟩
  case round =>
    obtain ⟨k, ys, hk, rfl, HE, HOk, HL, HW⟩ := hrel
    have HWX := Aside0.mk (C2.out.trans HW.out)
    by_cases hlt : k < ws.length
    · obtain ⟨x, hx⟩ : ∃ x, ws[k]? = some x := ⟨_, List.getElem?_eq_getElem hlt⟩
      obtain ⟨ad, rfl, hck⟩ := (HX.out.bw HWX.out).at1 k x hx
      have HXk := Aside0.mk hx
      have hat := own_at HOk.out (k : Int) (by omega) (by omega)
      simp only [Int.toNat_natCast] at hat
      have x0 := hat.1
      have x1 := hat.2
      have hbl : w2.heap.size < wr.heap.size := own_lt HOk.out _ rfl
      clear hx hat
      go_wp2_with fail
      go_roundw
      case rel =>
        have hs := (own_store HOk.out (k : Int) x).1
        simp only [Int.toNat_natCast] at hs
        refine ⟨k + 1, ys.set k x, by omega, by go_num, ⟨?_⟩, ⟨hs⟩, ⟨by simpa using HL.out⟩, ⟨HW.out.setCell (Nat.le_refl _) _⟩⟩
        have h1 : (ys.set k x)[k]? = some x := by
          rw [List.getElem?_set, if_pos rfl, if_pos (by have := HL.out; omega)]
        rw [List.take_add_one, List.take_add_one, HXk.out, List.take_set_of_le (Nat.le_refl _), HE.out, h1]
      case measure => simp [intOf]; omega
    · obtain rfl : k = ws.length := by omega
      have hys : ys = ws := by
        have h1 := HE.out
        rw [List.take_length, ← HL.out, List.take_length] at h1
        exact h1
      subst hys
      have hRy := Rows.own (enc := fun x : Int => [Value.int .u64 x]) (xs := ys) (fun _ => rfl) (by rw [nums_flat]; exact HOk.out) rfl (by omega)
      obtain ⟨A1, c1, e1, hR1⟩ := hRy
      injection e1 with e1 e2 e3
      subst e1
      have HRy := Aside0.mk hR1
      clear hR1 e2 e3
      go_wp2_with fail
      refine (Of_calls (some ⟨w2.heap.size, 0, none⟩) ys.length ys wr HRy.out (by omega) (by simp)).mono ?_
      rintro e w3 ⟨ob, ov, rfl, hM3, hb3⟩
      have HM3 := Aside0.mk hM3
      have HO3 := Aside0.mk (pw_own_below HOk.out hb3)
      have HW3 := Aside0.mk (HW.out.trans hb3)
      have HLT := Aside0.mk (own_lt HOk.out _ rfl)
      clear hM3 hb3
      go_wp2_with fail
      obtain ⟨wo, hwo⟩ : ∃ wo, wo = wr := ⟨_, rfl⟩
      subst hwo
      go_loopw [14] (fun iv wr => ∃ (k : Nat) (zs : List Int), k ≤ ys.length ∧ iv = .int .i64 k ∧ Aside0 (wr.ownsRow w2.heap.size 55 1 (.slice (some ⟨w2.heap.size, 0, none⟩) ys.length ys.length) ys.length (nums .u64 zs)) ∧ Aside0 (zs.length = ys.length) ∧ Aside0 (IsMem wr wo.heap.size ob ov (memOf ys)) ∧ Aside0 (Bw w2 wr)) (fun iv _ => ys.length - (intOf iv).toNat)
      case atStart => exact ⟨0, ys, by omega, rfl, HO3, ⟨rfl⟩, HM3, HW3⟩
      case round =>
        obtain ⟨k, zs, hk, rfl, HOz, HLz, HMz, HWz⟩ := hrel
        by_cases hlt : k < ys.length
        · have hat := own_at HOz.out (k : Int) (by omega) (by omega)
          simp only [Int.toNat_natCast] at hat
          have x0 := hat.1
          have x1 := hat.2
          have hbl : w2.heap.size < wr.heap.size := own_lt HOz.out _ rfl
          clear hat
          go_wp2_with fail
          go_roundw
          case rel =>
            have hs := (own_store HOz.out (k : Int) 77).1
            simp only [Int.toNat_natCast] at hs
            refine ⟨k + 1, zs.set k 77, by omega, by go_num, ⟨hs⟩, ⟨by simpa using HLz.out⟩, ⟨?_⟩, ⟨HWz.out.setCell (Nat.le_refl _) _⟩⟩
            refine HMz.out.chg ((Chg.refl (fun i => i = w2.heap.size) wr).setb rfl _) ?_
            intro i hi hj
            have h1 := HMz.out.ge i hi
            have h2 := HLT.out
            omega
          case measure => simp [intOf]; omega
        · obtain rfl : k = ys.length := by omega
          have HWY := Aside0.mk (C2.out.trans HWz.out)
          have L4 := L.bw HWz.out
          have e1 := L4.cell 1 (.int .i64 a.who) rfl
          have e2 := L4.cell 2 (.int .i64 a.at_) rfl
          have e4 := L4.cell 4 (.int .u64 a.w) rfl
          go_wp2_with fail
          refine (Store_nil a.who a.at_ a.w _).mono ?_
          rintro e w4 ⟨rfl, hb4⟩
          have HMz := Aside0.mk (HMz.out.bw hb4)
          have HWY := Aside0.mk (HWY.out.trans hb4)
          have L5 := L4.bw hb4
          have e2 := L5.cell 2 (.int .i64 a.at_) rfl
          go_wp2_with fail
          refine (Peek_nil a.at_ _).mono ?_
          rintro e w5 ⟨rfl, hb5⟩
          have HMz := Aside0.mk (HMz.out.bw hb5)
          have HWY := Aside0.mk (HWY.out.trans hb5)
          have L6 := L5.bw hb5
          go_wp2_with fail
          refine (cawake_calls _).mono ?_
          rintro e w6 ⟨rfl, hb6⟩
          have HMz := Aside0.mk (HMz.out.bw hb6)
          have HWY := Aside0.mk (HWY.out.trans hb6)
          have L7 := L6.bw hb6
          go_wp2_with fail
          refine (Words_eq ys ys.length HMz.out rfl rfl (by omega)).mono ?_
          rintro e w7 ⟨A7, c7, rfl, hr7, hb7⟩
          have HR7 := Aside0.mk hr7
          have HWY := Aside0.mk (HWY.out.trans hb7)
          have L8 := L7.bw hb7
          clear hr7
          go_wp2_with fail
          refine (Same_eq A7 A c7 cap ys.length ys.length ys ys _ rfl rfl HR7.out (HX.out.bw HWY.out) rfl).mono ?_
          rintro e w8 ⟨rfl, hb8⟩
          have HWY := Aside0.mk (HWY.out.trans hb8)
          have L9 := L8.bw hb8
          have e1 := L9.cell 1 (.int .i64 a.who) rfl
          have e2 := L9.cell 2 (.int .i64 a.at_) rfl
          go_wp2_with fail
          refine (Load_nil a.who a.at_ _).mono ?_
          rintro e w9 ⟨rfl, hb9⟩
          have HWY := Aside0.mk (HWY.out.trans hb9)
          clear e1 e2
          have L10 := L9.bw hb9
          have e1 := L10.cell 1 (.int .i64 a.who) rfl
          have e2 := L10.cell 2 (.int .i64 a.at_) rfl
          have e3 := L10.cell 3 (.int .u64 a.old) rfl
          have e4 := L10.cell 4 (.int .u64 a.w) rfl
          go_wp2_with fail
          refine (Swap_nil a.who a.at_ a.old a.w _).mono ?_
          rintro e w10 ⟨rfl, hb10⟩
          have HWY := Aside0.mk (HWY.out.trans hb10)
          clear e1 e2 e3 e4
          have L11 := L10.bw hb10
          have e1 := L11.cell 1 (.int .i64 a.who) rfl
          have e2 := L11.cell 2 (.int .i64 a.at_) rfl
          have e4 := L11.cell 4 (.int .u64 a.w) rfl
          go_wp2_with fail
          refine (Add_nil a.who a.at_ a.w _).mono ?_
          rintro e w11 ⟨rfl, hb11⟩
          have HWY := Aside0.mk (HWY.out.trans hb11)
          clear e1 e2 e4
          have L12 := L11.bw hb11
          go_wp2_with fail
          refine (Words_nil _).mono ?_
          rintro e w12 ⟨rfl, hb12⟩
          have HWY := Aside0.mk (HWY.out.trans hb12)
          have L13 := L12.bw hb12
          go_wp2_with fail
          refine (Len_nil _).mono ?_
          rintro e w13 ⟨rfl, hb13⟩
          have HWY := Aside0.mk (HWY.out.trans hb13)
          have L14 := L13.bw hb13
          go_wp2_with fail
          refine (Clock_nil _).mono ?_
          rintro e w14 ⟨rfl, hb14⟩
          have HWY := Aside0.mk (HWY.out.trans hb14)
          have L15 := L14.bw hb14
          go_wp2_with fail
          refine (Bad_nil _).mono ?_
          rintro e w15 ⟨rfl, hb15⟩
          have HWY := Aside0.mk (HWY.out.trans hb15)
          have L16 := L15.bw hb15
          go_wp2_with fail
          refine (Last_nil _).mono ?_
          rintro e w16 ⟨rfl, hb16⟩
          have HWY := Aside0.mk (HWY.out.trans hb16)
          unfold Acc.cells acc0
          go_wp2_with fail
          go_ret
          exact ⟨rfl, HWY.out⟩
end Go.Proofs.Ytclippikdfcgkaa.M
