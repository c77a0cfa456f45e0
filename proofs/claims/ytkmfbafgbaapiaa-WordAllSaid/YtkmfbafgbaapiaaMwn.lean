/- The law WordAll, walked: it answers true. Conditions: the arguments are of their kinds and sizes. -/
import Derived.Test.YtkmfbafgbaapiaaMwc
namespace Go.Proofs.Ytkmfbafgbaapiaa.M
open Go.RowKit Go.Proofs.YtkmfbafgbaapiaaW.PrintWords Go.Proofs.YtkmfbafgbaapiaaW.PrintLast Go.Proofs.YtkmfbafgbaapiaaW.PrintMore
attribute [local go_sem ↓] eqEntry
set_option linter.unusedVariables false
set_option linter.unusedSimpArgs false

theorem cntV_get (l : List (Int × Int)) (k : Int) (h0 : 0 ≤ k) (hk : k < 5) : (cntV l)[k.toNat]? = some (.int .i64 (cnt l k)) := by
  rcases (show k = 0 ∨ k = 1 ∨ k = 2 ∨ k = 3 ∨ k = 4 by omega) with rfl | rfl | rfl | rfl | rfl <;> rfl
theorem cnt_yes {c' c x h q : Int} (H : Aside0 (c' = c + if (if q = 0 then decide ((x, h).1 < 1 ∨ 4 < (x, h).1) else (x, h).1 == q) = true then 1 else 0)) (h1 : (q = 0 ∧ (x < 1 ∨ 4 < x)) ∨ (q ≠ 0 ∧ x = q)) : Aside0 (c + 1 = c') := by
  refine ⟨?_⟩
  rw [H.out]
  rcases h1 with ⟨rfl, h1⟩ | ⟨h0, rfl⟩
  · simp [h1]
  · simp [h0]
theorem cnt_no {c' c x h q : Int} (H : Aside0 (c' = c + if (if q = 0 then decide ((x, h).1 < 1 ∨ 4 < (x, h).1) else (x, h).1 == q) = true then 1 else 0)) (h1 : (q = 0 ∧ ¬ (x < 1 ∨ 4 < x)) ∨ (q ≠ 0 ∧ x ≠ q)) : Aside0 (c = c') := by
  refine ⟨?_⟩
  rw [H.out]
  rcases h1 with ⟨rfl, h1⟩ | ⟨h0, h1⟩
  · simp [h1]
  · simp [h0, h1]
set_option maxHeartbeats 4000000 in
set_option maxRecDepth 100000 in
theorem WordAll_core (a0 : Option Addr) (cap0 : Nat) (xs : List Int) (n : Int) (a2 : Option Addr) (cap2 : Nat) (l : List (Int × Int)) (w : World)
    (hx : Rows (encI .u64) 1 w a0 xs) (hs : xs.length ≤ 100) (hr : ∀ x ∈ xs, 0 ≤ x ∧ x < 18446744073709551616) (hy : Rows encE 2 w a2 l) (ht : l.length ≤ 100) :
    Calls Try.prog 6 #[.slice a0 xs.length cap0, .int .i64 n, .slice a2 l.length cap2] w fun e w' => e = .returned (.bool true) ∧ Bw w w' := by
  have HB := Aside0.mk (Bw.refl w)
  have HX := Aside0.mk hx
  have HR := Aside0.mk hr
  have HL := Aside0.mk hy
  clear hx hr hy
  have d1 : decide ((100 : Int) < (xs.length : Int)) = false := by simp; omega
  have d2 : decide ((100 : Int) < (l.length : Int)) = false := by simp; omega
  go_enter Try.func6, Try.ntmps6
  go_wp2_with fail
  refine (All_calls a0 cap0 xs n _ HX.out (by omega) HR.out).mono ?_
  rintro e w1 ⟨v7, rfl, hown, hb1⟩
  obtain ⟨A7, c7, rfl, hR7⟩ := Rows.own (enc := encE) (xs := xs.map (rEnt n)) (fun _ => rfl) hown (by simp) (by omega)
  rw [List.length_map]
  have HA := Aside0.mk hR7
  clear hown hR7
  have HW1 := Aside0.mk hb1
  go_wp2_with fail
  go_loopw [8] (fun i wr => ∃ k : Nat, k ≤ xs.length ∧ i = .int .i64 k ∧ Aside0 (Bw w1 wr)) (fun i _ => xs.length - (intOf i).toNat)
  case atStart => exact ⟨0, by omega, rfl, ⟨Bw.refl _⟩⟩
  case round =>
    obtain ⟨k, hk, rfl, HW⟩ := hrel
    by_cases hlt : k < xs.length
    · obtain ⟨y, hy⟩ : ∃ y, xs[k]? = some y := ⟨_, List.getElem?_eq_getElem hlt⟩
      have hyr := HR.out y (List.mem_of_getElem? hy)
      have y0 := hyr.1
      have y1 := hyr.2
      obtain ⟨ad, rfl, hck⟩ := ((HX.out.bw HW1.out).bw HW.out).at1 k y hy
      obtain ⟨ad7, rfl, hc7, hd7⟩ := (HA.out.bw HW.out).atS k (rEnt n y) (by simp [hy])
      have q0 : ∀ p : BwW wr, p.W.cell? (ad.add k) = some (.int .u64 y) := fun p => p.cell hck
      have q1 : ∀ p : BwW wr, p.W.cell? (ad7.add (k * 2)) = some (.int .i64 (rKind y)) := fun p => p.cell (hc7 _ rfl)
      have q2 : ∀ p : BwW wr, p.W.cell? ⟨(ad7.add (k * 2)).block, (ad7.add (k * 2)).off + 1, none⟩ = some (.int .i64 (rWho y n)) := fun p => p.cell (hd7 1 _ (by omega) rfl)
      clear hy hyr hck hc7 hd7
      go_wp2_with fail
      refine wp_region_bw (by kernel_rfl) (by kernel_rfl) ?_
      repeat (first | go_big_quiet_skip | (go_big_quiet_want; go_big_quiet_op; first | go_big_quiet_on | go_big_quiet_call (exact qcall (refRead_agg y n y0 y1 _))))
      refine wpQuiet_nil ?_
      rintro w2 ⟨⟨_, hb2⟩, rfl⟩
      go_wp2_with fail
      go_roundw
      case rel => exact ⟨k + 1, by omega, by go_num, ⟨HW.out.trans hb2⟩⟩
      case measure => simp [intOf]; omega
    · have HW2 := Aside0.mk (HW1.out.trans HW.out)
      go_wp2_with fail
      refine (Count_calls a2 cap2 l _ (HL.out.bw HW2.out) (by omega)).mono ?_
      rintro e w3 ⟨rfl, hb3⟩
      have HW3 := Aside0.mk (HW2.out.trans hb3)
      unfold cntV
      go_wp2_with fail
      have BC := Blk.new w3 #[.int .i64 (cnt l 0), .int .i64 (cnt l 1), .int .i64 (cnt l 2), .int .i64 (cnt l 3), .int .i64 (cnt l 4)] 38
      have HC := Aside0.mk BC
      clear BC
      have HW4 := Aside0.mk (HW3.out.alloc (.cells #[.int .i64 (cnt l 0), .int .i64 (cnt l 1), .int .i64 (cnt l 2), .int .i64 (cnt l 3), .int .i64 (cnt l 4)] 38))
      obtain ⟨w4, hw4⟩ : ∃ w4, w4 = w3.alloc (.cells #[.int .i64 (cnt l 0), .int .i64 (cnt l 1), .int .i64 (cnt l 2), .int .i64 (cnt l 3), .int .i64 (cnt l 4)] 38) := ⟨_, rfl⟩
      rw [← hw4] at HC HW4 ⊢
      clear hw4
      go_loopw [10, 11, 12] (fun kv _ _ wr => ∃ k : Int, 0 ≤ k ∧ k ≤ 5 ∧ kv = .int .i64 k ∧ Aside0 (Bw w4 wr)) (fun kv _ _ _ => 5 - (intOf kv).toNat)
      case atStart => exact ⟨0, by omega, by omega, rfl, ⟨Bw.refl _⟩⟩
      case round =>
        obtain ⟨q, hq1, hq, rfl, HWq⟩ := hrel
        by_cases hlt5 : q < 5
        · have hcq : wr.cell? ⟨w3.heap.size, q.toNat, none⟩ = some (.int .i64 (cnt l q)) := (HC.out.bw HWq.out).cell q.toNat _ (cntV_get l q hq1 hlt5)
          have hcr := cnt_range l q
          have d5 : decide (q < 5) = true := by simp; omega
          go_wp2_with fail
          go_loop [11, 12] (fun c iv => ∃ k : Nat, k ≤ l.length ∧ iv = .int .i64 k ∧ c = .int .i64 (cnt (l.take k) q)) (fun _ iv => l.length - (intOf iv).toNat)
          case atStart => exact ⟨0, by omega, rfl, by simp [cnt]⟩
          case round =>
            obtain ⟨k, hk2, rfl, rfl⟩ := hrel
            by_cases hlt2 : k < l.length
            · obtain ⟨⟨x, h⟩, hy⟩ : ∃ y, l[k]? = some y := ⟨_, List.getElem?_eq_getElem hlt2⟩
              obtain ⟨ad, rfl, hc, hd⟩ := ((HL.out.bw HW4.out).bw HWq.out).atS k _ hy
              have hc0 := hc (.int .i64 x) rfl
              have e1 : l.take (k + 1) = l.take k ++ [(x, h)] := by rw [List.take_add_one, hy]; rfl
              have hcn := cnt_snoc (l.take k) (x, h) q
              rw [← e1] at hcn
              have hcr2 := cnt_range (l.take k) q
              have hl2 : (l.take k).length ≤ 100 := by rw [List.length_take]; omega
              have b0 := hcr2.1
              have b1 : cnt (l.take k) q ≤ 100 := by omega
              have HCN := Aside0.mk hcn
              clear hy hc hd e1 hcn hcr2 hl2
              generalize cnt (l.take k) q = c at HCN b0 b1 ⊢
              by_cases hq0 : q = 0
              · subst hq0
                by_cases hx1 : x < 1
                · have z1 : decide (x < 1) = true := by simpa using hx1
                  by_cases hx0 : x = 0
                  · subst hx0
                    have HE := cnt_yes HCN (by omega)
                    clear HCN
                    go_wp2_with fail
                    go_round
                    case rel => exact ⟨k + 1, by omega, by go_num, by rw [HE.out]⟩
                    case measure => simp [intOf]; omega
                  · have z0 : (x == 0) = false := by simpa using hx0
                    have HE := cnt_yes HCN (by omega)
                    clear HCN
                    go_wp2_with fail
                    go_round
                    case rel => exact ⟨k + 1, by omega, by go_num, by rw [HE.out]⟩
                    case measure => simp [intOf]; omega
                · have z1 : decide (x < 1) = false := by simpa using hx1
                  have z0 : (x == 0) = false := by simp; omega
                  by_cases hx4 : 4 < x
                  · have z4 : decide (4 < x) = true := by simpa using hx4
                    have HE := cnt_yes HCN (by omega)
                    clear HCN
                    go_wp2_with fail
                    go_round
                    case rel => exact ⟨k + 1, by omega, by go_num, by rw [HE.out]⟩
                    case measure => simp [intOf]; omega
                  · have z4 : decide (4 < x) = false := by simpa using hx4
                    have HE := cnt_no HCN (by omega)
                    clear HCN
                    go_wp2_with fail
                    go_round
                    case rel => exact ⟨k + 1, by omega, by go_num, by rw [HE.out]⟩
                    case measure => simp [intOf]; omega
              · have z2 : decide (0 < q) = true := by simp; omega
                have z3 : (q == 0) = false := by simp; omega
                by_cases hxq : x = q
                · subst hxq
                  have HE := cnt_yes HCN (by omega)
                  clear HCN
                  go_wp2_with fail
                  go_round
                  case rel => exact ⟨k + 1, by omega, by go_num, by rw [HE.out]⟩
                  case measure => simp [intOf]; omega
                · have z0 : (x == q) = false := by simpa using hxq
                  have HE := cnt_no HCN (by omega)
                  clear HCN
                  go_wp2_with fail
                  go_round
                  case rel => exact ⟨k + 1, by omega, by go_num, by rw [HE.out]⟩
                  case measure => simp [intOf]; omega
            · obtain rfl : k = l.length := by omega
              rw [List.take_length]
              go_wp2_with fail
              go_roundw
              case rel => exact ⟨q + 1, by omega, by omega, rfl, HWq⟩
              case measure => simp [intOf]; omega
        · have d5 : decide (q < 5) = false := by simp; omega
          have HW5 := Aside0.mk (HW4.out.trans HWq.out)
          go_wp2_with fail
          go_loopw [13] (fun i wr' => ∃ k : Nat, k ≤ l.length ∧ i = .int .i64 k ∧ Aside0 (Bw w wr')) (fun i _ => l.length - (intOf i).toNat)
          case atStart => exact ⟨0, by omega, rfl, HW5⟩
          case round =>
            obtain ⟨k, hk3, rfl, HW6⟩ := hrel
            by_cases hlt3 : k < l.length
            · obtain ⟨⟨x, h⟩, hy⟩ : ∃ y, l[k]? = some y := ⟨_, List.getElem?_eq_getElem hlt3⟩
              obtain ⟨ad, rfl, hc, hd⟩ := (HL.out.bw HW6.out).atS k _ hy
              have q0 : ∀ p : BwW wr, p.W.cell? (ad.add (k * 2)) = some (.int .i64 x) := fun p => p.cell (hc _ rfl)
              have q1 : ∀ p : BwW wr, p.W.cell? ⟨(ad.add (k * 2)).block, (ad.add (k * 2)).off + 1, none⟩ = some (.int .i64 h) := fun p => p.cell (hd 1 _ (by omega) rfl)
              clear hy hc hd
              go_wp2_with fail
              refine wp_region_bw (by kernel_rfl) (by kernel_rfl) ?_
              repeat (first | go_big_quiet_skip | (go_big_quiet_want; go_big_quiet_op; first | go_big_quiet_on | go_big_quiet_call (first | (go_at_call 20; exact qcall (Right_agg x h n _)) | (go_at_call 22; exact qcall (refRight_agg x h n _)))))
              refine wpQuiet_nil ?_
              rintro w6 ⟨⟨_, hb6⟩, rfl⟩
              go_wp2_with fail
              go_roundw
              case rel => exact ⟨k + 1, by omega, by go_num, ⟨HW6.out.trans hb6⟩⟩
              case measure => simp [intOf]; omega
            · go_wp2_with fail
              refine (wawake_calls _).mono ?_
              rintro e w7 ⟨rfl, hb7⟩
              go_wp2_with fail
              go_ret
              exact ⟨rfl, HW6.out.trans hb7⟩

end Go.Proofs.Ytkmfbafgbaapiaa.M
