/- Script: the document's text of entries; which entries are right; the same entries. Conditions: no more than 65536 entries. -/
import Derived.Test.YtogpjimmcckkcaaDoorMu6
namespace Go.Proofs.YtogpjimmcckkcaaDoor.M
open Go.RowKit Go.Proofs.YtogpjimmcckkcaaDoorW.PrintWords Go.Proofs.YtogpjimmcckkcaaDoorW.PrintLast Go.Proofs.YtogpjimmcckkcaaDoorW.PrintMore
set_option linter.unusedVariables false
set_option linter.unusedSimpArgs false
theorem threads256_calls (w : World) : Calls Tryd.prog 52 #[.int .i64 256] w fun e w' => e = .returned (.int .i64 256) ∧ Bw w w' := by
  have HB := Aside0.mk (Bw.refl w)
  go_enter Tryd.func52, Tryd.ntmps52
  go_wp2_with fail
  go_ret
  exact ⟨rfl, HB.out⟩
def refRightB (k h : Int) : Bool := if k = 2 ∨ k = 3 then h == 0 else (k == 1 || k == 4) && (decide (0 ≤ h) && decide (h < 256))
theorem refRightB_eq (k h : Int) : refRightB k h = rightE (k, h) := by
  unfold refRightB rightE rightB codeOf whoB many
  by_cases h1 : k = 1
  · subst h1; simp; rw [Bool.eq_iff_iff]; simp
  by_cases h2 : k = 2
  · subst h2; simp; omega
  by_cases h3 : k = 3
  · subst h3; simp; omega
  by_cases h4 : k = 4
  · subst h4; simp; rw [Bool.eq_iff_iff]; simp
  simp [h1, h2, h3, h4]
set_option maxHeartbeats 1000000 in
theorem refRight_calls (k h : Int) (w : World) : Calls Tryd.prog 29 #[.agg #[.int .i64 k, .int .i64 h], .int .i64 256] w fun e w' => e = .returned (.bool (rightE (k, h))) ∧ Bw w w' := by
  have HB := Aside0.mk ((Bw.refl w).alloc (.cells #[.int .i64 k, .int .i64 h] 55))
  have HK := Aside0.mk (Blk.new w #[.int .i64 k, .int .i64 h] 55)
  rw [← refRightB_eq]
  by_cases h2 : k = 2
  · subst h2
    go_enter Tryd.func29, Tryd.ntmps29
    go_wp2_with fail
    go_ret
    exact ⟨rfl, HB.out⟩
  by_cases h3 : k = 3
  · subst h3
    clear h2
    go_enter Tryd.func29, Tryd.ntmps29
    go_wp2_with fail
    go_ret
    exact ⟨rfl, HB.out⟩
  have d2 : (k == 2) = false := by simpa using h2
  have d3 : (k == 3) = false := by simpa using h3
  have HF : Aside0 (refRightB k h = ((k == 1 || k == 4) && (decide (0 ≤ h) && decide (h < 256)))) := ⟨by unfold refRightB; rw [if_neg (by omega)]⟩
  clear h2 h3
  have c0 : ∀ p : BwW (w.alloc (.cells #[.int .i64 k, .int .i64 h] 55)), p.W.cell? ⟨w.heap.size, 0, none⟩ = some (.int .i64 k) := fun p => p.cell ((Blk.new w _ _).cell 0 _ rfl)
  have c1 : ∀ p : BwW (w.alloc (.cells #[.int .i64 k, .int .i64 h] 55)), p.W.cell? ⟨w.heap.size, 1, none⟩ = some (.int .i64 h) := fun p => p.cell ((Blk.new w _ _).cell 1 _ rfl)
  by_cases hk : k = 1 ∨ k = 4
  · by_cases h0 : 0 ≤ h
    · have d0 : decide (0 ≤ h) = true := decide_eq_true h0
      by_cases h1 : h < 256
      · have d1 : decide (h < 256) = true := decide_eq_true h1
        rw [d0, d1] at HF
        clear h0 h1
        rcases hk with rfl | rfl
        · go_enter Tryd.func29, Tryd.ntmps29
          go_wp2_with fail
          refine wp_region_bw (by kernel_rfl) (by kernel_rfl) ?_
          repeat (first | go_big_quiet_skip | (go_big_quiet_want; go_big_quiet_op; first | go_big_quiet_on | go_big_quiet_call (exact qcall (threads256_calls _))))
          refine wpQuiet_nil ?_
          rintro w1 ⟨⟨_, hb1⟩, rfl⟩
          go_wp2_with fail
          go_ret
          rw [HF.out]
          exact ⟨rfl, HB.out.trans hb1⟩
        · go_enter Tryd.func29, Tryd.ntmps29
          go_wp2_with fail
          refine wp_region_bw (by kernel_rfl) (by kernel_rfl) ?_
          repeat (first | go_big_quiet_skip | (go_big_quiet_want; go_big_quiet_op; first | go_big_quiet_on | go_big_quiet_call (exact qcall (threads256_calls _))))
          refine wpQuiet_nil ?_
          rintro w1 ⟨⟨_, hb1⟩, rfl⟩
          go_wp2_with fail
          go_ret
          rw [HF.out]
          exact ⟨rfl, HB.out.trans hb1⟩
      · have d1 : decide (h < 256) = false := decide_eq_false h1
        rw [d0, d1] at HF
        clear h0 h1
        rcases hk with rfl | rfl
        · go_enter Tryd.func29, Tryd.ntmps29
          go_wp2_with fail
          refine wp_region_bw (by kernel_rfl) (by kernel_rfl) ?_
          repeat (first | go_big_quiet_skip | (go_big_quiet_want; go_big_quiet_op; first | go_big_quiet_on | go_big_quiet_call (exact qcall (threads256_calls _))))
          refine wpQuiet_nil ?_
          rintro w1 ⟨⟨_, hb1⟩, rfl⟩
          go_wp2_with fail
          go_ret
          rw [HF.out]
          exact ⟨rfl, HB.out.trans hb1⟩
        · go_enter Tryd.func29, Tryd.ntmps29
          go_wp2_with fail
          refine wp_region_bw (by kernel_rfl) (by kernel_rfl) ?_
          repeat (first | go_big_quiet_skip | (go_big_quiet_want; go_big_quiet_op; first | go_big_quiet_on | go_big_quiet_call (exact qcall (threads256_calls _))))
          refine wpQuiet_nil ?_
          rintro w1 ⟨⟨_, hb1⟩, rfl⟩
          go_wp2_with fail
          go_ret
          rw [HF.out]
          exact ⟨rfl, HB.out.trans hb1⟩
    · have d0 : decide (0 ≤ h) = false := decide_eq_false h0
      rw [d0] at HF
      clear h0
      rcases hk with rfl | rfl
      · go_enter Tryd.func29, Tryd.ntmps29
        go_wp2_with fail
        refine wp_region_bw (by kernel_rfl) (by kernel_rfl) ?_
        repeat (first | go_big_quiet_skip | (go_big_quiet_want; go_big_quiet_op; first | go_big_quiet_on | go_big_quiet_call (exact qcall (threads256_calls _))))
        refine wpQuiet_nil ?_
        rintro w1 ⟨⟨_, hb1⟩, rfl⟩
        go_wp2_with fail
        go_ret
        rw [HF.out]
        exact ⟨rfl, HB.out.trans hb1⟩
      · go_enter Tryd.func29, Tryd.ntmps29
        go_wp2_with fail
        refine wp_region_bw (by kernel_rfl) (by kernel_rfl) ?_
        repeat (first | go_big_quiet_skip | (go_big_quiet_want; go_big_quiet_op; first | go_big_quiet_on | go_big_quiet_call (exact qcall (threads256_calls _))))
        refine wpQuiet_nil ?_
        rintro w1 ⟨⟨_, hb1⟩, rfl⟩
        go_wp2_with fail
        go_ret
        rw [HF.out]
        exact ⟨rfl, HB.out.trans hb1⟩
  · have hk1 : (k == 1) = false := by simp; omega
    have hk4 : (k == 4) = false := by simp; omega
    rw [hk1, hk4] at HF
    clear hk
    go_enter Tryd.func29, Tryd.ntmps29
    go_wp2_with fail
    refine wp_region_bw (by kernel_rfl) (by kernel_rfl) ?_
    repeat (first | go_big_quiet_skip | (go_big_quiet_want; go_big_quiet_op; first | go_big_quiet_on | go_big_quiet_call (exact qcall (threads256_calls _))))
    refine wpQuiet_nil ?_
    rintro w1 ⟨⟨_, hb1⟩, rfl⟩
    go_wp2_with fail
    go_ret
    rw [HF.out]
    exact ⟨rfl, HB.out.trans hb1⟩
set_option maxHeartbeats 1000000 in
theorem refWrite_calls (A : Option Addr) (cap : Nat) (l : List En) (w : World) (hx : Rows encN 2 w A l) (hr : l.all rightE = true) (hl : l.length ≤ 65536) : Calls Tryd.prog 32 #[.slice A l.length cap] w fun e w' => e = .returned (strV (wrL 0 l)) ∧ Bw w w' := by
  have HX := Aside0.mk hx
  have HB := Aside0.mk (Bw.refl w)
  have HR := Aside0.mk hr
  have HLE := Aside0.mk hl
  have h62 : l.length ≤ 100000 := by omega
  clear hx hr hl
  go_enter Tryd.func32, Tryd.ntmps32
  go_wp2_with fail
  go_loopw [3, 4] (fun ov iv wr => ∃ (i : Nat) (out : List UInt8), i ≤ l.length ∧ ov = strV out ∧ iv = .int .i64 i ∧ out.length ≤ i * 200000 ∧ Aside0 (out ++ wrL 0 (l.drop i) = wrL 0 l) ∧ Aside0 (Bw w wr)) (fun _ iv _ => l.length - (intOf iv).toNat)
  case atStart => exact ⟨0, [], by omega, rfl, rfl, by simp, ⟨rfl⟩, HB⟩
  case round =>
    obtain ⟨i, out, hi, rfl, rfl, ho, HO, HW⟩ := hrel
    by_cases hlt : i < l.length
    · obtain ⟨⟨k, h⟩, he⟩ : ∃ e, l[i]? = some e := ⟨_, List.getElem?_eq_getElem hlt⟩
      have hre : rightE (k, h) = true := List.all_eq_true.1 HR.out _ (List.mem_of_getElem? he)
      obtain ⟨hh0, hh1⟩ := rightE_who hre
      obtain ⟨hN, rfl⟩ := Int.eq_ofNat_of_zero_le (show 0 ≤ h from hh0)
      obtain ⟨ad, hA, hi0, hi1⟩ := (HX.out.bw HW.out).atS i _ he
      subst hA
      have HS0 := Aside0.mk (show wr.cell? (ad.add (i * 2)) = some (.int .i64 k) from hi0 _ rfl)
      have HS1 := Aside0.mk (show wr.cell? ⟨(ad.add (i * 2)).block, (ad.add (i * 2)).off + 1, none⟩ = some (.int .i64 (hN : Int)) from hi1 1 _ (by decide) rfl)
      have HE := Aside0.mk he
      have HLN := Aside0.mk (fun (n : Nat) W (h1 : 1 ≤ n) (hn : n ≤ 65536) => refLine_calls k hN n W hre h1 hn)
      have HLL := Aside0.mk (fun (n : Nat) (hn : n ≤ 65536) => lineL_len k hN n (by omega) hn)
      clear he hi0 hi1 hre hh0 hh1
      go_wp2_with fail
      go_loopw [5] (fun nv wr2 => ∃ n : Nat, 1 ≤ n ∧ i + n ≤ l.length ∧ nv = .int .i64 n ∧ Aside0 (l[i + n - 1]? = some (k, (hN : Int))) ∧ Aside0 (out ++ wrL (n - 1) (l.drop (i + n - 1)) = wrL 0 l) ∧ Aside0 (Bw wr wr2)) (fun nv _ => l.length - (intOf nv).toNat)
      case atStart => exact ⟨1, by omega, by omega, rfl, HE, HO, ⟨Bw.refl _⟩⟩
      case round =>
        obtain ⟨n, hn1, hn2, rfl, HL, HG, HW2⟩ := hrel
        have S0 : ∀ p : BwW wr, p.W.cell? (ad.add (i * 2)) = some (.int .i64 k) := fun p => p.cell (HW2.out.kept HS0.out)
        have S1 : ∀ p : BwW wr, p.W.cell? ⟨(ad.add (i * 2)).block, (ad.add (i * 2)).off + 1, none⟩ = some (.int .i64 (hN : Int)) := fun p => p.cell (HW2.out.kept HS1.out)
        have e1 : IntKind.i64.wrap ((i : Int) + (n : Int)) = (i : Int) + (n : Int) := by rw [i64_wrap]; omega
        by_cases hn : i + n < l.length
        · obtain ⟨⟨k', h'⟩, he'⟩ : ∃ e, l[i + n]? = some e := ⟨_, List.getElem?_eq_getElem hn⟩
          obtain ⟨ad', hA, m0, mi⟩ := (HX.out.bw (HW.out.trans HW2.out)).atS (i + n) _ he'
          obtain rfl : ad = ad' := Option.some.inj hA
          have N0 : ∀ p : BwW wr, p.W.cell? (ad.add ((i + n) * 2)) = some (.int .i64 k') := fun p => p.cell (m0 _ rfl)
          have N1 : ∀ p : BwW wr, p.W.cell? ⟨(ad.add ((i + n) * 2)).block, (ad.add ((i + n) * 2)).off + 1, none⟩ = some (.int .i64 h') := fun p => p.cell (mi 1 _ (by decide) rfl)
          obtain ⟨bb, hbb⟩ : ∃ bb, (k' == k && h' == (hN : Int)) = bb := ⟨_, rfl⟩
          have qe : ∀ (d : Nat) (W : World), (Op.equalIn (d + 2) 55 (.agg #[.int .i64 k', .int .i64 h']) (.agg #[.int .i64 k, .int .i64 (hN : Int)])).run Tryd.prog W = .ok bb W := fun d W => by rw [← hbb]; exact eqEntry d W k' k h' hN
          have hd1 : l.drop (i + n - 1) = (k, (hN : Int)) :: l.drop (i + n) := by
            rw [List.drop_eq_getElem_cons (by omega)]
            congr 1
            · exact Option.some.inj ((List.getElem?_eq_getElem (by omega)).symm.trans HL.out)
            · congr 1; omega
          have HNX := Aside0.mk (show nextIs (k, (hN : Int)) (l.drop (i + n)) = bb by
            rw [List.drop_eq_getElem_cons hn, show l[i + n] = (k', h') from Option.some.inj ((List.getElem?_eq_getElem hn).symm.trans he'), ← hbb]
            rfl)
          have HD1 := Aside0.mk hd1
          have HE' := Aside0.mk he'
          have HBB := Aside0.mk hbb
          have dA : decide ((i : Int) + (n : Int) < (l.length : Int)) = true := decide_eq_true (by omega)
          have g1 : (0 : Int) ≤ (i : Int) + (n : Int) := by omega
          have g2 : ((i : Int) + (n : Int)).toNat = i + n := by omega
          have g3 : (i : Int) + (n : Int) < (l.length : Int) := by omega
          clear he' hA m0 mi hbb hd1
          go_wp2_with fail
          refine wp_region_bw (by kernel_rfl) (by kernel_rfl) ?_
          repeat (first | go_big_quiet_skip | (go_big_quiet_want; go_big_quiet_op; first | go_big_quiet_on | go_big_quiet_call (fail)))
          refine wpQuiet_nil ?_
          rintro w3 ⟨⟨_, hb3⟩, rfl⟩
          cases bb
          · have hnl : n ≤ 65536 := by have := HLE.out; omega
            have c0 : w3.cell? (ad.add (i * 2)) = some (.int .i64 k) := S0 ⟨w3, hb3⟩
            have c1 : w3.cell? ⟨(ad.add (i * 2)).block, (ad.add (i * 2)).off + 1, none⟩ = some (.int .i64 (hN : Int)) := S1 ⟨w3, hb3⟩
            have HB3 := Aside0.mk hb3
            clear S0 S1 N0 N1 hb3 qe
            obtain ⟨x, hx⟩ : ∃ x, x = lineL k hN n := ⟨_, rfl⟩
            have HXL := Aside0.mk (HLN.out n w3 hn1 hnl)
            rw [← hx] at HXL
            have hxl : x.length ≤ 200000 := by rw [hx]; exact HLL.out n hnl
            have HXX := Aside0.mk hx
            have hol : out.length ≤ 13107200000 := Nat.le_trans ho (by have := HLE.out; omega)
            have zz : ¬ (9223372036854775807 < out.length + x.length) := by omega
            have e2 : IntKind.i64.wrap ((i : Int) + (n : Int)) = (i : Int) + (n : Int) := by rw [i64_wrap]; omega
            clear hx
            go_wp2_with fail
            refine (HXL.out).mono ?_
            rintro e w4 ⟨rfl, hb4⟩
            have HB4 := Aside0.mk (HB3.out.trans hb4)
            clear hb4
            go_wp2_with fail
            go_roundw
            case rel =>
              refine ⟨i + n, out ++ x, by omega, by first | rfl | rw [← str_two], by go_num, ?_, ⟨?_⟩, ⟨(HW.out.trans HW2.out).trans HB4.out⟩⟩
              · rw [List.length_append, Nat.add_mul]
                have : 200000 ≤ n * 200000 := Nat.le_mul_of_pos_left _ (by omega)
                exact Nat.add_le_add ho (Nat.le_trans hxl this)
              · have := HG.out
                obtain ⟨m, rfl⟩ : ∃ m, n = m + 1 := ⟨n - 1, by omega⟩
                rw [HD1.out, show m + 1 - 1 = m from rfl, wrL, HNX.out, if_neg (by decide), ← List.append_assoc] at this
                rw [HXX.out]
                exact this
            case measure => simp [intOf]; omega
          · have HB3 := Aside0.mk hb3
            clear S0 S1 N0 N1 hb3 qe
            go_wp2_with fail
            go_roundw
            case rel =>
              refine ⟨n + 1, by omega, by omega, by go_num, ⟨?_⟩, ⟨?_⟩, ⟨HW2.out.trans HB3.out⟩⟩
              · have hb := HBB.out
                simp at hb
                rw [show i + (n + 1) - 1 = i + n by omega, HE'.out, hb.1, hb.2]
              · have := HG.out
                rw [HD1.out] at this
                obtain ⟨m, rfl⟩ : ∃ m, n = m + 1 := ⟨n - 1, by omega⟩
                rw [show m + 1 - 1 = m from rfl, wrL, HNX.out, if_pos rfl] at this
                rw [show i + (m + 1 + 1) - 1 = i + (m + 1) by omega]
                exact this
            case measure => simp [intOf]; omega
        · have dA : decide ((i : Int) + (n : Int) < (l.length : Int)) = false := decide_eq_false (by omega)
          have HD1 := Aside0.mk (show l.drop (i + n - 1) = (k, (hN : Int)) :: l.drop (i + n) by
            rw [List.drop_eq_getElem_cons (by omega)]
            congr 1
            · exact Option.some.inj ((List.getElem?_eq_getElem (by omega)).symm.trans HL.out)
            · congr 1; omega)
          have HNX := Aside0.mk (show nextIs (k, (hN : Int)) (l.drop (i + n)) = false by rw [List.drop_of_length_le (by omega)]; rfl)
          go_wp2_with fail
          refine wp_region_bw (by kernel_rfl) (by kernel_rfl) ?_
          repeat (first | go_big_quiet_skip | (go_big_quiet_want; go_big_quiet_op; first | go_big_quiet_on | go_big_quiet_call (fail)))
          refine wpQuiet_nil ?_
          rintro w3 ⟨⟨_, hb3⟩, rfl⟩
          have hnl : n ≤ 65536 := by have := HLE.out; omega
          have c0 : w3.cell? (ad.add (i * 2)) = some (.int .i64 k) := S0 ⟨w3, hb3⟩
          have c1 : w3.cell? ⟨(ad.add (i * 2)).block, (ad.add (i * 2)).off + 1, none⟩ = some (.int .i64 (hN : Int)) := S1 ⟨w3, hb3⟩
          have HB3 := Aside0.mk hb3
          clear S0 S1 hb3
          obtain ⟨x, hx⟩ : ∃ x, x = lineL k hN n := ⟨_, rfl⟩
          have HXL := Aside0.mk (HLN.out n w3 hn1 hnl)
          rw [← hx] at HXL
          have hxl : x.length ≤ 200000 := by rw [hx]; exact HLL.out n hnl
          have HXX := Aside0.mk hx
          have hol : out.length ≤ 13107200000 := Nat.le_trans ho (by have := HLE.out; omega)
          have zz : ¬ (9223372036854775807 < out.length + x.length) := by omega
          have e2 : IntKind.i64.wrap ((i : Int) + (n : Int)) = (i : Int) + (n : Int) := by rw [i64_wrap]; omega
          clear hx
          go_wp2_with fail
          refine (HXL.out).mono ?_
          rintro e w4 ⟨rfl, hb4⟩
          have HB4 := Aside0.mk (HB3.out.trans hb4)
          clear hb4
          go_wp2_with fail
          go_roundw
          case rel =>
            refine ⟨i + n, out ++ x, by omega, by first | rfl | rw [← str_two], by go_num, ?_, ⟨?_⟩, ⟨(HW.out.trans HW2.out).trans HB4.out⟩⟩
            · rw [List.length_append, Nat.add_mul]
              have : 200000 ≤ n * 200000 := Nat.le_mul_of_pos_left _ (by omega)
              exact Nat.add_le_add ho (Nat.le_trans hxl this)
            · have := HG.out
              obtain ⟨m, rfl⟩ : ∃ m, n = m + 1 := ⟨n - 1, by omega⟩
              rw [HD1.out, show m + 1 - 1 = m from rfl, wrL, HNX.out, if_neg (by decide), ← List.append_assoc] at this
              rw [HXX.out]
              exact this
          case measure => simp [intOf]; omega
    · obtain rfl : i = l.length := by omega
      have HOL := Aside0.mk (show out = wrL 0 l by have := HO.out; rwa [List.drop_length, show wrL 0 [] = [] from rfl, List.append_nil] at this)
      go_wp2_with fail
      go_ret
      rw [HOL.out]
      exact ⟨rfl, HW.out⟩
end Go.Proofs.YtogpjimmcckkcaaDoor.M
