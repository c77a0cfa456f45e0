/- Script: Write: the text of entries. Condition: no more than 65536 entries. -/
import Derived.Test.YtogpjimmcckkcaaDoorMt4
import Derived.Test.YtogpjimmcckkcaaDoorMe
import Derived.Test.YtogpjimmcckkcaaDoorMs
import Derived.WalkMore
namespace Go.Proofs.YtogpjimmcckkcaaDoor.M
open Go.RowKit Go.Proofs.YtogpjimmcckkcaaDoorW.PrintWords Go.Proofs.YtogpjimmcckkcaaDoorW.PrintLast Go.Proofs.YtogpjimmcckkcaaDoorW.PrintMore
set_option linter.unusedVariables false
set_option linter.unusedSimpArgs false
abbrev En := Int × Int
abbrev encN : En → List Value := fun p => [.int .i64 p.1, .int .i64 p.2]
def nextIs (e : En) : List En → Bool
  | [] => false
  | x :: _ => x == e
/-- The text of entries, run of which lie behind the first one. -/
def wrL (run : Nat) : List En → List UInt8
  | [] => []
  | e :: r => if nextIs e r = true then wrL (run + 1) r else lineL e.1 e.2.toNat (run + 1) ++ wrL 0 r
def rightE (e : En) : Bool := rightB e.1 e.2 256
theorem rightE_who {e : En} (h : rightE e = true) : 0 ≤ e.2 ∧ e.2 < 256 := by
  unfold rightE rightB at h
  simp at h
  have : many 256 = 256 := by decide
  rw [this] at h
  omega
theorem lineL_len (k : Int) (h n : Nat) (hh : h < 65536) (hn : n ≤ 65536) : (lineL k h n).length ≤ 200000 := by
  unfold lineL
  have := enW_len k
  have := dec_len h
  have := dec_len n
  simp only [List.length_append]
  repeat' split
  all_goals simp
  all_goals omega
set_option maxHeartbeats 4000000 in
set_option maxRecDepth 100000 in
theorem Write_calls (A : Option Addr) (cap : Nat) (l : List En) (w : World) (ht : Tab w) (hx : Rows encN 2 w A l) (hl : l.length ≤ 65536) :
    Calls Tryd.prog 30 #[.slice A l.length cap] w fun e w' => e = .returned (.tuple #[strV (if l.all rightE = true then wrL 0 l else []), .int .i64 (if l.all rightE = true then 0 else 1)]) ∧ Bw w w' := by
  have HT := Aside0.mk ht
  have HX := Aside0.mk hx
  have HB := Aside0.mk (Bw.refl w)
  have d0 : decide ((65536 : Int) < (l.length : Int)) = false := decide_eq_false (by omega)
  have HLE := Aside0.mk hl
  have h62 : l.length ≤ 100000 := by omega
  clear ht hx hl
  go_enter Tryd.func30, Tryd.ntmps30
  go_wp2_with fail
  go_step3
  go_wp2_with fail
  go_step3
  go_wp2_with fail
  go_loopw [13, 5] (fun iv rv wr => ∃ (i run : Nat) (p v : Value) (out : List UInt8), i ≤ l.length ∧ run ≤ i ∧ iv = .int .i64 i ∧ rv = .int .i64 run ∧ out.length ≤ i * 200000 ∧ Aside0 (IsBld wr w.heap.size w.heap.size p v out) ∧ Aside0 (out ++ wrL run (l.drop i) = wrL 0 l) ∧ Aside0 ((l.take i).all rightE = true) ∧ Aside0 (Bw w wr)) (fun iv _ _ => l.length - (intOf iv).toNat)
  case atStart => exact ⟨0, 0, _, _, [], by omega, by omega, rfl, rfl, by simp, ⟨IsBld.new w⟩, ⟨rfl⟩, ⟨rfl⟩, ⟨HB.out.alloc _⟩⟩
  case round =>
    obtain ⟨i, run, p, v, out, hi, hr, rfl, rfl, ho, HD, HO, HR, HW⟩ := hrel
    by_cases hlt : i < l.length
    · obtain ⟨⟨k, h⟩, he⟩ : ∃ e, l[i]? = some e := ⟨_, List.getElem?_eq_getElem hlt⟩
      obtain ⟨ad, hA, h0, hi1⟩ := (HX.out.bw HW.out).atS i _ he
      subst hA
      have s0 := h0 _ rfl
      have s1 := hi1 1 _ (by decide) rfl
      have HE := Aside0.mk he
      have HDA := Aside0.mk (HD.out.bw ((Bw.refl wr).alloc (.cells #[.int .i64 k, .int .i64 h] 55)))
      have HWA := Aside0.mk (HW.out.alloc (.cells #[.int .i64 k, .int .i64 h] 55))
      have HEB := Aside0.mk (Blk.new wr #[.int .i64 k, .int .i64 h] 55)
      clear he h0 hi1
      cases hre : rightE (k, h)
      · have HRC := Aside0.mk (show ∀ W, Calls Tryd.prog 53 #[.agg #[.int .i64 k, .int .i64 h], .int .i64 256] W fun e w' => e = .returned (.bool false) ∧ Bw W w' by intro W; have := Right_calls k h 256 W; unfold rightE at hre; rw [hre] at this; exact this)
        have HNO := Aside0.mk (show l.all rightE = false by
          rw [Bool.eq_false_iff]
          intro hq
          have := List.all_eq_true.1 hq (k, h) (List.mem_of_getElem? HE.out)
          rw [hre] at this
          cases this)
        clear hre
        go_wp2_with fail
        refine (HRC.out _).mono ?_
        rintro e w1 ⟨rfl, hb1⟩
        go_wp2_with fail
        rw [Exit.noGoto_ret]
        refine bodyPost_ret (v := .tuple #[.string ⟨#[]⟩, .int .i64 1]) (by simp [results, Tryd.results30, go_sem]) rfl ⟨?_, HWA.out.trans hb1⟩
        rw [HNO.out]
        rfl
      · have HRC := Aside0.mk (show ∀ W, Calls Tryd.prog 53 #[.agg #[.int .i64 k, .int .i64 h], .int .i64 256] W fun e w' => e = .returned (.bool true) ∧ Bw W w' by intro W; have := Right_calls k h 256 W; unfold rightE at hre; rw [hre] at this; exact this)
        obtain ⟨hh0, hh1⟩ := rightE_who hre
        obtain ⟨hN, rfl⟩ := Int.eq_ofNat_of_zero_le (show 0 ≤ h from hh0)
        have hr9 : run ≤ 65536 := by have := HLE.out; omega
        have HLN := Aside0.mk (show ∀ W, Tab W → Calls Tryd.prog 54 #[.agg #[.int .i64 k, .int .i64 (hN : Int)], .int .i64 ((run : Int) + 1)] W fun e w' => e = .returned (strV (lineL k hN (run + 1))) ∧ Bw W w' from fun W ht => by have := line_calls k hN (run + 1) W ht (by omega) (by have := HLE.out; omega); push_cast at this; exact this)
        have HLL := Aside0.mk (lineL_len k hN (run + 1) (by omega) (by have := HLE.out; omega))
        have hdrop : l.drop i = (k, (hN : Int)) :: l.drop (i + 1) := by rw [List.drop_eq_getElem_cons hlt]; congr 1; exact Option.some.inj ((List.getElem?_eq_getElem hlt).symm.trans HE.out)
        have HDR := Aside0.mk hdrop
        have HRA := Aside0.mk (show (l.take (i + 1)).all rightE = true by rw [List.take_add_one, HE.out, List.all_append, HR.out]; simp [hre])
        have e1 : IntKind.i64.wrap ((i : Int) + 1) = (i : Int) + 1 := by rw [i64_wrap]; omega
        have g1 : (0 : Int) ≤ (i : Int) + 1 := by omega
        have g2 : ((i : Int) + 1).toNat = i + 1 := by omega
        clear hre hdrop hh0 hh1
        go_wp2_with fail
        refine (HRC.out _).mono ?_
        rintro e w1 ⟨rfl, hb1⟩
        have CE0 : ∀ p : BwW w1, p.W.cell? ⟨wr.heap.size, 0, none⟩ = some (.int .i64 k) := fun p => p.cell ((HEB.out.bw hb1).cell 0 _ rfl)
        have CE1 : ∀ p : BwW w1, p.W.cell? ⟨wr.heap.size, 1, none⟩ = some (.int .i64 (hN : Int)) := fun p => p.cell ((HEB.out.bw hb1).cell 1 _ rfl)
        have HB1 := Aside0.mk hb1
        clear hb1
        by_cases hn : i + 1 < l.length
        · obtain ⟨⟨k', h'⟩, he'⟩ : ∃ e, l[i + 1]? = some e := ⟨_, List.getElem?_eq_getElem hn⟩
          obtain ⟨ad', hA, m0, mi⟩ := (HX.out.bw (HWA.out.trans HB1.out)).atS (i + 1) _ he'
          obtain rfl : ad = ad' := Option.some.inj hA
          have N0 : ∀ p : BwW w1, p.W.cell? (ad.add ((i + 1) * 2)) = some (.int .i64 k') := fun p => p.cell (m0 _ rfl)
          have N1 : ∀ p : BwW w1, p.W.cell? ⟨(ad.add ((i + 1) * 2)).block, (ad.add ((i + 1) * 2)).off + 1, none⟩ = some (.int .i64 h') := fun p => p.cell (mi 1 _ (by decide) rfl)
          obtain ⟨bb, hbb⟩ : ∃ bb, (k' == k && h' == (hN : Int)) = bb := ⟨_, rfl⟩
          have qe : ∀ (d : Nat) (W : World), (Op.equalIn (d + 2) 55 (.agg #[.int .i64 k', .int .i64 h']) (.agg #[.int .i64 k, .int .i64 (hN : Int)])).run Tryd.prog W = .ok bb W := fun d W => by rw [← hbb]; exact eqEntry d W k' k h' hN
          have HNX := Aside0.mk (show nextIs (k, (hN : Int)) (l.drop (i + 1)) = bb by
            rw [List.drop_eq_getElem_cons hn, show l[i + 1] = (k', h') from Option.some.inj ((List.getElem?_eq_getElem hn).symm.trans he'), ← hbb]
            rfl)
          have dA : decide ((i : Int) + 1 < (l.length : Int)) = true := decide_eq_true (by omega)
          have g3 : (i : Int) + 1 < (l.length : Int) := by omega
          clear he' hA m0 mi hbb
          go_wp2_with fail
          refine wp_region_bw (by kernel_rfl) (by kernel_rfl) ?_
          repeat (first | go_big_quiet_skip | (go_big_quiet_want; go_big_quiet_op; first | go_big_quiet_on | go_big_quiet_call (fail)))
          refine wpQuiet_nil ?_
          rintro w3 ⟨⟨_, hb3⟩, rfl⟩
          have HB1 := Aside0.mk (HB1.out.trans hb3)
          have c0 : w3.cell? ⟨wr.heap.size, 0, none⟩ = some (.int .i64 k) := CE0 ⟨w3, hb3⟩
          have c1 : w3.cell? ⟨wr.heap.size, 1, none⟩ = some (.int .i64 (hN : Int)) := CE1 ⟨w3, hb3⟩
          have hlt3 := Nat.lt_of_lt_of_le (HEB.out.lt) HB1.out.size
          clear CE0 CE1 N0 N1 hb3 qe
          cases bb
          · go_wp2_with fail
            refine (HLN.out _ (HT.out.bw (HWA.out.trans HB1.out))).mono ?_
            rintro e w4 ⟨rfl, hb4⟩
            have HB4 := Aside0.mk ((HB1.out).trans hb4)
            clear hb4
            go_wp2_with fail
            refine (WriteString_calls (lineL k hN (run + 1)) (HDA.out.bw HB4.out) (by have := HLE.out; have := HLL.out; omega)).mono ?_
            rintro e w5 ⟨rfl, v5, h5, c5⟩
            have H5 := Aside0.mk h5
            have HW5 := Aside0.mk (c5.below (HWA.out.trans HB4.out) (fun j hj => by
              rcases hj with rfl | hj
              · exact Nat.le_refl _
              · exact own_base HD.out.own j hj))
            clear h5 c5
            go_wp2_with fail
            go_roundw
            case rel =>
              refine ⟨i + 1, 0, _, v5, _, by omega, by omega, by go_num, rfl, ?_, H5, ⟨?_⟩, HRA, HW5⟩
              · rw [List.length_append]
                have := HLL.out
                omega
              · have := HO.out
                rw [HDR.out, wrL, HNX.out, if_neg (by decide), ← List.append_assoc] at this
                exact this
            case measure => simp [intOf]; omega
          · go_wp2_with fail
            go_roundw
            case rel =>
              refine ⟨i + 1, run + 1, p, v, out, by omega, by omega, by go_num, by go_num, ?_, ⟨HDA.out.bw HB1.out⟩, ⟨?_⟩, HRA, ⟨HWA.out.trans HB1.out⟩⟩
              · exact Nat.le_trans ho (Nat.mul_le_mul_right _ (Nat.le_succ i))
              · have := HO.out
                rw [HDR.out, wrL, HNX.out, if_pos rfl] at this
                exact this
            case measure => simp [intOf]; omega
        · have HNX := Aside0.mk (show nextIs (k, (hN : Int)) (l.drop (i + 1)) = false by rw [List.drop_of_length_le (by omega)]; rfl)
          have dA : decide ((i : Int) + 1 < (l.length : Int)) = false := decide_eq_false (by omega)
          go_wp2_with fail
          refine wp_region_bw (by kernel_rfl) (by kernel_rfl) ?_
          repeat (first | go_big_quiet_skip | (go_big_quiet_want; go_big_quiet_op; first | go_big_quiet_on | go_big_quiet_call (fail)))
          refine wpQuiet_nil ?_
          rintro w3 ⟨⟨_, hb3⟩, rfl⟩
          have HB1 := Aside0.mk (HB1.out.trans hb3)
          have c0 : w3.cell? ⟨wr.heap.size, 0, none⟩ = some (.int .i64 k) := CE0 ⟨w3, hb3⟩
          have c1 : w3.cell? ⟨wr.heap.size, 1, none⟩ = some (.int .i64 (hN : Int)) := CE1 ⟨w3, hb3⟩
          have hlt3 := Nat.lt_of_lt_of_le (HEB.out.lt) HB1.out.size
          clear CE0 CE1 hb3
          go_wp2_with fail
          refine (HLN.out _ (HT.out.bw (HWA.out.trans HB1.out))).mono ?_
          rintro e w4 ⟨rfl, hb4⟩
          have HB4 := Aside0.mk ((HB1.out).trans hb4)
          clear hb4
          go_wp2_with fail
          refine (WriteString_calls (lineL k hN (run + 1)) (HDA.out.bw HB4.out) (by have := HLE.out; have := HLL.out; omega)).mono ?_
          rintro e w5 ⟨rfl, v5, h5, c5⟩
          have H5 := Aside0.mk h5
          have HW5 := Aside0.mk (c5.below (HWA.out.trans HB4.out) (fun j hj => by
            rcases hj with rfl | hj
            · exact Nat.le_refl _
            · exact own_base HD.out.own j hj))
          clear h5 c5
          go_wp2_with fail
          go_roundw
          case rel =>
            refine ⟨i + 1, 0, _, v5, _, by omega, by omega, by go_num, rfl, ?_, H5, ⟨?_⟩, HRA, HW5⟩
            · rw [List.length_append]
              have := HLL.out
              omega
            · have := HO.out
              rw [HDR.out, wrL, HNX.out, if_neg (by decide), ← List.append_assoc] at this
              exact this
          case measure => simp [intOf]; omega
    · obtain rfl : i = l.length := by omega
      have HAL := Aside0.mk (show l.all rightE = true by have := HR.out; rwa [List.take_length] at this)
      have HOL := Aside0.mk (show out = wrL 0 l by have := HO.out; rwa [List.drop_length, show wrL run [] = [] from rfl, List.append_nil] at this)
      go_wp2_with fail
      refine (Tryd.Builder_String_any w.heap.size w.heap.size out wr HD.out.lib HW.out.size).mono ?_
      rintro e w6 ⟨rfl, hb6⟩
      have HW6 := Aside0.mk (show Bw w w6 from Below.trans HW.out hb6)
      clear hb6
      go_wp2_with fail
      rw [Exit.noGoto_ret]
      refine bodyPost_ret (v := .tuple #[.string ⟨out.toArray⟩, .int .i64 0]) (by simp [results, Tryd.results30, go_sem]) rfl ⟨?_, HW6.out⟩
      rw [HAL.out, HOL.out]
      rfl
end Go.Proofs.YtogpjimmcckkcaaDoor.M
