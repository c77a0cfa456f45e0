/- Script: the text of programs: Programs and the document's. Conditions: the instructions have words; the text is no longer than 2^20 bytes. -/
import Derived.Test.YtogpjimmcckkcaaDoorMt7
import Derived.Test.YtogpjimmcckkcaaDoorMz6
namespace Go.Proofs.YtogpjimmcckkcaaDoor.M
open Go.RowKit Go.Proofs.YtogpjimmcckkcaaDoorW.PrintWords Go.Proofs.YtogpjimmcckkcaaDoorW.PrintLast Go.Proofs.YtogpjimmcckkcaaDoorW.PrintMore
set_option linter.unusedVariables false
set_option linter.unusedSimpArgs false
def insOk (x : Int × Int) : Prop := (0 ≤ x.1 ∧ x.1 < 7) ∧ (0 ≤ x.2 ∧ x.2 ≤ 65535) ∧ wordE x.1 x.2 = 0
theorem insOk.nat {x : Int × Int} (h : insOk x) : ∃ k a : Nat, x = ((k : Int), (a : Int)) ∧ k < 7 ∧ a ≤ 65535 ∧ wordE (k : Int) (a : Int) = 0 := by
  obtain ⟨⟨h1, h2⟩, ⟨h3, h4⟩, h5⟩ := h
  obtain ⟨k, hk⟩ := Int.eq_ofNat_of_zero_le h1
  obtain ⟨a, ha⟩ := Int.eq_ofNat_of_zero_le h3
  obtain ⟨x1, x2⟩ := x
  simp only at hk ha h2 h4 h5
  subst hk ha
  exact ⟨k, a, rfl, by omega, by omega, h5⟩
def insB (x : Int × Int) : List UInt8 := inL x.1.toNat x.2.toNat ++ [10]
def nextB : List UInt8 := [110, 101, 120, 116, 10]
def progsT : List (List (Int × Int)) → List UInt8
  | [] => []
  | ps :: r => ps.flatMap insB ++ r.flatMap fun q => nextB ++ q.flatMap insB
def sepB (p : Nat) : List UInt8 := if p = 0 then [] else nextB
theorem progsT_app (a b : List (List (Int × Int))) : progsT (a ++ b) = progsT a ++ (if a = [] then progsT b else b.flatMap fun q => nextB ++ q.flatMap insB) := by
  cases a with
  | nil => simp [progsT]
  | cons x r => simp [progsT]
theorem progsT_take {pss : List (List (Int × Int))} {p : Nat} {ps : List (Int × Int)} (h : pss[p]? = some ps) : progsT (pss.take (p + 1)) = progsT (pss.take p) ++ (sepB p ++ ps.flatMap insB) := by
  have hl := (List.getElem?_eq_some_iff.1 h).1
  rw [List.take_add_one, h, Option.toList_some, progsT_app]
  congr 1
  unfold sepB
  by_cases h0 : p = 0
  · subst h0; simp [progsT]
  · have hne : pss.take p ≠ [] := fun e => by
      have h1 : (pss.take p).length = 0 := by rw [e]; rfl
      rw [List.length_take] at h1
      omega
    rw [if_neg h0, if_neg hne]
    simp
theorem progsT_len (pss : List (List (Int × Int))) (p : Nat) : (progsT (pss.take p)).length ≤ (progsT pss).length := by
  have := progsT_app (pss.take p) (pss.drop p)
  rw [List.take_append_drop] at this
  rw [this, List.length_append]
  omega
theorem flat_take (ps : List (Int × Int)) (j : Nat) : ((ps.take j).flatMap insB).length ≤ (ps.flatMap insB).length := by
  have : ps.flatMap insB = (ps.take j).flatMap insB ++ (ps.drop j).flatMap insB := by rw [← List.flatMap_append, List.take_append_drop]
  rw [this, List.length_append]; omega
theorem rowAt_nat {pss : List (List (Int × Int))} {p : Nat} {ps : List (Int × Int)} (h : pss[p]? = some ps) : rowAt pss (p : Int) = ps := by
  unfold rowAt
  rw [if_neg (by omega), List.getD_eq_getElem?_getD]
  simp [h]
theorem All_own {w : World} {base b : Nat} {v : Value} {us : List Value} {pss : List (List (Int × Int))} (n : Nat) (ps : List (Int × Int)) (h : IsCode w base b v us pss) (hn : pss[n]? = some ps) (hps1 : ps.length ≤ 262144) : Calls Tryd.prog 60 #[.pointer (some ⟨b, 0, none⟩), .int .i64 (n : Int)] w fun e w' => ∃ A c, e = .returned (.slice A ps.length c) ∧ w'.ownsRow w.heap.size 23 2 (.slice A ps.length c) ps.length (ps.flatMap encP) ∧ Bw w w' := by
  have HB := Aside0.mk (Bw.refl w)
  have H := Aside0.mk h
  have HN := Aside0.mk hn
  have hlt := (List.getElem?_eq_some_iff.1 hn).1
  have d : decide ((n : Int) < 0) = false := decide_eq_false (by omega)
  have d2 : decide ((pss.length : Int) ≤ (n : Int)) = false := decide_eq_false (by omega)
  have g1 : (n : Int) < (pss.length : Int) := by omega
  clear h hn
  go_enter Tryd.func60, Tryd.ntmps60
  go_wp2_with fail
  refine (Len_calls H.out).mono ?_
  rintro e w1 ⟨rfl, hb1⟩
  obtain ⟨A, c, hc, hr⟩ := (H.out.bw hb1).rows
  obtain ⟨ad, B, c', rfl, hck, hrow⟩ := hr.at_ n ps HN.out
  have HW1 := Aside0.mk (HB.out.trans hb1)
  have HR := Aside0.mk hrow
  clear hr hrow
  go_wp2_with fail
  refine (CloneI_calls B c' ps _ HR.out hps1).mono ?_
  rintro e w2 ⟨v2, rfl, hown, hb2⟩
  obtain ⟨A3, c3, rfl⟩ := own_slice hown
  have HO2 := Aside0.mk (own_weaken hown hb1.size)
  clear hown
  go_wp2_with fail
  go_ret
  exact ⟨_, _, rfl, HO2.out, HW1.out.trans hb2⟩
theorem Programs_nil (w : World) : Calls Tryd.prog 35 #[.pointer none] w fun e w' => e = .returned (strV []) ∧ Bw w w' := by
  have HB := Aside0.mk (Bw.refl w)
  go_enter Tryd.func35, Tryd.ntmps35
  go_wp2_with fail
  refine (Len_nil _).mono ?_
  rintro e w1 ⟨rfl, hb1⟩
  have HD := Aside0.mk ((IsBld.new w).bw hb1)
  have HW := Aside0.mk ((HB.out.alloc (.cells #[.pointer none, .slice none 0 0] 91)).trans hb1)
  clear hb1
  go_wp2_with fail
  go_loopw [11] (fun iv wr => iv = .int .i64 0 ∧ Aside0 (IsBld wr w.heap.size w.heap.size (.pointer none) (.slice none 0 0) []) ∧ Aside0 (Bw w wr)) (fun iv _ => 0)
  case atStart => exact ⟨rfl, HD, HW⟩
  case round =>
    obtain ⟨rfl, HD, HW⟩ := hrel
    go_wp2_with fail
    refine (Tryd.Builder_String_any w.heap.size w.heap.size [] wr HD.out.lib HW.out.size).mono ?_
    rintro e w6 ⟨rfl, hb6⟩
    have HW6 := Aside0.mk (show Bw w w6 from Below.trans HW.out hb6)
    clear hb6
    go_wp2_with fail
    go_ret
    exact ⟨rfl, HW6.out⟩
set_option maxHeartbeats 2000000 in
set_option maxRecDepth 100000 in
theorem Programs_calls {w : World} {base b : Nat} {v : Value} {us : List Value} {pss : List (List (Int × Int))} (h : IsCode w base b v us pss) (hok : ∀ ps ∈ pss, ∀ x ∈ ps, insOk x) (hsm : ∀ ps ∈ pss, ps.length ≤ 262144) (hT : (progsT pss).length ≤ 1048576) (ht : Tab w) :
    Calls Tryd.prog 35 #[.pointer (some ⟨b, 0, none⟩)] w fun e w' => e = .returned (strV (progsT pss)) ∧ Bw w w' := by
  have HC := Aside0.mk h
  have HOK := Aside0.mk hok
  have HSM := Aside0.mk hsm
  have HTL := Aside0.mk hT
  have HT := Aside0.mk ht
  have HB := Aside0.mk (Bw.refl w)
  have hpl := h.len.1
  clear h hok hsm hT ht
  go_enter Tryd.func35, Tryd.ntmps35
  go_wp2_with fail
  refine (Len_calls (HC.out.bw ((Bw.refl w).alloc _))).mono ?_
  rintro e w1 ⟨rfl, hb1⟩
  have HD := Aside0.mk ((IsBld.new w).bw hb1)
  have HW := Aside0.mk ((HB.out.alloc (.cells #[.pointer none, .slice none 0 0] 91)).trans hb1)
  clear hb1
  go_wp2_with fail
  go_loopw [11] (fun iv wr => ∃ (p : Nat) (sp v : Value) (out : List UInt8), p ≤ pss.length ∧ iv = .int .i64 p ∧ Aside0 (IsBld wr w.heap.size w.heap.size sp v out) ∧ Aside0 (out = progsT (pss.take p)) ∧ Aside0 (Bw w wr)) (fun iv _ => pss.length - (intOf iv).toNat)
  case atStart => exact ⟨0, _, _, [], by omega, rfl, HD, ⟨rfl⟩, HW⟩
  case round =>
    obtain ⟨p, sp, v, out, hp, rfl, HD, HO, HW⟩ := hrel
    obtain ⟨wo, hwo⟩ : ∃ wo, wo = wr := ⟨_, rfl⟩
    subst hwo
    by_cases hlt : p < pss.length
    · obtain ⟨ps, hps⟩ : ∃ ps, pss[p]? = some ps := ⟨_, List.getElem?_eq_getElem hlt⟩
      have HPO := Aside0.mk (HOK.out ps (List.mem_of_getElem? hps))
      have HPT := Aside0.mk (progsT_take hps)
      have HPL := Aside0.mk (show (progsT (pss.take (p + 1))).length ≤ 1048576 from Nat.le_trans (progsT_len pss (p + 1)) HTL.out)
      have hps1 : ps.length ≤ 262144 := HSM.out ps (List.mem_of_getElem? hps)
      have HAL := Aside0.mk (show ∀ W, Bw w W → Calls Tryd.prog 60 #[.pointer (some ⟨b, 0, none⟩), .int .i64 (p : Int)] W fun e w' => ∃ A c, e = .returned (.slice A ps.length c) ∧ w'.ownsRow w.heap.size 23 2 (.slice A ps.length c) ps.length (ps.flatMap encP) ∧ Bw W w' from fun W hW => (All_own p ps (HC.out.bw hW) hps hps1).mono fun e w' ⟨A, c, he, ho, hb⟩ => ⟨A, c, he, own_weaken ho hW.size, hb⟩)
      clear hps
      have HTOT := Aside0.mk (show out.length + (sepB p).length + (ps.flatMap insB).length ≤ 1048576 by
        have := HPL.out
        rw [HPT.out, ← HO.out] at this
        simp only [List.length_append] at this
        omega)
      by_cases hp0 : p = 0
      · subst hp0
        obtain ⟨acc, hacc⟩ : ∃ acc, acc = out ++ sepB 0 := ⟨_, rfl⟩
        have HAC := Aside0.mk hacc
        have HD2 := Aside0.mk (show IsBld wo w.heap.size w.heap.size sp v acc by rw [hacc]; simpa [sepB] using HD.out)
        clear hacc
        go_wp2_with fail
        refine (HAL.out _ HW.out).mono ?_
        rintro e w3 ⟨A, c, rfl, hR, hb3⟩
        have HR := Aside0.mk hR
        have HD3 := Aside0.mk (HD2.out.bw hb3)
        have HW3 := Aside0.mk (HW.out.trans hb3)
        clear hR hb3
        go_wp2_with fail
        go_loopw [21] (fun iv wr => ∃ (j : Nat) (sp v : Value) (o2 : List UInt8), j ≤ ps.length ∧ iv = .int .i64 j ∧ Aside0 (IsBld wr w.heap.size w.heap.size sp v o2) ∧ Aside0 (o2 = acc ++ (ps.take j).flatMap insB) ∧ Aside0 (wr.ownsRow w.heap.size 23 2 (.slice A ps.length c) ps.length (ps.flatMap encP)) ∧ Aside0 (Bw w wr)) (fun iv _ => ps.length - (intOf iv).toNat)
        case atStart => exact ⟨0, _, _, _, by omega, rfl, HD3, ⟨by simp⟩, HR, HW3⟩
        case round =>
          obtain ⟨j, sp3, v3, o2, hj, rfl, HDi, HOi, HRi, HWi⟩ := hrel
          by_cases hlt2 : j < ps.length
          · obtain ⟨x, hx⟩ : ∃ x, ps[j]? = some x := ⟨_, List.getElem?_eq_getElem hlt2⟩
            obtain ⟨k, a, rfl, hk, ha, hg⟩ := (HPO.out x (List.mem_of_getElem? hx)).nat
            obtain ⟨A', c', hAc, hRr⟩ := Rows.own (enc := encP) (sz := 2) (xs := ps) (fun _ => rfl) HRi.out rfl (own_len HRi.out)
            obtain ⟨rfl, _, rfl⟩ := Value.slice.inj hAc
            obtain ⟨ad, hA, m0, mi⟩ := hRr.atS j _ hx
            subst hA
            have s0 := m0 _ rfl
            have s1 := mi 1 _ (by decide) rfl
            have HTK := Aside0.mk (show (ps.take (j + 1)).flatMap insB = (ps.take j).flatMap insB ++ insB ((k : Int), (a : Int)) by rw [List.take_add_one, hx, List.flatMap_append]; simp)
            have hlen : o2.length + (insB ((k : Int), (a : Int))).length ≤ 1048576 := by
              have h1 := flat_take ps (j + 1)
              rw [HTK.out, List.length_append] at h1
              have h2 := HTOT.out
              rw [HOi.out, HAC.out]
              simp only [List.length_append]
              omega
            have HIN := Aside0.mk (fun W hT => Instr_good k a W hk ha hg hT)
            have HS := Aside0.mk (show insB ((k : Int), (a : Int)) = inL k a ++ [10] from rfl)
            obtain ⟨s, hs⟩ : ∃ s, s = inL k a := ⟨_, rfl⟩
            rw [← hs] at HIN HS
            rw [HS.out, List.length_append] at hlen
            have HDA := Aside0.mk (HDi.out.bw ((Bw.refl _).alloc (.cells #[.int .i64 (k : Int), .int .i64 (a : Int)] 23)))
            have HRA := Aside0.mk (pw_own_below HRi.out ((Bw.refl _).alloc (.cells #[.int .i64 (k : Int), .int .i64 (a : Int)] 23)))
            have HWA := Aside0.mk (HWi.out.alloc (.cells #[.int .i64 (k : Int), .int .i64 (a : Int)] 23))
            have hl1 : ([10] : List UInt8).length = 1 := rfl
            have zlen : ¬ (9223372036854775807 < s.length + 1) := by omega
            clear hx m0 mi hk ha hg hs hRr hAc
            go_wp2_with fail
            refine (HIN.out _ (HT.out.bw HWA.out)).mono ?_
            rintro e w4 ⟨rfl, hb4⟩
            have HD4 := Aside0.mk (HDA.out.bw hb4)
            have HR4 := Aside0.mk (pw_own_below HRA.out hb4)
            have HW4 := Aside0.mk (HWA.out.trans hb4)
            clear hb4
            go_wp2_with fail
            refine (WriteString_calls (s ++ [10]) HD4.out (by rw [List.length_append]; omega)).mono ?_
            rintro e w5 ⟨rfl, v5, h5, c5⟩
            have HR5 := Aside0.mk (own_of_block HR4.out (fun g hg => c5.block g (own_lt HR4.out g hg) (fun q => by
              rcases q with rfl | q
              · exact own_ne (t := 91) HR4.out HD4.out.blk (by decide) hg.symm
              · exact (ne_types HD4.out.own HR4.out (by decide)) g q hg)))
            have H5 := Aside0.mk h5
            have HW5 := Aside0.mk (c5.below HW4.out (fun j hj => by
              rcases hj with rfl | hj
              · exact Nat.le_refl _
              · exact own_base HD4.out.own j hj))
            clear h5 c5
            go_wp2_with fail
            go_roundw
            case rel =>
              refine ⟨j + 1, _, v5, _, by omega, by go_num, H5, ⟨?_⟩, HR5, HW5⟩
              rw [HTK.out, HS.out, HOi.out]
              simp only [List.append_assoc]
            case measure => simp [intOf]; omega
          · obtain rfl : j = ps.length := by omega
            have HOE := Aside0.mk (show o2 = progsT (pss.take (0 + 1)) by
              have := HOi.out
              rw [List.take_length] at this
              rw [this, HAC.out, HPT.out, ← HO.out, List.append_assoc])
            go_wp2_with fail
            go_roundw
            case rel => exact ⟨0 + 1, _, v3, o2, by omega, by go_num, HDi, HOE, HWi⟩
            case measure => simp [intOf]; omega
      · have dp : decide ((0 : Int) < (p : Int)) = true := decide_eq_true (by omega)
        have HSE := Aside0.mk (show sepB p = nextB by unfold sepB; rw [if_neg hp0])
        go_wp2_with fail
        refine (WriteString_calls [110, 101, 120, 116, 10] HD.out (by have := HTOT.out; simp; omega)).mono ?_
        rintro e w2 ⟨rfl, v2, h2, c2⟩
        obtain ⟨acc, hacc⟩ : ∃ acc, acc = out ++ sepB p := ⟨_, rfl⟩
        have HAC := Aside0.mk hacc
        have HD2 := Aside0.mk (show IsBld w2 w.heap.size w.heap.size _ v2 acc by rw [hacc, HSE.out]; exact h2)
        have HW2 := Aside0.mk (c2.below HW.out (fun j hj => by
          rcases hj with rfl | hj
          · exact Nat.le_refl _
          · exact own_base HD.out.own j hj))
        clear h2 c2 hacc
        go_wp2_with fail
        refine (HAL.out _ HW2.out).mono ?_
        rintro e w3 ⟨A, c, rfl, hR, hb3⟩
        have HR := Aside0.mk hR
        have HD3 := Aside0.mk (HD2.out.bw hb3)
        have HW3 := Aside0.mk (HW2.out.trans hb3)
        clear hR hb3
        go_wp2_with fail
        go_loopw [21] (fun iv wr => ∃ (j : Nat) (sp v : Value) (o2 : List UInt8), j ≤ ps.length ∧ iv = .int .i64 j ∧ Aside0 (IsBld wr w.heap.size w.heap.size sp v o2) ∧ Aside0 (o2 = acc ++ (ps.take j).flatMap insB) ∧ Aside0 (wr.ownsRow w.heap.size 23 2 (.slice A ps.length c) ps.length (ps.flatMap encP)) ∧ Aside0 (Bw w wr)) (fun iv _ => ps.length - (intOf iv).toNat)
        case atStart => exact ⟨0, _, _, _, by omega, rfl, HD3, ⟨by simp⟩, HR, HW3⟩
        case round =>
          obtain ⟨j, sp3, v3, o2, hj, rfl, HDi, HOi, HRi, HWi⟩ := hrel
          by_cases hlt2 : j < ps.length
          · obtain ⟨x, hx⟩ : ∃ x, ps[j]? = some x := ⟨_, List.getElem?_eq_getElem hlt2⟩
            obtain ⟨k, a, rfl, hk, ha, hg⟩ := (HPO.out x (List.mem_of_getElem? hx)).nat
            obtain ⟨A', c', hAc, hRr⟩ := Rows.own (enc := encP) (sz := 2) (xs := ps) (fun _ => rfl) HRi.out rfl (own_len HRi.out)
            obtain ⟨rfl, _, rfl⟩ := Value.slice.inj hAc
            obtain ⟨ad, hA, m0, mi⟩ := hRr.atS j _ hx
            subst hA
            have s0 := m0 _ rfl
            have s1 := mi 1 _ (by decide) rfl
            have HTK := Aside0.mk (show (ps.take (j + 1)).flatMap insB = (ps.take j).flatMap insB ++ insB ((k : Int), (a : Int)) by rw [List.take_add_one, hx, List.flatMap_append]; simp)
            have hlen : o2.length + (insB ((k : Int), (a : Int))).length ≤ 1048576 := by
              have h1 := flat_take ps (j + 1)
              rw [HTK.out, List.length_append] at h1
              have h2 := HTOT.out
              rw [HOi.out, HAC.out]
              simp only [List.length_append]
              omega
            have HIN := Aside0.mk (fun W hT => Instr_good k a W hk ha hg hT)
            have HS := Aside0.mk (show insB ((k : Int), (a : Int)) = inL k a ++ [10] from rfl)
            obtain ⟨s, hs⟩ : ∃ s, s = inL k a := ⟨_, rfl⟩
            rw [← hs] at HIN HS
            rw [HS.out, List.length_append] at hlen
            have HDA := Aside0.mk (HDi.out.bw ((Bw.refl _).alloc (.cells #[.int .i64 (k : Int), .int .i64 (a : Int)] 23)))
            have HRA := Aside0.mk (pw_own_below HRi.out ((Bw.refl _).alloc (.cells #[.int .i64 (k : Int), .int .i64 (a : Int)] 23)))
            have HWA := Aside0.mk (HWi.out.alloc (.cells #[.int .i64 (k : Int), .int .i64 (a : Int)] 23))
            have hl1 : ([10] : List UInt8).length = 1 := rfl
            have zlen : ¬ (9223372036854775807 < s.length + 1) := by omega
            clear hx m0 mi hk ha hg hs hRr hAc
            go_wp2_with fail
            refine (HIN.out _ (HT.out.bw HWA.out)).mono ?_
            rintro e w4 ⟨rfl, hb4⟩
            have HD4 := Aside0.mk (HDA.out.bw hb4)
            have HR4 := Aside0.mk (pw_own_below HRA.out hb4)
            have HW4 := Aside0.mk (HWA.out.trans hb4)
            clear hb4
            go_wp2_with fail
            refine (WriteString_calls (s ++ [10]) HD4.out (by rw [List.length_append]; omega)).mono ?_
            rintro e w5 ⟨rfl, v5, h5, c5⟩
            have HR5 := Aside0.mk (own_of_block HR4.out (fun g hg => c5.block g (own_lt HR4.out g hg) (fun q => by
              rcases q with rfl | q
              · exact own_ne (t := 91) HR4.out HD4.out.blk (by decide) hg.symm
              · exact (ne_types HD4.out.own HR4.out (by decide)) g q hg)))
            have H5 := Aside0.mk h5
            have HW5 := Aside0.mk (c5.below HW4.out (fun j hj => by
              rcases hj with rfl | hj
              · exact Nat.le_refl _
              · exact own_base HD4.out.own j hj))
            clear h5 c5
            go_wp2_with fail
            go_roundw
            case rel =>
              refine ⟨j + 1, _, v5, _, by omega, by go_num, H5, ⟨?_⟩, HR5, HW5⟩
              rw [HTK.out, HS.out, HOi.out]
              simp only [List.append_assoc]
            case measure => simp [intOf]; omega
          · obtain rfl : j = ps.length := by omega
            have HOE := Aside0.mk (show o2 = progsT (pss.take (p + 1)) by
              have := HOi.out
              rw [List.take_length] at this
              rw [this, HAC.out, HPT.out, ← HO.out, List.append_assoc])
            go_wp2_with fail
            go_roundw
            case rel => exact ⟨p + 1, _, v3, o2, by omega, by go_num, HDi, HOE, HWi⟩
            case measure => simp [intOf]; omega
    · obtain rfl : p = pss.length := by omega
      have HOL := Aside0.mk (show out = progsT pss by have := HO.out; rwa [List.take_length] at this)
      go_wp2_with fail
      refine (Tryd.Builder_String_any w.heap.size w.heap.size out _ HD.out.lib HW.out.size).mono ?_
      rintro e w6 ⟨rfl, hb6⟩
      have HW6 := Aside0.mk (show Bw w w6 from Below.trans HW.out hb6)
      clear hb6
      go_wp2_with fail
      go_ret
      rw [HOL.out]
      exact ⟨rfl, HW6.out⟩
end Go.Proofs.YtogpjimmcckkcaaDoor.M
