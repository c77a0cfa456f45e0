/- Script: the document's text of programs. Conditions: the instructions have words; the text is no longer than 2^20 bytes. -/
import Derived.Test.YtogpjimmcckkcaaDoorMza
namespace Go.Proofs.YtogpjimmcckkcaaDoor.M
open Go.RowKit Go.Proofs.YtogpjimmcckkcaaDoorW.PrintWords Go.Proofs.YtogpjimmcckkcaaDoorW.PrintLast Go.Proofs.YtogpjimmcckkcaaDoorW.PrintMore
set_option linter.unusedVariables false
set_option linter.unusedSimpArgs false
theorem str_nil (a : List UInt8) : (ByteArray.mk a.toArray ++ ByteArray.mk #[110, 101, 120, 116, 10]) = ByteArray.mk (a ++ nextB).toArray := by
  apply ByteArray.ext
  simp [nextB, ByteArray.data_append]
set_option maxHeartbeats 2000000 in
set_option maxRecDepth 100000 in
theorem refPrograms_calls {w : World} {A : Option Addr} {c : Nat} {pss : List (List (Int × Int))} (h : Rows2 encP 2 w A pss) (hok : ∀ ps ∈ pss, ∀ x ∈ ps, insOk x) (hT : (progsT pss).length ≤ 1048576) :
    Calls Tryd.prog 38 #[.slice A pss.length c] w fun e w' => e = .returned (strV (progsT pss)) ∧ Bw w w' := by
  have HC := Aside0.mk h
  have HOK := Aside0.mk hok
  have HTL := Aside0.mk hT
  have HW0 := Aside0.mk (Bw.refl w)
  have hpl : pss.length ≤ 9223372036854775807 := h.1
  clear h hok hT
  go_enter Tryd.func38, Tryd.ntmps38
  go_wp2_with fail
  go_loopw [3, 4] (fun ov iv wr => ∃ (p : Nat) (out : List UInt8), p ≤ pss.length ∧ iv = .int .i64 p ∧ ov = strV out ∧ Aside0 (out = progsT (pss.take p)) ∧ Aside0 (Bw w wr)) (fun _ iv _ => pss.length - (intOf iv).toNat)
  case atStart => exact ⟨0, [], by omega, rfl, rfl, ⟨rfl⟩, HW0⟩
  case round =>
    obtain ⟨p, out, hp, rfl, rfl, HO, HW⟩ := hrel
    obtain ⟨wo, hwo⟩ : ∃ wo, wo = wr := ⟨_, rfl⟩
    subst hwo
    by_cases hlt : p < pss.length
    · obtain ⟨ps, hps⟩ : ∃ ps, pss[p]? = some ps := ⟨_, List.getElem?_eq_getElem hlt⟩
      have HPO := Aside0.mk (HOK.out ps (List.mem_of_getElem? hps))
      have HPT := Aside0.mk (progsT_take hps)
      have HTOT := Aside0.mk (show out.length + (sepB p).length + (ps.flatMap insB).length ≤ 1048576 by
        have := Nat.le_trans (progsT_len pss (p + 1)) HTL.out
        rw [HPT.out, ← HO.out] at this
        simp only [List.length_append] at this
        omega)
      obtain ⟨ad, B, c1, rfl, hck, hrow⟩ := (HC.out.bw HW.out).at_ p ps hps
      have HR := Aside0.mk hrow
      have hpsl := hrow.1
      clear hps hrow
      have hz : ¬ (9223372036854775807 < out.length + 5) := by have := HTOT.out; omega
      by_cases hp0 : p = 0
      · have dp : decide ((0 : Int) < (p : Int)) = false := decide_eq_false (by omega)
        obtain ⟨acc, hacc⟩ : ∃ acc, acc = out ++ sepB p := ⟨_, rfl⟩
        have HAC := Aside0.mk hacc
        have HOA := Aside0.mk (show out = acc by rw [hacc]; simp [sepB, hp0])
        have hpn : ¬ ((0 : Int) < (p : Int)) := by omega
        clear hacc hp0
        go_wp2_with fail
        go_loopw [3, 5] (fun ov iv wr => ∃ (j : Nat) (o2 : List UInt8), j ≤ ps.length ∧ iv = .int .i64 j ∧ ov = strV o2 ∧ Aside0 (o2 = acc ++ (ps.take j).flatMap insB) ∧ Aside0 (Bw wo wr)) (fun _ iv _ => ps.length - (intOf iv).toNat)
        case atStart => exact ⟨0, acc, by omega, rfl, by rw [HOA.out], ⟨by simp⟩, ⟨Bw.refl wo⟩⟩
        case round =>
          obtain ⟨j, o2, hj, rfl, rfl, HOi, HWi⟩ := hrel
          have hcki := HWi.out.kept hck
          by_cases hlt2 : j < ps.length
          · obtain ⟨x, hx⟩ : ∃ x, ps[j]? = some x := ⟨_, List.getElem?_eq_getElem hlt2⟩
            obtain ⟨k, a, rfl, hk, ha, hg⟩ := (HPO.out x (List.mem_of_getElem? hx)).nat
            obtain ⟨ad2, hA, m0, mi⟩ := (HR.out.bw HWi.out).atS j _ hx
            subst hA
            have s0 := m0 _ rfl
            have s1 := mi 1 _ (by decide) rfl
            have HTK := Aside0.mk (show (ps.take (j + 1)).flatMap insB = (ps.take j).flatMap insB ++ insB ((k : Int), (a : Int)) by rw [List.take_add_one, hx, List.flatMap_append]; simp)
            have hlen : o2.length + (insB ((k : Int), (a : Int))).length ≤ 1048576 := by
              have h1 := flat_take ps (j + 1)
              rw [HTK.out, List.length_append] at h1
              have h2 := HTOT.out
              rw [HOi.out, HAC.out]
              simp only [List.length_append]
              omega
            have HIN := Aside0.mk (fun W => refInstr_calls k a W hk ha)
            have HS := Aside0.mk (show insB ((k : Int), (a : Int)) = inL k a ++ [10] from rfl)
            obtain ⟨s, hs⟩ : ∃ s, s = inL k a := ⟨_, rfl⟩
            rw [← hs] at HIN HS
            rw [HS.out, List.length_append] at hlen
            have hl1 : ([10] : List UInt8).length = 1 := rfl
            have z1 : ¬ (9223372036854775807 < o2.length + s.length) := by omega
            have z2 : ¬ (9223372036854775807 < o2.length + s.length + 1) := by omega
            have z3 : ¬ (9223372036854775807 < o2.length + (s.length + 1)) := by omega
            clear hx m0 mi hk ha hg hs
            go_wp2_with fail
            refine (HIN.out _).mono ?_
            rintro e w4 ⟨rfl, hb4⟩
            have HB4 := Aside0.mk (HWi.out.trans hb4)
            clear hb4
            go_wp2_with fail
            go_roundw
            case rel =>
              refine ⟨j + 1, o2 ++ (s ++ [10]), by omega, by go_num, ?_, ⟨?_⟩, HB4⟩
              · first | rfl | (congr 1; apply ByteArray.ext; simp)
              · rw [HTK.out, HS.out, HOi.out]
                simp only [List.append_assoc]
            case measure => simp [intOf]; omega
          · obtain rfl : j = ps.length := by omega
            have HOE := Aside0.mk (show o2 = progsT (pss.take (p + 1)) by
              have := HOi.out
              rw [List.take_length] at this
              rw [this, HAC.out, HPT.out, ← HO.out, List.append_assoc])
            go_wp2_with fail
            go_roundw
            case rel => exact ⟨p + 1, o2, by omega, by go_num, rfl, HOE, ⟨HW.out.trans HWi.out⟩⟩
            case measure => simp [intOf]; omega
      · have dp : decide ((0 : Int) < (p : Int)) = true := decide_eq_true (by omega)
        have hpp : (0 : Int) < (p : Int) := by omega
        have hpq : decide (0 < p) = true := decide_eq_true (by omega)
        obtain ⟨acc, hacc⟩ : ∃ acc, acc = out ++ sepB p := ⟨_, rfl⟩
        have HAC := Aside0.mk hacc
        have HOA := Aside0.mk (show acc = out ++ nextB by rw [hacc]; unfold sepB; rw [if_neg hp0])
        clear hacc hp0
        go_wp2_with fail
        rw [str_nil out, ← HOA.out]
        go_loopw [3, 5] (fun ov iv wr => ∃ (j : Nat) (o2 : List UInt8), j ≤ ps.length ∧ iv = .int .i64 j ∧ ov = strV o2 ∧ Aside0 (o2 = acc ++ (ps.take j).flatMap insB) ∧ Aside0 (Bw wo wr)) (fun _ iv _ => ps.length - (intOf iv).toNat)
        case atStart => exact ⟨0, acc, by omega, rfl, rfl, ⟨by simp⟩, ⟨Bw.refl wo⟩⟩
        case round =>
          obtain ⟨j, o2, hj, rfl, rfl, HOi, HWi⟩ := hrel
          have hcki := HWi.out.kept hck
          by_cases hlt2 : j < ps.length
          · obtain ⟨x, hx⟩ : ∃ x, ps[j]? = some x := ⟨_, List.getElem?_eq_getElem hlt2⟩
            obtain ⟨k, a, rfl, hk, ha, hg⟩ := (HPO.out x (List.mem_of_getElem? hx)).nat
            obtain ⟨ad2, hA, m0, mi⟩ := (HR.out.bw HWi.out).atS j _ hx
            subst hA
            have s0 := m0 _ rfl
            have s1 := mi 1 _ (by decide) rfl
            have HTK := Aside0.mk (show (ps.take (j + 1)).flatMap insB = (ps.take j).flatMap insB ++ insB ((k : Int), (a : Int)) by rw [List.take_add_one, hx, List.flatMap_append]; simp)
            have hlen : o2.length + (insB ((k : Int), (a : Int))).length ≤ 1048576 := by
              have h1 := flat_take ps (j + 1)
              rw [HTK.out, List.length_append] at h1
              have h2 := HTOT.out
              rw [HOi.out, HAC.out]
              simp only [List.length_append]
              omega
            have HIN := Aside0.mk (fun W => refInstr_calls k a W hk ha)
            have HS := Aside0.mk (show insB ((k : Int), (a : Int)) = inL k a ++ [10] from rfl)
            obtain ⟨s, hs⟩ : ∃ s, s = inL k a := ⟨_, rfl⟩
            rw [← hs] at HIN HS
            rw [HS.out, List.length_append] at hlen
            have hl1 : ([10] : List UInt8).length = 1 := rfl
            have z1 : ¬ (9223372036854775807 < o2.length + s.length) := by omega
            have z2 : ¬ (9223372036854775807 < o2.length + s.length + 1) := by omega
            have z3 : ¬ (9223372036854775807 < o2.length + (s.length + 1)) := by omega
            clear hx m0 mi hk ha hg hs
            go_wp2_with fail
            refine (HIN.out _).mono ?_
            rintro e w4 ⟨rfl, hb4⟩
            have HB4 := Aside0.mk (HWi.out.trans hb4)
            clear hb4
            go_wp2_with fail
            go_roundw
            case rel =>
              refine ⟨j + 1, o2 ++ (s ++ [10]), by omega, by go_num, ?_, ⟨?_⟩, HB4⟩
              · first | rfl | (congr 1; apply ByteArray.ext; simp)
              · rw [HTK.out, HS.out, HOi.out]
                simp only [List.append_assoc]
            case measure => simp [intOf]; omega
          · obtain rfl : j = ps.length := by omega
            have HOE := Aside0.mk (show o2 = progsT (pss.take (p + 1)) by
              have := HOi.out
              rw [List.take_length] at this
              rw [this, HAC.out, HPT.out, ← HO.out, List.append_assoc])
            go_wp2_with fail
            go_roundw
            case rel => exact ⟨p + 1, o2, by omega, by go_num, rfl, HOE, ⟨HW.out.trans HWi.out⟩⟩
            case measure => simp [intOf]; omega
    · obtain rfl : p = pss.length := by omega
      have HOL := Aside0.mk (show out = progsT pss by have := HO.out; rwa [List.take_length] at this)
      go_wp2_with fail
      go_ret
      rw [HOL.out]
      exact ⟨rfl, HW.out⟩
end Go.Proofs.YtogpjimmcckkcaaDoor.M
