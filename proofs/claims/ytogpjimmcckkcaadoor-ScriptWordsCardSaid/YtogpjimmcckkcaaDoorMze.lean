/- Script: Words: the words of a text of programs. Condition: texts of no more than 2^20 bytes. -/
import Derived.Test.YtogpjimmcckkcaaDoorMzc
import Derived.Test.YtogpjimmcckkcaaDoorMu3
namespace Go.Proofs.YtogpjimmcckkcaaDoor.M
open Go.RowKit Go.Proofs.YtogpjimmcckkcaaDoorW.PrintWords Go.Proofs.YtogpjimmcckkcaaDoorW.PrintLast Go.Proofs.YtogpjimmcckkcaaDoorW.PrintMore
set_option linter.unusedVariables false
set_option linter.unusedSimpArgs false
abbrev encX : Int → List Value := fun x => [.int .u64 x]
set_option maxHeartbeats 4000000 in
set_option maxRecDepth 100000 in
theorem Words_calls (t : List UInt8) (w : World) (he : Env w) (hs : t.length ≤ 1048576) :
    Calls Tryd.prog 37 #[.string (bs t)] w fun e w' => WordsPost w.heap.size (wordsF t) e w' ∧ Bw w w' := by
  have HE := Aside0.mk he
  have HW0 := Aside0.mk (Bw.refl w)
  obtain ⟨L, isL, hL⟩ : ∃ L b, linesF t = (L, b) := ⟨_, _, rfl⟩
  have HLN := Aside0.mk (lines_calls t w he hs)
  rw [hL] at HLN
  have HLE := Aside0.mk (show ∀ x ∈ L, x.size ≤ 1048576 by intro x hx; have := linesF_le t x (by rw [hL]; exact hx); omega)
  have d0 : decide ((1048576 : Int) < (t.length : Int)) = false := decide_eq_false (by omega)
  by_cases hgd : goodL t
  · have h1 : isL = true := by have := hgd.1; rwa [hL] at this
    have h2 : L.length ≤ 4096 := by have := hgd.2; rwa [hL] at this
    subst h1
    have HRF := Aside0.mk (show wordsF t = wordsG [] L by unfold wordsF; rw [if_pos hgd, hL])
    have d1 : decide ((4096 : Int) < (L.length : Int)) = false := decide_eq_false (by omega)
    clear he hL hs hgd
    go_enter Tryd.func37, Tryd.ntmps37
    go_wp2_with fail
    refine HLN.out.mono ?_
    rintro e w1 ⟨A, cp, rfl, hrow, hb1⟩
    have HX := Aside0.mk hrow
    have HB1 := Aside0.mk hb1
    clear hrow hb1 HLN
    go_wp2_with fail
    go_loopw [30, 6] (fun iv ov wr => ∃ (i : Nat) (A1 : Option Addr) (c1 : Nat) (out : List Int), i ≤ L.length ∧ iv = .int .i64 i ∧ ov = .slice A1 out.length c1 ∧ out.length ≤ i ∧ Aside0 (wr.ownsRow w1.heap.size 26 1 (.slice A1 out.length c1) out.length (out.flatMap encX)) ∧ Aside0 (wordsG out (L.drop i) = wordsG [] L) ∧ Aside0 (Bw w1 wr)) (fun iv _ _ => L.length - (intOf iv).toNat)
    case atStart => exact ⟨0, none, 0, [], by omega, rfl, rfl, by simp, ⟨own_nil _ _ _ _⟩, ⟨rfl⟩, ⟨Bw.refl _⟩⟩
    case round =>
      obtain ⟨i, A1, c1, out, hi, rfl, rfl, ho, HO, HG, HW⟩ := hrel
      by_cases hlt : i < L.length
      · obtain ⟨u, hu⟩ : ∃ u, L[i]? = some (bs u) := ⟨(L[i]).data.toList, by rw [List.getElem?_eq_getElem hlt]⟩
        obtain ⟨ad, hA, s0⟩ := HX.out.bw HW.out i _ hu
        subst hA
        have hul : u.length ≤ 1048576 := by have := HLE.out _ (List.mem_of_getElem? hu); rwa [bs_size] at this
        have HDR := Aside0.mk (show L.drop i = bs u :: L.drop (i + 1) by rw [List.drop_eq_getElem_cons hlt]; congr 1; exact Option.some.inj ((List.getElem?_eq_getElem hlt).symm.trans hu))
        have HGG := Aside0.mk (show ∀ x, lineW u = some x → wordsG (out ++ [x]) (L.drop (i + 1)) = wordsG [] L from fun x hx => by
          rw [← HG.out, HDR.out, wordsG]
          rw [show (bs u).data.toList = u from rfl, hx])
        have HGN := Aside0.mk (show lineW u = none → wordsG [] L = none from fun hx => by
          rw [← HG.out, HDR.out, wordsG]
          rw [show (bs u).data.toList = u from rfl, hx])
        cases hq : (u == [110, 101, 120, 116])
        · obtain ⟨k, a, ok, h1⟩ : ∃ k a ok, instrF u = ((k, a), ok) := ⟨_, _, _, rfl⟩
          have HIN := Aside0.mk (show ∀ W, Env W → Calls Tryd.prog 64 #[.string (bs u)] W fun e w' => e = .returned (.tuple #[.agg #[.int .i64 k, .int .i64 a], .bool ok]) ∧ Bw W w' from fun W hW => by have := instr_calls u W hW hul; rw [h1] at this; exact this)
          have HLW := Aside0.mk (show lineW u = if ok = true ∧ wordE k a = 0 then some (wordW k a) else none by unfold lineW; rw [if_neg (by rintro rfl; simp at hq), h1])
          have HWD := Aside0.mk (fun W => Word_calls k a W)
          obtain ⟨x, hx⟩ : ∃ x, x = wordW k a := ⟨_, rfl⟩
          obtain ⟨y, hy⟩ : ∃ y, y = wordE k a := ⟨_, rfl⟩
          rw [← hx, ← hy] at HLW
          rw [← hx, ← hy] at HWD
          clear hu h1 hul hx hy
          go_wp2_with fail
          refine (HIN.out _ ((HE.out.bw HB1.out).bw HW.out)).mono ?_
          rintro e w2 ⟨rfl, hb2⟩
          have HW2 := Aside0.mk (HW.out.trans hb2)
          have HO2 := Aside0.mk (pw_own_below HO.out hb2)
          clear hb2 s0
          go_wp2_with fail
          refine (HWD.out _).mono ?_
          rintro e w3 ⟨rfl, hb3⟩
          have HW3 := Aside0.mk ((HW2.out.alloc (.cells #[.int .i64 k, .int .i64 a] 23)).trans hb3)
          have HO3 := Aside0.mk (pw_own_below (HO2.out.alloc (.cells #[.int .i64 k, .int .i64 a] 23)) hb3)
          clear hb3
          cases ok
          · have HN := Aside0.mk (show wordsF t = none by rw [HRF.out, HGN.out (by rw [HLW.out, if_neg (by rintro ⟨h, _⟩; cases h)])])
            go_wp2_with fail
            go_ret2
            refine ⟨?_, HB1.out.trans HW3.out⟩
            rw [HN.out]
            rfl
          · by_cases hy0 : y = 0
            · subst hy0
              have HGX := Aside0.mk (HGG.out x (by rw [HLW.out, if_pos ⟨rfl, rfl⟩]))
              clear HWD HIN
              go_wp2_with (at_builtin; go_loud (refine print_append_cells (w0 := w1) w1.heap.size rfl (.tmp 55) (.tmp 57) 64 26 (.int .u64 0) 1 8 rfl Tryd.underlying64 infoU64w rfl (by omega) (by omega) (.slice A1 out.length c1) out.length _ [.int .u64 x] rfl rfl rfl (by simp [Value.oneCell']) HO3.out HW3.out HW3.out.size (by omega) ?_); intro v1 w4 hown4 hbel4 hg4 hat4)
              go_roundw
              case rel =>
                obtain ⟨g3, cap3, rfl, _, _⟩ := hown4.form (by omega)
                refine ⟨i + 1, some ⟨g3, 0, none⟩, cap3, out ++ [x], by omega, by go_num, by rw [List.length_append]; rfl, by rw [List.length_append]; simp; omega, ⟨?_⟩, HGX, ⟨hbel4⟩⟩
                rw [List.length_append, List.flatMap_append]
                exact hown4
              case measure => simp [intOf]; omega
            · have hyb : (y != 0) = true := by simpa using hy0
              have HN := Aside0.mk (show wordsF t = none by rw [HRF.out, HGN.out (by rw [HLW.out, if_neg (by rintro ⟨_, h⟩; exact hy0 h)])])
              clear hy0
              go_wp2_with fail
              go_ret2
              refine ⟨?_, HB1.out.trans HW3.out⟩
              rw [HN.out]
              rfl
        · have HGX := Aside0.mk (HGG.out 7 (by unfold lineW; rw [if_pos (eq_of_beq hq)]))
          clear hu
          go_wp2_with (at_builtin; go_loud (refine print_append_cells (w0 := w1) w1.heap.size rfl (.tmp 36) (.tmp 37) 64 26 (.int .u64 0) 1 8 rfl Tryd.underlying64 infoU64w rfl (by omega) (by omega) (.slice A1 out.length c1) out.length _ [.int .u64 7] rfl rfl rfl (by simp [Value.oneCell']) HO.out HW.out HW.out.size (by omega) ?_); intro v1 w4 hown4 hbel4 hg4 hat4)
          go_roundw
          case rel =>
            obtain ⟨g3, cap3, rfl, _, _⟩ := hown4.form (by omega)
            refine ⟨i + 1, some ⟨g3, 0, none⟩, cap3, out ++ [7], by omega, by go_num, by rw [List.length_append]; rfl, by rw [List.length_append]; simp; omega, ⟨?_⟩, HGX, ⟨hbel4⟩⟩
            rw [List.length_append, List.flatMap_append]
            exact hown4
          case measure => simp [intOf]; omega
      · obtain rfl : i = L.length := by omega
        have HN := Aside0.mk (show wordsF t = some out by rw [HRF.out, ← HG.out, List.drop_length]; rfl)
        go_wp2_with fail
        go_ret2
        refine ⟨?_, HB1.out.trans HW.out⟩
        rw [HN.out]
        exact ⟨_, rfl, own_weaken HO.out HB1.out.size⟩
  · have HN := Aside0.mk (show wordsF t = none by unfold wordsF; rw [if_neg hgd])
    clear he hs
    cases isL
    · clear hL hgd
      go_enter Tryd.func37, Tryd.ntmps37
      go_wp2_with fail
      refine HLN.out.mono ?_
      rintro e w1 ⟨A, cp, rfl, hrow, hb1⟩
      go_wp2_with fail
      go_ret2
      refine ⟨?_, hb1⟩
      rw [HN.out]
      rfl
    · have d1 : decide ((4096 : Int) < (L.length : Int)) = true := decide_eq_true (by
        by_cases h : L.length ≤ 4096
        · exact absurd ⟨by rw [hL], by rw [hL]; exact h⟩ hgd
        · omega)
      clear hL hgd
      go_enter Tryd.func37, Tryd.ntmps37
      go_wp2_with fail
      refine HLN.out.mono ?_
      rintro e w1 ⟨A, cp, rfl, hrow, hb1⟩
      go_wp2_with fail
      go_ret2
      refine ⟨?_, hb1⟩
      rw [HN.out]
      rfl
end Go.Proofs.YtogpjimmcckkcaaDoor.M
