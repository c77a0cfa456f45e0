/- Report: the law ReportOf. Condition: what the library's variables and the words' table hold. -/
import Derived.Test.YtogpjimmcckkcaaDoorMve
namespace Go.Proofs.YtogpjimmcckkcaaDoor.M
open Go.RowKit Go.Proofs.YtogpjimmcckkcaaDoorW.PrintWords Go.Proofs.YtogpjimmcckkcaaDoorW.PrintLast Go.Proofs.YtogpjimmcckkcaaDoorW.PrintMore
set_option linter.unusedVariables false
set_option linter.unusedSimpArgs false
/-- The last word below a number that is a text. -/
def lastF (u : List UInt8) : Nat → Int
  | 0 => 0
  | n + 1 => if 1 ≤ n ∧ evW n = u then (n : Int) else lastF u n
theorem lastF_word : ∀ k : Nat, 1 ≤ k → k < 12 → lastF (evW k) 12 = k
  | 1, _, _ | 2, _, _ | 3, _, _ | 4, _, _ | 5, _, _ | 6, _, _ | 7, _, _ | 8, _, _ | 9, _, _ | 10, _, _ | 11, _, _ => by decide
theorem kindR_last (u : List UInt8) : kindR u = lastF u 12 := by
  by_cases h : ∃ k, 1 ≤ k ∧ k < 12 ∧ evW k = u
  · obtain ⟨k, h1, h2, rfl⟩ := h
    rw [kindR_word k h1 h2, lastF_word k h1 h2]
  · have n1 : evW 1 ≠ u := fun e => h ⟨1, by omega, by omega, e⟩
    have n2 : evW 2 ≠ u := fun e => h ⟨2, by omega, by omega, e⟩
    have n3 : evW 3 ≠ u := fun e => h ⟨3, by omega, by omega, e⟩
    have n4 : evW 4 ≠ u := fun e => h ⟨4, by omega, by omega, e⟩
    have n5 : evW 5 ≠ u := fun e => h ⟨5, by omega, by omega, e⟩
    have n6 : evW 6 ≠ u := fun e => h ⟨6, by omega, by omega, e⟩
    have n7 : evW 7 ≠ u := fun e => h ⟨7, by omega, by omega, e⟩
    have n8 : evW 8 ≠ u := fun e => h ⟨8, by omega, by omega, e⟩
    have n9 : evW 9 ≠ u := fun e => h ⟨9, by omega, by omega, e⟩
    have n10 : evW 10 ≠ u := fun e => h ⟨10, by omega, by omega, e⟩
    have n11 : evW 11 ≠ u := fun e => h ⟨11, by omega, by omega, e⟩
    simp [kindR, kindFrom, lastF, n1, n2, n3, n4, n5, n6, n7, n8, n9, n10, n11]
set_option maxHeartbeats 2000000 in
theorem ReportOf_list (A : Option Addr) (cap : Nat) (l : List Rep) (g : Int) (u : List UInt8) (w : World) (he : EnvR w) (hx : Rows encR 5 w A l) : Calls Tryd.prog 6 #[.slice A l.length cap, .int .i64 g, .string (bs u)] w fun e w' => e = .returned (.bool true) ∧ Bw w w' := by
  have HE := Aside0.mk he
  have HX := Aside0.mk hx
  have hlm := hx.1
  have hub : (bs u).size = u.length := bs_size u
  have bad : (200 < l.length ∨ 20 < u.length) → Calls Tryd.prog 6 #[.slice A l.length cap, .int .i64 g, .string (bs u)] w fun e w' => e = .returned (.bool true) ∧ Bw w w' := by
    intro hb
    clear he hx
    by_cases h4 : 200 < l.length
    · have d0 : decide ((200 : Int) < (l.length : Int)) = true := decide_eq_true (by omega)
      clear hb h4
      go_enter Tryd.func6, Tryd.ntmps6
      go_wp2_with fail
      refine (rawake_calls _ HE.out).mono ?_
      rintro e w1 ⟨rfl, hb1⟩
      go_wp2_with fail
      go_ret
      exact ⟨rfl, hb1⟩
    · have d0 : decide ((200 : Int) < (l.length : Int)) = false := decide_eq_false (by omega)
      have d1 : decide ((20 : Int) < (u.length : Int)) = true := decide_eq_true (by omega)
      clear hb h4
      go_enter Tryd.func6, Tryd.ntmps6
      go_wp2_with fail
      refine (rawake_calls _ HE.out).mono ?_
      rintro e w1 ⟨rfl, hb1⟩
      go_wp2_with fail
      go_ret
      exact ⟨rfl, hb1⟩
  by_cases h4 : 200 < l.length
  · exact bad (.inl h4)
  by_cases h5 : 20 < u.length
  · exact bad (.inr h5)
  have d0 : decide ((200 : Int) < (l.length : Int)) = false := decide_eq_false (by omega)
  have d1 : decide ((20 : Int) < (u.length : Int)) = false := decide_eq_false (by omega)
  have HW0 := Aside0.mk (Bw.refl w)
  have h50 : l.length ≤ 200 := by omega
  clear he hx bad h4 h5
  go_enter Tryd.func6, Tryd.ntmps6
  go_wp2_with fail
  go_loopw [7, 8] (fun ov iv wr => ∃ (i : Nat) (A1 : Option Addr) (c1 : Nat) (out : List Rep), i ≤ l.length ∧ iv = .int .i64 i ∧ ov = .slice A1 out.length c1 ∧ out.length ≤ i ∧ Aside0 (wr.ownsRow w.heap.size 34 5 (.slice A1 out.length c1) out.length (out.flatMap encR)) ∧ Aside0 (out = (l.take i).filter (ofB g)) ∧ Aside0 (Bw w wr)) (fun _ iv _ => l.length - (intOf iv).toNat)
  case atStart => exact ⟨0, none, 0, [], by omega, rfl, rfl, by simp, ⟨own_nil _ _ _ _⟩, ⟨rfl⟩, HW0⟩
  case round =>
    obtain ⟨i, A1, c1, out, hi, rfl, rfl, ho, HO, HF, HW⟩ := hrel
    by_cases hlt : i < l.length
    · obtain ⟨⟨k, g', o, t, p⟩, he⟩ : ∃ e, l[i]? = some e := ⟨_, List.getElem?_eq_getElem hlt⟩
      obtain ⟨ad, hA, m0, mi⟩ := (HX.out.bw HW.out).atS i _ he
      subst hA
      have s0 := m0 _ rfl
      have s1 := mi 1 _ (by decide) rfl
      have s2 := mi 2 _ (by decide) rfl
      have s3 := mi 3 _ (by decide) rfl
      have s4 := mi 4 _ (by decide) rfl
      have HF1 : (l.take (i + 1)).filter (ofB g) = out ++ [(⟨k, g', o, t, p⟩ : Rep)].filter (ofB g) := by rw [List.take_add_one, he, List.filter_append, HF.out]; rfl
      have ho5 : out.length ≤ 65536 := by omega
      clear he m0 mi
      have good : ∀ q : Bool, (g' == g) = q → ofB g ⟨k, g', o, t, p⟩ = (q || o == g) := fun q h => by unfold ofB; rw [← h]
      have fin : ∀ q : Bool, ofB g ⟨k, g', o, t, p⟩ = q → (l.take (i + 1)).filter (ofB g) = if q then out ++ [(⟨k, g', o, t, p⟩ : Rep)] else out := fun q h => by rw [HF1]; cases q <;> simp [h]
      have HFIN := Aside0.mk fin
      clear fin HF1
      cases hq : (g' == g)
      · cases hq2 : (o == g)
        · have HG := Aside0.mk (show out = (l.take (i + 1)).filter (ofB g) from (HFIN.out false (by rw [good _ hq, hq2]; rfl)).symm)
          clear HFIN good
          go_wp2_with fail
          go_roundw
          case rel => exact ⟨i + 1, A1, c1, out, by omega, by go_num, rfl, by omega, HO, HG, HW⟩
          case measure => simp [intOf]; omega
        · have HG := Aside0.mk (show out ++ [(⟨k, g', o, t, p⟩ : Rep)] = (l.take (i + 1)).filter (ofB g) from (HFIN.out true (by rw [good _ hq, hq2]; rfl)).symm)
          clear HFIN good
          go_wp2_with (at_builtin; go_loud (refine print_append_cells (w0 := w) w.heap.size rfl (.tmp 43) (.tmp 48) 37 34 (.agg #[.int .i64 0, .int .i64 0, .int .i64 0, .int .i64 0, .int .i64 0]) 5 40 rfl Tryd.underlying37 infoRp rfl (by omega) (by omega) (.slice A1 out.length c1) out.length _ [.int .i64 k, .int .i64 g', .int .i64 o, .int .i64 t, .int .i64 p] rfl rfl rfl (by simp [Value.oneCell']) HO.out HW.out HW.out.size (by omega) ?_); intro v1 w5 hown5 hbel5 hg5 hat5)
          go_roundw
          case rel =>
            obtain ⟨g3, cap3, rfl, _, _⟩ := hown5.form (by omega)
            refine ⟨i + 1, some ⟨g3, 0, none⟩, cap3, out ++ [⟨k, g', o, t, p⟩], by omega, by go_num, by rw [List.length_append]; rfl, by rw [List.length_append]; simp; omega, ⟨?_⟩, HG, ⟨hbel5⟩⟩
            rw [List.length_append, List.flatMap_append]
            exact hown5
          case measure => simp [intOf]; omega
      · have HG := Aside0.mk (show out ++ [(⟨k, g', o, t, p⟩ : Rep)] = (l.take (i + 1)).filter (ofB g) from (HFIN.out true (by rw [good _ hq]; rfl)).symm)
        clear HFIN good
        go_wp2_with (at_builtin; go_loud (refine print_append_cells (w0 := w) w.heap.size rfl (.tmp 43) (.tmp 48) 37 34 (.agg #[.int .i64 0, .int .i64 0, .int .i64 0, .int .i64 0, .int .i64 0]) 5 40 rfl Tryd.underlying37 infoRp rfl (by omega) (by omega) (.slice A1 out.length c1) out.length _ [.int .i64 k, .int .i64 g', .int .i64 o, .int .i64 t, .int .i64 p] rfl rfl rfl (by simp [Value.oneCell']) HO.out HW.out HW.out.size (by omega) ?_); intro v1 w5 hown5 hbel5 hg5 hat5)
        go_roundw
        case rel =>
          obtain ⟨g3, cap3, rfl, _, _⟩ := hown5.form (by omega)
          refine ⟨i + 1, some ⟨g3, 0, none⟩, cap3, out ++ [⟨k, g', o, t, p⟩], by omega, by go_num, by rw [List.length_append]; rfl, by rw [List.length_append]; simp; omega, ⟨?_⟩, HG, ⟨hbel5⟩⟩
          rw [List.length_append, List.flatMap_append]
          exact hown5
        case measure => simp [intOf]; omega
    · obtain rfl : i = l.length := by omega
      have HFL := Aside0.mk (show out = l.filter (ofB g) by have := HF.out; rwa [List.take_length] at this)
      have HRO := Aside0.mk (Rows.own (enc := encR) (sz := 5) (xs := out) (fun _ => rfl) HO.out rfl (own_len HO.out))
      clear hlm hi hlt HF
      go_wp2_with fail
      refine (Words_calls _).mono ?_
      rintro e w1 ⟨rfl, hwd, hb1⟩
      have HWD := Aside0.mk hwd
      have HW1 := Aside0.mk (HW.out.trans hb1)
      have HB1 := Aside0.mk hb1
      have HW10 := Aside0.mk (Bw.refl w1)
      clear hwd hb1
      go_wp2_with fail
      go_loopw [9, 11] (fun kv iv wr2 => ∃ m : Nat, 1 ≤ m ∧ m ≤ 12 ∧ iv = .int .i64 m ∧ kv = .int .i64 (lastF u m) ∧ Aside0 (Bw w1 wr2)) (fun _ iv _ => 12 - (intOf iv).toNat)
      case atStart => exact ⟨1, by omega, by omega, rfl, rfl, HW10⟩
      case round =>
        obtain ⟨m, hm1, hm2, rfl, rfl, HW2⟩ := hrel
        by_cases hlt2 : m < 12
        · have cm := HW2.out.kept (HWD.out m hlt2)
          have HWL := Aside0.mk (show lastF u (m + 1) = if evW m = u then (m : Int) else lastF u m by rw [lastF]; simp [hm1])
          obtain ⟨x, hx⟩ : ∃ x, x = evW m := ⟨_, rfl⟩
          obtain ⟨q, hq⟩ : ∃ q, q = lastF u m := ⟨_, rfl⟩
          rw [← hx] at cm HWL
          rw [← hq] at HWL
          rw [← hq]
          clear hx hq
          cases hb : (x == u)
          · have HLN := Aside0.mk (show lastF u (m + 1) = q by rw [HWL.out, if_neg (by rintro rfl; simp at hb)])
            go_wp2_with fail
            go_roundw
            case rel => exact ⟨m + 1, by omega, by omega, by go_num, by rw [HLN.out], HW2⟩
            case measure => simp [intOf]; omega
          · have HLN := Aside0.mk (show lastF u (m + 1) = (m : Int) by rw [HWL.out, if_pos (eq_of_beq hb)])
            go_wp2_with fail
            go_roundw
            case rel => exact ⟨m + 1, by omega, by omega, by go_num, by rw [HLN.out], HW2⟩
            case measure => simp [intOf]; omega
        · obtain rfl : m = 12 := by omega
          have HK := Aside0.mk (show ∀ W, EnvR W → Calls Tryd.prog 27 #[.string (bs u)] W fun e w' => e = .returned (.int .i64 (lastF u 12)) ∧ Bw W w' from fun W hW => by have := Kind_calls u W hW; rwa [kindR_last] at this)
          obtain ⟨q, hq⟩ : ∃ q, q = lastF u 12 := ⟨_, rfl⟩
          rw [← hq] at HK ⊢
          have HB2 := Aside0.mk (HW1.out.trans HW2.out)
          have HBr := Aside0.mk (HB1.out.trans HW2.out)
          clear hq
          go_wp2_with fail
          refine (rawake_calls _ (HE.out.bw HB2.out)).mono ?_
          rintro e w3 ⟨rfl, hb3⟩
          have HB3 := Aside0.mk (HB2.out.trans hb3)
          have HBr3 := Aside0.mk (HBr.out.trans hb3)
          clear hb3
          go_wp2_with fail
          refine (Of_calls A cap l g _ (HX.out.bw HB3.out) (by omega)).mono ?_
          rintro e w4 ⟨v, rfl, ho4, hb4⟩
          rw [← HFL.out] at ho4
          obtain ⟨A4, c4, rfl, hR4⟩ := Rows.own (enc := encR) (sz := 5) (xs := out) (fun _ => rfl) ho4 rfl (own_len ho4)
          have HR4 := Aside0.mk hR4
          have HB4 := Aside0.mk (HB3.out.trans hb4)
          have HBr4 := Aside0.mk (HBr3.out.trans hb4)
          clear ho4 hR4 hb4
          obtain ⟨A5, c5, he5, hR5⟩ := HRO.out
          have HR5 := Aside0.mk (hR5.bw HBr4.out)
          cases he5
          clear hR5
          go_wp2_with fail
          refine (Same_calls A4 _ c4 _ out _ HR4.out HR5.out (by omega)).mono ?_
          rintro e w5 ⟨rfl, hb5⟩
          have HB5 := Aside0.mk (HB4.out.trans hb5)
          clear hb5
          go_wp2_with fail
          refine (HK.out _ (HE.out.bw HB5.out)).mono ?_
          rintro e w6 ⟨rfl, hb6⟩
          go_wp2_with fail
          go_ret
          exact ⟨by simp, HB5.out.trans hb6⟩
theorem ReportOf_walk (w : World) (he : EnvR w) (a : Option Addr) (len cap : Nat) (f : RdRow [.int .i64, .int .i64, .int .i64, .int .i64, .int .i64] w a len cap) (y : len * 40 ≤ 140737488351232) (g : Int) (hg : (Lit.int IntKind.i64 g).wf = true) (b : ByteArray) (hb : b.size ≤ 140737488351232) : Calls Tryd.prog 6 #[.slice a len cap, .int .i64 g, .string b] w fun e w' => e = .returned (.bool true) ∧ Bw w w' := by
  obtain ⟨xs, hl, hx⟩ := rd_reps f
  subst hl
  exact ReportOf_list a cap xs g b.data.toList w he hx
end Go.Proofs.YtogpjimmcckkcaaDoor.M
