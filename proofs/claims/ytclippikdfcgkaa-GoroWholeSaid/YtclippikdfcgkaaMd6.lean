/- Programs (package code): what All answers, and slices.Clone of instructions; what args and Word answer. Conditions: sizes below 2^18. -/
import Derived.Test.YtclippikdfcgkaaMd5
import Derived.WalkSpells
namespace Go.Proofs.Ytclippikdfcgkaa.M
open Go.RowKit Go.Proofs.YtclippikdfcgkaaW.PrintWords Go.Proofs.YtclippikdfcgkaaW.PrintLast Go.Proofs.YtclippikdfcgkaaW.PrintMore
set_option linter.unusedVariables false
set_option linter.unusedSimpArgs false

def rowAt (pss : List (List (Int × Int))) (p : Int) : List (Int × Int) := if p < 0 then [] else pss.getD p.toNat []
theorem rowAt_len (pss : List (List (Int × Int))) (p : Int) : longOf pss p = (rowAt pss p).length := by unfold longOf rowAt; split <;> rfl

set_option maxHeartbeats 1000000 in
theorem CloneI_calls (A : Option Addr) (cap : Nat) (xs : List (Int × Int)) (w : World) (hx : Rows encP 2 w A xs) (hs : xs.length ≤ 262144) :
    Calls Try.prog 95 #[.slice A xs.length cap] w fun e w' => ∃ v, e = .returned v ∧ w'.ownsRow w.heap.size 48 2 v xs.length (xs.flatMap encP) ∧ Bw w w' := by
  have HB := Aside0.mk (Bw.refl w)
  have hnil := fun (W : World) (a : Option Addr) (n c : Nat) => Lib.run_eql_slice_nil (P := Try.prog) W 51 48 a n c 0 0 Try.underlying51
  rcases A with _ | ad
  · have h0 : xs = [] := by
      apply Classical.byContradiction
      intro hn
      obtain ⟨ad, e, _⟩ := hx.2 hn
      cases e
    subst h0
    clear hx
    go_enter Try.func95, Try.ntmps95
    go_wp2
    go_ret
    exact ⟨_, rfl, own_nil _ _ _ _, HB.out⟩
  · have HO := Aside0.mk (show (w.alloc (.cells #[] 48)).ownsRow w.heap.size 48 2 (.slice (some ⟨w.heap.size, 0, none⟩) 0 0) 0 [] from World.ownsRow_made w #[] 0 (Nat.le_refl _) (by simp [maxLen]) (by simp))
    have HX2 := Aside0.mk (hx.bw ((Bw.refl w).alloc (.cells #[] 48)))
    clear hx
    go_enter Try.func95, Try.ntmps95
    go_wp2_with (at_builtin; go_loud (refine append_rows encP (w0 := w) w.heap.size rfl (.tmp 5) (.tmp 6) 51 48 (.agg #[.int .i64 0, .int .i64 0]) 2 16 rfl Try.underlying51 infoIn rfl (by omega) (by omega) (.slice (some ⟨w.heap.size, 0, none⟩) 0 0) 0 [] xs ad cap rfl rfl (fun _ => rfl) (by simp [Value.oneCell']) HO.out HX2.out (HB.out.alloc _) (by simp) (by omega) ?_); intro v1 w2 hown2 hbel2 hg2 hat2)
    go_ret
    exact ⟨_, rfl, by simpa using hown2, hbel2⟩

section
variable {w : World} {base b : Nat} {v : Value} {us : List Value} {pss : List (List (Int × Int))}
theorem All_calls (p : Int) (h : IsCode w base b v us pss) (hsm : ∀ ps ∈ pss, ps.length ≤ 262144) : Calls Try.prog 26 #[.pointer (some ⟨b, 0, none⟩), .int .i64 p] w fun e w' => ∃ A c, e = .returned (.slice A (rowAt pss p).length c) ∧ Rows encP 2 w' A (rowAt pss p) ∧ Bw w w' := by
  have HB := Aside0.mk (Bw.refl w)
  have H := Aside0.mk h
  by_cases hp : p < 0
  · have d : decide (p < 0) = true := by simpa using hp
    have HL := Aside0.mk (show rowAt pss p = [] by unfold rowAt; rw [if_pos hp])
    clear hp h
    go_enter Try.func26, Try.ntmps26
    go_wp2_with fail
    go_ret
    rw [HL.out]
    exact ⟨_, _, rfl, Rows.nil, HB.out⟩
  · have d : decide (p < 0) = false := by simpa using hp
    by_cases hq : (pss.length : Int) ≤ p
    · have d2 : decide ((pss.length : Int) ≤ p) = true := by simpa using hq
      have HL := Aside0.mk (show rowAt pss p = [] by
        unfold rowAt
        rw [if_neg hp, List.getD_eq_getElem?_getD, List.getElem?_eq_none (by omega)]; rfl)
      clear hp hq h
      go_enter Try.func26, Try.ntmps26
      go_wp2_with fail
      refine (Len_calls H.out).mono ?_
      rintro e w1 ⟨rfl, hb1⟩
      go_wp2_with fail
      go_ret
      rw [HL.out]
      exact ⟨_, _, rfl, Rows.nil, HB.out.trans hb1⟩
    · have d2 : decide ((pss.length : Int) ≤ p) = false := by simpa using hq
      obtain ⟨n, rfl⟩ := Int.eq_ofNat_of_zero_le (show 0 ≤ p by omega)
      have hn : n < pss.length := by omega
      have HL := Aside0.mk (show rowAt pss n = pss[n] by
        unfold rowAt
        rw [if_neg hp, List.getD_eq_getElem?_getD, Int.toNat_natCast, List.getElem?_eq_getElem hn]; rfl)
      have HN := Aside0.mk (List.getElem?_eq_getElem hn)
      have hps1 := hsm _ (List.getElem_mem hn)
      obtain ⟨ps, hps⟩ : ∃ ps, ps = pss[n] := ⟨_, rfl⟩
      rw [← hps] at HL HN hps1
      clear hps hp hq h d2 hsm
      have d2 : decide ((pss.length : Int) ≤ (n : Int)) = false := by simp; omega
      go_enter Try.func26, Try.ntmps26
      go_wp2_with fail
      refine (Len_calls H.out).mono ?_
      rintro e w1 ⟨rfl, hb1⟩
      obtain ⟨A, c, hc, hr⟩ := (H.out.bw hb1).rows
      obtain ⟨ad, B, c', rfl, hck, hrow⟩ := hr.at_ n ps HN.out
      have HW1 := Aside0.mk (HB.out.trans hb1)
      have HR := Aside0.mk hrow
      clear hr hrow hb1
      go_wp2_with fail
      refine (CloneI_calls B c' ps _ HR.out hps1).mono ?_
      rintro e w2 ⟨v2, rfl, hown, hb2⟩
      obtain ⟨A3, c3, rfl, hrow⟩ := Rows.own (enc := encP) (fun _ => rfl) hown rfl (own_len hown)
      have HR2 := Aside0.mk hrow
      clear hown hrow
      go_wp2_with fail
      go_ret
      rw [HL.out]
      exact ⟨_, _, rfl, HR2.out, HW1.out.trans hb2⟩
end
def argsL (k : Int) : Int := if k = 1 then 1 else 0
def argsM (k : Int) : Int := if k = 1 then 16 else if k = 2 then 4096 else if k = 5 then 65535 else 0
theorem args_calls (k : Int) (w : World) : Calls Try.prog 96 #[.int .i64 k] w fun e w' => e = .returned (.tuple #[.int .i64 (argsL k), .int .i64 (argsM k)]) ∧ Bw w w' := by
  have HB := Aside0.mk (Bw.refl w)
  by_cases h1 : k = 1
  · subst h1
    go_enter Try.func96, Try.ntmps96
    go_wp2_with fail
    go_ret2
    exact ⟨rfl, HB.out⟩
  · have d1 : (k == 1) = false := by simpa using h1
    by_cases h2 : k = 2
    · subst h2
      go_enter Try.func96, Try.ntmps96
      go_wp2_with fail
      go_ret2
      exact ⟨rfl, HB.out⟩
    · have d2 : (k == 2) = false := by simpa using h2
      by_cases h5 : k = 5
      · subst h5
        go_enter Try.func96, Try.ntmps96
        go_wp2_with fail
        go_ret2
        exact ⟨rfl, HB.out⟩
      · have d3 : (k == 5) = false := by simpa using h5
        have HL := Aside0.mk (show argsL k = 0 ∧ argsM k = 0 by unfold argsL argsM; rw [if_neg h1, if_neg h1, if_neg h2, if_neg h5]; exact ⟨rfl, rfl⟩)
        clear h1 h2 h5
        go_enter Try.func96, Try.ntmps96
        go_wp2_with fail
        go_ret2
        rw [HL.out.1, HL.out.2]
        exact ⟨rfl, HB.out⟩
theorem or8 (h c : Int) (h0 : 0 ≤ h) (h1 : h < 1048576) (c0 : 0 ≤ c) (c1 : c < 8) : bits .or .u64 (h * 8) c = h * 8 + c := by
  obtain ⟨a, rfl⟩ := Int.eq_ofNat_of_zero_le h0
  obtain ⟨b, rfl⟩ := Int.eq_ofNat_of_zero_le c0
  rw [u64_or _ _ (by omega) (by omega) (by omega) (by omega)]
  have := nat_join 3 (a * 8) b (by omega) (by omega)
  have e1 : ((a : Int) * 8).toNat = a * 8 := by omega
  rw [e1, Int.toNat_natCast, this]
  omega
/-- The least word of an instruction; why it has none. -/
def wordE (k a : Int) : Int := if k < 0 ∨ 6 < k then 1 else if a < argsL k ∨ argsM k < a then 5 else 0
def wordW (k a : Int) : Int := if k < 0 ∨ 6 < k then 0 else if a < argsL k ∨ argsM k < a then 0 else (a - argsL k) * 8 + k
theorem args_range (k : Int) : 0 ≤ argsL k ∧ argsL k ≤ 1 ∧ 0 ≤ argsM k ∧ argsM k ≤ 65535 := by unfold argsL argsM; (repeat' split) <;> omega

set_option maxHeartbeats 1000000 in
set_option maxRecDepth 100000 in
theorem Word_calls (k a : Int) (w : World) : Calls Try.prog 28 #[.agg #[.int .i64 k, .int .i64 a]] w fun e w' => e = .returned (.tuple #[.int .u64 (wordW k a), .int .i64 (wordE k a)]) ∧ Bw w w' := by
  have HB := Aside0.mk (Bw.refl w)
  have hr := args_range k
  by_cases h1 : k < 0
  · have d1 : decide (k < 0) = true := by simpa using h1
    have HL := Aside0.mk (show wordW k a = 0 ∧ wordE k a = 1 by unfold wordW wordE; rw [if_pos (.inl h1), if_pos (.inl h1)]; exact ⟨rfl, rfl⟩)
    clear h1
    go_enter Try.func28, Try.ntmps28
    go_wp2_with fail
    refine (args_calls k _).mono ?_
    rintro e w1 ⟨rfl, hb1⟩
    have B1 := (Blk.new w _ _).bw hb1
    have c0 := B1.cell 0 (.int .i64 k) rfl
    have HW1 := Aside0.mk ((HB.out.alloc _).trans hb1)
    go_wp2_with fail
    go_ret2
    rw [HL.out.1, HL.out.2]
    exact ⟨rfl, HW1.out⟩
  · have d1 : decide (k < 0) = false := by simpa using h1
    by_cases h2 : 6 < k
    · have d2 : decide (6 < k) = true := by simpa using h2
      have HL := Aside0.mk (show wordW k a = 0 ∧ wordE k a = 1 by unfold wordW wordE; rw [if_pos (.inr h2), if_pos (.inr h2)]; exact ⟨rfl, rfl⟩)
      clear h1 h2
      go_enter Try.func28, Try.ntmps28
      go_wp2_with fail
      refine (args_calls k _).mono ?_
      rintro e w1 ⟨rfl, hb1⟩
      have B1 := (Blk.new w _ _).bw hb1
      have c0 := B1.cell 0 (.int .i64 k) rfl
      have HW1 := Aside0.mk ((HB.out.alloc _).trans hb1)
      go_wp2_with fail
      go_ret2
      rw [HL.out.1, HL.out.2]
      exact ⟨rfl, HW1.out⟩
    · have d2 : decide (6 < k) = false := by simpa using h2
      by_cases h3 : a < argsL k
      · have d3 : decide (a < argsL k) = true := by simpa using h3
        have HL := Aside0.mk (show wordW k a = 0 ∧ wordE k a = 5 by unfold wordW wordE; rw [if_neg (show ¬ (k < 0 ∨ 6 < k) by omega), if_neg (show ¬ (k < 0 ∨ 6 < k) by omega), if_pos (show a < argsL k ∨ argsM k < a from .inl h3), if_pos (show a < argsL k ∨ argsM k < a from .inl h3)]; exact ⟨rfl, rfl⟩)
        clear h1 h2 h3
        go_enter Try.func28, Try.ntmps28
        go_wp2_with fail
        refine (args_calls k _).mono ?_
        rintro e w1 ⟨rfl, hb1⟩
        have B1 := (Blk.new w _ _).bw hb1
        have c0 := B1.cell 0 (.int .i64 k) rfl
        have c1 := B1.cell 1 (.int .i64 a) rfl
        have HW1 := Aside0.mk ((HB.out.alloc _).trans hb1)
        go_wp2_with fail
        go_ret2
        rw [HL.out.1, HL.out.2]
        exact ⟨rfl, HW1.out⟩
      · have d3 : decide (a < argsL k) = false := by simpa using h3
        by_cases h4 : argsM k < a
        · have d4 : decide (argsM k < a) = true := by simpa using h4
          have HL := Aside0.mk (show wordW k a = 0 ∧ wordE k a = 5 by unfold wordW wordE; rw [if_neg (show ¬ (k < 0 ∨ 6 < k) by omega), if_neg (show ¬ (k < 0 ∨ 6 < k) by omega), if_pos (show a < argsL k ∨ argsM k < a from .inr h4), if_pos (show a < argsL k ∨ argsM k < a from .inr h4)]; exact ⟨rfl, rfl⟩)
          clear h1 h2 h3 h4
          go_enter Try.func28, Try.ntmps28
          go_wp2_with fail
          refine (args_calls k _).mono ?_
          rintro e w1 ⟨rfl, hb1⟩
          have B1 := (Blk.new w _ _).bw hb1
          have c0 := B1.cell 0 (.int .i64 k) rfl
          have c1 := B1.cell 1 (.int .i64 a) rfl
          have HW1 := Aside0.mk ((HB.out.alloc _).trans hb1)
          go_wp2_with fail
          go_ret2
          rw [HL.out.1, HL.out.2]
          exact ⟨rfl, HW1.out⟩
        · have d4 : decide (argsM k < a) = false := by simpa using h4
          have hL : wordW k a = (a - argsL k) * 8 + k ∧ wordE k a = 0 := by unfold wordW wordE; rw [if_neg (show ¬ (k < 0 ∨ 6 < k) by omega), if_neg (show ¬ (k < 0 ∨ 6 < k) by omega), if_neg (show ¬ (a < argsL k ∨ argsM k < a) by omega), if_neg (show ¬ (a < argsL k ∨ argsM k < a) by omega)]; exact ⟨rfl, rfl⟩
          have HL := Aside0.mk (show wordW k a = bits .or .u64 ((a - argsL k) * 8) k ∧ wordE k a = 0 by rw [or8 _ _ (by omega) (by omega) (by omega) (by omega)]; exact hL)
          have k0 : 0 ≤ k := by omega
          have k1 : k < 7 := by omega
          have a0 : 0 ≤ a - argsL k := by omega
          have a1 : a - argsL k ≤ 65535 := by omega
          clear h1 h2 h3 h4 hL
          go_enter Try.func28, Try.ntmps28
          go_wp2_with fail
          refine (args_calls k _).mono ?_
          rintro e w1 ⟨rfl, hb1⟩
          have B1 := (Blk.new w _ _).bw hb1
          have c0 := B1.cell 0 (.int .i64 k) rfl
          have c1 := B1.cell 1 (.int .i64 a) rfl
          have HW1 := Aside0.mk ((HB.out.alloc _).trans hb1)
          go_wp2_with fail
          go_ret2
          rw [HL.out.1, HL.out.2]
          exact ⟨rfl, HW1.out⟩
end Go.Proofs.Ytclippikdfcgkaa.M
