/- Package fair: Round. No condition. -/
import Derived.Test.YtkmfbafgbaapiaaMq6
namespace Go.Proofs.Ytkmfbafgbaapiaa.M
open Go.RowKit Go.Maps Go.Proofs.YtkmfbafgbaapiaaW.PrintWords Go.Proofs.YtkmfbafgbaapiaaW.PrintLast Go.Proofs.YtkmfbafgbaapiaaW.PrintMore
set_option linter.unusedVariables false
set_option linter.unusedSimpArgs false
set_option maxRecDepth 100000
theorem infoN : (Try.prog.info? 27).map (fun i => (i.zero, i.size, i.bytes)) = some (some (.agg #[.int .i64 0, .int .i64 0]), 2, 16) := by kernel_rfl
def stepL (q : Int) (t : Nat) : List En := (List.range t).map fun i : Nat => (q, (i : Int))
def qOf (i : Nat) : Int := if i = 0 then 1 else 4
def accJ (T : Nat) : Nat → List En
  | 0 => []
  | j + 1 => accJ T j ++ stepL (qOf j) T
def roundL (T : Nat) : List En := accJ T 2 ++ List.replicate 4 (2, 0) ++ [(3, 0)]
theorem stepL_succ (q : Int) (t : Nat) : stepL q (t + 1) = stepL q t ++ [(q, (t : Int))] := by unfold stepL; rw [List.range_succ, List.map_append]; rfl
theorem stepL_len (q : Int) (t : Nat) : (stepL q t).length = t := by unfold stepL; simp
theorem accJ_len (T : Nat) : ∀ j, (accJ T j).length = j * T
  | 0 => by simp [accJ]
  | j + 1 => by
    show (accJ T j ++ stepL (qOf j) T).length = _
    rw [List.length_append, accJ_len T j, stepL_len, Nat.succ_mul]
abbrev ownN (w : World) (base : Nat) (v : Value) (l : List En) : Prop := w.ownsRow base 27 2 v l.length (l.flatMap encN)
theorem ownN_push {w : World} {base : Nat} {v : Value} {l : List En} {p : En} (h : w.ownsRow base 27 2 v (l.length + 1) (l.flatMap encN ++ [.int .i64 p.1, .int .i64 p.2])) : ownN w base v (l ++ [p]) := by
  unfold ownN
  rw [List.length_append, List.flatMap_append]
  simpa using h
def RoundPost (T : Nat) (w : World) (e : Ending) (w' : World) : Prop := ∃ v, e = .returned v ∧ ownN w' w.heap.size v (roundL T) ∧ Bw w w'
theorem fairRound_not (p t g : Int) (hr : rightB p t g = false) (w : World) : Calls Try.prog 33 #[.agg #[.int .i64 p, .int .i64 t, .int .i64 g]] w fun e w' => e = .returned (.slice none 0 0) ∧ Bw w w' := by
  have HB := Aside0.mk ((Bw.refl w).alloc (.cells #[.int .i64 p, .int .i64 t, .int .i64 g] 49))
  have HR := Aside0.mk hr
  clear hr
  go_enter Try.func33, Try.ntmps33
  go_wp2_with fail
  refine (layRight_calls p t g _).mono ?_
  rintro e w1 ⟨rfl, hb1⟩
  rw [HR.out]
  go_wp2_with fail
  go_ret
  exact ⟨rfl, HB.out.trans hb1⟩
set_option maxHeartbeats 2000000 in
theorem fairRound_calls (p g : Int) (T : Nat) (hr : rightB p T g = true) (w : World) : Calls Try.prog 33 #[.agg #[.int .i64 p, .int .i64 T, .int .i64 g]] w (RoundPost T w) := by
  have hT : T ≤ 256 := by unfold rightB at hr; simp at hr; omega
  have HB := Aside0.mk ((Bw.refl w).alloc (.cells #[.int .i64 p, .int .i64 T, .int .i64 g] 49))
  have HL := Aside0.mk (Blk.new w #[.int .i64 p, .int .i64 T, .int .i64 g] 49)
  have HR := Aside0.mk hr
  clear hr
  go_enter Try.func33, Try.ntmps33
  go_wp2_with fail
  refine (layRight_calls p T g _).mono ?_
  rintro e w1 ⟨rfl, hb1⟩
  rw [HR.out]
  have HL := Aside0.mk (HL.out.bw hb1)
  have HB1 := Aside0.mk (HB.out.trans hb1)
  clear hb1
  go_wp2_with fail
  have HKB := Aside0.mk (Blk.new w1 #[.int .i64 1, .int .i64 4] 3)
  have HL := Aside0.mk (HL.out.alloc (.cells #[.int .i64 1, .int .i64 4] 3))
  have HB2 := Aside0.mk (HB1.out.alloc (.cells #[.int .i64 1, .int .i64 4] 3))
  obtain ⟨w2, hw2⟩ : ∃ w2, w2 = w1.alloc (.cells #[.int .i64 1, .int .i64 4] 3) := ⟨_, rfl⟩
  obtain ⟨kb, hkb⟩ : ∃ kb, kb = w1.heap.size := ⟨_, rfl⟩
  rw [← hw2] at HKB HL HB2 ⊢
  rw [← hkb] at HKB ⊢
  clear hw2 hkb
  go_loopw [3, 12] (fun v jv wr => ∃ j : Nat, j ≤ 2 ∧ jv = .int .i64 j ∧ Aside0 (ownN wr w2.heap.size v (accJ T j)) ∧ Aside0 (Bw w2 wr)) (fun _ jv _ => 2 - (intOf jv).toNat)
  case atStart => exact ⟨0, by omega, rfl, ⟨own_nil _ _ _ _⟩, ⟨Bw.refl _⟩⟩
  case round =>
    obtain ⟨j, hj, rfl, HO, HV⟩ := hrel
    by_cases hlt : j < 2
    · obtain ⟨q, hq⟩ : ∃ q, qOf j = q := ⟨_, rfl⟩
      have HAS := Aside0.mk (show accJ T (j + 1) = accJ T j ++ stepL q T by rw [← hq]; rfl)
      have HAL := Aside0.mk (accJ_len T j)
      have hjT : j * T ≤ 2 * 256 := Nat.mul_le_mul hj hT
      have k0 : wr.cell? ⟨kb, j, none⟩ = some (.int .i64 q) := (HKB.out.bw HV.out).cell j _ (by
        rw [← hq]
        rcases (show j = 0 ∨ j = 1 by omega) with rfl | rfl <;> rfl)
      have c1 : wr.cell? ⟨w.heap.size, 1, none⟩ = some (.int .i64 T) := (HL.out.bw HV.out).cell 1 _ rfl
      have d1 : decide ((j : Int) < 2) = true := by simp; omega
      clear hq
      go_wp2_with fail
      obtain ⟨wo, hwo⟩ : ∃ wo, wo = wr := ⟨_, rfl⟩
      subst hwo
      clear c1 k0
      go_loopw [3, 18] (fun v tv wr => ∃ t : Nat, t ≤ T ∧ tv = .int .i64 t ∧ Aside0 (ownN wr w2.heap.size v (accJ T j ++ stepL q t)) ∧ Aside0 (Bw w2 wr)) (fun _ tv _ => T - (intOf tv).toNat)
      case atStart => exact ⟨0, by omega, rfl, ⟨by show ownN _ _ _ (accJ T j ++ []); rw [List.append_nil]; exact HO.out⟩, HV⟩
      case round =>
        rename_i v3 _
        obtain ⟨t, ht, rfl, HO, HV⟩ := hrel
        by_cases hlt2 : t < T
        · have HSS := Aside0.mk (stepL_succ q t)
          have HLN := Aside0.mk (show (accJ T j ++ stepL q t).length = j * T + t by rw [List.length_append, HAL.out, stepL_len])
          have hbd : (accJ T j ++ stepL q t).length ≤ 1000 := by rw [HLN.out]; omega
          go_wp2_with (at_builtin; go_loud (refine print_append_cells (w0 := w2) w2.heap.size rfl (.tmp 21) (.tmp 25) 36 27 (.agg #[.int .i64 0, .int .i64 0]) 2 16 rfl Try.underlying36 infoN rfl (by omega) (by omega) _ (accJ T j ++ stepL q t).length _ [.int .i64 q, .int .i64 (t : Int)] rfl rfl rfl (by simp [Value.oneCell']) HO.out HV.out HV.out.size (by omega) ?_); intro v1 w4 hown4 hbel4 hg4 hat4)
          have HO4 := Aside0.mk (show ownN w4 w2.heap.size v1 (accJ T j ++ stepL q (t + 1)) by
            rw [HSS.out, ← List.append_assoc]
            exact ownN_push hown4)
          clear hown4 hg4 hat4
          go_roundw
          case rel => exact ⟨t + 1, by omega, by go_num, HO4, ⟨hbel4⟩⟩
          case measure => simp [intOf]; omega
        · obtain rfl : T = t := by omega
          have c1 : wr.cell? ⟨w.heap.size, 1, none⟩ = some (.int .i64 T) := (HL.out.bw HV.out).cell 1 _ rfl
          go_wp2_with fail
          go_roundw
          case rel => exact ⟨j + 1, by omega, by go_num, ⟨by rw [HAS.out]; exact HO.out⟩, HV⟩
          case measure => simp [intOf]; omega
    · have HJ := Aside0.mk (show j = 2 by omega)
      have d1 : decide ((j : Int) < 2) = false := by simp; omega
      have HL2 := Aside0.mk (accJ_len T j)
      go_wp2_with fail
      obtain ⟨w3, hw3⟩ : ∃ w3, w3 = wr := ⟨_, rfl⟩
      subst hw3
      go_loopw [3, 29] (fun v jv wr => ∃ k : Nat, k ≤ 4 ∧ jv = .int .i64 k ∧ Aside0 (ownN wr w2.heap.size v (accJ T j ++ List.replicate k (2, 0))) ∧ Aside0 (Bw w2 wr)) (fun _ jv _ => 4 - (intOf jv).toNat)
      case atStart => exact ⟨0, by omega, rfl, ⟨by show ownN _ _ _ (accJ T j ++ []); rw [List.append_nil]; exact HO.out⟩, HV⟩
      case round =>
        obtain ⟨k, hk, rfl, HO, HV⟩ := hrel
        have HLN := Aside0.mk (show (accJ T j ++ List.replicate k ((2, 0) : En)).length = j * T + k by rw [List.length_append, HL2.out, List.length_replicate])
        have hbd : (accJ T j ++ List.replicate k ((2, 0) : En)).length ≤ 1000 := by rw [HLN.out, HJ.out]; omega
        by_cases hlt2 : k < 4
        · have HSS := Aside0.mk (show (List.replicate (k + 1) ((2, 0) : En)) = List.replicate k (2, 0) ++ [(2, 0)] from List.replicate_succ')
          go_wp2_with (at_builtin; go_loud (refine print_append_cells (w0 := w2) w2.heap.size rfl (.tmp 31) (.tmp 33) 36 27 (.agg #[.int .i64 0, .int .i64 0]) 2 16 rfl Try.underlying36 infoN rfl (by omega) (by omega) _ (accJ T j ++ List.replicate k ((2, 0) : En)).length _ [.int .i64 2, .int .i64 0] rfl rfl rfl (by simp [Value.oneCell']) HO.out HV.out HV.out.size (by omega) ?_); intro v1 w4 hown4 hbel4 hg4 hat4)
          have HO4 := Aside0.mk (show ownN w4 w2.heap.size v1 (accJ T j ++ List.replicate (k + 1) ((2, 0) : En)) by
            rw [HSS.out, ← List.append_assoc]
            exact ownN_push (p := (2, 0)) hown4)
          clear hown4 hg4 hat4
          go_roundw
          case rel => exact ⟨k + 1, by omega, by go_num, HO4, ⟨hbel4⟩⟩
          case measure => simp [intOf]; omega
        · obtain rfl : k = 4 := by omega
          go_wp2_with (at_builtin; go_loud (refine print_append_cells (w0 := w2) w2.heap.size rfl (.tmp 36) (.tmp 38) 36 27 (.agg #[.int .i64 0, .int .i64 0]) 2 16 rfl Try.underlying36 infoN rfl (by omega) (by omega) _ (accJ T j ++ List.replicate 4 ((2, 0) : En)).length _ [.int .i64 3, .int .i64 0] rfl rfl rfl (by simp [Value.oneCell']) HO.out HV.out HV.out.size (by omega) ?_); intro v1 w4 hown4 hbel4 hg4 hat4)
          go_ret
          exact ⟨v1, rfl, own_weaken (by have := ownN_push (p := (3, 0)) hown4; rw [HJ.out] at this; exact this) HB2.out.size, HB2.out.trans hbel4⟩
end Go.Proofs.Ytkmfbafgbaapiaa.M
