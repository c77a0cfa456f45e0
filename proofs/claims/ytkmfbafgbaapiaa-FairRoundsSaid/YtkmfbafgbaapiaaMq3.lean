/- Package fair: which entries are fair, by the program, and by the document. Conditions: no more than a million entries. -/
import Derived.Test.YtkmfbafgbaapiaaMq2
namespace Go.Proofs.Ytkmfbafgbaapiaa.M
open Go.RowKit Go.Maps Go.Proofs.YtkmfbafgbaapiaaW.PrintWords Go.Proofs.YtkmfbafgbaapiaaW.PrintLast Go.Proofs.YtkmfbafgbaapiaaW.PrintMore
set_option linter.unusedVariables false
set_option linter.unusedSimpArgs false
set_option maxRecDepth 100000
def hasB (l : List En) (k who : Int) : Bool := l.any fun e => e.1 == k && (k == 2 || k == 3 || e.2 == who)
def rightL (T : Nat) (l : List En) : Bool := (List.range T).all (fun t : Nat => hasB l 1 t && hasB l 4 t) && (hasB l 2 0 && hasB l 3 0)
theorem hasB_take_succ (l : List En) (k : Nat) (e : En) (he : l[k]? = some e) (q who : Int) : hasB (l.take (k + 1)) q who = (hasB (l.take k) q who || (e.1 == q && (q == 2 || q == 3 || e.2 == who))) := by
  unfold hasB
  rw [List.take_add_one, he, List.any_append]
  simp
/-- What is there of what is wanted. -/
theorem hasB_plain (l : List En) (p : En) (T : Nat) (hp : wantB T p = true) : hasB l p.1 p.2 = l.any (fun e => plainE e == p) := by
  unfold hasB
  congr 1
  funext e
  obtain ⟨a, b⟩ := p
  obtain ⟨c, d⟩ := e
  unfold wantB at hp
  unfold plainE
  apply Bool.eq_iff_iff.2
  simp only [Bool.or_eq_true, Bool.and_eq_true, beq_iff_eq, decide_eq_true_eq, Prod.mk.injEq] at hp ⊢
  by_cases h : c = 2 ∨ c = 3
  · rw [if_pos h]
    simp only [Prod.mk.injEq]
    omega
  · rw [if_neg h]
    simp only [Prod.mk.injEq]
    omega
theorem rightL_iff (T : Nat) (hT : T ≤ 256) (l : List En) : rightL T l = true ↔ ∀ p, wfN p → (wantB T p && !(l.any fun e => plainE e == p)) = false := by
  unfold rightL
  simp only [Bool.and_eq_true, List.all_eq_true, List.mem_range]
  constructor
  · rintro ⟨h1, h2, h3⟩ p hp
    cases hw : wantB T p
    · rfl
    · rw [← hasB_plain l p T hw]
      have : hasB l p.1 p.2 = true := by
        obtain ⟨a, b⟩ := p
        have hw' := hw
        unfold wantB at hw'
        simp only [Bool.or_eq_true, Bool.and_eq_true, beq_iff_eq, decide_eq_true_eq, Prod.mk.injEq] at hw'
        rcases hw' with (⟨rfl, rfl⟩ | ⟨rfl, rfl⟩) | ⟨h4, h5, h6⟩
        · exact h2
        · exact h3
        · have := h1 b.toNat (by omega)
          rw [show ((b.toNat : Nat) : Int) = b by omega] at this
          rcases h4 with rfl | rfl
          · exact this.1
          · exact this.2
      rw [this]
      rfl
  · intro h
    have get : ∀ p : En, wfN p → wantB T p = true → hasB l p.1 p.2 = true := fun p hp hw => by
      have := h p hp
      rw [hw, ← hasB_plain l p T hw] at this
      simpa using this
    refine ⟨fun t ht => ⟨get (1, (t : Int)) ⟨show (Lit.int .i64 1).wf = true by decide, wf_small _ (by omega)⟩ ?_, get (4, (t : Int)) ⟨show (Lit.int .i64 4).wf = true by decide, wf_small _ (by omega)⟩ ?_⟩, get (2, 0) ⟨show (Lit.int .i64 2).wf = true by decide, show (Lit.int .i64 0).wf = true by decide⟩ ?_, get (3, 0) ⟨show (Lit.int .i64 3).wf = true by decide, show (Lit.int .i64 0).wf = true by decide⟩ ?_⟩
    all_goals (unfold wantB; simp)
    all_goals omega
/-- Is there such an entry: the document's. -/
theorem refHas_calls (A : Option Addr) (cap : Nat) (l : List En) (q who : Int) (w : World) (hx : Rows encN 2 w A l) (hl : l.length ≤ 1000000) :
    Calls Try.prog 63 #[.slice A l.length cap, .int .i64 q, .int .i64 who] w fun e w' => e = .returned (.bool (hasB l q who)) ∧ Bw w w' := by
  have HX := Aside0.mk hx
  have HB := Aside0.mk (Bw.refl w)
  clear hx
  go_enter Try.func63, Try.ntmps63
  go_wp2_with fail
  go_loopw [7] (fun iv wr => ∃ k : Nat, k ≤ l.length ∧ iv = .int .i64 k ∧ Aside0 (hasB (l.take k) q who = false) ∧ Aside0 (Bw w wr)) (fun iv _ => l.length - (intOf iv).toNat)
  case atStart => exact ⟨0, by omega, rfl, ⟨rfl⟩, HB⟩
  case round =>
    obtain ⟨k, hk, rfl, HF, HV⟩ := hrel
    by_cases hlt : k < l.length
    · obtain ⟨e, he⟩ : ∃ e, l[k]? = some e := ⟨_, List.getElem?_eq_getElem hlt⟩
      obtain ⟨ad, rfl, h0, hi⟩ := (HX.out.bw HV.out).atS k e he
      have s0 := h0 _ rfl
      have s1 := hi 1 _ (by decide) rfl
      have HS := Aside0.mk (hasB_take_succ l k e he q who)
      have HE := Aside0.mk he
      clear h0 hi he
      cases b1 : (e.1 == q)
      · have HN := Aside0.mk (show hasB (l.take (k + 1)) q who = false by rw [HS.out, HF.out, b1]; rfl)
        go_wp2_with fail
        go_roundw
        case rel => exact ⟨k + 1, by omega, by go_num, HN, HV⟩
        case measure => simp [intOf]; omega
      · cases b2 : (q == 2)
        · cases b3 : (q == 3)
          · cases b4 : (e.2 == who)
            · have HN := Aside0.mk (show hasB (l.take (k + 1)) q who = false by rw [HS.out, HF.out, b1, b2, b3, b4]; rfl)
              go_wp2_with fail
              go_roundw
              case rel => exact ⟨k + 1, by omega, by go_num, HN, HV⟩
              case measure => simp [intOf]; omega
            · have HT := Aside0.mk (show hasB l q who = true by
                unfold hasB
                rw [List.any_eq_true]
                exact ⟨e, List.mem_of_getElem? HE.out, by rw [b1, b4]; simp⟩)
              go_wp2_with fail
              go_ret
              exact ⟨ret_bool HT.out.symm, HV.out⟩
          · have HT := Aside0.mk (show hasB l q who = true by
              unfold hasB
              rw [List.any_eq_true]
              exact ⟨e, List.mem_of_getElem? HE.out, by rw [b1, b3]; simp⟩)
            go_wp2_with fail
            go_ret
            exact ⟨ret_bool HT.out.symm, HV.out⟩
        · have HT := Aside0.mk (show hasB l q who = true by
            unfold hasB
            rw [List.any_eq_true]
            exact ⟨e, List.mem_of_getElem? HE.out, by rw [b1, b2]; simp⟩)
          go_wp2_with fail
          go_ret
          exact ⟨ret_bool HT.out.symm, HV.out⟩
    · obtain rfl : k = l.length := by omega
      have HF := Aside0.mk (show hasB l q who = false by have := HF.out; rwa [List.take_length] at this)
      go_wp2_with fail
      go_ret
      exact ⟨ret_bool HF.out.symm, HV.out⟩
theorem allT_succ (l : List En) (k : Nat) : (List.range (k + 1)).all (fun t : Nat => hasB l 1 t && hasB l 4 t) = ((List.range k).all (fun t : Nat => hasB l 1 t && hasB l 4 t) && (hasB l 1 k && hasB l 4 k)) := by
  rw [List.range_succ, List.all_append]
  simp
theorem rightL_miss (T : Nat) (l : List En) (k : Nat) (hk : k < T) (h : (hasB l 1 k && hasB l 4 k) = false) : rightL T l = false := by
  unfold rightL
  have : (List.range T).all (fun t : Nat => hasB l 1 t && hasB l 4 t) = false := by
    rw [List.all_eq_false]
    exact ⟨k, List.mem_range.2 hk, by rw [h]; decide⟩
  rw [this]
  rfl
theorem has_eq' {A : Option Addr} {cap : Nat} {l : List En} {q who : Int} {x : Bool} {w : World} (he : hasB l q who = x) (hx : Rows encN 2 w A l) (hl : l.length ≤ 1000000) :
    Calls Try.prog 63 #[.slice A l.length cap, .int .i64 q, .int .i64 who] w fun e w' => e = .returned (.bool x) ∧ Bw w w' := he ▸ refHas_calls A cap l q who w hx hl
theorem refRight_calls (p g : Int) (T : Nat) (hT : T ≤ 256) (A : Option Addr) (cap : Nat) (l : List En) (w : World) (hx : Rows encN 2 w A l) (hl : l.length ≤ 1000000) :
    Calls Try.prog 34 #[.agg #[.int .i64 p, .int .i64 T, .int .i64 g], .slice A l.length cap] w fun e w' => e = .returned (.bool (rightL T l)) ∧ Bw w w' := by
  have HX := Aside0.mk (hx.bw ((Bw.refl w).alloc (.cells #[.int .i64 p, .int .i64 T, .int .i64 g] 49)))
  have HB := Aside0.mk ((Bw.refl w).alloc (.cells #[.int .i64 p, .int .i64 T, .int .i64 g] 49))
  have HL := Aside0.mk (Blk.new w #[.int .i64 p, .int .i64 T, .int .i64 g] 49)
  obtain ⟨W1, hW1⟩ : ∃ W1, W1 = w.alloc (.cells #[.int .i64 p, .int .i64 T, .int .i64 g] 49) := ⟨_, rfl⟩
  rw [← hW1] at HX HB HL
  clear hx
  go_enter Try.func34, Try.ntmps34
  go_wp2_with fail
  rw [← hW1]
  clear hW1
  go_loopw [5] (fun iv wr => ∃ k : Nat, k ≤ T ∧ iv = .int .i64 k ∧ Aside0 ((List.range k).all (fun t : Nat => hasB l 1 t && hasB l 4 t) = true) ∧ Aside0 (Bw W1 wr)) (fun iv _ => T - (intOf iv).toNat)
  case atStart => exact ⟨0, by omega, rfl, ⟨rfl⟩, ⟨Bw.refl _⟩⟩
  case round =>
    obtain ⟨k, hk, rfl, HF, HV⟩ := hrel
    have c1 : wr.cell? ⟨w.heap.size, 1, none⟩ = some (.int .i64 T) := (HL.out.bw HV.out).cell 1 _ rfl
    by_cases hlt : k < T
    · cases b1 : hasB l 1 k
      · have HN := Aside0.mk (rightL_miss T l k hlt (by rw [b1]; rfl))
        have HB1 := Aside0.mk b1
        clear b1
        go_wp2_with fail
        refine (has_eq' HB1.out (HX.out.bw HV.out) hl).mono ?_
        rintro e w2 ⟨rfl, hb2⟩
        go_wp2_with fail
        go_ret
        exact ⟨ret_bool HN.out.symm, HB.out.trans (HV.out.trans hb2)⟩
      · cases b4 : hasB l 4 k
        · have HN := Aside0.mk (rightL_miss T l k hlt (by rw [b1, b4]; rfl))
          have HB1 := Aside0.mk b1
          have HB4 := Aside0.mk b4
          clear b1 b4
          go_wp2_with fail
          refine (has_eq' HB1.out (HX.out.bw HV.out) hl).mono ?_
          rintro e w2 ⟨rfl, hb2⟩
          have HV2 := Aside0.mk (HV.out.trans hb2)
          go_wp2_with fail
          refine (has_eq' HB4.out (HX.out.bw HV2.out) hl).mono ?_
          rintro e w3 ⟨rfl, hb3⟩
          go_wp2_with fail
          go_ret
          exact ⟨ret_bool HN.out.symm, HB.out.trans (HV2.out.trans hb3)⟩
        · have HN := Aside0.mk (show (List.range (k + 1)).all (fun t : Nat => hasB l 1 t && hasB l 4 t) = true by rw [allT_succ, HF.out, b1, b4]; rfl)
          have HB1 := Aside0.mk b1
          have HB4 := Aside0.mk b4
          clear b1 b4
          go_wp2_with fail
          refine (has_eq' HB1.out (HX.out.bw HV.out) hl).mono ?_
          rintro e w2 ⟨rfl, hb2⟩
          have HV2 := Aside0.mk (HV.out.trans hb2)
          go_wp2_with fail
          refine (has_eq' HB4.out (HX.out.bw HV2.out) hl).mono ?_
          rintro e w3 ⟨rfl, hb3⟩
          have HV3 := Aside0.mk (HV2.out.trans hb3)
          go_wp2_with fail
          go_roundw
          case rel => exact ⟨k + 1, by omega, by go_num, HN, HV3⟩
          case measure => simp [intOf]; omega
    · obtain rfl : T = k := by omega
      cases b2 : hasB l 2 0
      · have HN := Aside0.mk (show rightL T l = false by unfold rightL; rw [HF.out, b2]; rfl)
        have HB2 := Aside0.mk b2
        clear b2
        go_wp2_with fail
        refine (has_eq' HB2.out (HX.out.bw HV.out) hl).mono ?_
        rintro e w2 ⟨rfl, hb2⟩
        go_wp2_with fail
        go_ret
        exact ⟨ret_bool HN.out.symm, HB.out.trans (HV.out.trans hb2)⟩
      · cases b3 : hasB l 3 0
        all_goals
          have HN := Aside0.mk (show rightL T l = hasB l 3 0 by unfold rightL; rw [HF.out, b2]; rfl)
          have HB2 := Aside0.mk b2
          have HB3 := Aside0.mk b3
          clear b2 b3
          go_wp2_with fail
          refine (has_eq' HB2.out (HX.out.bw HV.out) hl).mono ?_
          rintro e w2 ⟨rfl, hb2⟩
          have HV2 := Aside0.mk (HV.out.trans hb2)
          go_wp2_with fail
          refine (has_eq' HB3.out (HX.out.bw HV2.out) hl).mono ?_
          rintro e w3 ⟨rfl, hb3⟩
          go_wp2_with fail
          go_ret
          exact ⟨ret_bool (by rw [HN.out, HB3.out]), HB.out.trans (HV2.out.trans hb3)⟩
end Go.Proofs.Ytkmfbafgbaapiaa.M
