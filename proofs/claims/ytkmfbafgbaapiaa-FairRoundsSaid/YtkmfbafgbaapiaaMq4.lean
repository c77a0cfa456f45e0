/- Package fair: Right. Conditions: no more than a million entries. -/
import Derived.Test.YtkmfbafgbaapiaaMq3
namespace Go.Proofs.Ytkmfbafgbaapiaa.M
open Go.RowKit Go.Maps Go.Proofs.YtkmfbafgbaapiaaW.PrintWords Go.Proofs.YtkmfbafgbaapiaaW.PrintLast Go.Proofs.YtkmfbafgbaapiaaW.PrintMore
set_option linter.unusedVariables false
set_option linter.unusedSimpArgs false
set_option maxRecDepth 100000
/-- What is missing yet. -/
def missB (T : Nat) (l : List En) (p : En) : Bool := wantB T p && !(l.any fun e => plainE e == p)
theorem missB_succ (T : Nat) (l : List En) (k : Nat) (e : En) (he : l[k]? = some e) (p : En) : missB T (l.take (k + 1)) p = (missB T (l.take k) p && !(p == plainE e)) := by
  unfold missB
  rw [List.take_add_one, he, List.any_append]
  by_cases h : plainE e = p
  · subst h; simp
  · have h' : ¬ p = plainE e := fun x => h x.symm
    have e1 : (plainE e == p) = false := by simpa using h
    have e2 : (p == plainE e) = false := by simpa using h'
    simp [e1, e2]
theorem size_zero {w : World} {b n : Nat} {D : DataW Unit} {T : Nat} (hT : T ≤ 256) {l : List En} (h : isMp w b n D) (hk : Keeps D (missB T l)) : ((Maps.size D : Int) == 0) = rightL T l := by
  cases hr : rightL T l
  · have hn : ¬ ∀ p, wfN p → missB T l p = false := fun hh => by
      have := (rightL_iff T hT l).2 hh
      rw [hr] at this
      cases this
    have : ∃ p, wfN p ∧ missB T l p = true := by
      apply Classical.byContradiction
      intro hc
      apply hn
      intro p hp
      cases hm : missB T l p
      · rfl
      · exact absurd ⟨p, hp, hm⟩ hc
    obtain ⟨p, hp, hm⟩ := this
    have := hk.some h.isMap p hp hm
    simp only [beq_eq_false_iff_ne, ne_eq]
    omega
  · have := mp_none h hk ((rightL_iff T hT l).1 hr)
    rw [this]
    rfl
theorem fairRight_not (p t g : Int) (hr : rightB p t g = false) (v : Value) (w : World) : Calls Try.prog 31 #[.agg #[.int .i64 p, .int .i64 t, .int .i64 g], v] w fun e w' => e = .returned (.bool false) ∧ Bw w w' := by
  have HB := Aside0.mk ((Bw.refl w).alloc (.cells #[.int .i64 p, .int .i64 t, .int .i64 g] 49))
  have HR := Aside0.mk hr
  clear hr
  go_enter Try.func31, Try.ntmps31
  go_wp2_with fail
  refine (layRight_calls p t g _).mono ?_
  rintro e w1 ⟨rfl, hb1⟩
  rw [HR.out]
  go_wp2_with fail
  go_ret
  exact ⟨rfl, HB.out.trans hb1⟩
set_option maxHeartbeats 1000000 in
theorem fairRight_calls (p g : Int) (T : Nat) (hr : rightB p T g = true) (A : Option Addr) (cap : Nat) (l : List En) (w : World) (hx : Rows encN 2 w A l) (hl : l.length ≤ 1000000) (hw : ∀ e ∈ l, wfN e) :
    Calls Try.prog 31 #[.agg #[.int .i64 p, .int .i64 T, .int .i64 g], .slice A l.length cap] w fun e w' => e = .returned (.bool (rightL T l)) ∧ Bw w w' := by
  have hT : T ≤ 256 := by unfold rightB at hr; simp at hr; omega
  have HB := Aside0.mk ((Bw.refl w).alloc (.cells #[.int .i64 p, .int .i64 T, .int .i64 g] 49))
  have HL := Aside0.mk (Blk.new w #[.int .i64 p, .int .i64 T, .int .i64 g] 49)
  have HX := Aside0.mk hx
  have HW := Aside0.mk hw
  have HR := Aside0.mk hr
  clear hx hw hr
  go_enter Try.func31, Try.ntmps31
  go_wp2_with fail
  refine (layRight_calls p T g _).mono ?_
  rintro e w1 ⟨rfl, hb1⟩
  rw [HR.out]
  have HL := Aside0.mk (HL.out.bw hb1)
  have HB1 := Aside0.mk (HB.out.trans hb1)
  have p0 : w1.cell? ⟨w.heap.size, 0, none⟩ = some (.int .i64 p) := HL.out.cell 0 _ rfl
  have p1 : w1.cell? ⟨w.heap.size, 1, none⟩ = some (.int .i64 T) := HL.out.cell 1 _ rfl
  have p2 : w1.cell? ⟨w.heap.size, 2, none⟩ = some (.int .i64 g) := HL.out.cell 2 _ rfl
  clear hb1
  go_wp2_with fail
  refine (wanted_calls p g T hT _).mono ?_
  rintro e w2 ⟨b, n, D, rfl, hbb, hn, hm, hk, hb2⟩
  have HWW := Aside0.mk (HB1.out.trans hb2)
  have HM := Aside0.mk (show isMp w2 b n D ∧ Keeps D (missB T (l.take 0)) from ⟨hm, hk.congr fun p _ => by unfold missB; simp⟩)
  have HBB := Aside0.mk (show w.heap.size ≤ b from Nat.le_trans HB1.out.size hbb)
  clear hm hk hb2 hn hbb p0 p1 p2
  go_wp2_with fail
  go_loopw [15] (fun iv wr => ∃ (k : Nat) (n : Nat) (D : DataW Unit), k ≤ l.length ∧ iv = .int .i64 k ∧ Aside0 (isMp wr b n D ∧ Keeps D (missB T (l.take k))) ∧ Aside0 (Bw w wr)) (fun iv _ => l.length - (intOf iv).toNat)
  case atStart => exact ⟨0, n, D, by omega, rfl, HM, HWW⟩
  case round =>
    clear HM HWW n D
    obtain ⟨k, n, D, hk, rfl, HM, HV⟩ := hrel
    by_cases hlt : k < l.length
    · obtain ⟨e, he⟩ : ∃ e, l[k]? = some e := ⟨_, List.getElem?_eq_getElem hlt⟩
      obtain ⟨ad, rfl, h0, hi⟩ := (HX.out.bw HV.out).atS k e he
      have s0 := h0 _ rfl
      have s1 := hi 1 _ (by decide) rfl
      have HE := Aside0.mk he
      have HEW := Aside0.mk (HW.out e (List.mem_of_getElem? he))
      clear h0 hi he
      go_wp2_with fail
      refine (plain_calls e _).mono ?_
      rintro e w3 ⟨rfl, hb3⟩
      have HM3 := Aside0.mk (show isMp w3 b n D ∧ Keeps D (missB T (l.take k)) from ⟨mp_bw (mp_bw HM.out.1 ((Bw.refl wr).alloc _)) hb3, HM.out.2⟩)
      have HV3 := Aside0.mk ((HV.out.alloc _).trans hb3)
      clear hb3
      go_wp2_with (at_delete; refine wpList_delete_own _ rfl (.tmp 19) (.tmp 21) 92 27 rfl 3 lawN und_map _ b n D rfl HM3.out.1 (aggN (plainE e)) (kl (plainE e)) rfl (kl_key _ (plainE_wf HEW.out)) ?_; intro w4 hown4 hturn4)
      have HM4 := Aside0.mk (show isMp w4 b n (D.del (kl (plainE e))) ∧ Keeps (D.del (kl (plainE e))) (missB T (l.take (k + 1))) from ⟨hown4, (HM3.out.2.del _ (plainE_wf HEW.out)).congr fun p _ => (missB_succ T l k e HE.out p).symm⟩)
      have HV4 := Aside0.mk (grown_bw HV3.out HBB.out hturn4.grown)
      clear hown4 hturn4
      go_roundw
      case rel => exact ⟨k + 1, n, _, by omega, by go_num, HM4, HV4⟩
      case measure => simp [intOf]; omega
    · obtain rfl : k = l.length := by omega
      have hs : ((Maps.size D : Int) == 0) = rightL T l := size_zero hT HM.out.1 (by have := HM.out.2; rwa [List.take_length] at this)
      go_wp2_with (at_len; refine wpList_len_own _ rfl (.tmp 23) 92 rfl 27 3 und_map _ b n D rfl HM.out.1 ?_)
      go_ret
      exact ⟨by first | rfl | (rw [hs]), HV.out⟩
end Go.Proofs.Ytkmfbafgbaapiaa.M
