/- An access of both memories; are they alike; the same words. Conditions: counters below 2^62, sizes below 2^18. -/
import Derived.Test.YtclippikdfcgkaaMcf
import Derived.Test.YtclippikdfcgkaaMcl
namespace Go.Proofs.Ytclippikdfcgkaa.M
open Go.RowKit Go.Proofs.YtclippikdfcgkaaW.PrintWords Go.Proofs.YtclippikdfcgkaaW.PrintLast Go.Proofs.YtclippikdfcgkaaW.PrintMore
set_option linter.unusedVariables false
set_option linter.unusedSimpArgs false
structure ActS where
  kind : Int
  who : Int
  at_ : Int
  old : Int
  w : Int
abbrev encA : ActS → List Value := fun a => [.int .i64 a.kind, .int .i64 a.who, .int .i64 a.at_, .int .u64 a.old, .int .u64 a.w]
def kindA (k : Int) : Int := if k = 2 ∨ k = 3 ∨ k = 4 then k else 1
def MemS.step (m : MemS) (a : ActS) : MemS := (m.act (kindA a.kind) a.who a.at_ a.old (if kindA a.kind = 1 then 0 else a.w)).1
def Both (w : World) (base b b' : Nat) (v v' : Value) (m : MemS) : Prop := IsMem w base b v m ∧ IsRef w base b' v' m ∧ ∀ i, MemF b v i → MemF b' v' i → False
def BothF (b b' : Nat) (v v' : Value) : Nat → Prop := fun i => MemF b v i ∨ MemF b' v' i
section
variable {w w1 : World} {base b b' : Nat} {v v' : Value} {m : MemS}
theorem Both.bw (h : Both w base b b' v v' m) (hb : Bw w w1) : Both w1 base b b' v v' m := ⟨h.1.bw hb, h.2.1.bw hb, h.2.2⟩
theorem Both.ge (h : Both w base b b' v v' m) : ∀ i, BothF b b' v v' i → base ≤ i := by
  rintro i (hi | hi)
  · exact h.1.ge i hi
  · exact h.2.1.ge i hi
theorem Both.lt (h : Both w base b b' v v' m) : ∀ i, BothF b b' v v' i → i < w.heap.size := by
  rintro i (hi | hi)
  · exact h.1.lt i hi
  · exact h.2.1.lt i hi

set_option maxHeartbeats 2000000 in
theorem lawDo_calls (a : ActS) (h : Both w base b b' v v' m) (hc : m.ok) (hr : (∀ y ∈ m.words, 0 ≤ y) ∧ 0 ≤ a.w) :
    Calls Try.prog 35 #[.pointer (some ⟨b, 0, none⟩), .pointer (some ⟨b', 0, none⟩), .agg (encA a).toArray] w fun e w' => e = .returned (.bool true) ∧ Both w' base b b' v v' (m.step a) ∧ Chg (BothF b b' v v') w w' := by
  have HH := Aside0.mk h
  have hrd : 0 ≤ rd m.words a.at_ := by
    unfold rd
    rw [List.getD_eq_getElem?_getD]
    rcases Nat.lt_or_ge a.at_.toNat m.words.length with hj | hj
    · rw [List.getElem?_eq_getElem hj]
      exact hr.1 _ (List.getElem_mem _)
    · rw [List.getElem?_eq_none hj]
      exact Int.le_refl _
  obtain ⟨kind, who, at_, old, x⟩ := a
  simp only at hr hrd
  have L := Blk.new w #[.int .i64 kind, .int .i64 who, .int .i64 at_, .int .u64 old, .int .u64 x] 71
  have HM := Aside0.mk (h.1.bw ((Bw.refl w).alloc (.cells #[.int .i64 kind, .int .i64 who, .int .i64 at_, .int .u64 old, .int .u64 x] 71)))
  have HR := Aside0.mk (h.2.1.bw ((Bw.refl w).alloc (.cells #[.int .i64 kind, .int .i64 who, .int .i64 at_, .int .u64 old, .int .u64 x] 71)))
  have HD := Aside0.mk h.2.2
  have HL := Aside0.mk h.1.lt
  have HRR := Aside0.mk hr
  have C0 := Aside0.mk ((Chg.refl (BothF b b' v v') w).alloc (.cells #[.int .i64 kind, .int .i64 who, .int .i64 at_, .int .u64 old, .int .u64 x] 71))
  clear h hr
  by_cases h2 : kind = 2
  · subst h2
    have HS := Aside0.mk (show m.step ⟨2, who, at_, old, x⟩ = (m.act 2 who at_ 0 x).1 from rfl)
    have HS2 := Aside0.mk (show m.store who at_ x = (m.act 2 who at_ 0 x).1 from rfl)
    go_enter Try.func35, Try.ntmps35
    go_wp2_with fail
    refine (Store_calls base b v m who at_ x _ HM.out hc).mono ?_
    rintro e w1 ⟨rfl, hM1, hC1⟩
    have L1 := L.of_block (hC1.block _ L.lt (fun q => by have := HL.out _ q; omega))
    have HR1 := Aside0.mk (HR.out.chg hC1 (fun i hi hj => HD.out i hj hi))
    have C1 := Aside0.mk (C0.out.trans (hC1.mono fun i hi => .inl hi))
    have e0 := L1.cell 0 _ rfl
    have e1 := L1.cell 1 _ rfl
    have e2 := L1.cell 2 _ rfl
    have e4 := L1.cell 4 _ rfl
    have HM1 := Aside0.mk hM1
    have HC1 := Aside0.mk hC1
    clear hM1 hC1
    go_wp2_with fail
    refine (refDo_calls 2 who at_ 0 x (by omega) HR1.out hc HRR.out).mono ?_
    rintro e w2 ⟨rfl, hM2, hC2⟩
    have HM2 := Aside0.mk (HM1.out.chg hC2 (fun i hi hj => HD.out i hi hj))
    have C2 := Aside0.mk (C1.out.trans (hC2.mono fun i hi => .inr hi))
    have HR2 := Aside0.mk hM2
    clear hM2 hC2
    go_wp2_with fail
    go_ret
    rw [HS.out]
    rw [HS2.out] at HM2
    exact ⟨rfl, ⟨HM2.out, HR2.out, HD.out⟩, C2.out⟩
  by_cases h3 : kind = 3
  · subst h3
    have HS := Aside0.mk (show m.step ⟨3, who, at_, old, x⟩ = (m.act 3 who at_ old x).1 from rfl)
    have HS2 := Aside0.mk (show m.swap who at_ old x = (m.act 3 who at_ old x).1 from rfl)
    have hq : (m.act 3 who at_ old x).2 = if (m.swap who at_ old x).last.done = true then 1 else 0 := rfl
    obtain ⟨dn, hdn⟩ : ∃ dn, dn = (m.swap who at_ old x).last.done := ⟨_, rfl⟩
    rw [← hdn] at hq
    have HDN := Aside0.mk hdn
    have HQ := Aside0.mk hq
    clear hdn hq
    go_enter Try.func35, Try.ntmps35
    go_wp2_with fail
    refine (Swap_calls base b v m who at_ old x _ HM.out hc).mono ?_
    rintro e w1 ⟨rfl, hM1, hC1⟩
    rw [← HDN.out]
    have L1 := L.of_block (hC1.block _ L.lt (fun q => by have := HL.out _ q; omega))
    have HR1 := Aside0.mk (HR.out.chg hC1 (fun i hi hj => HD.out i hj hi))
    have C1 := Aside0.mk (C0.out.trans (hC1.mono fun i hi => .inl hi))
    have e0 := L1.cell 0 _ rfl
    have e1 := L1.cell 1 _ rfl
    have e2 := L1.cell 2 _ rfl
    have e3 := L1.cell 3 _ rfl
    have e4 := L1.cell 4 _ rfl
    have HM1 := Aside0.mk hM1
    have HC1 := Aside0.mk hC1
    clear hM1 hC1
    go_wp2_with fail
    refine (refDo_calls 3 who at_ old x (by omega) HR1.out hc HRR.out).mono ?_
    rintro e w2 ⟨rfl, hM2, hC2⟩
    rw [HQ.out]
    have HM2 := Aside0.mk (HM1.out.chg hC2 (fun i hi hj => HD.out i hi hj))
    have C2 := Aside0.mk (C1.out.trans (hC2.mono fun i hi => .inr hi))
    have HR2 := Aside0.mk hM2
    clear hM2 hC2
    cases dn
    · go_wp2_with fail
      go_ret
      rw [HS.out]
      rw [HS2.out] at HM2
      exact ⟨rfl, ⟨HM2.out, HR2.out, HD.out⟩, C2.out⟩
    · go_wp2_with fail
      go_ret
      rw [HS.out]
      rw [HS2.out] at HM2
      exact ⟨rfl, ⟨HM2.out, HR2.out, HD.out⟩, C2.out⟩
  by_cases h4 : kind = 4
  · subst h4
    have HS := Aside0.mk (show m.step ⟨4, who, at_, old, x⟩ = (m.act 4 who at_ 0 x).1 from rfl)
    have HS2 := Aside0.mk (show (m.add who at_ x).1 = (m.act 4 who at_ 0 x).1 from rfl)
    have HQ := Aside0.mk (show (m.act 4 who at_ 0 x).2 = (m.add who at_ x).2 from rfl)
    have hx0 := HRR.out.2
    go_enter Try.func35, Try.ntmps35
    go_wp2_with fail
    refine (Add_calls base b v m who at_ x _ HM.out hc hx0 hrd).mono ?_
    rintro e w1 ⟨rfl, hM1, hC1⟩
    have L1 := L.of_block (hC1.block _ L.lt (fun q => by have := HL.out _ q; omega))
    have HR1 := Aside0.mk (HR.out.chg hC1 (fun i hi hj => HD.out i hj hi))
    have C1 := Aside0.mk (C0.out.trans (hC1.mono fun i hi => .inl hi))
    have e0 := L1.cell 0 _ rfl
    have e1 := L1.cell 1 _ rfl
    have e2 := L1.cell 2 _ rfl
    have e4 := L1.cell 4 _ rfl
    have HM1 := Aside0.mk hM1
    have HC1 := Aside0.mk hC1
    clear hM1 hC1
    go_wp2_with fail
    refine (refDo_calls 4 who at_ 0 x (by omega) HR1.out hc HRR.out).mono ?_
    rintro e w2 ⟨rfl, hM2, hC2⟩
    rw [HQ.out]
    have HM2 := Aside0.mk (HM1.out.chg hC2 (fun i hi hj => HD.out i hi hj))
    have C2 := Aside0.mk (C1.out.trans (hC2.mono fun i hi => .inr hi))
    have HR2 := Aside0.mk hM2
    clear hM2 hC2
    go_wp2_with fail
    go_ret
    rw [HS.out]
    rw [HS2.out] at HM2
    exact ⟨by first | rfl | simp, ⟨HM2.out, HR2.out, HD.out⟩, C2.out⟩
  · have z2 : (kind == 2) = false := by simpa using h2
    have z3 : (kind == 3) = false := by simpa using h3
    have z4 : (kind == 4) = false := by simpa using h4
    have HS := Aside0.mk (show m.step ⟨kind, who, at_, old, x⟩ = (m.act 1 who at_ 0 0).1 by
      unfold MemS.step kindA
      simp only [if_neg (show ¬ (kind = 2 ∨ kind = 3 ∨ kind = 4) by omega), if_true]
      rfl)
    have HS2 := Aside0.mk (show m.load who at_ = (m.act 1 who at_ 0 0).1 from rfl)
    have HQ := Aside0.mk (show (m.act 1 who at_ 0 0).2 = (m.load who at_).last.old from rfl)
    clear h2 h3 h4
    go_enter Try.func35, Try.ntmps35
    go_wp2_with fail
    refine (Load_calls base b v m who at_ _ HM.out hc).mono ?_
    rintro e w1 ⟨rfl, hM1, hC1⟩
    have L1 := L.of_block (hC1.block _ L.lt (fun q => by have := HL.out _ q; omega))
    have HR1 := Aside0.mk (HR.out.chg hC1 (fun i hi hj => HD.out i hj hi))
    have C1 := Aside0.mk (C0.out.trans (hC1.mono fun i hi => .inl hi))
    have e1 := L1.cell 1 _ rfl
    have e2 := L1.cell 2 _ rfl
    have HM1 := Aside0.mk hM1
    have HC1 := Aside0.mk hC1
    clear hM1 hC1
    go_wp2_with fail
    refine (refDo_calls 1 who at_ 0 0 (by omega) HR1.out hc ⟨HRR.out.1, by omega⟩).mono ?_
    rintro e w2 ⟨rfl, hM2, hC2⟩
    rw [HQ.out]
    have HM2 := Aside0.mk (HM1.out.chg hC2 (fun i hi hj => HD.out i hi hj))
    have C2 := Aside0.mk (C1.out.trans (hC2.mono fun i hi => .inr hi))
    have HR2 := Aside0.mk hM2
    clear hM2 hC2
    go_wp2_with fail
    go_ret
    rw [HS.out]
    rw [HS2.out] at HM2
    exact ⟨by first | rfl | simp, ⟨HM2.out, HR2.out, HD.out⟩, C2.out⟩
end
end Go.Proofs.Ytclippikdfcgkaa.M
