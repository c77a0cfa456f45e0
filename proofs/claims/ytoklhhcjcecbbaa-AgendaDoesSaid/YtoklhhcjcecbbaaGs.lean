/- Agenda beside a list in order: Put, First, Pop, Len, Drop, Move, At, Due. Conditions: as in the texts before. -/
import Derived.Test.YtoklhhcjcecbbaaGr
import Derived.Test.YtoklhhcjcecbbaaGp
namespace Go.Proofs.Ytoklhhcjcecbbaa.M
open Go.RowKit Go.Maps Go.Proofs.YtoklhhcjcecbbaaW.PrintWords Go.Proofs.YtoklhhcjcecbbaaW.PrintLast Go.Proofs.YtoklhhcjcecbbaaW.PrintMore
set_option linter.unusedVariables false
set_option linter.unusedSimpArgs false
def dropN : List It → Nat → Int → List It
  | [], _, _ => []
  | a :: l, i, p => if (i : Int) = p then dropN l (i + 1) p else a :: dropN l (i + 1) p
theorem dropN_lo : ∀ (l : List It) (i : Nat) (p : Int), p < i → dropN l i p = l
  | [], _, _, _ => rfl
  | a :: l, i, p, h => by rw [dropN, if_neg (by omega), dropN_lo l (i + 1) p (by omega)]
theorem dropN_sub : ∀ (l : List It) (i : Nat) (p : Int), (dropN l i p).Sublist l
  | [], _, _ => List.Sublist.refl _
  | a :: l, i, p => by
    rw [dropN]
    split
    · exact (dropN_sub l (i + 1) p).cons a
    · exact (dropN_sub l (i + 1) p).cons_cons a
theorem dropN_perm : ∀ (l : List It) (i j : Nat) (x : It), l[j]? = some x → (x :: dropN l i ((i + j : Nat) : Int)).Perm l
  | [], i, j, x, h => by simp at h
  | a :: l, i, 0, x, h => by
    rw [dropN, if_pos (by simp), dropN_lo _ _ _ (by omega)]
    simp at h
    rw [h]
  | a :: l, i, j + 1, x, h => by
    rw [dropN, if_neg (by omega)]
    have := dropN_perm l (i + 1) j x (by simpa using h)
    rw [show i + 1 + j = i + (j + 1) by omega] at this
    exact (List.Perm.swap a x _).trans (this.cons a)
theorem dropN_head (h : It) (t : List It) : dropN (h :: t) 0 0 = t := by rw [dropN, if_pos (by simp), dropN_lo _ _ _ (by omega)]
structure AgL (w : World) (base ab b mb : Nat) (v : Value) (l : List It) : Prop where
  ex : ∃ L, IsAg w base ab b mb v L ∧ HeapN L L.length ∧ L.Perm l
  so : l.Pairwise le
section
variable {w w1 : World} {base ab b mb : Nat} {v : Value} {L l : List It} {D : DataW Unit}
theorem AgL.bw (h : AgL w base ab b mb v l) (hb : Bw w w1) : AgL w1 base ab b mb v l := let ⟨L, h1, h2, h3⟩ := h.ex; ⟨⟨L, h1.bw hb, h2, h3⟩, h.so⟩
theorem AgL.keep {S : Nat → Prop} (h : AgL w base ab b mb v l) (hc : Chg S w w1) (h1 : ¬ S ab) (h2 : ∀ i, PlF b mb v i → ¬ S i) : AgL w1 base ab b mb v l := let ⟨L, k1, k2, k3⟩ := h.ex; ⟨⟨L, k1.keep hc h1 h2, k2, k3⟩, h.so⟩
theorem AgL.old (h : AgL w base ab b mb v l) (i : Nat) (hi : PlF b mb v i) : i < w.heap.size := let ⟨L, h1, _, _⟩ := h.ex; h1.old i hi
theorem AgL.lt (h : AgL w base ab b mb v l) : ab < w.heap.size := let ⟨L, h1, _, _⟩ := h.ex; h1.blk.lt
theorem AgL.under {v' : Value} {W0 : World} (h : AgL w base ab b mb v l) (hc : Chg (PlF b mb v) w w1) (hb : Bw W0 w) (hs : W0.heap.size ≤ base) : Bw W0 w1 := let ⟨L, h1, _, _⟩ := h.ex; AgS.under (v' := v') hc hb hs h1
theorem AgL.keepR (h : AgL w base ab b mb v l) {base' n : Nat} {u : Value} {xs : List Value} (hr : w.ownsRow base' 32 2 u n xs) (hc : Chg (PlF b mb v) w w1) : w1.ownsRow base' 32 2 u n xs := let ⟨L, h1, _, _⟩ := h.ex; h1.keepR hr hc
theorem AgL.nd (h : AgL w base ab b mb v l) : (l.map (·.2)).Nodup ∧ ∀ x ∈ l, wfI x := by
  obtain ⟨L, ⟨_, _, D, hd⟩, _, hp⟩ := h.ex
  exact ⟨(hp.map _).nodup_iff.1 hd.nd, fun x hx => hd.wf x (hp.mem_iff.2 hx)⟩
theorem AgL.len (h : AgL w base ab b mb v l) : Calls Try.prog 14 #[.pointer (some ⟨ab, 0, none⟩)] w fun e w' => e = .returned (.int .i64 l.length) ∧ Bw w w' := by
  obtain ⟨L, h1, _, hp⟩ := h.ex
  rw [← hp.length_eq]
  exact agLen_calls h1
theorem AgL.put_new (h : AgL w base ab b mb v l) (x : It) (hx : wfI x) (hl : l.length < 60000) (hk : hasK l x.2 = false) : Calls Try.prog 10 #[.pointer (some ⟨ab, 0, none⟩), itV x] w fun e w' => e = .returned (.int .i64 0) ∧ ∃ v', AgL w' base ab b mb v' (putR l x) ∧ AgS b mb v v' w w' := by
  obtain ⟨L, h1, h2, hp⟩ := h.ex
  have := agPut_calls h1 x hx (by rw [hp.length_eq]; exact hl)
  rw [hasK_perm hp, hk] at this
  refine this.mono ?_
  rintro e w' ⟨rfl, v', k1, k2⟩
  have hpp := push_heap h2 x
  exact ⟨rfl, v', ⟨⟨_, k1, hpp.1, (hpp.2.trans (hp.cons _)).trans (putR_perm l x).symm⟩, putR_sorted _ _ h.so⟩, k2⟩
theorem AgL.put_old (h : AgL w base ab b mb v l) (x : It) (hx : wfI x) (hl : l.length < 60000) (hk : hasK l x.2 = true) : Calls Try.prog 10 #[.pointer (some ⟨ab, 0, none⟩), itV x] w fun e w' => e = .returned (.int .i64 7) ∧ ∃ v', AgL w' base ab b mb v' l ∧ AgS b mb v v' w w' := by
  obtain ⟨L, h1, h2, hp⟩ := h.ex
  have := agPut_calls h1 x hx (by rw [hp.length_eq]; exact hl)
  rw [hasK_perm hp, hk] at this
  refine this.mono ?_
  rintro e w' ⟨rfl, v', k1, k2⟩
  exact ⟨rfl, v', ⟨⟨_, k1, h2, hp⟩, h.so⟩, k2⟩
theorem AgL.first_nil (h : AgL w base ab b mb v []) : Calls Try.prog 19 #[.pointer (some ⟨ab, 0, none⟩)] w fun e w' => e = .returned (firstV (0, 0) false) ∧ Bw w w' := by
  obtain ⟨L, h1, h2, hp⟩ := h.ex
  obtain rfl := hp.eq_nil
  exact agFirst_empty h1
theorem AgL.pop_nil (h : AgL w base ab b mb v []) : Calls Try.prog 12 #[.pointer (some ⟨ab, 0, none⟩)] w fun e w' => e = .returned (firstV (0, 0) false) ∧ Bw w w' := by
  obtain ⟨L, h1, h2, hp⟩ := h.ex
  obtain rfl := hp.eq_nil
  exact agPop_empty h1
theorem AgL.first_cons {m : It} {t : List It} (h : AgL w base ab b mb v (m :: t)) : Calls Try.prog 19 #[.pointer (some ⟨ab, 0, none⟩)] w fun e w' => e = .returned (firstV m true) ∧ Bw w w' := by
  obtain ⟨L, h1, h2, hp⟩ := h.ex
  obtain ⟨x, hx⟩ := getLt (L := L) (i := 0) (by rw [hp.length_eq]; simp)
  obtain rfl := first_is h2 hx hp h.so
  exact agFirst_calls h1 x hx
theorem AgL.pop_cons {m : It} {t : List It} (h : AgL w base ab b mb v (m :: t)) : Calls Try.prog 12 #[.pointer (some ⟨ab, 0, none⟩)] w fun e w' => e = .returned (firstV m true) ∧ ∃ v', AgL w' base ab b mb v' t ∧ v'.ownBlock = v.ownBlock ∧ Chg (PlF b mb v) w w' := by
  obtain ⟨L, h1, h2, hp⟩ := h.ex
  obtain ⟨x, hx⟩ := getLt (L := L) (i := 0) (by rw [hp.length_eq]; simp)
  obtain rfl := first_is h2 hx hp h.so
  refine (agPop_calls h1 x hx).mono ?_
  rintro e w' ⟨rfl, v', k1, k2, k3⟩
  have hpp := pop_heap h2 hx
  exact ⟨rfl, v', ⟨⟨_, k1, hpp.1, (hpp.2.trans hp).cons_inv⟩, (List.pairwise_cons.1 h.so).2⟩, k2, k3⟩
/-- A key's item, in the heap and in the list. -/
theorem key_both {L l : List It} (hp : L.Perm l) (hn : (L.map (·.2)).Nodup) {k : Int} (hk : hasK l k = true) : ∃ x, L[keyAt L k]? = some x ∧ l[keyAt l k]? = some x ∧ x.2 = k := by
  obtain ⟨x, hx, hxk⟩ := keyAt_some hk
  obtain ⟨y, hy, hyk⟩ := keyAt_some (show hasK L k = true by rw [hasK_perm hp]; exact hk)
  obtain ⟨j, hj⟩ := List.mem_iff_getElem?.1 (hp.mem_iff.2 (List.mem_of_getElem? hx))
  have e := key_at hn hj hy (by rw [hxk, hyk])
  rw [e] at hj
  obtain rfl := Option.some.inj (hy.symm.trans hj)
  exact ⟨y, hy, hx, hyk⟩
theorem AgL.at_hit (h : AgL w base ab b mb v l) (k : Int) (hk : (Lit.int .i64 k).wf = true) (hh : hasK l k = true) : ∃ x, l[keyAt l k]? = some x ∧ Calls Try.prog 17 #[.pointer (some ⟨ab, 0, none⟩), .int .i64 k] w fun e w' => e = .returned (.tuple #[.int .i64 x.1, .bool true]) ∧ Bw w w' := by
  obtain ⟨L, h1, h2, hp⟩ := h.ex
  obtain ⟨D, hd⟩ := h1.pl
  obtain ⟨x, hx, hy, hxk⟩ := key_both hp hd.nd hh
  exact ⟨x, hy, agAt_hit h1 k hk (by rw [hasK_perm hp]; exact hh) x hx⟩
theorem AgL.at_miss (h : AgL w base ab b mb v l) (k : Int) (hk : (Lit.int .i64 k).wf = true) (hh : hasK l k = false) : Calls Try.prog 17 #[.pointer (some ⟨ab, 0, none⟩), .int .i64 k] w fun e w' => e = .returned (.tuple #[.int .i64 0, .bool false]) ∧ Bw w w' := by
  obtain ⟨L, h1, h2, hp⟩ := h.ex
  exact agAt_miss h1 k hk (by rw [hasK_perm hp]; exact hh)
theorem AgL.drop_miss (h : AgL w base ab b mb v l) (k : Int) (hk : (Lit.int .i64 k).wf = true) (hh : hasK l k = false) : Calls Try.prog 20 #[.pointer (some ⟨ab, 0, none⟩), .int .i64 k] w fun e w' => e = .returned (.bool false) ∧ Bw w w' := by
  obtain ⟨L, h1, h2, hp⟩ := h.ex
  exact agDrop_miss h1 k hk (by rw [hasK_perm hp]; exact hh)
theorem AgL.move_miss (h : AgL w base ab b mb v l) (k d : Int) (hk : (Lit.int .i64 k).wf = true) (hh : hasK l k = false) : Calls Try.prog 21 #[.pointer (some ⟨ab, 0, none⟩), .int .i64 k, .int .i64 d] w fun e w' => e = .returned (.bool false) ∧ Bw w w' := by
  obtain ⟨L, h1, h2, hp⟩ := h.ex
  exact agMove_miss h1 k d hk (by rw [hasK_perm hp]; exact hh)
theorem AgL.drop_hit (h : AgL w base ab b mb v l) (k : Int) (hk : (Lit.int .i64 k).wf = true) (hh : hasK l k = true) : Calls Try.prog 20 #[.pointer (some ⟨ab, 0, none⟩), .int .i64 k] w fun e w' => e = .returned (.bool true) ∧ ∃ v', AgL w' base ab b mb v' (dropN l 0 (keyAt l k : Int)) ∧ v'.ownBlock = v.ownBlock ∧ Chg (PlF b mb v) w w' := by
  obtain ⟨L, h1, h2, hp⟩ := h.ex
  obtain ⟨D, hd⟩ := h1.pl
  obtain ⟨x, hx, hy, hxk⟩ := key_both hp hd.nd hh
  refine (agDrop_hit h1 k hk (by rw [hasK_perm hp]; exact hh) _ rfl (List.getElem?_eq_some_iff.1 hx).1).mono ?_
  rintro e w' ⟨rfl, v', k1, k2, k3⟩
  have hr := rem_heap h2 hx
  have hdp := dropN_perm l 0 (keyAt l k) x hy
  rw [Nat.zero_add] at hdp
  exact ⟨rfl, v', ⟨⟨_, k1, hr.1, ((hr.2.trans hp).trans hdp.symm).cons_inv⟩, h.so.sublist (dropN_sub _ _ _)⟩, k2, k3⟩
theorem set_perm {L : List It} {i : Nat} {x y : It} (hx : L[i]? = some x) {T : List It} (h : L.Perm (x :: T)) : (L.set i y).Perm (y :: T) := by
  have hil := (List.getElem?_eq_some_iff.1 hx).1
  have e1 : L = L.take i ++ x :: L.drop (i + 1) := by
    have := List.take_append_drop i L
    rw [List.drop_eq_getElem_cons hil] at this
    rw [← (List.getElem?_eq_some_iff.1 hx).2]
    exact this.symm
  have e2 : L.set i y = L.take i ++ y :: L.drop (i + 1) := List.set_eq_take_append_cons_drop .. |>.trans (by rw [if_pos hil])
  rw [e2]
  have h3 : (x :: (L.take i ++ L.drop (i + 1))).Perm (x :: T) := by
    refine List.Perm.trans ?_ h
    exact (List.perm_middle.symm).trans (by rw [← e1])
  exact List.perm_middle.trans ((h3.cons_inv).cons y)
theorem AgL.move_hit (h : AgL w base ab b mb v l) (k d : Int) (hk : (Lit.int .i64 k).wf = true) (hdw : (Lit.int .i64 d).wf = true) (hh : hasK l k = true) : Calls Try.prog 21 #[.pointer (some ⟨ab, 0, none⟩), .int .i64 k, .int .i64 d] w fun e w' => e = .returned (.bool true) ∧ ∃ v', AgL w' base ab b mb v' (putR (dropN l 0 (keyAt l k : Int)) (d, k)) ∧ v'.ownBlock = v.ownBlock ∧ Chg (PlF b mb v) w w' := by
  obtain ⟨L, h1, h2, hp⟩ := h.ex
  obtain ⟨D, hd⟩ := h1.pl
  obtain ⟨x, hx, hy, hxk⟩ := key_both hp hd.nd hh
  have hil := (List.getElem?_eq_some_iff.1 hx).1
  refine (agMove_hit h1 k d hk hdw (by rw [hasK_perm hp]; exact hh) _ rfl x hx hxk).mono ?_
  rintro e w' ⟨rfl, v', k1, k2, k3⟩
  have hdp := dropN_perm l 0 (keyAt l k) x hy
  rw [Nat.zero_add] at hdp
  have hm := mid_heap (mid_set h2 hx (d, k)) hil (by simp)
  have hlen : (L.set (keyAt L k) (d, k)).length = L.length := by simp
  refine ⟨rfl, v', ⟨⟨_, k1, ?_, ?_⟩, putR_sorted _ _ (h.so.sublist (dropN_sub _ _ _))⟩, k2, k3⟩
  · rw [midL_len, hlen]
    exact hm
  · exact ((midL_perm _ _ _).trans (set_perm hx (hp.trans hdp.symm))).trans (putR_perm _ _).symm
end
end Go.Proofs.Ytoklhhcjcecbbaa.M
