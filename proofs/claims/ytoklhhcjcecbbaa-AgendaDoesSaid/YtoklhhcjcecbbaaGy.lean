/- Agenda: All: slices.Clone and slices.SortFunc of items. Conditions: as in the texts before. -/
import Derived.Test.YtoklhhcjcecbbaaGs
import Derived.Test.YtoklhhcjcecbbaaShelf
import Derived.Shelf.SlSortCmp.NoneTotal
namespace Go.Proofs.Ytoklhhcjcecbbaa.M
open Go.RowKit Go.Maps Go.Proofs.YtoklhhcjcecbbaaW.PrintWords Go.Proofs.YtoklhhcjcecbbaaW.PrintLast Go.Proofs.YtoklhhcjcecbbaaW.PrintMore
open Go.Sort (grow grow_grow alloc_eq_grow HoldsK)
set_option linter.unusedVariables false
set_option linter.unusedSimpArgs false
set_option maxHeartbeats 1000000 in
theorem CloneIt_calls (A : Option Addr) (cap : Nat) (xs : List It) (w : World) (hx : Rows encI 2 w A xs) (hs : xs.length ≤ 1000000) :
    Calls Try.prog 49 #[.slice A xs.length cap] w fun e w' => ∃ v, e = .returned v ∧ w'.ownsRow w.heap.size 30 2 v xs.length (xs.flatMap encI) ∧ Bw w w' := by
  have HB := Aside0.mk (Bw.refl w)
  have hnil := fun (W : World) (a : Option Addr) (n c : Nat) => Lib.run_eql_slice_nil (P := Try.prog) W 22 30 a n c 0 0 Try.underlying22
  rcases A with _ | ad
  · have h0 : xs = [] := by
      apply Classical.byContradiction
      intro hn
      obtain ⟨ad, e, _⟩ := hx.2 hn
      cases e
    subst h0
    clear hx
    go_enter Try.func49, Try.ntmps49
    go_wp2
    go_ret
    exact ⟨_, rfl, own_nil _ _ _ _, HB.out⟩
  · have HO := Aside0.mk (show (w.alloc (.cells #[] 30)).ownsRow w.heap.size 30 2 (.slice (some ⟨w.heap.size, 0, none⟩) 0 0) 0 [] from World.ownsRow_made w #[] 0 (Nat.le_refl _) (by simp [maxLen]) (by simp))
    have HX2 := Aside0.mk (hx.bw ((Bw.refl w).alloc (.cells #[] 30)))
    clear hx
    go_enter Try.func49, Try.ntmps49
    go_wp2_with (at_builtin; go_loud (refine append_rows encI (w0 := w) w.heap.size rfl (.tmp 5) (.tmp 6) 22 30 (.agg #[.int .i64 0, .int .i64 0]) 2 16 rfl Try.underlying22 infoItem rfl (by omega) (by omega) (.slice (some ⟨w.heap.size, 0, none⟩) 0 0) 0 [] xs ad cap rfl rfl (fun _ => rfl) (by simp [Value.oneCell']) HO.out HX2.out (HB.out.alloc _) (by simp) (by omega) ?_); intro v1 w2 hown2 hbel2 hg2 hat2)
    go_ret
    exact ⟨_, rfl, by simpa using hown2, hbel2⟩
theorem bw_grow (W : World) (q : Nat) (os : Array Obj) : Bw W (grow (W.drewN q) os) := by
  refine ⟨rfl, rfl, rfl, ?_, fun k hk => ?_⟩
  · simp [grow, World.drewN]
  · show (W.heap ++ os)[k]? = W.heap[k]?
    rw [Array.getElem?_append_left hk]
set_option maxHeartbeats 1000000 in
theorem ahead_grow (x o : It) (w : World) : Calls Try.prog 77 #[itV x, itV o] w fun e w' => e = .returned (.bool (aheadB x o)) ∧ ∃ q os', w' = grow (w.drewN q) os' := by
  obtain ⟨a, b⟩ := x
  obtain ⟨c, d⟩ := o
  have HG := Aside0.mk (show (w.alloc (.cells #[.int .i64 a, .int .i64 b] 30)).alloc (.cells #[.int .i64 c, .int .i64 d] 30) = grow (w.drewN 0) #[.cells #[.int .i64 a, .int .i64 b] 30, .cells #[.int .i64 c, .int .i64 d] 30] by rw [alloc_eq_grow, alloc_eq_grow, grow_grow]; rfl)
  cases h1 : decide (a < c)
  · cases h2 : (a == c)
    · have HA := Aside0.mk (show aheadB (a, b) (c, d) = false by unfold aheadB; rw [h1, h2]; rfl)
      go_enter Try.func77, Try.ntmps77
      go_wp2_with fail
      go_ret
      exact ⟨ret_bool HA.out.symm, 0, _, HG.out⟩
    · have HA := Aside0.mk (show aheadB (a, b) (c, d) = decide (b < d) by unfold aheadB; rw [h1, h2]; rfl)
      go_enter Try.func77, Try.ntmps77
      go_wp2_with fail
      go_ret
      exact ⟨ret_bool HA.out.symm, 0, _, HG.out⟩
  · have HA := Aside0.mk (show aheadB (a, b) (c, d) = true by unfold aheadB; rw [h1]; rfl)
    go_enter Try.func77, Try.ntmps77
    go_wp2_with fail
    go_ret
    exact ⟨ret_bool HA.out.symm, 0, _, HG.out⟩
def cmpF (x y : It) : Int := if aheadB x y = true then -1 else if aheadB y x = true then 1 else 0
theorem grow_seq (W : World) (os : Array Obj) (q q' : Nat) (o1 o2 : Array Obj) : grow ((grow ((grow W os).drewN q) o1).drewN q') o2 = grow (W.drewN (q + q')) (os ++ o1 ++ o2) := by
  show World.mk .. = World.mk ..
  simp [grow, World.drewN, Nat.add_assoc, Array.append_assoc]
set_option maxHeartbeats 1000000 in
theorem compare_grow (x y : It) (w : World) : Calls Try.prog 51 #[itV x, itV y] w fun e w' => e = .returned (.int .i64 (cmpF x y)) ∧ ∃ q os', w' = grow (w.drewN q) os' := by
  have HA := Aside0.mk (fun W => ahead_grow x y W)
  have HA2 := Aside0.mk (fun W => ahead_grow y x W)
  have HC := Aside0.mk (show cmpF x y = if aheadB x y = true then -1 else if aheadB y x = true then 1 else 0 from rfl)
  generalize aheadB x y = p at HA HC
  generalize aheadB y x = p2 at HA2 HC
  generalize cmpF x y = r at HC ⊢
  obtain ⟨a, b⟩ := x
  obtain ⟨c, d⟩ := y
  obtain ⟨w0, hw0⟩ : ∃ w0, w0 = (w.alloc (.cells #[.int .i64 a, .int .i64 b] 30)).alloc (.cells #[.int .i64 c, .int .i64 d] 30) := ⟨_, rfl⟩
  obtain ⟨k0, k1, kf, kl⟩ := two_st (show Blk w0 w.heap.size #[.int .i64 a, .int .i64 b] 30 by rw [hw0]; exact (Blk.new w _ _).alloc _)
  obtain ⟨j0, j1, jf, jl⟩ := two_st (show Blk w0 (w.heap.size + 1) #[.int .i64 c, .int .i64 d] 30 by rw [hw0]; simpa using Blk.new (w.alloc (.cells #[.int .i64 a, .int .i64 b] 30)) #[.int .i64 c, .int .i64 d] 30)
  have HG := Aside0.mk (show w0 = grow w #[.cells #[.int .i64 a, .int .i64 b] 30, .cells #[.int .i64 c, .int .i64 d] 30] by rw [hw0, alloc_eq_grow, alloc_eq_grow, grow_grow]; rfl)
  have HK := Aside0.mk (And.intro (And.intro k0 k1) (And.intro j0 j1))
  go_enter Try.func51, Try.ntmps51
  go_wp2_with fail
  rw [← hw0]
  clear hw0
  refine (HA.out _).mono ?_
  rintro e w1 ⟨rfl, q1, o1, hg1⟩
  have hb := (bw_grow w0 q1 o1)
  rw [← hg1] at hb
  have k0 := hb.kept k0
  have k1 := hb.kept k1
  have j0 := hb.kept j0
  have j1 := hb.kept j1
  have HG1 := Aside0.mk hg1
  clear hg1 hb
  cases p
  · go_wp2_with fail
    refine (HA2.out _).mono ?_
    rintro e w2 ⟨rfl, q2, o2, hg2⟩
    have HG2 := Aside0.mk (show ∃ q os', w2 = grow (w.drewN q) os' from ⟨_, _, by rw [hg2, HG1.out, HG.out]; exact grow_seq _ _ _ _ _ _⟩)
    clear hg2
    cases p2
    · go_wp2_with fail
      go_ret
      exact ⟨ret_int HC.out.symm, HG2.out⟩
    · go_wp2_with fail
      go_ret
      exact ⟨ret_int HC.out.symm, HG2.out⟩
  · have HG2 := Aside0.mk (show ∃ q os', w1 = grow (w.drewN q) os' from ⟨q1, #[.cells #[.int .i64 a, .int .i64 b] 30, .cells #[.int .i64 c, .int .i64 d] 30] ++ o1, by
      rw [HG1.out, HG.out]
      simp [grow, World.drewN]⟩)
    go_wp2_with fail
    go_ret
    exact ⟨ret_int HC.out.symm, HG2.out⟩
theorem ltOf_cmp (x y : It) : ltOf cmpF x y = aheadB x y := by
  unfold ltOf cmpF
  cases h : aheadB x y
  · cases h2 : aheadB y x <;> simp
  · simp
theorem swo_cmp : Go.Sort.SWO (ltOf cmpF) where
  irrefl x := by rw [ltOf_cmp]; exact le_refl x
  trans x y z h1 h2 := by rw [ltOf_cmp] at *; rw [lt_iff] at *; omega
  ntrans x y z h1 h2 := by
    rw [ltOf_cmp] at *
    exact le_trans (show le z y from h2) (show le y x from h1)
theorem sortW_chg {w : World} {g n : Nat} {d : Array It} {os : Array Obj} : Chg (fun i => i = g) w (sortWorldK encI 2 w g 0 n d os) := by
  refine ⟨rfl, rfl, rfl, ?_, fun i hi hne => ?_⟩
  · simp [sortWorldK, grow, Go.Sort.putRowK, Go.Sort.putRow, Go.Sort.mapBlock, Go.Sort.ahead]
  · show ((w.heap.modify g _) ++ os)[i]? = w.heap[i]?
    rw [Array.getElem?_append_left (by simpa using hi), Array.getElem?_modify, if_neg (Ne.symm hne)]
theorem holds_own {w : World} {base g cap n : Nat} {L : List It} (ho : w.ownsRow base 30 2 (.slice (some ⟨g, 0, none⟩) n cap) n (L.flatMap encI)) : HoldsK encI 2 w g 0 L.toArray := by
  intro j hj
  have hj' : j < L.length * 2 := by simpa using hj
  obtain ⟨x, hx⟩ := getLt (L := L) (i := j / 2) (by omega)
  have hd : L.toArray[j / 2]! = x := by
    rw [getElem!_pos _ _ (by simp; omega)]
    simpa using (List.getElem?_eq_some_iff.1 hx).2
  rw [Go.Sort.get_flatK _ _ _ _ (by simpa using hj'), hd, Nat.zero_add]
  refine ⟨?_, own_free ho j⟩
  have hm : j % 2 < 2 := Nat.mod_lt _ (by decide)
  have hg := flat_get (enc := encI) (sz := 2) (fun _ => rfl) L (j / 2) x hx (j % 2) ((encI x)[j % 2]!) (by
    rw [getElem!_pos (encI x) (j % 2) (by simpa using hm)]
    exact List.getElem?_eq_getElem _)
  rw [show j / 2 * 2 + j % 2 = j by omega] at hg
  exact own_cellg ho j _ hg
theorem rows_holds {w : World} {g : Nat} {S : List It} (h : HoldsK encI 2 w g 0 S.toArray) (hs : S.length ≤ 1000000) : Rows encI 2 w (some ⟨g, 0, none⟩) S := by
  refine ⟨by omega, fun _ => ⟨_, rfl, fun j x hx i v hv => ?_⟩⟩
  have hjl := (List.getElem?_eq_some_iff.1 hx).1
  have hi : i < 2 := by have := (List.getElem?_eq_some_iff.1 hv).1; simpa using this
  have hc := (Go.Sort.HoldsK.cell h (i := j) (c := i) (by simpa using hjl) hi).1
  have hd : S.toArray[j]! = x := by
    rw [getElem!_pos _ _ (by simpa using hjl)]
    simpa using (List.getElem?_eq_some_iff.1 hx).2
  rw [hd, Nat.zero_add] at hc
  have hv2 : (encI x)[i]! = v := by
    rw [getElem!_pos (encI x) i (by simpa using hi)]
    exact (List.getElem?_eq_some_iff.1 hv).2
  rw [add_plain, ← hv2]
  exact hc
set_option maxHeartbeats 1000000 in
theorem SortIt_calls {base g cap n : Nat} {L : List It} {w : World} (ho : w.ownsRow base 30 2 (.slice (some ⟨g, 0, none⟩) n cap) n (L.flatMap encI)) (hn : L.length = n) (hs : n ≤ 1000000) :
    Calls Try.prog 50 #[.slice (some ⟨g, 0, none⟩) n cap, .func (.func 51) #[] #[]] w fun e w' => e = .returned (.tuple #[]) ∧ ∃ S, S.Perm L ∧ S.Pairwise le ∧ Rows encI 2 w' (some ⟨g, 0, none⟩) S ∧ Chg (fun i => i = g) w w' := by
  subst hn
  have hH := holds_own ho
  have hlt := own_lt ho g rfl
  have hsz : L.toArray.size = L.length := by simp
  have eg : ∀ args w, (callFunc 51 args).run Try.prog w = .ok (.enter 51 args) w := enters_of Try.func51 (by kernel_rfl) rfl
  have hc : CmpLays Try.prog 51 #[] encI 2 cmpF g 0 L.toArray.size w := fun _ _ _ _ x y => compare_grow x y _
  have hcon := AnyQ.slices_SortFunc_total Try.sortIt 2 Try.isAgg30 Try.sizeOf30 encI (fun _ => rfl) (fun x v hv => by simp [encI] at hv; rcases hv with rfl | rfl <;> rfl) cmpF swo_cmp 51 #[] g 0 cap L.toArray w eg hc hH hlt (by rw [hsz]; omega) (fun x y h1 h2 => by
    rw [ltOf_cmp] at h1 h2
    exact le_anti (show le x y from h2) (show le y x from h1))
  rw [hsz] at hcon
  change Calls Try.prog 50 _ _ _ at hcon
  refine hcon.mono ?_
  rintro e w' ⟨rfl, m, os, rfl⟩
  have hp : (L.mergeSort fun x y => !(ltOf cmpF) y x).Perm L := List.mergeSort_perm _ _
  refine ⟨rfl, _, hp, ?_, rows_holds (holdsK_sortWorldK_c encI 2 w g 0 _ _ m os hH hlt (by simp [hp.length_eq])) (by rw [hp.length_eq]; omega), sortW_chg⟩
  have hpw := List.pairwise_mergeSort (le := fun x y => !(ltOf cmpF) y x) (l := L) (fun a b c h1 h2 => by
    simp only [ltOf_cmp, Bool.not_eq_true'] at *
    exact le_trans (show le a b from h1) (show le b c from h2)) (fun a b => by
    simp only [ltOf_cmp]
    cases h1 : aheadB b a
    · simp
    · have := le_of_lt h1
      unfold le at this
      simp [this])
  refine hpw.imp ?_
  intro a b h
  simpa [ltOf_cmp, le] using h
theorem SortIt_none (w : World) (fv : Value) (p : Option Addr) (cap : Nat) : Calls Try.prog 50 #[.slice p 0 cap, fv] w fun e w' => e = .returned (.tuple #[]) ∧ w' = w :=
  AnyF.slices_SortFunc_none { Try.sortIt with } p cap fv w
theorem sorted_one {S l : List It} (h : S.Pairwise le) (h2 : l.Pairwise le) (hp : S.Perm l) : S = l :=
  List.Perm.eq_of_pairwise (fun a b _ _ h1 h2 => le_anti h1 h2) h h2 hp
section
variable {w w1 : World} {base ab b mb : Nat} {v : Value} {L l : List It} {D : DataW Unit}
set_option maxHeartbeats 2000000 in
theorem AgL.all (h : AgL w base ab b mb v l) (hl : l.length ≤ 1000000) : Calls Try.prog 16 #[.pointer (some ⟨ab, 0, none⟩)] w fun e w' => ∃ A c, e = .returned (.slice A l.length c) ∧ Rows encI 2 w' A l ∧ Bw w w' := by
  obtain ⟨L, h1, h2, hp⟩ := h.ex
  have hso := Aside0.mk h.so
  have HP := Aside0.mk hp
  have hlen := hp.length_eq
  have d0 := h1.blk.cell 0 (.pointer (some ⟨b, 0, none⟩)) rfl
  obtain ⟨D, hd⟩ := h1.pl
  have d1 := hd.cells.1
  obtain ⟨A, c, hv, hR⟩ := Rows.own (enc := encI) (sz := 2) (xs := L) (fun _ => rfl) hd.row rfl (own_len hd.row)
  subst hv
  have HC := Aside0.mk (CloneIt_calls A c L w hR (by omega))
  rw [hlen] at d1 HC
  have HL := Aside0.mk hlen
  clear h h1 h2 hp hd hR hlen
  go_enter Try.func16, Try.ntmps16
  go_wp2_with fail
  refine HC.out.mono ?_
  rintro e w1 ⟨u, rfl, hu, hb1⟩
  rcases hu.2 with ⟨e1, e2⟩ | ⟨g, cap, cur, e1, hg, _⟩
  · have HN := Aside0.mk e2
    subst e1
    clear hu
    have hz : l = [] := List.length_eq_zero_iff.1 HN.out
    subst hz
    have HS := Aside0.mk (fun W fv => SortIt_none W fv none 0)
    have HB1 := Aside0.mk hb1
    clear hb1
    go_wp2_with fail
    refine (HS.out _ _).mono ?_
    rintro e w2 ⟨rfl, rfl⟩
    go_wp2_with fail
    go_ret
    exact ⟨none, 0, rfl, Rows.nil, HB1.out⟩
  · subst e1
    have HS := Aside0.mk (SortIt_calls (L := L) hu HL.out (by omega))
    have HB1 := Aside0.mk hb1
    have HG := Aside0.mk hg
    clear hu hb1 hg
    go_wp2_with fail
    refine HS.out.mono ?_
    rintro e w2 ⟨rfl, S, hS, hSo, hR, hC⟩
    obtain rfl := sorted_one hSo hso.out (hS.trans HP.out)
    have HR := Aside0.mk hR
    have HB2 := Aside0.mk (hC.below HB1.out (fun i e => by rw [e]; exact HG.out))
    clear hS hSo hR hC
    go_wp2_with fail
    go_ret
    exact ⟨some ⟨g, 0, none⟩, cap, rfl, HR.out, HB2.out⟩
end
end Go.Proofs.Ytoklhhcjcecbbaa.M
