/- Agenda: At, Drop, Move. Conditions: as in the texts before. -/
import Derived.Test.YtoklhhcjcecbbaaGq
namespace Go.Proofs.Ytoklhhcjcecbbaa.M
open Go.RowKit Go.Maps Go.Proofs.YtoklhhcjcecbbaaW.PrintWords Go.Proofs.YtoklhhcjcecbbaaW.PrintLast Go.Proofs.YtoklhhcjcecbbaaW.PrintMore
set_option linter.unusedVariables false
set_option linter.unusedSimpArgs false
section
variable {w w1 : World} {base ab b mb : Nat} {v : Value} {L : List It} {D : DataW Unit}
theorem place_hit (h : IsAg w base ab b mb v L) (k : Int) (hk : (Lit.int .i64 k).wf = true) (hh : hasK L k = true) : Calls Try.prog 52 #[.pointer (some ⟨ab, 0, none⟩), .int .i64 k] w fun e w' => e = .returned (.tuple #[.int .i64 (keyAt L k : Int), .bool true]) ∧ Bw w w' := by
  have := agPlace_calls h k hk
  rw [hh] at this
  exact this
theorem place_miss (h : IsAg w base ab b mb v L) (k : Int) (hk : (Lit.int .i64 k).wf = true) (hh : hasK L k = false) : Calls Try.prog 52 #[.pointer (some ⟨ab, 0, none⟩), .int .i64 k] w fun e w' => e = .returned (.tuple #[.int .i64 0, .bool false]) ∧ Bw w w' := by
  have := agPlace_calls h k hk
  rw [hh] at this
  exact this
set_option maxHeartbeats 1000000 in
set_option maxRecDepth 100000 in
theorem agAt_hit (h : IsAg w base ab b mb v L) (k : Int) (hk : (Lit.int .i64 k).wf = true) (hh : hasK L k = true) (x : It) (hx : L[keyAt L k]? = some x) : Calls Try.prog 17 #[.pointer (some ⟨ab, 0, none⟩), .int .i64 k] w fun e w' => e = .returned (.tuple #[.int .i64 x.1, .bool true]) ∧ Bw w w' := by
  have HP := Aside0.mk (place_hit h k hk hh)
  have H := Aside0.mk h
  have HX := Aside0.mk hx
  have hlt := (List.getElem?_eq_some_iff.1 hx).1
  generalize keyAt L k = i at HP HX hlt
  clear h hx hh
  go_enter Try.func17, Try.ntmps17
  go_wp2_with fail
  refine (HP.out).mono ?_
  rintro e w1 ⟨rfl, hb1⟩
  have h1 := H.out.bw hb1
  have d0 := h1.blk.cell 0 (.pointer (some ⟨b, 0, none⟩)) rfl
  obtain ⟨D, hd⟩ := h1.pl
  have d1 := hd.cells.1
  obtain ⟨g, cap, hv, x0, x1, xf, xl⟩ := hd.rowAt HX.out
  subst hv
  obtain ⟨xa, xb⟩ := x
  clear h1 hd
  go_wp2_with fail
  go_ret2
  exact ⟨rfl, hb1⟩
theorem agAt_miss (h : IsAg w base ab b mb v L) (k : Int) (hk : (Lit.int .i64 k).wf = true) (hh : hasK L k = false) : Calls Try.prog 17 #[.pointer (some ⟨ab, 0, none⟩), .int .i64 k] w fun e w' => e = .returned (.tuple #[.int .i64 0, .bool false]) ∧ Bw w w' := by
  have HP := Aside0.mk (place_miss h k hk hh)
  clear h hh
  go_enter Try.func17, Try.ntmps17
  go_wp2_with fail
  refine (HP.out).mono ?_
  rintro e w1 ⟨rfl, hb1⟩
  go_wp2_with fail
  go_ret2
  exact ⟨rfl, hb1⟩
theorem agDrop_miss (h : IsAg w base ab b mb v L) (k : Int) (hk : (Lit.int .i64 k).wf = true) (hh : hasK L k = false) : Calls Try.prog 20 #[.pointer (some ⟨ab, 0, none⟩), .int .i64 k] w fun e w' => e = .returned (.bool false) ∧ Bw w w' := by
  have HP := Aside0.mk (place_miss h k hk hh)
  clear h hh
  go_enter Try.func20, Try.ntmps20
  go_wp2_with fail
  refine (HP.out).mono ?_
  rintro e w1 ⟨rfl, hb1⟩
  go_wp2_with fail
  go_ret
  exact ⟨rfl, hb1⟩
theorem agMove_miss (h : IsAg w base ab b mb v L) (k d : Int) (hk : (Lit.int .i64 k).wf = true) (hh : hasK L k = false) : Calls Try.prog 21 #[.pointer (some ⟨ab, 0, none⟩), .int .i64 k, .int .i64 d] w fun e w' => e = .returned (.bool false) ∧ Bw w w' := by
  have HP := Aside0.mk (place_miss h k hk hh)
  clear h hh
  go_enter Try.func21, Try.ntmps21
  go_wp2_with fail
  refine (HP.out).mono ?_
  rintro e w1 ⟨rfl, hb1⟩
  go_wp2_with fail
  go_ret
  exact ⟨rfl, hb1⟩
set_option maxHeartbeats 1000000 in
set_option maxRecDepth 100000 in
theorem agDrop_hit (h : IsAg w base ab b mb v L) (k : Int) (hk : (Lit.int .i64 k).wf = true) (hh : hasK L k = true) (i : Nat) (hi : keyAt L k = i) (hil : i < L.length) : Calls Try.prog 20 #[.pointer (some ⟨ab, 0, none⟩), .int .i64 k] w fun e w' => e = .returned (.bool true) ∧ ∃ v', IsAg w' base ab b mb v' ((remM L i).take (L.length - 1)) ∧ v'.ownBlock = v.ownBlock ∧ Chg (PlF b mb v) w w' := by
  have HP := place_hit h k hk hh
  rw [hi] at HP
  have HP := Aside0.mk HP
  have H := Aside0.mk h
  have HR := Aside0.mk (fun W (hW : IsPl W base b mb v L) => hRemove_calls hW i hil)
  generalize (remM L i).take (L.length - 1) = T at HR ⊢
  clear h hh hi
  go_enter Try.func20, Try.ntmps20
  go_wp2_with fail
  refine (HP.out).mono ?_
  rintro e w1 ⟨rfl, hb1⟩
  have h1 := H.out.bw hb1
  have d0 := h1.blk.cell 0 (.pointer (some ⟨b, 0, none⟩)) rfl
  have H1 := Aside0.mk h1
  have C1 := Aside0.mk (Chg.of_bw hb1 : Chg (PlF b mb v) w w1)
  clear h1 hb1
  go_wp2_with fail
  refine (HR.out _ H1.out.pl).mono ?_
  rintro e w3 ⟨z, rfl, v3, h3, n3, c3⟩
  have H3 := Aside0.mk (H1.out.step c3 h3)
  have C3 := Aside0.mk (C1.out.trans c3)
  have N3 := Aside0.mk n3
  clear h3 c3 n3
  go_wp2_with fail
  go_ret
  exact ⟨rfl, v3, H3.out, N3.out, C3.out⟩
/-- An item's time changed in its place. -/
theorem IsPile.setDue {g cap i : Nat} {x : It} {d : Int} (h : IsPile w base b mb (.slice (some ⟨g, 0, none⟩) L.length cap) L D) (hx : L[i]? = some x) (hd : (Lit.int .i64 d).wf = true) :
    IsPile (w.setCell ⟨g, i * 2, none⟩ (.int .i64 d)) base b mb (.slice (some ⟨g, 0, none⟩) (L.set i (d, x.2)).length cap) (L.set i (d, x.2)) D := by
  obtain ⟨h1, h2, h3⟩ := h.apart
  have hil := (List.getElem?_eq_some_iff.1 hx).1
  have hgb : g ≠ b := fun e => h3 (by rw [e]; rfl)
  have hgm : g ≠ mb := fun e => h2 (by rw [e]; rfl)
  have hkeys : (L.set i (d, x.2)).map (·.2) = L.map (·.2) := by
    refine List.ext_getElem? fun j => ?_
    rw [List.getElem?_map, List.getElem?_map, List.getElem?_set]
    by_cases e : i = j
    · subst e
      rw [if_pos rfl, if_pos hil, hx]
      rfl
    · rw [if_neg e]
  have hlen : (L.set i (d, x.2)).length = L.length := by simp
  refine ⟨h.le, by rw [hlen]; exact h.blk.other _ _ hgb, ?_, ?_, ?_, ?_, ?_, ?_⟩
  · rw [hlen]
    have := own_setg h.row (i * 2 + 0) (.int .i64 d) (by omega)
    rw [flat_set (enc := encI) (sz := 2) (fun _ => rfl) L i x (d, x.2) hx 0 (.int .i64 d) (by omega) rfl] at this
    exact this
  · rw [hlen]
    exact h.map.setCell (Ne.symm hgm) _
  · refine ⟨fun j y hy => ?_, fun q hq => ?_⟩
    · rw [List.getElem?_set] at hy
      by_cases e : i = j
      · subst e
        rw [if_pos rfl, if_pos hil] at hy
        obtain rfl := Option.some.inj hy
        exact h.pl.at_ i x hx
      · rw [if_neg e] at hy
        exact h.pl.at_ j y hy
    · rw [h.pl.has_ q hq]
      have e1 : ∀ M : List It, M.any (fun y => y.2 == q) = (M.map (·.2)).any (fun y => y == q) := fun M => by rw [List.any_map]; rfl
      rw [e1, e1, hkeys]
  · intro y hy
    rcases List.mem_or_eq_of_mem_set hy with hy | rfl
    · exact h.wf y hy
    · exact ⟨hd, (h.wf x (List.mem_of_getElem? hx)).2⟩
  · rw [hkeys]
    exact h.nd
  · rw [hlen]
    exact h.small
set_option maxHeartbeats 1000000 in
set_option maxRecDepth 100000 in
theorem agMove_hit (h : IsAg w base ab b mb v L) (k d : Int) (hk : (Lit.int .i64 k).wf = true) (hdw : (Lit.int .i64 d).wf = true) (hh : hasK L k = true) (i : Nat) (hi : keyAt L k = i) (x : It) (hx : L[i]? = some x) (hxk : x.2 = k) : Calls Try.prog 21 #[.pointer (some ⟨ab, 0, none⟩), .int .i64 k, .int .i64 d] w fun e w' => e = .returned (.bool true) ∧ ∃ v', IsAg w' base ab b mb v' (midL (L.set i (d, k)) (L.set i (d, k)).length i) ∧ v'.ownBlock = v.ownBlock ∧ Chg (PlF b mb v) w w' := by
  have HP := place_hit h k hk hh
  rw [hi] at HP
  have HP := Aside0.mk HP
  have H := Aside0.mk h
  have hil := (List.getElem?_eq_some_iff.1 hx).1
  have HX := Aside0.mk hx
  have HR := Aside0.mk (fun W v (hW : IsPl W base b mb v (L.set i (d, k))) => hFix_calls hW i (by simp; exact hil))
  have HDW := Aside0.mk hdw
  subst hxk
  generalize midL (L.set i (d, x.2)) (L.set i (d, x.2)).length i = T at HR ⊢
  clear h hh hi hx hdw
  go_enter Try.func21, Try.ntmps21
  go_wp2_with fail
  refine (HP.out).mono ?_
  rintro e w1 ⟨rfl, hb1⟩
  have h1 := H.out.bw hb1
  have d0 := h1.blk.cell 0 (.pointer (some ⟨b, 0, none⟩)) rfl
  obtain ⟨D, hd⟩ := h1.pl
  have d1 := hd.cells.1
  obtain ⟨g, cap, hv, x0, x1, xf, xl⟩ := hd.rowAt HX.out
  subst hv
  have H2 := Aside0.mk (hd.setDue HX.out HDW.out)
  have hsw := H2.out.small
  have C1 := Aside0.mk ((Chg.of_bw hb1 : Chg (PlF b mb (.slice (some ⟨g, 0, none⟩) L.length cap)) w w1).setb (k := g) (i := i * 2) (.inr (.inl rfl)) (.int .i64 d))
  have C2 := Aside0.mk (((Chg.refl (PlF b mb (.slice (some ⟨g, 0, none⟩) L.length cap)) w1).setb (k := g) (i := i * 2) (.inr (.inl rfl)) (.int .i64 d)))
  have H1 := Aside0.mk h1
  have hgab : g ≠ ab := fun e => h1.ne.2.2 (by rw [e]; rfl)
  obtain ⟨w2, hw2⟩ : ∃ w2, w2 = w1.setCell ⟨g, i * 2, none⟩ (.int .i64 d) := ⟨_, rfl⟩
  have H3 := Aside0.mk (show IsAg w2 base ab b mb (.slice (some ⟨g, 0, none⟩) (L.set i (d, x.2)).length cap) (L.set i (d, x.2)) by rw [hw2]; exact H1.out.step C2.out ⟨D, H2.out⟩)
  have e0 := H3.out.blk.cell 0 (.pointer (some ⟨b, 0, none⟩)) rfl
  clear h1 hd hb1 H1 H2
  go_wp2_with fail
  rw [← hw2]
  refine (HR.out _ _ H3.out.pl).mono ?_
  rintro e w3 ⟨rfl, h3, c3⟩
  have H4 := Aside0.mk (H3.out.step c3 h3)
  have c4 : Chg (PlF b mb (.slice (some ⟨g, 0, none⟩) L.length cap)) w w3 := by
    refine Chg.trans (b := w2) (by rw [hw2]; exact C1.out) (c3.mono fun j hj => ?_)
    rcases hj with hj | hj | hj
    · exact .inl hj
    · exact .inr (.inl hj)
    · exact .inr (.inr hj)
  have C4 := Aside0.mk c4
  clear h3 c3 c4 hw2
  go_wp2_with fail
  go_ret
  exact ⟨rfl, _, H4.out, rfl, C4.out⟩
end
end Go.Proofs.Ytoklhhcjcecbbaa.M
