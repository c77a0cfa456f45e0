/- What the reference of package code answers: Read, At. Conditions: the words are of their kind. -/
import Derived.Test.YtogpjimmcckkcaaDoorMz6
namespace Go.Proofs.YtogpjimmcckkcaaDoor.M
open Go.RowKit Go.Proofs.YtogpjimmcckkcaaDoorW.PrintWords Go.Proofs.YtogpjimmcckkcaaDoorW.PrintLast Go.Proofs.YtogpjimmcckkcaaDoorW.PrintMore
attribute [local go_sem] min2_int min_two
set_option linter.unusedVariables false
set_option linter.unusedSimpArgs false

theorem runW_count (xs : List Int) (y : Int) : (runW (xs ++ [y])).1.length = (runW xs).1.length + (if prt y then 1 else 0) := by
  rw [runW_snoc]; unfold stepW; split <;> simp [*]

theorem insR_not' (x p : Int) (h : prt x = false) : insR x p = ins x p := by unfold insR; rw [h]; rfl
set_option maxHeartbeats 4000000 in
set_option maxRecDepth 100000 in
theorem refRead_calls' (A : Option Addr) (cap : Nat) (xs ys : List Int) (w : World) (hx : Rows encU 1 w A xs) (hy : ys = xs.take 4096) (hm' : (if (4096:Int) < (xs.length:Int) then (4096:Int) else (xs.length:Int)) = (ys.length:Int)) (hr : ∀ x ∈ xs, 0 ≤ x ∧ x < 18446744073709551616) :
    Calls Tryd.prog 34 #[.slice A xs.length cap] w fun e w' => ∃ A' c, e = .returned (.slice A' (progsOf xs).length c) ∧ Rows2 encP 2 w' A' (progsOf xs) ∧ Bw w w' := by
  have HB := Aside0.mk (Bw.refl w)
  have HX := Aside0.mk hx
  have HR := Aside0.mk (show ∀ x ∈ ys, 0 ≤ x ∧ x < 18446744073709551616 by rw [hy]; exact fun x h => hr x (List.mem_of_mem_take h))
  have HG : Aside0 (progsOf xs = (pieces ys).map fun p => p.map fun x => ins x (pieces ys).length) := ⟨by rw [hy]; rfl⟩
  have hyl : ys.length ≤ 4096 := by rw [hy, List.length_take]; omega
  have hyx : ys.length ≤ xs.length := by rw [hy, List.length_take]; omega
  have HYX := Aside0.mk (show ∀ (k : Nat) y, ys[k]? = some y → xs[k]? = some y by
    intro k y h
    rw [hy, List.getElem?_take] at h
    split at h
    · exact h
    · simp at h)
  have hpl := runW_len ys
  have hcl : (runW ys).1.length ≤ 4096 := by omega
  have HPL := Aside0.mk hpl
  clear hx hr hy hpl
  go_enter Tryd.func34, Tryd.ntmps34
  go_wp2_with fail
  go_loopw [4, 5] (fun c i wr => ∃ k : Nat, k ≤ ys.length ∧ i = .int .i64 k ∧ c = .int .i64 ((runW (ys.take k)).1.length + 1 : Nat) ∧ Aside0 (Bw w wr)) (fun _ i _ => ys.length - (intOf i).toNat)
  case atStart => exact ⟨0, by omega, rfl, rfl, HB⟩
  case round =>
    obtain ⟨k, hk, rfl, rfl, HW⟩ := hrel
    have hkl : (runW (ys.take k)).1.length ≤ 4096 := by
      have := (runW_len (ys.take k)).1
      rw [List.length_take] at this
      omega
    by_cases hlt : k < ys.length
    · obtain ⟨y, hy⟩ : ∃ y, ys[k]? = some y := ⟨_, List.getElem?_eq_getElem hlt⟩
      have hyr := HR.out y (List.mem_of_getElem? hy)
      have y0 := hyr.1
      have y1 := hyr.2
      obtain ⟨ad, rfl, hck⟩ := (HX.out.bw HW.out).at1 k y (HYX.out k y hy)
      have hkx : (k : Int) < (xs.length : Int) := by omega
      have HE := Aside0.mk (show (runW (ys.take (k + 1))).1.length = (runW (ys.take k)).1.length + (if prt y then 1 else 0) by rw [List.take_add_one, hy]; exact runW_count _ _)
      clear hy hyr
      cases hp : prt y
      · have HP := Aside0.mk hp
        rw [hp] at HE
        clear hp
        go_wp2_with fail
        refine (Parts_calls y y0 y1 _).mono ?_
        rintro e w1 ⟨rfl, hb1⟩
        rw [HP.out]
        go_wp2_with fail
        go_roundw
        case rel => exact ⟨k + 1, by omega, by go_num, by rw [HE.out]; simp, ⟨HW.out.trans hb1⟩⟩
        case measure => simp [intOf]; omega
      · have HP := Aside0.mk hp
        rw [hp] at HE
        clear hp
        go_wp2_with fail
        refine (Parts_calls y y0 y1 _).mono ?_
        rintro e w1 ⟨rfl, hb1⟩
        rw [HP.out]
        go_wp2_with fail
        go_roundw
        case rel => exact ⟨k + 1, by omega, by go_num, by rw [HE.out]; simp, ⟨HW.out.trans hb1⟩⟩
        case measure => simp [intOf]; omega
    · obtain rfl : k = ys.length := by omega
      have hpc : (runW (ys.take ys.length)).1.length + 1 = (pieces ys).length := by
        rw [List.take_length]; unfold pieces; simp
      rw [hpc]
      have hN : (pieces ys).length ≤ 4097 := by rw [← hpc]; omega
      obtain ⟨N, hNN⟩ : ∃ N : Nat, N = (pieces ys).length := ⟨_, rfl⟩
      rw [← hNN] at HG hN ⊢
      have HNN := Aside0.mk hNN
      obtain ⟨w1, hw1⟩ : ∃ w1, w1 = wr := ⟨_, rfl⟩
      subst hw1
      clear hkl hpc hNN
      go_wp2_with fail
      go_loopw [6, 7, 8] (fun v u i wr => ∃ (k : Nat) (us : List Value), k ≤ ys.length ∧ i = .int .i64 k ∧ Aside0 (wr.ownsRow w.heap.size 73 1 v us.length us) ∧ Aside0 (Nest wr w.heap.size 23 encP 2 us ((runW (ys.take k)).1.map fun p => p.map fun x => ins x (N : Int)))
        ∧ Aside0 (wr.ownsRow w.heap.size 23 2 u (runW (ys.take k)).2.length (((runW (ys.take k)).2.map fun x => ins x (N : Int)).flatMap encP)) ∧ Aside0 (∀ u' ∈ us, NeRow u u') ∧ Aside0 (Bw w wr)) (fun _ _ i _ => ys.length - (intOf i).toNat)
      case atStart => exact ⟨0, [], by omega, rfl, ⟨own_nil _ _ _ _⟩, ⟨Nest.nil _ _⟩, ⟨own_nil _ _ _ _⟩, ⟨by simp⟩, HW⟩
      case round =>
        obtain ⟨k, us, hk, rfl, HO, HN, HU, HA, HW⟩ := hrel
        have hkl : us.length ≤ k ∧ (runW (ys.take k)).2.length ≤ k := by
          have h1 := HN.out.1
          have h2 := runW_len (ys.take k)
          rw [List.length_take] at h2
          rw [List.length_map] at h1
          omega
        by_cases hlt : k < ys.length
        · obtain ⟨y, hy⟩ : ∃ y, ys[k]? = some y := ⟨_, List.getElem?_eq_getElem hlt⟩
          have hyr := HR.out y (List.mem_of_getElem? hy)
          have y0 := hyr.1
          have y1 := hyr.2
          obtain ⟨ad, rfl, hck⟩ := (HX.out.bw HW.out).at1 k y (HYX.out k y hy)
          have hkx : (k : Int) < (xs.length : Int) := by omega
          have HE := Aside0.mk (show runW (ys.take (k + 1)) = stepW (runW (ys.take k)) y by rw [List.take_add_one, hy]; exact runW_snoc _ _)
          have HCK := Aside0.mk hck
          clear hy hyr
          cases hp : prt y
          · have HP := Aside0.mk hp
            have HI := Aside0.mk (insR_not' y (N : Int) hp)
            clear hp
            go_wp2_with fail
            refine (Parts_calls y y0 y1 _).mono ?_
            rintro e w2 ⟨rfl, hb2⟩
            rw [HP.out]
            have hck2 := hb2.kept HCK.out
            go_wp2_with fail
            refine (codeRefInstr_calls y (N : Int) y0 y1 (by omega) _).mono ?_
            rintro e w3 ⟨rfl, hb3⟩
            rw [HI.out]
            have hb := hb2.trans hb3
            have HO3 := Aside0.mk (pw_own_below HO.out hb)
            have HN3 := Aside0.mk (HN.out.bw hb)
            have HU3 := Aside0.mk (pw_own_below HU.out hb)
            have HW3 := Aside0.mk (HW.out.trans hb)
            clear hb
            go_wp2_with (at_builtin; go_loud (refine print_append_cells (w0 := w) w.heap.size rfl (.tmp 38) (.tmp 45) 73 23 (.agg #[.int .i64 0, .int .i64 0]) 2 16 rfl Tryd.underlying73 infoIn rfl (by omega) (by omega) u7 (runW (ys.take k)).2.length _ [.int .i64 (ins y N).1, .int .i64 (ins y N).2] rfl rfl rfl (by simp [Value.oneCell']) HU3.out HW3.out HW3.out.size (by omega) ?_); intro v1 w4 hown4 hbel4 hg4 hat4)
            have HO4 := Aside0.mk (kept_ne HO3.out hg4 (ne_types HU3.out HO3.out (by decide)))
            have HA4 := Aside0.mk (fun u' (hu : u' ∈ us) => ne_append (HA.out u' hu) hat4 (HN3.out.mem hu).choose_spec)
            have HN4 := Aside0.mk (HN3.out.grown hg4 HA.out)
            have HU4 := Aside0.mk hown4
            clear hown4 hg4 hat4
            go_roundw
            case rel =>
              have hst : runW (ys.take (k + 1)) = ((runW (ys.take k)).1, (runW (ys.take k)).2 ++ [y]) := by rw [HE.out, stepW, if_neg (by rw [HP.out]; simp)]
              refine ⟨k + 1, us, by omega, by go_num, HO4, ⟨by rw [hst]; exact HN4.out⟩, ⟨?_⟩, HA4, ⟨hbel4⟩⟩
              rw [hst, List.length_append, List.map_append, List.flatMap_append]
              exact HU4.out
            case measure => simp [intOf]; omega
          · have HP := Aside0.mk hp
            clear hp
            go_wp2_with fail
            refine (Parts_calls y y0 y1 _).mono ?_
            rintro e w2 ⟨rfl, hb2⟩
            rw [HP.out]
            have HO3 := Aside0.mk (pw_own_below HO.out hb2)
            have HN3 := Aside0.mk (HN.out.bw hb2)
            have HU3 := Aside0.mk (pw_own_below HU.out hb2)
            have HW3 := Aside0.mk (HW.out.trans hb2)
            have HPU := Aside0.mk (HN3.out.push (ps := (runW (ys.take k)).2.map fun x => ins x (N : Int)) (by rw [List.length_map]; exact HU3.out))
            obtain ⟨A3, c3, rfl⟩ := own_slice HU.out
            go_wp2_with (at_builtin; go_loud (refine print_append_cells (w0 := w) w.heap.size rfl (.tmp 34) (.tmp 36) 65 73 (.slice none 0 0) 1 24 rfl Tryd.underlying65 infoIns rfl (by omega) (by omega) u6 us.length _ [.slice A3 (runW (ys.take k)).2.length c3] rfl rfl rfl (by simp [Value.oneCell']) HO3.out HW3.out HW3.out.size (by omega) ?_); intro v1 w4 hown4 hbel4 hg4 hat4)
            have HN4 := Aside0.mk (HPU.out.grown hg4 (HPU.out.ty HO3.out (by decide)))
            have HO4 := Aside0.mk hown4
            clear hown4 hg4 hat4
            go_roundw
            case rel =>
              have hst : runW (ys.take (k + 1)) = ((runW (ys.take k)).1 ++ [(runW (ys.take k)).2], []) := by rw [HE.out, stepW, if_pos HP.out]
              refine ⟨k + 1, us ++ [_], by omega, by go_num, ⟨by rw [List.length_append]; exact HO4.out⟩, ⟨?_⟩, ⟨by rw [hst]; exact own_nil _ _ _ _⟩, ⟨fun u' _ => ne_nil u'⟩, ⟨hbel4⟩⟩
              rw [hst, List.map_append]
              exact HN4.out
            case measure => simp [intOf]; omega
        · obtain rfl : k = ys.length := by omega
          have e : ys.take ys.length = ys := List.take_length
          rw [e] at HU HN hkl
          obtain ⟨A3, c3, rfl⟩ := own_slice HU.out
          have HPU := Aside0.mk (HN.out.push (ps := (runW (ys)).2.map fun x => ins x (N : Int)) (by rw [List.length_map]; exact HU.out))
          go_wp2_with (at_builtin; go_loud (refine print_append_cells (w0 := w) w.heap.size rfl (.tmp 47) (.tmp 49) 65 73 (.slice none 0 0) 1 24 rfl Tryd.underlying65 infoIns rfl (by omega) (by omega) u6 us.length _ [.slice A3 (runW (ys)).2.length c3] rfl rfl rfl (by simp [Value.oneCell']) HO.out HW.out HW.out.size (by omega) ?_); intro v1 w4 hown4 hbel4 hg4 hat4)
          have HN4 := Aside0.mk (HPU.out.grown hg4 (HPU.out.ty HO.out (by decide)))
          have HO4 := Aside0.mk hown4
          clear hown4 hg4 hat4
          go_ret
          have hpl := HPL.out
          have hmp : (((runW (ys)).1.map fun p => p.map fun x => ins x (N : Int)) ++ [(runW (ys)).2.map fun x => ins x (N : Int)]) = progsOf xs := by
            rw [HG.out, pieces, List.map_append]
            rfl
          have hn4 := HN4.out
          rw [hmp] at hn4
          have hlen : ∀ ps ∈ progsOf xs, ps.length ≤ 9223372036854775807 := by
            intro ps hp
            obtain ⟨j, hj, rfl⟩ := List.getElem_of_mem hp
            have hu : j < (us ++ [Value.slice A3 (runW (ys)).2.length c3]).length := by rw [hn4.1]; exact hj
            exact own_len (hn4.2 j _ _ (List.getElem?_eq_getElem hu) (List.getElem?_eq_getElem hj))
          have hO4 := HO4.out
          have hl4 : (us ++ [Value.slice A3 (runW (ys)).2.length c3]).length = us.length + 1 := by simp
          rw [← hl4] at hO4
          obtain ⟨A5, c5, rfl, h5⟩ := Rows2.own (enc := encP) (sz := 2) (tO := 73) (tI := 23) (fun _ => rfl) hO4 hn4 hlen (hn4.1 ▸ own_len hO4)
          exact ⟨A5, c5, rfl, h5, hbel4⟩
theorem refRead_calls (A : Option Addr) (cap : Nat) (xs : List Int) (w : World) (hx : Rows encU 1 w A xs) (hr : ∀ x ∈ xs, 0 ≤ x ∧ x < 18446744073709551616) :
    Calls Tryd.prog 34 #[.slice A xs.length cap] w fun e w' => ∃ A' c, e = .returned (.slice A' (progsOf xs).length c) ∧ Rows2 encP 2 w' A' (progsOf xs) ∧ Bw w w' := by
  refine refRead_calls' A cap xs _ w hx rfl ?_ hr
  rw [List.length_take]
  split <;> omega

end Go.Proofs.YtogpjimmcckkcaaDoor.M
