/- What parts of package code answers for words. Conditions: the words are of their kind, no more than 5,000. -/
import Derived.Test.YtoklhhcjcecbbaaMd
import Derived.Test.YtoklhhcjcecbbaaMne
import Derived.Shelf.Abstract
namespace Go.Proofs.Ytoklhhcjcecbbaa.M
open Go.RowKit Go.Proofs.YtoklhhcjcecbbaaW.PrintWords Go.Proofs.YtoklhhcjcecbbaaW.PrintLast Go.Proofs.YtoklhhcjcecbbaaW.PrintMore
set_option linter.unusedVariables false
set_option linter.unusedSimpArgs false

abbrev encU : Int → List Value := fun x => [.int .u64 x]
abbrev encP : Int × Int → List Value := fun p => [.int .i64 p.1, .int .i64 p.2]
theorem infoU64 : (Try.prog.info? 72).map (fun i => (i.zero, i.size, i.bytes)) = some (some (.int .u64 0), 1, 8) := by kernel_rfl
theorem infoU64s : (Try.prog.info? 69).map (fun i => (i.zero, i.size, i.bytes)) = some (some (.slice none 0 0), 1, 24) := by kernel_rfl

/-- A word, behind others: the pieces that are done, and the one that is not. -/
def stepW (s : List (List Int) × List Int) (x : Int) : List (List Int) × List Int := if prt x then (s.1 ++ [s.2], []) else (s.1, s.2 ++ [x])
def runW (xs : List Int) : List (List Int) × List Int := xs.foldl stepW ([], [])
def pieces (xs : List Int) : List (List Int) := (runW xs).1 ++ [(runW xs).2]
theorem runW_snoc (xs : List Int) (x : Int) : runW (xs ++ [x]) = stepW (runW xs) x := by simp [runW, List.foldl_append]
theorem runW_len (xs : List Int) : (runW xs).1.length ≤ xs.length ∧ (runW xs).2.length ≤ xs.length ∧ (∀ ps ∈ (runW xs).1, ps.length ≤ xs.length) := by
  refine snoc_ind (P := fun xs => (runW xs).1.length ≤ xs.length ∧ (runW xs).2.length ≤ xs.length ∧ (∀ ps ∈ (runW xs).1, ps.length ≤ xs.length)) (by simp [runW]) ?_ xs
  · intro xs x ih
    rw [runW_snoc]
    unfold stepW
    obtain ⟨h1, h2, h3⟩ := ih
    split
    · simp
      refine ⟨h1, fun ps hp => ?_⟩
      rcases hp with hp | rfl
      · have := h3 ps hp; omega
      · omega
    · simp
      refine ⟨by omega, h2, fun ps hp => ?_⟩
      have := h3 ps hp; omega

theorem here_calls (x : Int) (h0 : 0 ≤ x) (h1 : x < 18446744073709551616) (w : World) :
    Calls Try.prog 56 #[.int .u64 x] w fun e w' => e = .returned (.bool (prt x)) ∧ Bw w w' := by
  have HB := Aside0.mk (Bw.refl w)
  go_enter Try.func56, Try.ntmps56
  go_wp2_with fail
  refine (Instr_calls x 1 h0 h1 (by omega) _).mono ?_
  rintro e w1 ⟨rfl, hb1⟩
  have HW1 := Aside0.mk (HB.out.trans hb1)
  go_wp2_with fail
  go_ret
  refine ⟨ret_bool (by simp), (HW1.out.alloc _)⟩

theorem own_type_ne' {w : World} {b b' g : Nat} {e e' : TypeId} {s s' n n' m c : Nat} {v : Value} {xs xs' : List Value} (h : w.ownsRow b e s v n xs) (h' : w.ownsRow b' e' s' (.slice (some ⟨g, 0, none⟩) m c) n' xs') (hne : e ≠ e') : some g ≠ v.ownBlock :=
  fun q => (ne_types h h' hne) g q.symm rfl
set_option maxHeartbeats 2000000 in
theorem parts_calls (A : Option Addr) (cap : Nat) (xs : List Int) (w : World) (hx : Rows encU 1 w A xs) (hs : xs.length ≤ 5000) (hr : ∀ x ∈ xs, 0 ≤ x ∧ x < 18446744073709551616) :
    Calls Try.prog 55 #[.slice A xs.length cap, .func (.func 56) #[] #[]] w fun e w' => ∃ A' c, e = .returned (.slice A' (pieces xs).length c) ∧ Rows2 encU 1 w' A' (pieces xs) ∧ Bw w w' := by
  have HB := Aside0.mk (Bw.refl w)
  have HX := Aside0.mk hx
  have HR := Aside0.mk hr
  have he := enters_of Try.func56 (by kernel_rfl) rfl
  clear hx hr
  go_enter Try.func55, Try.ntmps55
  go_wp2
  go_loopw [5, 12] (fun v i wr => ∃ (k : Nat) (us : List Value) (u : Value), k ≤ xs.length ∧ i = .int .i64 k ∧ Aside0 (wr.ownsRow w.heap.size 69 1 v (us ++ [u]).length (us ++ [u])) ∧ Aside0 (Nest wr w.heap.size 72 encU 1 us (runW (xs.take k)).1)
    ∧ Aside0 (wr.ownsRow w.heap.size 72 1 u (runW (xs.take k)).2.length ((runW (xs.take k)).2.flatMap encU)) ∧ Aside0 (∀ u' ∈ us, NeRow u u') ∧ Aside0 (Bw w wr)) (fun _ i _ => xs.length - (intOf i).toNat)
  case atStart =>
    refine ⟨0, [], .slice none 0 0, by omega, rfl, ⟨?_⟩, ⟨Nest.nil _ _⟩, ⟨own_nil _ _ _ _⟩, ⟨by simp⟩, ⟨HB.out.alloc _⟩⟩
    exact World.ownsRow_lit w #[.slice none 0 0] 1 (Nat.le_refl _) (by simp [maxLen]) (by simp)
  case round =>
    obtain ⟨k, us, u, hk, rfl, HO, HN, HU, HA, HW⟩ := hrel
    by_cases hlt : k < xs.length
    · obtain ⟨y, hy⟩ : ∃ y, xs[k]? = some y := ⟨_, List.getElem?_eq_getElem hlt⟩
      have HY := Aside0.mk hy
      have hyr := HR.out y (List.mem_of_getElem? hy)
      have y0 := hyr.1
      have y1 := hyr.2
      obtain ⟨ad, rfl, hck⟩ := (HX.out.bw HW.out).at1 k y hy
      have HE := Aside0.mk (show runW (xs.take (k + 1)) = stepW (runW (xs.take k)) y by rw [List.take_add_one, hy]; exact runW_snoc _ _)
      clear hy hyr
      by_cases hp : prt y = true
      · go_wp2_with fail
        refine (here_calls y y0 y1 _).mono ?_
        rintro e w1 ⟨rfl, hb1⟩
        rw [hp]
        have HO1 := Aside0.mk (pw_own_below HO.out hb1)
        have HN1 := Aside0.mk (HN.out.bw hb1)
        have HU1 := Aside0.mk (pw_own_below HU.out hb1)
        have HW1 := Aside0.mk (HW.out.trans hb1)
        have hl : (us ++ [u]).length ≤ k + 1 := by
          have := HN.out.1
          have h2 := (runW_len (xs.take k)).1
          rw [List.length_take] at h2
          simp
          omega
        go_wp2_with (at_builtin; refine print_append_cells (w0 := w) w.heap.size rfl (.tmp 19) (.tmp 20) 107 69 (.slice none 0 0) 1 24 rfl Try.underlying107 infoU64s rfl (by omega) (by omega) u5 (us ++ [u]).length _ [.slice none 0 0] rfl rfl rfl (by simp [Value.oneCell']) HO1.out HW1.out HW1.out.size (by omega) ?_; intro v1 w2 hown2 hbel2 hg2 hat2)
        have HO2 := Aside0.mk hown2
        have HN2 := Aside0.mk ((HN1.out.push HU1.out).grown hg2 ((HN1.out.push HU1.out).ty HO1.out (by decide)))
        clear hown2 hg2 hat2
        go_roundw
        case rel =>
          have hst : runW (xs.take (k + 1)) = ((runW (xs.take k)).1 ++ [(runW (xs.take k)).2], []) := by rw [HE.out, stepW, if_pos hp]
          refine ⟨k + 1, us ++ [u], .slice none 0 0, by omega, by go_num, ⟨by simpa using HO2.out⟩, ⟨?_⟩, ⟨?_⟩, ⟨fun u' _ => ne_nil u'⟩, ⟨hbel2⟩⟩
          · rw [hst]
            exact HN2.out
          · rw [hst]
            exact own_nil _ _ _ _
        case measure => simp [intOf]; omega
      · go_wp2_with fail
        refine (here_calls y y0 y1 _).mono ?_
        rintro e w1 ⟨rfl, hb1⟩
        rw [show prt y = false by simpa using hp]
        have HO1 := Aside0.mk (pw_own_below HO.out hb1)
        have HN1 := Aside0.mk (HN.out.bw hb1)
        have HU1 := Aside0.mk (pw_own_below HU.out hb1)
        have HW1 := Aside0.mk (HW.out.trans hb1)
        have hl : (us ++ [u]).length ≤ k + 1 ∧ (runW (xs.take k)).2.length ≤ k := by
          have := HN.out.1
          have h2 := (runW_len (xs.take k))
          rw [List.length_take] at h2
          simp
          omega
        obtain ⟨g, cap', rfl, hg1, hg2⟩ := HO1.out.form (by simp)
        have hc := own_cell HO1.out us.length u (by simp)
        have hc1 := hc.1
        have hlu : (us ++ [u]).length = us.length + 1 := by simp
        rw [hlu]
        go_wp2_with (at_builtin; refine print_append_cells (w0 := w) w.heap.size rfl (.tmp 30) (.tmp 32) 69 72 (.int .u64 0) 1 8 rfl Try.underlying69 infoU64 rfl (by omega) (by omega) u (runW (xs.take k)).2.length _ [.int .u64 y] rfl rfl rfl (by simp [Value.oneCell']) HU1.out HW1.out HW1.out.size (by omega) ?_; intro v1 w2 hown2 hbel2 hg2 hat2; obtain ⟨g3, cap3, rfl, hg31, hg32⟩ := hown2.form (by omega); have HO2 := Aside0.mk (kept_ne HO1.out hg2 (ne_types HU1.out HO1.out (by decide))); have fr := own_free HO2.out us.length; have cc := (own_cell HO2.out us.length u (by simp)).1; have HA2 := Aside0.mk (fun u' (hu : u' ∈ us) => ne_append (HA.out u' hu) hat2 (HN1.out.mem hu).choose_spec); have HN2 := Aside0.mk (HN1.out.grown hg2 HA.out); have HU2 := Aside0.mk hown2; clear hown2 hg2 hat2)
        have hlt2 : g < w2.heap.size := own_lt HO2.out g rfl
        go_roundw
        case rel =>
          have hst : runW (xs.take (k + 1)) = ((runW (xs.take k)).1, (runW (xs.take k)).2 ++ [y]) := by rw [HE.out, stepW, if_neg hp]
          have hO3 := own_set1 HO2.out us.length (.slice (some ⟨g3, 0, none⟩) ((runW (xs.take k)).2.length + 1) cap3) (by omega)
          have e1 : (us ++ [u]).set us.length (.slice (some ⟨g3, 0, none⟩) ((runW (xs.take k)).2.length + 1) cap3) = us ++ [.slice (some ⟨g3, 0, none⟩) ((runW (xs.take k)).2.length + 1) cap3] := by
            rw [List.set_append_right _ _ (Nat.le_refl _)]
            simp
          rw [e1, hlu] at hO3
          have n1 : some g ≠ (Value.slice (some ⟨g3, 0, none⟩) ((runW (xs.take k)).2.length + 1) cap3).ownBlock := own_type_ne' HU2.out HO2.out (by decide)
          refine ⟨k + 1, us, _, by omega, by go_num, ⟨by rw [List.length_append]; exact hO3⟩, ⟨?_⟩, ⟨?_⟩, ⟨HA2.out⟩, ⟨Bw.setCell hbel2 hg1 _⟩⟩
          · rw [hst]
            refine HN2.out.setCell (fun u' hu => ?_) _
            have := (HN2.out.ty HO2.out (by decide)) u' hu
            exact fun e => this g rfl e.symm
          · rw [hst]
            simp only [List.length_append, List.length_singleton, List.flatMap_append, List.flatMap_singleton]
            exact own_setCell HU2.out n1 _
        case measure => simp [intOf]; omega
    · obtain rfl : k = xs.length := by omega
      obtain ⟨A', c', rfl⟩ := own_slice HO.out
      go_wp2
      go_ret
      have hrun := runW_len xs
      have e : xs.take xs.length = xs := List.take_length
      have HN' := HN.out
      have HU' := HU.out
      rw [e] at HN' HU'
      have l1 : ∀ ps ∈ (runW xs).1 ++ [(runW xs).2], ps.length ≤ 9223372036854775807 := by
        intro ps hp
        rcases List.mem_append.1 hp with hp | hp
        · have := hrun.2.2 ps hp; omega
        · obtain rfl := List.mem_singleton.1 hp; omega
      have l2 : ((runW xs).1 ++ [(runW xs).2]).length ≤ 9223372036854775807 := by
        simp
        omega
      obtain ⟨A2, c2, hv, h2⟩ := Rows2.own (enc := encU) (sz := 1) (tO := 69) (tI := 72) (fun _ => rfl) HO.out (HN'.push HU') l1 l2
      refine ⟨A2, c2, ?_, h2, HW.out⟩
      rw [hv]
      rfl
end Go.Proofs.Ytoklhhcjcecbbaa.M
