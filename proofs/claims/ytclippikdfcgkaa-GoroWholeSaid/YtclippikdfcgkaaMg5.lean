/- The document's steps of a program (package turnspitref10), and that an arena's steps are these. Conditions: programs of up to 4096 instructions. -/
import Derived.Test.YtclippikdfcgkaaMg3
import Derived.Test.YtclippikdfcgkaaMd7
namespace Go.Proofs.Ytclippikdfcgkaa.M
open Go.RowKit Go.Proofs.YtclippikdfcgkaaW.PrintWords Go.Proofs.YtclippikdfcgkaaW.PrintLast Go.Proofs.YtclippikdfcgkaaW.PrintMore
set_option linter.unusedVariables false
set_option linter.unusedSimpArgs false
def repN (x : Int × Int) : Nat := if x.1 = 1 then x.2.toNat else 1
def stepsOf : List (Int × Int) → List (Int × Int)
  | [] => []
  | x :: xs => if x.1 = 0 then [] else List.replicate (repN x) x ++ stepsOf xs
def Goes (l : List (Int × Int)) : Prop := ∀ x ∈ l, x.1 ≠ 0
theorem stepsOf_app : ∀ (xs ys : List (Int × Int)), Goes xs → stepsOf (xs ++ ys) = stepsOf xs ++ stepsOf ys
  | [], ys, _ => rfl
  | x :: xs, ys, h => by
    have hx : x.1 ≠ 0 := h x (by simp)
    rw [List.cons_append]
    simp only [stepsOf, if_neg hx]
    rw [stepsOf_app xs ys (fun y hy => h y (List.mem_cons_of_mem _ hy)), List.append_assoc]
theorem stepsOf_one (x : Int × Int) (h : x.1 ≠ 0) : stepsOf [x] = List.replicate (repN x) x := by simp [stepsOf, h]
def Small (l : List (Int × Int)) : Prop := ∀ x ∈ l, x.1 = 1 → 1 ≤ x.2 ∧ x.2 ≤ 16
theorem repN_le {x : Int × Int} (h : x.1 = 1 → 1 ≤ x.2 ∧ x.2 ≤ 16) : 1 ≤ repN x ∧ repN x ≤ 16 := by
  unfold repN
  split
  · have := h (by assumption); omega
  · omega
theorem stepsOf_len : ∀ (l : List (Int × Int)), Small l → (stepsOf l).length ≤ 16 * l.length
  | [], _ => by simp [stepsOf]
  | x :: xs, h => by
    have h1 := repN_le (h x (by simp))
    have h2 := stepsOf_len xs (fun y hy => h y (List.mem_cons_of_mem _ hy))
    simp only [stepsOf]
    split
    · simp
    · rw [List.length_append, List.length_replicate, List.length_cons]; omega
theorem take_drop {α : Type} (l : List α) (i : Nat) (x : α) (h : l[i]? = some x) : l = l.take i ++ x :: l.drop (i + 1) := by
  have hi : i < l.length := (List.getElem?_eq_some_iff.1 h).1
  have hx : l[i] = x := (List.getElem?_eq_some_iff.1 h).2
  rw [← hx, ← List.drop_eq_getElem_cons hi, List.take_append_drop]
/-- Behind t steps of a program l: the instruction i, of whose steps r are left (0: none is begun). -/
def At (l : List (Int × Int)) (t i r : Nat) : Prop :=
  i ≤ l.length ∧ Goes (l.take i) ∧ ((r = 0 ∧ t = (stepsOf (l.take i)).length) ∨ ∃ x, l[i]? = some x ∧ x.1 = 1 ∧ 0 < r ∧ (r : Int) < x.2 ∧ t = (stepsOf (l.take i)).length + (x.2.toNat - r))
theorem At.start (l : List (Int × Int)) : At l 0 0 0 := ⟨by omega, by simp [Goes], .inl ⟨rfl, by simp [stepsOf]⟩⟩
/-- The instruction there. -/
theorem At.now {l : List (Int × Int)} {t i r : Nat} (h : At l t i r) (hs : Small l) : (∃ x, l[i]? = some x ∧ x.1 ≠ 0 ∧ (stepsOf l)[t]? = some x) ∨ ((l.getD i (0, 0)).1 = 0 ∧ (stepsOf l).length ≤ t) := by
  obtain ⟨h1, h2, h3⟩ := h
  rcases Nat.lt_or_ge i l.length with hi | hi
  · obtain ⟨x, hx⟩ : ∃ x, l[i]? = some x := ⟨_, List.getElem?_eq_getElem hi⟩
    have he := take_drop l i x hx
    have hst : stepsOf l = stepsOf (l.take i) ++ stepsOf (x :: l.drop (i + 1)) := by
      have := stepsOf_app (l.take i) (x :: l.drop (i + 1)) h2
      rw [← he] at this
      exact this
    by_cases h0 : x.1 = 0
    · right
      refine ⟨by rw [List.getD_eq_getElem?_getD, hx]; exact h0, ?_⟩
      rw [hst]
      simp only [stepsOf, if_pos h0, List.append_nil]
      rcases h3 with ⟨_, h3⟩ | ⟨y, hy, hk, hr, hl, h3⟩ <;> omega
    · left
      have hrp := repN_le (hs x (List.mem_of_getElem? hx))
      have hlt : ∃ q, q < repN x ∧ t = (stepsOf (l.take i)).length + q := by
        rcases h3 with ⟨_, h3⟩ | ⟨y, hy, hk, hr, hl, h3⟩
        · exact ⟨0, by omega, by omega⟩
        · have hyx : y = x := (Option.some.inj (hx.symm.trans hy)).symm
          rw [hyx] at hk hl h3
          exact ⟨x.2.toNat - r, by unfold repN; rw [if_pos hk]; omega, h3⟩
      obtain ⟨q, hq, rfl⟩ := hlt
      refine ⟨x, hx, h0, ?_⟩
      rw [hst]
      simp only [stepsOf, if_neg h0]
      rw [List.getElem?_append_right (by omega), Nat.add_sub_cancel_left, List.getElem?_append_left (by simpa using hq), List.getElem?_replicate, if_pos hq]
  · right
    have hl : l.getD i (0, 0) = (0, 0) := by rw [List.getD_eq_getElem?_getD, List.getElem?_eq_none hi]; rfl
    rw [hl]
    refine ⟨rfl, ?_⟩
    rw [List.take_of_length_le hi] at h3
    rcases h3 with ⟨_, h3⟩ | ⟨y, hy, _⟩
    · omega
    · rw [List.getElem?_eq_none hi] at hy
      cases hy
theorem At.left {l : List (Int × Int)} {t i r : Nat} (h : At l t i r) (hs : Small l) : i ≤ l.length ∧ r ≤ 16 := by
  obtain ⟨h1, h2, h3⟩ := h
  refine ⟨h1, ?_⟩
  rcases h3 with ⟨h3, _⟩ | ⟨y, hy, hk, hr, hl, h3⟩
  · omega
  · have := hs y (List.mem_of_getElem? hy) hk
    omega
theorem At.step {l : List (Int × Int)} {t i r : Nat} (h : At l t i r) (hs : Small l) (x : Int × Int) (hx : l[i]? = some x) (h0 : x.1 ≠ 0) :
    At l (t + 1) (if x.1 = 1 then (if (if r = 0 then x.2 else (r : Int)) = 1 then i + 1 else i) else i + 1) (if x.1 = 1 then (if (if r = 0 then x.2 else (r : Int)) = 1 then 0 else (if r = 0 then x.2.toNat else r) - 1) else 0) := by
  obtain ⟨h1, h2, h3⟩ := h
  have hi : i < l.length := (List.getElem?_eq_some_iff.1 hx).1
  have he : l.take (i + 1) = l.take i ++ [x] := by rw [List.take_add_one, hx]; rfl
  have hg : Goes (l.take (i + 1)) := by
    rw [he]
    intro y hy
    rcases List.mem_append.1 hy with hy | hy
    · exact h2 y hy
    · rw [List.mem_singleton.1 hy]; exact h0
  have hl : (stepsOf (l.take (i + 1))).length = (stepsOf (l.take i)).length + repN x := by
    rw [he, stepsOf_app _ _ h2, stepsOf_one x h0, List.length_append, List.length_replicate]
  have hrp := hs x (List.mem_of_getElem? hx)
  by_cases hk : x.1 = 1
  · obtain ⟨a1, a2⟩ := hrp hk
    have hrn : repN x = x.2.toNat := by unfold repN; rw [if_pos hk]
    rw [if_pos hk, if_pos hk]
    by_cases hr : r = 0
    · have ht : t = (stepsOf (l.take i)).length := by
        rcases h3 with ⟨_, h3⟩ | ⟨y, _, _, hr', _⟩
        · exact h3
        · omega
      have q1 : (if r = 0 then x.2 else (r : Int)) = x.2 := if_pos hr
      have q2 : (if r = 0 then x.2.toNat else r) = x.2.toNat := if_pos hr
      rw [q1, q2]
      by_cases ha : x.2 = 1
      · rw [if_pos ha, if_pos ha]
        exact ⟨by omega, hg, .inl ⟨rfl, by rw [hl, hrn]; omega⟩⟩
      · rw [if_neg ha, if_neg ha]
        exact ⟨h1, h2, .inr ⟨x, hx, hk, by omega, by omega, by omega⟩⟩
    · obtain ⟨y, hy, _, hr0, hr1, ht⟩ : ∃ y, l[i]? = some y ∧ y.1 = 1 ∧ 0 < r ∧ (r : Int) < y.2 ∧ t = (stepsOf (l.take i)).length + (y.2.toNat - r) := by
        rcases h3 with ⟨h3, _⟩ | h3
        · exact absurd h3 hr
        · exact h3
      have hyx : y = x := (Option.some.inj (hx.symm.trans hy)).symm
      rw [hyx] at hr1 ht
      have q1 : (if r = 0 then x.2 else (r : Int)) = (r : Int) := if_neg hr
      have q2 : (if r = 0 then x.2.toNat else r) = r := if_neg hr
      rw [q1, q2]
      by_cases ha : (r : Int) = 1
      · rw [if_pos ha, if_pos ha]
        exact ⟨by omega, hg, .inl ⟨rfl, by rw [hl, hrn]; omega⟩⟩
      · rw [if_neg ha, if_neg ha]
        exact ⟨h1, h2, .inr ⟨x, hx, hk, by omega, by omega, by omega⟩⟩
  · rw [if_neg hk, if_neg hk]
    have hrn : repN x = 1 := by unfold repN; rw [if_neg hk]
    have ht : t = (stepsOf (l.take i)).length := by
      rcases h3 with ⟨_, h3⟩ | ⟨y, hy, hk', _⟩
      · exact h3
      · rw [hx] at hy
        injection hy with hy
        subst hy
        exact absurd hk' hk
    exact ⟨by omega, hg, .inl ⟨rfl, by rw [hl, hrn]; omega⟩⟩

theorem stepP_at (q : Int) (i r : Nat) (x : Int × Int) (h0 : x.1 ≠ 0) (h1 : x.1 = 1 → 1 ≤ x.2) : stepP x ⟨q, i, r, 1⟩ = ⟨q, ((if x.1 = 1 then (if (if r = 0 then x.2 else (r : Int)) = 1 then i + 1 else i) else i + 1 : Nat) : Int), ((if x.1 = 1 then (if (if r = 0 then x.2 else (r : Int)) = 1 then 0 else (if r = 0 then x.2.toNat else r) - 1) else 0 : Nat) : Int), 1⟩ ∨ (x.1 ≠ 1 ∧ 0 < r) := by
  by_cases hk : x.1 = 1
  · left
    have := h1 hk
    unfold stepP
    simp only [if_neg h0, if_pos hk]
    by_cases hr : r = 0
    · have q1 : (if r = 0 then x.2 else (r : Int)) = x.2 := if_pos hr
      have q2 : (if r = 0 then x.2.toNat else r) = x.2.toNat := if_pos hr
      have q3 : (if (r : Int) = 0 then x.2 else (r : Int)) = x.2 := if_pos (by omega)
      rw [q1, q2, q3]
      by_cases ha : x.2 = 1
      · simp [ha]
      · simp [ha]; omega
    · have q1 : (if r = 0 then x.2 else (r : Int)) = (r : Int) := if_neg hr
      have q2 : (if r = 0 then x.2.toNat else r) = r := if_neg hr
      have q3 : (if (r : Int) = 0 then x.2 else (r : Int)) = (r : Int) := if_neg (by omega)
      rw [q1, q2, q3]
      by_cases ha : (r : Int) = 1
      · simp [ha]
      · simp [ha]; omega
  · rcases Nat.eq_zero_or_pos r with hr | hr
    · left
      subst hr
      unfold stepP
      simp [h0, hk]
    · exact .inr ⟨hk, hr⟩
theorem ins_small (x p : Int) : (ins x p).1 = 1 → 1 ≤ (ins x p).2 ∧ (ins x p).2 ≤ 16 := by
  unfold ins
  split
  · simp
  split
  · simp
  split
  · simp; omega
  split
  · simp
  split
  · simp
  · simp; omega
theorem progs_ok (xs : List Int) : ∀ ps ∈ progsOf xs, ps.length ≤ 4096 ∧ Small ps := by
  intro ps h
  obtain ⟨p, hp, rfl⟩ := List.mem_map.1 h
  refine ⟨?_, ?_⟩
  · rw [List.length_map]
    exact (pieces_mem (xs.take 4096) (fun _ => True) (fun _ _ => trivial) (by rw [List.length_take]; omega) p hp).1
  · intro x hx
    obtain ⟨y, _, rfl⟩ := List.mem_map.1 hx
    exact ins_small _ _

set_option maxHeartbeats 2000000 in
set_option maxRecDepth 100000 in
theorem Steps_calls (A : Option Addr) (cap : Nat) (l : List (Int × Int)) (w : World) (hx : Rows encP 2 w A l) (hl : l.length ≤ 4096) (hs : Small l) :
    Calls Try.prog 52 #[.slice A l.length cap] w fun e w' => ∃ v, e = .returned v ∧ w'.ownsRow w.heap.size 48 2 v (stepsOf l).length ((stepsOf l).flatMap encP) ∧ Bw w w' := by
  have HB := Aside0.mk (Bw.refl w)
  have HX := Aside0.mk hx
  have HS := Aside0.mk hs
  clear hx hs
  go_enter Try.func52, Try.ntmps52
  go_wp2
  go_loopw [3, 4] (fun v i wr => ∃ k : Nat, k ≤ l.length ∧ i = .int .i64 k ∧ Aside0 (Goes (l.take k)) ∧ Aside0 (wr.ownsRow w.heap.size 48 2 v (stepsOf (l.take k)).length ((stepsOf (l.take k)).flatMap encP)) ∧ Aside0 (Bw w wr)) (fun _ i _ => l.length - (intOf i).toNat)
  case atStart => exact ⟨0, by omega, rfl, ⟨by simp [Goes]⟩, ⟨own_nil _ _ _ _⟩, HB⟩
  case round =>
    obtain ⟨k, hk, rfl, HG, HO, HW⟩ := hrel
    by_cases hlt : k < l.length
    · obtain ⟨x, hx⟩ : ∃ x, l[k]? = some x := ⟨_, List.getElem?_eq_getElem hlt⟩
      obtain ⟨ad, rfl, h0, hi⟩ := (HX.out.bw HW.out).atS k x hx
      have s0 := h0 _ rfl
      have s1 := hi 1 _ (by decide) rfl
      have HXk := Aside0.mk hx
      clear h0 hi hx
      by_cases hx0 : x.1 = 0
      · have e0 : (x.1 == 0) = true := by simpa using hx0
        have HE := Aside0.mk (show stepsOf l = stepsOf (l.take k) by
          have := stepsOf_app (l.take k) (x :: l.drop (k + 1)) HG.out
          rw [← take_drop l k x HXk.out] at this
          rw [this]
          simp [stepsOf, hx0])
        clear hx0
        go_wp2_with fail
        go_ret
        rw [HE.out]
        exact ⟨_, rfl, HO.out, HW.out⟩
      · have e0 : (x.1 == 0) = false := by simpa using hx0
        have HX0 := Aside0.mk hx0
        have hrp := repN_le (HS.out x (List.mem_of_getElem? HXk.out))
        have hlen := stepsOf_len (l.take k) (fun y hy => HS.out y (List.mem_of_mem_take hy))
        have hlk : (l.take k).length ≤ k := by rw [List.length_take]; omega
        have HRN := Aside0.mk (show (if x.1 = 1 then x.2 else 1) = (repN x : Int) by
          unfold repN
          split
          · have := HS.out x (List.mem_of_getElem? HXk.out) (by assumption); omega
          · rfl)
        obtain ⟨wo, hwo⟩ : ∃ wo, wo = wr := ⟨_, rfl⟩
        subst hwo
        have HO0 := HO
        have fin : ∀ (W : World) (vv : Value), W.ownsRow w.heap.size 48 2 vv ((stepsOf (l.take k)).length + repN x) ((stepsOf (l.take k) ++ List.replicate (repN x) x).flatMap encP) → W.ownsRow w.heap.size 48 2 vv (stepsOf (l.take (k + 1))).length ((stepsOf (l.take (k + 1))).flatMap encP) := by
          intro W vv h
          have e1 : l.take (k + 1) = l.take k ++ [x] := by rw [List.take_add_one, HXk.out]; rfl
          rw [e1, stepsOf_app _ _ HG.out, stepsOf_one x HX0.out, List.length_append, List.length_replicate]
          exact h
        have gok : Goes (l.take (k + 1)) := by
          have e1 : l.take (k + 1) = l.take k ++ [x] := by rw [List.take_add_one, HXk.out]; rfl
          rw [e1]
          intro y hy
          rcases List.mem_append.1 hy with hy | hy
          · exact HG.out y hy
          · rw [List.mem_singleton.1 hy]; exact HX0.out
        have FIN := Aside0.mk fin
        have GOK := Aside0.mk gok
        clear fin gok
        by_cases hk1 : x.1 = 1
        · have e1 : (x.1 == 1) = true := by simpa using hk1
          have HN := Aside0.mk (show x.2 = (repN x : Int) by have := HRN.out; rw [if_pos hk1] at this; exact this)
          rw [HN.out] at s1
          clear hk1 hx0
          go_wp2_with fail
          go_loopw [3, 6] (fun v i wr => ∃ q : Nat, q ≤ repN x ∧ i = .int .i64 q ∧ Aside0 (wr.ownsRow w.heap.size 48 2 v ((stepsOf (l.take k)).length + q) ((stepsOf (l.take k) ++ List.replicate q x).flatMap encP)) ∧ Aside0 (Bw w wr)) (fun _ i _ => repN x - (intOf i).toNat)
          case atStart => exact ⟨0, by omega, rfl, ⟨by simpa using HO.out⟩, HW⟩
          case round =>
            obtain ⟨q, hq, rfl, HOq, HWq⟩ := hrel
            by_cases hql : q < repN x
            · obtain ⟨ad', hee, h0, hi⟩ := (HX.out.bw HWq.out).atS k x HXk.out
              injection hee with hee
              subst hee
              have s0 := h0 _ rfl
              have s1 := hi 1 _ (by decide) rfl
              clear h0 hi
              go_wp2_with (at_builtin; refine print_append_cells (w0 := w) w.heap.size rfl (.tmp 36) (.tmp 41) 51 48 (.agg #[.int .i64 0, .int .i64 0]) 2 16 rfl Try.underlying51 infoIn rfl (by omega) (by omega) _ ((stepsOf (l.take k)).length + q) _ [.int .i64 x.1, .int .i64 x.2] rfl rfl rfl (by simp [Value.oneCell']) HOq.out HWq.out HWq.out.size (by omega) ?_; intro v1 w2 hown2 hbel2 hg2 hat2)
              have HO2 := Aside0.mk hown2
              have HW2 := Aside0.mk hbel2
              clear hown2 hbel2 hg2 hat2
              go_roundw
              case rel =>
                refine ⟨q + 1, by omega, by go_num, ⟨?_⟩, HW2⟩
                have := HO2.out
                rw [List.replicate_succ', ← List.append_assoc, List.flatMap_append, List.flatMap_singleton]
                exact this
              case measure => simp [intOf]; omega
            · obtain rfl : q = repN x := by omega
              go_wp2_with fail
              go_roundw
              case rel => exact ⟨k + 1, by omega, by go_num, GOK, ⟨FIN.out _ _ HOq.out⟩, HWq⟩
              case measure => simp [intOf]; omega
        · have e1 : (x.1 == 1) = false := by simpa using hk1
          have HN := Aside0.mk (show repN x = 1 by unfold repN; rw [if_neg hk1])
          clear hk1 hx0
          go_wp2_with fail
          go_loopw [3, 6] (fun v i wr => ∃ q : Nat, q ≤ 1 ∧ i = .int .i64 q ∧ Aside0 (wr.ownsRow w.heap.size 48 2 v ((stepsOf (l.take k)).length + q) ((stepsOf (l.take k) ++ List.replicate q x).flatMap encP)) ∧ Aside0 (Bw w wr)) (fun _ i _ => 1 - (intOf i).toNat)
          case atStart => exact ⟨0, by omega, rfl, ⟨by simpa using HO.out⟩, HW⟩
          case round =>
            obtain ⟨q, hq, rfl, HOq, HWq⟩ := hrel
            by_cases hql : q < 1
            · obtain ⟨ad', hee, h0, hi⟩ := (HX.out.bw HWq.out).atS k x HXk.out
              injection hee with hee
              subst hee
              have s0 := h0 _ rfl
              have s1 := hi 1 _ (by decide) rfl
              clear h0 hi
              go_wp2_with (at_builtin; refine print_append_cells (w0 := w) w.heap.size rfl (.tmp 36) (.tmp 41) 51 48 (.agg #[.int .i64 0, .int .i64 0]) 2 16 rfl Try.underlying51 infoIn rfl (by omega) (by omega) _ ((stepsOf (l.take k)).length + q) _ [.int .i64 x.1, .int .i64 x.2] rfl rfl rfl (by simp [Value.oneCell']) HOq.out HWq.out HWq.out.size (by omega) ?_; intro v1 w2 hown2 hbel2 hg2 hat2)
              have HO2 := Aside0.mk hown2
              have HW2 := Aside0.mk hbel2
              clear hown2 hbel2 hg2 hat2
              go_roundw
              case rel =>
                refine ⟨q + 1, by omega, by go_num, ⟨?_⟩, HW2⟩
                have := HO2.out
                rw [List.replicate_succ', ← List.append_assoc, List.flatMap_append, List.flatMap_singleton]
                exact this
              case measure => simp [intOf]; omega
            · obtain rfl : q = 1 := by omega
              go_wp2_with fail
              go_roundw
              case rel => exact ⟨k + 1, by omega, by go_num, GOK, ⟨FIN.out _ _ (by rw [HN.out]; exact HOq.out)⟩, HWq⟩
              case measure => simp [intOf]; omega
    · obtain rfl : k = l.length := by omega
      go_wp2_with fail
      go_ret
      have := HO.out
      rw [List.take_length] at this
      exact ⟨_, rfl, this, HW.out⟩
end Go.Proofs.Ytclippikdfcgkaa.M
