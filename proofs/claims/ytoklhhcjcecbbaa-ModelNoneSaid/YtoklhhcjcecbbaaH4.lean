/- Programs (package code): what Read answers. Conditions: the words are of their kind, no more than 5,000. -/
import Derived.Test.YtoklhhcjcecbbaaH3
import Derived.Test.YtoklhhcjcecbbaaMt0
namespace Go.Proofs.Ytoklhhcjcecbbaa.M
open Go.RowKit Go.Proofs.YtoklhhcjcecbbaaW.PrintWords Go.Proofs.YtoklhhcjcecbbaaW.PrintLast Go.Proofs.YtoklhhcjcecbbaaW.PrintMore
attribute [local go_sem] min2_int min_two
set_option linter.unusedVariables false
set_option linter.unusedSimpArgs false

theorem infoIn : (Try.prog.info? 66).map (fun i => (i.zero, i.size, i.bytes)) = some (some (.agg #[.int .i64 0, .int .i64 0]), 2, 16) := by kernel_rfl
theorem infoIns : (Try.prog.info? 115).map (fun i => (i.zero, i.size, i.bytes)) = some (some (.slice none 0 0), 1, 24) := by kernel_rfl

/-- The programs of words. -/
def progsOf (xs : List Int) : List (List (Int × Int)) := (pieces (xs.take 4096)).map fun p => p.map fun x => ins x (pieces (xs.take 4096)).length
/-- Programs: one's block, and its rows. -/
structure IsCode (w : World) (base b : Nat) (v : Value) (us : List Value) (pss : List (List (Int × Int))) : Prop where
  le : base ≤ b
  blk : Blk w b #[v] 114
  out : w.ownsRow base 115 1 v us.length us
  nest : Nest w base 66 encP 2 us pss
theorem IsCode.bw {w w1 : World} {base b : Nat} {v : Value} {us : List Value} {pss : List (List (Int × Int))} (h : IsCode w base b v us pss) (hb : Bw w w1) : IsCode w1 base b v us pss :=
  ⟨h.le, h.blk.bw hb, pw_own_below h.out hb, h.nest.bw hb⟩
theorem Rows.take {α : Type} {enc : α → List Value} {sz : Nat} {w : World} {A : Option Addr} {xs : List α} (h : Rows enc sz w A xs) (m : Nat) : Rows enc sz w A (xs.take m) :=
  ⟨by have := h.1; rw [List.length_take]; omega, fun hn => by
    obtain ⟨ad, e, hc⟩ := h.2 (by rintro rfl; simp at hn)
    refine ⟨ad, e, fun j x hj i v hv => hc j x ?_ i v hv⟩
    rw [List.getElem?_take] at hj
    split at hj
    · exact hj
    · simp at hj⟩

theorem runW_mem (P : Int → Prop) (xs : List Int) (h : ∀ x ∈ xs, P x) : (∀ p ∈ (runW xs).1, ∀ x ∈ p, P x) ∧ ∀ x ∈ (runW xs).2, P x := by
  revert h
  refine snoc_ind (P := fun xs => (∀ x ∈ xs, P x) → (∀ p ∈ (runW xs).1, ∀ x ∈ p, P x) ∧ ∀ x ∈ (runW xs).2, P x) (by simp [runW]) ?_ xs
  intro xs x ih h
  obtain ⟨h1, h2⟩ := ih fun y hy => h y (List.mem_append_left _ hy)
  rw [runW_snoc]
  unfold stepW
  split
  · refine ⟨fun p hp => ?_, by simp⟩
    rcases List.mem_append.1 hp with hp | hp
    · exact h1 p hp
    · obtain rfl := List.mem_singleton.1 hp; exact h2
  · refine ⟨h1, fun y hy => ?_⟩
    rcases List.mem_append.1 hy with hy | hy
    · exact h2 y hy
    · obtain rfl := List.mem_singleton.1 hy; exact h y (by simp)
theorem pieces_mem (xs : List Int) (P : Int → Prop) (h : ∀ x ∈ xs, P x) (hl : xs.length ≤ 4096) : ∀ p ∈ pieces xs, p.length ≤ 4096 ∧ ∀ x ∈ p, P x := by
  intro p hp
  have h1 := runW_mem P xs h
  have h2 := runW_len xs
  rcases List.mem_append.1 hp with hp | hp
  · have := h2.2.2 p hp
    exact ⟨by omega, h1.1 p hp⟩
  · obtain rfl := List.mem_singleton.1 hp
    exact ⟨by omega, h1.2⟩
set_option maxHeartbeats 4000000 in
set_option maxRecDepth 100000 in
theorem Read_calls' (A : Option Addr) (cap m : Nat) (xs : List Int) (w : World) (hx : Rows encU 1 w A xs) (hm : m ≤ xs.length ∧ m ≤ 4096) (hm' : (if (4096:Int) < (xs.length:Int) then (4096:Int) else (xs.length:Int)) = (m:Int)) (hcap : xs.length ≤ cap) (hr : ∀ x ∈ xs, 0 ≤ x ∧ x < 18446744073709551616) :
    Calls Try.prog 25 #[.slice A xs.length cap] w fun e w' => ∃ b v us, e = .returned (.pointer (some ⟨b, 0, none⟩)) ∧ IsCode w' w.heap.size b v us (progsOf xs) ∧ Bw w w' := by
  have HB := Aside0.mk (Bw.refl w)
  have HX := Aside0.mk hx
  have HR := Aside0.mk hr
  obtain ⟨m1, m2⟩ := hm
  clear hx hr
  obtain ⟨ys, hys⟩ : ∃ ys, ys = xs.take 4096 := ⟨_, rfl⟩
  have hml : m = ys.length := by rw [hys, List.length_take]; split at hm' <;> omega
  have HY := Aside0.mk (show Rows encU 1 w A ys by rw [hys]; exact HX.out.take 4096)
  have HYR := Aside0.mk (show ∀ x ∈ ys, 0 ≤ x ∧ x < 18446744073709551616 by rw [hys]; exact fun x hx => HR.out x (List.mem_of_mem_take hx))
  have HG : Aside0 (progsOf xs = (pieces ys).map fun p => p.map fun x => ins x (pieces ys).length) := ⟨by rw [hys]; rfl⟩
  have HYL := Aside0.mk (show ys.length ≤ 4096 by omega)
  have hpl := Aside0.mk (runW_len ys)
  have hyr : ∀ p ∈ pieces ys, p.length ≤ 4096 ∧ ∀ x ∈ p, 0 ≤ x ∧ x < 18446744073709551616 := pieces_mem ys _ HYR.out HYL.out
  have HPM := Aside0.mk hyr
  have hpn : (pieces ys).length ≤ 4097 := by
    have := hpl.out.1
    have := HYL.out
    unfold pieces
    simp
    omega
  have HML := Aside0.mk hml
  clear hys hml hyr
  go_enter Try.func25, Try.ntmps25
  go_wp2_with fail
  rw [show m = ys.length from HML.out]
  refine (parts_calls A cap ys w HY.out (by have := HYL.out; omega) HYR.out).mono ?_
  rintro e w1 ⟨A', c', rfl, hr2, hb1⟩
  obtain ⟨pp, hpp⟩ : ∃ pp, pp = pieces ys := ⟨_, rfl⟩
  rw [← hpp] at hr2 HG HPM hpn ⊢
  have HP2 := Aside0.mk hr2
  have HB1 := Aside0.mk hb1
  clear hr2 hpp
  go_wp2_with fail
  go_loopw [23] (fun i wr => ∃ (k : Nat) (v : Value) (us : List Value), k ≤ pp.length ∧ i = .int .i64 k ∧ Aside0 (Blk wr w1.heap.size #[v] 114) ∧ Aside0 (wr.ownsRow w1.heap.size 115 1 v us.length us)
    ∧ Aside0 (Nest wr w1.heap.size 66 encP 2 us ((pp.take k).map fun p => p.map fun x => ins x (pp.length : Int))) ∧ Aside0 (Bw w1 wr)) (fun i _ => pp.length - (intOf i).toNat)
  case atStart =>
    exact ⟨0, _, [], by omega, rfl, ⟨Blk.new w1 _ _⟩, ⟨own_nil _ _ _ _⟩, ⟨Nest.nil _ _⟩, ⟨(Bw.refl w1).alloc _⟩⟩
  case round =>
    obtain ⟨k, v, us, hk, rfl, HC, HO, HI, HW⟩ := hrel
    by_cases hlt : k < pp.length
    · obtain ⟨p, hp⟩ : ∃ p, pp[k]? = some p := ⟨_, List.getElem?_eq_getElem hlt⟩
      have HPK := Aside0.mk hp
      have hpm := HPM.out p (List.mem_of_getElem? hp)
      have hp1 := hpm.1
      have HPX := Aside0.mk hpm.2
      obtain ⟨ad, B, c2, rfl, hck, hrow⟩ := (HP2.out.bw HW.out).at_ k p hp
      have HRow := Aside0.mk hrow
      obtain ⟨A3, c3, rfl⟩ := own_slice HO.out
      have huk : us.length = k := by have := HI.out.1; rw [List.length_map, List.length_take] at this; omega
      have HUK := Aside0.mk huk
      clear hp hpm hrow huk
      obtain ⟨wo, hwo⟩ : ∃ wo, wo = wr := ⟨_, rfl⟩
      subst hwo
      go_wp2_with fail
      go_loopw [7, 29] (fun l i wr2 => ∃ (k2 : Nat), k2 ≤ p.length ∧ i = .int .i64 k2 ∧ Aside0 (wr2.ownsRow wo.heap.size 66 2 l k2 (((p.take k2).map fun x => ins x (pp.length : Int)).flatMap encP)) ∧ Aside0 (Bw wo wr2)) (fun _ i _ => p.length - (intOf i).toNat)
      case atStart => exact ⟨0, by omega, rfl, ⟨by simpa using own_nil wo _ _ _⟩, ⟨Bw.refl wo⟩⟩
      case round =>
        obtain ⟨k2, hk2, rfl, HL, HW2⟩ := hrel
        by_cases hlt2 : k2 < p.length
        · obtain ⟨y, hy⟩ : ∃ y, p[k2]? = some y := ⟨_, List.getElem?_eq_getElem hlt2⟩
          have HY2 := Aside0.mk hy
          have hyr := HPX.out y (List.mem_of_getElem? hy)
          have y0 := hyr.1
          have y1 := hyr.2
          obtain ⟨ad2, rfl, hck2⟩ := (HRow.out.bw HW2.out).at1 k2 y hy
          clear hy hyr
          go_wp2_with fail
          refine (Instr_calls y (pp.length : Int) y0 y1 (by omega) _).mono ?_
          rintro e w3 ⟨rfl, hb3⟩
          have HL3 := Aside0.mk (pw_own_below (pw_own_below HL.out hb3) ((Bw.refl w3).alloc (.cells #[.int .i64 (ins y (pp.length : Int)).1, .int .i64 (ins y (pp.length : Int)).2] 66)))
          have hsz : ∀ o, (w3.alloc o).heap.size = w3.heap.size + 1 := fun o => by simp
          have HW3 := Aside0.mk ((HW2.out.trans hb3).alloc (.cells #[.int .i64 (ins y (pp.length : Int)).1, .int .i64 (ins y (pp.length : Int)).2] 66))
          go_wp2_with (at_builtin; go_loud (refine print_append_cells (w0 := wo) wo.heap.size rfl (.tmp 40) (.tmp 42) 115 66 (.agg #[.int .i64 0, .int .i64 0]) 2 16 rfl Try.underlying115 infoIn rfl (by omega) (by omega) u7 k2 _ [.int .i64 (ins y (pp.length : Int)).1, .int .i64 (ins y (pp.length : Int)).2] rfl (by rw [hsz]; rfl) rfl (by simp [Value.oneCell']) HL3.out HW3.out HW3.out.size (by omega) ?_); intro v1 w4 hown4 hbel4 hg4 hat4)
          have HL4 := Aside0.mk hown4
          clear hown4 hg4 hat4
          go_roundw
          case rel =>
            refine ⟨k2 + 1, by omega, by go_num, ⟨?_⟩, ⟨hbel4⟩⟩
            have e : p.take (k2 + 1) = p.take k2 ++ [y] := by rw [List.take_add_one, HY2.out]; rfl
            rw [e, List.map_append, List.flatMap_append]
            exact HL4.out
          case measure => simp [intOf]; omega
        · obtain rfl : k2 = p.length := by omega
          have HC2 := Aside0.mk (HC.out.bw HW2.out)
          have HO2 := Aside0.mk (pw_own_below HO.out HW2.out)
          have HI2 := Aside0.mk (HI.out.bw HW2.out)
          have HW3 := Aside0.mk (HW.out.trans HW2.out)
          have HL2 := Aside0.mk (own_weaken HL.out HW.out.size)
          obtain ⟨A4, c4, rfl⟩ := own_slice HL.out
          have cc := HC2.out.cell 0 _ rfl
          go_wp2_with (at_builtin; refine print_append_cells (w0 := w1) w1.heap.size rfl (.tmp 49) (.tmp 51) 112 115 (.slice none 0 0) 1 24 rfl Try.underlying112 infoIns rfl (by omega) (by omega) (.slice A3 us.length c3) us.length _ [.slice A4 p.length c4] rfl rfl rfl (by simp [Value.oneCell']) HO2.out HW3.out HW3.out.size (by have := HUK.out; omega) ?_; intro v1 w4 hown4 hbel4 hg4 hat4; obtain ⟨g3, cap3, rfl, hg31, hg32⟩ := hown4.form (by omega); have HC4 := Aside0.mk (HC2.out.of_block (hg4.block _ HC2.out.lt (own_ne HO2.out HC2.out (by decide)))); have fr := HC4.out.free 0; have c4' := HC4.out.cell 0 _ rfl; have HI4 := Aside0.mk ((HI2.out.push (ps := p.map fun x => ins x (pp.length : Int)) (by have := HL2.out; rw [List.take_length] at this; simpa using this)).grown hg4 ((HI2.out.push (ps := p.map fun x => ins x (pp.length : Int)) (by have := HL2.out; rw [List.take_length] at this; simpa using this)).ty HO2.out (by decide))); have HO4 := Aside0.mk hown4; clear hown4 hg4 hat4)
          have hlt4 : w1.heap.size < w4.heap.size := HC4.out.lt
          go_roundw
          case rel =>
            have n1 : w1.heap.size ≠ g3 := by
              have := own_ne HO4.out HC4.out (by decide)
              intro e
              rw [e] at this
              exact this rfl
            refine ⟨k + 1, _, us ++ [.slice A4 p.length c4], by omega, by go_num, ⟨HC4.out.set 0 _⟩, ⟨?_⟩, ⟨?_⟩, ⟨Bw.setCell hbel4 (Nat.le_refl _) _⟩⟩
            · have := own_setCell (p := ⟨w1.heap.size, 0, none⟩) HO4.out (own_ne HO4.out HC4.out (by decide)) (.slice (some ⟨g3, 0, none⟩) (us.length + 1) cap3)
              simpa using this
            · have e : pp.take (k + 1) = pp.take k ++ [p] := by rw [List.take_add_one, HPK.out]; rfl
              rw [e, List.map_append]
              exact HI4.out.setCell (fun u hu => by
                obtain ⟨ps, hq⟩ := HI4.out.mem hu
                exact own_ne hq HC4.out (by decide)) _
          case measure => simp [intOf]; omega
    · obtain rfl : k = pp.length := by omega
      go_wp2
      go_ret
      refine ⟨_, _, us, rfl, ⟨HB1.out.size, HC.out, own_weaken HO.out HB1.out.size, ?_⟩, HB1.out.trans HW.out⟩
      have := HI.out
      rw [List.take_length, ← HG.out] at this
      exact this.weaken HB1.out.size
end Go.Proofs.Ytoklhhcjcecbbaa.M
