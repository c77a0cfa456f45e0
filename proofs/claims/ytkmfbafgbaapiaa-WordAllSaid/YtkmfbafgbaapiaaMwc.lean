/- What All and Count of package word answer. Conditions: the arguments are of their kinds and sizes. -/
import Derived.Test.YtkmfbafgbaapiaaMwm
import Derived.Test.YtkmfbafgbaapiaaMs
namespace Go.Proofs.Ytkmfbafgbaapiaa.M
open Go.RowKit Go.Proofs.YtkmfbafgbaapiaaW.PrintWords Go.Proofs.YtkmfbafgbaapiaaW.PrintLast Go.Proofs.YtkmfbafgbaapiaaW.PrintMore
set_option linter.unusedVariables false
set_option linter.unusedSimpArgs false

abbrev encI (k : IntKind) : Int → List Value := fun x => [.int k x]
abbrev encE : Int × Int → List Value := fun p => [.int .i64 p.1, .int .i64 p.2]
def rEnt (n : Int) (x : Int) : Int × Int := (rKind x, rWho x n)
theorem infoE : (Try.prog.info? 27).map (fun i => (i.zero, i.size, i.bytes)) = some (some (.agg #[.int .i64 0, .int .i64 0]), 2, 16) := by kernel_rfl

set_option maxHeartbeats 1000000 in
theorem All_calls (A : Option Addr) (cap : Nat) (xs : List Int) (n : Int) (w : World) (hx : Rows (encI .u64) 1 w A xs) (hs : xs.length ≤ 1000) (hr : ∀ x ∈ xs, 0 ≤ x ∧ x < 18446744073709551616) :
    Calls Try.prog 23 #[.slice A xs.length cap, .int .i64 n] w fun e w' => ∃ v, e = .returned v ∧ w'.ownsRow w.heap.size 27 2 v xs.length ((xs.map (rEnt n)).flatMap encE) ∧ Bw w w' := by
  have HB := Aside0.mk (Bw.refl w)
  have HX := Aside0.mk hx
  have HR := Aside0.mk hr
  clear hx hr
  go_enter Try.func23, Try.ntmps23
  go_wp2
  go_loopw [5, 10] (fun v i wr => ∃ k : Nat, k ≤ xs.length ∧ i = .int .i64 k ∧ Aside0 (wr.ownsRow w.heap.size 27 2 v k (((xs.take k).map (rEnt n)).flatMap encE)) ∧ Aside0 (Bw w wr)) (fun _ i _ => xs.length - (intOf i).toNat)
  case atStart => exact ⟨0, by omega, rfl, ⟨by simpa using own_nil w _ _ _⟩, HB⟩
  case round =>
    obtain ⟨k, hk, rfl, HO, HW⟩ := hrel
    by_cases hlt : k < xs.length
    · obtain ⟨y, hy⟩ : ∃ y, xs[k]? = some y := ⟨_, List.getElem?_eq_getElem hlt⟩
      have HY := Aside0.mk hy
      have hyr := HR.out y (List.mem_of_getElem? hy)
      have y0 := hyr.1
      have y1 := hyr.2
      obtain ⟨ad, rfl, hck⟩ := (HX.out.bw HW.out).at1 k y hy
      clear hy hyr
      go_wp2_with fail
      refine (Read_agg y n y0 y1 _).mono ?_
      rintro e w1 ⟨rfl, hb1⟩
      have HO1 := Aside0.mk (pw_own_below HO.out hb1)
      have HW1 := Aside0.mk (HW.out.trans hb1)
      go_wp2_with (at_builtin; go_loud (refine print_append_cells (w0 := w) w.heap.size rfl (.tmp 14) (.tmp 18) 36 27 (.agg #[.int .i64 0, .int .i64 0]) 2 16 rfl Try.underlying36 infoE rfl (by omega) (by omega) u5 k _ [.int .i64 (rKind y), .int .i64 (rWho y n)] rfl rfl rfl (by simp [Value.oneCell']) HO1.out HW1.out HW1.out.size (by omega) ?_); intro v1 w2 hown2 hbel2 hg2 hat2)
      have HO2 := Aside0.mk hown2
      clear hown2 hg2 hat2
      go_roundw
      case rel =>
        refine ⟨k + 1, by omega, by go_num, ⟨?_⟩, ⟨hbel2⟩⟩
        have e : xs.take (k + 1) = xs.take k ++ [y] := by rw [List.take_add_one, HY.out]; rfl
        rw [e, List.map_append, List.flatMap_append]
        exact HO2.out
      case measure => simp [intOf]; omega
    · obtain rfl : k = xs.length := by omega
      go_wp2
      go_ret
      refine ⟨_, rfl, ?_, HW.out⟩
      have := HO.out
      rw [List.take_length] at this
      exact this

/-- How many entries are of each kind. -/
def cnt (l : List (Int × Int)) (k : Int) : Int := ((l.filter fun p => if k = 0 then decide (p.1 < 1 ∨ 4 < p.1) else p.1 == k).length : Int)
theorem cnt_range (l : List (Int × Int)) (k : Int) : 0 ≤ cnt l k ∧ cnt l k ≤ l.length := ⟨by unfold cnt; omega, by have := List.length_filter_le (fun p : Int × Int => if k = 0 then decide (p.1 < 1 ∨ 4 < p.1) else p.1 == k) l; unfold cnt; omega⟩
theorem cnt_snoc (l : List (Int × Int)) (p : Int × Int) (k : Int) : cnt (l ++ [p]) k = cnt l k + if (if k = 0 then decide (p.1 < 1 ∨ 4 < p.1) else p.1 == k) = true then 1 else 0 := by
  unfold cnt
  rw [List.filter_append, List.length_append, List.filter_cons]
  split <;> simp <;> split <;> simp
def cntV (l : List (Int × Int)) : Array Value := #[.int .i64 (cnt l 0), .int .i64 (cnt l 1), .int .i64 (cnt l 2), .int .i64 (cnt l 3), .int .i64 (cnt l 4)]

set_option maxHeartbeats 2000000 in
theorem Count_calls (A : Option Addr) (cap : Nat) (xs : List (Int × Int)) (w : World) (hx : Rows encE 2 w A xs) (hs : xs.length ≤ 1000) :
    Calls Try.prog 24 #[.slice A xs.length cap] w fun e w' => e = .returned (.agg (cntV xs)) ∧ Bw w w' := by
  have HB := Aside0.mk (Bw.refl w)
  have HX := Aside0.mk hx
  clear hx
  go_enter Try.func24, Try.ntmps24
  go_wp2
  go_loopw [8] (fun i wr => ∃ k : Nat, k ≤ xs.length ∧ i = .int .i64 k ∧ Aside0 (Blk wr w.heap.size #[.int .i64 0, .int .i64 0, .int .i64 0, .int .i64 0, .int .i64 0] 38) ∧ Aside0 (Blk wr (w.heap.size + 1) (cntV (xs.take k)) 38) ∧ Aside0 (Bw w wr)) (fun i _ => xs.length - (intOf i).toNat)
  case atStart => exact ⟨0, by omega, rfl, ⟨(Blk.new w _ _).alloc _⟩, ⟨by simpa [cntV, cnt] using Blk.new (w.alloc _) _ _⟩, ⟨(HB.out.alloc _).alloc _⟩⟩
  case round =>
    obtain ⟨k, hk, rfl, HR, HC, HW⟩ := hrel
    have hz := HC.out.lt
    by_cases hlt : k < xs.length
    · obtain ⟨⟨q, h⟩, hy⟩ : ∃ y, xs[k]? = some y := ⟨_, List.getElem?_eq_getElem hlt⟩
      have HY := Aside0.mk hy
      obtain ⟨ad, rfl, hc, hd⟩ := (HX.out.bw HW.out).atS k _ hy
      have hc0 := hc (.int .i64 q) rfl
      have hc1 := hd 1 (.int .i64 h) (by omega) rfl
      clear hy hc hd
      have hl : (xs.take k).length ≤ 1000 := by rw [List.length_take]; omega
      have e1 : xs.take (k + 1) = xs.take k ++ [(q, h)] := by rw [List.take_add_one, HY.out]; rfl
      have hr : ∀ i, 0 ≤ cnt (xs.take k) i ∧ cnt (xs.take k) i ≤ 1000 := fun i => by have := cnt_range (xs.take k) i; omega
      have HE := Aside0.mk e1
      clear e1
      by_cases hq : codeOf q < 0
      · have hq' : q < 1 ∨ 4 < q := by
          apply Classical.byContradiction
          intro hn
          have : q = 1 ∨ q = 2 ∨ q = 3 ∨ q = 4 := by omega
          rcases this with rfl | rfl | rfl | rfl <;> simp [codeOf] at hq
        have HV := Aside0.mk (show cntV (xs.take (k + 1)) = (cntV (xs.take k)).setIfInBounds 0 (.int .i64 (cnt (xs.take k) 0 + 1)) by
          rw [HE.out]
          simp [cntV, cnt_snoc, hq', show ¬ q = 1 by omega, show ¬ q = 2 by omega, show ¬ q = 3 by omega, show ¬ q = 4 by omega])
        have d1 : decide (codeOf q < 0) = true := by simpa using hq
        have b0 := (hr 0).1
        have b1 := (hr 0).2
        clear hq hq' hr
        go_wp2_with fail
        refine (codeOf_calls _ _).mono ?_
        rintro e w1 ⟨rfl, hb1⟩
        have C1 := (HC.out.alloc _).bw hb1
        have R1 := (HR.out.alloc _).bw hb1
        have HW1 := Aside0.mk ((HW.out.alloc _).trans hb1)
        have f0 := C1.free 0
        have c0 := C1.cell 0 (.int .i64 (cnt (xs.take k) 0)) rfl
        go_wp2_with fail
        go_roundw
        case rel =>
          refine ⟨k + 1, by omega, by go_num, ⟨R1.other _ _ (by simp)⟩, ⟨?_⟩, ⟨HW1.out.setCell (by simp) _⟩⟩
          rw [HV.out]
          exact C1.set 0 _
        case measure => simp [intOf]; omega
      · have hq' : q = 1 ∨ q = 2 ∨ q = 3 ∨ q = 4 := by
          apply Classical.byContradiction
          intro hn
          apply hq
          simp [codeOf, show ¬ q = 1 by omega, show ¬ q = 2 by omega, show ¬ q = 3 by omega, show ¬ q = 4 by omega]
        clear hq
        rcases hq' with rfl | rfl | rfl | rfl
        · have HV := Aside0.mk (show cntV (xs.take (k + 1)) = (cntV (xs.take k)).setIfInBounds 1 (.int .i64 (cnt (xs.take k) 1 + 1)) by
            rw [HE.out]; simp [cntV, cnt_snoc])
          have b0 := (hr 1).1
          have b1 := (hr 1).2
          clear hr
          go_wp2_with fail
          refine (codeOf_calls _ _).mono ?_
          rintro e w1 ⟨rfl, hb1⟩
          rw [show codeOf 1 = 0 from rfl]
          have C1 := (HC.out.alloc _).bw hb1
          have R1 := (HR.out.alloc _).bw hb1
          have E1 := (Blk.new wr _ _).bw hb1
          have HW1 := Aside0.mk ((HW.out.alloc _).trans hb1)
          have g0 := E1.cell 0 (.int .i64 1) rfl
          have f0 := C1.free 1
          have c0 := C1.cell 1 (.int .i64 (cnt (xs.take k) 1)) rfl
          go_wp2_with fail
          go_roundw
          case rel =>
            refine ⟨k + 1, by omega, by go_num, ⟨R1.other _ _ (by simp)⟩, ⟨?_⟩, ⟨HW1.out.setCell (by simp) _⟩⟩
            rw [HV.out]
            exact C1.set 1 _
          case measure => simp [intOf]; omega
        · have HV := Aside0.mk (show cntV (xs.take (k + 1)) = (cntV (xs.take k)).setIfInBounds 2 (.int .i64 (cnt (xs.take k) 2 + 1)) by
            rw [HE.out]; simp [cntV, cnt_snoc])
          have b0 := (hr 2).1
          have b1 := (hr 2).2
          clear hr
          go_wp2_with fail
          refine (codeOf_calls _ _).mono ?_
          rintro e w1 ⟨rfl, hb1⟩
          rw [show codeOf 2 = 4 from rfl]
          have C1 := (HC.out.alloc _).bw hb1
          have R1 := (HR.out.alloc _).bw hb1
          have E1 := (Blk.new wr _ _).bw hb1
          have HW1 := Aside0.mk ((HW.out.alloc _).trans hb1)
          have g0 := E1.cell 0 (.int .i64 2) rfl
          have f0 := C1.free 2
          have c0 := C1.cell 2 (.int .i64 (cnt (xs.take k) 2)) rfl
          go_wp2_with fail
          go_roundw
          case rel =>
            refine ⟨k + 1, by omega, by go_num, ⟨R1.other _ _ (by simp)⟩, ⟨?_⟩, ⟨HW1.out.setCell (by simp) _⟩⟩
            rw [HV.out]
            exact C1.set 2 _
          case measure => simp [intOf]; omega
        · have HV := Aside0.mk (show cntV (xs.take (k + 1)) = (cntV (xs.take k)).setIfInBounds 3 (.int .i64 (cnt (xs.take k) 3 + 1)) by
            rw [HE.out]; simp [cntV, cnt_snoc])
          have b0 := (hr 3).1
          have b1 := (hr 3).2
          clear hr
          go_wp2_with fail
          refine (codeOf_calls _ _).mono ?_
          rintro e w1 ⟨rfl, hb1⟩
          rw [show codeOf 3 = 5 from rfl]
          have C1 := (HC.out.alloc _).bw hb1
          have R1 := (HR.out.alloc _).bw hb1
          have E1 := (Blk.new wr _ _).bw hb1
          have HW1 := Aside0.mk ((HW.out.alloc _).trans hb1)
          have g0 := E1.cell 0 (.int .i64 3) rfl
          have f0 := C1.free 3
          have c0 := C1.cell 3 (.int .i64 (cnt (xs.take k) 3)) rfl
          go_wp2_with fail
          go_roundw
          case rel =>
            refine ⟨k + 1, by omega, by go_num, ⟨R1.other _ _ (by simp)⟩, ⟨?_⟩, ⟨HW1.out.setCell (by simp) _⟩⟩
            rw [HV.out]
            exact C1.set 3 _
          case measure => simp [intOf]; omega
        · have HV := Aside0.mk (show cntV (xs.take (k + 1)) = (cntV (xs.take k)).setIfInBounds 4 (.int .i64 (cnt (xs.take k) 4 + 1)) by
            rw [HE.out]; simp [cntV, cnt_snoc])
          have b0 := (hr 4).1
          have b1 := (hr 4).2
          clear hr
          go_wp2_with fail
          refine (codeOf_calls _ _).mono ?_
          rintro e w1 ⟨rfl, hb1⟩
          rw [show codeOf 4 = 6 from rfl]
          have C1 := (HC.out.alloc _).bw hb1
          have R1 := (HR.out.alloc _).bw hb1
          have E1 := (Blk.new wr _ _).bw hb1
          have HW1 := Aside0.mk ((HW.out.alloc _).trans hb1)
          have g0 := E1.cell 0 (.int .i64 4) rfl
          have f0 := C1.free 4
          have c0 := C1.cell 4 (.int .i64 (cnt (xs.take k) 4)) rfl
          go_wp2_with fail
          go_roundw
          case rel =>
            refine ⟨k + 1, by omega, by go_num, ⟨R1.other _ _ (by simp)⟩, ⟨?_⟩, ⟨HW1.out.setCell (by simp) _⟩⟩
            rw [HV.out]
            exact C1.set 4 _
          case measure => simp [intOf]; omega
    · obtain rfl : k = xs.length := by omega
      have HF := HC.out
      rw [List.take_length] at HF
      have c0 := HF.cell 0 (.int .i64 (cnt xs 0)) rfl
      have c1 := HF.cell 1 (.int .i64 (cnt xs 1)) rfl
      have c2 := HF.cell 2 (.int .i64 (cnt xs 2)) rfl
      have c3 := HF.cell 3 (.int .i64 (cnt xs 3)) rfl
      have c4 := HF.cell 4 (.int .i64 (cnt xs 4)) rfl
      have f0 := HR.out.free 0
      have f1 := HR.out.free 1
      have f2 := HR.out.free 2
      have f3 := HR.out.free 3
      have f4 := HR.out.free 4
      have r0 := HR.out.cell 0 (.int .i64 0) rfl
      have r1 := HR.out.cell 1 (.int .i64 0) rfl
      have r2 := HR.out.cell 2 (.int .i64 0) rfl
      have r3 := HR.out.cell 3 (.int .i64 0) rfl
      have r4 := HR.out.cell 4 (.int .i64 0) rfl
      go_wp2_with fail
      refine bodyPost_ret (v := .agg (cntV xs)) ?_ rfl ⟨rfl, ((((HW.out.setCell (Nat.le_refl _) _).setCell (Nat.le_refl _) _).setCell (Nat.le_refl _) _).setCell (Nat.le_refl _) _).setCell (Nat.le_refl _) _⟩
      simp [results, Try.results24, go_sem, r0, r1, r2, r3, r4, cntV]
end Go.Proofs.Ytkmfbafgbaapiaa.M
