/- Report: Of: the events of a goroutine. Condition: no more than 65536 events. (Under way.) -/
import Derived.Test.YtogpjimmcckkcaaDoorMvd
namespace Go.Proofs.YtogpjimmcckkcaaDoor.M
open Go.RowKit Go.Proofs.YtogpjimmcckkcaaDoorW.PrintWords Go.Proofs.YtogpjimmcckkcaaDoorW.PrintLast Go.Proofs.YtogpjimmcckkcaaDoorW.PrintMore
set_option linter.unusedVariables false
set_option linter.unusedSimpArgs false
def ofB (g : Int) (e : Rep) : Bool := e.g == g || e.o == g
set_option maxHeartbeats 1000000 in
theorem Of_calls (A : Option Addr) (cap : Nat) (l : List Rep) (g : Int) (w : World) (hx : Rows encR 5 w A l) (hl : l.length ≤ 65536) :
    Calls Tryd.prog 26 #[.slice A l.length cap, .int .i64 g] w fun e w' => ∃ v, e = .returned v ∧ w'.ownsRow w.heap.size 34 5 v (l.filter (ofB g)).length ((l.filter (ofB g)).flatMap encR) ∧ Bw w w' := by
  have HX := Aside0.mk hx
  have HB := Aside0.mk (Bw.refl w)
  clear hx
  go_enter Tryd.func26, Tryd.ntmps26
  go_wp2_with fail
  go_loopw [5, 10] (fun ov iv wr => ∃ (i : Nat) (A1 : Option Addr) (c1 : Nat) (out : List Rep), i ≤ l.length ∧ iv = .int .i64 i ∧ ov = .slice A1 out.length c1 ∧ out.length ≤ i ∧ Aside0 (wr.ownsRow w.heap.size 34 5 (.slice A1 out.length c1) out.length (out.flatMap encR)) ∧ Aside0 (out = (l.take i).filter (ofB g)) ∧ Aside0 (Bw w wr)) (fun _ iv _ => l.length - (intOf iv).toNat)
  case atStart => exact ⟨0, none, 0, [], by omega, rfl, rfl, by simp, ⟨own_nil _ _ _ _⟩, ⟨rfl⟩, HB⟩
  case round =>
    obtain ⟨i, A1, c1, out, hi, rfl, rfl, ho, HO, HF, HW⟩ := hrel
    by_cases hlt : i < l.length
    · obtain ⟨⟨k, g', o, t, p⟩, he⟩ : ∃ e, l[i]? = some e := ⟨_, List.getElem?_eq_getElem hlt⟩
      obtain ⟨ad, hA, m0, mi⟩ := (HX.out.bw HW.out).atS i _ he
      subst hA
      have s0 := m0 _ rfl
      have s1 := mi 1 _ (by decide) rfl
      have s2 := mi 2 _ (by decide) rfl
      have s3 := mi 3 _ (by decide) rfl
      have s4 := mi 4 _ (by decide) rfl
      have HF1 : (l.take (i + 1)).filter (ofB g) = out ++ [(⟨k, g', o, t, p⟩ : Rep)].filter (ofB g) := by rw [List.take_add_one, he, List.filter_append, HF.out]; rfl
      have HWA := Aside0.mk (HW.out.alloc (.cells #[.int .i64 k, .int .i64 g', .int .i64 o, .int .i64 t, .int .i64 p] 34))
      have HOA := Aside0.mk (HO.out.alloc (.cells #[.int .i64 k, .int .i64 g', .int .i64 o, .int .i64 t, .int .i64 p] 34))
      have ho5 : out.length ≤ 65536 := by omega
      have hsz : ∀ o, (wr.alloc o).heap.size = wr.heap.size + 1 := fun o => by simp
      clear he m0 mi
      have good : ∀ q : Bool, (g' == g) = q → ofB g ⟨k, g', o, t, p⟩ = (q || o == g) := fun q h => by unfold ofB; rw [← h]
      cases hq : (g' == g)
      · cases hq2 : (o == g)
        · have HG := Aside0.mk (show out = (l.take (i + 1)).filter (ofB g) by rw [HF1, List.filter_cons_of_neg (by rw [good _ hq, hq2]; decide)]; simp)
          clear HF1 good
          go_wp2_with fail
          go_roundw
          case rel => exact ⟨i + 1, A1, c1, out, by omega, by go_num, rfl, by omega, HOA, HG, HWA⟩
          case measure => simp [intOf]; omega
        · have HG := Aside0.mk (show out ++ [(⟨k, g', o, t, p⟩ : Rep)] = (l.take (i + 1)).filter (ofB g) by rw [HF1, List.filter_cons_of_pos (by rw [good _ hq, hq2]; decide)]; simp)
          clear HF1 good
          go_wp2_with (at_builtin; go_loud (refine print_append_cells (w0 := w) w.heap.size rfl (.tmp 24) (.tmp 26) 37 34 (.agg #[.int .i64 0, .int .i64 0, .int .i64 0, .int .i64 0, .int .i64 0]) 5 40 rfl Tryd.underlying37 infoRp rfl (by omega) (by omega) (.slice A1 out.length c1) out.length _ [.int .i64 k, .int .i64 g', .int .i64 o, .int .i64 t, .int .i64 p] rfl (by rw [hsz]; rfl) rfl (by simp [Value.oneCell']) HOA.out HWA.out HWA.out.size (by omega) ?_); intro v1 w5 hown5 hbel5 hg5 hat5)
          go_roundw
          case rel =>
            obtain ⟨g3, cap3, rfl, _, _⟩ := hown5.form (by omega)
            refine ⟨i + 1, some ⟨g3, 0, none⟩, cap3, out ++ [⟨k, g', o, t, p⟩], by omega, by go_num, by rw [List.length_append]; rfl, by rw [List.length_append]; simp; omega, ⟨?_⟩, HG, ⟨hbel5⟩⟩
            rw [List.length_append, List.flatMap_append]
            exact hown5
          case measure => simp [intOf]; omega
      · have HG := Aside0.mk (show out ++ [(⟨k, g', o, t, p⟩ : Rep)] = (l.take (i + 1)).filter (ofB g) by rw [HF1, List.filter_cons_of_pos (by rw [good _ hq]; rfl)]; simp)
        clear HF1 good
        go_wp2_with (at_builtin; go_loud (refine print_append_cells (w0 := w) w.heap.size rfl (.tmp 24) (.tmp 26) 37 34 (.agg #[.int .i64 0, .int .i64 0, .int .i64 0, .int .i64 0, .int .i64 0]) 5 40 rfl Tryd.underlying37 infoRp rfl (by omega) (by omega) (.slice A1 out.length c1) out.length _ [.int .i64 k, .int .i64 g', .int .i64 o, .int .i64 t, .int .i64 p] rfl (by rw [hsz]; rfl) rfl (by simp [Value.oneCell']) HOA.out HWA.out HWA.out.size (by omega) ?_); intro v1 w5 hown5 hbel5 hg5 hat5)
        go_roundw
        case rel =>
          obtain ⟨g3, cap3, rfl, _, _⟩ := hown5.form (by omega)
          refine ⟨i + 1, some ⟨g3, 0, none⟩, cap3, out ++ [⟨k, g', o, t, p⟩], by omega, by go_num, by rw [List.length_append]; rfl, by rw [List.length_append]; simp; omega, ⟨?_⟩, HG, ⟨hbel5⟩⟩
          rw [List.length_append, List.flatMap_append]
          exact hown5
        case measure => simp [intOf]; omega
    · obtain rfl : i = l.length := by omega
      have HFL := Aside0.mk (show out = l.filter (ofB g) by have := HF.out; rwa [List.take_length] at this)
      go_wp2_with fail
      go_ret
      refine ⟨_, rfl, ?_, HW.out⟩
      rw [← HFL.out]
      exact HO.out
end Go.Proofs.YtogpjimmcckkcaaDoor.M
