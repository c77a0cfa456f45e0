/- A map from ints to ints: an entry looked up, stored; rows of structs, a cell of them. No condition. -/
import Derived.Test.YtoklhhcjcecbbaaMne
import Derived.Maps.OwnSet
import Derived.DeepKeys4
import Derived.WideKeyEntry
namespace Go.Proofs.Ytoklhhcjcecbbaa.M
open Go.RowKit Go.Maps Go.Proofs.YtoklhhcjcecbbaaW.PrintWords Go.Proofs.YtoklhhcjcecbbaaW.PrintLast Go.Proofs.YtoklhhcjcecbbaaW.PrintMore
set_option linter.unusedVariables false
set_option maxRecDepth 100000
set_option linter.unusedSimpArgs false
theorem lawI : Keyed Try.prog 3 := int_keyed Try.underlying3
theorem und_mi : Try.prog.underlying 87 = some (.map 3 3) := Try.underlying87
theorem zeroII (w : World) : (zeroValue 3).run Try.prog w = .ok (.int .i64 0) w := by kernel_rfl
abbrev isMi (w : World) (b n : Nat) (D : DataW Unit) := w.ownsMap Try.prog 3 (plainElem (H := Unit) Try.prog 3) b n D
theorem mi_bw {w w1 : World} {b n : Nat} {D : DataW Unit} (h : isMi w b n D) (hb : Bw w w1) : isMi w1 b n D := by
  have hlt := h.lt
  obtain ⟨es, clock, h1, h2⟩ := h
  exact ⟨es, clock, (Below.block hb b hlt).trans h1, h2⟩
theorem flat_get {α : Type} {enc : α → List Value} {sz : Nat} (hs : ∀ x, (enc x).length = sz) : ∀ (xs : List α) (j : Nat) (x : α), xs[j]? = some x → ∀ (i : Nat) (u : Value), (enc x)[i]? = some u → (xs.flatMap enc)[j * sz + i]? = some u
  | [], j, x, h, _, _, _ => by simp at h
  | y :: ys, j, x, h, i, u, hu => by
    rw [List.flatMap_cons]
    cases j with
    | zero =>
      simp at h
      subst h
      have hi : i < (enc y).length := (List.getElem?_eq_some_iff.1 hu).1
      rw [Nat.zero_mul, Nat.zero_add, List.getElem?_append_left hi]
      exact hu
    | succ j =>
      rw [List.getElem?_append_right (by rw [hs, Nat.succ_mul]; omega)]
      have : (j + 1) * sz + i - (enc y).length = j * sz + i := by rw [hs, Nat.succ_mul]; omega
      rw [this]
      exact flat_get hs ys j x (by simpa using h) i u hu
theorem flat_set {α : Type} {enc : α → List Value} {sz : Nat} (hs : ∀ x, (enc x).length = sz) : ∀ (xs : List α) (j : Nat) (x x' : α), xs[j]? = some x → ∀ (i : Nat) (u : Value), i < sz → enc x' = (enc x).set i u → (xs.flatMap enc).set (j * sz + i) u = (xs.set j x').flatMap enc
  | [], j, x, x', h, _, _, _, _ => by simp at h
  | y :: ys, j, x, x', h, i, u, hi, he => by
    rw [List.flatMap_cons]
    cases j with
    | zero =>
      simp at h
      subst h
      rw [Nat.zero_mul, Nat.zero_add, List.set_append_left _ _ (by rw [hs]; exact hi), List.set_cons_zero, List.flatMap_cons, he]
    | succ j =>
      rw [List.set_append_right _ _ (by rw [hs, Nat.succ_mul]; omega)]
      have : (j + 1) * sz + i - (enc y).length = j * sz + i := by rw [hs, Nat.succ_mul]; omega
      rw [this, flat_set hs ys j x x' (by simpa using h) i u hi he, List.set_cons_succ, List.flatMap_cons]
theorem own_cellg {w : World} {base g cap n : Nat} {e : TypeId} {sz : Nat} {xs : List Value} (h : w.ownsRow base e sz (.slice (some ⟨g, 0, none⟩) n cap) n xs) (j : Nat) (u : Value) (hj : xs[j]? = some u) : w.cell? ⟨g, j, none⟩ = some u := by
  have := h.cells (g := g) rfl j u hj
  have hadd : (⟨g, 0, none⟩ : Addr).add j = ⟨g, j, none⟩ := by unfold Addr.add; split <;> simp_all
  rw [hadd] at this
  exact this
theorem own_setg {w : World} {base g cap n : Nat} {e : TypeId} {sz : Nat} {xs : List Value} (h : w.ownsRow base e sz (.slice (some ⟨g, 0, none⟩) n cap) n xs) (j : Nat) (u : Value) (hj : j < n * sz) : (w.setCell ⟨g, j, none⟩ u).ownsRow base e sz (.slice (some ⟨g, 0, none⟩) n cap) n (xs.set j u) := by
  refine ⟨by rw [List.length_set]; exact h.1, ?_⟩
  rcases h.2 with ⟨hv, _⟩ | ⟨g', cap', cur, hv, hb, hh, hn, hc, hs, ht⟩
  · cases hv
  · injection hv with h1 h2 h3
    injection h1 with h1
    injection h1 with h1
    subst h1
    subst h3
    refine .inr ⟨g, cap, cur.setIfInBounds j u, rfl, hb, ?_, hn, hc, by simpa using hs, ?_⟩
    · simp only [World.setCell, Array.getElem?_modify, if_pos, hh, Option.map_some]
      simp
    · rw [Array.toList_setIfInBounds, ← ht, List.take_set]

open Go.WideElems Go.ChangeMaps in
/-- m[k] and m[k] = v, in pieces. -/
theorem entry_ii {w : World} {b n : Nat} {D : DataW Unit} (h : isMi w b n D) (hn : n < maxLen) (p : Int) (hp : (Lit.int .i64 p).wf = true) :
    ∃ c st w1, (Lit.int .i64 c).wf = true ∧ (Instr.lookup 87 (.map (some b)) (Value.int .i64 p) false).run Try.prog w = .ok (.int .i64 c) w ∧
      (Instr.mapEntry 87 (.map (some b)) (Value.int .i64 p)).run Try.prog w = .ok (.tuple #[.int .i64 c, goInt st]) w1 ∧
      (Instr.lookup 87 (.map (some b)) (Value.int .i64 p) false).run Try.prog w1 = .ok (.int .i64 c) w1 ∧
      ∀ v : Int, (Lit.int .i64 v).wf = true → ∃ w2, (Instr.entryStore 87 (.map (some b)) (goInt st) (.int .i64 v)).run Try.prog w1 = .ok () w2 ∧ isMi w2 b (n + 1) (D.put (Lit.int .i64 p) (.lit (.int .i64 v))) ∧ w.grownBy w2 (some b) := by
  have hkey := keyOf_int_mk Try.underlying3 hp
  have hup := fun v hv => h.update lawI und_mi hn hkey (plainElem_int (H := Unit) (e := 3) (q := .i64) (a := v) Try.underlying3 hv)
  obtain ⟨es, clock, hb, F, hs, rfl⟩ := h
  obtain ⟨s1, s2, _⟩ := F.stamped
  rcases lawI.find w hkey es.toList F.keys with ⟨h1, h2⟩ | ⟨j, e0, h1, h2, h3⟩
  · have hb1 : (setBlock w b (.map (es.push ⟨Value.int .i64 p, .int .i64 0, clock⟩) (clock + 1))).heap[b]? = some (.map (es.push ⟨Value.int .i64 p, .int .i64 0, clock⟩) (clock + 1)) := heap_setBlock_same hb _
    refine ⟨0, clock, setBlock w b (.map (es.push ⟨Value.int .i64 p, .int .i64 0, clock⟩) (clock + 1)), by decide, ?_, ?_, ?_, fun v hv => ⟨setBlock w b (.map (es.push ⟨Value.int .i64 p, .int .i64 v, clock⟩) (clock + 1)), ?_, ?_⟩⟩
    · simp [Instr.lookup, run_underlying und_mi, MapKept.run_getObj_map hb, lawI.check w _ hkey, h1, zeroII w, Result.andThen]
    · simp [Instr.mapEntry, run_underlying und_mi, MapKept.run_getObj_map hb, lawI.check w false hkey, h1, zeroII w, MapKept.run_setObj_map _ hb, Result.andThen, setBlock]
    · rcases lawI.find (setBlock w b (.map (es.push ⟨Value.int .i64 p, .int .i64 0, clock⟩) (clock + 1))) hkey (es.push ⟨Value.int .i64 p, .int .i64 0, clock⟩).toList (by
        intro x hx
        simp only [Array.toList_push, List.mem_append, List.mem_singleton] at hx
        rcases hx with hx | rfl
        · exact F.keys x hx
        · exact ⟨_, hkey⟩) with ⟨g1, g2⟩ | ⟨j, e0, g1, g2, g3⟩
      · exact absurd rfl (g2 ⟨Value.int .i64 p, .int .i64 0, clock⟩ (by simp))
      · have hv : e0.val = .int .i64 0 := by
          have hm := List.mem_of_getElem? g2
          simp only [Array.toList_push, List.mem_append, List.mem_singleton] at hm
          rcases hm with hm | rfl
          · exact absurd g3 (h2 e0 hm)
          · rfl
        rw [hv, Array.toList_push] at g1
        simp [Instr.lookup, run_underlying und_mi, MapKept.run_getObj_map hb1, lawI.check _ _ hkey, g1, Result.andThen]
    · have hidx : (es.push ⟨Value.int .i64 p, .int .i64 0, clock⟩).findIdx? (fun e => ((e.born : Nat) : Int) == ((clock : Nat) : Int)) = some es.size := by
        rw [findIdx_arr]
        have := findIdx_born (l := (es.push ⟨Value.int .i64 p, .int .i64 0, clock⟩).toList) (j := es.size) (e0 := ⟨Value.int .i64 p, .int .i64 0, clock⟩) (by
          simp only [Array.toList_push, List.map_append, List.map_cons, List.map_nil]
          refine List.nodup_append.2 ⟨s2, by simp, fun a ha c hc e1 => ?_⟩
          simp only [List.mem_singleton] at hc
          obtain ⟨x, hx, rfl⟩ := List.mem_map.1 ha
          have := s1 x hx
          omega) (by simp)
        exact this
      have hmod : (es.push ⟨Value.int .i64 p, .int .i64 0, clock⟩).modify es.size (fun e => { e with val := .int .i64 v }) = es.push ⟨Value.int .i64 p, .int .i64 v, clock⟩ := by
        apply Array.ext'
        rw [Array.toList_modify, Array.toList_push, Array.toList_push, ← Array.length_toList, modify_last]
      have gen : ∀ w2 : World, w2.heap[b]? = some (.map (es.push ⟨Value.int .i64 p, .int .i64 0, clock⟩) (clock + 1)) → (Instr.entryStore 87 (.map (some b)) (goInt clock) (.int .i64 v)).run Try.prog w2 = .ok () (setBlock w2 b (.map (es.push ⟨Value.int .i64 p, .int .i64 v, clock⟩) (clock + 1))) := fun w2 hw2 => by
        simp [Instr.entryStore, MapKept.run_getObj_map hw2, asInt, asIntOf, goInt, hidx, hmod, MapKept.run_setObj_map _ hw2, Result.andThen, setBlock]
      rw [gen _ hb1]
      simp [setBlock]
    · obtain ⟨w', hr, ho, hg⟩ := hup v hv
      have e1 : (Instr.mapUpdate 87 (.map (some b)) (Value.int .i64 p) (.int .i64 v)).run Try.prog w = .ok () (setBlock w b (.map (es.push ⟨Value.int .i64 p, .int .i64 v, clock⟩) (clock + 1))) := by
        simp [Instr.mapUpdate, run_underlying und_mi, MapKept.run_getObj_map hb, lawI.check w false hkey, h1, MapKept.run_setObj_map _ hb, Result.andThen, setBlock]
      rw [e1] at hr
      injection hr with _ hr
      rw [hr]
      exact ⟨ho, hg⟩
  · have hj : es[j]? = some e0 := by simpa using h2
    have hm0 : e0 ∈ es.toList := List.mem_of_getElem? h2
    have hsame : es.modify j (fun e => { e with key := Value.int .i64 p }) = es := by
      apply Array.ext'
      rw [Array.toList_modify, modify_eq_set _ _ _ _ h2]
      have : ({ e0 with key := Value.int .i64 p } : MapEntry) = e0 := by rw [← h3]
      rw [this]
      exact set_self _ _ _ h2
    have hself : setBlock w b (.map es clock) = w := by
      have : w.heap.setIfInBounds b (.map es clock) = w.heap := by
        apply Array.ext_getElem?
        intro i
        rw [Array.getElem?_setIfInBounds]
        split
        · rename_i e1
          subst e1
          split
          · exact hb.symm
          · rename_i hlt
            rw [Array.getElem?_eq_none (by omega)]
        · rfl
      simp [setBlock, this]
    obtain ⟨y, hy⟩ := F.reads e0 hm0
    obtain ⟨z, hz, _⟩ := rd_val hy
    obtain ⟨c, hc, _, hw⟩ := plainElem_int_inv Try.underlying3 hz
    rw [hc] at h1
    have hlk : (Instr.lookup 87 (.map (some b)) (Value.int .i64 p) false).run Try.prog w = .ok (.int .i64 c) w := by
      simp [Instr.lookup, run_underlying und_mi, MapKept.run_getObj_map hb, lawI.check w _ hkey, h1, Result.andThen]
    refine ⟨c, e0.born, w, hw, hlk, ?_, hlk, fun v hv => ⟨setBlock w b (.map (es.modify j (fun e' => { e' with key := Value.int .i64 p, val := .int .i64 v })) clock), ?_, ?_⟩⟩
    · have : (Instr.mapEntry 87 (.map (some b)) (Value.int .i64 p)).run Try.prog w = .ok (.tuple #[.int .i64 c, goInt e0.born]) (setBlock w b (.map es clock)) := by
        simp [Instr.mapEntry, run_underlying und_mi, MapKept.run_getObj_map hb, lawI.check w false hkey, h1, hj, h3, lawI.stays w hkey, hsame, MapKept.run_setObj_map _ hb, Result.andThen, setBlock]
      rw [this, hself]
    · have hidx : es.findIdx? (fun e => ((e.born : Nat) : Int) == ((e0.born : Nat) : Int)) = some j := by
        rw [findIdx_arr]
        exact findIdx_born s2 h2
      have hmod : es.modify j (fun e => { e with val := .int .i64 v }) = es.modify j (fun e' => { e' with key := Value.int .i64 p, val := .int .i64 v }) := by
        apply Array.ext'
        rw [Array.toList_modify, Array.toList_modify, modify_eq_set _ _ _ _ h2, modify_eq_set _ _ _ _ h2, ← h3]
      simp [Instr.entryStore, MapKept.run_getObj_map hb, asInt, asIntOf, goInt, hidx, hmod, MapKept.run_setObj_map _ hb, Result.andThen, setBlock]
    · obtain ⟨w', hr, ho, hg⟩ := hup v hv
      have e1 : (Instr.mapUpdate 87 (.map (some b)) (Value.int .i64 p) (.int .i64 v)).run Try.prog w = .ok () (setBlock w b (.map (es.modify j (fun e' => { e' with key := Value.int .i64 p, val := .int .i64 v })) clock)) := by
        simp [Instr.mapUpdate, run_underlying und_mi, MapKept.run_getObj_map hb, lawI.check w false hkey, h1, hj, h3, lawI.stays w hkey, MapKept.run_setObj_map _ hb, Result.andThen, setBlock]
      rw [e1] at hr
      injection hr with _ hr
      rw [hr]
      exact ⟨ho, hg⟩
end Go.Proofs.Ytoklhhcjcecbbaa.M
