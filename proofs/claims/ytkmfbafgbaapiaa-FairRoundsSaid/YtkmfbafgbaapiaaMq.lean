/- Entries as keys of a map; a map as the set of its keys. No condition. -/
import Derived.Test.YtkmfbafgbaapiaaMne
import Derived.Maps.OwnSet
import Derived.Maps.RangeWalk
import Derived.DeepKeys4
import Derived.WideKeyEntry
namespace Go.Proofs.Ytkmfbafgbaapiaa.M
open Go.RowKit Go.Maps Go.Proofs.YtkmfbafgbaapiaaW.PrintWords Go.Proofs.YtkmfbafgbaapiaaW.PrintLast Go.Proofs.YtkmfbafgbaapiaaW.PrintMore
set_option linter.unusedVariables false
set_option maxRecDepth 100000
set_option linter.unusedSimpArgs false
abbrev En := Int × Int
abbrev encN : En → List Value := fun p => [.int .i64 p.1, .int .i64 p.2]
abbrev aggN (p : En) : Value := .agg #[.int .i64 p.1, .int .i64 p.2]
def wfN (p : En) : Prop := (Lit.int .i64 p.1).wf = true ∧ (Lit.int .i64 p.2).wf = true
theorem laidOutM : laidOutB Try.prog = true := by kernel_rfl
theorem rowN : (27 : TypeId) < Try.prog.types.size := of_decide_eq_true (by kernel_rfl)
theorem wideN : (match Try.prog.underlying 27 with | some (.array _ _) | some (.struct _) => true | _ => false) = true := by rw [Try.underlying27]
theorem lawN : Keyed Try.prog 27 := Keyed.of_law (deep_law_laid laidOutM (m := 2) (by omega) rowN (by kernel_rfl) wideN)
theorem keyTypeN : Try.prog.keyType 27 = true := by kernel_rfl
theorem cellsN : Try.prog.cellsOf 27 = 2 := by kernel_rfl
theorem cellsI : Try.prog.cellsOf 3 = 1 := by kernel_rfl
theorem zeroI (w : World) : (zeroValue 3).run Try.prog w = .ok (.int .i64 0) w := by kernel_rfl
theorem keyLits_one (d : Nat) (a : Int) (h : (Lit.int .i64 a).wf = true) : Try.prog.keyLits (d + 1) 3 [.int .i64 a] = some [.int .i64 a] := by
  unfold Program.keyLits
  rw [Try.underlying3]
  simp [h]
theorem keyLits_two (d : Nat) (p : En) (h : wfN p) : Try.prog.keyLits (d + 1 + 1) 27 [.int .i64 p.1, .int .i64 p.2] = some [.int .i64 p.1, .int .i64 p.2] := by
  unfold Program.keyLits
  rw [Try.underlying27]
  have h1 := keyLits_one d p.1 h.1
  have h2 := keyLits_one d p.2 h.2
  simp [cellsN, cellsI, h1, h2]
theorem key_some (p : En) (h : wfN p) : ∃ l, keyOf Try.prog 27 (aggN p) = some l := by
  obtain ⟨s, hs⟩ : ∃ s, Try.prog.types.size = s + 1 := ⟨Try.prog.types.size - 1, by have : 0 < Try.prog.types.size := Nat.lt_of_le_of_lt (Nat.zero_le _) rowN; omega⟩
  refine ⟨.string (keyBytes [.int .i64 p.1, .int .i64 p.2]), ?_⟩
  unfold keyOf
  rw [Try.underlying27]
  have hf : (aggN p).formed Try.prog 27 = true := by simp [Value.formed, Try.underlying27, cellsN]
  have hk := keyLits_two s p h
  simp only [keyTypeN, hf, hs, Value.cells, Bool.and_self, if_true]
  rw [hk]
  rfl
noncomputable def kl (p : En) : Lit := (keyOf Try.prog 27 (aggN p)).getD (.bool false)
theorem kl_key (p : En) (h : wfN p) : keyOf Try.prog 27 (aggN p) = some (kl p) := by
  obtain ⟨l, hl⟩ := key_some p h
  unfold kl
  rw [hl]
  rfl
theorem kl_inj {p q : En} (hp : wfN p) (hq : wfN q) (h : kl p = kl q) : p = q := by
  have := lawN.inj (kl_key p hp) (by rw [h]; exact kl_key q hq)
  simp only [Value.agg.injEq, Array.mk.injEq, List.cons.injEq, Value.int.injEq, true_and, and_true] at this
  exact Prod.ext this.1 this.2
theorem kl_lit (p : En) (h : wfN p) : WideAt.IsKeyLit (kl p) := lawN.key (kl_key p h)
theorem keyLits_inv1 (d : Nat) (cs : List Value) (ls : List Lit) (h : Try.prog.keyLits d 3 cs = some ls) : ∃ a, cs = [.int .i64 a] ∧ ls = [.int .i64 a] ∧ (Lit.int .i64 a).wf = true := by
  cases d with
  | zero => simp [Program.keyLits] at h
  | succ d =>
    unfold Program.keyLits at h
    rw [Try.underlying3] at h
    split at h <;> simp_all
theorem keyLits_inv2 (d : Nat) (c0 c1 : Value) (ls : List Lit) (h : Try.prog.keyLits (d + 1) 27 [c0, c1] = some ls) : ∃ a b, c0 = .int .i64 a ∧ c1 = .int .i64 b ∧ wfN (a, b) := by
  unfold Program.keyLits at h
  rw [Try.underlying27] at h
  simp [cellsN, cellsI] at h
  cases h0 : Try.prog.keyLits d 3 [c0] with
  | none => simp [h0] at h
  | some l0 =>
    cases h1 : Try.prog.keyLits d 3 [c1] with
    | none => simp [h0, h1] at h
    | some l1 =>
      obtain ⟨a, ea, _, wa⟩ := keyLits_inv1 d _ _ h0
      obtain ⟨b, eb, _, wb⟩ := keyLits_inv1 d _ _ h1
      exact ⟨a, b, by simpa using ea, by simpa using eb, wa, wb⟩
theorem kl_inv {key : Value} {l : Lit} (h : keyOf Try.prog 27 key = some l) : ∃ p : En, key = aggN p ∧ wfN p ∧ l = kl p := by
  have h' := h
  unfold keyOf at h
  rw [Try.underlying27] at h
  simp only [keyTypeN, Bool.true_and] at h
  split at h
  · rename_i hf
    cases key <;> simp [Value.formed, Try.underlying27, cellsN] at hf
    rename_i cs
    obtain ⟨l2⟩ := cs
    match l2, hf with
    | [c0, c1], _ =>
      obtain ⟨ls, hl, _⟩ := Option.map_eq_some_iff.1 h
      obtain ⟨a, b, rfl, rfl, hw⟩ := keyLits_inv2 _ c0 c1 ls hl
      refine ⟨(a, b), rfl, hw, ?_⟩
      have := kl_key (a, b) hw
      rw [this] at h'
      exact (Option.some.inj h').symm
  · cases h
/-- A map has just the keys of a set. -/
def Keeps (D : DataW Unit) (S : En → Bool) : Prop := (∀ p, wfN p → Maps.has D (kl p) = S p) ∧ ∀ l, Maps.has D l = true → ∃ p, wfN p ∧ l = kl p ∧ S p = true
section
variable {D : DataW Unit} {S : En → Bool}
theorem Keeps.put (hD : IsMap D) (h : Keeps D S) (p : En) (hp : wfN p) (d : DataW Unit) : Keeps (D.put (kl p) d) (fun q => S q || q == p) := by
  refine ⟨fun q hq => ?_, fun l hl => ?_⟩
  · by_cases e : q = p
    · subst e
      rw [has_put_same hD (kl_lit q hq)]
      simp
    · rw [has_put_other (fun h' => e (kl_inj hq hp h')), h.1 q hq]
      simp [e]
  · by_cases e : l = kl p
    · exact ⟨p, hp, e, by simp⟩
    · rw [has_put_other e] at hl
      obtain ⟨q, hq, rfl, hs⟩ := h.2 l hl
      exact ⟨q, hq, rfl, by simp [hs]⟩
theorem Keeps.del (h : Keeps D S) (p : En) (hp : wfN p) : Keeps (D.del (kl p)) (fun q => S q && !(q == p)) := by
  refine ⟨fun q hq => ?_, fun l hl => ?_⟩
  · by_cases e : q = p
    · subst e
      rw [has_del_same]
      simp
    · rw [has_del_other (fun h' => e (kl_inj hq hp h')), h.1 q hq]
      simp [e]
  · by_cases e : l = kl p
    · subst e
      rw [has_del_same] at hl
      cases hl
    · rw [has_del_other e] at hl
      obtain ⟨q, hq, rfl, hs⟩ := h.2 l hl
      refine ⟨q, hq, rfl, ?_⟩
      have : q ≠ p := fun h' => e (by rw [h'])
      simp [hs, this]
theorem Keeps.congr {S' : En → Bool} (h : Keeps D S) (e : ∀ p, wfN p → S p = S' p) : Keeps D S' :=
  ⟨fun q hq => by rw [h.1 q hq, e q hq], fun l hl => by
    obtain ⟨q, hq, rfl, hs⟩ := h.2 l hl
    exact ⟨q, hq, rfl, by rw [← e q hq]; exact hs⟩⟩
theorem Keeps.empty : Keeps (.map [] : DataW Unit) (fun _ => false) := ⟨fun _ _ => rfl, fun l h => by cases h⟩
theorem Keeps.some (hD : IsMap D) (h : Keeps D S) (p : En) (hp : wfN p) (hs : S p = true) : Maps.size D ≠ 0 := by
  obtain ⟨es, rfl⟩ := hD
  have := h.1 p hp
  rw [hs, has_eq] at this
  intro e
  rw [size_eq] at e
  have : es = [] := List.length_eq_zero_iff.1 e
  subst this
  simp at *
end
abbrev isMp (w : World) (b n : Nat) (D : DataW Unit) : Prop := w.ownsMap Try.prog 27 (plainElem (H := Unit) Try.prog 3) b n D
theorem mp_bw {w w1 : World} {b n : Nat} {D : DataW Unit} (h : isMp w b n D) (hb : Bw w w1) : isMp w1 b n D := by
  have hlt := h.lt
  obtain ⟨es, clock, h1, h2⟩ := h
  exact ⟨es, clock, (Below.block hb b hlt).trans h1, h2⟩
theorem und_map : Try.prog.underlying 92 = some (.map 27 3) := Try.underlying92
theorem mp_none {w : World} {b n : Nat} {D : DataW Unit} {S : En → Bool} (h : isMp w b n D) (hk : Keeps D S) (hs : ∀ p, wfN p → S p = false) : Maps.size D = 0 := by
  obtain ⟨es, rfl, _, hl⟩ := h.entries lawN
  cases es with
  | nil => rfl
  | cons x xs =>
    exfalso
    have hx : Maps.has (DataW.map (x :: xs)) x.1 = true := by
      rw [has_eq, List.any_cons, WideAt.sameKey_self (hl x (List.mem_cons_self ..))]
      rfl
    obtain ⟨p, hp, _, h2⟩ := hk.2 _ hx
    rw [hs p hp] at h2
    cases h2
open Go.WideElems Go.ChangeMaps in
/-- m[k] and m[k] = v, in pieces. -/
theorem entry_any {w : World} {b n : Nat} {D : DataW Unit} (h : isMp w b n D) (hn : n < maxLen) (p : En) (hp : wfN p) :
    ∃ c st w1, (Lit.int .i64 c).wf = true ∧ (Instr.lookup 92 (.map (some b)) (aggN p) false).run Try.prog w = .ok (.int .i64 c) w ∧
      (Instr.mapEntry 92 (.map (some b)) (aggN p)).run Try.prog w = .ok (.tuple #[.int .i64 c, goInt st]) w1 ∧
      (Instr.lookup 92 (.map (some b)) (aggN p) false).run Try.prog w1 = .ok (.int .i64 c) w1 ∧
      ∀ v : Int, (Lit.int .i64 v).wf = true → ∃ w2, (Instr.entryStore 92 (.map (some b)) (goInt st) (.int .i64 v)).run Try.prog w1 = .ok () w2 ∧ isMp w2 b (n + 1) (D.put (kl p) (.lit (.int .i64 v))) ∧ w.grownBy w2 (some b) := by
  have hkey := kl_key p hp
  have hup := fun v hv => h.update lawN und_map hn hkey (plainElem_int (H := Unit) (e := 3) (q := .i64) (a := v) Try.underlying3 hv)
  obtain ⟨es, clock, hb, F, hs, rfl⟩ := h
  obtain ⟨s1, s2, _⟩ := F.stamped
  rcases lawN.find w hkey es.toList F.keys with ⟨h1, h2⟩ | ⟨j, e0, h1, h2, h3⟩
  · have hb1 : (setBlock w b (.map (es.push ⟨aggN p, .int .i64 0, clock⟩) (clock + 1))).heap[b]? = some (.map (es.push ⟨aggN p, .int .i64 0, clock⟩) (clock + 1)) := heap_setBlock_same hb _
    refine ⟨0, clock, setBlock w b (.map (es.push ⟨aggN p, .int .i64 0, clock⟩) (clock + 1)), by decide, ?_, ?_, ?_, fun v hv => ⟨setBlock w b (.map (es.push ⟨aggN p, .int .i64 v, clock⟩) (clock + 1)), ?_, ?_⟩⟩
    · simp [Instr.lookup, run_underlying und_map, MapKept.run_getObj_map hb, lawN.check w _ hkey, h1, zeroI w, Result.andThen]
    · simp [Instr.mapEntry, run_underlying und_map, MapKept.run_getObj_map hb, lawN.check w false hkey, h1, zeroI w, MapKept.run_setObj_map _ hb, Result.andThen, setBlock]
    · rcases lawN.find (setBlock w b (.map (es.push ⟨aggN p, .int .i64 0, clock⟩) (clock + 1))) hkey (es.push ⟨aggN p, .int .i64 0, clock⟩).toList (by
        intro x hx
        simp only [Array.toList_push, List.mem_append, List.mem_singleton] at hx
        rcases hx with hx | rfl
        · exact F.keys x hx
        · exact ⟨_, hkey⟩) with ⟨g1, g2⟩ | ⟨j, e0, g1, g2, g3⟩
      · exact absurd rfl (g2 ⟨aggN p, .int .i64 0, clock⟩ (by simp))
      · have hv : e0.val = .int .i64 0 := by
          have hm := List.mem_of_getElem? g2
          simp only [Array.toList_push, List.mem_append, List.mem_singleton] at hm
          rcases hm with hm | rfl
          · exact absurd g3 (h2 e0 hm)
          · rfl
        rw [hv, Array.toList_push] at g1
        simp [Instr.lookup, run_underlying und_map, MapKept.run_getObj_map hb1, lawN.check _ _ hkey, g1, Result.andThen]
    · have hidx : (es.push ⟨aggN p, .int .i64 0, clock⟩).findIdx? (fun e => ((e.born : Nat) : Int) == ((clock : Nat) : Int)) = some es.size := by
        rw [findIdx_arr]
        have := findIdx_born (l := (es.push ⟨aggN p, .int .i64 0, clock⟩).toList) (j := es.size) (e0 := ⟨aggN p, .int .i64 0, clock⟩) (by
          simp only [Array.toList_push, List.map_append, List.map_cons, List.map_nil]
          refine List.nodup_append.2 ⟨s2, by simp, fun a ha c hc e1 => ?_⟩
          simp only [List.mem_singleton] at hc
          obtain ⟨x, hx, rfl⟩ := List.mem_map.1 ha
          have := s1 x hx
          omega) (by simp)
        exact this
      have hmod : (es.push ⟨aggN p, .int .i64 0, clock⟩).modify es.size (fun e => { e with val := .int .i64 v }) = es.push ⟨aggN p, .int .i64 v, clock⟩ := by
        apply Array.ext'
        rw [Array.toList_modify, Array.toList_push, Array.toList_push, ← Array.length_toList, modify_last]
      have gen : ∀ w2 : World, w2.heap[b]? = some (.map (es.push ⟨aggN p, .int .i64 0, clock⟩) (clock + 1)) → (Instr.entryStore 92 (.map (some b)) (goInt clock) (.int .i64 v)).run Try.prog w2 = .ok () (setBlock w2 b (.map (es.push ⟨aggN p, .int .i64 v, clock⟩) (clock + 1))) := fun w2 hw2 => by
        simp [Instr.entryStore, MapKept.run_getObj_map hw2, asInt, asIntOf, goInt, hidx, hmod, MapKept.run_setObj_map _ hw2, Result.andThen, setBlock]
      rw [gen _ hb1]
      simp [setBlock]
    · obtain ⟨w', hr, ho, hg⟩ := hup v hv
      have e1 : (Instr.mapUpdate 92 (.map (some b)) (aggN p) (.int .i64 v)).run Try.prog w = .ok () (setBlock w b (.map (es.push ⟨aggN p, .int .i64 v, clock⟩) (clock + 1))) := by
        simp [Instr.mapUpdate, run_underlying und_map, MapKept.run_getObj_map hb, lawN.check w false hkey, h1, MapKept.run_setObj_map _ hb, Result.andThen, setBlock]
      rw [e1] at hr
      injection hr with _ hr
      rw [hr]
      exact ⟨ho, hg⟩
  · have hj : es[j]? = some e0 := by simpa using h2
    have hm0 : e0 ∈ es.toList := List.mem_of_getElem? h2
    have hsame : es.modify j (fun e => { e with key := aggN p }) = es := by
      apply Array.ext'
      rw [Array.toList_modify, modify_eq_set _ _ _ _ h2]
      have : ({ e0 with key := aggN p } : MapEntry) = e0 := by rw [← h3]
      rw [this]
      exact set_self _ _ _ h2
    have hself : setBlock w b (.map es clock) = w := by
      have : w.heap.setIfInBounds b (.map es clock) = w.heap := by
        apply Array.ext_getElem?
        intro i
        rw [Array.getElem?_setIfInBounds]
        split
        · rename_i e1
          subst e1
          split
          · exact hb.symm
          · rename_i hlt
            rw [Array.getElem?_eq_none (by omega)]
        · rfl
      simp [setBlock, this]
    obtain ⟨y, hy⟩ := F.reads e0 hm0
    obtain ⟨z, hz, _⟩ := rd_val hy
    obtain ⟨c, hc, _, hw⟩ := plainElem_int_inv Try.underlying3 hz
    rw [hc] at h1
    have hlk : (Instr.lookup 92 (.map (some b)) (aggN p) false).run Try.prog w = .ok (.int .i64 c) w := by
      simp [Instr.lookup, run_underlying und_map, MapKept.run_getObj_map hb, lawN.check w _ hkey, h1, Result.andThen]
    refine ⟨c, e0.born, w, hw, hlk, ?_, hlk, fun v hv => ⟨setBlock w b (.map (es.modify j (fun e' => { e' with key := aggN p, val := .int .i64 v })) clock), ?_, ?_⟩⟩
    · have : (Instr.mapEntry 92 (.map (some b)) (aggN p)).run Try.prog w = .ok (.tuple #[.int .i64 c, goInt e0.born]) (setBlock w b (.map es clock)) := by
        simp [Instr.mapEntry, run_underlying und_map, MapKept.run_getObj_map hb, lawN.check w false hkey, h1, hj, h3, lawN.stays w hkey, hsame, MapKept.run_setObj_map _ hb, Result.andThen, setBlock]
      rw [this, hself]
    · have hidx : es.findIdx? (fun e => ((e.born : Nat) : Int) == ((e0.born : Nat) : Int)) = some j := by
        rw [findIdx_arr]
        exact findIdx_born s2 h2
      have hmod : es.modify j (fun e => { e with val := .int .i64 v }) = es.modify j (fun e' => { e' with key := aggN p, val := .int .i64 v }) := by
        apply Array.ext'
        rw [Array.toList_modify, Array.toList_modify, modify_eq_set _ _ _ _ h2, modify_eq_set _ _ _ _ h2, ← h3]
      simp [Instr.entryStore, MapKept.run_getObj_map hb, asInt, asIntOf, goInt, hidx, hmod, MapKept.run_setObj_map _ hb, Result.andThen, setBlock]
    · obtain ⟨w', hr, ho, hg⟩ := hup v hv
      have e1 : (Instr.mapUpdate 92 (.map (some b)) (aggN p) (.int .i64 v)).run Try.prog w = .ok () (setBlock w b (.map (es.modify j (fun e' => { e' with key := aggN p, val := .int .i64 v })) clock)) := by
        simp [Instr.mapUpdate, run_underlying und_map, MapKept.run_getObj_map hb, lawN.check w false hkey, h1, hj, h3, lawN.stays w hkey, MapKept.run_setObj_map _ hb, Result.andThen, setBlock]
      rw [e1] at hr
      injection hr with _ hr
      rw [hr]
      exact ⟨ho, hg⟩
end Go.Proofs.Ytkmfbafgbaapiaa.M
