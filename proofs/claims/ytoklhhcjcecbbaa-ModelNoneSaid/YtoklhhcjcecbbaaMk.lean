/- Small words that all texts of this place use: results, worlds, whole numbers. No condition. -/
import Derived.Test.YtoklhhcjcecbbaaProg
import Derived.Test.YtoklhhcjcecbbaaWWords
import Derived.Test.YtoklhhcjcecbbaaWLast
import Derived.Test.YtoklhhcjcecbbaaWMore
import Derived.Laws.BitsAllLaws
namespace Go.Proofs.Ytoklhhcjcecbbaa.M
open Go.RowKit Go.Proofs.YtoklhhcjcecbbaaW.PrintWords Go.Proofs.YtoklhhcjcecbbaaW.PrintLast Go.Proofs.YtoklhhcjcecbbaaW.PrintMore
set_option linter.unusedVariables false
set_option linter.unusedSimpArgs false

theorem ret_int {k : IntKind} {a b : Int} (h : a = b) : Ending.returned (.int k a) = .returned (.int k b) := by rw [h]
theorem ret_bool {a b : Bool} (h : a = b) : Ending.returned (.bool a) = .returned (.bool b) := by rw [h]

abbrev Bw (w w' : World) : Prop := Below w.heap.size w w'
theorem Bw.refl (w : World) : Bw w w := Below.refl _ _
theorem Bw.trans {a b c : World} (h : Bw a b) (k : Bw b c) : Bw a c := below_then h h.size k
theorem Bw.drew {a b : World} (h : Bw a b) : Bw a b.drew := Below.drew h
theorem Bw.drewN {a b : World} (h : Bw a b) (n : Nat) : Bw a (b.drewN n) := pw_below_drewN h n
theorem Bw.alloc {a b : World} (h : Bw a b) (o : Obj) : Bw a (b.alloc o) := below_alloc h o
theorem Bw.setCell {a b : World} (h : Bw a b) {p : Addr} (hp : a.heap.size ≤ p.block) (u : Value) : Bw a (b.setCell p u) := Below.setCell h hp u
theorem Bw.kept {w w' : World} (h : Bw w w') {a : Addr} {v : Value} (hc : w.cell? a = some v) : w'.cell? a = some v := pw_cell_below h hc

theorem wf_u64 {a : Int} (h : (Lit.int .u64 a).wf = true) : 0 ≤ a ∧ a < 18446744073709551616 := by
  simp [Lit.wf, IntKind.min, IntKind.max, IntKind.signed, IntKind.bits] at h
  omega
theorem wf_i64 {a : Int} (h : (Lit.int .i64 a).wf = true) : -9223372036854775808 ≤ a ∧ a < 9223372036854775808 := by
  simp [Lit.wf, IntKind.min, IntKind.max, IntKind.signed, IntKind.bits] at h
  omega
theorem wf_u8 {a : Int} (h : (Lit.int .u8 a).wf = true) : 0 ≤ a ∧ a < 256 := by
  simp [Lit.wf, IntKind.min, IntKind.max, IntKind.signed, IntKind.bits] at h
  omega

theorem u64_wrap (n : Int) : IntKind.u64.wrap n = n % 18446744073709551616 := by simp [IntKind.wrap, IntKind.bits, IntKind.signed]
theorem u64_in (n : Int) (h0 : 0 ≤ n) (h1 : n < 18446744073709551616) : IntKind.u64.wrap n = n := by rw [u64_wrap]; omega
theorem i64_wrap (n : Int) : IntKind.i64.wrap n = (n + 9223372036854775808) % 18446744073709551616 - 9223372036854775808 := IntKind.wrap_i64 n

/-- A mask of the lowest b bits. -/
theorem mask64 (x : Int) (h0 : 0 ≤ x) (h1 : x < 18446744073709551616) (b : Nat) (hb : b < 64) :
    bits .and .u64 x (IntKind.u64.wrap (IntKind.u64.wrap (2 ^ b) - 1)) = x % 2 ^ b := by
  have p1 : (2 : Int) ^ b ≤ 2 ^ 63 := by
    have : (2 : Nat) ^ b ≤ 2 ^ 63 := Nat.pow_le_pow_right (by omega) (by omega)
    exact_mod_cast this
  have p0 : (0 : Int) < 2 ^ b := Int.pow_pos (by omega)
  have e1 : IntKind.u64.wrap (2 ^ b) = 2 ^ b := u64_in _ (by omega) (by omega)
  have e2 : IntKind.u64.wrap ((2 : Int) ^ b - 1) = 2 ^ b - 1 := u64_in _ (by omega) (by omega)
  rw [e1, e2, u64_and _ _ h0 h1 (by omega) (by omega)]
  have e3 : ((2 : Int) ^ b - 1).toNat = 2 ^ b - 1 := by
    have : ((2 : Int) ^ b) = ((2 ^ b : Nat) : Int) := by push_cast; rfl
    rw [this]; omega
  rw [e3, Nat.and_two_pow_sub_one_eq_mod]
  obtain ⟨n, rfl⟩ := Int.eq_ofNat_of_zero_le h0
  simp
/-- Old cells, and old marks, read as before (laid for the walk). -/
theorem bcell {W w1 : World} (hb : Bw W w1) : (∀ b o, b < W.heap.size → w1.cell? ⟨b, o, none⟩ = W.cell? ⟨b, o, none⟩) ∧ (∀ b o, b < W.heap.size → w1.frozen? ⟨b, o, none⟩ = W.frozen? ⟨b, o, none⟩) :=
  ⟨fun b o h => Below.cell hb (p := ⟨b, o, none⟩) h, fun b o h => Below.frozen hb (p := ⟨b, o, none⟩) h⟩
theorem bsize {W w1 : World} (hb : Bw W w1) : W.heap.size ≤ w1.heap.size := hb.size

/-- A block of the call's own: its cells, its type. -/
def Blk (w : World) (b : Nat) (c : Array Value) (T : TypeId) : Prop := w.heap[b]? = some (.cells c T (0, 0))
namespace Blk
variable {w W w1 : World} {b : Nat} {c : Array Value} {T : TypeId}
theorem new (w : World) (c : Array Value) (T : TypeId) : Blk (w.alloc (.cells c T)) w.heap.size c T := by
  show (w.heap.push _)[w.heap.size]? = _
  simp
theorem lt (h : Blk w b c T) : b < w.heap.size := (Array.getElem?_eq_some_iff.1 h).1
theorem bw (h : Blk W b c T) (hb : Bw W w1) : Blk w1 b c T := (Below.block hb b h.lt).trans h
theorem alloc (h : Blk w b c T) (o : Obj) : Blk (w.alloc o) b c T := (Below.heap_alloc w o b h.lt).trans h
theorem drew (h : Blk w b c T) : Blk w.drew b c T := h
theorem drewN (h : Blk w b c T) (n : Nat) : Blk (w.drewN n) b c T := h
theorem set (h : Blk w b c T) (i : Nat) (v : Value) : Blk (w.setCell ⟨b, i, none⟩ v) b (c.setIfInBounds i v) T := by
  unfold Blk at h ⊢
  simp only [World.setCell, Array.getElem?_modify, if_pos, h, Option.map_some]
  simp
theorem other (h : Blk w b c T) (a : Addr) (v : Value) (hne : a.block ≠ b) : Blk (w.setCell a v) b c T := (Below.heap_setCell w a v b (Ne.symm hne)).trans h
theorem cell (h : Blk w b c T) (i : Nat) (v : Value) (hi : c[i]? = some v) : w.cell? ⟨b, i, none⟩ = some v := by
  unfold Blk at h
  simp only [World.cell?, h, Option.isSome_none, hi]
  rfl
theorem free (h : Blk w b c T) (i : Nat) : w.frozen? ⟨b, i, none⟩ = false := by
  unfold Blk at h
  simp [World.frozen?, h]
end Blk

/-! ### A region that draws its order, whose operations only read and whose callees leave what there was: one walk in the text's order -/
/-- A world in which all that was there in w is as it was. -/
structure BwW (w : World) : Type where
  W : World
  h : Bw w W
instance (w : World) : Inhabited (BwW w) := ⟨⟨w, Bw.refl w⟩⟩
theorem BwW.cell {w : World} (p : BwW w) {a : Addr} {v : Value} (hc : w.cell? a = some v) : p.W.cell? a = some v := p.h.kept hc
theorem wp_region_bw {P : Program} {id : Nat} {Q : Exit → Act → World → Prop} {a : Act} {w : World} {l : List Oper} (hm : P.follows .mixedOrders = true) (hB : Region.lexB .any l.toArray = true)
    (h : wpQuiet P l.toArray (fun w' => ∃ p : BwW w, w' = p.W) (fun a' => ∀ w', (∃ p : BwW w, w' = p.W) → Q .normal a' w') l a) : (Code.region id l.toArray true).wp P Q a w :=
  wp_region_quiet (C := fun w' => ∃ p : BwW w, w' = p.W) hm hB ⟨⟨{ w with drawn := w.drawn + 1 }, (Bw.refl w).drew⟩, rfl⟩ (by simpa using h)
/-- A callee's contract, met in such a world. -/
theorem qcall {P : Program} {f : FuncId} {args : Array Value} {w : World} {p : BwW w} {v : Value} (h : Calls P f args p.W fun e w' => e = .returned v ∧ Bw p.W w') :
    Calls P f args p.W fun e w'' => e = .returned v ∧ ∃ q : BwW w, w'' = q.W :=
  h.mono fun _ _ ⟨he, hb⟩ => ⟨he, ⟨_, p.h.trans hb⟩, rfl⟩

/-! ### Slices that are read: element x has the cells enc x -/
def Rows {α : Type} (enc : α → List Value) (sz : Nat) (w : World) (A : Option Addr) (xs : List α) : Prop :=
  xs.length ≤ 9223372036854775807 ∧ (xs ≠ [] → ∃ ad, A = some ad ∧ ∀ j x, xs[j]? = some x → ∀ i v, (enc x)[i]? = some v → w.cell? (ad.add (j * sz + i)) = some v)
namespace Rows
variable {α : Type} {enc : α → List Value} {sz : Nat} {w w1 : World} {A : Option Addr} {xs : List α}
theorem bw (h : Rows enc sz w A xs) (hb : Bw w w1) : Rows enc sz w1 A xs :=
  ⟨h.1, fun hn => by
    obtain ⟨ad, e, hc⟩ := h.2 hn
    exact ⟨ad, e, fun j x hx i v hv => hb.kept (hc j x hx i v hv)⟩⟩
theorem nil : Rows enc sz w A [] := ⟨by simp, fun h => absurd rfl h⟩
theorem at_ (h : Rows enc sz w A xs) (j : Nat) (x : α) (hx : xs[j]? = some x) : ∃ ad, A = some ad ∧ ∀ i v, (enc x)[i]? = some v → w.cell? (ad.add (j * sz + i)) = some v := by
  obtain ⟨ad, e, hc⟩ := h.2 (by rintro rfl; simp at hx)
  exact ⟨ad, e, hc j x hx⟩
theorem own {base n : Nat} {e : TypeId} {v : Value} (hs : ∀ x, (enc x).length = sz) (h : w.ownsRow base e sz v n (xs.flatMap enc)) (hn : xs.length = n) (hm : n ≤ 9223372036854775807) :
    ∃ A c, v = .slice A xs.length c ∧ Rows enc sz w A xs := by
  subst hn
  rcases Nat.eq_zero_or_pos xs.length with h0 | h0
  · obtain rfl : xs = [] := List.length_eq_zero_iff.1 h0
    obtain ⟨A, c, hv⟩ := own_slice h
    exact ⟨A, c, hv, nil⟩
  · obtain ⟨g, cap, rfl, _, _⟩ := h.form h0
    refine ⟨_, cap, rfl, hm, fun _ => ⟨_, rfl, fun j x hx i v hv => h.cells (g := g) rfl _ v ?_⟩⟩
    have key : ∀ (ys : List α) (j : Nat), ys[j]? = some x → (ys.flatMap enc)[j * sz + i]? = some v := by
      intro ys
      induction ys with
      | nil => intro j hj; simp at hj
      | cons y ys ih =>
        intro j hj
        rw [List.flatMap_cons]
        cases j with
        | zero =>
          simp at hj
          subst hj
          have hi : i < (enc y).length := (List.getElem?_eq_some_iff.1 hv).1
          rw [Nat.zero_mul, Nat.zero_add, List.getElem?_append_left hi]
          exact hv
        | succ j =>
          rw [List.getElem?_append_right (by rw [hs, Nat.succ_mul]; omega)]
          have : (j + 1) * sz + i - (enc y).length = j * sz + i := by rw [hs, Nat.succ_mul]; omega
          rw [this]
          exact ih j (by simpa using hj)
    exact key xs j hx
/-- One cell an element: as the walk spells it. -/
theorem at1 {k : IntKind} {xs : List Int} (h : Rows (fun x => [Value.int k x]) 1 w A xs) (j : Nat) (x : Int) (hx : xs[j]? = some x) : ∃ ad, A = some ad ∧ w.cell? (ad.add j) = some (.int k x) := by
  obtain ⟨ad, e, hc⟩ := h.at_ j x hx
  exact ⟨ad, e, by simpa using hc 0 _ rfl⟩
end Rows
end Go.Proofs.Ytoklhhcjcecbbaa.M
