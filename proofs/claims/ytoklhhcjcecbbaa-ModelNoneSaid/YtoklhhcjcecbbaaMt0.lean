/- What a call may change: some blocks, and new ones. No condition. -/
import Derived.Test.YtoklhhcjcecbbaaMne
namespace Go.Proofs.Ytoklhhcjcecbbaa.M
open Go.RowKit Go.Proofs.YtoklhhcjcecbbaaW.PrintWords Go.Proofs.YtoklhhcjcecbbaaW.PrintLast Go.Proofs.YtoklhhcjcecbbaaW.PrintMore
set_option linter.unusedVariables false
set_option linter.unusedSimpArgs false
/-- What may have changed: the blocks of S, and new ones. -/
structure Chg (S : Nat → Prop) (w w' : World) : Prop where
  os : w'.os = w.os
  tape : w'.tape = w.tape
  output : w'.output = w.output
  size : w.heap.size ≤ w'.heap.size
  block : ∀ i, i < w.heap.size → ¬ S i → w'.heap[i]? = w.heap[i]?
namespace Chg
variable {S T : Nat → Prop} {a b c : World}
theorem refl (S : Nat → Prop) (a : World) : Chg S a a := ⟨rfl, rfl, rfl, Nat.le_refl _, fun _ _ _ => rfl⟩
theorem trans (h : Chg S a b) (k : Chg S b c) : Chg S a c :=
  ⟨k.os.trans h.os, k.tape.trans h.tape, k.output.trans h.output, Nat.le_trans h.size k.size, fun i hi hs => (k.block i (Nat.lt_of_lt_of_le hi h.size) hs).trans (h.block i hi hs)⟩
theorem mono (h : Chg S a b) (hs : ∀ i, S i → T i) : Chg T a b := ⟨h.os, h.tape, h.output, h.size, fun i hi ht => h.block i hi fun q => ht (hs i q)⟩
theorem of_bw (h : Bw a b) : Chg S a b := ⟨h.os, h.tape, h.output, h.size, fun i hi _ => h.block i hi⟩
theorem set (h : Chg S a b) {p : Addr} (hp : S p.block ∨ a.heap.size ≤ p.block) (u : Value) : Chg S a (b.setCell p u) :=
  ⟨h.os, h.tape, h.output, by have := h.size; simp [World.setCell]; exact this, fun i hi hs => by
    rw [Below.heap_setCell _ _ _ _ (by rintro rfl; rcases hp with hp | hp; exact hs hp; omega)]
    exact h.block i hi hs⟩
theorem alloc (h : Chg S a b) (o : Obj) : Chg S a (b.alloc o) := ⟨h.os, h.tape, h.output, by have := h.size; simp; omega, fun i hi hs => by rw [Below.heap_alloc _ _ _ (Nat.lt_of_lt_of_le hi h.size)]; exact h.block i hi hs⟩
theorem drew (h : Chg S a b) : Chg S a b.drew := ⟨h.os, h.tape, h.output, h.size, h.block⟩
theorem drewN (h : Chg S a b) (n : Nat) : Chg S a (b.drewN n) := ⟨h.os, h.tape, h.output, h.size, h.block⟩
/-- What changes blocks made since w0 alone. -/
theorem below {w0 : World} (h : Chg S a b) (hw : Bw w0 a) (hs : ∀ i, S i → w0.heap.size ≤ i) : Bw w0 b :=
  ⟨h.os.trans hw.os, h.tape.trans hw.tape, h.output.trans hw.output, Nat.le_trans hw.size h.size, fun i hi => (h.block i (Nat.lt_of_lt_of_le hi hw.size) (fun q => by have := hs i q; omega)).trans (hw.block i hi)⟩
theorem setb (h : Chg S a b) {k i : Nat} (hk : S k) (u : Value) : Chg S a (b.setCell ⟨k, i, none⟩ u) := h.set (.inl hk) u
end Chg
theorem own_of_block {w w1 : World} {base n : Nat} {e : TypeId} {sz : Nat} {v : Value} {xs : List Value} (h : w.ownsRow base e sz v n xs) (hk : ∀ g, v.ownBlock = some g → w1.heap[g]? = w.heap[g]?) : w1.ownsRow base e sz v n xs := by
  refine ⟨h.1, ?_⟩
  rcases h.2 with h2 | ⟨g, cap, cur, rfl, hg, hh, r⟩
  · exact .inl h2
  · exact .inr ⟨g, cap, cur, rfl, hg, (hk g rfl).trans hh, r⟩
theorem Blk.of_block {w w1 : World} {b : Nat} {c : Array Value} {T : TypeId} (h : Blk w b c T) (hk : w1.heap[b]? = w.heap[b]?) : Blk w1 b c T := hk.trans h

theorem Chg.of_grown {w w1 : World} {v : Value} (h : w.grownBy w1 v.ownBlock) : Chg (fun i => v.ownBlock = some i) w w1 := ⟨h.os, h.tape, h.output, h.size, fun i hi hs => h.block i hi (fun e => hs e.symm)⟩
def NewRow (w : World) (vg vg' : Value) : Prop := vg'.ownBlock = vg.ownBlock ∨ ∃ k, vg'.ownBlock = some k ∧ w.heap.size ≤ k
end Go.Proofs.Ytoklhhcjcecbbaa.M
