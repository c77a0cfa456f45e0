/- Memories (package cell): what one is, and what its functions do to it. Conditions: counters below 2^62. -/
import Derived.Test.YtclippikdfcgkaaMk
import Derived.Deep.RegionHeld3
namespace Go.Proofs.Ytclippikdfcgkaa.M
open Go.RowKit Go.Proofs.YtclippikdfcgkaaW.PrintWords Go.Proofs.YtclippikdfcgkaaW.PrintLast Go.Proofs.YtclippikdfcgkaaW.PrintMore
set_option linter.unusedVariables false
set_option linter.unusedSimpArgs false

/-- What may have changed: the blocks of S, and new ones. -/
structure Chg (S : Nat → Prop) (w w' : World) : Prop where
  os : w'.os = w.os
  tape : w'.tape = w.tape
  output : w'.output = w.output
  size : w.heap.size ≤ w'.heap.size
  block : ∀ i, i < w.heap.size → ¬ S i → w'.heap[i]? = w.heap[i]?
namespace Chg
variable {S T : Nat → Prop} {a b c : World}
theorem refl (S : Nat → Prop) (a : World) : Chg S a a := ⟨rfl, rfl, rfl, Nat.le_refl _, fun _ _ _ => rfl⟩
theorem trans (h : Chg S a b) (k : Chg S b c) : Chg S a c :=
  ⟨k.os.trans h.os, k.tape.trans h.tape, k.output.trans h.output, Nat.le_trans h.size k.size, fun i hi hs => (k.block i (Nat.lt_of_lt_of_le hi h.size) hs).trans (h.block i hi hs)⟩
theorem mono (h : Chg S a b) (hs : ∀ i, S i → T i) : Chg T a b := ⟨h.os, h.tape, h.output, h.size, fun i hi ht => h.block i hi fun q => ht (hs i q)⟩
theorem of_bw (h : Bw a b) : Chg S a b := ⟨h.os, h.tape, h.output, h.size, fun i hi _ => h.block i hi⟩
theorem set (h : Chg S a b) {p : Addr} (hp : S p.block ∨ a.heap.size ≤ p.block) (u : Value) : Chg S a (b.setCell p u) :=
  ⟨h.os, h.tape, h.output, by have := h.size; simp [World.setCell]; exact this, fun i hi hs => by
    rw [Below.heap_setCell _ _ _ _ (by rintro rfl; rcases hp with hp | hp; exact hs hp; omega)]
    exact h.block i hi hs⟩
theorem alloc (h : Chg S a b) (o : Obj) : Chg S a (b.alloc o) := ⟨h.os, h.tape, h.output, by have := h.size; simp; omega, fun i hi hs => by rw [Below.heap_alloc _ _ _ (Nat.lt_of_lt_of_le hi h.size)]; exact h.block i hi hs⟩
theorem drew (h : Chg S a b) : Chg S a b.drew := ⟨h.os, h.tape, h.output, h.size, h.block⟩
theorem drewN (h : Chg S a b) (n : Nat) : Chg S a (b.drewN n) := ⟨h.os, h.tape, h.output, h.size, h.block⟩
/-- What changes blocks made since w0 alone. -/
theorem below {w0 : World} (h : Chg S a b) (hw : Bw w0 a) (hs : ∀ i, S i → w0.heap.size ≤ i) : Bw w0 b :=
  ⟨h.os.trans hw.os, h.tape.trans hw.tape, h.output.trans hw.output, Nat.le_trans hw.size h.size, fun i hi => (h.block i (Nat.lt_of_lt_of_le hi hw.size) (fun q => by have := hs i q; omega)).trans (hw.block i hi)⟩
theorem setb (h : Chg S a b) {k i : Nat} (hk : S k) (u : Value) : Chg S a (b.setCell ⟨k, i, none⟩ u) := h.set (.inl hk) u
end Chg
theorem own_of_block {w w1 : World} {base n : Nat} {e : TypeId} {sz : Nat} {v : Value} {xs : List Value} (h : w.ownsRow base e sz v n xs) (hk : ∀ g, v.ownBlock = some g → w1.heap[g]? = w.heap[g]?) : w1.ownsRow base e sz v n xs := by
  refine ⟨h.1, ?_⟩
  rcases h.2 with h2 | ⟨g, cap, cur, rfl, hg, hh, r⟩
  · exact .inl h2
  · exact .inr ⟨g, cap, cur, rfl, hg, (hk g rfl).trans hh, r⟩
theorem Blk.of_block {w w1 : World} {b : Nat} {c : Array Value} {T : TypeId} (h : Blk w b c T) (hk : w1.heap[b]? = w.heap[b]?) : Blk w1 b c T := hk.trans h

def Blk.world {w : World} {b : Nat} {c : Array Value} {T : TypeId} (h : Blk w b c T) : World := w
structure Acc where
  kind : Int
  who : Int
  at_ : Int
  old : Int
  new : Int
  done : Bool
structure MemS where
  words : List Int
  clock : Int
  bad : Int
  last : Acc
def Acc.cells (a : Acc) : Array Value := #[.int .i64 a.kind, .int .i64 a.who, .int .i64 a.at_, .int .u64 a.old, .int .u64 a.new, .bool a.done]
def memCells (v : Value) (m : MemS) : Array Value := #[v, .int .i64 m.clock, .int .i64 m.bad, .int .i64 m.last.kind, .int .i64 m.last.who, .int .i64 m.last.at_, .int .u64 m.last.old, .int .u64 m.last.new, .bool m.last.done]
def IsMem (w : World) (base b : Nat) (v : Value) (m : MemS) : Prop :=
  base ≤ b ∧ Blk w b (memCells v m) 156 ∧ w.ownsRow base 55 1 v m.words.length (nums .u64 m.words) ∧ v.ownBlock ≠ some b
/-- The blocks of a memory. -/
def MemF (b : Nat) (v : Value) : Nat → Prop := fun i => i = b ∨ v.ownBlock = some i


theorem IsMem.bw {w w1 : World} {base b : Nat} {v : Value} {m : MemS} (h : IsMem w base b v m) (hb : Bw w w1) : IsMem w1 base b v m :=
  ⟨h.1, h.2.1.bw hb, pw_own_below h.2.2.1 hb, h.2.2.2⟩

/-- An access, done by a function. -/
def MemS.does (m : MemS) (a : Acc) (f : Int → Int × Bool) : MemS :=
  if 0 ≤ a.at_ ∧ a.at_ < m.words.length then
    { words := m.words.set a.at_.toNat (f (rd m.words a.at_)).1, clock := m.clock + 1, bad := m.bad, last := { a with old := rd m.words a.at_, done := (f (rd m.words a.at_)).2 } }
  else { words := m.words, clock := m.clock + 1, bad := m.bad + 1, last := a }

set_option maxHeartbeats 400000 in
set_option maxRecDepth 100000 in
theorem does_in (base b : Nat) (v : Value) (m : MemS) (a : Acc) (N : Nat) (caps : Array Value) (f : Int → Int × Bool) (w : World) (h : IsMem w base b v m)
    (hc : 0 ≤ m.clock ∧ m.clock < 4611686018427387904) (hat : 0 ≤ a.at_ ∧ a.at_ < m.words.length)
    (he : ∀ args W, (callFunc N args).run Try.prog W = .ok (.enter N args) W)
    (hf : ∀ W, Chg (MemF b v) w W → Calls Try.prog N (#[.int .u64 (rd m.words a.at_)] ++ caps) W fun e W' => e = .returned (.tuple #[.int .u64 (f (rd m.words a.at_)).1, .bool (f (rd m.words a.at_)).2]) ∧ Bw W W') :
    Calls Try.prog 100 #[.pointer (some ⟨b, 0, none⟩), .agg a.cells, .func (.func N) #[] caps] w fun e w' => e = .returned (.tuple #[]) ∧ IsMem w' base b v (m.does a f) ∧ Chg (MemF b v) w w' := by
  obtain ⟨h1, h2, h3, h4⟩ := h
  obtain ⟨c1, c2⟩ := hc
  obtain ⟨a1, a2⟩ := hat
  obtain ⟨g, cap, rfl, hg1, hg2⟩ := h3.form (by omega)
  have hgb : g ≠ b := by simpa [Value.ownBlock] using h4
  have hat := own_at h3 a.at_ a1 (by omega)
  have x0 := hat.1
  have H2 := Aside0.mk h2
  have H3 := Aside0.mk h3
  have HF := Aside0.mk hf
  have hlt := h2.lt
  have hne : b ≠ w.heap.size := by omega
  have hgne : g ≠ w.heap.size := by omega
  have k0 : w.cell? ⟨b, 0, none⟩ = some (.slice (some ⟨g, 0, none⟩) m.words.length cap) := h2.cell 0 _ rfl
  have k1 : w.cell? ⟨b, 1, none⟩ = some (.int .i64 m.clock) := h2.cell 1 _ rfl
  have k3 : w.cell? ⟨b, 3, none⟩ = some (.int .i64 m.last.kind) := h2.cell 3 _ rfl
  have k4 : w.cell? ⟨b, 4, none⟩ = some (.int .i64 m.last.who) := h2.cell 4 _ rfl
  have k5 : w.cell? ⟨b, 5, none⟩ = some (.int .i64 m.last.at_) := h2.cell 5 _ rfl
  have k6 : w.cell? ⟨b, 6, none⟩ = some (.int .u64 m.last.old) := h2.cell 6 _ rfl
  have k7 : w.cell? ⟨b, 7, none⟩ = some (.int .u64 m.last.new) := h2.cell 7 _ rfl
  have k8 : w.cell? ⟨b, 8, none⟩ = some (.bool m.last.done) := h2.cell 8 _ rfl
  have f1 := h2.free 1
  have f3 := h2.free 3
  have f4 := h2.free 4
  have f5 := h2.free 5
  have f6 := h2.free 6
  have f7 := h2.free 7
  have f8 := h2.free 8
  clear h2 h3 h4 hat hf
  unfold Acc.cells
  go_enter Try.func100, Try.ntmps100
  go_wp2_with fail
  have B1 := (((((((H2.out.set 1 (.int .i64 (m.clock + 1))).set 3 (.int .i64 a.kind)).set 4 (.int .i64 a.who)).set 5 (.int .i64 a.at_)).set 6 (.int .u64 a.old)).set 7 (.int .u64 a.new)).set 8 (.bool a.done)).alloc (.cells #[.int .i64 a.kind, .int .i64 a.who, .int .i64 a.at_, .int .u64 a.old, .int .u64 a.new, .bool a.done] 76)
  have L1 := Blk.new (((((((w.setCell ⟨b, 1, none⟩ (.int .i64 (m.clock + 1))).setCell ⟨b, 3, none⟩ (.int .i64 a.kind)).setCell ⟨b, 4, none⟩ (.int .i64 a.who)).setCell ⟨b, 5, none⟩ (.int .i64 a.at_)).setCell ⟨b, 6, none⟩ (.int .u64 a.old)).setCell ⟨b, 7, none⟩ (.int .u64 a.new)).setCell ⟨b, 8, none⟩ (.bool a.done)) #[.int .i64 a.kind, .int .i64 a.who, .int .i64 a.at_, .int .u64 a.old, .int .u64 a.new, .bool a.done] 76
  obtain ⟨W1, hW1⟩ : ∃ W1, W1 = B1.world := ⟨_, rfl⟩
  simp only [Blk.world] at hW1
  rw [← hW1] at B1 L1 ⊢
  have C1 : Chg (fun i => i = b) w W1 := by
    rw [hW1]
    exact ((((((((Chg.refl (fun i => i = b) w).setb rfl _).setb rfl _).setb rfl _).setb rfl _).setb rfl _).setb rfl _).setb rfl _).alloc _
  have R1 := own_of_block (w1 := W1) H3.out (fun k hk => by
    have : g = k := by simpa [Value.ownBlock] using hk
    subst this
    exact C1.block g hg2 hgb)
  clear hW1 k0 k1 k3 k4 k5 k6 k7 k8 f1 f3 f4 f5 f6 f7 f8 x0
  simp [memCells] at B1
  simp at L1
  have HR1 := Aside0.mk R1
  have HB1 := Aside0.mk B1
  have HC1 := Aside0.mk C1
  have hs1 : w.heap.size < W1.heap.size := L1.lt
  have k0 : ∀ p : BwW W1, p.W.cell? ⟨b, 0, none⟩ = some (.slice (some ⟨g, 0, none⟩) m.words.length cap) := fun p => p.cell (B1.cell 0 _ rfl)
  have l2 : ∀ p : BwW W1, p.W.cell? ⟨w.heap.size, 2, none⟩ = some (.int .i64 a.at_) := fun p => p.cell (L1.cell 2 _ rfl)
  have d1 : decide (a.at_ < 0) = false := by simp; omega
  have d2 : decide ((m.words.length : Int) ≤ a.at_) = false := by simp; omega
  clear B1 C1 R1
  refine wp_region_bw (by kernel_rfl) (by kernel_rfl) ?_
  repeat (first | go_big_quiet_skip | (go_big_quiet_want; go_big_quiet_op; first | go_big_quiet_on | go_big_quiet_call (fail)))
  refine wpQuiet_nil ?_
  rintro W2 ⟨⟨_, hb2⟩, rfl⟩
  have hs2 : W1.heap.size ≤ W2.heap.size := hb2.size
  have HB2 := Aside0.mk (HB1.out.bw hb2)
  have L2 := L1.bw hb2
  have HR2 := Aside0.mk (pw_own_below HR1.out hb2)
  have HC2 := Aside0.mk (HC1.out.trans (Chg.of_bw hb2))
  clear k0 l2
  have x2 : ∀ p : BwW W2, p.W.cell? ⟨g, a.at_.toNat, none⟩ = some (.int .u64 (rd m.words a.at_)) := fun p => p.cell (own_at HR2.out a.at_ a1 (by omega)).1
  have k0 : ∀ p : BwW W2, p.W.cell? ⟨b, 0, none⟩ = some (.slice (some ⟨g, 0, none⟩) m.words.length cap) := fun p => p.cell (HB2.out.cell 0 _ rfl)
  have l2 : ∀ p : BwW W2, p.W.cell? ⟨w.heap.size, 2, none⟩ = some (.int .i64 a.at_) := fun p => p.cell (L2.cell 2 _ rfl)
  go_wp2_with fail
  refine wp_region_bw (by kernel_rfl) (by kernel_rfl) ?_
  repeat (first | go_big_quiet_skip | (go_big_quiet_want; go_big_quiet_op; first | go_big_quiet_on | go_big_quiet_call (fail)))
  refine wpQuiet_nil ?_
  rintro W3 ⟨⟨_, hb3⟩, rfl⟩
  have HB3 := Aside0.mk (HB2.out.bw hb3)
  have L3 := L2.bw hb3
  have HR3 := Aside0.mk (pw_own_below HR2.out hb3)
  have HC3 := Aside0.mk (HC2.out.trans (Chg.of_bw hb3))
  clear k0 l2 x2
  have k6 : W3.cell? ⟨b, 6, none⟩ = some (.int .u64 a.old) := HB3.out.cell 6 _ rfl
  have f6 := HB3.out.free 6
  go_wp2_with fail
  have B4 := HB3.out.set 6 (.int .u64 (rd m.words a.at_))
  obtain ⟨W4, hW4⟩ : ∃ W4, W4 = B4.world := ⟨_, rfl⟩
  simp only [Blk.world] at hW4
  have C4 : Chg (fun i => i = b) w W4 := by rw [hW4]; exact HC3.out.setb rfl _
  have L4 : Blk W4 w.heap.size #[.int .i64 a.kind, .int .i64 a.who, .int .i64 a.at_, .int .u64 a.old, .int .u64 a.new, .bool a.done] 76 := by rw [hW4]; exact L3.other _ _ hne
  have R4 := own_of_block (w1 := W4) HR3.out (fun k hk => by
    have : g = k := by simpa [Value.ownBlock] using hk
    subst this
    rw [hW4]
    exact Below.heap_setCell _ _ _ _ hgb)
  rw [← hW4] at B4 ⊢
  simp at B4
  clear hW4 k6 f6
  have HB4 := Aside0.mk B4
  have HR4 := Aside0.mk R4
  have HC4 := Aside0.mk C4
  clear B4 R4 C4
  have k0 : W4.cell? ⟨b, 0, none⟩ = some (.slice (some ⟨g, 0, none⟩) m.words.length cap) := HB4.out.cell 0 _ rfl
  have k2 : W4.cell? ⟨w.heap.size, 2, none⟩ = some (.int .i64 a.at_) := L4.cell 2 _ rfl
  have hbw := hne
  have hbg : b ≠ g := Ne.symm hgb
  have hwb : w.heap.size ≠ b := Ne.symm hne
  have hwg : w.heap.size ≠ g := Ne.symm hgne
  have HC5 := Aside0.mk ((HC4.out.mono (T := MemF b (.slice (some ⟨g, 0, none⟩) m.words.length cap)) (fun i hi => .inl hi)).drew)
  go_region_held3 (fun W => W.cell? ⟨b, 0, none⟩ = some (.slice (some ⟨g, 0, none⟩) m.words.length cap) ∧ W.cell? ⟨w.heap.size, 2, none⟩ = some (.int .i64 a.at_)) (simp [*, World.cell?_alloc_some, World.cell?_setCell_far, World.cell?_setCell_other]) ((refine (HF.out _ HC5.out).mono ?_; rintro e W5 ⟨rfl, hb5'⟩; have hb5 := (Bw.refl W4).drew.trans hb5'; have j0 := hb5.kept (a := ⟨b, 0, none⟩) k0; have j2 := hb5.kept (a := ⟨w.heap.size, 2, none⟩) k2; have HB5 := Aside0.mk (HB4.out.bw hb5); have f8 := HB5.out.free 8; have g0 := (own_at (pw_own_below HR4.out hb5) a.at_ a1 (by omega)).2; have n0 := (own_at (pw_own_below HR4.out hb5) a.at_ a1 (by omega)).1; have k8 : W5.cell? ⟨b, 8, none⟩ = some (.bool a.done) := HB5.out.cell 8 _ rfl))
  go_end0
  have hD : m.does a f = { words := m.words.set a.at_.toNat (f (rd m.words a.at_)).1, clock := m.clock + 1, bad := m.bad, last := { a with old := rd m.words a.at_, done := (f (rd m.words a.at_)).2 } } := by
    unfold MemS.does
    rw [if_pos ⟨a1, a2⟩]
  have R5 := pw_own_below HR4.out hb5
  have hst := own_store R5 a.at_ (f (rd m.words a.at_)).1
  have C5 := (HC5.out.trans (Chg.of_bw hb5')).setb (k := g) (i := a.at_.toNat) (.inr rfl) (.int .u64 (f (rd m.words a.at_)).1) |>.setb (k := b) (i := 8) (.inl rfl) (.bool (f (rd m.words a.at_)).2)
  have R6 := own_of_block (w1 := (W5.setCell ⟨g, a.at_.toNat, none⟩ (.int .u64 (f (rd m.words a.at_)).1)).setCell ⟨b, 8, none⟩ (.bool (f (rd m.words a.at_)).2)) hst.1 (fun k hk => by
    have : g = k := by simpa [Value.ownBlock] using hk
    subst this
    exact Below.heap_setCell _ _ _ _ hgb)
  have B6 := (HB5.out.other ⟨g, a.at_.toNat, none⟩ (.int .u64 (f (rd m.words a.at_)).1) hgb).set 8 (.bool (f (rd m.words a.at_)).2)
  simp at B6
  rw [hD]
  refine ⟨rfl, ⟨h1, ?_, ?_, ?_⟩, C5⟩
  · simpa [memCells] using B6
  · simpa using R6
  · simpa [Value.ownBlock] using hgb
set_option maxHeartbeats 800000 in
set_option maxRecDepth 100000 in
theorem does_out (base b : Nat) (v : Value) (m : MemS) (a : Acc) (fv : Value) (f : Int → Int × Bool) (w : World) (h : IsMem w base b v m)
    (hc : 0 ≤ m.clock ∧ m.clock < 4611686018427387904) (hb : 0 ≤ m.bad ∧ m.bad < 4611686018427387904) (hat : ¬ (0 ≤ a.at_ ∧ a.at_ < m.words.length)) :
    Calls Try.prog 100 #[.pointer (some ⟨b, 0, none⟩), .agg a.cells, fv] w fun e w' => e = .returned (.tuple #[]) ∧ IsMem w' base b v (m.does a f) ∧ Chg (MemF b v) w w' := by
  obtain ⟨h1, h2, h3, h4⟩ := h
  obtain ⟨c1, c2⟩ := hc
  obtain ⟨b1, b2⟩ := hb
  obtain ⟨A, cap, rfl⟩ := own_slice h3
  have hD : Aside0 (m.does a f = { words := m.words, clock := m.clock + 1, bad := m.bad + 1, last := a }) := by
    unfold MemS.does
    rw [if_neg hat]
    exact ⟨rfl⟩
  have HAT := Aside0.mk hat
  clear hat
  have H2 := Aside0.mk h2
  have H3 := Aside0.mk h3
  have H4 := Aside0.mk h4
  have hlt := h2.lt
  have hne : b ≠ w.heap.size := by omega
  have k0 : w.cell? ⟨b, 0, none⟩ = some (.slice A m.words.length cap) := h2.cell 0 _ rfl
  have k1 : w.cell? ⟨b, 1, none⟩ = some (.int .i64 m.clock) := h2.cell 1 _ rfl
  have k3 : w.cell? ⟨b, 3, none⟩ = some (.int .i64 m.last.kind) := h2.cell 3 _ rfl
  have k4 : w.cell? ⟨b, 4, none⟩ = some (.int .i64 m.last.who) := h2.cell 4 _ rfl
  have k5 : w.cell? ⟨b, 5, none⟩ = some (.int .i64 m.last.at_) := h2.cell 5 _ rfl
  have k6 : w.cell? ⟨b, 6, none⟩ = some (.int .u64 m.last.old) := h2.cell 6 _ rfl
  have k7 : w.cell? ⟨b, 7, none⟩ = some (.int .u64 m.last.new) := h2.cell 7 _ rfl
  have k8 : w.cell? ⟨b, 8, none⟩ = some (.bool m.last.done) := h2.cell 8 _ rfl
  have f1 := h2.free 1
  have f3 := h2.free 3
  have f4 := h2.free 4
  have f5 := h2.free 5
  have f6 := h2.free 6
  have f7 := h2.free 7
  have f8 := h2.free 8
  clear h2 h3 h4
  unfold Acc.cells
  go_enter Try.func100, Try.ntmps100
  go_wp2_with fail
  have B1 := (((((((H2.out.set 1 (.int .i64 (m.clock + 1))).set 3 (.int .i64 a.kind)).set 4 (.int .i64 a.who)).set 5 (.int .i64 a.at_)).set 6 (.int .u64 a.old)).set 7 (.int .u64 a.new)).set 8 (.bool a.done)).alloc (.cells #[.int .i64 a.kind, .int .i64 a.who, .int .i64 a.at_, .int .u64 a.old, .int .u64 a.new, .bool a.done] 76)
  have L1 := Blk.new (((((((w.setCell ⟨b, 1, none⟩ (.int .i64 (m.clock + 1))).setCell ⟨b, 3, none⟩ (.int .i64 a.kind)).setCell ⟨b, 4, none⟩ (.int .i64 a.who)).setCell ⟨b, 5, none⟩ (.int .i64 a.at_)).setCell ⟨b, 6, none⟩ (.int .u64 a.old)).setCell ⟨b, 7, none⟩ (.int .u64 a.new)).setCell ⟨b, 8, none⟩ (.bool a.done)) #[.int .i64 a.kind, .int .i64 a.who, .int .i64 a.at_, .int .u64 a.old, .int .u64 a.new, .bool a.done] 76
  obtain ⟨W1, hW1⟩ : ∃ W1, W1 = B1.world := ⟨_, rfl⟩
  simp only [Blk.world] at hW1
  rw [← hW1] at B1 L1 ⊢
  have C1 : Chg (fun i => i = b) w W1 := by
    rw [hW1]
    exact ((((((((Chg.refl (fun i => i = b) w).setb rfl _).setb rfl _).setb rfl _).setb rfl _).setb rfl _).setb rfl _).setb rfl _).alloc _
  have R1 := own_of_block (w1 := W1) H3.out (fun k hk => C1.block k (own_lt H3.out k hk) (by rintro rfl; exact H4.out hk))
  clear hW1 k0 k1 k3 k4 k5 k6 k7 k8 f1 f3 f4 f5 f6 f7 f8
  simp [memCells] at B1
  simp at L1
  have HR1 := Aside0.mk R1
  have HB1 := Aside0.mk B1
  have HC1 := Aside0.mk C1
  have hs1 : w.heap.size < W1.heap.size := L1.lt
  have k0 : ∀ p : BwW W1, p.W.cell? ⟨b, 0, none⟩ = some (.slice A m.words.length cap) := fun p => p.cell (B1.cell 0 _ rfl)
  have l2 : ∀ p : BwW W1, p.W.cell? ⟨w.heap.size, 2, none⟩ = some (.int .i64 a.at_) := fun p => p.cell (L1.cell 2 _ rfl)
  clear B1 C1 R1
  by_cases n1 : a.at_ < 0
  · have d1 : decide (a.at_ < 0) = true := by simpa using n1
    refine wp_region_bw (by kernel_rfl) (by kernel_rfl) ?_
    repeat (first | go_big_quiet_skip | (go_big_quiet_want; go_big_quiet_op; first | go_big_quiet_on | go_big_quiet_call (fail)))
    refine wpQuiet_nil ?_
    rintro W2 ⟨⟨_, hb2⟩, rfl⟩
    have HB2 := Aside0.mk (HB1.out.bw hb2)
    have HR2 := Aside0.mk (pw_own_below HR1.out hb2)
    have HC2 := Aside0.mk (HC1.out.trans (Chg.of_bw hb2))
    clear k0 l2
    have k2 : W2.cell? ⟨b, 2, none⟩ = some (.int .i64 m.bad) := HB2.out.cell 2 _ rfl
    have f2 := HB2.out.free 2
    go_wp2_with fail
    refine bodyPost_ret (v := .tuple #[]) (by simp [results, Try.results100, go_sem]) rfl ?_
    have B3 := HB2.out.set 2 (.int .i64 (m.bad + 1))
    simp at B3
    rw [hD.out]
    refine ⟨rfl, ⟨h1, by simpa [memCells] using B3, ?_, H4.out⟩, (HC2.out.mono (fun i hi => .inl hi)).setb (.inl rfl) _⟩
    exact own_of_block HR2.out (fun k hk => Below.heap_setCell _ _ _ _ (by rintro rfl; exact H4.out hk))
  · have d1 : decide (a.at_ < 0) = false := by simpa using n1
    have d2 : decide ((m.words.length : Int) ≤ a.at_) = true := by have := HAT.out; simp; omega
    refine wp_region_bw (by kernel_rfl) (by kernel_rfl) ?_
    repeat (first | go_big_quiet_skip | (go_big_quiet_want; go_big_quiet_op; first | go_big_quiet_on | go_big_quiet_call (fail)))
    refine wpQuiet_nil ?_
    rintro W2 ⟨⟨_, hb2⟩, rfl⟩
    have HB2 := Aside0.mk (HB1.out.bw hb2)
    have HR2 := Aside0.mk (pw_own_below HR1.out hb2)
    have HC2 := Aside0.mk (HC1.out.trans (Chg.of_bw hb2))
    clear k0 l2
    have k2 : W2.cell? ⟨b, 2, none⟩ = some (.int .i64 m.bad) := HB2.out.cell 2 _ rfl
    have f2 := HB2.out.free 2
    go_wp2_with fail
    refine bodyPost_ret (v := .tuple #[]) (by simp [results, Try.results100, go_sem]) rfl ?_
    have B3 := HB2.out.set 2 (.int .i64 (m.bad + 1))
    simp at B3
    rw [hD.out]
    refine ⟨rfl, ⟨h1, by simpa [memCells] using B3, ?_, H4.out⟩, (HC2.out.mono (fun i hi => .inl hi)).setb (.inl rfl) _⟩
    exact own_of_block HR2.out (fun k hk => Below.heap_setCell _ _ _ _ (by rintro rfl; exact H4.out hk))

end Go.Proofs.Ytclippikdfcgkaa.M
