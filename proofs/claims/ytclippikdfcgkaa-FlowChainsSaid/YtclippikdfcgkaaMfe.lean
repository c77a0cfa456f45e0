/- The law FlowChains: the walk. Conditions: none. -/
import Derived.Test.YtclippikdfcgkaaMfd
namespace Go.Proofs.Ytclippikdfcgkaa.M
open Go.RowKit Go.Proofs.YtclippikdfcgkaaW.PrintWords Go.Proofs.YtclippikdfcgkaaW.PrintLast Go.Proofs.YtclippikdfcgkaaW.PrintMore
set_option linter.unusedVariables false
set_option linter.unusedSimpArgs false
structure AtFl (w wr : World) (b b' c : Nat) (v v' vg gv : Value) (m : MemS) (s : ChS) (got : List Int) (n k : Nat) (l : List Acc) (tv : Value) (A : Option Addr) (cap : Nat) : Prop where
  both : Both wr w.heap.size b b' v v' m
  ch : IsChain wr w.heap.size c s tv A cap vg
  dm : ∀ i, ChF c vg i → BothF b b' v v' i → False
  own : wr.ownsRow w.heap.size 55 1 gv got.length (nums .u64 got)
  dg : ∀ i, gv.ownBlock = some i → ¬ ChF c vg i ∧ ¬ BothF b b' v v' i
  inv : MInv n k m
  bw : Bw w wr
  eq : s = mach (newS 3 l) got
  len : got.length ≤ k
section
variable {w wr w1 w2 : World} {b b' c : Nat} {v v' vg gv : Value} {m m' : MemS} {s : ChS} {got : List Int} {n k : Nat} {l : List Acc} {tv : Value} {A : Option Addr} {cap : Nat}
theorem AtFl.bwt (h : AtFl w wr b b' c v v' vg gv m s got n k l tv A cap) (hb : Bw wr w1) : AtFl w w1 b b' c v v' vg gv m s got n k l tv A cap :=
  ⟨h.both.bw hb, h.ch.bw hb, h.dm, pw_own_below h.own hb, h.dg, h.inv, h.bw.trans hb, h.eq, h.len⟩
theorem BothF.ge (h : Both w1 w.heap.size b b' v v' m) : ∀ i, BothF b b' v v' i → w.heap.size ≤ i := fun i hi => hi.elim (fun h1 => h.1.ge i h1) (fun h1 => h.2.1.ge i h1)
theorem Both.only (h : Both w1 w.heap.size b b' v v' m) : OnlyT (MemF b v) w1 := h.1.only
theorem own_only {base : Nat} {xs : List Int} (h : wr.ownsRow base 55 1 gv xs.length (nums .u64 xs)) : OnlyT (fun i => gv.ownBlock = some i) wr := fun i cs t fr hi he => by
  rcases h.2 with ⟨e, _⟩ | ⟨g, cap', cur, e, _, hh, _⟩
  · rw [e] at hi; simp [Value.ownBlock] at hi
  · rw [e] at hi
    have hgi : g = i := by simpa [Value.ownBlock] using hi
    subst hgi
    have := hh.symm.trans he
    injection this with this
    injection this with _ this
    exact .inr (.inl this.symm)
theorem IsRef.only {base : Nat} (h : IsRef wr base b v m) : OnlyT (MemF b v) wr := fun i cs t fr hi he => by
  rcases hi with rfl | hi
  · have := h.2.1.symm.trans he
    injection this with this
    injection this with _ this
    exact .inr (.inr (.inr this.symm))
  · exact own_only h.2.2.1 i cs t fr hi he
theorem OnlyT.or {S T : Nat → Prop} (hs : OnlyT S wr) (ht : OnlyT T wr) : OnlyT (fun i => S i ∨ T i) wr := fun i cs t fr hi he => hi.elim (fun h => hs i cs t fr h he) (fun h => ht i cs t fr h he)
theorem BothF.lt (h : Both w1 w.heap.size b b' v v' m) : ∀ i, BothF b b' v v' i → i < w1.heap.size := fun i hi => hi.elim (fun h1 => h.1.lt i h1) (fun h1 => by
  rcases h1 with rfl | h1
  · exact h.2.1.2.1.lt
  · exact own_lt h.2.1.2.2.1 i h1)
theorem AtFl.poke (h : AtFl w wr b b' c v v' vg gv m s got n k l tv A cap) (hr : Both w1 w.heap.size b b' v v' m') (hc : Chg (BothF b b' v v') wr w1) (hi : MInv n (k + 1) m') : AtFl w w1 b b' c v v' vg gv m' s got n (k + 1) l tv A cap :=
  ⟨hr, h.ch.chg hc (OnlyT.or h.both.1.only (IsRef.only h.both.2.1)) h.dm, h.dm, own_of_block h.own (fun j hj => hc.block j (own_lt h.own j hj) (h.dg j hj).2), h.dg, hi, hc.below h.bw (BothF.ge h.both), h.eq, Nat.le_trans h.len (Nat.le_succ k)⟩
structure Turned (w w1 : World) (b b' c : Nat) (v v' vg u : Value) (m m' : MemS) (s : ChS) (got' : List Int) (tv : Value) (A : Option Addr) (cap : Nat) : Prop where
  mem : IsMem w1 w.heap.size b v m
  ref : IsRef w1 w.heap.size b' v' m'
  ch : IsChain w1 w.heap.size c s tv A cap vg
  own : w1.ownsRow w.heap.size 55 1 u got'.length (nums .u64 got')
  dg : ∀ i, u.ownBlock = some i → ¬ ChF c vg i ∧ ¬ BothF b b' v v' i
  dm : ∀ i, ChF c vg i → BothF b b' v v' i → False
  dd : ∀ i, MemF b v i → MemF b' v' i → False
  bw : Bw w w1
  rlt : ∀ i, BothF b b' v v' i → i < w1.heap.size
theorem AtFl.turned {u : Value} {got' : List Int} (h : AtFl w wr b b' c v v' vg gv m s got n k l tv A cap) (hR : IsRef w1 w.heap.size b' v' m') (hO : w1.ownsRow w.heap.size 55 1 u got'.length (nums .u64 got')) (hc : Chg (fun i => MemF b' v' i ∨ gv.ownBlock = some i) wr w1) (hu : u.ownBlock = gv.ownBlock ∨ ∃ k, u.ownBlock = some k ∧ wr.heap.size ≤ k) : Turned w w1 b b' c v v' vg u m m' s got' tv A cap := by
  have hB := BothF.lt h.both
  refine ⟨h.both.1.chg hc ?_, hR, h.ch.chg hc (OnlyT.or (IsRef.only h.both.2.1) (own_only h.own)) ?_, hO, ?_, h.dm, h.both.2.2, hc.below h.bw ?_, fun i hi => Nat.lt_of_lt_of_le (hB i hi) hc.size⟩
  · intro i hi hj
    rcases hj with hj | hj
    · exact h.both.2.2 i hi hj
    · exact (h.dg i hj).2 (.inl hi)
  · intro i hi hj
    rcases hj with hj | hj
    · exact h.dm i hi (.inr hj)
    · exact (h.dg i hj).1 hi
  · intro i hi
    rcases hu with e | ⟨k, e, hk⟩
    · exact h.dg i (by rw [← e]; exact hi)
    · rw [e] at hi
      injection hi with hi
      subst hi
      exact ⟨fun hj => by have := h.ch.lt _ hj; omega, fun hj => by have := hB _ hj; omega⟩
  · intro i hi
    rcases hi with hi | hi
    · exact h.both.2.1.ge i hi
    · exact own_base h.own i hi
theorem Turned.stepped {u vg' tv' : Value} {A' : Option Addr} {cap' : Nat} {got' : List Int} {s' : ChS} (h : Turned w w1 b b' c v v' vg u m m' s got' tv A cap) (hm : IsMem w2 w.heap.size b v m') (hch : IsChain w2 w.heap.size c s' tv' A' cap' vg') (hc : Chg (fun i => ChF c vg i ∨ MemF b v i) w1 w2) (hn : NewRow w1 vg vg') (hi : MInv n (k + 1) m') (he : s' = mach (newS 3 l) got') (hl : got'.length ≤ k + 1) : AtFl w w2 b b' c v v' vg' u m' s' got' n (k + 1) l tv' A' cap' := by
  have hC : ∀ i, ChF c vg' i → ChF c vg i ∨ w1.heap.size ≤ i := by
    rintro i (hi | hi)
    · exact .inl (.inl hi)
    · rcases hn with e | ⟨k, e, hk⟩
      · exact .inl (.inr (by rw [← e]; exact hi))
      · rw [e] at hi
        injection hi with hi
        subst hi
        exact .inr hk
  refine ⟨⟨hm, h.ref.chg hc ?_, h.dd⟩, hch, ?_, own_of_block h.own (fun j hj => hc.block j (own_lt h.own j hj) ?_), ?_, hi, hc.below h.bw ?_, he, hl⟩
  · intro i hi hj
    rcases hj with hj | hj
    · exact h.dm i hj (.inr hi)
    · exact h.dd i hj hi
  · intro i hi hj
    rcases hC i hi with hi | hi
    · exact h.dm i hi hj
    · have := h.rlt i hj; omega
  · intro hx
    rcases hx with hx | hx
    · exact (h.dg j hj).1 hx
    · exact (h.dg j hj).2 (.inl hx)
  · intro i hi
    refine ⟨fun hj => ?_, (h.dg i hi).2⟩
    rcases hC i hj with hj | hj
    · exact (h.dg i hi).1 hj
    · have := own_lt h.own i hi; omega
  · intro i hi
    rcases hi with hi | hi
    · exact h.ch.ge i hi
    · exact h.mem.ge i hi
end
end Go.Proofs.Ytclippikdfcgkaa.M
