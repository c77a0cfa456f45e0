/- Package flow: what a chain is, and how it goes on. No condition. -/
import Derived.Test.YtclippikdfcgkaaMf
import Derived.Deep.CutRange
namespace Go.Proofs.Ytclippikdfcgkaa.M
open Go.RowKit Go.Proofs.YtclippikdfcgkaaW.PrintWords Go.Proofs.YtclippikdfcgkaaW.PrintLast Go.Proofs.YtclippikdfcgkaaW.PrintMore
set_option linter.unusedVariables false
set_option linter.unusedSimpArgs false
abbrev encAc : Acc → List Value := fun a => [.int .i64 a.kind, .int .i64 a.who, .int .i64 a.at_, .int .u64 a.old, .int .u64 a.new, .bool a.done]
structure ChS where
  who : Int
  kind : Int
  at_ : Int
  old : Int
  w : Int
  asleep : Bool
  rest : List Acc
  got : List Int
def chCells (s : ChS) (tv vl vg : Value) : Array Value :=
  #[.int .i64 s.who, .int .i64 s.kind, .int .i64 s.at_, .int .u64 s.old, .int .u64 s.w, tv, .bool s.asleep, Value.nilIface, Value.nilFunc, vl, .slice none 0 0, vg]
/-- What is still to come lies in a row of accesses. -/
def RestOk (w : World) (A : Option Addr) (cap : Nat) (rest : List Acc) : Prop :=
  rest.length ≤ cap ∧ cap ≤ 9223372036854775807 ∧ (rest ≠ [] → ∃ g base0 cap0 i all, A = some ⟨g, i * 6, none⟩ ∧ w.ownsRow base0 76 6 (.slice (some ⟨g, 0, none⟩) all.length cap0) all.length ((all : List Acc).flatMap encAc) ∧ rest = all.drop i)
def ThenOk (w : World) (b : Nat) (k : Int) (tv : Value) : Prop :=
  if k = 0 then True
  else if k = 2 then ∃ p q, tv = .func (.func 150) #[] #[.pointer (some ⟨p, 0, none⟩)] ∧ Blk w p #[.func (.func 139) #[] #[.pointer (some ⟨q, 0, none⟩)]] 1 ∧ Blk w q #[.pointer (some ⟨b, 0, none⟩)] 115
  else if k = 3 then ∃ p, tv = .func (.func 151) #[] #[.pointer (some ⟨p, 0, none⟩)] ∧ Blk w p #[.func (.func 141) #[.pointer (some ⟨b, 0, none⟩)] #[]] 215
  else tv = .func (.func 136) #[.pointer (some ⟨b, 0, none⟩)] #[]
structure IsChain (w : World) (base b : Nat) (s : ChS) (tv : Value) (A : Option Addr) (cap : Nat) (vg : Value) : Prop where
  le : base ≤ b
  blk : Blk w b (chCells s tv (.slice A s.rest.length cap) vg) 185
  rest : RestOk w A cap s.rest
  got : w.ownsRow base 55 1 vg s.got.length (nums .u64 s.got)
  then_ : ThenOk w b s.kind tv
  fun_ : ∃ fn bs cs, tv = .func fn bs cs ∨ tv = Value.nilFunc
theorem flat_getA {α : Type} {enc : α → List Value} {sz : Nat} (hs : ∀ x, (enc x).length = sz) : ∀ (xs : List α) (j : Nat) (x : α), xs[j]? = some x → ∀ (i : Nat) (u : Value), (enc x)[i]? = some u → (xs.flatMap enc)[j * sz + i]? = some u
  | [], j, x, h, _, _, _ => by simp at h
  | y :: ys, j, x, h, i, u, hu => by
    rw [List.flatMap_cons]
    cases j with
    | zero =>
      simp at h
      subst h
      have hi : i < (enc y).length := (List.getElem?_eq_some_iff.1 hu).1
      rw [Nat.zero_mul, Nat.zero_add, List.getElem?_append_left hi]
      exact hu
    | succ j =>
      rw [List.getElem?_append_right (by rw [hs, Nat.succ_mul]; omega)]
      have : (j + 1) * sz + i - (enc y).length = j * sz + i := by rw [hs, Nat.succ_mul]; omega
      rw [this]
      exact flat_getA hs ys j x (by simpa using h) i u hu
/-- Blocks of other types are kept. -/
def OnlyT (S : Nat → Prop) (w : World) : Prop := ∀ i cs t fr, S i → w.heap[i]? = some (.cells cs t fr) → t = 185 ∨ (t = 55 ∨ (t = 156 ∨ t = 78))
theorem Blk.keepT {S : Nat → Prop} {w w1 : World} {p : Nat} {c : Array Value} {t : TypeId} (h : Blk w p c t) (hc : Chg S w w1) (hS : OnlyT S w) (h1 : t ≠ 185) (h2 : t ≠ 55 ∧ ¬ (t = 156 ∨ t = 78)) : Blk w1 p c t :=
  h.of_block (hc.block p h.lt fun hs => by
    rcases hS p _ _ _ hs h with e | e | e
    · exact h1 e
    · exact h2.1 e
    · exact h2.2 e)
theorem RestOk.keepT {S : Nat → Prop} {w w1 : World} {A : Option Addr} {cap : Nat} {rest : List Acc} (h : RestOk w A cap rest) (hc : Chg S w w1) (hS : OnlyT S w) : RestOk w1 A cap rest :=
  ⟨h.1, h.2.1, fun hn => by
    obtain ⟨g, base0, cap0, i, all, e1, ho, e2⟩ := h.2.2 hn
    refine ⟨g, base0, cap0, i, all, e1, own_of_block ho (fun k hk => ?_), e2⟩
    have hkg : g = k := by simpa [Value.ownBlock] using hk
    subst hkg
    rcases ho.2 with ⟨e, _⟩ | ⟨g', cap', cur, e, _, hh, _⟩
    · cases e
    · injection e with e _ _
      injection e with e
      injection e with e _ _
      subst e
      exact hc.block g (own_lt ho g rfl) fun hs => by rcases hS g _ _ _ hs hh with e | e | e <;> simp at e⟩
theorem ThenOk.keepT {S : Nat → Prop} {w w1 : World} {b : Nat} {k : Int} {tv : Value} (h : ThenOk w b k tv) (hc : Chg S w w1) (hS : OnlyT S w) : ThenOk w1 b k tv := by
  unfold ThenOk at h ⊢
  split
  · trivial
  · rename_i h0
    rw [if_neg h0] at h
    split
    · rename_i h2
      rw [if_pos h2] at h
      obtain ⟨p, q, e, h3, h4⟩ := h
      exact ⟨p, q, e, h3.keepT hc hS (by decide) (by decide), h4.keepT hc hS (by decide) (by decide)⟩
    · rename_i h2
      rw [if_neg h2] at h
      split
      · rename_i h3
        rw [if_pos h3] at h
        obtain ⟨p, e, h4⟩ := h
        exact ⟨p, e, h4.keepT hc hS (by decide) (by decide)⟩
      · rename_i h3
        rw [if_neg h3] at h
        exact h
theorem OnlyT.none (w : World) : OnlyT (fun _ => False) w := fun _ _ _ _ h => h.elim
theorem OnlyT.blk {w : World} {b : Nat} {c : Array Value} (h : Blk w b c 185) : OnlyT (fun i => i = b) w := fun i cs t fr hi he => by
  subst hi
  have := h.symm.trans he
  injection this with this
  injection this with _ this
  exact .inl this.symm
structure IsCore (w : World) (base b : Nat) (s : ChS) (tv : Value) (A : Option Addr) (cap : Nat) (vg : Value) : Prop where
  le : base ≤ b
  blk : Blk w b (chCells s tv (.slice A s.rest.length cap) vg) 185
  rest : RestOk w A cap s.rest
  got : w.ownsRow base 55 1 vg s.got.length (nums .u64 s.got)
section
variable {w w1 : World} {base b : Nat} {s : ChS} {tv : Value} {A : Option Addr} {cap : Nat} {vg : Value}
theorem IsCore.setc (h : IsCore w base b s tv A cap vg) (i : Nat) (v : Value) : Chg (fun j => j = b) w (w.setCell ⟨b, i, none⟩ v) ∧ RestOk (w.setCell ⟨b, i, none⟩ v) A cap s.rest ∧ (w.setCell ⟨b, i, none⟩ v).ownsRow base 55 1 vg s.got.length (nums .u64 s.got) := by
  have C := (Chg.refl (fun j => j = b) w).setb (k := b) (i := i) rfl v
  have hne : some b ≠ vg.ownBlock := own_ne (t := 185) h.got h.blk (by decide)
  exact ⟨C, h.rest.keepT C (OnlyT.blk h.blk), own_setCell (p := ⟨b, i, none⟩) h.got hne v⟩
theorem IsCore.kind (h : IsCore w base b s tv A cap vg) (k : Int) : IsCore (w.setCell ⟨b, 1, none⟩ (.int .i64 k)) base b { s with kind := k } tv A cap vg := ⟨h.le, by simpa [chCells] using h.blk.set 1 (.int .i64 k), (h.setc 1 _).2.1, (h.setc 1 _).2.2⟩
theorem IsCore.at_ (h : IsCore w base b s tv A cap vg) (k : Int) : IsCore (w.setCell ⟨b, 2, none⟩ (.int .i64 k)) base b { s with at_ := k } tv A cap vg := ⟨h.le, by simpa [chCells] using h.blk.set 2 (.int .i64 k), (h.setc 2 _).2.1, (h.setc 2 _).2.2⟩
theorem IsCore.old (h : IsCore w base b s tv A cap vg) (k : Int) : IsCore (w.setCell ⟨b, 3, none⟩ (.int .u64 k)) base b { s with old := k } tv A cap vg := ⟨h.le, by simpa [chCells] using h.blk.set 3 (.int .u64 k), (h.setc 3 _).2.1, (h.setc 3 _).2.2⟩
theorem IsCore.w_ (h : IsCore w base b s tv A cap vg) (k : Int) : IsCore (w.setCell ⟨b, 4, none⟩ (.int .u64 k)) base b { s with w := k } tv A cap vg := ⟨h.le, by simpa [chCells] using h.blk.set 4 (.int .u64 k), (h.setc 4 _).2.1, (h.setc 4 _).2.2⟩
theorem IsCore.setT (h : IsCore w base b s tv A cap vg) (t : Value) : IsCore (w.setCell ⟨b, 5, none⟩ t) base b s t A cap vg := ⟨h.le, by simpa [chCells] using h.blk.set 5 t, (h.setc 5 _).2.1, (h.setc 5 _).2.2⟩
theorem IsCore.asl (h : IsCore w base b s tv A cap vg) (k : Bool) : IsCore (w.setCell ⟨b, 6, none⟩ (.bool k)) base b { s with asleep := k } tv A cap vg := ⟨h.le, by simpa [chCells] using h.blk.set 6 (.bool k), (h.setc 6 _).2.1, (h.setc 6 _).2.2⟩
theorem IsCore.comes (h : IsCore w base b s tv A cap vg) (k a o x : Int) (t : Value) : IsCore (comesW w b k a o x t) base b { s with kind := k, at_ := a, old := o, w := x } t A cap vg := ((((h.kind k).at_ a).old o).w_ x).setT t
theorem comes_chg (w : World) (b : Nat) (k a o x : Int) (t : Value) : Chg (fun j => j = b) w (comesW w b k a o x t) := by
  have h := (((((Chg.refl (fun j => j = b) w).setb (k := b) (i := 1) rfl (.int .i64 k)).setb (k := b) (i := 2) rfl (.int .i64 a)).setb (k := b) (i := 3) rfl (.int .u64 o)).setb (k := b) (i := 4) rfl (.int .u64 x)).setb (k := b) (i := 5) rfl t
  exact h
theorem IsCore.bw (h : IsCore w base b s tv A cap vg) (hb : Bw w w1) : IsCore w1 base b s tv A cap vg := ⟨h.le, h.blk.bw hb, h.rest.keepT (Chg.of_bw hb) (OnlyT.none w), pw_own_below h.got hb⟩
theorem IsCore.there (h : IsCore w base b s tv A cap vg) : FlowThere w b := fun i h1 h2 => by
  refine ⟨?_, h.blk.free i⟩
  have hi : i < (chCells s tv (.slice A s.rest.length cap) vg).size := by simp [chCells]; omega
  exact ⟨_, h.blk.cell i _ (Array.getElem?_eq_getElem hi)⟩
theorem IsChain.core (h : IsChain w base b s tv A cap vg) : IsCore w base b s tv A cap vg := ⟨h.le, h.blk, h.rest, h.got⟩
theorem IsCore.chain (h : IsCore w base b s tv A cap vg) (ht : ThenOk w b s.kind tv) (hf : ∃ fn bs cs, tv = .func fn bs cs ∨ tv = Value.nilFunc) : IsChain w base b s tv A cap vg := ⟨h.le, h.blk, h.rest, h.got, ht, hf⟩
end
section
variable {w w1 : World} {base b : Nat} {s : ChS} {tv : Value} {A : Option Addr} {cap : Nat} {vg : Value}
theorem IsChain.bw (h : IsChain w base b s tv A cap vg) (hb : Bw w w1) : IsChain w1 base b s tv A cap vg :=
  ⟨h.le, h.blk.bw hb, h.rest.keepT (Chg.of_bw hb) (OnlyT.none w), pw_own_below h.got hb, h.then_.keepT (Chg.of_bw hb) (OnlyT.none w), h.fun_⟩
def goS (s : ChS) : List Acc → ChS
  | [] => { s with rest := [] }
  | a :: r =>
    if a.kind = 0 then { s with kind := 5, at_ := a.at_, old := 0, w := 0, asleep := false, rest := r }
    else if a.kind = 1 then { s with kind := 1, at_ := a.at_, old := 0, w := 0, rest := r }
    else if a.kind = 2 then { s with kind := 2, at_ := a.at_, old := 0, w := a.new, rest := r }
    else if a.kind = 3 then { s with kind := 3, at_ := a.at_, old := a.old, w := a.new, rest := r }
    else if a.kind = 4 then { s with kind := 4, at_ := a.at_, old := 0, w := a.new, rest := r }
    else goS s r
def GoPost (w : World) (base b : Nat) (s' : ChS) (vg : Value) (e : Ending) (w' : World) : Prop := e = .returned (.tuple #[]) ∧ ∃ tv A cap, IsChain w' base b s' tv A cap vg ∧ Chg (fun i => i = b) w w'
theorem goS_rest (s : ChS) : ∀ (r r' : List Acc), goS { s with rest := r' } r = goS s r
  | [], _ => rfl
  | a :: r, r' => by
    unfold goS
    rw [goS_rest s r r']
set_option maxHeartbeats 1000000 in
set_option maxRecDepth 100000 in
theorem goOn_nil (h : IsChain w base b s tv A cap vg) (hr : s.rest = []) :
    Calls Try.prog 114 #[.pointer (some ⟨b, 0, none⟩)] w fun e w' => e = .returned (.tuple #[]) ∧ Bw w w' := by
  have HB := Aside0.mk (Bw.refl w)
  have k9 : w.cell? ⟨b, 9, none⟩ = some (.slice A 0 cap) := by have := h.blk.cell 9 _ rfl; rw [hr] at this; exact this
  have hlt := h.blk.lt
  clear h hr
  go_enter Try.func114, Try.ntmps114
  go_wp2_with fail
  refine bodyPost_ret (v := .tuple #[]) (by simp [results, Try.results114, go_sem]) rfl ⟨rfl, (by repeat (first | (with_reducible first | exact HB.out) | refine Bw.alloc ?_ _ | refine Bw.setCell ?_ (by first | exact Nat.le_refl _ | (simp; omega)) _ | refine Bw.drew ?_ | refine Bw.drewN ?_ _))⟩
set_option maxHeartbeats 1000000 in
set_option maxRecDepth 100000 in
theorem goOn_cons (a : Acc) (r : List Acc) (h : IsChain w base b s tv A cap vg) (hr : s.rest = a :: r) (hk : s.kind = 0)
    (ih : ∀ (W : World) (A' : Option Addr) (cap' : Nat), IsChain W base b { s with rest := r } tv A' cap' vg → Calls Try.prog 114 #[.pointer (some ⟨b, 0, none⟩)] W (GoPost W base b (goS s r) vg)) :
    Calls Try.prog 114 #[.pointer (some ⟨b, 0, none⟩)] w (GoPost w base b (goS s (a :: r)) vg) := by
  have HIH := Aside0.mk ih
  have HK := Aside0.mk hk
  have HGS : Aside0 (goS s (a :: r) = if a.kind = 0 then { s with kind := 5, at_ := a.at_, old := 0, w := 0, asleep := false, rest := r } else if a.kind = 1 then { s with kind := 1, at_ := a.at_, old := 0, w := 0, rest := r } else if a.kind = 2 then { s with kind := 2, at_ := a.at_, old := 0, w := a.new, rest := r } else if a.kind = 3 then { s with kind := 3, at_ := a.at_, old := a.old, w := a.new, rest := r } else if a.kind = 4 then { s with kind := 4, at_ := a.at_, old := 0, w := a.new, rest := r } else goS s r) := ⟨rfl⟩
  clear ih hk
  have HB := Aside0.mk (Bw.refl w)
  obtain ⟨g, base0, cap0, i, all, rfl, ho, hd⟩ := h.rest.2.2 (by rw [hr]; simp)
  have hai : all[i]? = some a := by
    have : (all.drop i)[0]? = some a := by rw [← hd, hr]; rfl
    rwa [List.getElem?_drop, Nat.add_zero] at this
  obtain ⟨hc1, hc2, _⟩ := h.rest
  rw [hr] at hc1
  simp at hc1
  have fg : ∀ (q : Nat) (u : Value), (encAc a)[q]? = some u → w.cell? ⟨g, i * 6 + q, none⟩ = some u := fun q u hu => by
    have := ho.cells (g := g) rfl (i * 6 + q) u (flat_getA (enc := encAc) (sz := 6) (fun _ => rfl) all i a hai q u hu)
    rwa [add_plain] at this
  have a0 : w.cell? ⟨g, i * 6, none⟩ = some (.int .i64 a.kind) := by simpa using fg 0 _ rfl
  have a1 : w.cell? ⟨g, i * 6 + 1, none⟩ = some (.int .i64 a.who) := fg 1 _ rfl
  have a2 : w.cell? ⟨g, i * 6 + 2, none⟩ = some (.int .i64 a.at_) := fg 2 _ rfl
  have a3 : w.cell? ⟨g, i * 6 + 3, none⟩ = some (.int .u64 a.old) := fg 3 _ rfl
  have a4 : w.cell? ⟨g, i * 6 + 4, none⟩ = some (.int .u64 a.new) := fg 4 _ rfl
  have a5 : w.cell? ⟨g, i * 6 + 5, none⟩ = some (.bool a.done) := fg 5 _ rfl
  have hgl : g < w.heap.size := own_lt ho g rfl
  have k9 : w.cell? ⟨b, 9, none⟩ = some (.slice (some ⟨g, i * 6, none⟩) (r.length + 1) cap) := by have := h.blk.cell 9 _ rfl; rw [hr] at this; exact this
  have f9 := h.blk.free 9
  have hlt := h.blk.lt
  have H := Aside0.mk h
  have HR := Aside0.mk hr
  have HO := Aside0.mk ho
  have HD := Aside0.mk hd
  clear h hr ho hd hai fg
  have L1 := (Blk.new w #[.pointer (some ⟨b, 0, none⟩)] 115).alloc (.cells #[.int .i64 a.kind, .int .i64 a.who, .int .i64 a.at_, .int .u64 a.old, .int .u64 a.new, .bool a.done] 76)
  have L2 := Blk.new (w.alloc (.cells #[.pointer (some ⟨b, 0, none⟩)] 115)) #[.int .i64 a.kind, .int .i64 a.who, .int .i64 a.at_, .int .u64 a.old, .int .u64 a.new, .bool a.done] 76
  rw [show (w.alloc (.cells #[.pointer (some ⟨b, 0, none⟩)] 115)).heap.size = w.heap.size + 1 by simp] at L2
  have HL1 := Aside0.mk L1
  have HL2 := Aside0.mk L2
  clear L1 L2
  go_enter Try.func114, Try.ntmps114
  go_upto_region 3 with fail
  obtain ⟨W2, hW2⟩ : ∃ W2, W2 = (w.alloc (.cells #[.pointer (some ⟨b, 0, none⟩)] 115)).alloc (.cells #[.int .i64 a.kind, .int .i64 a.who, .int .i64 a.at_, .int .u64 a.old, .int .u64 a.new, .bool a.done] 76) := ⟨_, rfl⟩
  have HW2 := Aside0.mk (show Bw w W2 by rw [hW2]; exact (HB.out.alloc _).alloc _)
  rw [← hW2] at HL1 HL2 ⊢
  clear hW2 a0 a1 a2 a3 a4 a5 k9 f9
  have H2 := Aside0.mk (H.out.bw HW2.out)
  go_cut [] from 15 to 22 (fun wx => ∃ A' cap', Aside0 (IsCore wx base b { s with rest := r } tv A' cap' vg) ∧ Aside0 (Chg (fun i => i = b) W2 wx))
  case first =>
    have k9 : W2.cell? ⟨b, 9, none⟩ = some (.slice (some ⟨g, i * 6, none⟩) (r.length + 1) cap) := by have := H2.out.blk.cell 9 _ rfl; rw [HR.out] at this; exact this
    have f9 := H2.out.blk.free 9
    have hlt := H2.out.blk.lt
    have q1 := HL1.out.cell 0 _ rfl
    have hr0 : (0 : Int) ≤ (r.length : Int) := by omega
    by_cases hcap : cap = 1
    · subst hcap
      have hr1 : r.length = 0 := by omega
      go_wp2_with fail
      go_region
      all_goals go_wp2_with fail
      all_goals go_meet
      all_goals (case rel =>
        have hrn : r = [] := List.length_eq_zero_iff.1 hr1
        have hc := H2.out.core.setc 9 (.slice (some ⟨g, i * 6, none⟩) 0 0)
        refine ⟨some ⟨g, i * 6, none⟩, 0, ⟨⟨H2.out.le, ?_, ⟨by rw [hrn]; simp, by omega, fun h => absurd hrn h⟩, hc.2.2⟩⟩, ⟨hc.1.drew⟩⟩
        have := (H2.out.blk.set 9 (.slice (some ⟨g, i * 6, none⟩) 0 0)).drew
        simp only [hrn]
        simpa [chCells] using this)
    · have hcap2 : 2 ≤ cap := by omega
      go_wp2_with fail
      go_region
      all_goals go_wp2_with fail
      all_goals go_meet
      all_goals (case rel =>
        have hc := H2.out.core.setc 9 (.slice (some ⟨g, i * 6 + 6, none⟩) r.length (cap - 1))
        have hne : some b ≠ (Value.slice (some ⟨g, 0, none⟩) all.length cap0).ownBlock := own_ne (t := 185) (pw_own_below HO.out HW2.out) H2.out.blk (by decide)
        refine ⟨some ⟨g, i * 6 + 6, none⟩, cap - 1, ⟨⟨H2.out.le, ?_, ⟨by show r.length ≤ cap - 1; omega, by omega, fun _ => ⟨g, base0, cap0, i + 1, all, by rw [Nat.succ_mul], own_setCell (p := ⟨b, 9, none⟩) (pw_own_below HO.out HW2.out) hne _, ?_⟩⟩, hc.2.2⟩⟩, ⟨hc.1.drew⟩⟩
        · have := (H2.out.blk.set 9 (.slice (some ⟨g, i * 6 + 6, none⟩) r.length (cap - 1))).drew
          simpa [chCells] using this
        · have h1 := HR.out
          rw [HD.out] at h1
          have h2 := congrArg List.tail h1
          rw [List.tail_drop] at h2
          exact h2.symm)
  case rest =>
    obtain ⟨A', cap', HC, HV⟩ := hcut
    have HL1 := Aside0.mk (HL1.out.keepT HV.out (OnlyT.blk H2.out.blk) (by decide) (by decide))
    have HL2 := Aside0.mk (HL2.out.keepT HV.out (OnlyT.blk H2.out.blk) (by decide) (by decide))
    have a0 : wc.cell? ⟨w.heap.size + 1, 0, none⟩ = some (.int .i64 a.kind) := HL2.out.cell 0 _ rfl
    have s1 : wc.cell? ⟨w.heap.size, 0, none⟩ = some (.pointer (some ⟨b, 0, none⟩)) := HL1.out.cell 0 _ rfl
    have s2 : wc.cell? ⟨w.heap.size + 1, 2, none⟩ = some (.int .i64 a.at_) := HL2.out.cell 2 _ rfl
    have s3 : wc.cell? ⟨w.heap.size + 1, 3, none⟩ = some (.int .u64 a.old) := HL2.out.cell 3 _ rfl
    have s4 : wc.cell? ⟨w.heap.size + 1, 4, none⟩ = some (.int .u64 a.new) := HL2.out.cell 4 _ rfl
    have HCd := Aside0.mk (HC.out.bw (Bw.refl wc).drew)
    have hbl := HC.out.blk.lt
    have CV := Aside0.mk (((Chg.of_bw HW2.out : Chg (fun i => i = b) w W2).trans HV.out).drew)
    by_cases h0 : a.kind = 0
    · have HG2 := Aside0.mk (HGS.out.trans (by rw [if_pos h0]))
      have e0 : (a.kind == 0) = true := by simpa using h0
      clear h0
      go_wp2_with fail
      go_region_held3 (fun W => W.cell? ⟨w.heap.size, 0, none⟩ = some (.pointer (some ⟨b, 0, none⟩)) ∧ W.cell? ⟨w.heap.size + 1, 2, none⟩ = some (.int .i64 a.at_) ∧ W.cell? ⟨w.heap.size + 1, 3, none⟩ = some (.int .u64 a.old) ∧ W.cell? ⟨w.heap.size + 1, 4, none⟩ = some (.int .u64 a.new)) (exact ⟨s1, s2, s3, s4⟩) ((go_at_call 135; refine (fSleep_calls b a.at_ (.func 136) #[.pointer (some ⟨b, 0, none⟩)] #[] _ HCd.out.there HCd.out.blk.lt).mono ?_; rintro e w5 ⟨rfl, hw5⟩; have C5 := Aside0.mk (show Chg (fun i => i = b) wc.drew w5 from hw5 ▸ ((Chg.refl (fun i => i = b) _).setb (k := b) (i := 6) rfl (.bool false)).trans (comes_chg _ b _ _ _ _ _)); have I5 := Aside0.mk (show IsCore w5 base b _ _ A' cap' vg from hw5 ▸ (HCd.out.asl false).comes 5 a.at_ 0 0 _);  have HL1 := Aside0.mk ((HL1.out.bw (Bw.refl wc).drew).keepT C5.out (OnlyT.blk HCd.out.blk) (by decide) (by decide)); have HL2 := Aside0.mk ((HL2.out.bw (Bw.refl wc).drew).keepT C5.out (OnlyT.blk HCd.out.blk) (by decide) (by decide)); have s1 := HL1.out.cell 0 _ rfl; have s2 := HL2.out.cell 2 _ rfl; have s3 := HL2.out.cell 3 _ rfl; have s4 := HL2.out.cell 4 _ rfl; clear hw5))
      go_wp2_with fail
      go_end0
      refine ⟨rfl, ?_⟩
      rw [HG2.out]
      exact ⟨_, _, _, I5.out.chain (by unfold ThenOk; rfl) ⟨_, _, _, .inl rfl⟩, CV.out.trans C5.out⟩
    have e0 : (a.kind == 0) = false := by simpa using h0
    by_cases h1 : a.kind = 1
    · have HG2 := Aside0.mk (HGS.out.trans (by rw [if_neg h0, if_pos h1]))
      have e1 : (a.kind == 1) = true := by simpa using h1
      clear h1 h0
      go_wp2_with fail
      go_region_held3 (fun W => W.cell? ⟨w.heap.size, 0, none⟩ = some (.pointer (some ⟨b, 0, none⟩)) ∧ W.cell? ⟨w.heap.size + 1, 2, none⟩ = some (.int .i64 a.at_) ∧ W.cell? ⟨w.heap.size + 1, 3, none⟩ = some (.int .u64 a.old) ∧ W.cell? ⟨w.heap.size + 1, 4, none⟩ = some (.int .u64 a.new)) (exact ⟨s1, s2, s3, s4⟩) ((go_at_call 137; refine (fLoad_calls b a.at_ (.func 136) #[.pointer (some ⟨b, 0, none⟩)] #[] _ HCd.out.there HCd.out.blk.lt).mono ?_; rintro e w5 ⟨rfl, hw5⟩; have C5 := Aside0.mk (show Chg (fun i => i = b) wc.drew w5 from hw5 ▸ comes_chg _ b _ _ _ _ _); have I5 := Aside0.mk (show IsCore w5 base b _ _ A' cap' vg from hw5 ▸ HCd.out.comes 1 a.at_ 0 0 _);  have HL1 := Aside0.mk ((HL1.out.bw (Bw.refl wc).drew).keepT C5.out (OnlyT.blk HCd.out.blk) (by decide) (by decide)); have HL2 := Aside0.mk ((HL2.out.bw (Bw.refl wc).drew).keepT C5.out (OnlyT.blk HCd.out.blk) (by decide) (by decide)); have s1 := HL1.out.cell 0 _ rfl; have s2 := HL2.out.cell 2 _ rfl; have s3 := HL2.out.cell 3 _ rfl; have s4 := HL2.out.cell 4 _ rfl; clear hw5))
      go_wp2_with fail
      go_end0
      refine ⟨rfl, ?_⟩
      rw [HG2.out]
      exact ⟨_, _, _, I5.out.chain (by unfold ThenOk; rfl) ⟨_, _, _, .inl rfl⟩, CV.out.trans C5.out⟩
    have e1 : (a.kind == 1) = false := by simpa using h1
    by_cases h2 : a.kind = 2
    · have HG2 := Aside0.mk (HGS.out.trans (by rw [if_neg h0, if_neg h1, if_pos h2]))
      have e2 : (a.kind == 2) = true := by simpa using h2
      clear h2 h0 h1
      go_wp2_with fail
      go_region_held3 (fun W => W.cell? ⟨w.heap.size, 0, none⟩ = some (.pointer (some ⟨b, 0, none⟩)) ∧ W.cell? ⟨w.heap.size + 1, 2, none⟩ = some (.int .i64 a.at_) ∧ W.cell? ⟨w.heap.size + 1, 3, none⟩ = some (.int .u64 a.old) ∧ W.cell? ⟨w.heap.size + 1, 4, none⟩ = some (.int .u64 a.new)) (exact ⟨s1, s2, s3, s4⟩) ((go_at_call 138; refine (fStore_calls b a.at_ a.new (.func 139) #[] #[.pointer (some ⟨w.heap.size, 0, none⟩)] _ HCd.out.there HCd.out.blk.lt).mono ?_; rintro e w5 ⟨rfl, hw5⟩; have C5 := Aside0.mk (show Chg (fun i => i = b) wc.drew w5 from hw5 ▸ ((Chg.refl (fun i => i = b) wc.drew).alloc (.cells #[.func (.func 139) #[] #[.pointer (some ⟨w.heap.size, 0, none⟩)]] 1)).trans (comes_chg _ b _ _ _ _ _)); have I5 := Aside0.mk (show IsCore w5 base b _ _ A' cap' vg from hw5 ▸ (HCd.out.bw ((Bw.refl wc.drew).alloc (.cells #[.func (.func 139) #[] #[.pointer (some ⟨w.heap.size, 0, none⟩)]] 1))).comes 2 a.at_ 0 a.new _); have HPB := Aside0.mk (show Blk w5 wc.drew.heap.size #[.func (.func 139) #[] #[.pointer (some ⟨w.heap.size, 0, none⟩)]] 1 from hw5 ▸ (Blk.new wc.drew #[.func (.func 139) #[] #[.pointer (some ⟨w.heap.size, 0, none⟩)]] 1).keepT (comes_chg _ b _ _ _ _ _) (OnlyT.blk (HCd.out.bw ((Bw.refl wc.drew).alloc (.cells #[.func (.func 139) #[] #[.pointer (some ⟨w.heap.size, 0, none⟩)]] 1))).blk) (by decide) (by decide)); have HL1 := Aside0.mk ((HL1.out.bw (Bw.refl wc).drew).keepT C5.out (OnlyT.blk HCd.out.blk) (by decide) (by decide)); have HL2 := Aside0.mk ((HL2.out.bw (Bw.refl wc).drew).keepT C5.out (OnlyT.blk HCd.out.blk) (by decide) (by decide)); have s1 := HL1.out.cell 0 _ rfl; have s2 := HL2.out.cell 2 _ rfl; have s3 := HL2.out.cell 3 _ rfl; have s4 := HL2.out.cell 4 _ rfl; clear hw5))
      go_wp2_with fail
      go_end0
      refine ⟨rfl, ?_⟩
      rw [HG2.out]
      exact ⟨_, _, _, I5.out.chain (show ThenOk w5 b 2 _ by unfold ThenOk; rw [if_neg (by decide), if_pos rfl]; exact ⟨_, _, rfl, HPB.out, HL1.out⟩) ⟨_, _, _, .inl rfl⟩, CV.out.trans C5.out⟩
    have e2 : (a.kind == 2) = false := by simpa using h2
    by_cases h3 : a.kind = 3
    · have HG2 := Aside0.mk (HGS.out.trans (by rw [if_neg h0, if_neg h1, if_neg h2, if_pos h3]))
      have e3 : (a.kind == 3) = true := by simpa using h3
      clear h3 h0 h1 h2
      go_wp2_with fail
      go_region_held3 (fun W => W.cell? ⟨w.heap.size, 0, none⟩ = some (.pointer (some ⟨b, 0, none⟩)) ∧ W.cell? ⟨w.heap.size + 1, 2, none⟩ = some (.int .i64 a.at_) ∧ W.cell? ⟨w.heap.size + 1, 3, none⟩ = some (.int .u64 a.old) ∧ W.cell? ⟨w.heap.size + 1, 4, none⟩ = some (.int .u64 a.new)) (exact ⟨s1, s2, s3, s4⟩) ((go_at_call 140; refine (fSwap_calls b a.at_ a.old a.new (.func 141) #[.pointer (some ⟨b, 0, none⟩)] #[] _ HCd.out.there HCd.out.blk.lt).mono ?_; rintro e w5 ⟨rfl, hw5⟩; have C5 := Aside0.mk (show Chg (fun i => i = b) wc.drew w5 from hw5 ▸ ((Chg.refl (fun i => i = b) wc.drew).alloc (.cells #[.func (.func 141) #[.pointer (some ⟨b, 0, none⟩)] #[]] 215)).trans (comes_chg _ b _ _ _ _ _)); have I5 := Aside0.mk (show IsCore w5 base b _ _ A' cap' vg from hw5 ▸ (HCd.out.bw ((Bw.refl wc.drew).alloc (.cells #[.func (.func 141) #[.pointer (some ⟨b, 0, none⟩)] #[]] 215))).comes 3 a.at_ a.old a.new _); have HPB := Aside0.mk (show Blk w5 wc.drew.heap.size #[.func (.func 141) #[.pointer (some ⟨b, 0, none⟩)] #[]] 215 from hw5 ▸ (Blk.new wc.drew #[.func (.func 141) #[.pointer (some ⟨b, 0, none⟩)] #[]] 215).keepT (comes_chg _ b _ _ _ _ _) (OnlyT.blk (HCd.out.bw ((Bw.refl wc.drew).alloc (.cells #[.func (.func 141) #[.pointer (some ⟨b, 0, none⟩)] #[]] 215))).blk) (by decide) (by decide)); have HL1 := Aside0.mk ((HL1.out.bw (Bw.refl wc).drew).keepT C5.out (OnlyT.blk HCd.out.blk) (by decide) (by decide)); have HL2 := Aside0.mk ((HL2.out.bw (Bw.refl wc).drew).keepT C5.out (OnlyT.blk HCd.out.blk) (by decide) (by decide)); have s1 := HL1.out.cell 0 _ rfl; have s2 := HL2.out.cell 2 _ rfl; have s3 := HL2.out.cell 3 _ rfl; have s4 := HL2.out.cell 4 _ rfl; clear hw5))
      go_wp2_with fail
      go_end0
      refine ⟨rfl, ?_⟩
      rw [HG2.out]
      exact ⟨_, _, _, I5.out.chain (show ThenOk w5 b 3 _ by unfold ThenOk; rw [if_neg (by decide), if_neg (by decide), if_pos rfl]; exact ⟨_, rfl, HPB.out⟩) ⟨_, _, _, .inl rfl⟩, CV.out.trans C5.out⟩
    have e3 : (a.kind == 3) = false := by simpa using h3
    by_cases h4 : a.kind = 4
    · have HG2 := Aside0.mk (HGS.out.trans (by rw [if_neg h0, if_neg h1, if_neg h2, if_neg h3, if_pos h4]))
      have e4 : (a.kind == 4) = true := by simpa using h4
      clear h4 h0 h1 h2 h3
      go_wp2_with fail
      go_region_held3 (fun W => W.cell? ⟨w.heap.size, 0, none⟩ = some (.pointer (some ⟨b, 0, none⟩)) ∧ W.cell? ⟨w.heap.size + 1, 2, none⟩ = some (.int .i64 a.at_) ∧ W.cell? ⟨w.heap.size + 1, 3, none⟩ = some (.int .u64 a.old) ∧ W.cell? ⟨w.heap.size + 1, 4, none⟩ = some (.int .u64 a.new)) (exact ⟨s1, s2, s3, s4⟩) ((go_at_call 142; refine (fAdd_calls b a.at_ a.new (.func 136) #[.pointer (some ⟨b, 0, none⟩)] #[] _ HCd.out.there HCd.out.blk.lt).mono ?_; rintro e w5 ⟨rfl, hw5⟩; have C5 := Aside0.mk (show Chg (fun i => i = b) wc.drew w5 from hw5 ▸ comes_chg _ b _ _ _ _ _); have I5 := Aside0.mk (show IsCore w5 base b _ _ A' cap' vg from hw5 ▸ HCd.out.comes 4 a.at_ 0 a.new _);  have HL1 := Aside0.mk ((HL1.out.bw (Bw.refl wc).drew).keepT C5.out (OnlyT.blk HCd.out.blk) (by decide) (by decide)); have HL2 := Aside0.mk ((HL2.out.bw (Bw.refl wc).drew).keepT C5.out (OnlyT.blk HCd.out.blk) (by decide) (by decide)); have s1 := HL1.out.cell 0 _ rfl; have s2 := HL2.out.cell 2 _ rfl; have s3 := HL2.out.cell 3 _ rfl; have s4 := HL2.out.cell 4 _ rfl; clear hw5))
      go_wp2_with fail
      go_end0
      refine ⟨rfl, ?_⟩
      rw [HG2.out]
      exact ⟨_, _, _, I5.out.chain (by unfold ThenOk; rfl) ⟨_, _, _, .inl rfl⟩, CV.out.trans C5.out⟩
    have e4 : (a.kind == 4) = false := by simpa using h4
    have HG2 := Aside0.mk (HGS.out.trans (by rw [if_neg h0, if_neg h1, if_neg h2, if_neg h3, if_neg h4]))
    clear h0 h1 h2 h3 h4 s2 s3 s4
    go_wp2_with fail
    have hch : IsChain wc base b { s with rest := r } tv A' cap' vg := HC.out.chain (by show ThenOk wc b s.kind tv; rw [HK.out]; unfold ThenOk; rw [if_pos rfl]; trivial) H.out.fun_
    refine (HIH.out wc A' cap' hch).mono ?_
    rintro e w6 ⟨rfl, tv6, A6, cap6, hI6, hC6⟩
    have HI6 := Aside0.mk hI6
    have HC6 := Aside0.mk hC6
    clear hch hI6 hC6
    go_wp2_with fail
    go_end0
    refine ⟨rfl, ?_⟩
    rw [HG2.out]
    exact ⟨_, _, _, HI6.out, ((Chg.of_bw HW2.out : Chg (fun i => i = b) w W2).trans HV.out).trans HC6.out⟩
theorem goOn_calls : ∀ (rest : List Acc) (s : ChS) (tv : Value) (A : Option Addr) (cap : Nat) (w : World), s.rest = rest → s.kind = 0 → IsChain w base b s tv A cap vg → Calls Try.prog 114 #[.pointer (some ⟨b, 0, none⟩)] w (GoPost w base b (goS s rest) vg)
  | [], s, tv, A, cap, w, hr, hk, h => (goOn_nil h hr).mono fun e w' ⟨he, hb⟩ => ⟨he, tv, A, cap, by
      have e : goS s [] = s := by unfold goS; rw [← hr]
      rw [e]
      exact h.bw hb, Chg.of_bw hb⟩
  | a :: r, s, tv, A, cap, w, hr, hk, h => goOn_cons a r h hr hk fun W A' cap' h' => by
      have := goOn_calls r { s with rest := r } tv A' cap' W rfl hk h'
      rw [goS_rest] at this
      exact this
end
end Go.Proofs.Ytclippikdfcgkaa.M
