/- Package flow: a machine that runs others: none, Run. No condition. -/
import Derived.Test.YtclippikdfcgkaaMf8
import Derived.Laws.AppendOwnNone
import Derived.Deep.RegionHeld3
namespace Go.Proofs.Ytclippikdfcgkaa.M
open Go.RowKit Go.Proofs.YtclippikdfcgkaaW.PrintWords Go.Proofs.YtclippikdfcgkaaW.PrintLast Go.Proofs.YtclippikdfcgkaaW.PrintMore
set_option linter.unusedVariables false
set_option linter.unusedSimpArgs false
section
variable {w w1 : World} {base b : Nat} {s : ChS} {tv : Value} {A : Option Addr} {cap : Nat} {vg : Value} {mb bm : Nat} {vm : Value} {m : MemS}
def ptrRow (bs : List Nat) : List Value := bs.map fun b => .pointer (some ⟨b, 0, none⟩)
abbrev chainV (p : Nat) : Value := .iface 115 (.pointer (some ⟨p, 0, none⟩))
set_option maxHeartbeats 1000000 in
set_option maxRecDepth 100000 in
theorem none_calls (p : Nat) (k : Int) (w : World) (k1 : w.cell? ⟨p, 1, none⟩ = some (.int .i64 k)) (k7 : w.cell? ⟨p, 7, none⟩ = some Value.nilIface) :
    Calls Try.prog 153 #[chainV p] w fun e w' => e = .returned (.bool (k == 0)) ∧ Bw w w' := by
  have HB := Aside0.mk (Bw.refl w)
  have HD := Aside0.mk (cStep_none p k w k1 k7)
  clear k1 k7
  go_enter Try.func153, Try.ntmps153
  go_wp2_with fail
  refine (HD.out).mono ?_
  rintro e w1 ⟨rfl, hb1⟩
  have HB := Aside0.mk (HB.out.trans hb1)
  go_wp2_with fail
  go_ret
  exact ⟨rfl, HB.out⟩
set_option maxHeartbeats 1000000 in
theorem fRun_on (b p : Nat) (k : Int) (fn : Fn) (bs cs : Array Value) (x7 x8 : Value) (w : World) (hk : (k == 0) = false) (k1 : w.cell? ⟨p, 1, none⟩ = some (.int .i64 k)) (k7 : w.cell? ⟨p, 7, none⟩ = some Value.nilIface)
    (c7 : w.cell? ⟨b, 7, none⟩ = some x7) (c8 : w.cell? ⟨b, 8, none⟩ = some x8) (f7 : w.frozen? ⟨b, 7, none⟩ = false) (f8 : w.frozen? ⟨b, 8, none⟩ = false) (hlt : b < w.heap.size) :
    Calls Try.prog 145 #[.pointer (some ⟨b, 0, none⟩), chainV p, .func fn bs cs] w fun e w' => e = .returned (.tuple #[]) ∧ ∃ w1, Bw w w1 ∧ w' = (w1.setCell ⟨b, 7, none⟩ (chainV p)).setCell ⟨b, 8, none⟩ (.func fn bs cs) := by
  have HD := Aside0.mk (none_calls p k w k1 k7)
  rw [hk] at HD
  clear k1 k7 hk
  go_enter Try.func145, Try.ntmps145
  go_wp2_with fail
  refine (HD.out).mono ?_
  rintro e w1 ⟨rfl, hb1⟩
  have HB := Aside0.mk hb1
  have c7 := hb1.kept c7
  have c8 := hb1.kept c8
  have f7 := (Below.frozen hb1 (p := ⟨b, 7, none⟩) hlt).trans f7
  have f8 := (Below.frozen hb1 (p := ⟨b, 8, none⟩) hlt).trans f8
  have hlt := Nat.lt_of_lt_of_le hlt hb1.size
  clear hb1
  go_wp2_with fail
  go_end0
  exact ⟨rfl, _, HB.out, rfl⟩
set_option maxHeartbeats 1000000 in
set_option maxRecDepth 100000 in
/-- A run of a machine that is done: what follows comes at once. -/
theorem fRun_done (b p : Nat) (k : Int) (cs : Array Value) (w : World) (Post : Ending → World → Prop) (hk : (k == 0) = true) (k1 : w.cell? ⟨p, 1, none⟩ = some (.int .i64 k)) (k7 : w.cell? ⟨p, 7, none⟩ = some Value.nilIface)
    (hc : ∀ W, Bw w W → Calls Try.prog 146 cs W fun e w' => e = .returned (.tuple #[]) ∧ Post e w') :
    Calls Try.prog 145 #[.pointer (some ⟨b, 0, none⟩), chainV p, .func (.func 146) #[] cs] w fun e w' => e = .returned (.tuple #[]) ∧ Post e w' := by
  have HD := Aside0.mk (none_calls p k w k1 k7)
  have HC := Aside0.mk hc
  rw [hk] at HD
  clear k1 k7 hk hc
  go_enter Try.func145, Try.ntmps145
  go_wp2_with fail
  refine (HD.out).mono ?_
  rintro e w1 ⟨rfl, hb1⟩
  have HC1 := Aside0.mk (HC.out w1 hb1)
  clear hb1
  go_wp2_with fail
  refine (HC1.out).mono ?_
  rintro e w2 ⟨rfl, hp⟩
  have HP := Aside0.mk hp
  clear hp
  go_wp2_with fail
  refine bodyPost_ret (v := .tuple #[]) (by simp [results, Try.results145, go_sem]) rfl ⟨rfl, HP.out⟩
/-- The cells of a machine that runs others. -/
def parCells (who : Int) (subv afv pv vg : Value) : Array Value :=
  #[.int .i64 who, .int .i64 0, .int .i64 0, .int .u64 0, .int .u64 0, Value.nilFunc, .bool false, subv, afv, .slice none 0 0, pv, vg]
/-- The parts that are still to come lie in a row. -/
def PartsOk (w : World) (A : Option Addr) (cap : Nat) (bs : List Nat) : Prop :=
  bs.length ≤ cap ∧ cap ≤ 9223372036854775807 ∧ (bs ≠ [] → ∃ g base0 cap0 i all, A = some ⟨g, i, none⟩ ∧ w.ownsRow base0 115 1 (.slice (some ⟨g, 0, none⟩) all.length cap0) all.length (ptrRow all) ∧ bs = all.drop i)
structure IsPar (w : World) (base b : Nat) (who : Int) (subv afv : Value) (A : Option Addr) (cap : Nat) (bs : List Nat) (vg : Value) (got : List Int) : Prop where
  le : base ≤ b
  blk : Blk w b (parCells who subv afv (.slice A bs.length cap) vg) 185
  rest : PartsOk w A cap bs
  own : w.ownsRow base 55 1 vg got.length (nums .u64 got)
def ParF (b : Nat) (vg : Value) : Nat → Prop := fun i => i = b ∨ vg.ownBlock = some i
theorem PartsOk.keepT {S : Nat → Prop} {bs : List Nat} (h : PartsOk w A cap bs) (hc : Chg S w w1) (hS : OnlyT S w) : PartsOk w1 A cap bs :=
  ⟨h.1, h.2.1, fun hn => by
    obtain ⟨g, base0, cap0, i, all, e1, ho, e2⟩ := h.2.2 hn
    refine ⟨g, base0, cap0, i, all, e1, own_of_block ho (fun k hk => ?_), e2⟩
    have hkg : g = k := by simpa [Value.ownBlock] using hk
    subst hkg
    rcases ho.2 with ⟨e, _⟩ | ⟨g', cap', cur, e, _, hh, _⟩
    · cases e
    · injection e with e _ _
      injection e with e
      injection e with e _ _
      subst e
      exact hc.block g (own_lt ho g rfl) fun hs => by rcases hS g _ _ _ hs hh with e | e | e <;> simp at e⟩
section
variable {who : Int} {subv afv : Value} {bs : List Nat} {got : List Int}
theorem IsPar.bw (h : IsPar w base b who subv afv A cap bs vg got) (hb : Bw w w1) : IsPar w1 base b who subv afv A cap bs vg got :=
  ⟨h.le, h.blk.bw hb, h.rest.keepT (Chg.of_bw hb) (OnlyT.none w), pw_own_below h.own hb⟩
theorem IsPar.only (h : IsPar w base b who subv afv A cap bs vg got) : OnlyT (ParF b vg) w := fun i cs t fr hi he => by
  rcases hi with rfl | hi
  · exact OnlyT.blk h.blk _ cs t fr rfl he
  · rcases h.own.2 with ⟨e, _⟩ | ⟨g, cap', cur, e, _, hh, _⟩
    · rw [e] at hi; simp [Value.ownBlock] at hi
    · rw [e] at hi
      have hgi : g = i := by simpa [Value.ownBlock] using hi
      subst hgi
      have := hh.symm.trans he
      injection this with this
      injection this with _ this
      exact .inr (.inl this.symm)
theorem IsPar.setc (h : IsPar w base b who subv afv A cap bs vg got) (i : Nat) (v : Value) : Chg (fun j => j = b) w (w.setCell ⟨b, i, none⟩ v) ∧ PartsOk (w.setCell ⟨b, i, none⟩ v) A cap bs ∧ (w.setCell ⟨b, i, none⟩ v).ownsRow base 55 1 vg got.length (nums .u64 got) := by
  have C := (Chg.refl (fun j => j = b) w).setb (k := b) (i := i) rfl v
  have hne : some b ≠ vg.ownBlock := own_ne (t := 185) h.own h.blk (by decide)
  exact ⟨C, h.rest.keepT C (OnlyT.blk h.blk), own_setCell (p := ⟨b, i, none⟩) h.own hne v⟩
theorem IsPar.sub (h : IsPar w base b who subv afv A cap bs vg got) (x : Value) : IsPar (w.setCell ⟨b, 7, none⟩ x) base b who x afv A cap bs vg got := ⟨h.le, by simpa [parCells] using h.blk.set 7 x, (h.setc 7 _).2.1, (h.setc 7 _).2.2⟩
theorem IsPar.aft (h : IsPar w base b who subv afv A cap bs vg got) (x : Value) : IsPar (w.setCell ⟨b, 8, none⟩ x) base b who subv x A cap bs vg got := ⟨h.le, by simpa [parCells] using h.blk.set 8 x, (h.setc 8 _).2.1, (h.setc 8 _).2.2⟩
end
end
end Go.Proofs.Ytclippikdfcgkaa.M
