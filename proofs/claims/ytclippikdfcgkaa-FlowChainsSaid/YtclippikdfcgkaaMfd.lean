/- The plain law of FlowChains: the machine and the document's routine go alike. No program. -/
import Derived.Test.YtclippikdfcgkaaMfc
namespace Go.Proofs.Ytclippikdfcgkaa.M
open Go.RowKit Go.Proofs.YtclippikdfcgkaaW.PrintWords
set_option linter.unusedVariables false
set_option linter.unusedSimpArgs false
def ChS.val (k a : Int) : Int := if k = 2 then 0 else if k = 3 then (if (a == 1) = true then 1 else 0) else a
def ChS.fin' (s : ChS) (a : Int) : ChS := if s.kind = 5 ∧ a = 0 then { s with asleep := true } else goS { s with kind := 0, asleep := false, got := s.got ++ [ChS.val s.kind a] } s.rest
def mach : ChS → List Int → ChS
  | s, [] => s
  | s, a :: rem => if s.kind = 0 then s else mach (s.fin' a) rem
theorem mach_done (s : ChS) (xs : List Int) (h : s.kind = 0) : mach s xs = s := by
  cases xs
  · rfl
  · show (if s.kind = 0 then s else _) = s
    rw [if_pos h]
theorem mach_cons (s : ChS) (a : Int) (xs : List Int) (h : s.kind ≠ 0) : mach s (a :: xs) = mach (s.fin' a) xs := by
  show (if s.kind = 0 then s else _) = _
  rw [if_neg h]
theorem mach_push (a : Int) : ∀ (xs : List Int) (s : ChS), mach s (xs ++ [a]) = if (mach s xs).kind = 0 then mach s xs else (mach s xs).fin' a
  | [], s => rfl
  | x :: xs, s => by
    by_cases h : s.kind = 0
    · rw [mach_done _ _ h, mach_done _ _ h, if_pos h]
    · rw [List.cons_append, mach_cons _ _ _ h, mach_cons _ _ _ h, mach_push a xs]
structure Good (s : ChS) (F : RunS × List Int) : Prop where
  stop : F.1.stop = !(s.kind == 0)
  want : F.1.stop = true → F.1.want = ⟨kindA s.kind, 0, s.at_, s.old, s.w, false⟩
  slp : F.1.stop = true → F.1.sleep = (s.kind == 5 && s.asleep)
  got : s.got = F.2
  kind : s.kind = 0 ∨ s.kind = 1 ∨ s.kind = 2 ∨ s.kind = 3 ∨ s.kind = 4 ∨ s.kind = 5
  nn : 0 ≤ s.w
theorem do_some (r : RunS) (a : Acc) (hs : r.stop = false) (hu : r.used < r.got.length) : r.do a = ({ r with used := r.used + 1 }, rd r.got r.used) := by
  unfold RunS.do
  rw [if_neg (by rw [hs]; decide), if_pos hu]
theorem do_none (r : RunS) (a : Acc) (hs : r.stop = false) (hu : ¬ r.used < r.got.length) : r.do a = ({ r with stop := true, want := a }, 0) := by
  unfold RunS.do
  rw [if_neg (by rw [hs]; decide), if_neg hu]
theorem drop_rd (xs : List Int) (k : Nat) (h : k < xs.length) : xs.drop k = rd xs k :: xs.drop (k + 1) := by
  rw [List.drop_eq_getElem_cons h]
  simp [rd, List.getD_eq_getElem?_getD, List.getElem?_eq_getElem h]
/-- What follows an access. -/
def after (l : List Acc) (d : RunS × Int) (out : List Int) : RunS × List Int := if d.1.stop = false then RunS.chain l d.1 (out ++ [d.2]) else RunS.chain l d.1 out
theorem chain_after (a : Acc) (l : List Acc) (r : RunS) (out : List Int) (hs : r.stop = false) (hk : 0 ≤ a.kind ∧ a.kind ≤ 4) : RunS.chain (a :: l) r out = after l (r.acc a) out := by
  rw [RunS.chain_cons _ _ _ _ hs]
  unfold after
  by_cases h : (r.acc a).1.stop = false
  · rw [if_pos ⟨h, hk⟩, if_pos h]
  · rw [if_neg (fun h' => h h'.1), if_neg h]
def IH (l : List Acc) : Prop := ∀ (s0 : ChS) (r : RunS) (out : List Int), s0.kind = 0 → s0.asleep = false → r.stop = false → r.sleep = false → s0.got = out → 0 ≤ s0.w → Good (mach (goS s0 l) (r.got.drop r.used)) (RunS.chain l r out)
theorem wait_good (l : List Acc) (ih : IH l) (at_ : Int) : ∀ (n : Nat) (r : RunS) (first : Bool) (s : ChS) (out : List Int), n = r.got.length - r.used + 1 → r.stop = false → r.sleep = false → s.kind = 5 → s.at_ = at_ → s.old = 0 → s.w = 0 → s.asleep = !first → s.rest = l → s.got = out → Good (mach s (r.got.drop r.used)) (after l (r.waitF at_ n first) out)
  | 0, r, first, s, out, hn, _, _, _, _, _, _, _, _, _ => by omega
  | n + 1, r, first, s, out, hn, hs, hsl, hk, hat, ho, hw, ha, hre, hg => by
    rw [RunS.waitF_succ]
    by_cases hu : r.used < r.got.length
    · rw [do_some _ _ hs hu, if_neg (by simp [hs]), drop_rd _ _ hu, mach_cons _ _ _ (by rw [hk]; decide)]
      by_cases h0 : rd r.got r.used = 0
      · rw [if_pos h0, h0]
        have e : s.fin' 0 = { s with asleep := true } := by unfold ChS.fin'; rw [if_pos ⟨hk, rfl⟩]
        rw [e]
        exact wait_good l ih at_ n { r with used := r.used + 1 } false { s with asleep := true } out (by simp only; omega) hs hsl hk hat ho hw rfl hre hg
      · rw [if_neg h0]
        have e : s.fin' (rd r.got r.used) = goS { s with kind := 0, asleep := false, got := s.got ++ [rd r.got r.used] } s.rest := by
          unfold ChS.fin'
          rw [if_neg (fun h => h0 h.2)]
          unfold ChS.val
          rw [if_neg (by rw [hk]; decide), if_neg (by rw [hk]; decide)]
        rw [e, hre]
        unfold after
        rw [if_pos (by simpa using hs)]
        exact ih _ { r with used := r.used + 1 } _ rfl rfl hs hsl (by simp only [hg]) (by simp only [hw]; omega)
    · rw [do_none _ _ hs hu, if_pos rfl, List.drop_eq_nil_of_le (by omega)]
      unfold after
      rw [if_neg (by simp), RunS.chain_stop _ _ _ rfl]
      show Good s _
      exact ⟨by simp [hk], fun _ => by simp only [hk, hat, ho, hw]; rfl, fun _ => by simp only [hk, ha]; rfl, hg, by simp [hk], by omega⟩
theorem do_good (l : List Acc) (ih : IH l) (s : ChS) (r : RunS) (out : List Int) (hk : s.kind = 1 ∨ s.kind = 2 ∨ s.kind = 3 ∨ s.kind = 4) (hs : r.stop = false) (hsl : r.sleep = false) (hre : s.rest = l) (hg : s.got = out) (hw : 0 ≤ s.w) :
    Good (mach s (r.got.drop r.used)) (after l ((r.do ⟨s.kind, 0, s.at_, s.old, s.w, false⟩).1, ChS.val s.kind (r.do ⟨s.kind, 0, s.at_, s.old, s.w, false⟩).2) out) := by
  have h0 : s.kind ≠ 0 := by omega
  have h5 : s.kind ≠ 5 := by omega
  by_cases hu : r.used < r.got.length
  · rw [do_some _ _ hs hu, drop_rd _ _ hu, mach_cons _ _ _ h0]
    have e : s.fin' (rd r.got r.used) = goS { s with kind := 0, asleep := false, got := s.got ++ [ChS.val s.kind (rd r.got r.used)] } s.rest := by
      unfold ChS.fin'
      rw [if_neg (fun h => h5 h.1)]
    rw [e, hre]
    unfold after
    rw [if_pos (by simpa using hs)]
    exact ih _ { r with used := r.used + 1 } _ rfl rfl hs hsl (by simp only [hg]) hw
  · rw [do_none _ _ hs hu, List.drop_eq_nil_of_le (by omega)]
    unfold after
    rw [if_neg (by simp), RunS.chain_stop _ _ _ rfl]
    show Good s _
    have e5 : (s.kind == 5) = false := by simpa using h5
    have eA : kindA s.kind = s.kind := by unfold kindA; split <;> omega
    exact ⟨by simp [h0], fun _ => by simp only [eA], fun _ => by rw [e5]; exact hsl, hg, by omega, hw⟩
theorem chain_good : ∀ (l : List Acc), (∀ a ∈ l, 0 ≤ a.new) → IH l
  | [], _, s0, r, out, hk, ha, hs, hsl, hg, hw => by
    rw [mach_done _ _ (show (goS s0 []).kind = 0 from hk)]
    have hno : r.stop = true → False := fun h => by rw [hs] at h; cases h
    have h1 : r.stop = !(s0.kind == 0) := by rw [hs, hk]; rfl
    exact ⟨h1, fun h => (hno h).elim, fun h => (hno h).elim, hg, .inl hk, hw⟩
  | a :: l, hn, s0, r, out, hk, ha, hs, hsl, hg, hw => by
    have ih := chain_good l (fun x hx => hn x (List.mem_cons_of_mem _ hx))
    have hna := hn a (List.mem_cons_self ..)
    unfold goS
    by_cases h0 : a.kind = 0
    · rw [if_pos h0, chain_after _ _ _ _ hs (by omega)]
      have e : r.acc a = r.waitF a.at_ (r.got.length - r.used + 1) true := by unfold RunS.acc; rw [if_pos h0]; rfl
      rw [e]
      exact wait_good l ih a.at_ _ r true _ out rfl hs hsl rfl rfl rfl rfl rfl rfl hg
    rw [if_neg h0]
    by_cases h1 : a.kind = 1
    · rw [if_pos h1, chain_after _ _ _ _ hs (by omega)]
      have e : r.acc a = r.do ⟨1, 0, a.at_, 0, 0, false⟩ := by unfold RunS.acc; rw [if_neg h0, if_pos h1]
      rw [e]
      exact do_good l ih { s0 with kind := 1, at_ := a.at_, old := 0, w := 0, rest := l } r out (.inl rfl) hs hsl rfl hg (Int.le_refl _)
    rw [if_neg h1]
    by_cases h2 : a.kind = 2
    · rw [if_pos h2, chain_after _ _ _ _ hs (by omega)]
      have e : r.acc a = ((r.do ⟨2, 0, a.at_, 0, a.new, false⟩).1, 0) := by unfold RunS.acc; rw [if_neg h0, if_neg h1, if_pos h2]
      rw [e]
      exact do_good l ih { s0 with kind := 2, at_ := a.at_, old := 0, w := a.new, rest := l } r out (.inr (.inl rfl)) hs hsl rfl hg hna
    rw [if_neg h2]
    by_cases h3 : a.kind = 3
    · rw [if_pos h3, chain_after _ _ _ _ hs (by omega)]
      have e : r.acc a = ((r.do ⟨3, 0, a.at_, a.old, a.new, false⟩).1, if ((r.do ⟨3, 0, a.at_, a.old, a.new, false⟩).2 == 1) = true then 1 else 0) := by unfold RunS.acc; rw [if_neg h0, if_neg h1, if_neg h2, if_pos h3]
      rw [e]
      exact do_good l ih { s0 with kind := 3, at_ := a.at_, old := a.old, w := a.new, rest := l } r out (.inr (.inr (.inl rfl))) hs hsl rfl hg hna
    rw [if_neg h3]
    by_cases h4 : a.kind = 4
    · rw [if_pos h4, chain_after _ _ _ _ hs (by omega)]
      have e : r.acc a = r.do ⟨4, 0, a.at_, 0, a.new, false⟩ := by unfold RunS.acc; rw [if_neg h0, if_neg h1, if_neg h2, if_neg h3, if_pos h4]
      rw [e]
      exact do_good l ih { s0 with kind := 4, at_ := a.at_, old := 0, w := a.new, rest := l } r out (.inr (.inr (.inr rfl))) hs hsl rfl hg hna
    rw [if_neg h4, RunS.chain_cons _ _ _ _ hs]
    have e : r.acc a = (r, 0) := by unfold RunS.acc; rw [if_neg h0, if_neg h1, if_neg h2, if_neg h3, if_neg h4]
    rw [e, if_neg (fun h => by have := h.2; omega)]
    exact ih s0 r out hk ha hs hsl hg hw
theorem do_got (r : RunS) (a : Acc) : (r.do a).1.got = r.got := by unfold RunS.do; split; rfl; split <;> rfl
theorem waitF_got (at_ : Int) : ∀ (n : Nat) (r : RunS) (f : Bool), (r.waitF at_ n f).1.got = r.got
  | 0, r, f => rfl
  | n + 1, r, f => by
    rw [RunS.waitF_succ]
    split
    · exact do_got r _
    · split
      · rw [waitF_got at_ n, do_got]
      · exact do_got r _
theorem acc_got (r : RunS) (a : Acc) : (r.acc a).1.got = r.got := by
  unfold RunS.acc
  repeat' split
  all_goals first | exact do_got r _ | exact waitF_got _ _ _ _ | rfl
theorem chain_got : ∀ (l : List Acc) (r : RunS) (out : List Int), (RunS.chain l r out).1.got = r.got
  | [], r, out => rfl
  | a :: l, r, out => by
    unfold RunS.chain
    split
    · rfl
    · split
      · rw [chain_got l, acc_got]
      · rw [chain_got l, acc_got]
theorem chain_len : ∀ (l : List Acc) (r : RunS) (out : List Int), (RunS.chain l r out).2.length ≤ out.length + l.length
  | [], r, out => by show out.length ≤ _; simp
  | a :: l, r, out => by
    unfold RunS.chain
    split
    · show out.length ≤ _; simp
    · split
      · have := chain_len l (r.acc a).1 (out ++ [(r.acc a).2]); simp only [List.length_append, List.length_cons, List.length_nil] at this ⊢; omega
      · have := chain_len l (r.acc a).1 out; simp only [List.length_cons] at this ⊢; omega
theorem goS_who : ∀ (l : List Acc) (s : ChS), (goS s l).who = s.who
  | [], s => rfl
  | a :: l, s => by
    unfold goS
    repeat' split
    all_goals first | rfl | exact goS_who l s
theorem fin_who (s : ChS) (a : Int) : (s.fin' a).who = s.who := by
  unfold ChS.fin'
  split
  · rfl
  · rw [goS_who]
theorem mach_who : ∀ (xs : List Int) (s : ChS), (mach s xs).who = s.who
  | [], s => rfl
  | x :: xs, s => by
    by_cases h : s.kind = 0
    · rw [mach_done _ _ h]
    · rw [mach_cons _ _ _ h, mach_who xs, fin_who]
def R0 (got : List Int) : RunS := ⟨got, 0, false, acc0, false⟩
theorem good_of (l : List Acc) (hn : ∀ a ∈ l, 0 ≤ a.new) (who : Int) (got : List Int) : Good (mach (newS who l) got) (RunS.chain l (R0 got) []) :=
  chain_good l hn (ChS.new who l) (R0 got) [] rfl rfl rfl rfl rfl (Int.le_refl _)
theorem fin_eq (s : ChS) (m : MemS) (who at_ o x : Int) (hk : s.kind = 0 ∨ s.kind = 1 ∨ s.kind = 2 ∨ s.kind = 3 ∨ s.kind = 4 ∨ s.kind = 5) : s.fin (m.act (kindA s.kind) who at_ o x).2 = s.fin' (m.act (kindA s.kind) who at_ o x).2 := by
  have e : ChS.val s.kind (m.act (kindA s.kind) who at_ o x).2 = (m.act (kindA s.kind) who at_ o x).2 := by
    unfold ChS.val
    split
    · rename_i h
      rw [h]
      rfl
    · split
      · rename_i h
        rw [h]
        rcases act_three m who at_ o x with h | h
        · rw [show kindA 3 = 3 from rfl, h]; rfl
        · rw [show kindA 3 = 3 from rfl, h]; rfl
      · rfl
  unfold ChS.fin ChS.fin'
  rw [e]
/-- The machine's step, and the document's turn. -/
theorem step_alike (l : List Acc) (hn : ∀ a ∈ l, 0 ≤ a.new) (who : Int) (got : List Int) (m : MemS) :
    ((mach (newS who l) got).step m).2 = (turnS m (RunS.chain l (R0 got) []).1 who).1 ∧ ((mach (newS who l) got).step m).1 = mach (newS who l) (turnS m (RunS.chain l (R0 got) []).1 who).2 := by
  have hG := good_of l hn who got
  have hw : (mach (newS who l) got).who = who := by rw [mach_who]; unfold newS; rw [goS_who]; rfl
  have hgt : (RunS.chain l (R0 got) []).1.got = got := chain_got l _ _
  obtain ⟨F, hF⟩ : ∃ F, F = RunS.chain l (R0 got) [] := ⟨_, rfl⟩
  rw [← hF] at hG hgt ⊢
  obtain ⟨s, hs⟩ : ∃ s, s = mach (newS who l) got := ⟨_, rfl⟩
  rw [← hs] at hG hw ⊢
  unfold turnS ChS.step
  by_cases h0 : s.kind = 0
  · have e1 : F.1.stop = false := by rw [hG.stop, h0]; rfl
    rw [if_pos (.inl h0), if_pos e1, hgt]
    exact ⟨rfl, hs⟩
  · have e1 : F.1.stop = true := by rw [hG.stop]; simp [h0]
    have e2 := hG.want e1
    have e3 := hG.slp e1
    rw [if_neg (show ¬ F.1.stop = false by rw [e1]; decide), e2, e3, hgt]
    by_cases h5 : (s.kind == 5 && s.asleep && (m.peek s.at_).1 == 0) = true
    · rw [if_pos (.inr h5), if_pos h5]
      exact ⟨rfl, hs⟩
    · rw [if_neg (fun h => h.elim h0 h5), if_neg h5]
      refine ⟨by simp only [hw], ?_⟩
      simp only
      rw [mach_push, ← hs, if_neg h0, fin_eq s m _ _ _ _ hG.kind, hw]
end Go.Proofs.Ytclippikdfcgkaa.M
