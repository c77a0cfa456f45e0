/- Script, plain: the text of programs, read back, is their words; what is read, told, is the text. -/
import Derived.Test.YtogpjimmcckkcaaDoorMzc
import Derived.Test.YtogpjimmcckkcaaDoorMu5
import Derived.Test.YtogpjimmcckkcaaDoorMz7
namespace Go.Proofs.YtogpjimmcckkcaaDoor.M
open Go.RowKit
set_option linter.unusedVariables false
set_option linter.unusedSimpArgs false
/-- A word's line, as one of n programs. -/
def lineN (n : Int) (x : Int) : List UInt8 := if prt x = true then [110, 101, 120, 116] else inL (ins x n).1.toNat (ins x n).2.toNat
/-- The least word that says the same. -/
def normN (n : Int) (x : Int) : Int := if prt x = true then 7 else wordW (ins x n).1 (ins x n).2
theorem insB_line {n x : Int} (h : prt x = false) : insB (ins x n) = lineN n x ++ [10] := by unfold insB lineN; rw [h]; rfl
/-- The text of programs is that of their words. -/
theorem progsT_words (n : Int) (xs : List Int) : progsT ((pieces xs).map fun p => p.map fun x => ins x n) = xs.flatMap fun x => lineN n x ++ [10] := by
  have hm : ∀ (l : List (List Int)), (l.map fun p => p.map fun x => ins x n) = [] ↔ l = [] := fun l => by simp
  refine snoc_ind (P := fun xs => progsT ((pieces xs).map fun p => p.map fun x => ins x n) = xs.flatMap fun x => lineN n x ++ [10]) (by simp [pieces, runW, progsT]) ?_ xs
  intro xs x ih
  rw [List.flatMap_append, ← ih]
  unfold pieces at ih ⊢
  rw [runW_snoc]
  unfold stepW
  cases hp : prt x
  · simp only [Bool.false_eq_true, if_false, List.map_append, List.map_cons, List.map_nil]
    rw [progsT_app, progsT_app]
    by_cases h0 : (runW xs).1 = []
    · rw [if_pos ((hm _).2 h0), if_pos ((hm _).2 h0)]
      simp [progsT, insB_line hp]
    · rw [if_neg (fun h => h0 ((hm _).1 h)), if_neg (fun h => h0 ((hm _).1 h))]
      simp [insB_line hp]
  · simp only [if_true, List.map_append, List.map_cons, List.map_nil]
    rw [progsT_app _ [[]], if_neg (by simp)]
    simp [lineN, hp, nextB]
theorem inW_mem (k : Nat) : ∀ c ∈ inW k, 97 ≤ c.toNat ∧ c.toNat ≤ 122 := by unfold inW; (repeat' split) <;> decide
theorem inL_no10 (k a : Nat) : (10 : UInt8) ∉ inL k a := by
  unfold inL
  intro h
  rcases List.mem_append.1 h with h | h
  · have := inW_mem k _ h; simp at this
  · split at h
    · rcases List.mem_cons.1 h with h | h
      · simp at h
      · exact dec_not a 10 (by decide) h
    · simp at h
theorem inW_no32 (k : Nat) : (32 : UInt8) ∉ inW k := fun h => by have := inW_mem k _ h; simp at this
theorem inL_cut (k a : Nat) : Lib.cut (inL k a) [32] = (inW k, if toldB (k : Int) = true then Lib.decDigits a else [], toldB (k : Int)) := by
  unfold inL
  cases h : toldB (k : Int)
  · simp only [Bool.false_eq_true, if_false, List.append_nil]
    exact cut_one_miss (inW_no32 k)
  · simp only [if_true]
    exact cut_one (inW_no32 k)
theorem findI_word : ∀ k : Nat, k < 7 → findI (inW k) (toldB (k : Int)) 7 0 = some k
  | 0, _ | 1, _ | 2, _ | 3, _ | 4, _ | 5, _ | 6, _ => by decide
theorem untold_zero {k a : Nat} (hk : k < 7) (hg : wordE (k : Int) (a : Int) = 0) (ht : toldB (k : Int) = false) : a = 0 := by
  unfold wordE at hg
  rw [if_neg (by omega)] at hg
  split at hg
  · cases hg
  · rename_i h
    unfold toldB at ht
    simp at ht
    unfold argsL argsM at h
    rw [if_neg (by omega), if_neg (by omega), if_neg (by omega), if_neg (by omega)] at h
    omega
theorem instrF_line {k a : Nat} (hk : k < 7) (ha : a ≤ 65535) (hg : wordE (k : Int) (a : Int) = 0) : instrF (inL k a) = (((k : Int), (a : Int)), true) := by
  unfold instrF
  rw [inL_cut]
  dsimp only
  unfold tailI
  rw [findI_word k hk]
  dsimp only
  unfold endI
  cases h : toldB (k : Int)
  · have := untold_zero hk hg h
    subst this
    rfl
  · simp only [if_true]
    rw [numF_dec a 1099511627776 (by omega) (by omega)]
    rfl
theorem inL_next {k a : Nat} (hk : k < 7) : inL k a ≠ [110, 101, 120, 116] := by
  intro h
  have hc := inL_cut k a
  rw [h, show Lib.cut [110, 101, 120, 116] [32] = (([110, 101, 120, 116] : List UInt8), ([] : List UInt8), false) by exact cut_one_miss (by decide)] at hc
  have h1 := (Prod.mk.inj hc).1
  have : ∀ k : Nat, k < 7 → [110, 101, 120, 116] ≠ inW k := fun
    | 0, _ | 1, _ | 2, _ | 3, _ | 4, _ | 5, _ | 6, _ => by decide
  exact this k hk h1
theorem lineW_line {k a : Nat} (hk : k < 7) (ha : a ≤ 65535) (hg : wordE (k : Int) (a : Int) = 0) : lineW (inL k a) = some (wordW (k : Int) (a : Int)) := by
  unfold lineW
  rw [if_neg (inL_next hk), instrF_line hk ha hg, if_pos ⟨rfl, hg⟩]
theorem ins_ok {x n : Int} (h0 : 0 ≤ x) (hn : 1 ≤ n) (hn2 : n ≤ 4097) (hp : prt x = false) : insOk (ins x n) := by
  have hat : atl1 n = n := by unfold atl1; rw [if_neg (by omega)]
  have hm : 0 ≤ x / 8 % n ∧ x / 8 % n < n := ⟨Int.emod_nonneg _ (by omega), Int.emod_lt_of_pos _ (by omega)⟩
  unfold ins
  rw [hat]
  unfold insOk wordE argsL argsM
  split
  · decide
  split
  · decide
  split
  · dsimp only
    refine ⟨by omega, by omega, ?_⟩
    (repeat' split) <;> first | rfl | omega
  split
  · dsimp only
    refine ⟨by omega, by omega, ?_⟩
    (repeat' split) <;> first | rfl | omega
  split
  · dsimp only
    refine ⟨by omega, by omega, ?_⟩
    (repeat' split) <;> first | rfl | omega
  · rename_i h1 h2 h3 h4 h5
    have : x % 8 ≠ 7 := h2
    dsimp only
    refine ⟨by omega, by omega, ?_⟩
    (repeat' split) <;> first | rfl | omega
theorem lineW_lineN {x n : Int} (h0 : 0 ≤ x) (hn : 1 ≤ n) (hn2 : n ≤ 4097) : lineW (lineN n x) = some (normN n x) := by
  unfold lineN normN
  cases hp : prt x
  · simp only [Bool.false_eq_true, if_false]
    obtain ⟨k, a, he, hk, ha, hg⟩ := (ins_ok h0 hn hn2 hp).nat
    rw [he]
    exact lineW_line hk ha hg
  · simp [lineW]
theorem lineN_no10 (n x : Int) : (10 : UInt8) ∉ lineN n x := by
  unfold lineN
  split
  · decide
  · exact inL_no10 _ _
theorem wordsG_all {n : Int} (hn : 1 ≤ n) (hn2 : n ≤ 4097) : ∀ (xs : List Int) (out : List Int), (∀ x ∈ xs, 0 ≤ x) → wordsG out ((xs.map (lineN n)).map bs) = some (out ++ xs.map (normN n))
  | [], out, _ => by simp [wordsG]
  | x :: r, out, h => by
    simp only [List.map_cons, wordsG]
    rw [lineW_lineN (h x (by simp)) hn hn2]
    dsimp only
    rw [wordsG_all hn hn2 r _ fun y hy => h y (List.mem_cons_of_mem _ hy)]
    simp
theorem wordsF_lines {n : Int} (hn : 1 ≤ n) (hn2 : n ≤ 4097) (xs : List Int) (h : ∀ x ∈ xs, 0 ≤ x) (hl : xs.length ≤ 4096) : wordsF (xs.flatMap fun x => lineN n x ++ [10]) = some (xs.map (normN n)) := by
  have e : (xs.flatMap fun x => lineN n x ++ [10]) = (xs.map (lineN n)).flatMap (· ++ [10]) := by rw [List.flatMap_map]
  have hj := linesF_join (xs.map (lineN n)) (by
    intro b hb
    obtain ⟨x, _, rfl⟩ := List.mem_map.1 hb
    exact lineN_no10 n x)
  unfold wordsF
  rw [e, if_pos (by unfold goodL; rw [hj]; exact ⟨rfl, by simpa using hl⟩), hj]
  rw [wordsG_all hn hn2 xs [] h]
  simp
theorem prt_norm {x n : Int} (h0 : 0 ≤ x) (hn : 1 ≤ n) (hn2 : n ≤ 4097) : prt (normN n x) = prt x := by
  unfold normN
  cases hp : prt x
  · simp only [Bool.false_eq_true, if_false]
    obtain ⟨k, a, he, hk, ha, hg⟩ := (ins_ok h0 hn hn2 hp).nat
    rw [he]
    have hr := args_range (k : Int)
    have hw : wordW (k : Int) (a : Int) % 8 = k := by
      unfold wordW
      split
      · omega
      · split
        · rename_i h1 h2
          unfold wordE at hg
          rw [if_neg (by omega), if_pos h2] at hg
          cases hg
        · omega
    unfold prt
    rw [hw]
    have : ((k : Int) == 7) = false := by
      rw [beq_eq_false_iff_ne]; omega
    rw [this, Bool.and_false]
  · simp only [if_true]
    decide
theorem ins_norm {x n : Int} (h0 : 0 ≤ x) (hn : 1 ≤ n) (hn2 : n ≤ 4097) (hp : prt x = false) : ins (normN n x) n = ins x n := by
  have hok := ins_ok h0 hn hn2 hp
  have hat : atl1 n = n := by unfold atl1; rw [if_neg (by omega)]
  obtain ⟨k, a, he, hk, ha, hg⟩ := hok.nat
  have hlt : (k : Int) = 2 → (a : Int) < n := by
    intro h2
    have e1 := congrArg Prod.fst he
    have e2 := congrArg Prod.snd he
    unfold ins at e1 e2
    rw [hat] at e1 e2
    have hm : 0 ≤ x / 8 % n ∧ x / 8 % n < n := ⟨Int.emod_nonneg _ (by omega), Int.emod_lt_of_pos _ (by omega)⟩
    (repeat' split at e1) <;> simp_all <;> omega
  unfold normN
  rw [hp]
  simp only [Bool.false_eq_true, if_false]
  rw [he]
  unfold wordE at hg
  rw [if_neg (by omega)] at hg
  split at hg
  · cases hg
  rename_i h2
  unfold wordW
  rw [if_neg (by omega), if_neg h2]
  unfold argsL argsM at h2
  unfold argsL
  have ht : ¬ top48 ≤ ((a : Int) - (if (k : Int) = 1 then 1 else 0)) * 8 + k := by unfold top48; split <;> omega
  rcases (show k = 0 ∨ k = 1 ∨ k = 2 ∨ k = 3 ∨ k = 4 ∨ k = 5 ∨ k = 6 by omega) with rfl | rfl | rfl | rfl | rfl | rfl | rfl
  all_goals
    simp at ht h2 hlt ⊢
    unfold ins
    rw [if_neg (Int.not_le.2 ht), hat]
  · rw [if_neg (by omega), if_neg (by omega), if_neg (by omega), if_neg (by omega)]
    simp; omega
  · rw [if_neg (by omega), if_pos (by omega)]
    simp; omega
  · rw [if_neg (by omega), if_neg (by omega), if_pos (by omega)]
    have : ((a : Int) * 8 + 2) / 8 = a := by omega
    rw [this, Int.emod_eq_of_lt (by omega) hlt]
  · rw [if_neg (by omega), if_neg (by omega), if_neg (by omega), if_neg (by omega)]
    simp; omega
  · rw [if_neg (by omega), if_neg (by omega), if_neg (by omega), if_neg (by omega)]
    simp; omega
  · rw [if_neg (by omega), if_neg (by omega), if_neg (by omega), if_pos (by omega)]
    simp; omega
  · rw [if_neg (by omega), if_neg (by omega), if_neg (by omega), if_neg (by omega)]
    simp; omega
theorem pieces_map {f : Int → Int} (xs : List Int) (h : ∀ x ∈ xs, prt (f x) = prt x) : pieces (xs.map f) = (pieces xs).map (·.map f) := by
  have : ((runW (xs.map f)).1 = (runW xs).1.map (·.map f)) ∧ (runW (xs.map f)).2 = (runW xs).2.map f := by
    revert h
    refine snoc_ind (P := fun xs => (∀ x ∈ xs, prt (f x) = prt x) → ((runW (xs.map f)).1 = (runW xs).1.map (·.map f)) ∧ (runW (xs.map f)).2 = (runW xs).2.map f) (by simp [runW]) ?_ xs
    intro xs x ih h
    obtain ⟨h1, h2⟩ := ih fun y hy => h y (List.mem_append_left _ hy)
    rw [List.map_append, List.map_cons, List.map_nil, runW_snoc, runW_snoc]
    unfold stepW
    rw [h x (by simp)]
    cases prt x <;> simp [h1, h2]
  unfold pieces
  rw [this.1, this.2]
  simp
theorem pieces_pos (xs : List Int) : 1 ≤ (pieces xs).length := by unfold pieces; simp
theorem pieces_le (xs : List Int) : (pieces xs).length ≤ xs.length + 1 := by unfold pieces; have := runW_len xs; simp; omega
theorem pieces_notprt (xs : List Int) : ∀ p ∈ pieces xs, ∀ x ∈ p, prt x = false := by
  have : (∀ p ∈ (runW xs).1, ∀ x ∈ p, prt x = false) ∧ ∀ x ∈ (runW xs).2, prt x = false := by
    refine snoc_ind (P := fun xs => (∀ p ∈ (runW xs).1, ∀ x ∈ p, prt x = false) ∧ ∀ x ∈ (runW xs).2, prt x = false) (by simp [runW]) ?_ xs
    intro xs x ⟨h1, h2⟩
    rw [runW_snoc]
    unfold stepW
    cases hp : prt x
    · simp only [Bool.false_eq_true, if_false]
      refine ⟨h1, fun y hy => ?_⟩
      rcases List.mem_append.1 hy with hy | hy
      · exact h2 y hy
      · obtain rfl := List.mem_singleton.1 hy; exact hp
    · simp only [if_true]
      refine ⟨fun p hp' => ?_, by simp⟩
      rcases List.mem_append.1 hp' with h | h
      · exact h1 p h
      · obtain rfl := List.mem_singleton.1 h; exact h2
  intro p hp
  rcases List.mem_append.1 hp with h | h
  · exact this.1 p h
  · obtain rfl := List.mem_singleton.1 h; exact this.2
/-- How many programs words are. -/
def cntP (xs : List Int) : Int := ((pieces xs).length : Int)
theorem progsOf_small {xs : List Int} (hl : xs.length ≤ 4096) : progsOf xs = (pieces xs).map fun p => p.map fun x => ins x (cntP xs) := by
  unfold progsOf cntP
  rw [List.take_of_length_le hl]
theorem progsOf_text {xs : List Int} (hl : xs.length ≤ 4096) : progsT (progsOf xs) = xs.flatMap fun x => lineN (cntP xs) x ++ [10] := by
  rw [progsOf_small hl]
  exact progsT_words _ xs
theorem cntP_range {xs : List Int} (hl : xs.length ≤ 4096) : 1 ≤ cntP xs ∧ cntP xs ≤ 4097 := by
  unfold cntP
  have := pieces_pos xs
  have := pieces_le xs
  omega
theorem progsOf_ok {xs : List Int} (hl : xs.length ≤ 4096) (h0 : ∀ x ∈ xs, 0 ≤ x) : ∀ ps ∈ progsOf xs, ∀ x ∈ ps, insOk x := by
  intro ps hp x hx
  rw [progsOf_small hl] at hp
  obtain ⟨q, hq, rfl⟩ := List.mem_map.1 hp
  obtain ⟨y, hy, rfl⟩ := List.mem_map.1 hx
  have hr := cntP_range hl
  exact ins_ok ((pieces_mem xs (fun x => 0 ≤ x) h0 hl q hq).2 y hy) hr.1 hr.2 (pieces_notprt xs q hq y hy)
theorem words_back {xs : List Int} (hl : xs.length ≤ 4096) (h0 : ∀ x ∈ xs, 0 ≤ x) : wordsF (progsT (progsOf xs)) = some (xs.map (normN (cntP xs))) ∧ progsOf (xs.map (normN (cntP xs))) = progsOf xs := by
  have hr := cntP_range hl
  have hpm := pieces_map (f := normN (cntP xs)) xs fun x hx => prt_norm (h0 x hx) hr.1 hr.2
  have hc : cntP (xs.map (normN (cntP xs))) = cntP xs := by
    show ((pieces (xs.map (normN (cntP xs)))).length : Int) = cntP xs
    rw [hpm, List.length_map]
    rfl
  refine ⟨by rw [progsOf_text hl]; exact wordsF_lines hr.1 hr.2 xs h0 hl, ?_⟩
  rw [progsOf_small (by simpa using hl), progsOf_small hl, hc, hpm, List.map_map]
  refine List.map_congr_left fun p hp => ?_
  simp only [Function.comp, List.map_map]
  refine List.map_congr_left fun x hx => ?_
  exact ins_norm ((pieces_mem xs (fun x => 0 ≤ x) h0 hl p hp).2 x hx) hr.1 hr.2 (pieces_notprt xs p hp x hx)
/-- What is split at line feeds, put together again. -/
theorem joinL_splitK : ∀ (k : Nat) (s : List UInt8), joinL (Lib.splitK [10] 0 k s) = s
  | 0, s => by simp [Lib.splitK, joinL]
  | k + 1, s => by
    unfold Lib.splitK
    split
    · simp [joinL]
    · rename_i h
      have h' : Lib.index s [10] ≠ -1 := by simpa using h
      rcases Lib.index_spec s [10] with ⟨h1, _⟩ | ⟨i, h1, h2, h3, _⟩
      · exact absurd h1 h'
      · have hc := Lib.occAt_head rfl h3
        have hlt := (List.getElem?_eq_some_iff.1 hc).1
        have e1 : ((i : Int)).toNat = i := by omega
        rw [h1, e1, Nat.add_zero]
        have ih := joinL_splitK k (s.drop (i + [(10 : UInt8)].length))
        have hne : Lib.splitK [10] 0 k (s.drop (i + [(10 : UInt8)].length)) ≠ [] := by
          cases k with
          | zero => simp [Lib.splitK]
          | succ k => unfold Lib.splitK; split <;> simp
        rw [joinL, if_neg hne, ih, List.length_singleton]
        conv => rhs; rw [← List.take_append_drop i s, List.drop_eq_getElem_cons hlt]
        rw [(List.getElem?_eq_some_iff.1 hc).2]
/-- A text that ends with a line feed is its lines. -/
theorem linesF_text {t : List UInt8} (h : (linesF t).2 = true) : t = ((linesF t).1.map fun s => s.data.toList).flatMap (· ++ [10]) := by
  unfold linesF at h ⊢
  split at h
  · rename_i h0
    subst h0
    rfl
  · rename_i h0
    rw [if_neg h0]
    split at h
    · rename_i hs
      rw [if_pos hs]
      dsimp only
      have hd := Lib.splitB_data (bs [10]) 0 (Lib.countB (bs (Lib.trimSuffix t [10])) (bs [10])) (bs (Lib.trimSuffix t [10]))
      have e : List.map (fun s : ByteArray => s.data.toList) (Lib.splitB (bs [10]) 0 (Lib.countB (bs (Lib.trimSuffix t [10])) (bs [10])) (bs (Lib.trimSuffix t [10]))) = Lib.splitK [10] 0 (Lib.countB (bs (Lib.trimSuffix t [10])) (bs [10])) (Lib.trimSuffix t [10]) := hd
      rw [e]
      have hne : Lib.splitK [10] 0 (Lib.countB (bs (Lib.trimSuffix t [10])) (bs [10])) (Lib.trimSuffix t [10]) ≠ [] := by
        generalize Lib.countB (bs (Lib.trimSuffix t [10])) (bs [10]) = k
        cases k with
        | zero => simp [Lib.splitK]
        | succ k => unfold Lib.splitK; split <;> simp
      rw [joinL_flat _ hne, joinL_splitK]
      unfold Lib.trimSuffix
      rw [if_pos hs]
      have hsuf : [10] <:+ t := List.isSuffixOf_iff_suffix.1 hs
      obtain ⟨p, rfl⟩ := hsuf
      simp
    · cases h
theorem findI_some : ∀ (n j : Nat) (u : List UInt8) (has : Bool) (k : Nat), findI u has n j = some k → j ≤ k ∧ k < j + n ∧ inW k = u ∧ toldB (k : Int) = has
  | 0, j, u, has, k, h => by cases h
  | n + 1, j, u, has, k, h => by
    rw [findI] at h
    split at h
    · rename_i hh
      obtain rfl := Option.some.inj h
      unfold hitI at hh
      rw [Bool.and_eq_true] at hh
      exact ⟨by omega, by omega, eq_of_beq hh.1, eq_of_beq hh.2⟩
    · have := findI_some n (j + 1) u has k h
      exact ⟨by omega, by omega, this.2.2⟩
theorem numF_text {s : List UInt8} {limit : Int} (h : (numF s limit).2 = true) : 0 ≤ (numF s limit).1 ∧ s = Lib.decDigits (numF s limit).1.toNat := by
  unfold numF at h ⊢
  split
  · rename_i v hv
    rw [hv] at h
    dsimp only at h ⊢
    simp only [Bool.and_eq_true, decide_eq_true_eq, beq_iff_eq] at h
    obtain ⟨h0, _, h2⟩ := h
    rw [itoa_nat h0] at h2
    exact ⟨h0, h2.symm⟩
  · rename_i hv
    rw [hv] at h
    cases h
  · rename_i hv
    rw [hv] at h
    cases h
/-- A line that is an instruction is that instruction's line. -/
theorem instrF_text {s : List UInt8} (h : (instrF s).2 = true) : ∃ k a : Nat, (instrF s).1 = ((k : Int), (a : Int)) ∧ k < 7 ∧ s = inL k a := by
  have hcj : (Lib.cut s [32]).2.2 = true → s = (Lib.cut s [32]).1 ++ 32 :: (Lib.cut s [32]).2.1 := by
    intro h
    rcases Lib.index_spec s [32] with ⟨h1, _⟩ | ⟨i, h1, h2, h3, _⟩
    · unfold Lib.cut at h
      rw [h1, if_neg (by omega)] at h
      cases h
    · have hc := Lib.occAt_head rfl h3
      unfold Lib.cut
      rw [h1, if_pos (by omega)]
      dsimp only
      have hlt := (List.getElem?_eq_some_iff.1 hc).1
      have e1 : ((i : Int)).toNat = i := by omega
      rw [e1, List.length_singleton]
      conv => lhs; rw [← List.take_append_drop i s, List.drop_eq_getElem_cons hlt]
      rw [(List.getElem?_eq_some_iff.1 hc).2]
  have hcn : (Lib.cut s [32]).2.2 = false → s = (Lib.cut s [32]).1 := by
    intro h
    unfold Lib.cut at h ⊢
    split at h
    · cases h
    · rename_i hn; rw [if_neg hn]
  unfold instrF tailI at h ⊢
  cases hf : findI (Lib.cut s [32]).1 (Lib.cut s [32]).2.2 7 0 with
  | none => rw [hf] at h; cases h
  | some k =>
    rw [hf] at h
    dsimp only at h ⊢
    obtain ⟨_, hk, hw, ht⟩ := findI_some 7 0 _ _ k hf
    unfold endI at h ⊢
    cases hh : (Lib.cut s [32]).2.2
    · refine ⟨k, 0, by simp, by omega, ?_⟩
      unfold inL
      rw [hw, ht, hh]
      simpa using hcn hh
    · rw [hh] at h
      simp only [if_true] at h ⊢
      split at h
      · rename_i hn
        rw [if_pos hn]
        obtain ⟨h0, h1⟩ := numF_text hn
        refine ⟨k, (numF (Lib.cut s [32]).2.1 1099511627776).1.toNat, by rw [Int.toNat_of_nonneg h0], by omega, ?_⟩
        unfold inL
        rw [hw, ht, hh, if_pos rfl, ← h1]
        exact hcj hh
      · cases h
theorem wordsG_some : ∀ (ls : List ByteArray) (out ws : List Int), wordsG out ls = some ws → ∃ new, ws = out ++ new ∧ ls.map (fun s => lineW s.data.toList) = new.map some
  | [], out, ws, h => ⟨[], by simpa [wordsG] using h.symm, rfl⟩
  | s :: r, out, ws, h => by
    rw [wordsG] at h
    cases hl : lineW s.data.toList with
    | none => rw [hl] at h; cases h
    | some x =>
      rw [hl] at h
      obtain ⟨new, h1, h2⟩ := wordsG_some r _ ws h
      exact ⟨x :: new, by rw [h1]; simp, by simp [hl, h2]⟩
/-- What a line's word says, in n programs of which the one that is spawned is one. -/
theorem lineW_some {s : List UInt8} {x n : Int} (h : lineW s = some x) (hn : 1 ≤ n) (hg : x % 8 = 2 → x / 8 < n) : s = lineN n x ∧ normN n x = x ∧ 0 ≤ x ∧ x < 18446744073709551616 := by
  unfold lineW at h
  split at h
  · rename_i h0
    obtain rfl := Option.some.inj h
    exact ⟨by rw [h0]; rfl, by unfold normN; rw [show prt 7 = true by decide]; rfl, by decide, by decide⟩
  · split at h
    · rename_i h1
      obtain ⟨h1, hw⟩ := h1
      obtain ⟨k, a, he, hk, hs⟩ := instrF_text h1
      rw [he] at h hw
      dsimp only at h hw
      have hx := Option.some.inj h
      have hins : ins x n = ((k : Int), (a : Int)) ∧ prt x = false ∧ 0 ≤ x ∧ x < 18446744073709551616 := by
        unfold wordE at hw
        rw [if_neg (by omega)] at hw
        split at hw
        · cases hw
        rename_i h2
        unfold wordW at hx
        rw [if_neg (by omega), if_neg h2] at hx
        have hat : atl1 n = n := by unfold atl1; rw [if_neg (by omega)]
        unfold argsL argsM at h2
        unfold argsL at hx
        unfold prt ins
        rw [hat]
        have htop : top48 = 281474976710656 := rfl
        rw [htop]
        rcases (show k = 0 ∨ k = 1 ∨ k = 2 ∨ k = 3 ∨ k = 4 ∨ k = 5 ∨ k = 6 by omega) with rfl | rfl | rfl | rfl | rfl | rfl | rfl
        all_goals
          simp at h2 hx
          refine ⟨?_, ?_, by omega, by omega⟩
        · rw [if_neg (by omega), if_neg (by omega), if_neg (by omega), if_neg (by omega), if_neg (by omega)]
          simp; omega
        · have : (x % 8 == 7) = false := by rw [beq_eq_false_iff_ne]; omega
          rw [this, Bool.and_false]
        · rw [if_neg (by omega), if_neg (by omega), if_pos (by omega)]
          simp; omega
        · have : (x % 8 == 7) = false := by rw [beq_eq_false_iff_ne]; omega
          rw [this, Bool.and_false]
        · rw [if_neg (by omega), if_neg (by omega), if_neg (by omega), if_pos (by omega)]
          have h3 : x / 8 = a := by omega
          have h4 := hg (by omega)
          rw [h3, Int.emod_eq_of_lt (by omega) (by omega)]
          rfl
        · have : (x % 8 == 7) = false := by rw [beq_eq_false_iff_ne]; omega
          rw [this, Bool.and_false]
        · rw [if_neg (by omega), if_neg (by omega), if_neg (by omega), if_neg (by omega), if_neg (by omega)]
          simp; omega
        · have : (x % 8 == 7) = false := by rw [beq_eq_false_iff_ne]; omega
          rw [this, Bool.and_false]
        · rw [if_neg (by omega), if_neg (by omega), if_neg (by omega), if_neg (by omega), if_neg (by omega)]
          simp; omega
        · have : (x % 8 == 7) = false := by rw [beq_eq_false_iff_ne]; omega
          rw [this, Bool.and_false]
        · rw [if_neg (by omega), if_neg (by omega), if_neg (by omega), if_neg (by omega), if_pos (by omega)]
          simp; omega
        · have : (x % 8 == 7) = false := by rw [beq_eq_false_iff_ne]; omega
          rw [this, Bool.and_false]
        · rw [if_neg (by omega), if_neg (by omega), if_neg (by omega), if_neg (by omega), if_neg (by omega)]
          simp; omega
        · have : (x % 8 == 7) = false := by rw [beq_eq_false_iff_ne]; omega
          rw [this, Bool.and_false]
      refine ⟨?_, ?_, hins.2.2⟩
      · unfold lineN
        rw [hins.2.1, hins.1]
        exact hs
      · unfold normN
        rw [hins.2.1, hins.1]
        exact hx
    · cases h
theorem wordsF_some {t : List UInt8} {ws : List Int} (h : wordsF t = some ws) : ws.length ≤ 4096 ∧ (∀ x ∈ ws, 0 ≤ x ∧ x < 18446744073709551616) ∧ ws.length ≤ t.length ∧ ((∀ x ∈ ws, x % 8 = 2 → x / 8 < cntP ws) → progsT (progsOf ws) = t ∧ ws.map (normN (cntP ws)) = ws) := by
  unfold wordsF at h
  split at h
  · rename_i hgd
    obtain ⟨new, h1, h2⟩ := wordsG_some _ _ _ h
    rw [List.nil_append] at h1
    subst h1
    have hlen : (linesF t).1.length = ws.length := by have := congrArg List.length h2; simpa using this
    have ht := linesF_text hgd.1
    have hl : ws.length ≤ 4096 := by have := hgd.2; omega
    have hat : ∀ i (hi : i < ws.length), lineW ((linesF t).1[i]'(by omega)).data.toList = some ws[i] := by
      intro i hi
      have := congrArg (fun l => l[i]?) h2
      simp only [List.getElem?_map] at this
      rw [List.getElem?_eq_getElem (by omega), List.getElem?_eq_getElem hi] at this
      simpa using this
    refine ⟨hl, ?_, ?_, fun hg => ⟨?_, ?_⟩⟩
    · intro x hx
      obtain ⟨i, hi, rfl⟩ := List.getElem_of_mem hx
      exact (lineW_some (n := ws[i] / 8 + 1 + 18446744073709551616 * 0 + (if ws[i] / 8 < 0 then - (ws[i] / 8) else 0)) (hat i hi) (by split <;> omega) (fun _ => by split <;> omega)).2.2
    · have e := congrArg List.length ht
      rw [List.length_flatMap] at e
      have : ∀ l : List (List UInt8), l.length ≤ (l.map fun b => (b ++ [10]).length).sum := by
        intro l
        induction l with
        | nil => simp
        | cons b r ih => simp only [List.map_cons, List.sum_cons, List.length_cons, List.length_append]; simp at ih ⊢; omega
      have h3 := this ((linesF t).1.map fun s => s.data.toList)
      rw [List.length_map] at h3
      omega
    · rw [progsOf_text hl]
      conv => rhs; rw [ht]
      rw [List.flatMap_map]
      have : ws.map (lineN (cntP ws)) = (linesF t).1.map fun s => s.data.toList := by
        refine List.ext_getElem (by simp [hlen]) fun i h1 h2 => ?_
        simp only [List.getElem_map]
        have hi : i < ws.length := by simpa using h1
        exact ((lineW_some (hat i hi) (cntP_range hl).1 (hg _ (List.getElem_mem hi))).1).symm
      rw [show (ws.flatMap fun x => lineN (cntP ws) x ++ [10]) = (ws.map (lineN (cntP ws))).flatMap (· ++ [10]) by rw [List.flatMap_map], this, List.flatMap_map]
    · refine List.ext_getElem (by simp) fun i h1 h2 => ?_
      simp only [List.getElem_map]
      exact (lineW_some (hat i h2) (cntP_range hl).1 (hg _ (List.getElem_mem h2))).2.1
  · cases h
end Go.Proofs.YtogpjimmcckkcaaDoor.M
