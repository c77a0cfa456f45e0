/- Script, plain: the text of entries that are right, read back, is those entries. Condition: no more than 65536 entries. -/
import Derived.Test.YtogpjimmcckkcaaDoorMu3
import Derived.Lib.IndexLaws
namespace Go.Proofs.YtogpjimmcckkcaaDoor.M
open Go.RowKit
set_option linter.unusedVariables false
set_option linter.unusedSimpArgs false
theorem index_one {a b : List UInt8} {c : UInt8} (h : c ∉ a) : Lib.index (a ++ c :: b) [c] = a.length := by
  refine Lib.index_hit (fun j hj => ?_) (by simp) (by simp [Lib.occAt])
  rw [Bool.eq_false_iff]
  intro ho
  have := Lib.occAt_head rfl ho
  rw [List.getElem?_append_left hj] at this
  exact h (List.mem_of_getElem? this)
theorem index_miss {s : List UInt8} {c : UInt8} (h : c ∉ s) : Lib.index s [c] = -1 := by
  refine Lib.index_none fun j _ => ?_
  rw [Bool.eq_false_iff]
  intro ho
  exact h (List.mem_of_getElem? (Lib.occAt_head rfl ho))
theorem index_many {a b : List UInt8} (h : 120 ∉ a) : Lib.index (a ++ [32, 120, 32] ++ b) [32, 120, 32] = a.length := by
  refine Lib.index_hit (fun j hj => ?_) (by simp) (by simp [Lib.occAt])
  rw [Bool.eq_false_iff]
  intro ho
  have h1 := Lib.occAt_second rfl ho
  rw [List.append_assoc] at h1
  by_cases hj1 : j + 1 < a.length
  · rw [List.getElem?_append_left hj1] at h1
    exact h (List.mem_of_getElem? h1)
  · rw [List.getElem?_append_right (by omega)] at h1
    have : j + 1 - a.length = 0 := by omega
    rw [this] at h1
    simp at h1
theorem index_many_miss {s : List UInt8} (h : 120 ∉ s) : Lib.index s [32, 120, 32] = -1 := by
  refine Lib.index_none fun j _ => ?_
  rw [Bool.eq_false_iff]
  intro ho
  exact h (List.mem_of_getElem? (Lib.occAt_second rfl ho))
theorem cut_many {a b : List UInt8} (h : 120 ∉ a) : Lib.cut (a ++ [32, 120, 32] ++ b) [32, 120, 32] = (a, b, true) := by
  unfold Lib.cut
  rw [index_many h, if_pos (by omega)]
  simp
theorem cut_many_miss {s : List UInt8} (h : 120 ∉ s) : Lib.cut s [32, 120, 32] = (s, [], false) := by
  unfold Lib.cut
  rw [index_many_miss h, if_neg (by omega)]
theorem cut_one {a b : List UInt8} {c : UInt8} (h : c ∉ a) : Lib.cut (a ++ c :: b) [c] = (a, b, true) := by
  unfold Lib.cut
  rw [index_one h, if_pos (by omega)]
  simp
theorem cut_one_miss {s : List UInt8} {c : UInt8} (h : c ∉ s) : Lib.cut s [c] = (s, [], false) := by
  unfold Lib.cut
  rw [index_miss h, if_neg (by omega)]
theorem dec_mem (n : Nat) : ∀ c ∈ Lib.decDigits n, 48 ≤ c.toNat ∧ c.toNat ≤ 57 := by
  induction n using Nat.strongRecOn with
  | _ n ih =>
    have hd : ∀ d, d < 10 → 48 ≤ (UInt8.ofNat (48 + d)).toNat ∧ (UInt8.ofNat (48 + d)).toNat ≤ 57 := by
      intro d hd
      have : (UInt8.ofNat (48 + d)).toNat = 48 + d := by rw [UInt8.toNat_ofNat']; omega
      omega
    by_cases h : n < 10
    · rw [dec_small h]
      intro c hc
      obtain rfl := List.mem_singleton.1 hc
      exact hd n h
    · rw [dec_big h]
      intro c hc
      rcases List.mem_append.1 hc with hc | hc
      · exact ih (n / 10) (by omega) c hc
      · obtain rfl := List.mem_singleton.1 hc
        exact hd _ (by omega)
theorem dec_not (n : Nat) (c : UInt8) (hc : c.toNat < 48 ∨ 57 < c.toNat) : c ∉ Lib.decDigits n := fun h => by
  have := dec_mem n c h
  omega
theorem dec_ne (n : Nat) : Lib.decDigits n ≠ [] := by
  by_cases h : n < 10
  · rw [dec_small h]; simp
  · rw [dec_big h]; simp
theorem parse_app : ∀ (l : List UInt8) (acc u : Nat) (c : UInt8), Lib.parseUint10 acc l = .ok u → u < 1844674407370955161 → 48 ≤ c.toNat → c.toNat ≤ 57 → Lib.parseUint10 acc (l ++ [c]) = .ok (u * 10 + (c.toNat - 48))
  | [], acc, u, c, h, hu, h1, h2 => by
    simp only [Lib.parseUint10] at h
    injection h with h
    subst h
    simp only [List.nil_append, Lib.parseUint10]
    rw [if_pos ⟨h1, h2⟩, if_neg (by omega), if_neg (by omega)]
  | d :: l, acc, u, c, h, hu, h1, h2 => by
    rw [List.cons_append]
    simp only [Lib.parseUint10] at h ⊢
    split at h
    · split at h
      · cases h
      · split at h
        · cases h
        · rename_i q1 q2 q3
          rw [if_pos q1, if_neg q2, if_neg q3]
          exact parse_app l _ u c h hu h1 h2
    · cases h
theorem parse_dec (n : Nat) (hn : n < 10000000000000) : Lib.parseUint10 0 (Lib.decDigits n) = .ok n := by
  induction n using Nat.strongRecOn with
  | _ n ih =>
    have hd : ∀ d, d < 10 → (UInt8.ofNat (48 + d)).toNat = 48 + d := by
      intro d hd
      rw [UInt8.toNat_ofNat']; omega
    by_cases h : n < 10
    · rw [dec_small h]
      simp only [Lib.parseUint10]
      rw [hd n h, if_pos (by omega), if_neg (by omega), if_neg (by omega)]
      congr 1
      omega
    · rw [dec_big h, parse_app _ 0 (n / 10) _ (ih (n / 10) (by omega) (by omega)) (by omega) (by rw [hd _ (by omega)]; omega) (by rw [hd _ (by omega)]; omega), hd _ (by omega)]
      congr 1
      omega
theorem atoi_dec (n : Nat) (hn : n < 10000000000000) : Lib.atoiAll (Lib.decDigits n) = .ok (n : Int) := by
  cases hd : Lib.decDigits n with
  | nil => exact absurd hd (dec_ne n)
  | cons c r =>
    have hc := dec_mem n c (by rw [hd]; exact List.mem_cons_self)
    unfold Lib.atoiAll
    dsimp only
    rw [if_neg (by omega)]
    have hp : Lib.parseMag (c :: r) = .ok n := by
      unfold Lib.parseMag
      rw [if_neg (by simp), ← hd]
      exact parse_dec n hn
    rw [hp]
    dsimp only
    rw [if_neg (by omega), if_neg (by omega), if_neg (by omega)]
theorem numF_dec (n : Nat) (limit : Int) (hn : n < 10000000000000) (hl : (n : Int) ≤ limit) : numF (Lib.decDigits n) limit = ((n : Int), true) := by
  unfold numF
  rw [atoi_dec n hn]
  dsimp only
  rw [decide_eq_true (show (0 : Int) ≤ (n : Int) by omega), decide_eq_true hl, itoa_nat (by omega)]
  simp
/-- A line without its line feed. -/
def bodyL (k : Int) (h n : Nat) : List UInt8 := enW k ++ (if thrB k = true then 32 :: Lib.decDigits h else []) ++ (if 1 < n then [32, 120, 32] ++ Lib.decDigits n else [])
theorem lineL_body (k : Int) (h n : Nat) : lineL k h n = bodyL k h n ++ [10] := rfl
theorem enW_mem (k : Int) : ∀ c ∈ enW k, 99 ≤ c.toNat ∧ c.toNat ≤ 117 := by
  unfold enW
  (repeat' split) <;> decide
theorem enW_not (k : Int) (c : UInt8) (hc : c.toNat < 99 ∨ 117 < c.toNat) : c ∉ enW k := fun h => by
  have := enW_mem k c h
  omega
theorem rightE_kind {k h : Int} (hr : rightE (k, h) = true) : (k = 1 ∨ k = 2 ∨ k = 3 ∨ k = 4) ∧ (thrB k = false → h = 0) := by
  have hw := rightE_who hr
  unfold rightE rightB at hr
  simp at hr
  obtain ⟨⟨⟨h1, h2⟩, h3⟩, h4⟩ := hr
  have hk : k = 1 ∨ k = 2 ∨ k = 3 ∨ k = 4 := by
    unfold codeOf at h1
    split at h1
    · omega
    split at h1
    · omega
    split at h1
    · omega
    split at h1
    · omega
    · omega
  refine ⟨hk, fun ht => ?_⟩
  rcases h4 with h4 | h4
  · unfold whoB at h4
    unfold thrB at ht
    rw [h4] at ht
    cases ht
  · exact h4
theorem tailF_kind {k : Int} (hk : k = 1 ∨ k = 2 ∨ k = 3 ∨ k = 4) (v : List UInt8) (n : Int) : tailF (enW k) v (thrB k) n = endF v (thrB k) n k := by
  rcases hk with rfl | rfl | rfl | rfl <;> rfl
theorem oneF_body {k : Int} {h n : Nat} (hr : rightE (k, (h : Int)) = true) (h1 : 1 ≤ n) (hn : n ≤ 65536) : oneF (bodyL k h n) = ((k, (h : Int)), (n : Int), true) := by
  obtain ⟨hk, h0⟩ := rightE_kind hr
  obtain ⟨_, hh⟩ := rightE_who hr
  dsimp only at hh
  obtain ⟨p, hp⟩ : ∃ p, p = enW k ++ (if thrB k = true then 32 :: Lib.decDigits h else []) := ⟨_, rfl⟩
  have hx : 120 ∉ p := by
    rw [hp]
    intro hm
    rcases List.mem_append.1 hm with hm | hm
    · exact enW_not k 120 (by decide) hm
    · split at hm
      · rcases List.mem_cons.1 hm with hm | hm
        · revert hm; decide
        · exact dec_not h 120 (by decide) hm
      · cases hm
  have hc : Lib.cut p [32] = (enW k, (if thrB k = true then Lib.decDigits h else []), thrB k) := by
    rw [hp]
    cases ht : thrB k
    · simp only [Bool.false_eq_true, if_false, List.append_nil]
      exact cut_one_miss (enW_not k 32 (by decide))
    · simp only [if_true]
      exact cut_one (enW_not k 32 (by decide))
  have he : ∀ m : Int, tailF (Lib.cut p [32]).1 (Lib.cut p [32]).2.1 (Lib.cut p [32]).2.2 m = ((k, (h : Int)), m, true) := by
    intro m
    rw [hc]
    dsimp only
    rw [tailF_kind hk]
    unfold endF
    cases ht : thrB k
    · rw [if_neg (by decide), h0 ht]
    · rw [if_pos rfl, if_pos rfl, numF_dec h 255 (by omega) (by omega)]
      rfl
  have hb : bodyL k h n = p ++ (if 1 < n then [32, 120, 32] ++ Lib.decDigits n else []) := by rw [hp]; rfl
  rw [hb]
  by_cases hn1 : 1 < n
  · rw [if_pos hn1, ← List.append_assoc]
    unfold oneF
    rw [cut_many hx]
    dsimp only
    rw [if_pos rfl, numF_dec n 65536 (by omega) (by omega), if_pos ⟨rfl, by dsimp only; omega⟩]
    exact he n
  · rw [if_neg hn1, List.append_nil]
    have : n = 1 := by omega
    subst this
    unfold oneF
    rw [cut_many_miss hx]
    dsimp only
    rw [if_neg (by decide)]
    exact he 1
theorem bodyL_not (k : Int) (h n : Nat) : (10 : UInt8) ∉ bodyL k h n := by
  unfold bodyL
  intro hm
  rcases List.mem_append.1 hm with hm | hm
  · rcases List.mem_append.1 hm with hm | hm
    · exact enW_not k 10 (by decide) hm
    · split at hm
      · rcases List.mem_cons.1 hm with hm | hm
        · revert hm; decide
        · exact dec_not h 10 (by decide) hm
      · cases hm
  · split at hm
    · rcases List.mem_append.1 hm with hm | hm
      · revert hm; decide
      · exact dec_not n 10 (by decide) hm
    · cases hm
/-- Lines, each but the last one with its line feed. -/
def joinL : List (List UInt8) → List UInt8
  | [] => []
  | b :: r => if r = [] then b else b ++ 10 :: joinL r
theorem joinL_cons (b c : List UInt8) (r : List (List UInt8)) : joinL (b :: c :: r) = b ++ 10 :: joinL (c :: r) := by rw [joinL, if_neg (by simp)]
theorem joinL_flat : ∀ (bs : List (List UInt8)), bs ≠ [] → bs.flatMap (· ++ [10]) = joinL bs ++ [10]
  | [], h => absurd rfl h
  | [b], _ => by simp [joinL]
  | b :: c :: r, _ => by
    rw [List.flatMap_cons, joinL_flat (c :: r) (by simp), joinL_cons]
    simp
theorem joinL_count : ∀ (bs : List (List UInt8)), bs ≠ [] → (∀ b ∈ bs, (10 : UInt8) ∉ b) → (joinL bs).count 10 + 1 = bs.length
  | [], h, _ => absurd rfl h
  | [b], _, hb => by
    simp only [joinL, if_true]
    rw [List.count_eq_zero.2 (hb b (by simp))]
    rfl
  | b :: c :: r, _, hb => by
    rw [joinL, if_neg (by simp), List.count_append, List.count_eq_zero.2 (hb b (by simp)), List.count_cons_self]
    have := joinL_count (c :: r) (by simp) (fun x hx => hb x (List.mem_cons_of_mem _ hx))
    simp only [List.length_cons] at this ⊢
    omega
theorem joinL_split : ∀ (bs : List (List UInt8)), bs ≠ [] → (∀ b ∈ bs, (10 : UInt8) ∉ b) → Lib.splitK [10] 0 (bs.length - 1) (joinL bs) = bs
  | [], h, _ => absurd rfl h
  | [b], _, hb => by simp [joinL, Lib.splitK]
  | b :: c :: r, _, hb => by
    have hi : Lib.index (joinL (b :: c :: r)) [10] = b.length := by rw [joinL, if_neg (by simp)]; exact index_one (hb b (by simp))
    show Lib.splitK [10] 0 (r.length + 1) (joinL (b :: c :: r)) = _
    rw [Lib.splitK, hi, if_neg (by simp), joinL, if_neg (by simp)]
    have := joinL_split (c :: r) (by simp) (fun x hx => hb x (List.mem_cons_of_mem _ hx))
    simp only [List.length_cons, Nat.add_sub_cancel] at this
    have e1 : ((b.length : Int)).toNat = b.length := by omega
    rw [e1, Nat.add_zero, List.take_left, List.length_singleton, show b.length + 1 = b.length + [(10 : UInt8)].length from rfl, show b ++ 10 :: joinL (c :: r) = b ++ [10] ++ joinL (c :: r) by simp, ← List.length_append, List.drop_left, this]
theorem suffix_app (x : List UInt8) : Lib.hasSuffix (x ++ [10]) [10] = true := by
  unfold Lib.hasSuffix
  rw [List.isSuffixOf_iff_suffix]
  exact List.suffix_append _ _
theorem linesF_join (bodies : List (List UInt8)) (hb : ∀ b ∈ bodies, (10 : UInt8) ∉ b) : linesF (bodies.flatMap (· ++ [10])) = (bodies.map bs, true) := by
  by_cases h : bodies = []
  · subst h; rfl
  · rw [joinL_flat bodies h]
    unfold linesF
    rw [if_neg (by simp), if_pos (suffix_app _)]
    have ht : Lib.trimSuffix (joinL bodies ++ [10]) [10] = joinL bodies := by
      unfold Lib.trimSuffix
      rw [if_pos (suffix_app _)]
      simp
    rw [ht]
    have hk : Lib.countB (bs (joinL bodies)) (bs [10]) = bodies.length - 1 := by
      show Lib.count (joinL bodies) [10] = _
      rw [Lib.count_one]
      have := joinL_count bodies h hb
      omega
    rw [hk]
    have hd := Lib.splitB_data (bs [10]) 0 (bodies.length - 1) (bs (joinL bodies))
    rw [show (bs [10]).data.toList = [10] from rfl, show (bs (joinL bodies)).data.toList = joinL bodies from rfl, joinL_split bodies h hb] at hd
    congr 1
    have := congrArg (List.map bs) hd
    rw [List.map_map] at this
    rw [← this]
    symm
    exact List.map_id'' (fun x => rfl) _
/-- The runs of entries, run of which lie behind the first one. -/
def runsF (run : Nat) : List En → List (En × Nat)
  | [] => []
  | e :: r => if nextIs e r = true then runsF (run + 1) r else (e, run + 1) :: runsF 0 r
theorem wrL_runs : ∀ (l : List En) (run : Nat), wrL run l = (runsF run l).flatMap fun p => lineL p.1.1 p.1.2.toNat p.2
  | [], _ => rfl
  | e :: r, run => by
    rw [wrL, runsF]
    split
    · exact wrL_runs r _
    · rw [List.flatMap_cons, wrL_runs r 0]
theorem nextIs_eq {e : En} {r : List En} (h : nextIs e r = true) : ∃ q, r = e :: q := by
  cases r with
  | nil => cases h
  | cons x q => exact ⟨q, by rw [show x = e from beq_iff_eq.1 h]⟩
theorem runs_flat : ∀ (l : List En) (run : Nat), (runsF run l).flatMap (fun p => List.replicate p.2 p.1) = (match l with | [] => [] | e :: _ => List.replicate run e) ++ l
  | [], _ => rfl
  | e :: r, run => by
    rw [runsF]
    split
    · rename_i h
      obtain ⟨q, rfl⟩ := nextIs_eq h
      rw [runs_flat (e :: q) (run + 1)]
      dsimp only
      rw [List.replicate_succ']
      simp
    · rw [List.flatMap_cons, runs_flat r 0]
      dsimp only
      rw [List.replicate_succ']
      cases r <;> simp
theorem runs_mem : ∀ (l : List En) (run : Nat), ∀ p ∈ runsF run l, p.1 ∈ l ∧ 1 ≤ p.2 ∧ p.2 ≤ run + l.length
  | [], _, p, hp => by cases hp
  | e :: r, run, p, hp => by
    rw [runsF] at hp
    split at hp
    · obtain ⟨h1, h2, h3⟩ := runs_mem r _ p hp
      exact ⟨List.mem_cons_of_mem _ h1, h2, by simp only [List.length_cons]; omega⟩
    · rcases List.mem_cons.1 hp with rfl | hp
      · exact ⟨by simp, by simp, by simp only [List.length_cons]; omega⟩
      · obtain ⟨h1, h2, h3⟩ := runs_mem r _ p hp
        exact ⟨List.mem_cons_of_mem _ h1, h2, by simp only [List.length_cons]; omega⟩
def bodyR (p : En × Nat) : List UInt8 := bodyL p.1.1 p.1.2.toNat p.2
theorem readG_runs : ∀ (ps : List (En × Nat)) (out : List En), (∀ p ∈ ps, rightE p.1 = true ∧ 1 ≤ p.2 ∧ p.2 ≤ 65536) → (out ++ ps.flatMap fun p => List.replicate p.2 p.1).length ≤ 65536 →
    readG out (ps.map fun p => bs (bodyR p)) = some (out ++ ps.flatMap fun p => List.replicate p.2 p.1)
  | [], out, _, _ => by simp [readG]
  | ((k, h), n) :: ps, out, hp, hl => by
    obtain ⟨hr, h1, h2⟩ := hp _ List.mem_cons_self
    have hw := rightE_who hr
    obtain ⟨m, rfl⟩ := Int.eq_ofNat_of_zero_le (show 0 ≤ h from hw.1)
    dsimp only at h1 h2
    rw [List.map_cons, readG]
    have ho : oneF (bs (bodyR ((k, (m : Int)), n))).data.toList = ((k, (m : Int)), (n : Int), true) := oneF_body hr h1 h2
    rw [ho]
    rw [List.flatMap_cons] at hl ⊢
    simp only [List.length_append, List.length_replicate] at hl
    rw [if_pos ⟨rfl, by dsimp only; omega⟩, show ((n : Int)).toNat = n from rfl]
    rw [readG_runs ps _ (fun p h => hp p (List.mem_cons_of_mem _ h)) (by simp only [List.length_append, List.length_replicate]; omega), List.append_assoc]
theorem readF_wrL (l : List En) (hr : l.all rightE = true) (hl : l.length ≤ 65536) : readF (wrL 0 l) = some l := by
  have hp : ∀ p ∈ runsF 0 l, rightE p.1 = true ∧ 1 ≤ p.2 ∧ p.2 ≤ 65536 := fun p h => by
    obtain ⟨h1, h2, h3⟩ := runs_mem l 0 p h
    exact ⟨List.all_eq_true.1 hr _ h1, h2, by omega⟩
  have hf : (runsF 0 l).flatMap (fun p => List.replicate p.2 p.1) = l := by
    rw [runs_flat]
    cases l <;> simp
  have hw : wrL 0 l = ((runsF 0 l).map bodyR).flatMap (· ++ [10]) := by
    rw [wrL_runs, List.flatMap_map]
    rfl
  have hls : linesF (wrL 0 l) = (((runsF 0 l).map bodyR).map bs, true) := by
    rw [hw]
    exact linesF_join _ (fun b hb => by
      obtain ⟨p, _, rfl⟩ := List.mem_map.1 hb
      exact bodyL_not _ _ _)
  unfold readF
  rw [hls]
  dsimp only
  rw [List.map_map]
  have := readG_runs (runsF 0 l) [] hp (by rw [hf]; simpa using hl)
  rw [hf, List.nil_append] at this
  rw [show (bs ∘ bodyR) = fun p => bs (bodyR p) from rfl, this]
  dsimp only
  rw [if_pos ⟨rfl, hr, rfl⟩]
end Go.Proofs.YtogpjimmcckkcaaDoor.M
