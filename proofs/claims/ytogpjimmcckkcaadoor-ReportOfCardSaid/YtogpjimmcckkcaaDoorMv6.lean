/- Report, plain: the text of events that may be told, read back, is those events; what is read, written, is the text. -/
import Derived.Test.YtogpjimmcckkcaaDoorMv5
namespace Go.Proofs.YtogpjimmcckkcaaDoor.M
open Go.RowKit
set_option linter.unusedVariables false
set_option linter.unusedSimpArgs false
theorem cut_join {s : List UInt8} {c : UInt8} (h : (Lib.cut s [c]).2.2 = true) : s = (Lib.cut s [c]).1 ++ c :: (Lib.cut s [c]).2.1 := by
  rcases Lib.index_spec s [c] with ⟨h1, _⟩ | ⟨i, h1, h2, h3, _⟩
  · unfold Lib.cut at h
    rw [h1, if_neg (by omega)] at h
    cases h
  · have hc := Lib.occAt_head rfl h3
    unfold Lib.cut
    rw [h1, if_pos (by omega)]
    dsimp only
    have hlt := (List.getElem?_eq_some_iff.1 hc).1
    have e1 : ((i : Int)).toNat = i := by omega
    rw [e1, List.length_singleton]
    conv => lhs; rw [← List.take_append_drop i s, List.drop_eq_getElem_cons hlt]
    rw [(List.getElem?_eq_some_iff.1 hc).2]
theorem readRG_some : ∀ (n : Nat) (acc : List Rep) (rest : List UInt8) (out : List Rep), acc.length ≤ 65536 → readRG n acc rest = some out → ∃ new, out = acc ++ new ∧ new.all rightR = true ∧ new.flatMap lineR = rest ∧ out.length ≤ 65536
  | 0, acc, rest, out, ha, h => by
    rw [readRG] at h
    split at h
    · rename_i hr
      obtain rfl := Option.some.inj h
      exact ⟨[], by simp, rfl, by rw [hr]; rfl, ha⟩
    · cases h
  | n + 1, acc, rest, out, ha, h => by
    rw [readRG] at h
    split at h
    · rename_i hr
      obtain rfl := Option.some.inj h
      exact ⟨[], by simp, rfl, by rw [hr]; rfl, ha⟩
    · split at h
      · rename_i hc
        obtain ⟨h1, h2, h3, h4⟩ := hc
        obtain ⟨new, e1, e2, e3, e4⟩ := readRG_some n _ _ out (by rw [List.length_append]; simp; omega) h
        refine ⟨oneR (Lib.cut rest [10]).1 :: new, by rw [e1]; simp, by rw [List.all_cons, h2, e2]; rfl, ?_, e4⟩
        rw [List.flatMap_cons, h3, e3]
        conv => rhs; rw [cut_join h1]
        simp
      · cases h
theorem readR_some {t : List UInt8} {out : List Rep} (h : readR t = some out) : out.all rightR = true ∧ out.flatMap lineR = t := by
  obtain ⟨new, e1, e2, e3, _⟩ := readRG_some _ [] t out (by simp) h
  rw [List.nil_append] at e1
  subst e1
  exact ⟨e2, e3⟩
/-- A word, and more behind a letter each. -/
def joinX (c : UInt8) (x : List UInt8) (r : List (List UInt8)) : List UInt8 := x ++ r.flatMap (c :: ·)
theorem joinX_cons (c : UInt8) (x y : List UInt8) (r : List (List UInt8)) : joinX c x (y :: r) = x ++ c :: joinX c y r := by simp [joinX]
theorem joinX_count (c : UInt8) : ∀ (r : List (List UInt8)) (x : List UInt8), c ∉ x → (∀ y ∈ r, c ∉ y) → (joinX c x r).count c = r.length
  | [], x, hx, _ => by simp [joinX, List.count_eq_zero.2 hx]
  | y :: r, x, hx, hr => by
    rw [joinX_cons, List.count_append, List.count_eq_zero.2 hx, List.count_cons_self, joinX_count c r y (hr y List.mem_cons_self) (fun z hz => hr z (List.mem_cons_of_mem _ hz))]
    simp
theorem joinX_split (c : UInt8) : ∀ (r : List (List UInt8)) (x : List UInt8), c ∉ x → (∀ y ∈ r, c ∉ y) → Lib.splitK [c] 0 r.length (joinX c x r) = x :: r
  | [], x, hx, _ => by simp [joinX, Lib.splitK]
  | y :: r, x, hx, hr => by
    have hi : Lib.index (joinX c x (y :: r)) [c] = x.length := by rw [joinX_cons]; exact index_one hx
    show Lib.splitK [c] 0 (r.length + 1) (joinX c x (y :: r)) = _
    rw [Lib.splitK, hi, if_neg (by simp), joinX_cons]
    have := joinX_split c r y (hr y List.mem_cons_self) (fun z hz => hr z (List.mem_cons_of_mem _ hz))
    have e1 : ((x.length : Int)).toNat = x.length := by omega
    rw [e1, Nat.add_zero, List.take_left, List.length_singleton, show x.length + 1 = x.length + [c].length from rfl, show x ++ c :: joinX c y r = x ++ [c] ++ joinX c y r by simp, ← List.length_append, List.drop_left, this]
theorem wordsB_join (x : List UInt8) (r : List (List UInt8)) (hx : (32 : UInt8) ∉ x) (hr : ∀ y ∈ r, (32 : UInt8) ∉ y) : wordsB (joinX 32 x r) = (x :: r).map bs := by
  unfold wordsB
  have hk : Lib.countB (bs (joinX 32 x r)) (bs [32]) = r.length := by
    show Lib.count (joinX 32 x r) [32] = _
    rw [Lib.count_one]
    exact joinX_count 32 r x hx hr
  rw [hk]
  have hd := Lib.splitB_data (bs [32]) 0 r.length (bs (joinX 32 x r))
  rw [show (bs [32]).data.toList = [32] from rfl, show (bs (joinX 32 x r)).data.toList = joinX 32 x r from rfl, joinX_split 32 r x hx hr] at hd
  have := congrArg (List.map bs) hd
  rw [List.map_map] at this
  rw [← this]
  symm
  exact List.map_id'' (fun x => rfl) _
/-- The word of a letter and a number. -/
def nmL (c : UInt8) (n : Int) : List (List UInt8) := if n = -1 then [] else [c :: Lib.decDigits n.toNat]
theorem namedL_nm (c : UInt8) (n : Int) : namedL c n = (nmL c n).flatMap (32 :: ·) := by unfold namedL nmL; split <;> simp
def restW (e : Rep) : List (List UInt8) := nmL 103 e.g ++ nmL 103 e.o ++ nmL 116 e.t ++ nmL 112 e.p
theorem lineR_join (e : Rep) : lineR e = joinX 32 (evW e.k.toNat) (restW e) ++ [10] := by
  unfold lineR joinX restW
  simp only [namedL_nm, List.flatMap_append, List.append_assoc]
theorem evW_mem (k : Nat) : ∀ c ∈ evW k, 97 ≤ c.toNat ∧ c.toNat ≤ 122 := by unfold evW; split <;> decide
theorem nmL_mem (a : UInt8) (n : Int) (h1 : 97 ≤ a.toNat) : ∀ y ∈ nmL a n, ∀ c ∈ y, 48 ≤ c.toNat := by
  intro y hy c hc
  unfold nmL at hy
  split at hy
  · cases hy
  · obtain rfl := List.mem_singleton.1 hy
    rcases List.mem_cons.1 hc with rfl | hc
    · omega
    · exact (dec_mem _ c hc).1
theorem restW_mem (e : Rep) : ∀ y ∈ restW e, ∀ c ∈ y, 48 ≤ c.toNat := by
  intro y hy
  unfold restW at hy
  rcases List.mem_append.1 hy with hy | hy
  · rcases List.mem_append.1 hy with hy | hy
    · rcases List.mem_append.1 hy with hy | hy
      · exact nmL_mem 103 _ (by decide) y hy
      · exact nmL_mem 103 _ (by decide) y hy
    · exact nmL_mem 116 _ (by decide) y hy
  · exact nmL_mem 112 _ (by decide) y hy
theorem evW_low (k : Nat) (c : UInt8) (hc : c.toNat < 48) : c ∉ evW k := fun h => by have := evW_mem k c h; omega
theorem restW_low (e : Rep) (c : UInt8) (hc : c.toNat < 48) : ∀ y ∈ restW e, c ∉ y := fun y hy h => by have := restW_mem e y hy c h; omega
theorem body_no10 (e : Rep) : (10 : UInt8) ∉ joinX 32 (evW e.k.toNat) (restW e) := by
  unfold joinX
  intro h
  rcases List.mem_append.1 h with h | h
  · exact evW_low _ 10 (by decide) h
  · obtain ⟨y, hy, hm⟩ := List.mem_flatMap.1 h
    rcases List.mem_cons.1 hm with hm | hm
    · revert hm; decide
    · exact restW_low e 10 (by decide) y hy hm
theorem numG_dec (c : UInt8) (n : Nat) (hn : n < 10000000000000) : numG (c :: Lib.decDigits n) c = n := by
  have hp : Lib.hasPrefix (c :: Lib.decDigits n) [c] = true := by simp [Lib.hasPrefix]
  unfold numG Lib.trimPrefix
  rw [if_pos hp]
  rw [show (c :: Lib.decDigits n).drop [c].length = Lib.decDigits n from rfl, atoi_dec n hn, hp]
  rfl
theorem pre_ne (a c : UInt8) (d : List UInt8) (h : c ≠ a) : Lib.hasPrefix (a :: d) [c] = false := by
  show (c == a && ([] : List UInt8).isPrefixOf d) = false
  rw [beq_eq_false_iff_ne.2 h]
  rfl
theorem pre_eq (c : UInt8) (d : List UInt8) : Lib.hasPrefix (c :: d) [c] = true := by simp [Lib.hasPrefix]
theorem kindR_word : ∀ k : Nat, 1 ≤ k → k < 12 → kindR (evW k) = k
  | 1, _, _ => rfl | 2, _, _ => rfl | 3, _, _ => rfl | 4, _, _ => rfl | 5, _, _ => rfl | 6, _, _ => rfl | 7, _, _ => rfl | 8, _, _ => rfl | 9, _, _ => rfl | 10, _, _ => rfl | 11, _, _ => rfl
  | 0, h, _ => absurd h (by omega)
  | q + 12, _, h => absurd h (by omega)
theorem oneR_line (e : Rep) (hr : rightR e = true) : oneR (joinX 32 (evW e.k.toNat) (restW e)) = e := by
  obtain ⟨⟨hk0, hk1⟩, ⟨hg0, hg1⟩, ⟨ho0, ho1⟩, ⟨ht0, ht1⟩, ⟨hp0, hp1⟩⟩ := rightR_range hr
  unfold oneR
  rw [wordsB_join _ _ (evW_low _ 32 (by decide)) (restW_low e 32 (by decide))]
  obtain ⟨k, g, o, t, p⟩ := e
  dsimp only at *
  obtain ⟨K, rfl⟩ := Int.eq_ofNat_of_zero_le (show 0 ≤ k by omega)
  obtain ⟨G, rfl⟩ := Int.eq_ofNat_of_zero_le hg0
  obtain ⟨T, rfl⟩ := Int.eq_ofNat_of_zero_le ht0
  show foldOne ⟨kindR (evW K), -1, -1, -1, -1⟩ 0 ((restW ⟨(K : Int), (G : Int), o, (T : Int), p⟩).map bs) = _
  rw [kindR_word K (by omega) (by omega)]
  unfold restW nmL
  dsimp only
  rw [if_neg (show ¬ ((G : Int) = -1) by omega), if_neg (show ¬ ((T : Int) = -1) by omega)]
  have hG : numG (103 :: Lib.decDigits G) 103 = G := numG_dec 103 G (by omega)
  have hT : numG (116 :: Lib.decDigits T) 116 = T := numG_dec 116 T (by omega)
  have n1 : ∀ d, Lib.hasPrefix (116 :: d) [103] = false := fun d => pre_ne 116 103 d (by decide)
  have n2 : ∀ d, Lib.hasPrefix (112 :: d) [116] = false := fun d => pre_ne 112 116 d (by decide)
  have e1 : ∀ d, Lib.hasPrefix (103 :: d) [103] = true := fun d => pre_eq 103 d
  have e2 : ∀ d, Lib.hasPrefix (116 :: d) [116] = true := fun d => pre_eq 116 d
  by_cases ho : o = -1
  · subst ho
    by_cases hp : p = -1
    · subst hp
      simp [foldOne, stepOne, hG, hT, n1, n2, e1, e2]
    · obtain ⟨P, rfl⟩ := Int.eq_ofNat_of_zero_le (show 0 ≤ p by omega)
      have hP : numG (112 :: Lib.decDigits P) 112 = P := numG_dec 112 P (by omega)
      simp [foldOne, stepOne, hG, hT, hP, n1, n2, e1, e2, hp]
  · obtain ⟨O, rfl⟩ := Int.eq_ofNat_of_zero_le (show 0 ≤ o by omega)
    have hO : numG (103 :: Lib.decDigits O) 103 = O := numG_dec 103 O (by omega)
    by_cases hp : p = -1
    · subst hp
      simp [foldOne, stepOne, hG, hT, hO, n1, n2, e1, e2, ho]
    · obtain ⟨P, rfl⟩ := Int.eq_ofNat_of_zero_le (show 0 ≤ p by omega)
      have hP : numG (112 :: Lib.decDigits P) 112 = P := numG_dec 112 P (by omega)
      simp [foldOne, stepOne, hG, hT, hO, hP, n1, n2, e1, e2, ho, hp]
theorem readRG_lines : ∀ (l : List Rep) (n : Nat) (acc : List Rep), l.all rightR = true → acc.length + l.length ≤ 65536 → l.length ≤ n → readRG n acc (l.flatMap lineR) = some (acc ++ l)
  | [], n, acc, _, _, _ => by rw [List.flatMap_nil, readRG_nil, List.append_nil]
  | e :: l, n, acc, hr, hl, hn => by
    rw [List.all_cons, Bool.and_eq_true] at hr
    obtain ⟨m, rfl⟩ : ∃ m, n = m + 1 := ⟨n - 1, by simp at hn; omega⟩
    simp only [List.length_cons] at hl hn
    have hc : Lib.cut ((e :: l).flatMap lineR) [10] = (joinX 32 (evW e.k.toNat) (restW e), l.flatMap lineR, true) := by
      rw [List.flatMap_cons, lineR_join, List.append_assoc, List.singleton_append]
      exact cut_one (body_no10 e)
    rw [readRG, if_neg (by rw [List.flatMap_cons, lineR_join]; simp), hc]
    dsimp only
    rw [oneR_line e hr.1, if_pos ⟨rfl, hr.1, lineR_join e, by omega⟩, readRG_lines l m _ hr.2 (by rw [List.length_append]; simp; omega) (by omega), List.append_assoc]
    rfl
theorem lineR_pos (e : Rep) : 1 ≤ (lineR e).length := by rw [lineR_join, List.length_append]; simp
theorem lines_len : ∀ l : List Rep, l.length ≤ (l.flatMap lineR).length
  | [] => by simp
  | e :: l => by
    rw [List.flatMap_cons, List.length_append, List.length_cons]
    have := lineR_pos e
    have := lines_len l
    omega
theorem readR_lines (l : List Rep) (hr : l.all rightR = true) (hl : l.length ≤ 65536) : readR (l.flatMap lineR) = some l := by
  unfold readR
  rw [readRG_lines l _ [] hr (by simpa using hl) (by have := lines_len l; omega), List.nil_append]
end Go.Proofs.YtogpjimmcckkcaaDoor.M
