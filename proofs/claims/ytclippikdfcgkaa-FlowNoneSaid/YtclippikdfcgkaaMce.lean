/- The document's memory (package turnspitref03): what one is, and what New, Do and Peek do. Conditions: counters below 2^62. -/
import Derived.Test.YtclippikdfcgkaaMcd
import Derived.Deep.RegionLaw
import Derived.Deep.AppendLies
namespace Go.Proofs.Ytclippikdfcgkaa.M
open Go.RowKit Go.Proofs.YtclippikdfcgkaaW.PrintWords Go.Proofs.YtclippikdfcgkaaW.PrintLast Go.Proofs.YtclippikdfcgkaaW.PrintMore
set_option linter.unusedVariables false
set_option linter.unusedSimpArgs false
theorem Blk.set_eq {w : World} {b : Nat} {c c' : Array Value} {T : TypeId} (h : Blk w b c T) {i : Nat} {v : Value} (e : c.setIfInBounds i v = c') : Blk (w.setCell ⟨b, i, none⟩ v) b c' T := e ▸ h.set i v

def IsRef (w : World) (base b : Nat) (v : Value) (m : MemS) : Prop :=
  base ≤ b ∧ Blk w b (memCells v m) 78 ∧ w.ownsRow base 55 1 v m.words.length (nums .u64 m.words) ∧ v.ownBlock ≠ some b
section
variable {w w1 : World} {base b : Nat} {v : Value} {m : MemS}
theorem IsRef.bw (h : IsRef w base b v m) (hb : Bw w w1) : IsRef w1 base b v m := ⟨h.1, h.2.1.bw hb, pw_own_below h.2.2.1 hb, h.2.2.2⟩
theorem IsRef.chg {S : Nat → Prop} (h : IsRef w base b v m) (hc : Chg S w w1) (hd : ∀ i, MemF b v i → ¬ S i) : IsRef w1 base b v m :=
  ⟨h.1, h.2.1.of_block (hc.block b h.2.1.lt (hd b (.inl rfl))), own_of_block h.2.2.1 (fun k hk => hc.block k (own_lt h.2.2.1 k hk) (hd k (.inr hk))), h.2.2.2⟩
theorem IsRef.lt (h : IsRef w base b v m) : ∀ i, MemF b v i → i < w.heap.size := by
  rintro i (rfl | hi)
  · exact h.2.1.lt
  · exact own_lt h.2.2.1 i hi
theorem IsRef.ge (h : IsRef w base b v m) : ∀ i, MemF b v i → base ≤ i := by
  rintro i (rfl | hi)
  · exact h.1
  · exact own_base h.2.2.1 i hi

def MemS.act (m : MemS) (k who at_ old x : Int) : MemS × Int :=
  if k = 4 then m.add who at_ x
  else if k = 3 then (m.swap who at_ old x, if (m.swap who at_ old x).last.done = true then 1 else 0)
  else if k = 2 then (m.store who at_ x, 0)
  else (m.load who at_, (m.load who at_).last.old)

def MemS.go (m : MemS) (k who at_ x : Int) : MemS := { m with clock := m.clock + 1, last := ⟨k, who, at_, 0, x, false⟩ }
theorem ref_start (k who at_ x : Int) (h : IsRef w base b v m) : IsRef (((((((w.setCell ⟨b, 1, none⟩ (.int .i64 (m.clock + 1))).setCell ⟨b, 3, none⟩ (.int .i64 k)).setCell ⟨b, 4, none⟩ (.int .i64 who)).setCell ⟨b, 5, none⟩ (.int .i64 at_)).setCell ⟨b, 6, none⟩ (.int .u64 0)).setCell ⟨b, 7, none⟩ (.int .u64 x)).setCell ⟨b, 8, none⟩ (.bool false)) base b v (m.go k who at_ x) := by
  have hne := own_ne h.2.2.1 h.2.1 (by decide)
  refine ⟨h.1, ?_, ?_, h.2.2.2⟩
  · have := ((((((h.2.1.set 1 (.int .i64 (m.clock + 1))).set 3 (.int .i64 k)).set 4 (.int .i64 who)).set 5 (.int .i64 at_)).set 6 (.int .u64 0)).set 7 (.int .u64 x)).set 8 (.bool false)
    simpa [memCells, MemS.go] using this
  · exact own_setCell (own_setCell (own_setCell (own_setCell (own_setCell (own_setCell (own_setCell h.2.2.1 hne _) hne _) hne _) hne _) hne _) hne _) hne _
theorem ref_chg (k who at_ x : Int) : Chg (MemF b v) w (((((((w.setCell ⟨b, 1, none⟩ (.int .i64 (m.clock + 1))).setCell ⟨b, 3, none⟩ (.int .i64 k)).setCell ⟨b, 4, none⟩ (.int .i64 who)).setCell ⟨b, 5, none⟩ (.int .i64 at_)).setCell ⟨b, 6, none⟩ (.int .u64 0)).setCell ⟨b, 7, none⟩ (.int .u64 x)).setCell ⟨b, 8, none⟩ (.bool false)) :=
  ((((((((Chg.refl _ w).setb (.inl rfl) _).setb (.inl rfl) _).setb (.inl rfl) _).setb (.inl rfl) _).setb (.inl rfl) _).setb (.inl rfl) _).setb (.inl rfl) _)
theorem IsRef.bad (h : IsRef w base b v m) (x : Int) : IsRef (w.setCell ⟨b, 2, none⟩ (.int .i64 x)) base b v { m with bad := x } := by
  have hne := own_ne h.2.2.1 h.2.1 (by decide)
  exact ⟨h.1, by simpa [memCells] using h.2.1.set 2 (.int .i64 x), own_setCell h.2.2.1 hne _, h.2.2.2⟩
theorem IsRef.new (h : IsRef w base b v m) (x : Int) : IsRef (w.setCell ⟨b, 7, none⟩ (.int .u64 x)) base b v { m with last := { m.last with new := x } } := by
  have hne := own_ne h.2.2.1 h.2.1 (by decide)
  exact ⟨h.1, by simpa [memCells] using h.2.1.set 7 (.int .u64 x), own_setCell h.2.2.1 hne _, h.2.2.2⟩
theorem IsRef.old (h : IsRef w base b v m) (x : Int) : IsRef (w.setCell ⟨b, 6, none⟩ (.int .u64 x)) base b v { m with last := { m.last with old := x } } := by
  have hne := own_ne h.2.2.1 h.2.1 (by decide)
  exact ⟨h.1, by simpa [memCells] using h.2.1.set 6 (.int .u64 x), own_setCell h.2.2.1 hne _, h.2.2.2⟩
theorem IsRef.done (h : IsRef w base b v m) (x : Bool) : IsRef (w.setCell ⟨b, 8, none⟩ (.bool x)) base b v { m with last := { m.last with done := x } } := by
  have hne := own_ne h.2.2.1 h.2.1 (by decide)
  exact ⟨h.1, by simpa [memCells] using h.2.1.set 8 (.bool x), own_setCell h.2.2.1 hne _, h.2.2.2⟩
theorem IsRef.word {g cap n : Nat} (h : IsRef w base b (.slice (some ⟨g, 0, none⟩) n cap) m) (hn : n = m.words.length) (i x : Int) : IsRef (w.setCell ⟨g, i.toNat, none⟩ (.int .u64 x)) base b (.slice (some ⟨g, 0, none⟩) n cap) { m with words := m.words.set i.toNat x } := by
  subst hn
  have hgb : g ≠ b := by simpa [Value.ownBlock] using h.2.2.2
  exact ⟨h.1, by simpa [memCells] using h.2.1.other ⟨g, i.toNat, none⟩ (.int .u64 x) hgb, by simpa using (own_store h.2.2.1 i x).1, h.2.2.2⟩
theorem IsRef.cells (h : IsRef w base b v m) : w.cell? ⟨b, 0, none⟩ = some v ∧ w.cell? ⟨b, 1, none⟩ = some (.int .i64 m.clock) ∧ w.cell? ⟨b, 2, none⟩ = some (.int .i64 m.bad) ∧ w.cell? ⟨b, 3, none⟩ = some (.int .i64 m.last.kind) ∧ w.cell? ⟨b, 4, none⟩ = some (.int .i64 m.last.who)
    ∧ w.cell? ⟨b, 5, none⟩ = some (.int .i64 m.last.at_) ∧ w.cell? ⟨b, 6, none⟩ = some (.int .u64 m.last.old) ∧ w.cell? ⟨b, 7, none⟩ = some (.int .u64 m.last.new) ∧ w.cell? ⟨b, 8, none⟩ = some (.bool m.last.done) :=
  ⟨h.2.1.cell 0 _ rfl, h.2.1.cell 1 _ rfl, h.2.1.cell 2 _ rfl, h.2.1.cell 3 _ rfl, h.2.1.cell 4 _ rfl, h.2.1.cell 5 _ rfl, h.2.1.cell 6 _ rfl, h.2.1.cell 7 _ rfl, h.2.1.cell 8 _ rfl⟩
theorem act_out (m : MemS) (k who at_ old x : Int) (hk : k = 1 ∧ x = 0 ∨ k = 2 ∨ k = 3 ∨ k = 4) (hat : ¬ (0 ≤ at_ ∧ at_ < m.words.length)) : m.act k who at_ old x = ({ m.go k who at_ x with bad := m.bad + 1 }, 0) := by
  have hd : ∀ a f, a.at_ = at_ → m.does a f = { words := m.words, clock := m.clock + 1, bad := m.bad + 1, last := a } := by
    intro a f ha
    unfold MemS.does
    rw [ha, if_neg hat]
  unfold MemS.act MemS.add MemS.swap MemS.store MemS.load MemS.go
  rw [hd _ _ rfl, hd _ _ rfl, hd _ _ rfl, hd _ _ rfl]
  rcases hk with ⟨rfl, rfl⟩ | rfl | rfl | rfl <;> simp
theorem act_in (m : MemS) (k who at_ old x : Int) (hk : k = 1 ∧ x = 0 ∨ k = 2 ∨ k = 3 ∨ k = 4) (hat : 0 ≤ at_ ∧ at_ < m.words.length) (hr : 0 ≤ rd m.words at_ ∧ 0 ≤ x) : m.act k who at_ old x =
    if k = 4 then ({ m with words := m.words.set at_.toNat ((rd m.words at_ + x) % 4294967296), clock := m.clock + 1, last := ⟨4, who, at_, rd m.words at_, (rd m.words at_ + x) % 4294967296, true⟩ }, (rd m.words at_ + x) % 4294967296)
    else if k = 3 then (if rd m.words at_ = old then ({ m with words := m.words.set at_.toNat x, clock := m.clock + 1, last := ⟨3, who, at_, rd m.words at_, x, true⟩ }, 1) else ({ m with clock := m.clock + 1, last := ⟨3, who, at_, rd m.words at_, x, false⟩ }, 0))
    else if k = 2 then ({ m with words := m.words.set at_.toNat x, clock := m.clock + 1, last := ⟨2, who, at_, rd m.words at_, x, true⟩ }, 0)
    else ({ m with clock := m.clock + 1, last := ⟨1, who, at_, rd m.words at_, 0, true⟩ }, rd m.words at_) := by
  have hs : m.words.set at_.toNat (rd m.words at_) = m.words := by
    apply List.ext_getElem?
    intro j
    rw [List.getElem?_set]
    split
    · subst_vars
      rw [if_pos (by omega)]
      unfold rd
      rw [List.getD_eq_getElem?_getD, List.getElem?_eq_getElem (by omega)]
      rfl
    · rfl
  have hd : ∀ a f, a.at_ = at_ → m.does a f = { words := m.words.set at_.toNat (f (rd m.words at_)).1, clock := m.clock + 1, bad := m.bad, last := { a with old := rd m.words at_, done := (f (rd m.words at_)).2 } } := by
    intro a f ha
    unfold MemS.does
    rw [ha, if_pos hat]
  unfold MemS.act MemS.add MemS.swap MemS.store MemS.load
  rw [hd _ _ rfl, hd _ _ rfl, hd _ _ rfl, hd _ _ rfl]
  have hadd : (rd m.words at_ % 4294967296 + x % 4294967296) % 4294967296 = (rd m.words at_ + x) % 4294967296 := by omega
  rcases hk with ⟨rfl, rfl⟩ | rfl | rfl | rfl
  · simp [hs]
  · simp
  · unfold swapF
    by_cases h : rd m.words at_ = old
    · simp [h]
    · simp [h, hs]
  · simp [addF, hadd]
    unfold rd
    rw [List.getD_eq_getElem?_getD, List.getElem?_set_self (by omega)]
    rfl
set_option maxHeartbeats 1000000 in
set_option maxRecDepth 100000 in
theorem refDo_out (k who at_ old x : Int) (hk : k = 1 ∧ x = 0 ∨ k = 2 ∨ k = 3 ∨ k = 4) (h : IsRef w base b v m) (hc : m.ok) (hat : ¬ (0 ≤ at_ ∧ at_ < m.words.length)) :
    Calls Try.prog 99 #[.pointer (some ⟨b, 0, none⟩), .int .i64 k, .int .i64 who, .int .i64 at_, .int .u64 old, .int .u64 x] w fun e w' => e = .returned (.int .u64 (m.act k who at_ old x).2) ∧ IsRef w' base b v (m.act k who at_ old x).1 ∧ Chg (MemF b v) w w' := by
  obtain ⟨⟨c1, c2⟩, c3, c4⟩ := hc
  obtain ⟨A, cap, rfl⟩ := own_slice h.2.2.1
  have HE := Aside0.mk (act_out m k who at_ old x hk hat)
  have HAT := Aside0.mk hat
  clear hat
  have H := Aside0.mk h
  have hlt := h.2.1.lt
  obtain ⟨k0, k1, k2, k3, k4, k5, k6, k7, k8⟩ := h.cells
  have f1 := h.2.1.free 1
  have f3 := h.2.1.free 3
  have f4 := h.2.1.free 4
  have f5 := h.2.1.free 5
  have f6 := h.2.1.free 6
  have f7 := h.2.1.free 7
  have f8 := h.2.1.free 8
  clear h
  go_enter Try.func99, Try.ntmps99
  go_upto_region 3 with fail
  obtain ⟨W1, hW1⟩ : ∃ W1, W1 = ((((((w.setCell ⟨b, 1, none⟩ (.int .i64 (m.clock + 1))).setCell ⟨b, 3, none⟩ (.int .i64 k)).setCell ⟨b, 4, none⟩ (.int .i64 who)).setCell ⟨b, 5, none⟩ (.int .i64 at_)).setCell ⟨b, 6, none⟩ (.int .u64 0)).setCell ⟨b, 7, none⟩ (.int .u64 x)).setCell ⟨b, 8, none⟩ (.bool false) := ⟨_, rfl⟩
  have H1 := Aside0.mk (show IsRef W1 base b (.slice A m.words.length cap) (m.go k who at_ x) by rw [hW1]; exact ref_start k who at_ x H.out)
  have C1 := Aside0.mk (show Chg (MemF b (.slice A m.words.length cap)) w W1 by rw [hW1]; exact ref_chg k who at_ x)
  rw [← hW1]
  clear hW1 k0 k1 k2 k3 k4 k5 k6 k7 k8 f1 f3 f4 f5 f6 f7 f8 hlt H
  obtain ⟨k0, k1, k2, k3, k4, k5, k6, k7, k8⟩ := H1.out.cells
  have f2 := H1.out.2.1.free 2
  have f7 := H1.out.2.1.free 7
  have hlt := H1.out.2.1.lt
  simp only [MemS.go] at k0 k1 k2 k3 k4 k5 k6 k7 k8
  by_cases n1 : at_ < 0
  · have d1 : decide (at_ < 0) = true := by simpa using n1
    clear n1
    rcases hk with ⟨rfl, rfl⟩ | rfl | rfl | rfl
    · go_wp2_with fail
      go_ret
      rw [HE.out]
      exact ⟨rfl, (H1.out.new 0).bad (m.bad + 1), (C1.out.setb (.inl rfl) _).setb (.inl rfl) _⟩
    all_goals
      go_wp2_with fail
      go_ret
      rw [HE.out]
      exact ⟨rfl, H1.out.bad (m.bad + 1), C1.out.setb (.inl rfl) _⟩
  · have d1 : decide (at_ < 0) = false := by simpa using n1
    have d2 : decide ((m.words.length : Int) ≤ at_) = true := decide_eq_true (by have := HAT.out; omega)
    clear n1
    rcases hk with ⟨rfl, rfl⟩ | rfl | rfl | rfl
    · go_wp2_with fail
      go_ret
      rw [HE.out]
      exact ⟨rfl, (H1.out.new 0).bad (m.bad + 1), (C1.out.setb (.inl rfl) _).setb (.inl rfl) _⟩
    all_goals
      go_wp2_with fail
      go_ret
      rw [HE.out]
      exact ⟨rfl, H1.out.bad (m.bad + 1), C1.out.setb (.inl rfl) _⟩
set_option maxHeartbeats 1000000 in
set_option maxRecDepth 100000 in
theorem refDo_in (k who at_ old x : Int) (hk : k = 1 ∧ x = 0 ∨ k = 2 ∨ k = 3 ∨ k = 4) (h : IsRef w base b v m) (hc : m.ok) (hat : (0 ≤ at_ ∧ at_ < m.words.length)) (hr : 0 ≤ rd m.words at_ ∧ 0 ≤ x) :
    Calls Try.prog 99 #[.pointer (some ⟨b, 0, none⟩), .int .i64 k, .int .i64 who, .int .i64 at_, .int .u64 old, .int .u64 x] w fun e w' => e = .returned (.int .u64 (m.act k who at_ old x).2) ∧ IsRef w' base b v (m.act k who at_ old x).1 ∧ Chg (MemF b v) w w' := by
  obtain ⟨⟨c1, c2⟩, c3, c4⟩ := hc
  have HE := Aside0.mk (act_in m k who at_ old x hk hat hr)
  obtain ⟨a1, a2⟩ := hat
  obtain ⟨r1, r2⟩ := hr
  obtain ⟨g, cap, rfl, hg1, hg2⟩ := h.2.2.1.form (by omega)
  have hgb : g ≠ b := by simpa [Value.ownBlock] using h.2.2.2
  have H := Aside0.mk h
  have hlt := h.2.1.lt
  obtain ⟨k0, k1, k2, k3, k4, k5, k6, k7, k8⟩ := h.cells
  have f1 := h.2.1.free 1
  have f3 := h.2.1.free 3
  have f4 := h.2.1.free 4
  have f5 := h.2.1.free 5
  have f6 := h.2.1.free 6
  have f7 := h.2.1.free 7
  have f8 := h.2.1.free 8
  clear h
  go_enter Try.func99, Try.ntmps99
  go_upto_region 3 with fail
  obtain ⟨W1, hW1⟩ : ∃ W1, W1 = ((((((w.setCell ⟨b, 1, none⟩ (.int .i64 (m.clock + 1))).setCell ⟨b, 3, none⟩ (.int .i64 k)).setCell ⟨b, 4, none⟩ (.int .i64 who)).setCell ⟨b, 5, none⟩ (.int .i64 at_)).setCell ⟨b, 6, none⟩ (.int .u64 0)).setCell ⟨b, 7, none⟩ (.int .u64 x)).setCell ⟨b, 8, none⟩ (.bool false) := ⟨_, rfl⟩
  have H1 := Aside0.mk (show IsRef W1 base b (.slice (some ⟨g, 0, none⟩) m.words.length cap) (m.go k who at_ x) by rw [hW1]; exact ref_start k who at_ x H.out)
  have C1 := Aside0.mk (show Chg (MemF b (.slice (some ⟨g, 0, none⟩) m.words.length cap)) w W1 by rw [hW1]; exact ref_chg k who at_ x)
  rw [← hW1]
  clear hW1 k0 k1 k2 k3 k4 k5 k6 k7 k8 f1 f3 f4 f5 f6 f7 f8 hlt H
  obtain ⟨k0, k1, k2, k3, k4, k5, k6, k7, k8⟩ := H1.out.cells
  have f6 := H1.out.2.1.free 6
  have f7 := H1.out.2.1.free 7
  have f8 := H1.out.2.1.free 8
  have hlt := H1.out.2.1.lt
  have hat := own_at H1.out.2.2.1 at_ a1 a2
  have x0 := hat.1
  have x1 := hat.2
  have d1 : decide (at_ < 0) = false := by simp; omega
  have d2 : decide ((m.words.length : Int) ≤ at_) = false := by simp; omega
  have hbg : b ≠ g := Ne.symm hgb
  clear hat
  simp only [MemS.go] at k0 k1 k2 k3 k4 k5 k6 k7 k8 x0 x1
  rcases hk with ⟨rfl, rfl⟩ | rfl | rfl | rfl
  · go_wp2_with fail
    go_ret
    rw [HE.out]
    have R := ((H1.out.new 0).old (rd m.words at_)).done true
    exact ⟨rfl, R, ((C1.out.setb (.inl rfl) _).setb (.inl rfl) _).setb (.inl rfl) _⟩
  · go_wp2_with fail
    go_ret
    rw [HE.out]
    have R := ((H1.out.old (rd m.words at_)).done true).word rfl at_ x
    exact ⟨rfl, R, ((C1.out.setb (.inl rfl) _).setb (.inl rfl) _).setb (.inr rfl) _⟩
  · by_cases ho : rd m.words at_ = old
    · have e1 : (rd m.words at_ == old) = true := by simpa using ho
      rw [if_pos ho] at HE
      clear ho
      go_wp2_with fail
      go_ret
      rw [HE.out]
      have R := ((H1.out.old (rd m.words at_)).done true).word rfl at_ x
      exact ⟨rfl, R, ((C1.out.setb (.inl rfl) _).setb (.inl rfl) _).setb (.inr rfl) _⟩
    · have e1 : (rd m.words at_ == old) = false := by simpa using ho
      rw [if_neg ho] at HE
      clear ho
      go_wp2_with fail
      go_ret
      rw [HE.out]
      have R := (H1.out.old (rd m.words at_)).done false
      exact ⟨rfl, R, (C1.out.setb (.inl rfl) _).setb (.inl rfl) _⟩
  · have hw0 : 0 ≤ IntKind.u64.wrap (rd m.words at_ + x) := by rw [u64_wrap]; omega
    have E := Aside0.mk (show (rd m.words at_ + x) % 4294967296 = IntKind.u64.wrap (rd m.words at_ + x) % 4294967296 by rw [u64_wrap]; omega)
    go_wp2_with fail
    go_ret
    rw [HE.out, E.out]
    have R := (((H1.out.old (rd m.words at_)).done true).word rfl at_ (IntKind.u64.wrap (rd m.words at_ + x) % 4294967296)).new (IntKind.u64.wrap (rd m.words at_ + x) % 4294967296)
    exact ⟨rfl, R, (((C1.out.setb (.inl rfl) _).setb (.inl rfl) _).setb (.inr rfl) _).setb (.inl rfl) _⟩
end
end Go.Proofs.Ytclippikdfcgkaa.M
