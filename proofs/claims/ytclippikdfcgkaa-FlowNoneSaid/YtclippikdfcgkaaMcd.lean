/- The rest of package cell: Load, Store, accesses of places that there are not, no memory, what is told. Conditions: counters below 2^62. -/
import Derived.Test.YtclippikdfcgkaaMca
import Derived.Test.YtclippikdfcgkaaMcb
import Derived.Test.YtclippikdfcgkaaMcs
namespace Go.Proofs.Ytclippikdfcgkaa.M
open Go.RowKit Go.Proofs.YtclippikdfcgkaaW.PrintWords Go.Proofs.YtclippikdfcgkaaW.PrintLast Go.Proofs.YtclippikdfcgkaaW.PrintMore
set_option linter.unusedVariables false
set_option linter.unusedSimpArgs false

theorem nums_flat (k : IntKind) (xs : List Int) : xs.flatMap (fun x => [Value.int k x]) = nums k xs := by induction xs <;> simp_all [nums]
def MemS.ok (m : MemS) : Prop := (0 ≤ m.clock ∧ m.clock < 4611686018427387904) ∧ (0 ≤ m.bad ∧ m.bad < 4611686018427387904)
theorem does_any (base b : Nat) (v : Value) (m : MemS) (a : Acc) (N : Nat) (caps : Array Value) (f : Int → Int × Bool) (w : World) (h : IsMem w base b v m) (ho : m.ok)
    (he : ∀ args W, (callFunc N args).run Try.prog W = .ok (.enter N args) W)
    (hf : ∀ W, Chg (MemF b v) w W → Calls Try.prog N (#[.int .u64 (rd m.words a.at_)] ++ caps) W fun e W' => e = .returned (.tuple #[.int .u64 (f (rd m.words a.at_)).1, .bool (f (rd m.words a.at_)).2]) ∧ Bw W W') :
    Calls Try.prog 100 #[.pointer (some ⟨b, 0, none⟩), .agg a.cells, .func (.func N) #[] caps] w fun e w' => e = .returned (.tuple #[]) ∧ IsMem w' base b v (m.does a f) ∧ Chg (MemF b v) w w' := by
  by_cases hat : 0 ≤ a.at_ ∧ a.at_ < m.words.length
  · exact does_in base b v m a N caps f w h ho.1 hat he hf
  · exact does_out base b v m a _ f w h ho.1 ho.2 hat

theorem Load1_calls (now : Int) (w : World) : Calls Try.prog 102 #[.int .u64 now] w fun e w' => e = .returned (.tuple #[.int .u64 now, .bool true]) ∧ Bw w w' := by
  have HB := Aside0.mk (Bw.refl w)
  go_enter Try.func102, Try.ntmps102
  go_wp2
  go_ret2
  exact ⟨rfl, HB.out⟩
theorem Store1_calls (now x : Int) (c : Nat) (w : World) (hc : w.cell? ⟨c, 0, none⟩ = some (.int .u64 x)) : Calls Try.prog 101 #[.int .u64 now, .pointer (some ⟨c, 0, none⟩)] w fun e w' => e = .returned (.tuple #[.int .u64 x, .bool true]) ∧ Bw w w' := by
  have HB := Aside0.mk (Bw.refl w)
  go_enter Try.func101, Try.ntmps101
  go_wp2
  go_ret2
  exact ⟨rfl, HB.out⟩

def MemS.load (m : MemS) (who at_ : Int) : MemS := m.does ⟨1, who, at_, 0, 0, false⟩ (fun now => (now, true))
def MemS.store (m : MemS) (who at_ x : Int) : MemS := m.does ⟨2, who, at_, 0, x, false⟩ (fun _ => (x, true))

set_option maxHeartbeats 1000000 in
theorem Load_calls (base b : Nat) (v : Value) (m : MemS) (who at_ : Int) (w : World) (h : IsMem w base b v m) (hc : m.ok) :
    Calls Try.prog 43 #[.pointer (some ⟨b, 0, none⟩), .int .i64 who, .int .i64 at_] w fun e w' => e = .returned (.int .u64 (m.load who at_).last.old) ∧ IsMem w' base b v (m.load who at_) ∧ Chg (MemF b v) w w' := by
  have HM := Aside0.mk h
  clear h
  go_enter Try.func43, Try.ntmps43
  go_wp2_with fail
  refine (does_any base b v m ⟨1, who, at_, 0, 0, false⟩ 102 #[] (fun now => (now, true)) _ HM.out hc (fun args W => enters_of Try.func102 (by kernel_rfl) rfl args W) ?_).mono ?_
  · intro W hW
    exact Load1_calls _ W
  · rintro e w1 ⟨rfl, hM1, hC1⟩
    rw [show m.does ⟨1, who, at_, 0, 0, false⟩ (fun now => (now, true)) = m.load who at_ from rfl] at hM1
    have k6 : w1.cell? ⟨b, 6, none⟩ = some (.int .u64 (m.load who at_).last.old) := hM1.2.1.cell 6 _ rfl
    have HM1 := Aside0.mk hM1
    have HC1 := Aside0.mk hC1
    clear hM1 hC1
    go_wp2_with fail
    go_ret
    exact ⟨rfl, HM1.out, HC1.out⟩
set_option maxHeartbeats 1000000 in
theorem Store_calls (base b : Nat) (v : Value) (m : MemS) (who at_ x : Int) (w : World) (h : IsMem w base b v m) (hc : m.ok) :
    Calls Try.prog 41 #[.pointer (some ⟨b, 0, none⟩), .int .i64 who, .int .i64 at_, .int .u64 x] w fun e w' => e = .returned (.tuple #[]) ∧ IsMem w' base b v (m.store who at_ x) ∧ Chg (MemF b v) w w' := by
  have hlt := h.2.1.lt
  have HM := Aside0.mk (show IsMem (w.alloc (.cells #[.int .u64 x] 55)) base b v m from h.bw ((Bw.refl w).alloc _))
  have HV := Aside0.mk (fun k (hk : v.ownBlock = some k) => own_lt h.2.2.1 k hk)
  have BX := Blk.new w #[.int .u64 x] 55
  clear h
  go_enter Try.func41, Try.ntmps41
  go_wp2_with fail
  refine (does_any base b v m ⟨2, who, at_, 0, x, false⟩ 101 #[.pointer (some ⟨w.heap.size, 0, none⟩)] (fun _ => (x, true)) _ HM.out hc (fun args W => enters_of Try.func101 (by kernel_rfl) rfl args W) ?_).mono ?_
  · intro W hW
    have BW : Blk W w.heap.size #[.int .u64 x] 55 := BX.of_block (hW.block _ BX.lt (by rintro (h | h); omega; have := HV.out _ h; omega))
    exact Store1_calls _ x _ W (BW.cell 0 _ rfl)
  · rintro e w1 ⟨rfl, hM1, hC1⟩
    have HM1 := Aside0.mk hM1
    have HC1 := Aside0.mk hC1
    clear hM1 hC1
    go_wp2_with fail
    go_end0
    exact ⟨rfl, HM1.out, (Chg.refl _ w).alloc _ |>.trans HC1.out⟩
set_option maxHeartbeats 1000000 in
set_option maxRecDepth 100000 in
theorem Swap_calls (base b : Nat) (v : Value) (m : MemS) (who at_ old x : Int) (w : World) (h : IsMem w base b v m) (hc : m.ok) :
    Calls Try.prog 44 #[.pointer (some ⟨b, 0, none⟩), .int .i64 who, .int .i64 at_, .int .u64 old, .int .u64 x] w fun e w' => e = .returned (.bool (m.swap who at_ old x).last.done) ∧ IsMem w' base b v (m.swap who at_ old x) ∧ Chg (MemF b v) w w' := by
  have hlt := h.2.1.lt
  have HM := Aside0.mk (show IsMem ((w.alloc (.cells #[.int .u64 old] 55)).alloc (.cells #[.int .u64 x] 55)) base b v m from h.bw (((Bw.refl w).alloc _).alloc _))
  have HV := Aside0.mk (fun k (hk : v.ownBlock = some k) => own_lt h.2.2.1 k hk)
  have BO := (Blk.new w #[.int .u64 old] 55).alloc (.cells #[.int .u64 x] 55)
  have BX := Blk.new (w.alloc (.cells #[.int .u64 old] 55)) #[.int .u64 x] 55
  simp at BX
  clear h
  go_enter Try.func44, Try.ntmps44
  go_wp2_with fail
  refine (does_any base b v m ⟨3, who, at_, 0, x, false⟩ 103 #[.pointer (some ⟨w.heap.size, 0, none⟩), .pointer (some ⟨w.heap.size + 1, 0, none⟩)] (swapF old x) _ HM.out hc (fun args W => enters_of Try.func103 (by kernel_rfl) rfl args W) ?_).mono ?_
  · intro W hW
    have BW : Blk W w.heap.size #[.int .u64 old] 55 := BO.of_block (hW.block _ BO.lt (by rintro (h | h); omega; have := HV.out _ h; omega))
    have BW2 : Blk W (w.heap.size + 1) #[.int .u64 x] 55 := BX.of_block (hW.block _ BX.lt (by rintro (h | h); omega; have := HV.out _ h; omega))
    exact Swap1_calls _ old x _ _ W (BW.cell 0 _ rfl) (BW2.cell 0 _ rfl)
  · rintro e w1 ⟨rfl, hM1, hC1⟩
    rw [show m.does ⟨3, who, at_, 0, x, false⟩ (swapF old x) = m.swap who at_ old x from rfl] at hM1
    have k8 : w1.cell? ⟨b, 8, none⟩ = some (.bool (m.swap who at_ old x).last.done) := hM1.2.1.cell 8 _ rfl
    have HM1 := Aside0.mk hM1
    have HC1 := Aside0.mk hC1
    clear hM1 hC1
    go_wp2_with fail
    go_ret
    exact ⟨rfl, HM1.out, ((Chg.refl _ w).alloc _).alloc _ |>.trans HC1.out⟩
set_option maxHeartbeats 1000000 in
set_option maxRecDepth 100000 in
theorem Add_out (base b : Nat) (v : Value) (m : MemS) (who at_ x : Int) (w : World) (h : IsMem w base b v m) (hc : m.ok) (hat : ¬ (0 ≤ at_ ∧ at_ < m.words.length)) :
    Calls Try.prog 45 #[.pointer (some ⟨b, 0, none⟩), .int .i64 who, .int .i64 at_, .int .u64 x] w fun e w' => e = .returned (.int .u64 (m.add who at_ x).2) ∧ IsMem w' base b v (m.add who at_ x).1 ∧ Chg (MemF b v) w w' := by
  have HM := Aside0.mk (show IsMem (w.alloc (.cells #[.int .u64 x] 55)) base b v m from h.bw ((Bw.refl w).alloc _))
  clear h
  have hd : m.does ⟨4, who, at_, 0, x, false⟩ (addF x) = { words := m.words, clock := m.clock + 1, bad := m.bad + 1, last := ⟨4, who, at_, 0, x, false⟩ } := by
    unfold MemS.does
    rw [if_neg (show ¬ (0 ≤ (⟨4, who, at_, 0, x, false⟩ : Acc).at_ ∧ (⟨4, who, at_, 0, x, false⟩ : Acc).at_ < m.words.length) from hat)]
  have HD := Aside0.mk hd
  have HA := Aside0.mk (show m.add who at_ x = ({ words := m.words, clock := m.clock + 1, bad := m.bad + 1, last := ⟨4, who, at_, 0, x, false⟩ }, 0) by
    unfold MemS.add
    simp only [hd, if_neg (show ¬ (false = true) by decide)])
  clear hd
  go_enter Try.func45, Try.ntmps45
  go_wp2_with fail
  refine (does_out base b v m ⟨4, who, at_, 0, x, false⟩ _ (addF x) _ HM.out hc.1 hc.2 hat).mono ?_
  rintro e w1 ⟨rfl, hM1, hC1⟩
  rw [HD.out] at hM1
  have k8 : w1.cell? ⟨b, 8, none⟩ = some (.bool false) := hM1.2.1.cell 8 _ rfl
  have HM1 := Aside0.mk hM1
  have HC1 := Aside0.mk hC1
  clear hM1 hC1
  go_wp2_with fail
  go_ret
  rw [HA.out]
  exact ⟨rfl, HM1.out, (Chg.refl _ w).alloc _ |>.trans HC1.out⟩
theorem Add_calls (base b : Nat) (v : Value) (m : MemS) (who at_ x : Int) (w : World) (h : IsMem w base b v m) (hc : m.ok) (hx : 0 ≤ x) (hn : 0 ≤ rd m.words at_) :
    Calls Try.prog 45 #[.pointer (some ⟨b, 0, none⟩), .int .i64 who, .int .i64 at_, .int .u64 x] w fun e w' => e = .returned (.int .u64 (m.add who at_ x).2) ∧ IsMem w' base b v (m.add who at_ x).1 ∧ Chg (MemF b v) w w' := by
  by_cases hat : 0 ≤ at_ ∧ at_ < m.words.length
  · exact Add_in base b v m who at_ x w h hc.1 hx hn hat
  · exact Add_out base b v m who at_ x w h hc hat

theorem Bad_calls (base b : Nat) (v : Value) (m : MemS) (w : World) (h : IsMem w base b v m) :
    Calls Try.prog 47 #[.pointer (some ⟨b, 0, none⟩)] w fun e w' => e = .returned (.int .i64 m.bad) ∧ Bw w w' := by
  have HB := Aside0.mk (Bw.refl w)
  have k1 : w.cell? ⟨b, 2, none⟩ = some (.int .i64 m.bad) := h.2.1.cell 2 _ rfl
  clear h
  go_enter Try.func47, Try.ntmps47
  go_wp2
  go_ret
  exact ⟨rfl, HB.out⟩
theorem Len_calls (base b : Nat) (v : Value) (m : MemS) (w : World) (h : IsMem w base b v m) :
    Calls Try.prog 39 #[.pointer (some ⟨b, 0, none⟩)] w fun e w' => e = .returned (.int .i64 m.words.length) ∧ Bw w w' := by
  have HB := Aside0.mk (Bw.refl w)
  obtain ⟨A, c, rfl⟩ := own_slice h.2.2.1
  have k1 : w.cell? ⟨b, 0, none⟩ = some (.slice A m.words.length c) := h.2.1.cell 0 _ rfl
  clear h
  go_enter Try.func39, Try.ntmps39
  go_wp2
  go_ret
  exact ⟨rfl, HB.out⟩
theorem Last_calls (base b : Nat) (v : Value) (m : MemS) (w : World) (h : IsMem w base b v m) :
    Calls Try.prog 48 #[.pointer (some ⟨b, 0, none⟩)] w fun e w' => e = .returned (.agg m.last.cells) ∧ Bw w w' := by
  have HB := Aside0.mk (Bw.refl w)
  have k3 : w.cell? ⟨b, 3, none⟩ = some (.int .i64 m.last.kind) := h.2.1.cell 3 _ rfl
  have k4 : w.cell? ⟨b, 4, none⟩ = some (.int .i64 m.last.who) := h.2.1.cell 4 _ rfl
  have k5 : w.cell? ⟨b, 5, none⟩ = some (.int .i64 m.last.at_) := h.2.1.cell 5 _ rfl
  have k6 : w.cell? ⟨b, 6, none⟩ = some (.int .u64 m.last.old) := h.2.1.cell 6 _ rfl
  have k7 : w.cell? ⟨b, 7, none⟩ = some (.int .u64 m.last.new) := h.2.1.cell 7 _ rfl
  have k8 : w.cell? ⟨b, 8, none⟩ = some (.bool m.last.done) := h.2.1.cell 8 _ rfl
  have hlt := h.2.1.lt
  clear h
  unfold Acc.cells
  go_enter Try.func48, Try.ntmps48
  go_wp2
  exact bodyPost_ret (v := .agg #[.int .i64 m.last.kind, .int .i64 m.last.who, .int .i64 m.last.at_, .int .u64 m.last.old, .int .u64 m.last.new, .bool m.last.done]) (by simp [results, Try.results48, go_sem]) rfl ⟨rfl, HB.out.alloc _⟩
set_option maxHeartbeats 1000000 in
theorem Words_calls (base b : Nat) (v : Value) (m : MemS) (w : World) (h : IsMem w base b v m) (hs : m.words.length ≤ 262144) :
    Calls Try.prog 38 #[.pointer (some ⟨b, 0, none⟩)] w fun e w' => ∃ u, e = .returned u ∧ w'.ownsRow w.heap.size 55 1 u m.words.length (nums .u64 m.words) ∧ Bw w w' := by
  have HB := Aside0.mk (Bw.refl w)
  obtain ⟨A, c, rfl, hR⟩ := Rows.own (enc := fun x : Int => [Value.int .u64 x]) (xs := m.words) (fun _ => rfl) (by rw [nums_flat]; exact h.2.2.1) rfl (by omega)
  have hz : A = none → m.words = [] ∧ c = 0 := by
    rintro rfl
    rcases h.2.2.1.2 with ⟨e1, e2⟩ | ⟨g, cap, cur, e1, _⟩
    · injection e1 with _ _ e3
      exact ⟨List.length_eq_zero_iff.1 e2, e3⟩
    · injection e1 with e1
      cases e1
  have k1 : w.cell? ⟨b, 0, none⟩ = some (.slice A m.words.length c) := h.2.1.cell 0 _ rfl
  have HR := Aside0.mk hR
  clear h hR
  go_enter Try.func38, Try.ntmps38
  go_wp2_with fail
  refine (Clone64_calls A c m.words w HR.out hs hz).mono ?_
  rintro e w1 ⟨u, rfl, hown, hb1⟩
  have HO := Aside0.mk hown
  clear hown
  go_wp2_with fail
  go_ret
  exact ⟨u, rfl, HO.out, hb1⟩

/-! ### No memory -/
theorem Load_nil (who at_ : Int) (w : World) : Calls Try.prog 43 #[.pointer none, .int .i64 who, .int .i64 at_] w fun e w' => e = .returned (.int .u64 0) ∧ Bw w w' := by
  have HB := Aside0.mk (Bw.refl w)
  go_enter Try.func43, Try.ntmps43
  go_wp2
  go_ret
  exact ⟨rfl, HB.out⟩
theorem Store_nil (who at_ x : Int) (w : World) : Calls Try.prog 41 #[.pointer none, .int .i64 who, .int .i64 at_, .int .u64 x] w fun e w' => e = .returned (.tuple #[]) ∧ Bw w w' := by
  have HB := Aside0.mk (Bw.refl w)
  go_enter Try.func41, Try.ntmps41
  go_wp2
  go_end0
  exact ⟨rfl, HB.out.alloc _⟩
theorem Swap_nil (who at_ old x : Int) (w : World) : Calls Try.prog 44 #[.pointer none, .int .i64 who, .int .i64 at_, .int .u64 old, .int .u64 x] w fun e w' => e = .returned (.bool false) ∧ Bw w w' := by
  have HB := Aside0.mk (Bw.refl w)
  go_enter Try.func44, Try.ntmps44
  go_wp2
  go_ret
  exact ⟨rfl, (HB.out.alloc _).alloc _⟩
theorem Add_nil (who at_ x : Int) (w : World) : Calls Try.prog 45 #[.pointer none, .int .i64 who, .int .i64 at_, .int .u64 x] w fun e w' => e = .returned (.int .u64 0) ∧ Bw w w' := by
  have HB := Aside0.mk (Bw.refl w)
  go_enter Try.func45, Try.ntmps45
  go_wp2
  go_ret
  exact ⟨rfl, HB.out.alloc _⟩
theorem Peek_nil (at_ : Int) (w : World) : Calls Try.prog 42 #[.pointer none, .int .i64 at_] w fun e w' => e = .returned (.tuple #[.int .u64 0, .bool false]) ∧ Bw w w' := by
  have HB := Aside0.mk (Bw.refl w)
  go_enter Try.func42, Try.ntmps42
  go_wp2
  go_ret2
  exact ⟨rfl, HB.out⟩
theorem Words_nil (w : World) : Calls Try.prog 38 #[.pointer none] w fun e w' => e = .returned (.slice none 0 0) ∧ Bw w w' := by
  have HB := Aside0.mk (Bw.refl w)
  go_enter Try.func38, Try.ntmps38
  go_wp2
  go_ret
  exact ⟨rfl, HB.out⟩
theorem Len_nil (w : World) : Calls Try.prog 39 #[.pointer none] w fun e w' => e = .returned (.int .i64 0) ∧ Bw w w' := by
  have HB := Aside0.mk (Bw.refl w)
  go_enter Try.func39, Try.ntmps39
  go_wp2
  go_ret
  exact ⟨rfl, HB.out⟩
theorem Clock_nil (w : World) : Calls Try.prog 46 #[.pointer none] w fun e w' => e = .returned (.int .i64 0) ∧ Bw w w' := by
  have HB := Aside0.mk (Bw.refl w)
  go_enter Try.func46, Try.ntmps46
  go_wp2
  go_ret
  exact ⟨rfl, HB.out⟩
theorem Bad_nil (w : World) : Calls Try.prog 47 #[.pointer none] w fun e w' => e = .returned (.int .i64 0) ∧ Bw w w' := by
  have HB := Aside0.mk (Bw.refl w)
  go_enter Try.func47, Try.ntmps47
  go_wp2
  go_ret
  exact ⟨rfl, HB.out⟩
theorem Last_nil (w : World) : Calls Try.prog 48 #[.pointer none] w fun e w' => e = .returned (.agg acc0.cells) ∧ Bw w w' := by
  have HB := Aside0.mk (Bw.refl w)
  go_enter Try.func48, Try.ntmps48
  go_wp2
  exact bodyPost_ret (v := .agg acc0.cells) (by simp [results, Try.results48, go_sem, acc0, Acc.cells]) rfl ⟨rfl, HB.out.alloc _⟩
end Go.Proofs.Ytclippikdfcgkaa.M
