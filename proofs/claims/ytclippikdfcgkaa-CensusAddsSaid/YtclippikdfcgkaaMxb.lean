/- Events counted, and others behind them: the laws of the counts; slices.Clone of counts. No condition. -/
import Derived.Test.YtclippikdfcgkaaMx7
import Derived.WalkSpells
namespace Go.Proofs.Ytclippikdfcgkaa.M
open Go.RowKit Go.Proofs.YtclippikdfcgkaaW.PrintWords Go.Proofs.YtclippikdfcgkaaW.PrintLast Go.Proofs.YtclippikdfcgkaaW.PrintMore
set_option linter.unusedVariables false
set_option linter.unusedSimpArgs false
theorem cNow_append (a b : List Ev) : cNow (a ++ b) = cNow a + cNow b := by
  unfold cNow cK
  simp only [cB_append]
  omega
theorem cNow_le_most (a : List Ev) : cNow a ≤ cMost a := by
  refine snoc_ind (P := fun a => cNow a ≤ cMost a) (by rw [cNow_nil, cMost_nil]; omega) ?_ a
  intro xs x _
  rw [cMost_snoc]
  unfold maxI
  split <;> omega
theorem cMost_append (a b : List Ev) : cMost (a ++ b) = maxI (cMost a) (cNow a + cMost b) := by
  refine snoc_ind (P := fun b => cMost (a ++ b) = maxI (cMost a) (cNow a + cMost b)) ?_ ?_ b
  · rw [List.append_nil, cMost_nil]
    have := cNow_le_most a
    unfold maxI
    split <;> omega
  · intro xs x ih
    rw [← List.append_assoc, cMost_snoc, ih, cMost_snoc, List.append_assoc, cNow_append a]
    unfold maxI
    repeat' split
    all_goals omega
theorem fG_append (a b : List Ev) (j : Int) : fG (a ++ b) j = fG a j + fG b j := by
  unfold fG cO
  exact cB_append _ _ _
theorem fG_range (a : List Ev) (j : Int) : 0 ≤ fG a j ∧ fG a j ≤ a.length := by
  unfold fG cO
  exact cB_range _ _
/-- append(v, ys...) of cells that are read. -/
theorem append_vals {P : Program} {ops : Array Oper} {rest : List Oper} {o : Oper} {a : Act} {Q : Exit → Act → World → Prop} {w0 W : World} (base : Nat) (hgd : o.guard = none) (s x : Operand) (t e : TypeId) (z : Value) (size bytes : Nat)
    (ho : o.op = .call { callee := .builtin .append, args := #[s, x], argTypes := #[t, t] })
    (ht : P.underlying t = some (.slice e)) (hinfo : (P.info? e).map (fun i => (i.zero, i.size, i.bytes)) = some (some z, size, bytes)) (hz : z.cells.size = size) (hs0 : 0 < size) (hb0 : 0 < bytes)
    (v : Value) (n : Nat) (xs vs : List Value) (m : Nat) (ad : Addr) (c : Nat) (hs : a.eval s = v) (hx : a.eval x = .slice (some ad) m c) (hen : vs.length = m * size) (h1 : ∀ u ∈ vs, u.oneCell' = true)
    (HO : W.ownsRow base e size v n xs) (HR : ∀ (j : Nat) u, vs[j]? = some u → W.cell? (ad.add j) = some u) (HB : Below base w0 W) (hbase : base ≤ W.heap.size) (hl : (n + m) * bytes ≤ 140737488355328)
    (h : ∀ v1 w1, w1.ownsRow base e size v1 (n + m) (xs ++ vs) → Below base w0 w1 → W.grownBy w1 v.ownBlock → (v1.ownBlock = v.ownBlock ∨ ∃ b, v1.ownBlock = some b ∧ W.heap.size ≤ b) → wpList P ops Q rest (a.put o.dst v1) w1) :
    wpList P ops Q (o :: rest) a W := by
  obtain ⟨i0, hi, hzz⟩ := Option.map_eq_some_iff.1 hinfo
  simp only [Prod.mk.injEq] at hzz
  obtain ⟨hz0, hz1, hz2⟩ := hzz
  have hlen : n + m ≤ 140737488355328 := Nat.le_trans (Nat.le_mul_of_pos_right _ hb0) hl
  refine wpList_append_own_at W hgd s x t ho base e i0 z size bytes ht hi hz0 hz1 hz2 hz hs0 v n xs hs HO ad m c vs hx hen HR h1 (by simp only [maxLen]; omega) hl hbase ?_
  · intro v1 w1 hown hg _ hat
    refine h v1 w1 hown (HB.grown hg hbase (own_base HO)) hg ?_
    rcases hat with hat | hat
    · exact .inl hat
    · exact .inr ⟨_, hat, Nat.le_refl _⟩
theorem tabV_one (n : Nat) (f : Int → Int) : ∀ u ∈ tabV n f, u.oneCell' = true := by
  intro u hu
  unfold tabV nums at hu
  obtain ⟨x, _, rfl⟩ := List.mem_map.1 hu
  rfl
set_option maxHeartbeats 1000000 in
theorem CloneRow_calls {base : Nat} (g n c : Nat) (f : Int → Int) (w : World) (ho : w.ownsRow base 141 3 (.slice (some ⟨g, 0, none⟩) n c) n (tabV (n * 3) f)) (hn : n ≤ 65536) :
    Calls Try.prog 86 #[.slice (some ⟨g, 0, none⟩) n c] w fun e w' => ∃ v, e = .returned v ∧ w'.ownsRow w.heap.size 141 3 v n (tabV (n * 3) f) ∧ Bw w w' := by
  have HB := Aside0.mk (Bw.refl w)
  have hnil := fun (W : World) (a : Option Addr) (n c : Nat) => Lib.run_eql_slice_nil (P := Try.prog) W 28 141 a n c 0 0 Try.underlying28
  have HO := Aside0.mk (show (w.alloc (.cells #[] 141)).ownsRow w.heap.size 141 3 (.slice (some ⟨w.heap.size, 0, none⟩) 0 0) 0 [] from World.ownsRow_made w #[] 0 (Nat.le_refl _) (by simp [maxLen]) (by simp))
  have HX2 := Aside0.mk (show ∀ (j : Nat) u, (tabV (n * 3) f)[j]? = some u → (w.alloc (.cells #[] 141)).cell? ((⟨g, 0, none⟩ : Addr).add j) = some u from fun j u hj => ((Bw.refl w).alloc _).kept (ho.cells (g := g) rfl j u hj))
  clear ho
  go_enter Try.func86, Try.ntmps86
  go_wp2_with (at_builtin; go_loud (refine append_vals (w0 := w) w.heap.size rfl (.tmp 5) (.tmp 6) 28 141 (.agg #[.int .i64 0, .int .i64 0, .int .i64 0]) 3 24 rfl Try.underlying28 infoRow rfl (by omega) (by omega) (.slice (some ⟨w.heap.size, 0, none⟩) 0 0) 0 [] (tabV (n * 3) f) n ⟨g, 0, none⟩ c rfl rfl (tabV_len _ _) (tabV_one _ _) HO.out HX2.out ((Bw.refl w).alloc _) (by simp) (by omega) ?_); intro u w2 hown2 hbel2 _ _)
  go_ret
  exact ⟨_, rfl, by simpa using hown2, hbel2⟩
set_option maxHeartbeats 1000000 in
theorem CloneInt_calls {base : Nat} (g n c : Nat) (f : Int → Int) (w : World) (ho : w.ownsRow base 3 1 (.slice (some ⟨g, 0, none⟩) n c) n (tabV n f)) (hn : n ≤ 65536) :
    Calls Try.prog 87 #[.slice (some ⟨g, 0, none⟩) n c] w fun e w' => ∃ v, e = .returned v ∧ w'.ownsRow w.heap.size 3 1 v n (tabV n f) ∧ Bw w w' := by
  have HB := Aside0.mk (Bw.refl w)
  have hnil := fun (W : World) (a : Option Addr) (n c : Nat) => Lib.run_eql_slice_nil (P := Try.prog) W 29 3 a n c 0 0 Try.underlying29
  have HO := Aside0.mk (show (w.alloc (.cells #[] 3)).ownsRow w.heap.size 3 1 (.slice (some ⟨w.heap.size, 0, none⟩) 0 0) 0 [] from World.ownsRow_made w #[] 0 (Nat.le_refl _) (by simp [maxLen]) (by simp))
  have HX2 := Aside0.mk (show ∀ (j : Nat) u, (tabV n f)[j]? = some u → (w.alloc (.cells #[] 3)).cell? ((⟨g, 0, none⟩ : Addr).add j) = some u from fun j u hj => ((Bw.refl w).alloc _).kept (ho.cells (g := g) rfl j u hj))
  clear ho
  go_enter Try.func87, Try.ntmps87
  go_wp2_with (at_builtin; go_loud (refine append_vals (w0 := w) w.heap.size rfl (.tmp 5) (.tmp 6) 29 3 (.int .i64 0) 1 8 rfl Try.underlying29 infoInt rfl (by omega) (by omega) (.slice (some ⟨w.heap.size, 0, none⟩) 0 0) 0 [] (tabV n f) n ⟨g, 0, none⟩ c rfl rfl (by rw [tabV_len, Nat.mul_one]) (tabV_one _ _) HO.out HX2.out ((Bw.refl w).alloc _) (by simp) (by omega) ?_); intro u w2 hown2 hbel2 _ _)
  go_ret
  exact ⟨_, rfl, by simpa using hown2, hbel2⟩
end Go.Proofs.Ytclippikdfcgkaa.M
