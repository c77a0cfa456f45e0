/- Agenda: the law's does: Move, Due. Conditions: as in the text before. -/
import Derived.Test.YtoklhhcjcecbbaaGv
namespace Go.Proofs.Ytoklhhcjcecbbaa.M
open Go.RowKit Go.Maps Go.Proofs.YtoklhhcjcecbbaaW.PrintWords Go.Proofs.YtoklhhcjcecbbaaW.PrintLast Go.Proofs.YtoklhhcjcecbbaaW.PrintMore
set_option linter.unusedVariables false
set_option linter.unusedSimpArgs false
section
variable {w w1 : World} {base ab b mb : Nat} {v : Value} {L l l2 : List It} {D : DataW Unit} {A : Option Addr}
set_option maxHeartbeats 4000000 in
set_option maxRecDepth 100000 in
theorem does_move_miss (h : AgL w base ab b mb v l) (hr : LR w A l) (c : Nat) (hl : l.length ≤ 1000) (hc : l.length ≤ c) (kind due key : Int) (hwd : (Lit.int .i64 due).wf = true) (hwk : (Lit.int .i64 key).wf = true) (q0 : (kind == 0) = false) (q1 : (kind == 1) = false) (q2 : (kind == 2) = false) (q3 : (kind == 3) = true) (hk : hasK l key = false) :
    Calls Try.prog 15 #[.pointer (some ⟨ab, 0, none⟩), .slice A l.length c, .agg #[.int .i64 kind, .int .i64 due, .int .i64 key]] w (DoesP w base ab b mb v l) := by
  obtain ⟨w0, hw0⟩ : ∃ w0, w0 = w.alloc (.cells #[.int .i64 kind, .int .i64 due, .int .i64 key] 42) := ⟨_, rfl⟩
  have HB0 := Aside0.mk (show Bw w w0 by rw [hw0]; exact (Bw.refl w).alloc _)
  have HK0 := Aside0.mk (show Blk w0 w.heap.size #[.int .i64 kind, .int .i64 due, .int .i64 key] 42 by rw [hw0]; exact Blk.new w _ _)
  have HWD := Aside0.mk hwd
  have HWK := Aside0.mk hwk
  have OLD := Aside0.mk h.old
  have RA := Aside0.mk (fun W (hW : LR W A l) => refAt_calls A c l key W hW.rows (by omega))
  have H0 := Aside0.mk (h.bw HB0.out)
  have R0 := Aside0.mk (hr.bw HB0.out)
  
  have RAT := Aside0.mk (show atL l key = -1 by unfold atL; rw [hk]; rfl)
  rw [RAT.out] at RA
  clear h hr hwd hwk
  go_enter Try.func15, Try.ntmps15
  go_wp2_with fail
  rw [← hw0]
  clear hw0
  refine (RA.out _ R0.out).mono ?_
  rintro e w1 ⟨rfl, hb1⟩
  have HB1 := Aside0.mk (HB0.out.trans hb1)
  have HK1 := Aside0.mk (HK0.out.bw hb1)
  have H1 := Aside0.mk (H0.out.bw hb1)
  have R1 := Aside0.mk (R0.out.bw hb1)
  clear hb1
  have k0 := HK1.out.cell 0 (.int .i64 kind) rfl
  have k1 := HK1.out.cell 1 (.int .i64 due) rfl
  have k2 := HK1.out.cell 2 (.int .i64 key) rfl
  have HP := Aside0.mk (H1.out.move_miss key due HWK.out hk)
  go_wp2_with fail
  refine (HP.out).mono ?_
  rintro e w2 ⟨rfl, hb2⟩
  have R2 := Aside0.mk (R1.out.bw hb2)
  have A2 := Aside0.mk (H1.out.bw hb2)
  have S2 := Aside0.mk ((AgS.refl b mb v w).bw (HB1.out.trans hb2))
  clear hb2
  go_wp2_with fail
  go_ret2
  exact ⟨l, A, c, rfl, by omega, hc, R2.out, v, A2.out, S2.out⟩
set_option maxHeartbeats 4000000 in
set_option maxRecDepth 100000 in
theorem does_move_hit (h : AgL w base ab b mb v l) (hr : LR w A l) (c : Nat) (hl : l.length ≤ 1000) (hc : l.length ≤ c) (kind due key : Int) (hwd : (Lit.int .i64 due).wf = true) (hwk : (Lit.int .i64 key).wf = true) (q0 : (kind == 0) = false) (q1 : (kind == 1) = false) (q2 : (kind == 2) = false) (q3 : (kind == 3) = true) (hk : hasK l key = true) :
    Calls Try.prog 15 #[.pointer (some ⟨ab, 0, none⟩), .slice A l.length c, .agg #[.int .i64 kind, .int .i64 due, .int .i64 key]] w (DoesP w base ab b mb v l) := by
  obtain ⟨w0, hw0⟩ : ∃ w0, w0 = w.alloc (.cells #[.int .i64 kind, .int .i64 due, .int .i64 key] 42) := ⟨_, rfl⟩
  have HB0 := Aside0.mk (show Bw w w0 by rw [hw0]; exact (Bw.refl w).alloc _)
  have HK0 := Aside0.mk (show Blk w0 w.heap.size #[.int .i64 kind, .int .i64 due, .int .i64 key] 42 by rw [hw0]; exact Blk.new w _ _)
  have HWD := Aside0.mk hwd
  have HWK := Aside0.mk hwk
  have OLD := Aside0.mk h.old
  have RA := Aside0.mk (fun W (hW : LR W A l) => refAt_calls A c l key W hW.rows (by omega))
  have H0 := Aside0.mk (h.bw HB0.out)
  have R0 := Aside0.mk (hr.bw HB0.out)
  
  have RAT := Aside0.mk (show atL l key = (keyAt l key : Int) by unfold atL; rw [hk]; rfl)
  obtain ⟨pk, hpk⟩ : ∃ pk : Int, pk = (keyAt l key : Int) := ⟨_, rfl⟩
  have hg0 : decide ((0 : Int) ≤ pk) = true := decide_eq_true (by omega)
  have hg1 : decide (pk < 0) = false := decide_eq_false (by omega)
  rw [RAT.out, ← hpk] at RA
  have HPK := Aside0.mk hpk
  clear h hr hwd hwk hpk RAT
  go_enter Try.func15, Try.ntmps15
  go_wp2_with fail
  rw [← hw0]
  clear hw0
  refine (RA.out _ R0.out).mono ?_
  rintro e w1 ⟨rfl, hb1⟩
  have HB1 := Aside0.mk (HB0.out.trans hb1)
  have HK1 := Aside0.mk (HK0.out.bw hb1)
  have H1 := Aside0.mk (H0.out.bw hb1)
  have R1 := Aside0.mk (R0.out.bw hb1)
  clear hb1
  have k0 := HK1.out.cell 0 (.int .i64 kind) rfl
  have k1 := HK1.out.cell 1 (.int .i64 due) rfl
  have k2 := HK1.out.cell 2 (.int .i64 key) rfl
  have RD := Aside0.mk (show ∀ W, LR W A l → Calls Try.prog 47 #[.slice A l.length c, .int .i64 pk] W fun e w' => ∃ u, e = .returned u ∧ w'.ownsRow 0 32 2 u (dropN l 0 pk).length ((dropN l 0 pk).flatMap encI) ∧ Bw W w' from fun W hW => (refDrop_calls A c l pk W hW.rows (by first | (simp; done) | (simp at hl ⊢; omega) | omega)).mono fun e w' ⟨u, h1, h2, h3⟩ => ⟨u, h1, own_weaken h2 (Nat.zero_le _), h3⟩)
  have HP := H1.out.move_hit key due HWK.out HWD.out hk
  rw [← HPK.out] at HP
  have HP := Aside0.mk HP
  have hln := (dropN_sub l 0 pk).length_le
  generalize dropN l 0 pk = T at RD HP hln
  have RP := Aside0.mk (show ∀ W A' c', LR W A' T → Calls Try.prog 11 #[.slice A' T.length c', .agg #[.int .i64 due, .int .i64 key]] W fun e w' => ∃ u, e = .returned u ∧ w'.ownsRow 0 32 2 u (putR T (due, key)).length ((putR T (due, key)).flatMap encI) ∧ Bw W w' from fun W A' c' hW => (refPut_calls A' c' T (due, key) W hW.rows (by omega)).mono fun e w' ⟨u, h1, h2, h3⟩ => ⟨u, h1, own_weaken h2 (Nat.zero_le _), h3⟩)
  have hpl := Aside0.mk (putR_len T (due, key))
  generalize putR T (due, key) = U at RP HP hpl
  clear hk
  go_wp2_with fail
  refine HP.out.mono ?_
  rintro e w2 ⟨rfl, v2, h2, n2, c2⟩
  have HRk := Aside0.mk ((R1.out.keep H1.out c2).bw (Bw.refl w2).drew)
  have HAk := Aside0.mk (h2.bw (Bw.refl w2).drew)
  have HBk := Aside0.mk ((HK1.out.of_block (c2.block _ HK1.out.lt (fun e => absurd (OLD.out _ e) (Nat.lt_irrefl _)))).bw (Bw.refl w2).drew)
  have HSk := Aside0.mk ((((AgS.refl b mb v w).bw HB1.out).trans ⟨c2, .inl n2⟩).bw (Bw.refl w2).drew)
  have s1 : w2.cell? ⟨w.heap.size, 1, none⟩ = some (.int .i64 due) := HBk.out.cell 1 _ rfl
  have s2 : w2.cell? ⟨w.heap.size, 2, none⟩ = some (.int .i64 key) := HBk.out.cell 2 _ rfl
  clear h2 n2 c2 k0 k1 k2
  go_wp2_with fail
  go_region_held3 (fun W => W.cell? ⟨w.heap.size, 1, none⟩ = some (.int .i64 due) ∧ W.cell? ⟨w.heap.size, 2, none⟩ = some (.int .i64 key)) (exact ⟨s1, s2⟩) ((first | (go_at_call 47; refine (RD.out _ HRk.out).mono ?_; rintro e w3 ⟨u, rfl, hu, hb3⟩; obtain ⟨A', c', rfl, _, hLR⟩ := LR.own hu; have HNk := Aside0.mk hLR; have HAk := Aside0.mk (HAk.out.bw hb3); have HSk := Aside0.mk (HSk.out.bw hb3); have HBk := Aside0.mk (HBk.out.bw hb3); have s1 := HBk.out.cell 1 (.int .i64 due) rfl; have s2 := HBk.out.cell 2 (.int .i64 key) rfl; clear hu hb3 hLR) | (go_at_call 11; refine (RP.out _ _ _ HNk.out).mono ?_; rintro e w4 ⟨u2, rfl, hu, hb3⟩; have HMk := Aside0.mk hu; have HAk := Aside0.mk (HAk.out.bw hb3); have HSk := Aside0.mk (HSk.out.bw hb3); have HBk := Aside0.mk (HBk.out.bw hb3); have s1 := HBk.out.cell 1 (.int .i64 due) rfl; have s2 := HBk.out.cell 2 (.int .i64 key) rfl; clear hu hb3)))
  all_goals go_wp2_with fail
  all_goals go_ret2
  all_goals
    obtain ⟨A', c', rfl, hcc, hLR⟩ := LR.own HMk.out
    refine ⟨U, A', c', rfl, by have := hpl.out; omega, hcc, hLR, _, HAk.out, HSk.out⟩
theorem Rows.takeI {w : World} {A : Option Addr} {l : List It} (h : Rows encI 2 w A l) (n : Nat) : Rows encI 2 w A (l.take n) := by
  refine ⟨by have := h.1; rw [List.length_take]; omega, fun hn => ?_⟩
  obtain ⟨ad, e, hc⟩ := h.2 (fun e => hn (by rw [e]; simp))
  refine ⟨ad, e, fun j x hx i v hv => hc j x ?_ i v hv⟩
  rw [List.getElem?_take] at hx
  split at hx
  · exact hx
  · cases hx
theorem add_add' (a : Addr) (n m : Nat) : (a.add n).add m = a.add (n + m) := by
  unfold Addr.add
  by_cases h1 : n = 0
  · subst h1; simp
  · by_cases h2 : m = 0
    · subst h2; simp [h1]
    · simp [h1, h2, Nat.add_assoc]
theorem LR.dropI {w : World} {A : Option Addr} {l : List It} {c n : Nat} (h : LR w A l) (hc : l.length ≤ c) (hn : n ≤ l.length) : LR w (if c = n then A else A.map (·.add (n * 2))) (l.drop n) := by
  by_cases hcn : c = n
  · rw [if_pos hcn, List.drop_of_length_le (by omega)]
    exact ⟨Rows.nil, h.blk⟩
  · rw [if_neg hcn]
    refine ⟨⟨by have := h.rows.1; rw [List.length_drop]; omega, fun hne => ?_⟩, fun ad e => ?_⟩
    · obtain ⟨ad, e, hh⟩ := h.rows.2 (fun e => hne (by rw [e]; simp))
      refine ⟨ad.add (n * 2), by rw [e]; rfl, fun j x hx i v hv => ?_⟩
      rw [List.getElem?_drop] at hx
      rw [add_add', show n * 2 + (j * 2 + i) = (n + j) * 2 + i by omega]
      exact hh _ x hx i v hv
    · obtain ⟨ad0, e0, rfl⟩ := Option.map_eq_some_iff.1 e
      obtain ⟨cs, hcs⟩ := h.blk ad0 e0
      exact ⟨cs, by rw [add_block]; exact hcs⟩
set_option maxHeartbeats 4000000 in
set_option maxRecDepth 100000 in
theorem does_due (h : AgL w base ab b mb v l) (hr : LR w A l) (c : Nat) (hl : l.length ≤ 1000) (hc : l.length ≤ c) (kind due key : Int) (hwd : (Lit.int .i64 due).wf = true) (hwk : (Lit.int .i64 key).wf = true) (q0 : (kind == 0) = false) (q1 : (kind == 1) = false) (q2 : (kind == 2) = false) (q3 : (kind == 3) = false) (q4 : (kind == 4) = true)  :
    Calls Try.prog 15 #[.pointer (some ⟨ab, 0, none⟩), .slice A l.length c, .agg #[.int .i64 kind, .int .i64 due, .int .i64 key]] w (DoesP w base ab b mb v l) := by
  obtain ⟨w0, hw0⟩ : ∃ w0, w0 = w.alloc (.cells #[.int .i64 kind, .int .i64 due, .int .i64 key] 42) := ⟨_, rfl⟩
  have HB0 := Aside0.mk (show Bw w w0 by rw [hw0]; exact (Bw.refl w).alloc _)
  have HK0 := Aside0.mk (show Blk w0 w.heap.size #[.int .i64 kind, .int .i64 due, .int .i64 key] 42 by rw [hw0]; exact Blk.new w _ _)
  have HWD := Aside0.mk hwd
  have HWK := Aside0.mk hwk
  have OLD := Aside0.mk h.old
  have RA := Aside0.mk (fun W (hW : LR W A l) => refAt_calls A c l key W hW.rows (by omega))
  have H0 := Aside0.mk (h.bw HB0.out)
  have R0 := Aside0.mk (hr.bw HB0.out)
  
  clear h hr hwd hwk
  go_enter Try.func15, Try.ntmps15
  go_wp2_with fail
  rw [← hw0]
  clear hw0
  refine (RA.out _ R0.out).mono ?_
  rintro e w1 ⟨rfl, hb1⟩
  have HB1 := Aside0.mk (HB0.out.trans hb1)
  have HK1 := Aside0.mk (HK0.out.bw hb1)
  have H1 := Aside0.mk (H0.out.bw hb1)
  have R1 := Aside0.mk (R0.out.bw hb1)
  clear hb1
  have k0 := HK1.out.cell 0 (.int .i64 kind) rfl
  have k1 := HK1.out.cell 1 (.int .i64 due) rfl
  have k2 := HK1.out.cell 2 (.int .i64 key) rfl
  have HP := Aside0.mk (fun W (hW : AgL W base ab b mb v l) => hW.due due (by omega))
  have OLD1 := Aside0.mk OLD.out
  go_wp2_with fail
  go_loopw [12] (fun nv wr => ∃ n : Nat, n ≤ l.length ∧ nv = .int .i64 n ∧ Aside0 (∀ (j : Nat) (x : It), j < n → l[j]? = some x → x.1 ≤ due) ∧ Aside0 (Bw w1 wr)) (fun nv _ => l.length - (intOf nv).toNat)
  case atStart => exact ⟨0, by omega, rfl, ⟨fun j x h => absurd h (Nat.not_lt_zero _)⟩, ⟨Bw.refl w1⟩⟩
  case round =>
    obtain ⟨n, hn, rfl, HC, HW⟩ := hrel
    have HBk := Aside0.mk (HK1.out.bw HW.out)
    have N1 : ∀ p : BwW wr, p.W.cell? ⟨w.heap.size, 1, none⟩ = some (.int .i64 due) := fun p => p.cell (HBk.out.cell 1 _ rfl)
    by_cases hlt : n < l.length
    · obtain ⟨⟨ya, yk⟩, hy⟩ := getLt (L := l) (i := n) hlt
      obtain ⟨ad, hA, m0, mi⟩ := (R1.out.rows.bw HW.out).atS n _ hy
      have HY := Aside0.mk hy
      cases hb : decide (ya ≤ due)
      · subst hA
        have S0 : ∀ p : BwW wr, p.W.cell? (ad.add (n * 2)) = some (.int .i64 ya) := fun p => p.cell (m0 _ rfl)
        clear hy m0 mi k0 k1 k2
        go_wp2_with fail
        refine wp_region_bw (by kernel_rfl) (by kernel_rfl) ?_
        repeat (first | go_big_quiet_skip | (go_big_quiet_want; go_big_quiet_op; first | go_big_quiet_on | go_big_quiet_call (fail)))
        refine wpQuiet_nil ?_
        rintro w3 ⟨⟨_, hb3⟩, rfl⟩
        clear S0 N1
        have HW3 := Aside0.mk (HW.out.trans hb3)
        clear hb3
        go_wp2_with fail
        have HCUT := Aside0.mk (show IsCut l due n from ⟨hn, HC.out, fun x hx => by
          obtain rfl := Option.some.inj (HY.out.symm.trans hx)
          have := of_decide_eq_false hb
          dsimp only
          omega⟩)
        clear hb
        have HTL := Aside0.mk (show (l.take n).length = n by rw [List.length_take]; omega)
        have HSM := Aside0.mk (show ∀ W G cg, Rows encI 2 W G (l.take n) → Rows encI 2 W (some ad) l → Calls Try.prog 13 #[.slice G n cg, .slice (some ad) n c] W (fun e w' => e = .returned (.bool true) ∧ Bw W w') from fun W G cg h1 h2 => by
          have := same36_calls G (some ad) cg c (l.take n) W h1 (h2.takeI n) (by rw [HTL.out]; omega)
          rw [HTL.out] at this
          exact this)
        have hnc : n ≤ c := by omega
        have hnl : n ≤ l.length := hn
        have HRk := Aside0.mk (R1.out.bw (HW3.out.drew))
        have HAk := Aside0.mk (H1.out.bw (HW3.out.drew))
        have HSk := Aside0.mk ((AgS.refl b mb v w).bw (HB1.out.trans (HW3.out.drew)))
        have HBk := Aside0.mk (HK1.out.bw HW3.out)
        have s1 := HBk.out.cell 1 (.int .i64 due) rfl
        have HBk := Aside0.mk (HBk.out.bw (Bw.refl _).drew)
        cases hcn : decide (c = n)
        · have hcn2 : ¬ c = n := of_decide_eq_false hcn
          clear hcn
          go_region_held3 (fun W => W.cell? ⟨w.heap.size, 1, none⟩ = some (.int .i64 due)) (exact s1) ((first | (go_at_call 22; refine (HP.out _ HAk.out).mono ?_; rintro e w3 ⟨k, g, rfl, hcut, v2, h2, ho, n2, cc⟩; obtain rfl := cut_one HCUT.out hcut; obtain ⟨G, cg, rfl, hRG⟩ := Rows.own (enc := encI) (sz := 2) (xs := l.take n) (fun _ => rfl) ho (by rw [List.length_take]; omega) (own_len ho); rw [HTL.out]; have HGk := Aside0.mk hRG; have ss : AgS b mb v v2 _ w3 := ⟨cc, .inl n2⟩; have HRk := Aside0.mk (HRk.out.keep HAk.out cc); have HBk := Aside0.mk (HBk.out.of_block (cc.block _ HBk.out.lt (fun e => absurd (OLD.out _ e) (Nat.lt_irrefl _)))); have s1 := HBk.out.cell 1 (.int .i64 due) rfl; have HSk := Aside0.mk (HSk.out.trans ss); have HAk := Aside0.mk h2; clear h2 cc ss ho n2 hRG hcut) | (go_at_call 13; refine (HSM.out _ _ _ HGk.out HRk.out.rows).mono ?_; rintro e w4 ⟨rfl, hb3⟩; have HRk := Aside0.mk (HRk.out.bw hb3); have HAk := Aside0.mk (HAk.out.bw hb3); have HSk := Aside0.mk (HSk.out.bw hb3); have HBk := Aside0.mk (HBk.out.bw hb3); have s1 := HBk.out.cell 1 (.int .i64 due) rfl; clear hb3)))
          all_goals go_wp2_with fail
          all_goals go_ret2
          all_goals
            refine ⟨l.drop n, (some ad).map (·.add (n * 2)), c - n, ?_, by rw [List.length_drop]; omega, by rw [List.length_drop]; omega, ?_, v2, HAk.out, HSk.out⟩
            · rw [List.length_drop]; rfl
            · have := HRk.out.dropI hc hnl
              rw [if_neg hcn2] at this
              exact this
        · have hcn2 : c = n := of_decide_eq_true hcn
          clear hcn
          have hln2 : l.length = n := by omega
          have hlz : l.length - n = 0 := by omega
          have HDN := Aside0.mk (show l.drop n = [] from List.drop_of_length_le (by omega))
          rw [hcn2] at hc ⊢
          rw [hcn2] at HSM
          clear hcn2
          have HLN := Aside0.mk hln2
          clear hln2
          go_region_held3 (fun W => W.cell? ⟨w.heap.size, 1, none⟩ = some (.int .i64 due)) (exact s1) ((first | (go_at_call 22; refine (HP.out _ HAk.out).mono ?_; rintro e w3 ⟨k, g, rfl, hcut, v2, h2, ho, n2, cc⟩; obtain rfl := cut_one HCUT.out hcut; obtain ⟨G, cg, rfl, hRG⟩ := Rows.own (enc := encI) (sz := 2) (xs := l.take n) (fun _ => rfl) ho (by rw [List.length_take]; omega) (own_len ho); rw [HTL.out]; have HGk := Aside0.mk hRG; have ss : AgS b mb v v2 _ w3 := ⟨cc, .inl n2⟩; have HRk := Aside0.mk (HRk.out.keep HAk.out cc); have HBk := Aside0.mk (HBk.out.of_block (cc.block _ HBk.out.lt (fun e => absurd (OLD.out _ e) (Nat.lt_irrefl _)))); have s1 := HBk.out.cell 1 (.int .i64 due) rfl; have HSk := Aside0.mk (HSk.out.trans ss); have HAk := Aside0.mk h2; clear h2 cc ss ho n2 hRG hcut) | (go_at_call 13; refine (HSM.out _ _ _ HGk.out HRk.out.rows).mono ?_; rintro e w4 ⟨rfl, hb3⟩; have HRk := Aside0.mk (HRk.out.bw hb3); have HAk := Aside0.mk (HAk.out.bw hb3); have HSk := Aside0.mk (HSk.out.bw hb3); have HBk := Aside0.mk (HBk.out.bw hb3); have s1 := HBk.out.cell 1 (.int .i64 due) rfl; clear hb3)))
          all_goals go_wp2_with fail
          all_goals go_ret2
          all_goals
            refine ⟨[], (some ad), 0, rfl, by simp, by simp, ⟨Rows.nil, HRk.out.blk⟩, v2, ?_, HSk.out⟩
            rw [← HDN.out]
            exact HAk.out
      · have HD := Aside0.mk (of_decide_eq_true hb)
        subst hA
        have S0 : ∀ p : BwW wr, p.W.cell? (ad.add (n * 2)) = some (.int .i64 ya) := fun p => p.cell (m0 _ rfl)
        clear hy m0 mi
        go_wp2_with fail
        refine wp_region_bw (by kernel_rfl) (by kernel_rfl) ?_
        repeat (first | go_big_quiet_skip | (go_big_quiet_want; go_big_quiet_op; first | go_big_quiet_on | go_big_quiet_call (fail)))
        refine wpQuiet_nil ?_
        rintro w3 ⟨⟨_, hb3⟩, rfl⟩
        clear S0 N1
        have HW3 := Aside0.mk (HW.out.trans hb3)
        clear hb3
        go_wp2_with fail
        go_roundw
        case rel =>
          refine ⟨n + 1, by omega, by go_num, ⟨fun j x hj hx => ?_⟩, HW3⟩
          by_cases e : j = n
          · subst e
            obtain rfl := Option.some.inj (HY.out.symm.trans hx)
            exact HD.out
          · exact HC.out j x (by omega) hx
        case measure => simp [intOf]; omega
    · have HCUT := Aside0.mk (show IsCut l due n from ⟨hn, HC.out, fun x hx => by
        have := (List.getElem?_eq_some_iff.1 hx).1
        omega⟩)
      have hd : decide (n < l.length) = false := decide_eq_false hlt
      clear k0 k1 k2
      go_wp2_with fail
      refine wp_region_bw (by kernel_rfl) (by kernel_rfl) ?_
      repeat (first | go_big_quiet_skip | (go_big_quiet_want; go_big_quiet_op; first | go_big_quiet_on | go_big_quiet_call (fail)))
      refine wpQuiet_nil ?_
      rintro w3 ⟨⟨_, hb3⟩, rfl⟩
      clear N1 hd
      have HW3 := Aside0.mk (HW.out.trans hb3)
      clear hb3
      go_wp2_with fail
      have HTL := Aside0.mk (show (l.take n).length = n by rw [List.length_take]; omega)
      have HSM := Aside0.mk (show ∀ W G cg, Rows encI 2 W G (l.take n) → Rows encI 2 W A l → Calls Try.prog 13 #[.slice G n cg, .slice A n c] W (fun e w' => e = .returned (.bool true) ∧ Bw W w') from fun W G cg h1 h2 => by
        have := same36_calls G A cg c (l.take n) W h1 (h2.takeI n) (by rw [HTL.out]; omega)
        rw [HTL.out] at this
        exact this)
      have hnc : n ≤ c := by omega
      have hnl : n ≤ l.length := hn
      have HRk := Aside0.mk (R1.out.bw (HW3.out.drew))
      have HAk := Aside0.mk (H1.out.bw (HW3.out.drew))
      have HSk := Aside0.mk ((AgS.refl b mb v w).bw (HB1.out.trans (HW3.out.drew)))
      have HBk := Aside0.mk (HK1.out.bw HW3.out)
      have s1 := HBk.out.cell 1 (.int .i64 due) rfl
      have HBk := Aside0.mk (HBk.out.bw (Bw.refl _).drew)
      cases hcn : decide (c = n)
      · have hcn2 : ¬ c = n := of_decide_eq_false hcn
        clear hcn
        go_region_held3 (fun W => W.cell? ⟨w.heap.size, 1, none⟩ = some (.int .i64 due)) (exact s1) ((first | (go_at_call 22; refine (HP.out _ HAk.out).mono ?_; rintro e w3 ⟨k, g, rfl, hcut, v2, h2, ho, n2, cc⟩; obtain rfl := cut_one HCUT.out hcut; obtain ⟨G, cg, rfl, hRG⟩ := Rows.own (enc := encI) (sz := 2) (xs := l.take n) (fun _ => rfl) ho (by rw [List.length_take]; omega) (own_len ho); rw [HTL.out]; have HGk := Aside0.mk hRG; have ss : AgS b mb v v2 _ w3 := ⟨cc, .inl n2⟩; have HRk := Aside0.mk (HRk.out.keep HAk.out cc); have HBk := Aside0.mk (HBk.out.of_block (cc.block _ HBk.out.lt (fun e => absurd (OLD.out _ e) (Nat.lt_irrefl _)))); have s1 := HBk.out.cell 1 (.int .i64 due) rfl; have HSk := Aside0.mk (HSk.out.trans ss); have HAk := Aside0.mk h2; clear h2 cc ss ho n2 hRG hcut) | (go_at_call 13; refine (HSM.out _ _ _ HGk.out HRk.out.rows).mono ?_; rintro e w4 ⟨rfl, hb3⟩; have HRk := Aside0.mk (HRk.out.bw hb3); have HAk := Aside0.mk (HAk.out.bw hb3); have HSk := Aside0.mk (HSk.out.bw hb3); have HBk := Aside0.mk (HBk.out.bw hb3); have s1 := HBk.out.cell 1 (.int .i64 due) rfl; clear hb3)))
        all_goals go_wp2_with fail
        all_goals go_ret2
        all_goals
          refine ⟨l.drop n, A.map (·.add (n * 2)), c - n, ?_, by rw [List.length_drop]; omega, by rw [List.length_drop]; omega, ?_, v2, HAk.out, HSk.out⟩
          · rw [List.length_drop]; rfl
          · have := HRk.out.dropI hc hnl
            rw [if_neg hcn2] at this
            exact this
      · have hcn2 : c = n := of_decide_eq_true hcn
        clear hcn
        have hln2 : l.length = n := by omega
        have hlz : l.length - n = 0 := by omega
        have HDN := Aside0.mk (show l.drop n = [] from List.drop_of_length_le (by omega))
        rw [hcn2] at hc ⊢
        rw [hcn2] at HSM
        clear hcn2
        have HLN := Aside0.mk hln2
        clear hln2
        go_region_held3 (fun W => W.cell? ⟨w.heap.size, 1, none⟩ = some (.int .i64 due)) (exact s1) ((first | (go_at_call 22; refine (HP.out _ HAk.out).mono ?_; rintro e w3 ⟨k, g, rfl, hcut, v2, h2, ho, n2, cc⟩; obtain rfl := cut_one HCUT.out hcut; obtain ⟨G, cg, rfl, hRG⟩ := Rows.own (enc := encI) (sz := 2) (xs := l.take n) (fun _ => rfl) ho (by rw [List.length_take]; omega) (own_len ho); rw [HTL.out]; have HGk := Aside0.mk hRG; have ss : AgS b mb v v2 _ w3 := ⟨cc, .inl n2⟩; have HRk := Aside0.mk (HRk.out.keep HAk.out cc); have HBk := Aside0.mk (HBk.out.of_block (cc.block _ HBk.out.lt (fun e => absurd (OLD.out _ e) (Nat.lt_irrefl _)))); have s1 := HBk.out.cell 1 (.int .i64 due) rfl; have HSk := Aside0.mk (HSk.out.trans ss); have HAk := Aside0.mk h2; clear h2 cc ss ho n2 hRG hcut) | (go_at_call 13; refine (HSM.out _ _ _ HGk.out HRk.out.rows).mono ?_; rintro e w4 ⟨rfl, hb3⟩; have HRk := Aside0.mk (HRk.out.bw hb3); have HAk := Aside0.mk (HAk.out.bw hb3); have HSk := Aside0.mk (HSk.out.bw hb3); have HBk := Aside0.mk (HBk.out.bw hb3); have s1 := HBk.out.cell 1 (.int .i64 due) rfl; clear hb3)))
        all_goals go_wp2_with fail
        all_goals go_ret2
        all_goals
          refine ⟨[], A, 0, rfl, by simp, by simp, ⟨Rows.nil, HRk.out.blk⟩, v2, ?_, HSk.out⟩
          rw [← HDN.out]
          exact HAk.out
end
end Go.Proofs.Ytoklhhcjcecbbaa.M
