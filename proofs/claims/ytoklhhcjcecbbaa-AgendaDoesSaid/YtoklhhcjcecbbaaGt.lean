/- Agenda: Due; the document's At, Drop; the law's first. Conditions: as in the texts before. -/
import Derived.Test.YtoklhhcjcecbbaaGs
namespace Go.Proofs.Ytoklhhcjcecbbaa.M
open Go.RowKit Go.Maps Go.Proofs.YtoklhhcjcecbbaaW.PrintWords Go.Proofs.YtoklhhcjcecbbaaW.PrintLast Go.Proofs.YtoklhhcjcecbbaaW.PrintMore
set_option linter.unusedVariables false
set_option linter.unusedSimpArgs false
def lenV : Value → Nat
  | .slice _ n _ => n
  | _ => 0
/-- So many of a list are due. -/
def IsCut (l : List It) (d : Int) (k : Nat) : Prop := k ≤ l.length ∧ (∀ j x, j < k → l[j]? = some x → x.1 ≤ d) ∧ (∀ x, l[k]? = some x → d < x.1)
theorem cut_one {l : List It} {d : Int} {k n : Nat} (h : IsCut l d k) (h' : IsCut l d n) : k = n := by
  rcases Nat.lt_trichotomy k n with hlt | rfl | hlt
  · obtain ⟨x, hx⟩ := getLt (L := l) (i := k) (by have := h'.1; omega)
    have h1 := h.2.2 x hx
    have h2 := h'.2.1 k x hlt hx
    omega
  · rfl
  · obtain ⟨x, hx⟩ := getLt (L := l) (i := n) (by have := h.1; omega)
    have h1 := h'.2.2 x hx
    have h2 := h.2.1 n x hlt hx
    omega
section
variable {w w1 : World} {base ab b mb : Nat} {v : Value} {L l : List It} {D : DataW Unit}
set_option maxHeartbeats 4000000 in
set_option maxRecDepth 100000 in
theorem AgL.due (h : AgL w base ab b mb v l) (d : Int) (hl : l.length ≤ 1000000) : Calls Try.prog 22 #[.pointer (some ⟨ab, 0, none⟩), .int .i64 d] w fun e w' => ∃ k g, e = .returned g ∧ IsCut l d k ∧ ∃ v', AgL w' base ab b mb v' (l.drop k) ∧ w'.ownsRow w.heap.size 30 2 g k ((l.take k).flatMap encI) ∧ v'.ownBlock = v.ownBlock ∧ Chg (PlF b mb v) w w' := by
  have H := Aside0.mk h
  have OLD := Aside0.mk h.old
  have OLA := Aside0.mk h.lt
  clear h
  go_enter Try.func22, Try.ntmps22
  go_wp2_with fail
  go_loopw [5] (fun ov wr => ∃ (k : Nat) (v' : Value), k ≤ l.length ∧ lenV ov = k ∧ Aside0 (∀ j x, j < k → l[j]? = some x → x.1 ≤ d) ∧ Aside0 (AgL wr base ab b mb v' (l.drop k)) ∧ Aside0 (wr.ownsRow w.heap.size 30 2 ov k ((l.take k).flatMap encI)) ∧ Aside0 (v'.ownBlock = v.ownBlock) ∧ Aside0 (Chg (PlF b mb v) w wr)) (fun ov _ => l.length - lenV ov)
  case atStart => exact ⟨0, v, by omega, rfl, ⟨fun j x hj => absurd hj (Nat.not_lt_zero _)⟩, H, ⟨own_nil w _ _ _⟩, ⟨rfl⟩, ⟨Chg.refl _ _⟩⟩
  case round =>
    obtain ⟨k, v', hk, hlv, HC, HA, HO, HN, HG⟩ := hrel
    by_cases hlt : k < l.length
    · obtain ⟨m, hm⟩ := getLt (L := l) (i := k) hlt
      have hd : l.drop k = m :: l.drop (k + 1) := by
        rw [List.drop_eq_getElem_cons hlt]
        rw [List.getElem?_eq_getElem hlt] at hm
        rw [Option.some.inj hm]
      have HM := Aside0.mk hm
      rw [hd] at HA
      have HF := HA.out.first_cons
      dsimp only [firstV, itV] at HF
      have HF := Aside0.mk HF
      obtain ⟨ma, mk⟩ := m
      dsimp only at HF
      clear hm
      cases hb : decide (d < ma)
      · have HD := Aside0.mk (of_decide_eq_false hb)
        have HPO := Aside0.mk (fun W (hW : AgL W base ab b mb v' ((ma, mk) :: l.drop (k + 1))) => hW.pop_cons)
        have HTK := Aside0.mk (show l.take (k + 1) = l.take k ++ [(ma, mk)] by rw [List.take_add_one, HM.out]; rfl)
        clear hd
        go_wp2_with fail
        refine (HF.out).mono ?_
        rintro e w1 ⟨rfl, hb1⟩
        obtain ⟨x1, hx1⟩ : ∃ x1, x1 = w1.alloc (.cells #[.int .i64 ma, .int .i64 mk] 30) := ⟨_, rfl⟩
        have hsz := hb1.size
        have HK1 := Aside0.mk (show Blk x1 w1.heap.size #[.int .i64 ma, .int .i64 mk] 30 by rw [hx1]; exact Blk.new w1 _ _)
        have HA1 := Aside0.mk (show AgL x1 base ab b mb v' ((ma, mk) :: l.drop (k + 1)) by rw [hx1]; exact HA.out.bw (hb1.alloc _))
        have HO1 := Aside0.mk (show x1.ownsRow w.heap.size 30 2 u5 k ((l.take k).flatMap encI) by rw [hx1]; exact pw_own_below HO.out (hb1.alloc _))
        have HG1 := Aside0.mk (show Chg (PlF b mb v) w x1 by rw [hx1]; exact HG.out.trans (Chg.of_bw (hb1.alloc _)))
        have OL1 := Aside0.mk (show ∀ i, PlF b mb v' i → i ≠ w1.heap.size by
          intro i hi e
          have h1 := OLD.out i (hi.eq HN.out)
          have h2 := HG.out.size
          omega)
        clear hb1
        go_wp2_with fail
        rw [← hx1]
        refine (HPO.out _ HA1.out).mono ?_
        rintro e w2 ⟨rfl, v2, h2, n2, c2⟩
        have HA2 := Aside0.mk h2
        have HN2 := Aside0.mk (n2.trans HN.out)
        have HO2 := Aside0.mk (own_of_block HO1.out fun g hg => c2.block g (own_lt HO1.out g hg) (fun e => by
          have h1 := own_from HO1.out hg
          have h2 := OLD.out g (e.eq HN.out)
          omega))
        have HK2 := Aside0.mk (HK1.out.of_block (c2.block _ HK1.out.lt (fun e => OL1.out _ e rfl)))
        have HG2 := Aside0.mk (show Chg (PlF b mb v) w w2 from HG1.out.trans (c2.mono fun i hi => hi.eq HN.out))
        have HS2 := Aside0.mk (HG2.out.size)
        obtain ⟨a0, a1, af, al⟩ := two_st HK2.out
        clear h2 n2 c2 hx1 hsz
        go_wp2_with (at_builtin; go_loud (refine print_append_cells (w0 := w2) w.heap.size rfl (.tmp 24) (.tmp 26) 22 30 (.agg #[.int .i64 0, .int .i64 0]) 2 16 rfl Try.underlying22 infoItem rfl (by omega) (by omega) u5 k _ [.int .i64 ma, .int .i64 mk] rfl rfl rfl (by simp [Value.oneCell']) HO2.out (Below.refl _ _) HS2.out (by omega) ?_); intro v4 w4 hown4 hbel4 hg4 hat4)
        have C4 := Chg.of_grown hg4
        have HA4 := Aside0.mk (HA2.out.keep C4 (fun e => by have h1 := own_from HO2.out e; have h2 := OLA.out; omega) (fun j hj e => by have h1 := own_from HO2.out e; have h2 := OLD.out j (hj.eq HN2.out); omega))
        have HG4 := Aside0.mk (show Chg (PlF b mb v) w w4 from ⟨C4.os.trans HG2.out.os, C4.tape.trans HG2.out.tape, C4.output.trans HG2.out.output, Nat.le_trans HG2.out.size C4.size, fun i hi hs => (C4.block i (Nat.lt_of_lt_of_le hi HG2.out.size) (fun e => by have h1 := own_from HO2.out e; omega)).trans (HG2.out.block i hi hs)⟩)
        have HT4 := Aside0.mk hown4
        have hv4 : lenV v4 = k + 1 := by
          obtain ⟨A, c, e⟩ := own_slice hown4
          rw [e]
          rfl
        clear hown4 hg4 hat4 hbel4 C4
        go_wp2_with fail
        go_roundw
        case rel =>
          refine ⟨k + 1, v2, by omega, hv4, ⟨fun j x hj hx => ?_⟩, HA4, ⟨?_⟩, HN2, HG4⟩
          · by_cases hjk : j = k
            · subst hjk
              obtain rfl := Option.some.inj (HM.out.symm.trans hx)
              have := HD.out
              dsimp only
              omega
            · exact HC.out j x (by omega) hx
          · rw [HTK.out, List.flatMap_append]
            exact HT4.out
        case measure => rw [hv4, hlv]; omega
      · have HD := Aside0.mk (of_decide_eq_true hb)
        go_wp2_with fail
        refine (HF.out).mono ?_
        rintro e w1 ⟨rfl, hb1⟩
        have HB1 := Aside0.mk hb1
        clear hb1
        go_wp2_with fail
        go_ret
        refine ⟨k, _, rfl, ⟨hk, HC.out, fun x hx => ?_⟩, v', ?_, ?_, HN.out, HG.out.trans (Chg.of_bw (HB1.out.alloc _))⟩
        · obtain rfl := Option.some.inj (HM.out.symm.trans hx)
          exact HD.out
        · rw [hd]
          exact HA.out.bw (HB1.out.alloc _)
        · exact pw_own_below HO.out (HB1.out.alloc _)
    · obtain rfl : k = l.length := by omega
      have hd : l.drop l.length = [] := List.drop_of_length_le (Nat.le_refl _)
      rw [hd] at HA
      have HF := HA.out.first_nil
      dsimp only [firstV, itV] at HF
      have HF := Aside0.mk HF
      go_wp2_with fail
      refine (HF.out).mono ?_
      rintro e w1 ⟨rfl, hb1⟩
      have HB1 := Aside0.mk hb1
      clear hb1
      go_wp2_with fail
      go_ret
      refine ⟨l.length, _, rfl, ⟨hk, HC.out, fun x hx => by simp at hx⟩, v', ?_, ?_, HN.out, HG.out.trans (Chg.of_bw (HB1.out.alloc _))⟩
      · rw [hd]
        exact HA.out.bw (HB1.out.alloc _)
      · exact pw_own_below HO.out (HB1.out.alloc _)
end
end Go.Proofs.Ytoklhhcjcecbbaa.M
