/- Script: what the library's variables hold; the number of a text; a text's lines. Conditions: texts below 2^20 bytes. -/
import Derived.Test.YtogpjimmcckkcaaDoorMt5
import Derived.Lib.SplitLaws
import Derived.Lib.AtoiErrMem
namespace Go.Proofs.YtogpjimmcckkcaaDoor.M
open Go.RowKit Go.Proofs.YtogpjimmcckkcaaDoorW.PrintWords Go.Proofs.YtogpjimmcckkcaaDoorW.PrintLast Go.Proofs.YtogpjimmcckkcaaDoorW.PrintMore
set_option linter.unusedVariables false
set_option linter.unusedSimpArgs false
/-- What the library's variables hold. -/
structure Env (W : World) : Prop where
  tab : Tab W
  syn : ∃ tp p, W.cell? ⟨3, 0, none⟩ = some (.iface tp p)
  rng : ∃ tp p, W.cell? ⟨4, 0, none⟩ = some (.iface tp p)
  mx : ∃ m, W.cell? ⟨1, 0, none⟩ = some (.int .i64 m)
theorem Env.bw {w w1 : World} (h : Env w) (hb : Bw w w1) : Env w1 :=
  ⟨h.tab.bw hb, h.syn.elim fun tp ⟨p, e⟩ => ⟨tp, p, hb.kept e⟩, h.rng.elim fun tp ⟨p, e⟩ => ⟨tp, p, hb.kept e⟩, h.mx.elim fun m e => ⟨m, hb.kept e⟩⟩
abbrev bs (l : List UInt8) : ByteArray := ⟨l.toArray⟩
theorem bs_list (l : List UInt8) : (bs l).data.toList = l := rfl
theorem bs_size (l : List UInt8) : (bs l).size = l.length := by simp [ByteArray.size]
theorem bs_inj {a b : List UInt8} : bs a = bs b ↔ a = b := ⟨fun h => by have := congrArg (fun x : ByteArray => x.data.toList) h; simpa using this, fun h => by rw [h]⟩
/-- The number of a text, and whether it is one. -/
def numF (s : List UInt8) (limit : Int) : Int × Bool :=
  match Lib.atoiAll s with
  | .ok v => (v, decide (0 ≤ v) && (decide (v ≤ limit) && (Lib.itoa v == s)))
  | .syntax => (0, false)
  | .range => (Lib.atoiSat s, false)
theorem itoa_nat {v : Int} (h : 0 ≤ v) : Lib.itoa v = Lib.decDigits v.toNat := by unfold Lib.itoa; rw [if_neg (by omega)]
set_option maxHeartbeats 1000000 in
theorem number_calls (s : List UInt8) (limit : Int) (w : World) (he : Env w) (hs : s.length ≤ 1048576) (hl : limit ≤ 1099511627776) :
    Calls Tryd.prog 78 #[.string (bs s), .int .i64 limit] w fun e w' => e = .returned (.tuple #[.int .i64 (numF s limit).1, .bool (numF s limit).2]) ∧ Bw w w' := by
  have HE := Aside0.mk he
  have hsz : (bs s).size ≤ 1048576 := by rw [bs_size]; exact hs
  cases ha : Lib.atoiAll s with
  | «syntax» =>
    obtain ⟨tp, p, hv⟩ := he.syn
    have HA := Aside0.mk (Tryd.strconv_Atoi_syntax (bs s) (by omega) ha (.iface tp p) w hv (.inr ⟨tp, p, rfl⟩))
    have HN : Aside0 (numF s limit = (0, false)) := ⟨by unfold numF; rw [ha]⟩
    clear he ha hv hsz
    go_enter Tryd.func78, Tryd.ntmps78
    go_wp2_with fail
    refine (HA.out).mono ?_
    rintro e w1 ⟨N, rfl, _, _, hb1⟩
    have HB := Aside0.mk (show Bw w w1 from hb1)
    clear hb1
    go_wp2_with fail
    go_ret2
    rw [HN.out]
    exact ⟨rfl, HB.out⟩
  | range =>
    obtain ⟨tp, p, hv⟩ := he.rng
    obtain ⟨z, hz⟩ : ∃ z, z = Lib.atoiSat s := ⟨_, rfl⟩
    have HA := Aside0.mk (Tryd.strconv_Atoi_range (bs s) (by omega) ha (.iface tp p) w hv (.inr ⟨tp, p, rfl⟩))
    rw [show Lib.atoiSat (bs s).data.toList = z from hz.symm] at HA
    have HN : Aside0 (numF s limit = (z, false)) := ⟨by unfold numF; rw [ha, hz]⟩
    clear he ha hv hsz hz
    go_enter Tryd.func78, Tryd.ntmps78
    go_wp2_with fail
    refine (HA.out).mono ?_
    rintro e w1 ⟨N, rfl, _, _, hb1⟩
    have HB := Aside0.mk (show Bw w w1 from hb1)
    clear hb1
    go_wp2_with fail
    go_ret2
    rw [HN.out]
    exact ⟨rfl, HB.out⟩
  | ok v =>
    have HA := Aside0.mk (show Calls Tryd.prog 85 #[.string (bs s)] w fun e w' => e = .returned (.tuple #[.int .i64 v, .nilIface]) ∧ Bw w w' from
      (Tryd.strconv_Atoi_ok (bs s) (by omega) v ha w).mono fun e w' ⟨h1, h2⟩ => ⟨h1, by rcases h2 with rfl | ⟨t, rfl⟩; exact Bw.refl _; exact Lib.bytesWorld_below w _ t⟩)
    have HN : Aside0 (numF s limit = (v, decide (0 ≤ v) && (decide (v ≤ limit) && (Lib.itoa v == s)))) := ⟨by unfold numF; rw [ha]⟩
    clear ha hsz he
    by_cases h0 : 0 ≤ v
    · by_cases h1 : v ≤ limit
      · obtain ⟨u, hu⟩ : ∃ u, u = Lib.decDigits v.toNat := ⟨_, rfl⟩
        have HI := Aside0.mk (show ∀ W, Tab W → Calls Tryd.prog 43 #[.int .i64 v] W fun e w' => e = .returned (.string (bs u)) ∧ Bw W w' from fun W ht => by
          have := Itoa_calls v.toNat (by omega) W ht
          rw [Int.toNat_of_nonneg h0, ← hu] at this
          exact this)
        have HN := Aside0.mk (show numF s limit = (v, u == s) by rw [HN.out, decide_eq_true h0, decide_eq_true h1, itoa_nat h0, ← hu]; rfl)
        have d0 : decide (0 ≤ v) = true := decide_eq_true h0
        have d1 : decide (v ≤ limit) = true := decide_eq_true h1
        clear h0 h1 hu hl
        go_enter Tryd.func78, Tryd.ntmps78
        go_wp2_with fail
        refine (HA.out).mono ?_
        rintro e w1 ⟨rfl, hb1⟩
        go_wp2_with fail
        refine (HI.out _ (HE.out.bw hb1).tab).mono ?_
        rintro e w2 ⟨rfl, hb2⟩
        have HB := Aside0.mk (hb1.trans hb2)
        clear hb1 hb2
        go_wp2_with fail
        go_ret2
        rw [HN.out]
        exact ⟨rfl, HB.out⟩
      · have d0 : decide (0 ≤ v) = true := decide_eq_true h0
        have d1 : decide (v ≤ limit) = false := decide_eq_false h1
        have HN := Aside0.mk (show numF s limit = (v, false) by rw [HN.out, d0, d1]; rfl)
        clear h0 h1 hl
        go_enter Tryd.func78, Tryd.ntmps78
        go_wp2_with fail
        refine (HA.out).mono ?_
        rintro e w1 ⟨rfl, hb1⟩
        go_wp2_with fail
        go_ret2
        rw [HN.out]
        exact ⟨rfl, hb1⟩
    · have d0 : decide (0 ≤ v) = false := decide_eq_false h0
      have HN := Aside0.mk (show numF s limit = (v, false) by rw [HN.out, d0]; rfl)
      clear h0 hl
      go_enter Tryd.func78, Tryd.ntmps78
      go_wp2_with fail
      refine (HA.out).mono ?_
      rintro e w1 ⟨rfl, hb1⟩
      go_wp2_with fail
      go_ret2
      rw [HN.out]
      exact ⟨rfl, hb1⟩
/-- A text's lines, and whether it ends with a line feed. -/
def linesF (t : List UInt8) : List ByteArray × Bool :=
  if t = [] then ([], true) else if Lib.hasSuffix t [10] = true then (Lib.splitB (bs [10]) 0 (Lib.countB (bs (Lib.trimSuffix t [10])) (bs [10])) (bs (Lib.trimSuffix t [10])), true) else ([], false)
def StrRow (w : World) (A : Option Addr) (l : List ByteArray) : Prop := ∀ j s, l[j]? = some s → ∃ ad, A = some ad ∧ w.cell? (ad.add j) = some (.string s)
theorem StrRow.bw {w w1 : World} {A : Option Addr} {l : List ByteArray} (h : StrRow w A l) (hb : Bw w w1) : StrRow w1 A l := fun j s hj => by
  obtain ⟨ad, e, hc⟩ := h j s hj
  exact ⟨ad, e, hb.kept hc⟩
theorem trim_le (t : List UInt8) : (Lib.trimSuffix t [10]).length ≤ t.length := by
  unfold Lib.trimSuffix
  split
  · rw [List.length_take]; omega
  · omega
set_option maxHeartbeats 1000000 in
theorem lines_calls (t : List UInt8) (w : World) (he : Env w) (hs : t.length ≤ 1048576) :
    Calls Tryd.prog 55 #[.string (bs t)] w fun e w' => ∃ A c, e = .returned (.tuple #[.slice A (linesF t).1.length c, .bool (linesF t).2]) ∧ StrRow w' A (linesF t).1 ∧ Bw w w' := by
  have HB := Aside0.mk (Bw.refl w)
  by_cases h0 : t = []
  · have HL : Aside0 (linesF t = ([], true)) := ⟨by unfold linesF; rw [if_pos h0]⟩
    subst h0
    clear he hs
    go_enter Tryd.func55, Tryd.ntmps55
    go_wp2_with fail
    go_ret2
    refine ⟨none, 0, ?_, ?_, HB.out⟩
    · rw [HL.out]; rfl
    · rw [HL.out]; intro j s hj; simp at hj
  · have d0 : (t == []) = false := by simpa using h0
    have HH := Aside0.mk (fun W => Tryd.strings_HasSuffix (bs t) (bs [10]) W (by rw [bs_size]; omega))
    cases hb : Lib.hasSuffix t [10]
    · have HL : Aside0 (linesF t = ([], false)) := ⟨by unfold linesF; rw [if_neg h0, hb]; rfl⟩
      rw [show Lib.hasSuffix (bs t).data.toList (bs [10]).data.toList = false from hb] at HH
      clear he hs hb h0
      go_enter Tryd.func55, Tryd.ntmps55
      go_wp2_with fail
      refine (HH.out _).mono ?_
      rintro e w1 ⟨rfl, rfl⟩
      go_wp2_with fail
      go_ret2
      refine ⟨none, 0, ?_, ?_, HB.out⟩
      · rw [HL.out]; rfl
      · rw [HL.out]; intro j s hj; simp at hj
    · obtain ⟨u, hu⟩ : ∃ u, u = Lib.trimSuffix t [10] := ⟨_, rfl⟩
      have hul : u.length ≤ 1048576 := by rw [hu]; have := trim_le t; omega
      have HL : Aside0 (linesF t = (Lib.splitB (bs [10]) 0 (Lib.countB (bs u) (bs [10])) (bs u), true)) := ⟨by unfold linesF; rw [if_neg h0, hb, if_pos rfl, hu]⟩
      rw [show Lib.hasSuffix (bs t).data.toList (bs [10]).data.toList = true from hb] at HH
      have HT := Aside0.mk (fun W => Tryd.strings_TrimSuffix (bs t) (bs [10]) W (by rw [bs_size]; omega))
      rw [show Lib.trimSuffix (bs t).data.toList (bs [10]).data.toList = u from hu.symm] at HT
      obtain ⟨m, hm⟩ := he.mx
      have HS := Aside0.mk (Tryd.strings_Split (bs u) (bs [10]) m w (by rw [bs_size]; omega) hm (by rw [bs_size]; decide))
      clear he hs hb hu hul hm h0
      go_enter Tryd.func55, Tryd.ntmps55
      go_wp2_with fail
      refine (HH.out _).mono ?_
      rintro e w1 ⟨rfl, rfl⟩
      go_wp2_with fail
      refine (HT.out _).mono ?_
      rintro e w2 ⟨rfl, rfl⟩
      go_wp2_with fail
      refine HS.out.mono ?_
      rintro e w3 ⟨rfl, hw3⟩
      have HW3 := Aside0.mk hw3
      clear hw3
      go_wp2_with fail
      go_ret2
      obtain ⟨L, hLL⟩ : ∃ L, L = Lib.splitB (bs [10]) 0 (Lib.countB (bs u) (bs [10])) (bs u) := ⟨_, rfl⟩
      have hlen : L.length = Lib.countB (bs u) (bs [10]) + 1 := by rw [hLL]; exact Lib.splitB_all (bs [10]) (by rw [bs_size]; decide) 0 _ (bs u) rfl
      have hw3 := HW3.out
      rw [← hLL] at hw3
      refine ⟨some ⟨w2.heap.size, 0, none⟩, Lib.countB (bs u) (bs [10]) + 1, ?_, ?_, ?_⟩
      · rw [HL.out, ← hLL, hlen]
        rfl
      · rw [HL.out, ← hLL]
        intro j s hj
        refine ⟨_, rfl, ?_⟩
        rw [hw3]
        have hb := Blk.new w2 (List.map Value.string L).toArray 9
        have := hb.cell j (.string s) (by rw [List.getElem?_toArray, List.getElem?_map, hj]; rfl)
        have e1 : (⟨w2.heap.size, 0, none⟩ : Addr).add j = ⟨w2.heap.size, j, none⟩ := by unfold Addr.add; simp; try omega
        rw [e1]
        exact this
      · rw [hw3]
        exact HB.out.alloc _
end Go.Proofs.YtogpjimmcckkcaaDoor.M
