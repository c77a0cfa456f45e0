/- The law CellDoes, walked: it answers true. Conditions: the arguments are of their kinds. -/
import Derived.Test.YtclippikdfcgkaaMch
import Derived.Deep.RegionHeld3
namespace Go.Proofs.Ytclippikdfcgkaa.M
open Go.RowKit Go.Proofs.YtclippikdfcgkaaW.PrintWords Go.Proofs.YtclippikdfcgkaaW.PrintLast Go.Proofs.YtclippikdfcgkaaW.PrintMore
set_option linter.unusedVariables false
set_option linter.unusedSimpArgs false
def MInv (n k : Nat) (m : MemS) : Prop := m.words.length = n ∧ (0 ≤ m.clock ∧ m.clock ≤ k) ∧ (0 ≤ m.bad ∧ m.bad ≤ k) ∧ ∀ y ∈ m.words, 0 ≤ y
theorem MInv.ok {n k : Nat} {m : MemS} (h : MInv n k m) (hk : k ≤ 100000) : m.ok := ⟨⟨h.2.1.1, by have := h.2.1.2; omega⟩, ⟨h.2.2.1.1, by have := h.2.2.1.2; omega⟩⟩
theorem mem_set {xs : List Int} {i : Nat} {x y : Int} (h : y ∈ xs.set i x) : y ∈ xs ∨ y = x := by
  rcases List.mem_or_eq_of_mem_set h with h | h
  · exact .inl h
  · exact .inr h
theorem MInv.step {n k : Nat} {m : MemS} (h : MInv n k m) (a : ActS) (hw : 0 ≤ a.w) : MInv n (k + 1) (m.step a) := by
  obtain ⟨h1, ⟨h2, h3⟩, ⟨h4, h5⟩, h6⟩ := h
  unfold MemS.step
  obtain ⟨q, hq⟩ : ∃ q, q = kindA a.kind := ⟨_, rfl⟩
  have hk : q = 1 ∨ q = 2 ∨ q = 3 ∨ q = 4 := by rw [hq]; unfold kindA; split <;> omega
  rw [← hq]
  obtain ⟨x, hx⟩ : ∃ x, x = (if q = 1 then (0 : Int) else a.w) := ⟨_, rfl⟩
  have hx0 : 0 ≤ x := by rw [hx]; split <;> omega
  have hk' : q = 1 ∧ x = 0 ∨ q = 2 ∨ q = 3 ∨ q = 4 := by
    rcases hk with h | h
    · exact .inl ⟨h, by rw [hx, if_pos h]⟩
    · exact .inr h
  rw [← hx]
  by_cases hat : 0 ≤ a.at_ ∧ a.at_ < m.words.length
  · have hrd : 0 ≤ rd m.words a.at_ := by
      unfold rd
      rw [List.getD_eq_getElem?_getD, List.getElem?_eq_getElem (by omega)]
      exact h6 _ (List.getElem_mem _)
    rw [act_in m q a.who a.at_ a.old x hk' hat ⟨hrd, hx0⟩]
    have hm : 0 ≤ (rd m.words a.at_ + x) % 4294967296 := by omega
    have key : ∀ z : Int, 0 ≤ z → ∀ y ∈ m.words.set a.at_.toNat z, 0 ≤ y := fun z hz y hy => by
      rcases mem_set hy with hy | rfl
      · exact h6 y hy
      · exact hz
    split
    · exact ⟨by simpa using h1, ⟨by simp; omega, by simp; omega⟩, ⟨by simp; omega, by simp; omega⟩, key _ hm⟩
    split
    · split
      · exact ⟨by simpa using h1, ⟨by simp; omega, by simp; omega⟩, ⟨by simp; omega, by simp; omega⟩, key _ hx0⟩
      · exact ⟨by simpa using h1, ⟨by simp; omega, by simp; omega⟩, ⟨by simp; omega, by simp; omega⟩, h6⟩
    split
    · exact ⟨by simpa using h1, ⟨by simp; omega, by simp; omega⟩, ⟨by simp; omega, by simp; omega⟩, key _ hx0⟩
    · exact ⟨by simpa using h1, ⟨by simp; omega, by simp; omega⟩, ⟨by simp; omega, by simp; omega⟩, h6⟩
  · rw [act_out m q a.who a.at_ a.old x hk' hat]
    exact ⟨by simpa [MemS.go] using h1, ⟨by simp [MemS.go]; omega, by simp [MemS.go]; omega⟩, ⟨by simp; omega, by simp; omega⟩, h6⟩

theorem actCells {w : World} {ad : Addr} {acts : List ActS} {k : Nat} {a : ActS} (h : Rows encA 5 w (some ad) acts) (hk : acts[k]? = some a) :
    w.cell? (ad.add (k * 5)) = some (.int .i64 a.kind) ∧ w.cell? ⟨(ad.add (k * 5)).block, (ad.add (k * 5)).off + 1, none⟩ = some (.int .i64 a.who) ∧ w.cell? ⟨(ad.add (k * 5)).block, (ad.add (k * 5)).off + 2, none⟩ = some (.int .i64 a.at_)
    ∧ w.cell? ⟨(ad.add (k * 5)).block, (ad.add (k * 5)).off + 3, none⟩ = some (.int .u64 a.old) ∧ w.cell? ⟨(ad.add (k * 5)).block, (ad.add (k * 5)).off + 4, none⟩ = some (.int .u64 a.w) := by
  obtain ⟨ad', e, h0, hi⟩ := h.atS k a hk
  injection e with e
  subst e
  exact ⟨h0 _ rfl, hi 1 _ (by decide) rfl, hi 2 _ (by decide) rfl, hi 3 _ (by decide) rfl, hi 4 _ (by decide) rfl⟩
theorem wordsRows {w : World} {base b : Nat} {n : Nat} {A' : Option Addr} {c' : Nat} {v : Value} {m : MemS} (h : IsRef w base b v m) (hv : v = .slice A' n c') (hn : m.words.length = n) (hl : n ≤ 262144) : Rows (fun x => [Value.int .u64 x]) 1 w A' m.words := by
  obtain ⟨A1, c1, e, hR⟩ := Rows.own (enc := fun x : Int => [Value.int .u64 x]) (xs := m.words) (fun _ => rfl) (by rw [nums_flat]; exact h.2.2.1) rfl (by omega)
  rw [hv] at e
  injection e with e1 e2 e3
  rw [e1]
  exact hR

set_option maxHeartbeats 4000000 in
set_option maxRecDepth 100000 in
theorem CellDoes_core (A : Option Addr) (cap : Nat) (ws : List Int) (A2 : Option Addr) (cap2 : Nat) (acts : List ActS) (w : World) (hx : Rows (fun x => [Value.int .u64 x]) 1 w A ws) (hl : ws.length ≤ 100) (hz : A = none → ws = [] ∧ cap = 0) (hr : ∀ x ∈ ws, 0 ≤ x)
    (hx2 : Rows encA 5 w A2 acts) (hl2 : acts.length ≤ 100) (hr2 : ∀ a ∈ acts, 0 ≤ a.w) :
    Calls Try.prog 6 #[.slice A ws.length cap, .slice A2 acts.length cap2] w fun e w' => e = .returned (.bool true) ∧ Bw w w' := by
  have HB := Aside0.mk (Bw.refl w)
  have HX := Aside0.mk hx
  have HX2 := Aside0.mk hx2
  have HR := Aside0.mk hr
  have HR2 := Aside0.mk hr2
  have d1 : decide ((100 : Int) < (ws.length : Int)) = false := by simp; omega
  have d2 : decide ((100 : Int) < (acts.length : Int)) = false := by simp; omega
  clear hx hx2 hr hr2
  go_enter Try.func6, Try.ntmps6
  go_wp2_with fail
  refine (Of_calls A cap ws w HX.out (by omega) hz).mono ?_
  rintro e w1 ⟨b, v, rfl, hM, hb1⟩
  have HM := Aside0.mk (hM.lower (base' := w.heap.size) (Nat.le_refl _))
  have HW := Aside0.mk hb1
  clear hM
  go_wp2_with fail
  refine (refNew_calls A cap ws w1 (HX.out.bw HW.out) (by omega)).mono ?_
  rintro e w2 ⟨b', v', rfl, hM2, hb2⟩
  have HBO := Aside0.mk (show Both w2 w.heap.size b b' v v' (memOf ws) from ⟨HM.out.bw hb2, ⟨Nat.le_trans HW.out.size hM2.1, hM2.2.1, own_weaken hM2.2.2.1 HW.out.size, hM2.2.2.2⟩, fun i hi hj => by
    have h1 := HM.out.lt i hi
    have h2 := hM2.ge i hj
    omega⟩)
  have HW2 := Aside0.mk (HW.out.trans hb2)
  clear hM2 hb2 hb1
  go_wp2_with fail
  go_loopw [8] (fun iv wr => ∃ (k : Nat) (m : MemS), k ≤ acts.length ∧ iv = .int .i64 k ∧ Aside0 (Both wr w.heap.size b b' v v' m) ∧ Aside0 (MInv ws.length k m) ∧ Aside0 (Bw w wr)) (fun iv _ => acts.length - (intOf iv).toNat)
  case atStart => exact ⟨0, memOf ws, by omega, rfl, HBO, ⟨rfl, ⟨Int.le_refl _, Int.le_refl _⟩, ⟨Int.le_refl _, Int.le_refl _⟩, HR.out⟩, HW2⟩
  case round =>
    obtain ⟨k, m, hk, rfl, HBk, HI, HWk⟩ := hrel
    by_cases hlt : k < acts.length
    · obtain ⟨a, ha⟩ : ∃ a, acts[k]? = some a := ⟨_, List.getElem?_eq_getElem hlt⟩
      obtain ⟨ad, rfl, _⟩ := (HX2.out.bw HWk.out).atS k a ha
      obtain ⟨s0, s1, s2, s3, s4⟩ := actCells (HX2.out.bw HWk.out) ha
      obtain ⟨A', c', hv'⟩ := own_slice HBk.out.2.1.2.2.1
      rw [HI.out.1] at hv'
      have s5 := HBk.out.2.1.cells.1
      rw [hv'] at s5
      have HV' := Aside0.mk hv'
      have HA := Aside0.mk ha
      have hrr := Aside0.mk (And.intro HI.out.2.2.2 (HR2.out a (List.mem_of_getElem? ha)))
      have HI1 := Aside0.mk (HI.out.step a hrr.out.2)
      have hok := Aside0.mk (HI.out.ok (by omega))
      have HBd := Aside0.mk (HBk.out.bw (Bw.refl wr).drew)
      clear ha hv'
      go_wp2_with fail
      go_region_held3 (fun W => W.cell? (ad.add (k * 5)) = some (.int .i64 a.kind) ∧ W.cell? ⟨(ad.add (k * 5)).block, (ad.add (k * 5)).off + 1, none⟩ = some (.int .i64 a.who) ∧ W.cell? ⟨(ad.add (k * 5)).block, (ad.add (k * 5)).off + 2, none⟩ = some (.int .i64 a.at_) ∧ W.cell? ⟨(ad.add (k * 5)).block, (ad.add (k * 5)).off + 3, none⟩ = some (.int .u64 a.old) ∧ W.cell? ⟨(ad.add (k * 5)).block, (ad.add (k * 5)).off + 4, none⟩ = some (.int .u64 a.w) ∧ W.cell? ⟨b', 0, none⟩ = some (.slice A' ws.length c')) (exact ⟨s0, s1, s2, s3, s4, s5⟩) ((first | (go_at_call 35; refine (lawDo_calls a HBd.out hok.out hrr.out).mono ?_; rintro e w3 ⟨rfl, hBo3, hC3⟩; have HB3 := Aside0.mk hBo3; have HW3 := Aside0.mk (hC3.below (HWk.out.drew) HBk.out.ge); obtain ⟨s0, s1, s2, s3, s4⟩ := actCells (HX2.out.bw HW3.out) HA.out; have s5 := HB3.out.2.1.cells.1; rw [HV'.out] at s5; clear hBo3 hC3) | (go_at_call 36; refine (Alike_calls HB3.out).mono ?_; rintro e w4 ⟨rfl, hb4⟩; have HB4 := Aside0.mk (HB3.out.bw hb4); have HW4 := Aside0.mk (HW3.out.trans hb4); obtain ⟨s0, s1, s2, s3, s4⟩ := actCells (HX2.out.bw HW4.out) HA.out; have s5 := HB4.out.2.1.cells.1; rw [HV'.out] at s5; clear hb4) | (go_at_call 38; refine (Words_calls _ b v (m.step a) _ HB4.out.1 (by rw [HI1.out.1]; omega)).mono ?_; rintro e w5 ⟨u, rfl, hu, hb5⟩; have HB5 := Aside0.mk (HB4.out.bw hb5); have HW5 := Aside0.mk (HW4.out.trans hb5); obtain ⟨s0, s1, s2, s3, s4⟩ := actCells (HX2.out.bw HW5.out) HA.out; have s5 := HB5.out.2.1.cells.1; rw [HV'.out] at s5; obtain ⟨A5, c5, rfl, hR5⟩ := Rows.own (enc := fun x : Int => [Value.int .u64 x]) (xs := (m.step a).words) (fun _ => rfl) (by rw [nums_flat]; exact hu) rfl (by rw [HI1.out.1]; omega); rw [HI1.out.1]; have HR5 := Aside0.mk hR5; clear hb5 hu hR5) | (go_at_call 37; refine ((HI1.out.1 ▸ Same_calls A5 A' c5 c' (m.step a).words (m.step a).words _ HR5.out (wordsRows HB5.out.2.1 HV'.out HI1.out.1 (by omega)))).mono ?_; rintro e w6 ⟨rfl, hb6⟩; have HB6 := Aside0.mk (HB5.out.bw hb6); have HW6 := Aside0.mk (HW5.out.trans hb6); obtain ⟨s0, s1, s2, s3, s4⟩ := actCells (HX2.out.bw HW6.out) HA.out; have s5 := HB6.out.2.1.cells.1; rw [HV'.out] at s5; rw [decide_eq_true rfl])))
      go_wp2_with fail
      go_roundw
      case rel => exact ⟨k + 1, m.step a, by omega, by go_num, HB6, HI1, HW6⟩
      case measure => simp [intOf]; omega
    · have hn := HI.out.1
      go_wp2_with fail
      refine (cawake_calls _).mono ?_
      rintro e w3 ⟨rfl, hb3⟩
      have HBk := Aside0.mk (HBk.out.bw hb3)
      have HWk := Aside0.mk (HWk.out.trans hb3)
      go_wp2_with fail
      refine (Len_calls _ b v m _ HBk.out.1).mono ?_
      rintro e w4 ⟨rfl, hb4⟩
      rw [hn]
      go_wp2_with fail
      go_ret
      exact ⟨by first | rfl | simp, HWk.out.trans hb4⟩

theorem RdRow.nil {ks : List FK} {w : World} {a : Option Addr} {len cap : Nat} (h : RdRow ks w a len cap) (ha : a = none) : len = 0 ∧ cap = 0 := by
  rcases h with ⟨_, h1, h2⟩ | ⟨x, rfl, _⟩
  · exact ⟨h1, h2⟩
  · cases ha
theorem rd_acts {w : World} {a : Option Addr} {len cap : Nat} (h : RdRow [.int .i64, .int .i64, .int .i64, .int .u64, .int .u64] w a len cap) :
    ∃ xs : List ActS, xs.length = len ∧ Rows encA 5 w a xs ∧ ∀ x ∈ xs, 0 ≤ x.w := by
  obtain ⟨css, hl, hf, hr⟩ := rd_cells h
  refine ⟨css.map fun cs => ⟨geti cs 0, geti cs 1, geti cs 2, geti cs 3, geti cs 4⟩, by simpa using hl, hr.map fun cs hcs => ?_, ?_⟩
  · obtain ⟨n0, _, rfl, _, h1⟩ := (hf cs hcs).int
    obtain ⟨n1, _, rfl, _, h2⟩ := h1.int
    obtain ⟨n2, _, rfl, _, h3⟩ := h2.int
    obtain ⟨n3, _, rfl, _, h4⟩ := h3.int
    obtain ⟨n4, _, rfl, _, h5⟩ := h4.int
    obtain rfl := h5.nil
    rfl
  · intro x hx
    obtain ⟨cs, hcs, rfl⟩ := List.mem_map.1 hx
    obtain ⟨n0, _, rfl, _, h1⟩ := (hf cs hcs).int
    obtain ⟨n1, _, rfl, _, h2⟩ := h1.int
    obtain ⟨n2, _, rfl, _, h3⟩ := h2.int
    obtain ⟨n3, _, rfl, _, h4⟩ := h3.int
    obtain ⟨n4, _, rfl, hw, h5⟩ := h4.int
    exact (wf_u64 hw).1
theorem CellDoes_walk (w : World) (a : Option Addr) (n cap : Nat) (f : RdRow [.int .u64] w a n cap) (y : n * 8 ≤ 140737488351232) (a2 : Option Addr) (n2 cap2 : Nat) (f2 : RdRow [.int .i64, .int .i64, .int .i64, .int .u64, .int .u64] w a2 n2 cap2) (y2 : n2 * 40 ≤ 140737488351232) :
    Calls Try.prog 6 #[.slice a n cap, .slice a2 n2 cap2] w fun e w' => e = .returned (.bool true) ∧ Bw w w' := by
  have hz := f.nil
  obtain ⟨ws, rfl, hx, hxw⟩ := rd_ints f
  obtain ⟨acts, rfl, hx2, hxw2⟩ := rd_acts f2
  by_cases h1 : ws.length ≤ 100
  · by_cases h2 : acts.length ≤ 100
    · exact CellDoes_core a cap ws a2 cap2 acts w hx h1 (fun ha => ⟨List.length_eq_zero_iff.1 (hz ha).1, (hz ha).2⟩) (fun x hx => (wf_u64 (hxw x hx)).1) hx2 h2 hxw2
    · have HB := Aside0.mk (Bw.refl w)
      have d1 : decide ((100 : Int) < (ws.length : Int)) = false := by simp; omega
      have d2 : decide ((100 : Int) < (acts.length : Int)) = true := by simp; omega
      clear f hx hxw f2 hx2 hxw2 hz
      go_enter Try.func6, Try.ntmps6
      go_wp2_with fail
      refine (cawake_calls _).mono ?_
      rintro e w1 ⟨rfl, hb1⟩
      go_wp2_with fail
      go_ret
      exact ⟨rfl, HB.out.trans hb1⟩
  · have HB := Aside0.mk (Bw.refl w)
    have d1 : decide ((100 : Int) < (ws.length : Int)) = true := by simp; omega
    clear f hx hxw f2 hx2 hxw2 hz
    go_enter Try.func6, Try.ntmps6
    go_wp2_with fail
    refine (cawake_calls _).mono ?_
    rintro e w1 ⟨rfl, hb1⟩
    go_wp2_with fail
    go_ret
    exact ⟨rfl, HB.out.trans hb1⟩
end Go.Proofs.Ytclippikdfcgkaa.M
