/- Script: a strings.Builder that is written; the table of powers; Itoa. Conditions: texts below 2^40 bytes. -/
import Derived.Test.YtogpjimmcckkcaaDoorMt1
import Derived.Test.YtogpjimmcckkcaaDoorMt0
import Derived.Lib.AppendStr
import Derived.Lib.Builder
namespace Go.Proofs.YtogpjimmcckkcaaDoor.M
open Go.RowKit Go.Proofs.YtogpjimmcckkcaaDoorW.PrintWords Go.Proofs.YtogpjimmcckkcaaDoorW.PrintLast Go.Proofs.YtogpjimmcckkcaaDoorW.PrintMore
set_option linter.unusedVariables false
set_option linter.unusedSimpArgs false
structure IsBld (w : World) (base b : Nat) (p v : Value) (l : List UInt8) : Prop where
  le : base ≤ b
  blk : Blk w b #[p, v] 91
  self : p = .pointer none ∨ p = .pointer (some ⟨b, 0, none⟩)
  own : w.ownsRow base 5 1 v l.length (Lib.byteCells l)
def BldF (b : Nat) (v : Value) : Nat → Prop := fun i => i = b ∨ v.ownBlock = some i
section
variable {w w1 : World} {base b : Nat} {p v : Value} {l : List UInt8}
theorem IsBld.bw (h : IsBld w base b p v l) (hb : Bw w w1) : IsBld w1 base b p v l := ⟨h.le, h.blk.bw hb, h.self, pw_own_below h.own hb⟩
theorem IsBld.ne (h : IsBld w base b p v l) : some b ≠ v.ownBlock := own_ne (t := 91) h.own h.blk (by decide)
theorem IsBld.set0 (h : IsBld w base b p v l) : IsBld (w.setCell ⟨b, 0, none⟩ (.pointer (some ⟨b, 0, none⟩))) base b (.pointer (some ⟨b, 0, none⟩)) v l :=
  ⟨h.le, by simpa using h.blk.set 0 (.pointer (some ⟨b, 0, none⟩)), .inr rfl, own_setCell (p := ⟨b, 0, none⟩) h.own h.ne _⟩
theorem IsBld.lib (h : IsBld w base b p v l) : Lib.IsBuilder 91 5 base b (Lib.byteCells l) w := by
  have hl : (Lib.byteCells l).length = l.length := by simp [Lib.byteCells]
  rcases h.self with e | e
  · exact .inl ⟨h.le, v, by rw [← e]; exact h.blk, by rw [hl]; exact h.own, Ne.symm h.ne⟩
  · exact .inr ⟨h.le, v, by rw [← e]; exact h.blk, by rw [hl]; exact h.own, Ne.symm h.ne⟩
theorem IsBld.new (w : World) : IsBld (w.alloc (.cells #[.pointer none, .slice none 0 0] 91)) w.heap.size w.heap.size (.pointer none) (.slice none 0 0) [] :=
  ⟨Nat.le_refl _, Blk.new w _ _, .inl rfl, own_nil _ _ _ _⟩
theorem bInfo : (Tryd.prog.info? 91).map (·.size) = some 2 := by kernel_rfl
theorem bLies : liesAt Tryd.prog Tryd.prog.depth 91 (2 / Tryd.prog.cellsOf 91) 0 91 1 = true := by kernel_rfl
theorem info8 : (Tryd.prog.info? 5).map (fun i => (i.zero, i.size, i.bytes)) = some (some (.int .u8 0), 1, 1) := by kernel_rfl
theorem IsBld.shape (h : IsBld w base b p v l) : w.shape? b = some (91, 2) := by
  have := h.lib
  rcases this with h | h <;> exact h.shape
set_option maxHeartbeats 1000000 in
set_option maxRecDepth 100000 in
theorem copyCheck_calls (h : IsBld w base b p v l) :
    Calls Tryd.prog 70 #[.pointer (some ⟨b, 0, none⟩)] w fun e w' => e = .returned (.tuple #[]) ∧ IsBld w' base b (.pointer (some ⟨b, 0, none⟩)) v l ∧ Chg (fun i => i = b) w w' := by
  obtain ⟨j, hj, hjs⟩ := Option.map_eq_some_iff.1 bInfo
  have HJ := Aside0.mk hj
  have HJS := Aside0.mk hjs
  have hsh := h.shape
  have HSH := Aside0.mk hsh
  have H := Aside0.mk h
  have c0 : w.cell? ⟨b, 0, none⟩ = some p := h.blk.cell 0 _ rfl
  have f0 := h.blk.free 0
  have hlt := h.blk.lt
  have hself := h.self
  clear h hj hjs hsh
  rcases hself with rfl | rfl
  · go_enter Tryd.func70, Tryd.ntmps70
    go_wp2
    rw [Lib.run_to_unsafe w ⟨b, 0, none⟩ Tryd.underlying88 Tryd.underlying126 HJ.out (by rw [HJS.out]; decide) HSH.out (Nat.zero_lt_succ 1)]
    simp only [Result.andThen]
    rw [Oper.upon_value]
    go_wp2
    rw [run_callFunc_extern Tryd.func87 (by kernel_rfl) (by kernel_rfl) (by kernel_rfl) (e := Extern.AbiNoEscape.same) (by kernel_rfl)]
    rw [Lib.run_noEscape]
    simp only [Result.andThen]
    rw [Oper.upon_value]
    go_wp2
    rw [Lib.run_from_unsafe w ⟨b, 0, none⟩ Tryd.underlying126 Tryd.underlying88 HJ.out HSH.out bLies]
    simp only [Result.andThen]
    rw [Oper.upon_value]
    go_wp2
    go_end0
    exact ⟨rfl, H.out.set0, (Chg.refl (fun i => i = b) w).setb (k := b) (i := 0) rfl _⟩
  · go_enter Tryd.func70, Tryd.ntmps70
    go_wp2
    rw [Lib.run_neq_ptr_same w _ Tryd.underlying88 HJ.out]
    go_wp2
    go_end0
    exact ⟨rfl, H.out, Chg.refl _ _⟩
/-- What a text leaves in a builder. -/
def WritePost (w : World) (base b : Nat) (v : Value) (l : List UInt8) (n : Int) (e : Ending) (w' : World) : Prop :=
  e = .returned (.tuple #[.int .i64 n, Value.nilIface]) ∧ ∃ v', IsBld w' base b (.pointer (some ⟨b, 0, none⟩)) v' l ∧ Chg (BldF b v) w w'
theorem byte_append (x y : List UInt8) : Lib.byteCells (x ++ y) = Lib.byteCells x ++ Lib.byteCells y := by simp [Lib.byteCells]
set_option maxHeartbeats 2000000 in
set_option maxRecDepth 100000 in
theorem WriteString_calls (s : List UInt8) (h : IsBld w base b p v l) (hs : l.length + s.length ≤ 1099511627776) :
    Calls Tryd.prog 50 #[.pointer (some ⟨b, 0, none⟩), .string ⟨s.toArray⟩] w (WritePost w base b v (l ++ s) s.length) := by
  have HC := Aside0.mk (copyCheck_calls h)
  obtain ⟨i0, hi, hzz⟩ := Option.map_eq_some_iff.1 info8
  simp only [Prod.mk.injEq] at hzz
  obtain ⟨hz, hs1, hb1⟩ := hzz
  have HI := Aside0.mk hi
  have HZ := Aside0.mk hz
  have HS1 := Aside0.mk hs1
  have HB1 := Aside0.mk hb1
  have HLE := Aside0.mk (Nat.le_trans h.le (Nat.le_of_lt h.blk.lt))
  clear h hi hz hs1 hb1
  go_enter Tryd.func50, Tryd.ntmps50
  go_wp2_with fail
  refine (HC.out).mono ?_
  rintro e w1 ⟨rfl, h1, c1⟩
  have H1 := Aside0.mk h1
  have C1 := Aside0.mk c1
  have k1 : w1.cell? ⟨b, 1, none⟩ = some v := h1.blk.cell 1 _ rfl
  obtain ⟨GA, gc, hvg⟩ := own_slice h1.own
  have HVG := Aside0.mk hvg
  rw [hvg] at k1
  clear h1 c1 hvg
  obtain ⟨n, hn⟩ : ∃ n, n = l.length := ⟨_, rfl⟩
  have HN := Aside0.mk hn
  rw [← hn] at k1 hs
  have HOW := Aside0.mk (show w1.ownsRow base 5 1 (.slice GA n gc) n (Lib.byteCells l) by have := H1.out.own; rw [HVG.out] at this; rw [hn]; exact this)
  have HSZ := Aside0.mk (show base ≤ w1.heap.size from Nat.le_trans HLE.out C1.out.size)
  have ssz : ByteArray.size ⟨s.toArray⟩ = s.length := by simp [ByteArray.size]
  clear hn
  go_wp2_with (at_builtin; refine Lib.wpList_append_own_string _ rfl (.tmp 12) (.tmp 13) 89 9 rfl base 5 i0 Tryd.underlying89 Tryd.underlying9 HI.out HZ.out HS1.out HB1.out (.slice GA n gc) n (Lib.byteCells l) (by rfl) HOW.out ⟨s.toArray⟩ (by rfl) (by unfold maxLen; rw [ssz]; omega) (by rw [ssz]; omega) HSZ.out ?_; intro v2 w2 hown2 hg2 hnil2; rw [ssz] at hown2; clear hnil2; obtain ⟨GB, gd, rfl⟩ := own_slice hown2; have HO2 := Aside0.mk hown2; have HG2 := Aside0.mk hg2; have HB2 := Aside0.mk (H1.out.blk.of_block (hg2.block _ H1.out.blk.lt (by have := H1.out.ne; rw [HVG.out, ← HN.out] at this; exact this))); have k2 := HB2.out.cell 1 _ rfl; have f2 := HB2.out.free 1; have l2 := HB2.out.lt; clear hown2 hg2)
  refine bodyPost_ret (v := .tuple #[.int .i64 s.length, Value.nilIface]) (by simp [results, Tryd.results50, go_sem]) rfl ⟨rfl, .slice GB (n + s.length) gd, ?_, ?_⟩
  · have hne : some b ≠ (Value.slice GB (n + s.length) gd).ownBlock := own_ne (t := 91) HO2.out HB2.out (by decide)
    refine ⟨H1.out.le, by simpa using HB2.out.set 1 (.slice GB (n + s.length) gd), .inr rfl, ?_⟩
    rw [List.length_append, ← HN.out, byte_append]
    exact own_setCell (p := ⟨b, 1, none⟩) HO2.out hne _
  · have hv : v.ownBlock = (Value.slice GA n gc).ownBlock := by rw [HVG.out, ← HN.out]
    refine Chg.setb ?_ (.inl rfl) _
    refine (C1.out.mono fun i hi => .inl hi).trans ((Chg.of_grown HG2.out).mono fun i hi => .inr ?_)
    rw [hv]
    exact hi
end
/-- The table of the powers of ten lies in a world. -/
def Tab (w : World) : Prop := Lib.TabIs Tryd.prog w "internal/strconv.uint64pow10" .u64 Lib.pow10Tab
theorem Tab.bw {w w1 : World} (h : Tab w) (hb : Bw w w1) : Tab w1 := by
  unfold Tab Lib.TabIs at h ⊢
  unfold World.var? at h ⊢
  cases hg : Tryd.prog.globalNamed "internal/strconv.uint64pow10" with
  | none => simp [hg] at h
  | some g =>
    simp only [hg, Option.bind_some] at h ⊢
    have hlt : g < w.heap.size := by
      rcases Nat.lt_or_ge g w.heap.size with h' | h'
      · exact h'
      · simp [Array.getElem?_eq_none h'] at h
    rw [hb.block g hlt]
    exact h
theorem grow_bw {w : World} (k : Nat) (os : Array Obj) : Bw w (Sort.grow (w.drewN k) os) :=
  ⟨rfl, rfl, rfl, by simp [Sort.grow, World.drewN], fun i hi => by
    show (w.heap ++ os)[i]? = _
    rw [Array.getElem?_append_left hi]⟩
theorem Itoa_calls (n : Nat) (hn : n < 1000000000000000000) (w : World) (ht : Tab w) : Calls Tryd.prog 43 #[.int .i64 (n : Int)] w fun e w' => e = .returned (strV (Lib.decDigits n)) ∧ Bw w w' :=
  (Tryd.strconv_Itoa (n : Int) (by omega) (by omega) w ht).mono fun e w' ⟨he, k, os, hw⟩ => ⟨by rw [he]; unfold Lib.itoa; rw [if_neg (by omega)]; rfl, by rw [hw]; exact grow_bw k os⟩
end Go.Proofs.YtogpjimmcckkcaaDoor.M
