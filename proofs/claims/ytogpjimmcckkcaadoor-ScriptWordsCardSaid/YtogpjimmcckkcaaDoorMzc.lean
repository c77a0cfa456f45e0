/- Script: the instruction of a line; the words of a text of programs. Conditions: texts below 2^20 bytes. -/
import Derived.Test.YtogpjimmcckkcaaDoorMza
import Derived.Test.YtogpjimmcckkcaaDoorMu2
namespace Go.Proofs.YtogpjimmcckkcaaDoor.M
open Go.RowKit Go.Proofs.YtogpjimmcckkcaaDoorW.PrintWords Go.Proofs.YtogpjimmcckkcaaDoorW.PrintLast Go.Proofs.YtogpjimmcckkcaaDoorW.PrintMore
set_option linter.unusedVariables false
set_option linter.unusedSimpArgs false
def hitI (u : List UInt8) (has : Bool) (k : Nat) : Bool := inW k == u && toldB (k : Int) == has
def findI (u : List UInt8) (has : Bool) : Nat → Nat → Option Nat
  | 0, _ => none
  | n + 1, j => if hitI u has j = true then some j else findI u has n (j + 1)
def endI (v : List UInt8) (has : Bool) (k : Nat) : (Int × Int) × Bool :=
  if has = true then (if (numF v 1099511627776).2 = true then (((k : Int), (numF v 1099511627776).1), true) else ((0, 0), false)) else (((k : Int), 0), true)
def tailI (u v : List UInt8) (has : Bool) : (Int × Int) × Bool :=
  match findI u has 7 0 with
  | none => ((0, 0), false)
  | some k => endI v has k
/-- The instruction of a line; whether it is one. -/
def instrF (s : List UInt8) : (Int × Int) × Bool := tailI (Lib.cut s [32]).1 (Lib.cut s [32]).2.1 (Lib.cut s [32]).2.2
theorem findI_step (u : List UInt8) (has : Bool) (j : Nat) (h : j < 7) : findI u has (7 - j) j = if hitI u has j = true then some j else findI u has (7 - (j + 1)) (j + 1) := by
  rw [show 7 - j = (7 - (j + 1)) + 1 by omega]; rfl
def instrV (r : (Int × Int) × Bool) : Value := .tuple #[.agg #[.int .i64 r.1.1, .int .i64 r.1.2], .bool r.2]
theorem res_instr {W : World} {b : Nat} {T : TypeId} {x y : Int} {ok : Bool} {tmps : Array Value} (h2 : tmps[2]?.getD undef = .pointer (some ⟨b, 0, none⟩)) (h4 : tmps[3]?.getD undef = .bool ok) (h : Blk W b #[.int .i64 x, .int .i64 y] T) :
    (results Tryd.f64 tmps).run Tryd.prog W = .ok (instrV ((x, y), ok)) W := by
  have c0 := h.cell 0 (.int .i64 x) rfl
  have c1 := h.cell 1 (.int .i64 y) rfl
  simp [results, Tryd.results64, h2, h4, c0, c1, go_sem, instrV]
set_option maxHeartbeats 4000000 in
set_option maxRecDepth 100000 in
theorem instr_calls (s : List UInt8) (w : World) (he : Env w) (hs : s.length ≤ 1048576) :
    Calls Tryd.prog 64 #[.string (bs s)] w fun e w' => e = .returned (instrV (instrF s)) ∧ Bw w w' := by
  have HE := Aside0.mk he
  obtain ⟨w0, hw0⟩ : ∃ w0, w0 = w.alloc (.cells #[.int .i64 0, .int .i64 0] 23) := ⟨_, rfl⟩
  have HB0 := Aside0.mk (show Bw w w0 by rw [hw0]; exact (Bw.refl w).alloc _)
  have HK0 := Aside0.mk (show Blk w0 w.heap.size #[.int .i64 0, .int .i64 0] 23 by rw [hw0]; exact Blk.new w _ _)
  have HE0 := Aside0.mk (he.bw HB0.out)
  obtain ⟨u, v, has, hd, hv⟩ := cut3 s [32]
  have HV := Aside0.mk (hv hs).2
  have HF := Aside0.mk (show instrF s = tailI u v has by unfold instrF; rw [hd])
  have HC2 := Aside0.mk (show ∀ W, Env W → Calls Tryd.prog 48 #[.string (bs s), .string (bs [32])] W fun e w' => e = .returned (.tuple #[strV u, strV v, .bool has]) ∧ Bw W w' from fun W hW => by have := Cut_calls s [32] W hW hs; rw [hd] at this; exact this)
  clear hd he hs hv
  go_enter Tryd.func64, Tryd.ntmps64
  go_wp2_with fail
  rw [← hw0]
  refine (HC2.out _ HE0.out).mono ?_
  rintro e w2 ⟨rfl, hb2⟩
  have HB := Aside0.mk hb2
  clear hb2
  go_wp2_with fail
  go_loopw [7] (fun kv wr => ∃ j : Nat, j ≤ 7 ∧ kv = .int .i64 j ∧ Aside0 (findI u has (7 - j) j = findI u has 7 0) ∧ Aside0 (Bw w0 wr)) (fun kv _ => 7 - (intOf kv).toNat)
  case atStart => exact ⟨0, by omega, rfl, ⟨rfl⟩, HB⟩
  case round =>
    obtain ⟨j, hj5, rfl, HN, HW⟩ := hrel
    by_cases hlt : j < 7
    · have hle : (j : Int) ≤ 6 := by omega
      have hw := Aside0.mk (fun W => instrWord_calls j hlt W)
      have ht := Aside0.mk (fun W => told_calls j hlt W)
      have HST := Aside0.mk (findI_step u has j hlt)
      obtain ⟨x, hx⟩ : ∃ x, x = inW j := ⟨_, rfl⟩
      obtain ⟨b, hb⟩ : ∃ b, b = toldB (j : Int) := ⟨_, rfl⟩
      rw [← hx] at hw
      rw [← hb] at ht
      cases hq : (x == u)
      · have HH := Aside0.mk (show hitI u has j = false by unfold hitI; rw [← hx, hq]; rfl)
        have HN2 := Aside0.mk (show findI u has (7 - (j + 1)) (j + 1) = findI u has 7 0 by rw [← HN.out, HST.out, HH.out]; rfl)
        clear hx hb
        go_wp2_with fail
        refine (hw.out _).mono ?_
        rintro e w3 ⟨rfl, hb3⟩
        have HW3 := Aside0.mk (HW.out.trans hb3)
        clear hb3
        obtain ⟨a0, a1, af, al⟩ := two_cells (HK0.out.bw HW3.out)
        go_wp2_with fail
        go_roundw
        case rel => exact ⟨j + 1, by omega, by go_num, HN2, HW3⟩
        case measure => simp [intOf]; omega
      · cases hq2 : (b == has)
        · have HH := Aside0.mk (show hitI u has j = false by unfold hitI; rw [← hx, ← hb, hq, hq2]; rfl)
          have HN2 := Aside0.mk (show findI u has (7 - (j + 1)) (j + 1) = findI u has 7 0 by rw [← HN.out, HST.out, HH.out]; rfl)
          clear hx hb
          go_wp2_with fail
          refine (hw.out _).mono ?_
          rintro e w3 ⟨rfl, hb3⟩
          have HW3 := Aside0.mk (HW.out.trans hb3)
          clear hb3
          go_wp2_with fail
          refine (ht.out _).mono ?_
          rintro e w4 ⟨rfl, hb4⟩
          have HW4 := Aside0.mk (HW3.out.trans hb4)
          clear hb4
          obtain ⟨a0, a1, af, al⟩ := two_cells (HK0.out.bw HW4.out)
          go_wp2_with fail
          go_roundw
          case rel => exact ⟨j + 1, by omega, by go_num, HN2, HW4⟩
          case measure => simp [intOf]; omega
        · have HH := Aside0.mk (show hitI u has j = true by unfold hitI; rw [← hx, ← hb, hq, hq2]; rfl)
          have HR := Aside0.mk (show instrF s = endI v has j by rw [HF.out]; unfold tailI; rw [← HN.out, HST.out, HH.out]; rfl)
          clear hx hb
          go_wp2_with fail
          refine (hw.out _).mono ?_
          rintro e w3 ⟨rfl, hb3⟩
          have HW3 := Aside0.mk (HW.out.trans hb3)
          clear hb3
          go_wp2_with fail
          refine (ht.out _).mono ?_
          rintro e w4 ⟨rfl, hb4⟩
          have HW4 := Aside0.mk (HW3.out.trans hb4)
          clear hb4
          obtain ⟨a0, a1, af, al⟩ := two_cells (HK0.out.bw HW4.out)
          cases has
          · have HR := Aside0.mk (show instrF s = (((j : Int), 0), true) from HR.out)
            clear hw ht HN HH HV HC2 HST
            go_wp2_with fail
            refine bodyPost_ret (res_instr rfl rfl ((((HK0.out.bw HW4.out).set 0 (.int .i64 (j : Int))).set 1 (.int .i64 0)).alloc _)) rfl ⟨?_, ?_⟩
            · rw [HR.out]
            · exact (((HB0.out.trans HW4.out).setCell (Nat.le_refl _) _).setCell (Nat.le_refl _) _).alloc _
          · cases hz : (numF v 1099511627776).2
            · have HR := Aside0.mk (show instrF s = ((0, 0), false) by rw [HR.out]; unfold endI; rw [if_pos rfl, hz]; rfl)
              have HN3 := Aside0.mk (show ∀ W, Env W → Calls Tryd.prog 78 #[.string (bs v), .int .i64 1099511627776] W fun e w' => e = .returned (.tuple #[.int .i64 (numF v 1099511627776).1, .bool false]) ∧ Bw W w' from fun W hW => by have := number_calls v 1099511627776 W hW HV.out (by decide); rw [hz] at this; exact this)
              clear hw ht HN HH HV HC2 hz HST
              go_wp2_with fail
              refine (HN3.out _ ((HE0.out.bw HW4.out).bw ((Bw.refl _).alloc _))).mono ?_
              rintro e w5 ⟨rfl, hb5⟩
              obtain ⟨d0, d1, df, dl⟩ := two_cells ((Blk.new w4 #[.int .i64 (j : Int), .int .i64 0] 23).bw hb5)
              obtain ⟨a0, a1, af, al⟩ := two_cells (((HK0.out.bw HW4.out).alloc (.cells #[.int .i64 (j : Int), .int .i64 0] 23)).bw hb5)
              have HW5 := Aside0.mk ((HW4.out.alloc _).trans hb5)
              clear hb5
              go_wp2_with fail
              refine bodyPost_ret (res_instr rfl rfl (((HK0.out.bw HW5.out).set 0 (.int .i64 0)).set 1 (.int .i64 0))) rfl ⟨?_, ?_⟩
              · rw [HR.out]
              · exact ((HB0.out.trans HW5.out).setCell (Nat.le_refl _) _).setCell (Nat.le_refl _) _
            · have HR := Aside0.mk (show instrF s = (((j : Int), (numF v 1099511627776).1), true) by rw [HR.out]; unfold endI; rw [if_pos rfl, hz]; rfl)
              obtain ⟨who, hwho⟩ : ∃ who, who = (numF v 1099511627776).1 := ⟨_, rfl⟩
              rw [← hwho] at HR
              have HN3 := Aside0.mk (show ∀ W, Env W → Calls Tryd.prog 78 #[.string (bs v), .int .i64 1099511627776] W fun e w' => e = .returned (.tuple #[.int .i64 who, .bool true]) ∧ Bw W w' from fun W hW => by have := number_calls v 1099511627776 W hW HV.out (by decide); rw [hz, ← hwho] at this; exact this)
              clear hw ht HN HH HV HC2 hz hwho HST
              go_wp2_with fail
              refine (HN3.out _ ((HE0.out.bw HW4.out).bw ((Bw.refl _).alloc _))).mono ?_
              rintro e w5 ⟨rfl, hb5⟩
              have HD5 := Aside0.mk ((Blk.new w4 #[.int .i64 (j : Int), .int .i64 0] 23).bw hb5)
              obtain ⟨d0, d1, df, dl⟩ := two_cells HD5.out
              obtain ⟨a0, a1, af, al⟩ := two_cells (((HK0.out.bw HW4.out).alloc (.cells #[.int .i64 (j : Int), .int .i64 0] 23)).bw hb5)
              have HW5 := Aside0.mk ((HW4.out.alloc _).trans hb5)
              have hne : w.heap.size ≠ w4.heap.size := by have := (HK0.out.bw HW4.out).lt; omega
              have hne' : w4.heap.size ≠ w.heap.size := Ne.symm hne
              clear hb5
              go_wp2_with fail
              refine bodyPost_ret (res_instr rfl rfl ((((HK0.out.bw HW5.out).other _ _ hne').set 0 (.int .i64 (j : Int))).set 1 (.int .i64 who))) rfl ⟨?_, ?_⟩
              · rw [HR.out]
              · exact (((HB0.out.trans HW5.out).setCell (Nat.le_of_lt (by have := (HK0.out.bw HW4.out).lt; exact this)) _).setCell (Nat.le_refl _) _).setCell (Nat.le_refl _) _
    · obtain rfl : j = 7 := by omega
      have HR := Aside0.mk (show instrF s = ((0, 0), false) by rw [HF.out]; unfold tailI; rw [← HN.out]; rfl)
      obtain ⟨a0, a1, af, al⟩ := two_cells (HK0.out.bw HW.out)
      go_wp2_with fail
      refine bodyPost_ret (res_instr rfl rfl (((HK0.out.bw HW.out).set 0 (.int .i64 0)).set 1 (.int .i64 0))) rfl ⟨?_, ?_⟩
      · rw [HR.out]
      · exact ((HB0.out.trans HW.out).setCell (Nat.le_refl _) _).setCell (Nat.le_refl _) _
/-- The word of a line; none: it has none. -/
def lineW (s : List UInt8) : Option Int :=
  if s = [110, 101, 120, 116] then some 7 else if (instrF s).2 = true ∧ wordE (instrF s).1.1 (instrF s).1.2 = 0 then some (wordW (instrF s).1.1 (instrF s).1.2) else none
def goodL (t : List UInt8) : Prop := (linesF t).2 = true ∧ (linesF t).1.length ≤ 4096
instance (t : List UInt8) : Decidable (goodL t) := by unfold goodL; exact inferInstance
/-- The words of lines, behind those that are read. -/
def wordsG (out : List Int) : List ByteArray → Option (List Int)
  | [] => some out
  | s :: r => match lineW s.data.toList with
    | some x => wordsG (out ++ [x]) r
    | none => none
/-- The words of a text of programs. -/
def wordsF (t : List UInt8) : Option (List Int) := if goodL t then wordsG [] (linesF t).1 else none
def WordsPost (base : Nat) (r : Option (List Int)) (e : Ending) (w' : World) : Prop :=
  match r with
  | some ws => ∃ v, e = .returned (.tuple #[v, .int .i64 0]) ∧ w'.ownsRow base 26 1 v ws.length (ws.flatMap fun x => [.int .u64 x])
  | none => e = .returned (.tuple #[.slice none 0 0, .int .i64 3])
theorem infoU64w : (Tryd.prog.info? 26).map (fun i => (i.zero, i.size, i.bytes)) = some (some (.int .u64 0), 1, 8) := by kernel_rfl
end Go.Proofs.YtogpjimmcckkcaaDoor.M
