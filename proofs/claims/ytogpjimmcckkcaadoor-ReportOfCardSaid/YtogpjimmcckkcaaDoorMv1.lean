/- Report: which events may be told; a letter and a number; an event's line. Condition: what the library's variables and the words' table hold. -/
import Derived.Test.YtogpjimmcckkcaaDoorMu5
import Derived.Test.YtogpjimmcckkcaaDoorMt7
namespace Go.Proofs.YtogpjimmcckkcaaDoor.M
open Go.RowKit Go.Proofs.YtogpjimmcckkcaaDoorW.PrintWords Go.Proofs.YtogpjimmcckkcaaDoorW.PrintLast Go.Proofs.YtogpjimmcckkcaaDoorW.PrintMore
set_option linter.unusedVariables false
set_option linter.unusedSimpArgs false
structure Rep where
  k : Int
  g : Int
  o : Int
  t : Int
  p : Int
deriving DecidableEq
def repV (e : Rep) : Value := .agg #[.int .i64 e.k, .int .i64 e.g, .int .i64 e.o, .int .i64 e.t, .int .i64 e.p]
abbrev encR : Rep → List Value := fun e => [.int .i64 e.k, .int .i64 e.g, .int .i64 e.o, .int .i64 e.t, .int .i64 e.p]
def belowB (n a b : Int) : Bool := decide (a ≤ n) && decide (n < b)
theorem below_calls (n a b : Int) (w : World) : Calls Tryd.prog 47 #[.int .i64 n, .int .i64 a, .int .i64 b] w fun e w' => e = .returned (.bool (belowB n a b)) ∧ Bw w w' := by
  have HB := Aside0.mk (Bw.refl w)
  have HD : Aside0 (belowB n a b = (decide (a ≤ n) && decide (n < b))) := ⟨rfl⟩
  by_cases h : a ≤ n
  · have d1 : decide (a ≤ n) = true := decide_eq_true h
    rw [d1] at HD
    clear h
    go_enter Tryd.func47, Tryd.ntmps47
    go_wp2_with fail
    go_ret
    exact ⟨ret_bool HD.out.symm, HB.out⟩
  · have d1 : decide (a ≤ n) = false := decide_eq_false h
    rw [d1] at HD
    clear h
    go_enter Tryd.func47, Tryd.ntmps47
    go_wp2_with fail
    go_ret
    exact ⟨ret_bool HD.out.symm, HB.out⟩
def rightR (e : Rep) : Bool := decide (1 ≤ e.k) && decide (e.k < 12) && (belowB e.g 0 65536 && belowB e.o (-1) 65536) && belowB e.t 0 256 && belowB e.p (-1) 64
theorem five_cells {W : World} {b : Nat} {T : TypeId} {a c d e f : Value} (h : Blk W b #[a, c, d, e, f] T) : W.cell? ⟨b, 0, none⟩ = some a ∧ W.cell? ⟨b, 1, none⟩ = some c ∧ W.cell? ⟨b, 2, none⟩ = some d ∧ W.cell? ⟨b, 3, none⟩ = some e ∧ W.cell? ⟨b, 4, none⟩ = some f ∧ b < W.heap.size :=
  ⟨h.cell 0 _ rfl, h.cell 1 _ rfl, h.cell 2 _ rfl, h.cell 3 _ rfl, h.cell 4 _ rfl, h.lt⟩
set_option maxHeartbeats 1000000 in
theorem repRight_calls (k g o t p : Int) (w : World) : Calls Tryd.prog 20 #[.agg #[.int .i64 k, .int .i64 g, .int .i64 o, .int .i64 t, .int .i64 p]] w fun e w' => e = .returned (.bool (rightR ⟨k, g, o, t, p⟩)) ∧ Bw w w' := by
  have HB := Aside0.mk ((Bw.refl w).alloc (.cells #[.int .i64 k, .int .i64 g, .int .i64 o, .int .i64 t, .int .i64 p] 34))
  have HD : Aside0 (rightR ⟨k, g, o, t, p⟩ = (decide (1 ≤ k) && decide (k < 12) && (belowB g 0 65536 && belowB o (-1) 65536) && belowB t 0 256 && belowB p (-1) 64)) := ⟨rfl⟩
  have H1 := Aside0.mk (fun W => below_calls g 0 65536 W)
  have H2 := Aside0.mk (fun W => below_calls o (-1) 65536 W)
  have H3 := Aside0.mk (fun W => below_calls t 0 256 W)
  have H4 := Aside0.mk (fun W => below_calls p (-1) 64 W)
  obtain ⟨b1, hb1⟩ : ∃ b, b = belowB g 0 65536 := ⟨_, rfl⟩
  obtain ⟨b2, hb2⟩ : ∃ b, b = belowB o (-1) 65536 := ⟨_, rfl⟩
  obtain ⟨b3, hb3⟩ : ∃ b, b = belowB t 0 256 := ⟨_, rfl⟩
  obtain ⟨b4, hb4⟩ : ∃ b, b = belowB p (-1) 64 := ⟨_, rfl⟩
  rw [← hb1, ← hb2, ← hb3, ← hb4] at HD
  rw [← hb1] at H1
  rw [← hb2] at H2
  rw [← hb3] at H3
  rw [← hb4] at H4
  clear hb1 hb2 hb3 hb4
  have HK := Aside0.mk (Blk.new w #[.int .i64 k, .int .i64 g, .int .i64 o, .int .i64 t, .int .i64 p] 34)
  by_cases h1 : 1 ≤ k
  · have x1 : decide (1 ≤ k) = true := decide_eq_true h1
    by_cases h2 : k < 12
    · have x2 : decide (k < 12) = true := decide_eq_true h2
      rw [x1, x2] at HD
      clear h1 h2
      cases b1
      · go_enter Tryd.func20, Tryd.ntmps20
        go_wp2_with fail
        refine (H1.out _).mono ?_
        rintro e w1 ⟨rfl, hb1⟩
        have HK := Aside0.mk (HK.out.bw hb1)
        have HB := Aside0.mk (HB.out.trans hb1)
        clear hb1
        obtain ⟨c0, c1, c2, c3, c4, cl⟩ := five_cells HK.out
        go_wp2_with fail
        go_ret
        exact ⟨ret_bool HD.out.symm, HB.out⟩
      · cases b2
        · go_enter Tryd.func20, Tryd.ntmps20
          go_wp2_with fail
          refine (H1.out _).mono ?_
          rintro e w1 ⟨rfl, hb1⟩
          have HK := Aside0.mk (HK.out.bw hb1)
          have HB := Aside0.mk (HB.out.trans hb1)
          clear hb1
          obtain ⟨c0, c1, c2, c3, c4, cl⟩ := five_cells HK.out
          go_wp2_with fail
          refine (H2.out _).mono ?_
          rintro e w2 ⟨rfl, hb2⟩
          have HK := Aside0.mk (HK.out.bw hb2)
          have HB := Aside0.mk (HB.out.trans hb2)
          clear hb2
          obtain ⟨c0, c1, c2, c3, c4, cl⟩ := five_cells HK.out
          go_wp2_with fail
          go_ret
          exact ⟨ret_bool HD.out.symm, HB.out⟩
        · cases b3
          · go_enter Tryd.func20, Tryd.ntmps20
            go_wp2_with fail
            refine (H1.out _).mono ?_
            rintro e w1 ⟨rfl, hb1⟩
            have HK := Aside0.mk (HK.out.bw hb1)
            have HB := Aside0.mk (HB.out.trans hb1)
            clear hb1
            obtain ⟨c0, c1, c2, c3, c4, cl⟩ := five_cells HK.out
            go_wp2_with fail
            refine (H2.out _).mono ?_
            rintro e w2 ⟨rfl, hb2⟩
            have HK := Aside0.mk (HK.out.bw hb2)
            have HB := Aside0.mk (HB.out.trans hb2)
            clear hb2
            obtain ⟨c0, c1, c2, c3, c4, cl⟩ := five_cells HK.out
            go_wp2_with fail
            refine (H3.out _).mono ?_
            rintro e w3 ⟨rfl, hb3⟩
            have HK := Aside0.mk (HK.out.bw hb3)
            have HB := Aside0.mk (HB.out.trans hb3)
            clear hb3
            obtain ⟨c0, c1, c2, c3, c4, cl⟩ := five_cells HK.out
            go_wp2_with fail
            go_ret
            exact ⟨ret_bool HD.out.symm, HB.out⟩
          · cases b4
            · go_enter Tryd.func20, Tryd.ntmps20
              go_wp2_with fail
              refine (H1.out _).mono ?_
              rintro e w1 ⟨rfl, hb1⟩
              have HK := Aside0.mk (HK.out.bw hb1)
              have HB := Aside0.mk (HB.out.trans hb1)
              clear hb1
              obtain ⟨c0, c1, c2, c3, c4, cl⟩ := five_cells HK.out
              go_wp2_with fail
              refine (H2.out _).mono ?_
              rintro e w2 ⟨rfl, hb2⟩
              have HK := Aside0.mk (HK.out.bw hb2)
              have HB := Aside0.mk (HB.out.trans hb2)
              clear hb2
              obtain ⟨c0, c1, c2, c3, c4, cl⟩ := five_cells HK.out
              go_wp2_with fail
              refine (H3.out _).mono ?_
              rintro e w3 ⟨rfl, hb3⟩
              have HK := Aside0.mk (HK.out.bw hb3)
              have HB := Aside0.mk (HB.out.trans hb3)
              clear hb3
              obtain ⟨c0, c1, c2, c3, c4, cl⟩ := five_cells HK.out
              go_wp2_with fail
              refine (H4.out _).mono ?_
              rintro e w4 ⟨rfl, hb4⟩
              have HK := Aside0.mk (HK.out.bw hb4)
              have HB := Aside0.mk (HB.out.trans hb4)
              clear hb4
              obtain ⟨c0, c1, c2, c3, c4, cl⟩ := five_cells HK.out
              go_wp2_with fail
              go_ret
              exact ⟨ret_bool HD.out.symm, HB.out⟩
            · go_enter Tryd.func20, Tryd.ntmps20
              go_wp2_with fail
              refine (H1.out _).mono ?_
              rintro e w1 ⟨rfl, hb1⟩
              have HK := Aside0.mk (HK.out.bw hb1)
              have HB := Aside0.mk (HB.out.trans hb1)
              clear hb1
              obtain ⟨c0, c1, c2, c3, c4, cl⟩ := five_cells HK.out
              go_wp2_with fail
              refine (H2.out _).mono ?_
              rintro e w2 ⟨rfl, hb2⟩
              have HK := Aside0.mk (HK.out.bw hb2)
              have HB := Aside0.mk (HB.out.trans hb2)
              clear hb2
              obtain ⟨c0, c1, c2, c3, c4, cl⟩ := five_cells HK.out
              go_wp2_with fail
              refine (H3.out _).mono ?_
              rintro e w3 ⟨rfl, hb3⟩
              have HK := Aside0.mk (HK.out.bw hb3)
              have HB := Aside0.mk (HB.out.trans hb3)
              clear hb3
              obtain ⟨c0, c1, c2, c3, c4, cl⟩ := five_cells HK.out
              go_wp2_with fail
              refine (H4.out _).mono ?_
              rintro e w4 ⟨rfl, hb4⟩
              have HK := Aside0.mk (HK.out.bw hb4)
              have HB := Aside0.mk (HB.out.trans hb4)
              clear hb4
              obtain ⟨c0, c1, c2, c3, c4, cl⟩ := five_cells HK.out
              go_wp2_with fail
              go_ret
              exact ⟨ret_bool HD.out.symm, HB.out⟩
    · have x2 : decide (k < 12) = false := decide_eq_false h2
      rw [x1, x2] at HD
      clear h1 h2
      cases b1
      · go_enter Tryd.func20, Tryd.ntmps20
        go_wp2_with fail
        refine (H1.out _).mono ?_
        rintro e w1 ⟨rfl, hb1⟩
        have HK := Aside0.mk (HK.out.bw hb1)
        have HB := Aside0.mk (HB.out.trans hb1)
        clear hb1
        obtain ⟨c0, c1, c2, c3, c4, cl⟩ := five_cells HK.out
        go_wp2_with fail
        go_ret
        exact ⟨ret_bool HD.out.symm, HB.out⟩
      · cases b2
        · go_enter Tryd.func20, Tryd.ntmps20
          go_wp2_with fail
          refine (H1.out _).mono ?_
          rintro e w1 ⟨rfl, hb1⟩
          have HK := Aside0.mk (HK.out.bw hb1)
          have HB := Aside0.mk (HB.out.trans hb1)
          clear hb1
          obtain ⟨c0, c1, c2, c3, c4, cl⟩ := five_cells HK.out
          go_wp2_with fail
          refine (H2.out _).mono ?_
          rintro e w2 ⟨rfl, hb2⟩
          have HK := Aside0.mk (HK.out.bw hb2)
          have HB := Aside0.mk (HB.out.trans hb2)
          clear hb2
          obtain ⟨c0, c1, c2, c3, c4, cl⟩ := five_cells HK.out
          go_wp2_with fail
          go_ret
          exact ⟨ret_bool HD.out.symm, HB.out⟩
        · go_enter Tryd.func20, Tryd.ntmps20
          go_wp2_with fail
          refine (H1.out _).mono ?_
          rintro e w1 ⟨rfl, hb1⟩
          have HK := Aside0.mk (HK.out.bw hb1)
          have HB := Aside0.mk (HB.out.trans hb1)
          clear hb1
          obtain ⟨c0, c1, c2, c3, c4, cl⟩ := five_cells HK.out
          go_wp2_with fail
          refine (H2.out _).mono ?_
          rintro e w2 ⟨rfl, hb2⟩
          have HK := Aside0.mk (HK.out.bw hb2)
          have HB := Aside0.mk (HB.out.trans hb2)
          clear hb2
          obtain ⟨c0, c1, c2, c3, c4, cl⟩ := five_cells HK.out
          go_wp2_with fail
          go_ret
          exact ⟨ret_bool HD.out.symm, HB.out⟩
  · have x1 : decide (1 ≤ k) = false := decide_eq_false h1
    rw [x1] at HD
    clear h1
    cases b1
    · go_enter Tryd.func20, Tryd.ntmps20
      go_wp2_with fail
      refine (H1.out _).mono ?_
      rintro e w1 ⟨rfl, hb1⟩
      have HK := Aside0.mk (HK.out.bw hb1)
      have HB := Aside0.mk (HB.out.trans hb1)
      clear hb1
      obtain ⟨c0, c1, c2, c3, c4, cl⟩ := five_cells HK.out
      go_wp2_with fail
      go_ret
      exact ⟨ret_bool HD.out.symm, HB.out⟩
    · cases b2
      · go_enter Tryd.func20, Tryd.ntmps20
        go_wp2_with fail
        refine (H1.out _).mono ?_
        rintro e w1 ⟨rfl, hb1⟩
        have HK := Aside0.mk (HK.out.bw hb1)
        have HB := Aside0.mk (HB.out.trans hb1)
        clear hb1
        obtain ⟨c0, c1, c2, c3, c4, cl⟩ := five_cells HK.out
        go_wp2_with fail
        refine (H2.out _).mono ?_
        rintro e w2 ⟨rfl, hb2⟩
        have HK := Aside0.mk (HK.out.bw hb2)
        have HB := Aside0.mk (HB.out.trans hb2)
        clear hb2
        obtain ⟨c0, c1, c2, c3, c4, cl⟩ := five_cells HK.out
        go_wp2_with fail
        go_ret
        exact ⟨ret_bool HD.out.symm, HB.out⟩
      · go_enter Tryd.func20, Tryd.ntmps20
        go_wp2_with fail
        refine (H1.out _).mono ?_
        rintro e w1 ⟨rfl, hb1⟩
        have HK := Aside0.mk (HK.out.bw hb1)
        have HB := Aside0.mk (HB.out.trans hb1)
        clear hb1
        obtain ⟨c0, c1, c2, c3, c4, cl⟩ := five_cells HK.out
        go_wp2_with fail
        refine (H2.out _).mono ?_
        rintro e w2 ⟨rfl, hb2⟩
        have HK := Aside0.mk (HK.out.bw hb2)
        have HB := Aside0.mk (HB.out.trans hb2)
        clear hb2
        obtain ⟨c0, c1, c2, c3, c4, cl⟩ := five_cells HK.out
        go_wp2_with fail
        go_ret
        exact ⟨ret_bool HD.out.symm, HB.out⟩
/-- The words of the events' kinds. -/
def evW (k : Nat) : List UInt8 := match k with
  | 1 => [115, 116, 97, 114, 116] | 2 => [115, 112, 97, 119, 110] | 3 => [114, 101, 102, 117, 115, 101, 100] | 4 => [121, 105, 101, 108, 100] | 5 => [112, 114, 101, 101, 109, 112, 116]
  | 6 => [112, 97, 114, 107] | 7 => [114, 101, 97, 100, 121] | 8 => [101, 110, 116, 101, 114] | 9 => [114, 101, 116, 117, 114, 110] | 10 => [113, 117, 101, 117, 101] | 11 => [101, 120, 105, 116] | _ => []
/-- What the library's variables and the table of the words hold. -/
structure EnvR (W : World) : Prop where
  env : Env W
  kinds : ∀ k, k < 12 → W.cell? ⟨0, k, none⟩ = some (strV (evW k))
theorem EnvR.bw {w w1 : World} (h : EnvR w) (hb : Bw w w1) : EnvR w1 := ⟨h.env.bw hb, fun k hk => hb.kept (h.kinds k hk)⟩
/-- A letter and a number. -/
def namedL (c : UInt8) (n : Int) : List UInt8 := if n = -1 then [] else 32 :: c :: Lib.decDigits n.toNat
theorem named_calls (c : UInt8) (n : Int) (w : World) (ht : Tab w) (h0 : -1 ≤ n) (h1 : n < 65536) : Calls Tryd.prog 46 #[strV [c], .int .i64 n] w fun e w' => e = .returned (strV (namedL c n)) ∧ Bw w w' := by
  have HB := Aside0.mk (Bw.refl w)
  have HT := Aside0.mk ht
  by_cases hn : n = -1
  · subst hn
    clear ht
    go_enter Tryd.func46, Tryd.ntmps46
    go_wp2_with fail
    go_ret
    exact ⟨rfl, HB.out⟩
  · have d1 : (n == -1) = false := by simpa using hn
    obtain ⟨m, rfl⟩ := Int.eq_ofNat_of_zero_le (show 0 ≤ n by omega)
    have HI := Aside0.mk (fun W hW => Itoa_calls m (by omega) W hW)
    obtain ⟨d, hd⟩ : ∃ d, d = Lib.decDigits m := ⟨_, rfl⟩
    have HL : Aside0 (namedL c (m : Int) = 32 :: c :: d) := ⟨by unfold namedL; rw [if_neg hn, hd]; rfl⟩
    have ld : d.length ≤ 65537 := by rw [hd]; have := dec_len m; omega
    rw [← hd] at HI
    have z1 : ¬ (9223372036854775807 < 2 + d.length) := by omega
    clear hn hd h0 h1 ht
    go_enter Tryd.func46, Tryd.ntmps46
    go_wp2_with fail
    refine (HI.out _ HT.out).mono ?_
    rintro e w1 ⟨rfl, hb1⟩
    go_wp2_with fail
    go_ret
    rw [HL.out]
    refine ⟨?_, hb1⟩
    apply congrArg (fun x => Ending.returned (Value.string x))
    simp only [str_two]
    simp
end Go.Proofs.YtogpjimmcckkcaaDoor.M
