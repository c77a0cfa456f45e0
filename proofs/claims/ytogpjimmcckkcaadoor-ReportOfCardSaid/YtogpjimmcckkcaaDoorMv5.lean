/- Report: Read: the events of a text. Conditions: texts of no more than 2^20 bytes. -/
import Derived.Test.YtogpjimmcckkcaaDoorMv4
namespace Go.Proofs.YtogpjimmcckkcaaDoor.M
open Go.RowKit Go.Proofs.YtogpjimmcckkcaaDoorW.PrintWords Go.Proofs.YtogpjimmcckkcaaDoorW.PrintLast Go.Proofs.YtogpjimmcckkcaaDoorW.PrintMore
set_option linter.unusedVariables false
set_option linter.unusedSimpArgs false
theorem infoRp : (Tryd.prog.info? 34).map (fun i => (i.zero, i.size, i.bytes)) = some (some (.agg #[.int .i64 0, .int .i64 0, .int .i64 0, .int .i64 0, .int .i64 0]), 5, 40) := by kernel_rfl
/-- The events of what is left of a text, behind those that are read. -/
def readRG : Nat → List Rep → List UInt8 → Option (List Rep)
  | 0, out, rest => if rest = [] then some out else none
  | n + 1, out, rest => if rest = [] then some out else
      if (Lib.cut rest [10]).2.2 = true ∧ rightR (oneR (Lib.cut rest [10]).1) = true ∧ lineR (oneR (Lib.cut rest [10]).1) = (Lib.cut rest [10]).1 ++ [10] ∧ out.length ≠ 65536 then readRG n (out ++ [oneR (Lib.cut rest [10]).1]) (Lib.cut rest [10]).2.1 else none
def readR (t : List UInt8) : Option (List Rep) := readRG (t.length + 1) [] t
theorem readRG_nil (n : Nat) (out : List Rep) : readRG n out [] = some out := by cases n <;> simp [readRG]
theorem cut_lt {s : List UInt8} (hs : s ≠ []) (h : (Lib.cut s [10]).2.2 = true) : (Lib.cut s [10]).2.1.length < s.length := by
  have := List.length_pos_iff.2 hs
  unfold Lib.cut at h ⊢
  split
  · simp; omega
  · rename_i hq; rw [if_neg hq] at h; cases h
theorem app10 (a : List UInt8) : (ByteArray.mk a.toArray ++ ByteArray.mk #[10]).toList = a ++ [10] := by
  rw [show (#[10] : Array UInt8) = [10].toArray from rfl, str_two, ByteArray.toList_eq]
def strLen (v : Value) : Nat := match v with | .string b => b.size | _ => 0
def RepPost (base : Nat) (r : Option (List Rep)) (e : Ending) (w' : World) : Prop :=
  match r with
  | none => e = .returned (.tuple #[.slice none 0 0, .int .i64 3])
  | some out => ∃ v, e = .returned (.tuple #[v, .int .i64 0]) ∧ w'.ownsRow base 34 5 v out.length (out.flatMap encR) ∧ out.length ≤ 65536
set_option maxHeartbeats 4000000 in
set_option maxRecDepth 100000 in
theorem repRead_calls (t : List UInt8) (w : World) (he : EnvR w) (hs : t.length ≤ 1048576) :
    Calls Tryd.prog 21 #[.string (bs t)] w fun e w' => RepPost w.heap.size (readR t) e w' ∧ Bw w w' := by
  have HE := Aside0.mk he
  have d0 : decide ((4194304 : Int) < (t.length : Int)) = false := decide_eq_false (by omega)
  have HQ : Aside0 (readR t = readRG (t.length + 1) [] t) := ⟨rfl⟩
  have HS := Aside0.mk hs
  have HB0 := Aside0.mk (Bw.refl w)
  clear he hs
  go_enter Tryd.func21, Tryd.ntmps21
  go_wp2_with fail
  go_loopw [4, 5] (fun ov rv wr => ∃ (n : Nat) (rest : List UInt8) (A1 : Option Addr) (c1 : Nat) (out : List Rep), rest.length < n ∧ rest.length ≤ t.length ∧ rv = .string (bs rest) ∧ ov = .slice A1 out.length c1 ∧ out.length ≤ 65536 ∧ Aside0 (wr.ownsRow w.heap.size 34 5 (.slice A1 out.length c1) out.length (out.flatMap encR)) ∧ Aside0 (readR t = readRG n out rest) ∧ Aside0 (Bw w wr)) (fun _ rv _ => strLen rv)
  case atStart => exact ⟨t.length + 1, t, none, 0, [], by omega, by omega, rfl, rfl, by simp, ⟨own_nil _ _ _ _⟩, HQ, HB0⟩
  case round =>
    obtain ⟨n, rest, A1, c1, out, hn, hrt, rfl, rfl, ho, HO, HR, HW⟩ := hrel
    by_cases hr : rest = []
    · subst hr
      have HN := Aside0.mk (show readR t = some out by rw [HR.out, readRG_nil])
      go_wp2_with fail
      go_ret2
      refine ⟨?_, HW.out⟩
      rw [HN.out]
      exact ⟨_, rfl, HO.out, ho⟩
    · have dr : (rest == []) = false := by simpa using hr
      obtain ⟨a, b, is, hc, hcl⟩ := cut3 rest [10]
      obtain ⟨m, rfl⟩ : ∃ m, n = m + 1 := ⟨n - 1, by omega⟩
      have hab : a.length ≤ 1048576 ∧ b.length ≤ 1048576 := hcl (by have := HS.out; omega)
      have hlt : is = true → b.length < rest.length := by have := cut_lt hr; rw [hc] at this; exact this
      have HCT := Aside0.mk (show ∀ W, EnvR W → Calls Tryd.prog 48 #[.string (bs rest), .string (bs [10])] W fun e w' => e = .returned (.tuple #[strV a, strV b, .bool is]) ∧ Bw W w' from fun W hW => by have := Cut_calls rest [10] W hW.env (by have := HS.out; omega); rw [hc] at this; exact this)
      have HON := Aside0.mk (fun W (hW : EnvR W) => repOne_calls a W hW hab.1)
      have hRG : readR t = if is = true ∧ rightR (oneR a) = true ∧ lineR (oneR a) = a ++ [10] ∧ out.length ≠ 65536 then readRG m (out ++ [oneR a]) b else none := by
        rw [HR.out, readRG, if_neg hr, hc]
      obtain ⟨⟨k, g, o, q, p⟩, hone⟩ : ∃ e, e = oneR a := ⟨_, rfl⟩
      rw [← hone] at hRG HON
      have HON := Aside0.mk (show ∀ W, EnvR W → Calls Tryd.prog 49 #[.string (bs a)] W fun e w' => e = .returned (.agg #[.int .i64 k, .int .i64 g, .int .i64 o, .int .i64 q, .int .i64 p]) ∧ Bw W w' from HON.out)
      have HLN := Aside0.mk (fun W (hW : EnvR W) => repLine_calls k g o q p W hW)
      obtain ⟨ri, hri⟩ : ∃ b, b = rightR ⟨k, g, o, q, p⟩ := ⟨_, rfl⟩
      obtain ⟨ln, hln⟩ : ∃ b, b = lineR ⟨k, g, o, q, p⟩ := ⟨_, rfl⟩
      rw [← hri, ← hln] at HLN hRG
      have z1 : ¬ (9223372036854775807 < a.length + 1) := by omega
      have HA := Aside0.mk hab
      clear hc hcl hone hri hln hab hr
      cases is
      · rw [if_neg (by rintro ⟨h, _⟩; cases h)] at hRG
        have HN := Aside0.mk hRG
        clear hRG hlt
        obtain ⟨lx, hlx⟩ : ∃ lx, lx = (if ri = true then ln else []) := ⟨_, rfl⟩
        rw [← hlx] at HLN
        clear hlx
        go_wp2_with fail
        refine (HCT.out _ (HE.out.bw HW.out)).mono ?_
        rintro e w2 ⟨rfl, hb2⟩
        have HW2 := Aside0.mk (HW.out.trans hb2)
        have HO2 := Aside0.mk (pw_own_below HO.out hb2)
        clear hb2
        go_wp2_with fail
        refine (HON.out _ (HE.out.bw HW2.out)).mono ?_
        rintro e w3 ⟨rfl, hb3⟩
        have HW3 := Aside0.mk (HW2.out.trans hb3)
        have HO3 := Aside0.mk (pw_own_below HO2.out hb3)
        clear hb3
        go_wp2_with fail
        refine (HLN.out _ (HE.out.bw (HW3.out.alloc _))).mono ?_
        rintro e w4 ⟨rfl, hb4⟩
        have HK4 := Aside0.mk ((Blk.new w3 _ _).bw hb4)
        have HW4 := Aside0.mk ((HW3.out.alloc _).trans hb4)
        have HO4 := Aside0.mk (pw_own_below (HO3.out.alloc _) hb4)
        clear hb4
        go_wp2_with fail
        go_ret2
        refine ⟨?_, HW4.out⟩
        rw [HN.out]
        rfl
      · have hbl := hlt rfl
        clear hlt
        cases ri
        · rw [if_neg (by rintro ⟨_, h, _⟩; cases h)] at hRG
          have HN := Aside0.mk hRG
          clear hRG
          go_wp2_with fail
          refine (HCT.out _ (HE.out.bw HW.out)).mono ?_
          rintro e w2 ⟨rfl, hb2⟩
          have HW2 := Aside0.mk (HW.out.trans hb2)
          have HO2 := Aside0.mk (pw_own_below HO.out hb2)
          clear hb2
          go_wp2_with fail
          refine (HON.out _ (HE.out.bw HW2.out)).mono ?_
          rintro e w3 ⟨rfl, hb3⟩
          have HW3 := Aside0.mk (HW2.out.trans hb3)
          have HO3 := Aside0.mk (pw_own_below HO2.out hb3)
          clear hb3
          go_wp2_with fail
          refine (HLN.out _ (HE.out.bw (HW3.out.alloc _))).mono ?_
          rintro e w4 ⟨rfl, hb4⟩
          have HK4 := Aside0.mk ((Blk.new w3 _ _).bw hb4)
          have HW4 := Aside0.mk ((HW3.out.alloc _).trans hb4)
          have HO4 := Aside0.mk (pw_own_below (HO3.out.alloc _) hb4)
          clear hb4
          go_wp2_with fail
          go_ret2
          refine ⟨?_, HW4.out⟩
          rw [HN.out]
          rfl
        · rw [if_pos rfl] at HLN
          by_cases hq : ln = a ++ [10]
          · have dq : (ln == (ByteArray.mk a.toArray ++ ByteArray.mk #[10]).toList) = true := by rw [app10]; simpa using hq
            by_cases h6 : out.length = 65536
            · rw [if_neg (by rintro ⟨_, _, _, h⟩; exact h h6)] at hRG
              have HN := Aside0.mk hRG
              have d6 : ((out.length : Int) == 65536) = true := by simp; omega
              clear hRG hq
              go_wp2_with fail
              refine (HCT.out _ (HE.out.bw HW.out)).mono ?_
              rintro e w2 ⟨rfl, hb2⟩
              have HW2 := Aside0.mk (HW.out.trans hb2)
              have HO2 := Aside0.mk (pw_own_below HO.out hb2)
              clear hb2
              go_wp2_with fail
              refine (HON.out _ (HE.out.bw HW2.out)).mono ?_
              rintro e w3 ⟨rfl, hb3⟩
              have HW3 := Aside0.mk (HW2.out.trans hb3)
              have HO3 := Aside0.mk (pw_own_below HO2.out hb3)
              clear hb3
              go_wp2_with fail
              refine (HLN.out _ (HE.out.bw (HW3.out.alloc _))).mono ?_
              rintro e w4 ⟨rfl, hb4⟩
              have HK4 := Aside0.mk ((Blk.new w3 _ _).bw hb4)
              have HW4 := Aside0.mk ((HW3.out.alloc _).trans hb4)
              have HO4 := Aside0.mk (pw_own_below (HO3.out.alloc _) hb4)
              clear hb4
              go_wp2_with fail
              go_ret2
              refine ⟨?_, HW4.out⟩
              rw [HN.out]
              rfl
            · rw [if_pos ⟨rfl, rfl, hq, h6⟩] at hRG
              have HN := Aside0.mk hRG
              have d6 : ((out.length : Int) == 65536) = false := by simp; omega
              clear hRG hq
              go_wp2_with fail
              refine (HCT.out _ (HE.out.bw HW.out)).mono ?_
              rintro e w2 ⟨rfl, hb2⟩
              have HW2 := Aside0.mk (HW.out.trans hb2)
              have HO2 := Aside0.mk (pw_own_below HO.out hb2)
              clear hb2
              go_wp2_with fail
              refine (HON.out _ (HE.out.bw HW2.out)).mono ?_
              rintro e w3 ⟨rfl, hb3⟩
              have HW3 := Aside0.mk (HW2.out.trans hb3)
              have HO3 := Aside0.mk (pw_own_below HO2.out hb3)
              clear hb3
              go_wp2_with fail
              refine (HLN.out _ (HE.out.bw (HW3.out.alloc _))).mono ?_
              rintro e w4 ⟨rfl, hb4⟩
              have HK4 := Aside0.mk ((Blk.new w3 _ _).bw hb4)
              have HW4 := Aside0.mk ((HW3.out.alloc _).trans hb4)
              have HO4 := Aside0.mk (pw_own_below (HO3.out.alloc _) hb4)
              clear hb4
              obtain ⟨e0, e1, e2, e3, e4, el⟩ := five_cells HK4.out
              go_wp2_with (at_builtin; go_loud (refine print_append_cells (w0 := w) w.heap.size rfl (.tmp 48) (.tmp 50) 37 34 (.agg #[.int .i64 0, .int .i64 0, .int .i64 0, .int .i64 0, .int .i64 0]) 5 40 rfl Tryd.underlying37 infoRp rfl (by omega) (by omega) (.slice A1 out.length c1) out.length _ [.int .i64 k, .int .i64 g, .int .i64 o, .int .i64 q, .int .i64 p] rfl rfl rfl (by simp [Value.oneCell']) HO4.out HW4.out HW4.out.size (by omega) ?_); intro v1 w5 hown5 hbel5 hg5 hat5)
              go_roundw
              case rel =>
                obtain ⟨g3, cap3, rfl, _, _⟩ := hown5.form (by omega)
                refine ⟨m, b, some ⟨g3, 0, none⟩, cap3, out ++ [⟨k, g, o, q, p⟩], by omega, by omega, rfl, by rw [List.length_append]; rfl, by rw [List.length_append]; simp; omega, ⟨?_⟩, HN, ⟨hbel5⟩⟩
                rw [List.length_append, List.flatMap_append]
                exact hown5
              case measure => simp [strLen, bs_size]; omega
          · rw [if_neg (by rintro ⟨_, _, h, _⟩; exact hq h)] at hRG
            have dq : (ln == (ByteArray.mk a.toArray ++ ByteArray.mk #[10]).toList) = false := by rw [app10]; simpa using hq
            have HN := Aside0.mk hRG
            clear hRG hq
            go_wp2_with fail
            refine (HCT.out _ (HE.out.bw HW.out)).mono ?_
            rintro e w2 ⟨rfl, hb2⟩
            have HW2 := Aside0.mk (HW.out.trans hb2)
            have HO2 := Aside0.mk (pw_own_below HO.out hb2)
            clear hb2
            go_wp2_with fail
            refine (HON.out _ (HE.out.bw HW2.out)).mono ?_
            rintro e w3 ⟨rfl, hb3⟩
            have HW3 := Aside0.mk (HW2.out.trans hb3)
            have HO3 := Aside0.mk (pw_own_below HO2.out hb3)
            clear hb3
            go_wp2_with fail
            refine (HLN.out _ (HE.out.bw (HW3.out.alloc _))).mono ?_
            rintro e w4 ⟨rfl, hb4⟩
            have HK4 := Aside0.mk ((Blk.new w3 _ _).bw hb4)
            have HW4 := Aside0.mk ((HW3.out.alloc _).trans hb4)
            have HO4 := Aside0.mk (pw_own_below (HO3.out.alloc _) hb4)
            clear hb4
            go_wp2_with fail
            go_ret2
            refine ⟨?_, HW4.out⟩
            rw [HN.out]
            rfl
end Go.Proofs.YtogpjimmcckkcaaDoor.M
