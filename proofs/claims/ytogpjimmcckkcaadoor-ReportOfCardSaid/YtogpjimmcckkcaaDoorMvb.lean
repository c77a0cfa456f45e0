/- Report: Write: the text of events. Condition: no more than 65536 events. -/
import Derived.Test.YtogpjimmcckkcaaDoorMv8
namespace Go.Proofs.YtogpjimmcckkcaaDoor.M
open Go.RowKit Go.Proofs.YtogpjimmcckkcaaDoorW.PrintWords Go.Proofs.YtogpjimmcckkcaaDoorW.PrintLast Go.Proofs.YtogpjimmcckkcaaDoorW.PrintMore
set_option linter.unusedVariables false
set_option linter.unusedSimpArgs false
theorem lineR_len (e : Rep) (hr : rightR e = true) : (lineR e).length ≤ 200000 := by
  obtain ⟨⟨hk0, hk1⟩, ⟨hg0, hg1⟩, ⟨ho0, ho1⟩, ⟨ht0, ht1⟩, ⟨hp0, hp1⟩⟩ := rightR_range hr
  unfold lineR
  have h0 := evW_len e.k.toNat
  have nl : ∀ (c : UInt8) (n : Int) (m : Nat), n < m → (namedL c n).length ≤ m + 5 := fun c n m h => by
    unfold namedL
    split
    · simp
    · have := dec_len n.toNat
      simp only [List.length_cons]
      omega
  have h1 := nl 103 e.g 65536 (by omega)
  have h2 := nl 103 e.o 65536 (by omega)
  have h3 := nl 116 e.t 256 (by omega)
  have h4 := nl 112 e.p 64 (by omega)
  simp only [List.length_append, List.length_singleton]
  omega
/-- The text of events; why there is none. -/
def writeR (l : List Rep) : List UInt8 × Int := if l.all rightR = true then (l.flatMap lineR, 0) else ([], 1)
set_option maxHeartbeats 4000000 in
set_option maxRecDepth 100000 in
theorem repWrite_calls (A : Option Addr) (cap : Nat) (l : List Rep) (w : World) (he : EnvR w) (hx : Rows encR 5 w A l) (hl : l.length ≤ 65536) :
    Calls Tryd.prog 28 #[.slice A l.length cap] w fun e w' => e = .returned (.tuple #[strV (writeR l).1, .int .i64 (writeR l).2]) ∧ Bw w w' := by
  have HE := Aside0.mk he
  have HX := Aside0.mk hx
  have HB := Aside0.mk (Bw.refl w)
  have d0 : decide ((65536 : Int) < (l.length : Int)) = false := decide_eq_false (by omega)
  have HLE := Aside0.mk hl
  have h62 : l.length ≤ 100000 := by omega
  clear he hx hl
  go_enter Tryd.func28, Tryd.ntmps28
  go_wp2_with fail
  go_loopw [14] (fun iv wr => ∃ (i : Nat) (p v : Value) (out : List UInt8), i ≤ l.length ∧ iv = .int .i64 i ∧ out.length ≤ i * 200000 ∧ Aside0 (IsBld wr w.heap.size w.heap.size p v out) ∧ Aside0 (out = (l.take i).flatMap lineR) ∧ Aside0 ((l.take i).all rightR = true) ∧ Aside0 (Bw w wr)) (fun iv _ => l.length - (intOf iv).toNat)
  case atStart => exact ⟨0, _, _, [], by omega, rfl, by simp, ⟨IsBld.new w⟩, ⟨rfl⟩, ⟨rfl⟩, ⟨HB.out.alloc _⟩⟩
  case round =>
    obtain ⟨i, p, v, out, hi, rfl, ho, HD, HO, HR, HW⟩ := hrel
    by_cases hlt : i < l.length
    · obtain ⟨⟨k, g, o, t, q⟩, he⟩ : ∃ e, l[i]? = some e := ⟨_, List.getElem?_eq_getElem hlt⟩
      obtain ⟨ad, hA, h0, hi1⟩ := (HX.out.bw HW.out).atS i _ he
      subst hA
      have s0 := h0 _ rfl
      have s1 := hi1 1 _ (by decide) rfl
      have s2 := hi1 2 _ (by decide) rfl
      have s3 := hi1 3 _ (by decide) rfl
      have s4 := hi1 4 _ (by decide) rfl
      have HEI := Aside0.mk he
      have HDA := Aside0.mk (HD.out.bw ((Bw.refl wr).alloc (.cells #[.int .i64 k, .int .i64 g, .int .i64 o, .int .i64 t, .int .i64 q] 34)))
      have HWA := Aside0.mk (HW.out.alloc (.cells #[.int .i64 k, .int .i64 g, .int .i64 o, .int .i64 t, .int .i64 q] 34))
      have HLN := Aside0.mk (fun W (hW : EnvR W) => repLine_calls k g o t q W hW)
      cases hre : rightR ⟨k, g, o, t, q⟩
      · rw [hre] at HLN
        have HNO := Aside0.mk (show writeR l = ([], 1) by
          unfold writeR
          rw [if_neg ?_]
          intro hq
          have := List.all_eq_true.1 hq ⟨k, g, o, t, q⟩ (List.mem_of_getElem? HEI.out)
          rw [hre] at this
          cases this)
        clear hre he h0 hi1
        go_wp2_with fail
        refine (HLN.out _ (HE.out.bw HWA.out)).mono ?_
        rintro e w1 ⟨rfl, hb1⟩
        go_wp2_with fail
        refine bodyPost_ret (v := .tuple #[.string ⟨#[]⟩, .int .i64 1]) (by simp [results, Tryd.results28, go_sem]) rfl ⟨?_, HWA.out.trans hb1⟩
        rw [HNO.out]
      · rw [hre, if_pos rfl] at HLN
        have hll := lineR_len _ hre
        have HRA := Aside0.mk (show (l.take (i + 1)).all rightR = true by rw [List.take_add_one, HEI.out, List.all_append, HR.out]; simp [hre])
        have HOA := Aside0.mk (show out ++ lineR ⟨k, g, o, t, q⟩ = (l.take (i + 1)).flatMap lineR by rw [List.take_add_one, HEI.out, List.flatMap_append, HO.out]; simp)
        obtain ⟨x, hx⟩ : ∃ x, x = lineR ⟨k, g, o, t, q⟩ := ⟨_, rfl⟩
        rw [← hx] at HLN hll HOA
        have HLL := Aside0.mk hll
        clear hre he h0 hi1 hx hll
        go_wp2_with fail
        refine (HLN.out _ (HE.out.bw HWA.out)).mono ?_
        rintro e w1 ⟨rfl, hb1⟩
        have HB4 := Aside0.mk hb1
        clear hb1
        go_wp2_with fail
        refine (WriteString_calls x (HDA.out.bw HB4.out) (by have := HLE.out; have := HLL.out; omega)).mono ?_
        rintro e w5 ⟨rfl, v5, h5, c5⟩
        have H5 := Aside0.mk h5
        have HW5 := Aside0.mk (c5.below (HWA.out.trans HB4.out) (fun j hj => by
          rcases hj with rfl | hj
          · exact Nat.le_refl _
          · exact own_base HD.out.own j hj))
        clear h5 c5
        go_wp2_with fail
        go_roundw
        case rel =>
          refine ⟨i + 1, _, v5, _, by omega, by go_num, ?_, H5, HOA, HRA, HW5⟩
          rw [List.length_append]
          have := HLL.out
          omega
        case measure => simp [intOf]; omega
    · obtain rfl : i = l.length := by omega
      have HAL := Aside0.mk (show writeR l = (l.flatMap lineR, 0) by unfold writeR; rw [if_pos (by have := HR.out; rwa [List.take_length] at this)])
      have HOL := Aside0.mk (show out = l.flatMap lineR by have := HO.out; rwa [List.take_length] at this)
      go_wp2_with fail
      refine (Tryd.Builder_String_any w.heap.size w.heap.size out wr HD.out.lib HW.out.size).mono ?_
      rintro e w6 ⟨rfl, hb6⟩
      have HW6 := Aside0.mk (show Bw w w6 from Below.trans HW.out hb6)
      clear hb6
      go_wp2_with fail
      refine bodyPost_ret (v := .tuple #[.string ⟨out.toArray⟩, .int .i64 0]) (by simp [results, Tryd.results28, go_sem]) rfl ⟨?_, HW6.out⟩
      rw [HAL.out, ← HOL.out]
set_option maxHeartbeats 1000000 in
theorem refWriteR_calls (A : Option Addr) (cap : Nat) (l : List Rep) (w : World) (hx : Rows encR 5 w A l) (hr : l.all rightR = true) (hl : l.length ≤ 65536) : Calls Tryd.prog 24 #[.slice A l.length cap] w fun e w' => e = .returned (strV (l.flatMap lineR)) ∧ Bw w w' := by
  have HX := Aside0.mk hx
  have HB := Aside0.mk (Bw.refl w)
  have HR := Aside0.mk hr
  have HLE := Aside0.mk hl
  have h62 : l.length ≤ 100000 := by omega
  clear hx hr hl
  go_enter Tryd.func24, Tryd.ntmps24
  go_wp2_with fail
  go_loopw [3, 4] (fun ov iv wr => ∃ (i : Nat) (out : List UInt8), i ≤ l.length ∧ ov = strV out ∧ iv = .int .i64 i ∧ out.length ≤ i * 200000 ∧ Aside0 (out = (l.take i).flatMap lineR) ∧ Aside0 (Bw w wr)) (fun _ iv _ => l.length - (intOf iv).toNat)
  case atStart => exact ⟨0, [], by omega, rfl, rfl, by simp, ⟨rfl⟩, HB⟩
  case round =>
    obtain ⟨i, out, hi, rfl, rfl, ho, HO, HW⟩ := hrel
    by_cases hlt : i < l.length
    · obtain ⟨⟨k, g, o, t, q⟩, he⟩ : ∃ e, l[i]? = some e := ⟨_, List.getElem?_eq_getElem hlt⟩
      have hre : rightR ⟨k, g, o, t, q⟩ = true := List.all_eq_true.1 HR.out _ (List.mem_of_getElem? he)
      obtain ⟨ad, hA, h0, hi1⟩ := (HX.out.bw HW.out).atS i _ he
      subst hA
      have s0 := h0 _ rfl
      have s1 := hi1 1 _ (by decide) rfl
      have s2 := hi1 2 _ (by decide) rfl
      have s3 := hi1 3 _ (by decide) rfl
      have s4 := hi1 4 _ (by decide) rfl
      have HLN := Aside0.mk (fun W => refLineR_calls k g o t q W hre)
      have hxl := lineR_len _ hre
      have HOA := Aside0.mk (show out ++ lineR ⟨k, g, o, t, q⟩ = (l.take (i + 1)).flatMap lineR by rw [List.take_add_one, he, List.flatMap_append, HO.out]; simp)
      obtain ⟨x, hx⟩ : ∃ x, x = lineR ⟨k, g, o, t, q⟩ := ⟨_, rfl⟩
      rw [← hx] at HLN hxl HOA
      have hol : out.length ≤ 13107200000 := Nat.le_trans ho (by have := HLE.out; omega)
      have zz : ¬ (9223372036854775807 < out.length + x.length) := by omega
      clear he hre h0 hi1 hx
      go_wp2_with fail
      refine (HLN.out _).mono ?_
      rintro e w1 ⟨rfl, hb1⟩
      have HB4 := Aside0.mk (HW.out.trans hb1)
      clear hb1
      go_wp2_with fail
      go_roundw
      case rel =>
        refine ⟨i + 1, out ++ x, by omega, by first | rfl | rw [← str_two], by go_num, ?_, HOA, HB4⟩
        rw [List.length_append, Nat.add_mul]
        omega
      case measure => simp [intOf]; omega
    · obtain rfl : i = l.length := by omega
      have HOL := Aside0.mk (show out = l.flatMap lineR by have := HO.out; rwa [List.take_length] at this)
      go_wp2_with fail
      go_ret
      rw [HOL.out]
      exact ⟨rfl, HW.out⟩
end Go.Proofs.YtogpjimmcckkcaaDoor.M
