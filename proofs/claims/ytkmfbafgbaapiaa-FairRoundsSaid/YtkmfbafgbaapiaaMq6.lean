/- Windows of entries, by the document, and by the program. Conditions: no more than a million entries. -/
import Derived.Test.YtkmfbafgbaapiaaMq5
import Derived.Test.YtkmfbafgbaapiaaMe
namespace Go.Proofs.Ytkmfbafgbaapiaa.M
open Go.RowKit Go.Maps Go.Proofs.YtkmfbafgbaapiaaW.PrintWords Go.Proofs.YtkmfbafgbaapiaaW.PrintLast Go.Proofs.YtkmfbafgbaapiaaW.PrintMore
attribute [local go_sem] max2_int max_two
attribute [local go_sem ↓] eqEntry
set_option linter.unusedVariables false
set_option linter.unusedSimpArgs false
set_option maxRecDepth 100000
theorem Rows.subN {w : World} {ad : Addr} {l : List En} (h : Rows encN 2 w (some ad) l) (i n : Nat) : Rows encN 2 w (some (ad.add (i * 2))) (sub l i n) :=
  ⟨by have := h.1; unfold sub; rw [List.length_take, List.length_drop]; omega, fun _ => ⟨_, rfl, fun j x hj q v hv => by
    unfold sub at hj
    rw [List.getElem?_take] at hj
    split at hj
    · rw [List.getElem?_drop] at hj
      obtain ⟨ad', e, hc⟩ := h.at_ (i + j) x hj
      injection e with e
      subst e
      rw [add_add, show i * 2 + (j * 2 + q) = (i + j) * 2 + q by omega]
      exact hc q v hv
    · cases hj⟩⟩
theorem sub_len {l : List En} {i n : Nat} (h : i + n ≤ l.length) : (sub l i n).length = n := by unfold sub; rw [List.length_take, List.length_drop]; omega
theorem refRight_sub (p g : Int) (T : Nat) (hT : T ≤ 256) (ad : Addr) (cap : Nat) (l : List En) (i n : Nat) (x : Bool) (w : World) (hx : Rows encN 2 w (some ad) l) (hl : l.length ≤ 1000000) (h : i + n ≤ l.length) (he : rightL T (sub l i n) = x) :
    Calls Try.prog 34 #[.agg #[.int .i64 p, .int .i64 T, .int .i64 g], .slice (some (ad.add (i * 2))) n cap] w fun e w' => e = .returned (.bool x) ∧ Bw w w' := by
  have := refRight_calls p g T hT (some (ad.add (i * 2))) cap (sub l i n) w (hx.subN i n) (by rw [sub_len h]; omega)
  rw [sub_len h, he] at this
  exact this
def allTo (T : Nat) (l : List En) (w : Nat) : Nat → Bool
  | 0 => true
  | i + 1 => allTo T l w i && rightL T (sub l i w)
theorem allTo_good {T : Nat} {l : List En} {w : Nat} : ∀ n, allTo T l w n = true ↔ ∀ i, i < n → rightL T (sub l i w) = true
  | 0 => ⟨fun _ i h => by omega, fun _ => rfl⟩
  | n + 1 => by
    show (allTo T l w n && rightL T (sub l n w)) = true ↔ _
    rw [Bool.and_eq_true, allTo_good n]
    constructor
    · rintro ⟨h1, h2⟩ i hi
      by_cases e : i = n
      · subst e; exact h2
      · exact h1 i (by omega)
    · intro h
      exact ⟨fun i hi => h i (by omega), h n (by omega)⟩
def WinPost (T : Nat) (l : List En) (w : World) (e : Ending) (w' : World) : Prop := ∃ x : Nat, e = .returned (.int .i64 (x : Int)) ∧ IsWin T l x ∧ Bw w w'
set_option maxHeartbeats 2000000 in
theorem refWindow_calls (p g : Int) (T : Nat) (hT : T ≤ 256) (A : Option Addr) (cap : Nat) (l : List En) (w : World) (hx : Rows encN 2 w A l) (hl : l.length ≤ 1000000) (hcap : l.length ≤ cap) (hcm : cap ≤ 9223372036854775807) :
    Calls Try.prog 35 #[.agg #[.int .i64 p, .int .i64 T, .int .i64 g], .slice A l.length cap] w (WinPost T l w) := by
  have HX := Aside0.mk (hx.bw ((Bw.refl w).alloc (.cells #[.int .i64 p, .int .i64 T, .int .i64 g] 49)))
  have HB := Aside0.mk ((Bw.refl w).alloc (.cells #[.int .i64 p, .int .i64 T, .int .i64 g] 49))
  have HL := Aside0.mk (Blk.new w #[.int .i64 p, .int .i64 T, .int .i64 g] 49)
  obtain ⟨W1, hW1⟩ : ∃ W1, W1 = w.alloc (.cells #[.int .i64 p, .int .i64 T, .int .i64 g] 49) := ⟨_, rfl⟩
  rw [← hW1] at HX HB HL
  clear hx
  go_enter Try.func35, Try.ntmps35
  go_wp2_with fail
  rw [← hW1]
  clear hW1
  go_loopw [5] (fun iv wr => ∃ k : Nat, 1 ≤ k ∧ k ≤ l.length + 1 ∧ iv = .int .i64 k ∧ Aside0 (∀ q, 1 ≤ q → q < k → ¬ goodW T l q) ∧ Aside0 (Bw W1 wr)) (fun iv _ => l.length + 1 - (intOf iv).toNat)
  case atStart => exact ⟨1, by omega, by omega, rfl, ⟨fun q h1 h2 => by omega⟩, ⟨Bw.refl _⟩⟩
  case round =>
    obtain ⟨k, hk1, hk, rfl, HF, HV⟩ := hrel
    by_cases hlt : k ≤ l.length
    · obtain ⟨ad, rfl⟩ : ∃ ad, A = some ad := by
        obtain ⟨ad, e, _⟩ := HX.out.2 (by intro e; rw [e] at hlt; simp at hlt; omega)
        exact ⟨ad, e⟩
      go_wp2_with fail
      obtain ⟨wo, hwo⟩ : ∃ wo, wo = wr := ⟨_, rfl⟩
      subst hwo
      go_loopw [6, 7] (fun av iv wr => ∃ i : Nat, i ≤ l.length - k + 1 ∧ iv = .int .i64 i ∧ av = .bool (allTo T l k i) ∧ Aside0 (Bw W1 wr)) (fun _ iv _ => l.length - k + 1 - (intOf iv).toNat)
      case atStart => exact ⟨0, by omega, rfl, rfl, HV⟩
      case round =>
        obtain ⟨i, hi, rfl, rfl, HV⟩ := hrel
        have HA1 := Aside0.mk (show allTo T l k (i + 1) = (allTo T l k i && rightL T (sub l i k)) from rfl)
        have HAG := Aside0.mk (allTo_good (T := T) (l := l) (w := k) i)
        cases hB : allTo T l k i
        · have HBF := Aside0.mk hB
          clear hB
          have HNG := Aside0.mk (show ¬ goodW T l k from fun hg => by
            have := HAG.out.2 fun j hj => hg j (by omega)
            rw [HBF.out] at this
            cases this)
          by_cases hlt2 : i + k ≤ l.length
          all_goals
            go_wp2_with fail
            go_roundw
            case rel => exact ⟨k + 1, by omega, by omega, by go_num, ⟨fun q h1 h2 => by
              by_cases e : q = k
              · rw [e]; exact HNG.out
              · exact HF.out q h1 (by omega)⟩, HV⟩
            case measure => simp [intOf]; omega
        · have HBF := Aside0.mk hB
          clear hB
          by_cases hlt2 : i + k ≤ l.length
          · have c0 : wr.cell? ⟨w.heap.size, 0, none⟩ = some (.int .i64 p) := (HL.out.bw HV.out).cell 0 _ rfl
            have c1 : wr.cell? ⟨w.heap.size, 1, none⟩ = some (.int .i64 T) := (HL.out.bw HV.out).cell 1 _ rfl
            have c2 : wr.cell? ⟨w.heap.size, 2, none⟩ = some (.int .i64 g) := (HL.out.bw HV.out).cell 2 _ rfl
            have q0 : ∀ P : BwW wr, P.W.cell? ⟨w.heap.size, 0, none⟩ = some (.int .i64 p) := fun P => P.cell c0
            have q1 : ∀ P : BwW wr, P.W.cell? ⟨w.heap.size, 1, none⟩ = some (.int .i64 T) := fun P => P.cell c1
            have q2 : ∀ P : BwW wr, P.W.cell? ⟨w.heap.size, 2, none⟩ = some (.int .i64 g) := fun P => P.cell c2
            have hic : i < cap := by omega
            have hkc : i + k ≤ cap := by omega
            have hw1 : IntKind.i64.wrap ((i : Int) + (k : Int)) = ((i + k : Nat) : Int) := by rw [i64_wrap]; omega
            obtain ⟨x, hx⟩ : ∃ x, rightL T (sub l i k) = x := ⟨_, rfl⟩
            have HXX := Aside0.mk hx
            clear hx c0 c1 c2
            go_wp2_with fail
            refine wp_region_bw (by kernel_rfl) (by kernel_rfl) ?_
            repeat (first | go_big_quiet_skip | (go_big_quiet_want; go_big_quiet_op; first | go_big_quiet_on | go_big_quiet_call ((go_at_call 34; exact qcall (refRight_sub p g T hT ad _ l i k x _ ((HX.out.bw HV.out).bw (BwW.h _)) hl hlt2 HXX.out)))))
            refine wpQuiet_nil ?_
            rintro w2 ⟨⟨_, hb2⟩, rfl⟩
            have HV2 := Aside0.mk (HV.out.trans hb2)
            clear q0 q1 q2 hb2
            go_wp2_with fail
            go_roundw
            case rel => exact ⟨i + 1, by omega, by go_num, by rw [HA1.out, HBF.out, HXX.out]; rfl, HV2⟩
            case measure => simp [intOf]; omega
          · have HG := Aside0.mk (show goodW T l k from fun j hj => HAG.out.1 HBF.out j (by omega))
            go_wp2_with fail
            go_ret
            exact ⟨k, rfl, .inl ⟨hk1, hlt, HG.out, HF.out⟩, HB.out.trans HV.out⟩
    · obtain rfl : k = l.length + 1 := by omega
      go_wp2_with fail
      go_ret
      exact ⟨0, rfl, .inr ⟨rfl, fun q h1 h2 => HF.out q h1 (by omega)⟩, HB.out.trans HV.out⟩
/-- The loop over the entries: the gap, and the longest one. -/
theorem hit_gap {l : List En} {q : En} {k : Nat} {e : En} (he : l[k]? = some e) : gapAt (hit l q) (k + 1) = if (plainE e == q) = true then 0 else gapAt (hit l q) k + 1 := by
  conv => lhs; unfold gapAt
  rw [hit_some he]
theorem mp_entry {v : Value} {y : DataW Unit × List MemPlace} (h : plainElem (H := Unit) Try.prog 3 v = some y) : ∃ c : Int, v = .int .i64 c := by
  obtain ⟨a, h, _, _⟩ := plainElem_int_inv Try.underlying3 h
  exact ⟨a, h⟩
/-- What is still to come of the map. -/
def doneL (left : Lit → Bool) : En → Prop := fun p => left (kl p) = false
theorem max_start (T : Nat) (l : List En) {D : DataW Unit} (hk : Keeps D (wantB T)) : IsMax T l (doneL (Maps.has D)) 0 := by
  refine ⟨fun p hp hw hd => ?_, Or.inl rfl⟩
  have hd : Maps.has D (kl p) = false := hd
  rw [hk.1 p hp, hw] at hd
  cases hd
theorem max_step {T : Nat} {l : List En} {left : Lit → Bool} {M : Nat} (h : IsMax T l (doneL left) M) (q : En) (hq : wfN q) (hw : wantB T q = true) : IsMax T l (doneL fun z => left z && !z.sameKey (kl q)) (max M (maxAt (hit l q) l.length)) := by
  refine ⟨fun p hp hwp hd => ?_, ?_⟩
  · by_cases e : p = q
    · subst e; omega
    · have hne : kl p ≠ kl q := fun h' => e (kl_inj hp hq h')
      have hd : (left (kl p) && !(kl p).sameKey (kl q)) = false := hd
      rw [sameKey_ne hne] at hd
      have := h.1 p hp hwp (show left (kl p) = false by simpa using hd)
      omega
  · have hdq : doneL (fun z => left z && !z.sameKey (kl q)) q := by
      show (left (kl q) && !(kl q).sameKey (kl q)) = false
      rw [WideAt.sameKey_self (kl_lit q hq)]
      simp
    rcases Nat.le_total M (maxAt (hit l q) l.length) with hm | hm
    · exact .inr ⟨q, hq, hw, hdq, by omega⟩
    · rcases h.2 with e | ⟨p, hp, hwp, hd, e⟩
      · rcases Nat.lt_or_ge 0 (maxAt (hit l q) l.length) with h0 | h0
        · omega
        · left; omega
      · refine .inr ⟨p, hp, hwp, ?_, by omega⟩
        show (left (kl p) && !(kl p).sameKey (kl q)) = false
        rw [show left (kl p) = false from hd]
        rfl
theorem max_end {T : Nat} {l : List En} {left : Lit → Bool} {M : Nat} (h : IsMax T l (doneL left) M) (hl : ∀ z, left z = false) : IsMax T l (fun _ => True) M :=
  ⟨fun p hp hw _ => h.1 p hp hw (hl _), h.2.imp id fun ⟨p, hp, hw, _, e⟩ => ⟨p, hp, hw, trivial, e⟩⟩
theorem bw_grown {w w1 : World} (h : Bw w w1) : w.grownBy w1 none := ⟨h.os, h.tape, h.output, h.size, fun i hi _ => h.block i hi⟩
theorem rg_bw {w w1 : World} {b r n cnt : Nat} {D : DataW Unit} {left : Lit → Bool} (h : w.ranges Try.prog 27 (plainElem (H := Unit) Try.prog 3) b r n D left cnt) (hb : Bw w w1) : w1.ranges Try.prog 27 (plainElem (H := Unit) Try.prog 3) b r n D left cnt :=
  h.kept (bw_grown hb) (by simp) (by simp)
theorem fairWindow_not (p t g : Int) (hr : rightB p t g = false) (v : Value) (w : World) : Calls Try.prog 32 #[.agg #[.int .i64 p, .int .i64 t, .int .i64 g], v] w fun e w' => e = .returned (.int .i64 0) ∧ Bw w w' := by
  have HB := Aside0.mk ((Bw.refl w).alloc (.cells #[.int .i64 p, .int .i64 t, .int .i64 g] 49))
  have HR := Aside0.mk hr
  clear hr
  go_enter Try.func32, Try.ntmps32
  go_wp2_with fail
  refine (fairRight_not p t g HR.out v _).mono ?_
  rintro e w1 ⟨rfl, hb1⟩
  go_wp2_with fail
  go_ret
  exact ⟨rfl, HB.out.trans hb1⟩
set_option maxHeartbeats 2000000 in
theorem fairWindow_calls (p g : Int) (T : Nat) (hr : rightB p T g = true) (A : Option Addr) (cap : Nat) (l : List En) (w : World) (hx : Rows encN 2 w A l) (hl : l.length ≤ 1000000) (hw : ∀ e ∈ l, wfN e) :
    Calls Try.prog 32 #[.agg #[.int .i64 p, .int .i64 T, .int .i64 g], .slice A l.length cap] w (WinPost T l w) := by
  have hT : T ≤ 256 := by unfold rightB at hr; simp at hr; omega
  have HB := Aside0.mk ((Bw.refl w).alloc (.cells #[.int .i64 p, .int .i64 T, .int .i64 g] 49))
  have HL := Aside0.mk (Blk.new w #[.int .i64 p, .int .i64 T, .int .i64 g] 49)
  have HX := Aside0.mk hx
  have HW := Aside0.mk hw
  have HR := Aside0.mk hr
  clear hx hw hr
  cases hR : rightL T l
  · have HRL := Aside0.mk hR
    clear hR
    go_enter Try.func32, Try.ntmps32
    go_wp2_with fail
    refine (fairRight_calls p g T HR.out A cap l _ (HX.out.bw HB.out) hl HW.out).mono ?_
    rintro e w1 ⟨rfl, hb1⟩
    rw [HRL.out]
    go_wp2_with fail
    go_ret
    exact ⟨0, rfl, win_not T hT l HRL.out, HB.out.trans hb1⟩
  · have HRL := Aside0.mk hR
    clear hR
    go_enter Try.func32, Try.ntmps32
    go_wp2_with fail
    refine (fairRight_calls p g T HR.out A cap l _ (HX.out.bw HB.out) hl HW.out).mono ?_
    rintro e w1 ⟨rfl, hb1⟩
    rw [HRL.out]
    have HL := Aside0.mk (HL.out.bw hb1)
    have HB1 := Aside0.mk (HB.out.trans hb1)
    have p0 : w1.cell? ⟨w.heap.size, 0, none⟩ = some (.int .i64 p) := HL.out.cell 0 _ rfl
    have p1 : w1.cell? ⟨w.heap.size, 1, none⟩ = some (.int .i64 T) := HL.out.cell 1 _ rfl
    have p2 : w1.cell? ⟨w.heap.size, 2, none⟩ = some (.int .i64 g) := HL.out.cell 2 _ rfl
    clear hb1
    go_wp2_with fail
    refine (wanted_calls p g T hT _).mono ?_
    rintro e w2 ⟨b, n, D, rfl, hbb, hn, hm, hk, hb2⟩
    have HWW := Aside0.mk (HB1.out.trans hb2)
    have HBB := Aside0.mk (show w.heap.size ≤ b from Nat.le_trans HB1.out.size hbb)
    have HKD := Aside0.mk hk
    have HM := Aside0.mk hm
    clear hm hk hb2 hn hbb p0 p1 p2
    go_wp2_with (at_range; refine wpList_range_own _ rfl (.tmp 15) 92 rfl 27 3 lawN und_map _ b n D rfl HM.out ?_; intro w3 hrg3 hg3 hs3)
    have HG3 := Aside0.mk (show Bw w w3 from ⟨hg3.os.trans HWW.out.os, hg3.tape.trans HWW.out.tape, hg3.output.trans HWW.out.output, Nat.le_trans HWW.out.size hg3.size, fun i hi => (hg3.block i (Nat.lt_of_lt_of_le hi HWW.out.size) (by simp)).trans (HWW.out.block i hi)⟩)
    have HRG := Aside0.mk hrg3
    obtain ⟨r, hr⟩ : ∃ r, r = w2.heap.size := ⟨_, rfl⟩
    have HRR := Aside0.mk (show w.heap.size ≤ r by rw [hr]; exact HWW.out.size)
    rw [← hr] at HRG ⊢
    clear hrg3 hg3 hs3 hr
    go_frame
    go_loopw [5] (fun mv wr => ∃ (left : Lit → Bool) (cnt M : Nat), mv = .int .i64 M ∧ M ≤ l.length ∧ Aside0 (wr.ranges Try.prog 27 (plainElem (H := Unit) Try.prog 3) b r n D left cnt) ∧ Aside0 (IsMax T l (doneL left) M ∧ ∀ z, left z = true → Maps.has D z = true) ∧ Aside0 (Bw w wr)) (fun _ wr => wr.rangeLeft b r)
    case atStart => exact ⟨_, _, 0, rfl, Nat.zero_le _, HRG, ⟨max_start T l HKD.out, fun _ h => h⟩, HG3⟩
    case round =>
      clear HRG HG3 HWW
      obtain ⟨left, cnt, M, rfl, hM, HRG, HMX, HV⟩ := hrel
      go_wp2_with (at_next; refine wpList_next_ranges _ rfl (.tmp 16) rfl 27 lawN (plainElem (H := Unit) Try.prog 3) aggN (fun c : Int => Value.int .i64 c) (fun key l h => (kl_inv h).imp fun _ h => h.1) (fun v y h => mp_entry h) b r n D left cnt rfl HRG.out ?_ ?_)
      · intro _ hl0
        have HE := Aside0.mk (max_end HMX.out.1 hl0)
        clear hl0
        go_wp2_with fail
        go_ret
        exact ⟨M + 1, ret_int (by omega), win_max T hT l HRL.out M HE.out, HV.out⟩
      · intro a1 a2 c kl' y1 y2 w4 cnt4 hkx hlx _ _ hrg4 hlt4 hg4 hs4 hen
        obtain ⟨p', ep, hp', rfl⟩ := kl_inv hkx
        obtain rfl : p' = (a1, a2) := by
          simp only [Value.agg.injEq, Array.mk.injEq, List.cons.injEq, Value.int.injEq, true_and, and_true] at ep
          exact (Prod.ext ep.1 ep.2).symm
        have hwant : wantB T (a1, a2) = true := by
          have := HKD.out.1 (a1, a2) hp'
          rw [HMX.out.2 _ hlx] at this
          exact this.symm
        have HV4 := Aside0.mk (grown_bw HV.out HRR.out hg4)
        have HMX4 := Aside0.mk (show IsMax T l (doneL fun z => left z && !z.sameKey (kl (a1, a2))) (max M (maxAt (hit l (a1, a2)) l.length)) ∧ ∀ z, (left z && !z.sameKey (kl (a1, a2))) = true → Maps.has D z = true from
          ⟨max_step HMX.out.1 (a1, a2) hp' hwant, fun z hz => HMX.out.2 z (by cases h : left z <;> simp_all)⟩)
        have HML := Aside0.mk (max_le (hit l (a1, a2)) l.length)
        have HRG4 := Aside0.mk hrg4
        have HLT := Aside0.mk (show cnt4 < wr.rangeLeft b r by rw [HRG.out.left_eq]; exact hlt4)
        have HXB := Aside0.mk (Blk.new w4 #[.int .i64 a1, .int .i64 a2] 27)
        clear ep hkx hlx hrg4 hlt4 hg4 hs4 hwant hp'
        go_wp2_with fail
        obtain ⟨w5, hw5⟩ : ∃ w5, w5 = w4.alloc (.cells #[.int .i64 a1, .int .i64 a2] 27) := ⟨_, rfl⟩
        have HV5 := Aside0.mk (HV4.out.alloc (.cells #[.int .i64 a1, .int .i64 a2] 27))
        have HRG5 := Aside0.mk (HRG4.out.alloc (.cells #[.int .i64 a1, .int .i64 a2] 27))
        rw [← hw5] at HXB HV5 HRG5 ⊢
        obtain ⟨xb, hxb⟩ : ∃ xb, xb = w4.heap.size := ⟨_, rfl⟩
        rw [← hxb] at HXB ⊢
        clear hw5 hen hxb
        go_loopw [5, 7, 23] (fun mv gv iv wr => ∃ k : Nat, k ≤ l.length ∧ iv = .int .i64 k ∧ mv = .int .i64 ((max M (maxAt (hit l (a1, a2)) k) : Nat) : Int) ∧ gv = .int .i64 ((gapAt (hit l (a1, a2)) k : Nat) : Int) ∧ Aside0 (Bw w5 wr)) (fun _ _ iv _ => l.length - (intOf iv).toNat)
        case atStart => exact ⟨0, by omega, rfl, by simp [maxAt], rfl, ⟨Bw.refl _⟩⟩
        case round =>
          obtain ⟨k, hk, rfl, rfl, rfl, HU⟩ := hrel
          by_cases hlt : k < l.length
          · obtain ⟨e, he⟩ : ∃ e, l[k]? = some e := ⟨_, List.getElem?_eq_getElem hlt⟩
            obtain ⟨ad, rfl, h0, hi⟩ := (HX.out.bw (HV5.out.trans HU.out)).atS k e he
            have s0 := h0 _ rfl
            have s1 := hi 1 _ (by decide) rfl
            have HG := Aside0.mk (hit_gap (q := (a1, a2)) he)
            have HMS := Aside0.mk (show maxAt (hit l (a1, a2)) (k + 1) = max (maxAt (hit l (a1, a2)) k) (gapAt (hit l (a1, a2)) (k + 1)) from rfl)
            obtain ⟨m, hm⟩ : ∃ m, max M (maxAt (hit l (a1, a2)) k) = m := ⟨_, rfl⟩
            obtain ⟨gp, hgp⟩ : ∃ gp, gapAt (hit l (a1, a2)) k = gp := ⟨_, rfl⟩
            have hgl : gp ≤ 1000000 := by rw [← hgp]; have := gap_le (hit l (a1, a2)) k; omega
            have hml : m ≤ 1000000 := by rw [← hm]; have := max_le (hit l (a1, a2)) k; omega
            rw [hm, hgp]
            have HMM := Aside0.mk hm
            have HGG := Aside0.mk hgp
            have HEB := Aside0.mk (Blk.new wr #[.int .i64 e.1, .int .i64 e.2] 27)
            have HXB6 := Aside0.mk ((HXB.out.bw HU.out).alloc (.cells #[.int .i64 e.1, .int .i64 e.2] 27))
            have HU6 := Aside0.mk (HU.out.alloc (.cells #[.int .i64 e.1, .int .i64 e.2] 27))
            obtain ⟨w6, hw6⟩ : ∃ w6, w6 = wr.alloc (.cells #[.int .i64 e.1, .int .i64 e.2] 27) := ⟨_, rfl⟩
            rw [← hw6] at HEB HXB6 HU6
            clear h0 hi he hm hgp
            go_upto_region 12 with fail
            rw [← hw6]
            clear hw6 s0 s1
            have q0 : ∀ P : BwW w6, P.W.cell? ⟨wr.heap.size, 0, none⟩ = some (.int .i64 e.1) := fun P => P.cell (HEB.out.cell 0 _ rfl)
            have q1 : ∀ P : BwW w6, P.W.cell? ⟨wr.heap.size, 1, none⟩ = some (.int .i64 e.2) := fun P => P.cell (HEB.out.cell 1 _ rfl)
            have q2 : ∀ P : BwW w6, P.W.cell? ⟨xb, 0, none⟩ = some (.int .i64 a1) := fun P => P.cell (HXB6.out.cell 0 _ rfl)
            have q3 : ∀ P : BwW w6, P.W.cell? ⟨xb, 1, none⟩ = some (.int .i64 a2) := fun P => P.cell (HXB6.out.cell 1 _ rfl)
            have HEQ := Aside0.mk (show ((plainE e).1 == a1 && (plainE e).2 == a2) = (plainE e == (a1, a2)) from rfl)
            obtain ⟨bb, hbb⟩ : ∃ bb, (plainE e == (a1, a2)) = bb := ⟨_, rfl⟩
            rw [hbb] at HEQ HG
            have heq := HEQ.out
            clear hbb
            refine wp_region_bw (by kernel_rfl) (by kernel_rfl) ?_
            repeat (first | go_big_quiet_skip | (go_big_quiet_want; go_big_quiet_op; first | go_big_quiet_on | go_big_quiet_call ((go_at_call 62; exact qcall (plain_calls e _)))))
            refine wpQuiet_nil ?_
            rintro w7 ⟨⟨_, hb7⟩, rfl⟩
            have HU7 := Aside0.mk (HU6.out.trans hb7)
            clear q0 q1 q2 q3 heq HEQ hb7
            cases bb
            · have HG' := Aside0.mk (show gapAt (hit l (a1, a2)) (k + 1) = gp + 1 by rw [HG.out, HGG.out]; rfl)
              have HM' := Aside0.mk (show max M (maxAt (hit l (a1, a2)) (k + 1)) = max m (gp + 1) by rw [HMS.out, HG'.out, ← HMM.out]; omega)
              by_cases hmx : m < gp + 1
              · have h1 : (m : Int) < (gp : Int) + 1 := by omega
                have h2 : m ≤ gp := by omega
                go_wp2_with fail
                go_roundw
                case rel => exact ⟨k + 1, by omega, by go_num, congrArg (Value.int .i64) (by rw [HM'.out]; omega), congrArg (Value.int .i64) (by rw [HG'.out]; omega), HU7⟩
                case measure => simp [intOf]; omega
              · have h1 : ¬ ((m : Int) < (gp : Int) + 1) := by omega
                have h2 : ¬ (m ≤ gp) := by omega
                go_wp2_with fail
                go_roundw
                case rel => exact ⟨k + 1, by omega, by go_num, congrArg (Value.int .i64) (by rw [HM'.out]; omega), congrArg (Value.int .i64) (by rw [HG'.out]; omega), HU7⟩
                case measure => simp [intOf]; omega
            · have HG' := Aside0.mk (show gapAt (hit l (a1, a2)) (k + 1) = 0 by rw [HG.out]; rfl)
              have HM' := Aside0.mk (show max M (maxAt (hit l (a1, a2)) (k + 1)) = m by rw [HMS.out, HG'.out, ← HMM.out]; omega)
              have h1 : ¬ ((m : Int) < 0) := by omega
              go_wp2_with fail
              go_roundw
              case rel => exact ⟨k + 1, by omega, by go_num, congrArg (Value.int .i64) (by rw [HM'.out]), congrArg (Value.int .i64) (by rw [HG'.out]; rfl), HU7⟩
              case measure => simp [intOf]; omega
          · obtain rfl : k = l.length := by omega
            have hml := HML.out
            have HLE := Aside0.mk (show max M (maxAt (hit l (a1, a2)) l.length) ≤ l.length by omega)
            have HRG9 := Aside0.mk (rg_bw HRG5.out HU.out)
            clear hml
            go_wp2_with fail
            go_roundw
            case rel => exact ⟨_, cnt4, max M (maxAt (hit l (a1, a2)) l.length), rfl, HLE.out, HRG9, HMX4, ⟨HV5.out.trans HU.out⟩⟩
            case measure =>
              rw [HRG9.out.left_eq]
              exact HLT.out
end Go.Proofs.Ytkmfbafgbaapiaa.M
