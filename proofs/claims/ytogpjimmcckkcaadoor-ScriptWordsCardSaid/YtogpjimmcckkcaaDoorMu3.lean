/- Script: Read: the entries of a text. Conditions: texts of no more than 2^20 bytes. -/
import Derived.Test.YtogpjimmcckkcaaDoorMu2
namespace Go.Proofs.YtogpjimmcckkcaaDoor.M
open Go.RowKit Go.Proofs.YtogpjimmcckkcaaDoorW.PrintWords Go.Proofs.YtogpjimmcckkcaaDoorW.PrintLast Go.Proofs.YtogpjimmcckkcaaDoorW.PrintMore
set_option linter.unusedVariables false
set_option linter.unusedSimpArgs false
theorem infoEn : (Tryd.prog.info? 55).map (fun i => (i.zero, i.size, i.bytes)) = some (some (.agg #[.int .i64 0, .int .i64 0]), 2, 16) := by kernel_rfl
/-- The entries of a text's lines, behind those that are read. -/
def readG (out : List En) : List ByteArray → Option (List En)
  | [] => some out
  | s :: r => if (oneF s.data.toList).2.2 = true ∧ (oneF s.data.toList).2.1 ≤ 65536 - (out.length : Int) then readG (out ++ List.replicate (oneF s.data.toList).2.1.toNat (oneF s.data.toList).1) r else none
def readF (t : List UInt8) : Option (List En) :=
  match readG [] (linesF t).1 with
  | none => none
  | some out => if (linesF t).2 = true ∧ out.all rightE = true ∧ wrL 0 out = t then some out else none
theorem splitB_le (sep : ByteArray) (save n : Nat) (s : ByteArray) : ∀ x ∈ Lib.splitB sep save n s, x.size ≤ s.size := by
  induction n generalizing s with
  | zero => intro x hx; rw [Lib.splitB_zero] at hx; simp at hx; rw [hx]; exact Nat.le_refl _
  | succ n ih =>
    intro x hx
    unfold Lib.splitB at hx
    split at hx
    · simp at hx
      rw [hx]
      exact Nat.le_refl _
    · rcases List.mem_cons.1 hx with rfl | h
      · rw [ByteArray.size_extract]; omega
      · have := ih _ x h
        rw [ByteArray.size_extract] at this
        omega
theorem linesF_len (t : List UInt8) : (linesF t).1.length ≤ t.length + 1 := by
  unfold linesF
  split
  · simp
  split
  · have h := Lib.splitB_all (bs [10]) (by rw [bs_size]; decide) 0 _ (bs (Lib.trimSuffix t [10])) rfl
    have h2 := Lib.countB_le (bs [10]) (by rw [bs_size]; decide) _ (bs (Lib.trimSuffix t [10])) (Nat.le_refl _)
    rw [bs_size] at h2
    have := trim_le t
    dsimp only
    rw [h]
    omega
  · simp
theorem linesF_le (t : List UInt8) : ∀ x ∈ (linesF t).1, x.size ≤ t.length := by
  unfold linesF
  split
  · simp
  split
  · intro x hx
    have := splitB_le _ _ _ _ x hx
    rw [bs_size] at this
    exact Nat.le_trans this (trim_le t)
  · simp
theorem oneF_pos (s : List UInt8) (h : (oneF s).2.2 = true) : 1 ≤ (oneF s).2.1 := by
  have he : ∀ v has n k, (endF v has n k).2.2 = true → (endF v has n k).2.1 = n := by
    intro v has n k h
    unfold endF at h ⊢
    split
    · split
      · rfl
      · rename_i h1 h2
        rw [if_pos h1, if_neg h2] at h
        cases h
    · rfl
  have ht : ∀ u v has n, (tailF u v has n).2.2 = true → (tailF u v has n).2.1 = n := by
    intro u v has n h
    unfold tailF at h ⊢
    split at h
    · cases h
    · exact he _ _ _ _ h
  unfold oneF at h ⊢
  dsimp only at h ⊢
  split
  · rename_i h1
    rw [if_pos h1] at h
    split
    · rename_i h2
      rw [if_pos h2] at h
      rw [ht _ _ _ _ h]
      omega
    · rename_i h2
      rw [if_neg h2] at h
      cases h
  · rename_i h1
    rw [if_neg h1] at h
    rw [ht _ _ _ _ h]
    omega
/-- What Read answers. -/
def ReadPost (base : Nat) (r : Option (List En)) (e : Ending) (w' : World) : Prop :=
  match r with
  | none => e = .returned (.tuple #[.slice none 0 0, .int .i64 3])
  | some out => ∃ v, e = .returned (.tuple #[v, .int .i64 0]) ∧ w'.ownsRow base 55 2 v out.length (out.flatMap encN) ∧ out.length ≤ 65536
set_option maxHeartbeats 4000000 in
set_option maxRecDepth 100000 in
theorem Read_calls (t : List UInt8) (w : World) (he : Env w) (hs : t.length ≤ 1048576) :
    Calls Tryd.prog 31 #[.string (bs t)] w fun e w' => ReadPost w.heap.size (readF t) e w' ∧ Bw w w' := by
  have HE := Aside0.mk he
  obtain ⟨L, isL, hL⟩ : ∃ L b, linesF t = (L, b) := ⟨_, _, rfl⟩
  have HQ := Aside0.mk hL
  have HLN := Aside0.mk (lines_calls t w he hs)
  rw [hL] at HLN
  have HLE := Aside0.mk (show ∀ x ∈ L, x.size ≤ 1048576 by intro x hx; have := linesF_le t x (by rw [hL]; exact hx); omega)
  have HLC := Aside0.mk (show L.length ≤ 1048577 by have := linesF_len t; rw [hL] at this; exact Nat.le_trans this (by omega))
  have d0 : decide ((1048576 : Int) < (t.length : Int)) = false := decide_eq_false (by omega)
  have HRF := Aside0.mk (show readF t = match readG [] L with
    | none => none
    | some out => if isL = true ∧ out.all rightE = true ∧ wrL 0 out = t then some out else none by unfold readF; rw [hL])
  clear he hL hs
  go_enter Tryd.func31, Tryd.ntmps31
  go_wp2_with fail
  refine HLN.out.mono ?_
  rintro e w1 ⟨A, cp, rfl, hrow, hb1⟩
  have HX := Aside0.mk hrow
  have HB1 := Aside0.mk hb1
  clear hrow hb1 HLN
  go_wp2_with fail
  go_loopw [24, 6] (fun iv ov wr => ∃ (i : Nat) (A1 : Option Addr) (c1 : Nat) (out : List En), i ≤ L.length ∧ iv = .int .i64 i ∧ ov = .slice A1 out.length c1 ∧ out.length ≤ 65536 ∧ Aside0 (wr.ownsRow w1.heap.size 55 2 (.slice A1 out.length c1) out.length (out.flatMap encN)) ∧ Aside0 (readG out (L.drop i) = readG [] L) ∧ Aside0 (Bw w1 wr)) (fun iv _ _ => L.length - (intOf iv).toNat)
  case atStart => exact ⟨0, none, 0, [], by omega, rfl, rfl, by simp, ⟨own_nil _ _ _ _⟩, ⟨rfl⟩, ⟨Bw.refl _⟩⟩
  case round =>
    obtain ⟨i, A1, c1, out, hi, rfl, rfl, ho, HO, HG, HW⟩ := hrel
    by_cases hlt : i < L.length
    · obtain ⟨u, hu⟩ : ∃ u, L[i]? = some (bs u) := ⟨(L[i]).data.toList, by rw [List.getElem?_eq_getElem hlt]⟩
      obtain ⟨ad, hA, s0⟩ := HX.out.bw HW.out i _ hu
      subst hA
      have hul : u.length ≤ 1048576 := by have := HLE.out _ (List.mem_of_getElem? hu); rwa [bs_size] at this
      obtain ⟨k, h, n, ok, h1⟩ : ∃ k h n ok, oneF u = ((k, h), n, ok) := ⟨_, _, _, _, rfl⟩
      have HON := Aside0.mk (show ∀ W, Env W → Calls Tryd.prog 56 #[.string (bs u)] W fun e w' => e = .returned (.tuple #[.agg #[.int .i64 k, .int .i64 h], .int .i64 n, .bool ok]) ∧ Bw W w' from fun W hW => by have := one_calls u W hW hul; rw [h1] at this; exact this)
      have HDR := Aside0.mk (show L.drop i = bs u :: L.drop (i + 1) by rw [List.drop_eq_getElem_cons hlt]; congr 1; exact Option.some.inj ((List.getElem?_eq_getElem hlt).symm.trans hu))
      have HGG := Aside0.mk (show readG [] L = if ok = true ∧ n ≤ 65536 - (out.length : Int) then readG (out ++ List.replicate n.toNat (k, h)) (L.drop (i + 1)) else none by
        rw [← HG.out, HDR.out, readG]
        rw [show (bs u).data.toList = u from rfl, h1])
      have HNP := Aside0.mk (show ok = true → 1 ≤ n by have := oneF_pos u; rw [h1] at this; exact this)
      have HI1 := Aside0.mk (show i + 1 ≤ 1048577 by have := HLC.out; omega)
      clear hu h1 hul
      go_wp2_with fail
      refine (HON.out _ ((HE.out.bw HB1.out).bw HW.out)).mono ?_
      rintro e w2 ⟨rfl, hb2⟩
      have HW2 := Aside0.mk (HW.out.trans hb2)
      have HO2 := Aside0.mk (pw_own_below HO.out hb2)
      clear hb2 s0
      cases ok
      · have HN := Aside0.mk (show readF t = none by rw [HRF.out, HGG.out, if_neg (by rintro ⟨h, _⟩; cases h)])
        go_wp2_with fail
        go_ret2
        refine ⟨?_, (HB1.out.trans HW2.out).alloc _⟩
        rw [HN.out]
        rfl
      · by_cases hn : n ≤ 65536 - (out.length : Int)
        · have d1 : decide (65536 - (out.length : Int) < n) = false := decide_eq_false (by omega)
          have hn1 := HNP.out rfl
          obtain ⟨N, rfl⟩ := Int.eq_ofNat_of_zero_le (show 0 ≤ n by omega)
          have HGN := Aside0.mk (show readG [] L = readG (out ++ List.replicate N (k, h)) (L.drop (i + 1)) by rw [HGG.out, if_pos ⟨rfl, hn⟩]; rfl)
          go_wp2_with fail
          go_loopw [44, 6] (fun cv ov wr2 => ∃ (c : Nat) (A2 : Option Addr) (c2 : Nat), c ≤ N ∧ cv = .int .i64 c ∧ ov = .slice A2 (out.length + c) c2 ∧ Aside0 (wr2.ownsRow w1.heap.size 55 2 (.slice A2 (out.length + c) c2) (out.length + c) ((out ++ List.replicate c (k, h)).flatMap encN)) ∧ Aside0 ((Value.slice A2 (out.length + c) c2).ownBlock ≠ some w2.heap.size) ∧ Aside0 (Blk wr2 w2.heap.size #[.int .i64 k, .int .i64 h] 55) ∧ Aside0 (Bw w1 wr2)) (fun cv _ _ => N - (intOf cv).toNat)
          case atStart =>
            refine ⟨0, A1, c1, by omega, rfl, rfl, ⟨by simpa using HO2.out.alloc (.cells #[.int .i64 k, .int .i64 h] 55)⟩, ⟨?_⟩, ⟨Blk.new w2 _ _⟩, ⟨HW2.out.alloc _⟩⟩
            intro e
            have := own_lt HO2.out _ e
            omega
          case round =>
            obtain ⟨c, A2, c2, hc, rfl, rfl, HO3, HNE, HK, HW3⟩ := hrel
            by_cases hcN : c < N
            · obtain ⟨x0, x1, xf, xl⟩ := two_cells HK.out
              go_wp2_with (at_builtin; go_loud (refine print_append_cells (w0 := w1) w1.heap.size rfl (.tmp 46) (.tmp 48) 52 55 (.agg #[.int .i64 0, .int .i64 0]) 2 16 rfl Tryd.underlying52 infoEn rfl (by omega) (by omega) (.slice A2 (out.length + c) c2) (out.length + c) _ [.int .i64 k, .int .i64 h] rfl rfl rfl (by simp [Value.oneCell']) HO3.out HW3.out HW3.out.size (by omega) ?_); intro v1 w4 hown4 hbel4 hg4 hat4)
              go_roundw
              case rel =>
                obtain ⟨g3, cap3, rfl, _, _⟩ := hown4.form (by omega)
                refine ⟨c + 1, some ⟨g3, 0, none⟩, cap3, by omega, by go_num, rfl, ⟨?_⟩, ⟨?_⟩, ⟨HK.out.of_block (hg4.block _ HK.out.lt (fun e => HNE.out e.symm))⟩, ⟨hbel4⟩⟩
                · rw [List.replicate_succ', ← List.append_assoc, List.flatMap_append]
                  exact hown4
                · intro e
                  rcases hat4 with h | ⟨b, h, hb⟩
                  · exact HNE.out (h.symm.trans e)
                  · have : b = w2.heap.size := Option.some.inj (h.symm.trans e)
                    have := HK.out.lt
                    omega
              case measure => simp [intOf]; omega
            · obtain rfl : c = N := by omega
              have hi1 := HI1.out
              have e1 : IntKind.i64.wrap ((i : Int) + 1) = (i : Int) + 1 := by rw [i64_wrap]; omega
              go_wp2_with fail
              go_roundw
              case rel =>
                refine ⟨i + 1, A2, c2, out ++ List.replicate c (k, h), by omega, by go_num, by rw [List.length_append, List.length_replicate], by rw [List.length_append, List.length_replicate]; omega, ⟨by rw [List.length_append, List.length_replicate]; exact HO3.out⟩, ⟨HGN.out.symm⟩, HW3⟩
              case measure => simp [intOf]; omega
        · have d1 : decide (65536 - (out.length : Int) < n) = true := decide_eq_true (by omega)
          have HN := Aside0.mk (show readF t = none by rw [HRF.out, HGG.out, if_neg (by rintro ⟨_, h⟩; exact hn h)])
          clear hn
          go_wp2_with fail
          go_ret2
          refine ⟨?_, (HB1.out.trans HW2.out).alloc _⟩
          rw [HN.out]
          rfl
    · obtain rfl : i = L.length := by omega
      have HGE := Aside0.mk (show readG [] L = some out by rw [← HG.out, List.drop_length]; rfl)
      obtain ⟨A2, c2, hv, hR⟩ := Rows.own (enc := encN) (sz := 2) (xs := out) (fun _ => rfl) HO.out rfl (own_len HO.out)
      injection hv with hv1 _ hv3
      subst hv1
      subst hv3
      have HR := Aside0.mk hR
      clear hR
      cases hal : out.all rightE
      · have HWR := Aside0.mk (Write_calls A1 c1 out wr ((HE.out.bw HB1.out).bw HW.out).tab HR.out ho)
        rw [hal] at HWR
        have HN := Aside0.mk (show readF t = none by rw [HRF.out, HGE.out]; dsimp only; rw [hal, if_neg (by rintro ⟨_, h, _⟩; cases h)])
        clear hal
        go_wp2_with fail
        refine (HWR.out).mono ?_
        rintro e w7 ⟨rfl, hb7⟩
        cases isL
        · go_wp2_with fail
          go_ret2
          refine ⟨?_, (HB1.out.trans HW.out).trans hb7⟩
          rw [HN.out]
          rfl
        · go_wp2_with fail
          go_ret2
          refine ⟨?_, (HB1.out.trans HW.out).trans hb7⟩
          rw [HN.out]
          rfl
      · obtain ⟨tx, htx⟩ : ∃ tx, tx = wrL 0 out := ⟨_, rfl⟩
        have HWR := Aside0.mk (Write_calls A1 c1 out wr ((HE.out.bw HB1.out).bw HW.out).tab HR.out ho)
        rw [hal, if_pos rfl, if_pos rfl, ← htx] at HWR
        cases isL
        · have HN := Aside0.mk (show readF t = none by rw [HRF.out, HGE.out]; dsimp only; rw [if_neg (by rintro ⟨h, _⟩; cases h)])
          clear hal htx
          go_wp2_with fail
          refine (HWR.out).mono ?_
          rintro e w7 ⟨rfl, hb7⟩
          go_wp2_with fail
          go_ret2
          refine ⟨?_, (HB1.out.trans HW.out).trans hb7⟩
          rw [HN.out]
          rfl
        · cases hq : (tx == t)
          · have HN := Aside0.mk (show readF t = none by rw [HRF.out, HGE.out]; dsimp only; rw [if_neg (by rintro ⟨_, _, h⟩; rw [htx, h] at hq; simp at hq)])
            clear hal htx
            go_wp2_with fail
            refine (HWR.out).mono ?_
            rintro e w7 ⟨rfl, hb7⟩
            go_wp2_with fail
            go_ret2
            refine ⟨?_, (HB1.out.trans HW.out).trans hb7⟩
            rw [HN.out]
            rfl
          · have HN := Aside0.mk (show readF t = some out by rw [HRF.out, HGE.out]; dsimp only; rw [if_pos ⟨rfl, hal, by rw [← htx]; exact beq_iff_eq.1 hq⟩])
            clear hal htx
            go_wp2_with fail
            refine (HWR.out).mono ?_
            rintro e w7 ⟨rfl, hb7⟩
            go_wp2_with fail
            go_ret2
            refine ⟨?_, (HB1.out.trans HW.out).trans hb7⟩
            rw [HN.out]
            exact ⟨_, rfl, own_weaken (pw_own_below HO.out hb7) HB1.out.size, ho⟩
end Go.Proofs.YtogpjimmcckkcaaDoor.M
