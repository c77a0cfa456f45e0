/- The law CellAdds, walked: it answers true. Conditions: the arguments are of their kinds. -/
import Derived.Test.YtkmfbafgbaapiaaMcl
namespace Go.Proofs.Ytkmfbafgbaapiaa.M
open Go.RowKit Go.Proofs.YtkmfbafgbaapiaaW.PrintWords Go.Proofs.YtkmfbafgbaapiaaW.PrintLast Go.Proofs.YtkmfbafgbaapiaaW.PrintMore
set_option linter.unusedVariables false
set_option linter.unusedSimpArgs false

theorem IsMem.chg {w w1 : World} {base b : Nat} {v : Value} {m : MemS} {S : Nat → Prop} (h : IsMem w base b v m) (hc : Chg S w w1) (hd : ∀ i, MemF b v i → ¬ S i) : IsMem w1 base b v m :=
  ⟨h.1, h.2.1.of_block (hc.block b h.2.1.lt (hd b (.inl rfl))), own_of_block h.2.2.1 (fun k hk => hc.block k (own_lt h.2.2.1 k hk) (hd k (.inr hk))), h.2.2.2⟩
theorem IsMem.lt {w : World} {base b : Nat} {v : Value} {m : MemS} (h : IsMem w base b v m) : ∀ i, MemF b v i → i < w.heap.size := by
  rintro i (rfl | hi)
  · exact h.2.1.lt
  · exact own_lt h.2.2.1 i hi
theorem IsMem.ge {w : World} {base b : Nat} {v : Value} {m : MemS} (h : IsMem w base b v m) : ∀ i, MemF b v i → base ≤ i := by
  rintro i (rfl | hi)
  · exact h.1
  · exact own_base h.2.2.1 i hi
theorem IsMem.lower {w : World} {base base' b : Nat} {v : Value} {m : MemS} (h : IsMem w base b v m) (hb : base' ≤ base) : IsMem w base' b v m :=
  ⟨Nat.le_trans hb h.1, h.2.1, own_weaken h.2.2.1 hb, h.2.2.2⟩

def sumN (g : Nat → Int) : Nat → Int
  | 0 => 0
  | n + 1 => sumN g n + g n
theorem sumN_shift (g : Nat → Int) : ∀ n, sumN (fun i => g (i + 1)) n = sumN g n + g n - g 0
  | 0 => by simp [sumN]
  | n + 1 => by simp only [sumN, sumN_shift g n]; omega
theorem sumN_rot (f : Nat → Int) (n : Nat) (hn : 0 < n) : ∀ t, sumN (fun i => f ((i + t) % n)) n = sumN (fun i => f (i % n)) n
  | 0 => rfl
  | t + 1 => by
    have h := sumN_shift (fun i => f ((i + t) % n)) n
    have e : (fun i => f ((i + 1 + t) % n)) = fun i => f ((i + (t + 1)) % n) := by
      funext i
      rw [show i + 1 + t = i + (t + 1) by omega]
    simp only [e] at h
    rw [h, sumN_rot f n hn t]
    have : (n + t) % n = (0 + t) % n := by simp
    rw [this]
    omega
theorem sumN_congr (f g : Nat → Int) : ∀ n, (∀ i, i < n → f i = g i) → sumN f n = sumN g n
  | 0, _ => rfl
  | n + 1, h => by simp only [sumN]; rw [sumN_congr f g n (fun i hi => h i (by omega)), h n (by omega)]

/-- What stands in the memory's one word behind k adds. -/
def Part (first : Int) (g : Nat → Int) (k : Nat) (m : MemS) : Prop :=
  m.words = [if k = 0 then first else (first + sumN g k) % 4294967296] ∧ m.clock = k ∧ m.bad = 0
theorem Part.step {first : Int} {g : Nat → Int} {k : Nat} {m : MemS} (h : Part first g k m) (who : Int) : Part first g (k + 1) (m.add who 0 (g k)).1 := by
  obtain ⟨h1, h2, h3⟩ := h
  obtain ⟨_, a2, a3, a4⟩ := m.add_at who 0 (g k) (by rw [h1]; simp)
  refine ⟨?_, by rw [a3, h2]; omega, by rw [a4, h3]⟩
  rw [a2, h1]
  simp only [rd, Int.toNat_zero, List.getD_cons_zero, List.set_cons_zero, sumN, if_neg (Nat.succ_ne_zero k)]
  congr 1
  split
  · subst_vars; simp [sumN]
  · omega

theorem Part.ok {first : Int} {g : Nat → Int} {k : Nat} {m : MemS} (h : Part first g k m) (h0 : 0 ≤ first) (hk : k ≤ 1000) :
    (0 ≤ m.clock ∧ m.clock < 4611686018427387904) ∧ 0 ≤ rd m.words 0 ∧ (0 ≤ (0 : Int) ∧ (0 : Int) < m.words.length) := by
  obtain ⟨h1, h2, h3⟩ := h
  refine ⟨by omega, ?_, by rw [h1]; simp⟩
  rw [h1]
  simp only [rd, Int.toNat_zero, List.getD_cons_zero]
  split <;> omega
theorem Rows.of_blk {k : IntKind} {w : World} {b : Nat} {T : TypeId} (xs : List Int) (h : Blk w b (xs.map (Value.int k)).toArray T) (hl : xs.length ≤ 1000) : Rows (fun x => [Value.int k x]) 1 w (some ⟨b, 0, none⟩) xs := by
  refine ⟨by omega, fun _ => ⟨_, rfl, fun j x hx i v hv => ?_⟩⟩
  have hi : i = 0 := by have := (List.getElem?_eq_some_iff.1 hv).1; simpa using this
  subst hi
  simp at hv
  subst hv
  rw [add_plain]
  refine h.cell _ _ ?_
  simp [hx]

set_option maxHeartbeats 4000000 in
set_option maxRecDepth 100000 in
theorem CellAdds_core (first : Int) (h0 : 0 ≤ first) (h1 : first < 18446744073709551616) (A : Option Addr) (cap : Nat) (l : List Int) (t : Nat) (ht : t < 256) (w : World)
    (hl : Rows (fun x => [Value.int .u64 x]) 1 w A l) (hs : l.length ≤ 100) (hr : ∀ x ∈ l, 0 ≤ x ∧ x < 18446744073709551616) :
    Calls Try.prog 7 #[.int .u64 first, .slice A l.length cap, .int .u8 t] w fun e w' => e = .returned (.bool true) ∧ Bw w w' := by
  have HB := Aside0.mk (Bw.refl w)
  have HL := Aside0.mk hl
  have HR := Aside0.mk hr
  have H0 := Aside0.mk h0
  have H1 := Aside0.mk h1
  clear hl hr h0 h1
  have d1 : decide ((100 : Int) < (l.length : Int)) = false := by simp; omega
  go_enter Try.func7, Try.ntmps7
  go_wp2_with fail
  refine (Of_calls (some ⟨w.heap.size, 0, none⟩) 1 [first] _ (Rows.of_blk [first] (Blk.new w _ _) (by simp)) (by simp) (by simp)).mono ?_
  rintro e w1 ⟨ba, va, rfl, hMa, hb1⟩
  have HMa := Aside0.mk (hMa.lower (base' := w.heap.size) (by simp))
  have HW1 := Aside0.mk ((HB.out.alloc _).trans hb1)
  clear hMa hb1
  go_wp2_with fail
  refine (Of_calls (some ⟨w1.heap.size, 0, none⟩) 1 [first] _ (Rows.of_blk [first] (Blk.new w1 _ _) (by simp)) (by simp) (by simp)).mono ?_
  rintro e w2 ⟨bb, vb, rfl, hMb, hb2⟩
  have HMa2 := Aside0.mk ((HMa.out.bw ((Bw.refl w1).alloc _)).bw hb2)
  have HMb := Aside0.mk (hMb.lower (base' := w.heap.size) (by have := HW1.out.size; simp; omega))
  have HD := Aside0.mk (show ∀ i, MemF ba va i → MemF bb vb i → False from fun i ha hb => by
    have h1 := HMa.out.lt i ha
    have h2 := hMb.ge i hb
    simp at h2
    omega)
  have HW2 := Aside0.mk ((HW1.out.alloc _).trans hb2)
  clear hMb hb2 HMa HW1
  go_wp2_with fail
  go_loopw [11, 12] (fun sv iv wr => ∃ (k : Nat) (s : Int) (ma mb : MemS), k ≤ l.length ∧ 0 ≤ s ∧ iv = .int .i64 k ∧ sv = .int .u64 s ∧ Aside0 (s % 4294967296 = (first + sumN (fun i => l.getD i 0) k) % 4294967296) ∧ Aside0 (IsMem wr w.heap.size ba va ma ∧ Part first (fun i => l.getD i 0) k ma) ∧ Aside0 (IsMem wr w.heap.size bb vb mb ∧ Part first (fun i => l.getD ((i + t) % l.length) 0) k mb) ∧ Aside0 (Bw w wr)) (fun _ iv _ => l.length - (intOf iv).toNat)
  case atStart => exact ⟨0, first, memOf [first], memOf [first], by omega, H0.out, rfl, rfl, ⟨by simp [sumN]⟩, ⟨HMa2.out, rfl, rfl, rfl⟩, ⟨HMb.out, rfl, rfl, rfl⟩, HW2⟩
  case round =>
    obtain ⟨k, s, ma, mb, hk, hs0, rfl, rfl, HS, HA, HBm, HW⟩ := hrel
    by_cases hlt : k < l.length
    · obtain ⟨y, hy⟩ : ∃ y, l[k]? = some y := ⟨_, List.getElem?_eq_getElem hlt⟩
      have hq : (k + t) % l.length < l.length := Nat.mod_lt _ (by omega)
      obtain ⟨z, hz⟩ : ∃ z, l[(k + t) % l.length]? = some z := ⟨_, List.getElem?_eq_getElem hq⟩
      obtain ⟨ad, rfl, hck⟩ := (HL.out.bw HW.out).at1 k y hy
      obtain ⟨ad', he, hcz⟩ := (HL.out.bw HW.out).at1 _ z hz
      injection he with he
      subst he
      have hn0 : ((l.length : Int) == 0) = false := beq_eq_false_iff_ne.mpr (by omega)
      have r0 : 0 ≤ ((k : Int) + (t : Int)) % (l.length : Int) := Int.emod_nonneg _ (by omega)
      have r1 : ((k : Int) + (t : Int)) % (l.length : Int) < (l.length : Int) := Int.emod_lt_of_pos _ (by omega)
      have HY := Aside0.mk hy
      have HZ := Aside0.mk hz
      clear hy hz
      go_wp2_with fail
      have hyr := HR.out y (List.mem_of_getElem? HY.out)
      have hzr := HR.out z (List.mem_of_getElem? HZ.out)
      obtain ⟨p1, p2, p3⟩ := HA.out.2.ok H0.out (by omega)
      obtain ⟨q1, q2, q3⟩ := HBm.out.2.ok H0.out (by omega)
      have y0 := hyr.1
      have y1 := hyr.2
      have z0 := hzr.1
      have ey : (fun i => l.getD i 0) k = y := by simp [HY.out]
      have ez : (fun i => l.getD ((i + t) % l.length) 0) k = z := by simp [HZ.out]
      have EY := Aside0.mk ey
      have EZ := Aside0.mk ez
      clear hyr hzr ey ez
      refine (Add_in _ ba va ma k 0 y _ HA.out.1 p1 y0 p2 p3).mono ?_
      rintro e w3 ⟨rfl, hM3, hC3⟩
      have HM3 := Aside0.mk hM3
      have HN3 := Aside0.mk (HBm.out.1.chg hC3 (fun i hi hj => HD.out i hj hi))
      have HW3 := Aside0.mk (hC3.below HW.out HA.out.1.ge)
      have hc3 := (HL.out.bw HW3.out).at1 _ z HZ.out
      obtain ⟨ad', he, hcz3⟩ := hc3
      injection he with he
      subst he
      obtain ⟨ad', he, hck3⟩ := (HL.out.bw HW3.out).at1 _ y HY.out
      injection he with he
      subst he
      clear hM3 hC3 hck hcz p1 p2 p3
      go_wp2_with fail
      refine (Add_in _ bb vb mb (-(k : Int)) 0 z _ HN3.out q1 z0 q2 q3).mono ?_
      rintro e w4 ⟨rfl, hM4, hC4⟩
      have HM4 := Aside0.mk hM4
      have HN4 := Aside0.mk (HM3.out.chg hC4 (fun i hi hj => HD.out i hi hj))
      have HW4 := Aside0.mk (hC4.below HW3.out HN3.out.ge)
      obtain ⟨ad', he, hck4⟩ := (HL.out.bw HW4.out).at1 _ y HY.out
      injection he with he
      subst he
      clear hM4 hC4 hck3 hcz3 q1 q2 q3
      go_wp2_with fail
      go_roundw
      case rel =>
        refine ⟨k + 1, _, _, _, by omega, by rw [u64_wrap]; omega, by go_num, rfl, ⟨?_⟩, ⟨HN4.out, ?_⟩, ⟨HM4.out, ?_⟩, HW4⟩
        · have := HS.out
          rw [u64_wrap]
          simp only [sumN, HY.out]
          have e2 : l.getD k 0 = y := EY.out
          rw [e2]
          omega
        · have := HA.out.2.step k
          rw [EY.out] at this
          exact this
        · have := HBm.out.2.step (-(k : Int))
          rw [EZ.out] at this
          exact this
      case measure => simp [intOf]; omega
    · have hkl : k = l.length := by omega
      obtain ⟨p1, p2, p3⟩ := HA.out.2.ok H0.out (by omega)
      obtain ⟨q1, q2, q3⟩ := HBm.out.2.ok H0.out (by omega)
      have hS := HS.out
      subst hkl
      by_cases hl0 : l.length = 0
      · have dl : ((l.length : Int) == 0) = true := beq_iff_eq.mpr (by omega)
        have PA := Aside0.mk (show (ma.peek 0).1 = first ∧ (ma.peek 0).2 = true by
          unfold MemS.peek; rw [if_pos p3, HA.out.2.1, if_pos hl0]; exact ⟨rfl, rfl⟩)
        have PB := Aside0.mk (show (mb.peek 0).1 = first ∧ (mb.peek 0).2 = true by
          unfold MemS.peek; rw [if_pos q3, HBm.out.2.1, if_pos hl0]; exact ⟨rfl, rfl⟩)
        clear hl0 hS p1 p2 p3 q1 q2 q3
        go_wp2_with fail
        refine (Peek_calls _ ba va ma 0 _ HA.out.1).mono ?_
        rintro e w3 ⟨rfl, hb3⟩
        rw [PA.out.1, PA.out.2]
        have HBm3 := Aside0.mk (HBm.out.1.bw hb3)
        have HW3 := Aside0.mk (HW.out.trans hb3)
        go_wp2_with fail
        refine (Peek_calls _ bb vb mb 0 _ HBm3.out).mono ?_
        rintro e w4 ⟨rfl, hb4⟩
        rw [PB.out.1, PB.out.2]
        have HW4 := Aside0.mk (HW3.out.trans hb4)
        go_wp2_with fail
        refine (cawake_calls _).mono ?_
        rintro e w5 ⟨rfl, hb5⟩
        go_wp2_with fail
        go_ret
        exact ⟨by first | rfl | simp, HW4.out.trans hb5⟩
      · have dl : ((l.length : Int) == 0) = false := beq_eq_false_iff_ne.mpr (by omega)
        have hrot := sumN_rot (fun i => l.getD i 0) l.length (by omega) t
        have hcg := sumN_congr (fun i => l.getD (i % l.length) 0) (fun i => l.getD i 0) l.length (fun i hi => by rw [Nat.mod_eq_of_lt hi])
        have PA := Aside0.mk (show (ma.peek 0).1 = s % 4294967296 ∧ (ma.peek 0).2 = true by
          unfold MemS.peek; rw [if_pos p3, HA.out.2.1, if_neg hl0, hS]; exact ⟨rfl, rfl⟩)
        have PB := Aside0.mk (show (mb.peek 0).1 = s % 4294967296 ∧ (mb.peek 0).2 = true by
          unfold MemS.peek; rw [if_pos q3, HBm.out.2.1, if_neg hl0, hS]; exact ⟨by rw [hrot, hcg]; rfl, rfl⟩)
        clear hl0 hS p1 p2 p3 q1 q2 q3 hrot hcg
        go_wp2_with fail
        refine (Peek_calls _ ba va ma 0 _ HA.out.1).mono ?_
        rintro e w3 ⟨rfl, hb3⟩
        rw [PA.out.1, PA.out.2]
        have HBm3 := Aside0.mk (HBm.out.1.bw hb3)
        have HW3 := Aside0.mk (HW.out.trans hb3)
        go_wp2_with fail
        refine (Peek_calls _ bb vb mb 0 _ HBm3.out).mono ?_
        rintro e w4 ⟨rfl, hb4⟩
        rw [PB.out.1, PB.out.2]
        have HW4 := Aside0.mk (HW3.out.trans hb4)
        go_wp2_with fail
        refine (cawake_calls _).mono ?_
        rintro e w5 ⟨rfl, hb5⟩
        go_wp2_with fail
        go_ret
        exact ⟨by first | rfl | simp, HW4.out.trans hb5⟩

theorem CellAdds_walk (w : World) (first : Int) (wf : (Lit.int .u64 first).wf = true) (a : Option Addr) (n cap : Nat) (f : RdRow [.int .u64] w a n cap) (y : n * 8 ≤ 140737488351232) (t : Int) (wt : (Lit.int .u8 t).wf = true) :
    Calls Try.prog 7 #[.int .u64 first, .slice a n cap, .int .u8 t] w fun e w' => e = .returned (.bool true) ∧ Bw w w' := by
  obtain ⟨xs, rfl, hx, hxw⟩ := rd_ints f
  obtain ⟨h0, h1⟩ := wf_u64 wf
  obtain ⟨t0, t1⟩ := wf_u8 wt
  obtain ⟨t, rfl⟩ := Int.eq_ofNat_of_zero_le t0
  by_cases hl : xs.length ≤ 100
  · exact CellAdds_core first h0 h1 a cap xs t (by omega) w hx hl (fun x hx => wf_u64 (hxw x hx))
  · have HB := Aside0.mk (Bw.refl w)
    have d1 : decide ((100 : Int) < (xs.length : Int)) = true := by simp; omega
    clear f hx hxw wf wt h0 h1 t0 t1
    go_enter Try.func7, Try.ntmps7
    go_wp2_with fail
    refine (cawake_calls _).mono ?_
    rintro e w1 ⟨rfl, hb1⟩
    go_wp2_with fail
    go_ret
    exact ⟨rfl, HB.out.trans hb1⟩
end Go.Proofs.Ytkmfbafgbaapiaa.M
