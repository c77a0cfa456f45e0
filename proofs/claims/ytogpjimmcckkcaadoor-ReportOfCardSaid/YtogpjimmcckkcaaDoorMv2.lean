/- Report: an event's line; the kind of a word. Condition: what the library's variables and the words' table hold. -/
import Derived.Test.YtogpjimmcckkcaaDoorMv1
namespace Go.Proofs.YtogpjimmcckkcaaDoor.M
open Go.RowKit Go.Proofs.YtogpjimmcckkcaaDoorW.PrintWords Go.Proofs.YtogpjimmcckkcaaDoorW.PrintLast Go.Proofs.YtogpjimmcckkcaaDoorW.PrintMore
set_option linter.unusedVariables false
set_option linter.unusedSimpArgs false
def lineR (e : Rep) : List UInt8 := evW e.k.toNat ++ namedL 103 e.g ++ namedL 103 e.o ++ namedL 116 e.t ++ namedL 112 e.p ++ [10]
theorem evW_len (k : Nat) : (evW k).length ≤ 7 := by unfold evW; split <;> decide
theorem namedL_len (c : UInt8) (n : Int) (h1 : n < 65536) : (namedL c n).length ≤ 65540 := by
  unfold namedL
  split
  · simp
  · have := dec_len n.toNat
    simp only [List.length_cons]
    omega
theorem rightR_range {e : Rep} (h : rightR e = true) : (1 ≤ e.k ∧ e.k < 12) ∧ (0 ≤ e.g ∧ e.g < 65536) ∧ (-1 ≤ e.o ∧ e.o < 65536) ∧ (0 ≤ e.t ∧ e.t < 256) ∧ (-1 ≤ e.p ∧ e.p < 64) := by
  unfold rightR belowB at h
  simp at h
  omega
set_option maxHeartbeats 1000000 in
theorem repLine_calls (k g o t p : Int) (w : World) (he : EnvR w) : Calls Tryd.prog 17 #[.agg #[.int .i64 k, .int .i64 g, .int .i64 o, .int .i64 t, .int .i64 p]] w fun e w' => e = .returned (.tuple #[strV (if rightR ⟨k, g, o, t, p⟩ = true then lineR ⟨k, g, o, t, p⟩ else []), .bool (rightR ⟨k, g, o, t, p⟩)]) ∧ Bw w w' := by
  have HE := Aside0.mk he
  have HB := Aside0.mk ((Bw.refl w).alloc (.cells #[.int .i64 k, .int .i64 g, .int .i64 o, .int .i64 t, .int .i64 p] 34))
  have HK := Aside0.mk (Blk.new w #[.int .i64 k, .int .i64 g, .int .i64 o, .int .i64 t, .int .i64 p] 34)
  have HR := Aside0.mk (fun W => repRight_calls k g o t p W)
  cases hr : rightR ⟨k, g, o, t, p⟩
  · rw [hr] at HR
    clear hr he
    go_enter Tryd.func17, Tryd.ntmps17
    go_wp2_with fail
    refine (HR.out _).mono ?_
    rintro e w1 ⟨rfl, hb1⟩
    have HB := Aside0.mk (HB.out.trans hb1)
    clear hb1
    go_wp2_with fail
    go_ret2
    exact ⟨rfl, HB.out⟩
  · rw [hr] at HR
    have hrg := rightR_range hr
    dsimp only at hrg
    obtain ⟨⟨hk0, hk1⟩, ⟨hg0, hg1⟩, ⟨ho0, ho1⟩, ⟨ht0, ht1⟩, ⟨hp0, hp1⟩⟩ := hrg
    obtain ⟨K, rfl⟩ := Int.eq_ofNat_of_zero_le (show 0 ≤ k by omega)
    have HS := Aside0.mk (fun W (hW : EnvR W) => hW.kinds K (by omega))
    have HG := Aside0.mk (fun W (hW : EnvR W) => named_calls 103 g W hW.env.tab (by omega) hg1)
    have HO := Aside0.mk (fun W (hW : EnvR W) => named_calls 103 o W hW.env.tab (by omega) ho1)
    have HT := Aside0.mk (fun W (hW : EnvR W) => named_calls 116 t W hW.env.tab (by omega) (by omega))
    have HP := Aside0.mk (fun W (hW : EnvR W) => named_calls 112 p W hW.env.tab (by omega) (by omega))
    have hl1 := namedL_len 103 g hg1
    have hl2 := namedL_len 103 o ho1
    have hl3 := namedL_len 116 t (by omega)
    have hl4 := namedL_len 112 p (by omega)
    have hl0 := evW_len K
    have HL : Aside0 (lineR ⟨(K : Int), g, o, t, p⟩ = evW K ++ namedL 103 g ++ namedL 103 o ++ namedL 116 t ++ namedL 112 p ++ [10]) := ⟨rfl⟩
    obtain ⟨y0, hy0⟩ : ∃ y, y = evW K := ⟨_, rfl⟩
    obtain ⟨y1, hy1⟩ : ∃ y, y = namedL 103 g := ⟨_, rfl⟩
    obtain ⟨y2, hy2⟩ : ∃ y, y = namedL 103 o := ⟨_, rfl⟩
    obtain ⟨y3, hy3⟩ : ∃ y, y = namedL 116 t := ⟨_, rfl⟩
    obtain ⟨y4, hy4⟩ : ∃ y, y = namedL 112 p := ⟨_, rfl⟩
    rw [← hy0] at HS hl0
    rw [← hy1] at HG hl1
    rw [← hy2] at HO hl2
    rw [← hy3] at HT hl3
    rw [← hy4] at HP hl4
    rw [← hy0, ← hy1, ← hy2, ← hy3, ← hy4] at HL
    have q0 : ¬ (9223372036854775807 < y0.length + y1.length) := by omega
    have q1 : ¬ (9223372036854775807 < y0.length + y1.length + y2.length) := by omega
    have q2 : ¬ (9223372036854775807 < y0.length + y1.length + y2.length + y3.length) := by omega
    have q3 : ¬ (9223372036854775807 < y0.length + y1.length + y2.length + y3.length + y4.length) := by omega
    have q4 : ¬ (9223372036854775807 < y0.length + y1.length + y2.length + y3.length + y4.length + 1) := by omega
    clear hr he hy0 hy1 hy2 hy3 hy4 hg0 hg1 ho0 ho1 ht0 ht1 hp0 hp1
    go_enter Tryd.func17, Tryd.ntmps17
    go_wp2_with fail
    refine (HR.out _).mono ?_
    rintro e w1 ⟨rfl, hb1⟩
    have HK := Aside0.mk (HK.out.bw hb1)
    have HB := Aside0.mk (HB.out.trans hb1)
    have HE1 := Aside0.mk (HE.out.bw HB.out)
    clear hb1
    have kc : ∀ q : BwW w1, q.W.cell? ⟨0, K, none⟩ = some (strV y0) := fun q => HS.out _ (HE1.out.bw q.h)
    obtain ⟨a0, a1, a2, a3, a4, cl⟩ := five_cells HK.out
    have c0 : ∀ q : BwW w1, q.W.cell? ⟨w.heap.size, 0, none⟩ = some (.int .i64 (K : Int)) := fun q => q.cell a0
    have c1 : ∀ q : BwW w1, q.W.cell? ⟨w.heap.size, 1, none⟩ = some (.int .i64 g) := fun q => q.cell a1
    have c2 : ∀ q : BwW w1, q.W.cell? ⟨w.heap.size, 2, none⟩ = some (.int .i64 o) := fun q => q.cell a2
    have c3 : ∀ q : BwW w1, q.W.cell? ⟨w.heap.size, 3, none⟩ = some (.int .i64 t) := fun q => q.cell a3
    have c4 : ∀ q : BwW w1, q.W.cell? ⟨w.heap.size, 4, none⟩ = some (.int .i64 p) := fun q => q.cell a4
    clear a0 a1 a2 a3 a4
    have HG1 := Aside0.mk (fun q : BwW w1 => HG.out q.W (HE1.out.bw q.h))
    have HO1 := Aside0.mk (fun q : BwW w1 => HO.out q.W (HE1.out.bw q.h))
    have HT1 := Aside0.mk (fun q : BwW w1 => HT.out q.W (HE1.out.bw q.h))
    have HP1 := Aside0.mk (fun q : BwW w1 => HP.out q.W (HE1.out.bw q.h))
    go_wp2_with fail
    refine wp_region_bw (by kernel_rfl) (by kernel_rfl) ?_
    repeat (first | go_big_quiet_skip | (go_big_quiet_want; go_big_quiet_op; first | go_big_quiet_on | go_big_quiet_call (first | (with_reducible exact qcall (HG1.out _)) | (with_reducible exact qcall (HO1.out _)) | (with_reducible exact qcall (HT1.out _)) | (with_reducible exact qcall (HP1.out _)))))
    refine wpQuiet_nil ?_
    rintro w2 ⟨⟨_, hb2⟩, rfl⟩
    go_wp2_with fail
    go_ret2
    rw [HL.out]
    refine ⟨?_, HB.out.trans hb2⟩
    simp only [str_two]
    simp
end Go.Proofs.YtogpjimmcckkcaaDoor.M
