/- Report: the law ReportLines. Condition: what the library's variables and the words' table hold. -/
import Derived.Test.YtogpjimmcckkcaaDoorMv8
import Derived.Test.YtogpjimmcckkcaaDoorMva
namespace Go.Proofs.YtogpjimmcckkcaaDoor.M
open Go.RowKit Go.Proofs.YtogpjimmcckkcaaDoorW.PrintWords Go.Proofs.YtogpjimmcckkcaaDoorW.PrintLast Go.Proofs.YtogpjimmcckkcaaDoorW.PrintMore
set_option linter.unusedVariables false
set_option linter.unusedSimpArgs false
theorem lineR_short (e : Rep) (hr : rightR e = true) : (lineR e).length ≤ 200000 := by
  obtain ⟨⟨hk0, hk1⟩, ⟨hg0, hg1⟩, ⟨ho0, ho1⟩, ⟨ht0, ht1⟩, ⟨hp0, hp1⟩⟩ := rightR_range hr
  unfold lineR
  have h0 := evW_len e.k.toNat
  have nl : ∀ (c : UInt8) (n : Int) (m : Nat), n < m → (namedL c n).length ≤ m + 5 := fun c n m h => by
    unfold namedL
    split
    · simp
    · have := dec_len n.toNat
      simp only [List.length_cons]
      omega
  have h1 := nl 103 e.g 65536 (by omega)
  have h2 := nl 103 e.o 65536 (by omega)
  have h3 := nl 116 e.t 256 (by omega)
  have h4 := nl 112 e.p 64 (by omega)
  simp only [List.length_append, List.length_singleton]
  omega
theorem one_rows (w : World) (e : Rep) : Rows encR 5 (w.alloc (.cells (encR e).toArray 34)) (some ⟨w.heap.size, 0, none⟩) [e] := by
  have h : (w.alloc (.cells (encR e).toArray 34)).ownsRow w.heap.size 34 5 (.slice (some ⟨w.heap.size, 0, none⟩) 1 1) 1 ([e].flatMap encR) := ⟨rfl, .inr ⟨_, 1, (encR e).toArray, rfl, Nat.le_refl _, Blk.new w _ _, Nat.le_refl _, by decide, rfl, rfl⟩⟩
  obtain ⟨A, c, e', hR⟩ := Rows.own (enc := encR) (xs := [e]) (fun _ => rfl) h rfl (by simp)
  injection e' with e1 _ _
  rw [e1]
  exact hR
set_option maxHeartbeats 1000000 in
theorem ReportLines_list (k g o t p : Int) (w : World) (he : EnvR w) : Calls Tryd.prog 4 #[.agg #[.int .i64 k, .int .i64 g, .int .i64 o, .int .i64 t, .int .i64 p]] w fun e w' => e = .returned (.bool true) ∧ Bw w w' := by
  have HE := Aside0.mk he
  have HB := Aside0.mk ((Bw.refl w).alloc (.cells #[.int .i64 k, .int .i64 g, .int .i64 o, .int .i64 t, .int .i64 p] 34))
  have HK := Aside0.mk (Blk.new w #[.int .i64 k, .int .i64 g, .int .i64 o, .int .i64 t, .int .i64 p] 34)
  have HLN := Aside0.mk (fun W (hW : EnvR W) => repLine_calls k g o t p W hW)
  have HRR := Aside0.mk (fun W => refRep_calls k g o t p W)
  have HR1 := Aside0.mk (fun W => repRight_calls k g o t p W)
  cases hr : rightR ⟨k, g, o, t, p⟩
  · rw [hr] at HLN HRR HR1
    clear he hr
    go_enter Tryd.func4, Tryd.ntmps4
    go_wp2_with fail
    refine (HLN.out _ (HE.out.bw HB.out)).mono ?_
    rintro e w1 ⟨rfl, hb1⟩
    have HK := Aside0.mk (HK.out.bw hb1)
    have HB := Aside0.mk (HB.out.trans hb1)
    obtain ⟨c0, c1, c2, c3, c4, cl⟩ := five_cells HK.out
    clear hb1
    go_wp2_with fail
    refine (HRR.out _).mono ?_
    rintro e w2 ⟨rfl, hb2⟩
    have HK := Aside0.mk (HK.out.bw hb2)
    have HB := Aside0.mk (HB.out.trans hb2)
    obtain ⟨c0, c1, c2, c3, c4, cl⟩ := five_cells HK.out
    clear hb2
    go_wp2_with fail
    refine (rawake_calls _ (HE.out.bw HB.out)).mono ?_
    rintro e w3 ⟨rfl, hb3⟩
    have HK := Aside0.mk (HK.out.bw hb3)
    have HB := Aside0.mk (HB.out.trans hb3)
    obtain ⟨c0, c1, c2, c3, c4, cl⟩ := five_cells HK.out
    clear hb3
    go_wp2_with fail
    refine (HR1.out _).mono ?_
    rintro e w4 ⟨rfl, hb4⟩
    have HB := Aside0.mk (HB.out.trans hb4)
    clear hb4
    go_wp2_with fail
    go_ret
    exact ⟨rfl, HB.out⟩
  · rw [hr, if_pos rfl] at HLN
    rw [hr] at HRR HR1
    have hln := lineR_short _ hr
    have HRD := Aside0.mk (fun W (hW : EnvR W) => repRead_calls (lineR ⟨k, g, o, t, p⟩) W hW (by omega))
    have h1 : readR (lineR ⟨k, g, o, t, p⟩) = some [⟨k, g, o, t, p⟩] := by
      have := readR_lines [⟨k, g, o, t, p⟩] (by rw [List.all_cons, hr]; rfl) (by simp)
      rwa [List.flatMap_cons, List.flatMap_nil, List.append_nil] at this
    rw [h1] at HRD
    have HRF := Aside0.mk (fun W => refLineR_calls k g o t p W hr)
    obtain ⟨s, hs⟩ : ∃ s, s = lineR ⟨k, g, o, t, p⟩ := ⟨_, rfl⟩
    rw [← hs] at HLN HRD HRF
    clear he hr hs hln h1
    go_enter Tryd.func4, Tryd.ntmps4
    go_wp2_with fail
    refine (HLN.out _ (HE.out.bw HB.out)).mono ?_
    rintro e w1 ⟨rfl, hb1⟩
    have HK := Aside0.mk (HK.out.bw hb1)
    have HB := Aside0.mk (HB.out.trans hb1)
    obtain ⟨c0, c1, c2, c3, c4, cl⟩ := five_cells HK.out
    clear hb1
    go_wp2_with fail
    refine (HRR.out _).mono ?_
    rintro e w2 ⟨rfl, hb2⟩
    have HK := Aside0.mk (HK.out.bw hb2)
    have HB := Aside0.mk (HB.out.trans hb2)
    obtain ⟨c0, c1, c2, c3, c4, cl⟩ := five_cells HK.out
    clear hb2
    go_wp2_with fail
    refine (HRD.out _ (HE.out.bw HB.out)).mono ?_
    rintro e w3 ⟨⟨v, rfl, hown, _⟩, hb3⟩
    obtain ⟨A2, c2', rfl, hR⟩ := Rows.own (enc := encR) (sz := 5) (xs := [⟨k, g, o, t, p⟩]) (fun _ => rfl) hown rfl (own_len hown)
    have HRW := Aside0.mk hR
    have HK := Aside0.mk (HK.out.bw hb3)
    have HB := Aside0.mk (HB.out.trans hb3)
    obtain ⟨c0, c1, c2, c3, c4, cl⟩ := five_cells HK.out
    clear hb3 hown hR
    go_wp2_with fail
    refine (rawake_calls _ (HE.out.bw HB.out)).mono ?_
    rintro e w4 ⟨rfl, hb4⟩
    have HRW := Aside0.mk (HRW.out.bw hb4)
    have HK := Aside0.mk (HK.out.bw hb4)
    have HB := Aside0.mk (HB.out.trans hb4)
    obtain ⟨c0, c1, c2, c3, c4, cl⟩ := five_cells HK.out
    clear hb4
    go_wp2_with fail
    refine (HR1.out _).mono ?_
    rintro e w5 ⟨rfl, hb5⟩
    have HRW := Aside0.mk (HRW.out.bw hb5)
    have HK := Aside0.mk (HK.out.bw hb5)
    have HB := Aside0.mk (HB.out.trans hb5)
    obtain ⟨c0, c1, c2, c3, c4, cl⟩ := five_cells HK.out
    clear hb5
    go_wp2_with fail
    refine (HRF.out _).mono ?_
    rintro e w6 ⟨rfl, hb6⟩
    have HRW := Aside0.mk (HRW.out.bw hb6)
    have HK := Aside0.mk (HK.out.bw hb6)
    have HB := Aside0.mk (HB.out.trans hb6)
    obtain ⟨c0, c1, c2, c3, c4, cl⟩ := five_cells HK.out
    clear hb6
    go_wp2_with fail
    refine (Same_calls A2 (some ⟨w6.heap.size, 0, none⟩) c2' 1 [⟨k, g, o, t, p⟩] _ (HRW.out.bw ((Bw.refl _).alloc _)) (one_rows w6 ⟨k, g, o, t, p⟩) (by simp)).mono ?_
    rintro e w7 ⟨rfl, hb7⟩
    have HB := Aside0.mk ((HB.out.alloc _).trans hb7)
    clear hb7
    go_wp2_with fail
    go_ret
    exact ⟨by simp, HB.out⟩
theorem ReportLines_walk (w : World) (he : EnvR w) (cs : List Value) (f : Fits [.int .i64, .int .i64, .int .i64, .int .i64, .int .i64] cs) : Calls Tryd.prog 4 #[.agg cs.toArray] w fun e w' => e = .returned (.bool true) ∧ Bw w w' := by
  obtain ⟨k, _, rfl, _, h1⟩ := f.int
  obtain ⟨g, _, rfl, _, h2⟩ := h1.int
  obtain ⟨o, _, rfl, _, h3⟩ := h2.int
  obtain ⟨t, _, rfl, _, h4⟩ := h3.int
  obtain ⟨p, _, rfl, _, h5⟩ := h4.int
  obtain rfl := h5.nil
  exact ReportLines_list k g o t p w he
end Go.Proofs.YtogpjimmcckkcaaDoor.M
