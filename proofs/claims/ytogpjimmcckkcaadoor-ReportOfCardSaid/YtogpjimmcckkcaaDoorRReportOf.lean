/- The law ReportOf: whatever the input, it answers true, and its arguments read as they did; its card. Conditions: none. Out of the walk ReportOf_walk. -/
import Derived.Lay
import Derived.Stop.LaidErr
import Derived.MakeChecks
import Derived.Test.YtogpjimmcckkcaaDoorCards
import Derived.Test.YtogpjimmcckkcaaDoorTie
import Derived.Test.YtogpjimmcckkcaaDoorMvf
import Derived.WalkKit
import Derived.ProofKit
import Derived.OpenShut
import Derived.ShutString
import Derived.ChangeOld
import Derived.Below
import Derived.SizedLaws
import Derived.Deep.DeepHandedRow
import Derived.Lib.LaidTab
import Derived.LaidSub
import Derived.Test.YtogpjimmcckkcaaDoorMr
namespace Go.Proofs.YtogpjimmcckkcaaDoor.reportOf
open Go.ChangeShapes Go.WideShapes Go.ChangeAt Go.RowKit Go.Proofs.YtogpjimmcckkcaaDoor.M
open Go.ChangeMaps (open_string shut_string)
set_option linter.unusedVariables false
set_option linter.unusedSimpArgs false
theorem own : ownKnob Tryd.prog.godebug = none := by kernel_rfl
theorem laidOut : laidOutB Tryd.prog = true := by kernel_rfl
theorem gPow : Tryd.prog.globalNamed "internal/strconv.uint64pow10" = some 2 := by kernel_rfl
theorem gPowType : (Tryd.prog.globals[2]?).map (·.type) = some 138 := by kernel_rfl
theorem cellsT : Tryd.prog.cellsOf 138 = 20 := by kernel_rfl
theorem cellsE : Tryd.prog.cellsOf 26 = 1 := by kernel_rfl
theorem onlyPow : (Rows.reportOfRow.laid.filter fun x => x.1 == "internal/strconv.uint64pow10") = [("internal/strconv.uint64pow10", Lib.tabData .u64 Lib.pow10Tab)] := by kernel_rfl
theorem table {W : World} (h : laidMetH Tryd.prog Rows.reportOfRow.laid W) : Tab W := by
  have h1 := laidMetH.filter (fun x => x.1 == "internal/strconv.uint64pow10") h
  rw [onlyPow] at h1
  exact Lib.tabIs_of_head (rest := []) gPow gPowType Tryd.underlying138 Tryd.underlying26 cellsE cellsT h1
theorem cellsTe : Tryd.prog.cellsOf 168 = 1 := by kernel_rfl
theorem cellsTs : Tryd.prog.cellsOf 9 = 1 := by kernel_rfl
theorem star : "*" ++ "errors.errorString" = "*errors.errorString" := by decide
theorem rowTp (u : TypeId) (h : Tryd.prog.typeName? 3 u = some "*errors.errorString") : u = 166 :=
  typeName_ptr_named (nm := "errors.errorString") (by rw [star]; kernel_rfl) (by kernel_rfl) (by decide) u (by rw [star]; exact h)
theorem gES : Tryd.prog.globalNamed "strconv.ErrSyntax" = some 3 := by kernel_rfl
theorem gESType : (Tryd.prog.globals[3]?).map (·.type) = some 93 := by kernel_rfl
theorem onlyES : (Rows.reportOfRow.laid.filter fun x => x.1 == "strconv.ErrSyntax") = [("strconv.ErrSyntax", .iface "*errors.errorString" (.ptr (.agg [.lit (.string [105, 110, 118, 97, 108, 105, 100, 32, 115, 121, 110, 116, 97, 120])])))] := by kernel_rfl
theorem cellES {W : World} (h : laidMetH Tryd.prog Rows.reportOfRow.laid W) : ∃ tp p, W.cell? ⟨3, 0, none⟩ = some (.iface tp p) := by
  have h1 := laidMetH.filter (fun x => x.1 == "strconv.ErrSyntax") h
  rw [onlyES, MakeChecks.laidMetH_plain _ _ _ (by kernel_rfl)] at h1
  obtain ⟨a0, s0, hv0, -, -, -⟩ := laid_sentinel h1 gES gESType Tryd.underlying93 rowTp Tryd.underlying166 Tryd.underlying168 rfl rfl Tryd.underlying9 cellsTe cellsTs
  have h0 := World.var?_cell gES hv0 0
  exact ⟨_, _, by simpa using h0⟩
theorem gER : Tryd.prog.globalNamed "strconv.ErrRange" = some 4 := by kernel_rfl
theorem gERType : (Tryd.prog.globals[4]?).map (·.type) = some 93 := by kernel_rfl
theorem onlyER : (Rows.reportOfRow.laid.filter fun x => x.1 == "strconv.ErrRange") = [("strconv.ErrRange", .iface "*errors.errorString" (.ptr (.agg [.lit (.string [118, 97, 108, 117, 101, 32, 111, 117, 116, 32, 111, 102, 32, 114, 97, 110, 103, 101])])))] := by kernel_rfl
theorem cellER {W : World} (h : laidMetH Tryd.prog Rows.reportOfRow.laid W) : ∃ tp p, W.cell? ⟨4, 0, none⟩ = some (.iface tp p) := by
  have h1 := laidMetH.filter (fun x => x.1 == "strconv.ErrRange") h
  rw [onlyER, MakeChecks.laidMetH_plain _ _ _ (by kernel_rfl)] at h1
  obtain ⟨a0, s0, hv0, -, -, -⟩ := laid_sentinel h1 gER gERType Tryd.underlying93 rowTp Tryd.underlying166 Tryd.underlying168 rfl rfl Tryd.underlying9 cellsTe cellsTs
  have h0 := World.var?_cell gER hv0 0
  exact ⟨_, _, by simpa using h0⟩
theorem env {W : World} (h : laidMetH Tryd.prog Rows.reportOfRow.laid W) (hs : W.ShapedOpen Tryd.prog) : Env W :=
  ⟨table h, cellES h, cellER h, Go.Proofs.cell_of_shapedOpen_int (zero := #[.int .i64 0]) (t := 3) hs (of_decide_eq_true (by kernel_rfl)) (by kernel_rfl) rfl (by kernel_rfl) (by kernel_rfl) Tryd.underlying3⟩
theorem gK : Tryd.prog.globalNamed "turnspit/report.kinds" = some 0 := by kernel_rfl
theorem gKType : (Tryd.prog.globals[0]?).map (·.type) = some 82 := by kernel_rfl
def kindWords : List (List UInt8) := [[], [115, 116, 97, 114, 116], [115, 112, 97, 119, 110], [114, 101, 102, 117, 115, 101, 100], [121, 105, 101, 108, 100], [112, 114, 101, 101, 109, 112, 116], [112, 97, 114, 107], [114, 101, 97, 100, 121], [101, 110, 116, 101, 114], [114, 101, 116, 117, 114, 110], [113, 117, 101, 117, 101], [101, 120, 105, 116]]
theorem onlyK : (Rows.reportOfRow.laid.filter fun x => x.1 == "turnspit/report.kinds") = [("turnspit/report.kinds", .agg (kindWords.map fun s => .lit (.string s)))] := by kernel_rfl
theorem kindWords_at : ∀ k : Nat, k < 12 → kindWords[k]? = some (evW k)
  | 0, _ => rfl
  | 1, _ => rfl
  | 2, _ => rfl
  | 3, _ => rfl
  | 4, _ => rfl
  | 5, _ => rfl
  | 6, _ => rfl
  | 7, _ => rfl
  | 8, _ => rfl
  | 9, _ => rfl
  | 10, _ => rfl
  | 11, _ => rfl
  | q + 12, h => absurd h (by omega)
theorem envR {W : World} (h : laidMetH Tryd.prog Rows.reportOfRow.laid W) (hs : W.ShapedOpen Tryd.prog) : EnvR W := by
  refine ⟨env h hs, fun k hk => ?_⟩
  have h1 := laidMetH.filter (fun x => x.1 == "turnspit/report.kinds") h
  rw [onlyK, MakeChecks.laidMetH_plain _ _ _ (by kernel_rfl)] at h1
  exact strTab gK gKType Tryd.underlying82 Tryd.underlying9 cellsTs h1 k (evW k) (kindWords_at k hk)
set_option maxRecDepth 100000 in
theorem contract (H : Type) (enc : TypeId × Value → H) (W : World) (base : Nat) (args : Array Value) (ds gs : List (DataW H)) (before : List MemPlace)
    (hval0 : ∀ (j : Nat) t v, Tryd.f6.params[j]? = some t → args[j]? = some v → Value.okWide Tryd.prog W .any base t v)
    (hW : DataW.Whole enc Tryd.prog Tryd.f6.params.toList Rows.reportOfSpec.vars false W args.toList ds gs before)
    (hsz0 : (DataW.weightsEach Tryd.prog (Tryd.f6.params.toList ++ Rows.reportOfSpec.plain.varTypes Tryd.prog) (ds ++ gs)).all (· ≤ reachBytes) = true) (hL : laidMetH Tryd.prog Rows.reportOfRow.laid W) (hsh : W.ShapedOpen Tryd.prog) :
    Calls Tryd.prog 6 args W fun e W' => ∃ v, e = .returned v ∧ Rows.reportOfSpec.post enc Tryd.prog Tryd.f6 false true false false W args v W' := by
  have hsz := hsz0
  have hval := hval0
  have hW' := hW
  obtain ⟨p, q, hA0, hV, rfl, hfz, hnd⟩ := hW
  have hA : DataW.TrodAll enc Tryd.prog W 0 (fun _ => true) true Tryd.f6.params.toList args.toList ds p := hA0
  rw [Tryd.params6] at hA hval hsz
  obtain ⟨v0, vs0, d0, ds0, p0, q0, hargs, rfl, rfl, h0, r0⟩ := trodAll_cons hA
  obtain ⟨v1, vs1, d1, ds1, p1, q1, rfl, rfl, rfl, h1, r1⟩ := trodAll_cons r0
  obtain ⟨v2, vs2, d2, ds2, p2, q2, rfl, rfl, rfl, h2, r2⟩ := trodAll_cons r1
  obtain ⟨rfl, rfl, rfl⟩ := trodAll_nil r2
  obtain rfl : args = #[v0, v1, v2] := by cases args; simp_all
  obtain ⟨rfl, rfl⟩ := trodVars_none hV
  have k0 := h0
  have lt0 : ∀ x ∈ p0, x.block < W.heap.size := by obtain ⟨m, hm⟩ := k0; exact DataW.trod_lt m _ _ _ hm
  obtain ⟨a0, len0, cap0, rfl⟩ := okWide_slice Tryd.underlying37 (hval 0 37 v0 rfl rfl)
  have f0 := open_rows (ks := [.int .i64, .int .i64, .int .i64, .int .i64, .int .i64]) (m := 9) Tryd.underlying37 (by kernel_rfl) (by kernel_rfl) h0
  have y0 : len0 * 40 ≤ 140737488351232 := sized_rows hsz (j := 0) (t := 37) rfl rfl Tryd.underlying37 (by kernel_rfl) h0
  obtain ⟨a1, rfl, rfl, rfl, w1⟩ := open_int Tryd.underlying3 (hval 1 3 v1 rfl rfl) h1
  obtain ⟨a2, rfl, rfl, rfl, y2⟩ := open_string Tryd.underlying9 (hval 2 9 v2 rfl rfl) h2
  have w2 : a2.size ≤ 140737488351232 := by
    have z := sized_string hsz (j := 2) (t := 9) rfl rfl
    rw [Array.length_toList] at z
    exact z
  clear hA0 hval0 hsz0 hsz
  refine (ReportOf_walk W (envR hL hsh) a0 len0 cap0 f0 y0 a1 w1 a2 w2).mono fun e W' ⟨he, bel⟩ => ?_
  subst he
  exact ⟨_, rfl, _, _, _, [], _, [], hW', trodAll_mk1 (shut_bool Tryd.underlying4 _), (trodAll_cons_mk (Below.trod laidOut (by kernel_rfl) (of_decide_eq_true (by kernel_rfl)) k0 bel lt0) (trodAll_cons_mk (shut_int Tryd.underlying3 w1) (trodAll_cons_mk (shut_string Tryd.underlying9 y2) trodAll_mk0))), rfl, bel.frame _, fun h => by cases h⟩
/-- A world for the witness: the settled one, the listed variables as their initialisers lay them. -/
noncomputable def laidWorld (os : Os) : World := World.laidAll Tryd.prog os Rows.reportOfRow.laid
theorem laid_met (os : Os) : laidMetH Tryd.prog Rows.reportOfRow.laid ((laidWorld os).forCall (fun _ _ => 0) ⟨#[], #[.slice none 0 0, .int .i64 0, .string ⟨#[]⟩], []⟩).memory := by
  rw [MakeChecks.laidMetH_plain _ _ _ (by kernel_rfl)]
  exact laidMet_laidAll _ (by kernel_rfl) (by kernel_rfl)
theorem reads (os : Os) {H : Type} (enc : TypeId × Value → H) : ∃ places, DataW.whole enc Tryd.prog ((laidWorld os).forCall (fun _ _ => 0) ⟨#[], #[.slice none 0 0, .int .i64 0, .string ⟨#[]⟩], []⟩).memory Tryd.f6.params.toList Rows.reportOfSpec.vars false (#[.slice none 0 0, .int .i64 0, .string ⟨#[]⟩] : Array Value).toList 8 = some ([.nil, .lit (.int .i64 0), .lit (.string [])], [], places) :=
  ⟨[], by kernel_rfl⟩
set_option maxRecDepth 100000 in
theorem lifted (os : Os) (started : os.Started) (H : Type) (enc : TypeId × Value → H) (F : Stop.Interp) :
    ReturnsInHanded {} Tryd.checked os 6 .any ((OpenSpec.ofChange Rows.reportOfSpec).preRow enc Tryd.prog Tryd.f6 Rows.reportOfRow.domain false Rows.reportOfRow.laid) (((OpenSpec.ofChange Rows.reportOfSpec).at F).post enc Tryd.prog Tryd.f6 false true false false) := by
  obtain ⟨places, hx⟩ := reads os enc
  refine returnsInHanded_of_row (C := Tryd.checked) (s := OpenSpec.ofChange Rows.reportOfSpec) own started (by kernel_rfl) Tryd.func6
    (witness_row_at (enc := enc) (C := Tryd.checked) false (laidWorld os) #[.slice none 0 0, .int .i64 0, .string ⟨#[]⟩] (World.laidAll_os _ _ _) (by kernel_rfl) (by kernel_rfl) (by kernel_rfl)
      (OpenSpec.preRow_of_cond 8 hx (by kernel_rfl) (fun k hk => by cases hk) (by kernel_rfl) (laid_met os))) ?_
  intro W base args ds gs before hval hW _ _ hsz hL hsh _
  exact contract H enc W base args ds gs before hval hW hsz hL hsh
theorem said : Rows.ReportOfSaid :=
  OpenClaim.holds_of_cond 6 Tryd.f6 rfl rfl rfl rfl rfl rfl rfl ⟨rfl, rfl, rfl, rfl, rfl⟩ rfl rfl rfl rfl rfl (by kernel_rfl) Tryd.func6 (by kernel_rfl)
    (of_decide_eq_true (by kernel_rfl)) (by unfold Func.isWrapper; first | (rw [if_pos (by decide +kernel)]; kernel_rfl) | (rw [if_neg (by decide +kernel)]; exact ⟨rfl, rfl⟩))
    (fun os started H enc _ F => by rw [OpenClaim.pre_eq_preRow]; exact lifted os started H enc F)
theorem wants3 : Tryd.pinned.checked.prog.wantsStandIn 3 = false := by kernel_rfl
theorem wants9 : Tryd.pinned.checked.prog.wantsStandIn 9 = false := by kernel_rfl
theorem wants37 : Tryd.pinned.checked.prog.wantsStandIn 37 = false := by kernel_rfl
theorem plain (f : FuncId) (fn : Func) (hf : Tryd.pinned.checked.prog.funcNamed "turnspit/turnspitlaw34.ReportOf" = some f) (hfn : Tryd.pinned.checked.prog.funcs[f]? = some fn) :
    true = Tryd.pinned.checked.prog.looks [] ∧ ∀ (j : Nat) t, fn.params[j]? = some t → Tryd.pinned.checked.prog.wantsStandIn t = false := by
  obtain rfl : f = 6 := Option.some.inj ((show Tryd.prog.funcNamed "turnspit/turnspitlaw34.ReportOf" = some 6 by kernel_rfl).symm.trans hf) |>.symm
  obtain rfl : fn = Tryd.f6 := (Option.some.inj (Tryd.func6.symm.trans hfn)).symm
  refine ⟨by kernel_rfl, fun j t ht => ?_⟩
  rw [Tryd.params6] at ht
  have hm := Array.mem_of_getElem? ht
  simp at hm
  rcases hm with rfl | rfl | rfl
  all_goals first | with_reducible exact wants3 | with_reducible exact wants9 | with_reducible exact wants37
theorem card : Rows.ReportOfCardSaid :=
  Claim7.holds_tied_plain_at .later [] _ _ _ _ said (fun _ h => by cases h) (by kernel_rfl) (fun _ h => by cases h) reportOf_row_tie rfl ⟨rfl, rfl⟩ (by kernel_rfl) rfl plain (by kernel_rfl)
end Go.Proofs.YtogpjimmcckkcaaDoor.reportOf
namespace Go.Proofs.YtogpjimmcckkcaaDoor
/-- The card, under a short name, for the claim. -/
theorem reportOf_holds : Rows.ReportOfCardSaid := reportOf.card
end Go.Proofs.YtogpjimmcckkcaaDoor
