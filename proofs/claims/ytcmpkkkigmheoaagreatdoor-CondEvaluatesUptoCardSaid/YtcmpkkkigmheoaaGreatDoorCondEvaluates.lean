/- CondEvaluates: any request under any conditions: 200, 304 or 412, and whether its Range may be met; for what is of a bulk of at most 1048576; the package-level variables hold what the program lays (the card ties them). -/
import Derived.Test.YtcmpkkkigmheoaaGreatDoorRows
import Derived.Test.YtcmpkkkigmheoaaGreatDoorCards
import Derived.Test.YtcmpkkkigmheoaaGreatDoorTie
import Derived.Test.YtcmpkkkigmheoaaGreatDoorK1
import Derived.Test.YtcmpkkkigmheoaaGreatDoorK6
import Derived.OpenShut
import Derived.SevenTiedAt
import Derived.Test.YtcmpkkkigmheoaaGreatDoorK7
set_option linter.unusedVariables false
set_option linter.unusedSimpArgs false
namespace Go.Proofs.YtcmpkkkigmheoaaGreatDoor.condEvaluates
open Go Go.ChangeShapes Go.WideShapes Go.ChangeAt Go.RowKit Go.Proofs.YtcmpkkkigmheoaaGreatDoor.Cl Go.Proofs.YtcmpkkkigmheoaaGreatDoor.Sl
theorem own : ownKnob Tryz.prog.godebug = Option.none := by kernel_rfl
set_option maxRecDepth 100000 in
theorem contract (H : Type) (enc : TypeId × Value → H) (W : World) (base : Nat) (args : Array Value) (ds gs : List (DataW H)) (before : List MemPlace)
    (hval : ∀ (j : Nat) t v, Tryz.f3.params[j]? = some t → args[j]? = some v → Value.okWide Tryz.prog W .any base t v)
    (hW : DataW.Whole enc Tryz.prog Tryz.f3.params.toList Rows.condEvaluatesSpec.vars false W args.toList ds gs before) (hk : Rows.uptoSmall H (ds ++ gs) = true) (hL : laidMet Tryz.prog Rows.condEvaluatesUptoRow.laid W) :
    Calls Tryz.prog 3 args W fun e W' => ∃ v, e = .returned v ∧ Rows.condEvaluatesSpec.post enc Tryz.prog Tryz.f3 false true false false W args v W' := by
  have hW' := hW
  obtain ⟨p, q, hA0, hV, rfl, hfz, hnd⟩ := hW
  have hA : DataW.TrodAll enc Tryz.prog W 0 (fun _ => true) true Tryz.f3.params.toList args.toList ds p := hA0
  rw [Tryz.params3] at hA hval
  obtain ⟨v0, vs0, d0, ds0, p0, q0, hargs, rfl, rfl, h0, r0⟩ := trodAll_cons hA
  obtain ⟨v1, vs1, d1, ds1, p1, q1, rfl, rfl, rfl, h1, r1⟩ := trodAll_cons r0
  obtain ⟨v2, vs2, d2, ds2, p2, q2, rfl, rfl, rfl, h2, r2⟩ := trodAll_cons r1
  obtain ⟨v3, vs3, d3, ds3, p3, q3, rfl, rfl, rfl, h3, r3⟩ := trodAll_cons r2
  obtain ⟨rfl, rfl, rfl⟩ := trodAll_nil r3
  obtain rfl : args = #[v0, v1, v2, v3] := by cases args; simp_all
  obtain ⟨rfl, rfl⟩ := trodVars_none hV
  have hb : Rows.uptoBulkAll ([d0, d1, d2, d3] ++ []) ≤ 1048576 := of_decide_eq_true hk
  simp only [List.append_nil, bulk_cons, Rows.uptoBulkAll] at hb
  obtain ⟨x0, rfl, s0⟩ := FD.open_txt (by kernel_rfl) (hval 0 9 v0 rfl rfl) h0
  obtain ⟨ad1, cp1, l1, rfl, hA1, s1⟩ := FD.open_fds (hval 1 22 v1 rfl rfl) h1
  obtain ⟨e2, rfl, s2⟩ := FD.open_en (hval 2 26 v2 rfl rfl) h2
  obtain ⟨a3, rfl, rfl, rfl, w3⟩ := open_int Tryz.underlying3 (hval 3 3 v3 rfl rfl) h3
  refine (calls_of (FD.cn_pre (FD.condEvaluates (A := Sl.pu True) (hA1 _) (by omega)))).mono fun e W' ⟨he, hg⟩ => ⟨_, he, ?_⟩
  exact post_below (by kernel_rfl) (by kernel_rfl) rfl (by kernel_rfl) Tryz.underlying4 hW' rfl rfl rfl hg
theorem laid_met (os : Os) : laidMet Tryz.prog Rows.condEvaluatesUptoRow.laid ((World.laidAll Tryz.prog os Rows.condEvaluatesUptoRow.laid).forCall (fun _ _ => 0) ⟨#[], #[.string .empty, .slice Option.none 0 0, .agg #[.bool false, .string .empty, .int .i64 0, .bool false], .int .i64 0], []⟩).memory := laidMet_laidAll _ (by kernel_rfl) (by kernel_rfl)
theorem reads (os : Os) {H : Type} (enc : TypeId × Value → H) : ∃ places, DataW.whole enc Tryz.prog ((World.laidAll Tryz.prog os Rows.condEvaluatesUptoRow.laid).forCall (fun _ _ => 0) ⟨#[], #[.string .empty, .slice Option.none 0 0, .agg #[.bool false, .string .empty, .int .i64 0, .bool false], .int .i64 0], []⟩).memory Tryz.f3.params.toList Rows.condEvaluatesSpec.vars false (#[.string .empty, .slice Option.none 0 0, .agg #[.bool false, .string .empty, .int .i64 0, .bool false], .int .i64 0] : Array Value).toList 8 = some ([.lit (.string []), .nil, .agg [.agg [.lit (.bool false), .lit (.string [])], .lit (.int .i64 0), .lit (.bool false)], .lit (.int .i64 0)], [], places) :=
  ⟨[], by kernel_rfl⟩
set_option maxRecDepth 100000 in
theorem lifted (os : Os) (started : os.Started) (H : Type) (enc : TypeId × Value → H) (F : Stop.Interp) :
    ReturnsInHanded {} Tryz.checked os 3 .any ((Rows.OpenSpec.upto Rows.condEvaluatesSpec).preRow enc Tryz.prog Tryz.f3 Rows.condEvaluatesUptoRow.domain false Rows.condEvaluatesUptoRow.laid) (((Rows.OpenSpec.upto Rows.condEvaluatesSpec).at F).post enc Tryz.prog Tryz.f3 false true false false) := by
  obtain ⟨places, hx⟩ := reads os enc
  refine returnsInHanded_of_row (C := Tryz.checked) (s := Rows.OpenSpec.upto Rows.condEvaluatesSpec) own started (by kernel_rfl) Tryz.func3
    (FD.witness_row_shaped (enc := enc) (C := Tryz.checked) false (World.laidAll Tryz.prog os Rows.condEvaluatesUptoRow.laid) #[.string .empty, .slice Option.none 0 0, .agg #[.bool false, .string .empty, .int .i64 0, .bool false], .int .i64 0] (World.laidAll_os _ _ _) (World.shaped_of_ZipB (by kernel_rfl) (by kernel_rfl)) (by kernel_rfl)
      (OpenSpec.preRow_of_cond 8 hx (by kernel_rfl) (fun k hk => by cases hk; kernel_rfl) (by kernel_rfl) (by rw [MakeChecks.laidMetH_plain _ _ _ (by kernel_rfl)]; exact laid_met os))) ?_
  intro W base args ds gs before hval hW _ hcond _ hL _ _
  rw [MakeChecks.laidMetH_plain _ _ _ (by kernel_rfl)] at hL
  exact contract H enc W base args ds gs before hval hW (hcond _ rfl) hL
theorem said : Rows.CondEvaluatesUptoSaid :=
  OpenClaim.holds_of_cond 3 Tryz.f3 rfl rfl rfl rfl rfl rfl rfl ⟨rfl, rfl, rfl, rfl, rfl⟩ rfl rfl rfl rfl rfl (by kernel_rfl) Tryz.func3 (by kernel_rfl)
    (of_decide_eq_true (by kernel_rfl)) (by unfold Func.isWrapper; first | (rw [if_pos (by decide +kernel)]; kernel_rfl) | (rw [if_neg (by decide +kernel)]; exact ⟨rfl, rfl⟩))
    (fun os started H enc _ F => by rw [OpenClaim.pre_eq_preRow]; exact lifted os started H enc F)
theorem proved : Rows.CondEvaluatesUptoCardSaid :=
  Claim7.holds_tied_plain_at .later [] _ _ _ _ said (fun _ h => by cases h) (by kernel_rfl) (fun _ h => by cases h) condEvaluatesUpto_row_tie rfl ⟨rfl, rfl⟩ (by kernel_rfl) rfl
    (fun f fn hf hfn => by
      obtain rfl : f = 3 := Option.some.inj ((show Tryz.prog.funcNamed "gatehouse/gatehouselaw16.CondEvaluates" = some 3 by kernel_rfl).symm.trans hf) |>.symm
      obtain rfl : fn = Tryz.f3 := (Option.some.inj (Tryz.func3.symm.trans hfn)).symm
      exact ⟨by kernel_rfl, fun j t ht => by
        rw [Tryz.params3] at ht
        have hm : t ∈ [9, 22, 26, 3] := by simpa using Array.mem_of_getElem? ht
        have hall : ([9, 22, 26, 3].all fun u => !Tryz.prog.wantsStandIn u) = true := by kernel_rfl
        exact (show Tryz.prog.wantsStandIn t = false by simpa using List.all_eq_true.1 hall t hm)⟩)
    (by kernel_rfl)
end Go.Proofs.YtcmpkkkigmheoaaGreatDoor.condEvaluates
