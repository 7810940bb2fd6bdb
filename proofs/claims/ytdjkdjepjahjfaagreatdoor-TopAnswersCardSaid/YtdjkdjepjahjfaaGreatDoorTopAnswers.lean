/- TopAnswers: behind all that was sent, whatever befalls it, every request gets one answer, in order; nothing stands behind them, nobody is ready to be run, and there is one generation; the package-level variables hold what the program lays (the card ties them). -/
import Derived.Test.YtdjkdjepjahjfaaGreatDoorRows
import Derived.Test.YtdjkdjepjahjfaaGreatDoorCards
import Derived.Test.YtdjkdjepjahjfaaGreatDoorOwnTie
import Derived.Test.YtdjkdjepjahjfaaGreatDoorOwnFacts
import Derived.Test.YtdjkdjepjahjfaaGreatDoorK1
import Derived.Test.YtdjkdjepjahjfaaGreatDoorK8
import Derived.OpenShut
import Derived.SevenTiedAt
import Derived.Test.YtdjkdjepjahjfaaGreatDoorK2
set_option linter.unusedVariables false
set_option linter.unusedSimpArgs false
namespace Go.Proofs.YtdjkdjepjahjfaaGreatDoor.topAnswers
open Go Go.ChangeShapes Go.WideShapes Go.ChangeAt Go.RowKit Go.Proofs.YtdjkdjepjahjfaaGreatDoor.Cl Go.Proofs.YtdjkdjepjahjfaaGreatDoor.Sl
theorem Us : ownKnob Tryz.prog.godebug = Option.none := by kernel_rfl
set_option maxRecDepth 100000 in
theorem C8 (H : Type) (enc : TypeId × Value → H) (W : World) (base : Nat) (args : Array Value) (ds gs : List (DataW H)) (before : List MemPlace)
    (hval : ∀ (j : Nat) t v, Tryz.f4.params[j]? = some t → args[j]? = some v → Value.okWide Tryz.prog W .any base t v)
    (hW : DataW.Whole enc Tryz.prog Tryz.f4.params.toList Rows.topAnswersSpec.vars false W args.toList ds gs before) (hL : laidMet Tryz.prog Rows.topAnswersRow.laid W) :
    Calls Tryz.prog 4 args W fun e W' => ∃ v, e = .returned v ∧ Rows.topAnswersSpec.post enc Tryz.prog Tryz.f4 false true false false W args v W' := by
  have hW' := hW
  obtain ⟨p, q, hA0, hV, rfl, hfz, hnd⟩ := hW
  have hA : DataW.TrodAll enc Tryz.prog W 0 (fun _ => true) true Tryz.f4.params.toList args.toList ds p := hA0
  rw [Tryz.params4] at hA hval
  obtain ⟨v0, vs0, d0, ds0, p0, q0, hargs, rfl, rfl, h0, r0⟩ := trodAll_cons hA
  obtain ⟨v1, vs1, d1, ds1, p1, q1, rfl, rfl, rfl, h1, r1⟩ := trodAll_cons r0
  obtain ⟨v2, vs2, d2, ds2, p2, q2, rfl, rfl, rfl, h2, r2⟩ := trodAll_cons r1
  obtain ⟨rfl, rfl, rfl⟩ := trodAll_nil r2
  obtain rfl : args = #[v0, v1, v2] := by cases args; simp_all
  obtain ⟨rfl, rfl⟩ := trodVars_none hV
  obtain ⟨a0, rfl, rfl, rfl, w0⟩ := open_int Tryz.underlying3 (hval 0 3 v0 rfl rfl) h0
  obtain ⟨a1, c1, l1, rfl, n1, s1, b1, m1⟩ := Sl.yn (t := 22) (e := 3) (by kernel_rfl) (by kernel_rfl) (by kernel_rfl) (hval 1 22 v1 rfl rfl) h1
  obtain ⟨a2, rfl, rfl, rfl, w2⟩ := open_int Tryz.underlying3 (hval 2 3 v2 rfl rfl) h2
  haveI : FD.Gl W := FD.QX hL (by simp [Rows.topAnswersRow]); haveI : FD.Gp W := FD.QW hL (by simp [Rows.topAnswersRow])
  refine (Ac (TP.topAnswers s1)).mono fun e W' ⟨he, hg⟩ => ⟨_, he, ?_⟩
  exact vr fct_lo (by kernel_rfl) rfl (by kernel_rfl) Tryz.underlying4 hW' rfl rfl rfl hg
theorem C9 (os : Os) : laidMet Tryz.prog Rows.topAnswersRow.laid ((World.laidAll Tryz.prog os Rows.topAnswersRow.laid).forCall (fun _ _ => 0) ⟨#[], #[.int .i64 0, .slice Option.none 0 0, .int .i64 0], []⟩).memory := laidMet_laidAll _ (by kernel_rfl) (by kernel_rfl)
theorem QY (os : Os) {H : Type} (enc : TypeId × Value → H) : ∃ places, DataW.whole enc Tryz.prog ((World.laidAll Tryz.prog os Rows.topAnswersRow.laid).forCall (fun _ _ => 0) ⟨#[], #[.int .i64 0, .slice Option.none 0 0, .int .i64 0], []⟩).memory Tryz.f4.params.toList Rows.topAnswersSpec.vars false (#[.int .i64 0, .slice Option.none 0 0, .int .i64 0] : Array Value).toList 8 = some ([.lit (.int .i64 0), .nil, .lit (.int .i64 0)], [], places) :=
  ⟨[], by kernel_rfl⟩
set_option maxRecDepth 100000 in
theorem Ka (os : Os) (started : os.Started) (H : Type) (enc : TypeId × Value → H) (F : Stop.Interp) :
    ReturnsInHanded {} Tryz.checked os 4 .any ((OpenSpec.ofChange Rows.topAnswersSpec).preRow enc Tryz.prog Tryz.f4 Rows.topAnswersRow.domain false Rows.topAnswersRow.laid) (((OpenSpec.ofChange Rows.topAnswersSpec).at F).post enc Tryz.prog Tryz.f4 false true false false) := by
  obtain ⟨places, hx⟩ := QY os enc
  refine returnsInHanded_of_row (C := Tryz.checked) (s := OpenSpec.ofChange Rows.topAnswersSpec) Us started (by kernel_rfl) Tryz.func4
    (FD.lA (enc := enc) (C := Tryz.checked) false (World.laidAll Tryz.prog os Rows.topAnswersRow.laid) #[.int .i64 0, .slice Option.none 0 0, .int .i64 0] (World.laidAll_os _ _ _) (World.shaped_of_ZipB (by kernel_rfl) (by kernel_rfl)) (by kernel_rfl)
      (OpenSpec.preRow_of_cond 8 hx (by kernel_rfl) (fun k hk => by cases hk) (by kernel_rfl) (by rw [MakeChecks.laidMetH_plain _ _ _ (by kernel_rfl)]; exact C9 os))) ?_
  intro W base args ds gs before hval hW _ _ _ hL _ _
  rw [MakeChecks.laidMetH_plain _ _ _ (by kernel_rfl)] at hL
  exact C8 H enc W base args ds gs before hval hW hL
theorem U7 : Rows.TopAnswersSaid :=
  OpenClaim.holds_of_cond 4 Tryz.f4 rfl rfl rfl rfl rfl rfl rfl ⟨rfl, rfl, rfl, rfl, rfl⟩ rfl rfl rfl rfl rfl fct_afn Tryz.func4 fct_jf
    fct_inst fct_wrap
    (fun os started H enc _ F => by rw [OpenClaim.pre_eq_preRow]; exact Ka os started H enc F)
theorem proved : Rows.TopAnswersCardSaid :=
  Claim7.holds_tied_plain_at .later [] _ _ _ _ U7 (fun _ h => by cases h) (by kernel_rfl) (fun _ h => by cases h) topAnswers_row_tie rfl ⟨rfl, rfl⟩ (by kernel_rfl) rfl
    (fun f fn hf hfn => by
      obtain rfl : f = 4 := Option.some.inj (fct_afn.symm.trans hf) |>.symm
      obtain rfl : fn = Tryz.f4 := (Option.some.inj (Tryz.func4.symm.trans hfn)).symm
      exact ⟨by kernel_rfl, fun j t ht => by
        rw [Tryz.params4] at ht
        have hm : t ∈ [3, 22, 3] := by simpa using Array.mem_of_getElem? ht
        have hall : ([3, 22, 3].all fun u => !Tryz.prog.wantsStandIn u) = true := by kernel_rfl
        exact (show Tryz.prog.wantsStandIn t = false by simpa using List.all_eq_true.1 hall t hm)⟩)
    fct_gb
end Go.Proofs.YtdjkdjepjahjfaaGreatDoor.topAnswers
