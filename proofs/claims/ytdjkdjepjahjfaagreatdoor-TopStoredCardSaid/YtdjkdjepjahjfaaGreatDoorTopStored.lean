/- TopStored: what is answered out of the cache is, byte for byte, what the upstream answered last for that target, and it is younger than it may be; else the upstream is asked; the package-level variables hold what the program lays (the card ties them). -/
import Derived.Test.YtdjkdjepjahjfaaGreatDoorRows
import Derived.Test.YtdjkdjepjahjfaaGreatDoorCards
import Derived.Test.YtdjkdjepjahjfaaGreatDoorOwnTie
import Derived.Test.YtdjkdjepjahjfaaGreatDoorOwnFacts
import Derived.Test.YtdjkdjepjahjfaaGreatDoorK1
import Derived.Test.YtdjkdjepjahjfaaGreatDoorK8
import Derived.OpenShut
import Derived.SevenTiedAt
import Derived.Test.YtdjkdjepjahjfaaGreatDoorK2
set_option linter.unusedVariables false
set_option linter.unusedSimpArgs false
namespace Go.Proofs.YtdjkdjepjahjfaaGreatDoor.topStored
open Go Go.ChangeShapes Go.WideShapes Go.ChangeAt Go.RowKit Go.Proofs.YtdjkdjepjahjfaaGreatDoor.Cl Go.Proofs.YtdjkdjepjahjfaaGreatDoor.Sl
theorem S_ : ownKnob Tryz.prog.godebug = Option.none := by kernel_rfl
set_option maxRecDepth 100000 in
theorem Dd (H : Type) (enc : TypeId × Value → H) (W : World) (base : Nat) (args : Array Value) (ds gs : List (DataW H)) (before : List MemPlace)
    (hval : ∀ (j : Nat) t v, Tryz.f3.params[j]? = some t → args[j]? = some v → Value.okWide Tryz.prog W .any base t v)
    (hW : DataW.Whole enc Tryz.prog Tryz.f3.params.toList Rows.topStoredSpec.vars false W args.toList ds gs before) (hL : laidMet Tryz.prog Rows.topStoredRow.laid W) :
    Calls Tryz.prog 3 args W fun e W' => ∃ v, e = .returned v ∧ Rows.topStoredSpec.post enc Tryz.prog Tryz.f3 false true false false W args v W' := by
  have hW' := hW
  obtain ⟨p, q, hA0, hV, rfl, hfz, hnd⟩ := hW
  have hA : DataW.TrodAll enc Tryz.prog W 0 (fun _ => true) true Tryz.f3.params.toList args.toList ds p := hA0
  rw [Tryz.params3] at hA hval
  obtain ⟨v0, vs0, d0, ds0, p0, q0, hargs, rfl, rfl, h0, r0⟩ := trodAll_cons hA
  obtain ⟨v1, vs1, d1, ds1, p1, q1, rfl, rfl, rfl, h1, r1⟩ := trodAll_cons r0
  obtain ⟨v2, vs2, d2, ds2, p2, q2, rfl, rfl, rfl, h2, r2⟩ := trodAll_cons r1
  obtain ⟨v3, vs3, d3, ds3, p3, q3, rfl, rfl, rfl, h3, r3⟩ := trodAll_cons r2
  obtain ⟨rfl, rfl, rfl⟩ := trodAll_nil r3
  obtain rfl : args = #[v0, v1, v2, v3] := by cases args; simp_all
  obtain ⟨rfl, rfl⟩ := trodVars_none hV
  obtain ⟨a0, c0, l0, rfl, n0, s0, b0, m0⟩ := Sl.nt (t := 22) (e := 3) (by kernel_rfl) (by kernel_rfl) (by kernel_rfl) (hval 0 22 v0 rfl rfl) h0
  obtain ⟨a1, c1, l1, rfl, n1, s1, b1, m1⟩ := Sl.nt (t := 22) (e := 3) (by kernel_rfl) (by kernel_rfl) (by kernel_rfl) (hval 1 22 v1 rfl rfl) h1
  obtain ⟨a2, c2, l2, rfl, n2, s2, b2, m2⟩ := Sl.nt (t := 22) (e := 3) (by kernel_rfl) (by kernel_rfl) (by kernel_rfl) (hval 2 22 v2 rfl rfl) h2
  obtain ⟨a3, rfl, rfl, rfl, w3⟩ := open_int Tryz.underlying3 (hval 3 3 v3 rfl rfl) h3
  haveI : FD.Gl W := FD.QZ hL (by simp [Rows.topStoredRow]); haveI : FD.Gp W := FD.QY hL (by simp [Rows.topStoredRow])
  refine (As (TP.topStored s0 s1 s2)).mono fun e W' ⟨he, hg⟩ => ⟨_, he, ?_⟩
  exact vN fct_lo (by kernel_rfl) rfl (by kernel_rfl) Tryz.underlying4 hW' rfl rfl rfl hg
theorem De (os : Os) : laidMet Tryz.prog Rows.topStoredRow.laid ((World.laidAll Tryz.prog os Rows.topStoredRow.laid).forCall (fun _ _ => 0) ⟨#[], #[.slice Option.none 0 0, .slice Option.none 0 0, .slice Option.none 0 0, .int .i64 0], []⟩).memory := laidMet_laidAll _ (by kernel_rfl) (by kernel_rfl)
theorem Q0 (os : Os) {H : Type} (enc : TypeId × Value → H) : ∃ places, DataW.whole enc Tryz.prog ((World.laidAll Tryz.prog os Rows.topStoredRow.laid).forCall (fun _ _ => 0) ⟨#[], #[.slice Option.none 0 0, .slice Option.none 0 0, .slice Option.none 0 0, .int .i64 0], []⟩).memory Tryz.f3.params.toList Rows.topStoredSpec.vars false (#[.slice Option.none 0 0, .slice Option.none 0 0, .slice Option.none 0 0, .int .i64 0] : Array Value).toList 8 = some ([.nil, .nil, .nil, .lit (.int .i64 0)], [], places) :=
  ⟨[], by kernel_rfl⟩
set_option maxRecDepth 100000 in
theorem JD (os : Os) (started : os.Started) (H : Type) (enc : TypeId × Value → H) (F : Stop.Interp) :
    ReturnsInHanded {} Tryz.checked os 3 .any ((OpenSpec.ofChange Rows.topStoredSpec).preRow enc Tryz.prog Tryz.f3 Rows.topStoredRow.domain false Rows.topStoredRow.laid) (((OpenSpec.ofChange Rows.topStoredSpec).at F).post enc Tryz.prog Tryz.f3 false true false false) := by
  obtain ⟨places, hx⟩ := Q0 os enc
  refine returnsInHanded_of_row (C := Tryz.checked) (s := OpenSpec.ofChange Rows.topStoredSpec) S_ started (by kernel_rfl) Tryz.func3
    (FD.lW (enc := enc) (C := Tryz.checked) false (World.laidAll Tryz.prog os Rows.topStoredRow.laid) #[.slice Option.none 0 0, .slice Option.none 0 0, .slice Option.none 0 0, .int .i64 0] (World.laidAll_os _ _ _) (World.shaped_of_ZipB (by kernel_rfl) (by kernel_rfl)) (by kernel_rfl)
      (OpenSpec.preRow_of_cond 8 hx (by kernel_rfl) (fun k hk => by cases hk) (by kernel_rfl) (by rw [MakeChecks.laidMetH_plain _ _ _ (by kernel_rfl)]; exact De os))) ?_
  intro W base args ds gs before hval hW _ _ _ hL _ _
  rw [MakeChecks.laidMetH_plain _ _ _ (by kernel_rfl)] at hL
  exact Dd H enc W base args ds gs before hval hW hL
theorem Vf : Rows.TopStoredSaid :=
  OpenClaim.holds_of_cond 3 Tryz.f3 rfl rfl rfl rfl rfl rfl rfl ⟨rfl, rfl, rfl, rfl, rfl⟩ rfl rfl rfl rfl rfl fct_afn Tryz.func3 fct_jf
    fct_inst fct_wrap
    (fun os started H enc _ F => by rw [OpenClaim.pre_eq_preRow]; exact JD os started H enc F)
theorem proved : Rows.TopStoredCardSaid :=
  Claim7.holds_tied_plain_at .later [] _ _ _ _ Vf (fun _ h => by cases h) (by kernel_rfl) (fun _ h => by cases h) topStored_row_tie rfl ⟨rfl, rfl⟩ (by kernel_rfl) rfl
    (fun f fn hf hfn => by
      obtain rfl : f = 3 := Option.some.inj (fct_afn.symm.trans hf) |>.symm
      obtain rfl : fn = Tryz.f3 := (Option.some.inj (Tryz.func3.symm.trans hfn)).symm
      exact ⟨by kernel_rfl, fun j t ht => by
        rw [Tryz.params3] at ht
        have hm : t ∈ [22, 22, 22, 3] := by simpa using Array.mem_of_getElem? ht
        have hall : ([22, 22, 22, 3].all fun u => !Tryz.prog.wantsStandIn u) = true := by kernel_rfl
        exact (show Tryz.prog.wantsStandIn t = false by simpa using List.all_eq_true.1 hall t hm)⟩)
    fct_gb
end Go.Proofs.YtdjkdjepjahjfaaGreatDoor.topStored
