/- FieldsTags: any text as an entity tag, and as a list of them; two tags, compared; for texts of a bulk of at most 1048576; the package-level variables hold what the program lays (the card ties them). -/
import Derived.Test.YtcigoifhcfbcdaaDoorRows
import Derived.Test.YtcigoifhcfbcdaaDoorCards
import Derived.Test.YtcigoifhcfbcdaaDoorTie
import Derived.Test.YtcigoifhcfbcdaaDoorClose
import Derived.Test.YtcigoifhcfbcdaaDoorLaid
import Derived.OpenShut
import Derived.SevenTiedAt
import Derived.Test.YtcigoifhcfbcdaaDoorFieldsTags0
set_option linter.unusedVariables false
set_option linter.unusedSimpArgs false
namespace Go.Proofs.YtcigoifhcfbcdaaDoor.fieldsTags
open Go Go.ChangeShapes Go.WideShapes Go.ChangeAt Go.RowKit Go.Proofs.YtcigoifhcfbcdaaDoor.Cl Go.Proofs.YtcigoifhcfbcdaaDoor.Sl
theorem own : ownKnob Tryd.prog.godebug = Option.none := by kernel_rfl
set_option maxRecDepth 100000 in
theorem contract (H : Type) (enc : TypeId × Value → H) (W : World) (base : Nat) (args : Array Value) (ds gs : List (DataW H)) (before : List MemPlace)
    (hval : ∀ (j : Nat) t v, Tryd.f7.params[j]? = some t → args[j]? = some v → Value.okWide Tryd.prog W .any base t v)
    (hW : DataW.Whole enc Tryd.prog Tryd.f7.params.toList Rows.fieldsTagsSpec.vars false W args.toList ds gs before) (hk : Rows.uptoSmall H (ds ++ gs) = true) (hL : laidMet Tryd.prog Rows.fieldsTagsUptoRow.laid W) :
    Calls Tryd.prog 7 args W fun e W' => ∃ v, e = .returned v ∧ Rows.fieldsTagsSpec.post enc Tryd.prog Tryd.f7 false true false false W args v W' := by
  have hW' := hW
  obtain ⟨p, q, hA0, hV, rfl, hfz, hnd⟩ := hW
  have hA : DataW.TrodAll enc Tryd.prog W 0 (fun _ => true) true Tryd.f7.params.toList args.toList ds p := hA0
  rw [Tryd.params7] at hA hval
  obtain ⟨v0, vs0, d0, ds0, p0, q0, hargs, rfl, rfl, h0, r0⟩ := trodAll_cons hA
  obtain ⟨v1, vs1, d1, ds1, p1, q1, rfl, rfl, rfl, h1, r1⟩ := trodAll_cons r0
  obtain ⟨v2, vs2, d2, ds2, p2, q2, rfl, rfl, rfl, h2, r2⟩ := trodAll_cons r1
  obtain ⟨rfl, rfl, rfl⟩ := trodAll_nil r2
  obtain rfl : args = #[v0, v1, v2] := by cases args; simp_all
  obtain ⟨rfl, rfl⟩ := trodVars_none hV
  have hb : Rows.uptoBulkAll ([d0, d1, d2] ++ []) ≤ 1048576 := of_decide_eq_true hk
  simp only [List.append_nil, bulk_cons, Rows.uptoBulkAll] at hb
  obtain ⟨x0, rfl, s0⟩ := FD.open_txt (by kernel_rfl) (hval 0 9 v0 rfl rfl) h0
  obtain ⟨x1, rfl, s1⟩ := FD.open_tag (hval 1 36 v1 rfl rfl) h1
  obtain ⟨x2, rfl, s2⟩ := FD.open_tag (hval 2 36 v2 rfl rfl) h2
  refine (calls_of (@FD.fieldsTags W (FD.gl_of hL (by simp [Rows.fieldsTagsUptoRow])) x0 x1 x2 (by omega) (by omega) (by omega))).mono fun e W' ⟨he, hg⟩ => ⟨_, he, ?_⟩
  exact post_below (by kernel_rfl) (by kernel_rfl) rfl (by kernel_rfl) Tryd.underlying4 hW' rfl rfl rfl hg
theorem laid_met (os : Os) : laidMet Tryd.prog Rows.fieldsTagsUptoRow.laid ((World.laidAll Tryd.prog os Rows.fieldsTagsUptoRow.laid).forCall (fun _ _ => 0) ⟨#[], #[.string .empty, .agg #[.bool false, .string .empty], .agg #[.bool false, .string .empty]], []⟩).memory := laidMet_laidAll _ (by kernel_rfl) (by kernel_rfl)
theorem reads (os : Os) {H : Type} (enc : TypeId × Value → H) : ∃ places, DataW.whole enc Tryd.prog ((World.laidAll Tryd.prog os Rows.fieldsTagsUptoRow.laid).forCall (fun _ _ => 0) ⟨#[], #[.string .empty, .agg #[.bool false, .string .empty], .agg #[.bool false, .string .empty]], []⟩).memory Tryd.f7.params.toList Rows.fieldsTagsSpec.vars false (#[.string .empty, .agg #[.bool false, .string .empty], .agg #[.bool false, .string .empty]] : Array Value).toList 8 = some ([.lit (.string []), .agg [.lit (.bool false), .lit (.string [])], .agg [.lit (.bool false), .lit (.string [])]], [], places) :=
  ⟨[], by kernel_rfl⟩
set_option maxRecDepth 100000 in
theorem lifted (os : Os) (started : os.Started) (H : Type) (enc : TypeId × Value → H) (F : Stop.Interp) :
    ReturnsInHanded {} Tryd.checked os 7 .any ((Rows.OpenSpec.upto Rows.fieldsTagsSpec).preRow enc Tryd.prog Tryd.f7 Rows.fieldsTagsUptoRow.domain false Rows.fieldsTagsUptoRow.laid) (((Rows.OpenSpec.upto Rows.fieldsTagsSpec).at F).post enc Tryd.prog Tryd.f7 false true false false) := by
  obtain ⟨places, hx⟩ := reads os enc
  refine returnsInHanded_of_row (C := Tryd.checked) (s := Rows.OpenSpec.upto Rows.fieldsTagsSpec) own started (by kernel_rfl) Tryd.func7
    (FD.witness_row_shaped (enc := enc) (C := Tryd.checked) false (World.laidAll Tryd.prog os Rows.fieldsTagsUptoRow.laid) #[.string .empty, .agg #[.bool false, .string .empty], .agg #[.bool false, .string .empty]] (World.laidAll_os _ _ _) (World.shaped_of_ZipB (by kernel_rfl) (by kernel_rfl)) (by kernel_rfl)
      (OpenSpec.preRow_of_cond 8 hx (by kernel_rfl) (fun k hk => by cases hk; kernel_rfl) (by kernel_rfl) (by rw [MakeChecks.laidMetH_plain _ _ _ (by kernel_rfl)]; exact laid_met os))) ?_
  intro W base args ds gs before hval hW _ hcond _ hL _ _
  rw [MakeChecks.laidMetH_plain _ _ _ (by kernel_rfl)] at hL
  exact contract H enc W base args ds gs before hval hW (hcond _ rfl) hL
theorem said : Rows.FieldsTagsUptoSaid :=
  OpenClaim.holds_of_cond 7 Tryd.f7 rfl rfl rfl rfl rfl rfl rfl ⟨rfl, rfl, rfl, rfl, rfl⟩ rfl rfl rfl rfl rfl (by kernel_rfl) Tryd.func7 (by kernel_rfl)
    (of_decide_eq_true (by kernel_rfl)) (by unfold Func.isWrapper; first | (rw [if_pos (by decide +kernel)]; kernel_rfl) | (rw [if_neg (by decide +kernel)]; exact ⟨rfl, rfl⟩))
    (fun os started H enc _ F => by rw [OpenClaim.pre_eq_preRow]; exact lifted os started H enc F)
theorem proved : Rows.FieldsTagsUptoCardSaid :=
  Claim7.holds_tied_plain_at .later [] _ _ _ _ said (fun _ h => by cases h) (by kernel_rfl) (fun _ h => by cases h) fieldsTagsUpto_row_tie rfl ⟨rfl, rfl⟩ (by kernel_rfl) rfl
    (fun f fn hf hfn => by
      obtain rfl : f = 7 := Option.some.inj ((show Tryd.prog.funcNamed "gatehouse/gatehouselaw10.FieldsTags" = some 7 by kernel_rfl).symm.trans hf) |>.symm
      obtain rfl : fn = Tryd.f7 := (Option.some.inj (Tryd.func7.symm.trans hfn)).symm
      exact ⟨by kernel_rfl, fun j t ht => by
        rw [Tryd.params7] at ht
        have hm : t ∈ [9, 36, 36] := by simpa using Array.mem_of_getElem? ht
        have hall : ([9, 36, 36].all fun u => !Tryd.prog.wantsStandIn u) = true := by kernel_rfl
        exact (show Tryd.prog.wantsStandIn t = false by simpa using List.all_eq_true.1 hall t hm)⟩)
    (by kernel_rfl)
end Go.Proofs.YtcigoifhcfbcdaaDoor.fieldsTags
