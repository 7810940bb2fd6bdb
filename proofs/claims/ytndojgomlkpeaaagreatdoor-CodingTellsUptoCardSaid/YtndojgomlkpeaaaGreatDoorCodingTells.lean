/- CodingTells: what any response is without its coding, as the document says, where what comes in is of at most 1048576 bytes together and the package variables listed read as the row says. -/
import Derived.Test.YtndojgomlkpeaaaGreatDoorRows
import Derived.Test.YtndojgomlkpeaaaGreatDoorCards
import Derived.Test.YtndojgomlkpeaaaGreatDoorTie
import Derived.Test.YtndojgomlkpeaaaGreatDoorK1
import Derived.Test.YtndojgomlkpeaaaGreatDoorK7
import Derived.OpenShut
import Derived.SevenTiedAt
import Derived.Test.YtndojgomlkpeaaaGreatDoorK8
set_option linter.unusedVariables false
set_option linter.unusedSimpArgs false
namespace Go.Proofs.YtndojgomlkpeaaaGreatDoor.codingTells
open Go Go.ChangeShapes Go.WideShapes Go.ChangeAt Go.RowKit Go.Proofs.YtndojgomlkpeaaaGreatDoor.Cl Go.Proofs.YtndojgomlkpeaaaGreatDoor.Sl
theorem SG : ownKnob Tryz.prog.godebug = Option.none := by kernel_rfl
set_option maxRecDepth 100000 in
theorem FU (H : Type) (enc : TypeId × Value → H) (W : World) (base : Nat) (args : Array Value) (ds gs : List (DataW H)) (before : List MemPlace)
    (hval : ∀ (j : Nat) t v, Tryz.f3.params[j]? = some t → args[j]? = some v → Value.okWide Tryz.prog W .any base t v)
    (hW : DataW.Whole enc Tryz.prog Tryz.f3.params.toList Rows.codingTellsSpec.vars false W args.toList ds gs before) (hk : Rows.uptoSmall H (ds ++ gs) = true) (hL : laidMet Tryz.prog Rows.codingTellsUptoRow.laid W) :
    Calls Tryz.prog 3 args W fun e W' => ∃ v, e = .returned v ∧ Rows.codingTellsSpec.post enc Tryz.prog Tryz.f3 false true false false W args v W' := by
  have hW' := hW
  obtain ⟨p, q, hA0, hV, rfl, hfz, hnd⟩ := hW
  have hA : DataW.TrodAll enc Tryz.prog W 0 (fun _ => true) true Tryz.f3.params.toList args.toList ds p := hA0
  rw [Tryz.params3] at hA hval
  obtain ⟨v0, vs0, d0, ds0, p0, q0, hargs, rfl, rfl, h0, r0⟩ := trodAll_cons hA
  obtain ⟨v1, vs1, d1, ds1, p1, q1, rfl, rfl, rfl, h1, r1⟩ := trodAll_cons r0
  obtain ⟨rfl, rfl, rfl⟩ := trodAll_nil r1
  obtain rfl : args = #[v0, v1] := by cases args; simp_all
  obtain ⟨rfl, rfl⟩ := trodVars_none hV
  have hb : Rows.uptoBulkAll ([d0, d1] ++ []) ≤ 1048576 := of_decide_eq_true hk
  simp only [List.append_nil, tC, Rows.uptoBulkAll] at hb
  obtain ⟨t0, x0, y0, c0, k0, X0, D0, rfl, hX0, hx0, hD0, hd0, s0, hk0⟩ := FD.Ip (hval 0 25 v0 rfl rfl) h0
  obtain ⟨a1, rfl, rfl, rfl, w1⟩ := open_int Tryz.underlying3 (hval 1 3 v1 rfl rfl) h1
  haveI : FD.Gl W := FD.PP hL (by simp [Rows.codingTellsUptoRow]); haveI : FD.Gp W := FD.PO hL (by simp [Rows.codingTellsUptoRow])
  refine (C4 (FD.codingTells (X := X0) (D := D0) (st := t0) (most := a1) (cx := c0) (cd := k0) hX0 hx0 (by omega) hD0 hd0 (by omega) hk0)).mono fun e W' ⟨he, hg⟩ => ⟨_, he, ?_⟩
  exact yy (by kernel_rfl) (by kernel_rfl) rfl (by kernel_rfl) Tryz.underlying4 hW' rfl rfl rfl hg
theorem FV (os : Os) : laidMet Tryz.prog Rows.codingTellsUptoRow.laid ((World.laidAll Tryz.prog os Rows.codingTellsUptoRow.laid).forCall (fun _ _ => 0) ⟨#[], #[.agg #[.int .i64 0, .slice Option.none 0 0, .slice Option.none 0 0], .int .i64 0], []⟩).memory := laidMet_laidAll _ (by kernel_rfl) (by kernel_rfl)
theorem P7 (os : Os) {H : Type} (enc : TypeId × Value → H) : ∃ places, DataW.whole enc Tryz.prog ((World.laidAll Tryz.prog os Rows.codingTellsUptoRow.laid).forCall (fun _ _ => 0) ⟨#[], #[.agg #[.int .i64 0, .slice Option.none 0 0, .slice Option.none 0 0], .int .i64 0], []⟩).memory Tryz.f3.params.toList Rows.codingTellsSpec.vars false (#[.agg #[.int .i64 0, .slice Option.none 0 0, .slice Option.none 0 0], .int .i64 0] : Array Value).toList 8 = some ([.agg [.lit (.int .i64 0), .nil, .nil], .lit (.int .i64 0)], [], places) :=
  ⟨[], by kernel_rfl⟩
set_option maxRecDepth 100000 in
theorem L9 (os : Os) (started : os.Started) (H : Type) (enc : TypeId × Value → H) (F : Stop.Interp) :
    ReturnsInHanded {} Tryz.checked os 3 .any ((Rows.OpenSpec.upto Rows.codingTellsSpec).preRow enc Tryz.prog Tryz.f3 Rows.codingTellsUptoRow.domain false Rows.codingTellsUptoRow.laid) (((Rows.OpenSpec.upto Rows.codingTellsSpec).at F).post enc Tryz.prog Tryz.f3 false true false false) := by
  obtain ⟨places, hx⟩ := P7 os enc
  refine returnsInHanded_of_row (C := Tryz.checked) (s := Rows.OpenSpec.upto Rows.codingTellsSpec) SG started (by kernel_rfl) Tryz.func3
    (FD.ms (enc := enc) (C := Tryz.checked) false (World.laidAll Tryz.prog os Rows.codingTellsUptoRow.laid) #[.agg #[.int .i64 0, .slice Option.none 0 0, .slice Option.none 0 0], .int .i64 0] (World.laidAll_os _ _ _) (World.shaped_of_ZipB (by kernel_rfl) (by kernel_rfl)) (by kernel_rfl)
      (OpenSpec.preRow_of_cond 8 hx (by kernel_rfl) (fun k hk => by cases hk; kernel_rfl) (by kernel_rfl) (by rw [MakeChecks.laidMetH_plain _ _ _ (by kernel_rfl)]; exact FV os))) ?_
  intro W base args ds gs before hval hW _ hcond _ hL _ _
  rw [MakeChecks.laidMetH_plain _ _ _ (by kernel_rfl)] at hL
  exact FU H enc W base args ds gs before hval hW (hcond _ rfl) hL
theorem SY : Rows.CodingTellsUptoSaid :=
  OpenClaim.holds_of_cond 3 Tryz.f3 rfl rfl rfl rfl rfl rfl rfl ⟨rfl, rfl, rfl, rfl, rfl⟩ rfl rfl rfl rfl rfl (by kernel_rfl) Tryz.func3 (by kernel_rfl)
    (of_decide_eq_true (by kernel_rfl)) (by unfold Func.isWrapper; first | (rw [if_pos (by decide +kernel)]; kernel_rfl) | (rw [if_neg (by decide +kernel)]; exact ⟨rfl, rfl⟩))
    (fun os started H enc _ F => by rw [OpenClaim.pre_eq_preRow]; exact L9 os started H enc F)
theorem proved : Rows.CodingTellsUptoCardSaid :=
  Claim7.holds_tied_plain_at .later [] _ _ _ _ SY (fun _ h => by cases h) (by kernel_rfl) (fun _ h => by cases h) codingTellsUpto_row_tie rfl ⟨rfl, rfl⟩ (by kernel_rfl) rfl
    (fun f fn hf hfn => by
      obtain rfl : f = 3 := Option.some.inj ((show Tryz.prog.funcNamed "gatehouse/gatehouselaw19.CodingTells" = some 3 by kernel_rfl).symm.trans hf) |>.symm
      obtain rfl : fn = Tryz.f3 := (Option.some.inj (Tryz.func3.symm.trans hfn)).symm
      exact ⟨by kernel_rfl, fun j t ht => by
        rw [Tryz.params3] at ht
        have hm : t ∈ [25, 3] := by simpa using Array.mem_of_getElem? ht
        have hall : ([25, 3].all fun u => !Tryz.prog.wantsStandIn u) = true := by kernel_rfl
        exact (show Tryz.prog.wantsStandIn t = false by simpa using List.all_eq_true.1 hall t hm)⟩)
    (by kernel_rfl)
end Go.Proofs.YtndojgomlkpeaaaGreatDoor.codingTells
