/- What the loaded program's types are, one fact a line; printed by a program of mine. No conditions. -/
import Derived.Test.YtcigoifhcfbcdaaGreatDoorChecked
import Derived.Test.YtcigoifhcfbcdaaGreatDoorRead
import Derived.Test.YtcigoifhcfbcdaaGreatDoorMap
import Derived.KernelRfl
set_option linter.unusedVariables false
set_option linter.unusedSimpArgs false
namespace Go.Proofs.YtcigoifhcfbcdaaGreatDoor.T
open Go Go.Proofs Go.Proofs.YtcigoifhcfbcdaaGreatDoor.Sh Go.Proofs.YtcigoifhcfbcdaaGreatDoor.Sl
theorem fld {P : Program} {t : TypeId} {fs : Array Field} {f ft o n : Nat} (hu : ∀ w, (underlying t).run P w = .ok (.struct fs) w) (hf : (fs[f]?).map (fun x => (x.type, x.offset)) = some (ft, o)) (hs : ∀ w, (sizeOf ft).run P w = .ok (n + 1) w) : FldT P t f o :=
  ⟨fun g b w => by
    cases h : fs[f]? with
    | none => rw [h] at hf; cases hf
    | some fl =>
      rw [h] at hf
      simp only [Option.map_some, Option.some.injEq, Prod.mk.injEq] at hf
      obtain ⟨rfl, rfl⟩ := hf
      simp only [Instr.fieldAt, Sem.run_bind, hu, Result.andThen_ok, h, Instr.sureAddr, fieldPlace, hs, Sem.run_pure]
      by_cases h0 : fl.offset = 0 <;> simp [Addr.add, h0]⟩
theorem slt {P : Program} {t e : TypeId} {i : TypeInfo} {z : Value} {s b : Nat} (hu : P.underlying t = some (.slice e)) (hi : P.info? e = some i) (hz : i.zero = some z) (hs : i.size = s) (hb : i.bytes = b) (hzs : z.cells.size = s) : SlT P t e s b := ⟨hu, i, z, hi, hz, hs, hb, hzs⟩

instance one_1 : OneT Tryz.prog 1 := ⟨Tryz.isAgg1, Tryz.sizeOf1⟩
instance zero_1 : ZeroT Tryz.prog 1 .nilFunc := ⟨Tryz.zeroValue1⟩
instance one_2 : OneT Tryz.prog 2 := ⟨Tryz.isAgg2, Tryz.sizeOf2⟩
instance zero_2 : ZeroT Tryz.prog 2 (.int .i64 0) := ⟨Tryz.zeroValue2⟩
instance int_2 : IntT Tryz.prog 2 .i64 := ⟨Tryz.runUnderlying2⟩
instance one_3 : OneT Tryz.prog 3 := ⟨Tryz.isAgg3, Tryz.sizeOf3⟩
instance zero_3 : ZeroT Tryz.prog 3 (.int .i64 0) := ⟨Tryz.zeroValue3⟩
instance int_3 : IntT Tryz.prog 3 .i64 := ⟨Tryz.runUnderlying3⟩
instance one_4 : OneT Tryz.prog 4 := ⟨Tryz.isAgg4, Tryz.sizeOf4⟩
instance zero_4 : ZeroT Tryz.prog 4 (.bool false) := ⟨Tryz.zeroValue4⟩
instance one_5 : OneT Tryz.prog 5 := ⟨Tryz.isAgg5, Tryz.sizeOf5⟩
instance zero_5 : ZeroT Tryz.prog 5 (.int .u8 0) := ⟨Tryz.zeroValue5⟩
instance int_5 : IntT Tryz.prog 5 .u8 := ⟨Tryz.runUnderlying5⟩
instance one_6 : OneT Tryz.prog 6 := ⟨Tryz.isAgg6, Tryz.sizeOf6⟩
instance zero_6 : ZeroT Tryz.prog 6 (.int .u8 0) := ⟨Tryz.zeroValue6⟩
instance int_6 : IntT Tryz.prog 6 .u8 := ⟨Tryz.runUnderlying6⟩
instance zero_7 : ZeroT Tryz.prog 7 (.agg #[(.int .i64 0), (.int .i64 0), (.bool false), (.int .u8 0)]) := ⟨Tryz.zeroValue7⟩
instance agg_7 : AggT Tryz.prog 7 4 := ⟨Tryz.isAgg7, Tryz.sizeOf7⟩
instance fld_7_0 : FldT Tryz.prog 7 0 0 := fld Tryz.runUnderlying7 (ft := 2) (by kernel_rfl) Tryz.sizeOf2
instance fld_7_1 : FldT Tryz.prog 7 1 1 := fld Tryz.runUnderlying7 (ft := 3) (by kernel_rfl) Tryz.sizeOf3
instance fld_7_2 : FldT Tryz.prog 7 2 2 := fld Tryz.runUnderlying7 (ft := 4) (by kernel_rfl) Tryz.sizeOf4
instance fld_7_3 : FldT Tryz.prog 7 3 3 := fld Tryz.runUnderlying7 (ft := 6) (by kernel_rfl) Tryz.sizeOf6
instance zero_8 : ZeroT Tryz.prog 8 (.agg #[(.int .i64 0), (.int .i64 0), (.bool false), (.int .u8 0)]) := ⟨Tryz.zeroValue8⟩
instance agg_8 : AggT Tryz.prog 8 4 := ⟨Tryz.isAgg8, Tryz.sizeOf8⟩
instance fld_8_0 : FldT Tryz.prog 8 0 0 := fld Tryz.runUnderlying8 (ft := 2) (by kernel_rfl) Tryz.sizeOf2
instance fld_8_1 : FldT Tryz.prog 8 1 1 := fld Tryz.runUnderlying8 (ft := 3) (by kernel_rfl) Tryz.sizeOf3
instance fld_8_2 : FldT Tryz.prog 8 2 2 := fld Tryz.runUnderlying8 (ft := 4) (by kernel_rfl) Tryz.sizeOf4
instance fld_8_3 : FldT Tryz.prog 8 3 3 := fld Tryz.runUnderlying8 (ft := 6) (by kernel_rfl) Tryz.sizeOf6
instance one_9 : OneT Tryz.prog 9 := ⟨Tryz.isAgg9, Tryz.sizeOf9⟩
instance zero_9 : ZeroT Tryz.prog 9 (.string ⟨#[]⟩) := ⟨Tryz.zeroValue9⟩
instance str_9 : StrT Tryz.prog 9 := ⟨Tryz.underlying9⟩
instance one_10 : OneT Tryz.prog 10 := ⟨Tryz.isAgg10, Tryz.sizeOf10⟩
instance zero_10 : ZeroT Tryz.prog 10 (.string ⟨#[]⟩) := ⟨Tryz.zeroValue10⟩
instance str_10 : StrT Tryz.prog 10 := ⟨Tryz.underlying10⟩
instance one_11 : OneT Tryz.prog 11 := ⟨Tryz.isAgg11, Tryz.sizeOf11⟩
instance zero_11 : ZeroT Tryz.prog 11 (.string ⟨#[]⟩) := ⟨Tryz.zeroValue11⟩
instance str_11 : StrT Tryz.prog 11 := ⟨Tryz.underlying11⟩
instance one_12 : OneT Tryz.prog 12 := ⟨Tryz.isAgg12, Tryz.sizeOf12⟩
instance zero_12 : ZeroT Tryz.prog 12 (.int .u64 0) := ⟨Tryz.zeroValue12⟩
instance int_12 : IntT Tryz.prog 12 .u64 := ⟨Tryz.runUnderlying12⟩
instance zero_13 : ZeroT Tryz.prog 13 (.agg #[(.string ⟨#[]⟩), (.int .u64 0)]) := ⟨Tryz.zeroValue13⟩
instance agg_13 : AggT Tryz.prog 13 2 := ⟨Tryz.isAgg13, Tryz.sizeOf13⟩
instance fld_13_0 : FldT Tryz.prog 13 0 0 := fld Tryz.runUnderlying13 (ft := 9) (by kernel_rfl) Tryz.sizeOf9
instance fld_13_1 : FldT Tryz.prog 13 1 1 := fld Tryz.runUnderlying13 (ft := 12) (by kernel_rfl) Tryz.sizeOf12
instance zero_14 : ZeroT Tryz.prog 14 (.agg #[(.string ⟨#[]⟩), (.int .u64 0)]) := ⟨Tryz.zeroValue14⟩
instance agg_14 : AggT Tryz.prog 14 2 := ⟨Tryz.isAgg14, Tryz.sizeOf14⟩
instance fld_14_0 : FldT Tryz.prog 14 0 0 := fld Tryz.runUnderlying14 (ft := 9) (by kernel_rfl) Tryz.sizeOf9
instance fld_14_1 : FldT Tryz.prog 14 1 1 := fld Tryz.runUnderlying14 (ft := 12) (by kernel_rfl) Tryz.sizeOf12
instance one_15 : OneT Tryz.prog 15 := ⟨Tryz.isAgg15, Tryz.sizeOf15⟩
instance zero_15 : ZeroT Tryz.prog 15 (.pointer none) := ⟨Tryz.zeroValue15⟩
instance ptr_15 : PtrT Tryz.prog 15 := ⟨by kernel_rfl⟩
instance one_16 : OneT Tryz.prog 16 := ⟨Tryz.isAgg16, Tryz.sizeOf16⟩
instance zero_16 : ZeroT Tryz.prog 16 (.pointer none) := ⟨Tryz.zeroValue16⟩
instance ptr_16 : PtrT Tryz.prog 16 := ⟨by kernel_rfl⟩
instance one_17 : OneT Tryz.prog 17 := ⟨Tryz.isAgg17, Tryz.sizeOf17⟩
instance zero_17 : ZeroT Tryz.prog 17 (.pointer none) := ⟨Tryz.zeroValue17⟩
instance ptr_17 : PtrT Tryz.prog 17 := ⟨by kernel_rfl⟩
instance zero_18 : ZeroT Tryz.prog 18 (.agg #[(.pointer none)]) := ⟨Tryz.zeroValue18⟩
instance agg_18 : AggT Tryz.prog 18 1 := ⟨Tryz.isAgg18, Tryz.sizeOf18⟩
instance fld_18_0 : FldT Tryz.prog 18 0 0 := fld Tryz.runUnderlying18 (ft := 17) (by kernel_rfl) Tryz.sizeOf17
instance zero_19 : ZeroT Tryz.prog 19 (.agg #[(.pointer none)]) := ⟨Tryz.zeroValue19⟩
instance agg_19 : AggT Tryz.prog 19 1 := ⟨Tryz.isAgg19, Tryz.sizeOf19⟩
instance fld_19_0 : FldT Tryz.prog 19 0 0 := fld Tryz.runUnderlying19 (ft := 17) (by kernel_rfl) Tryz.sizeOf17
instance one_20 : OneT Tryz.prog 20 := ⟨Tryz.isAgg20, Tryz.sizeOf20⟩
instance zero_20 : ZeroT Tryz.prog 20 .nilIface := ⟨Tryz.zeroValue20⟩
instance one_21 : OneT Tryz.prog 21 := ⟨Tryz.isAgg21, Tryz.sizeOf21⟩
instance zero_21 : ZeroT Tryz.prog 21 (.int .i32 0) := ⟨Tryz.zeroValue21⟩
instance int_21 : IntT Tryz.prog 21 .i32 := ⟨Tryz.runUnderlying21⟩
instance one_22 : OneT Tryz.prog 22 := ⟨Tryz.isAgg22, Tryz.sizeOf22⟩
instance zero_22 : ZeroT Tryz.prog 22 (.slice none 0 0) := ⟨Tryz.zeroValue22⟩
instance sl_22 : SlT Tryz.prog 22 44 3 40 := slt (z := (.agg #[(.string ⟨#[]⟩), (.string ⟨#[]⟩), (.bool false)])) Tryz.underlying22 (i := Tryz.t44) (by kernel_rfl) (by kernel_rfl) (by kernel_rfl) (by kernel_rfl) (by kernel_rfl)
instance one_23 : OneT Tryz.prog 23 := ⟨Tryz.isAgg23, Tryz.sizeOf23⟩
instance zero_23 : ZeroT Tryz.prog 23 (.int .i64 0) := ⟨Tryz.zeroValue23⟩
instance int_23 : IntT Tryz.prog 23 .i64 := ⟨Tryz.runUnderlying23⟩
instance one_25 : OneT Tryz.prog 25 := ⟨Tryz.isAgg25, Tryz.sizeOf25⟩
instance zero_25 : ZeroT Tryz.prog 25 .nilFunc := ⟨Tryz.zeroValue25⟩
instance one_26 : OneT Tryz.prog 26 := ⟨Tryz.isAgg26, Tryz.sizeOf26⟩
instance zero_26 : ZeroT Tryz.prog 26 (.slice none 0 0) := ⟨Tryz.zeroValue26⟩
instance sl_26 : SlT Tryz.prog 26 52 3 40 := slt (z := (.agg #[(.string ⟨#[]⟩), (.string ⟨#[]⟩), (.bool false)])) Tryz.underlying26 (i := Tryz.t52) (by kernel_rfl) (by kernel_rfl) (by kernel_rfl) (by kernel_rfl) (by kernel_rfl)
instance one_28 : OneT Tryz.prog 28 := ⟨Tryz.isAgg28, Tryz.sizeOf28⟩
instance zero_28 : ZeroT Tryz.prog 28 .nilFunc := ⟨Tryz.zeroValue28⟩
instance one_29 : OneT Tryz.prog 29 := ⟨Tryz.isAgg29, Tryz.sizeOf29⟩
instance zero_29 : ZeroT Tryz.prog 29 .nilFunc := ⟨Tryz.zeroValue29⟩
instance one_30 : OneT Tryz.prog 30 := ⟨Tryz.isAgg30, Tryz.sizeOf30⟩
instance zero_30 : ZeroT Tryz.prog 30 .nilFunc := ⟨Tryz.zeroValue30⟩
instance one_31 : OneT Tryz.prog 31 := ⟨Tryz.isAgg31, Tryz.sizeOf31⟩
instance zero_31 : ZeroT Tryz.prog 31 .nilFunc := ⟨Tryz.zeroValue31⟩
instance one_33 : OneT Tryz.prog 33 := ⟨Tryz.isAgg33, Tryz.sizeOf33⟩
instance zero_33 : ZeroT Tryz.prog 33 .nilFunc := ⟨Tryz.zeroValue33⟩
instance one_34 : OneT Tryz.prog 34 := ⟨Tryz.isAgg34, Tryz.sizeOf34⟩
instance zero_34 : ZeroT Tryz.prog 34 .nilFunc := ⟨Tryz.zeroValue34⟩
instance one_35 : OneT Tryz.prog 35 := ⟨Tryz.isAgg35, Tryz.sizeOf35⟩
instance zero_35 : ZeroT Tryz.prog 35 .nilFunc := ⟨Tryz.zeroValue35⟩
instance one_36 : OneT Tryz.prog 36 := ⟨Tryz.isAgg36, Tryz.sizeOf36⟩
instance zero_36 : ZeroT Tryz.prog 36 .nilFunc := ⟨Tryz.zeroValue36⟩
instance zero_37 : ZeroT Tryz.prog 37 (.agg #[(.bool false), (.string ⟨#[]⟩)]) := ⟨Tryz.zeroValue37⟩
instance agg_37 : AggT Tryz.prog 37 2 := ⟨Tryz.isAgg37, Tryz.sizeOf37⟩
instance fld_37_0 : FldT Tryz.prog 37 0 0 := fld Tryz.runUnderlying37 (ft := 4) (by kernel_rfl) Tryz.sizeOf4
instance fld_37_1 : FldT Tryz.prog 37 1 1 := fld Tryz.runUnderlying37 (ft := 9) (by kernel_rfl) Tryz.sizeOf9
instance zero_38 : ZeroT Tryz.prog 38 (.agg #[(.bool false), (.string ⟨#[]⟩)]) := ⟨Tryz.zeroValue38⟩
instance agg_38 : AggT Tryz.prog 38 2 := ⟨Tryz.isAgg38, Tryz.sizeOf38⟩
instance fld_38_0 : FldT Tryz.prog 38 0 0 := fld Tryz.runUnderlying38 (ft := 4) (by kernel_rfl) Tryz.sizeOf4
instance fld_38_1 : FldT Tryz.prog 38 1 1 := fld Tryz.runUnderlying38 (ft := 9) (by kernel_rfl) Tryz.sizeOf9
instance one_40 : OneT Tryz.prog 40 := ⟨Tryz.isAgg40, Tryz.sizeOf40⟩
instance zero_40 : ZeroT Tryz.prog 40 .nilFunc := ⟨Tryz.zeroValue40⟩
instance one_41 : OneT Tryz.prog 41 := ⟨Tryz.isAgg41, Tryz.sizeOf41⟩
instance zero_41 : ZeroT Tryz.prog 41 .nilFunc := ⟨Tryz.zeroValue41⟩
instance one_42 : OneT Tryz.prog 42 := ⟨Tryz.isAgg42, Tryz.sizeOf42⟩
instance zero_42 : ZeroT Tryz.prog 42 .nilFunc := ⟨Tryz.zeroValue42⟩
instance zero_43 : ZeroT Tryz.prog 43 (.agg #[(.string ⟨#[]⟩), (.string ⟨#[]⟩), (.bool false)]) := ⟨Tryz.zeroValue43⟩
instance agg_43 : AggT Tryz.prog 43 3 := ⟨Tryz.isAgg43, Tryz.sizeOf43⟩
instance fld_43_0 : FldT Tryz.prog 43 0 0 := fld Tryz.runUnderlying43 (ft := 9) (by kernel_rfl) Tryz.sizeOf9
instance fld_43_1 : FldT Tryz.prog 43 1 1 := fld Tryz.runUnderlying43 (ft := 9) (by kernel_rfl) Tryz.sizeOf9
instance fld_43_2 : FldT Tryz.prog 43 2 2 := fld Tryz.runUnderlying43 (ft := 4) (by kernel_rfl) Tryz.sizeOf4
instance zero_44 : ZeroT Tryz.prog 44 (.agg #[(.string ⟨#[]⟩), (.string ⟨#[]⟩), (.bool false)]) := ⟨Tryz.zeroValue44⟩
instance agg_44 : AggT Tryz.prog 44 3 := ⟨Tryz.isAgg44, Tryz.sizeOf44⟩
instance fld_44_0 : FldT Tryz.prog 44 0 0 := fld Tryz.runUnderlying44 (ft := 9) (by kernel_rfl) Tryz.sizeOf9
instance fld_44_1 : FldT Tryz.prog 44 1 1 := fld Tryz.runUnderlying44 (ft := 9) (by kernel_rfl) Tryz.sizeOf9
instance fld_44_2 : FldT Tryz.prog 44 2 2 := fld Tryz.runUnderlying44 (ft := 4) (by kernel_rfl) Tryz.sizeOf4
instance one_45 : OneT Tryz.prog 45 := ⟨Tryz.isAgg45, Tryz.sizeOf45⟩
instance zero_45 : ZeroT Tryz.prog 45 .nilFunc := ⟨Tryz.zeroValue45⟩
instance one_46 : OneT Tryz.prog 46 := ⟨Tryz.isAgg46, Tryz.sizeOf46⟩
instance zero_46 : ZeroT Tryz.prog 46 .nilFunc := ⟨Tryz.zeroValue46⟩
instance one_47 : OneT Tryz.prog 47 := ⟨Tryz.isAgg47, Tryz.sizeOf47⟩
instance zero_47 : ZeroT Tryz.prog 47 .nilFunc := ⟨Tryz.zeroValue47⟩
instance zero_48 : ZeroT Tryz.prog 48 (.agg #[(.bool false), (.bool false), .nilFunc]) := ⟨Tryz.zeroValue48⟩
instance agg_48 : AggT Tryz.prog 48 3 := ⟨Tryz.isAgg48, Tryz.sizeOf48⟩
instance fld_48_0 : FldT Tryz.prog 48 0 0 := fld Tryz.runUnderlying48 (ft := 4) (by kernel_rfl) Tryz.sizeOf4
instance fld_48_1 : FldT Tryz.prog 48 1 1 := fld Tryz.runUnderlying48 (ft := 4) (by kernel_rfl) Tryz.sizeOf4
instance fld_48_2 : FldT Tryz.prog 48 2 2 := fld Tryz.runUnderlying48 (ft := 47) (by kernel_rfl) Tryz.sizeOf47
instance zero_49 : ZeroT Tryz.prog 49 (.agg #[(.bool false), (.bool false), .nilFunc]) := ⟨Tryz.zeroValue49⟩
instance agg_49 : AggT Tryz.prog 49 3 := ⟨Tryz.isAgg49, Tryz.sizeOf49⟩
instance fld_49_0 : FldT Tryz.prog 49 0 0 := fld Tryz.runUnderlying49 (ft := 4) (by kernel_rfl) Tryz.sizeOf4
instance fld_49_1 : FldT Tryz.prog 49 1 1 := fld Tryz.runUnderlying49 (ft := 4) (by kernel_rfl) Tryz.sizeOf4
instance fld_49_2 : FldT Tryz.prog 49 2 2 := fld Tryz.runUnderlying49 (ft := 47) (by kernel_rfl) Tryz.sizeOf47
instance one_50 : OneT Tryz.prog 50 := ⟨Tryz.isAgg50, Tryz.sizeOf50⟩
instance zero_50 : ZeroT Tryz.prog 50 (.slice none 0 0) := ⟨Tryz.zeroValue50⟩
instance sl_50 : SlT Tryz.prog 50 9 1 16 := slt (z := (.string ⟨#[]⟩)) Tryz.underlying50 (i := Tryz.t9) (by kernel_rfl) (by kernel_rfl) (by kernel_rfl) (by kernel_rfl) (by kernel_rfl)
instance one_51 : OneT Tryz.prog 51 := ⟨Tryz.isAgg51, Tryz.sizeOf51⟩
instance zero_51 : ZeroT Tryz.prog 51 .nilFunc := ⟨Tryz.zeroValue51⟩
instance zero_52 : ZeroT Tryz.prog 52 (.agg #[(.string ⟨#[]⟩), (.string ⟨#[]⟩), (.bool false)]) := ⟨Tryz.zeroValue52⟩
instance agg_52 : AggT Tryz.prog 52 3 := ⟨Tryz.isAgg52, Tryz.sizeOf52⟩
instance fld_52_0 : FldT Tryz.prog 52 0 0 := fld Tryz.runUnderlying52 (ft := 9) (by kernel_rfl) Tryz.sizeOf9
instance fld_52_1 : FldT Tryz.prog 52 1 1 := fld Tryz.runUnderlying52 (ft := 9) (by kernel_rfl) Tryz.sizeOf9
instance fld_52_2 : FldT Tryz.prog 52 2 2 := fld Tryz.runUnderlying52 (ft := 4) (by kernel_rfl) Tryz.sizeOf4
instance one_54 : OneT Tryz.prog 54 := ⟨Tryz.isAgg54, Tryz.sizeOf54⟩
instance zero_54 : ZeroT Tryz.prog 54 .nilFunc := ⟨Tryz.zeroValue54⟩
instance one_55 : OneT Tryz.prog 55 := ⟨Tryz.isAgg55, Tryz.sizeOf55⟩
instance zero_55 : ZeroT Tryz.prog 55 (.pointer none) := ⟨Tryz.zeroValue55⟩
instance ptr_55 : PtrT Tryz.prog 55 := ⟨by kernel_rfl⟩
instance one_56 : OneT Tryz.prog 56 := ⟨Tryz.isAgg56, Tryz.sizeOf56⟩
instance zero_56 : ZeroT Tryz.prog 56 .nilFunc := ⟨Tryz.zeroValue56⟩
instance one_57 : OneT Tryz.prog 57 := ⟨Tryz.isAgg57, Tryz.sizeOf57⟩
instance zero_57 : ZeroT Tryz.prog 57 (.slice none 0 0) := ⟨Tryz.zeroValue57⟩
instance bytes_57 : BytesT Tryz.prog 57 := ⟨_, Tryz.underlying57, Tryz.underlying5⟩
instance sl_57 : SlT Tryz.prog 57 5 1 1 := slt (z := (.int .u8 0)) Tryz.underlying57 (i := Tryz.t5) (by kernel_rfl) (by kernel_rfl) (by kernel_rfl) (by kernel_rfl) (by kernel_rfl)
instance one_59 : OneT Tryz.prog 59 := ⟨Tryz.isAgg59, Tryz.sizeOf59⟩
instance zero_59 : ZeroT Tryz.prog 59 .nilFunc := ⟨Tryz.zeroValue59⟩
instance one_61 : OneT Tryz.prog 61 := ⟨Tryz.isAgg61, Tryz.sizeOf61⟩
instance zero_61 : ZeroT Tryz.prog 61 .nilFunc := ⟨Tryz.zeroValue61⟩
instance one_62 : OneT Tryz.prog 62 := ⟨Tryz.isAgg62, Tryz.sizeOf62⟩
instance zero_62 : ZeroT Tryz.prog 62 (.slice none 0 0) := ⟨Tryz.zeroValue62⟩
instance sl_62 : SlT Tryz.prog 62 69 2 24 := slt (z := (.agg #[(.string ⟨#[]⟩), (.int .i64 0)])) Tryz.underlying62 (i := Tryz.t69) (by kernel_rfl) (by kernel_rfl) (by kernel_rfl) (by kernel_rfl) (by kernel_rfl)
instance one_64 : OneT Tryz.prog 64 := ⟨Tryz.isAgg64, Tryz.sizeOf64⟩
instance zero_64 : ZeroT Tryz.prog 64 .nilFunc := ⟨Tryz.zeroValue64⟩
instance one_65 : OneT Tryz.prog 65 := ⟨Tryz.isAgg65, Tryz.sizeOf65⟩
instance zero_65 : ZeroT Tryz.prog 65 (.slice none 0 0) := ⟨Tryz.zeroValue65⟩
instance sl_65 : SlT Tryz.prog 65 71 2 16 := slt (z := (.agg #[(.int .i64 0), (.int .i64 0)])) Tryz.underlying65 (i := Tryz.t71) (by kernel_rfl) (by kernel_rfl) (by kernel_rfl) (by kernel_rfl) (by kernel_rfl)
instance one_67 : OneT Tryz.prog 67 := ⟨Tryz.isAgg67, Tryz.sizeOf67⟩
instance zero_67 : ZeroT Tryz.prog 67 .nilFunc := ⟨Tryz.zeroValue67⟩
instance zero_68 : ZeroT Tryz.prog 68 (.agg #[(.string ⟨#[]⟩), (.int .i64 0)]) := ⟨Tryz.zeroValue68⟩
instance agg_68 : AggT Tryz.prog 68 2 := ⟨Tryz.isAgg68, Tryz.sizeOf68⟩
instance fld_68_0 : FldT Tryz.prog 68 0 0 := fld Tryz.runUnderlying68 (ft := 9) (by kernel_rfl) Tryz.sizeOf9
instance fld_68_1 : FldT Tryz.prog 68 1 1 := fld Tryz.runUnderlying68 (ft := 3) (by kernel_rfl) Tryz.sizeOf3
instance zero_69 : ZeroT Tryz.prog 69 (.agg #[(.string ⟨#[]⟩), (.int .i64 0)]) := ⟨Tryz.zeroValue69⟩
instance agg_69 : AggT Tryz.prog 69 2 := ⟨Tryz.isAgg69, Tryz.sizeOf69⟩
instance fld_69_0 : FldT Tryz.prog 69 0 0 := fld Tryz.runUnderlying69 (ft := 9) (by kernel_rfl) Tryz.sizeOf9
instance fld_69_1 : FldT Tryz.prog 69 1 1 := fld Tryz.runUnderlying69 (ft := 3) (by kernel_rfl) Tryz.sizeOf3
instance zero_70 : ZeroT Tryz.prog 70 (.agg #[(.int .i64 0), (.int .i64 0)]) := ⟨Tryz.zeroValue70⟩
instance agg_70 : AggT Tryz.prog 70 2 := ⟨Tryz.isAgg70, Tryz.sizeOf70⟩
instance fld_70_0 : FldT Tryz.prog 70 0 0 := fld Tryz.runUnderlying70 (ft := 3) (by kernel_rfl) Tryz.sizeOf3
instance fld_70_1 : FldT Tryz.prog 70 1 1 := fld Tryz.runUnderlying70 (ft := 3) (by kernel_rfl) Tryz.sizeOf3
instance zero_71 : ZeroT Tryz.prog 71 (.agg #[(.int .i64 0), (.int .i64 0)]) := ⟨Tryz.zeroValue71⟩
instance agg_71 : AggT Tryz.prog 71 2 := ⟨Tryz.isAgg71, Tryz.sizeOf71⟩
instance fld_71_0 : FldT Tryz.prog 71 0 0 := fld Tryz.runUnderlying71 (ft := 3) (by kernel_rfl) Tryz.sizeOf3
instance fld_71_1 : FldT Tryz.prog 71 1 1 := fld Tryz.runUnderlying71 (ft := 3) (by kernel_rfl) Tryz.sizeOf3
instance one_73 : OneT Tryz.prog 73 := ⟨Tryz.isAgg73, Tryz.sizeOf73⟩
instance zero_73 : ZeroT Tryz.prog 73 .nilFunc := ⟨Tryz.zeroValue73⟩
instance one_74 : OneT Tryz.prog 74 := ⟨Tryz.isAgg74, Tryz.sizeOf74⟩
instance zero_74 : ZeroT Tryz.prog 74 .nilFunc := ⟨Tryz.zeroValue74⟩
instance agg_75 : AggT Tryz.prog 75 256 := ⟨Tryz.isAgg75, Tryz.sizeOf75⟩
instance arr_75 : ArrT Tryz.prog 75 256 3 1 := ⟨Tryz.runUnderlying75, Tryz.sizeOf3⟩
instance one_76 : OneT Tryz.prog 76 := ⟨Tryz.isAgg76, Tryz.sizeOf76⟩
instance zero_76 : ZeroT Tryz.prog 76 .nilFunc := ⟨Tryz.zeroValue76⟩
instance one_77 : OneT Tryz.prog 77 := ⟨Tryz.isAgg77, Tryz.sizeOf77⟩
instance zero_77 : ZeroT Tryz.prog 77 .nilFunc := ⟨Tryz.zeroValue77⟩
instance one_78 : OneT Tryz.prog 78 := ⟨Tryz.isAgg78, Tryz.sizeOf78⟩
instance zero_78 : ZeroT Tryz.prog 78 .nilFunc := ⟨Tryz.zeroValue78⟩
instance one_79 : OneT Tryz.prog 79 := ⟨Tryz.isAgg79, Tryz.sizeOf79⟩
instance zero_79 : ZeroT Tryz.prog 79 .nilFunc := ⟨Tryz.zeroValue79⟩
instance one_82 : OneT Tryz.prog 82 := ⟨Tryz.isAgg82, Tryz.sizeOf82⟩
instance zero_82 : ZeroT Tryz.prog 82 .nilFunc := ⟨Tryz.zeroValue82⟩
instance one_84 : OneT Tryz.prog 84 := ⟨Tryz.isAgg84, Tryz.sizeOf84⟩
instance zero_84 : ZeroT Tryz.prog 84 .nilFunc := ⟨Tryz.zeroValue84⟩
instance zero_85 : ZeroT Tryz.prog 85 (.agg #[]) := ⟨Tryz.zeroValue85⟩
instance agg_85 : AggT Tryz.prog 85 0 := ⟨Tryz.isAgg85, Tryz.sizeOf85⟩
instance zero_86 : ZeroT Tryz.prog 86 (.agg #[]) := ⟨Tryz.zeroValue86⟩
instance agg_86 : AggT Tryz.prog 86 0 := ⟨Tryz.isAgg86, Tryz.sizeOf86⟩
instance zero_87 : ZeroT Tryz.prog 87 (.agg #[]) := ⟨Tryz.zeroValue87⟩
instance agg_87 : AggT Tryz.prog 87 0 := ⟨Tryz.isAgg87, Tryz.sizeOf87⟩
instance one_88 : OneT Tryz.prog 88 := ⟨Tryz.isAgg88, Tryz.sizeOf88⟩
instance zero_88 : ZeroT Tryz.prog 88 (.int .u32 0) := ⟨Tryz.zeroValue88⟩
instance int_88 : IntT Tryz.prog 88 .u32 := ⟨Tryz.runUnderlying88⟩
instance zero_89 : ZeroT Tryz.prog 89 (.agg #[(.int .u32 0)]) := ⟨Tryz.zeroValue89⟩
instance agg_89 : AggT Tryz.prog 89 1 := ⟨Tryz.isAgg89, Tryz.sizeOf89⟩
instance fld_89_1 : FldT Tryz.prog 89 1 0 := fld Tryz.runUnderlying89 (ft := 88) (by kernel_rfl) Tryz.sizeOf88
instance zero_90 : ZeroT Tryz.prog 90 (.agg #[(.int .u32 0)]) := ⟨Tryz.zeroValue90⟩
instance agg_90 : AggT Tryz.prog 90 1 := ⟨Tryz.isAgg90, Tryz.sizeOf90⟩
instance fld_90_1 : FldT Tryz.prog 90 1 0 := fld Tryz.runUnderlying90 (ft := 88) (by kernel_rfl) Tryz.sizeOf88
instance zero_91 : ZeroT Tryz.prog 91 (.agg #[(.int .i32 0), (.int .u32 0)]) := ⟨Tryz.zeroValue91⟩
instance agg_91 : AggT Tryz.prog 91 2 := ⟨Tryz.isAgg91, Tryz.sizeOf91⟩
instance fld_91_0 : FldT Tryz.prog 91 0 0 := fld Tryz.runUnderlying91 (ft := 21) (by kernel_rfl) Tryz.sizeOf21
instance fld_91_1 : FldT Tryz.prog 91 1 1 := fld Tryz.runUnderlying91 (ft := 88) (by kernel_rfl) Tryz.sizeOf88
instance zero_92 : ZeroT Tryz.prog 92 (.agg #[(.int .i32 0), (.int .u32 0)]) := ⟨Tryz.zeroValue92⟩
instance agg_92 : AggT Tryz.prog 92 2 := ⟨Tryz.isAgg92, Tryz.sizeOf92⟩
instance fld_92_0 : FldT Tryz.prog 92 0 0 := fld Tryz.runUnderlying92 (ft := 21) (by kernel_rfl) Tryz.sizeOf21
instance fld_92_1 : FldT Tryz.prog 92 1 1 := fld Tryz.runUnderlying92 (ft := 88) (by kernel_rfl) Tryz.sizeOf88
instance zero_93 : ZeroT Tryz.prog 93 (.agg #[(.int .i32 0), (.int .u32 0)]) := ⟨Tryz.zeroValue93⟩
instance agg_93 : AggT Tryz.prog 93 2 := ⟨Tryz.isAgg93, Tryz.sizeOf93⟩
instance fld_93_1 : FldT Tryz.prog 93 1 0 := fld Tryz.runUnderlying93 (ft := 92) (by kernel_rfl) Tryz.sizeOf92
instance zero_94 : ZeroT Tryz.prog 94 (.agg #[(.int .i32 0), (.int .u32 0)]) := ⟨Tryz.zeroValue94⟩
instance agg_94 : AggT Tryz.prog 94 2 := ⟨Tryz.isAgg94, Tryz.sizeOf94⟩
instance fld_94_1 : FldT Tryz.prog 94 1 0 := fld Tryz.runUnderlying94 (ft := 92) (by kernel_rfl) Tryz.sizeOf92
instance zero_95 : ZeroT Tryz.prog 95 (.agg #[(.int .u32 0), (.int .i32 0), (.int .u32 0)]) := ⟨Tryz.zeroValue95⟩
instance agg_95 : AggT Tryz.prog 95 3 := ⟨Tryz.isAgg95, Tryz.sizeOf95⟩
instance fld_95_1 : FldT Tryz.prog 95 1 0 := fld Tryz.runUnderlying95 (ft := 90) (by kernel_rfl) Tryz.sizeOf90
instance fld_95_2 : FldT Tryz.prog 95 2 1 := fld Tryz.runUnderlying95 (ft := 94) (by kernel_rfl) Tryz.sizeOf94
instance zero_96 : ZeroT Tryz.prog 96 (.agg #[(.int .u32 0), (.int .i32 0), (.int .u32 0)]) := ⟨Tryz.zeroValue96⟩
instance agg_96 : AggT Tryz.prog 96 3 := ⟨Tryz.isAgg96, Tryz.sizeOf96⟩
instance fld_96_1 : FldT Tryz.prog 96 1 0 := fld Tryz.runUnderlying96 (ft := 90) (by kernel_rfl) Tryz.sizeOf90
instance fld_96_2 : FldT Tryz.prog 96 2 1 := fld Tryz.runUnderlying96 (ft := 94) (by kernel_rfl) Tryz.sizeOf94
instance one_97 : OneT Tryz.prog 97 := ⟨Tryz.isAgg97, Tryz.sizeOf97⟩
instance zero_97 : ZeroT Tryz.prog 97 .nilIface := ⟨Tryz.zeroValue97⟩
instance one_98 : OneT Tryz.prog 98 := ⟨Tryz.isAgg98, Tryz.sizeOf98⟩
instance zero_98 : ZeroT Tryz.prog 98 .nilIface := ⟨Tryz.zeroValue98⟩
instance zero_99 : ZeroT Tryz.prog 99 (.agg #[(.int .u32 0), (.int .i32 0), (.int .u32 0), .nilIface, (.slice none 0 0)]) := ⟨Tryz.zeroValue99⟩
instance agg_99 : AggT Tryz.prog 99 5 := ⟨Tryz.isAgg99, Tryz.sizeOf99⟩
instance fld_99_0 : FldT Tryz.prog 99 0 0 := fld Tryz.runUnderlying99 (ft := 96) (by kernel_rfl) Tryz.sizeOf96
instance fld_99_1 : FldT Tryz.prog 99 1 3 := fld Tryz.runUnderlying99 (ft := 98) (by kernel_rfl) Tryz.sizeOf98
instance fld_99_2 : FldT Tryz.prog 99 2 4 := fld Tryz.runUnderlying99 (ft := 50) (by kernel_rfl) Tryz.sizeOf50
instance zero_100 : ZeroT Tryz.prog 100 (.agg #[(.int .u32 0), (.int .i32 0), (.int .u32 0), .nilIface, (.slice none 0 0)]) := ⟨Tryz.zeroValue100⟩
instance agg_100 : AggT Tryz.prog 100 5 := ⟨Tryz.isAgg100, Tryz.sizeOf100⟩
instance fld_100_0 : FldT Tryz.prog 100 0 0 := fld Tryz.runUnderlying100 (ft := 96) (by kernel_rfl) Tryz.sizeOf96
instance fld_100_1 : FldT Tryz.prog 100 1 3 := fld Tryz.runUnderlying100 (ft := 98) (by kernel_rfl) Tryz.sizeOf98
instance fld_100_2 : FldT Tryz.prog 100 2 4 := fld Tryz.runUnderlying100 (ft := 50) (by kernel_rfl) Tryz.sizeOf50
instance one_101 : OneT Tryz.prog 101 := ⟨Tryz.isAgg101, Tryz.sizeOf101⟩
instance zero_101 : ZeroT Tryz.prog 101 .nilFunc := ⟨Tryz.zeroValue101⟩
instance one_102 : OneT Tryz.prog 102 := ⟨Tryz.isAgg102, Tryz.sizeOf102⟩
instance zero_102 : ZeroT Tryz.prog 102 .nilFunc := ⟨Tryz.zeroValue102⟩
instance one_103 : OneT Tryz.prog 103 := ⟨Tryz.isAgg103, Tryz.sizeOf103⟩
instance zero_103 : ZeroT Tryz.prog 103 .nilFunc := ⟨Tryz.zeroValue103⟩
instance one_104 : OneT Tryz.prog 104 := ⟨Tryz.isAgg104, Tryz.sizeOf104⟩
instance zero_104 : ZeroT Tryz.prog 104 .nilFunc := ⟨Tryz.zeroValue104⟩
instance one_105 : OneT Tryz.prog 105 := ⟨Tryz.isAgg105, Tryz.sizeOf105⟩
instance zero_105 : ZeroT Tryz.prog 105 .nilFunc := ⟨Tryz.zeroValue105⟩
instance zero_106 : ZeroT Tryz.prog 106 (.agg #[(.bool false), (.bool false), .nilFunc]) := ⟨Tryz.zeroValue106⟩
instance agg_106 : AggT Tryz.prog 106 3 := ⟨Tryz.isAgg106, Tryz.sizeOf106⟩
instance fld_106_0 : FldT Tryz.prog 106 0 0 := fld Tryz.runUnderlying106 (ft := 4) (by kernel_rfl) Tryz.sizeOf4
instance fld_106_1 : FldT Tryz.prog 106 1 1 := fld Tryz.runUnderlying106 (ft := 4) (by kernel_rfl) Tryz.sizeOf4
instance fld_106_2 : FldT Tryz.prog 106 2 2 := fld Tryz.runUnderlying106 (ft := 105) (by kernel_rfl) Tryz.sizeOf105
instance zero_107 : ZeroT Tryz.prog 107 (.agg #[(.bool false), (.bool false), .nilFunc]) := ⟨Tryz.zeroValue107⟩
instance agg_107 : AggT Tryz.prog 107 3 := ⟨Tryz.isAgg107, Tryz.sizeOf107⟩
instance fld_107_0 : FldT Tryz.prog 107 0 0 := fld Tryz.runUnderlying107 (ft := 4) (by kernel_rfl) Tryz.sizeOf4
instance fld_107_1 : FldT Tryz.prog 107 1 1 := fld Tryz.runUnderlying107 (ft := 4) (by kernel_rfl) Tryz.sizeOf4
instance fld_107_2 : FldT Tryz.prog 107 2 2 := fld Tryz.runUnderlying107 (ft := 105) (by kernel_rfl) Tryz.sizeOf105
instance one_108 : OneT Tryz.prog 108 := ⟨Tryz.isAgg108, Tryz.sizeOf108⟩
instance zero_108 : ZeroT Tryz.prog 108 .nilFunc := ⟨Tryz.zeroValue108⟩
instance one_109 : OneT Tryz.prog 109 := ⟨Tryz.isAgg109, Tryz.sizeOf109⟩
instance zero_109 : ZeroT Tryz.prog 109 .nilFunc := ⟨Tryz.zeroValue109⟩
instance zero_110 : ZeroT Tryz.prog 110 (.agg #[(.bool false), (.bool false), .nilFunc]) := ⟨Tryz.zeroValue110⟩
instance agg_110 : AggT Tryz.prog 110 3 := ⟨Tryz.isAgg110, Tryz.sizeOf110⟩
instance fld_110_0 : FldT Tryz.prog 110 0 0 := fld Tryz.runUnderlying110 (ft := 4) (by kernel_rfl) Tryz.sizeOf4
instance fld_110_1 : FldT Tryz.prog 110 1 1 := fld Tryz.runUnderlying110 (ft := 4) (by kernel_rfl) Tryz.sizeOf4
instance fld_110_2 : FldT Tryz.prog 110 2 2 := fld Tryz.runUnderlying110 (ft := 109) (by kernel_rfl) Tryz.sizeOf109
instance zero_111 : ZeroT Tryz.prog 111 (.agg #[(.bool false), (.bool false), .nilFunc]) := ⟨Tryz.zeroValue111⟩
instance agg_111 : AggT Tryz.prog 111 3 := ⟨Tryz.isAgg111, Tryz.sizeOf111⟩
instance fld_111_0 : FldT Tryz.prog 111 0 0 := fld Tryz.runUnderlying111 (ft := 4) (by kernel_rfl) Tryz.sizeOf4
instance fld_111_1 : FldT Tryz.prog 111 1 1 := fld Tryz.runUnderlying111 (ft := 4) (by kernel_rfl) Tryz.sizeOf4
instance fld_111_2 : FldT Tryz.prog 111 2 2 := fld Tryz.runUnderlying111 (ft := 109) (by kernel_rfl) Tryz.sizeOf109
instance one_112 : OneT Tryz.prog 112 := ⟨Tryz.isAgg112, Tryz.sizeOf112⟩
instance zero_112 : ZeroT Tryz.prog 112 .nilFunc := ⟨Tryz.zeroValue112⟩
instance one_113 : OneT Tryz.prog 113 := ⟨Tryz.isAgg113, Tryz.sizeOf113⟩
instance zero_113 : ZeroT Tryz.prog 113 .nilFunc := ⟨Tryz.zeroValue113⟩
instance one_114 : OneT Tryz.prog 114 := ⟨Tryz.isAgg114, Tryz.sizeOf114⟩
instance zero_114 : ZeroT Tryz.prog 114 .nilFunc := ⟨Tryz.zeroValue114⟩
instance one_115 : OneT Tryz.prog 115 := ⟨Tryz.isAgg115, Tryz.sizeOf115⟩
instance zero_115 : ZeroT Tryz.prog 115 (.pointer none) := ⟨Tryz.zeroValue115⟩
instance ptr_115 : PtrT Tryz.prog 115 := ⟨by kernel_rfl⟩
instance one_116 : OneT Tryz.prog 116 := ⟨Tryz.isAgg116, Tryz.sizeOf116⟩
instance zero_116 : ZeroT Tryz.prog 116 .nilFunc := ⟨Tryz.zeroValue116⟩
instance one_117 : OneT Tryz.prog 117 := ⟨Tryz.isAgg117, Tryz.sizeOf117⟩
instance zero_117 : ZeroT Tryz.prog 117 (.int .u64 0) := ⟨Tryz.zeroValue117⟩
instance int_117 : IntT Tryz.prog 117 .u64 := ⟨Tryz.runUnderlying117⟩
instance one_118 : OneT Tryz.prog 118 := ⟨Tryz.isAgg118, Tryz.sizeOf118⟩
instance zero_118 : ZeroT Tryz.prog 118 .nilIface := ⟨Tryz.zeroValue118⟩
instance one_119 : OneT Tryz.prog 119 := ⟨Tryz.isAgg119, Tryz.sizeOf119⟩
instance zero_119 : ZeroT Tryz.prog 119 .nilIface := ⟨Tryz.zeroValue119⟩
instance one_121 : OneT Tryz.prog 121 := ⟨Tryz.isAgg121, Tryz.sizeOf121⟩
instance zero_121 : ZeroT Tryz.prog 121 .nilFunc := ⟨Tryz.zeroValue121⟩
instance one_122 : OneT Tryz.prog 122 := ⟨Tryz.isAgg122, Tryz.sizeOf122⟩
instance zero_122 : ZeroT Tryz.prog 122 .nilFunc := ⟨Tryz.zeroValue122⟩
instance one_124 : OneT Tryz.prog 124 := ⟨Tryz.isAgg124, Tryz.sizeOf124⟩
instance zero_124 : ZeroT Tryz.prog 124 .nilFunc := ⟨Tryz.zeroValue124⟩
instance one_126 : OneT Tryz.prog 126 := ⟨Tryz.isAgg126, Tryz.sizeOf126⟩
instance zero_126 : ZeroT Tryz.prog 126 (.pointer none) := ⟨Tryz.zeroValue126⟩
instance ptr_126 : PtrT Tryz.prog 126 := ⟨by kernel_rfl⟩
instance zero_127 : ZeroT Tryz.prog 127 (.agg #[(.string ⟨#[]⟩), (.pointer none)]) := ⟨Tryz.zeroValue127⟩
instance agg_127 : AggT Tryz.prog 127 2 := ⟨Tryz.isAgg127, Tryz.sizeOf127⟩
instance fld_127_0 : FldT Tryz.prog 127 0 0 := fld Tryz.runUnderlying127 (ft := 9) (by kernel_rfl) Tryz.sizeOf9
instance fld_127_1 : FldT Tryz.prog 127 1 1 := fld Tryz.runUnderlying127 (ft := 126) (by kernel_rfl) Tryz.sizeOf126
instance zero_128 : ZeroT Tryz.prog 128 (.agg #[(.string ⟨#[]⟩), (.pointer none), (.string ⟨#[]⟩), (.pointer none)]) := ⟨Tryz.zeroValue128⟩
instance agg_128 : AggT Tryz.prog 128 4 := ⟨Tryz.isAgg128, Tryz.sizeOf128⟩
instance arr_128 : ArrT Tryz.prog 128 2 127 2 := ⟨Tryz.runUnderlying128, Tryz.sizeOf127⟩
instance one_129 : OneT Tryz.prog 129 := ⟨Tryz.isAgg129, Tryz.sizeOf129⟩
instance zero_129 : ZeroT Tryz.prog 129 .nilFunc := ⟨Tryz.zeroValue129⟩
instance one_130 : OneT Tryz.prog 130 := ⟨Tryz.isAgg130, Tryz.sizeOf130⟩
instance zero_130 : ZeroT Tryz.prog 130 .nilFunc := ⟨Tryz.zeroValue130⟩
instance one_131 : OneT Tryz.prog 131 := ⟨Tryz.isAgg131, Tryz.sizeOf131⟩
instance zero_131 : ZeroT Tryz.prog 131 (.pointer none) := ⟨Tryz.zeroValue131⟩
instance ptr_131 : PtrT Tryz.prog 131 := ⟨by kernel_rfl⟩
instance one_132 : OneT Tryz.prog 132 := ⟨Tryz.isAgg132, Tryz.sizeOf132⟩
instance zero_132 : ZeroT Tryz.prog 132 .nilFunc := ⟨Tryz.zeroValue132⟩
instance one_133 : OneT Tryz.prog 133 := ⟨Tryz.isAgg133, Tryz.sizeOf133⟩
instance zero_133 : ZeroT Tryz.prog 133 (.pointer none) := ⟨Tryz.zeroValue133⟩
instance ptr_133 : PtrT Tryz.prog 133 := ⟨by kernel_rfl⟩
instance one_134 : OneT Tryz.prog 134 := ⟨Tryz.isAgg134, Tryz.sizeOf134⟩
instance zero_134 : ZeroT Tryz.prog 134 .nilFunc := ⟨Tryz.zeroValue134⟩
instance one_135 : OneT Tryz.prog 135 := ⟨Tryz.isAgg135, Tryz.sizeOf135⟩
instance zero_135 : ZeroT Tryz.prog 135 (.pointer none) := ⟨Tryz.zeroValue135⟩
instance ptr_135 : PtrT Tryz.prog 135 := ⟨by kernel_rfl⟩
instance one_136 : OneT Tryz.prog 136 := ⟨Tryz.isAgg136, Tryz.sizeOf136⟩
instance zero_136 : ZeroT Tryz.prog 136 .nilFunc := ⟨Tryz.zeroValue136⟩
instance one_137 : OneT Tryz.prog 137 := ⟨Tryz.isAgg137, Tryz.sizeOf137⟩
instance zero_137 : ZeroT Tryz.prog 137 (.pointer none) := ⟨Tryz.zeroValue137⟩
instance ptr_137 : PtrT Tryz.prog 137 := ⟨by kernel_rfl⟩
instance one_138 : OneT Tryz.prog 138 := ⟨Tryz.isAgg138, Tryz.sizeOf138⟩
instance zero_138 : ZeroT Tryz.prog 138 .nilFunc := ⟨Tryz.zeroValue138⟩
instance agg_139 : AggT Tryz.prog 139 256 := ⟨Tryz.isAgg139, Tryz.sizeOf139⟩
instance arr_139 : ArrT Tryz.prog 139 256 5 1 := ⟨Tryz.runUnderlying139, Tryz.sizeOf5⟩
instance agg_140 : AggT Tryz.prog 140 256 := ⟨Tryz.isAgg140, Tryz.sizeOf140⟩
instance arr_140 : ArrT Tryz.prog 140 256 5 1 := ⟨Tryz.runUnderlying140, Tryz.sizeOf5⟩
instance one_141 : OneT Tryz.prog 141 := ⟨Tryz.isAgg141, Tryz.sizeOf141⟩
instance zero_141 : ZeroT Tryz.prog 141 (.pointer none) := ⟨Tryz.zeroValue141⟩
instance ptr_141 : PtrT Tryz.prog 141 := ⟨by kernel_rfl⟩
instance agg_142 : AggT Tryz.prog 142 256 := ⟨Tryz.isAgg142, Tryz.sizeOf142⟩
instance arr_142 : ArrT Tryz.prog 142 256 57 1 := ⟨Tryz.runUnderlying142, Tryz.sizeOf57⟩
instance agg_143 : AggT Tryz.prog 143 257 := ⟨Tryz.isAgg143, Tryz.sizeOf143⟩
instance fld_143_0 : FldT Tryz.prog 143 0 0 := fld Tryz.runUnderlying143 (ft := 142) (by kernel_rfl) Tryz.sizeOf142
instance fld_143_1 : FldT Tryz.prog 143 1 256 := fld Tryz.runUnderlying143 (ft := 50) (by kernel_rfl) Tryz.sizeOf50
instance agg_144 : AggT Tryz.prog 144 257 := ⟨Tryz.isAgg144, Tryz.sizeOf144⟩
instance fld_144_0 : FldT Tryz.prog 144 0 0 := fld Tryz.runUnderlying144 (ft := 142) (by kernel_rfl) Tryz.sizeOf142
instance fld_144_1 : FldT Tryz.prog 144 1 256 := fld Tryz.runUnderlying144 (ft := 50) (by kernel_rfl) Tryz.sizeOf50
instance one_145 : OneT Tryz.prog 145 := ⟨Tryz.isAgg145, Tryz.sizeOf145⟩
instance zero_145 : ZeroT Tryz.prog 145 (.pointer none) := ⟨Tryz.zeroValue145⟩
instance ptr_145 : PtrT Tryz.prog 145 := ⟨by kernel_rfl⟩
instance one_146 : OneT Tryz.prog 146 := ⟨Tryz.isAgg146, Tryz.sizeOf146⟩
instance zero_146 : ZeroT Tryz.prog 146 .nilFunc := ⟨Tryz.zeroValue146⟩
instance one_147 : OneT Tryz.prog 147 := ⟨Tryz.isAgg147, Tryz.sizeOf147⟩
instance zero_147 : ZeroT Tryz.prog 147 .nilFunc := ⟨Tryz.zeroValue147⟩
instance agg_148 : AggT Tryz.prog 148 256 := ⟨Tryz.isAgg148, Tryz.sizeOf148⟩
instance arr_148 : ArrT Tryz.prog 148 256 4 1 := ⟨Tryz.runUnderlying148, Tryz.sizeOf4⟩
instance agg_149 : AggT Tryz.prog 149 256 := ⟨Tryz.isAgg149, Tryz.sizeOf149⟩
instance arr_149 : ArrT Tryz.prog 149 256 4 1 := ⟨Tryz.runUnderlying149, Tryz.sizeOf4⟩
instance one_151 : OneT Tryz.prog 151 := ⟨Tryz.isAgg151, Tryz.sizeOf151⟩
instance zero_151 : ZeroT Tryz.prog 151 .nilFunc := ⟨Tryz.zeroValue151⟩
instance one_152 : OneT Tryz.prog 152 := ⟨Tryz.isAgg152, Tryz.sizeOf152⟩
instance zero_152 : ZeroT Tryz.prog 152 .nilFunc := ⟨Tryz.zeroValue152⟩
instance one_153 : OneT Tryz.prog 153 := ⟨Tryz.isAgg153, Tryz.sizeOf153⟩
instance zero_153 : ZeroT Tryz.prog 153 (.pointer none) := ⟨Tryz.zeroValue153⟩
instance ptr_153 : PtrT Tryz.prog 153 := ⟨by kernel_rfl⟩
instance one_154 : OneT Tryz.prog 154 := ⟨Tryz.isAgg154, Tryz.sizeOf154⟩
instance zero_154 : ZeroT Tryz.prog 154 .nilFunc := ⟨Tryz.zeroValue154⟩
instance one_155 : OneT Tryz.prog 155 := ⟨Tryz.isAgg155, Tryz.sizeOf155⟩
instance zero_155 : ZeroT Tryz.prog 155 (.int .u64 0) := ⟨Tryz.zeroValue155⟩
instance int_155 : IntT Tryz.prog 155 .u64 := ⟨Tryz.runUnderlying155⟩
instance one_156 : OneT Tryz.prog 156 := ⟨Tryz.isAgg156, Tryz.sizeOf156⟩
instance zero_156 : ZeroT Tryz.prog 156 (.pointer none) := ⟨Tryz.zeroValue156⟩
instance ptr_156 : PtrT Tryz.prog 156 := ⟨by kernel_rfl⟩
instance one_157 : OneT Tryz.prog 157 := ⟨Tryz.isAgg157, Tryz.sizeOf157⟩
instance zero_157 : ZeroT Tryz.prog 157 .nilFunc := ⟨Tryz.zeroValue157⟩
instance one_158 : OneT Tryz.prog 158 := ⟨Tryz.isAgg158, Tryz.sizeOf158⟩
instance zero_158 : ZeroT Tryz.prog 158 .nilFunc := ⟨Tryz.zeroValue158⟩
instance one_159 : OneT Tryz.prog 159 := ⟨Tryz.isAgg159, Tryz.sizeOf159⟩
instance zero_159 : ZeroT Tryz.prog 159 (.pointer none) := ⟨Tryz.zeroValue159⟩
instance ptr_159 : PtrT Tryz.prog 159 := ⟨by kernel_rfl⟩
instance one_160 : OneT Tryz.prog 160 := ⟨Tryz.isAgg160, Tryz.sizeOf160⟩
instance zero_160 : ZeroT Tryz.prog 160 .nilFunc := ⟨Tryz.zeroValue160⟩
instance zero_161 : ZeroT Tryz.prog 161 (.agg #[(.pointer none), (.string ⟨#[]⟩)]) := ⟨Tryz.zeroValue161⟩
instance agg_161 : AggT Tryz.prog 161 2 := ⟨Tryz.isAgg161, Tryz.sizeOf161⟩
instance fld_161_0 : FldT Tryz.prog 161 0 0 := fld Tryz.runUnderlying161 (ft := 159) (by kernel_rfl) Tryz.sizeOf159
instance fld_161_1 : FldT Tryz.prog 161 1 1 := fld Tryz.runUnderlying161 (ft := 9) (by kernel_rfl) Tryz.sizeOf9
instance zero_162 : ZeroT Tryz.prog 162 (.agg #[(.pointer none), (.string ⟨#[]⟩)]) := ⟨Tryz.zeroValue162⟩
instance agg_162 : AggT Tryz.prog 162 2 := ⟨Tryz.isAgg162, Tryz.sizeOf162⟩
instance fld_162_0 : FldT Tryz.prog 162 0 0 := fld Tryz.runUnderlying162 (ft := 159) (by kernel_rfl) Tryz.sizeOf159
instance fld_162_1 : FldT Tryz.prog 162 1 1 := fld Tryz.runUnderlying162 (ft := 9) (by kernel_rfl) Tryz.sizeOf9
instance one_163 : OneT Tryz.prog 163 := ⟨Tryz.isAgg163, Tryz.sizeOf163⟩
instance zero_163 : ZeroT Tryz.prog 163 (.pointer none) := ⟨Tryz.zeroValue163⟩
instance ptr_163 : PtrT Tryz.prog 163 := ⟨by kernel_rfl⟩
instance one_164 : OneT Tryz.prog 164 := ⟨Tryz.isAgg164, Tryz.sizeOf164⟩
instance zero_164 : ZeroT Tryz.prog 164 (.slice none 0 0) := ⟨Tryz.zeroValue164⟩
instance sl_164 : SlT Tryz.prog 164 163 1 8 := slt (z := (.pointer none)) Tryz.underlying164 (i := Tryz.t163) (by kernel_rfl) (by kernel_rfl) (by kernel_rfl) (by kernel_rfl) (by kernel_rfl)
instance zero_165 : ZeroT Tryz.prog 165 (.agg #[(.string ⟨#[]⟩), (.int .i64 0), (.string ⟨#[]⟩), (.pointer none), (.slice none 0 0)]) := ⟨Tryz.zeroValue165⟩
instance agg_165 : AggT Tryz.prog 165 5 := ⟨Tryz.isAgg165, Tryz.sizeOf165⟩
instance fld_165_0 : FldT Tryz.prog 165 0 0 := fld Tryz.runUnderlying165 (ft := 9) (by kernel_rfl) Tryz.sizeOf9
instance fld_165_1 : FldT Tryz.prog 165 1 1 := fld Tryz.runUnderlying165 (ft := 3) (by kernel_rfl) Tryz.sizeOf3
instance fld_165_2 : FldT Tryz.prog 165 2 2 := fld Tryz.runUnderlying165 (ft := 9) (by kernel_rfl) Tryz.sizeOf9
instance fld_165_3 : FldT Tryz.prog 165 3 3 := fld Tryz.runUnderlying165 (ft := 163) (by kernel_rfl) Tryz.sizeOf163
instance fld_165_4 : FldT Tryz.prog 165 4 4 := fld Tryz.runUnderlying165 (ft := 164) (by kernel_rfl) Tryz.sizeOf164
instance zero_166 : ZeroT Tryz.prog 166 (.agg #[(.string ⟨#[]⟩), (.int .i64 0), (.string ⟨#[]⟩), (.pointer none), (.slice none 0 0)]) := ⟨Tryz.zeroValue166⟩
instance agg_166 : AggT Tryz.prog 166 5 := ⟨Tryz.isAgg166, Tryz.sizeOf166⟩
instance fld_166_0 : FldT Tryz.prog 166 0 0 := fld Tryz.runUnderlying166 (ft := 9) (by kernel_rfl) Tryz.sizeOf9
instance fld_166_1 : FldT Tryz.prog 166 1 1 := fld Tryz.runUnderlying166 (ft := 3) (by kernel_rfl) Tryz.sizeOf3
instance fld_166_2 : FldT Tryz.prog 166 2 2 := fld Tryz.runUnderlying166 (ft := 9) (by kernel_rfl) Tryz.sizeOf9
instance fld_166_3 : FldT Tryz.prog 166 3 3 := fld Tryz.runUnderlying166 (ft := 163) (by kernel_rfl) Tryz.sizeOf163
instance fld_166_4 : FldT Tryz.prog 166 4 4 := fld Tryz.runUnderlying166 (ft := 164) (by kernel_rfl) Tryz.sizeOf164
instance agg_167 : AggT Tryz.prog 167 262 := ⟨Tryz.isAgg167, Tryz.sizeOf167⟩
instance fld_167_0 : FldT Tryz.prog 167 0 0 := fld Tryz.runUnderlying167 (ft := 166) (by kernel_rfl) Tryz.sizeOf166
instance fld_167_1 : FldT Tryz.prog 167 1 5 := fld Tryz.runUnderlying167 (ft := 3) (by kernel_rfl) Tryz.sizeOf3
instance fld_167_2 : FldT Tryz.prog 167 2 6 := fld Tryz.runUnderlying167 (ft := 139) (by kernel_rfl) Tryz.sizeOf139
instance agg_168 : AggT Tryz.prog 168 262 := ⟨Tryz.isAgg168, Tryz.sizeOf168⟩
instance fld_168_0 : FldT Tryz.prog 168 0 0 := fld Tryz.runUnderlying168 (ft := 166) (by kernel_rfl) Tryz.sizeOf166
instance fld_168_1 : FldT Tryz.prog 168 1 5 := fld Tryz.runUnderlying168 (ft := 3) (by kernel_rfl) Tryz.sizeOf3
instance fld_168_2 : FldT Tryz.prog 168 2 6 := fld Tryz.runUnderlying168 (ft := 139) (by kernel_rfl) Tryz.sizeOf139
instance one_169 : OneT Tryz.prog 169 := ⟨Tryz.isAgg169, Tryz.sizeOf169⟩
instance zero_169 : ZeroT Tryz.prog 169 .nilFunc := ⟨Tryz.zeroValue169⟩
instance one_170 : OneT Tryz.prog 170 := ⟨Tryz.isAgg170, Tryz.sizeOf170⟩
instance zero_170 : ZeroT Tryz.prog 170 (.int .i64 0) := ⟨Tryz.zeroValue170⟩
instance int_170 : IntT Tryz.prog 170 .i64 := ⟨Tryz.runUnderlying170⟩
instance one_171 : OneT Tryz.prog 171 := ⟨Tryz.isAgg171, Tryz.sizeOf171⟩
instance zero_171 : ZeroT Tryz.prog 171 .nilFunc := ⟨Tryz.zeroValue171⟩
instance one_172 : OneT Tryz.prog 172 := ⟨Tryz.isAgg172, Tryz.sizeOf172⟩
instance zero_172 : ZeroT Tryz.prog 172 (.pointer none) := ⟨Tryz.zeroValue172⟩
instance ptr_172 : PtrT Tryz.prog 172 := ⟨by kernel_rfl⟩
instance one_173 : OneT Tryz.prog 173 := ⟨Tryz.isAgg173, Tryz.sizeOf173⟩
instance zero_173 : ZeroT Tryz.prog 173 .nilFunc := ⟨Tryz.zeroValue173⟩
instance one_174 : OneT Tryz.prog 174 := ⟨Tryz.isAgg174, Tryz.sizeOf174⟩
instance zero_174 : ZeroT Tryz.prog 174 .nilFunc := ⟨Tryz.zeroValue174⟩
instance one_176 : OneT Tryz.prog 176 := ⟨Tryz.isAgg176, Tryz.sizeOf176⟩
instance zero_176 : ZeroT Tryz.prog 176 .nilFunc := ⟨Tryz.zeroValue176⟩
instance one_177 : OneT Tryz.prog 177 := ⟨Tryz.isAgg177, Tryz.sizeOf177⟩
instance zero_177 : ZeroT Tryz.prog 177 .nilFunc := ⟨Tryz.zeroValue177⟩
instance one_179 : OneT Tryz.prog 179 := ⟨Tryz.isAgg179, Tryz.sizeOf179⟩
instance zero_179 : ZeroT Tryz.prog 179 .nilFunc := ⟨Tryz.zeroValue179⟩
instance one_180 : OneT Tryz.prog 180 := ⟨Tryz.isAgg180, Tryz.sizeOf180⟩
instance zero_180 : ZeroT Tryz.prog 180 (.pointer none) := ⟨Tryz.zeroValue180⟩
instance ptr_180 : PtrT Tryz.prog 180 := ⟨by kernel_rfl⟩
instance one_181 : OneT Tryz.prog 181 := ⟨Tryz.isAgg181, Tryz.sizeOf181⟩
instance zero_181 : ZeroT Tryz.prog 181 .nilFunc := ⟨Tryz.zeroValue181⟩
instance one_182 : OneT Tryz.prog 182 := ⟨Tryz.isAgg182, Tryz.sizeOf182⟩
instance zero_182 : ZeroT Tryz.prog 182 (.pointer none) := ⟨Tryz.zeroValue182⟩
instance ptr_182 : PtrT Tryz.prog 182 := ⟨by kernel_rfl⟩
instance one_183 : OneT Tryz.prog 183 := ⟨Tryz.isAgg183, Tryz.sizeOf183⟩
instance zero_183 : ZeroT Tryz.prog 183 .nilFunc := ⟨Tryz.zeroValue183⟩
instance one_184 : OneT Tryz.prog 184 := ⟨Tryz.isAgg184, Tryz.sizeOf184⟩
instance zero_184 : ZeroT Tryz.prog 184 (.pointer none) := ⟨Tryz.zeroValue184⟩
instance one_185 : OneT Tryz.prog 185 := ⟨Tryz.isAgg185, Tryz.sizeOf185⟩
instance zero_185 : ZeroT Tryz.prog 185 .nilFunc := ⟨Tryz.zeroValue185⟩
instance one_186 : OneT Tryz.prog 186 := ⟨Tryz.isAgg186, Tryz.sizeOf186⟩
instance zero_186 : ZeroT Tryz.prog 186 .nilFunc := ⟨Tryz.zeroValue186⟩
instance one_187 : OneT Tryz.prog 187 := ⟨Tryz.isAgg187, Tryz.sizeOf187⟩
instance zero_187 : ZeroT Tryz.prog 187 (.slice none 0 0) := ⟨Tryz.zeroValue187⟩
instance sl_187 : SlT Tryz.prog 187 3 1 8 := slt (z := (.int .i64 0)) Tryz.underlying187 (i := Tryz.t3) (by kernel_rfl) (by kernel_rfl) (by kernel_rfl) (by kernel_rfl) (by kernel_rfl)
instance agg_188 : AggT Tryz.prog 188 258 := ⟨Tryz.isAgg188, Tryz.sizeOf188⟩
instance fld_188_0 : FldT Tryz.prog 188 0 0 := fld Tryz.runUnderlying188 (ft := 9) (by kernel_rfl) Tryz.sizeOf9
instance fld_188_1 : FldT Tryz.prog 188 1 1 := fld Tryz.runUnderlying188 (ft := 75) (by kernel_rfl) Tryz.sizeOf75
instance fld_188_2 : FldT Tryz.prog 188 2 257 := fld Tryz.runUnderlying188 (ft := 187) (by kernel_rfl) Tryz.sizeOf187
instance agg_189 : AggT Tryz.prog 189 258 := ⟨Tryz.isAgg189, Tryz.sizeOf189⟩
instance fld_189_0 : FldT Tryz.prog 189 0 0 := fld Tryz.runUnderlying189 (ft := 9) (by kernel_rfl) Tryz.sizeOf9
instance fld_189_1 : FldT Tryz.prog 189 1 1 := fld Tryz.runUnderlying189 (ft := 75) (by kernel_rfl) Tryz.sizeOf75
instance fld_189_2 : FldT Tryz.prog 189 2 257 := fld Tryz.runUnderlying189 (ft := 187) (by kernel_rfl) Tryz.sizeOf187
instance zero_190 : ZeroT Tryz.prog 190 (.agg #[(.string ⟨#[]⟩), (.string ⟨#[]⟩), .nilIface]) := ⟨Tryz.zeroValue190⟩
instance agg_190 : AggT Tryz.prog 190 3 := ⟨Tryz.isAgg190, Tryz.sizeOf190⟩
instance fld_190_0 : FldT Tryz.prog 190 0 0 := fld Tryz.runUnderlying190 (ft := 9) (by kernel_rfl) Tryz.sizeOf9
instance fld_190_1 : FldT Tryz.prog 190 1 1 := fld Tryz.runUnderlying190 (ft := 9) (by kernel_rfl) Tryz.sizeOf9
instance fld_190_2 : FldT Tryz.prog 190 2 2 := fld Tryz.runUnderlying190 (ft := 119) (by kernel_rfl) Tryz.sizeOf119
instance zero_191 : ZeroT Tryz.prog 191 (.agg #[(.string ⟨#[]⟩), (.string ⟨#[]⟩), .nilIface]) := ⟨Tryz.zeroValue191⟩
instance agg_191 : AggT Tryz.prog 191 3 := ⟨Tryz.isAgg191, Tryz.sizeOf191⟩
instance fld_191_0 : FldT Tryz.prog 191 0 0 := fld Tryz.runUnderlying191 (ft := 9) (by kernel_rfl) Tryz.sizeOf9
instance fld_191_1 : FldT Tryz.prog 191 1 1 := fld Tryz.runUnderlying191 (ft := 9) (by kernel_rfl) Tryz.sizeOf9
instance fld_191_2 : FldT Tryz.prog 191 2 2 := fld Tryz.runUnderlying191 (ft := 119) (by kernel_rfl) Tryz.sizeOf119
instance one_192 : OneT Tryz.prog 192 := ⟨Tryz.isAgg192, Tryz.sizeOf192⟩
instance zero_192 : ZeroT Tryz.prog 192 .nilFunc := ⟨Tryz.zeroValue192⟩
instance one_193 : OneT Tryz.prog 193 := ⟨Tryz.isAgg193, Tryz.sizeOf193⟩
instance zero_193 : ZeroT Tryz.prog 193 .nilFunc := ⟨Tryz.zeroValue193⟩
instance one_194 : OneT Tryz.prog 194 := ⟨Tryz.isAgg194, Tryz.sizeOf194⟩
instance zero_194 : ZeroT Tryz.prog 194 .nilFunc := ⟨Tryz.zeroValue194⟩
instance one_195 : OneT Tryz.prog 195 := ⟨Tryz.isAgg195, Tryz.sizeOf195⟩
instance zero_195 : ZeroT Tryz.prog 195 .nilFunc := ⟨Tryz.zeroValue195⟩
instance one_196 : OneT Tryz.prog 196 := ⟨Tryz.isAgg196, Tryz.sizeOf196⟩
instance zero_196 : ZeroT Tryz.prog 196 .nilFunc := ⟨Tryz.zeroValue196⟩
instance one_197 : OneT Tryz.prog 197 := ⟨Tryz.isAgg197, Tryz.sizeOf197⟩
instance zero_197 : ZeroT Tryz.prog 197 .nilFunc := ⟨Tryz.zeroValue197⟩
instance one_198 : OneT Tryz.prog 198 := ⟨Tryz.isAgg198, Tryz.sizeOf198⟩
instance zero_198 : ZeroT Tryz.prog 198 .nilFunc := ⟨Tryz.zeroValue198⟩
instance one_199 : OneT Tryz.prog 199 := ⟨Tryz.isAgg199, Tryz.sizeOf199⟩
instance zero_199 : ZeroT Tryz.prog 199 (.pointer none) := ⟨Tryz.zeroValue199⟩
instance ptr_199 : PtrT Tryz.prog 199 := ⟨by kernel_rfl⟩
instance one_200 : OneT Tryz.prog 200 := ⟨Tryz.isAgg200, Tryz.sizeOf200⟩
instance zero_200 : ZeroT Tryz.prog 200 (.pointer none) := ⟨Tryz.zeroValue200⟩
instance ptr_200 : PtrT Tryz.prog 200 := ⟨by kernel_rfl⟩
instance zero_201 : ZeroT Tryz.prog 201 (.agg #[(.string ⟨#[]⟩)]) := ⟨Tryz.zeroValue201⟩
instance agg_201 : AggT Tryz.prog 201 1 := ⟨Tryz.isAgg201, Tryz.sizeOf201⟩
instance fld_201_0 : FldT Tryz.prog 201 0 0 := fld Tryz.runUnderlying201 (ft := 9) (by kernel_rfl) Tryz.sizeOf9
instance zero_202 : ZeroT Tryz.prog 202 (.agg #[(.string ⟨#[]⟩)]) := ⟨Tryz.zeroValue202⟩
instance agg_202 : AggT Tryz.prog 202 1 := ⟨Tryz.isAgg202, Tryz.sizeOf202⟩
instance fld_202_0 : FldT Tryz.prog 202 0 0 := fld Tryz.runUnderlying202 (ft := 9) (by kernel_rfl) Tryz.sizeOf9
instance zero_203 : ZeroT Tryz.prog 203 (.agg #[(.int .u8 0), (.int .u8 0)]) := ⟨Tryz.zeroValue203⟩
instance agg_203 : AggT Tryz.prog 203 2 := ⟨Tryz.isAgg203, Tryz.sizeOf203⟩
instance fld_203_0 : FldT Tryz.prog 203 0 0 := fld Tryz.runUnderlying203 (ft := 5) (by kernel_rfl) Tryz.sizeOf5
instance fld_203_1 : FldT Tryz.prog 203 1 1 := fld Tryz.runUnderlying203 (ft := 5) (by kernel_rfl) Tryz.sizeOf5
instance zero_204 : ZeroT Tryz.prog 204 (.agg #[(.int .u8 0), (.int .u8 0)]) := ⟨Tryz.zeroValue204⟩
instance agg_204 : AggT Tryz.prog 204 2 := ⟨Tryz.isAgg204, Tryz.sizeOf204⟩
instance fld_204_0 : FldT Tryz.prog 204 0 0 := fld Tryz.runUnderlying204 (ft := 5) (by kernel_rfl) Tryz.sizeOf5
instance fld_204_1 : FldT Tryz.prog 204 1 1 := fld Tryz.runUnderlying204 (ft := 5) (by kernel_rfl) Tryz.sizeOf5
instance zero_205 : ZeroT Tryz.prog 205 (.agg #[(.int .u8 0), (.int .u8 0), (.int .u8 0), (.int .u8 0), (.int .u8 0), (.int .u8 0), (.int .u8 0), (.int .u8 0), (.int .u8 0), (.int .u8 0), (.int .u8 0), (.int .u8 0), (.int .u8 0), (.int .u8 0), (.int .u8 0), (.int .u8 0), (.int .u8 0), (.int .u8 0), (.int .u8 0), (.int .u8 0), (.int .u8 0), (.int .u8 0), (.int .u8 0), (.int .u8 0), (.int .u8 0), (.int .u8 0), (.int .u8 0), (.int .u8 0), (.int .u8 0), (.int .u8 0), (.int .u8 0), (.int .u8 0)]) := ⟨Tryz.zeroValue205⟩
instance agg_205 : AggT Tryz.prog 205 32 := ⟨Tryz.isAgg205, Tryz.sizeOf205⟩
instance arr_205 : ArrT Tryz.prog 205 16 204 2 := ⟨Tryz.runUnderlying205, Tryz.sizeOf204⟩
instance one_206 : OneT Tryz.prog 206 := ⟨Tryz.isAgg206, Tryz.sizeOf206⟩
instance zero_206 : ZeroT Tryz.prog 206 .nilFunc := ⟨Tryz.zeroValue206⟩
instance one_207 : OneT Tryz.prog 207 := ⟨Tryz.isAgg207, Tryz.sizeOf207⟩
instance zero_207 : ZeroT Tryz.prog 207 .nilFunc := ⟨Tryz.zeroValue207⟩
instance zero_208 : ZeroT Tryz.prog 208 (.agg #[(.int .u8 0), (.int .u8 0), (.int .u8 0), (.int .u8 0), (.int .u8 0), (.int .u8 0), (.int .u8 0), (.int .u8 0), (.int .u8 0), (.int .u8 0), (.int .u8 0), (.int .u8 0), (.int .u8 0), (.int .u8 0), (.int .u8 0), (.int .u8 0), (.int .u8 0), (.int .u8 0), (.int .u8 0), (.int .u8 0), (.int .u8 0), (.int .u8 0), (.int .u8 0), (.int .u8 0)]) := ⟨Tryz.zeroValue208⟩
instance agg_208 : AggT Tryz.prog 208 24 := ⟨Tryz.isAgg208, Tryz.sizeOf208⟩
instance arr_208 : ArrT Tryz.prog 208 24 5 1 := ⟨Tryz.runUnderlying208, Tryz.sizeOf5⟩
instance one_209 : OneT Tryz.prog 209 := ⟨Tryz.isAgg209, Tryz.sizeOf209⟩
instance zero_209 : ZeroT Tryz.prog 209 .nilFunc := ⟨Tryz.zeroValue209⟩
instance one_210 : OneT Tryz.prog 210 := ⟨Tryz.isAgg210, Tryz.sizeOf210⟩
instance zero_210 : ZeroT Tryz.prog 210 .nilFunc := ⟨Tryz.zeroValue210⟩
instance one_212 : OneT Tryz.prog 212 := ⟨Tryz.isAgg212, Tryz.sizeOf212⟩
instance zero_212 : ZeroT Tryz.prog 212 .nilFunc := ⟨Tryz.zeroValue212⟩
instance one_213 : OneT Tryz.prog 213 := ⟨Tryz.isAgg213, Tryz.sizeOf213⟩
instance zero_213 : ZeroT Tryz.prog 213 .nilFunc := ⟨Tryz.zeroValue213⟩
instance zero_214 : ZeroT Tryz.prog 214 (.agg #[(.int .u64 0), (.int .u64 0), (.int .u64 0), (.int .u64 0), (.int .u64 0), (.int .u64 0), (.int .u64 0), (.int .u64 0), (.int .u64 0), (.int .u64 0), (.int .u64 0), (.int .u64 0), (.int .u64 0), (.int .u64 0), (.int .u64 0), (.int .u64 0), (.int .u64 0), (.int .u64 0), (.int .u64 0), (.int .u64 0)]) := ⟨Tryz.zeroValue214⟩
instance agg_214 : AggT Tryz.prog 214 20 := ⟨Tryz.isAgg214, Tryz.sizeOf214⟩
instance arr_214 : ArrT Tryz.prog 214 20 117 1 := ⟨Tryz.runUnderlying214, Tryz.sizeOf117⟩
instance agg_215 : AggT Tryz.prog 215 65 := ⟨Tryz.isAgg215, Tryz.sizeOf215⟩
instance arr_215 : ArrT Tryz.prog 215 65 5 1 := ⟨Tryz.runUnderlying215, Tryz.sizeOf5⟩
instance one_216 : OneT Tryz.prog 216 := ⟨Tryz.isAgg216, Tryz.sizeOf216⟩
instance zero_216 : ZeroT Tryz.prog 216 .nilFunc := ⟨Tryz.zeroValue216⟩
instance one_217 : OneT Tryz.prog 217 := ⟨Tryz.isAgg217, Tryz.sizeOf217⟩
instance zero_217 : ZeroT Tryz.prog 217 .nilFunc := ⟨Tryz.zeroValue217⟩
instance zero_218 : ZeroT Tryz.prog 218 (.agg #[(.int .u8 0), (.int .u8 0), (.int .u8 0), (.int .u8 0), (.int .u8 0), (.int .u8 0), (.int .u8 0), (.int .u8 0), (.int .u8 0), (.int .u8 0), (.int .u8 0), (.int .u8 0), (.int .u8 0), (.int .u8 0), (.int .u8 0), (.int .u8 0), (.int .u8 0), (.int .u8 0), (.int .u8 0), (.int .u8 0), (.int .u8 0), (.int .u8 0), (.int .u8 0), (.int .u8 0), (.int .u8 0), (.int .u8 0), (.int .u8 0), (.int .u8 0), (.int .u8 0), (.int .u8 0), (.int .u8 0), (.int .u8 0)]) := ⟨Tryz.zeroValue218⟩
instance agg_218 : AggT Tryz.prog 218 32 := ⟨Tryz.isAgg218, Tryz.sizeOf218⟩
instance arr_218 : ArrT Tryz.prog 218 32 5 1 := ⟨Tryz.runUnderlying218, Tryz.sizeOf5⟩
instance agg_219 : AggT Tryz.prog 219 64 := ⟨Tryz.isAgg219, Tryz.sizeOf219⟩
instance arr_219 : ArrT Tryz.prog 219 64 5 1 := ⟨Tryz.runUnderlying219, Tryz.sizeOf5⟩
instance one_220 : OneT Tryz.prog 220 := ⟨Tryz.isAgg220, Tryz.sizeOf220⟩
instance zero_220 : ZeroT Tryz.prog 220 .nilFunc := ⟨Tryz.zeroValue220⟩
instance zero_221 : ZeroT Tryz.prog 221 (.agg #[(.pointer none), (.pointer none), (.pointer none), (.string ⟨#[]⟩)]) := ⟨Tryz.zeroValue221⟩
instance agg_221 : AggT Tryz.prog 221 4 := ⟨Tryz.isAgg221, Tryz.sizeOf221⟩
instance fld_221_0 : FldT Tryz.prog 221 0 0 := fld Tryz.runUnderlying221 (ft := 17) (by kernel_rfl) Tryz.sizeOf17
instance fld_221_1 : FldT Tryz.prog 221 1 1 := fld Tryz.runUnderlying221 (ft := 17) (by kernel_rfl) Tryz.sizeOf17
instance fld_221_2 : FldT Tryz.prog 221 2 2 := fld Tryz.runUnderlying221 (ft := 17) (by kernel_rfl) Tryz.sizeOf17
instance fld_221_3 : FldT Tryz.prog 221 3 3 := fld Tryz.runUnderlying221 (ft := 9) (by kernel_rfl) Tryz.sizeOf9
instance zero_222 : ZeroT Tryz.prog 222 (.agg #[(.pointer none), (.pointer none), (.pointer none), (.string ⟨#[]⟩)]) := ⟨Tryz.zeroValue222⟩
instance agg_222 : AggT Tryz.prog 222 4 := ⟨Tryz.isAgg222, Tryz.sizeOf222⟩
instance fld_222_0 : FldT Tryz.prog 222 0 0 := fld Tryz.runUnderlying222 (ft := 17) (by kernel_rfl) Tryz.sizeOf17
instance fld_222_1 : FldT Tryz.prog 222 1 1 := fld Tryz.runUnderlying222 (ft := 17) (by kernel_rfl) Tryz.sizeOf17
instance fld_222_2 : FldT Tryz.prog 222 2 2 := fld Tryz.runUnderlying222 (ft := 17) (by kernel_rfl) Tryz.sizeOf17
instance fld_222_3 : FldT Tryz.prog 222 3 3 := fld Tryz.runUnderlying222 (ft := 9) (by kernel_rfl) Tryz.sizeOf9
instance zero_223 : ZeroT Tryz.prog 223 (.agg #[]) := ⟨Tryz.zeroValue223⟩
instance agg_223 : AggT Tryz.prog 223 0 := ⟨Tryz.isAgg223, Tryz.sizeOf223⟩
instance arr_223 : ArrT Tryz.prog 223 0 16 1 := ⟨Tryz.runUnderlying223, Tryz.sizeOf16⟩
instance zero_224 : ZeroT Tryz.prog 224 (.agg #[]) := ⟨Tryz.zeroValue224⟩
instance agg_224 : AggT Tryz.prog 224 0 := ⟨Tryz.isAgg224, Tryz.sizeOf224⟩
instance zero_225 : ZeroT Tryz.prog 225 (.agg #[]) := ⟨Tryz.zeroValue225⟩
instance agg_225 : AggT Tryz.prog 225 0 := ⟨Tryz.isAgg225, Tryz.sizeOf225⟩
instance one_226 : OneT Tryz.prog 226 := ⟨Tryz.isAgg226, Tryz.sizeOf226⟩
instance zero_226 : ZeroT Tryz.prog 226 .nilFunc := ⟨Tryz.zeroValue226⟩
instance one_227 : OneT Tryz.prog 227 := ⟨Tryz.isAgg227, Tryz.sizeOf227⟩
instance zero_227 : ZeroT Tryz.prog 227 (.int .u8 0) := ⟨Tryz.zeroValue227⟩
instance int_227 : IntT Tryz.prog 227 .u8 := ⟨Tryz.runUnderlying227⟩
instance one_228 : OneT Tryz.prog 228 := ⟨Tryz.isAgg228, Tryz.sizeOf228⟩
instance zero_228 : ZeroT Tryz.prog 228 (.int .u8 0) := ⟨Tryz.zeroValue228⟩
instance int_228 : IntT Tryz.prog 228 .u8 := ⟨Tryz.runUnderlying228⟩
instance one_229 : OneT Tryz.prog 229 := ⟨Tryz.isAgg229, Tryz.sizeOf229⟩
instance zero_229 : ZeroT Tryz.prog 229 .nilFunc := ⟨Tryz.zeroValue229⟩
instance one_230 : OneT Tryz.prog 230 := ⟨Tryz.isAgg230, Tryz.sizeOf230⟩
instance zero_230 : ZeroT Tryz.prog 230 (.int .i32 0) := ⟨Tryz.zeroValue230⟩
instance int_230 : IntT Tryz.prog 230 .i32 := ⟨Tryz.runUnderlying230⟩
instance one_231 : OneT Tryz.prog 231 := ⟨Tryz.isAgg231, Tryz.sizeOf231⟩
instance zero_231 : ZeroT Tryz.prog 231 (.int .i32 0) := ⟨Tryz.zeroValue231⟩
instance int_231 : IntT Tryz.prog 231 .i32 := ⟨Tryz.runUnderlying231⟩
instance zero_232 : ZeroT Tryz.prog 232 (.agg #[(.int .u64 0), (.int .u64 0), (.int .u32 0), (.int .u8 0), (.int .u8 0), (.int .u8 0), (.int .u8 0), .nilFunc, (.pointer none), (.int .i32 0), (.int .i32 0)]) := ⟨Tryz.zeroValue232⟩
instance agg_232 : AggT Tryz.prog 232 11 := ⟨Tryz.isAgg232, Tryz.sizeOf232⟩
instance fld_232_0 : FldT Tryz.prog 232 0 0 := fld Tryz.runUnderlying232 (ft := 12) (by kernel_rfl) Tryz.sizeOf12
instance fld_232_1 : FldT Tryz.prog 232 1 1 := fld Tryz.runUnderlying232 (ft := 12) (by kernel_rfl) Tryz.sizeOf12
instance fld_232_2 : FldT Tryz.prog 232 2 2 := fld Tryz.runUnderlying232 (ft := 88) (by kernel_rfl) Tryz.sizeOf88
instance fld_232_3 : FldT Tryz.prog 232 3 3 := fld Tryz.runUnderlying232 (ft := 227) (by kernel_rfl) Tryz.sizeOf227
instance fld_232_4 : FldT Tryz.prog 232 4 4 := fld Tryz.runUnderlying232 (ft := 5) (by kernel_rfl) Tryz.sizeOf5
instance fld_232_5 : FldT Tryz.prog 232 5 5 := fld Tryz.runUnderlying232 (ft := 5) (by kernel_rfl) Tryz.sizeOf5
instance fld_232_6 : FldT Tryz.prog 232 6 6 := fld Tryz.runUnderlying232 (ft := 228) (by kernel_rfl) Tryz.sizeOf228
instance fld_232_7 : FldT Tryz.prog 232 7 7 := fld Tryz.runUnderlying232 (ft := 229) (by kernel_rfl) Tryz.sizeOf229
instance fld_232_8 : FldT Tryz.prog 232 8 8 := fld Tryz.runUnderlying232 (ft := 199) (by kernel_rfl) Tryz.sizeOf199
instance fld_232_9 : FldT Tryz.prog 232 9 9 := fld Tryz.runUnderlying232 (ft := 230) (by kernel_rfl) Tryz.sizeOf230
instance fld_232_10 : FldT Tryz.prog 232 10 10 := fld Tryz.runUnderlying232 (ft := 231) (by kernel_rfl) Tryz.sizeOf231
instance zero_233 : ZeroT Tryz.prog 233 (.agg #[(.int .u64 0), (.int .u64 0), (.int .u32 0), (.int .u8 0), (.int .u8 0), (.int .u8 0), (.int .u8 0), .nilFunc, (.pointer none), (.int .i32 0), (.int .i32 0)]) := ⟨Tryz.zeroValue233⟩
instance agg_233 : AggT Tryz.prog 233 11 := ⟨Tryz.isAgg233, Tryz.sizeOf233⟩
instance fld_233_0 : FldT Tryz.prog 233 0 0 := fld Tryz.runUnderlying233 (ft := 12) (by kernel_rfl) Tryz.sizeOf12
instance fld_233_1 : FldT Tryz.prog 233 1 1 := fld Tryz.runUnderlying233 (ft := 12) (by kernel_rfl) Tryz.sizeOf12
instance fld_233_2 : FldT Tryz.prog 233 2 2 := fld Tryz.runUnderlying233 (ft := 88) (by kernel_rfl) Tryz.sizeOf88
instance fld_233_3 : FldT Tryz.prog 233 3 3 := fld Tryz.runUnderlying233 (ft := 227) (by kernel_rfl) Tryz.sizeOf227
instance fld_233_4 : FldT Tryz.prog 233 4 4 := fld Tryz.runUnderlying233 (ft := 5) (by kernel_rfl) Tryz.sizeOf5
instance fld_233_5 : FldT Tryz.prog 233 5 5 := fld Tryz.runUnderlying233 (ft := 5) (by kernel_rfl) Tryz.sizeOf5
instance fld_233_6 : FldT Tryz.prog 233 6 6 := fld Tryz.runUnderlying233 (ft := 228) (by kernel_rfl) Tryz.sizeOf228
instance fld_233_7 : FldT Tryz.prog 233 7 7 := fld Tryz.runUnderlying233 (ft := 229) (by kernel_rfl) Tryz.sizeOf229
instance fld_233_8 : FldT Tryz.prog 233 8 8 := fld Tryz.runUnderlying233 (ft := 199) (by kernel_rfl) Tryz.sizeOf199
instance fld_233_9 : FldT Tryz.prog 233 9 9 := fld Tryz.runUnderlying233 (ft := 230) (by kernel_rfl) Tryz.sizeOf230
instance fld_233_10 : FldT Tryz.prog 233 10 10 := fld Tryz.runUnderlying233 (ft := 231) (by kernel_rfl) Tryz.sizeOf231
instance one_234 : OneT Tryz.prog 234 := ⟨Tryz.isAgg234, Tryz.sizeOf234⟩
instance zero_234 : ZeroT Tryz.prog 234 .nilFunc := ⟨Tryz.zeroValue234⟩
instance one_235 : OneT Tryz.prog 235 := ⟨Tryz.isAgg235, Tryz.sizeOf235⟩
instance zero_235 : ZeroT Tryz.prog 235 (.pointer none) := ⟨Tryz.zeroValue235⟩
instance ptr_235 : PtrT Tryz.prog 235 := ⟨by kernel_rfl⟩
instance zero_236 : ZeroT Tryz.prog 236 (.agg #[(.pointer none), (.slice none 0 0)]) := ⟨Tryz.zeroValue236⟩
instance agg_236 : AggT Tryz.prog 236 2 := ⟨Tryz.isAgg236, Tryz.sizeOf236⟩
instance fld_236_0 : FldT Tryz.prog 236 0 0 := fld Tryz.runUnderlying236 (ft := 235) (by kernel_rfl) Tryz.sizeOf235
instance fld_236_1 : FldT Tryz.prog 236 1 1 := fld Tryz.runUnderlying236 (ft := 57) (by kernel_rfl) Tryz.sizeOf57
instance zero_237 : ZeroT Tryz.prog 237 (.agg #[(.pointer none), (.slice none 0 0)]) := ⟨Tryz.zeroValue237⟩
instance agg_237 : AggT Tryz.prog 237 2 := ⟨Tryz.isAgg237, Tryz.sizeOf237⟩
instance fld_237_0 : FldT Tryz.prog 237 0 0 := fld Tryz.runUnderlying237 (ft := 235) (by kernel_rfl) Tryz.sizeOf235
instance fld_237_1 : FldT Tryz.prog 237 1 1 := fld Tryz.runUnderlying237 (ft := 57) (by kernel_rfl) Tryz.sizeOf57
instance one_238 : OneT Tryz.prog 238 := ⟨Tryz.isAgg238, Tryz.sizeOf238⟩
instance zero_238 : ZeroT Tryz.prog 238 .nilFunc := ⟨Tryz.zeroValue238⟩
instance one_239 : OneT Tryz.prog 239 := ⟨Tryz.isAgg239, Tryz.sizeOf239⟩
instance zero_239 : ZeroT Tryz.prog 239 .nilFunc := ⟨Tryz.zeroValue239⟩
instance one_241 : OneT Tryz.prog 241 := ⟨Tryz.isAgg241, Tryz.sizeOf241⟩
instance zero_241 : ZeroT Tryz.prog 241 .nilFunc := ⟨Tryz.zeroValue241⟩
instance one_242 : OneT Tryz.prog 242 := ⟨Tryz.isAgg242, Tryz.sizeOf242⟩
instance zero_242 : ZeroT Tryz.prog 242 .nilFunc := ⟨Tryz.zeroValue242⟩
instance one_243 : OneT Tryz.prog 243 := ⟨Tryz.isAgg243, Tryz.sizeOf243⟩
instance zero_243 : ZeroT Tryz.prog 243 .nilFunc := ⟨Tryz.zeroValue243⟩
instance one_244 : OneT Tryz.prog 244 := ⟨Tryz.isAgg244, Tryz.sizeOf244⟩
instance zero_244 : ZeroT Tryz.prog 244 (.slice none 0 0) := ⟨Tryz.zeroValue244⟩
instance bytes_244 : BytesT Tryz.prog 244 := ⟨_, Tryz.underlying244, Tryz.underlying5⟩
instance sl_244 : SlT Tryz.prog 244 5 1 1 := slt (z := (.int .u8 0)) Tryz.underlying244 (i := Tryz.t5) (by kernel_rfl) (by kernel_rfl) (by kernel_rfl) (by kernel_rfl) (by kernel_rfl)
instance one_245 : OneT Tryz.prog 245 := ⟨Tryz.isAgg245, Tryz.sizeOf245⟩
instance zero_245 : ZeroT Tryz.prog 245 (.pointer none) := ⟨Tryz.zeroValue245⟩
instance ptr_245 : PtrT Tryz.prog 245 := ⟨by kernel_rfl⟩
instance one_246 : OneT Tryz.prog 246 := ⟨Tryz.isAgg246, Tryz.sizeOf246⟩
instance zero_246 : ZeroT Tryz.prog 246 .nilIface := ⟨Tryz.zeroValue246⟩
instance one_247 : OneT Tryz.prog 247 := ⟨Tryz.isAgg247, Tryz.sizeOf247⟩
instance zero_247 : ZeroT Tryz.prog 247 .nilIface := ⟨Tryz.zeroValue247⟩
instance one_248 : OneT Tryz.prog 248 := ⟨Tryz.isAgg248, Tryz.sizeOf248⟩
instance zero_248 : ZeroT Tryz.prog 248 .nilIface := ⟨Tryz.zeroValue248⟩
instance one_249 : OneT Tryz.prog 249 := ⟨Tryz.isAgg249, Tryz.sizeOf249⟩
instance zero_249 : ZeroT Tryz.prog 249 .nilIface := ⟨Tryz.zeroValue249⟩
instance one_250 : OneT Tryz.prog 250 := ⟨Tryz.isAgg250, Tryz.sizeOf250⟩
instance zero_250 : ZeroT Tryz.prog 250 .nilFunc := ⟨Tryz.zeroValue250⟩
instance one_252 : OneT Tryz.prog 252 := ⟨Tryz.isAgg252, Tryz.sizeOf252⟩
instance zero_252 : ZeroT Tryz.prog 252 .nilFunc := ⟨Tryz.zeroValue252⟩
instance zero_254 : ZeroT Tryz.prog 254 (.agg #[.nilIface]) := ⟨Tryz.zeroValue254⟩
instance agg_254 : AggT Tryz.prog 254 1 := ⟨Tryz.isAgg254, Tryz.sizeOf254⟩
instance fld_254_0 : FldT Tryz.prog 254 0 0 := fld Tryz.runUnderlying254 (ft := 247) (by kernel_rfl) Tryz.sizeOf247
instance zero_255 : ZeroT Tryz.prog 255 (.agg #[.nilIface]) := ⟨Tryz.zeroValue255⟩
instance agg_255 : AggT Tryz.prog 255 1 := ⟨Tryz.isAgg255, Tryz.sizeOf255⟩
instance fld_255_0 : FldT Tryz.prog 255 0 0 := fld Tryz.runUnderlying255 (ft := 247) (by kernel_rfl) Tryz.sizeOf247
instance one_256 : OneT Tryz.prog 256 := ⟨Tryz.isAgg256, Tryz.sizeOf256⟩
instance zero_256 : ZeroT Tryz.prog 256 .nilFunc := ⟨Tryz.zeroValue256⟩
instance bld_38_0_1 {a0 a1 : Value} [h0 : OC a0] [h1 : OC a1] : RV Tryz.prog (sBuild 38 [(0, a0), (1, a1)]) (.agg #[a0, a1]) := ⟨fun W w _ => by
  have c0 := cells_one h0.one; have c1 := cells_one h1.one; simp [sBuild, Instr.build, Tryz.zeroValue38, Tryz.runUnderlying38, Tryz.sizeOf4, Tryz.sizeOf9, cells_agg, Instr.fill, c0, c1]⟩
instance bld_49_0_1_2 {a0 a1 a2 : Value} [h0 : OC a0] [h1 : OC a1] [h2 : OC a2] : RV Tryz.prog (sBuild 49 [(0, a0), (1, a1), (2, a2)]) (.agg #[a0, a1, a2]) := ⟨fun W w _ => by
  have c0 := cells_one h0.one; have c1 := cells_one h1.one; have c2 := cells_one h2.one; simp [sBuild, Instr.build, Tryz.zeroValue49, Tryz.runUnderlying49, Tryz.sizeOf4, Tryz.sizeOf47, cells_agg, Instr.fill, c0, c1, c2]⟩
instance bld_38_  : RV Tryz.prog (sBuild 38 []) (.agg #[(.bool false), (.string ⟨#[]⟩)]) := ⟨fun W w _ => by
   simp [sBuild, Instr.build, Tryz.zeroValue38, Tryz.runUnderlying38, Tryz.sizeOf4, Tryz.sizeOf9, cells_agg, Instr.fill]⟩
instance bld_52_0 {a0 : Value} [h0 : OC a0] : RV Tryz.prog (sBuild 52 [(0, a0)]) (.agg #[a0, (.string ⟨#[]⟩), (.bool false)]) := ⟨fun W w _ => by
  have c0 := cells_one h0.one; simp [sBuild, Instr.build, Tryz.zeroValue52, Tryz.runUnderlying52, Tryz.sizeOf4, Tryz.sizeOf9, cells_agg, Instr.fill, c0]⟩
instance bld_100_2 {a0 : Value} [h0 : OC a0] : RV Tryz.prog (sBuild 100 [(2, a0)]) (.agg #[(.int .u32 0), (.int .i32 0), (.int .u32 0), .nilIface, a0]) := ⟨fun W w _ => by
  have c0 := cells_one h0.one; simp [sBuild, Instr.build, Tryz.zeroValue100, Tryz.runUnderlying100, Tryz.sizeOf50, Tryz.sizeOf96, Tryz.sizeOf98, cells_agg, Instr.fill, c0]⟩
instance bld_107_2 {a0 : Value} [h0 : OC a0] : RV Tryz.prog (sBuild 107 [(2, a0)]) (.agg #[(.bool false), (.bool false), a0]) := ⟨fun W w _ => by
  have c0 := cells_one h0.one; simp [sBuild, Instr.build, Tryz.zeroValue107, Tryz.runUnderlying107, Tryz.sizeOf4, Tryz.sizeOf105, cells_agg, Instr.fill, c0]⟩
instance bld_111_2 {a0 : Value} [h0 : OC a0] : RV Tryz.prog (sBuild 111 [(2, a0)]) (.agg #[(.bool false), (.bool false), a0]) := ⟨fun W w _ => by
  have c0 := cells_one h0.one; simp [sBuild, Instr.build, Tryz.zeroValue111, Tryz.runUnderlying111, Tryz.sizeOf4, Tryz.sizeOf109, cells_agg, Instr.fill, c0]⟩
instance bld_69_0_1 {a0 a1 : Value} [h0 : OC a0] [h1 : OC a1] : RV Tryz.prog (sBuild 69 [(0, a0), (1, a1)]) (.agg #[a0, a1]) := ⟨fun W w _ => by
  have c0 := cells_one h0.one; have c1 := cells_one h1.one; simp [sBuild, Instr.build, Tryz.zeroValue69, Tryz.runUnderlying69, Tryz.sizeOf3, Tryz.sizeOf9, cells_agg, Instr.fill, c0, c1]⟩
instance bld_69_  : RV Tryz.prog (sBuild 69 []) (.agg #[(.string ⟨#[]⟩), (.int .i64 0)]) := ⟨fun W w _ => by
   simp [sBuild, Instr.build, Tryz.zeroValue69, Tryz.runUnderlying69, Tryz.sizeOf3, Tryz.sizeOf9, cells_agg, Instr.fill]⟩
instance bld_71_0_1 {a0 a1 : Value} [h0 : OC a0] [h1 : OC a1] : RV Tryz.prog (sBuild 71 [(0, a0), (1, a1)]) (.agg #[a0, a1]) := ⟨fun W w _ => by
  have c0 := cells_one h0.one; have c1 := cells_one h1.one; simp [sBuild, Instr.build, Tryz.zeroValue71, Tryz.runUnderlying71, Tryz.sizeOf3, cells_agg, Instr.fill, c0, c1]⟩
instance bld_127_0_1 {a0 a1 : Value} [h0 : OC a0] [h1 : OC a1] : RV Tryz.prog (sBuild 127 [(0, a0), (1, a1)]) (.agg #[a0, a1]) := ⟨fun W w _ => by
  have c0 := cells_one h0.one; have c1 := cells_one h1.one; simp [sBuild, Instr.build, Tryz.zeroValue127, Tryz.runUnderlying127, Tryz.sizeOf9, Tryz.sizeOf126, cells_agg, Instr.fill, c0, c1]⟩
instance bld_128_0_1 {a0_0 a0_1 a1_0 a1_1 : Value}  : RV Tryz.prog (sBuild 128 [(0, .agg #[a0_0, a0_1]), (1, .agg #[a1_0, a1_1])]) (.agg #[a0_0, a0_1, a1_0, a1_1]) := ⟨fun W w _ => by
   simp [sBuild, Instr.build, Tryz.zeroValue128, Tryz.runUnderlying128, Tryz.sizeOf127, cells_agg, Instr.fill]⟩
instance bld_162_0_1 {a0 a1 : Value} [h0 : OC a0] [h1 : OC a1] : RV Tryz.prog (sBuild 162 [(0, a0), (1, a1)]) (.agg #[a0, a1]) := ⟨fun W w _ => by
  have c0 := cells_one h0.one; have c1 := cells_one h1.one; simp [sBuild, Instr.build, Tryz.zeroValue162, Tryz.runUnderlying162, Tryz.sizeOf9, Tryz.sizeOf159, cells_agg, Instr.fill, c0, c1]⟩
instance bld_166_2_3 {a0 a1 : Value} [h0 : OC a0] [h1 : OC a1] : RV Tryz.prog (sBuild 166 [(2, a0), (3, a1)]) (.agg #[(.string ⟨#[]⟩), (.int .i64 0), a0, a1, (.slice none 0 0)]) := ⟨fun W w _ => by
  have c0 := cells_one h0.one; have c1 := cells_one h1.one; simp [sBuild, Instr.build, Tryz.zeroValue166, Tryz.runUnderlying166, Tryz.sizeOf3, Tryz.sizeOf9, Tryz.sizeOf163, Tryz.sizeOf164, cells_agg, Instr.fill, c0, c1]⟩
instance bld_191_0_1_2 {a0 a1 a2 : Value} [h0 : OC a0] [h1 : OC a1] [h2 : OC a2] : RV Tryz.prog (sBuild 191 [(0, a0), (1, a1), (2, a2)]) (.agg #[a0, a1, a2]) := ⟨fun W w _ => by
  have c0 := cells_one h0.one; have c1 := cells_one h1.one; have c2 := cells_one h2.one; simp [sBuild, Instr.build, Tryz.zeroValue191, Tryz.runUnderlying191, Tryz.sizeOf9, Tryz.sizeOf119, cells_agg, Instr.fill, c0, c1, c2]⟩
instance bld_202_0 {a0 : Value} [h0 : OC a0] : RV Tryz.prog (sBuild 202 [(0, a0)]) (.agg #[a0]) := ⟨fun W w _ => by
  have c0 := cells_one h0.one; simp [sBuild, Instr.build, Tryz.zeroValue202, Tryz.runUnderlying202, Tryz.sizeOf9, cells_agg, Instr.fill, c0]⟩
instance bld_255_0 {a0 : Value} [h0 : OC a0] : RV Tryz.prog (sBuild 255 [(0, a0)]) (.agg #[a0]) := ⟨fun W w _ => by
  have c0 := cells_one h0.one; simp [sBuild, Instr.build, Tryz.zeroValue255, Tryz.runUnderlying255, Tryz.sizeOf247, cells_agg, Instr.fill, c0]⟩
instance bld_218_0_1_2_3_4_5_6_7_8_9_10_11_12_13_14_15_16_17_18_19_20_21_22_23_24_25_26_27_28_29_30_31 {a0 a1 a2 a3 a4 a5 a6 a7 a8 a9 a10 a11 a12 a13 a14 a15 a16 a17 a18 a19 a20 a21 a22 a23 a24 a25 a26 a27 a28 a29 a30 a31 : Value} [h0 : OC a0] [h1 : OC a1] [h2 : OC a2] [h3 : OC a3] [h4 : OC a4] [h5 : OC a5] [h6 : OC a6] [h7 : OC a7] [h8 : OC a8] [h9 : OC a9] [h10 : OC a10] [h11 : OC a11] [h12 : OC a12] [h13 : OC a13] [h14 : OC a14] [h15 : OC a15] [h16 : OC a16] [h17 : OC a17] [h18 : OC a18] [h19 : OC a19] [h20 : OC a20] [h21 : OC a21] [h22 : OC a22] [h23 : OC a23] [h24 : OC a24] [h25 : OC a25] [h26 : OC a26] [h27 : OC a27] [h28 : OC a28] [h29 : OC a29] [h30 : OC a30] [h31 : OC a31] : RV Tryz.prog (sBuild 218 [(0, a0), (1, a1), (2, a2), (3, a3), (4, a4), (5, a5), (6, a6), (7, a7), (8, a8), (9, a9), (10, a10), (11, a11), (12, a12), (13, a13), (14, a14), (15, a15), (16, a16), (17, a17), (18, a18), (19, a19), (20, a20), (21, a21), (22, a22), (23, a23), (24, a24), (25, a25), (26, a26), (27, a27), (28, a28), (29, a29), (30, a30), (31, a31)]) (.agg #[a0, a1, a2, a3, a4, a5, a6, a7, a8, a9, a10, a11, a12, a13, a14, a15, a16, a17, a18, a19, a20, a21, a22, a23, a24, a25, a26, a27, a28, a29, a30, a31]) := ⟨fun W w _ => by
  have c0 := cells_one h0.one; have c1 := cells_one h1.one; have c2 := cells_one h2.one; have c3 := cells_one h3.one; have c4 := cells_one h4.one; have c5 := cells_one h5.one; have c6 := cells_one h6.one; have c7 := cells_one h7.one; have c8 := cells_one h8.one; have c9 := cells_one h9.one; have c10 := cells_one h10.one; have c11 := cells_one h11.one; have c12 := cells_one h12.one; have c13 := cells_one h13.one; have c14 := cells_one h14.one; have c15 := cells_one h15.one; have c16 := cells_one h16.one; have c17 := cells_one h17.one; have c18 := cells_one h18.one; have c19 := cells_one h19.one; have c20 := cells_one h20.one; have c21 := cells_one h21.one; have c22 := cells_one h22.one; have c23 := cells_one h23.one; have c24 := cells_one h24.one; have c25 := cells_one h25.one; have c26 := cells_one h26.one; have c27 := cells_one h27.one; have c28 := cells_one h28.one; have c29 := cells_one h29.one; have c30 := cells_one h30.one; have c31 := cells_one h31.one; simp [sBuild, Instr.build, Tryz.zeroValue218, Tryz.runUnderlying218, Tryz.sizeOf5, cells_agg, Instr.fill, c0, c1, c2, c3, c4, c5, c6, c7, c8, c9, c10, c11, c12, c13, c14, c15, c16, c17, c18, c19, c20, c21, c22, c23, c24, c25, c26, c27, c28, c29, c30, c31]⟩
instance bld_214_0_1_2_3_4_5_6_7_8_9_10_11_12_13_14_15_16_17_18_19 {a0 a1 a2 a3 a4 a5 a6 a7 a8 a9 a10 a11 a12 a13 a14 a15 a16 a17 a18 a19 : Value} [h0 : OC a0] [h1 : OC a1] [h2 : OC a2] [h3 : OC a3] [h4 : OC a4] [h5 : OC a5] [h6 : OC a6] [h7 : OC a7] [h8 : OC a8] [h9 : OC a9] [h10 : OC a10] [h11 : OC a11] [h12 : OC a12] [h13 : OC a13] [h14 : OC a14] [h15 : OC a15] [h16 : OC a16] [h17 : OC a17] [h18 : OC a18] [h19 : OC a19] : RV Tryz.prog (sBuild 214 [(0, a0), (1, a1), (2, a2), (3, a3), (4, a4), (5, a5), (6, a6), (7, a7), (8, a8), (9, a9), (10, a10), (11, a11), (12, a12), (13, a13), (14, a14), (15, a15), (16, a16), (17, a17), (18, a18), (19, a19)]) (.agg #[a0, a1, a2, a3, a4, a5, a6, a7, a8, a9, a10, a11, a12, a13, a14, a15, a16, a17, a18, a19]) := ⟨fun W w _ => by
  have c0 := cells_one h0.one; have c1 := cells_one h1.one; have c2 := cells_one h2.one; have c3 := cells_one h3.one; have c4 := cells_one h4.one; have c5 := cells_one h5.one; have c6 := cells_one h6.one; have c7 := cells_one h7.one; have c8 := cells_one h8.one; have c9 := cells_one h9.one; have c10 := cells_one h10.one; have c11 := cells_one h11.one; have c12 := cells_one h12.one; have c13 := cells_one h13.one; have c14 := cells_one h14.one; have c15 := cells_one h15.one; have c16 := cells_one h16.one; have c17 := cells_one h17.one; have c18 := cells_one h18.one; have c19 := cells_one h19.one; simp [sBuild, Instr.build, Tryz.zeroValue214, Tryz.runUnderlying214, Tryz.sizeOf117, cells_agg, Instr.fill, c0, c1, c2, c3, c4, c5, c6, c7, c8, c9, c10, c11, c12, c13, c14, c15, c16, c17, c18, c19]⟩
instance bld_204_0_1 {a0 a1 : Value} [h0 : OC a0] [h1 : OC a1] : RV Tryz.prog (sBuild 204 [(0, a0), (1, a1)]) (.agg #[a0, a1]) := ⟨fun W w _ => by
  have c0 := cells_one h0.one; have c1 := cells_one h1.one; simp [sBuild, Instr.build, Tryz.zeroValue204, Tryz.runUnderlying204, Tryz.sizeOf5, cells_agg, Instr.fill, c0, c1]⟩
instance bld_205_0_1_2_3_4 {a0_0 a0_1 a1_0 a1_1 a2_0 a2_1 a3_0 a3_1 a4_0 a4_1 : Value}  : RV Tryz.prog (sBuild 205 [(0, .agg #[a0_0, a0_1]), (1, .agg #[a1_0, a1_1]), (2, .agg #[a2_0, a2_1]), (3, .agg #[a3_0, a3_1]), (4, .agg #[a4_0, a4_1])]) (.agg #[a0_0, a0_1, a1_0, a1_1, a2_0, a2_1, a3_0, a3_1, a4_0, a4_1, (.int .u8 0), (.int .u8 0), (.int .u8 0), (.int .u8 0), (.int .u8 0), (.int .u8 0), (.int .u8 0), (.int .u8 0), (.int .u8 0), (.int .u8 0), (.int .u8 0), (.int .u8 0), (.int .u8 0), (.int .u8 0), (.int .u8 0), (.int .u8 0), (.int .u8 0), (.int .u8 0), (.int .u8 0), (.int .u8 0), (.int .u8 0), (.int .u8 0)]) := ⟨fun W w _ => by
   simp [sBuild, Instr.build, Tryz.zeroValue205, Tryz.runUnderlying205, Tryz.sizeOf204, cells_agg, Instr.fill]⟩
end Go.Proofs.YtcigoifhcfbcdaaGreatDoor.T
