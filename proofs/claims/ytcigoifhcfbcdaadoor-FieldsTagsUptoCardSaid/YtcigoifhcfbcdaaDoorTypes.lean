/- What the loaded program's types are, one fact a line; printed by a program of mine. No conditions. -/
import Derived.Test.YtcigoifhcfbcdaaDoorChecked
import Derived.Test.YtcigoifhcfbcdaaDoorRead
import Derived.Test.YtcigoifhcfbcdaaDoorMap
import Derived.KernelRfl
set_option linter.unusedVariables false
set_option linter.unusedSimpArgs false
namespace Go.Proofs.YtcigoifhcfbcdaaDoor.T
open Go Go.Proofs Go.Proofs.YtcigoifhcfbcdaaDoor.Sh Go.Proofs.YtcigoifhcfbcdaaDoor.Sl
theorem fld {P : Program} {t : TypeId} {fs : Array Field} {f ft o n : Nat} (hu : ∀ w, (underlying t).run P w = .ok (.struct fs) w) (hf : (fs[f]?).map (fun x => (x.type, x.offset)) = some (ft, o)) (hs : ∀ w, (sizeOf ft).run P w = .ok (n + 1) w) : FldT P t f o :=
  ⟨fun g b w => by
    cases h : fs[f]? with
    | none => rw [h] at hf; cases hf
    | some fl =>
      rw [h] at hf
      simp only [Option.map_some, Option.some.injEq, Prod.mk.injEq] at hf
      obtain ⟨rfl, rfl⟩ := hf
      simp only [Instr.fieldAt, Sem.run_bind, hu, Result.andThen_ok, h, Instr.sureAddr, fieldPlace, hs, Sem.run_pure]
      by_cases h0 : fl.offset = 0 <;> simp [Addr.add, h0]⟩
theorem slt {P : Program} {t e : TypeId} {i : TypeInfo} {z : Value} {s b : Nat} (hu : P.underlying t = some (.slice e)) (hi : P.info? e = some i) (hz : i.zero = some z) (hs : i.size = s) (hb : i.bytes = b) (hzs : z.cells.size = s) : SlT P t e s b := ⟨hu, i, z, hi, hz, hs, hb, hzs⟩

instance one_1 : OneT Tryd.prog 1 := ⟨Tryd.isAgg1, Tryd.sizeOf1⟩
instance zero_1 : ZeroT Tryd.prog 1 .nilFunc := ⟨Tryd.zeroValue1⟩
instance one_2 : OneT Tryd.prog 2 := ⟨Tryd.isAgg2, Tryd.sizeOf2⟩
instance zero_2 : ZeroT Tryd.prog 2 (.int .i64 0) := ⟨Tryd.zeroValue2⟩
instance int_2 : IntT Tryd.prog 2 .i64 := ⟨Tryd.runUnderlying2⟩
instance one_3 : OneT Tryd.prog 3 := ⟨Tryd.isAgg3, Tryd.sizeOf3⟩
instance zero_3 : ZeroT Tryd.prog 3 (.int .i64 0) := ⟨Tryd.zeroValue3⟩
instance int_3 : IntT Tryd.prog 3 .i64 := ⟨Tryd.runUnderlying3⟩
instance one_4 : OneT Tryd.prog 4 := ⟨Tryd.isAgg4, Tryd.sizeOf4⟩
instance zero_4 : ZeroT Tryd.prog 4 (.bool false) := ⟨Tryd.zeroValue4⟩
instance one_5 : OneT Tryd.prog 5 := ⟨Tryd.isAgg5, Tryd.sizeOf5⟩
instance zero_5 : ZeroT Tryd.prog 5 (.int .u8 0) := ⟨Tryd.zeroValue5⟩
instance int_5 : IntT Tryd.prog 5 .u8 := ⟨Tryd.runUnderlying5⟩
instance one_6 : OneT Tryd.prog 6 := ⟨Tryd.isAgg6, Tryd.sizeOf6⟩
instance zero_6 : ZeroT Tryd.prog 6 (.int .u8 0) := ⟨Tryd.zeroValue6⟩
instance int_6 : IntT Tryd.prog 6 .u8 := ⟨Tryd.runUnderlying6⟩
instance zero_7 : ZeroT Tryd.prog 7 (.agg #[(.int .i64 0), (.int .i64 0), (.bool false), (.int .u8 0)]) := ⟨Tryd.zeroValue7⟩
instance agg_7 : AggT Tryd.prog 7 4 := ⟨Tryd.isAgg7, Tryd.sizeOf7⟩
instance fld_7_0 : FldT Tryd.prog 7 0 0 := fld Tryd.runUnderlying7 (ft := 2) (by kernel_rfl) Tryd.sizeOf2
instance fld_7_1 : FldT Tryd.prog 7 1 1 := fld Tryd.runUnderlying7 (ft := 3) (by kernel_rfl) Tryd.sizeOf3
instance fld_7_2 : FldT Tryd.prog 7 2 2 := fld Tryd.runUnderlying7 (ft := 4) (by kernel_rfl) Tryd.sizeOf4
instance fld_7_3 : FldT Tryd.prog 7 3 3 := fld Tryd.runUnderlying7 (ft := 6) (by kernel_rfl) Tryd.sizeOf6
instance zero_8 : ZeroT Tryd.prog 8 (.agg #[(.int .i64 0), (.int .i64 0), (.bool false), (.int .u8 0)]) := ⟨Tryd.zeroValue8⟩
instance agg_8 : AggT Tryd.prog 8 4 := ⟨Tryd.isAgg8, Tryd.sizeOf8⟩
instance fld_8_0 : FldT Tryd.prog 8 0 0 := fld Tryd.runUnderlying8 (ft := 2) (by kernel_rfl) Tryd.sizeOf2
instance fld_8_1 : FldT Tryd.prog 8 1 1 := fld Tryd.runUnderlying8 (ft := 3) (by kernel_rfl) Tryd.sizeOf3
instance fld_8_2 : FldT Tryd.prog 8 2 2 := fld Tryd.runUnderlying8 (ft := 4) (by kernel_rfl) Tryd.sizeOf4
instance fld_8_3 : FldT Tryd.prog 8 3 3 := fld Tryd.runUnderlying8 (ft := 6) (by kernel_rfl) Tryd.sizeOf6
instance one_9 : OneT Tryd.prog 9 := ⟨Tryd.isAgg9, Tryd.sizeOf9⟩
instance zero_9 : ZeroT Tryd.prog 9 (.string ⟨#[]⟩) := ⟨Tryd.zeroValue9⟩
instance str_9 : StrT Tryd.prog 9 := ⟨Tryd.underlying9⟩
instance one_10 : OneT Tryd.prog 10 := ⟨Tryd.isAgg10, Tryd.sizeOf10⟩
instance zero_10 : ZeroT Tryd.prog 10 (.string ⟨#[]⟩) := ⟨Tryd.zeroValue10⟩
instance str_10 : StrT Tryd.prog 10 := ⟨Tryd.underlying10⟩
instance one_11 : OneT Tryd.prog 11 := ⟨Tryd.isAgg11, Tryd.sizeOf11⟩
instance zero_11 : ZeroT Tryd.prog 11 (.string ⟨#[]⟩) := ⟨Tryd.zeroValue11⟩
instance str_11 : StrT Tryd.prog 11 := ⟨Tryd.underlying11⟩
instance one_12 : OneT Tryd.prog 12 := ⟨Tryd.isAgg12, Tryd.sizeOf12⟩
instance zero_12 : ZeroT Tryd.prog 12 (.int .u64 0) := ⟨Tryd.zeroValue12⟩
instance int_12 : IntT Tryd.prog 12 .u64 := ⟨Tryd.runUnderlying12⟩
instance zero_13 : ZeroT Tryd.prog 13 (.agg #[(.string ⟨#[]⟩), (.int .u64 0)]) := ⟨Tryd.zeroValue13⟩
instance agg_13 : AggT Tryd.prog 13 2 := ⟨Tryd.isAgg13, Tryd.sizeOf13⟩
instance fld_13_0 : FldT Tryd.prog 13 0 0 := fld Tryd.runUnderlying13 (ft := 9) (by kernel_rfl) Tryd.sizeOf9
instance fld_13_1 : FldT Tryd.prog 13 1 1 := fld Tryd.runUnderlying13 (ft := 12) (by kernel_rfl) Tryd.sizeOf12
instance zero_14 : ZeroT Tryd.prog 14 (.agg #[(.string ⟨#[]⟩), (.int .u64 0)]) := ⟨Tryd.zeroValue14⟩
instance agg_14 : AggT Tryd.prog 14 2 := ⟨Tryd.isAgg14, Tryd.sizeOf14⟩
instance fld_14_0 : FldT Tryd.prog 14 0 0 := fld Tryd.runUnderlying14 (ft := 9) (by kernel_rfl) Tryd.sizeOf9
instance fld_14_1 : FldT Tryd.prog 14 1 1 := fld Tryd.runUnderlying14 (ft := 12) (by kernel_rfl) Tryd.sizeOf12
instance one_15 : OneT Tryd.prog 15 := ⟨Tryd.isAgg15, Tryd.sizeOf15⟩
instance zero_15 : ZeroT Tryd.prog 15 (.pointer none) := ⟨Tryd.zeroValue15⟩
instance ptr_15 : PtrT Tryd.prog 15 := ⟨by kernel_rfl⟩
instance one_16 : OneT Tryd.prog 16 := ⟨Tryd.isAgg16, Tryd.sizeOf16⟩
instance zero_16 : ZeroT Tryd.prog 16 (.pointer none) := ⟨Tryd.zeroValue16⟩
instance ptr_16 : PtrT Tryd.prog 16 := ⟨by kernel_rfl⟩
instance one_17 : OneT Tryd.prog 17 := ⟨Tryd.isAgg17, Tryd.sizeOf17⟩
instance zero_17 : ZeroT Tryd.prog 17 (.pointer none) := ⟨Tryd.zeroValue17⟩
instance ptr_17 : PtrT Tryd.prog 17 := ⟨by kernel_rfl⟩
instance zero_18 : ZeroT Tryd.prog 18 (.agg #[(.pointer none)]) := ⟨Tryd.zeroValue18⟩
instance agg_18 : AggT Tryd.prog 18 1 := ⟨Tryd.isAgg18, Tryd.sizeOf18⟩
instance fld_18_0 : FldT Tryd.prog 18 0 0 := fld Tryd.runUnderlying18 (ft := 17) (by kernel_rfl) Tryd.sizeOf17
instance zero_19 : ZeroT Tryd.prog 19 (.agg #[(.pointer none)]) := ⟨Tryd.zeroValue19⟩
instance agg_19 : AggT Tryd.prog 19 1 := ⟨Tryd.isAgg19, Tryd.sizeOf19⟩
instance fld_19_0 : FldT Tryd.prog 19 0 0 := fld Tryd.runUnderlying19 (ft := 17) (by kernel_rfl) Tryd.sizeOf17
instance one_20 : OneT Tryd.prog 20 := ⟨Tryd.isAgg20, Tryd.sizeOf20⟩
instance zero_20 : ZeroT Tryd.prog 20 .nilIface := ⟨Tryd.zeroValue20⟩
instance one_21 : OneT Tryd.prog 21 := ⟨Tryd.isAgg21, Tryd.sizeOf21⟩
instance zero_21 : ZeroT Tryd.prog 21 (.int .i32 0) := ⟨Tryd.zeroValue21⟩
instance int_21 : IntT Tryd.prog 21 .i32 := ⟨Tryd.runUnderlying21⟩
instance one_22 : OneT Tryd.prog 22 := ⟨Tryd.isAgg22, Tryd.sizeOf22⟩
instance zero_22 : ZeroT Tryd.prog 22 (.slice none 0 0) := ⟨Tryd.zeroValue22⟩
instance sl_22 : SlT Tryd.prog 22 31 2 16 := slt (z := (.agg #[(.int .i64 0), (.int .i64 0)])) Tryd.underlying22 (i := Tryd.t31) (by kernel_rfl) (by kernel_rfl) (by kernel_rfl) (by kernel_rfl) (by kernel_rfl)
instance one_23 : OneT Tryd.prog 23 := ⟨Tryd.isAgg23, Tryd.sizeOf23⟩
instance zero_23 : ZeroT Tryd.prog 23 (.int .i64 0) := ⟨Tryd.zeroValue23⟩
instance int_23 : IntT Tryd.prog 23 .i64 := ⟨Tryd.runUnderlying23⟩
instance one_25 : OneT Tryd.prog 25 := ⟨Tryd.isAgg25, Tryd.sizeOf25⟩
instance zero_25 : ZeroT Tryd.prog 25 .nilFunc := ⟨Tryd.zeroValue25⟩
instance one_26 : OneT Tryd.prog 26 := ⟨Tryd.isAgg26, Tryd.sizeOf26⟩
instance zero_26 : ZeroT Tryd.prog 26 (.slice none 0 0) := ⟨Tryd.zeroValue26⟩
instance sl_26 : SlT Tryd.prog 26 32 2 16 := slt (z := (.agg #[(.int .i64 0), (.int .i64 0)])) Tryd.underlying26 (i := Tryd.t32) (by kernel_rfl) (by kernel_rfl) (by kernel_rfl) (by kernel_rfl) (by kernel_rfl)
instance one_28 : OneT Tryd.prog 28 := ⟨Tryd.isAgg28, Tryd.sizeOf28⟩
instance zero_28 : ZeroT Tryd.prog 28 .nilFunc := ⟨Tryd.zeroValue28⟩
instance one_29 : OneT Tryd.prog 29 := ⟨Tryd.isAgg29, Tryd.sizeOf29⟩
instance zero_29 : ZeroT Tryd.prog 29 .nilFunc := ⟨Tryd.zeroValue29⟩
instance zero_30 : ZeroT Tryd.prog 30 (.agg #[(.int .i64 0), (.int .i64 0)]) := ⟨Tryd.zeroValue30⟩
instance agg_30 : AggT Tryd.prog 30 2 := ⟨Tryd.isAgg30, Tryd.sizeOf30⟩
instance fld_30_0 : FldT Tryd.prog 30 0 0 := fld Tryd.runUnderlying30 (ft := 3) (by kernel_rfl) Tryd.sizeOf3
instance fld_30_1 : FldT Tryd.prog 30 1 1 := fld Tryd.runUnderlying30 (ft := 3) (by kernel_rfl) Tryd.sizeOf3
instance zero_31 : ZeroT Tryd.prog 31 (.agg #[(.int .i64 0), (.int .i64 0)]) := ⟨Tryd.zeroValue31⟩
instance agg_31 : AggT Tryd.prog 31 2 := ⟨Tryd.isAgg31, Tryd.sizeOf31⟩
instance fld_31_0 : FldT Tryd.prog 31 0 0 := fld Tryd.runUnderlying31 (ft := 3) (by kernel_rfl) Tryd.sizeOf3
instance fld_31_1 : FldT Tryd.prog 31 1 1 := fld Tryd.runUnderlying31 (ft := 3) (by kernel_rfl) Tryd.sizeOf3
instance zero_32 : ZeroT Tryd.prog 32 (.agg #[(.int .i64 0), (.int .i64 0)]) := ⟨Tryd.zeroValue32⟩
instance agg_32 : AggT Tryd.prog 32 2 := ⟨Tryd.isAgg32, Tryd.sizeOf32⟩
instance fld_32_0 : FldT Tryd.prog 32 0 0 := fld Tryd.runUnderlying32 (ft := 3) (by kernel_rfl) Tryd.sizeOf3
instance fld_32_1 : FldT Tryd.prog 32 1 1 := fld Tryd.runUnderlying32 (ft := 3) (by kernel_rfl) Tryd.sizeOf3
instance one_33 : OneT Tryd.prog 33 := ⟨Tryd.isAgg33, Tryd.sizeOf33⟩
instance zero_33 : ZeroT Tryd.prog 33 .nilFunc := ⟨Tryd.zeroValue33⟩
instance one_34 : OneT Tryd.prog 34 := ⟨Tryd.isAgg34, Tryd.sizeOf34⟩
instance zero_34 : ZeroT Tryd.prog 34 .nilFunc := ⟨Tryd.zeroValue34⟩
instance zero_35 : ZeroT Tryd.prog 35 (.agg #[(.bool false), (.string ⟨#[]⟩)]) := ⟨Tryd.zeroValue35⟩
instance agg_35 : AggT Tryd.prog 35 2 := ⟨Tryd.isAgg35, Tryd.sizeOf35⟩
instance fld_35_0 : FldT Tryd.prog 35 0 0 := fld Tryd.runUnderlying35 (ft := 4) (by kernel_rfl) Tryd.sizeOf4
instance fld_35_1 : FldT Tryd.prog 35 1 1 := fld Tryd.runUnderlying35 (ft := 9) (by kernel_rfl) Tryd.sizeOf9
instance zero_36 : ZeroT Tryd.prog 36 (.agg #[(.bool false), (.string ⟨#[]⟩)]) := ⟨Tryd.zeroValue36⟩
instance agg_36 : AggT Tryd.prog 36 2 := ⟨Tryd.isAgg36, Tryd.sizeOf36⟩
instance fld_36_0 : FldT Tryd.prog 36 0 0 := fld Tryd.runUnderlying36 (ft := 4) (by kernel_rfl) Tryd.sizeOf4
instance fld_36_1 : FldT Tryd.prog 36 1 1 := fld Tryd.runUnderlying36 (ft := 9) (by kernel_rfl) Tryd.sizeOf9
instance zero_37 : ZeroT Tryd.prog 37 (.agg #[(.bool false), (.string ⟨#[]⟩)]) := ⟨Tryd.zeroValue37⟩
instance agg_37 : AggT Tryd.prog 37 2 := ⟨Tryd.isAgg37, Tryd.sizeOf37⟩
instance fld_37_0 : FldT Tryd.prog 37 0 0 := fld Tryd.runUnderlying37 (ft := 4) (by kernel_rfl) Tryd.sizeOf4
instance fld_37_1 : FldT Tryd.prog 37 1 1 := fld Tryd.runUnderlying37 (ft := 9) (by kernel_rfl) Tryd.sizeOf9
instance one_38 : OneT Tryd.prog 38 := ⟨Tryd.isAgg38, Tryd.sizeOf38⟩
instance zero_38 : ZeroT Tryd.prog 38 .nilFunc := ⟨Tryd.zeroValue38⟩
instance one_39 : OneT Tryd.prog 39 := ⟨Tryd.isAgg39, Tryd.sizeOf39⟩
instance zero_39 : ZeroT Tryd.prog 39 .nilFunc := ⟨Tryd.zeroValue39⟩
instance one_40 : OneT Tryd.prog 40 := ⟨Tryd.isAgg40, Tryd.sizeOf40⟩
instance zero_40 : ZeroT Tryd.prog 40 (.slice none 0 0) := ⟨Tryd.zeroValue40⟩
instance sl_40 : SlT Tryd.prog 40 9 1 16 := slt (z := (.string ⟨#[]⟩)) Tryd.underlying40 (i := Tryd.t9) (by kernel_rfl) (by kernel_rfl) (by kernel_rfl) (by kernel_rfl) (by kernel_rfl)
instance one_42 : OneT Tryd.prog 42 := ⟨Tryd.isAgg42, Tryd.sizeOf42⟩
instance zero_42 : ZeroT Tryd.prog 42 .nilFunc := ⟨Tryd.zeroValue42⟩
instance one_44 : OneT Tryd.prog 44 := ⟨Tryd.isAgg44, Tryd.sizeOf44⟩
instance zero_44 : ZeroT Tryd.prog 44 .nilFunc := ⟨Tryd.zeroValue44⟩
instance one_45 : OneT Tryd.prog 45 := ⟨Tryd.isAgg45, Tryd.sizeOf45⟩
instance zero_45 : ZeroT Tryd.prog 45 (.slice none 0 0) := ⟨Tryd.zeroValue45⟩
instance sl_45 : SlT Tryd.prog 45 54 2 24 := slt (z := (.agg #[(.string ⟨#[]⟩), (.int .i64 0)])) Tryd.underlying45 (i := Tryd.t54) (by kernel_rfl) (by kernel_rfl) (by kernel_rfl) (by kernel_rfl) (by kernel_rfl)
instance one_47 : OneT Tryd.prog 47 := ⟨Tryd.isAgg47, Tryd.sizeOf47⟩
instance zero_47 : ZeroT Tryd.prog 47 .nilFunc := ⟨Tryd.zeroValue47⟩
instance one_48 : OneT Tryd.prog 48 := ⟨Tryd.isAgg48, Tryd.sizeOf48⟩
instance zero_48 : ZeroT Tryd.prog 48 (.slice none 0 0) := ⟨Tryd.zeroValue48⟩
instance sl_48 : SlT Tryd.prog 48 101 2 24 := slt (z := (.agg #[(.string ⟨#[]⟩), (.int .i64 0)])) Tryd.underlying48 (i := Tryd.t101) (by kernel_rfl) (by kernel_rfl) (by kernel_rfl) (by kernel_rfl) (by kernel_rfl)
instance one_50 : OneT Tryd.prog 50 := ⟨Tryd.isAgg50, Tryd.sizeOf50⟩
instance zero_50 : ZeroT Tryd.prog 50 .nilFunc := ⟨Tryd.zeroValue50⟩
instance one_51 : OneT Tryd.prog 51 := ⟨Tryd.isAgg51, Tryd.sizeOf51⟩
instance zero_51 : ZeroT Tryd.prog 51 .nilFunc := ⟨Tryd.zeroValue51⟩
instance one_52 : OneT Tryd.prog 52 := ⟨Tryd.isAgg52, Tryd.sizeOf52⟩
instance zero_52 : ZeroT Tryd.prog 52 .nilFunc := ⟨Tryd.zeroValue52⟩
instance zero_53 : ZeroT Tryd.prog 53 (.agg #[(.string ⟨#[]⟩), (.int .i64 0)]) := ⟨Tryd.zeroValue53⟩
instance agg_53 : AggT Tryd.prog 53 2 := ⟨Tryd.isAgg53, Tryd.sizeOf53⟩
instance fld_53_0 : FldT Tryd.prog 53 0 0 := fld Tryd.runUnderlying53 (ft := 9) (by kernel_rfl) Tryd.sizeOf9
instance fld_53_1 : FldT Tryd.prog 53 1 1 := fld Tryd.runUnderlying53 (ft := 3) (by kernel_rfl) Tryd.sizeOf3
instance zero_54 : ZeroT Tryd.prog 54 (.agg #[(.string ⟨#[]⟩), (.int .i64 0)]) := ⟨Tryd.zeroValue54⟩
instance agg_54 : AggT Tryd.prog 54 2 := ⟨Tryd.isAgg54, Tryd.sizeOf54⟩
instance fld_54_0 : FldT Tryd.prog 54 0 0 := fld Tryd.runUnderlying54 (ft := 9) (by kernel_rfl) Tryd.sizeOf9
instance fld_54_1 : FldT Tryd.prog 54 1 1 := fld Tryd.runUnderlying54 (ft := 3) (by kernel_rfl) Tryd.sizeOf3
instance one_55 : OneT Tryd.prog 55 := ⟨Tryd.isAgg55, Tryd.sizeOf55⟩
instance zero_55 : ZeroT Tryd.prog 55 (.slice none 0 0) := ⟨Tryd.zeroValue55⟩
instance sl_55 : SlT Tryd.prog 55 59 3 40 := slt (z := (.agg #[(.string ⟨#[]⟩), (.string ⟨#[]⟩), (.bool false)])) Tryd.underlying55 (i := Tryd.t59) (by kernel_rfl) (by kernel_rfl) (by kernel_rfl) (by kernel_rfl) (by kernel_rfl)
instance one_57 : OneT Tryd.prog 57 := ⟨Tryd.isAgg57, Tryd.sizeOf57⟩
instance zero_57 : ZeroT Tryd.prog 57 .nilFunc := ⟨Tryd.zeroValue57⟩
instance zero_58 : ZeroT Tryd.prog 58 (.agg #[(.string ⟨#[]⟩), (.string ⟨#[]⟩), (.bool false)]) := ⟨Tryd.zeroValue58⟩
instance agg_58 : AggT Tryd.prog 58 3 := ⟨Tryd.isAgg58, Tryd.sizeOf58⟩
instance fld_58_0 : FldT Tryd.prog 58 0 0 := fld Tryd.runUnderlying58 (ft := 9) (by kernel_rfl) Tryd.sizeOf9
instance fld_58_1 : FldT Tryd.prog 58 1 1 := fld Tryd.runUnderlying58 (ft := 9) (by kernel_rfl) Tryd.sizeOf9
instance fld_58_2 : FldT Tryd.prog 58 2 2 := fld Tryd.runUnderlying58 (ft := 4) (by kernel_rfl) Tryd.sizeOf4
instance zero_59 : ZeroT Tryd.prog 59 (.agg #[(.string ⟨#[]⟩), (.string ⟨#[]⟩), (.bool false)]) := ⟨Tryd.zeroValue59⟩
instance agg_59 : AggT Tryd.prog 59 3 := ⟨Tryd.isAgg59, Tryd.sizeOf59⟩
instance fld_59_0 : FldT Tryd.prog 59 0 0 := fld Tryd.runUnderlying59 (ft := 9) (by kernel_rfl) Tryd.sizeOf9
instance fld_59_1 : FldT Tryd.prog 59 1 1 := fld Tryd.runUnderlying59 (ft := 9) (by kernel_rfl) Tryd.sizeOf9
instance fld_59_2 : FldT Tryd.prog 59 2 2 := fld Tryd.runUnderlying59 (ft := 4) (by kernel_rfl) Tryd.sizeOf4
instance one_60 : OneT Tryd.prog 60 := ⟨Tryd.isAgg60, Tryd.sizeOf60⟩
instance zero_60 : ZeroT Tryd.prog 60 .nilFunc := ⟨Tryd.zeroValue60⟩
instance one_62 : OneT Tryd.prog 62 := ⟨Tryd.isAgg62, Tryd.sizeOf62⟩
instance zero_62 : ZeroT Tryd.prog 62 .nilFunc := ⟨Tryd.zeroValue62⟩
instance one_64 : OneT Tryd.prog 64 := ⟨Tryd.isAgg64, Tryd.sizeOf64⟩
instance zero_64 : ZeroT Tryd.prog 64 .nilFunc := ⟨Tryd.zeroValue64⟩
instance one_65 : OneT Tryd.prog 65 := ⟨Tryd.isAgg65, Tryd.sizeOf65⟩
instance zero_65 : ZeroT Tryd.prog 65 (.slice none 0 0) := ⟨Tryd.zeroValue65⟩
instance sl_65 : SlT Tryd.prog 65 37 2 24 := slt (z := (.agg #[(.bool false), (.string ⟨#[]⟩)])) Tryd.underlying65 (i := Tryd.t37) (by kernel_rfl) (by kernel_rfl) (by kernel_rfl) (by kernel_rfl) (by kernel_rfl)
instance one_67 : OneT Tryd.prog 67 := ⟨Tryd.isAgg67, Tryd.sizeOf67⟩
instance zero_67 : ZeroT Tryd.prog 67 .nilFunc := ⟨Tryd.zeroValue67⟩
instance one_68 : OneT Tryd.prog 68 := ⟨Tryd.isAgg68, Tryd.sizeOf68⟩
instance zero_68 : ZeroT Tryd.prog 68 (.slice none 0 0) := ⟨Tryd.zeroValue68⟩
instance sl_68 : SlT Tryd.prog 68 36 2 24 := slt (z := (.agg #[(.bool false), (.string ⟨#[]⟩)])) Tryd.underlying68 (i := Tryd.t36) (by kernel_rfl) (by kernel_rfl) (by kernel_rfl) (by kernel_rfl) (by kernel_rfl)
instance one_70 : OneT Tryd.prog 70 := ⟨Tryd.isAgg70, Tryd.sizeOf70⟩
instance zero_70 : ZeroT Tryd.prog 70 .nilFunc := ⟨Tryd.zeroValue70⟩
instance one_71 : OneT Tryd.prog 71 := ⟨Tryd.isAgg71, Tryd.sizeOf71⟩
instance zero_71 : ZeroT Tryd.prog 71 .nilFunc := ⟨Tryd.zeroValue71⟩
instance one_72 : OneT Tryd.prog 72 := ⟨Tryd.isAgg72, Tryd.sizeOf72⟩
instance zero_72 : ZeroT Tryd.prog 72 .nilFunc := ⟨Tryd.zeroValue72⟩
instance one_73 : OneT Tryd.prog 73 := ⟨Tryd.isAgg73, Tryd.sizeOf73⟩
instance zero_73 : ZeroT Tryd.prog 73 .nilFunc := ⟨Tryd.zeroValue73⟩
instance one_74 : OneT Tryd.prog 74 := ⟨Tryd.isAgg74, Tryd.sizeOf74⟩
instance zero_74 : ZeroT Tryd.prog 74 .nilFunc := ⟨Tryd.zeroValue74⟩
instance one_75 : OneT Tryd.prog 75 := ⟨Tryd.isAgg75, Tryd.sizeOf75⟩
instance zero_75 : ZeroT Tryd.prog 75 (.slice none 0 0) := ⟨Tryd.zeroValue75⟩
instance sl_75 : SlT Tryd.prog 75 116 2 32 := slt (z := (.agg #[(.string ⟨#[]⟩), (.string ⟨#[]⟩)])) Tryd.underlying75 (i := Tryd.t116) (by kernel_rfl) (by kernel_rfl) (by kernel_rfl) (by kernel_rfl) (by kernel_rfl)
instance zero_76 : ZeroT Tryd.prog 76 (.agg #[(.string ⟨#[]⟩), (.string ⟨#[]⟩), (.int .i64 0), (.slice none 0 0)]) := ⟨Tryd.zeroValue76⟩
instance agg_76 : AggT Tryd.prog 76 4 := ⟨Tryd.isAgg76, Tryd.sizeOf76⟩
instance fld_76_0 : FldT Tryd.prog 76 0 0 := fld Tryd.runUnderlying76 (ft := 9) (by kernel_rfl) Tryd.sizeOf9
instance fld_76_1 : FldT Tryd.prog 76 1 1 := fld Tryd.runUnderlying76 (ft := 9) (by kernel_rfl) Tryd.sizeOf9
instance fld_76_2 : FldT Tryd.prog 76 2 2 := fld Tryd.runUnderlying76 (ft := 3) (by kernel_rfl) Tryd.sizeOf3
instance fld_76_3 : FldT Tryd.prog 76 3 3 := fld Tryd.runUnderlying76 (ft := 75) (by kernel_rfl) Tryd.sizeOf75
instance zero_77 : ZeroT Tryd.prog 77 (.agg #[(.string ⟨#[]⟩), (.string ⟨#[]⟩), (.int .i64 0), (.slice none 0 0)]) := ⟨Tryd.zeroValue77⟩
instance agg_77 : AggT Tryd.prog 77 4 := ⟨Tryd.isAgg77, Tryd.sizeOf77⟩
instance fld_77_0 : FldT Tryd.prog 77 0 0 := fld Tryd.runUnderlying77 (ft := 9) (by kernel_rfl) Tryd.sizeOf9
instance fld_77_1 : FldT Tryd.prog 77 1 1 := fld Tryd.runUnderlying77 (ft := 9) (by kernel_rfl) Tryd.sizeOf9
instance fld_77_2 : FldT Tryd.prog 77 2 2 := fld Tryd.runUnderlying77 (ft := 3) (by kernel_rfl) Tryd.sizeOf3
instance fld_77_3 : FldT Tryd.prog 77 3 3 := fld Tryd.runUnderlying77 (ft := 75) (by kernel_rfl) Tryd.sizeOf75
instance zero_78 : ZeroT Tryd.prog 78 (.agg #[(.int .i64 0), (.string ⟨#[]⟩), (.int .i64 0), (.string ⟨#[]⟩), (.string ⟨#[]⟩), (.bool false)]) := ⟨Tryd.zeroValue78⟩
instance agg_78 : AggT Tryd.prog 78 6 := ⟨Tryd.isAgg78, Tryd.sizeOf78⟩
instance fld_78_0 : FldT Tryd.prog 78 0 0 := fld Tryd.runUnderlying78 (ft := 3) (by kernel_rfl) Tryd.sizeOf3
instance fld_78_1 : FldT Tryd.prog 78 1 1 := fld Tryd.runUnderlying78 (ft := 9) (by kernel_rfl) Tryd.sizeOf9
instance fld_78_2 : FldT Tryd.prog 78 2 2 := fld Tryd.runUnderlying78 (ft := 3) (by kernel_rfl) Tryd.sizeOf3
instance fld_78_3 : FldT Tryd.prog 78 3 3 := fld Tryd.runUnderlying78 (ft := 9) (by kernel_rfl) Tryd.sizeOf9
instance fld_78_4 : FldT Tryd.prog 78 4 4 := fld Tryd.runUnderlying78 (ft := 9) (by kernel_rfl) Tryd.sizeOf9
instance fld_78_5 : FldT Tryd.prog 78 5 5 := fld Tryd.runUnderlying78 (ft := 4) (by kernel_rfl) Tryd.sizeOf4
instance zero_79 : ZeroT Tryd.prog 79 (.agg #[(.int .i64 0), (.string ⟨#[]⟩), (.int .i64 0), (.string ⟨#[]⟩), (.string ⟨#[]⟩), (.bool false)]) := ⟨Tryd.zeroValue79⟩
instance agg_79 : AggT Tryd.prog 79 6 := ⟨Tryd.isAgg79, Tryd.sizeOf79⟩
instance fld_79_0 : FldT Tryd.prog 79 0 0 := fld Tryd.runUnderlying79 (ft := 3) (by kernel_rfl) Tryd.sizeOf3
instance fld_79_1 : FldT Tryd.prog 79 1 1 := fld Tryd.runUnderlying79 (ft := 9) (by kernel_rfl) Tryd.sizeOf9
instance fld_79_2 : FldT Tryd.prog 79 2 2 := fld Tryd.runUnderlying79 (ft := 3) (by kernel_rfl) Tryd.sizeOf3
instance fld_79_3 : FldT Tryd.prog 79 3 3 := fld Tryd.runUnderlying79 (ft := 9) (by kernel_rfl) Tryd.sizeOf9
instance fld_79_4 : FldT Tryd.prog 79 4 4 := fld Tryd.runUnderlying79 (ft := 9) (by kernel_rfl) Tryd.sizeOf9
instance fld_79_5 : FldT Tryd.prog 79 5 5 := fld Tryd.runUnderlying79 (ft := 4) (by kernel_rfl) Tryd.sizeOf4
instance zero_80 : ZeroT Tryd.prog 80 (.agg #[(.int .i64 0), (.string ⟨#[]⟩), (.int .i64 0), (.string ⟨#[]⟩), (.string ⟨#[]⟩), (.bool false)]) := ⟨Tryd.zeroValue80⟩
instance agg_80 : AggT Tryd.prog 80 6 := ⟨Tryd.isAgg80, Tryd.sizeOf80⟩
instance fld_80_0 : FldT Tryd.prog 80 0 0 := fld Tryd.runUnderlying80 (ft := 3) (by kernel_rfl) Tryd.sizeOf3
instance fld_80_1 : FldT Tryd.prog 80 1 1 := fld Tryd.runUnderlying80 (ft := 9) (by kernel_rfl) Tryd.sizeOf9
instance fld_80_2 : FldT Tryd.prog 80 2 2 := fld Tryd.runUnderlying80 (ft := 3) (by kernel_rfl) Tryd.sizeOf3
instance fld_80_3 : FldT Tryd.prog 80 3 3 := fld Tryd.runUnderlying80 (ft := 9) (by kernel_rfl) Tryd.sizeOf9
instance fld_80_4 : FldT Tryd.prog 80 4 4 := fld Tryd.runUnderlying80 (ft := 9) (by kernel_rfl) Tryd.sizeOf9
instance fld_80_5 : FldT Tryd.prog 80 5 5 := fld Tryd.runUnderlying80 (ft := 4) (by kernel_rfl) Tryd.sizeOf4
instance one_81 : OneT Tryd.prog 81 := ⟨Tryd.isAgg81, Tryd.sizeOf81⟩
instance zero_81 : ZeroT Tryd.prog 81 .nilFunc := ⟨Tryd.zeroValue81⟩
instance one_82 : OneT Tryd.prog 82 := ⟨Tryd.isAgg82, Tryd.sizeOf82⟩
instance zero_82 : ZeroT Tryd.prog 82 .nilFunc := ⟨Tryd.zeroValue82⟩
instance one_83 : OneT Tryd.prog 83 := ⟨Tryd.isAgg83, Tryd.sizeOf83⟩
instance zero_83 : ZeroT Tryd.prog 83 .nilFunc := ⟨Tryd.zeroValue83⟩
instance one_84 : OneT Tryd.prog 84 := ⟨Tryd.isAgg84, Tryd.sizeOf84⟩
instance zero_84 : ZeroT Tryd.prog 84 .nilFunc := ⟨Tryd.zeroValue84⟩
instance one_85 : OneT Tryd.prog 85 := ⟨Tryd.isAgg85, Tryd.sizeOf85⟩
instance zero_85 : ZeroT Tryd.prog 85 .nilFunc := ⟨Tryd.zeroValue85⟩
instance one_86 : OneT Tryd.prog 86 := ⟨Tryd.isAgg86, Tryd.sizeOf86⟩
instance zero_86 : ZeroT Tryd.prog 86 .nilFunc := ⟨Tryd.zeroValue86⟩
instance zero_87 : ZeroT Tryd.prog 87 (.agg #[(.bool false), (.bool false), .nilFunc]) := ⟨Tryd.zeroValue87⟩
instance agg_87 : AggT Tryd.prog 87 3 := ⟨Tryd.isAgg87, Tryd.sizeOf87⟩
instance fld_87_0 : FldT Tryd.prog 87 0 0 := fld Tryd.runUnderlying87 (ft := 4) (by kernel_rfl) Tryd.sizeOf4
instance fld_87_1 : FldT Tryd.prog 87 1 1 := fld Tryd.runUnderlying87 (ft := 4) (by kernel_rfl) Tryd.sizeOf4
instance fld_87_2 : FldT Tryd.prog 87 2 2 := fld Tryd.runUnderlying87 (ft := 86) (by kernel_rfl) Tryd.sizeOf86
instance zero_88 : ZeroT Tryd.prog 88 (.agg #[(.bool false), (.bool false), .nilFunc]) := ⟨Tryd.zeroValue88⟩
instance agg_88 : AggT Tryd.prog 88 3 := ⟨Tryd.isAgg88, Tryd.sizeOf88⟩
instance fld_88_0 : FldT Tryd.prog 88 0 0 := fld Tryd.runUnderlying88 (ft := 4) (by kernel_rfl) Tryd.sizeOf4
instance fld_88_1 : FldT Tryd.prog 88 1 1 := fld Tryd.runUnderlying88 (ft := 4) (by kernel_rfl) Tryd.sizeOf4
instance fld_88_2 : FldT Tryd.prog 88 2 2 := fld Tryd.runUnderlying88 (ft := 86) (by kernel_rfl) Tryd.sizeOf86
instance one_89 : OneT Tryd.prog 89 := ⟨Tryd.isAgg89, Tryd.sizeOf89⟩
instance zero_89 : ZeroT Tryd.prog 89 .nilFunc := ⟨Tryd.zeroValue89⟩
instance one_90 : OneT Tryd.prog 90 := ⟨Tryd.isAgg90, Tryd.sizeOf90⟩
instance zero_90 : ZeroT Tryd.prog 90 .nilFunc := ⟨Tryd.zeroValue90⟩
instance one_92 : OneT Tryd.prog 92 := ⟨Tryd.isAgg92, Tryd.sizeOf92⟩
instance zero_92 : ZeroT Tryd.prog 92 .nilFunc := ⟨Tryd.zeroValue92⟩
instance one_93 : OneT Tryd.prog 93 := ⟨Tryd.isAgg93, Tryd.sizeOf93⟩
instance zero_93 : ZeroT Tryd.prog 93 .nilFunc := ⟨Tryd.zeroValue93⟩
instance one_94 : OneT Tryd.prog 94 := ⟨Tryd.isAgg94, Tryd.sizeOf94⟩
instance zero_94 : ZeroT Tryd.prog 94 .nilFunc := ⟨Tryd.zeroValue94⟩
instance zero_95 : ZeroT Tryd.prog 95 (.agg #[(.bool false), (.bool false), .nilFunc]) := ⟨Tryd.zeroValue95⟩
instance agg_95 : AggT Tryd.prog 95 3 := ⟨Tryd.isAgg95, Tryd.sizeOf95⟩
instance fld_95_0 : FldT Tryd.prog 95 0 0 := fld Tryd.runUnderlying95 (ft := 4) (by kernel_rfl) Tryd.sizeOf4
instance fld_95_1 : FldT Tryd.prog 95 1 1 := fld Tryd.runUnderlying95 (ft := 4) (by kernel_rfl) Tryd.sizeOf4
instance fld_95_2 : FldT Tryd.prog 95 2 2 := fld Tryd.runUnderlying95 (ft := 94) (by kernel_rfl) Tryd.sizeOf94
instance zero_96 : ZeroT Tryd.prog 96 (.agg #[(.bool false), (.bool false), .nilFunc]) := ⟨Tryd.zeroValue96⟩
instance agg_96 : AggT Tryd.prog 96 3 := ⟨Tryd.isAgg96, Tryd.sizeOf96⟩
instance fld_96_0 : FldT Tryd.prog 96 0 0 := fld Tryd.runUnderlying96 (ft := 4) (by kernel_rfl) Tryd.sizeOf4
instance fld_96_1 : FldT Tryd.prog 96 1 1 := fld Tryd.runUnderlying96 (ft := 4) (by kernel_rfl) Tryd.sizeOf4
instance fld_96_2 : FldT Tryd.prog 96 2 2 := fld Tryd.runUnderlying96 (ft := 94) (by kernel_rfl) Tryd.sizeOf94
instance one_97 : OneT Tryd.prog 97 := ⟨Tryd.isAgg97, Tryd.sizeOf97⟩
instance zero_97 : ZeroT Tryd.prog 97 .nilFunc := ⟨Tryd.zeroValue97⟩
instance one_98 : OneT Tryd.prog 98 := ⟨Tryd.isAgg98, Tryd.sizeOf98⟩
instance zero_98 : ZeroT Tryd.prog 98 .nilFunc := ⟨Tryd.zeroValue98⟩
instance zero_99 : ZeroT Tryd.prog 99 (.agg #[(.bool false), (.bool false), .nilFunc]) := ⟨Tryd.zeroValue99⟩
instance agg_99 : AggT Tryd.prog 99 3 := ⟨Tryd.isAgg99, Tryd.sizeOf99⟩
instance fld_99_0 : FldT Tryd.prog 99 0 0 := fld Tryd.runUnderlying99 (ft := 4) (by kernel_rfl) Tryd.sizeOf4
instance fld_99_1 : FldT Tryd.prog 99 1 1 := fld Tryd.runUnderlying99 (ft := 4) (by kernel_rfl) Tryd.sizeOf4
instance fld_99_2 : FldT Tryd.prog 99 2 2 := fld Tryd.runUnderlying99 (ft := 98) (by kernel_rfl) Tryd.sizeOf98
instance zero_100 : ZeroT Tryd.prog 100 (.agg #[(.bool false), (.bool false), .nilFunc]) := ⟨Tryd.zeroValue100⟩
instance agg_100 : AggT Tryd.prog 100 3 := ⟨Tryd.isAgg100, Tryd.sizeOf100⟩
instance fld_100_0 : FldT Tryd.prog 100 0 0 := fld Tryd.runUnderlying100 (ft := 4) (by kernel_rfl) Tryd.sizeOf4
instance fld_100_1 : FldT Tryd.prog 100 1 1 := fld Tryd.runUnderlying100 (ft := 4) (by kernel_rfl) Tryd.sizeOf4
instance fld_100_2 : FldT Tryd.prog 100 2 2 := fld Tryd.runUnderlying100 (ft := 98) (by kernel_rfl) Tryd.sizeOf98
instance zero_101 : ZeroT Tryd.prog 101 (.agg #[(.string ⟨#[]⟩), (.int .i64 0)]) := ⟨Tryd.zeroValue101⟩
instance agg_101 : AggT Tryd.prog 101 2 := ⟨Tryd.isAgg101, Tryd.sizeOf101⟩
instance fld_101_0 : FldT Tryd.prog 101 0 0 := fld Tryd.runUnderlying101 (ft := 9) (by kernel_rfl) Tryd.sizeOf9
instance fld_101_1 : FldT Tryd.prog 101 1 1 := fld Tryd.runUnderlying101 (ft := 3) (by kernel_rfl) Tryd.sizeOf3
instance one_103 : OneT Tryd.prog 103 := ⟨Tryd.isAgg103, Tryd.sizeOf103⟩
instance zero_103 : ZeroT Tryd.prog 103 .nilFunc := ⟨Tryd.zeroValue103⟩
instance one_104 : OneT Tryd.prog 104 := ⟨Tryd.isAgg104, Tryd.sizeOf104⟩
instance zero_104 : ZeroT Tryd.prog 104 .nilFunc := ⟨Tryd.zeroValue104⟩
instance one_105 : OneT Tryd.prog 105 := ⟨Tryd.isAgg105, Tryd.sizeOf105⟩
instance zero_105 : ZeroT Tryd.prog 105 .nilFunc := ⟨Tryd.zeroValue105⟩
instance zero_106 : ZeroT Tryd.prog 106 (.agg #[(.bool false), (.bool false), .nilFunc]) := ⟨Tryd.zeroValue106⟩
instance agg_106 : AggT Tryd.prog 106 3 := ⟨Tryd.isAgg106, Tryd.sizeOf106⟩
instance fld_106_0 : FldT Tryd.prog 106 0 0 := fld Tryd.runUnderlying106 (ft := 4) (by kernel_rfl) Tryd.sizeOf4
instance fld_106_1 : FldT Tryd.prog 106 1 1 := fld Tryd.runUnderlying106 (ft := 4) (by kernel_rfl) Tryd.sizeOf4
instance fld_106_2 : FldT Tryd.prog 106 2 2 := fld Tryd.runUnderlying106 (ft := 105) (by kernel_rfl) Tryd.sizeOf105
instance zero_107 : ZeroT Tryd.prog 107 (.agg #[(.bool false), (.bool false), .nilFunc]) := ⟨Tryd.zeroValue107⟩
instance agg_107 : AggT Tryd.prog 107 3 := ⟨Tryd.isAgg107, Tryd.sizeOf107⟩
instance fld_107_0 : FldT Tryd.prog 107 0 0 := fld Tryd.runUnderlying107 (ft := 4) (by kernel_rfl) Tryd.sizeOf4
instance fld_107_1 : FldT Tryd.prog 107 1 1 := fld Tryd.runUnderlying107 (ft := 4) (by kernel_rfl) Tryd.sizeOf4
instance fld_107_2 : FldT Tryd.prog 107 2 2 := fld Tryd.runUnderlying107 (ft := 105) (by kernel_rfl) Tryd.sizeOf105
instance one_109 : OneT Tryd.prog 109 := ⟨Tryd.isAgg109, Tryd.sizeOf109⟩
instance zero_109 : ZeroT Tryd.prog 109 .nilFunc := ⟨Tryd.zeroValue109⟩
instance one_111 : OneT Tryd.prog 111 := ⟨Tryd.isAgg111, Tryd.sizeOf111⟩
instance zero_111 : ZeroT Tryd.prog 111 .nilFunc := ⟨Tryd.zeroValue111⟩
instance zero_112 : ZeroT Tryd.prog 112 (.agg #[(.bool false), (.bool false), .nilFunc]) := ⟨Tryd.zeroValue112⟩
instance agg_112 : AggT Tryd.prog 112 3 := ⟨Tryd.isAgg112, Tryd.sizeOf112⟩
instance fld_112_0 : FldT Tryd.prog 112 0 0 := fld Tryd.runUnderlying112 (ft := 4) (by kernel_rfl) Tryd.sizeOf4
instance fld_112_1 : FldT Tryd.prog 112 1 1 := fld Tryd.runUnderlying112 (ft := 4) (by kernel_rfl) Tryd.sizeOf4
instance fld_112_2 : FldT Tryd.prog 112 2 2 := fld Tryd.runUnderlying112 (ft := 109) (by kernel_rfl) Tryd.sizeOf109
instance zero_113 : ZeroT Tryd.prog 113 (.agg #[(.bool false), (.bool false), .nilFunc]) := ⟨Tryd.zeroValue113⟩
instance agg_113 : AggT Tryd.prog 113 3 := ⟨Tryd.isAgg113, Tryd.sizeOf113⟩
instance fld_113_0 : FldT Tryd.prog 113 0 0 := fld Tryd.runUnderlying113 (ft := 4) (by kernel_rfl) Tryd.sizeOf4
instance fld_113_1 : FldT Tryd.prog 113 1 1 := fld Tryd.runUnderlying113 (ft := 4) (by kernel_rfl) Tryd.sizeOf4
instance fld_113_2 : FldT Tryd.prog 113 2 2 := fld Tryd.runUnderlying113 (ft := 109) (by kernel_rfl) Tryd.sizeOf109
instance one_114 : OneT Tryd.prog 114 := ⟨Tryd.isAgg114, Tryd.sizeOf114⟩
instance zero_114 : ZeroT Tryd.prog 114 .nilFunc := ⟨Tryd.zeroValue114⟩
instance zero_115 : ZeroT Tryd.prog 115 (.agg #[(.string ⟨#[]⟩), (.string ⟨#[]⟩)]) := ⟨Tryd.zeroValue115⟩
instance agg_115 : AggT Tryd.prog 115 2 := ⟨Tryd.isAgg115, Tryd.sizeOf115⟩
instance fld_115_0 : FldT Tryd.prog 115 0 0 := fld Tryd.runUnderlying115 (ft := 9) (by kernel_rfl) Tryd.sizeOf9
instance fld_115_1 : FldT Tryd.prog 115 1 1 := fld Tryd.runUnderlying115 (ft := 9) (by kernel_rfl) Tryd.sizeOf9
instance zero_116 : ZeroT Tryd.prog 116 (.agg #[(.string ⟨#[]⟩), (.string ⟨#[]⟩)]) := ⟨Tryd.zeroValue116⟩
instance agg_116 : AggT Tryd.prog 116 2 := ⟨Tryd.isAgg116, Tryd.sizeOf116⟩
instance fld_116_0 : FldT Tryd.prog 116 0 0 := fld Tryd.runUnderlying116 (ft := 9) (by kernel_rfl) Tryd.sizeOf9
instance fld_116_1 : FldT Tryd.prog 116 1 1 := fld Tryd.runUnderlying116 (ft := 9) (by kernel_rfl) Tryd.sizeOf9
instance one_117 : OneT Tryd.prog 117 := ⟨Tryd.isAgg117, Tryd.sizeOf117⟩
instance zero_117 : ZeroT Tryd.prog 117 .nilFunc := ⟨Tryd.zeroValue117⟩
instance one_119 : OneT Tryd.prog 119 := ⟨Tryd.isAgg119, Tryd.sizeOf119⟩
instance zero_119 : ZeroT Tryd.prog 119 .nilFunc := ⟨Tryd.zeroValue119⟩
instance one_120 : OneT Tryd.prog 120 := ⟨Tryd.isAgg120, Tryd.sizeOf120⟩
instance zero_120 : ZeroT Tryd.prog 120 .nilFunc := ⟨Tryd.zeroValue120⟩
instance one_121 : OneT Tryd.prog 121 := ⟨Tryd.isAgg121, Tryd.sizeOf121⟩
instance zero_121 : ZeroT Tryd.prog 121 .nilFunc := ⟨Tryd.zeroValue121⟩
instance one_122 : OneT Tryd.prog 122 := ⟨Tryd.isAgg122, Tryd.sizeOf122⟩
instance zero_122 : ZeroT Tryd.prog 122 .nilFunc := ⟨Tryd.zeroValue122⟩
instance one_123 : OneT Tryd.prog 123 := ⟨Tryd.isAgg123, Tryd.sizeOf123⟩
instance zero_123 : ZeroT Tryd.prog 123 (.pointer none) := ⟨Tryd.zeroValue123⟩
instance ptr_123 : PtrT Tryd.prog 123 := ⟨by kernel_rfl⟩
instance one_125 : OneT Tryd.prog 125 := ⟨Tryd.isAgg125, Tryd.sizeOf125⟩
instance zero_125 : ZeroT Tryd.prog 125 .nilFunc := ⟨Tryd.zeroValue125⟩
instance one_126 : OneT Tryd.prog 126 := ⟨Tryd.isAgg126, Tryd.sizeOf126⟩
instance zero_126 : ZeroT Tryd.prog 126 (.slice none 0 0) := ⟨Tryd.zeroValue126⟩
instance sl_126 : SlT Tryd.prog 126 177 2 16 := slt (z := (.agg #[(.int .i64 0), (.int .i64 0)])) Tryd.underlying126 (i := Tryd.t177) (by kernel_rfl) (by kernel_rfl) (by kernel_rfl) (by kernel_rfl) (by kernel_rfl)
instance zero_127 : ZeroT Tryd.prog 127 (.agg #[(.string ⟨#[]⟩), (.slice none 0 0), (.int .i64 0), (.int .i64 0)]) := ⟨Tryd.zeroValue127⟩
instance agg_127 : AggT Tryd.prog 127 4 := ⟨Tryd.isAgg127, Tryd.sizeOf127⟩
instance fld_127_0 : FldT Tryd.prog 127 0 0 := fld Tryd.runUnderlying127 (ft := 9) (by kernel_rfl) Tryd.sizeOf9
instance fld_127_1 : FldT Tryd.prog 127 1 1 := fld Tryd.runUnderlying127 (ft := 126) (by kernel_rfl) Tryd.sizeOf126
instance fld_127_2 : FldT Tryd.prog 127 2 2 := fld Tryd.runUnderlying127 (ft := 3) (by kernel_rfl) Tryd.sizeOf3
instance fld_127_3 : FldT Tryd.prog 127 3 3 := fld Tryd.runUnderlying127 (ft := 3) (by kernel_rfl) Tryd.sizeOf3
instance zero_128 : ZeroT Tryd.prog 128 (.agg #[(.string ⟨#[]⟩), (.slice none 0 0), (.int .i64 0), (.int .i64 0)]) := ⟨Tryd.zeroValue128⟩
instance agg_128 : AggT Tryd.prog 128 4 := ⟨Tryd.isAgg128, Tryd.sizeOf128⟩
instance fld_128_0 : FldT Tryd.prog 128 0 0 := fld Tryd.runUnderlying128 (ft := 9) (by kernel_rfl) Tryd.sizeOf9
instance fld_128_1 : FldT Tryd.prog 128 1 1 := fld Tryd.runUnderlying128 (ft := 126) (by kernel_rfl) Tryd.sizeOf126
instance fld_128_2 : FldT Tryd.prog 128 2 2 := fld Tryd.runUnderlying128 (ft := 3) (by kernel_rfl) Tryd.sizeOf3
instance fld_128_3 : FldT Tryd.prog 128 3 3 := fld Tryd.runUnderlying128 (ft := 3) (by kernel_rfl) Tryd.sizeOf3
instance one_129 : OneT Tryd.prog 129 := ⟨Tryd.isAgg129, Tryd.sizeOf129⟩
instance zero_129 : ZeroT Tryd.prog 129 .nilFunc := ⟨Tryd.zeroValue129⟩
instance one_130 : OneT Tryd.prog 130 := ⟨Tryd.isAgg130, Tryd.sizeOf130⟩
instance zero_130 : ZeroT Tryd.prog 130 (.slice none 0 0) := ⟨Tryd.zeroValue130⟩
instance sl_130 : SlT Tryd.prog 130 183 2 16 := slt (z := (.agg #[(.int .i64 0), (.int .i64 0)])) Tryd.underlying130 (i := Tryd.t183) (by kernel_rfl) (by kernel_rfl) (by kernel_rfl) (by kernel_rfl) (by kernel_rfl)
instance zero_131 : ZeroT Tryd.prog 131 (.agg #[(.string ⟨#[]⟩), (.slice none 0 0), (.int .i64 0), (.int .i64 0)]) := ⟨Tryd.zeroValue131⟩
instance agg_131 : AggT Tryd.prog 131 4 := ⟨Tryd.isAgg131, Tryd.sizeOf131⟩
instance fld_131_0 : FldT Tryd.prog 131 0 0 := fld Tryd.runUnderlying131 (ft := 9) (by kernel_rfl) Tryd.sizeOf9
instance fld_131_1 : FldT Tryd.prog 131 1 1 := fld Tryd.runUnderlying131 (ft := 130) (by kernel_rfl) Tryd.sizeOf130
instance fld_131_2 : FldT Tryd.prog 131 2 2 := fld Tryd.runUnderlying131 (ft := 3) (by kernel_rfl) Tryd.sizeOf3
instance fld_131_3 : FldT Tryd.prog 131 3 3 := fld Tryd.runUnderlying131 (ft := 3) (by kernel_rfl) Tryd.sizeOf3
instance zero_132 : ZeroT Tryd.prog 132 (.agg #[(.string ⟨#[]⟩), (.slice none 0 0), (.int .i64 0), (.int .i64 0)]) := ⟨Tryd.zeroValue132⟩
instance agg_132 : AggT Tryd.prog 132 4 := ⟨Tryd.isAgg132, Tryd.sizeOf132⟩
instance fld_132_0 : FldT Tryd.prog 132 0 0 := fld Tryd.runUnderlying132 (ft := 9) (by kernel_rfl) Tryd.sizeOf9
instance fld_132_1 : FldT Tryd.prog 132 1 1 := fld Tryd.runUnderlying132 (ft := 130) (by kernel_rfl) Tryd.sizeOf130
instance fld_132_2 : FldT Tryd.prog 132 2 2 := fld Tryd.runUnderlying132 (ft := 3) (by kernel_rfl) Tryd.sizeOf3
instance fld_132_3 : FldT Tryd.prog 132 3 3 := fld Tryd.runUnderlying132 (ft := 3) (by kernel_rfl) Tryd.sizeOf3
instance one_133 : OneT Tryd.prog 133 := ⟨Tryd.isAgg133, Tryd.sizeOf133⟩
instance zero_133 : ZeroT Tryd.prog 133 .nilFunc := ⟨Tryd.zeroValue133⟩
instance zero_134 : ZeroT Tryd.prog 134 (.agg #[(.int .i64 0), (.int .i64 0)]) := ⟨Tryd.zeroValue134⟩
instance agg_134 : AggT Tryd.prog 134 2 := ⟨Tryd.isAgg134, Tryd.sizeOf134⟩
instance fld_134_0 : FldT Tryd.prog 134 0 0 := fld Tryd.runUnderlying134 (ft := 3) (by kernel_rfl) Tryd.sizeOf3
instance fld_134_1 : FldT Tryd.prog 134 1 1 := fld Tryd.runUnderlying134 (ft := 3) (by kernel_rfl) Tryd.sizeOf3
instance zero_135 : ZeroT Tryd.prog 135 (.agg #[(.int .i64 0), (.int .i64 0)]) := ⟨Tryd.zeroValue135⟩
instance agg_135 : AggT Tryd.prog 135 2 := ⟨Tryd.isAgg135, Tryd.sizeOf135⟩
instance fld_135_0 : FldT Tryd.prog 135 0 0 := fld Tryd.runUnderlying135 (ft := 3) (by kernel_rfl) Tryd.sizeOf3
instance fld_135_1 : FldT Tryd.prog 135 1 1 := fld Tryd.runUnderlying135 (ft := 3) (by kernel_rfl) Tryd.sizeOf3
instance one_137 : OneT Tryd.prog 137 := ⟨Tryd.isAgg137, Tryd.sizeOf137⟩
instance zero_137 : ZeroT Tryd.prog 137 .nilFunc := ⟨Tryd.zeroValue137⟩
instance one_138 : OneT Tryd.prog 138 := ⟨Tryd.isAgg138, Tryd.sizeOf138⟩
instance zero_138 : ZeroT Tryd.prog 138 .nilFunc := ⟨Tryd.zeroValue138⟩
instance one_139 : OneT Tryd.prog 139 := ⟨Tryd.isAgg139, Tryd.sizeOf139⟩
instance zero_139 : ZeroT Tryd.prog 139 .nilFunc := ⟨Tryd.zeroValue139⟩
instance one_140 : OneT Tryd.prog 140 := ⟨Tryd.isAgg140, Tryd.sizeOf140⟩
instance zero_140 : ZeroT Tryd.prog 140 .nilFunc := ⟨Tryd.zeroValue140⟩
instance one_141 : OneT Tryd.prog 141 := ⟨Tryd.isAgg141, Tryd.sizeOf141⟩
instance zero_141 : ZeroT Tryd.prog 141 .nilFunc := ⟨Tryd.zeroValue141⟩
instance one_144 : OneT Tryd.prog 144 := ⟨Tryd.isAgg144, Tryd.sizeOf144⟩
instance zero_144 : ZeroT Tryd.prog 144 .nilFunc := ⟨Tryd.zeroValue144⟩
instance one_145 : OneT Tryd.prog 145 := ⟨Tryd.isAgg145, Tryd.sizeOf145⟩
instance zero_145 : ZeroT Tryd.prog 145 (.pointer none) := ⟨Tryd.zeroValue145⟩
instance ptr_145 : PtrT Tryd.prog 145 := ⟨by kernel_rfl⟩
instance zero_146 : ZeroT Tryd.prog 146 (.agg #[(.string ⟨#[]⟩), (.pointer none)]) := ⟨Tryd.zeroValue146⟩
instance agg_146 : AggT Tryd.prog 146 2 := ⟨Tryd.isAgg146, Tryd.sizeOf146⟩
instance fld_146_0 : FldT Tryd.prog 146 0 0 := fld Tryd.runUnderlying146 (ft := 9) (by kernel_rfl) Tryd.sizeOf9
instance fld_146_1 : FldT Tryd.prog 146 1 1 := fld Tryd.runUnderlying146 (ft := 145) (by kernel_rfl) Tryd.sizeOf145
instance zero_147 : ZeroT Tryd.prog 147 (.agg #[(.string ⟨#[]⟩), (.pointer none), (.string ⟨#[]⟩), (.pointer none)]) := ⟨Tryd.zeroValue147⟩
instance agg_147 : AggT Tryd.prog 147 4 := ⟨Tryd.isAgg147, Tryd.sizeOf147⟩
instance arr_147 : ArrT Tryd.prog 147 2 146 2 := ⟨Tryd.runUnderlying147, Tryd.sizeOf146⟩
instance one_149 : OneT Tryd.prog 149 := ⟨Tryd.isAgg149, Tryd.sizeOf149⟩
instance zero_149 : ZeroT Tryd.prog 149 .nilFunc := ⟨Tryd.zeroValue149⟩
instance one_150 : OneT Tryd.prog 150 := ⟨Tryd.isAgg150, Tryd.sizeOf150⟩
instance zero_150 : ZeroT Tryd.prog 150 (.slice none 0 0) := ⟨Tryd.zeroValue150⟩
instance bytes_150 : BytesT Tryd.prog 150 := ⟨_, Tryd.underlying150, Tryd.underlying5⟩
instance sl_150 : SlT Tryd.prog 150 5 1 1 := slt (z := (.int .u8 0)) Tryd.underlying150 (i := Tryd.t5) (by kernel_rfl) (by kernel_rfl) (by kernel_rfl) (by kernel_rfl) (by kernel_rfl)
instance one_152 : OneT Tryd.prog 152 := ⟨Tryd.isAgg152, Tryd.sizeOf152⟩
instance zero_152 : ZeroT Tryd.prog 152 .nilFunc := ⟨Tryd.zeroValue152⟩
instance agg_153 : AggT Tryd.prog 153 256 := ⟨Tryd.isAgg153, Tryd.sizeOf153⟩
instance arr_153 : ArrT Tryd.prog 153 256 3 1 := ⟨Tryd.runUnderlying153, Tryd.sizeOf3⟩
instance one_154 : OneT Tryd.prog 154 := ⟨Tryd.isAgg154, Tryd.sizeOf154⟩
instance zero_154 : ZeroT Tryd.prog 154 .nilFunc := ⟨Tryd.zeroValue154⟩
instance one_155 : OneT Tryd.prog 155 := ⟨Tryd.isAgg155, Tryd.sizeOf155⟩
instance zero_155 : ZeroT Tryd.prog 155 .nilFunc := ⟨Tryd.zeroValue155⟩
instance one_156 : OneT Tryd.prog 156 := ⟨Tryd.isAgg156, Tryd.sizeOf156⟩
instance zero_156 : ZeroT Tryd.prog 156 .nilFunc := ⟨Tryd.zeroValue156⟩
instance one_159 : OneT Tryd.prog 159 := ⟨Tryd.isAgg159, Tryd.sizeOf159⟩
instance zero_159 : ZeroT Tryd.prog 159 .nilFunc := ⟨Tryd.zeroValue159⟩
instance one_160 : OneT Tryd.prog 160 := ⟨Tryd.isAgg160, Tryd.sizeOf160⟩
instance zero_160 : ZeroT Tryd.prog 160 .nilFunc := ⟨Tryd.zeroValue160⟩
instance one_162 : OneT Tryd.prog 162 := ⟨Tryd.isAgg162, Tryd.sizeOf162⟩
instance zero_162 : ZeroT Tryd.prog 162 .nilFunc := ⟨Tryd.zeroValue162⟩
instance one_163 : OneT Tryd.prog 163 := ⟨Tryd.isAgg163, Tryd.sizeOf163⟩
instance zero_163 : ZeroT Tryd.prog 163 .nilFunc := ⟨Tryd.zeroValue163⟩
instance one_164 : OneT Tryd.prog 164 := ⟨Tryd.isAgg164, Tryd.sizeOf164⟩
instance zero_164 : ZeroT Tryd.prog 164 (.pointer none) := ⟨Tryd.zeroValue164⟩
instance ptr_164 : PtrT Tryd.prog 164 := ⟨by kernel_rfl⟩
instance zero_165 : ZeroT Tryd.prog 165 (.agg #[(.pointer none), (.slice none 0 0)]) := ⟨Tryd.zeroValue165⟩
instance agg_165 : AggT Tryd.prog 165 2 := ⟨Tryd.isAgg165, Tryd.sizeOf165⟩
instance fld_165_0 : FldT Tryd.prog 165 0 0 := fld Tryd.runUnderlying165 (ft := 164) (by kernel_rfl) Tryd.sizeOf164
instance fld_165_1 : FldT Tryd.prog 165 1 1 := fld Tryd.runUnderlying165 (ft := 150) (by kernel_rfl) Tryd.sizeOf150
instance zero_166 : ZeroT Tryd.prog 166 (.agg #[(.pointer none), (.slice none 0 0)]) := ⟨Tryd.zeroValue166⟩
instance agg_166 : AggT Tryd.prog 166 2 := ⟨Tryd.isAgg166, Tryd.sizeOf166⟩
instance fld_166_0 : FldT Tryd.prog 166 0 0 := fld Tryd.runUnderlying166 (ft := 164) (by kernel_rfl) Tryd.sizeOf164
instance fld_166_1 : FldT Tryd.prog 166 1 1 := fld Tryd.runUnderlying166 (ft := 150) (by kernel_rfl) Tryd.sizeOf150
instance one_167 : OneT Tryd.prog 167 := ⟨Tryd.isAgg167, Tryd.sizeOf167⟩
instance zero_167 : ZeroT Tryd.prog 167 .nilFunc := ⟨Tryd.zeroValue167⟩
instance one_168 : OneT Tryd.prog 168 := ⟨Tryd.isAgg168, Tryd.sizeOf168⟩
instance zero_168 : ZeroT Tryd.prog 168 .nilIface := ⟨Tryd.zeroValue168⟩
instance one_169 : OneT Tryd.prog 169 := ⟨Tryd.isAgg169, Tryd.sizeOf169⟩
instance zero_169 : ZeroT Tryd.prog 169 .nilIface := ⟨Tryd.zeroValue169⟩
instance one_171 : OneT Tryd.prog 171 := ⟨Tryd.isAgg171, Tryd.sizeOf171⟩
instance zero_171 : ZeroT Tryd.prog 171 .nilFunc := ⟨Tryd.zeroValue171⟩
instance one_172 : OneT Tryd.prog 172 := ⟨Tryd.isAgg172, Tryd.sizeOf172⟩
instance zero_172 : ZeroT Tryd.prog 172 (.map none) := ⟨Tryd.zeroValue172⟩
instance map_172 : MapT Tryd.prog 172 3 178 := ⟨Tryd.underlying172⟩
instance one_173 : OneT Tryd.prog 173 := ⟨Tryd.isAgg173, Tryd.sizeOf173⟩
instance zero_173 : ZeroT Tryd.prog 173 (.slice none 0 0) := ⟨Tryd.zeroValue173⟩
instance sl_173 : SlT Tryd.prog 173 178 1 8 := slt (z := (.pointer none)) Tryd.underlying173 (i := Tryd.t178) (by kernel_rfl) (by kernel_rfl) (by kernel_rfl) (by kernel_rfl) (by kernel_rfl)
instance zero_174 : ZeroT Tryd.prog 174 (.agg #[(.slice none 0 0), (.map none), (.map none), (.int .i64 0), (.int .i64 0), (.int .i64 0)]) := ⟨Tryd.zeroValue174⟩
instance agg_174 : AggT Tryd.prog 174 6 := ⟨Tryd.isAgg174, Tryd.sizeOf174⟩
instance fld_174_0 : FldT Tryd.prog 174 0 0 := fld Tryd.runUnderlying174 (ft := 173) (by kernel_rfl) Tryd.sizeOf173
instance fld_174_1 : FldT Tryd.prog 174 1 1 := fld Tryd.runUnderlying174 (ft := 172) (by kernel_rfl) Tryd.sizeOf172
instance fld_174_2 : FldT Tryd.prog 174 2 2 := fld Tryd.runUnderlying174 (ft := 172) (by kernel_rfl) Tryd.sizeOf172
instance fld_174_3 : FldT Tryd.prog 174 3 3 := fld Tryd.runUnderlying174 (ft := 3) (by kernel_rfl) Tryd.sizeOf3
instance fld_174_4 : FldT Tryd.prog 174 4 4 := fld Tryd.runUnderlying174 (ft := 3) (by kernel_rfl) Tryd.sizeOf3
instance fld_174_5 : FldT Tryd.prog 174 5 5 := fld Tryd.runUnderlying174 (ft := 3) (by kernel_rfl) Tryd.sizeOf3
instance zero_175 : ZeroT Tryd.prog 175 (.agg #[(.slice none 0 0), (.map none), (.map none), (.int .i64 0), (.int .i64 0), (.int .i64 0)]) := ⟨Tryd.zeroValue175⟩
instance agg_175 : AggT Tryd.prog 175 6 := ⟨Tryd.isAgg175, Tryd.sizeOf175⟩
instance fld_175_0 : FldT Tryd.prog 175 0 0 := fld Tryd.runUnderlying175 (ft := 173) (by kernel_rfl) Tryd.sizeOf173
instance fld_175_1 : FldT Tryd.prog 175 1 1 := fld Tryd.runUnderlying175 (ft := 172) (by kernel_rfl) Tryd.sizeOf172
instance fld_175_2 : FldT Tryd.prog 175 2 2 := fld Tryd.runUnderlying175 (ft := 172) (by kernel_rfl) Tryd.sizeOf172
instance fld_175_3 : FldT Tryd.prog 175 3 3 := fld Tryd.runUnderlying175 (ft := 3) (by kernel_rfl) Tryd.sizeOf3
instance fld_175_4 : FldT Tryd.prog 175 4 4 := fld Tryd.runUnderlying175 (ft := 3) (by kernel_rfl) Tryd.sizeOf3
instance fld_175_5 : FldT Tryd.prog 175 5 5 := fld Tryd.runUnderlying175 (ft := 3) (by kernel_rfl) Tryd.sizeOf3
instance zero_176 : ZeroT Tryd.prog 176 (.agg #[(.int .i64 0), (.int .i64 0)]) := ⟨Tryd.zeroValue176⟩
instance agg_176 : AggT Tryd.prog 176 2 := ⟨Tryd.isAgg176, Tryd.sizeOf176⟩
instance fld_176_0 : FldT Tryd.prog 176 0 0 := fld Tryd.runUnderlying176 (ft := 3) (by kernel_rfl) Tryd.sizeOf3
instance fld_176_1 : FldT Tryd.prog 176 1 1 := fld Tryd.runUnderlying176 (ft := 3) (by kernel_rfl) Tryd.sizeOf3
instance zero_177 : ZeroT Tryd.prog 177 (.agg #[(.int .i64 0), (.int .i64 0)]) := ⟨Tryd.zeroValue177⟩
instance agg_177 : AggT Tryd.prog 177 2 := ⟨Tryd.isAgg177, Tryd.sizeOf177⟩
instance fld_177_0 : FldT Tryd.prog 177 0 0 := fld Tryd.runUnderlying177 (ft := 3) (by kernel_rfl) Tryd.sizeOf3
instance fld_177_1 : FldT Tryd.prog 177 1 1 := fld Tryd.runUnderlying177 (ft := 3) (by kernel_rfl) Tryd.sizeOf3
instance one_178 : OneT Tryd.prog 178 := ⟨Tryd.isAgg178, Tryd.sizeOf178⟩
instance zero_178 : ZeroT Tryd.prog 178 (.pointer none) := ⟨Tryd.zeroValue178⟩
instance ptr_178 : PtrT Tryd.prog 178 := ⟨by kernel_rfl⟩
instance one_179 : OneT Tryd.prog 179 := ⟨Tryd.isAgg179, Tryd.sizeOf179⟩
instance zero_179 : ZeroT Tryd.prog 179 .nilFunc := ⟨Tryd.zeroValue179⟩
instance one_180 : OneT Tryd.prog 180 := ⟨Tryd.isAgg180, Tryd.sizeOf180⟩
instance zero_180 : ZeroT Tryd.prog 180 (.slice none 0 0) := ⟨Tryd.zeroValue180⟩
instance sl_180 : SlT Tryd.prog 180 3 1 8 := slt (z := (.int .i64 0)) Tryd.underlying180 (i := Tryd.t3) (by kernel_rfl) (by kernel_rfl) (by kernel_rfl) (by kernel_rfl) (by kernel_rfl)
instance zero_181 : ZeroT Tryd.prog 181 (.agg #[(.int .i64 0), (.int .i64 0), (.slice none 0 0), (.int .i64 0), (.int .i64 0)]) := ⟨Tryd.zeroValue181⟩
instance agg_181 : AggT Tryd.prog 181 5 := ⟨Tryd.isAgg181, Tryd.sizeOf181⟩
instance fld_181_0 : FldT Tryd.prog 181 0 0 := fld Tryd.runUnderlying181 (ft := 177) (by kernel_rfl) Tryd.sizeOf177
instance fld_181_1 : FldT Tryd.prog 181 1 2 := fld Tryd.runUnderlying181 (ft := 180) (by kernel_rfl) Tryd.sizeOf180
instance fld_181_2 : FldT Tryd.prog 181 2 3 := fld Tryd.runUnderlying181 (ft := 3) (by kernel_rfl) Tryd.sizeOf3
instance fld_181_3 : FldT Tryd.prog 181 3 4 := fld Tryd.runUnderlying181 (ft := 3) (by kernel_rfl) Tryd.sizeOf3
instance zero_182 : ZeroT Tryd.prog 182 (.agg #[(.int .i64 0), (.int .i64 0), (.slice none 0 0), (.int .i64 0), (.int .i64 0)]) := ⟨Tryd.zeroValue182⟩
instance agg_182 : AggT Tryd.prog 182 5 := ⟨Tryd.isAgg182, Tryd.sizeOf182⟩
instance fld_182_0 : FldT Tryd.prog 182 0 0 := fld Tryd.runUnderlying182 (ft := 177) (by kernel_rfl) Tryd.sizeOf177
instance fld_182_1 : FldT Tryd.prog 182 1 2 := fld Tryd.runUnderlying182 (ft := 180) (by kernel_rfl) Tryd.sizeOf180
instance fld_182_2 : FldT Tryd.prog 182 2 3 := fld Tryd.runUnderlying182 (ft := 3) (by kernel_rfl) Tryd.sizeOf3
instance fld_182_3 : FldT Tryd.prog 182 3 4 := fld Tryd.runUnderlying182 (ft := 3) (by kernel_rfl) Tryd.sizeOf3
instance zero_183 : ZeroT Tryd.prog 183 (.agg #[(.int .i64 0), (.int .i64 0)]) := ⟨Tryd.zeroValue183⟩
instance agg_183 : AggT Tryd.prog 183 2 := ⟨Tryd.isAgg183, Tryd.sizeOf183⟩
instance fld_183_0 : FldT Tryd.prog 183 0 0 := fld Tryd.runUnderlying183 (ft := 3) (by kernel_rfl) Tryd.sizeOf3
instance fld_183_1 : FldT Tryd.prog 183 1 1 := fld Tryd.runUnderlying183 (ft := 3) (by kernel_rfl) Tryd.sizeOf3
instance one_184 : OneT Tryd.prog 184 := ⟨Tryd.isAgg184, Tryd.sizeOf184⟩
instance zero_184 : ZeroT Tryd.prog 184 .nilFunc := ⟨Tryd.zeroValue184⟩
instance one_185 : OneT Tryd.prog 185 := ⟨Tryd.isAgg185, Tryd.sizeOf185⟩
instance zero_185 : ZeroT Tryd.prog 185 .nilFunc := ⟨Tryd.zeroValue185⟩
instance one_186 : OneT Tryd.prog 186 := ⟨Tryd.isAgg186, Tryd.sizeOf186⟩
instance zero_186 : ZeroT Tryd.prog 186 .nilFunc := ⟨Tryd.zeroValue186⟩
instance one_187 : OneT Tryd.prog 187 := ⟨Tryd.isAgg187, Tryd.sizeOf187⟩
instance zero_187 : ZeroT Tryd.prog 187 .nilFunc := ⟨Tryd.zeroValue187⟩
instance one_188 : OneT Tryd.prog 188 := ⟨Tryd.isAgg188, Tryd.sizeOf188⟩
instance zero_188 : ZeroT Tryd.prog 188 .nilFunc := ⟨Tryd.zeroValue188⟩
instance one_189 : OneT Tryd.prog 189 := ⟨Tryd.isAgg189, Tryd.sizeOf189⟩
instance zero_189 : ZeroT Tryd.prog 189 .nilFunc := ⟨Tryd.zeroValue189⟩
instance one_190 : OneT Tryd.prog 190 := ⟨Tryd.isAgg190, Tryd.sizeOf190⟩
instance zero_190 : ZeroT Tryd.prog 190 .nilFunc := ⟨Tryd.zeroValue190⟩
instance one_191 : OneT Tryd.prog 191 := ⟨Tryd.isAgg191, Tryd.sizeOf191⟩
instance zero_191 : ZeroT Tryd.prog 191 .nilFunc := ⟨Tryd.zeroValue191⟩
instance agg_192 : AggT Tryd.prog 192 256 := ⟨Tryd.isAgg192, Tryd.sizeOf192⟩
instance arr_192 : ArrT Tryd.prog 192 256 4 1 := ⟨Tryd.runUnderlying192, Tryd.sizeOf4⟩
instance agg_193 : AggT Tryd.prog 193 256 := ⟨Tryd.isAgg193, Tryd.sizeOf193⟩
instance arr_193 : ArrT Tryd.prog 193 256 4 1 := ⟨Tryd.runUnderlying193, Tryd.sizeOf4⟩
instance one_195 : OneT Tryd.prog 195 := ⟨Tryd.isAgg195, Tryd.sizeOf195⟩
instance zero_195 : ZeroT Tryd.prog 195 .nilFunc := ⟨Tryd.zeroValue195⟩
instance one_196 : OneT Tryd.prog 196 := ⟨Tryd.isAgg196, Tryd.sizeOf196⟩
instance zero_196 : ZeroT Tryd.prog 196 .nilFunc := ⟨Tryd.zeroValue196⟩
instance one_197 : OneT Tryd.prog 197 := ⟨Tryd.isAgg197, Tryd.sizeOf197⟩
instance zero_197 : ZeroT Tryd.prog 197 (.pointer none) := ⟨Tryd.zeroValue197⟩
instance ptr_197 : PtrT Tryd.prog 197 := ⟨by kernel_rfl⟩
instance one_198 : OneT Tryd.prog 198 := ⟨Tryd.isAgg198, Tryd.sizeOf198⟩
instance zero_198 : ZeroT Tryd.prog 198 (.pointer none) := ⟨Tryd.zeroValue198⟩
instance ptr_198 : PtrT Tryd.prog 198 := ⟨by kernel_rfl⟩
instance one_199 : OneT Tryd.prog 199 := ⟨Tryd.isAgg199, Tryd.sizeOf199⟩
instance zero_199 : ZeroT Tryd.prog 199 .nilFunc := ⟨Tryd.zeroValue199⟩
instance one_200 : OneT Tryd.prog 200 := ⟨Tryd.isAgg200, Tryd.sizeOf200⟩
instance zero_200 : ZeroT Tryd.prog 200 .nilFunc := ⟨Tryd.zeroValue200⟩
instance one_201 : OneT Tryd.prog 201 := ⟨Tryd.isAgg201, Tryd.sizeOf201⟩
instance zero_201 : ZeroT Tryd.prog 201 .nilFunc := ⟨Tryd.zeroValue201⟩
instance one_202 : OneT Tryd.prog 202 := ⟨Tryd.isAgg202, Tryd.sizeOf202⟩
instance zero_202 : ZeroT Tryd.prog 202 (.int .u64 0) := ⟨Tryd.zeroValue202⟩
instance int_202 : IntT Tryd.prog 202 .u64 := ⟨Tryd.runUnderlying202⟩
instance one_204 : OneT Tryd.prog 204 := ⟨Tryd.isAgg204, Tryd.sizeOf204⟩
instance zero_204 : ZeroT Tryd.prog 204 .nilFunc := ⟨Tryd.zeroValue204⟩
instance one_205 : OneT Tryd.prog 205 := ⟨Tryd.isAgg205, Tryd.sizeOf205⟩
instance zero_205 : ZeroT Tryd.prog 205 .nilFunc := ⟨Tryd.zeroValue205⟩
instance one_207 : OneT Tryd.prog 207 := ⟨Tryd.isAgg207, Tryd.sizeOf207⟩
instance zero_207 : ZeroT Tryd.prog 207 .nilFunc := ⟨Tryd.zeroValue207⟩
instance one_208 : OneT Tryd.prog 208 := ⟨Tryd.isAgg208, Tryd.sizeOf208⟩
instance zero_208 : ZeroT Tryd.prog 208 .nilFunc := ⟨Tryd.zeroValue208⟩
instance one_209 : OneT Tryd.prog 209 := ⟨Tryd.isAgg209, Tryd.sizeOf209⟩
instance zero_209 : ZeroT Tryd.prog 209 (.pointer none) := ⟨Tryd.zeroValue209⟩
instance one_210 : OneT Tryd.prog 210 := ⟨Tryd.isAgg210, Tryd.sizeOf210⟩
instance zero_210 : ZeroT Tryd.prog 210 .nilFunc := ⟨Tryd.zeroValue210⟩
instance one_211 : OneT Tryd.prog 211 := ⟨Tryd.isAgg211, Tryd.sizeOf211⟩
instance zero_211 : ZeroT Tryd.prog 211 .nilFunc := ⟨Tryd.zeroValue211⟩
instance zero_212 : ZeroT Tryd.prog 212 (.agg #[(.int .u8 0), (.int .u8 0), (.int .u8 0), (.int .u8 0), (.int .u8 0), (.int .u8 0), (.int .u8 0), (.int .u8 0), (.int .u8 0), (.int .u8 0), (.int .u8 0), (.int .u8 0), (.int .u8 0), (.int .u8 0), (.int .u8 0), (.int .u8 0), (.int .u8 0), (.int .u8 0), (.int .u8 0), (.int .u8 0), (.int .u8 0), (.int .u8 0), (.int .u8 0), (.int .u8 0)]) := ⟨Tryd.zeroValue212⟩
instance agg_212 : AggT Tryd.prog 212 24 := ⟨Tryd.isAgg212, Tryd.sizeOf212⟩
instance arr_212 : ArrT Tryd.prog 212 24 5 1 := ⟨Tryd.runUnderlying212, Tryd.sizeOf5⟩
instance one_213 : OneT Tryd.prog 213 := ⟨Tryd.isAgg213, Tryd.sizeOf213⟩
instance zero_213 : ZeroT Tryd.prog 213 .nilFunc := ⟨Tryd.zeroValue213⟩
instance one_214 : OneT Tryd.prog 214 := ⟨Tryd.isAgg214, Tryd.sizeOf214⟩
instance zero_214 : ZeroT Tryd.prog 214 .nilFunc := ⟨Tryd.zeroValue214⟩
instance one_216 : OneT Tryd.prog 216 := ⟨Tryd.isAgg216, Tryd.sizeOf216⟩
instance zero_216 : ZeroT Tryd.prog 216 .nilFunc := ⟨Tryd.zeroValue216⟩
instance one_217 : OneT Tryd.prog 217 := ⟨Tryd.isAgg217, Tryd.sizeOf217⟩
instance zero_217 : ZeroT Tryd.prog 217 (.int .u64 0) := ⟨Tryd.zeroValue217⟩
instance int_217 : IntT Tryd.prog 217 .u64 := ⟨Tryd.runUnderlying217⟩
instance one_218 : OneT Tryd.prog 218 := ⟨Tryd.isAgg218, Tryd.sizeOf218⟩
instance zero_218 : ZeroT Tryd.prog 218 .nilFunc := ⟨Tryd.zeroValue218⟩
instance one_219 : OneT Tryd.prog 219 := ⟨Tryd.isAgg219, Tryd.sizeOf219⟩
instance zero_219 : ZeroT Tryd.prog 219 .nilFunc := ⟨Tryd.zeroValue219⟩
instance one_220 : OneT Tryd.prog 220 := ⟨Tryd.isAgg220, Tryd.sizeOf220⟩
instance zero_220 : ZeroT Tryd.prog 220 .nilFunc := ⟨Tryd.zeroValue220⟩
instance zero_221 : ZeroT Tryd.prog 221 (.agg #[(.int .u64 0), (.int .u64 0), (.int .u64 0), (.int .u64 0), (.int .u64 0), (.int .u64 0), (.int .u64 0), (.int .u64 0), (.int .u64 0), (.int .u64 0), (.int .u64 0), (.int .u64 0), (.int .u64 0), (.int .u64 0), (.int .u64 0), (.int .u64 0), (.int .u64 0), (.int .u64 0), (.int .u64 0), (.int .u64 0)]) := ⟨Tryd.zeroValue221⟩
instance agg_221 : AggT Tryd.prog 221 20 := ⟨Tryd.isAgg221, Tryd.sizeOf221⟩
instance arr_221 : ArrT Tryd.prog 221 20 202 1 := ⟨Tryd.runUnderlying221, Tryd.sizeOf202⟩
instance one_222 : OneT Tryd.prog 222 := ⟨Tryd.isAgg222, Tryd.sizeOf222⟩
instance zero_222 : ZeroT Tryd.prog 222 (.int .u32 0) := ⟨Tryd.zeroValue222⟩
instance int_222 : IntT Tryd.prog 222 .u32 := ⟨Tryd.runUnderlying222⟩
instance agg_223 : AggT Tryd.prog 223 65 := ⟨Tryd.isAgg223, Tryd.sizeOf223⟩
instance arr_223 : ArrT Tryd.prog 223 65 5 1 := ⟨Tryd.runUnderlying223, Tryd.sizeOf5⟩
instance one_224 : OneT Tryd.prog 224 := ⟨Tryd.isAgg224, Tryd.sizeOf224⟩
instance zero_224 : ZeroT Tryd.prog 224 .nilFunc := ⟨Tryd.zeroValue224⟩
instance one_225 : OneT Tryd.prog 225 := ⟨Tryd.isAgg225, Tryd.sizeOf225⟩
instance zero_225 : ZeroT Tryd.prog 225 .nilFunc := ⟨Tryd.zeroValue225⟩
instance one_227 : OneT Tryd.prog 227 := ⟨Tryd.isAgg227, Tryd.sizeOf227⟩
instance zero_227 : ZeroT Tryd.prog 227 .nilFunc := ⟨Tryd.zeroValue227⟩
instance one_228 : OneT Tryd.prog 228 := ⟨Tryd.isAgg228, Tryd.sizeOf228⟩
instance zero_228 : ZeroT Tryd.prog 228 (.int .i64 0) := ⟨Tryd.zeroValue228⟩
instance int_228 : IntT Tryd.prog 228 .i64 := ⟨Tryd.runUnderlying228⟩
instance one_229 : OneT Tryd.prog 229 := ⟨Tryd.isAgg229, Tryd.sizeOf229⟩
instance zero_229 : ZeroT Tryd.prog 229 .nilFunc := ⟨Tryd.zeroValue229⟩
instance one_230 : OneT Tryd.prog 230 := ⟨Tryd.isAgg230, Tryd.sizeOf230⟩
instance zero_230 : ZeroT Tryd.prog 230 (.pointer none) := ⟨Tryd.zeroValue230⟩
instance ptr_230 : PtrT Tryd.prog 230 := ⟨by kernel_rfl⟩
instance one_231 : OneT Tryd.prog 231 := ⟨Tryd.isAgg231, Tryd.sizeOf231⟩
instance zero_231 : ZeroT Tryd.prog 231 .nilFunc := ⟨Tryd.zeroValue231⟩
instance one_232 : OneT Tryd.prog 232 := ⟨Tryd.isAgg232, Tryd.sizeOf232⟩
instance zero_232 : ZeroT Tryd.prog 232 .nilFunc := ⟨Tryd.zeroValue232⟩
instance agg_233 : AggT Tryd.prog 233 256 := ⟨Tryd.isAgg233, Tryd.sizeOf233⟩
instance arr_233 : ArrT Tryd.prog 233 256 5 1 := ⟨Tryd.runUnderlying233, Tryd.sizeOf5⟩
instance zero_234 : ZeroT Tryd.prog 234 (.agg #[(.int .u8 0), (.int .u8 0)]) := ⟨Tryd.zeroValue234⟩
instance agg_234 : AggT Tryd.prog 234 2 := ⟨Tryd.isAgg234, Tryd.sizeOf234⟩
instance fld_234_0 : FldT Tryd.prog 234 0 0 := fld Tryd.runUnderlying234 (ft := 5) (by kernel_rfl) Tryd.sizeOf5
instance fld_234_1 : FldT Tryd.prog 234 1 1 := fld Tryd.runUnderlying234 (ft := 5) (by kernel_rfl) Tryd.sizeOf5
instance zero_235 : ZeroT Tryd.prog 235 (.agg #[(.int .u8 0), (.int .u8 0)]) := ⟨Tryd.zeroValue235⟩
instance agg_235 : AggT Tryd.prog 235 2 := ⟨Tryd.isAgg235, Tryd.sizeOf235⟩
instance fld_235_0 : FldT Tryd.prog 235 0 0 := fld Tryd.runUnderlying235 (ft := 5) (by kernel_rfl) Tryd.sizeOf5
instance fld_235_1 : FldT Tryd.prog 235 1 1 := fld Tryd.runUnderlying235 (ft := 5) (by kernel_rfl) Tryd.sizeOf5
instance zero_236 : ZeroT Tryd.prog 236 (.agg #[(.int .u8 0), (.int .u8 0), (.int .u8 0), (.int .u8 0), (.int .u8 0), (.int .u8 0), (.int .u8 0), (.int .u8 0), (.int .u8 0), (.int .u8 0), (.int .u8 0), (.int .u8 0), (.int .u8 0), (.int .u8 0), (.int .u8 0), (.int .u8 0), (.int .u8 0), (.int .u8 0), (.int .u8 0), (.int .u8 0), (.int .u8 0), (.int .u8 0), (.int .u8 0), (.int .u8 0), (.int .u8 0), (.int .u8 0), (.int .u8 0), (.int .u8 0), (.int .u8 0), (.int .u8 0), (.int .u8 0), (.int .u8 0)]) := ⟨Tryd.zeroValue236⟩
instance agg_236 : AggT Tryd.prog 236 32 := ⟨Tryd.isAgg236, Tryd.sizeOf236⟩
instance arr_236 : ArrT Tryd.prog 236 16 235 2 := ⟨Tryd.runUnderlying236, Tryd.sizeOf235⟩
instance one_237 : OneT Tryd.prog 237 := ⟨Tryd.isAgg237, Tryd.sizeOf237⟩
instance zero_237 : ZeroT Tryd.prog 237 .nilFunc := ⟨Tryd.zeroValue237⟩
instance one_238 : OneT Tryd.prog 238 := ⟨Tryd.isAgg238, Tryd.sizeOf238⟩
instance zero_238 : ZeroT Tryd.prog 238 .nilFunc := ⟨Tryd.zeroValue238⟩
instance zero_239 : ZeroT Tryd.prog 239 (.agg #[(.string ⟨#[]⟩), (.string ⟨#[]⟩), .nilIface]) := ⟨Tryd.zeroValue239⟩
instance agg_239 : AggT Tryd.prog 239 3 := ⟨Tryd.isAgg239, Tryd.sizeOf239⟩
instance fld_239_0 : FldT Tryd.prog 239 0 0 := fld Tryd.runUnderlying239 (ft := 9) (by kernel_rfl) Tryd.sizeOf9
instance fld_239_1 : FldT Tryd.prog 239 1 1 := fld Tryd.runUnderlying239 (ft := 9) (by kernel_rfl) Tryd.sizeOf9
instance fld_239_2 : FldT Tryd.prog 239 2 2 := fld Tryd.runUnderlying239 (ft := 169) (by kernel_rfl) Tryd.sizeOf169
instance zero_240 : ZeroT Tryd.prog 240 (.agg #[(.string ⟨#[]⟩), (.string ⟨#[]⟩), .nilIface]) := ⟨Tryd.zeroValue240⟩
instance agg_240 : AggT Tryd.prog 240 3 := ⟨Tryd.isAgg240, Tryd.sizeOf240⟩
instance fld_240_0 : FldT Tryd.prog 240 0 0 := fld Tryd.runUnderlying240 (ft := 9) (by kernel_rfl) Tryd.sizeOf9
instance fld_240_1 : FldT Tryd.prog 240 1 1 := fld Tryd.runUnderlying240 (ft := 9) (by kernel_rfl) Tryd.sizeOf9
instance fld_240_2 : FldT Tryd.prog 240 2 2 := fld Tryd.runUnderlying240 (ft := 169) (by kernel_rfl) Tryd.sizeOf169
instance one_241 : OneT Tryd.prog 241 := ⟨Tryd.isAgg241, Tryd.sizeOf241⟩
instance zero_241 : ZeroT Tryd.prog 241 .nilFunc := ⟨Tryd.zeroValue241⟩
instance zero_242 : ZeroT Tryd.prog 242 (.agg #[(.int .u8 0), (.int .u8 0), (.int .u8 0), (.int .u8 0), (.int .u8 0), (.int .u8 0), (.int .u8 0), (.int .u8 0), (.int .u8 0), (.int .u8 0), (.int .u8 0), (.int .u8 0), (.int .u8 0), (.int .u8 0), (.int .u8 0), (.int .u8 0), (.int .u8 0), (.int .u8 0), (.int .u8 0), (.int .u8 0), (.int .u8 0), (.int .u8 0), (.int .u8 0), (.int .u8 0), (.int .u8 0), (.int .u8 0), (.int .u8 0), (.int .u8 0), (.int .u8 0), (.int .u8 0), (.int .u8 0), (.int .u8 0)]) := ⟨Tryd.zeroValue242⟩
instance agg_242 : AggT Tryd.prog 242 32 := ⟨Tryd.isAgg242, Tryd.sizeOf242⟩
instance arr_242 : ArrT Tryd.prog 242 32 5 1 := ⟨Tryd.runUnderlying242, Tryd.sizeOf5⟩
instance agg_243 : AggT Tryd.prog 243 64 := ⟨Tryd.isAgg243, Tryd.sizeOf243⟩
instance arr_243 : ArrT Tryd.prog 243 64 5 1 := ⟨Tryd.runUnderlying243, Tryd.sizeOf5⟩
instance one_244 : OneT Tryd.prog 244 := ⟨Tryd.isAgg244, Tryd.sizeOf244⟩
instance zero_244 : ZeroT Tryd.prog 244 (.pointer none) := ⟨Tryd.zeroValue244⟩
instance ptr_244 : PtrT Tryd.prog 244 := ⟨by kernel_rfl⟩
instance zero_245 : ZeroT Tryd.prog 245 (.agg #[(.string ⟨#[]⟩)]) := ⟨Tryd.zeroValue245⟩
instance agg_245 : AggT Tryd.prog 245 1 := ⟨Tryd.isAgg245, Tryd.sizeOf245⟩
instance fld_245_0 : FldT Tryd.prog 245 0 0 := fld Tryd.runUnderlying245 (ft := 9) (by kernel_rfl) Tryd.sizeOf9
instance zero_246 : ZeroT Tryd.prog 246 (.agg #[(.string ⟨#[]⟩)]) := ⟨Tryd.zeroValue246⟩
instance agg_246 : AggT Tryd.prog 246 1 := ⟨Tryd.isAgg246, Tryd.sizeOf246⟩
instance fld_246_0 : FldT Tryd.prog 246 0 0 := fld Tryd.runUnderlying246 (ft := 9) (by kernel_rfl) Tryd.sizeOf9
instance zero_247 : ZeroT Tryd.prog 247 (.agg #[(.pointer none), (.pointer none), (.pointer none), (.string ⟨#[]⟩)]) := ⟨Tryd.zeroValue247⟩
instance agg_247 : AggT Tryd.prog 247 4 := ⟨Tryd.isAgg247, Tryd.sizeOf247⟩
instance fld_247_0 : FldT Tryd.prog 247 0 0 := fld Tryd.runUnderlying247 (ft := 17) (by kernel_rfl) Tryd.sizeOf17
instance fld_247_1 : FldT Tryd.prog 247 1 1 := fld Tryd.runUnderlying247 (ft := 17) (by kernel_rfl) Tryd.sizeOf17
instance fld_247_2 : FldT Tryd.prog 247 2 2 := fld Tryd.runUnderlying247 (ft := 17) (by kernel_rfl) Tryd.sizeOf17
instance fld_247_3 : FldT Tryd.prog 247 3 3 := fld Tryd.runUnderlying247 (ft := 9) (by kernel_rfl) Tryd.sizeOf9
instance zero_248 : ZeroT Tryd.prog 248 (.agg #[(.pointer none), (.pointer none), (.pointer none), (.string ⟨#[]⟩)]) := ⟨Tryd.zeroValue248⟩
instance agg_248 : AggT Tryd.prog 248 4 := ⟨Tryd.isAgg248, Tryd.sizeOf248⟩
instance fld_248_0 : FldT Tryd.prog 248 0 0 := fld Tryd.runUnderlying248 (ft := 17) (by kernel_rfl) Tryd.sizeOf17
instance fld_248_1 : FldT Tryd.prog 248 1 1 := fld Tryd.runUnderlying248 (ft := 17) (by kernel_rfl) Tryd.sizeOf17
instance fld_248_2 : FldT Tryd.prog 248 2 2 := fld Tryd.runUnderlying248 (ft := 17) (by kernel_rfl) Tryd.sizeOf17
instance fld_248_3 : FldT Tryd.prog 248 3 3 := fld Tryd.runUnderlying248 (ft := 9) (by kernel_rfl) Tryd.sizeOf9
instance zero_249 : ZeroT Tryd.prog 249 (.agg #[]) := ⟨Tryd.zeroValue249⟩
instance agg_249 : AggT Tryd.prog 249 0 := ⟨Tryd.isAgg249, Tryd.sizeOf249⟩
instance arr_249 : ArrT Tryd.prog 249 0 16 1 := ⟨Tryd.runUnderlying249, Tryd.sizeOf16⟩
instance zero_250 : ZeroT Tryd.prog 250 (.agg #[]) := ⟨Tryd.zeroValue250⟩
instance agg_250 : AggT Tryd.prog 250 0 := ⟨Tryd.isAgg250, Tryd.sizeOf250⟩
instance zero_251 : ZeroT Tryd.prog 251 (.agg #[]) := ⟨Tryd.zeroValue251⟩
instance agg_251 : AggT Tryd.prog 251 0 := ⟨Tryd.isAgg251, Tryd.sizeOf251⟩
instance one_252 : OneT Tryd.prog 252 := ⟨Tryd.isAgg252, Tryd.sizeOf252⟩
instance zero_252 : ZeroT Tryd.prog 252 .nilFunc := ⟨Tryd.zeroValue252⟩
instance one_253 : OneT Tryd.prog 253 := ⟨Tryd.isAgg253, Tryd.sizeOf253⟩
instance zero_253 : ZeroT Tryd.prog 253 (.int .u8 0) := ⟨Tryd.zeroValue253⟩
instance int_253 : IntT Tryd.prog 253 .u8 := ⟨Tryd.runUnderlying253⟩
instance one_254 : OneT Tryd.prog 254 := ⟨Tryd.isAgg254, Tryd.sizeOf254⟩
instance zero_254 : ZeroT Tryd.prog 254 (.int .u8 0) := ⟨Tryd.zeroValue254⟩
instance int_254 : IntT Tryd.prog 254 .u8 := ⟨Tryd.runUnderlying254⟩
instance one_255 : OneT Tryd.prog 255 := ⟨Tryd.isAgg255, Tryd.sizeOf255⟩
instance zero_255 : ZeroT Tryd.prog 255 .nilFunc := ⟨Tryd.zeroValue255⟩
instance one_256 : OneT Tryd.prog 256 := ⟨Tryd.isAgg256, Tryd.sizeOf256⟩
instance zero_256 : ZeroT Tryd.prog 256 (.int .i32 0) := ⟨Tryd.zeroValue256⟩
instance int_256 : IntT Tryd.prog 256 .i32 := ⟨Tryd.runUnderlying256⟩
instance one_257 : OneT Tryd.prog 257 := ⟨Tryd.isAgg257, Tryd.sizeOf257⟩
instance zero_257 : ZeroT Tryd.prog 257 (.int .i32 0) := ⟨Tryd.zeroValue257⟩
instance int_257 : IntT Tryd.prog 257 .i32 := ⟨Tryd.runUnderlying257⟩
instance zero_258 : ZeroT Tryd.prog 258 (.agg #[(.int .u64 0), (.int .u64 0), (.int .u32 0), (.int .u8 0), (.int .u8 0), (.int .u8 0), (.int .u8 0), .nilFunc, (.pointer none), (.int .i32 0), (.int .i32 0)]) := ⟨Tryd.zeroValue258⟩
instance agg_258 : AggT Tryd.prog 258 11 := ⟨Tryd.isAgg258, Tryd.sizeOf258⟩
instance fld_258_0 : FldT Tryd.prog 258 0 0 := fld Tryd.runUnderlying258 (ft := 12) (by kernel_rfl) Tryd.sizeOf12
instance fld_258_1 : FldT Tryd.prog 258 1 1 := fld Tryd.runUnderlying258 (ft := 12) (by kernel_rfl) Tryd.sizeOf12
instance fld_258_2 : FldT Tryd.prog 258 2 2 := fld Tryd.runUnderlying258 (ft := 222) (by kernel_rfl) Tryd.sizeOf222
instance fld_258_3 : FldT Tryd.prog 258 3 3 := fld Tryd.runUnderlying258 (ft := 253) (by kernel_rfl) Tryd.sizeOf253
instance fld_258_4 : FldT Tryd.prog 258 4 4 := fld Tryd.runUnderlying258 (ft := 5) (by kernel_rfl) Tryd.sizeOf5
instance fld_258_5 : FldT Tryd.prog 258 5 5 := fld Tryd.runUnderlying258 (ft := 5) (by kernel_rfl) Tryd.sizeOf5
instance fld_258_6 : FldT Tryd.prog 258 6 6 := fld Tryd.runUnderlying258 (ft := 254) (by kernel_rfl) Tryd.sizeOf254
instance fld_258_7 : FldT Tryd.prog 258 7 7 := fld Tryd.runUnderlying258 (ft := 255) (by kernel_rfl) Tryd.sizeOf255
instance fld_258_8 : FldT Tryd.prog 258 8 8 := fld Tryd.runUnderlying258 (ft := 198) (by kernel_rfl) Tryd.sizeOf198
instance fld_258_9 : FldT Tryd.prog 258 9 9 := fld Tryd.runUnderlying258 (ft := 256) (by kernel_rfl) Tryd.sizeOf256
instance fld_258_10 : FldT Tryd.prog 258 10 10 := fld Tryd.runUnderlying258 (ft := 257) (by kernel_rfl) Tryd.sizeOf257
instance zero_259 : ZeroT Tryd.prog 259 (.agg #[(.int .u64 0), (.int .u64 0), (.int .u32 0), (.int .u8 0), (.int .u8 0), (.int .u8 0), (.int .u8 0), .nilFunc, (.pointer none), (.int .i32 0), (.int .i32 0)]) := ⟨Tryd.zeroValue259⟩
instance agg_259 : AggT Tryd.prog 259 11 := ⟨Tryd.isAgg259, Tryd.sizeOf259⟩
instance fld_259_0 : FldT Tryd.prog 259 0 0 := fld Tryd.runUnderlying259 (ft := 12) (by kernel_rfl) Tryd.sizeOf12
instance fld_259_1 : FldT Tryd.prog 259 1 1 := fld Tryd.runUnderlying259 (ft := 12) (by kernel_rfl) Tryd.sizeOf12
instance fld_259_2 : FldT Tryd.prog 259 2 2 := fld Tryd.runUnderlying259 (ft := 222) (by kernel_rfl) Tryd.sizeOf222
instance fld_259_3 : FldT Tryd.prog 259 3 3 := fld Tryd.runUnderlying259 (ft := 253) (by kernel_rfl) Tryd.sizeOf253
instance fld_259_4 : FldT Tryd.prog 259 4 4 := fld Tryd.runUnderlying259 (ft := 5) (by kernel_rfl) Tryd.sizeOf5
instance fld_259_5 : FldT Tryd.prog 259 5 5 := fld Tryd.runUnderlying259 (ft := 5) (by kernel_rfl) Tryd.sizeOf5
instance fld_259_6 : FldT Tryd.prog 259 6 6 := fld Tryd.runUnderlying259 (ft := 254) (by kernel_rfl) Tryd.sizeOf254
instance fld_259_7 : FldT Tryd.prog 259 7 7 := fld Tryd.runUnderlying259 (ft := 255) (by kernel_rfl) Tryd.sizeOf255
instance fld_259_8 : FldT Tryd.prog 259 8 8 := fld Tryd.runUnderlying259 (ft := 198) (by kernel_rfl) Tryd.sizeOf198
instance fld_259_9 : FldT Tryd.prog 259 9 9 := fld Tryd.runUnderlying259 (ft := 256) (by kernel_rfl) Tryd.sizeOf256
instance fld_259_10 : FldT Tryd.prog 259 10 10 := fld Tryd.runUnderlying259 (ft := 257) (by kernel_rfl) Tryd.sizeOf257
instance bld_37_0_1 {a0 a1 : Value} [h0 : OC a0] [h1 : OC a1] : RV Tryd.prog (sBuild 37 [(0, a0), (1, a1)]) (.agg #[a0, a1]) := ⟨fun W w _ => by
  have c0 := cells_one h0.one; have c1 := cells_one h1.one; simp [sBuild, Instr.build, Tryd.zeroValue37, Tryd.runUnderlying37, Tryd.sizeOf4, Tryd.sizeOf9, cells_agg, Instr.fill, c0, c1]⟩
instance bld_80_0_1_2_3_4_5 {a0 a1 a2 a3 a4 a5 : Value} [h0 : OC a0] [h1 : OC a1] [h2 : OC a2] [h3 : OC a3] [h4 : OC a4] [h5 : OC a5] : RV Tryd.prog (sBuild 80 [(0, a0), (1, a1), (2, a2), (3, a3), (4, a4), (5, a5)]) (.agg #[a0, a1, a2, a3, a4, a5]) := ⟨fun W w _ => by
  have c0 := cells_one h0.one; have c1 := cells_one h1.one; have c2 := cells_one h2.one; have c3 := cells_one h3.one; have c4 := cells_one h4.one; have c5 := cells_one h5.one; simp [sBuild, Instr.build, Tryd.zeroValue80, Tryd.runUnderlying80, Tryd.sizeOf3, Tryd.sizeOf4, Tryd.sizeOf9, cells_agg, Instr.fill, c0, c1, c2, c3, c4, c5]⟩
instance bld_88_2 {a0 : Value} [h0 : OC a0] : RV Tryd.prog (sBuild 88 [(2, a0)]) (.agg #[(.bool false), (.bool false), a0]) := ⟨fun W w _ => by
  have c0 := cells_one h0.one; simp [sBuild, Instr.build, Tryd.zeroValue88, Tryd.runUnderlying88, Tryd.sizeOf4, Tryd.sizeOf86, cells_agg, Instr.fill, c0]⟩
instance bld_96_2 {a0 : Value} [h0 : OC a0] : RV Tryd.prog (sBuild 96 [(2, a0)]) (.agg #[(.bool false), (.bool false), a0]) := ⟨fun W w _ => by
  have c0 := cells_one h0.one; simp [sBuild, Instr.build, Tryd.zeroValue96, Tryd.runUnderlying96, Tryd.sizeOf4, Tryd.sizeOf94, cells_agg, Instr.fill, c0]⟩
instance bld_100_2 {a0 : Value} [h0 : OC a0] : RV Tryd.prog (sBuild 100 [(2, a0)]) (.agg #[(.bool false), (.bool false), a0]) := ⟨fun W w _ => by
  have c0 := cells_one h0.one; simp [sBuild, Instr.build, Tryd.zeroValue100, Tryd.runUnderlying100, Tryd.sizeOf4, Tryd.sizeOf98, cells_agg, Instr.fill, c0]⟩
instance bld_107_0_1_2 {a0 a1 a2 : Value} [h0 : OC a0] [h1 : OC a1] [h2 : OC a2] : RV Tryd.prog (sBuild 107 [(0, a0), (1, a1), (2, a2)]) (.agg #[a0, a1, a2]) := ⟨fun W w _ => by
  have c0 := cells_one h0.one; have c1 := cells_one h1.one; have c2 := cells_one h2.one; simp [sBuild, Instr.build, Tryd.zeroValue107, Tryd.runUnderlying107, Tryd.sizeOf4, Tryd.sizeOf105, cells_agg, Instr.fill, c0, c1, c2]⟩
instance bld_37_  : RV Tryd.prog (sBuild 37 []) (.agg #[(.bool false), (.string ⟨#[]⟩)]) := ⟨fun W w _ => by
   simp [sBuild, Instr.build, Tryd.zeroValue37, Tryd.runUnderlying37, Tryd.sizeOf4, Tryd.sizeOf9, cells_agg, Instr.fill]⟩
instance bld_36_  : RV Tryd.prog (sBuild 36 []) (.agg #[(.bool false), (.string ⟨#[]⟩)]) := ⟨fun W w _ => by
   simp [sBuild, Instr.build, Tryd.zeroValue36, Tryd.runUnderlying36, Tryd.sizeOf4, Tryd.sizeOf9, cells_agg, Instr.fill]⟩
instance bld_113_0_2 {a0 a1 : Value} [h0 : OC a0] [h1 : OC a1] : RV Tryd.prog (sBuild 113 [(0, a0), (2, a1)]) (.agg #[a0, (.bool false), a1]) := ⟨fun W w _ => by
  have c0 := cells_one h0.one; have c1 := cells_one h1.one; simp [sBuild, Instr.build, Tryd.zeroValue113, Tryd.runUnderlying113, Tryd.sizeOf4, Tryd.sizeOf109, cells_agg, Instr.fill, c0, c1]⟩
instance bld_77_0_1_2 {a0 a1 a2 : Value} [h0 : OC a0] [h1 : OC a1] [h2 : OC a2] : RV Tryd.prog (sBuild 77 [(0, a0), (1, a1), (2, a2)]) (.agg #[a0, a1, a2, (.slice none 0 0)]) := ⟨fun W w _ => by
  have c0 := cells_one h0.one; have c1 := cells_one h1.one; have c2 := cells_one h2.one; simp [sBuild, Instr.build, Tryd.zeroValue77, Tryd.runUnderlying77, Tryd.sizeOf3, Tryd.sizeOf9, Tryd.sizeOf75, cells_agg, Instr.fill, c0, c1, c2]⟩
instance bld_31_0_1 {a0 a1 : Value} [h0 : OC a0] [h1 : OC a1] : RV Tryd.prog (sBuild 31 [(0, a0), (1, a1)]) (.agg #[a0, a1]) := ⟨fun W w _ => by
  have c0 := cells_one h0.one; have c1 := cells_one h1.one; simp [sBuild, Instr.build, Tryd.zeroValue31, Tryd.runUnderlying31, Tryd.sizeOf3, cells_agg, Instr.fill, c0, c1]⟩
instance bld_146_0_1 {a0 a1 : Value} [h0 : OC a0] [h1 : OC a1] : RV Tryd.prog (sBuild 146 [(0, a0), (1, a1)]) (.agg #[a0, a1]) := ⟨fun W w _ => by
  have c0 := cells_one h0.one; have c1 := cells_one h1.one; simp [sBuild, Instr.build, Tryd.zeroValue146, Tryd.runUnderlying146, Tryd.sizeOf9, Tryd.sizeOf145, cells_agg, Instr.fill, c0, c1]⟩
instance bld_147_0_1 {a0_0 a0_1 a1_0 a1_1 : Value}  : RV Tryd.prog (sBuild 147 [(0, .agg #[a0_0, a0_1]), (1, .agg #[a1_0, a1_1])]) (.agg #[a0_0, a0_1, a1_0, a1_1]) := ⟨fun W w _ => by
   simp [sBuild, Instr.build, Tryd.zeroValue147, Tryd.runUnderlying147, Tryd.sizeOf146, cells_agg, Instr.fill]⟩
instance bld_32_  : RV Tryd.prog (sBuild 32 []) (.agg #[(.int .i64 0), (.int .i64 0)]) := ⟨fun W w _ => by
   simp [sBuild, Instr.build, Tryd.zeroValue32, Tryd.runUnderlying32, Tryd.sizeOf3, cells_agg, Instr.fill]⟩
instance bld_32_0_1 {a0 a1 : Value} [h0 : OC a0] [h1 : OC a1] : RV Tryd.prog (sBuild 32 [(0, a0), (1, a1)]) (.agg #[a0, a1]) := ⟨fun W w _ => by
  have c0 := cells_one h0.one; have c1 := cells_one h1.one; simp [sBuild, Instr.build, Tryd.zeroValue32, Tryd.runUnderlying32, Tryd.sizeOf3, cells_agg, Instr.fill, c0, c1]⟩
instance bld_54_0_1 {a0 a1 : Value} [h0 : OC a0] [h1 : OC a1] : RV Tryd.prog (sBuild 54 [(0, a0), (1, a1)]) (.agg #[a0, a1]) := ⟨fun W w _ => by
  have c0 := cells_one h0.one; have c1 := cells_one h1.one; simp [sBuild, Instr.build, Tryd.zeroValue54, Tryd.runUnderlying54, Tryd.sizeOf3, Tryd.sizeOf9, cells_agg, Instr.fill, c0, c1]⟩
instance bld_54_  : RV Tryd.prog (sBuild 54 []) (.agg #[(.string ⟨#[]⟩), (.int .i64 0)]) := ⟨fun W w _ => by
   simp [sBuild, Instr.build, Tryd.zeroValue54, Tryd.runUnderlying54, Tryd.sizeOf3, Tryd.sizeOf9, cells_agg, Instr.fill]⟩
instance bld_101_0_1 {a0 a1 : Value} [h0 : OC a0] [h1 : OC a1] : RV Tryd.prog (sBuild 101 [(0, a0), (1, a1)]) (.agg #[a0, a1]) := ⟨fun W w _ => by
  have c0 := cells_one h0.one; have c1 := cells_one h1.one; simp [sBuild, Instr.build, Tryd.zeroValue101, Tryd.runUnderlying101, Tryd.sizeOf3, Tryd.sizeOf9, cells_agg, Instr.fill, c0, c1]⟩
instance bld_116_0_1 {a0 a1 : Value} [h0 : OC a0] [h1 : OC a1] : RV Tryd.prog (sBuild 116 [(0, a0), (1, a1)]) (.agg #[a0, a1]) := ⟨fun W w _ => by
  have c0 := cells_one h0.one; have c1 := cells_one h1.one; simp [sBuild, Instr.build, Tryd.zeroValue116, Tryd.runUnderlying116, Tryd.sizeOf9, cells_agg, Instr.fill, c0, c1]⟩
instance bld_175_1_2_5 {a0 a1 a2 : Value} [h0 : OC a0] [h1 : OC a1] [h2 : OC a2] : RV Tryd.prog (sBuild 175 [(1, a0), (2, a1), (5, a2)]) (.agg #[(.slice none 0 0), a0, a1, (.int .i64 0), (.int .i64 0), a2]) := ⟨fun W w _ => by
  have c0 := cells_one h0.one; have c1 := cells_one h1.one; have c2 := cells_one h2.one; simp [sBuild, Instr.build, Tryd.zeroValue175, Tryd.runUnderlying175, Tryd.sizeOf3, Tryd.sizeOf172, Tryd.sizeOf173, cells_agg, Instr.fill, c0, c1, c2]⟩
instance bld_182_0_3 {a0_0 a0_1 a1 : Value} [h1 : OC a1] : RV Tryd.prog (sBuild 182 [(0, .agg #[a0_0, a0_1]), (3, a1)]) (.agg #[a0_0, a0_1, (.slice none 0 0), (.int .i64 0), a1]) := ⟨fun W w _ => by
  have c1 := cells_one h1.one; simp [sBuild, Instr.build, Tryd.zeroValue182, Tryd.runUnderlying182, Tryd.sizeOf3, Tryd.sizeOf177, Tryd.sizeOf180, cells_agg, Instr.fill, c1]⟩
instance bld_128_0_2_3 {a0 a1 a2 : Value} [h0 : OC a0] [h1 : OC a1] [h2 : OC a2] : RV Tryd.prog (sBuild 128 [(0, a0), (2, a1), (3, a2)]) (.agg #[a0, (.slice none 0 0), a1, a2]) := ⟨fun W w _ => by
  have c0 := cells_one h0.one; have c1 := cells_one h1.one; have c2 := cells_one h2.one; simp [sBuild, Instr.build, Tryd.zeroValue128, Tryd.runUnderlying128, Tryd.sizeOf3, Tryd.sizeOf9, Tryd.sizeOf126, cells_agg, Instr.fill, c0, c1, c2]⟩
instance bld_177_0_1 {a0 a1 : Value} [h0 : OC a0] [h1 : OC a1] : RV Tryd.prog (sBuild 177 [(0, a0), (1, a1)]) (.agg #[a0, a1]) := ⟨fun W w _ => by
  have c0 := cells_one h0.one; have c1 := cells_one h1.one; simp [sBuild, Instr.build, Tryd.zeroValue177, Tryd.runUnderlying177, Tryd.sizeOf3, cells_agg, Instr.fill, c0, c1]⟩
instance bld_183_0_1 {a0 a1 : Value} [h0 : OC a0] [h1 : OC a1] : RV Tryd.prog (sBuild 183 [(0, a0), (1, a1)]) (.agg #[a0, a1]) := ⟨fun W w _ => by
  have c0 := cells_one h0.one; have c1 := cells_one h1.one; simp [sBuild, Instr.build, Tryd.zeroValue183, Tryd.runUnderlying183, Tryd.sizeOf3, cells_agg, Instr.fill, c0, c1]⟩
instance bld_132_1_2 {a0 a1 : Value} [h0 : OC a0] [h1 : OC a1] : RV Tryd.prog (sBuild 132 [(1, a0), (2, a1)]) (.agg #[(.string ⟨#[]⟩), a0, a1, (.int .i64 0)]) := ⟨fun W w _ => by
  have c0 := cells_one h0.one; have c1 := cells_one h1.one; simp [sBuild, Instr.build, Tryd.zeroValue132, Tryd.runUnderlying132, Tryd.sizeOf3, Tryd.sizeOf9, Tryd.sizeOf130, cells_agg, Instr.fill, c0, c1]⟩
instance bld_135_  : RV Tryd.prog (sBuild 135 []) (.agg #[(.int .i64 0), (.int .i64 0)]) := ⟨fun W w _ => by
   simp [sBuild, Instr.build, Tryd.zeroValue135, Tryd.runUnderlying135, Tryd.sizeOf3, cells_agg, Instr.fill]⟩
instance bld_135_0_1 {a0 a1 : Value} [h0 : OC a0] [h1 : OC a1] : RV Tryd.prog (sBuild 135 [(0, a0), (1, a1)]) (.agg #[a0, a1]) := ⟨fun W w _ => by
  have c0 := cells_one h0.one; have c1 := cells_one h1.one; simp [sBuild, Instr.build, Tryd.zeroValue135, Tryd.runUnderlying135, Tryd.sizeOf3, cells_agg, Instr.fill, c0, c1]⟩
instance bld_240_0_1_2 {a0 a1 a2 : Value} [h0 : OC a0] [h1 : OC a1] [h2 : OC a2] : RV Tryd.prog (sBuild 240 [(0, a0), (1, a1), (2, a2)]) (.agg #[a0, a1, a2]) := ⟨fun W w _ => by
  have c0 := cells_one h0.one; have c1 := cells_one h1.one; have c2 := cells_one h2.one; simp [sBuild, Instr.build, Tryd.zeroValue240, Tryd.runUnderlying240, Tryd.sizeOf9, Tryd.sizeOf169, cells_agg, Instr.fill, c0, c1, c2]⟩
instance bld_246_0 {a0 : Value} [h0 : OC a0] : RV Tryd.prog (sBuild 246 [(0, a0)]) (.agg #[a0]) := ⟨fun W w _ => by
  have c0 := cells_one h0.one; simp [sBuild, Instr.build, Tryd.zeroValue246, Tryd.runUnderlying246, Tryd.sizeOf9, cells_agg, Instr.fill, c0]⟩
instance bld_242_0_1_2_3_4_5_6_7_8_9_10_11_12_13_14_15_16_17_18_19_20_21_22_23_24_25_26_27_28_29_30_31 {a0 a1 a2 a3 a4 a5 a6 a7 a8 a9 a10 a11 a12 a13 a14 a15 a16 a17 a18 a19 a20 a21 a22 a23 a24 a25 a26 a27 a28 a29 a30 a31 : Value} [h0 : OC a0] [h1 : OC a1] [h2 : OC a2] [h3 : OC a3] [h4 : OC a4] [h5 : OC a5] [h6 : OC a6] [h7 : OC a7] [h8 : OC a8] [h9 : OC a9] [h10 : OC a10] [h11 : OC a11] [h12 : OC a12] [h13 : OC a13] [h14 : OC a14] [h15 : OC a15] [h16 : OC a16] [h17 : OC a17] [h18 : OC a18] [h19 : OC a19] [h20 : OC a20] [h21 : OC a21] [h22 : OC a22] [h23 : OC a23] [h24 : OC a24] [h25 : OC a25] [h26 : OC a26] [h27 : OC a27] [h28 : OC a28] [h29 : OC a29] [h30 : OC a30] [h31 : OC a31] : RV Tryd.prog (sBuild 242 [(0, a0), (1, a1), (2, a2), (3, a3), (4, a4), (5, a5), (6, a6), (7, a7), (8, a8), (9, a9), (10, a10), (11, a11), (12, a12), (13, a13), (14, a14), (15, a15), (16, a16), (17, a17), (18, a18), (19, a19), (20, a20), (21, a21), (22, a22), (23, a23), (24, a24), (25, a25), (26, a26), (27, a27), (28, a28), (29, a29), (30, a30), (31, a31)]) (.agg #[a0, a1, a2, a3, a4, a5, a6, a7, a8, a9, a10, a11, a12, a13, a14, a15, a16, a17, a18, a19, a20, a21, a22, a23, a24, a25, a26, a27, a28, a29, a30, a31]) := ⟨fun W w _ => by
  have c0 := cells_one h0.one; have c1 := cells_one h1.one; have c2 := cells_one h2.one; have c3 := cells_one h3.one; have c4 := cells_one h4.one; have c5 := cells_one h5.one; have c6 := cells_one h6.one; have c7 := cells_one h7.one; have c8 := cells_one h8.one; have c9 := cells_one h9.one; have c10 := cells_one h10.one; have c11 := cells_one h11.one; have c12 := cells_one h12.one; have c13 := cells_one h13.one; have c14 := cells_one h14.one; have c15 := cells_one h15.one; have c16 := cells_one h16.one; have c17 := cells_one h17.one; have c18 := cells_one h18.one; have c19 := cells_one h19.one; have c20 := cells_one h20.one; have c21 := cells_one h21.one; have c22 := cells_one h22.one; have c23 := cells_one h23.one; have c24 := cells_one h24.one; have c25 := cells_one h25.one; have c26 := cells_one h26.one; have c27 := cells_one h27.one; have c28 := cells_one h28.one; have c29 := cells_one h29.one; have c30 := cells_one h30.one; have c31 := cells_one h31.one; simp [sBuild, Instr.build, Tryd.zeroValue242, Tryd.runUnderlying242, Tryd.sizeOf5, cells_agg, Instr.fill, c0, c1, c2, c3, c4, c5, c6, c7, c8, c9, c10, c11, c12, c13, c14, c15, c16, c17, c18, c19, c20, c21, c22, c23, c24, c25, c26, c27, c28, c29, c30, c31]⟩
instance bld_221_0_1_2_3_4_5_6_7_8_9_10_11_12_13_14_15_16_17_18_19 {a0 a1 a2 a3 a4 a5 a6 a7 a8 a9 a10 a11 a12 a13 a14 a15 a16 a17 a18 a19 : Value} [h0 : OC a0] [h1 : OC a1] [h2 : OC a2] [h3 : OC a3] [h4 : OC a4] [h5 : OC a5] [h6 : OC a6] [h7 : OC a7] [h8 : OC a8] [h9 : OC a9] [h10 : OC a10] [h11 : OC a11] [h12 : OC a12] [h13 : OC a13] [h14 : OC a14] [h15 : OC a15] [h16 : OC a16] [h17 : OC a17] [h18 : OC a18] [h19 : OC a19] : RV Tryd.prog (sBuild 221 [(0, a0), (1, a1), (2, a2), (3, a3), (4, a4), (5, a5), (6, a6), (7, a7), (8, a8), (9, a9), (10, a10), (11, a11), (12, a12), (13, a13), (14, a14), (15, a15), (16, a16), (17, a17), (18, a18), (19, a19)]) (.agg #[a0, a1, a2, a3, a4, a5, a6, a7, a8, a9, a10, a11, a12, a13, a14, a15, a16, a17, a18, a19]) := ⟨fun W w _ => by
  have c0 := cells_one h0.one; have c1 := cells_one h1.one; have c2 := cells_one h2.one; have c3 := cells_one h3.one; have c4 := cells_one h4.one; have c5 := cells_one h5.one; have c6 := cells_one h6.one; have c7 := cells_one h7.one; have c8 := cells_one h8.one; have c9 := cells_one h9.one; have c10 := cells_one h10.one; have c11 := cells_one h11.one; have c12 := cells_one h12.one; have c13 := cells_one h13.one; have c14 := cells_one h14.one; have c15 := cells_one h15.one; have c16 := cells_one h16.one; have c17 := cells_one h17.one; have c18 := cells_one h18.one; have c19 := cells_one h19.one; simp [sBuild, Instr.build, Tryd.zeroValue221, Tryd.runUnderlying221, Tryd.sizeOf202, cells_agg, Instr.fill, c0, c1, c2, c3, c4, c5, c6, c7, c8, c9, c10, c11, c12, c13, c14, c15, c16, c17, c18, c19]⟩
instance bld_235_0_1 {a0 a1 : Value} [h0 : OC a0] [h1 : OC a1] : RV Tryd.prog (sBuild 235 [(0, a0), (1, a1)]) (.agg #[a0, a1]) := ⟨fun W w _ => by
  have c0 := cells_one h0.one; have c1 := cells_one h1.one; simp [sBuild, Instr.build, Tryd.zeroValue235, Tryd.runUnderlying235, Tryd.sizeOf5, cells_agg, Instr.fill, c0, c1]⟩
instance bld_236_0_1_2_3_4 {a0_0 a0_1 a1_0 a1_1 a2_0 a2_1 a3_0 a3_1 a4_0 a4_1 : Value}  : RV Tryd.prog (sBuild 236 [(0, .agg #[a0_0, a0_1]), (1, .agg #[a1_0, a1_1]), (2, .agg #[a2_0, a2_1]), (3, .agg #[a3_0, a3_1]), (4, .agg #[a4_0, a4_1])]) (.agg #[a0_0, a0_1, a1_0, a1_1, a2_0, a2_1, a3_0, a3_1, a4_0, a4_1, (.int .u8 0), (.int .u8 0), (.int .u8 0), (.int .u8 0), (.int .u8 0), (.int .u8 0), (.int .u8 0), (.int .u8 0), (.int .u8 0), (.int .u8 0), (.int .u8 0), (.int .u8 0), (.int .u8 0), (.int .u8 0), (.int .u8 0), (.int .u8 0), (.int .u8 0), (.int .u8 0), (.int .u8 0), (.int .u8 0), (.int .u8 0), (.int .u8 0)]) := ⟨fun W w _ => by
   simp [sBuild, Instr.build, Tryd.zeroValue236, Tryd.runUnderlying236, Tryd.sizeOf235, cells_agg, Instr.fill]⟩
end Go.Proofs.YtcigoifhcfbcdaaDoor.T
