/- What the loaded program's types are, one fact a line; printed by a program of mine. No conditions. (4 texts made one; each says below what it is.) -/
import Derived.Test.YthoeeahdkdcceaaChecked
import Derived.Test.YthoeeahdkdcceaaK1
import Derived.KernelRfl
set_option linter.unusedVariables false
set_option linter.unusedSimpArgs false
set_option linter.unusedSectionVars false
namespace Go.Proofs.Ythoeeahdkdcceaa.T
open Go Go.Proofs Sh Sl
theorem fld {P : Program} {t : TypeId} {fs : Array Field} {f ft o n : Nat} (hu : ∀ w, (underlying t).run P w = .ok (.struct fs) w) (hf : (fs[f]?).map (fun x => (x.type, x.offset)) = some (ft, o)) (hs : ∀ w, (sizeOf ft).run P w = .ok (n + 1) w) : FldT P t f o :=
 ⟨fun g b w => by
  cases h : fs[f]? with
  | none => rw [h] at hf; cases hf
  | some fl =>
   rw [h] at hf
   simp only [Option.map_some, Option.some.injEq, Prod.mk.injEq] at hf
   obtain ⟨rfl, rfl⟩ := hf
   simp only [Instr.fieldAt, Sem.run_bind, hu, Result.andThen_ok, h, Instr.sureAddr, fieldPlace, hs, Sem.run_pure]
   by_cases h0 : fl.offset = 0 <;> simp [Addr.add, h0]⟩
theorem slt {P : Program} {t e : TypeId} {i : TypeInfo} {z : Value} {s b : Nat} (hu : P.underlying t = some (.slice e)) (hi : P.info? e = some i) (hz : i.zero = some z) (hs : i.size = s) (hb : i.bytes = b) (hzs : z.cells.size = s) : SlT P t e s b := ⟨hu, i, z, hi, hz, hs, hb, hzs⟩
instance one_1 : OneT Try.prog 1 := ⟨Try.isAgg1, Try.sizeOf1⟩
instance zero_1 : ZeroT Try.prog 1 .nilFunc := ⟨Try.zeroValue1⟩
instance one_2 : OneT Try.prog 2 := ⟨Try.isAgg2, Try.sizeOf2⟩
instance zero_2 : ZeroT Try.prog 2 (.int .i64 0) := ⟨Try.zeroValue2⟩
instance int_2 : IntT Try.prog 2 .i64 := ⟨Try.runUnderlying2⟩
instance one_3 : OneT Try.prog 3 := ⟨Try.isAgg3, Try.sizeOf3⟩
instance zero_3 : ZeroT Try.prog 3 (.int .i64 0) := ⟨Try.zeroValue3⟩
instance int_3 : IntT Try.prog 3 .i64 := ⟨Try.runUnderlying3⟩
instance one_4 : OneT Try.prog 4 := ⟨Try.isAgg4, Try.sizeOf4⟩
instance zero_4 : ZeroT Try.prog 4 (.bool false) := ⟨Try.zeroValue4⟩
instance one_5 : OneT Try.prog 5 := ⟨Try.isAgg5, Try.sizeOf5⟩
instance zero_5 : ZeroT Try.prog 5 (.int .u8 0) := ⟨Try.zeroValue5⟩
instance int_5 : IntT Try.prog 5 .u8 := ⟨Try.runUnderlying5⟩
instance one_6 : OneT Try.prog 6 := ⟨Try.isAgg6, Try.sizeOf6⟩
instance zero_6 : ZeroT Try.prog 6 (.int .u8 0) := ⟨Try.zeroValue6⟩
instance int_6 : IntT Try.prog 6 .u8 := ⟨Try.runUnderlying6⟩
instance zero_7 : ZeroT Try.prog 7 (.agg #[(.int .i64 0), (.int .i64 0), (.bool false), (.int .u8 0)]) := ⟨Try.zeroValue7⟩
instance agg_7 : AggT Try.prog 7 4 := ⟨Try.isAgg7, Try.sizeOf7⟩
instance fld_7_0 : FldT Try.prog 7 0 0 := fld Try.runUnderlying7 (ft := 2) (by kernel_rfl) Try.sizeOf2
instance fld_7_1 : FldT Try.prog 7 1 1 := fld Try.runUnderlying7 (ft := 3) (by kernel_rfl) Try.sizeOf3
instance fld_7_2 : FldT Try.prog 7 2 2 := fld Try.runUnderlying7 (ft := 4) (by kernel_rfl) Try.sizeOf4
instance fld_7_3 : FldT Try.prog 7 3 3 := fld Try.runUnderlying7 (ft := 6) (by kernel_rfl) Try.sizeOf6
instance zero_8 : ZeroT Try.prog 8 (.agg #[(.int .i64 0), (.int .i64 0), (.bool false), (.int .u8 0)]) := ⟨Try.zeroValue8⟩
instance agg_8 : AggT Try.prog 8 4 := ⟨Try.isAgg8, Try.sizeOf8⟩
instance fld_8_0 : FldT Try.prog 8 0 0 := fld Try.runUnderlying8 (ft := 2) (by kernel_rfl) Try.sizeOf2
instance fld_8_1 : FldT Try.prog 8 1 1 := fld Try.runUnderlying8 (ft := 3) (by kernel_rfl) Try.sizeOf3
instance fld_8_2 : FldT Try.prog 8 2 2 := fld Try.runUnderlying8 (ft := 4) (by kernel_rfl) Try.sizeOf4
instance fld_8_3 : FldT Try.prog 8 3 3 := fld Try.runUnderlying8 (ft := 6) (by kernel_rfl) Try.sizeOf6
instance one_9 : OneT Try.prog 9 := ⟨Try.isAgg9, Try.sizeOf9⟩
instance zero_9 : ZeroT Try.prog 9 (.string ⟨#[]⟩) := ⟨Try.zeroValue9⟩
instance str_9 : StrT Try.prog 9 := ⟨Try.underlying9⟩
instance one_10 : OneT Try.prog 10 := ⟨Try.isAgg10, Try.sizeOf10⟩
instance zero_10 : ZeroT Try.prog 10 (.string ⟨#[]⟩) := ⟨Try.zeroValue10⟩
instance str_10 : StrT Try.prog 10 := ⟨Try.underlying10⟩
instance one_11 : OneT Try.prog 11 := ⟨Try.isAgg11, Try.sizeOf11⟩
instance zero_11 : ZeroT Try.prog 11 (.string ⟨#[]⟩) := ⟨Try.zeroValue11⟩
instance str_11 : StrT Try.prog 11 := ⟨Try.underlying11⟩
instance one_12 : OneT Try.prog 12 := ⟨Try.isAgg12, Try.sizeOf12⟩
instance zero_12 : ZeroT Try.prog 12 (.int .u64 0) := ⟨Try.zeroValue12⟩
instance int_12 : IntT Try.prog 12 .u64 := ⟨Try.runUnderlying12⟩
instance zero_13 : ZeroT Try.prog 13 (.agg #[(.string ⟨#[]⟩), (.int .u64 0)]) := ⟨Try.zeroValue13⟩
instance agg_13 : AggT Try.prog 13 2 := ⟨Try.isAgg13, Try.sizeOf13⟩
instance fld_13_0 : FldT Try.prog 13 0 0 := fld Try.runUnderlying13 (ft := 9) (by kernel_rfl) Try.sizeOf9
instance fld_13_1 : FldT Try.prog 13 1 1 := fld Try.runUnderlying13 (ft := 12) (by kernel_rfl) Try.sizeOf12
instance zero_14 : ZeroT Try.prog 14 (.agg #[(.string ⟨#[]⟩), (.int .u64 0)]) := ⟨Try.zeroValue14⟩
instance agg_14 : AggT Try.prog 14 2 := ⟨Try.isAgg14, Try.sizeOf14⟩
instance fld_14_0 : FldT Try.prog 14 0 0 := fld Try.runUnderlying14 (ft := 9) (by kernel_rfl) Try.sizeOf9
instance fld_14_1 : FldT Try.prog 14 1 1 := fld Try.runUnderlying14 (ft := 12) (by kernel_rfl) Try.sizeOf12
instance one_15 : OneT Try.prog 15 := ⟨Try.isAgg15, Try.sizeOf15⟩
instance zero_15 : ZeroT Try.prog 15 (.pointer none) := ⟨Try.zeroValue15⟩
instance ptr_15 : PtrT Try.prog 15 := ⟨by kernel_rfl⟩
instance one_16 : OneT Try.prog 16 := ⟨Try.isAgg16, Try.sizeOf16⟩
instance zero_16 : ZeroT Try.prog 16 (.pointer none) := ⟨Try.zeroValue16⟩
instance ptr_16 : PtrT Try.prog 16 := ⟨by kernel_rfl⟩
instance one_17 : OneT Try.prog 17 := ⟨Try.isAgg17, Try.sizeOf17⟩
instance zero_17 : ZeroT Try.prog 17 (.pointer none) := ⟨Try.zeroValue17⟩
instance ptr_17 : PtrT Try.prog 17 := ⟨by kernel_rfl⟩
instance zero_18 : ZeroT Try.prog 18 (.agg #[(.pointer none)]) := ⟨Try.zeroValue18⟩
instance agg_18 : AggT Try.prog 18 1 := ⟨Try.isAgg18, Try.sizeOf18⟩
instance fld_18_0 : FldT Try.prog 18 0 0 := fld Try.runUnderlying18 (ft := 17) (by kernel_rfl) Try.sizeOf17
instance zero_19 : ZeroT Try.prog 19 (.agg #[(.pointer none)]) := ⟨Try.zeroValue19⟩
instance agg_19 : AggT Try.prog 19 1 := ⟨Try.isAgg19, Try.sizeOf19⟩
instance fld_19_0 : FldT Try.prog 19 0 0 := fld Try.runUnderlying19 (ft := 17) (by kernel_rfl) Try.sizeOf17
instance one_20 : OneT Try.prog 20 := ⟨Try.isAgg20, Try.sizeOf20⟩
instance zero_20 : ZeroT Try.prog 20 .nilIface := ⟨Try.zeroValue20⟩
instance one_21 : OneT Try.prog 21 := ⟨Try.isAgg21, Try.sizeOf21⟩
instance zero_21 : ZeroT Try.prog 21 (.int .i32 0) := ⟨Try.zeroValue21⟩
instance int_21 : IntT Try.prog 21 .i32 := ⟨Try.runUnderlying21⟩
instance one_22 : OneT Try.prog 22 := ⟨Try.isAgg22, Try.sizeOf22⟩
instance zero_22 : ZeroT Try.prog 22 (.slice none 0 0) := ⟨Try.zeroValue22⟩
instance bytes_22 : BytesT Try.prog 22 := ⟨_, Try.underlying22, Try.underlying5⟩
instance sl_22 : SlT Try.prog 22 5 1 1 := slt (z := (.int .u8 0)) Try.underlying22 (i := Try.t5) (by kernel_rfl) (by kernel_rfl) (by kernel_rfl) (by kernel_rfl) (by kernel_rfl)
instance one_23 : OneT Try.prog 23 := ⟨Try.isAgg23, Try.sizeOf23⟩
instance zero_23 : ZeroT Try.prog 23 .nilFunc := ⟨Try.zeroValue23⟩
instance one_24 : OneT Try.prog 24 := ⟨Try.isAgg24, Try.sizeOf24⟩
instance zero_24 : ZeroT Try.prog 24 (.int .i64 0) := ⟨Try.zeroValue24⟩
instance int_24 : IntT Try.prog 24 .i64 := ⟨Try.runUnderlying24⟩
instance one_26 : OneT Try.prog 26 := ⟨Try.isAgg26, Try.sizeOf26⟩
instance zero_26 : ZeroT Try.prog 26 .nilFunc := ⟨Try.zeroValue26⟩
instance one_28 : OneT Try.prog 28 := ⟨Try.isAgg28, Try.sizeOf28⟩
instance zero_28 : ZeroT Try.prog 28 .nilFunc := ⟨Try.zeroValue28⟩
instance one_29 : OneT Try.prog 29 := ⟨Try.isAgg29, Try.sizeOf29⟩
instance zero_29 : ZeroT Try.prog 29 .nilFunc := ⟨Try.zeroValue29⟩
instance one_30 : OneT Try.prog 30 := ⟨Try.isAgg30, Try.sizeOf30⟩
instance zero_30 : ZeroT Try.prog 30 .nilFunc := ⟨Try.zeroValue30⟩
instance one_31 : OneT Try.prog 31 := ⟨Try.isAgg31, Try.sizeOf31⟩
instance zero_31 : ZeroT Try.prog 31 .nilFunc := ⟨Try.zeroValue31⟩
instance one_32 : OneT Try.prog 32 := ⟨Try.isAgg32, Try.sizeOf32⟩
instance zero_32 : ZeroT Try.prog 32 .nilFunc := ⟨Try.zeroValue32⟩
instance one_33 : OneT Try.prog 33 := ⟨Try.isAgg33, Try.sizeOf33⟩
instance zero_33 : ZeroT Try.prog 33 (.pointer none) := ⟨Try.zeroValue33⟩
instance ptr_33 : PtrT Try.prog 33 := ⟨by kernel_rfl⟩
instance one_34 : OneT Try.prog 34 := ⟨Try.isAgg34, Try.sizeOf34⟩
instance zero_34 : ZeroT Try.prog 34 .nilFunc := ⟨Try.zeroValue34⟩
instance one_35 : OneT Try.prog 35 := ⟨Try.isAgg35, Try.sizeOf35⟩
instance zero_35 : ZeroT Try.prog 35 .nilFunc := ⟨Try.zeroValue35⟩
instance zero_36 : ZeroT Try.prog 36 (.agg #[(.int .i64 0), (.slice none 0 0), (.int .i64 0), (.bool false), (.bool false)]) := ⟨Try.zeroValue36⟩
instance agg_36 : AggT Try.prog 36 5 := ⟨Try.isAgg36, Try.sizeOf36⟩
instance fld_36_0 : FldT Try.prog 36 0 0 := fld Try.runUnderlying36 (ft := 3) (by kernel_rfl) Try.sizeOf3
instance fld_36_1 : FldT Try.prog 36 1 1 := fld Try.runUnderlying36 (ft := 22) (by kernel_rfl) Try.sizeOf22
instance fld_36_2 : FldT Try.prog 36 2 2 := fld Try.runUnderlying36 (ft := 3) (by kernel_rfl) Try.sizeOf3
instance fld_36_3 : FldT Try.prog 36 3 3 := fld Try.runUnderlying36 (ft := 4) (by kernel_rfl) Try.sizeOf4
instance fld_36_4 : FldT Try.prog 36 4 4 := fld Try.runUnderlying36 (ft := 4) (by kernel_rfl) Try.sizeOf4
instance zero_37 : ZeroT Try.prog 37 (.agg #[(.int .i64 0), (.slice none 0 0), (.int .i64 0), (.bool false), (.bool false)]) := ⟨Try.zeroValue37⟩
instance agg_37 : AggT Try.prog 37 5 := ⟨Try.isAgg37, Try.sizeOf37⟩
instance fld_37_0 : FldT Try.prog 37 0 0 := fld Try.runUnderlying37 (ft := 3) (by kernel_rfl) Try.sizeOf3
instance fld_37_1 : FldT Try.prog 37 1 1 := fld Try.runUnderlying37 (ft := 22) (by kernel_rfl) Try.sizeOf22
instance fld_37_2 : FldT Try.prog 37 2 2 := fld Try.runUnderlying37 (ft := 3) (by kernel_rfl) Try.sizeOf3
instance fld_37_3 : FldT Try.prog 37 3 3 := fld Try.runUnderlying37 (ft := 4) (by kernel_rfl) Try.sizeOf4
instance fld_37_4 : FldT Try.prog 37 4 4 := fld Try.runUnderlying37 (ft := 4) (by kernel_rfl) Try.sizeOf4
instance one_38 : OneT Try.prog 38 := ⟨Try.isAgg38, Try.sizeOf38⟩
instance zero_38 : ZeroT Try.prog 38 .nilFunc := ⟨Try.zeroValue38⟩
instance one_39 : OneT Try.prog 39 := ⟨Try.isAgg39, Try.sizeOf39⟩
instance zero_39 : ZeroT Try.prog 39 (.pointer none) := ⟨Try.zeroValue39⟩
instance ptr_39 : PtrT Try.prog 39 := ⟨by kernel_rfl⟩
instance one_40 : OneT Try.prog 40 := ⟨Try.isAgg40, Try.sizeOf40⟩
instance zero_40 : ZeroT Try.prog 40 (.int .u32 0) := ⟨Try.zeroValue40⟩
instance int_40 : IntT Try.prog 40 .u32 := ⟨Try.runUnderlying40⟩
instance zero_41 : ZeroT Try.prog 41 (.agg #[(.pointer none), (.int .u32 0), (.int .u32 0), (.bool false)]) := ⟨Try.zeroValue41⟩
instance agg_41 : AggT Try.prog 41 4 := ⟨Try.isAgg41, Try.sizeOf41⟩
instance fld_41_0 : FldT Try.prog 41 0 0 := fld Try.runUnderlying41 (ft := 33) (by kernel_rfl) Try.sizeOf33
instance fld_41_1 : FldT Try.prog 41 1 1 := fld Try.runUnderlying41 (ft := 40) (by kernel_rfl) Try.sizeOf40
instance fld_41_2 : FldT Try.prog 41 2 2 := fld Try.runUnderlying41 (ft := 40) (by kernel_rfl) Try.sizeOf40
instance fld_41_3 : FldT Try.prog 41 3 3 := fld Try.runUnderlying41 (ft := 4) (by kernel_rfl) Try.sizeOf4
instance zero_42 : ZeroT Try.prog 42 (.agg #[(.pointer none), (.int .u32 0), (.int .u32 0), (.bool false)]) := ⟨Try.zeroValue42⟩
instance agg_42 : AggT Try.prog 42 4 := ⟨Try.isAgg42, Try.sizeOf42⟩
instance fld_42_0 : FldT Try.prog 42 0 0 := fld Try.runUnderlying42 (ft := 33) (by kernel_rfl) Try.sizeOf33
instance fld_42_1 : FldT Try.prog 42 1 1 := fld Try.runUnderlying42 (ft := 40) (by kernel_rfl) Try.sizeOf40
instance fld_42_2 : FldT Try.prog 42 2 2 := fld Try.runUnderlying42 (ft := 40) (by kernel_rfl) Try.sizeOf40
instance fld_42_3 : FldT Try.prog 42 3 3 := fld Try.runUnderlying42 (ft := 4) (by kernel_rfl) Try.sizeOf4
instance one_44 : OneT Try.prog 44 := ⟨Try.isAgg44, Try.sizeOf44⟩
instance zero_44 : ZeroT Try.prog 44 .nilFunc := ⟨Try.zeroValue44⟩
instance one_45 : OneT Try.prog 45 := ⟨Try.isAgg45, Try.sizeOf45⟩
instance zero_45 : ZeroT Try.prog 45 (.slice none 0 0) := ⟨Try.zeroValue45⟩
instance sl_45 : SlT Try.prog 45 49 2 16 := slt (z := (.agg #[(.int .i64 0), (.int .i64 0)])) Try.underlying45 (i := Try.t49) (by kernel_rfl) (by kernel_rfl) (by kernel_rfl) (by kernel_rfl) (by kernel_rfl)
instance one_47 : OneT Try.prog 47 := ⟨Try.isAgg47, Try.sizeOf47⟩
instance zero_47 : ZeroT Try.prog 47 .nilFunc := ⟨Try.zeroValue47⟩
instance zero_48 : ZeroT Try.prog 48 (.agg #[(.int .i64 0), (.int .i64 0)]) := ⟨Try.zeroValue48⟩
instance agg_48 : AggT Try.prog 48 2 := ⟨Try.isAgg48, Try.sizeOf48⟩
instance fld_48_0 : FldT Try.prog 48 0 0 := fld Try.runUnderlying48 (ft := 3) (by kernel_rfl) Try.sizeOf3
instance fld_48_1 : FldT Try.prog 48 1 1 := fld Try.runUnderlying48 (ft := 3) (by kernel_rfl) Try.sizeOf3
instance zero_49 : ZeroT Try.prog 49 (.agg #[(.int .i64 0), (.int .i64 0)]) := ⟨Try.zeroValue49⟩
instance agg_49 : AggT Try.prog 49 2 := ⟨Try.isAgg49, Try.sizeOf49⟩
instance fld_49_0 : FldT Try.prog 49 0 0 := fld Try.runUnderlying49 (ft := 3) (by kernel_rfl) Try.sizeOf3
instance fld_49_1 : FldT Try.prog 49 1 1 := fld Try.runUnderlying49 (ft := 3) (by kernel_rfl) Try.sizeOf3
instance one_50 : OneT Try.prog 50 := ⟨Try.isAgg50, Try.sizeOf50⟩
instance zero_50 : ZeroT Try.prog 50 (.slice none 0 0) := ⟨Try.zeroValue50⟩
instance sl_50 : SlT Try.prog 50 22 1 24 := slt (z := (.slice none 0 0)) Try.underlying50 (i := Try.t22) (by kernel_rfl) (by kernel_rfl) (by kernel_rfl) (by kernel_rfl) (by kernel_rfl)
instance one_52 : OneT Try.prog 52 := ⟨Try.isAgg52, Try.sizeOf52⟩
instance zero_52 : ZeroT Try.prog 52 .nilFunc := ⟨Try.zeroValue52⟩
instance one_53 : OneT Try.prog 53 := ⟨Try.isAgg53, Try.sizeOf53⟩
instance zero_53 : ZeroT Try.prog 53 .nilFunc := ⟨Try.zeroValue53⟩
instance one_54 : OneT Try.prog 54 := ⟨Try.isAgg54, Try.sizeOf54⟩
instance zero_54 : ZeroT Try.prog 54 .nilFunc := ⟨Try.zeroValue54⟩
instance one_55 : OneT Try.prog 55 := ⟨Try.isAgg55, Try.sizeOf55⟩
instance zero_55 : ZeroT Try.prog 55 (.pointer none) := ⟨Try.zeroValue55⟩
instance ptr_55 : PtrT Try.prog 55 := ⟨by kernel_rfl⟩
instance one_56 : OneT Try.prog 56 := ⟨Try.isAgg56, Try.sizeOf56⟩
instance zero_56 : ZeroT Try.prog 56 .nilFunc := ⟨Try.zeroValue56⟩
instance one_57 : OneT Try.prog 57 := ⟨Try.isAgg57, Try.sizeOf57⟩
instance zero_57 : ZeroT Try.prog 57 (.slice none 0 0) := ⟨Try.zeroValue57⟩
instance sl_57 : SlT Try.prog 57 61 3 56 := slt (z := (.agg #[(.slice none 0 0), (.slice none 0 0), (.int .i64 0)])) Try.underlying57 (i := Try.t61) (by kernel_rfl) (by kernel_rfl) (by kernel_rfl) (by kernel_rfl) (by kernel_rfl)
instance one_58 : OneT Try.prog 58 := ⟨Try.isAgg58, Try.sizeOf58⟩
instance zero_58 : ZeroT Try.prog 58 .nilFunc := ⟨Try.zeroValue58⟩
instance one_59 : OneT Try.prog 59 := ⟨Try.isAgg59, Try.sizeOf59⟩
instance zero_59 : ZeroT Try.prog 59 (.slice none 0 0) := ⟨Try.zeroValue59⟩
instance sl_59 : SlT Try.prog 59 89 3 24 := slt (z := (.agg #[(.int .i64 0), (.int .i64 0), (.int .u8 0)])) Try.underlying59 (i := Try.t89) (by kernel_rfl) (by kernel_rfl) (by kernel_rfl) (by kernel_rfl) (by kernel_rfl)
instance zero_60 : ZeroT Try.prog 60 (.agg #[(.slice none 0 0), (.slice none 0 0), (.int .i64 0)]) := ⟨Try.zeroValue60⟩
instance agg_60 : AggT Try.prog 60 3 := ⟨Try.isAgg60, Try.sizeOf60⟩
instance fld_60_0 : FldT Try.prog 60 0 0 := fld Try.runUnderlying60 (ft := 59) (by kernel_rfl) Try.sizeOf59
instance fld_60_1 : FldT Try.prog 60 1 1 := fld Try.runUnderlying60 (ft := 22) (by kernel_rfl) Try.sizeOf22
instance fld_60_2 : FldT Try.prog 60 2 2 := fld Try.runUnderlying60 (ft := 3) (by kernel_rfl) Try.sizeOf3
instance zero_61 : ZeroT Try.prog 61 (.agg #[(.slice none 0 0), (.slice none 0 0), (.int .i64 0)]) := ⟨Try.zeroValue61⟩
instance agg_61 : AggT Try.prog 61 3 := ⟨Try.isAgg61, Try.sizeOf61⟩
instance fld_61_0 : FldT Try.prog 61 0 0 := fld Try.runUnderlying61 (ft := 59) (by kernel_rfl) Try.sizeOf59
instance fld_61_1 : FldT Try.prog 61 1 1 := fld Try.runUnderlying61 (ft := 22) (by kernel_rfl) Try.sizeOf22
instance fld_61_2 : FldT Try.prog 61 2 2 := fld Try.runUnderlying61 (ft := 3) (by kernel_rfl) Try.sizeOf3
instance one_62 : OneT Try.prog 62 := ⟨Try.isAgg62, Try.sizeOf62⟩
instance zero_62 : ZeroT Try.prog 62 .nilFunc := ⟨Try.zeroValue62⟩
instance one_63 : OneT Try.prog 63 := ⟨Try.isAgg63, Try.sizeOf63⟩
instance zero_63 : ZeroT Try.prog 63 .nilFunc := ⟨Try.zeroValue63⟩
instance one_64 : OneT Try.prog 64 := ⟨Try.isAgg64, Try.sizeOf64⟩
instance zero_64 : ZeroT Try.prog 64 (.pointer none) := ⟨Try.zeroValue64⟩
instance ptr_64 : PtrT Try.prog 64 := ⟨by kernel_rfl⟩
instance zero_65 : ZeroT Try.prog 65 (.agg #[(.slice none 0 0)]) := ⟨Try.zeroValue65⟩
instance agg_65 : AggT Try.prog 65 1 := ⟨Try.isAgg65, Try.sizeOf65⟩
instance fld_65_0 : FldT Try.prog 65 0 0 := fld Try.runUnderlying65 (ft := 22) (by kernel_rfl) Try.sizeOf22
instance zero_66 : ZeroT Try.prog 66 (.agg #[(.slice none 0 0)]) := ⟨Try.zeroValue66⟩
instance agg_66 : AggT Try.prog 66 1 := ⟨Try.isAgg66, Try.sizeOf66⟩
instance fld_66_0 : FldT Try.prog 66 0 0 := fld Try.runUnderlying66 (ft := 22) (by kernel_rfl) Try.sizeOf22
instance one_67 : OneT Try.prog 67 := ⟨Try.isAgg67, Try.sizeOf67⟩
instance zero_67 : ZeroT Try.prog 67 (.slice none 0 0) := ⟨Try.zeroValue67⟩
instance sl_67 : SlT Try.prog 67 72 2 48 := slt (z := (.agg #[(.slice none 0 0), (.slice none 0 0)])) Try.underlying67 (i := Try.t72) (by kernel_rfl) (by kernel_rfl) (by kernel_rfl) (by kernel_rfl) (by kernel_rfl)
instance one_68 : OneT Try.prog 68 := ⟨Try.isAgg68, Try.sizeOf68⟩
instance zero_68 : ZeroT Try.prog 68 .nilFunc := ⟨Try.zeroValue68⟩
instance one_69 : OneT Try.prog 69 := ⟨Try.isAgg69, Try.sizeOf69⟩
instance zero_69 : ZeroT Try.prog 69 .nilFunc := ⟨Try.zeroValue69⟩
instance one_70 : OneT Try.prog 70 := ⟨Try.isAgg70, Try.sizeOf70⟩
instance zero_70 : ZeroT Try.prog 70 (.slice none 0 0) := ⟨Try.zeroValue70⟩
instance sl_70 : SlT Try.prog 70 97 3 24 := slt (z := (.agg #[(.int .i64 0), (.int .i64 0), (.int .u8 0)])) Try.underlying70 (i := Try.t97) (by kernel_rfl) (by kernel_rfl) (by kernel_rfl) (by kernel_rfl) (by kernel_rfl)
instance zero_71 : ZeroT Try.prog 71 (.agg #[(.slice none 0 0), (.slice none 0 0)]) := ⟨Try.zeroValue71⟩
instance agg_71 : AggT Try.prog 71 2 := ⟨Try.isAgg71, Try.sizeOf71⟩
instance fld_71_0 : FldT Try.prog 71 0 0 := fld Try.runUnderlying71 (ft := 70) (by kernel_rfl) Try.sizeOf70
instance fld_71_1 : FldT Try.prog 71 1 1 := fld Try.runUnderlying71 (ft := 22) (by kernel_rfl) Try.sizeOf22
instance zero_72 : ZeroT Try.prog 72 (.agg #[(.slice none 0 0), (.slice none 0 0)]) := ⟨Try.zeroValue72⟩
instance agg_72 : AggT Try.prog 72 2 := ⟨Try.isAgg72, Try.sizeOf72⟩
instance fld_72_0 : FldT Try.prog 72 0 0 := fld Try.runUnderlying72 (ft := 70) (by kernel_rfl) Try.sizeOf70
instance fld_72_1 : FldT Try.prog 72 1 1 := fld Try.runUnderlying72 (ft := 22) (by kernel_rfl) Try.sizeOf22
instance one_73 : OneT Try.prog 73 := ⟨Try.isAgg73, Try.sizeOf73⟩
instance zero_73 : ZeroT Try.prog 73 .nilFunc := ⟨Try.zeroValue73⟩
instance one_74 : OneT Try.prog 74 := ⟨Try.isAgg74, Try.sizeOf74⟩
instance zero_74 : ZeroT Try.prog 74 .nilFunc := ⟨Try.zeroValue74⟩
instance one_75 : OneT Try.prog 75 := ⟨Try.isAgg75, Try.sizeOf75⟩
instance zero_75 : ZeroT Try.prog 75 .nilFunc := ⟨Try.zeroValue75⟩
instance one_76 : OneT Try.prog 76 := ⟨Try.isAgg76, Try.sizeOf76⟩
instance zero_76 : ZeroT Try.prog 76 .nilFunc := ⟨Try.zeroValue76⟩
instance one_77 : OneT Try.prog 77 := ⟨Try.isAgg77, Try.sizeOf77⟩
instance zero_77 : ZeroT Try.prog 77 .nilFunc := ⟨Try.zeroValue77⟩
instance one_78 : OneT Try.prog 78 := ⟨Try.isAgg78, Try.sizeOf78⟩
instance zero_78 : ZeroT Try.prog 78 .nilFunc := ⟨Try.zeroValue78⟩
instance one_79 : OneT Try.prog 79 := ⟨Try.isAgg79, Try.sizeOf79⟩
instance zero_79 : ZeroT Try.prog 79 .nilFunc := ⟨Try.zeroValue79⟩
instance one_80 : OneT Try.prog 80 := ⟨Try.isAgg80, Try.sizeOf80⟩
instance zero_80 : ZeroT Try.prog 80 .nilFunc := ⟨Try.zeroValue80⟩
instance one_82 : OneT Try.prog 82 := ⟨Try.isAgg82, Try.sizeOf82⟩
instance zero_82 : ZeroT Try.prog 82 .nilFunc := ⟨Try.zeroValue82⟩
instance zero_83 : ZeroT Try.prog 83 (.agg #[(.slice none 0 0), (.int .i64 0), (.bool false)]) := ⟨Try.zeroValue83⟩
instance agg_83 : AggT Try.prog 83 3 := ⟨Try.isAgg83, Try.sizeOf83⟩
instance fld_83_0 : FldT Try.prog 83 0 0 := fld Try.runUnderlying83 (ft := 22) (by kernel_rfl) Try.sizeOf22
instance fld_83_1 : FldT Try.prog 83 1 1 := fld Try.runUnderlying83 (ft := 3) (by kernel_rfl) Try.sizeOf3
instance fld_83_2 : FldT Try.prog 83 2 2 := fld Try.runUnderlying83 (ft := 4) (by kernel_rfl) Try.sizeOf4
instance zero_84 : ZeroT Try.prog 84 (.agg #[(.slice none 0 0), (.int .i64 0), (.bool false)]) := ⟨Try.zeroValue84⟩
instance agg_84 : AggT Try.prog 84 3 := ⟨Try.isAgg84, Try.sizeOf84⟩
instance fld_84_0 : FldT Try.prog 84 0 0 := fld Try.runUnderlying84 (ft := 22) (by kernel_rfl) Try.sizeOf22
instance fld_84_1 : FldT Try.prog 84 1 1 := fld Try.runUnderlying84 (ft := 3) (by kernel_rfl) Try.sizeOf3
instance fld_84_2 : FldT Try.prog 84 2 2 := fld Try.runUnderlying84 (ft := 4) (by kernel_rfl) Try.sizeOf4
instance one_86 : OneT Try.prog 86 := ⟨Try.isAgg86, Try.sizeOf86⟩
instance zero_86 : ZeroT Try.prog 86 .nilFunc := ⟨Try.zeroValue86⟩
instance one_87 : OneT Try.prog 87 := ⟨Try.isAgg87, Try.sizeOf87⟩
instance zero_87 : ZeroT Try.prog 87 (.int .u64 0) := ⟨Try.zeroValue87⟩
instance int_87 : IntT Try.prog 87 .u64 := ⟨Try.runUnderlying87⟩
instance zero_88 : ZeroT Try.prog 88 (.agg #[(.int .i64 0), (.int .i64 0), (.int .u8 0)]) := ⟨Try.zeroValue88⟩
instance agg_88 : AggT Try.prog 88 3 := ⟨Try.isAgg88, Try.sizeOf88⟩
instance fld_88_0 : FldT Try.prog 88 0 0 := fld Try.runUnderlying88 (ft := 3) (by kernel_rfl) Try.sizeOf3
instance fld_88_1 : FldT Try.prog 88 1 1 := fld Try.runUnderlying88 (ft := 3) (by kernel_rfl) Try.sizeOf3
instance fld_88_2 : FldT Try.prog 88 2 2 := fld Try.runUnderlying88 (ft := 5) (by kernel_rfl) Try.sizeOf5
instance zero_89 : ZeroT Try.prog 89 (.agg #[(.int .i64 0), (.int .i64 0), (.int .u8 0)]) := ⟨Try.zeroValue89⟩
instance agg_89 : AggT Try.prog 89 3 := ⟨Try.isAgg89, Try.sizeOf89⟩
instance fld_89_0 : FldT Try.prog 89 0 0 := fld Try.runUnderlying89 (ft := 3) (by kernel_rfl) Try.sizeOf3
instance fld_89_1 : FldT Try.prog 89 1 1 := fld Try.runUnderlying89 (ft := 3) (by kernel_rfl) Try.sizeOf3
instance fld_89_2 : FldT Try.prog 89 2 2 := fld Try.runUnderlying89 (ft := 5) (by kernel_rfl) Try.sizeOf5
instance one_90 : OneT Try.prog 90 := ⟨Try.isAgg90, Try.sizeOf90⟩
instance zero_90 : ZeroT Try.prog 90 .nilFunc := ⟨Try.zeroValue90⟩
instance one_91 : OneT Try.prog 91 := ⟨Try.isAgg91, Try.sizeOf91⟩
instance zero_91 : ZeroT Try.prog 91 .nilFunc := ⟨Try.zeroValue91⟩
instance zero_92 : ZeroT Try.prog 92 (.agg #[.nilFunc, .nilFunc, .nilFunc]) := ⟨Try.zeroValue92⟩
instance agg_92 : AggT Try.prog 92 3 := ⟨Try.isAgg92, Try.sizeOf92⟩
instance arr_92 : ArrT Try.prog 92 3 91 1 := ⟨Try.runUnderlying92, Try.sizeOf91⟩
instance one_93 : OneT Try.prog 93 := ⟨Try.isAgg93, Try.sizeOf93⟩
instance zero_93 : ZeroT Try.prog 93 .nilFunc := ⟨Try.zeroValue93⟩
instance one_94 : OneT Try.prog 94 := ⟨Try.isAgg94, Try.sizeOf94⟩
instance zero_94 : ZeroT Try.prog 94 .nilFunc := ⟨Try.zeroValue94⟩
instance one_95 : OneT Try.prog 95 := ⟨Try.isAgg95, Try.sizeOf95⟩
instance zero_95 : ZeroT Try.prog 95 (.slice none 0 0) := ⟨Try.zeroValue95⟩
instance sl_95 : SlT Try.prog 95 91 1 8 := slt (z := .nilFunc) Try.underlying95 (i := Try.t91) (by kernel_rfl) (by kernel_rfl) (by kernel_rfl) (by kernel_rfl) (by kernel_rfl)
instance one_96 : OneT Try.prog 96 := ⟨Try.isAgg96, Try.sizeOf96⟩
instance zero_96 : ZeroT Try.prog 96 .nilFunc := ⟨Try.zeroValue96⟩
instance zero_97 : ZeroT Try.prog 97 (.agg #[(.int .i64 0), (.int .i64 0), (.int .u8 0)]) := ⟨Try.zeroValue97⟩
instance agg_97 : AggT Try.prog 97 3 := ⟨Try.isAgg97, Try.sizeOf97⟩
instance fld_97_0 : FldT Try.prog 97 0 0 := fld Try.runUnderlying97 (ft := 3) (by kernel_rfl) Try.sizeOf3
instance fld_97_1 : FldT Try.prog 97 1 1 := fld Try.runUnderlying97 (ft := 3) (by kernel_rfl) Try.sizeOf3
instance fld_97_2 : FldT Try.prog 97 2 2 := fld Try.runUnderlying97 (ft := 5) (by kernel_rfl) Try.sizeOf5
instance one_98 : OneT Try.prog 98 := ⟨Try.isAgg98, Try.sizeOf98⟩
instance zero_98 : ZeroT Try.prog 98 .nilFunc := ⟨Try.zeroValue98⟩
instance one_99 : OneT Try.prog 99 := ⟨Try.isAgg99, Try.sizeOf99⟩
instance zero_99 : ZeroT Try.prog 99 .nilFunc := ⟨Try.zeroValue99⟩
instance one_100 : OneT Try.prog 100 := ⟨Try.isAgg100, Try.sizeOf100⟩
instance zero_100 : ZeroT Try.prog 100 .nilFunc := ⟨Try.zeroValue100⟩
instance zero_101 : ZeroT Try.prog 101 (.agg #[(.int .u8 0), (.int .u8 0), (.int .u8 0), (.int .u8 0), (.int .u8 0), (.int .u8 0), (.int .u8 0), (.int .u8 0)]) := ⟨Try.zeroValue101⟩
instance agg_101 : AggT Try.prog 101 8 := ⟨Try.isAgg101, Try.sizeOf101⟩
instance arr_101 : ArrT Try.prog 101 8 5 1 := ⟨Try.runUnderlying101, Try.sizeOf5⟩
instance one_102 : OneT Try.prog 102 := ⟨Try.isAgg102, Try.sizeOf102⟩
instance zero_102 : ZeroT Try.prog 102 .nilFunc := ⟨Try.zeroValue102⟩
instance one_103 : OneT Try.prog 103 := ⟨Try.isAgg103, Try.sizeOf103⟩
instance zero_103 : ZeroT Try.prog 103 .nilFunc := ⟨Try.zeroValue103⟩
instance agg_104 : AggT Try.prog 104 256 := ⟨Try.isAgg104, Try.sizeOf104⟩
instance arr_104 : ArrT Try.prog 104 256 40 1 := ⟨Try.runUnderlying104, Try.sizeOf40⟩
instance one_105 : OneT Try.prog 105 := ⟨Try.isAgg105, Try.sizeOf105⟩
instance zero_105 : ZeroT Try.prog 105 .nilFunc := ⟨Try.zeroValue105⟩
instance one_106 : OneT Try.prog 106 := ⟨Try.isAgg106, Try.sizeOf106⟩
instance zero_106 : ZeroT Try.prog 106 (.pointer none) := ⟨Try.zeroValue106⟩
instance ptr_106 : PtrT Try.prog 106 := ⟨by kernel_rfl⟩
instance one_107 : OneT Try.prog 107 := ⟨Try.isAgg107, Try.sizeOf107⟩
instance zero_107 : ZeroT Try.prog 107 (.pointer none) := ⟨Try.zeroValue107⟩
instance ptr_107 : PtrT Try.prog 107 := ⟨by kernel_rfl⟩
instance one_108 : OneT Try.prog 108 := ⟨Try.isAgg108, Try.sizeOf108⟩
instance zero_108 : ZeroT Try.prog 108 .nilFunc := ⟨Try.zeroValue108⟩
instance zero_109 : ZeroT Try.prog 109 (.agg #[(.pointer none), (.slice none 0 0), (.int .i64 0)]) := ⟨Try.zeroValue109⟩
instance agg_109 : AggT Try.prog 109 3 := ⟨Try.isAgg109, Try.sizeOf109⟩
instance fld_109_0 : FldT Try.prog 109 0 0 := fld Try.runUnderlying109 (ft := 107) (by kernel_rfl) Try.sizeOf107
instance fld_109_1 : FldT Try.prog 109 1 1 := fld Try.runUnderlying109 (ft := 22) (by kernel_rfl) Try.sizeOf22
instance fld_109_2 : FldT Try.prog 109 2 2 := fld Try.runUnderlying109 (ft := 3) (by kernel_rfl) Try.sizeOf3
instance zero_110 : ZeroT Try.prog 110 (.agg #[(.pointer none), (.slice none 0 0), (.int .i64 0)]) := ⟨Try.zeroValue110⟩
instance agg_110 : AggT Try.prog 110 3 := ⟨Try.isAgg110, Try.sizeOf110⟩
instance fld_110_0 : FldT Try.prog 110 0 0 := fld Try.runUnderlying110 (ft := 107) (by kernel_rfl) Try.sizeOf107
instance fld_110_1 : FldT Try.prog 110 1 1 := fld Try.runUnderlying110 (ft := 22) (by kernel_rfl) Try.sizeOf22
instance fld_110_2 : FldT Try.prog 110 2 2 := fld Try.runUnderlying110 (ft := 3) (by kernel_rfl) Try.sizeOf3
instance one_111 : OneT Try.prog 111 := ⟨Try.isAgg111, Try.sizeOf111⟩
instance zero_111 : ZeroT Try.prog 111 .nilFunc := ⟨Try.zeroValue111⟩
instance zero_112 : ZeroT Try.prog 112 (.agg #[.nilFunc, .nilFunc, .nilFunc, .nilFunc]) := ⟨Try.zeroValue112⟩
instance agg_112 : AggT Try.prog 112 4 := ⟨Try.isAgg112, Try.sizeOf112⟩
instance arr_112 : ArrT Try.prog 112 4 111 1 := ⟨Try.runUnderlying112, Try.sizeOf111⟩
instance one_113 : OneT Try.prog 113 := ⟨Try.isAgg113, Try.sizeOf113⟩
instance zero_113 : ZeroT Try.prog 113 .nilFunc := ⟨Try.zeroValue113⟩
instance one_114 : OneT Try.prog 114 := ⟨Try.isAgg114, Try.sizeOf114⟩
instance zero_114 : ZeroT Try.prog 114 (.pointer none) := ⟨Try.zeroValue114⟩
instance ptr_114 : PtrT Try.prog 114 := ⟨by kernel_rfl⟩
instance one_115 : OneT Try.prog 115 := ⟨Try.isAgg115, Try.sizeOf115⟩
instance zero_115 : ZeroT Try.prog 115 (.map none) := ⟨Try.zeroValue115⟩
instance map_115 : MapT Try.prog 115 153 119 := ⟨Try.underlying115⟩
instance zero_116 : ZeroT Try.prog 116 (.agg #[(.slice none 0 0), (.map none), (.int .i64 0), (.int .i64 0), (.int .i64 0)]) := ⟨Try.zeroValue116⟩
instance agg_116 : AggT Try.prog 116 5 := ⟨Try.isAgg116, Try.sizeOf116⟩
instance fld_116_0 : FldT Try.prog 116 0 0 := fld Try.runUnderlying116 (ft := 22) (by kernel_rfl) Try.sizeOf22
instance fld_116_1 : FldT Try.prog 116 1 1 := fld Try.runUnderlying116 (ft := 115) (by kernel_rfl) Try.sizeOf115
instance fld_116_2 : FldT Try.prog 116 2 2 := fld Try.runUnderlying116 (ft := 3) (by kernel_rfl) Try.sizeOf3
instance fld_116_3 : FldT Try.prog 116 3 3 := fld Try.runUnderlying116 (ft := 3) (by kernel_rfl) Try.sizeOf3
instance fld_116_4 : FldT Try.prog 116 4 4 := fld Try.runUnderlying116 (ft := 3) (by kernel_rfl) Try.sizeOf3
instance zero_117 : ZeroT Try.prog 117 (.agg #[(.slice none 0 0), (.map none), (.int .i64 0), (.int .i64 0), (.int .i64 0)]) := ⟨Try.zeroValue117⟩
instance agg_117 : AggT Try.prog 117 5 := ⟨Try.isAgg117, Try.sizeOf117⟩
instance fld_117_0 : FldT Try.prog 117 0 0 := fld Try.runUnderlying117 (ft := 22) (by kernel_rfl) Try.sizeOf22
instance fld_117_1 : FldT Try.prog 117 1 1 := fld Try.runUnderlying117 (ft := 115) (by kernel_rfl) Try.sizeOf115
instance fld_117_2 : FldT Try.prog 117 2 2 := fld Try.runUnderlying117 (ft := 3) (by kernel_rfl) Try.sizeOf3
instance fld_117_3 : FldT Try.prog 117 3 3 := fld Try.runUnderlying117 (ft := 3) (by kernel_rfl) Try.sizeOf3
instance fld_117_4 : FldT Try.prog 117 4 4 := fld Try.runUnderlying117 (ft := 3) (by kernel_rfl) Try.sizeOf3
instance one_118 : OneT Try.prog 118 := ⟨Try.isAgg118, Try.sizeOf118⟩
instance zero_118 : ZeroT Try.prog 118 .nilFunc := ⟨Try.zeroValue118⟩
instance one_119 : OneT Try.prog 119 := ⟨Try.isAgg119, Try.sizeOf119⟩
instance zero_119 : ZeroT Try.prog 119 (.slice none 0 0) := ⟨Try.zeroValue119⟩
instance sl_119 : SlT Try.prog 119 3 1 8 := slt (z := (.int .i64 0)) Try.underlying119 (i := Try.t3) (by kernel_rfl) (by kernel_rfl) (by kernel_rfl) (by kernel_rfl) (by kernel_rfl)
instance one_121 : OneT Try.prog 121 := ⟨Try.isAgg121, Try.sizeOf121⟩
instance zero_121 : ZeroT Try.prog 121 .nilFunc := ⟨Try.zeroValue121⟩
instance one_122 : OneT Try.prog 122 := ⟨Try.isAgg122, Try.sizeOf122⟩
instance zero_122 : ZeroT Try.prog 122 .nilFunc := ⟨Try.zeroValue122⟩
instance zero_123 : ZeroT Try.prog 123 (.agg #[(.slice none 0 0), (.slice none 0 0)]) := ⟨Try.zeroValue123⟩
instance agg_123 : AggT Try.prog 123 2 := ⟨Try.isAgg123, Try.sizeOf123⟩
instance fld_123_0 : FldT Try.prog 123 0 0 := fld Try.runUnderlying123 (ft := 119) (by kernel_rfl) Try.sizeOf119
instance fld_123_1 : FldT Try.prog 123 1 1 := fld Try.runUnderlying123 (ft := 119) (by kernel_rfl) Try.sizeOf119
instance zero_124 : ZeroT Try.prog 124 (.agg #[(.slice none 0 0), (.slice none 0 0)]) := ⟨Try.zeroValue124⟩
instance agg_124 : AggT Try.prog 124 2 := ⟨Try.isAgg124, Try.sizeOf124⟩
instance fld_124_0 : FldT Try.prog 124 0 0 := fld Try.runUnderlying124 (ft := 119) (by kernel_rfl) Try.sizeOf119
instance fld_124_1 : FldT Try.prog 124 1 1 := fld Try.runUnderlying124 (ft := 119) (by kernel_rfl) Try.sizeOf119
instance one_125 : OneT Try.prog 125 := ⟨Try.isAgg125, Try.sizeOf125⟩
instance zero_125 : ZeroT Try.prog 125 .nilFunc := ⟨Try.zeroValue125⟩
instance one_126 : OneT Try.prog 126 := ⟨Try.isAgg126, Try.sizeOf126⟩
instance zero_126 : ZeroT Try.prog 126 .nilFunc := ⟨Try.zeroValue126⟩
instance one_127 : OneT Try.prog 127 := ⟨Try.isAgg127, Try.sizeOf127⟩
instance zero_127 : ZeroT Try.prog 127 .nilFunc := ⟨Try.zeroValue127⟩
instance one_128 : OneT Try.prog 128 := ⟨Try.isAgg128, Try.sizeOf128⟩
instance zero_128 : ZeroT Try.prog 128 .nilFunc := ⟨Try.zeroValue128⟩
instance one_130 : OneT Try.prog 130 := ⟨Try.isAgg130, Try.sizeOf130⟩
instance zero_130 : ZeroT Try.prog 130 .nilFunc := ⟨Try.zeroValue130⟩
instance one_131 : OneT Try.prog 131 := ⟨Try.isAgg131, Try.sizeOf131⟩
instance zero_131 : ZeroT Try.prog 131 .nilFunc := ⟨Try.zeroValue131⟩
instance one_133 : OneT Try.prog 133 := ⟨Try.isAgg133, Try.sizeOf133⟩
instance zero_133 : ZeroT Try.prog 133 .nilFunc := ⟨Try.zeroValue133⟩
instance one_134 : OneT Try.prog 134 := ⟨Try.isAgg134, Try.sizeOf134⟩
instance zero_134 : ZeroT Try.prog 134 .nilFunc := ⟨Try.zeroValue134⟩
instance one_135 : OneT Try.prog 135 := ⟨Try.isAgg135, Try.sizeOf135⟩
instance zero_135 : ZeroT Try.prog 135 .nilFunc := ⟨Try.zeroValue135⟩
instance one_136 : OneT Try.prog 136 := ⟨Try.isAgg136, Try.sizeOf136⟩
instance zero_136 : ZeroT Try.prog 136 .nilFunc := ⟨Try.zeroValue136⟩
instance one_137 : OneT Try.prog 137 := ⟨Try.isAgg137, Try.sizeOf137⟩
instance zero_137 : ZeroT Try.prog 137 .nilFunc := ⟨Try.zeroValue137⟩
instance zero_138 : ZeroT Try.prog 138 (.agg #[(.slice none 0 0), (.int .i64 0)]) := ⟨Try.zeroValue138⟩
instance agg_138 : AggT Try.prog 138 2 := ⟨Try.isAgg138, Try.sizeOf138⟩
instance fld_138_0 : FldT Try.prog 138 0 0 := fld Try.runUnderlying138 (ft := 22) (by kernel_rfl) Try.sizeOf22
instance fld_138_1 : FldT Try.prog 138 1 1 := fld Try.runUnderlying138 (ft := 3) (by kernel_rfl) Try.sizeOf3
instance zero_139 : ZeroT Try.prog 139 (.agg #[(.slice none 0 0), (.int .i64 0)]) := ⟨Try.zeroValue139⟩
instance agg_139 : AggT Try.prog 139 2 := ⟨Try.isAgg139, Try.sizeOf139⟩
instance fld_139_0 : FldT Try.prog 139 0 0 := fld Try.runUnderlying139 (ft := 22) (by kernel_rfl) Try.sizeOf22
instance fld_139_1 : FldT Try.prog 139 1 1 := fld Try.runUnderlying139 (ft := 3) (by kernel_rfl) Try.sizeOf3
instance zero_140 : ZeroT Try.prog 140 (.agg #[(.slice none 0 0), (.int .i64 0), (.bool false)]) := ⟨Try.zeroValue140⟩
instance agg_140 : AggT Try.prog 140 3 := ⟨Try.isAgg140, Try.sizeOf140⟩
instance fld_140_0 : FldT Try.prog 140 0 0 := fld Try.runUnderlying140 (ft := 139) (by kernel_rfl) Try.sizeOf139
instance fld_140_1 : FldT Try.prog 140 1 2 := fld Try.runUnderlying140 (ft := 4) (by kernel_rfl) Try.sizeOf4
instance zero_141 : ZeroT Try.prog 141 (.agg #[(.slice none 0 0), (.int .i64 0), (.bool false)]) := ⟨Try.zeroValue141⟩
instance agg_141 : AggT Try.prog 141 3 := ⟨Try.isAgg141, Try.sizeOf141⟩
instance fld_141_0 : FldT Try.prog 141 0 0 := fld Try.runUnderlying141 (ft := 139) (by kernel_rfl) Try.sizeOf139
instance fld_141_1 : FldT Try.prog 141 1 2 := fld Try.runUnderlying141 (ft := 4) (by kernel_rfl) Try.sizeOf4
instance one_142 : OneT Try.prog 142 := ⟨Try.isAgg142, Try.sizeOf142⟩
instance zero_142 : ZeroT Try.prog 142 .nilFunc := ⟨Try.zeroValue142⟩
instance one_143 : OneT Try.prog 143 := ⟨Try.isAgg143, Try.sizeOf143⟩
instance zero_143 : ZeroT Try.prog 143 .nilFunc := ⟨Try.zeroValue143⟩
instance one_144 : OneT Try.prog 144 := ⟨Try.isAgg144, Try.sizeOf144⟩
instance zero_144 : ZeroT Try.prog 144 .nilFunc := ⟨Try.zeroValue144⟩
instance one_145 : OneT Try.prog 145 := ⟨Try.isAgg145, Try.sizeOf145⟩
instance zero_145 : ZeroT Try.prog 145 .nilFunc := ⟨Try.zeroValue145⟩
instance one_146 : OneT Try.prog 146 := ⟨Try.isAgg146, Try.sizeOf146⟩
instance zero_146 : ZeroT Try.prog 146 (.pointer none) := ⟨Try.zeroValue146⟩
instance ptr_146 : PtrT Try.prog 146 := ⟨by kernel_rfl⟩
instance one_147 : OneT Try.prog 147 := ⟨Try.isAgg147, Try.sizeOf147⟩
instance zero_147 : ZeroT Try.prog 147 .nilFunc := ⟨Try.zeroValue147⟩
instance zero_148 : ZeroT Try.prog 148 (.agg #[(.int .i64 0), (.int .i64 0), (.int .i64 0), (.int .i64 0), (.int .i64 0), (.int .i64 0), (.int .i64 0), (.int .i64 0), (.int .i64 0), (.int .i64 0), (.int .i64 0), (.int .i64 0), (.int .i64 0), (.int .i64 0), (.int .i64 0), (.int .i64 0), (.int .i64 0), (.int .i64 0), (.int .i64 0)]) := ⟨Try.zeroValue148⟩
instance agg_148 : AggT Try.prog 148 19 := ⟨Try.isAgg148, Try.sizeOf148⟩
instance arr_148 : ArrT Try.prog 148 19 3 1 := ⟨Try.runUnderlying148, Try.sizeOf3⟩
instance one_149 : OneT Try.prog 149 := ⟨Try.isAgg149, Try.sizeOf149⟩
instance zero_149 : ZeroT Try.prog 149 .nilFunc := ⟨Try.zeroValue149⟩
instance one_150 : OneT Try.prog 150 := ⟨Try.isAgg150, Try.sizeOf150⟩
instance zero_150 : ZeroT Try.prog 150 .nilFunc := ⟨Try.zeroValue150⟩
instance one_152 : OneT Try.prog 152 := ⟨Try.isAgg152, Try.sizeOf152⟩
instance zero_152 : ZeroT Try.prog 152 .nilFunc := ⟨Try.zeroValue152⟩
instance zero_153 : ZeroT Try.prog 153 (.agg #[(.int .u8 0), (.int .u8 0), (.int .u8 0)]) := ⟨Try.zeroValue153⟩
instance agg_153 : AggT Try.prog 153 3 := ⟨Try.isAgg153, Try.sizeOf153⟩
instance arr_153 : ArrT Try.prog 153 3 5 1 := ⟨Try.runUnderlying153, Try.sizeOf5⟩
instance one_154 : OneT Try.prog 154 := ⟨Try.isAgg154, Try.sizeOf154⟩
instance zero_154 : ZeroT Try.prog 154 .nilFunc := ⟨Try.zeroValue154⟩
instance one_155 : OneT Try.prog 155 := ⟨Try.isAgg155, Try.sizeOf155⟩
instance zero_155 : ZeroT Try.prog 155 .nilFunc := ⟨Try.zeroValue155⟩
instance one_156 : OneT Try.prog 156 := ⟨Try.isAgg156, Try.sizeOf156⟩
instance zero_156 : ZeroT Try.prog 156 .nilFunc := ⟨Try.zeroValue156⟩
instance one_157 : OneT Try.prog 157 := ⟨Try.isAgg157, Try.sizeOf157⟩
instance zero_157 : ZeroT Try.prog 157 .nilFunc := ⟨Try.zeroValue157⟩
instance one_159 : OneT Try.prog 159 := ⟨Try.isAgg159, Try.sizeOf159⟩
instance zero_159 : ZeroT Try.prog 159 .nilFunc := ⟨Try.zeroValue159⟩
instance one_161 : OneT Try.prog 161 := ⟨Try.isAgg161, Try.sizeOf161⟩
instance zero_161 : ZeroT Try.prog 161 .nilFunc := ⟨Try.zeroValue161⟩
instance one_162 : OneT Try.prog 162 := ⟨Try.isAgg162, Try.sizeOf162⟩
instance zero_162 : ZeroT Try.prog 162 .nilFunc := ⟨Try.zeroValue162⟩
instance zero_163 : ZeroT Try.prog 163 (.agg #[(.slice none 0 0), (.slice none 0 0)]) := ⟨Try.zeroValue163⟩
instance agg_163 : AggT Try.prog 163 2 := ⟨Try.isAgg163, Try.sizeOf163⟩
instance arr_163 : ArrT Try.prog 163 2 119 1 := ⟨Try.runUnderlying163, Try.sizeOf119⟩
instance one_164 : OneT Try.prog 164 := ⟨Try.isAgg164, Try.sizeOf164⟩
instance zero_164 : ZeroT Try.prog 164 .nilFunc := ⟨Try.zeroValue164⟩
instance one_165 : OneT Try.prog 165 := ⟨Try.isAgg165, Try.sizeOf165⟩
instance zero_165 : ZeroT Try.prog 165 .nilFunc := ⟨Try.zeroValue165⟩
instance one_166 : OneT Try.prog 166 := ⟨Try.isAgg166, Try.sizeOf166⟩
instance zero_166 : ZeroT Try.prog 166 .nilFunc := ⟨Try.zeroValue166⟩
instance one_167 : OneT Try.prog 167 := ⟨Try.isAgg167, Try.sizeOf167⟩
instance zero_167 : ZeroT Try.prog 167 .nilFunc := ⟨Try.zeroValue167⟩
instance one_168 : OneT Try.prog 168 := ⟨Try.isAgg168, Try.sizeOf168⟩
instance zero_168 : ZeroT Try.prog 168 .nilFunc := ⟨Try.zeroValue168⟩
instance zero_169 : ZeroT Try.prog 169 (.agg #[(.int .i64 0), (.int .i64 0), (.int .i64 0)]) := ⟨Try.zeroValue169⟩
instance agg_169 : AggT Try.prog 169 3 := ⟨Try.isAgg169, Try.sizeOf169⟩
instance fld_169_0 : FldT Try.prog 169 0 0 := fld Try.runUnderlying169 (ft := 3) (by kernel_rfl) Try.sizeOf3
instance fld_169_1 : FldT Try.prog 169 1 1 := fld Try.runUnderlying169 (ft := 3) (by kernel_rfl) Try.sizeOf3
instance fld_169_2 : FldT Try.prog 169 2 2 := fld Try.runUnderlying169 (ft := 3) (by kernel_rfl) Try.sizeOf3
instance zero_170 : ZeroT Try.prog 170 (.agg #[(.int .i64 0), (.int .i64 0), (.int .i64 0)]) := ⟨Try.zeroValue170⟩
instance agg_170 : AggT Try.prog 170 3 := ⟨Try.isAgg170, Try.sizeOf170⟩
instance fld_170_0 : FldT Try.prog 170 0 0 := fld Try.runUnderlying170 (ft := 3) (by kernel_rfl) Try.sizeOf3
instance fld_170_1 : FldT Try.prog 170 1 1 := fld Try.runUnderlying170 (ft := 3) (by kernel_rfl) Try.sizeOf3
instance fld_170_2 : FldT Try.prog 170 2 2 := fld Try.runUnderlying170 (ft := 3) (by kernel_rfl) Try.sizeOf3
instance one_171 : OneT Try.prog 171 := ⟨Try.isAgg171, Try.sizeOf171⟩
instance zero_171 : ZeroT Try.prog 171 .nilFunc := ⟨Try.zeroValue171⟩
instance one_173 : OneT Try.prog 173 := ⟨Try.isAgg173, Try.sizeOf173⟩
instance zero_173 : ZeroT Try.prog 173 .nilFunc := ⟨Try.zeroValue173⟩
instance one_174 : OneT Try.prog 174 := ⟨Try.isAgg174, Try.sizeOf174⟩
instance zero_174 : ZeroT Try.prog 174 .nilFunc := ⟨Try.zeroValue174⟩
instance one_175 : OneT Try.prog 175 := ⟨Try.isAgg175, Try.sizeOf175⟩
instance zero_175 : ZeroT Try.prog 175 .nilFunc := ⟨Try.zeroValue175⟩
instance one_176 : OneT Try.prog 176 := ⟨Try.isAgg176, Try.sizeOf176⟩
instance zero_176 : ZeroT Try.prog 176 (.slice none 0 0) := ⟨Try.zeroValue176⟩
instance sl_176 : SlT Try.prog 176 179 3 24 := slt (z := (.agg #[(.int .i64 0), (.int .i64 0), (.int .i64 0)])) Try.underlying176 (i := Try.t179) (by kernel_rfl) (by kernel_rfl) (by kernel_rfl) (by kernel_rfl) (by kernel_rfl)
instance one_177 : OneT Try.prog 177 := ⟨Try.isAgg177, Try.sizeOf177⟩
instance zero_177 : ZeroT Try.prog 177 .nilFunc := ⟨Try.zeroValue177⟩
instance zero_178 : ZeroT Try.prog 178 (.agg #[(.int .i64 0), (.int .i64 0), (.int .i64 0)]) := ⟨Try.zeroValue178⟩
instance agg_178 : AggT Try.prog 178 3 := ⟨Try.isAgg178, Try.sizeOf178⟩
instance fld_178_0 : FldT Try.prog 178 0 0 := fld Try.runUnderlying178 (ft := 3) (by kernel_rfl) Try.sizeOf3
instance fld_178_1 : FldT Try.prog 178 1 1 := fld Try.runUnderlying178 (ft := 3) (by kernel_rfl) Try.sizeOf3
instance fld_178_2 : FldT Try.prog 178 2 2 := fld Try.runUnderlying178 (ft := 3) (by kernel_rfl) Try.sizeOf3
instance zero_179 : ZeroT Try.prog 179 (.agg #[(.int .i64 0), (.int .i64 0), (.int .i64 0)]) := ⟨Try.zeroValue179⟩
instance agg_179 : AggT Try.prog 179 3 := ⟨Try.isAgg179, Try.sizeOf179⟩
instance fld_179_0 : FldT Try.prog 179 0 0 := fld Try.runUnderlying179 (ft := 3) (by kernel_rfl) Try.sizeOf3
instance fld_179_1 : FldT Try.prog 179 1 1 := fld Try.runUnderlying179 (ft := 3) (by kernel_rfl) Try.sizeOf3
instance fld_179_2 : FldT Try.prog 179 2 2 := fld Try.runUnderlying179 (ft := 3) (by kernel_rfl) Try.sizeOf3
instance one_180 : OneT Try.prog 180 := ⟨Try.isAgg180, Try.sizeOf180⟩
instance zero_180 : ZeroT Try.prog 180 .nilFunc := ⟨Try.zeroValue180⟩
instance one_181 : OneT Try.prog 181 := ⟨Try.isAgg181, Try.sizeOf181⟩
instance zero_181 : ZeroT Try.prog 181 .nilFunc := ⟨Try.zeroValue181⟩
instance one_183 : OneT Try.prog 183 := ⟨Try.isAgg183, Try.sizeOf183⟩
instance zero_183 : ZeroT Try.prog 183 .nilFunc := ⟨Try.zeroValue183⟩
instance one_185 : OneT Try.prog 185 := ⟨Try.isAgg185, Try.sizeOf185⟩
instance zero_185 : ZeroT Try.prog 185 .nilFunc := ⟨Try.zeroValue185⟩
instance zero_186 : ZeroT Try.prog 186 (.agg #[(.int .i64 0), (.int .i64 0), (.int .i64 0), (.int .i64 0), (.int .i64 0), (.int .i64 0), (.int .i64 0), (.int .i64 0), (.int .i64 0), (.int .i64 0), (.int .i64 0), (.int .i64 0), (.int .i64 0), (.int .i64 0), (.int .i64 0), (.int .i64 0)]) := ⟨Try.zeroValue186⟩
instance agg_186 : AggT Try.prog 186 16 := ⟨Try.isAgg186, Try.sizeOf186⟩
instance arr_186 : ArrT Try.prog 186 16 3 1 := ⟨Try.runUnderlying186, Try.sizeOf3⟩
instance one_188 : OneT Try.prog 188 := ⟨Try.isAgg188, Try.sizeOf188⟩
instance zero_188 : ZeroT Try.prog 188 .nilFunc := ⟨Try.zeroValue188⟩
instance one_189 : OneT Try.prog 189 := ⟨Try.isAgg189, Try.sizeOf189⟩
instance zero_189 : ZeroT Try.prog 189 (.pointer none) := ⟨Try.zeroValue189⟩
instance ptr_189 : PtrT Try.prog 189 := ⟨by kernel_rfl⟩
instance one_190 : OneT Try.prog 190 := ⟨Try.isAgg190, Try.sizeOf190⟩
instance zero_190 : ZeroT Try.prog 190 .nilFunc := ⟨Try.zeroValue190⟩
instance one_191 : OneT Try.prog 191 := ⟨Try.isAgg191, Try.sizeOf191⟩
instance zero_191 : ZeroT Try.prog 191 (.slice none 0 0) := ⟨Try.zeroValue191⟩
instance sl_191 : SlT Try.prog 191 193 2 32 := slt (z := (.agg #[(.int .i64 0), (.slice none 0 0)])) Try.underlying191 (i := Try.t193) (by kernel_rfl) (by kernel_rfl) (by kernel_rfl) (by kernel_rfl) (by kernel_rfl)
instance zero_192 : ZeroT Try.prog 192 (.agg #[(.int .i64 0), (.slice none 0 0)]) := ⟨Try.zeroValue192⟩
instance agg_192 : AggT Try.prog 192 2 := ⟨Try.isAgg192, Try.sizeOf192⟩
instance fld_192_0 : FldT Try.prog 192 0 0 := fld Try.runUnderlying192 (ft := 3) (by kernel_rfl) Try.sizeOf3
instance fld_192_1 : FldT Try.prog 192 1 1 := fld Try.runUnderlying192 (ft := 119) (by kernel_rfl) Try.sizeOf119
instance zero_193 : ZeroT Try.prog 193 (.agg #[(.int .i64 0), (.slice none 0 0)]) := ⟨Try.zeroValue193⟩
instance agg_193 : AggT Try.prog 193 2 := ⟨Try.isAgg193, Try.sizeOf193⟩
instance fld_193_0 : FldT Try.prog 193 0 0 := fld Try.runUnderlying193 (ft := 3) (by kernel_rfl) Try.sizeOf3
instance fld_193_1 : FldT Try.prog 193 1 1 := fld Try.runUnderlying193 (ft := 119) (by kernel_rfl) Try.sizeOf119
instance one_194 : OneT Try.prog 194 := ⟨Try.isAgg194, Try.sizeOf194⟩
instance zero_194 : ZeroT Try.prog 194 .nilFunc := ⟨Try.zeroValue194⟩
instance one_195 : OneT Try.prog 195 := ⟨Try.isAgg195, Try.sizeOf195⟩
instance zero_195 : ZeroT Try.prog 195 .nilFunc := ⟨Try.zeroValue195⟩
instance one_196 : OneT Try.prog 196 := ⟨Try.isAgg196, Try.sizeOf196⟩
instance zero_196 : ZeroT Try.prog 196 .nilFunc := ⟨Try.zeroValue196⟩
instance one_197 : OneT Try.prog 197 := ⟨Try.isAgg197, Try.sizeOf197⟩
instance zero_197 : ZeroT Try.prog 197 .nilFunc := ⟨Try.zeroValue197⟩
instance one_198 : OneT Try.prog 198 := ⟨Try.isAgg198, Try.sizeOf198⟩
instance zero_198 : ZeroT Try.prog 198 .nilFunc := ⟨Try.zeroValue198⟩
instance one_199 : OneT Try.prog 199 := ⟨Try.isAgg199, Try.sizeOf199⟩
instance zero_199 : ZeroT Try.prog 199 .nilFunc := ⟨Try.zeroValue199⟩
instance one_201 : OneT Try.prog 201 := ⟨Try.isAgg201, Try.sizeOf201⟩
instance zero_201 : ZeroT Try.prog 201 .nilFunc := ⟨Try.zeroValue201⟩
instance one_202 : OneT Try.prog 202 := ⟨Try.isAgg202, Try.sizeOf202⟩
instance zero_202 : ZeroT Try.prog 202 (.slice none 0 0) := ⟨Try.zeroValue202⟩
instance sl_202 : SlT Try.prog 202 205 2 32 := slt (z := (.agg #[(.int .i64 0), (.slice none 0 0)])) Try.underlying202 (i := Try.t205) (by kernel_rfl) (by kernel_rfl) (by kernel_rfl) (by kernel_rfl) (by kernel_rfl)
instance one_203 : OneT Try.prog 203 := ⟨Try.isAgg203, Try.sizeOf203⟩
instance zero_203 : ZeroT Try.prog 203 .nilFunc := ⟨Try.zeroValue203⟩
instance zero_204 : ZeroT Try.prog 204 (.agg #[(.int .i64 0), (.slice none 0 0)]) := ⟨Try.zeroValue204⟩
instance agg_204 : AggT Try.prog 204 2 := ⟨Try.isAgg204, Try.sizeOf204⟩
instance fld_204_0 : FldT Try.prog 204 0 0 := fld Try.runUnderlying204 (ft := 3) (by kernel_rfl) Try.sizeOf3
instance fld_204_1 : FldT Try.prog 204 1 1 := fld Try.runUnderlying204 (ft := 119) (by kernel_rfl) Try.sizeOf119
instance zero_205 : ZeroT Try.prog 205 (.agg #[(.int .i64 0), (.slice none 0 0)]) := ⟨Try.zeroValue205⟩
instance agg_205 : AggT Try.prog 205 2 := ⟨Try.isAgg205, Try.sizeOf205⟩
instance fld_205_0 : FldT Try.prog 205 0 0 := fld Try.runUnderlying205 (ft := 3) (by kernel_rfl) Try.sizeOf3
instance fld_205_1 : FldT Try.prog 205 1 1 := fld Try.runUnderlying205 (ft := 119) (by kernel_rfl) Try.sizeOf119
instance one_206 : OneT Try.prog 206 := ⟨Try.isAgg206, Try.sizeOf206⟩
instance zero_206 : ZeroT Try.prog 206 .nilFunc := ⟨Try.zeroValue206⟩
instance one_207 : OneT Try.prog 207 := ⟨Try.isAgg207, Try.sizeOf207⟩
instance zero_207 : ZeroT Try.prog 207 .nilFunc := ⟨Try.zeroValue207⟩
instance one_208 : OneT Try.prog 208 := ⟨Try.isAgg208, Try.sizeOf208⟩
instance zero_208 : ZeroT Try.prog 208 (.map none) := ⟨Try.zeroValue208⟩
instance map_208 : MapT Try.prog 208 212 3 := ⟨Try.underlying208⟩
instance zero_209 : ZeroT Try.prog 209 (.agg #[(.map none)]) := ⟨Try.zeroValue209⟩
instance agg_209 : AggT Try.prog 209 1 := ⟨Try.isAgg209, Try.sizeOf209⟩
instance fld_209_0 : FldT Try.prog 209 0 0 := fld Try.runUnderlying209 (ft := 208) (by kernel_rfl) Try.sizeOf208
instance zero_210 : ZeroT Try.prog 210 (.agg #[(.map none)]) := ⟨Try.zeroValue210⟩
instance agg_210 : AggT Try.prog 210 1 := ⟨Try.isAgg210, Try.sizeOf210⟩
instance fld_210_0 : FldT Try.prog 210 0 0 := fld Try.runUnderlying210 (ft := 208) (by kernel_rfl) Try.sizeOf208
instance zero_211 : ZeroT Try.prog 211 (.agg #[(.int .i64 0), (.int .i64 0)]) := ⟨Try.zeroValue211⟩
instance agg_211 : AggT Try.prog 211 2 := ⟨Try.isAgg211, Try.sizeOf211⟩
instance fld_211_0 : FldT Try.prog 211 0 0 := fld Try.runUnderlying211 (ft := 3) (by kernel_rfl) Try.sizeOf3
instance fld_211_1 : FldT Try.prog 211 1 1 := fld Try.runUnderlying211 (ft := 3) (by kernel_rfl) Try.sizeOf3
instance zero_212 : ZeroT Try.prog 212 (.agg #[(.int .i64 0), (.int .i64 0)]) := ⟨Try.zeroValue212⟩
instance agg_212 : AggT Try.prog 212 2 := ⟨Try.isAgg212, Try.sizeOf212⟩
instance fld_212_0 : FldT Try.prog 212 0 0 := fld Try.runUnderlying212 (ft := 3) (by kernel_rfl) Try.sizeOf3
instance fld_212_1 : FldT Try.prog 212 1 1 := fld Try.runUnderlying212 (ft := 3) (by kernel_rfl) Try.sizeOf3
instance one_213 : OneT Try.prog 213 := ⟨Try.isAgg213, Try.sizeOf213⟩
instance zero_213 : ZeroT Try.prog 213 .nilFunc := ⟨Try.zeroValue213⟩
instance one_214 : OneT Try.prog 214 := ⟨Try.isAgg214, Try.sizeOf214⟩
instance zero_214 : ZeroT Try.prog 214 (.slice none 0 0) := ⟨Try.zeroValue214⟩
instance sl_214 : SlT Try.prog 214 119 1 24 := slt (z := (.slice none 0 0)) Try.underlying214 (i := Try.t119) (by kernel_rfl) (by kernel_rfl) (by kernel_rfl) (by kernel_rfl) (by kernel_rfl)
instance one_215 : OneT Try.prog 215 := ⟨Try.isAgg215, Try.sizeOf215⟩
instance zero_215 : ZeroT Try.prog 215 .nilFunc := ⟨Try.zeroValue215⟩
instance one_216 : OneT Try.prog 216 := ⟨Try.isAgg216, Try.sizeOf216⟩
instance zero_216 : ZeroT Try.prog 216 .nilFunc := ⟨Try.zeroValue216⟩
instance one_217 : OneT Try.prog 217 := ⟨Try.isAgg217, Try.sizeOf217⟩
instance zero_217 : ZeroT Try.prog 217 .nilFunc := ⟨Try.zeroValue217⟩
instance one_218 : OneT Try.prog 218 := ⟨Try.isAgg218, Try.sizeOf218⟩
instance zero_218 : ZeroT Try.prog 218 .nilFunc := ⟨Try.zeroValue218⟩
instance zero_219 : ZeroT Try.prog 219 (.agg #[(.pointer none), (.pointer none), (.pointer none), (.string ⟨#[]⟩)]) := ⟨Try.zeroValue219⟩
instance agg_219 : AggT Try.prog 219 4 := ⟨Try.isAgg219, Try.sizeOf219⟩
instance fld_219_0 : FldT Try.prog 219 0 0 := fld Try.runUnderlying219 (ft := 17) (by kernel_rfl) Try.sizeOf17
instance fld_219_1 : FldT Try.prog 219 1 1 := fld Try.runUnderlying219 (ft := 17) (by kernel_rfl) Try.sizeOf17
instance fld_219_2 : FldT Try.prog 219 2 2 := fld Try.runUnderlying219 (ft := 17) (by kernel_rfl) Try.sizeOf17
instance fld_219_3 : FldT Try.prog 219 3 3 := fld Try.runUnderlying219 (ft := 9) (by kernel_rfl) Try.sizeOf9
instance zero_220 : ZeroT Try.prog 220 (.agg #[(.pointer none), (.pointer none), (.pointer none), (.string ⟨#[]⟩)]) := ⟨Try.zeroValue220⟩
instance agg_220 : AggT Try.prog 220 4 := ⟨Try.isAgg220, Try.sizeOf220⟩
instance fld_220_0 : FldT Try.prog 220 0 0 := fld Try.runUnderlying220 (ft := 17) (by kernel_rfl) Try.sizeOf17
instance fld_220_1 : FldT Try.prog 220 1 1 := fld Try.runUnderlying220 (ft := 17) (by kernel_rfl) Try.sizeOf17
instance fld_220_2 : FldT Try.prog 220 2 2 := fld Try.runUnderlying220 (ft := 17) (by kernel_rfl) Try.sizeOf17
instance fld_220_3 : FldT Try.prog 220 3 3 := fld Try.runUnderlying220 (ft := 9) (by kernel_rfl) Try.sizeOf9
instance zero_221 : ZeroT Try.prog 221 (.agg #[]) := ⟨Try.zeroValue221⟩
instance agg_221 : AggT Try.prog 221 0 := ⟨Try.isAgg221, Try.sizeOf221⟩
instance arr_221 : ArrT Try.prog 221 0 16 1 := ⟨Try.runUnderlying221, Try.sizeOf16⟩
instance zero_222 : ZeroT Try.prog 222 (.agg #[]) := ⟨Try.zeroValue222⟩
instance agg_222 : AggT Try.prog 222 0 := ⟨Try.isAgg222, Try.sizeOf222⟩
instance zero_223 : ZeroT Try.prog 223 (.agg #[]) := ⟨Try.zeroValue223⟩
instance agg_223 : AggT Try.prog 223 0 := ⟨Try.isAgg223, Try.sizeOf223⟩
instance one_224 : OneT Try.prog 224 := ⟨Try.isAgg224, Try.sizeOf224⟩
instance zero_224 : ZeroT Try.prog 224 (.int .u8 0) := ⟨Try.zeroValue224⟩
instance int_224 : IntT Try.prog 224 .u8 := ⟨Try.runUnderlying224⟩
instance one_225 : OneT Try.prog 225 := ⟨Try.isAgg225, Try.sizeOf225⟩
instance zero_225 : ZeroT Try.prog 225 (.int .u8 0) := ⟨Try.zeroValue225⟩
instance int_225 : IntT Try.prog 225 .u8 := ⟨Try.runUnderlying225⟩
instance one_226 : OneT Try.prog 226 := ⟨Try.isAgg226, Try.sizeOf226⟩
instance zero_226 : ZeroT Try.prog 226 .nilFunc := ⟨Try.zeroValue226⟩
instance one_227 : OneT Try.prog 227 := ⟨Try.isAgg227, Try.sizeOf227⟩
instance zero_227 : ZeroT Try.prog 227 (.pointer none) := ⟨Try.zeroValue227⟩
instance ptr_227 : PtrT Try.prog 227 := ⟨by kernel_rfl⟩
instance one_228 : OneT Try.prog 228 := ⟨Try.isAgg228, Try.sizeOf228⟩
instance zero_228 : ZeroT Try.prog 228 (.int .i32 0) := ⟨Try.zeroValue228⟩
instance int_228 : IntT Try.prog 228 .i32 := ⟨Try.runUnderlying228⟩
instance one_229 : OneT Try.prog 229 := ⟨Try.isAgg229, Try.sizeOf229⟩
instance zero_229 : ZeroT Try.prog 229 (.int .i32 0) := ⟨Try.zeroValue229⟩
instance int_229 : IntT Try.prog 229 .i32 := ⟨Try.runUnderlying229⟩
instance zero_230 : ZeroT Try.prog 230 (.agg #[(.int .u64 0), (.int .u64 0), (.int .u32 0), (.int .u8 0), (.int .u8 0), (.int .u8 0), (.int .u8 0), .nilFunc, (.pointer none), (.int .i32 0), (.int .i32 0)]) := ⟨Try.zeroValue230⟩
instance agg_230 : AggT Try.prog 230 11 := ⟨Try.isAgg230, Try.sizeOf230⟩
instance fld_230_0 : FldT Try.prog 230 0 0 := fld Try.runUnderlying230 (ft := 12) (by kernel_rfl) Try.sizeOf12
instance fld_230_1 : FldT Try.prog 230 1 1 := fld Try.runUnderlying230 (ft := 12) (by kernel_rfl) Try.sizeOf12
instance fld_230_2 : FldT Try.prog 230 2 2 := fld Try.runUnderlying230 (ft := 40) (by kernel_rfl) Try.sizeOf40
instance fld_230_3 : FldT Try.prog 230 3 3 := fld Try.runUnderlying230 (ft := 224) (by kernel_rfl) Try.sizeOf224
instance fld_230_4 : FldT Try.prog 230 4 4 := fld Try.runUnderlying230 (ft := 5) (by kernel_rfl) Try.sizeOf5
instance fld_230_5 : FldT Try.prog 230 5 5 := fld Try.runUnderlying230 (ft := 5) (by kernel_rfl) Try.sizeOf5
instance fld_230_6 : FldT Try.prog 230 6 6 := fld Try.runUnderlying230 (ft := 225) (by kernel_rfl) Try.sizeOf225
instance fld_230_7 : FldT Try.prog 230 7 7 := fld Try.runUnderlying230 (ft := 226) (by kernel_rfl) Try.sizeOf226
instance fld_230_8 : FldT Try.prog 230 8 8 := fld Try.runUnderlying230 (ft := 227) (by kernel_rfl) Try.sizeOf227
instance fld_230_9 : FldT Try.prog 230 9 9 := fld Try.runUnderlying230 (ft := 228) (by kernel_rfl) Try.sizeOf228
instance fld_230_10 : FldT Try.prog 230 10 10 := fld Try.runUnderlying230 (ft := 229) (by kernel_rfl) Try.sizeOf229
instance zero_231 : ZeroT Try.prog 231 (.agg #[(.int .u64 0), (.int .u64 0), (.int .u32 0), (.int .u8 0), (.int .u8 0), (.int .u8 0), (.int .u8 0), .nilFunc, (.pointer none), (.int .i32 0), (.int .i32 0)]) := ⟨Try.zeroValue231⟩
instance agg_231 : AggT Try.prog 231 11 := ⟨Try.isAgg231, Try.sizeOf231⟩
instance fld_231_0 : FldT Try.prog 231 0 0 := fld Try.runUnderlying231 (ft := 12) (by kernel_rfl) Try.sizeOf12
instance fld_231_1 : FldT Try.prog 231 1 1 := fld Try.runUnderlying231 (ft := 12) (by kernel_rfl) Try.sizeOf12
instance fld_231_2 : FldT Try.prog 231 2 2 := fld Try.runUnderlying231 (ft := 40) (by kernel_rfl) Try.sizeOf40
instance fld_231_3 : FldT Try.prog 231 3 3 := fld Try.runUnderlying231 (ft := 224) (by kernel_rfl) Try.sizeOf224
instance fld_231_4 : FldT Try.prog 231 4 4 := fld Try.runUnderlying231 (ft := 5) (by kernel_rfl) Try.sizeOf5
instance fld_231_5 : FldT Try.prog 231 5 5 := fld Try.runUnderlying231 (ft := 5) (by kernel_rfl) Try.sizeOf5
instance fld_231_6 : FldT Try.prog 231 6 6 := fld Try.runUnderlying231 (ft := 225) (by kernel_rfl) Try.sizeOf225
instance fld_231_7 : FldT Try.prog 231 7 7 := fld Try.runUnderlying231 (ft := 226) (by kernel_rfl) Try.sizeOf226
instance fld_231_8 : FldT Try.prog 231 8 8 := fld Try.runUnderlying231 (ft := 227) (by kernel_rfl) Try.sizeOf227
instance fld_231_9 : FldT Try.prog 231 9 9 := fld Try.runUnderlying231 (ft := 228) (by kernel_rfl) Try.sizeOf228
instance fld_231_10 : FldT Try.prog 231 10 10 := fld Try.runUnderlying231 (ft := 229) (by kernel_rfl) Try.sizeOf229
instance one_232 : OneT Try.prog 232 := ⟨Try.isAgg232, Try.sizeOf232⟩
instance zero_232 : ZeroT Try.prog 232 (.pointer none) := ⟨Try.zeroValue232⟩
instance bld_37_  : RV Try.prog (sBuild 37 []) (.agg #[(.int .i64 0), (.slice none 0 0), (.int .i64 0), (.bool false), (.bool false)]) := ⟨fun W w _ => by
   simp [sBuild, Instr.build, Try.zeroValue37, Try.runUnderlying37, Try.sizeOf3, Try.sizeOf4, Try.sizeOf22, cells_agg, Instr.fill]⟩
instance bld_42_  : RV Try.prog (sBuild 42 []) (.agg #[(.pointer none), (.int .u32 0), (.int .u32 0), (.bool false)]) := ⟨fun W w _ => by
   simp [sBuild, Instr.build, Try.zeroValue42, Try.runUnderlying42, Try.sizeOf4, Try.sizeOf33, Try.sizeOf40, cells_agg, Instr.fill]⟩
instance bld_66_  : RV Try.prog (sBuild 66 []) (.agg #[(.slice none 0 0)]) := ⟨fun W w _ => by
   simp [sBuild, Instr.build, Try.zeroValue66, Try.runUnderlying66, Try.sizeOf22, cells_agg, Instr.fill]⟩
instance bld_61_  : RV Try.prog (sBuild 61 []) (.agg #[(.slice none 0 0), (.slice none 0 0), (.int .i64 0)]) := ⟨fun W w _ => by
   simp [sBuild, Instr.build, Try.zeroValue61, Try.runUnderlying61, Try.sizeOf3, Try.sizeOf22, Try.sizeOf59, cells_agg, Instr.fill]⟩
instance bld_37_0_3 {a0 a1 : Value} [h0 : OC a0] [h1 : OC a1] : RV Try.prog (sBuild 37 [(0, a0), (3, a1)]) (.agg #[a0, (.slice none 0 0), (.int .i64 0), a1, (.bool false)]) := ⟨fun W w _ => by
 have c0 := cells_one h0.one; have c1 := cells_one h1.one; simp [sBuild, Instr.build, Try.zeroValue37, Try.runUnderlying37, Try.sizeOf3, Try.sizeOf4, Try.sizeOf22, cells_agg, Instr.fill, c0, c1]⟩
instance bld_84_2 {a0 : Value} [h0 : OC a0] : RV Try.prog (sBuild 84 [(2, a0)]) (.agg #[(.slice none 0 0), (.int .i64 0), a0]) := ⟨fun W w _ => by
 have c0 := cells_one h0.one; simp [sBuild, Instr.build, Try.zeroValue84, Try.runUnderlying84, Try.sizeOf3, Try.sizeOf4, Try.sizeOf22, cells_agg, Instr.fill, c0]⟩
instance bld_89_2 {a0 : Value} [h0 : OC a0] : RV Try.prog (sBuild 89 [(2, a0)]) (.agg #[(.int .i64 0), (.int .i64 0), a0]) := ⟨fun W w _ => by
 have c0 := cells_one h0.one; simp [sBuild, Instr.build, Try.zeroValue89, Try.runUnderlying89, Try.sizeOf3, Try.sizeOf5, cells_agg, Instr.fill, c0]⟩
instance bld_92_0_1_2 {a0 a1 a2 : Value} [h0 : OC a0] [h1 : OC a1] [h2 : OC a2] : RV Try.prog (sBuild 92 [(0, a0), (1, a1), (2, a2)]) (.agg #[a0, a1, a2]) := ⟨fun W w _ => by
 have c0 := cells_one h0.one; have c1 := cells_one h1.one; have c2 := cells_one h2.one; simp [sBuild, Instr.build, Try.zeroValue92, Try.runUnderlying92, Try.sizeOf91, cells_agg, Instr.fill, c0, c1, c2]⟩
instance bld_72_  : RV Try.prog (sBuild 72 []) (.agg #[(.slice none 0 0), (.slice none 0 0)]) := ⟨fun W w _ => by
   simp [sBuild, Instr.build, Try.zeroValue72, Try.runUnderlying72, Try.sizeOf22, Try.sizeOf70, cells_agg, Instr.fill]⟩
instance bld_110_0_2 {a0 a1 : Value} [h0 : OC a0] [h1 : OC a1] : RV Try.prog (sBuild 110 [(0, a0), (2, a1)]) (.agg #[a0, (.slice none 0 0), a1]) := ⟨fun W w _ => by
 have c0 := cells_one h0.one; have c1 := cells_one h1.one; simp [sBuild, Instr.build, Try.zeroValue110, Try.runUnderlying110, Try.sizeOf3, Try.sizeOf22, Try.sizeOf107, cells_agg, Instr.fill, c0, c1]⟩
instance bld_112_0_1_2_3 {a0 a1 a2 a3 : Value} [h0 : OC a0] [h1 : OC a1] [h2 : OC a2] [h3 : OC a3] : RV Try.prog (sBuild 112 [(0, a0), (1, a1), (2, a2), (3, a3)]) (.agg #[a0, a1, a2, a3]) := ⟨fun W w _ => by
 have c0 := cells_one h0.one; have c1 := cells_one h1.one; have c2 := cells_one h2.one; have c3 := cells_one h3.one; simp [sBuild, Instr.build, Try.zeroValue112, Try.runUnderlying112, Try.sizeOf111, cells_agg, Instr.fill, c0, c1, c2, c3]⟩
instance bld_49_0_1 {a0 a1 : Value} [h0 : OC a0] [h1 : OC a1] : RV Try.prog (sBuild 49 [(0, a0), (1, a1)]) (.agg #[a0, a1]) := ⟨fun W w _ => by
 have c0 := cells_one h0.one; have c1 := cells_one h1.one; simp [sBuild, Instr.build, Try.zeroValue49, Try.runUnderlying49, Try.sizeOf3, cells_agg, Instr.fill, c0, c1]⟩
instance bld_117_0_1_3_4 {a0 a1 a2 a3 : Value} [h0 : OC a0] [h1 : OC a1] [h2 : OC a2] [h3 : OC a3] : RV Try.prog (sBuild 117 [(0, a0), (1, a1), (3, a2), (4, a3)]) (.agg #[a0, a1, (.int .i64 0), a2, a3]) := ⟨fun W w _ => by
 have c0 := cells_one h0.one; have c1 := cells_one h1.one; have c2 := cells_one h2.one; have c3 := cells_one h3.one; simp [sBuild, Instr.build, Try.zeroValue117, Try.runUnderlying117, Try.sizeOf3, Try.sizeOf22, Try.sizeOf115, cells_agg, Instr.fill, c0, c1, c2, c3]⟩
instance bld_61_0_1_2 {a0 a1 a2 : Value} [h0 : OC a0] [h1 : OC a1] [h2 : OC a2] : RV Try.prog (sBuild 61 [(0, a0), (1, a1), (2, a2)]) (.agg #[a0, a1, a2]) := ⟨fun W w _ => by
 have c0 := cells_one h0.one; have c1 := cells_one h1.one; have c2 := cells_one h2.one; simp [sBuild, Instr.build, Try.zeroValue61, Try.runUnderlying61, Try.sizeOf3, Try.sizeOf22, Try.sizeOf59, cells_agg, Instr.fill, c0, c1, c2]⟩
instance bld_97_2 {a0 : Value} [h0 : OC a0] : RV Try.prog (sBuild 97 [(2, a0)]) (.agg #[(.int .i64 0), (.int .i64 0), a0]) := ⟨fun W w _ => by
 have c0 := cells_one h0.one; simp [sBuild, Instr.build, Try.zeroValue97, Try.runUnderlying97, Try.sizeOf3, Try.sizeOf5, cells_agg, Instr.fill, c0]⟩
instance bld_101_0_1_2_3_4_5_6_7 {a0 a1 a2 a3 a4 a5 a6 a7 : Value} [h0 : OC a0] [h1 : OC a1] [h2 : OC a2] [h3 : OC a3] [h4 : OC a4] [h5 : OC a5] [h6 : OC a6] [h7 : OC a7] : RV Try.prog (sBuild 101 [(0, a0), (1, a1), (2, a2), (3, a3), (4, a4), (5, a5), (6, a6), (7, a7)]) (.agg #[a0, a1, a2, a3, a4, a5, a6, a7]) := ⟨fun W w _ => by
 have c0 := cells_one h0.one; have c1 := cells_one h1.one; have c2 := cells_one h2.one; have c3 := cells_one h3.one; have c4 := cells_one h4.one; have c5 := cells_one h5.one; have c6 := cells_one h6.one; have c7 := cells_one h7.one; simp [sBuild, Instr.build, Try.zeroValue101, Try.runUnderlying101, Try.sizeOf5, cells_agg, Instr.fill, c0, c1, c2, c3, c4, c5, c6, c7]⟩
instance bld_139_0_1 {a0 a1 : Value} [h0 : OC a0] [h1 : OC a1] : RV Try.prog (sBuild 139 [(0, a0), (1, a1)]) (.agg #[a0, a1]) := ⟨fun W w _ => by
 have c0 := cells_one h0.one; have c1 := cells_one h1.one; simp [sBuild, Instr.build, Try.zeroValue139, Try.runUnderlying139, Try.sizeOf3, Try.sizeOf22, cells_agg, Instr.fill, c0, c1]⟩
instance bld_141_0_1 {a0_0 a0_1 a1 : Value} [h1 : OC a1] : RV Try.prog (sBuild 141 [(0, .agg #[a0_0, a0_1]), (1, a1)]) (.agg #[a0_0, a0_1, a1]) := ⟨fun W w _ => by
 have c1 := cells_one h1.one; simp [sBuild, Instr.build, Try.zeroValue141, Try.runUnderlying141, Try.sizeOf4, Try.sizeOf139, cells_agg, Instr.fill, c1]⟩
instance bld_148_0_1_2_3_4_5_6_7_8_9_10_11_12_13_14_15_16_17_18 {a0 a1 a2 a3 a4 a5 a6 a7 a8 a9 a10 a11 a12 a13 a14 a15 a16 a17 a18 : Value} [h0 : OC a0] [h1 : OC a1] [h2 : OC a2] [h3 : OC a3] [h4 : OC a4] [h5 : OC a5] [h6 : OC a6] [h7 : OC a7] [h8 : OC a8] [h9 : OC a9] [h10 : OC a10] [h11 : OC a11] [h12 : OC a12] [h13 : OC a13] [h14 : OC a14] [h15 : OC a15] [h16 : OC a16] [h17 : OC a17] [h18 : OC a18] : RV Try.prog (sBuild 148 [(0, a0), (1, a1), (2, a2), (3, a3), (4, a4), (5, a5), (6, a6), (7, a7), (8, a8), (9, a9), (10, a10), (11, a11), (12, a12), (13, a13), (14, a14), (15, a15), (16, a16), (17, a17), (18, a18)]) (.agg #[a0, a1, a2, a3, a4, a5, a6, a7, a8, a9, a10, a11, a12, a13, a14, a15, a16, a17, a18]) := ⟨fun W w _ => by
 have c0 := cells_one h0.one; have c1 := cells_one h1.one; have c2 := cells_one h2.one; have c3 := cells_one h3.one; have c4 := cells_one h4.one; have c5 := cells_one h5.one; have c6 := cells_one h6.one; have c7 := cells_one h7.one; have c8 := cells_one h8.one; have c9 := cells_one h9.one; have c10 := cells_one h10.one; have c11 := cells_one h11.one; have c12 := cells_one h12.one; have c13 := cells_one h13.one; have c14 := cells_one h14.one; have c15 := cells_one h15.one; have c16 := cells_one h16.one; have c17 := cells_one h17.one; have c18 := cells_one h18.one; simp [sBuild, Instr.build, Try.zeroValue148, Try.runUnderlying148, Try.sizeOf3, cells_agg, Instr.fill, c0, c1, c2, c3, c4, c5, c6, c7, c8, c9, c10, c11, c12, c13, c14, c15, c16, c17, c18]⟩
instance bld_89_0_1 {a0 a1 : Value} [h0 : OC a0] [h1 : OC a1] : RV Try.prog (sBuild 89 [(0, a0), (1, a1)]) (.agg #[a0, a1, (.int .u8 0)]) := ⟨fun W w _ => by
 have c0 := cells_one h0.one; have c1 := cells_one h1.one; simp [sBuild, Instr.build, Try.zeroValue89, Try.runUnderlying89, Try.sizeOf3, Try.sizeOf5, cells_agg, Instr.fill, c0, c1]⟩
instance bld_124_0_1 {a0 a1 : Value} [h0 : OC a0] [h1 : OC a1] : RV Try.prog (sBuild 124 [(0, a0), (1, a1)]) (.agg #[a0, a1]) := ⟨fun W w _ => by
 have c0 := cells_one h0.one; have c1 := cells_one h1.one; simp [sBuild, Instr.build, Try.zeroValue124, Try.runUnderlying124, Try.sizeOf119, cells_agg, Instr.fill, c0, c1]⟩
instance bld_163_0_1 {a0 a1 : Value} [h0 : OC a0] [h1 : OC a1] : RV Try.prog (sBuild 163 [(0, a0), (1, a1)]) (.agg #[a0, a1]) := ⟨fun W w _ => by
 have c0 := cells_one h0.one; have c1 := cells_one h1.one; simp [sBuild, Instr.build, Try.zeroValue163, Try.runUnderlying163, Try.sizeOf119, cells_agg, Instr.fill, c0, c1]⟩
instance bld_124_0 {a0 : Value} [h0 : OC a0] : RV Try.prog (sBuild 124 [(0, a0)]) (.agg #[a0, (.slice none 0 0)]) := ⟨fun W w _ => by
 have c0 := cells_one h0.one; simp [sBuild, Instr.build, Try.zeroValue124, Try.runUnderlying124, Try.sizeOf119, cells_agg, Instr.fill, c0]⟩
instance bld_193_0_1 {a0 a1 : Value} [h0 : OC a0] [h1 : OC a1] : RV Try.prog (sBuild 193 [(0, a0), (1, a1)]) (.agg #[a0, a1]) := ⟨fun W w _ => by
 have c0 := cells_one h0.one; have c1 := cells_one h1.one; simp [sBuild, Instr.build, Try.zeroValue193, Try.runUnderlying193, Try.sizeOf3, Try.sizeOf119, cells_agg, Instr.fill, c0, c1]⟩
instance bld_97_0_1 {a0 a1 : Value} [h0 : OC a0] [h1 : OC a1] : RV Try.prog (sBuild 97 [(0, a0), (1, a1)]) (.agg #[a0, a1, (.int .u8 0)]) := ⟨fun W w _ => by
 have c0 := cells_one h0.one; have c1 := cells_one h1.one; simp [sBuild, Instr.build, Try.zeroValue97, Try.runUnderlying97, Try.sizeOf3, Try.sizeOf5, cells_agg, Instr.fill, c0, c1]⟩
instance bld_205_0_1 {a0 a1 : Value} [h0 : OC a0] [h1 : OC a1] : RV Try.prog (sBuild 205 [(0, a0), (1, a1)]) (.agg #[a0, a1]) := ⟨fun W w _ => by
 have c0 := cells_one h0.one; have c1 := cells_one h1.one; simp [sBuild, Instr.build, Try.zeroValue205, Try.runUnderlying205, Try.sizeOf3, Try.sizeOf119, cells_agg, Instr.fill, c0, c1]⟩
instance bld_179_0_1_2 {a0 a1 a2 : Value} [h0 : OC a0] [h1 : OC a1] [h2 : OC a2] : RV Try.prog (sBuild 179 [(0, a0), (1, a1), (2, a2)]) (.agg #[a0, a1, a2]) := ⟨fun W w _ => by
 have c0 := cells_one h0.one; have c1 := cells_one h1.one; have c2 := cells_one h2.one; simp [sBuild, Instr.build, Try.zeroValue179, Try.runUnderlying179, Try.sizeOf3, cells_agg, Instr.fill, c0, c1, c2]⟩
instance bld_210_0 {a0 : Value} [h0 : OC a0] : RV Try.prog (sBuild 210 [(0, a0)]) (.agg #[a0]) := ⟨fun W w _ => by
 have c0 := cells_one h0.one; simp [sBuild, Instr.build, Try.zeroValue210, Try.runUnderlying210, Try.sizeOf208, cells_agg, Instr.fill, c0]⟩
instance bld_212_0_1 {a0 a1 : Value} [h0 : OC a0] [h1 : OC a1] : RV Try.prog (sBuild 212 [(0, a0), (1, a1)]) (.agg #[a0, a1]) := ⟨fun W w _ => by
 have c0 := cells_one h0.one; have c1 := cells_one h1.one; simp [sBuild, Instr.build, Try.zeroValue212, Try.runUnderlying212, Try.sizeOf3, cells_agg, Instr.fill, c0, c1]⟩
instance bld_170_0 {a0 : Value} [h0 : OC a0] : RV Try.prog (sBuild 170 [(0, a0)]) (.agg #[a0, (.int .i64 0), (.int .i64 0)]) := ⟨fun W w _ => by
 have c0 := cells_one h0.one; simp [sBuild, Instr.build, Try.zeroValue170, Try.runUnderlying170, Try.sizeOf3, cells_agg, Instr.fill, c0]⟩
instance bld_170_0_1_2 {a0 a1 a2 : Value} [h0 : OC a0] [h1 : OC a1] [h2 : OC a2] : RV Try.prog (sBuild 170 [(0, a0), (1, a1), (2, a2)]) (.agg #[a0, a1, a2]) := ⟨fun W w _ => by
 have c0 := cells_one h0.one; have c1 := cells_one h1.one; have c2 := cells_one h2.one; simp [sBuild, Instr.build, Try.zeroValue170, Try.runUnderlying170, Try.sizeOf3, cells_agg, Instr.fill, c0, c1, c2]⟩
instance bld_212_  : RV Try.prog (sBuild 212 []) (.agg #[(.int .i64 0), (.int .i64 0)]) := ⟨fun W w _ => by
   simp [sBuild, Instr.build, Try.zeroValue212, Try.runUnderlying212, Try.sizeOf3, cells_agg, Instr.fill]⟩
end Go.Proofs.Ythoeeahdkdcceaa.T
namespace Go.Proofs.Ythoeeahdkdcceaa.Sl
open Go Go.RowKit Sh
variable {P : Program} {W : World} {L L' : List HP} {Kp : PK} {k : Value → WP}
theorem v_mkF {f : FuncId} {bs cs : List Value} : RunV P W [] (sMkF (.func f) bs cs) (.func (.func f) bs.toArray cs.toArray) := fun w _ => by
 simp [sMkF, Instr.makeFunc]
end Go.Proofs.Ythoeeahdkdcceaa.Sl
namespace Go.Proofs.Ythoeeahdkdcceaa.Sl
open Go Go.RowKit Sh
variable {P : Program} {W : World} {L L' : List HP} {Kp : PK} {k : Value → WP}
theorem run_sCallC {f : FuncId} {cap : Array Value} {args : List Value} (hc : ∀ (a : Array Value) (w : World), (callFunc f a).run P w = .ok (.enter f a) w) (w : World) :
  (sCall (.func (.func f) #[] cap) args).run P w = .ok (.enter f (args.toArray ++ cap)) w := by
 unfold sCall Deferred.ofValue
 simp [invoke, hc]
theorem e_callC {α : Type} {f : FuncId} {args cap : List Value} {A F : List HP} {r : α → Value} {B : α → List HP} (hf : Cn P f (args ++ cap) W A r B) (p : Picks L A F)
  (h : ∀ x, Ent W (B x ++ F) (k (r x))) : Ent W L (opN P (sCall (.func (.func f) #[] cap.toArray) args) Kp k) := fun w hw => by
 refine ⟨?_⟩
 rw [run_sCallC hf.call, show args.toArray ++ cap.toArray = (args ++ cap).toArray by simp]
 refine (hf.run F w (p.sat hw)).mono fun e w' ⟨x, he, hs⟩ => ?_
 subst he
 exact h x w' hs
def YieldC (P : Program) (l : Nat) (xs : List (List Value)) (I : Nat → HP) (Ix : HP) (W : World) : Prop :=
 ∀ i (hi : i < xs.length) (F : List HP) (w : World), sat W (I i :: F) w → YieldP P l xs[i] w fun e w' =>
  (e = .returned (.bool true) ∧ sat W (I (i + 1) :: F) w') ∨ (e = .returned (.bool false) ∧ sat W (Ix :: F) w')
def yv (l : Nat) : Value := .func (.yield l) #[] #[]
theorem e_yield {l : Nat} {xs : List (List Value)} {I : Nat → HP} {Ix : HP} {args : List Value} (hy : YieldC P l xs I Ix W) (i : Nat) (hi : xs[i]? = some args) (p : Pick L (I i) L')
  (ht : Ent W (I (i + 1) :: L') (k (.bool true))) (hf : Ent W (Ix :: L') (k (.bool false))) : Ent W L (opN P (sCall (yv l) args) Kp k) := fun w hw => by
 have hlt : i < xs.length := by
  rcases Nat.lt_or_ge i xs.length with c | c
  ·exact c
  ·rw [List.getElem?_eq_none c] at hi; cases hi
 have he : xs[i] = args := by rw [List.getElem?_eq_getElem hlt] at hi; exact Option.some.inj hi
 obtain ⟨fn, tmps, assign, body, hr, hR⟩ := hy i hlt L' w (hw.pick p)
 rw [he] at hr
 refine ⟨?_⟩
 have : (sCall (yv l) args).run P w = .ok (.round l fn tmps assign body) w := by
  unfold sCall yv Deferred.ofValue
  simp [invoke, hr]
 rw [this]
 refine hR.mono fun e w' he => ?_
 rcases he with ⟨rfl, hs⟩ | ⟨rfl, hs⟩
 ·exact ht w' hs
 ·exact hf w' hs
theorem sat.putO {w : World} {g : Nat} {o o' : Obj} (H : sat W (pt g o :: L) w) : sat W (pt g o' :: L) (w.putObj g o') := by
 have hg := H.pt_.1
 have hlt : g < w.heap.size := (Array.getElem?_eq_some_iff.1 hg).1
 exact H.turn rfl rfl rfl (by simp) (World.putObj_heap_same hlt) (fun i hi => World.putObj_heap_other hi)
theorem e_tk {d : Nat} {S : WP} (p : Pick L (pt d (.deferred (some []))) L') (h : Ent W L' S) : Ent W L (tkS d S) := fun w hw => by
 have hw' := hw.pick p
 exact ⟨hw'.pt_.1, h _ (hw'.putO (o' := .deferred none)).drop⟩
theorem e_rf {fv : Value} {f : FuncId} {cap : List Value} {np : Nat} {rnd : VF np ((WP → WP) → WP → WP → WP)} {Kn Kj : Nat → WP} {Kq : Nat → PK} (xs : List (List Value)) (I : Nat → HP) (Ix : HP) (hf : fv = .func (.func f) #[] cap.toArray)
  (hxs : ∀ x ∈ xs, x.length = np) (hi : Imp W L [I 0])
  (hit : ∀ (l : Nat) (T T' : HP), YieldC P l xs (fun i => all [T, I i]) (all [T', Ix]) W → Cn P f (yv l :: cap) W [all [T, I 0]] (fun _ : Bool => .tuple #[]) (fun b => [if b then all [T, I xs.length] else all [T', Ix]]))
  (hbody : ∀ i (hi : i < xs.length) (F : List HP) (T0 T1 : HP) (B : WP → WP) (N J : WP), (∀ L L' S, Pick L T0 L' → Ent W (T1 :: L') S → Ent W L (B S)) → (∀ L, Imp W L (T1 :: I (i + 1) :: F) → Ent W L N) → (∀ L, Imp W L (T1 :: Ix :: F) → Ent W L J) →
   Ent W (T0 :: I i :: F) (vapp np rnd xs[i] B N J))
  (hn : ∀ d, Ent W [pt d (.deferred (some [])), I xs.length] (Kn d)) (hj : ∀ d, Ent W [pt d (.deferred (some [])), Ix] (Kj d)) : Ent W L (rfS P fv np rnd Kn Kj Kq) := fun w hw => by
 have hcall := (hit 0 (pu False) (pu False) (fun i hi F w hs => (by obtain ⟨h, ⟨h1, h2, ⟨h3, h4, hp, _⟩, _⟩, _⟩ := hs.heap; exact hp.elim))).call
 refine ⟨f, cap.toArray, hf, hcall, fun rec hrec => ?_⟩
 obtain ⟨l, hl⟩ : ∃ l, l = w.heap.size + 1 := ⟨_, rfl⟩
 have h0 : sat W [all [all [pt l (.loop (rec .ready none)), pt w.heap.size (.deferred (some []))], I 0]] ((w.alloc (.deferred (some []))).alloc (.loop (rec .ready none))) := by
  have := ((hi.sat hw).alloc (.deferred (some []))).alloc (.loop (rec .ready none))
  rw [World.size_alloc, ← hl] at this
  exact (Imp.all (N := [_, _]) (Imp.all (N := [_, _]) .refl)).sat this
 rw [← hl] at hrec ⊢
 have hy : YieldC P l xs (fun i => all [all [pt l (.loop (rec .ready none)), pt w.heap.size (.deferred (some []))], I i]) (all [all [pt l (.loop (rec .done (some .ret))), pt w.heap.size (.deferred (some []))], Ix]) W := by
  intro i hi F w' hs
  have hs1 : sat W (pt l (.loop (rec .ready none)) :: pt w.heap.size (.deferred (some [])) :: I i :: F) w' :=
   hs.map fun h H => all_append' (N := [_, _]) (M := I i :: F) (by
    have := all_append' (N := [_, _]) (M := F) H
    exact this)
  refine hrec xs[i] w' _ (hxs _ (List.getElem_mem hi)) hs1.pt_.1 ?_
  refine hbody i hi F (all [pt l (.loop (rec .ready none)), pt w.heap.size (.deferred (some []))]) (all [pt l (.loop (rec .busy none)), pt w.heap.size (.deferred (some []))]) _ _ _ ?_ ?_ ?_ w' ?_
  ·intro L1 L2 S p hS w1 hw1
   have h1 : sat W (pt l (.loop (rec .ready none)) :: pt w.heap.size (.deferred (some [])) :: L2) w1 := sat.map (L := all [pt l (.loop (rec .ready none)), pt w.heap.size (.deferred (some []))] :: L2) (fun h H => all_append' (N := [_, _]) H) (hw1.pick p)
   refine ⟨h1.pt_.1, hS _ ?_⟩
   exact (Imp.all (N := [_, _]) .refl).sat (h1.putO (o' := .loop (rec .busy none)))
  ·intro L1 i1 w1 hw1
   have h1 : sat W (pt l (.loop (rec .busy none)) :: pt w.heap.size (.deferred (some [])) :: I (i + 1) :: F) w1 := sat.map (L := all [pt l (.loop (rec .busy none)), pt w.heap.size (.deferred (some []))] :: I (i + 1) :: F) (fun h H => all_append' (N := [_, _]) H) (i1.sat hw1)
   refine ⟨h1.pt_.1, .inl ⟨rfl, ?_⟩⟩
   exact (Imp.all (N := [_, _]) (Imp.all (N := [_, _]) .refl)).sat (h1.putO (o' := .loop (rec .ready none)))
  ·intro L1 i1 w1 hw1
   have h1 : sat W (pt l (.loop (rec .busy none)) :: pt w.heap.size (.deferred (some [])) :: Ix :: F) w1 := sat.map (L := all [pt l (.loop (rec .busy none)), pt w.heap.size (.deferred (some []))] :: Ix :: F) (fun h H => all_append' (N := [_, _]) H) (i1.sat hw1)
   refine ⟨h1.pt_.1, .inr ⟨rfl, ?_⟩⟩
   exact (Imp.all (N := [_, _]) (Imp.all (N := [_, _]) .refl)).sat (h1.putO (o' := .loop (rec .done (some .ret))))
  ·exact (Imp.all (N := [_, _]) .refl).sat hs1
 have hc := (hit l _ _ hy).run [] _ (by simpa using h0)
 rw [show (yv l :: cap).toArray = #[.func (.yield l) #[] #[]] ++ cap.toArray by simp [yv]] at hc
 refine hc.mono fun e w' he => ?_
 obtain ⟨b, rfl, hs⟩ := he
 cases b with
 | true =>
  left
  have h1 : sat W (pt l (.loop (rec .ready none)) :: [pt w.heap.size (.deferred (some [])), I xs.length]) w' :=
   hs.map fun h H => all_append' (N := [_, _]) (M := [I xs.length]) (by
    have := all_append' (N := [_, _]) (M := []) H
    exact this)
  exact ⟨h1.pt_.1, hn _ _ (h1.putO (o' := .loop (rec .exhausted none))).drop⟩
 | false =>
  right
  have h1 : sat W (pt l (.loop (rec .done (some .ret))) :: [pt w.heap.size (.deferred (some [])), Ix]) w' :=
   hs.map fun h H => all_append' (N := [_, _]) (M := [Ix]) (by
    have := all_append' (N := [_, _]) (M := []) H
    exact this)
  exact ⟨h1.pt_.1, hj _ _ (h1.putO (o' := .loop (rec .exhausted (some .ret)))).drop⟩
theorem e_swap {M : List HP} {S : WP} (h : Ent W (M ++ L) S) : Ent W (L ++ M) S := fun w hw => by
 refine h w (hw.map fun f H => all_append' ?_)
 obtain ⟨h1, h2, ha, hb, d, s1, s2⟩ := all_append H
 exact ⟨h2, h1, hb, ha, fun i => (d i).symm, s2, s1⟩
theorem e_rest {M F : List HP} {S : WP} (i : Imp W L (M ++ [all F])) (h : Ent W (M ++ F) S) : Ent W L S := by
 refine e_imp i (e_swap (L := M) (M := [all F]) ?_)
 refine e_all (M := F) (L' := M) .here (e_swap h)
end Go.Proofs.Ythoeeahdkdcceaa.Sl
namespace Go.Proofs.Ythoeeahdkdcceaa.S
open Go Sh Sl
theorem wide : Try.prog.follows .mixedOrders = true := by kernel_rfl
def law07_GzipNil (v0 : Value) (Kp : PK) (K : Value → WP) : WP :=
  loop2 (fun I1 m1 _ y3 y4 =>
   opN Try.prog (sBin .lss 3 y4 (.int .i64 2)) Kp fun x10 =>
   condS x10
   (opN Try.prog (sCall (fn 18) [y3]) Kp fun x15 =>
    opN Try.prog (sExt x15 0) Kp fun x16 =>
    opN Try.prog (sExt x15 1) Kp fun x17 =>
    opN Try.prog (sCall (fn 19) [y3]) Kp fun x20 =>
    opN Try.prog (sExt x20 0) Kp fun x21 =>
    opN Try.prog (sExt x20 1) Kp fun x22 =>
    opN Try.prog (sCall (fn 21) [y3, v0]) Kp fun x25 =>
    opN Try.prog (sCall (fn 20) [x25]) Kp fun x26 =>
    opN Try.prog (sEq .neq 3 (.tmp 26) (.const (.int .i64 1)) x26 (.int .i64 1)) Kp fun x27 =>
    gdK x27 false (fun k => k x17) fun x29 =>
    gdK x27 false (opN Try.prog (sCall (fn 20) [x29]) Kp) fun x30 =>
    gdK x27 false (opN Try.prog (sEq .neq 3 (.tmp 30) (.const (.int .i64 1)) x30 (.int .i64 1)) Kp) fun x31 =>
    opN Try.prog (sPick x27 (.bool true) x31) Kp fun x32 =>
    gdK x32 false (fun k => k x22) fun x34 =>
    gdK x32 false (opN Try.prog (sCall (fn 20) [x34]) Kp) fun x35 =>
    gdK x32 false (opN Try.prog (sEq .neq 3 (.tmp 35) (.const (.int .i64 1)) x35 (.int .i64 1)) Kp) fun x36 =>
    opN Try.prog (sPick x32 (.bool true) x36) Kp fun x37 =>
    gdK x37 false (fun k => k x16) fun x39 =>
    gdK x37 false (opN Try.prog (sLen #[22] 3 [x39]) Kp) fun x40 =>
    gdK x37 false (fun k => k x21) fun x41 =>
    gdK x37 false (opN Try.prog (sLen #[22] 3 [x41]) Kp) fun x42 =>
    gdK x37 false (opN Try.prog (sBin .add 3 x40 x42) Kp) fun x43 =>
    gdK x37 false (opN Try.prog (sEq .neq 3 (.tmp 43) (.const (.int .i64 0)) x43 (.int .i64 0)) Kp) fun x44 =>
    opN Try.prog (sPick x37 (.bool true) x44) Kp fun x45 =>
    condS x45
    (K (.bool false))
    (opN Try.prog (sBuild 42 []) Kp fun x46 =>
     opN Try.prog (sBox 42 x46) Kp fun x47 =>
     opN Try.prog (sBin .add 3 y4 (.int .i64 1)) Kp fun x12 =>
     next2 I1 m1 x47 x12))
   (opN Try.prog (sCall (fn 22) []) Kp fun x48 =>
    K x48)) (.pointer none) (.int .i64 0)
def law07_GzipNil_an : Ann := { cuts := [], blks := [], loops := [(3, [3, 4])], drs := [] }
theorem law07_GzipNil_eq (v0 : Value) (Kp : PK) (K : Value → WP) : cevF Try.prog law07_GzipNil_an Try.f5 [v0] Kp K = law07_GzipNil v0 Kp K := by kernel_rfl
theorem law07_GzipNil_calls {v0 : Value} {Kp : PK} {K : Value → WP} {w : World} (h : law07_GzipNil v0 Kp K w) : Calls Try.prog 5 #[v0] w (after Kp K) :=
 calls_of_shape (calls_of_cev wide Try.func5 (an := law07_GzipNil_an) (args := [v0]) (cast (congrFun (law07_GzipNil_eq v0 Kp K) w).symm h))
theorem law07_GzipNil_cn {v0 : Value} {W : World} {α : Type} {A : List HP} {r : α → Value} {B : α → List HP} (h : ∀ F, Ent W (A ++ F) (law07_GzipNil v0 noP fun v w => ∃ x, v = r x ∧ sat W (B x ++ F) w)) : Cn Try.prog 5 [v0] W A r B :=
 Cn.of (shape := law07_GzipNil v0) Try.call5 (fun h => law07_GzipNil_calls h) h
def deflate_Deflate (v0 v1 : Value) (Kp : PK) (K : Value → WP) : WP :=
  opN Try.prog (sCall (fn 26) [v1]) Kp fun x13 =>
  condS x13
  (K (.tuple #[(.slice none 0 0), (.int .i64 1)]))
  (opN Try.prog (sLen #[22] 3 [v0]) Kp fun x16 =>
   opN Try.prog (sBin .gtr 3 x16 (.int .i64 524288)) Kp fun x17 =>
   condS x17
   (K (.tuple #[(.slice none 0 0), (.int .i64 6)]))
   (opN Try.prog (sCall (fn 27) []) Kp fun x18 =>
    opN Try.prog (sCall (fn 28) [v0, v1]) Kp fun x21 =>
    opN Try.prog (sLen #[57] 3 [x21]) Kp fun x23 =>
    loop1 (fun I1 m1 _ y24 =>
     opN Try.prog (sBin .lss 3 y24 x23) Kp fun x25 =>
     condS x25
     (opN Try.prog (sIA 57 x21 y24) Kp fun x27 =>
      opN Try.prog (sLoad 61 x27) Kp fun x28 =>
      opN Try.prog (sAlloc 61) Kp fun x9 =>
      opN Try.prog (sStore 61 x9 x28) Kp fun _ =>
      cut1 (fun J1 =>
       opN Try.prog (sLen #[57] 3 [x21]) Kp fun x31 =>
       opN Try.prog (sBin .sub 3 x31 (.int .i64 1)) Kp fun x32 =>
       opN Try.prog (sEq .eql 3 (.tmp 29) (.tmp 32) y24 x32) Kp fun x33 =>
       condS x33
       (J1 (.int .i64 1))
       (J1 (.int .i64 0))) fun _ z10 =>
      opN Try.prog (sLoad 61 x9) Kp fun x34 =>
      opN Try.prog (sCall (fn 29) [x34, x18, z10]) Kp fun x37 =>
      opN Try.prog (sBin .add 3 y24 (.int .i64 1)) Kp fun x38 =>
      next1 I1 m1 x38)
     (opN Try.prog (sCall (fn 30) [x18]) Kp fun x40 =>
      K (.tuple #[x40, (.int .i64 0)]))) (.int .i64 0)))
def deflate_Deflate_an : Ann := { cuts := [(13, [10])], blks := [], loops := [(8, [24])], drs := [] }
theorem deflate_Deflate_eq (v0 v1 : Value) (Kp : PK) (K : Value → WP) : cevF Try.prog deflate_Deflate_an Try.f10 [v0, v1] Kp K = deflate_Deflate v0 v1 Kp K := by kernel_rfl
theorem deflate_Deflate_calls {v0 v1 : Value} {Kp : PK} {K : Value → WP} {w : World} (h : deflate_Deflate v0 v1 Kp K w) : Calls Try.prog 10 #[v0, v1] w (after Kp K) :=
 calls_of_shape (calls_of_cev wide Try.func10 (an := deflate_Deflate_an) (args := [v0, v1]) (cast (congrFun (deflate_Deflate_eq v0 v1 Kp K) w).symm h))
theorem deflate_Deflate_cn {v0 v1 : Value} {W : World} {α : Type} {A : List HP} {r : α → Value} {B : α → List HP} (h : ∀ F, Ent W (A ++ F) (deflate_Deflate v0 v1 noP fun v w => ∃ x, v = r x ∧ sat W (B x ++ F) w)) : Cn Try.prog 10 [v0, v1] W A r B :=
 Cn.of (shape := deflate_Deflate v0 v1) Try.call10 (fun h => deflate_Deflate_calls h) h
def deflate_Stream_Flush (v0 : Value) (Kp : PK) (K : Value → WP) : WP :=
  opN Try.prog (sCall (fn 34) [v0]) Kp fun x9 =>
  opN Try.prog (sEq .neq 24 (.tmp 10) (.const (.int .i64 0)) x9 (.int .i64 0)) Kp fun x11 =>
  gdK x11 false (fun k => k v0) fun x13 =>
  gdK x11 false (opN Try.prog (sNil x13) Kp) fun x14 =>
  gdK x11 false (opN Try.prog (sFA 37 x14 1) Kp) fun x15 =>
  gdK x11 false (opN Try.prog (sLoad 22 x15) Kp) fun x16 =>
  gdK x11 false (opN Try.prog (sLen #[22] 3 [x16]) Kp) fun x17 =>
  gdK x11 false (opN Try.prog (sEq .eql 3 (.tmp 17) (.const (.int .i64 0)) x17 (.int .i64 0)) Kp) fun x18 =>
  opN Try.prog (sPick x11 (.bool true) x18) Kp fun x19 =>
  condS x19
  (K (.tuple #[(.slice none 0 0), x9]))
  (opN Try.prog (sCall (fn 27) []) Kp fun x21 =>
   drS (stS Try.prog (sNil v0) fun x23 =>
    stS Try.prog (sFA 37 x23 1) fun x24 =>
    stS Try.prog (sLoad 22 x24) fun x25 =>
    stS Try.prog (sNil v0) fun x27 =>
    stS Try.prog (sFA 37 x27 0) fun x28 =>
    stS Try.prog (sLoad 3 x28) fun x29 =>
    opN Try.prog (sCall (fn 28) [x25, x29]) Kp fun x30 =>
    stS Try.prog (sLen #[57] 3 [x30]) fun x31 =>
    loop1 (fun I1 m1 _ y32 =>
     opN Try.prog (sBin .lss 3 y32 x31) Kp fun x33 =>
     condS x33
     (opN Try.prog (sIA 57 x30 y32) Kp fun x34 =>
      opN Try.prog (sLoad 61 x34) Kp fun x35 =>
      opN Try.prog (sAlloc 61) Kp fun x7 =>
      opN Try.prog (sStore 61 x7 x35) Kp fun _ =>
      opN Try.prog (sLoad 61 x7) Kp fun x36 =>
      opN Try.prog (sCall (fn 29) [x36, x21, (.int .i64 0)]) Kp fun x38 =>
      opN Try.prog (sBin .add 3 y32 (.int .i64 1)) Kp fun x39 =>
      next1 I1 m1 x39)
     (opN Try.prog (sCall (fn 35) [x21, (.int .i64 0), (.int .i64 3)]) Kp fun x41 =>
      opN Try.prog (sBuild 61 []) Kp fun x42 =>
      opN Try.prog (sCall (fn 36) [x42, x21]) Kp fun x44 =>
      opN Try.prog (sNil v0) Kp fun x46 =>
      opN Try.prog (sFA 37 x46 1) Kp fun x47 =>
      opN Try.prog (sStore 22 x47 (.slice none 0 0)) Kp fun _ =>
      opN Try.prog (sCall (fn 30) [x21]) Kp fun x49 =>
      K (.tuple #[x49, (.int .i64 0)]))) (.int .i64 0)))
def deflate_Stream_Flush_an : Ann := { cuts := [], blks := [], loops := [(6, [32])], drs := [(5, .ofL [(0, 1), (1, 1), (2, 1), (3, 1), (4, 1), (5, 1), (6, 1), (7, 1), (10, 2), (8, 0), (9, 1)])] }
theorem deflate_Stream_Flush_eq (v0 : Value) (Kp : PK) (K : Value → WP) : cevF Try.prog deflate_Stream_Flush_an Try.f15 [v0] Kp K = deflate_Stream_Flush v0 Kp K := by kernel_rfl
theorem deflate_Stream_Flush_calls {v0 : Value} {Kp : PK} {K : Value → WP} {w : World} (h : deflate_Stream_Flush v0 Kp K w) : Calls Try.prog 15 #[v0] w (after Kp K) :=
 calls_of_shape (calls_of_cev wide Try.func15 (an := deflate_Stream_Flush_an) (args := [v0]) (cast (congrFun (deflate_Stream_Flush_eq v0 Kp K) w).symm h))
theorem deflate_Stream_Flush_cn {v0 : Value} {W : World} {α : Type} {A : List HP} {r : α → Value} {B : α → List HP} (h : ∀ F, Ent W (A ++ F) (deflate_Stream_Flush v0 noP fun v w => ∃ x, v = r x ∧ sat W (B x ++ F) w)) : Cn Try.prog 15 [v0] W A r B :=
 Cn.of (shape := deflate_Stream_Flush v0) Try.call15 (fun h => deflate_Stream_Flush_calls h) h
def deflate_Stream_Close (v0 : Value) (Kp : PK) (K : Value → WP) : WP :=
  opN Try.prog (sCall (fn 34) [v0]) Kp fun x6 =>
  opN Try.prog (sEq .neq 24 (.tmp 7) (.const (.int .i64 0)) x6 (.int .i64 0)) Kp fun x8 =>
  condS x8
  (K (.tuple #[(.slice none 0 0), x6]))
  (opN Try.prog (sNil v0) Kp fun x11 =>
   opN Try.prog (sFA 37 x11 4) Kp fun x12 =>
   opN Try.prog (sStore 4 x12 (.bool true)) Kp fun _ =>
   drS (stS Try.prog (sNil v0) fun x14 =>
    stS Try.prog (sFA 37 x14 1) fun x15 =>
    stS Try.prog (sLoad 22 x15) fun x16 =>
    stS Try.prog (sNil v0) fun x18 =>
    stS Try.prog (sFA 37 x18 0) fun x19 =>
    stS Try.prog (sLoad 3 x19) fun x20 =>
    opN Try.prog (sCall (fn 10) [x16, x20]) Kp fun x21 =>
    stS Try.prog (sExt x21 0) fun x22 =>
    stS Try.prog (sExt x21 1) fun x23 =>
    K (.tuple #[x22, x23])))
def deflate_Stream_Close_an : Ann := { cuts := [], blks := [], loops := [], drs := [(5, .ofL [(0, 1), (1, 1), (2, 1), (3, 1), (4, 1), (5, 1), (6, 1), (7, 1), (8, 0), (9, 1), (10, 1), (11, 1), (12, 1)])] }
theorem deflate_Stream_Close_eq (v0 : Value) (Kp : PK) (K : Value → WP) : cevF Try.prog deflate_Stream_Close_an Try.f16 [v0] Kp K = deflate_Stream_Close v0 Kp K := by kernel_rfl
theorem deflate_Stream_Close_calls {v0 : Value} {Kp : PK} {K : Value → WP} {w : World} (h : deflate_Stream_Close v0 Kp K w) : Calls Try.prog 16 #[v0] w (after Kp K) :=
 calls_of_shape (calls_of_cev wide Try.func16 (an := deflate_Stream_Close_an) (args := [v0]) (cast (congrFun (deflate_Stream_Close_eq v0 Kp K) w).symm h))
theorem deflate_Stream_Close_cn {v0 : Value} {W : World} {α : Type} {A : List HP} {r : α → Value} {B : α → List HP} (h : ∀ F, Ent W (A ++ F) (deflate_Stream_Close v0 noP fun v w => ∃ x, v = r x ∧ sat W (B x ++ F) w)) : Cn Try.prog 16 [v0] W A r B :=
 Cn.of (shape := deflate_Stream_Close v0) Try.call16 (fun h => deflate_Stream_Close_calls h) h
def deflate_Stream_Write (v0 v1 : Value) (Kp : PK) (K : Value → WP) : WP :=
  opN Try.prog (sCall (fn 34) [v0]) Kp fun x7 =>
  opN Try.prog (sEq .neq 24 (.tmp 8) (.const (.int .i64 0)) x7 (.int .i64 0)) Kp fun x9 =>
  condS x9
  (K x7)
  (opN Try.prog (sLen #[22] 3 [v1]) Kp fun x12 =>
   opN Try.prog (sNil v0) Kp fun x14 =>
   opN Try.prog (sFA 37 x14 2) Kp fun x15 =>
   opN Try.prog (sLoad 3 x15) Kp fun x16 =>
   opN Try.prog (sBin .sub 3 (.int .i64 524288) x16) Kp fun x17 =>
   opN Try.prog (sBin .gtr 3 x12 x17) Kp fun x18 =>
   condS x18
   (K (.int .i64 6))
   (opN Try.prog (sNil v0) Kp fun x20 =>
    opN Try.prog (sFA 37 x20 2) Kp fun x21 =>
    opN Try.prog (sLoad 3 x21) Kp fun x22 =>
    opN Try.prog (sLen #[22] 3 [v1]) Kp fun x24 =>
    opN Try.prog (sBin .add 3 x22 x24) Kp fun x25 =>
    opN Try.prog (sNil v0) Kp fun x26 =>
    opN Try.prog (sFA 37 x26 2) Kp fun x27 =>
    opN Try.prog (sStore 3 x27 x25) Kp fun _ =>
    opN Try.prog (sNil v0) Kp fun x30 =>
    opN Try.prog (sFA 37 x30 1) Kp fun x31 =>
    opN Try.prog (sLoad 22 x31) Kp fun x32 =>
    opN Try.prog (sApp #[22, 22] 22 [x32, v1]) Kp fun x34 =>
    opN Try.prog (sNil v0) Kp fun x35 =>
    opN Try.prog (sFA 37 x35 1) Kp fun x36 =>
    opN Try.prog (sStore 22 x36 x34) Kp fun _ =>
    K (.int .i64 0)))
def deflate_Stream_Write_an : Ann := { cuts := [], blks := [], loops := [], drs := [] }
theorem deflate_Stream_Write_eq (v0 v1 : Value) (Kp : PK) (K : Value → WP) : cevF Try.prog deflate_Stream_Write_an Try.f17 [v0, v1] Kp K = deflate_Stream_Write v0 v1 Kp K := by kernel_rfl
theorem deflate_Stream_Write_calls {v0 v1 : Value} {Kp : PK} {K : Value → WP} {w : World} (h : deflate_Stream_Write v0 v1 Kp K w) : Calls Try.prog 17 #[v0, v1] w (after Kp K) :=
 calls_of_shape (calls_of_cev wide Try.func17 (an := deflate_Stream_Write_an) (args := [v0, v1]) (cast (congrFun (deflate_Stream_Write_eq v0 v1 Kp K) w).symm h))
theorem deflate_Stream_Write_cn {v0 v1 : Value} {W : World} {α : Type} {A : List HP} {r : α → Value} {B : α → List HP} (h : ∀ F, Ent W (A ++ F) (deflate_Stream_Write v0 v1 noP fun v w => ∃ x, v = r x ∧ sat W (B x ++ F) w)) : Cn Try.prog 17 [v0, v1] W A r B :=
 Cn.of (shape := deflate_Stream_Write v0 v1) Try.call17 (fun h => deflate_Stream_Write_calls h) h
def gzip_Stream_Flush (v0 : Value) (Kp : PK) (K : Value → WP) : WP :=
 opN Try.prog (sCall (fn 37) [v0]) Kp fun x8 =>
 opN Try.prog (sCall (fn 15) [x8]) Kp fun x9 =>
 opN Try.prog (sExt x9 0) Kp fun x10 =>
 opN Try.prog (sExt x9 1) Kp fun x11 =>
 opN Try.prog (sCall (fn 38) [v0, x10]) Kp fun x14 =>
 K (.tuple #[x14, x11])
def gzip_Stream_Flush_an : Ann := { cuts := [], blks := [], loops := [], drs := [] }
theorem gzip_Stream_Flush_eq (v0 : Value) (Kp : PK) (K : Value → WP) : cevF Try.prog gzip_Stream_Flush_an Try.f18 [v0] Kp K = gzip_Stream_Flush v0 Kp K := by kernel_rfl
theorem gzip_Stream_Flush_calls {v0 : Value} {Kp : PK} {K : Value → WP} {w : World} (h : gzip_Stream_Flush v0 Kp K w) : Calls Try.prog 18 #[v0] w (after Kp K) :=
 calls_of_shape (calls_of_cev wide Try.func18 (an := gzip_Stream_Flush_an) (args := [v0]) (cast (congrFun (gzip_Stream_Flush_eq v0 Kp K) w).symm h))
theorem gzip_Stream_Flush_cn {v0 : Value} {W : World} {α : Type} {A : List HP} {r : α → Value} {B : α → List HP} (h : ∀ F, Ent W (A ++ F) (gzip_Stream_Flush v0 noP fun v w => ∃ x, v = r x ∧ sat W (B x ++ F) w)) : Cn Try.prog 18 [v0] W A r B :=
 Cn.of (shape := gzip_Stream_Flush v0) Try.call18 (fun h => gzip_Stream_Flush_calls h) h
def gzip_Stream_Close (v0 : Value) (Kp : PK) (K : Value → WP) : WP :=
  opN Try.prog (sCall (fn 37) [v0]) Kp fun x8 =>
  opN Try.prog (sCall (fn 16) [x8]) Kp fun x9 =>
  opN Try.prog (sExt x9 0) Kp fun x10 =>
  opN Try.prog (sExt x9 1) Kp fun x11 =>
  opN Try.prog (sEq .neq 24 (.tmp 12) (.const (.int .i64 0)) x11 (.int .i64 0)) Kp fun x13 =>
  condS x13
  (K (.tuple #[(.slice none 0 0), x11]))
  (drS (stD Try.prog (sNil v0) fun D4 x19 =>
    stD Try.prog (sFA 42 x19 1) fun D5 x20 =>
    stD Try.prog (sLoad 40 x20) fun D6 x21 =>
    stD Try.prog (sNil v0) fun D9 x24 =>
    stD Try.prog (sFA 42 x24 2) fun D10 x25 =>
    stD Try.prog (sLoad 40 x25) fun D11 x26 =>
    opN Try.prog (sCall (fn 38) [v0, x10]) Kp fun x17 =>
    (fun w => D11 w ∧ (fun w => D10 w ∧ (fun w => D9 w ∧ (fun w => D6 w ∧ (fun w => D5 w ∧ (fun w => D4 w ∧ (opN Try.prog (sCall (fn 39) [x17, x21]) Kp fun x22 =>
           (fun w => D11 w ∧ (fun w => D10 w ∧ (fun w => D9 w ∧ (opN Try.prog (sCall (fn 39) [x22, x26]) Kp fun x27 =>
               K (.tuple #[x27, (.int .i64 0)])) w) w) w)) w) w) w) w) w) w)))
def gzip_Stream_Close_an : Ann := { cuts := [], blks := [], loops := [], drs := [(4, .ofL [(0, 1), (1, 1), (3, 2), (4, 3), (5, 3), (6, 3), (8, 2), (9, 3), (10, 3), (11, 3), (2, 0), (7, 0), (12, 0), (13, 1), (14, 1)])] }
theorem gzip_Stream_Close_eq (v0 : Value) (Kp : PK) (K : Value → WP) : cevF Try.prog gzip_Stream_Close_an Try.f19 [v0] Kp K = gzip_Stream_Close v0 Kp K := by kernel_rfl
theorem gzip_Stream_Close_calls {v0 : Value} {Kp : PK} {K : Value → WP} {w : World} (h : gzip_Stream_Close v0 Kp K w) : Calls Try.prog 19 #[v0] w (after Kp K) :=
 calls_of_shape (calls_of_cev wide Try.func19 (an := gzip_Stream_Close_an) (args := [v0]) (cast (congrFun (gzip_Stream_Close_eq v0 Kp K) w).symm h))
theorem gzip_Stream_Close_cn {v0 : Value} {W : World} {α : Type} {A : List HP} {r : α → Value} {B : α → List HP} (h : ∀ F, Ent W (A ++ F) (gzip_Stream_Close v0 noP fun v w => ∃ x, v = r x ∧ sat W (B x ++ F) w)) : Cn Try.prog 19 [v0] W A r B :=
 Cn.of (shape := gzip_Stream_Close v0) Try.call19 (fun h => gzip_Stream_Close_calls h) h
def law07_num (v0 : Value) (Kp : PK) (K : Value → WP) : WP :=
 K v0
def law07_num_an : Ann := { cuts := [], blks := [], loops := [], drs := [] }
theorem law07_num_eq (v0 : Value) (Kp : PK) (K : Value → WP) : cevF Try.prog law07_num_an Try.f20 [v0] Kp K = law07_num v0 Kp K := by kernel_rfl
theorem law07_num_calls {v0 : Value} {Kp : PK} {K : Value → WP} {w : World} (h : law07_num v0 Kp K w) : Calls Try.prog 20 #[v0] w (after Kp K) :=
 calls_of_shape (calls_of_cev wide Try.func20 (an := law07_num_an) (args := [v0]) (cast (congrFun (law07_num_eq v0 Kp K) w).symm h))
theorem law07_num_cn {v0 : Value} {W : World} {α : Type} {A : List HP} {r : α → Value} {B : α → List HP} (h : ∀ F, Ent W (A ++ F) (law07_num v0 noP fun v w => ∃ x, v = r x ∧ sat W (B x ++ F) w)) : Cn Try.prog 20 [v0] W A r B :=
 Cn.of (shape := law07_num v0) Try.call20 (fun h => law07_num_calls h) h
def gzip_Stream_Write (v0 v1 : Value) (Kp : PK) (K : Value → WP) : WP :=
  opN Try.prog (sCall (fn 37) [v0]) Kp fun x7 =>
  opN Try.prog (sCall (fn 17) [x7, v1]) Kp fun x9 =>
  opN Try.prog (sEq .eql 24 (.tmp 10) (.const (.int .i64 0)) x9 (.int .i64 0)) Kp fun x11 =>
  condS x11
  (opN Try.prog (sNil v0) Kp fun x14 =>
   opN Try.prog (sFA 42 x14 1) Kp fun x15 =>
   opN Try.prog (sLoad 40 x15) Kp fun x16 =>
   opN Try.prog (sCall (fn 40) [x16, v1]) Kp fun x18 =>
   opN Try.prog (sNil v0) Kp fun x19 =>
   opN Try.prog (sFA 42 x19 1) Kp fun x20 =>
   opN Try.prog (sStore 40 x20 x18) Kp fun _ =>
   opN Try.prog (sNil v0) Kp fun x22 =>
   opN Try.prog (sFA 42 x22 2) Kp fun x23 =>
   opN Try.prog (sLoad 40 x23) Kp fun x24 =>
   opN Try.prog (sLen #[22] 3 [v1]) Kp fun x26 =>
   opN Try.prog (sConv 3 40 x26) Kp fun x27 =>
   opN Try.prog (sBin .add 40 x24 x27) Kp fun x28 =>
   opN Try.prog (sNil v0) Kp fun x29 =>
   opN Try.prog (sFA 42 x29 2) Kp fun x30 =>
   opN Try.prog (sStore 40 x30 x28) Kp fun _ =>
   K x9)
  (K x9)
def gzip_Stream_Write_an : Ann := { cuts := [], blks := [], loops := [], drs := [] }
theorem gzip_Stream_Write_eq (v0 v1 : Value) (Kp : PK) (K : Value → WP) : cevF Try.prog gzip_Stream_Write_an Try.f21 [v0, v1] Kp K = gzip_Stream_Write v0 v1 Kp K := by kernel_rfl
theorem gzip_Stream_Write_calls {v0 v1 : Value} {Kp : PK} {K : Value → WP} {w : World} (h : gzip_Stream_Write v0 v1 Kp K w) : Calls Try.prog 21 #[v0, v1] w (after Kp K) :=
 calls_of_shape (calls_of_cev wide Try.func21 (an := gzip_Stream_Write_an) (args := [v0, v1]) (cast (congrFun (gzip_Stream_Write_eq v0 v1 Kp K) w).symm h))
theorem gzip_Stream_Write_cn {v0 v1 : Value} {W : World} {α : Type} {A : List HP} {r : α → Value} {B : α → List HP} (h : ∀ F, Ent W (A ++ F) (gzip_Stream_Write v0 v1 noP fun v w => ∃ x, v = r x ∧ sat W (B x ++ F) w)) : Cn Try.prog 21 [v0, v1] W A r B :=
 Cn.of (shape := gzip_Stream_Write v0 v1) Try.call21 (fun h => gzip_Stream_Write_calls h) h
def law07_knows (Kp : PK) (K : Value → WP) : WP :=
 opN Try.prog (sCall (fn 41) [(.slice none 0 0), (.int .i64 6), (.int .i64 0)]) Kp fun x4 =>
 opN Try.prog (sExt x4 0) Kp fun x5 =>
 opN Try.prog (sExt x4 1) Kp fun x6 =>
 opN Try.prog (sCall (fn 20) [x6]) Kp fun x8 =>
 opN Try.prog (sEq .eql 3 (.tmp 8) (.const (.int .i64 0)) x8 (.int .i64 0)) Kp fun x9 =>
 gdK x9 true (fun k => k x5) fun x11 =>
 gdK x9 true (opN Try.prog (sConv 22 9 x11) Kp) fun x12 =>
 gdK x9 true (opN Try.prog (sEq .eql 9 (.tmp 12) (.const (.string ⟨#[31, 139, 8, 0, 0, 0, 0, 0, 0, 255, 3, 0, 0, 0, 0, 0, 0, 0, 0, 0]⟩)) x12 (.string ⟨#[31, 139, 8, 0, 0, 0, 0, 0, 0, 255, 3, 0, 0, 0, 0, 0, 0, 0, 0, 0]⟩)) Kp) fun x13 =>
 opN Try.prog (sPick x9 x13 (.bool false)) Kp fun x14 =>
 gdK x14 true (opN Try.prog (sBuildSl 22 9 [(0, (.int .u8 49)), (1, (.int .u8 50)), (2, (.int .u8 51)), (3, (.int .u8 52)), (4, (.int .u8 53)), (5, (.int .u8 54)), (6, (.int .u8 55)), (7, (.int .u8 56)), (8, (.int .u8 57))]) Kp) fun x16 =>
 gdK x14 true (opN Try.prog (sConv 22 22 x16) Kp) fun x17 =>
 gdK x14 true (opN Try.prog (sCall (fn 42) [x17]) Kp) fun x18 =>
 gdK x14 true (opN Try.prog (sEq .eql 40 (.tmp 18) (.const (.int .u32 3421780262)) x18 (.int .u32 3421780262)) Kp) fun x19 =>
 opN Try.prog (sPick x14 x19 (.bool false)) Kp fun x20 =>
 K x20
def law07_knows_an : Ann := { cuts := [], blks := [], loops := [], drs := [] }
theorem law07_knows_eq (Kp : PK) (K : Value → WP) : cevF Try.prog law07_knows_an Try.f22 [] Kp K = law07_knows Kp K := by kernel_rfl
theorem law07_knows_calls  {Kp : PK} {K : Value → WP} {w : World} (h : law07_knows Kp K w) : Calls Try.prog 22 #[] w (after Kp K) :=
 calls_of_shape (calls_of_cev wide Try.func22 (an := law07_knows_an) (args := []) (cast (congrFun (law07_knows_eq Kp K) w).symm h))
theorem law07_knows_cn  {W : World} {α : Type} {A : List HP} {r : α → Value} {B : α → List HP} (h : ∀ F, Ent W (A ++ F) (law07_knows noP fun v w => ∃ x, v = r x ∧ sat W (B x ++ F) w)) : Cn Try.prog 22 [] W A r B :=
 Cn.of (shape := law07_knows) Try.call22 (fun h => law07_knows_calls h) h
def deflate_wrong (v0 : Value) (Kp : PK) (K : Value → WP) : WP :=
 opN Try.prog (sBin .lss 3 v0 (.int .i64 0)) Kp fun x4 =>
 gdK x4 false (fun k => k v0) fun x6 =>
 gdK x4 false (opN Try.prog (sBin .gtr 3 x6 (.int .i64 9)) Kp) fun x7 =>
 opN Try.prog (sPick x4 (.bool true) x7) Kp fun x8 =>
 K x8
def deflate_wrong_an : Ann := { cuts := [], blks := [], loops := [], drs := [] }
theorem deflate_wrong_eq (v0 : Value) (Kp : PK) (K : Value → WP) : cevF Try.prog deflate_wrong_an Try.f26 [v0] Kp K = deflate_wrong v0 Kp K := by kernel_rfl
theorem deflate_wrong_calls {v0 : Value} {Kp : PK} {K : Value → WP} {w : World} (h : deflate_wrong v0 Kp K w) : Calls Try.prog 26 #[v0] w (after Kp K) :=
 calls_of_shape (calls_of_cev wide Try.func26 (an := deflate_wrong_an) (args := [v0]) (cast (congrFun (deflate_wrong_eq v0 Kp K) w).symm h))
theorem deflate_wrong_cn {v0 : Value} {W : World} {α : Type} {A : List HP} {r : α → Value} {B : α → List HP} (h : ∀ F, Ent W (A ++ F) (deflate_wrong v0 noP fun v w => ∃ x, v = r x ∧ sat W (B x ++ F) w)) : Cn Try.prog 26 [v0] W A r B :=
 Cn.of (shape := deflate_wrong v0) Try.call26 (fun h => deflate_wrong_calls h) h
def bits_NewWriter (Kp : PK) (K : Value → WP) : WP :=
 opN Try.prog (sBuild 84 [(2, (.bool true))]) Kp fun x1 =>
 opN Try.prog (sBox 84 x1) Kp fun x2 =>
 K x2
def bits_NewWriter_an : Ann := { cuts := [], blks := [], loops := [], drs := [] }
theorem bits_NewWriter_eq (Kp : PK) (K : Value → WP) : cevF Try.prog bits_NewWriter_an Try.f27 [] Kp K = bits_NewWriter Kp K := by kernel_rfl
theorem bits_NewWriter_calls  {Kp : PK} {K : Value → WP} {w : World} (h : bits_NewWriter Kp K w) : Calls Try.prog 27 #[] w (after Kp K) :=
 calls_of_shape (calls_of_cev wide Try.func27 (an := bits_NewWriter_an) (args := []) (cast (congrFun (bits_NewWriter_eq Kp K) w).symm h))
theorem bits_NewWriter_cn  {W : World} {α : Type} {A : List HP} {r : α → Value} {B : α → List HP} (h : ∀ F, Ent W (A ++ F) (bits_NewWriter noP fun v w => ∃ x, v = r x ∧ sat W (B x ++ F) w)) : Cn Try.prog 27 [] W A r B :=
 Cn.of (shape := bits_NewWriter) Try.call27 (fun h => bits_NewWriter_calls h) h
def deflate_blocks (v0 v1 : Value) (Kp : PK) (K : Value → WP) : WP :=
  opN Try.prog (sBox 22 v0) Kp fun x2 =>
  opN Try.prog (sBox 3 v1) Kp fun x3 =>
  opN Try.prog (sAlloc 59) Kp fun x5 =>
  cut0 (fun J1 =>
   opN Try.prog (sLoad 3 x3) Kp fun x16 =>
   opN Try.prog (sBin .gtr 3 x16 (.int .i64 0)) Kp fun x17 =>
   condS x17
   (opN Try.prog (sLoad 22 x2) Kp fun x19 =>
    opN Try.prog (sLoad 3 x3) Kp fun x20 =>
    opN Try.prog (sConv 3 87 x20) Kp fun x21 =>
    opN Try.prog (sBin .shl 3 (.int .i64 2) x21) Kp fun x22 =>
    opN Try.prog (sCall (fn 44) [x19, (.int .i64 32768), x22]) Kp fun x23 =>
    opN Try.prog (sExt x23 0) Kp fun x24 =>
    opN Try.prog (sExt x23 1) Kp fun x25 =>
    opN Try.prog (sStore 59 x5 x24) Kp fun _ =>
    J1)
   (opN Try.prog (sLoad 22 x2) Kp fun x26 =>
    opN Try.prog (sLen #[22] 3 [x26]) Kp fun x27 =>
    loop1 (fun I1 m1 _ y28 =>
     opN Try.prog (sBin .lss 3 y28 x27) Kp fun x29 =>
     condS x29
     (opN Try.prog (sIA 22 x26 y28) Kp fun x30 =>
      opN Try.prog (sLoad 5 x30) Kp fun x31 =>
      opN Try.prog (sLoad 59 x5) Kp fun x32 =>
      opN Try.prog (sBuild 89 [(2, x31)]) Kp fun x34 =>
      opN Try.prog (sBuildSl 59 1 [(0, x34)]) Kp fun x35 =>
      opN Try.prog (sApp #[59, 59] 59 [x32, x35]) Kp fun x36 =>
      opN Try.prog (sStore 59 x5 x36) Kp fun _ =>
      opN Try.prog (sBin .add 3 y28 (.int .i64 1)) Kp fun x37 =>
      next1 I1 m1 x37)
     (J1)) (.int .i64 0))) fun _ =>
  opN Try.prog (sAlloc 57) Kp fun x8 =>
  opN Try.prog (sAlloc 3) Kp fun x9 =>
  opN Try.prog (sAlloc 3) Kp fun x10 =>
  opN Try.prog (sAlloc 3) Kp fun x11 =>
  opN Try.prog (sStore 3 x9 (.int .i64 0)) Kp fun _ =>
  opN Try.prog (sStore 3 x10 (.int .i64 0)) Kp fun _ =>
  opN Try.prog (sStore 3 x11 (.int .i64 0)) Kp fun _ =>
  opN Try.prog (sMkF (.func 45) [] [x8, x5, x9, x2, x10, x11, x3]) Kp fun x38 =>
  opN Try.prog (sLoad 59 x5) Kp fun x39 =>
  opN Try.prog (sLen #[59] 3 [x39]) Kp fun x40 =>
  loop1 (fun I2 m2 _ y41 =>
   opN Try.prog (sBin .lss 3 y41 x40) Kp fun x42 =>
   condS x42
   (opN Try.prog (sIA 59 x39 y41) Kp fun x44 =>
    opN Try.prog (sLoad 89 x44) Kp fun x45 =>
    opN Try.prog (sAlloc 89) Kp fun x14 =>
    opN Try.prog (sStore 89 x14 x45) Kp fun _ =>
    opN Try.prog (sLoad 3 x11) Kp fun x46 =>
    opN Try.prog (sFA 89 x14 0) Kp fun x47 =>
    opN Try.prog (sLoad 3 x47) Kp fun x48 =>
    opN Try.prog (sMax #[3, 3] 3 [(.int .i64 1), x48]) Kp fun x49 =>
    opN Try.prog (sBin .add 3 x46 x49) Kp fun x50 =>
    opN Try.prog (sStore 3 x11 x50) Kp fun _ =>
    opN Try.prog (sLoad 3 x11) Kp fun x51 =>
    opN Try.prog (sLoad 3 x10) Kp fun x52 =>
    opN Try.prog (sBin .sub 3 x51 x52) Kp fun x53 =>
    opN Try.prog (sLoad 3 x3) Kp fun x54 =>
    opN Try.prog (sEq .eql 3 (.tmp 54) (.const (.int .i64 0)) x54 (.int .i64 0)) Kp fun x55 =>
    gdK x55 true (fun k => k x53) fun x57 =>
    gdK x55 true (opN Try.prog (sEq .eql 3 (.tmp 57) (.const (.int .i64 30000)) x57 (.int .i64 30000)) Kp) fun x58 =>
    opN Try.prog (sPick x55 x58 (.bool false)) Kp fun x59 =>
    gdK x59 false (opN Try.prog (sLoad 3 x3) Kp) fun x61 =>
    gdK x59 false (opN Try.prog (sBin .gtr 3 x61 (.int .i64 0)) Kp) fun x62 =>
    gdK x59 false (fun k => k x62) fun x63 =>
    gdK x63 true (fun k => k y41) fun x64 =>
    gdK x63 true (opN Try.prog (sBin .add 3 x64 (.int .i64 1)) Kp) fun x65 =>
    gdK x63 true (opN Try.prog (sLoad 3 x9) Kp) fun x66 =>
    gdK x63 true (opN Try.prog (sBin .sub 3 x65 x66) Kp) fun x67 =>
    gdK x63 true (opN Try.prog (sEq .eql 3 (.tmp 67) (.const (.int .i64 8192)) x67 (.int .i64 8192)) Kp) fun x68 =>
    gdK x63 true (fun k => k x68) fun x69 =>
    gdK x69 false (fun k => k x53) fun x70 =>
    gdK x69 false (opN Try.prog (sBin .gtr 3 x70 (.int .i64 30000)) Kp) fun x71 =>
    gdK x63 true (opN Try.prog (sPick x69 (.bool true) x71) Kp) fun x72 =>
    gdK x59 false (opN Try.prog (sPick x63 x72 (.bool false)) Kp) fun x73 =>
    opN Try.prog (sPick x59 (.bool true) x73) Kp fun x74 =>
    condS x74
    (opN Try.prog (sBin .add 3 y41 (.int .i64 1)) Kp fun x77 =>
     opN Try.prog (sCall x38 [x77]) Kp fun x78 =>
     opN Try.prog (sBin .add 3 y41 (.int .i64 1)) Kp fun x79 =>
     next1 I2 m2 x79)
    (opN Try.prog (sBin .add 3 y41 (.int .i64 1)) Kp fun x79 =>
     next1 I2 m2 x79))
   (opN Try.prog (sLoad 3 x9) Kp fun x80 =>
    opN Try.prog (sLoad 59 x5) Kp fun x81 =>
    opN Try.prog (sLen #[59] 3 [x81]) Kp fun x82 =>
    opN Try.prog (sBin .lss 3 x80 x82) Kp fun x83 =>
    gdK x83 false (opN Try.prog (sLoad 57 x8) Kp) fun x85 =>
    gdK x83 false (opN Try.prog (sLen #[57] 3 [x85]) Kp) fun x86 =>
    gdK x83 false (opN Try.prog (sEq .eql 3 (.tmp 86) (.const (.int .i64 0)) x86 (.int .i64 0)) Kp) fun x87 =>
    opN Try.prog (sPick x83 (.bool true) x87) Kp fun x88 =>
    condS x88
    (opN Try.prog (sLoad 59 x5) Kp fun x90 =>
     opN Try.prog (sLen #[59] 3 [x90]) Kp fun x91 =>
     opN Try.prog (sCall x38 [x91]) Kp fun x92 =>
     opN Try.prog (sLoad 57 x8) Kp fun x93 =>
     K x93)
    (opN Try.prog (sLoad 57 x8) Kp fun x93 =>
     K x93))) (.int .i64 0)
def deflate_blocks_an : Ann := { cuts := [(9, [])], blks := [], loops := [(5, [28]), (13, [41])], drs := [] }
theorem deflate_blocks_eq (v0 v1 : Value) (Kp : PK) (K : Value → WP) : cevF Try.prog deflate_blocks_an Try.f28 [v0, v1] Kp K = deflate_blocks v0 v1 Kp K := by kernel_rfl
theorem deflate_blocks_calls {v0 v1 : Value} {Kp : PK} {K : Value → WP} {w : World} (h : deflate_blocks v0 v1 Kp K w) : Calls Try.prog 28 #[v0, v1] w (after Kp K) :=
 calls_of_shape (calls_of_cev wide Try.func28 (an := deflate_blocks_an) (args := [v0, v1]) (cast (congrFun (deflate_blocks_eq v0 v1 Kp K) w).symm h))
theorem deflate_blocks_cn {v0 v1 : Value} {W : World} {α : Type} {A : List HP} {r : α → Value} {B : α → List HP} (h : ∀ F, Ent W (A ++ F) (deflate_blocks v0 v1 noP fun v w => ∃ x, v = r x ∧ sat W (B x ++ F) w)) : Cn Try.prog 28 [v0, v1] W A r B :=
 Cn.of (shape := deflate_blocks v0 v1) Try.call28 (fun h => deflate_blocks_calls h) h
def deflate_block_put (v0 v1 v2 : Value) (Kp : PK) (K : Value → WP) : WP :=
  opN Try.prog (sBox 61 v0) Kp fun x3 =>
  opN Try.prog (sBuild 92 [(0, (fn 36)), (1, (fn 46)), (2, (fn 47))]) Kp fun x12 =>
  opN Try.prog (sAlloc 92) Kp fun x6 =>
  opN Try.prog (sStore 92 x6 x12) Kp fun _ =>
  cut1 (fun J1 =>
   opN Try.prog (sFA 61 x3 2) Kp fun x13 =>
   opN Try.prog (sLoad 3 x13) Kp fun x14 =>
   opN Try.prog (sBin .gtr 3 x14 (.int .i64 0)) Kp fun x15 =>
   condS x15
   (drS (stD Try.prog (sLoad 61 x3) fun D0 x16 =>
     stD Try.prog (sIA 92 x6 (.int .i64 0)) fun D1 x17 =>
     stD Try.prog (sLoad 91 x17) fun D2 x18 =>
     opN Try.prog (sCall (fn 49) [v1]) Kp fun x20 =>
     (fun w => D2 w ∧ (fun w => D1 w ∧ (fun w => D0 w ∧ (opN Try.prog (sCall (fn 48) [x16, x18, x20]) Kp fun x21 =>
         opN Try.prog (sSl 92 x6 (some (.int .i64 1)) none none) Kp fun x22 =>
         opN Try.prog (sLen #[95] 3 [x22]) Kp fun x23 =>
         loop3 (fun I1 m1 _ y7 y8 y24 =>
          opN Try.prog (sBin .lss 3 y24 x23) Kp fun x25 =>
          condS x25
          (opN Try.prog (sIA 95 x22 y24) Kp fun x27 =>
           opN Try.prog (sLoad 91 x27) Kp fun x28 =>
           drS (stD Try.prog (sLoad 61 x3) fun D0 x29 =>
            opN Try.prog (sCall (fn 49) [v1]) Kp fun x32 =>
            (fun w => D0 w ∧ (opN Try.prog (sCall (fn 48) [x29, x28, x32]) Kp fun x33 =>
              opN Try.prog (sBin .lss 3 x33 y8) Kp fun x36 =>
              condS x36
              (opN Try.prog (sBin .add 3 y24 (.int .i64 1)) Kp fun x39 =>
               opN Try.prog (sBin .add 3 y24 (.int .i64 1)) Kp fun x40 =>
               next3 I1 m1 x39 x33 x40)
              (opN Try.prog (sBin .add 3 y24 (.int .i64 1)) Kp fun x40 =>
               next3 I1 m1 y7 y8 x40)) w)))
          (J1 y7)) (.int .i64 0) x21 (.int .i64 0)) w) w) w)))
   (J1 (.int .i64 0))) fun _ z7 =>
  opN Try.prog (sCall (fn 35) [v1, v2, (.int .i64 1)]) Kp fun x43 =>
  opN Try.prog (sCall (fn 35) [v1, z7, (.int .i64 2)]) Kp fun x46 =>
  drS (stS Try.prog (sIA 92 x6 z7) fun x48 =>
   stS Try.prog (sLoad 91 x48) fun x49 =>
   stS Try.prog (sLoad 61 x3) fun x50 =>
   opN Try.prog (sCall x49 [x50, v1]) Kp fun x52 =>
   K (.tuple #[]))
def deflate_block_put_an : Ann := { cuts := [(12, [7])], blks := [], loops := [(6, [7, 8, 24])], drs := [(4, .ofL [(0, 3), (1, 3), (2, 3), (3, 1), (4, 0), (5, 0), (6, 1)]), (8, .ofL [(0, 3), (1, 2), (2, 1), (3, 0), (4, 0), (5, 1)]), (14, .ofL [(0, 1), (1, 1), (2, 1), (3, 1), (4, 1), (5, 0)])] }
theorem deflate_block_put_eq (v0 v1 v2 : Value) (Kp : PK) (K : Value → WP) : cevF Try.prog deflate_block_put_an Try.f29 [v0, v1, v2] Kp K = deflate_block_put v0 v1 v2 Kp K := by kernel_rfl
theorem deflate_block_put_calls {v0 v1 v2 : Value} {Kp : PK} {K : Value → WP} {w : World} (h : deflate_block_put v0 v1 v2 Kp K w) : Calls Try.prog 29 #[v0, v1, v2] w (after Kp K) :=
 calls_of_shape (calls_of_cev wide Try.func29 (an := deflate_block_put_an) (args := [v0, v1, v2]) (cast (congrFun (deflate_block_put_eq v0 v1 v2 Kp K) w).symm h))
theorem deflate_block_put_cn {v0 v1 v2 : Value} {W : World} {α : Type} {A : List HP} {r : α → Value} {B : α → List HP} (h : ∀ F, Ent W (A ++ F) (deflate_block_put v0 v1 v2 noP fun v w => ∃ x, v = r x ∧ sat W (B x ++ F) w)) : Cn Try.prog 29 [v0, v1, v2] W A r B :=
 Cn.of (shape := deflate_block_put v0 v1 v2) Try.call29 (fun h => deflate_block_put_calls h) h
def bits_Writer_Bytes (v0 : Value) (Kp : PK) (K : Value → WP) : WP :=
  opN Try.prog (sCall (fn 50) [v0]) Kp fun x4 =>
  condS x4
  (K (.slice none 0 0))
  (opN Try.prog (sNil v0) Kp fun x6 =>
   opN Try.prog (sFA 84 x6 0) Kp fun x7 =>
   opN Try.prog (sLoad 22 x7) Kp fun x8 =>
   opN Try.prog (sApp #[22, 22] 22 [(.slice none 0 0), x8]) Kp fun x9 =>
   K x9)
def bits_Writer_Bytes_an : Ann := { cuts := [], blks := [], loops := [], drs := [] }
theorem bits_Writer_Bytes_eq (v0 : Value) (Kp : PK) (K : Value → WP) : cevF Try.prog bits_Writer_Bytes_an Try.f30 [v0] Kp K = bits_Writer_Bytes v0 Kp K := by kernel_rfl
theorem bits_Writer_Bytes_calls {v0 : Value} {Kp : PK} {K : Value → WP} {w : World} (h : bits_Writer_Bytes v0 Kp K w) : Calls Try.prog 30 #[v0] w (after Kp K) :=
 calls_of_shape (calls_of_cev wide Try.func30 (an := bits_Writer_Bytes_an) (args := [v0]) (cast (congrFun (bits_Writer_Bytes_eq v0 Kp K) w).symm h))
theorem bits_Writer_Bytes_cn {v0 : Value} {W : World} {α : Type} {A : List HP} {r : α → Value} {B : α → List HP} (h : ∀ F, Ent W (A ++ F) (bits_Writer_Bytes v0 noP fun v w => ∃ x, v = r x ∧ sat W (B x ++ F) w)) : Cn Try.prog 30 [v0] W A r B :=
 Cn.of (shape := bits_Writer_Bytes v0) Try.call30 (fun h => bits_Writer_Bytes_calls h) h
def deflate_Stream_open (v0 : Value) (Kp : PK) (K : Value → WP) : WP :=
  cut1 (fun J1 =>
   opN Try.prog (sEq .eql 33 (.tmp 4) (.const (.pointer none)) v0 (.pointer none)) Kp fun x5 =>
   condS x5
   (J1 x5)
   (opN Try.prog (sNil v0) Kp fun x7 =>
    opN Try.prog (sFA 37 x7 3) Kp fun x8 =>
    opN Try.prog (sLoad 4 x8) Kp fun x9 =>
    opN Try.prog (sUn .not x9) Kp fun x10 =>
    J1 x10)) fun _ z3 =>
  condS z3
  (K (.int .i64 1))
  (opN Try.prog (sNil v0) Kp fun x13 =>
   opN Try.prog (sFA 37 x13 4) Kp fun x14 =>
   opN Try.prog (sLoad 4 x14) Kp fun x15 =>
   condS x15
   (K (.int .i64 64))
   (K (.int .i64 0)))
def deflate_Stream_open_an : Ann := { cuts := [(3, [3])], blks := [], loops := [], drs := [] }
theorem deflate_Stream_open_eq (v0 : Value) (Kp : PK) (K : Value → WP) : cevF Try.prog deflate_Stream_open_an Try.f34 [v0] Kp K = deflate_Stream_open v0 Kp K := by kernel_rfl
theorem deflate_Stream_open_calls {v0 : Value} {Kp : PK} {K : Value → WP} {w : World} (h : deflate_Stream_open v0 Kp K w) : Calls Try.prog 34 #[v0] w (after Kp K) :=
 calls_of_shape (calls_of_cev wide Try.func34 (an := deflate_Stream_open_an) (args := [v0]) (cast (congrFun (deflate_Stream_open_eq v0 Kp K) w).symm h))
theorem deflate_Stream_open_cn {v0 : Value} {W : World} {α : Type} {A : List HP} {r : α → Value} {B : α → List HP} (h : ∀ F, Ent W (A ++ F) (deflate_Stream_open v0 noP fun v w => ∃ x, v = r x ∧ sat W (B x ++ F) w)) : Cn Try.prog 34 [v0] W A r B :=
 Cn.of (shape := deflate_Stream_open v0) Try.call34 (fun h => deflate_Stream_open_calls h) h
def bits_Writer_Put (v0 v1 v2 : Value) (Kp : PK) (K : Value → WP) : WP :=
  cut1 (fun J1 =>
   opN Try.prog (sCall (fn 50) [v0]) Kp fun x11 =>
   condS x11
   (J1 x11)
   (opN Try.prog (sBin .lss 3 v2 (.int .i64 0)) Kp fun x13 =>
    condS x13
    (J1 x13)
    (opN Try.prog (sBin .gtr 3 v2 (.int .i64 32)) Kp fun x15 =>
     condS x15
     (J1 x15)
     (opN Try.prog (sBin .lss 3 v1 (.int .i64 0)) Kp fun x17 =>
      condS x17
      (J1 x17)
      (opN Try.prog (sMin #[3, 3] 3 [v2, (.int .i64 32)]) Kp fun x20 =>
       opN Try.prog (sMax #[3, 3] 3 [(.int .i64 0), x20]) Kp fun x21 =>
       opN Try.prog (sConv 3 87 x21) Kp fun x22 =>
       opN Try.prog (sBin .shl 3 (.int .i64 1) x22) Kp fun x23 =>
       opN Try.prog (sBin .geq 3 v1 x23) Kp fun x24 =>
       J1 x24))))) fun _ z9 =>
  condS z9
  (K (.int .i64 1))
  (opN Try.prog (sNil v0) Kp fun x28 =>
   opN Try.prog (sFA 84 x28 1) Kp fun x29 =>
   opN Try.prog (sLoad 3 x29) Kp fun x30 =>
   opN Try.prog (sBin .sub 3 (.int .i64 8388608) x30) Kp fun x31 =>
   opN Try.prog (sBin .gtr 3 v2 x31) Kp fun x32 =>
   condS x32
   (K (.int .i64 6))
   (opN Try.prog (sCall (fn 55) []) Kp fun x33 =>
    opN Try.prog (sAlloc 101) Kp fun x7 =>
    opN Try.prog (sStore 101 x7 x33) Kp fun _ =>
    loop1 (fun I1 m1 _ y35 =>
     opN Try.prog (sBin .lss 3 y35 v2) Kp fun x36 =>
     condS x36
     (cut0 (fun J2 =>
       opN Try.prog (sNil v0) Kp fun x39 =>
       opN Try.prog (sFA 84 x39 1) Kp fun x40 =>
       opN Try.prog (sLoad 3 x40) Kp fun x41 =>
       opN Try.prog (sBin .rem 3 x41 (.int .i64 8)) Kp fun x42 =>
       opN Try.prog (sEq .eql 3 (.tmp 42) (.const (.int .i64 0)) x42 (.int .i64 0)) Kp fun x43 =>
       condS x43
       (opN Try.prog (sNil v0) Kp fun x46 =>
        opN Try.prog (sFA 84 x46 0) Kp fun x47 =>
        opN Try.prog (sLoad 22 x47) Kp fun x48 =>
        opN Try.prog (sBuildSl 22 1 [(0, (.int .u8 0))]) Kp fun x49 =>
        opN Try.prog (sApp #[22, 22] 22 [x48, x49]) Kp fun x50 =>
        opN Try.prog (sNil v0) Kp fun x51 =>
        opN Try.prog (sFA 84 x51 0) Kp fun x52 =>
        opN Try.prog (sStore 22 x52 x50) Kp fun _ =>
        J2)
       (J2)) fun _ =>
      cut0 (fun J3 =>
       opN Try.prog (sConv 3 87 y35) Kp fun x55 =>
       opN Try.prog (sBin .shr 3 v1 x55) Kp fun x56 =>
       opN Try.prog (sBin .and 3 x56 (.int .i64 1)) Kp fun x57 =>
       opN Try.prog (sEq .eql 3 (.tmp 57) (.const (.int .i64 1)) x57 (.int .i64 1)) Kp fun x58 =>
       condS x58
       (drS (stS Try.prog (sNil v0) fun x60 =>
         stS Try.prog (sFA 84 x60 0) fun x61 =>
         stS Try.prog (sLoad 22 x61) fun x62 =>
         stS Try.prog (sNil v0) fun x64 =>
         stS Try.prog (sFA 84 x64 1) fun x65 =>
         stS Try.prog (sLoad 3 x65) fun x66 =>
         stS Try.prog (sBin .quo 3 x66 (.int .i64 8)) fun x67 =>
         stS Try.prog (sIA 22 x62 x67) fun x68 =>
         stS Try.prog (sLoad 5 x68) fun x69 =>
         stS Try.prog (sNil v0) fun x71 =>
         stS Try.prog (sFA 84 x71 1) fun x72 =>
         stS Try.prog (sLoad 3 x72) fun x73 =>
         stS Try.prog (sBin .rem 3 x73 (.int .i64 8)) fun x74 =>
         stS Try.prog (sIA 101 x7 x74) fun x75 =>
         stS Try.prog (sLoad 5 x75) fun x76 =>
         stS Try.prog (sBin .or 5 x69 x76) fun x77 =>
         stS Try.prog (sIA 22 x62 x67) fun x78 =>
         opN Try.prog (sStore 5 x78 x77) Kp fun _ =>
         J3))
       (J3)) fun _ =>
      opN Try.prog (sNil v0) Kp fun x80 =>
      opN Try.prog (sFA 84 x80 1) Kp fun x81 =>
      opN Try.prog (sLoad 3 x81) Kp fun x82 =>
      opN Try.prog (sBin .add 3 x82 (.int .i64 1)) Kp fun x83 =>
      opN Try.prog (sNil v0) Kp fun x84 =>
      opN Try.prog (sFA 84 x84 1) Kp fun x85 =>
      opN Try.prog (sStore 3 x85 x83) Kp fun _ =>
      opN Try.prog (sBin .add 3 y35 (.int .i64 1)) Kp fun x86 =>
      next1 I1 m1 x86)
     (K (.int .i64 0))) (.int .i64 0)))
def bits_Writer_Put_an : Ann := { cuts := [(6, [9]), (15, []), (17, [])], blks := [], loops := [(11, [35])], drs := [(16, .ofL [(0, 1), (1, 1), (2, 1), (3, 1), (4, 1), (5, 1), (6, 1), (7, 1), (8, 1), (9, 1), (10, 1), (11, 1), (12, 1), (13, 1), (14, 1), (15, 1), (16, 1), (17, 1), (18, 1), (19, 1), (20, 0)])] }
theorem bits_Writer_Put_eq (v0 v1 v2 : Value) (Kp : PK) (K : Value → WP) : cevF Try.prog bits_Writer_Put_an Try.f35 [v0, v1, v2] Kp K = bits_Writer_Put v0 v1 v2 Kp K := by kernel_rfl
theorem bits_Writer_Put_calls {v0 v1 v2 : Value} {Kp : PK} {K : Value → WP} {w : World} (h : bits_Writer_Put v0 v1 v2 Kp K w) : Calls Try.prog 35 #[v0, v1, v2] w (after Kp K) :=
 calls_of_shape (calls_of_cev wide Try.func35 (an := bits_Writer_Put_an) (args := [v0, v1, v2]) (cast (congrFun (bits_Writer_Put_eq v0 v1 v2 Kp K) w).symm h))
theorem bits_Writer_Put_cn {v0 v1 v2 : Value} {W : World} {α : Type} {A : List HP} {r : α → Value} {B : α → List HP} (h : ∀ F, Ent W (A ++ F) (bits_Writer_Put v0 v1 v2 noP fun v w => ∃ x, v = r x ∧ sat W (B x ++ F) w)) : Cn Try.prog 35 [v0, v1, v2] W A r B :=
 Cn.of (shape := bits_Writer_Put v0 v1 v2) Try.call35 (fun h => bits_Writer_Put_calls h) h
def deflate_block_stored (v0 v1 : Value) (Kp : PK) (K : Value → WP) : WP :=
 opN Try.prog (sBox 61 v0) Kp fun x2 =>
 opN Try.prog (sCall (fn 56) [v1]) Kp fun x5 =>
 opN Try.prog (sFA 61 x2 1) Kp fun x7 =>
 opN Try.prog (sLoad 22 x7) Kp fun x8 =>
 opN Try.prog (sLen #[22] 3 [x8]) Kp fun x9 =>
 opN Try.prog (sCall (fn 35) [v1, x9, (.int .i64 16)]) Kp fun x10 =>
 opN Try.prog (sFA 61 x2 1) Kp fun x12 =>
 opN Try.prog (sLoad 22 x12) Kp fun x13 =>
 opN Try.prog (sLen #[22] 3 [x13]) Kp fun x14 =>
 opN Try.prog (sBin .sub 3 (.int .i64 65535) x14) Kp fun x15 =>
 opN Try.prog (sCall (fn 35) [v1, x15, (.int .i64 16)]) Kp fun x16 =>
 opN Try.prog (sFA 61 x2 1) Kp fun x18 =>
 opN Try.prog (sLoad 22 x18) Kp fun x19 =>
 opN Try.prog (sCall (fn 57) [v1, x19]) Kp fun x20 =>
 K (.tuple #[])
def deflate_block_stored_an : Ann := { cuts := [], blks := [], loops := [], drs := [] }
theorem deflate_block_stored_eq (v0 v1 : Value) (Kp : PK) (K : Value → WP) : cevF Try.prog deflate_block_stored_an Try.f36 [v0, v1] Kp K = deflate_block_stored v0 v1 Kp K := by kernel_rfl
theorem deflate_block_stored_calls {v0 v1 : Value} {Kp : PK} {K : Value → WP} {w : World} (h : deflate_block_stored v0 v1 Kp K w) : Calls Try.prog 36 #[v0, v1] w (after Kp K) :=
 calls_of_shape (calls_of_cev wide Try.func36 (an := deflate_block_stored_an) (args := [v0, v1]) (cast (congrFun (deflate_block_stored_eq v0 v1 Kp K) w).symm h))
theorem deflate_block_stored_cn {v0 v1 : Value} {W : World} {α : Type} {A : List HP} {r : α → Value} {B : α → List HP} (h : ∀ F, Ent W (A ++ F) (deflate_block_stored v0 v1 noP fun v w => ∃ x, v = r x ∧ sat W (B x ++ F) w)) : Cn Try.prog 36 [v0, v1] W A r B :=
 Cn.of (shape := deflate_block_stored v0 v1) Try.call36 (fun h => deflate_block_stored_calls h) h
def gzip_Stream_stream (v0 : Value) (Kp : PK) (K : Value → WP) : WP :=
  opN Try.prog (sEq .eql 39 (.tmp 3) (.const (.pointer none)) v0 (.pointer none)) Kp fun x4 =>
  condS x4
  (K (.pointer none))
  (opN Try.prog (sNil v0) Kp fun x6 =>
   opN Try.prog (sFA 42 x6 0) Kp fun x7 =>
   opN Try.prog (sLoad 33 x7) Kp fun x8 =>
   K x8)
def gzip_Stream_stream_an : Ann := { cuts := [], blks := [], loops := [], drs := [] }
theorem gzip_Stream_stream_eq (v0 : Value) (Kp : PK) (K : Value → WP) : cevF Try.prog gzip_Stream_stream_an Try.f37 [v0] Kp K = gzip_Stream_stream v0 Kp K := by kernel_rfl
theorem gzip_Stream_stream_calls {v0 : Value} {Kp : PK} {K : Value → WP} {w : World} (h : gzip_Stream_stream v0 Kp K w) : Calls Try.prog 37 #[v0] w (after Kp K) :=
 calls_of_shape (calls_of_cev wide Try.func37 (an := gzip_Stream_stream_an) (args := [v0]) (cast (congrFun (gzip_Stream_stream_eq v0 Kp K) w).symm h))
theorem gzip_Stream_stream_cn {v0 : Value} {W : World} {α : Type} {A : List HP} {r : α → Value} {B : α → List HP} (h : ∀ F, Ent W (A ++ F) (gzip_Stream_stream v0 noP fun v w => ∃ x, v = r x ∧ sat W (B x ++ F) w)) : Cn Try.prog 37 [v0] W A r B :=
 Cn.of (shape := gzip_Stream_stream v0) Try.call37 (fun h => gzip_Stream_stream_calls h) h
def gzip_Stream_begun (v0 v1 : Value) (Kp : PK) (K : Value → WP) : WP :=
  opN Try.prog (sEq .eql 39 (.tmp 5) (.const (.pointer none)) v0 (.pointer none)) Kp fun x6 =>
  gdK x6 false (fun k => k v0) fun x8 =>
  gdK x6 false (opN Try.prog (sNil x8) Kp) fun x9 =>
  gdK x6 false (opN Try.prog (sFA 42 x9 3) Kp) fun x10 =>
  gdK x6 false (opN Try.prog (sLoad 4 x10) Kp) fun x11 =>
  opN Try.prog (sPick x6 (.bool true) x11) Kp fun x12 =>
  gdK x12 false (fun k => k v1) fun x14 =>
  gdK x12 false (opN Try.prog (sLen #[22] 3 [x14]) Kp) fun x15 =>
  gdK x12 false (opN Try.prog (sEq .eql 3 (.tmp 15) (.const (.int .i64 0)) x15 (.int .i64 0)) Kp) fun x16 =>
  opN Try.prog (sPick x12 (.bool true) x16) Kp fun x17 =>
  condS x17
  (K v1)
  (opN Try.prog (sNil v0) Kp fun x20 =>
   opN Try.prog (sFA 42 x20 3) Kp fun x21 =>
   opN Try.prog (sStore 4 x21 (.bool true)) Kp fun _ =>
   opN Try.prog (sCall (fn 58) [(.int .i64 0)]) Kp fun x22 =>
   opN Try.prog (sApp #[22, 22] 22 [x22, v1]) Kp fun x24 =>
   K x24)
def gzip_Stream_begun_an : Ann := { cuts := [], blks := [], loops := [], drs := [] }
theorem gzip_Stream_begun_eq (v0 v1 : Value) (Kp : PK) (K : Value → WP) : cevF Try.prog gzip_Stream_begun_an Try.f38 [v0, v1] Kp K = gzip_Stream_begun v0 v1 Kp K := by kernel_rfl
theorem gzip_Stream_begun_calls {v0 v1 : Value} {Kp : PK} {K : Value → WP} {w : World} (h : gzip_Stream_begun v0 v1 Kp K w) : Calls Try.prog 38 #[v0, v1] w (after Kp K) :=
 calls_of_shape (calls_of_cev wide Try.func38 (an := gzip_Stream_begun_an) (args := [v0, v1]) (cast (congrFun (gzip_Stream_begun_eq v0 v1 Kp K) w).symm h))
theorem gzip_Stream_begun_cn {v0 v1 : Value} {W : World} {α : Type} {A : List HP} {r : α → Value} {B : α → List HP} (h : ∀ F, Ent W (A ++ F) (gzip_Stream_begun v0 v1 noP fun v w => ∃ x, v = r x ∧ sat W (B x ++ F) w)) : Cn Try.prog 38 [v0, v1] W A r B :=
 Cn.of (shape := gzip_Stream_begun v0 v1) Try.call38 (fun h => gzip_Stream_begun_calls h) h
def gzip_four (v0 v1 : Value) (Kp : PK) (K : Value → WP) : WP :=
 opN Try.prog (sConv 40 5 v1) Kp fun x7 =>
 opN Try.prog (sBin .shr 40 v1 (.int .u64 8)) Kp fun x9 =>
 opN Try.prog (sConv 40 5 x9) Kp fun x10 =>
 opN Try.prog (sBin .shr 40 v1 (.int .u64 16)) Kp fun x12 =>
 opN Try.prog (sConv 40 5 x12) Kp fun x13 =>
 opN Try.prog (sBin .shr 40 v1 (.int .u64 24)) Kp fun x15 =>
 opN Try.prog (sConv 40 5 x15) Kp fun x16 =>
 opN Try.prog (sBuildSl 22 4 [(0, x7), (1, x10), (2, x13), (3, x16)]) Kp fun x17 =>
 opN Try.prog (sApp #[22, 22] 22 [v0, x17]) Kp fun x18 =>
 K x18
def gzip_four_an : Ann := { cuts := [], blks := [], loops := [], drs := [] }
theorem gzip_four_eq (v0 v1 : Value) (Kp : PK) (K : Value → WP) : cevF Try.prog gzip_four_an Try.f39 [v0, v1] Kp K = gzip_four v0 v1 Kp K := by kernel_rfl
theorem gzip_four_calls {v0 v1 : Value} {Kp : PK} {K : Value → WP} {w : World} (h : gzip_four v0 v1 Kp K w) : Calls Try.prog 39 #[v0, v1] w (after Kp K) :=
 calls_of_shape (calls_of_cev wide Try.func39 (an := gzip_four_an) (args := [v0, v1]) (cast (congrFun (gzip_four_eq v0 v1 Kp K) w).symm h))
theorem gzip_four_cn {v0 v1 : Value} {W : World} {α : Type} {A : List HP} {r : α → Value} {B : α → List HP} (h : ∀ F, Ent W (A ++ F) (gzip_four v0 v1 noP fun v w => ∃ x, v = r x ∧ sat W (B x ++ F) w)) : Cn Try.prog 39 [v0, v1] W A r B :=
 Cn.of (shape := gzip_four v0 v1) Try.call39 (fun h => gzip_four_calls h) h
def gzip_Add (v0 v1 : Value) (Kp : PK) (K : Value → WP) : WP :=
  opN Try.prog (sCall (fn 59) []) Kp fun x9 =>
  opN Try.prog (sAlloc 104) Kp fun x5 =>
  opN Try.prog (sStore 104 x5 x9) Kp fun _ =>
  opN Try.prog (sUn .xor v0) Kp fun x11 =>
  opN Try.prog (sLen #[22] 3 [v1]) Kp fun x13 =>
  loop2 (fun I1 m1 _ y6 y14 =>
   opN Try.prog (sBin .lss 3 y14 x13) Kp fun x15 =>
   condS x15
   (opN Try.prog (sIA 22 v1 y14) Kp fun x16 =>
    opN Try.prog (sLoad 5 x16) Kp fun x17 =>
    opN Try.prog (sConv 40 5 y6) Kp fun x19 =>
    opN Try.prog (sBin .xor 5 x19 x17) Kp fun x21 =>
    opN Try.prog (sIA 104 x5 x21) Kp fun x22 =>
    opN Try.prog (sLoad 40 x22) Kp fun x23 =>
    opN Try.prog (sBin .shr 40 y6 (.int .u64 8)) Kp fun x25 =>
    opN Try.prog (sBin .xor 40 x23 x25) Kp fun x26 =>
    opN Try.prog (sBin .add 3 y14 (.int .i64 1)) Kp fun x27 =>
    next2 I1 m1 x26 x27)
   (opN Try.prog (sUn .xor y6) Kp fun x29 =>
    K x29)) x11 (.int .i64 0)
def gzip_Add_an : Ann := { cuts := [], blks := [], loops := [(4, [6, 14])], drs := [] }
theorem gzip_Add_eq (v0 v1 : Value) (Kp : PK) (K : Value → WP) : cevF Try.prog gzip_Add_an Try.f40 [v0, v1] Kp K = gzip_Add v0 v1 Kp K := by kernel_rfl
theorem gzip_Add_calls {v0 v1 : Value} {Kp : PK} {K : Value → WP} {w : World} (h : gzip_Add v0 v1 Kp K w) : Calls Try.prog 40 #[v0, v1] w (after Kp K) :=
 calls_of_shape (calls_of_cev wide Try.func40 (an := gzip_Add_an) (args := [v0, v1]) (cast (congrFun (gzip_Add_eq v0 v1 Kp K) w).symm h))
theorem gzip_Add_cn {v0 v1 : Value} {W : World} {α : Type} {A : List HP} {r : α → Value} {B : α → List HP} (h : ∀ F, Ent W (A ++ F) (gzip_Add v0 v1 noP fun v w => ∃ x, v = r x ∧ sat W (B x ++ F) w)) : Cn Try.prog 40 [v0, v1] W A r B :=
 Cn.of (shape := gzip_Add v0 v1) Try.call40 (fun h => gzip_Add_calls h) h
def gzip_Pack (v0 v1 v2 : Value) (Kp : PK) (K : Value → WP) : WP :=
  opN Try.prog (sBin .lss 3 v2 (.int .i64 0)) Kp fun x11 =>
  gdK x11 false (fun k => k v2) fun x13 =>
  gdK x11 false (opN Try.prog (sBin .gtr 3 x13 (.int .i64 4294967295)) Kp) fun x14 =>
  opN Try.prog (sPick x11 (.bool true) x14) Kp fun x15 =>
  condS x15
  (K (.tuple #[(.slice none 0 0), (.int .i64 1)]))
  (opN Try.prog (sCall (fn 10) [v0, v1]) Kp fun x19 =>
   opN Try.prog (sExt x19 0) Kp fun x20 =>
   opN Try.prog (sExt x19 1) Kp fun x21 =>
   opN Try.prog (sEq .neq 24 (.tmp 22) (.const (.int .i64 0)) x21 (.int .i64 0)) Kp fun x23 =>
   condS x23
   (K (.tuple #[(.slice none 0 0), x21]))
   (opN Try.prog (sCall (fn 58) [v2]) Kp fun x26 =>
    opN Try.prog (sApp #[22, 22] 22 [x26, x20]) Kp fun x28 =>
    opN Try.prog (sCall (fn 42) [v0]) Kp fun x30 =>
    opN Try.prog (sCall (fn 39) [x28, x30]) Kp fun x31 =>
    opN Try.prog (sLen #[22] 3 [v0]) Kp fun x33 =>
    opN Try.prog (sConv 3 40 x33) Kp fun x34 =>
    opN Try.prog (sCall (fn 39) [x31, x34]) Kp fun x35 =>
    K (.tuple #[x35, (.int .i64 0)])))
def gzip_Pack_an : Ann := { cuts := [], blks := [], loops := [], drs := [] }
theorem gzip_Pack_eq (v0 v1 v2 : Value) (Kp : PK) (K : Value → WP) : cevF Try.prog gzip_Pack_an Try.f41 [v0, v1, v2] Kp K = gzip_Pack v0 v1 v2 Kp K := by kernel_rfl
theorem gzip_Pack_calls {v0 v1 v2 : Value} {Kp : PK} {K : Value → WP} {w : World} (h : gzip_Pack v0 v1 v2 Kp K w) : Calls Try.prog 41 #[v0, v1, v2] w (after Kp K) :=
 calls_of_shape (calls_of_cev wide Try.func41 (an := gzip_Pack_an) (args := [v0, v1, v2]) (cast (congrFun (gzip_Pack_eq v0 v1 v2 Kp K) w).symm h))
theorem gzip_Pack_cn {v0 v1 v2 : Value} {W : World} {α : Type} {A : List HP} {r : α → Value} {B : α → List HP} (h : ∀ F, Ent W (A ++ F) (gzip_Pack v0 v1 v2 noP fun v w => ∃ x, v = r x ∧ sat W (B x ++ F) w)) : Cn Try.prog 41 [v0, v1, v2] W A r B :=
 Cn.of (shape := gzip_Pack v0 v1 v2) Try.call41 (fun h => gzip_Pack_calls h) h
def gzip_Crc (v0 : Value) (Kp : PK) (K : Value → WP) : WP :=
 opN Try.prog (sCall (fn 40) [(.int .u32 0), v0]) Kp fun x4 =>
 K x4
def gzip_Crc_an : Ann := { cuts := [], blks := [], loops := [], drs := [] }
theorem gzip_Crc_eq (v0 : Value) (Kp : PK) (K : Value → WP) : cevF Try.prog gzip_Crc_an Try.f42 [v0] Kp K = gzip_Crc v0 Kp K := by kernel_rfl
theorem gzip_Crc_calls {v0 : Value} {Kp : PK} {K : Value → WP} {w : World} (h : gzip_Crc v0 Kp K w) : Calls Try.prog 42 #[v0] w (after Kp K) :=
 calls_of_shape (calls_of_cev wide Try.func42 (an := gzip_Crc_an) (args := [v0]) (cast (congrFun (gzip_Crc_eq v0 Kp K) w).symm h))
theorem gzip_Crc_cn {v0 : Value} {W : World} {α : Type} {A : List HP} {r : α → Value} {B : α → List HP} (h : ∀ F, Ent W (A ++ F) (gzip_Crc v0 noP fun v w => ∃ x, v = r x ∧ sat W (B x ++ F) w)) : Cn Try.prog 42 [v0] W A r B :=
 Cn.of (shape := gzip_Crc v0) Try.call42 (fun h => gzip_Crc_calls h) h
def lz_Pieces (v0 v1 v2 : Value) (Kp : PK) (K : Value → WP) : WP :=
  cut1 (fun J1 =>
   opN Try.prog (sBin .lss 3 v1 (.int .i64 1)) Kp fun x14 =>
   condS x14
   (J1 x14)
   (opN Try.prog (sBin .gtr 3 v1 (.int .i64 32768)) Kp fun x16 =>
    condS x16
    (J1 x16)
    (opN Try.prog (sBin .lss 3 v2 (.int .i64 0)) Kp fun x18 =>
     condS x18
     (J1 x18)
     (opN Try.prog (sBin .gtr 3 v2 (.int .i64 4096)) Kp fun x20 =>
      J1 x20)))) fun _ z12 =>
  condS z12
  (K (.tuple #[(.slice none 0 0), (.int .i64 1)]))
  (opN Try.prog (sLen #[22] 3 [v0]) Kp fun x23 =>
   opN Try.prog (sBin .gtr 3 x23 (.int .i64 1048576)) Kp fun x24 =>
   condS x24
   (K (.tuple #[(.slice none 0 0), (.int .i64 6)]))
   (opN Try.prog (sMkMap 115 none) Kp fun x26 =>
    opN Try.prog (sBuild 117 [(0, v0), (1, x26), (3, v1), (4, v2)]) Kp fun x29 =>
    opN Try.prog (sBox 117 x29) Kp fun x30 =>
    loop2 (fun I1 m1 _ y9 y10 =>
     opN Try.prog (sLen #[22] 3 [v0]) Kp fun x33 =>
     opN Try.prog (sBin .lss 3 y10 x33) Kp fun x34 =>
     condS x34
     (opN Try.prog (sCall (fn 68) [x30, y10]) Kp fun x37 =>
      opN Try.prog (sCall (fn 69) [x30, y10]) Kp fun x40 =>
      opN Try.prog (sAlloc 89) Kp fun x11 =>
      opN Try.prog (sStore 89 x11 x40) Kp fun _ =>
      opN Try.prog (sLoad 89 x11) Kp fun x42 =>
      opN Try.prog (sBuildSl 59 1 [(0, x42)]) Kp fun x43 =>
      opN Try.prog (sApp #[59, 59] 59 [y9, x43]) Kp fun x44 =>
      opN Try.prog (sFA 89 x11 0) Kp fun x46 =>
      opN Try.prog (sLoad 3 x46) Kp fun x47 =>
      opN Try.prog (sMax #[3, 3] 3 [(.int .i64 1), x47]) Kp fun x48 =>
      opN Try.prog (sBin .add 3 y10 x48) Kp fun x49 =>
      next2 I1 m1 x44 x49)
     (K (.tuple #[y9, (.int .i64 0)]))) (.slice none 0 0) (.int .i64 0)))
def lz_Pieces_an : Ann := { cuts := [(5, [12])], blks := [], loops := [(11, [9, 10])], drs := [] }
theorem lz_Pieces_eq (v0 v1 v2 : Value) (Kp : PK) (K : Value → WP) : cevF Try.prog lz_Pieces_an Try.f44 [v0, v1, v2] Kp K = lz_Pieces v0 v1 v2 Kp K := by kernel_rfl
theorem lz_Pieces_calls {v0 v1 v2 : Value} {Kp : PK} {K : Value → WP} {w : World} (h : lz_Pieces v0 v1 v2 Kp K w) : Calls Try.prog 44 #[v0, v1, v2] w (after Kp K) :=
 calls_of_shape (calls_of_cev wide Try.func44 (an := lz_Pieces_an) (args := [v0, v1, v2]) (cast (congrFun (lz_Pieces_eq v0 v1 v2 Kp K) w).symm h))
theorem lz_Pieces_cn {v0 v1 v2 : Value} {W : World} {α : Type} {A : List HP} {r : α → Value} {B : α → List HP} (h : ∀ F, Ent W (A ++ F) (lz_Pieces v0 v1 v2 noP fun v w => ∃ x, v = r x ∧ sat W (B x ++ F) w)) : Cn Try.prog 44 [v0, v1, v2] W A r B :=
 Cn.of (shape := lz_Pieces v0 v1 v2) Try.call44 (fun h => lz_Pieces_calls h) h
def deflate_blocks_1 (v0 v1 v2 v3 v4 v5 v6 v7 : Value) (Kp : PK) (K : Value → WP) : WP :=
  drS (stD Try.prog (sLoad 57 v1) fun D0 x9 =>
   stS Try.prog (sLoad 59 v2) fun x10 =>
   stS Try.prog (sLoad 3 v3) fun x11 =>
   stS Try.prog (sSl 59 x10 (some x11) (some v0) none) fun x13 =>
   stS Try.prog (sLoad 22 v4) fun x14 =>
   stS Try.prog (sLoad 3 v5) fun x15 =>
   stS Try.prog (sLoad 3 v6) fun x16 =>
   stS Try.prog (sSl 22 x14 (some x15) (some x16) none) fun x17 =>
   stS Try.prog (sLoad 3 v7) fun x18 =>
   stS Try.prog (sBuild 61 [(0, x13), (1, x17), (2, x18)]) fun x19 =>
   opN Try.prog (sBuildSl 57 1 [(0, x19)]) Kp fun x20 =>
   (fun w => D0 w ∧ (opN Try.prog (sApp #[57, 57] 57 [x9, x20]) Kp fun x21 =>
     opN Try.prog (sStore 57 v1 x21) Kp fun _ =>
     drS (stD Try.prog (sLoad 3 v6) fun D1 x23 =>
      opN Try.prog (sStore 3 v3 v0) Kp fun _ =>
      (fun w => D1 w ∧ (opN Try.prog (sStore 3 v5 x23) Kp fun _ =>
        K (.tuple #[])) w))) w))
def deflate_blocks_1_an : Ann := { cuts := [], blks := [], loops := [], drs := [(0, .ofL [(0, 3), (1, 1), (2, 1), (3, 1), (4, 1), (5, 1), (6, 1), (7, 1), (8, 1), (9, 1), (10, 1), (11, 0), (12, 0), (13, 0)]), (1, .ofL [(0, 1), (1, 3), (2, 0), (3, 0)])] }
theorem deflate_blocks_1_eq (v0 v1 v2 v3 v4 v5 v6 v7 : Value) (Kp : PK) (K : Value → WP) : cevF Try.prog deflate_blocks_1_an Try.f45 [v0, v1, v2, v3, v4, v5, v6, v7] Kp K = deflate_blocks_1 v0 v1 v2 v3 v4 v5 v6 v7 Kp K := by kernel_rfl
theorem deflate_blocks_1_calls {v0 v1 v2 v3 v4 v5 v6 v7 : Value} {Kp : PK} {K : Value → WP} {w : World} (h : deflate_blocks_1 v0 v1 v2 v3 v4 v5 v6 v7 Kp K w) : Calls Try.prog 45 #[v0, v1, v2, v3, v4, v5, v6, v7] w (after Kp K) :=
 calls_of_shape (calls_of_cev wide Try.func45 (an := deflate_blocks_1_an) (args := [v0, v1, v2, v3, v4, v5, v6, v7]) (cast (congrFun (deflate_blocks_1_eq v0 v1 v2 v3 v4 v5 v6 v7 Kp K) w).symm h))
theorem deflate_blocks_1_cn {v0 v1 v2 v3 v4 v5 v6 v7 : Value} {W : World} {α : Type} {A : List HP} {r : α → Value} {B : α → List HP} (h : ∀ F, Ent W (A ++ F) (deflate_blocks_1 v0 v1 v2 v3 v4 v5 v6 v7 noP fun v w => ∃ x, v = r x ∧ sat W (B x ++ F) w)) : Cn Try.prog 45 [v0, v1, v2, v3, v4, v5, v6, v7] W A r B :=
 Cn.of (shape := deflate_blocks_1 v0 v1 v2 v3 v4 v5 v6 v7) Try.call45 (fun h => deflate_blocks_1_calls h) h
def deflate_block_fixed (v0 v1 : Value) (Kp : PK) (K : Value → WP) : WP :=
  opN Try.prog (sBox 61 v0) Kp fun x2 =>
  opN Try.prog (sCall (fn 70) []) Kp fun x7 =>
  opN Try.prog (sExt x7 0) Kp fun x8 =>
  opN Try.prog (sExt x7 1) Kp fun x9 =>
  drS (stD Try.prog (sLoad 61 x2) fun D0 x10 =>
   opN Try.prog (sCall (fn 72) [x8]) Kp fun x12 =>
   (fun w => D0 w ∧ (opN Try.prog (sCall (fn 72) [x9]) Kp fun x14 =>
     (fun w => D0 w ∧ (opN Try.prog (sCall (fn 73) [v1]) Kp fun x16 =>
       (fun w => D0 w ∧ (opN Try.prog (sCall (fn 71) [x10, x12, x14, x16]) Kp fun x17 =>
         K (.tuple #[])) w)) w)) w))
def deflate_block_fixed_an : Ann := { cuts := [], blks := [], loops := [], drs := [(2, .ofL [(0, 3), (1, 1), (3, 2), (5, 2), (2, 0), (4, 0), (6, 0), (7, 0)])] }
theorem deflate_block_fixed_eq (v0 v1 : Value) (Kp : PK) (K : Value → WP) : cevF Try.prog deflate_block_fixed_an Try.f46 [v0, v1] Kp K = deflate_block_fixed v0 v1 Kp K := by kernel_rfl
theorem deflate_block_fixed_calls {v0 v1 : Value} {Kp : PK} {K : Value → WP} {w : World} (h : deflate_block_fixed v0 v1 Kp K w) : Calls Try.prog 46 #[v0, v1] w (after Kp K) :=
 calls_of_shape (calls_of_cev wide Try.func46 (an := deflate_block_fixed_an) (args := [v0, v1]) (cast (congrFun (deflate_block_fixed_eq v0 v1 Kp K) w).symm h))
theorem deflate_block_fixed_cn {v0 v1 : Value} {W : World} {α : Type} {A : List HP} {r : α → Value} {B : α → List HP} (h : ∀ F, Ent W (A ++ F) (deflate_block_fixed v0 v1 noP fun v w => ∃ x, v = r x ∧ sat W (B x ++ F) w)) : Cn Try.prog 46 [v0, v1] W A r B :=
 Cn.of (shape := deflate_block_fixed v0 v1) Try.call46 (fun h => deflate_block_fixed_calls h) h
def deflate_block_dynamic (v0 v1 : Value) (Kp : PK) (K : Value → WP) : WP :=
  opN Try.prog (sBox 61 v0) Kp fun x2 =>
  opN Try.prog (sLoad 61 x2) Kp fun x7 =>
  opN Try.prog (sCall (fn 74) [x7]) Kp fun x8 =>
  opN Try.prog (sExt x8 0) Kp fun x9 =>
  opN Try.prog (sExt x8 1) Kp fun x10 =>
  opN Try.prog (sAlloc 124) Kp fun x4 =>
  opN Try.prog (sAlloc 124) Kp fun x5 =>
  opN Try.prog (sStore 124 x4 x9) Kp fun _ =>
  opN Try.prog (sStore 124 x5 x10) Kp fun _ =>
  opN Try.prog (sLoad 124 x4) Kp fun x12 =>
  opN Try.prog (sLoad 124 x5) Kp fun x13 =>
  opN Try.prog (sCall (fn 75) [v1, x12, x13]) Kp fun x14 =>
  drS (stD Try.prog (sLoad 61 x2) fun D0 x15 =>
   stD Try.prog (sLoad 124 x4) fun D1 x16 =>
   stD Try.prog (sLoad 124 x5) fun D2 x17 =>
   opN Try.prog (sCall (fn 73) [v1]) Kp fun x19 =>
   (fun w => D2 w ∧ (fun w => D1 w ∧ (fun w => D0 w ∧ (opN Try.prog (sCall (fn 71) [x15, x16, x17, x19]) Kp fun x20 =>
       K (.tuple #[])) w) w) w))
def deflate_block_dynamic_an : Ann := { cuts := [], blks := [], loops := [], drs := [(3, .ofL [(0, 3), (1, 3), (2, 3), (3, 1), (4, 0), (5, 0)])] }
theorem deflate_block_dynamic_eq (v0 v1 : Value) (Kp : PK) (K : Value → WP) : cevF Try.prog deflate_block_dynamic_an Try.f47 [v0, v1] Kp K = deflate_block_dynamic v0 v1 Kp K := by kernel_rfl
theorem deflate_block_dynamic_calls {v0 v1 : Value} {Kp : PK} {K : Value → WP} {w : World} (h : deflate_block_dynamic v0 v1 Kp K w) : Calls Try.prog 47 #[v0, v1] w (after Kp K) :=
 calls_of_shape (calls_of_cev wide Try.func47 (an := deflate_block_dynamic_an) (args := [v0, v1]) (cast (congrFun (deflate_block_dynamic_eq v0 v1 Kp K) w).symm h))
theorem deflate_block_dynamic_cn {v0 v1 : Value} {W : World} {α : Type} {A : List HP} {r : α → Value} {B : α → List HP} (h : ∀ F, Ent W (A ++ F) (deflate_block_dynamic v0 v1 noP fun v w => ∃ x, v = r x ∧ sat W (B x ++ F) w)) : Cn Try.prog 47 [v0, v1] W A r B :=
 Cn.of (shape := deflate_block_dynamic v0 v1) Try.call47 (fun h => deflate_block_dynamic_calls h) h
def deflate_block_size (v0 v1 v2 : Value) (Kp : PK) (K : Value → WP) : WP :=
 opN Try.prog (sBox 61 v0) Kp fun x3 =>
 opN Try.prog (sCall (fn 27) []) Kp fun x8 =>
 opN Try.prog (sBin .rem 3 v2 (.int .i64 8)) Kp fun x11 =>
 opN Try.prog (sCall (fn 35) [x8, (.int .i64 0), x11]) Kp fun x12 =>
 opN Try.prog (sCall (fn 35) [x8, (.int .i64 0), (.int .i64 3)]) Kp fun x14 =>
 opN Try.prog (sLoad 61 x3) Kp fun x16 =>
 opN Try.prog (sCall v1 [x16, x8]) Kp fun x18 =>
 opN Try.prog (sCall (fn 49) [x8]) Kp fun x20 =>
 opN Try.prog (sBin .rem 3 v2 (.int .i64 8)) Kp fun x22 =>
 opN Try.prog (sBin .sub 3 x20 x22) Kp fun x23 =>
 K x23
def deflate_block_size_an : Ann := { cuts := [], blks := [], loops := [], drs := [] }
theorem deflate_block_size_eq (v0 v1 v2 : Value) (Kp : PK) (K : Value → WP) : cevF Try.prog deflate_block_size_an Try.f48 [v0, v1, v2] Kp K = deflate_block_size v0 v1 v2 Kp K := by kernel_rfl
theorem deflate_block_size_calls {v0 v1 v2 : Value} {Kp : PK} {K : Value → WP} {w : World} (h : deflate_block_size v0 v1 v2 Kp K w) : Calls Try.prog 48 #[v0, v1, v2] w (after Kp K) :=
 calls_of_shape (calls_of_cev wide Try.func48 (an := deflate_block_size_an) (args := [v0, v1, v2]) (cast (congrFun (deflate_block_size_eq v0 v1 v2 Kp K) w).symm h))
theorem deflate_block_size_cn {v0 v1 v2 : Value} {W : World} {α : Type} {A : List HP} {r : α → Value} {B : α → List HP} (h : ∀ F, Ent W (A ++ F) (deflate_block_size v0 v1 v2 noP fun v w => ∃ x, v = r x ∧ sat W (B x ++ F) w)) : Cn Try.prog 48 [v0, v1, v2] W A r B :=
 Cn.of (shape := deflate_block_size v0 v1 v2) Try.call48 (fun h => deflate_block_size_calls h) h
def bits_Writer_Bits (v0 : Value) (Kp : PK) (K : Value → WP) : WP :=
  opN Try.prog (sCall (fn 50) [v0]) Kp fun x4 =>
  condS x4
  (K (.int .i64 0))
  (opN Try.prog (sNil v0) Kp fun x6 =>
   opN Try.prog (sFA 84 x6 1) Kp fun x7 =>
   opN Try.prog (sLoad 3 x7) Kp fun x8 =>
   K x8)
def bits_Writer_Bits_an : Ann := { cuts := [], blks := [], loops := [], drs := [] }
theorem bits_Writer_Bits_eq (v0 : Value) (Kp : PK) (K : Value → WP) : cevF Try.prog bits_Writer_Bits_an Try.f49 [v0] Kp K = bits_Writer_Bits v0 Kp K := by kernel_rfl
theorem bits_Writer_Bits_calls {v0 : Value} {Kp : PK} {K : Value → WP} {w : World} (h : bits_Writer_Bits v0 Kp K w) : Calls Try.prog 49 #[v0] w (after Kp K) :=
 calls_of_shape (calls_of_cev wide Try.func49 (an := bits_Writer_Bits_an) (args := [v0]) (cast (congrFun (bits_Writer_Bits_eq v0 Kp K) w).symm h))
theorem bits_Writer_Bits_cn {v0 : Value} {W : World} {α : Type} {A : List HP} {r : α → Value} {B : α → List HP} (h : ∀ F, Ent W (A ++ F) (bits_Writer_Bits v0 noP fun v w => ∃ x, v = r x ∧ sat W (B x ++ F) w)) : Cn Try.prog 49 [v0] W A r B :=
 Cn.of (shape := bits_Writer_Bits v0) Try.call49 (fun h => bits_Writer_Bits_calls h) h
def bits_Writer_none (v0 : Value) (Kp : PK) (K : Value → WP) : WP :=
 opN Try.prog (sEq .eql 55 (.tmp 3) (.const (.pointer none)) v0 (.pointer none)) Kp fun x4 =>
 gdK x4 false (fun k => k v0) fun x6 =>
 gdK x4 false (opN Try.prog (sNil x6) Kp) fun x7 =>
 gdK x4 false (opN Try.prog (sFA 84 x7 2) Kp) fun x8 =>
 gdK x4 false (opN Try.prog (sLoad 4 x8) Kp) fun x9 =>
 gdK x4 false (opN Try.prog (sUn .not x9) Kp) fun x10 =>
 opN Try.prog (sPick x4 (.bool true) x10) Kp fun x11 =>
 K x11
def bits_Writer_none_an : Ann := { cuts := [], blks := [], loops := [], drs := [] }
theorem bits_Writer_none_eq (v0 : Value) (Kp : PK) (K : Value → WP) : cevF Try.prog bits_Writer_none_an Try.f50 [v0] Kp K = bits_Writer_none v0 Kp K := by kernel_rfl
theorem bits_Writer_none_calls {v0 : Value} {Kp : PK} {K : Value → WP} {w : World} (h : bits_Writer_none v0 Kp K w) : Calls Try.prog 50 #[v0] w (after Kp K) :=
 calls_of_shape (calls_of_cev wide Try.func50 (an := bits_Writer_none_an) (args := [v0]) (cast (congrFun (bits_Writer_none_eq v0 Kp K) w).symm h))
theorem bits_Writer_none_cn {v0 : Value} {W : World} {α : Type} {A : List HP} {r : α → Value} {B : α → List HP} (h : ∀ F, Ent W (A ++ F) (bits_Writer_none v0 noP fun v w => ∃ x, v = r x ∧ sat W (B x ++ F) w)) : Cn Try.prog 50 [v0] W A r B :=
 Cn.of (shape := bits_Writer_none v0) Try.call50 (fun h => bits_Writer_none_calls h) h
def bits_masks (Kp : PK) (K : Value → WP) : WP :=
 opN Try.prog (sAlloc 101) Kp fun x0 =>
 opN Try.prog (sBuild 101 [(0, (.int .u8 1)), (1, (.int .u8 2)), (2, (.int .u8 4)), (3, (.int .u8 8)), (4, (.int .u8 16)), (5, (.int .u8 32)), (6, (.int .u8 64)), (7, (.int .u8 128))]) Kp fun x1 =>
 opN Try.prog (sStore 101 x0 x1) Kp fun _ =>
 (stS Try.prog (sRes 101 x0) fun r0 => K r0)
def bits_masks_an : Ann := { cuts := [], blks := [], loops := [], drs := [] }
theorem bits_masks_eq (Kp : PK) (K : Value → WP) : cevF Try.prog bits_masks_an Try.f55 [] Kp K = bits_masks Kp K := by kernel_rfl
theorem bits_masks_calls  {Kp : PK} {K : Value → WP} {w : World} (h : bits_masks Kp K w) : Calls Try.prog 55 #[] w (after Kp K) :=
 calls_of_shape (calls_of_cev wide Try.func55 (an := bits_masks_an) (args := []) (cast (congrFun (bits_masks_eq Kp K) w).symm h))
theorem bits_masks_cn  {W : World} {α : Type} {A : List HP} {r : α → Value} {B : α → List HP} (h : ∀ F, Ent W (A ++ F) (bits_masks noP fun v w => ∃ x, v = r x ∧ sat W (B x ++ F) w)) : Cn Try.prog 55 [] W A r B :=
 Cn.of (shape := bits_masks) Try.call55 (fun h => bits_masks_calls h) h
def bits_Writer_Align (v0 : Value) (Kp : PK) (K : Value → WP) : WP :=
  opN Try.prog (sCall (fn 50) [v0]) Kp fun x3 =>
  opN Try.prog (sUn .not x3) Kp fun x4 =>
  condS x4
  (opN Try.prog (sNil v0) Kp fun x7 =>
   opN Try.prog (sFA 84 x7 0) Kp fun x8 =>
   opN Try.prog (sLoad 22 x8) Kp fun x9 =>
   opN Try.prog (sLen #[22] 3 [x9]) Kp fun x10 =>
   opN Try.prog (sBin .mul 3 (.int .i64 8) x10) Kp fun x11 =>
   opN Try.prog (sNil v0) Kp fun x12 =>
   opN Try.prog (sFA 84 x12 1) Kp fun x13 =>
   opN Try.prog (sStore 3 x13 x11) Kp fun _ =>
   K (.tuple #[]))
  (K (.tuple #[]))
def bits_Writer_Align_an : Ann := { cuts := [], blks := [], loops := [], drs := [] }
theorem bits_Writer_Align_eq (v0 : Value) (Kp : PK) (K : Value → WP) : cevF Try.prog bits_Writer_Align_an Try.f56 [v0] Kp K = bits_Writer_Align v0 Kp K := by kernel_rfl
theorem bits_Writer_Align_calls {v0 : Value} {Kp : PK} {K : Value → WP} {w : World} (h : bits_Writer_Align v0 Kp K w) : Calls Try.prog 56 #[v0] w (after Kp K) :=
 calls_of_shape (calls_of_cev wide Try.func56 (an := bits_Writer_Align_an) (args := [v0]) (cast (congrFun (bits_Writer_Align_eq v0 Kp K) w).symm h))
theorem bits_Writer_Align_cn {v0 : Value} {W : World} {α : Type} {A : List HP} {r : α → Value} {B : α → List HP} (h : ∀ F, Ent W (A ++ F) (bits_Writer_Align v0 noP fun v w => ∃ x, v = r x ∧ sat W (B x ++ F) w)) : Cn Try.prog 56 [v0] W A r B :=
 Cn.of (shape := bits_Writer_Align v0) Try.call56 (fun h => bits_Writer_Align_calls h) h
def bits_Writer_Raw (v0 v1 : Value) (Kp : PK) (K : Value → WP) : WP :=
  opN Try.prog (sCall (fn 50) [v0]) Kp fun x7 =>
  condS x7
  (K (.int .i64 1))
  (opN Try.prog (sLen #[22] 3 [v1]) Kp fun x10 =>
   opN Try.prog (sNil v0) Kp fun x12 =>
   opN Try.prog (sFA 84 x12 0) Kp fun x13 =>
   opN Try.prog (sLoad 22 x13) Kp fun x14 =>
   opN Try.prog (sLen #[22] 3 [x14]) Kp fun x15 =>
   opN Try.prog (sBin .sub 3 (.int .i64 1048576) x15) Kp fun x16 =>
   opN Try.prog (sBin .gtr 3 x10 x16) Kp fun x17 =>
   condS x17
   (K (.int .i64 6))
   (opN Try.prog (sNil v0) Kp fun x20 =>
    opN Try.prog (sFA 84 x20 0) Kp fun x21 =>
    opN Try.prog (sLoad 22 x21) Kp fun x22 =>
    opN Try.prog (sApp #[22, 22] 22 [x22, v1]) Kp fun x24 =>
    opN Try.prog (sNil v0) Kp fun x25 =>
    opN Try.prog (sFA 84 x25 0) Kp fun x26 =>
    opN Try.prog (sStore 22 x26 x24) Kp fun _ =>
    opN Try.prog (sCall (fn 56) [v0]) Kp fun x28 =>
    K (.int .i64 0)))
def bits_Writer_Raw_an : Ann := { cuts := [], blks := [], loops := [], drs := [] }
theorem bits_Writer_Raw_eq (v0 v1 : Value) (Kp : PK) (K : Value → WP) : cevF Try.prog bits_Writer_Raw_an Try.f57 [v0, v1] Kp K = bits_Writer_Raw v0 v1 Kp K := by kernel_rfl
theorem bits_Writer_Raw_calls {v0 v1 : Value} {Kp : PK} {K : Value → WP} {w : World} (h : bits_Writer_Raw v0 v1 Kp K w) : Calls Try.prog 57 #[v0, v1] w (after Kp K) :=
 calls_of_shape (calls_of_cev wide Try.func57 (an := bits_Writer_Raw_an) (args := [v0, v1]) (cast (congrFun (bits_Writer_Raw_eq v0 v1 Kp K) w).symm h))
theorem bits_Writer_Raw_cn {v0 v1 : Value} {W : World} {α : Type} {A : List HP} {r : α → Value} {B : α → List HP} (h : ∀ F, Ent W (A ++ F) (bits_Writer_Raw v0 v1 noP fun v w => ∃ x, v = r x ∧ sat W (B x ++ F) w)) : Cn Try.prog 57 [v0, v1] W A r B :=
 Cn.of (shape := bits_Writer_Raw v0 v1) Try.call57 (fun h => bits_Writer_Raw_calls h) h
def gzip_head (v0 : Value) (Kp : PK) (K : Value → WP) : WP :=
 opN Try.prog (sBuildSl 22 4 [(0, (.int .u8 31)), (1, (.int .u8 139)), (2, (.int .u8 8)), (3, (.int .u8 0))]) Kp fun x3 =>
 opN Try.prog (sConv 3 40 v0) Kp fun x5 =>
 opN Try.prog (sCall (fn 39) [x3, x5]) Kp fun x6 =>
 opN Try.prog (sBuildSl 22 2 [(0, (.int .u8 0)), (1, (.int .u8 255))]) Kp fun x7 =>
 opN Try.prog (sApp #[22, 22] 22 [x6, x7]) Kp fun x8 =>
 K x8
def gzip_head_an : Ann := { cuts := [], blks := [], loops := [], drs := [] }
theorem gzip_head_eq (v0 : Value) (Kp : PK) (K : Value → WP) : cevF Try.prog gzip_head_an Try.f58 [v0] Kp K = gzip_head v0 Kp K := by kernel_rfl
theorem gzip_head_calls {v0 : Value} {Kp : PK} {K : Value → WP} {w : World} (h : gzip_head v0 Kp K w) : Calls Try.prog 58 #[v0] w (after Kp K) :=
 calls_of_shape (calls_of_cev wide Try.func58 (an := gzip_head_an) (args := [v0]) (cast (congrFun (gzip_head_eq v0 Kp K) w).symm h))
theorem gzip_head_cn {v0 : Value} {W : World} {α : Type} {A : List HP} {r : α → Value} {B : α → List HP} (h : ∀ F, Ent W (A ++ F) (gzip_head v0 noP fun v w => ∃ x, v = r x ∧ sat W (B x ++ F) w)) : Cn Try.prog 58 [v0] W A r B :=
 Cn.of (shape := gzip_head v0) Try.call58 (fun h => gzip_head_calls h) h
def gzip_table (Kp : PK) (K : Value → WP) : WP :=
  opN Try.prog (sAlloc 104) Kp fun x0 =>
  opN Try.prog (sAlloc 104) Kp fun x1 =>
  loop1 (fun I1 m1 _ y4 =>
   opN Try.prog (sBin .lss 3 y4 (.int .i64 256)) Kp fun x5 =>
   condS x5
   (opN Try.prog (sConv 3 40 y4) Kp fun x8 =>
    loop2 (fun I2 m2 _ y3 y9 =>
     opN Try.prog (sBin .lss 3 y9 (.int .i64 8)) Kp fun x10 =>
     condS x10
     (opN Try.prog (sBin .and 40 y3 (.int .u32 1)) Kp fun x12 =>
      opN Try.prog (sEq .eql 40 (.tmp 12) (.const (.int .u32 1)) x12 (.int .u32 1)) Kp fun x13 =>
      condS x13
      (opN Try.prog (sBin .shr 40 y3 (.int .u64 1)) Kp fun x15 =>
       opN Try.prog (sBin .xor 40 x15 (.int .u32 3988292384)) Kp fun x16 =>
       opN Try.prog (sBin .add 3 y9 (.int .i64 1)) Kp fun x19 =>
       next2 I2 m2 x16 x19)
      (opN Try.prog (sBin .shr 40 y3 (.int .u64 1)) Kp fun x18 =>
       opN Try.prog (sBin .add 3 y9 (.int .i64 1)) Kp fun x19 =>
       next2 I2 m2 x18 x19))
     (opN Try.prog (sIA 104 x1 y4) Kp fun x22 =>
      opN Try.prog (sStore 40 x22 y3) Kp fun _ =>
      opN Try.prog (sBin .add 3 y4 (.int .i64 1)) Kp fun x23 =>
      next1 I1 m1 x23)) x8 (.int .i64 0))
   (opN Try.prog (sLoad 104 x1) Kp fun x24 =>
    opN Try.prog (sStore 104 x0 x24) Kp fun _ =>
    (stS Try.prog (sRes 104 x0) fun r0 => K r0))) (.int .i64 0)
def gzip_table_an : Ann := { cuts := [], blks := [], loops := [(3, [4]), (7, [3, 9])], drs := [] }
theorem gzip_table_eq (Kp : PK) (K : Value → WP) : cevF Try.prog gzip_table_an Try.f59 [] Kp K = gzip_table Kp K := by kernel_rfl
theorem gzip_table_calls  {Kp : PK} {K : Value → WP} {w : World} (h : gzip_table Kp K w) : Calls Try.prog 59 #[] w (after Kp K) :=
 calls_of_shape (calls_of_cev wide Try.func59 (an := gzip_table_an) (args := []) (cast (congrFun (gzip_table_eq Kp K) w).symm h))
theorem gzip_table_cn  {W : World} {α : Type} {A : List HP} {r : α → Value} {B : α → List HP} (h : ∀ F, Ent W (A ++ F) (gzip_table noP fun v w => ∃ x, v = r x ∧ sat W (B x ++ F) w)) : Cn Try.prog 59 [] W A r B :=
 Cn.of (shape := gzip_table) Try.call59 (fun h => gzip_table_calls h) h
def lz_finder_learn (v0 v1 : Value) (Kp : PK) (K : Value → WP) : WP :=
  loop0 (fun I1 m1 _  =>
   drS (stS Try.prog (sNil v0) fun x6 =>
    stS Try.prog (sFA 117 x6 2) fun x7 =>
    stS Try.prog (sLoad 3 x7) fun x8 =>
    stS Try.prog (sBin .lss 3 x8 v1) fun x10 =>
    gdK x10 true (fun k => k v0) fun x12 =>
    gdK x10 true (stS Try.prog (sNil x12)) fun x13 =>
    gdK x10 true (stS Try.prog (sFA 117 x13 2)) fun x14 =>
    gdK x10 true (stS Try.prog (sLoad 3 x14)) fun x15 =>
    gdK x10 true (stS Try.prog (sBin .add 3 x15 (.int .i64 3))) fun x16 =>
    gdK x10 true (fun k => k v0) fun x17 =>
    gdK x10 true (stS Try.prog (sNil x17)) fun x18 =>
    gdK x10 true (stS Try.prog (sFA 117 x18 0)) fun x19 =>
    gdK x10 true (stS Try.prog (sLoad 22 x19)) fun x20 =>
    gdK x10 true (stS Try.prog (sLen #[22] 3 [x20])) fun x21 =>
    gdK x10 true (stS Try.prog (sBin .leq 3 x16 x21)) fun x22 =>
    stS Try.prog (sPick x10 x22 (.bool false)) fun x23 =>
    condS x23
    (drS (stD Try.prog (sNil v0) fun D1 x32 =>
      stD Try.prog (sFA 117 x32 0) fun D2 x33 =>
      stD Try.prog (sLoad 22 x33) fun D3 x34 =>
      stD Try.prog (sNil v0) fun D5 x36 =>
      stD Try.prog (sFA 117 x36 2) fun D6 x37 =>
      stD Try.prog (sLoad 3 x37) fun D7 x38 =>
      stD Try.prog (sSl 22 x34 (some x38) none none) fun D8 x39 =>
      stD Try.prog (sArrP 153 x39) fun D9 x40 =>
      stD Try.prog (sLoad 153 x40) fun D10 x41 =>
      opN Try.prog (sAlloc 153) Kp fun x4 =>
      (fun w => D10 w ∧ (fun w => D9 w ∧ (fun w => D8 w ∧ (fun w => D7 w ∧ (fun w => D6 w ∧ (fun w => D5 w ∧ (fun w => D3 w ∧ (fun w => D2 w ∧ (fun w => D1 w ∧ (opN Try.prog (sStore 153 x4 x41) Kp fun _ =>
                drS (stD Try.prog (sNil v0) fun D1 x43 =>
                 stD Try.prog (sFA 117 x43 1) fun D2 x44 =>
                 stD Try.prog (sLoad 115 x44) fun D3 x45 =>
                 stD Try.prog (sLoad 153 x4) fun D4 x46 =>
                 stS Try.prog (sNil v0) fun x49 =>
                 stS Try.prog (sFA 117 x49 2) fun x50 =>
                 stS Try.prog (sLoad 3 x50) fun x51 =>
                 opN Try.prog (sBuildSl 119 1 [(0, x51)]) Kp fun x52 =>
                 (fun w => D4 w ∧ (fun w => D3 w ∧ (fun w => D2 w ∧ (fun w => D1 w ∧ (opN Try.prog (sMapEnt 115 x45 x46) Kp fun x53 =>
                      stS Try.prog (sExt x53 0) fun x47 =>
                      stD Try.prog (sExt x53 1) fun D13 x55 =>
                      opN Try.prog (sApp #[119, 119] 119 [x47, x52]) Kp fun x54 =>
                      (fun w => D13 w ∧ (opN Try.prog (sEntSt 115 x45 x55 x54) Kp fun _ =>
                      opN Try.prog (sNil v0) Kp fun x25 =>
                      opN Try.prog (sFA 117 x25 2) Kp fun x26 =>
                      opN Try.prog (sLoad 3 x26) Kp fun x27 =>
                      opN Try.prog (sBin .add 3 x27 (.int .i64 1)) Kp fun x28 =>
                      opN Try.prog (sNil v0) Kp fun x29 =>
                      opN Try.prog (sFA 117 x29 2) Kp fun x30 =>
                      opN Try.prog (sStore 3 x30 x28) Kp fun _ =>
                      next0 I1 m1) w)) w) w) w) w))) w) w) w) w) w) w) w) w) w)))
    (K (.tuple #[]))))
def lz_finder_learn_an : Ann := { cuts := [], blks := [], loops := [(0, [])], drs := [(0, .ofL [(0, 1), (1, 1), (2, 1), (3, 1), (4, 1), (5, 1), (6, 1), (7, 1), (8, 1), (9, 1), (10, 1), (11, 1), (12, 1), (13, 1), (14, 1), (15, 1), (16, 1), (17, 1), (18, 1)]), (2, .ofL [(0, 2), (1, 3), (2, 3), (3, 3), (4, 2), (5, 3), (6, 3), (7, 3), (8, 3), (9, 3), (10, 3), (11, 0), (12, 0)]), (3, .ofL [(0, 2), (1, 3), (2, 3), (3, 3), (4, 3), (5, 1), (6, 1), (7, 1), (8, 1), (9, 0), (10, 0), (11, 1), (13, 3), (12, 0), (14, 0)])] }
theorem lz_finder_learn_eq (v0 v1 : Value) (Kp : PK) (K : Value → WP) : cevF Try.prog lz_finder_learn_an Try.f68 [v0, v1] Kp K = lz_finder_learn v0 v1 Kp K := by kernel_rfl
theorem lz_finder_learn_calls {v0 v1 : Value} {Kp : PK} {K : Value → WP} {w : World} (h : lz_finder_learn v0 v1 Kp K w) : Calls Try.prog 68 #[v0, v1] w (after Kp K) :=
 calls_of_shape (calls_of_cev wide Try.func68 (an := lz_finder_learn_an) (args := [v0, v1]) (cast (congrFun (lz_finder_learn_eq v0 v1 Kp K) w).symm h))
theorem lz_finder_learn_cn {v0 v1 : Value} {W : World} {α : Type} {A : List HP} {r : α → Value} {B : α → List HP} (h : ∀ F, Ent W (A ++ F) (lz_finder_learn v0 v1 noP fun v w => ∃ x, v = r x ∧ sat W (B x ++ F) w)) : Cn Try.prog 68 [v0, v1] W A r B :=
 Cn.of (shape := lz_finder_learn v0 v1) Try.call68 (fun h => lz_finder_learn_calls h) h
def lz_finder_piece (v0 v1 : Value) (Kp : PK) (K : Value → WP) : WP :=
  opN Try.prog (sBox 114 v0) Kp fun x2 =>
  opN Try.prog (sBox 3 v1) Kp fun x3 =>
  opN Try.prog (sAlloc 89) Kp fun x4 =>
  drS (stD Try.prog (sLoad 114 x2) fun D0 x8 =>
   stD Try.prog (sNil x8) fun D1 x9 =>
   stD Try.prog (sFA 117 x9 0) fun D2 x10 =>
   stD Try.prog (sLoad 22 x10) fun D3 x11 =>
   stD Try.prog (sLoad 3 x3) fun D4 x12 =>
   stD Try.prog (sIA 22 x11 x12) fun D5 x13 =>
   stD Try.prog (sLoad 5 x13) fun D6 x14 =>
   stD Try.prog (sBuild 89 [(2, x14)]) fun D7 x15 =>
   opN Try.prog (sAlloc 89) Kp fun x5 =>
   (fun w => D7 w ∧ (fun w => D6 w ∧ (fun w => D5 w ∧ (fun w => D4 w ∧ (fun w => D3 w ∧ (fun w => D2 w ∧ (fun w => D1 w ∧ (fun w => D0 w ∧ (opN Try.prog (sStore 89 x5 x15) Kp fun _ =>
            opN Try.prog (sLoad 114 x2) Kp fun x16 =>
            opN Try.prog (sLoad 3 x3) Kp fun x17 =>
            opN Try.prog (sCall (fn 96) [x16, x17]) Kp fun x18 =>
            rfS Try.prog x18 1 (fun u19 B1 N1 J1r =>
             B1 (opN Try.prog (sLoad 114 x2) noK fun x20 =>
              opN Try.prog (sLoad 3 x3) noK fun x22 =>
              opN Try.prog (sCall (fn 97) [x20, u19, x22]) noK fun x23 =>
              opN Try.prog (sFA 89 x5 0) noK fun x25 =>
              opN Try.prog (sLoad 3 x25) noK fun x26 =>
              opN Try.prog (sBin .gtr 3 x23 x26) noK fun x27 =>
              condS x27
              (opN Try.prog (sLoad 3 x3) noK fun x29 =>
               opN Try.prog (sBin .sub 3 x29 u19) noK fun x31 =>
               opN Try.prog (sBuild 89 [(0, x23), (1, x31)]) noK fun x32 =>
               opN Try.prog (sStore 89 x5 x32) noK fun _ =>
               N1)
              (N1))) (fun d1 =>
             opN Try.prog (sLoad 89 x5) (KpM [d1] Kp) fun x33 =>
             opN Try.prog (sStore 89 x4 x33) (KpM [d1] Kp) fun _ =>
             (tkS d1 ((stS Try.prog (sRes 89 x4) fun r0 => K r0)))) (fun d1 => (tkS d1 ((stS Try.prog (sRes 89 x4) fun r0 => K r0)))) (fun d1 ch => (tkS d1 (Kp ch)))) w) w) w) w) w) w) w) w))
def lz_finder_piece_an : Ann := { cuts := [], blks := [], loops := [], drs := [(1, .ofL [(0, 3), (1, 3), (2, 3), (3, 3), (4, 3), (5, 3), (6, 3), (7, 3), (8, 0), (9, 0)])] }
theorem lz_finder_piece_eq (v0 v1 : Value) (Kp : PK) (K : Value → WP) : cevFT Try.prog lz_finder_piece_an Try.f69 [v0, v1] Kp K = lz_finder_piece v0 v1 Kp K := by kernel_rfl
theorem lz_finder_piece_calls {v0 v1 : Value} {Kp : PK} {K : Value → WP} {w : World} (h : lz_finder_piece v0 v1 Kp K w) : Calls Try.prog 69 #[v0, v1] w (after Kp K) :=
 calls_of_shape (calls_of_cevT wide Try.func69 (an := lz_finder_piece_an) (args := [v0, v1]) (cast (congrFun (lz_finder_piece_eq v0 v1 Kp K) w).symm h))
theorem lz_finder_piece_cn {v0 v1 : Value} {W : World} {α : Type} {A : List HP} {r : α → Value} {B : α → List HP} (h : ∀ F, Ent W (A ++ F) (lz_finder_piece v0 v1 noP fun v w => ∃ x, v = r x ∧ sat W (B x ++ F) w)) : Cn Try.prog 69 [v0, v1] W A r B :=
 Cn.of (shape := lz_finder_piece v0 v1) Try.call69 (fun h => lz_finder_piece_calls h) h
def inflate_Fixed (Kp : PK) (K : Value → WP) : WP :=
 opN Try.prog (sCall (fn 98) [(.slice none 0 0), (.int .i64 144), (.int .i64 8)]) Kp fun x7 =>
 opN Try.prog (sCall (fn 98) [x7, (.int .i64 112), (.int .i64 9)]) Kp fun x8 =>
 opN Try.prog (sCall (fn 98) [x8, (.int .i64 24), (.int .i64 7)]) Kp fun x9 =>
 opN Try.prog (sCall (fn 98) [x9, (.int .i64 8), (.int .i64 8)]) Kp fun x10 =>
 opN Try.prog (sCall (fn 98) [(.slice none 0 0), (.int .i64 32), (.int .i64 5)]) Kp fun x13 =>
 K (.tuple #[x10, x13])
def inflate_Fixed_an : Ann := { cuts := [], blks := [], loops := [], drs := [] }
theorem inflate_Fixed_eq (Kp : PK) (K : Value → WP) : cevF Try.prog inflate_Fixed_an Try.f70 [] Kp K = inflate_Fixed Kp K := by kernel_rfl
theorem inflate_Fixed_calls  {Kp : PK} {K : Value → WP} {w : World} (h : inflate_Fixed Kp K w) : Calls Try.prog 70 #[] w (after Kp K) :=
 calls_of_shape (calls_of_cev wide Try.func70 (an := inflate_Fixed_an) (args := []) (cast (congrFun (inflate_Fixed_eq Kp K) w).symm h))
theorem inflate_Fixed_cn  {W : World} {α : Type} {A : List HP} {r : α → Value} {B : α → List HP} (h : ∀ F, Ent W (A ++ F) (inflate_Fixed noP fun v w => ∃ x, v = r x ∧ sat W (B x ++ F) w)) : Cn Try.prog 70 [] W A r B :=
 Cn.of (shape := inflate_Fixed) Try.call70 (fun h => inflate_Fixed_calls h) h
def deflate_block_symbols (v0 v1 v2 v3 : Value) (Kp : PK) (K : Value → WP) : WP :=
  opN Try.prog (sBox 61 v0) Kp fun x4 =>
  opN Try.prog (sBox 124 v1) Kp fun x5 =>
  opN Try.prog (sBox 124 v2) Kp fun x6 =>
  opN Try.prog (sFA 61 x4 0) Kp fun x13 =>
  opN Try.prog (sLoad 59 x13) Kp fun x14 =>
  opN Try.prog (sLen #[59] 3 [x14]) Kp fun x15 =>
  loop1 (fun I1 m1 _ y16 =>
   opN Try.prog (sBin .lss 3 y16 x15) Kp fun x17 =>
   condS x17
   (opN Try.prog (sIA 59 x14 y16) Kp fun x18 =>
    opN Try.prog (sLoad 89 x18) Kp fun x19 =>
    opN Try.prog (sAlloc 89) Kp fun x9 =>
    opN Try.prog (sStore 89 x9 x19) Kp fun _ =>
    opN Try.prog (sFA 89 x9 0) Kp fun x20 =>
    opN Try.prog (sLoad 3 x20) Kp fun x21 =>
    opN Try.prog (sEq .eql 3 (.tmp 21) (.const (.int .i64 0)) x21 (.int .i64 0)) Kp fun x22 =>
    condS x22
    (opN Try.prog (sLoad 124 x5) Kp fun x24 =>
     opN Try.prog (sFA 89 x9 2) Kp fun x25 =>
     opN Try.prog (sLoad 5 x25) Kp fun x26 =>
     opN Try.prog (sConv 5 3 x26) Kp fun x27 =>
     opN Try.prog (sCall v3 [x24, x27, (.int .i64 0), (.int .i64 0)]) Kp fun x28 =>
     opN Try.prog (sBin .add 3 y16 (.int .i64 1)) Kp fun x55 =>
     next1 I1 m1 x55)
    (opN Try.prog (sFA 89 x9 0) Kp fun x30 =>
     opN Try.prog (sLoad 3 x30) Kp fun x31 =>
     opN Try.prog (sCall (fn 99) [x31]) Kp fun x32 =>
     opN Try.prog (sExt x32 0) Kp fun x33 =>
     opN Try.prog (sExt x32 1) Kp fun x34 =>
     opN Try.prog (sExt x32 2) Kp fun x35 =>
     opN Try.prog (sLoad 124 x5) Kp fun x37 =>
     opN Try.prog (sCall v3 [x37, x33, x34, x35]) Kp fun x41 =>
     opN Try.prog (sFA 89 x9 1) Kp fun x43 =>
     opN Try.prog (sLoad 3 x43) Kp fun x44 =>
     opN Try.prog (sCall (fn 100) [x44]) Kp fun x45 =>
     opN Try.prog (sExt x45 0) Kp fun x46 =>
     opN Try.prog (sExt x45 1) Kp fun x47 =>
     opN Try.prog (sExt x45 2) Kp fun x48 =>
     opN Try.prog (sLoad 124 x6) Kp fun x50 =>
     opN Try.prog (sCall v3 [x50, x46, x47, x48]) Kp fun x54 =>
     opN Try.prog (sBin .add 3 y16 (.int .i64 1)) Kp fun x55 =>
     next1 I1 m1 x55))
   (opN Try.prog (sLoad 124 x5) Kp fun x57 =>
    opN Try.prog (sCall v3 [x57, (.int .i64 256), (.int .i64 0), (.int .i64 0)]) Kp fun x58 =>
    K (.tuple #[]))) (.int .i64 0)
def deflate_block_symbols_an : Ann := { cuts := [], blks := [], loops := [(2, [16])], drs := [] }
theorem deflate_block_symbols_eq (v0 v1 v2 v3 : Value) (Kp : PK) (K : Value → WP) : cevF Try.prog deflate_block_symbols_an Try.f71 [v0, v1, v2, v3] Kp K = deflate_block_symbols v0 v1 v2 v3 Kp K := by kernel_rfl
theorem deflate_block_symbols_calls {v0 v1 v2 v3 : Value} {Kp : PK} {K : Value → WP} {w : World} (h : deflate_block_symbols v0 v1 v2 v3 Kp K w) : Calls Try.prog 71 #[v0, v1, v2, v3] w (after Kp K) :=
 calls_of_shape (calls_of_cev wide Try.func71 (an := deflate_block_symbols_an) (args := [v0, v1, v2, v3]) (cast (congrFun (deflate_block_symbols_eq v0 v1 v2 v3 Kp K) w).symm h))
theorem deflate_block_symbols_cn {v0 v1 v2 v3 : Value} {W : World} {α : Type} {A : List HP} {r : α → Value} {B : α → List HP} (h : ∀ F, Ent W (A ++ F) (deflate_block_symbols v0 v1 v2 v3 noP fun v w => ∃ x, v = r x ∧ sat W (B x ++ F) w)) : Cn Try.prog 71 [v0, v1, v2, v3] W A r B :=
 Cn.of (shape := deflate_block_symbols v0 v1 v2 v3) Try.call71 (fun h => deflate_block_symbols_calls h) h
def deflate_newSet (v0 : Value) (Kp : PK) (K : Value → WP) : WP :=
 opN Try.prog (sAlloc 124) Kp fun x2 =>
 opN Try.prog (sCall (fn 101) [v0]) Kp fun x7 =>
 opN Try.prog (sExt x7 0) Kp fun x8 =>
 opN Try.prog (sExt x7 1) Kp fun x9 =>
 opN Try.prog (sBuild 124 [(0, v0), (1, x8)]) Kp fun x12 =>
 opN Try.prog (sStore 124 x2 x12) Kp fun _ =>
 (stS Try.prog (sRes 124 x2) fun r0 => K r0)
def deflate_newSet_an : Ann := { cuts := [], blks := [], loops := [], drs := [] }
theorem deflate_newSet_eq (v0 : Value) (Kp : PK) (K : Value → WP) : cevF Try.prog deflate_newSet_an Try.f72 [v0] Kp K = deflate_newSet v0 Kp K := by kernel_rfl
theorem deflate_newSet_calls {v0 : Value} {Kp : PK} {K : Value → WP} {w : World} (h : deflate_newSet v0 Kp K w) : Calls Try.prog 72 #[v0] w (after Kp K) :=
 calls_of_shape (calls_of_cev wide Try.func72 (an := deflate_newSet_an) (args := [v0]) (cast (congrFun (deflate_newSet_eq v0 Kp K) w).symm h))
theorem deflate_newSet_cn {v0 : Value} {W : World} {α : Type} {A : List HP} {r : α → Value} {B : α → List HP} (h : ∀ F, Ent W (A ++ F) (deflate_newSet v0 noP fun v w => ∃ x, v = r x ∧ sat W (B x ++ F) w)) : Cn Try.prog 72 [v0] W A r B :=
 Cn.of (shape := deflate_newSet v0) Try.call72 (fun h => deflate_newSet_calls h) h
def deflate_into (v0 : Value) (Kp : PK) (K : Value → WP) : WP :=
 opN Try.prog (sBox 55 v0) Kp fun x1 =>
 opN Try.prog (sMkF (.func 102) [] [x1]) Kp fun x3 =>
 K x3
def deflate_into_an : Ann := { cuts := [], blks := [], loops := [], drs := [] }
theorem deflate_into_eq (v0 : Value) (Kp : PK) (K : Value → WP) : cevF Try.prog deflate_into_an Try.f73 [v0] Kp K = deflate_into v0 Kp K := by kernel_rfl
theorem deflate_into_calls {v0 : Value} {Kp : PK} {K : Value → WP} {w : World} (h : deflate_into v0 Kp K w) : Calls Try.prog 73 #[v0] w (after Kp K) :=
 calls_of_shape (calls_of_cev wide Try.func73 (an := deflate_into_an) (args := [v0]) (cast (congrFun (deflate_into_eq v0 Kp K) w).symm h))
theorem deflate_into_cn {v0 : Value} {W : World} {α : Type} {A : List HP} {r : α → Value} {B : α → List HP} (h : ∀ F, Ent W (A ++ F) (deflate_into v0 noP fun v w => ∃ x, v = r x ∧ sat W (B x ++ F) w)) : Cn Try.prog 73 [v0] W A r B :=
 Cn.of (shape := deflate_into v0) Try.call73 (fun h => deflate_into_calls h) h
def deflate_block_own (v0 : Value) (Kp : PK) (K : Value → WP) : WP :=
  opN Try.prog (sBox 61 v0) Kp fun x1 =>
  opN Try.prog (sAlloc 124) Kp fun x2 =>
  opN Try.prog (sAlloc 124) Kp fun x3 =>
  cut1 (fun J1 =>
   drS (andS (opN Try.prog (sMkSl 119 (.int .i64 286) (.int .i64 286)) Kp fun x9 =>
     andS (opN Try.prog (sMkSl 119 (.int .i64 30) (.int .i64 30)) Kp fun x10 =>
      stD Try.prog (sBuild 163 [(0, x9), (1, x10)]) fun D2 x11 =>
      opN Try.prog (sAlloc 163) Kp fun x4 =>
      (fun w => D2 w ∧ (opN Try.prog (sStore 163 x4 x11) Kp fun _ =>
        J1 x4) w))
     (opN Try.prog (sAlloc 163) Kp fun x4 =>
      opN Try.prog (sMkSl 119 (.int .i64 30) (.int .i64 30)) Kp fun x10 =>
      stS Try.prog (sBuild 163 [(0, x9), (1, x10)]) fun x11 =>
      opN Try.prog (sStore 163 x4 x11) Kp fun _ =>
      J1 x4))
    (andS (opN Try.prog (sMkSl 119 (.int .i64 30) (.int .i64 30)) Kp fun x10 =>
      andS (opN Try.prog (sMkSl 119 (.int .i64 286) (.int .i64 286)) Kp fun x9 =>
       stD Try.prog (sBuild 163 [(0, x9), (1, x10)]) fun D2 x11 =>
       opN Try.prog (sAlloc 163) Kp fun x4 =>
       (fun w => D2 w ∧ (opN Try.prog (sStore 163 x4 x11) Kp fun _ =>
         J1 x4) w))
      (opN Try.prog (sAlloc 163) Kp fun x4 =>
       opN Try.prog (sMkSl 119 (.int .i64 286) (.int .i64 286)) Kp fun x9 =>
       stS Try.prog (sBuild 163 [(0, x9), (1, x10)]) fun x11 =>
       opN Try.prog (sStore 163 x4 x11) Kp fun _ =>
       J1 x4))
     (opN Try.prog (sAlloc 163) Kp fun x4 =>
      andS (opN Try.prog (sMkSl 119 (.int .i64 286) (.int .i64 286)) Kp fun x9 =>
       opN Try.prog (sMkSl 119 (.int .i64 30) (.int .i64 30)) Kp fun x10 =>
       stS Try.prog (sBuild 163 [(0, x9), (1, x10)]) fun x11 =>
       opN Try.prog (sStore 163 x4 x11) Kp fun _ =>
       J1 x4)
      (opN Try.prog (sMkSl 119 (.int .i64 30) (.int .i64 30)) Kp fun x10 =>
       opN Try.prog (sMkSl 119 (.int .i64 286) (.int .i64 286)) Kp fun x9 =>
       stS Try.prog (sBuild 163 [(0, x9), (1, x10)]) fun x11 =>
       opN Try.prog (sStore 163 x4 x11) Kp fun _ =>
       J1 x4))))) fun _ z4 =>
  opN Try.prog (sLoad 61 x1) Kp fun x12 =>
  opN Try.prog (sIA 163 z4 (.int .i64 0)) Kp fun x13 =>
  opN Try.prog (sLoad 119 x13) Kp fun x14 =>
  opN Try.prog (sBuild 124 [(0, x14)]) Kp fun x15 =>
  opN Try.prog (sIA 163 z4 (.int .i64 1)) Kp fun x16 =>
  opN Try.prog (sLoad 119 x16) Kp fun x17 =>
  opN Try.prog (sBuild 124 [(0, x17)]) Kp fun x18 =>
  opN Try.prog (sCall (fn 71) [x12, x15, x18, (fn 104)]) Kp fun x19 =>
  opN Try.prog (sIA 163 z4 (.int .i64 0)) Kp fun x21 =>
  opN Try.prog (sLoad 119 x21) Kp fun x22 =>
  opN Try.prog (sCall (fn 105) [x22, (.int .i64 15)]) Kp fun x23 =>
  opN Try.prog (sExt x23 0) Kp fun x24 =>
  opN Try.prog (sExt x23 1) Kp fun x25 =>
  opN Try.prog (sIA 163 z4 (.int .i64 1)) Kp fun x27 =>
  opN Try.prog (sLoad 119 x27) Kp fun x28 =>
  opN Try.prog (sCall (fn 105) [x28, (.int .i64 15)]) Kp fun x29 =>
  opN Try.prog (sExt x29 0) Kp fun x30 =>
  opN Try.prog (sExt x29 1) Kp fun x31 =>
  opN Try.prog (sCall (fn 72) [x24]) Kp fun x33 =>
  opN Try.prog (sCall (fn 72) [x30]) Kp fun x35 =>
  opN Try.prog (sStore 124 x2 x33) Kp fun _ =>
  opN Try.prog (sStore 124 x3 x35) Kp fun _ =>
  (stS Try.prog (sRes 124 x2) fun r0 => (stS Try.prog (sRes 124 x3) fun r1 => K (.tuple #[r0, r1])))
def deflate_block_own_an : Ann := { cuts := [], blks := [], loops := [], drs := [(1, (.alt ((.op 0 0 (.alt (.ofL [(1, 0), (2, 3), (3, 0), (4, 0)]) (.ofL [(3, 0), (1, 0), (2, 1), (4, 0)])))) ((.alt ((.op 1 0 (.alt (.ofL [(0, 0), (2, 3), (3, 0), (4, 0)]) (.ofL [(3, 0), (0, 0), (2, 1), (4, 0)])))) ((.op 3 0 (.alt (.ofL [(0, 0), (1, 0), (2, 1), (4, 0)]) (.ofL [(1, 0), (0, 0), (2, 1), (4, 0)]))))))))], rcuts := [(2, [4])] }
theorem deflate_block_own_eq (v0 : Value) (Kp : PK) (K : Value → WP) : cevF Try.prog deflate_block_own_an Try.f74 [v0] Kp K = deflate_block_own v0 Kp K := by kernel_rfl
theorem deflate_block_own_calls {v0 : Value} {Kp : PK} {K : Value → WP} {w : World} (h : deflate_block_own v0 Kp K w) : Calls Try.prog 74 #[v0] w (after Kp K) :=
 calls_of_shape (calls_of_cev wide Try.func74 (an := deflate_block_own_an) (args := [v0]) (cast (congrFun (deflate_block_own_eq v0 Kp K) w).symm h))
theorem deflate_block_own_cn {v0 : Value} {W : World} {α : Type} {A : List HP} {r : α → Value} {B : α → List HP} (h : ∀ F, Ent W (A ++ F) (deflate_block_own v0 noP fun v w => ∃ x, v = r x ∧ sat W (B x ++ F) w)) : Cn Try.prog 74 [v0] W A r B :=
 Cn.of (shape := deflate_block_own v0) Try.call74 (fun h => deflate_block_own_calls h) h
def deflate_head (v0 v1 v2 : Value) (Kp : PK) (K : Value → WP) : WP :=
  opN Try.prog (sBox 55 v0) Kp fun x3 =>
  opN Try.prog (sBox 124 v1) Kp fun x4 =>
  opN Try.prog (sBox 124 v2) Kp fun x5 =>
  drS (stS Try.prog (sFA 124 x4 0) fun x23 =>
   stS Try.prog (sLoad 119 x23) fun x24 =>
   stD Try.prog (sFA 124 x5 0) fun D3 x26 =>
   stD Try.prog (sLoad 119 x26) fun D4 x27 =>
   opN Try.prog (sCall (fn 106) [x24, (.int .i64 257)]) Kp fun x25 =>
   (fun w => D4 w ∧ (fun w => D3 w ∧ (opN Try.prog (sCall (fn 106) [x27, (.int .i64 1)]) Kp fun x28 =>
      drS (stS Try.prog (sFA 124 x4 0) fun x29 =>
       stS Try.prog (sLoad 119 x29) fun x30 =>
       stS Try.prog (sSl 119 x30 none (some x25) none) fun x32 =>
       stD Try.prog (sFA 124 x5 0) fun D5 x34 =>
       stD Try.prog (sLoad 119 x34) fun D6 x35 =>
       stD Try.prog (sSl 119 x35 none (some x28) none) fun D8 x37 =>
       opN Try.prog (sApp #[119, 119] 119 [(.slice none 0 0), x32]) Kp fun x33 =>
       (fun w => D8 w ∧ (fun w => D6 w ∧ (fun w => D5 w ∧ (opN Try.prog (sApp #[119, 119] 119 [x33, x37]) Kp fun x38 =>
           opN Try.prog (sMkSl 119 (.int .i64 19) (.int .i64 19)) Kp fun x39 =>
           opN Try.prog (sAlloc 119) Kp fun x9 =>
           opN Try.prog (sStore 119 x9 x39) Kp fun _ =>
           opN Try.prog (sAlloc 3) Kp fun x10 =>
           opN Try.prog (sStore 3 x10 (.int .i64 0)) Kp fun _ =>
           opN Try.prog (sCall (fn 107) [x38]) Kp fun x41 =>
           rfS Try.prog x41 1 (fun u42 B1 N1 J1r =>
            opN Try.prog (sAlloc 170) noK fun x11 =>
            opN Try.prog (sStore 170 x11 u42) noK fun _ =>
            B1 (opN Try.prog (sLoad 119 x9) noK fun x43 =>
             opN Try.prog (sFA 170 x11 0) noK fun x44 =>
             opN Try.prog (sLoad 3 x44) noK fun x45 =>
             opN Try.prog (sIA 119 x43 x45) noK fun x46 =>
             opN Try.prog (sLoad 3 x46) noK fun x47 =>
             opN Try.prog (sBin .add 3 x47 (.int .i64 1)) noK fun x48 =>
             opN Try.prog (sIA 119 x43 x45) noK fun x49 =>
             opN Try.prog (sStore 3 x49 x48) noK fun _ =>
             opN Try.prog (sLoad 119 x9) noK fun x50 =>
             opN Try.prog (sFA 170 x11 0) noK fun x51 =>
             opN Try.prog (sLoad 3 x51) noK fun x52 =>
             opN Try.prog (sIA 119 x50 x52) noK fun x53 =>
             opN Try.prog (sLoad 3 x53) noK fun x54 =>
             opN Try.prog (sEq .eql 3 (.tmp 54) (.const (.int .i64 1)) x54 (.int .i64 1)) noK fun x55 =>
             condS x55
             (opN Try.prog (sLoad 3 x10) noK fun x56 =>
              opN Try.prog (sBin .add 3 x56 (.int .i64 1)) noK fun x57 =>
              opN Try.prog (sStore 3 x10 x57) noK fun _ =>
              N1)
             (N1))) (fun d1 =>
            cut0 (fun J1 =>
             opN Try.prog (sLoad 3 x10) (KpM [d1] Kp) fun x58 =>
             opN Try.prog (sEq .eql 3 (.tmp 58) (.const (.int .i64 1)) x58 (.int .i64 1)) (KpM [d1] Kp) fun x59 =>
             condS x59
             (cut1 (fun J2 =>
               opN Try.prog (sLoad 119 x9) (KpM [d1] Kp) fun x60 =>
               opN Try.prog (sIA 119 x60 (.int .i64 0)) (KpM [d1] Kp) fun x61 =>
               opN Try.prog (sLoad 3 x61) (KpM [d1] Kp) fun x62 =>
               opN Try.prog (sBin .gtr 3 x62 (.int .i64 0)) (KpM [d1] Kp) fun x63 =>
               condS x63
               (J2 (.int .i64 1))
               (J2 (.int .i64 0))) fun _ z12 =>
              opN Try.prog (sLoad 119 x9) (KpM [d1] Kp) fun x64 =>
              opN Try.prog (sIA 119 x64 z12) (KpM [d1] Kp) fun x66 =>
              opN Try.prog (sLoad 3 x66) (KpM [d1] Kp) fun x67 =>
              opN Try.prog (sBin .add 3 x67 (.int .i64 1)) (KpM [d1] Kp) fun x68 =>
              opN Try.prog (sIA 119 x64 z12) (KpM [d1] Kp) fun x69 =>
              opN Try.prog (sStore 3 x69 x68) (KpM [d1] Kp) fun _ =>
              J1)
             (J1)) fun _ =>
            opN Try.prog (sLoad 119 x9) (KpM [d1] Kp) fun x71 =>
            opN Try.prog (sCall (fn 105) [x71, (.int .i64 7)]) (KpM [d1] Kp) fun x72 =>
            opN Try.prog (sExt x72 0) (KpM [d1] Kp) fun x73 =>
            opN Try.prog (sExt x72 1) (KpM [d1] Kp) fun x74 =>
            opN Try.prog (sCall (fn 72) [x73]) (KpM [d1] Kp) fun x76 =>
            opN Try.prog (sAlloc 124) (KpM [d1] Kp) fun x15 =>
            opN Try.prog (sStore 124 x15 x76) (KpM [d1] Kp) fun _ =>
            opN Try.prog (sBuild 148 [(0, (.int .i64 16)), (1, (.int .i64 17)), (2, (.int .i64 18)), (3, (.int .i64 0)), (4, (.int .i64 8)), (5, (.int .i64 7)), (6, (.int .i64 9)), (7, (.int .i64 6)), (8, (.int .i64 10)), (9, (.int .i64 5)), (10, (.int .i64 11)), (11, (.int .i64 4)), (12, (.int .i64 12)), (13, (.int .i64 3)), (14, (.int .i64 13)), (15, (.int .i64 2)), (16, (.int .i64 14)), (17, (.int .i64 1)), (18, (.int .i64 15))]) (KpM [d1] Kp) fun x77 =>
            loop2 (fun I1 m1 _ y16 y78 =>
             opN Try.prog (sBin .lss 3 y78 (.int .i64 19)) (KpM [d1] Kp) fun x79 =>
             condS x79
             (opN Try.prog (sIx 148 x77 y78) (KpM [d1] Kp) fun x80 =>
              opN Try.prog (sIA 119 x73 x80) (KpM [d1] Kp) fun x84 =>
              opN Try.prog (sLoad 3 x84) (KpM [d1] Kp) fun x85 =>
              opN Try.prog (sBuildSl 119 1 [(0, x85)]) (KpM [d1] Kp) fun x86 =>
              opN Try.prog (sApp #[119, 119] 119 [y16, x86]) (KpM [d1] Kp) fun x87 =>
              opN Try.prog (sBin .add 3 y78 (.int .i64 1)) (KpM [d1] Kp) fun x88 =>
              next2 I1 m1 x87 x88)
             (opN Try.prog (sCall (fn 106) [y16, (.int .i64 4)]) (KpM [d1] Kp) fun x90 =>
              opN Try.prog (sLoad 55 x3) (KpM [d1] Kp) fun x91 =>
              opN Try.prog (sBin .sub 3 x25 (.int .i64 257)) (KpM [d1] Kp) fun x93 =>
              opN Try.prog (sCall (fn 35) [x91, x93, (.int .i64 5)]) (KpM [d1] Kp) fun x94 =>
              opN Try.prog (sLoad 55 x3) (KpM [d1] Kp) fun x95 =>
              opN Try.prog (sBin .sub 3 x28 (.int .i64 1)) (KpM [d1] Kp) fun x97 =>
              opN Try.prog (sCall (fn 35) [x95, x97, (.int .i64 5)]) (KpM [d1] Kp) fun x98 =>
              opN Try.prog (sLoad 55 x3) (KpM [d1] Kp) fun x99 =>
              opN Try.prog (sBin .sub 3 x90 (.int .i64 4)) (KpM [d1] Kp) fun x101 =>
              opN Try.prog (sCall (fn 35) [x99, x101, (.int .i64 4)]) (KpM [d1] Kp) fun x102 =>
              opN Try.prog (sSl 119 y16 none (some x90) none) (KpM [d1] Kp) fun x105 =>
              opN Try.prog (sLen #[119] 3 [x105]) (KpM [d1] Kp) fun x106 =>
              loop1 (fun I2 m2 _ y107 =>
               opN Try.prog (sBin .lss 3 y107 x106) (KpM [d1] Kp) fun x108 =>
               condS x108
               (opN Try.prog (sIA 119 x105 y107) (KpM [d1] Kp) fun x109 =>
                opN Try.prog (sLoad 3 x109) (KpM [d1] Kp) fun x110 =>
                opN Try.prog (sLoad 55 x3) (KpM [d1] Kp) fun x111 =>
                opN Try.prog (sCall (fn 35) [x111, x110, (.int .i64 3)]) (KpM [d1] Kp) fun x113 =>
                opN Try.prog (sBin .add 3 y107 (.int .i64 1)) (KpM [d1] Kp) fun x114 =>
                next1 I2 m2 x114)
               (opN Try.prog (sCall (fn 107) [x38]) (KpM [d1] Kp) fun x116 =>
                rfS Try.prog x116 1 (fun u117 B2 N2 J2r =>
                 opN Try.prog (sAlloc 170) noK fun x22 =>
                 opN Try.prog (sStore 170 x22 u117) noK fun _ =>
                 B2 (opN Try.prog (sLoad 55 x3) noK fun x118 =>
                  opN Try.prog (sFA 124 x15 1) noK fun x119 =>
                  opN Try.prog (sLoad 119 x119) noK fun x120 =>
                  opN Try.prog (sFA 124 x15 0) noK fun x121 =>
                  opN Try.prog (sLoad 119 x121) noK fun x122 =>
                  opN Try.prog (sFA 170 x22 0) noK fun x123 =>
                  opN Try.prog (sLoad 3 x123) noK fun x124 =>
                  opN Try.prog (sCall (fn 103) [x118, x120, x122, x124]) noK fun x125 =>
                  opN Try.prog (sLoad 55 x3) noK fun x126 =>
                  opN Try.prog (sFA 170 x22 2) noK fun x127 =>
                  opN Try.prog (sLoad 3 x127) noK fun x128 =>
                  opN Try.prog (sFA 170 x22 1) noK fun x129 =>
                  opN Try.prog (sLoad 3 x129) noK fun x130 =>
                  opN Try.prog (sCall (fn 35) [x126, x128, x130]) noK fun x131 =>
                  N2)) (fun d2 =>
                 (tkS d2 (tkS d1 (K (.tuple #[]))))) (fun d2 => (tkS d2 (tkS d1 (K (.tuple #[]))))) (fun d2 ch => (tkS d2 (tkS d1 (Kp ch)))))) (.int .i64 0))) (.slice none 0 0) (.int .i64 0)) (fun d1 => (tkS d1 (K (.tuple #[])))) (fun d1 ch => (tkS d1 (Kp ch)))) w) w) w))) w) w))
def deflate_head_an : Ann := { cuts := [(14, [12]), (15, [])], blks := [], loops := [(19, [16, 78]), (28, [107])], drs := [(1, .ofL [(0, 1), (1, 1), (3, 3), (4, 3), (2, 0), (5, 0), (6, 1), (7, 1)]), (2, .ofL [(0, 1), (1, 1), (2, 1), (3, 1), (5, 3), (6, 3), (7, 2), (8, 3), (4, 0), (9, 0), (10, 1)])] }
theorem deflate_head_eq (v0 v1 v2 : Value) (Kp : PK) (K : Value → WP) : cevFT Try.prog deflate_head_an Try.f75 [v0, v1, v2] Kp K = deflate_head v0 v1 v2 Kp K := by kernel_rfl
theorem deflate_head_calls {v0 v1 v2 : Value} {Kp : PK} {K : Value → WP} {w : World} (h : deflate_head v0 v1 v2 Kp K w) : Calls Try.prog 75 #[v0, v1, v2] w (after Kp K) :=
 calls_of_shape (calls_of_cevT wide Try.func75 (an := deflate_head_an) (args := [v0, v1, v2]) (cast (congrFun (deflate_head_eq v0 v1 v2 Kp K) w).symm h))
theorem deflate_head_cn {v0 v1 v2 : Value} {W : World} {α : Type} {A : List HP} {r : α → Value} {B : α → List HP} (h : ∀ F, Ent W (A ++ F) (deflate_head v0 v1 v2 noP fun v w => ∃ x, v = r x ∧ sat W (B x ++ F) w)) : Cn Try.prog 75 [v0, v1, v2] W A r B :=
 Cn.of (shape := deflate_head v0 v1 v2) Try.call75 (fun h => deflate_head_calls h) h
end Go.Proofs.Ythoeeahdkdcceaa.S
