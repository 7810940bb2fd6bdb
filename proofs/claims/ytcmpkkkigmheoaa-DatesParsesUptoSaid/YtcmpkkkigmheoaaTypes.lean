/- What the loaded program's types are, one fact a line; printed by a program of mine. No conditions. -/
import Derived.Test.YtcmpkkkigmheoaaChecked
import Derived.Test.YtcmpkkkigmheoaaRead
import Derived.Test.YtcmpkkkigmheoaaMap
import Derived.KernelRfl
set_option linter.unusedVariables false
set_option linter.unusedSimpArgs false
namespace Go.Proofs.Ytcmpkkkigmheoaa.T
open Go Go.Proofs Go.Proofs.Ytcmpkkkigmheoaa.Sh Go.Proofs.Ytcmpkkkigmheoaa.Sl
theorem fld {P : Program} {t : TypeId} {fs : Array Field} {f ft o n : Nat} (hu : ∀ w, (underlying t).run P w = .ok (.struct fs) w) (hf : (fs[f]?).map (fun x => (x.type, x.offset)) = some (ft, o)) (hs : ∀ w, (sizeOf ft).run P w = .ok (n + 1) w) : FldT P t f o :=
  ⟨fun g b w => by
    cases h : fs[f]? with
    | none => rw [h] at hf; cases hf
    | some fl =>
      rw [h] at hf
      simp only [Option.map_some, Option.some.injEq, Prod.mk.injEq] at hf
      obtain ⟨rfl, rfl⟩ := hf
      simp only [Instr.fieldAt, Sem.run_bind, hu, Result.andThen_ok, h, Instr.sureAddr, fieldPlace, hs, Sem.run_pure]
      by_cases h0 : fl.offset = 0 <;> simp [Addr.add, h0]⟩
theorem slt {P : Program} {t e : TypeId} {i : TypeInfo} {z : Value} {s b : Nat} (hu : P.underlying t = some (.slice e)) (hi : P.info? e = some i) (hz : i.zero = some z) (hs : i.size = s) (hb : i.bytes = b) (hzs : z.cells.size = s) : SlT P t e s b := ⟨hu, i, z, hi, hz, hs, hb, hzs⟩

instance one_1 : OneT Try.prog 1 := ⟨Try.isAgg1, Try.sizeOf1⟩
instance zero_1 : ZeroT Try.prog 1 .nilFunc := ⟨Try.zeroValue1⟩
instance one_2 : OneT Try.prog 2 := ⟨Try.isAgg2, Try.sizeOf2⟩
instance zero_2 : ZeroT Try.prog 2 (.int .i64 0) := ⟨Try.zeroValue2⟩
instance int_2 : IntT Try.prog 2 .i64 := ⟨Try.runUnderlying2⟩
instance one_3 : OneT Try.prog 3 := ⟨Try.isAgg3, Try.sizeOf3⟩
instance zero_3 : ZeroT Try.prog 3 (.int .i64 0) := ⟨Try.zeroValue3⟩
instance int_3 : IntT Try.prog 3 .i64 := ⟨Try.runUnderlying3⟩
instance one_4 : OneT Try.prog 4 := ⟨Try.isAgg4, Try.sizeOf4⟩
instance zero_4 : ZeroT Try.prog 4 (.bool false) := ⟨Try.zeroValue4⟩
instance one_5 : OneT Try.prog 5 := ⟨Try.isAgg5, Try.sizeOf5⟩
instance zero_5 : ZeroT Try.prog 5 (.int .u8 0) := ⟨Try.zeroValue5⟩
instance int_5 : IntT Try.prog 5 .u8 := ⟨Try.runUnderlying5⟩
instance one_6 : OneT Try.prog 6 := ⟨Try.isAgg6, Try.sizeOf6⟩
instance zero_6 : ZeroT Try.prog 6 (.int .u8 0) := ⟨Try.zeroValue6⟩
instance int_6 : IntT Try.prog 6 .u8 := ⟨Try.runUnderlying6⟩
instance zero_7 : ZeroT Try.prog 7 (.agg #[(.int .i64 0), (.int .i64 0), (.bool false), (.int .u8 0)]) := ⟨Try.zeroValue7⟩
instance agg_7 : AggT Try.prog 7 4 := ⟨Try.isAgg7, Try.sizeOf7⟩
instance fld_7_0 : FldT Try.prog 7 0 0 := fld Try.runUnderlying7 (ft := 2) (by kernel_rfl) Try.sizeOf2
instance fld_7_1 : FldT Try.prog 7 1 1 := fld Try.runUnderlying7 (ft := 3) (by kernel_rfl) Try.sizeOf3
instance fld_7_2 : FldT Try.prog 7 2 2 := fld Try.runUnderlying7 (ft := 4) (by kernel_rfl) Try.sizeOf4
instance fld_7_3 : FldT Try.prog 7 3 3 := fld Try.runUnderlying7 (ft := 6) (by kernel_rfl) Try.sizeOf6
instance zero_8 : ZeroT Try.prog 8 (.agg #[(.int .i64 0), (.int .i64 0), (.bool false), (.int .u8 0)]) := ⟨Try.zeroValue8⟩
instance agg_8 : AggT Try.prog 8 4 := ⟨Try.isAgg8, Try.sizeOf8⟩
instance fld_8_0 : FldT Try.prog 8 0 0 := fld Try.runUnderlying8 (ft := 2) (by kernel_rfl) Try.sizeOf2
instance fld_8_1 : FldT Try.prog 8 1 1 := fld Try.runUnderlying8 (ft := 3) (by kernel_rfl) Try.sizeOf3
instance fld_8_2 : FldT Try.prog 8 2 2 := fld Try.runUnderlying8 (ft := 4) (by kernel_rfl) Try.sizeOf4
instance fld_8_3 : FldT Try.prog 8 3 3 := fld Try.runUnderlying8 (ft := 6) (by kernel_rfl) Try.sizeOf6
instance one_9 : OneT Try.prog 9 := ⟨Try.isAgg9, Try.sizeOf9⟩
instance zero_9 : ZeroT Try.prog 9 (.string ⟨#[]⟩) := ⟨Try.zeroValue9⟩
instance str_9 : StrT Try.prog 9 := ⟨Try.underlying9⟩
instance one_10 : OneT Try.prog 10 := ⟨Try.isAgg10, Try.sizeOf10⟩
instance zero_10 : ZeroT Try.prog 10 (.string ⟨#[]⟩) := ⟨Try.zeroValue10⟩
instance str_10 : StrT Try.prog 10 := ⟨Try.underlying10⟩
instance one_11 : OneT Try.prog 11 := ⟨Try.isAgg11, Try.sizeOf11⟩
instance zero_11 : ZeroT Try.prog 11 (.string ⟨#[]⟩) := ⟨Try.zeroValue11⟩
instance str_11 : StrT Try.prog 11 := ⟨Try.underlying11⟩
instance one_12 : OneT Try.prog 12 := ⟨Try.isAgg12, Try.sizeOf12⟩
instance zero_12 : ZeroT Try.prog 12 (.int .u64 0) := ⟨Try.zeroValue12⟩
instance int_12 : IntT Try.prog 12 .u64 := ⟨Try.runUnderlying12⟩
instance zero_13 : ZeroT Try.prog 13 (.agg #[(.string ⟨#[]⟩), (.int .u64 0)]) := ⟨Try.zeroValue13⟩
instance agg_13 : AggT Try.prog 13 2 := ⟨Try.isAgg13, Try.sizeOf13⟩
instance fld_13_0 : FldT Try.prog 13 0 0 := fld Try.runUnderlying13 (ft := 9) (by kernel_rfl) Try.sizeOf9
instance fld_13_1 : FldT Try.prog 13 1 1 := fld Try.runUnderlying13 (ft := 12) (by kernel_rfl) Try.sizeOf12
instance zero_14 : ZeroT Try.prog 14 (.agg #[(.string ⟨#[]⟩), (.int .u64 0)]) := ⟨Try.zeroValue14⟩
instance agg_14 : AggT Try.prog 14 2 := ⟨Try.isAgg14, Try.sizeOf14⟩
instance fld_14_0 : FldT Try.prog 14 0 0 := fld Try.runUnderlying14 (ft := 9) (by kernel_rfl) Try.sizeOf9
instance fld_14_1 : FldT Try.prog 14 1 1 := fld Try.runUnderlying14 (ft := 12) (by kernel_rfl) Try.sizeOf12
instance one_15 : OneT Try.prog 15 := ⟨Try.isAgg15, Try.sizeOf15⟩
instance zero_15 : ZeroT Try.prog 15 (.pointer none) := ⟨Try.zeroValue15⟩
instance ptr_15 : PtrT Try.prog 15 := ⟨by kernel_rfl⟩
instance one_16 : OneT Try.prog 16 := ⟨Try.isAgg16, Try.sizeOf16⟩
instance zero_16 : ZeroT Try.prog 16 (.pointer none) := ⟨Try.zeroValue16⟩
instance ptr_16 : PtrT Try.prog 16 := ⟨by kernel_rfl⟩
instance one_17 : OneT Try.prog 17 := ⟨Try.isAgg17, Try.sizeOf17⟩
instance zero_17 : ZeroT Try.prog 17 (.pointer none) := ⟨Try.zeroValue17⟩
instance ptr_17 : PtrT Try.prog 17 := ⟨by kernel_rfl⟩
instance zero_18 : ZeroT Try.prog 18 (.agg #[(.pointer none)]) := ⟨Try.zeroValue18⟩
instance agg_18 : AggT Try.prog 18 1 := ⟨Try.isAgg18, Try.sizeOf18⟩
instance fld_18_0 : FldT Try.prog 18 0 0 := fld Try.runUnderlying18 (ft := 17) (by kernel_rfl) Try.sizeOf17
instance zero_19 : ZeroT Try.prog 19 (.agg #[(.pointer none)]) := ⟨Try.zeroValue19⟩
instance agg_19 : AggT Try.prog 19 1 := ⟨Try.isAgg19, Try.sizeOf19⟩
instance fld_19_0 : FldT Try.prog 19 0 0 := fld Try.runUnderlying19 (ft := 17) (by kernel_rfl) Try.sizeOf17
instance one_20 : OneT Try.prog 20 := ⟨Try.isAgg20, Try.sizeOf20⟩
instance zero_20 : ZeroT Try.prog 20 .nilIface := ⟨Try.zeroValue20⟩
instance one_21 : OneT Try.prog 21 := ⟨Try.isAgg21, Try.sizeOf21⟩
instance zero_21 : ZeroT Try.prog 21 (.int .i32 0) := ⟨Try.zeroValue21⟩
instance int_21 : IntT Try.prog 21 .i32 := ⟨Try.runUnderlying21⟩
instance zero_22 : ZeroT Try.prog 22 (.agg #[(.int .i64 0), (.int .i64 0), (.int .i64 0), (.int .i64 0), (.int .i64 0), (.int .i64 0), (.int .i64 0)]) := ⟨Try.zeroValue22⟩
instance agg_22 : AggT Try.prog 22 7 := ⟨Try.isAgg22, Try.sizeOf22⟩
instance fld_22_0 : FldT Try.prog 22 0 0 := fld Try.runUnderlying22 (ft := 3) (by kernel_rfl) Try.sizeOf3
instance fld_22_1 : FldT Try.prog 22 1 1 := fld Try.runUnderlying22 (ft := 3) (by kernel_rfl) Try.sizeOf3
instance fld_22_2 : FldT Try.prog 22 2 2 := fld Try.runUnderlying22 (ft := 3) (by kernel_rfl) Try.sizeOf3
instance fld_22_3 : FldT Try.prog 22 3 3 := fld Try.runUnderlying22 (ft := 3) (by kernel_rfl) Try.sizeOf3
instance fld_22_4 : FldT Try.prog 22 4 4 := fld Try.runUnderlying22 (ft := 3) (by kernel_rfl) Try.sizeOf3
instance fld_22_5 : FldT Try.prog 22 5 5 := fld Try.runUnderlying22 (ft := 3) (by kernel_rfl) Try.sizeOf3
instance fld_22_6 : FldT Try.prog 22 6 6 := fld Try.runUnderlying22 (ft := 3) (by kernel_rfl) Try.sizeOf3
instance zero_23 : ZeroT Try.prog 23 (.agg #[(.int .i64 0), (.int .i64 0), (.int .i64 0), (.int .i64 0), (.int .i64 0), (.int .i64 0), (.int .i64 0)]) := ⟨Try.zeroValue23⟩
instance agg_23 : AggT Try.prog 23 7 := ⟨Try.isAgg23, Try.sizeOf23⟩
instance fld_23_0 : FldT Try.prog 23 0 0 := fld Try.runUnderlying23 (ft := 3) (by kernel_rfl) Try.sizeOf3
instance fld_23_1 : FldT Try.prog 23 1 1 := fld Try.runUnderlying23 (ft := 3) (by kernel_rfl) Try.sizeOf3
instance fld_23_2 : FldT Try.prog 23 2 2 := fld Try.runUnderlying23 (ft := 3) (by kernel_rfl) Try.sizeOf3
instance fld_23_3 : FldT Try.prog 23 3 3 := fld Try.runUnderlying23 (ft := 3) (by kernel_rfl) Try.sizeOf3
instance fld_23_4 : FldT Try.prog 23 4 4 := fld Try.runUnderlying23 (ft := 3) (by kernel_rfl) Try.sizeOf3
instance fld_23_5 : FldT Try.prog 23 5 5 := fld Try.runUnderlying23 (ft := 3) (by kernel_rfl) Try.sizeOf3
instance fld_23_6 : FldT Try.prog 23 6 6 := fld Try.runUnderlying23 (ft := 3) (by kernel_rfl) Try.sizeOf3
instance zero_24 : ZeroT Try.prog 24 (.agg #[(.int .i64 0), (.int .i64 0), (.int .i64 0), (.int .i64 0), (.int .i64 0), (.int .i64 0), (.int .i64 0)]) := ⟨Try.zeroValue24⟩
instance agg_24 : AggT Try.prog 24 7 := ⟨Try.isAgg24, Try.sizeOf24⟩
instance fld_24_0 : FldT Try.prog 24 0 0 := fld Try.runUnderlying24 (ft := 3) (by kernel_rfl) Try.sizeOf3
instance fld_24_1 : FldT Try.prog 24 1 1 := fld Try.runUnderlying24 (ft := 3) (by kernel_rfl) Try.sizeOf3
instance fld_24_2 : FldT Try.prog 24 2 2 := fld Try.runUnderlying24 (ft := 3) (by kernel_rfl) Try.sizeOf3
instance fld_24_3 : FldT Try.prog 24 3 3 := fld Try.runUnderlying24 (ft := 3) (by kernel_rfl) Try.sizeOf3
instance fld_24_4 : FldT Try.prog 24 4 4 := fld Try.runUnderlying24 (ft := 3) (by kernel_rfl) Try.sizeOf3
instance fld_24_5 : FldT Try.prog 24 5 5 := fld Try.runUnderlying24 (ft := 3) (by kernel_rfl) Try.sizeOf3
instance fld_24_6 : FldT Try.prog 24 6 6 := fld Try.runUnderlying24 (ft := 3) (by kernel_rfl) Try.sizeOf3
instance one_25 : OneT Try.prog 25 := ⟨Try.isAgg25, Try.sizeOf25⟩
instance zero_25 : ZeroT Try.prog 25 (.int .i64 0) := ⟨Try.zeroValue25⟩
instance int_25 : IntT Try.prog 25 .i64 := ⟨Try.runUnderlying25⟩
instance one_27 : OneT Try.prog 27 := ⟨Try.isAgg27, Try.sizeOf27⟩
instance zero_27 : ZeroT Try.prog 27 .nilFunc := ⟨Try.zeroValue27⟩
instance one_29 : OneT Try.prog 29 := ⟨Try.isAgg29, Try.sizeOf29⟩
instance zero_29 : ZeroT Try.prog 29 .nilFunc := ⟨Try.zeroValue29⟩
instance one_31 : OneT Try.prog 31 := ⟨Try.isAgg31, Try.sizeOf31⟩
instance zero_31 : ZeroT Try.prog 31 .nilFunc := ⟨Try.zeroValue31⟩
instance one_33 : OneT Try.prog 33 := ⟨Try.isAgg33, Try.sizeOf33⟩
instance zero_33 : ZeroT Try.prog 33 .nilFunc := ⟨Try.zeroValue33⟩
instance one_34 : OneT Try.prog 34 := ⟨Try.isAgg34, Try.sizeOf34⟩
instance zero_34 : ZeroT Try.prog 34 .nilFunc := ⟨Try.zeroValue34⟩
instance one_35 : OneT Try.prog 35 := ⟨Try.isAgg35, Try.sizeOf35⟩
instance zero_35 : ZeroT Try.prog 35 .nilFunc := ⟨Try.zeroValue35⟩
instance one_36 : OneT Try.prog 36 := ⟨Try.isAgg36, Try.sizeOf36⟩
instance zero_36 : ZeroT Try.prog 36 .nilFunc := ⟨Try.zeroValue36⟩
instance one_37 : OneT Try.prog 37 := ⟨Try.isAgg37, Try.sizeOf37⟩
instance zero_37 : ZeroT Try.prog 37 .nilFunc := ⟨Try.zeroValue37⟩
instance one_39 : OneT Try.prog 39 := ⟨Try.isAgg39, Try.sizeOf39⟩
instance zero_39 : ZeroT Try.prog 39 .nilFunc := ⟨Try.zeroValue39⟩
instance one_41 : OneT Try.prog 41 := ⟨Try.isAgg41, Try.sizeOf41⟩
instance zero_41 : ZeroT Try.prog 41 .nilFunc := ⟨Try.zeroValue41⟩
instance one_42 : OneT Try.prog 42 := ⟨Try.isAgg42, Try.sizeOf42⟩
instance zero_42 : ZeroT Try.prog 42 .nilFunc := ⟨Try.zeroValue42⟩
instance one_43 : OneT Try.prog 43 := ⟨Try.isAgg43, Try.sizeOf43⟩
instance zero_43 : ZeroT Try.prog 43 .nilFunc := ⟨Try.zeroValue43⟩
instance one_44 : OneT Try.prog 44 := ⟨Try.isAgg44, Try.sizeOf44⟩
instance zero_44 : ZeroT Try.prog 44 .nilFunc := ⟨Try.zeroValue44⟩
instance one_45 : OneT Try.prog 45 := ⟨Try.isAgg45, Try.sizeOf45⟩
instance zero_45 : ZeroT Try.prog 45 .nilFunc := ⟨Try.zeroValue45⟩
instance one_46 : OneT Try.prog 46 := ⟨Try.isAgg46, Try.sizeOf46⟩
instance zero_46 : ZeroT Try.prog 46 .nilFunc := ⟨Try.zeroValue46⟩
instance one_47 : OneT Try.prog 47 := ⟨Try.isAgg47, Try.sizeOf47⟩
instance zero_47 : ZeroT Try.prog 47 .nilFunc := ⟨Try.zeroValue47⟩
instance one_49 : OneT Try.prog 49 := ⟨Try.isAgg49, Try.sizeOf49⟩
instance zero_49 : ZeroT Try.prog 49 .nilFunc := ⟨Try.zeroValue49⟩
instance one_51 : OneT Try.prog 51 := ⟨Try.isAgg51, Try.sizeOf51⟩
instance zero_51 : ZeroT Try.prog 51 .nilFunc := ⟨Try.zeroValue51⟩
instance one_52 : OneT Try.prog 52 := ⟨Try.isAgg52, Try.sizeOf52⟩
instance zero_52 : ZeroT Try.prog 52 .nilFunc := ⟨Try.zeroValue52⟩
instance one_53 : OneT Try.prog 53 := ⟨Try.isAgg53, Try.sizeOf53⟩
instance zero_53 : ZeroT Try.prog 53 .nilFunc := ⟨Try.zeroValue53⟩
instance one_54 : OneT Try.prog 54 := ⟨Try.isAgg54, Try.sizeOf54⟩
instance zero_54 : ZeroT Try.prog 54 .nilFunc := ⟨Try.zeroValue54⟩
instance one_55 : OneT Try.prog 55 := ⟨Try.isAgg55, Try.sizeOf55⟩
instance zero_55 : ZeroT Try.prog 55 .nilFunc := ⟨Try.zeroValue55⟩
instance one_56 : OneT Try.prog 56 := ⟨Try.isAgg56, Try.sizeOf56⟩
instance zero_56 : ZeroT Try.prog 56 .nilFunc := ⟨Try.zeroValue56⟩
instance one_57 : OneT Try.prog 57 := ⟨Try.isAgg57, Try.sizeOf57⟩
instance zero_57 : ZeroT Try.prog 57 .nilFunc := ⟨Try.zeroValue57⟩
instance one_58 : OneT Try.prog 58 := ⟨Try.isAgg58, Try.sizeOf58⟩
instance zero_58 : ZeroT Try.prog 58 (.pointer none) := ⟨Try.zeroValue58⟩
instance ptr_58 : PtrT Try.prog 58 := ⟨by kernel_rfl⟩
instance zero_59 : ZeroT Try.prog 59 (.agg #[.nilFunc, .nilFunc, .nilFunc]) := ⟨Try.zeroValue59⟩
instance agg_59 : AggT Try.prog 59 3 := ⟨Try.isAgg59, Try.sizeOf59⟩
instance arr_59 : ArrT Try.prog 59 3 56 1 := ⟨Try.runUnderlying59, Try.sizeOf56⟩
instance one_61 : OneT Try.prog 61 := ⟨Try.isAgg61, Try.sizeOf61⟩
instance zero_61 : ZeroT Try.prog 61 .nilFunc := ⟨Try.zeroValue61⟩
instance one_62 : OneT Try.prog 62 := ⟨Try.isAgg62, Try.sizeOf62⟩
instance zero_62 : ZeroT Try.prog 62 .nilFunc := ⟨Try.zeroValue62⟩
instance one_63 : OneT Try.prog 63 := ⟨Try.isAgg63, Try.sizeOf63⟩
instance zero_63 : ZeroT Try.prog 63 .nilFunc := ⟨Try.zeroValue63⟩
instance one_64 : OneT Try.prog 64 := ⟨Try.isAgg64, Try.sizeOf64⟩
instance zero_64 : ZeroT Try.prog 64 .nilFunc := ⟨Try.zeroValue64⟩
instance one_65 : OneT Try.prog 65 := ⟨Try.isAgg65, Try.sizeOf65⟩
instance zero_65 : ZeroT Try.prog 65 (.slice none 0 0) := ⟨Try.zeroValue65⟩
instance sl_65 : SlT Try.prog 65 9 1 16 := slt (z := (.string ⟨#[]⟩)) Try.underlying65 (i := Try.t9) (by kernel_rfl) (by kernel_rfl) (by kernel_rfl) (by kernel_rfl) (by kernel_rfl)
instance one_67 : OneT Try.prog 67 := ⟨Try.isAgg67, Try.sizeOf67⟩
instance zero_67 : ZeroT Try.prog 67 .nilFunc := ⟨Try.zeroValue67⟩
instance one_68 : OneT Try.prog 68 := ⟨Try.isAgg68, Try.sizeOf68⟩
instance zero_68 : ZeroT Try.prog 68 .nilFunc := ⟨Try.zeroValue68⟩
instance zero_69 : ZeroT Try.prog 69 (.agg #[(.string ⟨#[]⟩), (.string ⟨#[]⟩), (.string ⟨#[]⟩), (.string ⟨#[]⟩), (.string ⟨#[]⟩), (.string ⟨#[]⟩), (.string ⟨#[]⟩)]) := ⟨Try.zeroValue69⟩
instance agg_69 : AggT Try.prog 69 7 := ⟨Try.isAgg69, Try.sizeOf69⟩
instance arr_69 : ArrT Try.prog 69 7 9 1 := ⟨Try.runUnderlying69, Try.sizeOf9⟩
instance one_70 : OneT Try.prog 70 := ⟨Try.isAgg70, Try.sizeOf70⟩
instance zero_70 : ZeroT Try.prog 70 .nilFunc := ⟨Try.zeroValue70⟩
instance zero_71 : ZeroT Try.prog 71 (.agg #[(.string ⟨#[]⟩), (.string ⟨#[]⟩), (.string ⟨#[]⟩), (.string ⟨#[]⟩), (.string ⟨#[]⟩), (.string ⟨#[]⟩), (.string ⟨#[]⟩), (.string ⟨#[]⟩), (.string ⟨#[]⟩), (.string ⟨#[]⟩), (.string ⟨#[]⟩), (.string ⟨#[]⟩)]) := ⟨Try.zeroValue71⟩
instance agg_71 : AggT Try.prog 71 12 := ⟨Try.isAgg71, Try.sizeOf71⟩
instance arr_71 : ArrT Try.prog 71 12 9 1 := ⟨Try.runUnderlying71, Try.sizeOf9⟩
instance one_72 : OneT Try.prog 72 := ⟨Try.isAgg72, Try.sizeOf72⟩
instance zero_72 : ZeroT Try.prog 72 .nilFunc := ⟨Try.zeroValue72⟩
instance one_73 : OneT Try.prog 73 := ⟨Try.isAgg73, Try.sizeOf73⟩
instance zero_73 : ZeroT Try.prog 73 .nilFunc := ⟨Try.zeroValue73⟩
instance one_74 : OneT Try.prog 74 := ⟨Try.isAgg74, Try.sizeOf74⟩
instance zero_74 : ZeroT Try.prog 74 .nilFunc := ⟨Try.zeroValue74⟩
instance one_75 : OneT Try.prog 75 := ⟨Try.isAgg75, Try.sizeOf75⟩
instance zero_75 : ZeroT Try.prog 75 .nilFunc := ⟨Try.zeroValue75⟩
instance one_76 : OneT Try.prog 76 := ⟨Try.isAgg76, Try.sizeOf76⟩
instance zero_76 : ZeroT Try.prog 76 .nilFunc := ⟨Try.zeroValue76⟩
instance one_77 : OneT Try.prog 77 := ⟨Try.isAgg77, Try.sizeOf77⟩
instance zero_77 : ZeroT Try.prog 77 (.pointer none) := ⟨Try.zeroValue77⟩
instance ptr_77 : PtrT Try.prog 77 := ⟨by kernel_rfl⟩
instance one_78 : OneT Try.prog 78 := ⟨Try.isAgg78, Try.sizeOf78⟩
instance zero_78 : ZeroT Try.prog 78 .nilFunc := ⟨Try.zeroValue78⟩
instance zero_79 : ZeroT Try.prog 79 (.agg #[(.string ⟨#[]⟩)]) := ⟨Try.zeroValue79⟩
instance agg_79 : AggT Try.prog 79 1 := ⟨Try.isAgg79, Try.sizeOf79⟩
instance fld_79_0 : FldT Try.prog 79 0 0 := fld Try.runUnderlying79 (ft := 9) (by kernel_rfl) Try.sizeOf9
instance zero_80 : ZeroT Try.prog 80 (.agg #[(.string ⟨#[]⟩)]) := ⟨Try.zeroValue80⟩
instance agg_80 : AggT Try.prog 80 1 := ⟨Try.isAgg80, Try.sizeOf80⟩
instance fld_80_0 : FldT Try.prog 80 0 0 := fld Try.runUnderlying80 (ft := 9) (by kernel_rfl) Try.sizeOf9
instance one_81 : OneT Try.prog 81 := ⟨Try.isAgg81, Try.sizeOf81⟩
instance zero_81 : ZeroT Try.prog 81 .nilFunc := ⟨Try.zeroValue81⟩
instance one_82 : OneT Try.prog 82 := ⟨Try.isAgg82, Try.sizeOf82⟩
instance zero_82 : ZeroT Try.prog 82 (.slice none 0 0) := ⟨Try.zeroValue82⟩
instance bytes_82 : BytesT Try.prog 82 := ⟨_, Try.underlying82, Try.underlying5⟩
instance sl_82 : SlT Try.prog 82 5 1 1 := slt (z := (.int .u8 0)) Try.underlying82 (i := Try.t5) (by kernel_rfl) (by kernel_rfl) (by kernel_rfl) (by kernel_rfl) (by kernel_rfl)
instance zero_83 : ZeroT Try.prog 83 (.agg #[(.pointer none), (.pointer none), (.pointer none), (.string ⟨#[]⟩)]) := ⟨Try.zeroValue83⟩
instance agg_83 : AggT Try.prog 83 4 := ⟨Try.isAgg83, Try.sizeOf83⟩
instance fld_83_0 : FldT Try.prog 83 0 0 := fld Try.runUnderlying83 (ft := 17) (by kernel_rfl) Try.sizeOf17
instance fld_83_1 : FldT Try.prog 83 1 1 := fld Try.runUnderlying83 (ft := 17) (by kernel_rfl) Try.sizeOf17
instance fld_83_2 : FldT Try.prog 83 2 2 := fld Try.runUnderlying83 (ft := 17) (by kernel_rfl) Try.sizeOf17
instance fld_83_3 : FldT Try.prog 83 3 3 := fld Try.runUnderlying83 (ft := 9) (by kernel_rfl) Try.sizeOf9
instance zero_84 : ZeroT Try.prog 84 (.agg #[(.pointer none), (.pointer none), (.pointer none), (.string ⟨#[]⟩)]) := ⟨Try.zeroValue84⟩
instance agg_84 : AggT Try.prog 84 4 := ⟨Try.isAgg84, Try.sizeOf84⟩
instance fld_84_0 : FldT Try.prog 84 0 0 := fld Try.runUnderlying84 (ft := 17) (by kernel_rfl) Try.sizeOf17
instance fld_84_1 : FldT Try.prog 84 1 1 := fld Try.runUnderlying84 (ft := 17) (by kernel_rfl) Try.sizeOf17
instance fld_84_2 : FldT Try.prog 84 2 2 := fld Try.runUnderlying84 (ft := 17) (by kernel_rfl) Try.sizeOf17
instance fld_84_3 : FldT Try.prog 84 3 3 := fld Try.runUnderlying84 (ft := 9) (by kernel_rfl) Try.sizeOf9
instance zero_85 : ZeroT Try.prog 85 (.agg #[]) := ⟨Try.zeroValue85⟩
instance agg_85 : AggT Try.prog 85 0 := ⟨Try.isAgg85, Try.sizeOf85⟩
instance arr_85 : ArrT Try.prog 85 0 16 1 := ⟨Try.runUnderlying85, Try.sizeOf16⟩
instance zero_86 : ZeroT Try.prog 86 (.agg #[]) := ⟨Try.zeroValue86⟩
instance agg_86 : AggT Try.prog 86 0 := ⟨Try.isAgg86, Try.sizeOf86⟩
instance zero_87 : ZeroT Try.prog 87 (.agg #[]) := ⟨Try.zeroValue87⟩
instance agg_87 : AggT Try.prog 87 0 := ⟨Try.isAgg87, Try.sizeOf87⟩
instance one_88 : OneT Try.prog 88 := ⟨Try.isAgg88, Try.sizeOf88⟩
instance zero_88 : ZeroT Try.prog 88 (.int .u32 0) := ⟨Try.zeroValue88⟩
instance int_88 : IntT Try.prog 88 .u32 := ⟨Try.runUnderlying88⟩
instance one_89 : OneT Try.prog 89 := ⟨Try.isAgg89, Try.sizeOf89⟩
instance zero_89 : ZeroT Try.prog 89 (.int .u8 0) := ⟨Try.zeroValue89⟩
instance int_89 : IntT Try.prog 89 .u8 := ⟨Try.runUnderlying89⟩
instance one_90 : OneT Try.prog 90 := ⟨Try.isAgg90, Try.sizeOf90⟩
instance zero_90 : ZeroT Try.prog 90 (.int .u8 0) := ⟨Try.zeroValue90⟩
instance int_90 : IntT Try.prog 90 .u8 := ⟨Try.runUnderlying90⟩
instance one_91 : OneT Try.prog 91 := ⟨Try.isAgg91, Try.sizeOf91⟩
instance zero_91 : ZeroT Try.prog 91 .nilFunc := ⟨Try.zeroValue91⟩
instance one_92 : OneT Try.prog 92 := ⟨Try.isAgg92, Try.sizeOf92⟩
instance zero_92 : ZeroT Try.prog 92 (.pointer none) := ⟨Try.zeroValue92⟩
instance ptr_92 : PtrT Try.prog 92 := ⟨by kernel_rfl⟩
instance one_93 : OneT Try.prog 93 := ⟨Try.isAgg93, Try.sizeOf93⟩
instance zero_93 : ZeroT Try.prog 93 (.int .i32 0) := ⟨Try.zeroValue93⟩
instance int_93 : IntT Try.prog 93 .i32 := ⟨Try.runUnderlying93⟩
instance one_94 : OneT Try.prog 94 := ⟨Try.isAgg94, Try.sizeOf94⟩
instance zero_94 : ZeroT Try.prog 94 (.int .i32 0) := ⟨Try.zeroValue94⟩
instance int_94 : IntT Try.prog 94 .i32 := ⟨Try.runUnderlying94⟩
instance zero_95 : ZeroT Try.prog 95 (.agg #[(.int .u64 0), (.int .u64 0), (.int .u32 0), (.int .u8 0), (.int .u8 0), (.int .u8 0), (.int .u8 0), .nilFunc, (.pointer none), (.int .i32 0), (.int .i32 0)]) := ⟨Try.zeroValue95⟩
instance agg_95 : AggT Try.prog 95 11 := ⟨Try.isAgg95, Try.sizeOf95⟩
instance fld_95_0 : FldT Try.prog 95 0 0 := fld Try.runUnderlying95 (ft := 12) (by kernel_rfl) Try.sizeOf12
instance fld_95_1 : FldT Try.prog 95 1 1 := fld Try.runUnderlying95 (ft := 12) (by kernel_rfl) Try.sizeOf12
instance fld_95_2 : FldT Try.prog 95 2 2 := fld Try.runUnderlying95 (ft := 88) (by kernel_rfl) Try.sizeOf88
instance fld_95_3 : FldT Try.prog 95 3 3 := fld Try.runUnderlying95 (ft := 89) (by kernel_rfl) Try.sizeOf89
instance fld_95_4 : FldT Try.prog 95 4 4 := fld Try.runUnderlying95 (ft := 5) (by kernel_rfl) Try.sizeOf5
instance fld_95_5 : FldT Try.prog 95 5 5 := fld Try.runUnderlying95 (ft := 5) (by kernel_rfl) Try.sizeOf5
instance fld_95_6 : FldT Try.prog 95 6 6 := fld Try.runUnderlying95 (ft := 90) (by kernel_rfl) Try.sizeOf90
instance fld_95_7 : FldT Try.prog 95 7 7 := fld Try.runUnderlying95 (ft := 91) (by kernel_rfl) Try.sizeOf91
instance fld_95_8 : FldT Try.prog 95 8 8 := fld Try.runUnderlying95 (ft := 92) (by kernel_rfl) Try.sizeOf92
instance fld_95_9 : FldT Try.prog 95 9 9 := fld Try.runUnderlying95 (ft := 93) (by kernel_rfl) Try.sizeOf93
instance fld_95_10 : FldT Try.prog 95 10 10 := fld Try.runUnderlying95 (ft := 94) (by kernel_rfl) Try.sizeOf94
instance zero_96 : ZeroT Try.prog 96 (.agg #[(.int .u64 0), (.int .u64 0), (.int .u32 0), (.int .u8 0), (.int .u8 0), (.int .u8 0), (.int .u8 0), .nilFunc, (.pointer none), (.int .i32 0), (.int .i32 0)]) := ⟨Try.zeroValue96⟩
instance agg_96 : AggT Try.prog 96 11 := ⟨Try.isAgg96, Try.sizeOf96⟩
instance fld_96_0 : FldT Try.prog 96 0 0 := fld Try.runUnderlying96 (ft := 12) (by kernel_rfl) Try.sizeOf12
instance fld_96_1 : FldT Try.prog 96 1 1 := fld Try.runUnderlying96 (ft := 12) (by kernel_rfl) Try.sizeOf12
instance fld_96_2 : FldT Try.prog 96 2 2 := fld Try.runUnderlying96 (ft := 88) (by kernel_rfl) Try.sizeOf88
instance fld_96_3 : FldT Try.prog 96 3 3 := fld Try.runUnderlying96 (ft := 89) (by kernel_rfl) Try.sizeOf89
instance fld_96_4 : FldT Try.prog 96 4 4 := fld Try.runUnderlying96 (ft := 5) (by kernel_rfl) Try.sizeOf5
instance fld_96_5 : FldT Try.prog 96 5 5 := fld Try.runUnderlying96 (ft := 5) (by kernel_rfl) Try.sizeOf5
instance fld_96_6 : FldT Try.prog 96 6 6 := fld Try.runUnderlying96 (ft := 90) (by kernel_rfl) Try.sizeOf90
instance fld_96_7 : FldT Try.prog 96 7 7 := fld Try.runUnderlying96 (ft := 91) (by kernel_rfl) Try.sizeOf91
instance fld_96_8 : FldT Try.prog 96 8 8 := fld Try.runUnderlying96 (ft := 92) (by kernel_rfl) Try.sizeOf92
instance fld_96_9 : FldT Try.prog 96 9 9 := fld Try.runUnderlying96 (ft := 93) (by kernel_rfl) Try.sizeOf93
instance fld_96_10 : FldT Try.prog 96 10 10 := fld Try.runUnderlying96 (ft := 94) (by kernel_rfl) Try.sizeOf94
instance one_97 : OneT Try.prog 97 := ⟨Try.isAgg97, Try.sizeOf97⟩
instance zero_97 : ZeroT Try.prog 97 (.pointer none) := ⟨Try.zeroValue97⟩
instance bld_24_0_1_2_3_4_5_6 {a0 a1 a2 a3 a4 a5 a6 : Value} [h0 : OC a0] [h1 : OC a1] [h2 : OC a2] [h3 : OC a3] [h4 : OC a4] [h5 : OC a5] [h6 : OC a6] : RV Try.prog (sBuild 24 [(0, a0), (1, a1), (2, a2), (3, a3), (4, a4), (5, a5), (6, a6)]) (.agg #[a0, a1, a2, a3, a4, a5, a6]) := ⟨fun W w _ => by
  have c0 := cells_one h0.one; have c1 := cells_one h1.one; have c2 := cells_one h2.one; have c3 := cells_one h3.one; have c4 := cells_one h4.one; have c5 := cells_one h5.one; have c6 := cells_one h6.one; simp [sBuild, Instr.build, Try.zeroValue24, Try.runUnderlying24, Try.sizeOf3, cells_agg, Instr.fill, c0, c1, c2, c3, c4, c5, c6]⟩
instance bld_24_  : RV Try.prog (sBuild 24 []) (.agg #[(.int .i64 0), (.int .i64 0), (.int .i64 0), (.int .i64 0), (.int .i64 0), (.int .i64 0), (.int .i64 0)]) := ⟨fun W w _ => by
   simp [sBuild, Instr.build, Try.zeroValue24, Try.runUnderlying24, Try.sizeOf3, cells_agg, Instr.fill]⟩
instance bld_24_6_3_4_5 {a0 a1 a2 a3 : Value} [h0 : OC a0] [h1 : OC a1] [h2 : OC a2] [h3 : OC a3] : RV Try.prog (sBuild 24 [(6, a0), (3, a1), (4, a2), (5, a3)]) (.agg #[(.int .i64 0), (.int .i64 0), (.int .i64 0), a1, a2, a3, a0]) := ⟨fun W w _ => by
  have c0 := cells_one h0.one; have c1 := cells_one h1.one; have c2 := cells_one h2.one; have c3 := cells_one h3.one; simp [sBuild, Instr.build, Try.zeroValue24, Try.runUnderlying24, Try.sizeOf3, cells_agg, Instr.fill, c0, c1, c2, c3]⟩
instance bld_23_  : RV Try.prog (sBuild 23 []) (.agg #[(.int .i64 0), (.int .i64 0), (.int .i64 0), (.int .i64 0), (.int .i64 0), (.int .i64 0), (.int .i64 0)]) := ⟨fun W w _ => by
   simp [sBuild, Instr.build, Try.zeroValue23, Try.runUnderlying23, Try.sizeOf3, cells_agg, Instr.fill]⟩
instance bld_23_0_1_3_4_5 {a0 a1 a2 a3 a4 : Value} [h0 : OC a0] [h1 : OC a1] [h2 : OC a2] [h3 : OC a3] [h4 : OC a4] : RV Try.prog (sBuild 23 [(0, a0), (1, a1), (3, a2), (4, a3), (5, a4)]) (.agg #[a0, a1, (.int .i64 0), a2, a3, a4, (.int .i64 0)]) := ⟨fun W w _ => by
  have c0 := cells_one h0.one; have c1 := cells_one h1.one; have c2 := cells_one h2.one; have c3 := cells_one h3.one; have c4 := cells_one h4.one; simp [sBuild, Instr.build, Try.zeroValue23, Try.runUnderlying23, Try.sizeOf3, cells_agg, Instr.fill, c0, c1, c2, c3, c4]⟩
instance bld_59_0_1_2 {a0 a1 a2 : Value} [h0 : OC a0] [h1 : OC a1] [h2 : OC a2] : RV Try.prog (sBuild 59 [(0, a0), (1, a1), (2, a2)]) (.agg #[a0, a1, a2]) := ⟨fun W w _ => by
  have c0 := cells_one h0.one; have c1 := cells_one h1.one; have c2 := cells_one h2.one; simp [sBuild, Instr.build, Try.zeroValue59, Try.runUnderlying59, Try.sizeOf56, cells_agg, Instr.fill, c0, c1, c2]⟩
instance bld_80_0 {a0 : Value} [h0 : OC a0] : RV Try.prog (sBuild 80 [(0, a0)]) (.agg #[a0]) := ⟨fun W w _ => by
  have c0 := cells_one h0.one; simp [sBuild, Instr.build, Try.zeroValue80, Try.runUnderlying80, Try.sizeOf9, cells_agg, Instr.fill, c0]⟩
instance bld_23_0_1_2_3_4_5 {a0 a1 a2 a3 a4 a5 : Value} [h0 : OC a0] [h1 : OC a1] [h2 : OC a2] [h3 : OC a3] [h4 : OC a4] [h5 : OC a5] : RV Try.prog (sBuild 23 [(0, a0), (1, a1), (2, a2), (3, a3), (4, a4), (5, a5)]) (.agg #[a0, a1, a2, a3, a4, a5, (.int .i64 0)]) := ⟨fun W w _ => by
  have c0 := cells_one h0.one; have c1 := cells_one h1.one; have c2 := cells_one h2.one; have c3 := cells_one h3.one; have c4 := cells_one h4.one; have c5 := cells_one h5.one; simp [sBuild, Instr.build, Try.zeroValue23, Try.runUnderlying23, Try.sizeOf3, cells_agg, Instr.fill, c0, c1, c2, c3, c4, c5]⟩
instance bld_69_0_1_2_3_4_5_6 {a0 a1 a2 a3 a4 a5 a6 : Value} [h0 : OC a0] [h1 : OC a1] [h2 : OC a2] [h3 : OC a3] [h4 : OC a4] [h5 : OC a5] [h6 : OC a6] : RV Try.prog (sBuild 69 [(0, a0), (1, a1), (2, a2), (3, a3), (4, a4), (5, a5), (6, a6)]) (.agg #[a0, a1, a2, a3, a4, a5, a6]) := ⟨fun W w _ => by
  have c0 := cells_one h0.one; have c1 := cells_one h1.one; have c2 := cells_one h2.one; have c3 := cells_one h3.one; have c4 := cells_one h4.one; have c5 := cells_one h5.one; have c6 := cells_one h6.one; simp [sBuild, Instr.build, Try.zeroValue69, Try.runUnderlying69, Try.sizeOf9, cells_agg, Instr.fill, c0, c1, c2, c3, c4, c5, c6]⟩
instance bld_71_0_1_2_3_4_5_6_7_8_9_10_11 {a0 a1 a2 a3 a4 a5 a6 a7 a8 a9 a10 a11 : Value} [h0 : OC a0] [h1 : OC a1] [h2 : OC a2] [h3 : OC a3] [h4 : OC a4] [h5 : OC a5] [h6 : OC a6] [h7 : OC a7] [h8 : OC a8] [h9 : OC a9] [h10 : OC a10] [h11 : OC a11] : RV Try.prog (sBuild 71 [(0, a0), (1, a1), (2, a2), (3, a3), (4, a4), (5, a5), (6, a6), (7, a7), (8, a8), (9, a9), (10, a10), (11, a11)]) (.agg #[a0, a1, a2, a3, a4, a5, a6, a7, a8, a9, a10, a11]) := ⟨fun W w _ => by
  have c0 := cells_one h0.one; have c1 := cells_one h1.one; have c2 := cells_one h2.one; have c3 := cells_one h3.one; have c4 := cells_one h4.one; have c5 := cells_one h5.one; have c6 := cells_one h6.one; have c7 := cells_one h7.one; have c8 := cells_one h8.one; have c9 := cells_one h9.one; have c10 := cells_one h10.one; have c11 := cells_one h11.one; simp [sBuild, Instr.build, Try.zeroValue71, Try.runUnderlying71, Try.sizeOf9, cells_agg, Instr.fill, c0, c1, c2, c3, c4, c5, c6, c7, c8, c9, c10, c11]⟩
end Go.Proofs.Ytcmpkkkigmheoaa.T
