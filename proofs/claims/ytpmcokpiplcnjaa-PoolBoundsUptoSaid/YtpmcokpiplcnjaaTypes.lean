/- What the loaded program's types are, one fact a line; printed by a program of mine. No conditions. -/
import Derived.Test.YtpmcokpiplcnjaaChecked
import Derived.Test.YtpmcokpiplcnjaaRead
import Derived.Test.YtpmcokpiplcnjaaMap
import Derived.KernelRfl
set_option linter.unusedVariables false
set_option linter.unusedSimpArgs false
namespace Go.Proofs.Ytpmcokpiplcnjaa.T
open Go Go.Proofs Go.Proofs.Ytpmcokpiplcnjaa.Sh Go.Proofs.Ytpmcokpiplcnjaa.Sl
theorem fld {P : Program} {t : TypeId} {fs : Array Field} {f ft o n : Nat} (hu : ∀ w, (underlying t).run P w = .ok (.struct fs) w) (hf : (fs[f]?).map (fun x => (x.type, x.offset)) = some (ft, o)) (hs : ∀ w, (sizeOf ft).run P w = .ok (n + 1) w) : FldT P t f o :=
  ⟨fun g b w => by
    cases h : fs[f]? with
    | none => rw [h] at hf; cases hf
    | some fl =>
      rw [h] at hf
      simp only [Option.map_some, Option.some.injEq, Prod.mk.injEq] at hf
      obtain ⟨rfl, rfl⟩ := hf
      simp only [Instr.fieldAt, Sem.run_bind, hu, Result.andThen_ok, h, Instr.sureAddr, fieldPlace, hs, Sem.run_pure]
      by_cases h0 : fl.offset = 0 <;> simp [Addr.add, h0]⟩
theorem slt {P : Program} {t e : TypeId} {i : TypeInfo} {z : Value} {s b : Nat} (hu : P.underlying t = some (.slice e)) (hi : P.info? e = some i) (hz : i.zero = some z) (hs : i.size = s) (hb : i.bytes = b) (hzs : z.cells.size = s) : SlT P t e s b := ⟨hu, i, z, hi, hz, hs, hb, hzs⟩

instance one_1 : OneT Try.prog 1 := ⟨Try.isAgg1, Try.sizeOf1⟩
instance zero_1 : ZeroT Try.prog 1 .nilFunc := ⟨Try.zeroValue1⟩
instance one_2 : OneT Try.prog 2 := ⟨Try.isAgg2, Try.sizeOf2⟩
instance zero_2 : ZeroT Try.prog 2 (.int .i64 0) := ⟨Try.zeroValue2⟩
instance int_2 : IntT Try.prog 2 .i64 := ⟨Try.runUnderlying2⟩
instance one_3 : OneT Try.prog 3 := ⟨Try.isAgg3, Try.sizeOf3⟩
instance zero_3 : ZeroT Try.prog 3 (.int .i64 0) := ⟨Try.zeroValue3⟩
instance int_3 : IntT Try.prog 3 .i64 := ⟨Try.runUnderlying3⟩
instance one_4 : OneT Try.prog 4 := ⟨Try.isAgg4, Try.sizeOf4⟩
instance zero_4 : ZeroT Try.prog 4 (.bool false) := ⟨Try.zeroValue4⟩
instance one_5 : OneT Try.prog 5 := ⟨Try.isAgg5, Try.sizeOf5⟩
instance zero_5 : ZeroT Try.prog 5 (.int .u8 0) := ⟨Try.zeroValue5⟩
instance int_5 : IntT Try.prog 5 .u8 := ⟨Try.runUnderlying5⟩
instance one_6 : OneT Try.prog 6 := ⟨Try.isAgg6, Try.sizeOf6⟩
instance zero_6 : ZeroT Try.prog 6 (.int .u8 0) := ⟨Try.zeroValue6⟩
instance int_6 : IntT Try.prog 6 .u8 := ⟨Try.runUnderlying6⟩
instance zero_7 : ZeroT Try.prog 7 (.agg #[(.int .i64 0), (.int .i64 0), (.bool false), (.int .u8 0)]) := ⟨Try.zeroValue7⟩
instance agg_7 : AggT Try.prog 7 4 := ⟨Try.isAgg7, Try.sizeOf7⟩
instance fld_7_0 : FldT Try.prog 7 0 0 := fld Try.runUnderlying7 (ft := 2) (by kernel_rfl) Try.sizeOf2
instance fld_7_1 : FldT Try.prog 7 1 1 := fld Try.runUnderlying7 (ft := 3) (by kernel_rfl) Try.sizeOf3
instance fld_7_2 : FldT Try.prog 7 2 2 := fld Try.runUnderlying7 (ft := 4) (by kernel_rfl) Try.sizeOf4
instance fld_7_3 : FldT Try.prog 7 3 3 := fld Try.runUnderlying7 (ft := 6) (by kernel_rfl) Try.sizeOf6
instance zero_8 : ZeroT Try.prog 8 (.agg #[(.int .i64 0), (.int .i64 0), (.bool false), (.int .u8 0)]) := ⟨Try.zeroValue8⟩
instance agg_8 : AggT Try.prog 8 4 := ⟨Try.isAgg8, Try.sizeOf8⟩
instance fld_8_0 : FldT Try.prog 8 0 0 := fld Try.runUnderlying8 (ft := 2) (by kernel_rfl) Try.sizeOf2
instance fld_8_1 : FldT Try.prog 8 1 1 := fld Try.runUnderlying8 (ft := 3) (by kernel_rfl) Try.sizeOf3
instance fld_8_2 : FldT Try.prog 8 2 2 := fld Try.runUnderlying8 (ft := 4) (by kernel_rfl) Try.sizeOf4
instance fld_8_3 : FldT Try.prog 8 3 3 := fld Try.runUnderlying8 (ft := 6) (by kernel_rfl) Try.sizeOf6
instance one_9 : OneT Try.prog 9 := ⟨Try.isAgg9, Try.sizeOf9⟩
instance zero_9 : ZeroT Try.prog 9 (.string ⟨#[]⟩) := ⟨Try.zeroValue9⟩
instance str_9 : StrT Try.prog 9 := ⟨Try.underlying9⟩
instance one_10 : OneT Try.prog 10 := ⟨Try.isAgg10, Try.sizeOf10⟩
instance zero_10 : ZeroT Try.prog 10 (.string ⟨#[]⟩) := ⟨Try.zeroValue10⟩
instance str_10 : StrT Try.prog 10 := ⟨Try.underlying10⟩
instance one_11 : OneT Try.prog 11 := ⟨Try.isAgg11, Try.sizeOf11⟩
instance zero_11 : ZeroT Try.prog 11 (.string ⟨#[]⟩) := ⟨Try.zeroValue11⟩
instance str_11 : StrT Try.prog 11 := ⟨Try.underlying11⟩
instance one_12 : OneT Try.prog 12 := ⟨Try.isAgg12, Try.sizeOf12⟩
instance zero_12 : ZeroT Try.prog 12 (.int .u64 0) := ⟨Try.zeroValue12⟩
instance int_12 : IntT Try.prog 12 .u64 := ⟨Try.runUnderlying12⟩
instance zero_13 : ZeroT Try.prog 13 (.agg #[(.string ⟨#[]⟩), (.int .u64 0)]) := ⟨Try.zeroValue13⟩
instance agg_13 : AggT Try.prog 13 2 := ⟨Try.isAgg13, Try.sizeOf13⟩
instance fld_13_0 : FldT Try.prog 13 0 0 := fld Try.runUnderlying13 (ft := 9) (by kernel_rfl) Try.sizeOf9
instance fld_13_1 : FldT Try.prog 13 1 1 := fld Try.runUnderlying13 (ft := 12) (by kernel_rfl) Try.sizeOf12
instance zero_14 : ZeroT Try.prog 14 (.agg #[(.string ⟨#[]⟩), (.int .u64 0)]) := ⟨Try.zeroValue14⟩
instance agg_14 : AggT Try.prog 14 2 := ⟨Try.isAgg14, Try.sizeOf14⟩
instance fld_14_0 : FldT Try.prog 14 0 0 := fld Try.runUnderlying14 (ft := 9) (by kernel_rfl) Try.sizeOf9
instance fld_14_1 : FldT Try.prog 14 1 1 := fld Try.runUnderlying14 (ft := 12) (by kernel_rfl) Try.sizeOf12
instance one_15 : OneT Try.prog 15 := ⟨Try.isAgg15, Try.sizeOf15⟩
instance zero_15 : ZeroT Try.prog 15 (.pointer none) := ⟨Try.zeroValue15⟩
instance ptr_15 : PtrT Try.prog 15 := ⟨by kernel_rfl⟩
instance one_16 : OneT Try.prog 16 := ⟨Try.isAgg16, Try.sizeOf16⟩
instance zero_16 : ZeroT Try.prog 16 (.pointer none) := ⟨Try.zeroValue16⟩
instance ptr_16 : PtrT Try.prog 16 := ⟨by kernel_rfl⟩
instance one_17 : OneT Try.prog 17 := ⟨Try.isAgg17, Try.sizeOf17⟩
instance zero_17 : ZeroT Try.prog 17 (.pointer none) := ⟨Try.zeroValue17⟩
instance ptr_17 : PtrT Try.prog 17 := ⟨by kernel_rfl⟩
instance zero_18 : ZeroT Try.prog 18 (.agg #[(.pointer none)]) := ⟨Try.zeroValue18⟩
instance agg_18 : AggT Try.prog 18 1 := ⟨Try.isAgg18, Try.sizeOf18⟩
instance fld_18_0 : FldT Try.prog 18 0 0 := fld Try.runUnderlying18 (ft := 17) (by kernel_rfl) Try.sizeOf17
instance zero_19 : ZeroT Try.prog 19 (.agg #[(.pointer none)]) := ⟨Try.zeroValue19⟩
instance agg_19 : AggT Try.prog 19 1 := ⟨Try.isAgg19, Try.sizeOf19⟩
instance fld_19_0 : FldT Try.prog 19 0 0 := fld Try.runUnderlying19 (ft := 17) (by kernel_rfl) Try.sizeOf17
instance one_20 : OneT Try.prog 20 := ⟨Try.isAgg20, Try.sizeOf20⟩
instance zero_20 : ZeroT Try.prog 20 .nilIface := ⟨Try.zeroValue20⟩
instance one_21 : OneT Try.prog 21 := ⟨Try.isAgg21, Try.sizeOf21⟩
instance zero_21 : ZeroT Try.prog 21 (.int .i32 0) := ⟨Try.zeroValue21⟩
instance int_21 : IntT Try.prog 21 .i32 := ⟨Try.runUnderlying21⟩
instance one_22 : OneT Try.prog 22 := ⟨Try.isAgg22, Try.sizeOf22⟩
instance zero_22 : ZeroT Try.prog 22 .nilFunc := ⟨Try.zeroValue22⟩
instance one_23 : OneT Try.prog 23 := ⟨Try.isAgg23, Try.sizeOf23⟩
instance zero_23 : ZeroT Try.prog 23 (.int .u64 0) := ⟨Try.zeroValue23⟩
instance int_23 : IntT Try.prog 23 .u64 := ⟨Try.runUnderlying23⟩
instance one_24 : OneT Try.prog 24 := ⟨Try.isAgg24, Try.sizeOf24⟩
instance zero_24 : ZeroT Try.prog 24 .nilFunc := ⟨Try.zeroValue24⟩
instance one_25 : OneT Try.prog 25 := ⟨Try.isAgg25, Try.sizeOf25⟩
instance zero_25 : ZeroT Try.prog 25 .nilFunc := ⟨Try.zeroValue25⟩
instance one_26 : OneT Try.prog 26 := ⟨Try.isAgg26, Try.sizeOf26⟩
instance zero_26 : ZeroT Try.prog 26 (.slice none 0 0) := ⟨Try.zeroValue26⟩
instance sl_26 : SlT Try.prog 26 39 2 16 := slt (z := (.agg #[(.int .i64 0), (.int .i64 0)])) Try.underlying26 (i := Try.t39) (by kernel_rfl) (by kernel_rfl) (by kernel_rfl) (by kernel_rfl) (by kernel_rfl)
instance zero_27 : ZeroT Try.prog 27 (.agg #[(.string ⟨#[]⟩), (.slice none 0 0), (.int .i64 0), (.int .i64 0)]) := ⟨Try.zeroValue27⟩
instance agg_27 : AggT Try.prog 27 4 := ⟨Try.isAgg27, Try.sizeOf27⟩
instance fld_27_0 : FldT Try.prog 27 0 0 := fld Try.runUnderlying27 (ft := 9) (by kernel_rfl) Try.sizeOf9
instance fld_27_1 : FldT Try.prog 27 1 1 := fld Try.runUnderlying27 (ft := 26) (by kernel_rfl) Try.sizeOf26
instance fld_27_2 : FldT Try.prog 27 2 2 := fld Try.runUnderlying27 (ft := 3) (by kernel_rfl) Try.sizeOf3
instance fld_27_3 : FldT Try.prog 27 3 3 := fld Try.runUnderlying27 (ft := 3) (by kernel_rfl) Try.sizeOf3
instance zero_28 : ZeroT Try.prog 28 (.agg #[(.string ⟨#[]⟩), (.slice none 0 0), (.int .i64 0), (.int .i64 0)]) := ⟨Try.zeroValue28⟩
instance agg_28 : AggT Try.prog 28 4 := ⟨Try.isAgg28, Try.sizeOf28⟩
instance fld_28_0 : FldT Try.prog 28 0 0 := fld Try.runUnderlying28 (ft := 9) (by kernel_rfl) Try.sizeOf9
instance fld_28_1 : FldT Try.prog 28 1 1 := fld Try.runUnderlying28 (ft := 26) (by kernel_rfl) Try.sizeOf26
instance fld_28_2 : FldT Try.prog 28 2 2 := fld Try.runUnderlying28 (ft := 3) (by kernel_rfl) Try.sizeOf3
instance fld_28_3 : FldT Try.prog 28 3 3 := fld Try.runUnderlying28 (ft := 3) (by kernel_rfl) Try.sizeOf3
instance one_29 : OneT Try.prog 29 := ⟨Try.isAgg29, Try.sizeOf29⟩
instance zero_29 : ZeroT Try.prog 29 (.pointer none) := ⟨Try.zeroValue29⟩
instance ptr_29 : PtrT Try.prog 29 := ⟨by kernel_rfl⟩
instance one_30 : OneT Try.prog 30 := ⟨Try.isAgg30, Try.sizeOf30⟩
instance zero_30 : ZeroT Try.prog 30 (.int .i64 0) := ⟨Try.zeroValue30⟩
instance int_30 : IntT Try.prog 30 .i64 := ⟨Try.runUnderlying30⟩
instance one_32 : OneT Try.prog 32 := ⟨Try.isAgg32, Try.sizeOf32⟩
instance zero_32 : ZeroT Try.prog 32 .nilFunc := ⟨Try.zeroValue32⟩
instance one_33 : OneT Try.prog 33 := ⟨Try.isAgg33, Try.sizeOf33⟩
instance zero_33 : ZeroT Try.prog 33 (.slice none 0 0) := ⟨Try.zeroValue33⟩
instance sl_33 : SlT Try.prog 33 96 2 16 := slt (z := (.agg #[(.int .i64 0), (.int .i64 0)])) Try.underlying33 (i := Try.t96) (by kernel_rfl) (by kernel_rfl) (by kernel_rfl) (by kernel_rfl) (by kernel_rfl)
instance zero_34 : ZeroT Try.prog 34 (.agg #[(.string ⟨#[]⟩), (.slice none 0 0), (.int .i64 0), (.int .i64 0)]) := ⟨Try.zeroValue34⟩
instance agg_34 : AggT Try.prog 34 4 := ⟨Try.isAgg34, Try.sizeOf34⟩
instance fld_34_0 : FldT Try.prog 34 0 0 := fld Try.runUnderlying34 (ft := 9) (by kernel_rfl) Try.sizeOf9
instance fld_34_1 : FldT Try.prog 34 1 1 := fld Try.runUnderlying34 (ft := 33) (by kernel_rfl) Try.sizeOf33
instance fld_34_2 : FldT Try.prog 34 2 2 := fld Try.runUnderlying34 (ft := 3) (by kernel_rfl) Try.sizeOf3
instance fld_34_3 : FldT Try.prog 34 3 3 := fld Try.runUnderlying34 (ft := 3) (by kernel_rfl) Try.sizeOf3
instance zero_35 : ZeroT Try.prog 35 (.agg #[(.string ⟨#[]⟩), (.slice none 0 0), (.int .i64 0), (.int .i64 0)]) := ⟨Try.zeroValue35⟩
instance agg_35 : AggT Try.prog 35 4 := ⟨Try.isAgg35, Try.sizeOf35⟩
instance fld_35_0 : FldT Try.prog 35 0 0 := fld Try.runUnderlying35 (ft := 9) (by kernel_rfl) Try.sizeOf9
instance fld_35_1 : FldT Try.prog 35 1 1 := fld Try.runUnderlying35 (ft := 33) (by kernel_rfl) Try.sizeOf33
instance fld_35_2 : FldT Try.prog 35 2 2 := fld Try.runUnderlying35 (ft := 3) (by kernel_rfl) Try.sizeOf3
instance fld_35_3 : FldT Try.prog 35 3 3 := fld Try.runUnderlying35 (ft := 3) (by kernel_rfl) Try.sizeOf3
instance one_36 : OneT Try.prog 36 := ⟨Try.isAgg36, Try.sizeOf36⟩
instance zero_36 : ZeroT Try.prog 36 .nilFunc := ⟨Try.zeroValue36⟩
instance one_37 : OneT Try.prog 37 := ⟨Try.isAgg37, Try.sizeOf37⟩
instance zero_37 : ZeroT Try.prog 37 .nilFunc := ⟨Try.zeroValue37⟩
instance zero_38 : ZeroT Try.prog 38 (.agg #[(.int .i64 0), (.int .i64 0)]) := ⟨Try.zeroValue38⟩
instance agg_38 : AggT Try.prog 38 2 := ⟨Try.isAgg38, Try.sizeOf38⟩
instance fld_38_0 : FldT Try.prog 38 0 0 := fld Try.runUnderlying38 (ft := 3) (by kernel_rfl) Try.sizeOf3
instance fld_38_1 : FldT Try.prog 38 1 1 := fld Try.runUnderlying38 (ft := 3) (by kernel_rfl) Try.sizeOf3
instance zero_39 : ZeroT Try.prog 39 (.agg #[(.int .i64 0), (.int .i64 0)]) := ⟨Try.zeroValue39⟩
instance agg_39 : AggT Try.prog 39 2 := ⟨Try.isAgg39, Try.sizeOf39⟩
instance fld_39_0 : FldT Try.prog 39 0 0 := fld Try.runUnderlying39 (ft := 3) (by kernel_rfl) Try.sizeOf3
instance fld_39_1 : FldT Try.prog 39 1 1 := fld Try.runUnderlying39 (ft := 3) (by kernel_rfl) Try.sizeOf3
instance zero_40 : ZeroT Try.prog 40 (.agg #[(.int .i64 0), (.int .i64 0)]) := ⟨Try.zeroValue40⟩
instance agg_40 : AggT Try.prog 40 2 := ⟨Try.isAgg40, Try.sizeOf40⟩
instance fld_40_0 : FldT Try.prog 40 0 0 := fld Try.runUnderlying40 (ft := 3) (by kernel_rfl) Try.sizeOf3
instance fld_40_1 : FldT Try.prog 40 1 1 := fld Try.runUnderlying40 (ft := 3) (by kernel_rfl) Try.sizeOf3
instance zero_41 : ZeroT Try.prog 41 (.agg #[(.int .i64 0), (.int .i64 0)]) := ⟨Try.zeroValue41⟩
instance agg_41 : AggT Try.prog 41 2 := ⟨Try.isAgg41, Try.sizeOf41⟩
instance fld_41_0 : FldT Try.prog 41 0 0 := fld Try.runUnderlying41 (ft := 3) (by kernel_rfl) Try.sizeOf3
instance fld_41_1 : FldT Try.prog 41 1 1 := fld Try.runUnderlying41 (ft := 3) (by kernel_rfl) Try.sizeOf3
instance one_43 : OneT Try.prog 43 := ⟨Try.isAgg43, Try.sizeOf43⟩
instance zero_43 : ZeroT Try.prog 43 .nilFunc := ⟨Try.zeroValue43⟩
instance one_44 : OneT Try.prog 44 := ⟨Try.isAgg44, Try.sizeOf44⟩
instance zero_44 : ZeroT Try.prog 44 .nilFunc := ⟨Try.zeroValue44⟩
instance one_45 : OneT Try.prog 45 := ⟨Try.isAgg45, Try.sizeOf45⟩
instance zero_45 : ZeroT Try.prog 45 (.slice none 0 0) := ⟨Try.zeroValue45⟩
instance sl_45 : SlT Try.prog 45 54 4 48 := slt (z := (.agg #[(.int .i64 0), (.int .i64 0), (.int .i64 0), (.slice none 0 0)])) Try.underlying45 (i := Try.t54) (by kernel_rfl) (by kernel_rfl) (by kernel_rfl) (by kernel_rfl) (by kernel_rfl)
instance one_46 : OneT Try.prog 46 := ⟨Try.isAgg46, Try.sizeOf46⟩
instance zero_46 : ZeroT Try.prog 46 (.pointer none) := ⟨Try.zeroValue46⟩
instance ptr_46 : PtrT Try.prog 46 := ⟨by kernel_rfl⟩
instance one_47 : OneT Try.prog 47 := ⟨Try.isAgg47, Try.sizeOf47⟩
instance zero_47 : ZeroT Try.prog 47 .nilFunc := ⟨Try.zeroValue47⟩
instance one_48 : OneT Try.prog 48 := ⟨Try.isAgg48, Try.sizeOf48⟩
instance zero_48 : ZeroT Try.prog 48 (.pointer none) := ⟨Try.zeroValue48⟩
instance ptr_48 : PtrT Try.prog 48 := ⟨by kernel_rfl⟩
instance one_49 : OneT Try.prog 49 := ⟨Try.isAgg49, Try.sizeOf49⟩
instance zero_49 : ZeroT Try.prog 49 (.slice none 0 0) := ⟨Try.zeroValue49⟩
instance bytes_49 : BytesT Try.prog 49 := ⟨_, Try.underlying49, Try.underlying5⟩
instance sl_49 : SlT Try.prog 49 5 1 1 := slt (z := (.int .u8 0)) Try.underlying49 (i := Try.t5) (by kernel_rfl) (by kernel_rfl) (by kernel_rfl) (by kernel_rfl) (by kernel_rfl)
instance zero_50 : ZeroT Try.prog 50 (.agg #[(.slice none 0 0)]) := ⟨Try.zeroValue50⟩
instance agg_50 : AggT Try.prog 50 1 := ⟨Try.isAgg50, Try.sizeOf50⟩
instance fld_50_0 : FldT Try.prog 50 0 0 := fld Try.runUnderlying50 (ft := 49) (by kernel_rfl) Try.sizeOf49
instance zero_51 : ZeroT Try.prog 51 (.agg #[(.slice none 0 0)]) := ⟨Try.zeroValue51⟩
instance agg_51 : AggT Try.prog 51 1 := ⟨Try.isAgg51, Try.sizeOf51⟩
instance fld_51_0 : FldT Try.prog 51 0 0 := fld Try.runUnderlying51 (ft := 49) (by kernel_rfl) Try.sizeOf49
instance one_52 : OneT Try.prog 52 := ⟨Try.isAgg52, Try.sizeOf52⟩
instance zero_52 : ZeroT Try.prog 52 .nilFunc := ⟨Try.zeroValue52⟩
instance zero_53 : ZeroT Try.prog 53 (.agg #[(.int .i64 0), (.int .i64 0), (.int .i64 0), (.slice none 0 0)]) := ⟨Try.zeroValue53⟩
instance agg_53 : AggT Try.prog 53 4 := ⟨Try.isAgg53, Try.sizeOf53⟩
instance fld_53_0 : FldT Try.prog 53 0 0 := fld Try.runUnderlying53 (ft := 3) (by kernel_rfl) Try.sizeOf3
instance fld_53_1 : FldT Try.prog 53 1 1 := fld Try.runUnderlying53 (ft := 3) (by kernel_rfl) Try.sizeOf3
instance fld_53_2 : FldT Try.prog 53 2 2 := fld Try.runUnderlying53 (ft := 3) (by kernel_rfl) Try.sizeOf3
instance fld_53_3 : FldT Try.prog 53 3 3 := fld Try.runUnderlying53 (ft := 49) (by kernel_rfl) Try.sizeOf49
instance zero_54 : ZeroT Try.prog 54 (.agg #[(.int .i64 0), (.int .i64 0), (.int .i64 0), (.slice none 0 0)]) := ⟨Try.zeroValue54⟩
instance agg_54 : AggT Try.prog 54 4 := ⟨Try.isAgg54, Try.sizeOf54⟩
instance fld_54_0 : FldT Try.prog 54 0 0 := fld Try.runUnderlying54 (ft := 3) (by kernel_rfl) Try.sizeOf3
instance fld_54_1 : FldT Try.prog 54 1 1 := fld Try.runUnderlying54 (ft := 3) (by kernel_rfl) Try.sizeOf3
instance fld_54_2 : FldT Try.prog 54 2 2 := fld Try.runUnderlying54 (ft := 3) (by kernel_rfl) Try.sizeOf3
instance fld_54_3 : FldT Try.prog 54 3 3 := fld Try.runUnderlying54 (ft := 49) (by kernel_rfl) Try.sizeOf49
instance one_55 : OneT Try.prog 55 := ⟨Try.isAgg55, Try.sizeOf55⟩
instance zero_55 : ZeroT Try.prog 55 .nilFunc := ⟨Try.zeroValue55⟩
instance one_56 : OneT Try.prog 56 := ⟨Try.isAgg56, Try.sizeOf56⟩
instance zero_56 : ZeroT Try.prog 56 .nilFunc := ⟨Try.zeroValue56⟩
instance one_57 : OneT Try.prog 57 := ⟨Try.isAgg57, Try.sizeOf57⟩
instance zero_57 : ZeroT Try.prog 57 .nilFunc := ⟨Try.zeroValue57⟩
instance one_58 : OneT Try.prog 58 := ⟨Try.isAgg58, Try.sizeOf58⟩
instance zero_58 : ZeroT Try.prog 58 (.pointer none) := ⟨Try.zeroValue58⟩
instance ptr_58 : PtrT Try.prog 58 := ⟨by kernel_rfl⟩
instance one_59 : OneT Try.prog 59 := ⟨Try.isAgg59, Try.sizeOf59⟩
instance zero_59 : ZeroT Try.prog 59 .nilFunc := ⟨Try.zeroValue59⟩
instance one_60 : OneT Try.prog 60 := ⟨Try.isAgg60, Try.sizeOf60⟩
instance zero_60 : ZeroT Try.prog 60 .nilFunc := ⟨Try.zeroValue60⟩
instance one_61 : OneT Try.prog 61 := ⟨Try.isAgg61, Try.sizeOf61⟩
instance zero_61 : ZeroT Try.prog 61 (.pointer none) := ⟨Try.zeroValue61⟩
instance ptr_61 : PtrT Try.prog 61 := ⟨by kernel_rfl⟩
instance one_62 : OneT Try.prog 62 := ⟨Try.isAgg62, Try.sizeOf62⟩
instance zero_62 : ZeroT Try.prog 62 .nilFunc := ⟨Try.zeroValue62⟩
instance one_64 : OneT Try.prog 64 := ⟨Try.isAgg64, Try.sizeOf64⟩
instance zero_64 : ZeroT Try.prog 64 .nilFunc := ⟨Try.zeroValue64⟩
instance one_66 : OneT Try.prog 66 := ⟨Try.isAgg66, Try.sizeOf66⟩
instance zero_66 : ZeroT Try.prog 66 .nilFunc := ⟨Try.zeroValue66⟩
instance one_68 : OneT Try.prog 68 := ⟨Try.isAgg68, Try.sizeOf68⟩
instance zero_68 : ZeroT Try.prog 68 .nilFunc := ⟨Try.zeroValue68⟩
instance one_70 : OneT Try.prog 70 := ⟨Try.isAgg70, Try.sizeOf70⟩
instance zero_70 : ZeroT Try.prog 70 .nilFunc := ⟨Try.zeroValue70⟩
instance one_71 : OneT Try.prog 71 := ⟨Try.isAgg71, Try.sizeOf71⟩
instance zero_71 : ZeroT Try.prog 71 .nilFunc := ⟨Try.zeroValue71⟩
instance one_72 : OneT Try.prog 72 := ⟨Try.isAgg72, Try.sizeOf72⟩
instance zero_72 : ZeroT Try.prog 72 .nilFunc := ⟨Try.zeroValue72⟩
instance one_73 : OneT Try.prog 73 := ⟨Try.isAgg73, Try.sizeOf73⟩
instance zero_73 : ZeroT Try.prog 73 .nilFunc := ⟨Try.zeroValue73⟩
instance one_74 : OneT Try.prog 74 := ⟨Try.isAgg74, Try.sizeOf74⟩
instance zero_74 : ZeroT Try.prog 74 .nilFunc := ⟨Try.zeroValue74⟩
instance zero_75 : ZeroT Try.prog 75 (.agg #[(.slice none 0 0), (.int .i64 0), (.bool false)]) := ⟨Try.zeroValue75⟩
instance agg_75 : AggT Try.prog 75 3 := ⟨Try.isAgg75, Try.sizeOf75⟩
instance fld_75_0 : FldT Try.prog 75 0 0 := fld Try.runUnderlying75 (ft := 49) (by kernel_rfl) Try.sizeOf49
instance fld_75_1 : FldT Try.prog 75 1 1 := fld Try.runUnderlying75 (ft := 3) (by kernel_rfl) Try.sizeOf3
instance fld_75_2 : FldT Try.prog 75 2 2 := fld Try.runUnderlying75 (ft := 4) (by kernel_rfl) Try.sizeOf4
instance zero_76 : ZeroT Try.prog 76 (.agg #[(.slice none 0 0), (.int .i64 0), (.bool false)]) := ⟨Try.zeroValue76⟩
instance agg_76 : AggT Try.prog 76 3 := ⟨Try.isAgg76, Try.sizeOf76⟩
instance fld_76_0 : FldT Try.prog 76 0 0 := fld Try.runUnderlying76 (ft := 49) (by kernel_rfl) Try.sizeOf49
instance fld_76_1 : FldT Try.prog 76 1 1 := fld Try.runUnderlying76 (ft := 3) (by kernel_rfl) Try.sizeOf3
instance fld_76_2 : FldT Try.prog 76 2 2 := fld Try.runUnderlying76 (ft := 4) (by kernel_rfl) Try.sizeOf4
instance zero_77 : ZeroT Try.prog 77 (.agg #[(.slice none 0 0), (.int .i64 0)]) := ⟨Try.zeroValue77⟩
instance agg_77 : AggT Try.prog 77 2 := ⟨Try.isAgg77, Try.sizeOf77⟩
instance fld_77_0 : FldT Try.prog 77 0 0 := fld Try.runUnderlying77 (ft := 49) (by kernel_rfl) Try.sizeOf49
instance fld_77_1 : FldT Try.prog 77 1 1 := fld Try.runUnderlying77 (ft := 3) (by kernel_rfl) Try.sizeOf3
instance zero_78 : ZeroT Try.prog 78 (.agg #[(.slice none 0 0), (.int .i64 0)]) := ⟨Try.zeroValue78⟩
instance agg_78 : AggT Try.prog 78 2 := ⟨Try.isAgg78, Try.sizeOf78⟩
instance fld_78_0 : FldT Try.prog 78 0 0 := fld Try.runUnderlying78 (ft := 49) (by kernel_rfl) Try.sizeOf49
instance fld_78_1 : FldT Try.prog 78 1 1 := fld Try.runUnderlying78 (ft := 3) (by kernel_rfl) Try.sizeOf3
instance zero_79 : ZeroT Try.prog 79 (.agg #[(.slice none 0 0), (.int .i64 0), (.bool false)]) := ⟨Try.zeroValue79⟩
instance agg_79 : AggT Try.prog 79 3 := ⟨Try.isAgg79, Try.sizeOf79⟩
instance fld_79_0 : FldT Try.prog 79 0 0 := fld Try.runUnderlying79 (ft := 78) (by kernel_rfl) Try.sizeOf78
instance fld_79_1 : FldT Try.prog 79 1 2 := fld Try.runUnderlying79 (ft := 4) (by kernel_rfl) Try.sizeOf4
instance zero_80 : ZeroT Try.prog 80 (.agg #[(.slice none 0 0), (.int .i64 0), (.bool false)]) := ⟨Try.zeroValue80⟩
instance agg_80 : AggT Try.prog 80 3 := ⟨Try.isAgg80, Try.sizeOf80⟩
instance fld_80_0 : FldT Try.prog 80 0 0 := fld Try.runUnderlying80 (ft := 78) (by kernel_rfl) Try.sizeOf78
instance fld_80_1 : FldT Try.prog 80 1 2 := fld Try.runUnderlying80 (ft := 4) (by kernel_rfl) Try.sizeOf4
instance one_81 : OneT Try.prog 81 := ⟨Try.isAgg81, Try.sizeOf81⟩
instance zero_81 : ZeroT Try.prog 81 .nilFunc := ⟨Try.zeroValue81⟩
instance one_82 : OneT Try.prog 82 := ⟨Try.isAgg82, Try.sizeOf82⟩
instance zero_82 : ZeroT Try.prog 82 .nilFunc := ⟨Try.zeroValue82⟩
instance one_83 : OneT Try.prog 83 := ⟨Try.isAgg83, Try.sizeOf83⟩
instance zero_83 : ZeroT Try.prog 83 (.slice none 0 0) := ⟨Try.zeroValue83⟩
instance sl_83 : SlT Try.prog 83 87 3 24 := slt (z := (.agg #[(.int .i64 0), (.int .i64 0), (.int .i64 0)])) Try.underlying83 (i := Try.t87) (by kernel_rfl) (by kernel_rfl) (by kernel_rfl) (by kernel_rfl) (by kernel_rfl)
instance one_84 : OneT Try.prog 84 := ⟨Try.isAgg84, Try.sizeOf84⟩
instance zero_84 : ZeroT Try.prog 84 (.slice none 0 0) := ⟨Try.zeroValue84⟩
instance sl_84 : SlT Try.prog 84 41 2 16 := slt (z := (.agg #[(.int .i64 0), (.int .i64 0)])) Try.underlying84 (i := Try.t41) (by kernel_rfl) (by kernel_rfl) (by kernel_rfl) (by kernel_rfl) (by kernel_rfl)
instance one_85 : OneT Try.prog 85 := ⟨Try.isAgg85, Try.sizeOf85⟩
instance zero_85 : ZeroT Try.prog 85 (.slice none 0 0) := ⟨Try.zeroValue85⟩
instance sl_85 : SlT Try.prog 85 3 1 8 := slt (z := (.int .i64 0)) Try.underlying85 (i := Try.t3) (by kernel_rfl) (by kernel_rfl) (by kernel_rfl) (by kernel_rfl) (by kernel_rfl)
instance zero_86 : ZeroT Try.prog 86 (.agg #[(.int .i64 0), (.int .i64 0), (.int .i64 0)]) := ⟨Try.zeroValue86⟩
instance agg_86 : AggT Try.prog 86 3 := ⟨Try.isAgg86, Try.sizeOf86⟩
instance fld_86_0 : FldT Try.prog 86 0 0 := fld Try.runUnderlying86 (ft := 3) (by kernel_rfl) Try.sizeOf3
instance fld_86_1 : FldT Try.prog 86 1 1 := fld Try.runUnderlying86 (ft := 3) (by kernel_rfl) Try.sizeOf3
instance fld_86_2 : FldT Try.prog 86 2 2 := fld Try.runUnderlying86 (ft := 3) (by kernel_rfl) Try.sizeOf3
instance zero_87 : ZeroT Try.prog 87 (.agg #[(.int .i64 0), (.int .i64 0), (.int .i64 0)]) := ⟨Try.zeroValue87⟩
instance agg_87 : AggT Try.prog 87 3 := ⟨Try.isAgg87, Try.sizeOf87⟩
instance fld_87_0 : FldT Try.prog 87 0 0 := fld Try.runUnderlying87 (ft := 3) (by kernel_rfl) Try.sizeOf3
instance fld_87_1 : FldT Try.prog 87 1 1 := fld Try.runUnderlying87 (ft := 3) (by kernel_rfl) Try.sizeOf3
instance fld_87_2 : FldT Try.prog 87 2 2 := fld Try.runUnderlying87 (ft := 3) (by kernel_rfl) Try.sizeOf3
instance one_88 : OneT Try.prog 88 := ⟨Try.isAgg88, Try.sizeOf88⟩
instance zero_88 : ZeroT Try.prog 88 .nilFunc := ⟨Try.zeroValue88⟩
instance one_89 : OneT Try.prog 89 := ⟨Try.isAgg89, Try.sizeOf89⟩
instance zero_89 : ZeroT Try.prog 89 .nilFunc := ⟨Try.zeroValue89⟩
instance one_90 : OneT Try.prog 90 := ⟨Try.isAgg90, Try.sizeOf90⟩
instance zero_90 : ZeroT Try.prog 90 .nilFunc := ⟨Try.zeroValue90⟩
instance one_91 : OneT Try.prog 91 := ⟨Try.isAgg91, Try.sizeOf91⟩
instance zero_91 : ZeroT Try.prog 91 .nilFunc := ⟨Try.zeroValue91⟩
instance one_92 : OneT Try.prog 92 := ⟨Try.isAgg92, Try.sizeOf92⟩
instance zero_92 : ZeroT Try.prog 92 (.slice none 0 0) := ⟨Try.zeroValue92⟩
instance sl_92 : SlT Try.prog 92 97 1 8 := slt (z := (.pointer none)) Try.underlying92 (i := Try.t97) (by kernel_rfl) (by kernel_rfl) (by kernel_rfl) (by kernel_rfl) (by kernel_rfl)
instance one_93 : OneT Try.prog 93 := ⟨Try.isAgg93, Try.sizeOf93⟩
instance zero_93 : ZeroT Try.prog 93 (.map none) := ⟨Try.zeroValue93⟩
instance map_93 : MapT Try.prog 93 3 97 := ⟨Try.underlying93⟩
instance zero_94 : ZeroT Try.prog 94 (.agg #[(.slice none 0 0), (.map none), (.map none), (.int .i64 0), (.int .i64 0), (.int .i64 0)]) := ⟨Try.zeroValue94⟩
instance agg_94 : AggT Try.prog 94 6 := ⟨Try.isAgg94, Try.sizeOf94⟩
instance fld_94_0 : FldT Try.prog 94 0 0 := fld Try.runUnderlying94 (ft := 92) (by kernel_rfl) Try.sizeOf92
instance fld_94_1 : FldT Try.prog 94 1 1 := fld Try.runUnderlying94 (ft := 93) (by kernel_rfl) Try.sizeOf93
instance fld_94_2 : FldT Try.prog 94 2 2 := fld Try.runUnderlying94 (ft := 93) (by kernel_rfl) Try.sizeOf93
instance fld_94_3 : FldT Try.prog 94 3 3 := fld Try.runUnderlying94 (ft := 3) (by kernel_rfl) Try.sizeOf3
instance fld_94_4 : FldT Try.prog 94 4 4 := fld Try.runUnderlying94 (ft := 3) (by kernel_rfl) Try.sizeOf3
instance fld_94_5 : FldT Try.prog 94 5 5 := fld Try.runUnderlying94 (ft := 3) (by kernel_rfl) Try.sizeOf3
instance zero_95 : ZeroT Try.prog 95 (.agg #[(.slice none 0 0), (.map none), (.map none), (.int .i64 0), (.int .i64 0), (.int .i64 0)]) := ⟨Try.zeroValue95⟩
instance agg_95 : AggT Try.prog 95 6 := ⟨Try.isAgg95, Try.sizeOf95⟩
instance fld_95_0 : FldT Try.prog 95 0 0 := fld Try.runUnderlying95 (ft := 92) (by kernel_rfl) Try.sizeOf92
instance fld_95_1 : FldT Try.prog 95 1 1 := fld Try.runUnderlying95 (ft := 93) (by kernel_rfl) Try.sizeOf93
instance fld_95_2 : FldT Try.prog 95 2 2 := fld Try.runUnderlying95 (ft := 93) (by kernel_rfl) Try.sizeOf93
instance fld_95_3 : FldT Try.prog 95 3 3 := fld Try.runUnderlying95 (ft := 3) (by kernel_rfl) Try.sizeOf3
instance fld_95_4 : FldT Try.prog 95 4 4 := fld Try.runUnderlying95 (ft := 3) (by kernel_rfl) Try.sizeOf3
instance fld_95_5 : FldT Try.prog 95 5 5 := fld Try.runUnderlying95 (ft := 3) (by kernel_rfl) Try.sizeOf3
instance zero_96 : ZeroT Try.prog 96 (.agg #[(.int .i64 0), (.int .i64 0)]) := ⟨Try.zeroValue96⟩
instance agg_96 : AggT Try.prog 96 2 := ⟨Try.isAgg96, Try.sizeOf96⟩
instance fld_96_0 : FldT Try.prog 96 0 0 := fld Try.runUnderlying96 (ft := 3) (by kernel_rfl) Try.sizeOf3
instance fld_96_1 : FldT Try.prog 96 1 1 := fld Try.runUnderlying96 (ft := 3) (by kernel_rfl) Try.sizeOf3
instance one_97 : OneT Try.prog 97 := ⟨Try.isAgg97, Try.sizeOf97⟩
instance zero_97 : ZeroT Try.prog 97 (.pointer none) := ⟨Try.zeroValue97⟩
instance ptr_97 : PtrT Try.prog 97 := ⟨by kernel_rfl⟩
instance one_98 : OneT Try.prog 98 := ⟨Try.isAgg98, Try.sizeOf98⟩
instance zero_98 : ZeroT Try.prog 98 .nilFunc := ⟨Try.zeroValue98⟩
instance zero_99 : ZeroT Try.prog 99 (.agg #[(.int .i64 0), (.int .i64 0), (.slice none 0 0), (.int .i64 0), (.int .i64 0)]) := ⟨Try.zeroValue99⟩
instance agg_99 : AggT Try.prog 99 5 := ⟨Try.isAgg99, Try.sizeOf99⟩
instance fld_99_0 : FldT Try.prog 99 0 0 := fld Try.runUnderlying99 (ft := 96) (by kernel_rfl) Try.sizeOf96
instance fld_99_1 : FldT Try.prog 99 1 2 := fld Try.runUnderlying99 (ft := 85) (by kernel_rfl) Try.sizeOf85
instance fld_99_2 : FldT Try.prog 99 2 3 := fld Try.runUnderlying99 (ft := 3) (by kernel_rfl) Try.sizeOf3
instance fld_99_3 : FldT Try.prog 99 3 4 := fld Try.runUnderlying99 (ft := 3) (by kernel_rfl) Try.sizeOf3
instance zero_100 : ZeroT Try.prog 100 (.agg #[(.int .i64 0), (.int .i64 0), (.slice none 0 0), (.int .i64 0), (.int .i64 0)]) := ⟨Try.zeroValue100⟩
instance agg_100 : AggT Try.prog 100 5 := ⟨Try.isAgg100, Try.sizeOf100⟩
instance fld_100_0 : FldT Try.prog 100 0 0 := fld Try.runUnderlying100 (ft := 96) (by kernel_rfl) Try.sizeOf96
instance fld_100_1 : FldT Try.prog 100 1 2 := fld Try.runUnderlying100 (ft := 85) (by kernel_rfl) Try.sizeOf85
instance fld_100_2 : FldT Try.prog 100 2 3 := fld Try.runUnderlying100 (ft := 3) (by kernel_rfl) Try.sizeOf3
instance fld_100_3 : FldT Try.prog 100 3 4 := fld Try.runUnderlying100 (ft := 3) (by kernel_rfl) Try.sizeOf3
instance one_101 : OneT Try.prog 101 := ⟨Try.isAgg101, Try.sizeOf101⟩
instance zero_101 : ZeroT Try.prog 101 .nilFunc := ⟨Try.zeroValue101⟩
instance one_102 : OneT Try.prog 102 := ⟨Try.isAgg102, Try.sizeOf102⟩
instance zero_102 : ZeroT Try.prog 102 .nilFunc := ⟨Try.zeroValue102⟩
instance one_103 : OneT Try.prog 103 := ⟨Try.isAgg103, Try.sizeOf103⟩
instance zero_103 : ZeroT Try.prog 103 .nilFunc := ⟨Try.zeroValue103⟩
instance one_104 : OneT Try.prog 104 := ⟨Try.isAgg104, Try.sizeOf104⟩
instance zero_104 : ZeroT Try.prog 104 .nilFunc := ⟨Try.zeroValue104⟩
instance one_105 : OneT Try.prog 105 := ⟨Try.isAgg105, Try.sizeOf105⟩
instance zero_105 : ZeroT Try.prog 105 .nilFunc := ⟨Try.zeroValue105⟩
instance zero_106 : ZeroT Try.prog 106 (.agg #[(.slice none 0 0), (.int .i64 0)]) := ⟨Try.zeroValue106⟩
instance agg_106 : AggT Try.prog 106 2 := ⟨Try.isAgg106, Try.sizeOf106⟩
instance fld_106_0 : FldT Try.prog 106 0 0 := fld Try.runUnderlying106 (ft := 49) (by kernel_rfl) Try.sizeOf49
instance fld_106_1 : FldT Try.prog 106 1 1 := fld Try.runUnderlying106 (ft := 3) (by kernel_rfl) Try.sizeOf3
instance zero_107 : ZeroT Try.prog 107 (.agg #[(.slice none 0 0), (.int .i64 0)]) := ⟨Try.zeroValue107⟩
instance agg_107 : AggT Try.prog 107 2 := ⟨Try.isAgg107, Try.sizeOf107⟩
instance fld_107_0 : FldT Try.prog 107 0 0 := fld Try.runUnderlying107 (ft := 49) (by kernel_rfl) Try.sizeOf49
instance fld_107_1 : FldT Try.prog 107 1 1 := fld Try.runUnderlying107 (ft := 3) (by kernel_rfl) Try.sizeOf3
instance zero_108 : ZeroT Try.prog 108 (.agg #[(.int .u8 0), (.int .u8 0), (.int .u8 0), (.int .u8 0), (.int .u8 0), (.int .u8 0), (.int .u8 0), (.int .u8 0)]) := ⟨Try.zeroValue108⟩
instance agg_108 : AggT Try.prog 108 8 := ⟨Try.isAgg108, Try.sizeOf108⟩
instance arr_108 : ArrT Try.prog 108 8 5 1 := ⟨Try.runUnderlying108, Try.sizeOf5⟩
instance one_109 : OneT Try.prog 109 := ⟨Try.isAgg109, Try.sizeOf109⟩
instance zero_109 : ZeroT Try.prog 109 .nilFunc := ⟨Try.zeroValue109⟩
instance one_110 : OneT Try.prog 110 := ⟨Try.isAgg110, Try.sizeOf110⟩
instance zero_110 : ZeroT Try.prog 110 .nilFunc := ⟨Try.zeroValue110⟩
instance one_111 : OneT Try.prog 111 := ⟨Try.isAgg111, Try.sizeOf111⟩
instance zero_111 : ZeroT Try.prog 111 .nilFunc := ⟨Try.zeroValue111⟩
instance one_112 : OneT Try.prog 112 := ⟨Try.isAgg112, Try.sizeOf112⟩
instance zero_112 : ZeroT Try.prog 112 .nilFunc := ⟨Try.zeroValue112⟩
instance one_113 : OneT Try.prog 113 := ⟨Try.isAgg113, Try.sizeOf113⟩
instance zero_113 : ZeroT Try.prog 113 (.pointer none) := ⟨Try.zeroValue113⟩
instance ptr_113 : PtrT Try.prog 113 := ⟨by kernel_rfl⟩
instance one_114 : OneT Try.prog 114 := ⟨Try.isAgg114, Try.sizeOf114⟩
instance zero_114 : ZeroT Try.prog 114 .nilFunc := ⟨Try.zeroValue114⟩
instance one_115 : OneT Try.prog 115 := ⟨Try.isAgg115, Try.sizeOf115⟩
instance zero_115 : ZeroT Try.prog 115 .nilFunc := ⟨Try.zeroValue115⟩
instance zero_116 : ZeroT Try.prog 116 (.agg #[(.pointer none), (.pointer none), (.pointer none), (.string ⟨#[]⟩)]) := ⟨Try.zeroValue116⟩
instance agg_116 : AggT Try.prog 116 4 := ⟨Try.isAgg116, Try.sizeOf116⟩
instance fld_116_0 : FldT Try.prog 116 0 0 := fld Try.runUnderlying116 (ft := 17) (by kernel_rfl) Try.sizeOf17
instance fld_116_1 : FldT Try.prog 116 1 1 := fld Try.runUnderlying116 (ft := 17) (by kernel_rfl) Try.sizeOf17
instance fld_116_2 : FldT Try.prog 116 2 2 := fld Try.runUnderlying116 (ft := 17) (by kernel_rfl) Try.sizeOf17
instance fld_116_3 : FldT Try.prog 116 3 3 := fld Try.runUnderlying116 (ft := 9) (by kernel_rfl) Try.sizeOf9
instance zero_117 : ZeroT Try.prog 117 (.agg #[(.pointer none), (.pointer none), (.pointer none), (.string ⟨#[]⟩)]) := ⟨Try.zeroValue117⟩
instance agg_117 : AggT Try.prog 117 4 := ⟨Try.isAgg117, Try.sizeOf117⟩
instance fld_117_0 : FldT Try.prog 117 0 0 := fld Try.runUnderlying117 (ft := 17) (by kernel_rfl) Try.sizeOf17
instance fld_117_1 : FldT Try.prog 117 1 1 := fld Try.runUnderlying117 (ft := 17) (by kernel_rfl) Try.sizeOf17
instance fld_117_2 : FldT Try.prog 117 2 2 := fld Try.runUnderlying117 (ft := 17) (by kernel_rfl) Try.sizeOf17
instance fld_117_3 : FldT Try.prog 117 3 3 := fld Try.runUnderlying117 (ft := 9) (by kernel_rfl) Try.sizeOf9
instance zero_118 : ZeroT Try.prog 118 (.agg #[]) := ⟨Try.zeroValue118⟩
instance agg_118 : AggT Try.prog 118 0 := ⟨Try.isAgg118, Try.sizeOf118⟩
instance arr_118 : ArrT Try.prog 118 0 16 1 := ⟨Try.runUnderlying118, Try.sizeOf16⟩
instance zero_119 : ZeroT Try.prog 119 (.agg #[]) := ⟨Try.zeroValue119⟩
instance agg_119 : AggT Try.prog 119 0 := ⟨Try.isAgg119, Try.sizeOf119⟩
instance zero_120 : ZeroT Try.prog 120 (.agg #[]) := ⟨Try.zeroValue120⟩
instance agg_120 : AggT Try.prog 120 0 := ⟨Try.isAgg120, Try.sizeOf120⟩
instance one_121 : OneT Try.prog 121 := ⟨Try.isAgg121, Try.sizeOf121⟩
instance zero_121 : ZeroT Try.prog 121 (.int .u32 0) := ⟨Try.zeroValue121⟩
instance int_121 : IntT Try.prog 121 .u32 := ⟨Try.runUnderlying121⟩
instance one_122 : OneT Try.prog 122 := ⟨Try.isAgg122, Try.sizeOf122⟩
instance zero_122 : ZeroT Try.prog 122 (.int .u8 0) := ⟨Try.zeroValue122⟩
instance int_122 : IntT Try.prog 122 .u8 := ⟨Try.runUnderlying122⟩
instance one_123 : OneT Try.prog 123 := ⟨Try.isAgg123, Try.sizeOf123⟩
instance zero_123 : ZeroT Try.prog 123 (.int .u8 0) := ⟨Try.zeroValue123⟩
instance int_123 : IntT Try.prog 123 .u8 := ⟨Try.runUnderlying123⟩
instance one_124 : OneT Try.prog 124 := ⟨Try.isAgg124, Try.sizeOf124⟩
instance zero_124 : ZeroT Try.prog 124 .nilFunc := ⟨Try.zeroValue124⟩
instance one_125 : OneT Try.prog 125 := ⟨Try.isAgg125, Try.sizeOf125⟩
instance zero_125 : ZeroT Try.prog 125 (.pointer none) := ⟨Try.zeroValue125⟩
instance ptr_125 : PtrT Try.prog 125 := ⟨by kernel_rfl⟩
instance one_126 : OneT Try.prog 126 := ⟨Try.isAgg126, Try.sizeOf126⟩
instance zero_126 : ZeroT Try.prog 126 (.int .i32 0) := ⟨Try.zeroValue126⟩
instance int_126 : IntT Try.prog 126 .i32 := ⟨Try.runUnderlying126⟩
instance one_127 : OneT Try.prog 127 := ⟨Try.isAgg127, Try.sizeOf127⟩
instance zero_127 : ZeroT Try.prog 127 (.int .i32 0) := ⟨Try.zeroValue127⟩
instance int_127 : IntT Try.prog 127 .i32 := ⟨Try.runUnderlying127⟩
instance zero_128 : ZeroT Try.prog 128 (.agg #[(.int .u64 0), (.int .u64 0), (.int .u32 0), (.int .u8 0), (.int .u8 0), (.int .u8 0), (.int .u8 0), .nilFunc, (.pointer none), (.int .i32 0), (.int .i32 0)]) := ⟨Try.zeroValue128⟩
instance agg_128 : AggT Try.prog 128 11 := ⟨Try.isAgg128, Try.sizeOf128⟩
instance fld_128_0 : FldT Try.prog 128 0 0 := fld Try.runUnderlying128 (ft := 12) (by kernel_rfl) Try.sizeOf12
instance fld_128_1 : FldT Try.prog 128 1 1 := fld Try.runUnderlying128 (ft := 12) (by kernel_rfl) Try.sizeOf12
instance fld_128_2 : FldT Try.prog 128 2 2 := fld Try.runUnderlying128 (ft := 121) (by kernel_rfl) Try.sizeOf121
instance fld_128_3 : FldT Try.prog 128 3 3 := fld Try.runUnderlying128 (ft := 122) (by kernel_rfl) Try.sizeOf122
instance fld_128_4 : FldT Try.prog 128 4 4 := fld Try.runUnderlying128 (ft := 5) (by kernel_rfl) Try.sizeOf5
instance fld_128_5 : FldT Try.prog 128 5 5 := fld Try.runUnderlying128 (ft := 5) (by kernel_rfl) Try.sizeOf5
instance fld_128_6 : FldT Try.prog 128 6 6 := fld Try.runUnderlying128 (ft := 123) (by kernel_rfl) Try.sizeOf123
instance fld_128_7 : FldT Try.prog 128 7 7 := fld Try.runUnderlying128 (ft := 124) (by kernel_rfl) Try.sizeOf124
instance fld_128_8 : FldT Try.prog 128 8 8 := fld Try.runUnderlying128 (ft := 125) (by kernel_rfl) Try.sizeOf125
instance fld_128_9 : FldT Try.prog 128 9 9 := fld Try.runUnderlying128 (ft := 126) (by kernel_rfl) Try.sizeOf126
instance fld_128_10 : FldT Try.prog 128 10 10 := fld Try.runUnderlying128 (ft := 127) (by kernel_rfl) Try.sizeOf127
instance zero_129 : ZeroT Try.prog 129 (.agg #[(.int .u64 0), (.int .u64 0), (.int .u32 0), (.int .u8 0), (.int .u8 0), (.int .u8 0), (.int .u8 0), .nilFunc, (.pointer none), (.int .i32 0), (.int .i32 0)]) := ⟨Try.zeroValue129⟩
instance agg_129 : AggT Try.prog 129 11 := ⟨Try.isAgg129, Try.sizeOf129⟩
instance fld_129_0 : FldT Try.prog 129 0 0 := fld Try.runUnderlying129 (ft := 12) (by kernel_rfl) Try.sizeOf12
instance fld_129_1 : FldT Try.prog 129 1 1 := fld Try.runUnderlying129 (ft := 12) (by kernel_rfl) Try.sizeOf12
instance fld_129_2 : FldT Try.prog 129 2 2 := fld Try.runUnderlying129 (ft := 121) (by kernel_rfl) Try.sizeOf121
instance fld_129_3 : FldT Try.prog 129 3 3 := fld Try.runUnderlying129 (ft := 122) (by kernel_rfl) Try.sizeOf122
instance fld_129_4 : FldT Try.prog 129 4 4 := fld Try.runUnderlying129 (ft := 5) (by kernel_rfl) Try.sizeOf5
instance fld_129_5 : FldT Try.prog 129 5 5 := fld Try.runUnderlying129 (ft := 5) (by kernel_rfl) Try.sizeOf5
instance fld_129_6 : FldT Try.prog 129 6 6 := fld Try.runUnderlying129 (ft := 123) (by kernel_rfl) Try.sizeOf123
instance fld_129_7 : FldT Try.prog 129 7 7 := fld Try.runUnderlying129 (ft := 124) (by kernel_rfl) Try.sizeOf124
instance fld_129_8 : FldT Try.prog 129 8 8 := fld Try.runUnderlying129 (ft := 125) (by kernel_rfl) Try.sizeOf125
instance fld_129_9 : FldT Try.prog 129 9 9 := fld Try.runUnderlying129 (ft := 126) (by kernel_rfl) Try.sizeOf126
instance fld_129_10 : FldT Try.prog 129 10 10 := fld Try.runUnderlying129 (ft := 127) (by kernel_rfl) Try.sizeOf127
instance one_130 : OneT Try.prog 130 := ⟨Try.isAgg130, Try.sizeOf130⟩
instance zero_130 : ZeroT Try.prog 130 (.pointer none) := ⟨Try.zeroValue130⟩
instance bld_51_  : RV Try.prog (sBuild 51 []) (.agg #[(.slice none 0 0)]) := ⟨fun W w _ => by
   simp [sBuild, Instr.build, Try.zeroValue51, Try.runUnderlying51, Try.sizeOf49, cells_agg, Instr.fill]⟩
instance bld_76_  : RV Try.prog (sBuild 76 []) (.agg #[(.slice none 0 0), (.int .i64 0), (.bool false)]) := ⟨fun W w _ => by
   simp [sBuild, Instr.build, Try.zeroValue76, Try.runUnderlying76, Try.sizeOf3, Try.sizeOf4, Try.sizeOf49, cells_agg, Instr.fill]⟩
instance bld_80_  : RV Try.prog (sBuild 80 []) (.agg #[(.slice none 0 0), (.int .i64 0), (.bool false)]) := ⟨fun W w _ => by
   simp [sBuild, Instr.build, Try.zeroValue80, Try.runUnderlying80, Try.sizeOf4, Try.sizeOf78, cells_agg, Instr.fill]⟩
instance bld_95_  : RV Try.prog (sBuild 95 []) (.agg #[(.slice none 0 0), (.map none), (.map none), (.int .i64 0), (.int .i64 0), (.int .i64 0)]) := ⟨fun W w _ => by
   simp [sBuild, Instr.build, Try.zeroValue95, Try.runUnderlying95, Try.sizeOf3, Try.sizeOf92, Try.sizeOf93, cells_agg, Instr.fill]⟩
instance bld_95_1_2_5 {a0 a1 a2 : Value} [h0 : OC a0] [h1 : OC a1] [h2 : OC a2] : RV Try.prog (sBuild 95 [(1, a0), (2, a1), (5, a2)]) (.agg #[(.slice none 0 0), a0, a1, (.int .i64 0), (.int .i64 0), a2]) := ⟨fun W w _ => by
  have c0 := cells_one h0.one; have c1 := cells_one h1.one; have c2 := cells_one h2.one; simp [sBuild, Instr.build, Try.zeroValue95, Try.runUnderlying95, Try.sizeOf3, Try.sizeOf92, Try.sizeOf93, cells_agg, Instr.fill, c0, c1, c2]⟩
instance bld_100_0_3 {a0_0 a0_1 a1 : Value} [h1 : OC a1] : RV Try.prog (sBuild 100 [(0, .agg #[a0_0, a0_1]), (3, a1)]) (.agg #[a0_0, a0_1, (.slice none 0 0), (.int .i64 0), a1]) := ⟨fun W w _ => by
  have c1 := cells_one h1.one; simp [sBuild, Instr.build, Try.zeroValue100, Try.runUnderlying100, Try.sizeOf3, Try.sizeOf85, Try.sizeOf96, cells_agg, Instr.fill, c1]⟩
instance bld_35_0_2_3 {a0 a1 a2 : Value} [h0 : OC a0] [h1 : OC a1] [h2 : OC a2] : RV Try.prog (sBuild 35 [(0, a0), (2, a1), (3, a2)]) (.agg #[a0, (.slice none 0 0), a1, a2]) := ⟨fun W w _ => by
  have c0 := cells_one h0.one; have c1 := cells_one h1.one; have c2 := cells_one h2.one; simp [sBuild, Instr.build, Try.zeroValue35, Try.runUnderlying35, Try.sizeOf3, Try.sizeOf9, Try.sizeOf33, cells_agg, Instr.fill, c0, c1, c2]⟩
instance bld_96_0_1 {a0 a1 : Value} [h0 : OC a0] [h1 : OC a1] : RV Try.prog (sBuild 96 [(0, a0), (1, a1)]) (.agg #[a0, a1]) := ⟨fun W w _ => by
  have c0 := cells_one h0.one; have c1 := cells_one h1.one; simp [sBuild, Instr.build, Try.zeroValue96, Try.runUnderlying96, Try.sizeOf3, cells_agg, Instr.fill, c0, c1]⟩
instance bld_41_  : RV Try.prog (sBuild 41 []) (.agg #[(.int .i64 0), (.int .i64 0)]) := ⟨fun W w _ => by
   simp [sBuild, Instr.build, Try.zeroValue41, Try.runUnderlying41, Try.sizeOf3, cells_agg, Instr.fill]⟩
instance bld_41_0_1 {a0 a1 : Value} [h0 : OC a0] [h1 : OC a1] : RV Try.prog (sBuild 41 [(0, a0), (1, a1)]) (.agg #[a0, a1]) := ⟨fun W w _ => by
  have c0 := cells_one h0.one; have c1 := cells_one h1.one; simp [sBuild, Instr.build, Try.zeroValue41, Try.runUnderlying41, Try.sizeOf3, cells_agg, Instr.fill, c0, c1]⟩
instance bld_76_2 {a0 : Value} [h0 : OC a0] : RV Try.prog (sBuild 76 [(2, a0)]) (.agg #[(.slice none 0 0), (.int .i64 0), a0]) := ⟨fun W w _ => by
  have c0 := cells_one h0.one; simp [sBuild, Instr.build, Try.zeroValue76, Try.runUnderlying76, Try.sizeOf3, Try.sizeOf4, Try.sizeOf49, cells_agg, Instr.fill, c0]⟩
instance bld_78_0_1 {a0 a1 : Value} [h0 : OC a0] [h1 : OC a1] : RV Try.prog (sBuild 78 [(0, a0), (1, a1)]) (.agg #[a0, a1]) := ⟨fun W w _ => by
  have c0 := cells_one h0.one; have c1 := cells_one h1.one; simp [sBuild, Instr.build, Try.zeroValue78, Try.runUnderlying78, Try.sizeOf3, Try.sizeOf49, cells_agg, Instr.fill, c0, c1]⟩
instance bld_80_0_1 {a0_0 a0_1 a1 : Value} [h1 : OC a1] : RV Try.prog (sBuild 80 [(0, .agg #[a0_0, a0_1]), (1, a1)]) (.agg #[a0_0, a0_1, a1]) := ⟨fun W w _ => by
  have c1 := cells_one h1.one; simp [sBuild, Instr.build, Try.zeroValue80, Try.runUnderlying80, Try.sizeOf4, Try.sizeOf78, cells_agg, Instr.fill, c1]⟩
instance bld_107_0 {a0 : Value} [h0 : OC a0] : RV Try.prog (sBuild 107 [(0, a0)]) (.agg #[a0, (.int .i64 0)]) := ⟨fun W w _ => by
  have c0 := cells_one h0.one; simp [sBuild, Instr.build, Try.zeroValue107, Try.runUnderlying107, Try.sizeOf3, Try.sizeOf49, cells_agg, Instr.fill, c0]⟩
instance bld_39_0_1 {a0 a1 : Value} [h0 : OC a0] [h1 : OC a1] : RV Try.prog (sBuild 39 [(0, a0), (1, a1)]) (.agg #[a0, a1]) := ⟨fun W w _ => by
  have c0 := cells_one h0.one; have c1 := cells_one h1.one; simp [sBuild, Instr.build, Try.zeroValue39, Try.runUnderlying39, Try.sizeOf3, cells_agg, Instr.fill, c0, c1]⟩
instance bld_28_1_2 {a0 a1 : Value} [h0 : OC a0] [h1 : OC a1] : RV Try.prog (sBuild 28 [(1, a0), (2, a1)]) (.agg #[(.string ⟨#[]⟩), a0, a1, (.int .i64 0)]) := ⟨fun W w _ => by
  have c0 := cells_one h0.one; have c1 := cells_one h1.one; simp [sBuild, Instr.build, Try.zeroValue28, Try.runUnderlying28, Try.sizeOf3, Try.sizeOf9, Try.sizeOf26, cells_agg, Instr.fill, c0, c1]⟩
instance bld_108_0_1_2_3_4_5_6_7 {a0 a1 a2 a3 a4 a5 a6 a7 : Value} [h0 : OC a0] [h1 : OC a1] [h2 : OC a2] [h3 : OC a3] [h4 : OC a4] [h5 : OC a5] [h6 : OC a6] [h7 : OC a7] : RV Try.prog (sBuild 108 [(0, a0), (1, a1), (2, a2), (3, a3), (4, a4), (5, a5), (6, a6), (7, a7)]) (.agg #[a0, a1, a2, a3, a4, a5, a6, a7]) := ⟨fun W w _ => by
  have c0 := cells_one h0.one; have c1 := cells_one h1.one; have c2 := cells_one h2.one; have c3 := cells_one h3.one; have c4 := cells_one h4.one; have c5 := cells_one h5.one; have c6 := cells_one h6.one; have c7 := cells_one h7.one; simp [sBuild, Instr.build, Try.zeroValue108, Try.runUnderlying108, Try.sizeOf5, cells_agg, Instr.fill, c0, c1, c2, c3, c4, c5, c6, c7]⟩
end Go.Proofs.Ytpmcokpiplcnjaa.T
