/- What the loaded program's types are, one fact a line; printed by a program of mine. No conditions. (4 texts made one; each says below what it is.) -/
import Derived.Test.YthoeeahdkdcceaaGreatChecked
import Derived.Test.YthoeeahdkdcceaaGreatK1
import Derived.KernelRfl
set_option linter.unusedVariables false
set_option linter.unusedSimpArgs false
set_option linter.unusedSectionVars false
namespace Go.Proofs.YthoeeahdkdcceaaGreat.T
open Go Go.Proofs Sh Sl
theorem fld {P : Program} {t : TypeId} {fs : Array Field} {f ft o n : Nat} (hu : ∀ w, (underlying t).run P w = .ok (.struct fs) w) (hf : (fs[f]?).map (fun x => (x.type, x.offset)) = some (ft, o)) (hs : ∀ w, (sizeOf ft).run P w = .ok (n + 1) w) : FldT P t f o :=
 ⟨fun g b w => by
  cases h : fs[f]? with
  | none => rw [h] at hf; cases hf
  | some fl =>
   rw [h] at hf
   simp only [Option.map_some, Option.some.injEq, Prod.mk.injEq] at hf
   obtain ⟨rfl, rfl⟩ := hf
   simp only [Instr.fieldAt, Sem.run_bind, hu, Result.andThen_ok, h, Instr.sureAddr, fieldPlace, hs, Sem.run_pure]
   by_cases h0 : fl.offset = 0 <;> simp [Addr.add, h0]⟩
theorem slt {P : Program} {t e : TypeId} {i : TypeInfo} {z : Value} {s b : Nat} (hu : P.underlying t = some (.slice e)) (hi : P.info? e = some i) (hz : i.zero = some z) (hs : i.size = s) (hb : i.bytes = b) (hzs : z.cells.size = s) : SlT P t e s b := ⟨hu, i, z, hi, hz, hs, hb, hzs⟩
instance one_3 : OneT p_ 3 := ⟨Tryz.isAgg3, Tryz.sizeOf3⟩
instance zero_3 : ZeroT p_ 3 (.int .i64 0) := ⟨Tryz.zeroValue3⟩
instance int_3 : IntT p_ 3 .i64 := ⟨Tryz.runUnderlying3⟩
instance one_4 : OneT p_ 4 := ⟨Tryz.isAgg4, Tryz.sizeOf4⟩
instance one_5 : OneT p_ 5 := ⟨Tryz.isAgg5, Tryz.sizeOf5⟩
instance zero_5 : ZeroT p_ 5 (.int .u8 0) := ⟨Tryz.zeroValue5⟩
instance int_5 : IntT p_ 5 .u8 := ⟨Tryz.runUnderlying5⟩
instance str_9 : StrT p_ 9 := ⟨Tryz.underlying9⟩
instance one_22 : OneT p_ 22 := ⟨Tryz.isAgg22, Tryz.sizeOf22⟩
instance bytes_22 : BytesT p_ 22 := ⟨_, Tryz.underlying22, Tryz.underlying5⟩
instance sl_22 : SlT p_ 22 5 1 1 := slt (z := (.int .u8 0)) Tryz.underlying22 (i := Tryz.t5) (by kernel_rfl) (by kernel_rfl) (by kernel_rfl) (by kernel_rfl) (by kernel_rfl)
instance one_23 : OneT p_ 23 := ⟨Tryz.isAgg23, Tryz.sizeOf23⟩
instance int_23 : IntT p_ 23 .u32 := ⟨Tryz.runUnderlying23⟩
instance sl_36 : SlT p_ 36 43 2 32 := slt (z := (.agg #[(.int .i64 0), (.slice none 0 0)])) Tryz.underlying36 (i := Tryz.t43) (by kernel_rfl) (by kernel_rfl) (by kernel_rfl) (by kernel_rfl) (by kernel_rfl)
instance one_37 : OneT p_ 37 := ⟨Tryz.isAgg37, Tryz.sizeOf37⟩
instance ptr_37 : PtrT p_ 37 := ⟨by kernel_rfl⟩
instance one_40 : OneT p_ 40 := ⟨Tryz.isAgg40, Tryz.sizeOf40⟩
instance ptr_40 : PtrT p_ 40 := ⟨by kernel_rfl⟩
instance fld_43_0 : FldT p_ 43 0 0 := fld Tryz.runUnderlying43 (ft := 3) (by kernel_rfl) Tryz.sizeOf3
instance fld_43_1 : FldT p_ 43 1 1 := fld Tryz.runUnderlying43 (ft := 22) (by kernel_rfl) Tryz.sizeOf22
instance ptr_49 : PtrT p_ 49 := ⟨by kernel_rfl⟩
instance ptr_52 : PtrT p_ 52 := ⟨by kernel_rfl⟩
instance int_55 : IntT p_ 55 .u64 := ⟨Tryz.runUnderlying55⟩
instance agg_65 : AggT p_ 65 256 := ⟨Tryz.isAgg65, Tryz.sizeOf65⟩
instance arr_65 : ArrT p_ 65 256 23 1 := ⟨Tryz.runUnderlying65, Tryz.sizeOf23⟩
instance fld_69_0 : FldT p_ 69 0 0 := fld Tryz.runUnderlying69 (ft := 3) (by kernel_rfl) Tryz.sizeOf3
instance fld_69_1 : FldT p_ 69 1 1 := fld Tryz.runUnderlying69 (ft := 22) (by kernel_rfl) Tryz.sizeOf22
instance fld_69_2 : FldT p_ 69 2 2 := fld Tryz.runUnderlying69 (ft := 3) (by kernel_rfl) Tryz.sizeOf3
instance fld_69_3 : FldT p_ 69 3 3 := fld Tryz.runUnderlying69 (ft := 4) (by kernel_rfl) Tryz.sizeOf4
instance fld_69_4 : FldT p_ 69 4 4 := fld Tryz.runUnderlying69 (ft := 4) (by kernel_rfl) Tryz.sizeOf4
instance fld_71_0 : FldT p_ 71 0 0 := fld Tryz.runUnderlying71 (ft := 3) (by kernel_rfl) Tryz.sizeOf3
instance fld_71_1 : FldT p_ 71 1 1 := fld Tryz.runUnderlying71 (ft := 22) (by kernel_rfl) Tryz.sizeOf22
instance fld_71_2 : FldT p_ 71 2 2 := fld Tryz.runUnderlying71 (ft := 3) (by kernel_rfl) Tryz.sizeOf3
instance fld_71_3 : FldT p_ 71 3 3 := fld Tryz.runUnderlying71 (ft := 4) (by kernel_rfl) Tryz.sizeOf4
instance one_73 : OneT p_ 73 := ⟨Tryz.isAgg73, Tryz.sizeOf73⟩
instance ptr_73 : PtrT p_ 73 := ⟨by kernel_rfl⟩
instance one_75 : OneT p_ 75 := ⟨Tryz.isAgg75, Tryz.sizeOf75⟩
instance zero_75 : ZeroT p_ 75 (.slice none 0 0) := ⟨Tryz.zeroValue75⟩
instance sl_75 : SlT p_ 75 79 3 56 := slt (z := (.agg #[(.slice none 0 0), (.slice none 0 0), (.int .i64 0)])) Tryz.underlying75 (i := Tryz.t79) (by kernel_rfl) (by kernel_rfl) (by kernel_rfl) (by kernel_rfl) (by kernel_rfl)
instance one_77 : OneT p_ 77 := ⟨Tryz.isAgg77, Tryz.sizeOf77⟩
instance zero_77 : ZeroT p_ 77 (.slice none 0 0) := ⟨Tryz.zeroValue77⟩
instance sl_77 : SlT p_ 77 108 3 24 := slt (z := (.agg #[(.int .i64 0), (.int .i64 0), (.int .u8 0)])) Tryz.underlying77 (i := Tryz.t108) (by kernel_rfl) (by kernel_rfl) (by kernel_rfl) (by kernel_rfl) (by kernel_rfl)
instance zero_79 : ZeroT p_ 79 (.agg #[(.slice none 0 0), (.slice none 0 0), (.int .i64 0)]) := ⟨Tryz.zeroValue79⟩
instance agg_79 : AggT p_ 79 3 := ⟨Tryz.isAgg79, Tryz.sizeOf79⟩
instance fld_79_0 : FldT p_ 79 0 0 := fld Tryz.runUnderlying79 (ft := 77) (by kernel_rfl) Tryz.sizeOf77
instance fld_79_1 : FldT p_ 79 1 1 := fld Tryz.runUnderlying79 (ft := 22) (by kernel_rfl) Tryz.sizeOf22
instance fld_79_2 : FldT p_ 79 2 2 := fld Tryz.runUnderlying79 (ft := 3) (by kernel_rfl) Tryz.sizeOf3
instance ptr_84 : PtrT p_ 84 := ⟨by kernel_rfl⟩
instance fld_86_0 : FldT p_ 86 0 0 := fld Tryz.runUnderlying86 (ft := 22) (by kernel_rfl) Tryz.sizeOf22
instance sl_87 : SlT p_ 87 92 2 48 := slt (z := (.agg #[(.slice none 0 0), (.slice none 0 0)])) Tryz.underlying87 (i := Tryz.t92) (by kernel_rfl) (by kernel_rfl) (by kernel_rfl) (by kernel_rfl) (by kernel_rfl)
instance one_90 : OneT p_ 90 := ⟨Tryz.isAgg90, Tryz.sizeOf90⟩
instance sl_90 : SlT p_ 90 118 3 24 := slt (z := (.agg #[(.int .i64 0), (.int .i64 0), (.int .u8 0)])) Tryz.underlying90 (i := Tryz.t118) (by kernel_rfl) (by kernel_rfl) (by kernel_rfl) (by kernel_rfl) (by kernel_rfl)
instance zero_92 : ZeroT p_ 92 (.agg #[(.slice none 0 0), (.slice none 0 0)]) := ⟨Tryz.zeroValue92⟩
instance agg_92 : AggT p_ 92 2 := ⟨Tryz.isAgg92, Tryz.sizeOf92⟩
instance fld_92_0 : FldT p_ 92 0 0 := fld Tryz.runUnderlying92 (ft := 90) (by kernel_rfl) Tryz.sizeOf90
instance fld_92_1 : FldT p_ 92 1 1 := fld Tryz.runUnderlying92 (ft := 22) (by kernel_rfl) Tryz.sizeOf22
instance fld_96_0 : FldT p_ 96 0 0 := fld Tryz.runUnderlying96 (ft := 37) (by kernel_rfl) Tryz.sizeOf37
instance fld_96_1 : FldT p_ 96 1 1 := fld Tryz.runUnderlying96 (ft := 23) (by kernel_rfl) Tryz.sizeOf23
instance fld_96_2 : FldT p_ 96 2 2 := fld Tryz.runUnderlying96 (ft := 23) (by kernel_rfl) Tryz.sizeOf23
instance fld_96_3 : FldT p_ 96 3 3 := fld Tryz.runUnderlying96 (ft := 4) (by kernel_rfl) Tryz.sizeOf4
instance fld_98_0 : FldT p_ 98 0 0 := fld Tryz.runUnderlying98 (ft := 40) (by kernel_rfl) Tryz.sizeOf40
instance fld_98_1 : FldT p_ 98 1 1 := fld Tryz.runUnderlying98 (ft := 22) (by kernel_rfl) Tryz.sizeOf22
instance fld_98_2 : FldT p_ 98 2 2 := fld Tryz.runUnderlying98 (ft := 4) (by kernel_rfl) Tryz.sizeOf4
instance fld_104_0 : FldT p_ 104 0 0 := fld Tryz.runUnderlying104 (ft := 22) (by kernel_rfl) Tryz.sizeOf22
instance fld_104_1 : FldT p_ 104 1 1 := fld Tryz.runUnderlying104 (ft := 3) (by kernel_rfl) Tryz.sizeOf3
instance fld_104_2 : FldT p_ 104 2 2 := fld Tryz.runUnderlying104 (ft := 4) (by kernel_rfl) Tryz.sizeOf4
instance zero_108 : ZeroT p_ 108 (.agg #[(.int .i64 0), (.int .i64 0), (.int .u8 0)]) := ⟨Tryz.zeroValue108⟩
instance agg_108 : AggT p_ 108 3 := ⟨Tryz.isAgg108, Tryz.sizeOf108⟩
instance fld_108_0 : FldT p_ 108 0 0 := fld Tryz.runUnderlying108 (ft := 3) (by kernel_rfl) Tryz.sizeOf3
instance fld_108_1 : FldT p_ 108 1 1 := fld Tryz.runUnderlying108 (ft := 3) (by kernel_rfl) Tryz.sizeOf3
instance fld_108_2 : FldT p_ 108 2 2 := fld Tryz.runUnderlying108 (ft := 5) (by kernel_rfl) Tryz.sizeOf5
instance one_110 : OneT p_ 110 := ⟨Tryz.isAgg110, Tryz.sizeOf110⟩
instance zero_111 : ZeroT p_ 111 (.agg #[.nilFunc, .nilFunc, .nilFunc]) := ⟨Tryz.zeroValue111⟩
instance agg_111 : AggT p_ 111 3 := ⟨Tryz.isAgg111, Tryz.sizeOf111⟩
instance arr_111 : ArrT p_ 111 3 110 1 := ⟨Tryz.runUnderlying111, Tryz.sizeOf110⟩
instance sl_114 : SlT p_ 114 110 1 8 := slt (z := .nilFunc) Tryz.underlying114 (i := Tryz.t110) (by kernel_rfl) (by kernel_rfl) (by kernel_rfl) (by kernel_rfl) (by kernel_rfl)
instance zero_115 : ZeroT p_ 115 (.agg #[(.int .u8 0), (.int .u8 0), (.int .u8 0), (.int .u8 0), (.int .u8 0), (.int .u8 0), (.int .u8 0), (.int .u8 0)]) := ⟨Tryz.zeroValue115⟩
instance agg_115 : AggT p_ 115 8 := ⟨Tryz.isAgg115, Tryz.sizeOf115⟩
instance arr_115 : ArrT p_ 115 8 5 1 := ⟨Tryz.runUnderlying115, Tryz.sizeOf5⟩
instance zero_118 : ZeroT p_ 118 (.agg #[(.int .i64 0), (.int .i64 0), (.int .u8 0)]) := ⟨Tryz.zeroValue118⟩
instance agg_118 : AggT p_ 118 3 := ⟨Tryz.isAgg118, Tryz.sizeOf118⟩
instance fld_118_0 : FldT p_ 118 0 0 := fld Tryz.runUnderlying118 (ft := 3) (by kernel_rfl) Tryz.sizeOf3
instance fld_118_1 : FldT p_ 118 1 1 := fld Tryz.runUnderlying118 (ft := 3) (by kernel_rfl) Tryz.sizeOf3
instance fld_118_2 : FldT p_ 118 2 2 := fld Tryz.runUnderlying118 (ft := 5) (by kernel_rfl) Tryz.sizeOf5
instance one_124 : OneT p_ 124 := ⟨Tryz.isAgg124, Tryz.sizeOf124⟩
instance one_125 : OneT p_ 125 := ⟨Tryz.isAgg125, Tryz.sizeOf125⟩
instance map_125 : MapT p_ 125 147 129 := ⟨Tryz.underlying125⟩
instance fld_127_0 : FldT p_ 127 0 0 := fld Tryz.runUnderlying127 (ft := 22) (by kernel_rfl) Tryz.sizeOf22
instance fld_127_1 : FldT p_ 127 1 1 := fld Tryz.runUnderlying127 (ft := 125) (by kernel_rfl) Tryz.sizeOf125
instance fld_127_2 : FldT p_ 127 2 2 := fld Tryz.runUnderlying127 (ft := 3) (by kernel_rfl) Tryz.sizeOf3
instance fld_127_3 : FldT p_ 127 3 3 := fld Tryz.runUnderlying127 (ft := 3) (by kernel_rfl) Tryz.sizeOf3
instance fld_127_4 : FldT p_ 127 4 4 := fld Tryz.runUnderlying127 (ft := 3) (by kernel_rfl) Tryz.sizeOf3
instance one_129 : OneT p_ 129 := ⟨Tryz.isAgg129, Tryz.sizeOf129⟩
instance zero_129 : ZeroT p_ 129 (.slice none 0 0) := ⟨Tryz.zeroValue129⟩
instance sl_129 : SlT p_ 129 3 1 8 := slt (z := (.int .i64 0)) Tryz.underlying129 (i := Tryz.t3) (by kernel_rfl) (by kernel_rfl) (by kernel_rfl) (by kernel_rfl) (by kernel_rfl)
instance zero_134 : ZeroT p_ 134 (.agg #[(.slice none 0 0), (.slice none 0 0)]) := ⟨Tryz.zeroValue134⟩
instance agg_134 : AggT p_ 134 2 := ⟨Tryz.isAgg134, Tryz.sizeOf134⟩
instance fld_134_0 : FldT p_ 134 0 0 := fld Tryz.runUnderlying134 (ft := 129) (by kernel_rfl) Tryz.sizeOf129
instance fld_134_1 : FldT p_ 134 1 1 := fld Tryz.runUnderlying134 (ft := 129) (by kernel_rfl) Tryz.sizeOf129
instance zero_147 : ZeroT p_ 147 (.agg #[(.int .u8 0), (.int .u8 0), (.int .u8 0)]) := ⟨Tryz.zeroValue147⟩
instance agg_147 : AggT p_ 147 3 := ⟨Tryz.isAgg147, Tryz.sizeOf147⟩
instance arr_147 : ArrT p_ 147 3 5 1 := ⟨Tryz.runUnderlying147, Tryz.sizeOf5⟩
instance zero_163 : ZeroT p_ 163 (.agg #[(.slice none 0 0), (.slice none 0 0)]) := ⟨Tryz.zeroValue163⟩
instance agg_163 : AggT p_ 163 2 := ⟨Tryz.isAgg163, Tryz.sizeOf163⟩
instance arr_163 : ArrT p_ 163 2 129 1 := ⟨Tryz.runUnderlying163, Tryz.sizeOf129⟩
instance zero_170 : ZeroT p_ 170 (.agg #[(.int .i64 0), (.int .i64 0), (.int .i64 0)]) := ⟨Tryz.zeroValue170⟩
instance agg_170 : AggT p_ 170 3 := ⟨Tryz.isAgg170, Tryz.sizeOf170⟩
instance fld_170_0 : FldT p_ 170 0 0 := fld Tryz.runUnderlying170 (ft := 3) (by kernel_rfl) Tryz.sizeOf3
instance fld_170_1 : FldT p_ 170 1 1 := fld Tryz.runUnderlying170 (ft := 3) (by kernel_rfl) Tryz.sizeOf3
instance fld_170_2 : FldT p_ 170 2 2 := fld Tryz.runUnderlying170 (ft := 3) (by kernel_rfl) Tryz.sizeOf3
instance arr_171 : ArrT p_ 171 19 3 1 := ⟨Tryz.runUnderlying171, Tryz.sizeOf3⟩
instance sl_177 : SlT p_ 177 180 3 24 := slt (z := (.agg #[(.int .i64 0), (.int .i64 0), (.int .i64 0)])) Tryz.underlying177 (i := Tryz.t180) (by kernel_rfl) (by kernel_rfl) (by kernel_rfl) (by kernel_rfl) (by kernel_rfl)
instance fld_180_0 : FldT p_ 180 0 0 := fld Tryz.runUnderlying180 (ft := 3) (by kernel_rfl) Tryz.sizeOf3
instance fld_180_1 : FldT p_ 180 1 1 := fld Tryz.runUnderlying180 (ft := 3) (by kernel_rfl) Tryz.sizeOf3
instance fld_180_2 : FldT p_ 180 2 2 := fld Tryz.runUnderlying180 (ft := 3) (by kernel_rfl) Tryz.sizeOf3
instance zero_194 : ZeroT p_ 194 (.agg #[(.int .i64 0), (.int .i64 0), (.int .i64 0), (.int .i64 0), (.int .i64 0), (.int .i64 0), (.int .i64 0), (.int .i64 0), (.int .i64 0), (.int .i64 0), (.int .i64 0), (.int .i64 0), (.int .i64 0), (.int .i64 0), (.int .i64 0), (.int .i64 0)]) := ⟨Tryz.zeroValue194⟩
instance agg_194 : AggT p_ 194 16 := ⟨Tryz.isAgg194, Tryz.sizeOf194⟩
instance arr_194 : ArrT p_ 194 16 3 1 := ⟨Tryz.runUnderlying194, Tryz.sizeOf3⟩
instance sl_197 : SlT p_ 197 199 2 32 := slt (z := (.agg #[(.int .i64 0), (.slice none 0 0)])) Tryz.underlying197 (i := Tryz.t199) (by kernel_rfl) (by kernel_rfl) (by kernel_rfl) (by kernel_rfl) (by kernel_rfl)
instance agg_199 : AggT p_ 199 2 := ⟨Tryz.isAgg199, Tryz.sizeOf199⟩
instance fld_199_0 : FldT p_ 199 0 0 := fld Tryz.runUnderlying199 (ft := 3) (by kernel_rfl) Tryz.sizeOf3
instance fld_199_1 : FldT p_ 199 1 1 := fld Tryz.runUnderlying199 (ft := 129) (by kernel_rfl) Tryz.sizeOf129
instance sl_209 : SlT p_ 209 212 2 32 := slt (z := (.agg #[(.int .i64 0), (.slice none 0 0)])) Tryz.underlying209 (i := Tryz.t212) (by kernel_rfl) (by kernel_rfl) (by kernel_rfl) (by kernel_rfl) (by kernel_rfl)
instance agg_212 : AggT p_ 212 2 := ⟨Tryz.isAgg212, Tryz.sizeOf212⟩
instance fld_212_0 : FldT p_ 212 0 0 := fld Tryz.runUnderlying212 (ft := 3) (by kernel_rfl) Tryz.sizeOf3
instance fld_212_1 : FldT p_ 212 1 1 := fld Tryz.runUnderlying212 (ft := 129) (by kernel_rfl) Tryz.sizeOf129
instance sl_228 : SlT p_ 228 129 1 24 := slt (z := (.slice none 0 0)) Tryz.underlying228 (i := Tryz.t129) (by kernel_rfl) (by kernel_rfl) (by kernel_rfl) (by kernel_rfl) (by kernel_rfl)
instance bld_69_0_3 {a0 a1 : Value} [h0 : OC a0] [h1 : OC a1] : RV p_ (sBuild 69 [(0, a0), (3, a1)]) (.agg #[a0, (.slice none 0 0), (.int .i64 0), a1, (.bool false)]) := ⟨fun W w _ => by
 have c0 := cells_one h0.one; have c1 := cells_one h1.one; simp [sBuild, Instr.build, Tryz.zeroValue69, Tryz.runUnderlying69, Tryz.sizeOf3, Tryz.sizeOf4, Tryz.sizeOf22, cells_agg, Instr.fill, c0, c1]⟩
instance bld_71_0 {a0 : Value} [h0 : OC a0] : RV p_ (sBuild 71 [(0, a0)]) (.agg #[a0, (.slice none 0 0), (.int .i64 0), (.bool false)]) := ⟨fun W w _ => by
 have c0 := cells_one h0.one; simp [sBuild, Instr.build, Tryz.zeroValue71, Tryz.runUnderlying71, Tryz.sizeOf3, Tryz.sizeOf4, Tryz.sizeOf22, cells_agg, Instr.fill, c0]⟩
instance bld_79_  : RV p_ (sBuild 79 []) (.agg #[(.slice none 0 0), (.slice none 0 0), (.int .i64 0)]) := ⟨fun W w _ => by
   simp [sBuild, Instr.build, Tryz.zeroValue79, Tryz.runUnderlying79, Tryz.sizeOf3, Tryz.sizeOf22, Tryz.sizeOf77, cells_agg, Instr.fill]⟩
instance bld_86_  : RV p_ (sBuild 86 []) (.agg #[(.slice none 0 0)]) := ⟨fun W w _ => by
   simp [sBuild, Instr.build, Tryz.zeroValue86, Tryz.runUnderlying86, Tryz.sizeOf22, cells_agg, Instr.fill]⟩
instance bld_96_0 {a0 : Value} [h0 : OC a0] : RV p_ (sBuild 96 [(0, a0)]) (.agg #[a0, (.int .u32 0), (.int .u32 0), (.bool false)]) := ⟨fun W w _ => by
 have c0 := cells_one h0.one; simp [sBuild, Instr.build, Tryz.zeroValue96, Tryz.runUnderlying96, Tryz.sizeOf4, Tryz.sizeOf23, Tryz.sizeOf37, cells_agg, Instr.fill, c0]⟩
instance bld_98_0 {a0 : Value} [h0 : OC a0] : RV p_ (sBuild 98 [(0, a0)]) (.agg #[a0, (.slice none 0 0), (.bool false)]) := ⟨fun W w _ => by
 have c0 := cells_one h0.one; simp [sBuild, Instr.build, Tryz.zeroValue98, Tryz.runUnderlying98, Tryz.sizeOf4, Tryz.sizeOf22, Tryz.sizeOf40, cells_agg, Instr.fill, c0]⟩
instance bld_104_2 {a0 : Value} [h0 : OC a0] : RV p_ (sBuild 104 [(2, a0)]) (.agg #[(.slice none 0 0), (.int .i64 0), a0]) := ⟨fun W w _ => by
 have c0 := cells_one h0.one; simp [sBuild, Instr.build, Tryz.zeroValue104, Tryz.runUnderlying104, Tryz.sizeOf3, Tryz.sizeOf4, Tryz.sizeOf22, cells_agg, Instr.fill, c0]⟩
instance bld_108_2 {a0 : Value} [h0 : OC a0] : RV p_ (sBuild 108 [(2, a0)]) (.agg #[(.int .i64 0), (.int .i64 0), a0]) := ⟨fun W w _ => by
 have c0 := cells_one h0.one; simp [sBuild, Instr.build, Tryz.zeroValue108, Tryz.runUnderlying108, Tryz.sizeOf3, Tryz.sizeOf5, cells_agg, Instr.fill, c0]⟩
instance bld_111_0_1_2 {a0 a1 a2 : Value} [h0 : OC a0] [h1 : OC a1] [h2 : OC a2] : RV p_ (sBuild 111 [(0, a0), (1, a1), (2, a2)]) (.agg #[a0, a1, a2]) := ⟨fun W w _ => by
 have c0 := cells_one h0.one; have c1 := cells_one h1.one; have c2 := cells_one h2.one; simp [sBuild, Instr.build, Tryz.zeroValue111, Tryz.runUnderlying111, Tryz.sizeOf110, cells_agg, Instr.fill, c0, c1, c2]⟩
instance bld_92_  : RV p_ (sBuild 92 []) (.agg #[(.slice none 0 0), (.slice none 0 0)]) := ⟨fun W w _ => by
   simp [sBuild, Instr.build, Tryz.zeroValue92, Tryz.runUnderlying92, Tryz.sizeOf22, Tryz.sizeOf90, cells_agg, Instr.fill]⟩
instance bld_127_0_1_3_4 {a0 a1 a2 a3 : Value} [h0 : OC a0] [h1 : OC a1] [h2 : OC a2] [h3 : OC a3] : RV p_ (sBuild 127 [(0, a0), (1, a1), (3, a2), (4, a3)]) (.agg #[a0, a1, (.int .i64 0), a2, a3]) := ⟨fun W w _ => by
 have c0 := cells_one h0.one; have c1 := cells_one h1.one; have c2 := cells_one h2.one; have c3 := cells_one h3.one; simp [sBuild, Instr.build, Tryz.zeroValue127, Tryz.runUnderlying127, Tryz.sizeOf3, Tryz.sizeOf22, Tryz.sizeOf125, cells_agg, Instr.fill, c0, c1, c2, c3]⟩
instance bld_79_0_1_2 {a0 a1 a2 : Value} [h0 : OC a0] [h1 : OC a1] [h2 : OC a2] : RV p_ (sBuild 79 [(0, a0), (1, a1), (2, a2)]) (.agg #[a0, a1, a2]) := ⟨fun W w _ => by
 have c0 := cells_one h0.one; have c1 := cells_one h1.one; have c2 := cells_one h2.one; simp [sBuild, Instr.build, Tryz.zeroValue79, Tryz.runUnderlying79, Tryz.sizeOf3, Tryz.sizeOf22, Tryz.sizeOf77, cells_agg, Instr.fill, c0, c1, c2]⟩
instance bld_115_0_1_2_3_4_5_6_7 {a0 a1 a2 a3 a4 a5 a6 a7 : Value} [h0 : OC a0] [h1 : OC a1] [h2 : OC a2] [h3 : OC a3] [h4 : OC a4] [h5 : OC a5] [h6 : OC a6] [h7 : OC a7] : RV p_ (sBuild 115 [(0, a0), (1, a1), (2, a2), (3, a3), (4, a4), (5, a5), (6, a6), (7, a7)]) (.agg #[a0, a1, a2, a3, a4, a5, a6, a7]) := ⟨fun W w _ => by
 have c0 := cells_one h0.one; have c1 := cells_one h1.one; have c2 := cells_one h2.one; have c3 := cells_one h3.one; have c4 := cells_one h4.one; have c5 := cells_one h5.one; have c6 := cells_one h6.one; have c7 := cells_one h7.one; simp [sBuild, Instr.build, Tryz.zeroValue115, Tryz.runUnderlying115, Tryz.sizeOf5, cells_agg, Instr.fill, c0, c1, c2, c3, c4, c5, c6, c7]⟩
instance bld_118_2 {a0 : Value} [h0 : OC a0] : RV p_ (sBuild 118 [(2, a0)]) (.agg #[(.int .i64 0), (.int .i64 0), a0]) := ⟨fun W w _ => by
 have c0 := cells_one h0.one; simp [sBuild, Instr.build, Tryz.zeroValue118, Tryz.runUnderlying118, Tryz.sizeOf3, Tryz.sizeOf5, cells_agg, Instr.fill, c0]⟩
instance bld_108_0_1 {a0 a1 : Value} [h0 : OC a0] [h1 : OC a1] : RV p_ (sBuild 108 [(0, a0), (1, a1)]) (.agg #[a0, a1, (.int .u8 0)]) := ⟨fun W w _ => by
 have c0 := cells_one h0.one; have c1 := cells_one h1.one; simp [sBuild, Instr.build, Tryz.zeroValue108, Tryz.runUnderlying108, Tryz.sizeOf3, Tryz.sizeOf5, cells_agg, Instr.fill, c0, c1]⟩
instance bld_134_0_1 {a0 a1 : Value} [h0 : OC a0] [h1 : OC a1] : RV p_ (sBuild 134 [(0, a0), (1, a1)]) (.agg #[a0, a1]) := ⟨fun W w _ => by
 have c0 := cells_one h0.one; have c1 := cells_one h1.one; simp [sBuild, Instr.build, Tryz.zeroValue134, Tryz.runUnderlying134, Tryz.sizeOf129, cells_agg, Instr.fill, c0, c1]⟩
instance bld_163_0_1 {a0 a1 : Value} [h0 : OC a0] [h1 : OC a1] : RV p_ (sBuild 163 [(0, a0), (1, a1)]) (.agg #[a0, a1]) := ⟨fun W w _ => by
 have c0 := cells_one h0.one; have c1 := cells_one h1.one; simp [sBuild, Instr.build, Tryz.zeroValue163, Tryz.runUnderlying163, Tryz.sizeOf129, cells_agg, Instr.fill, c0, c1]⟩
instance bld_134_0 {a0 : Value} [h0 : OC a0] : RV p_ (sBuild 134 [(0, a0)]) (.agg #[a0, (.slice none 0 0)]) := ⟨fun W w _ => by
 have c0 := cells_one h0.one; simp [sBuild, Instr.build, Tryz.zeroValue134, Tryz.runUnderlying134, Tryz.sizeOf129, cells_agg, Instr.fill, c0]⟩
instance bld_171_0_1_2_3_4_5_6_7_8_9_10_11_12_13_14_15_16_17_18 {a0 a1 a2 a3 a4 a5 a6 a7 a8 a9 a10 a11 a12 a13 a14 a15 a16 a17 a18 : Value} [h0 : OC a0] [h1 : OC a1] [h2 : OC a2] [h3 : OC a3] [h4 : OC a4] [h5 : OC a5] [h6 : OC a6] [h7 : OC a7] [h8 : OC a8] [h9 : OC a9] [h10 : OC a10] [h11 : OC a11] [h12 : OC a12] [h13 : OC a13] [h14 : OC a14] [h15 : OC a15] [h16 : OC a16] [h17 : OC a17] [h18 : OC a18] : RV p_ (sBuild 171 [(0, a0), (1, a1), (2, a2), (3, a3), (4, a4), (5, a5), (6, a6), (7, a7), (8, a8), (9, a9), (10, a10), (11, a11), (12, a12), (13, a13), (14, a14), (15, a15), (16, a16), (17, a17), (18, a18)]) (.agg #[a0, a1, a2, a3, a4, a5, a6, a7, a8, a9, a10, a11, a12, a13, a14, a15, a16, a17, a18]) := ⟨fun W w _ => by
 have c0 := cells_one h0.one; have c1 := cells_one h1.one; have c2 := cells_one h2.one; have c3 := cells_one h3.one; have c4 := cells_one h4.one; have c5 := cells_one h5.one; have c6 := cells_one h6.one; have c7 := cells_one h7.one; have c8 := cells_one h8.one; have c9 := cells_one h9.one; have c10 := cells_one h10.one; have c11 := cells_one h11.one; have c12 := cells_one h12.one; have c13 := cells_one h13.one; have c14 := cells_one h14.one; have c15 := cells_one h15.one; have c16 := cells_one h16.one; have c17 := cells_one h17.one; have c18 := cells_one h18.one; simp [sBuild, Instr.build, Tryz.zeroValue171, Tryz.runUnderlying171, Tryz.sizeOf3, cells_agg, Instr.fill, c0, c1, c2, c3, c4, c5, c6, c7, c8, c9, c10, c11, c12, c13, c14, c15, c16, c17, c18]⟩
instance bld_199_0_1 {a0 a1 : Value} [h0 : OC a0] [h1 : OC a1] : RV p_ (sBuild 199 [(0, a0), (1, a1)]) (.agg #[a0, a1]) := ⟨fun W w _ => by
 have c0 := cells_one h0.one; have c1 := cells_one h1.one; simp [sBuild, Instr.build, Tryz.zeroValue199, Tryz.runUnderlying199, Tryz.sizeOf3, Tryz.sizeOf129, cells_agg, Instr.fill, c0, c1]⟩
instance bld_118_0_1 {a0 a1 : Value} [h0 : OC a0] [h1 : OC a1] : RV p_ (sBuild 118 [(0, a0), (1, a1)]) (.agg #[a0, a1, (.int .u8 0)]) := ⟨fun W w _ => by
 have c0 := cells_one h0.one; have c1 := cells_one h1.one; simp [sBuild, Instr.build, Tryz.zeroValue118, Tryz.runUnderlying118, Tryz.sizeOf3, Tryz.sizeOf5, cells_agg, Instr.fill, c0, c1]⟩
instance bld_212_0_1 {a0 a1 : Value} [h0 : OC a0] [h1 : OC a1] : RV p_ (sBuild 212 [(0, a0), (1, a1)]) (.agg #[a0, a1]) := ⟨fun W w _ => by
 have c0 := cells_one h0.one; have c1 := cells_one h1.one; simp [sBuild, Instr.build, Tryz.zeroValue212, Tryz.runUnderlying212, Tryz.sizeOf3, Tryz.sizeOf129, cells_agg, Instr.fill, c0, c1]⟩
instance bld_180_0_1_2 {a0 a1 a2 : Value} [h0 : OC a0] [h1 : OC a1] [h2 : OC a2] : RV p_ (sBuild 180 [(0, a0), (1, a1), (2, a2)]) (.agg #[a0, a1, a2]) := ⟨fun W w _ => by
 have c0 := cells_one h0.one; have c1 := cells_one h1.one; have c2 := cells_one h2.one; simp [sBuild, Instr.build, Tryz.zeroValue180, Tryz.runUnderlying180, Tryz.sizeOf3, cells_agg, Instr.fill, c0, c1, c2]⟩
instance bld_170_0 {a0 : Value} [h0 : OC a0] : RV p_ (sBuild 170 [(0, a0)]) (.agg #[a0, (.int .i64 0), (.int .i64 0)]) := ⟨fun W w _ => by
 have c0 := cells_one h0.one; simp [sBuild, Instr.build, Tryz.zeroValue170, Tryz.runUnderlying170, Tryz.sizeOf3, cells_agg, Instr.fill, c0]⟩
instance bld_170_0_1_2 {a0 a1 a2 : Value} [h0 : OC a0] [h1 : OC a1] [h2 : OC a2] : RV p_ (sBuild 170 [(0, a0), (1, a1), (2, a2)]) (.agg #[a0, a1, a2]) := ⟨fun W w _ => by
 have c0 := cells_one h0.one; have c1 := cells_one h1.one; have c2 := cells_one h2.one; simp [sBuild, Instr.build, Tryz.zeroValue170, Tryz.runUnderlying170, Tryz.sizeOf3, cells_agg, Instr.fill, c0, c1, c2]⟩
end Go.Proofs.YthoeeahdkdcceaaGreat.T
namespace Go.Proofs.YthoeeahdkdcceaaGreat.S
open Go Sh Sl
theorem wide : p_.follows .mixedOrders = true := by kernel_rfl
theorem sh_ {f : FuncId} {fn : Func} {an : Ann} {args : List Value} {sh : PK -> (Value -> WP) -> WP} (hc : ∀ (a : Array Value) (w : World), (callFunc f a).run p_ w = .ok (.enter f a) w) (hf : p_.funcs[f]? = some fn) (he : ∀ Kp K, cevF p_ an fn args Kp K = sh Kp K) : Shp p_ f args sh := shp wide hc hf he
theorem shT_ {f : FuncId} {fn : Func} {an : Ann} {args : List Value} {sh : PK -> (Value -> WP) -> WP} (hc : ∀ (a : Array Value) (w : World), (callFunc f a).run p_ w = .ok (.enter f a) w) (hf : p_.funcs[f]? = some fn) (he : ∀ Kp K, cevFT p_ an fn args Kp K = sh Kp K) : Shp p_ f args sh := shpT wide hc hf he
def law07_GzipStreams (v0 v1 : Value) (Kp : PK) (K : Value → WP) : WP :=
 opN p_ (sCall (fn 29) [v0]) Kp fun x20 =>
 opN p_ (sExt x20 0) Kp fun x21 =>
 opN p_ (sExt x20 1) Kp fun x22 =>
 opN p_ (sCall (fn 30) [v0]) Kp fun x24 =>
 opN p_ (sCall (fn 12) [x22]) Kp fun x26 =>
 opN p_ (sEq .eql 3 (.tmp 26) (.const (.int .i64 0)) x26 (.int .i64 0)) Kp fun x27 =>
 opN p_ (sEq .neq 52 (.tmp 28) (.const (.pointer none)) x24 (.pointer none)) Kp fun x29 =>
 opN p_ (sEq .neq 4 (.tmp 27) (.tmp 29) x27 x29) Kp fun x30 =>
 gdK x30 false (fun k => k x21) fun x32 =>
 gdK x30 false (opN p_ (sEq .eql 49 (.tmp 32) (.const (.pointer none)) x32 (.pointer none)) Kp) fun x33 =>
 gdK x30 false (fun k => k x24) fun x34 =>
 gdK x30 false (opN p_ (sEq .eql 52 (.tmp 34) (.const (.pointer none)) x34 (.pointer none)) Kp) fun x35 =>
 gdK x30 false (opN p_ (sEq .neq 4 (.tmp 33) (.tmp 35) x33 x35) Kp) fun x36 =>
 opN p_ (sPick x30 (.bool true) x36) Kp fun x37 =>
 gdK x37 false (opN p_ (sCall (fn 18) []) Kp) fun x39 =>
 gdK x37 false (opN p_ (sUn .not x39) Kp) fun x40 =>
 opN p_ (sPick x37 (.bool true) x40) Kp fun x41 =>
 condS x41
 (K (.bool false))
 (loop1 (fun I1 m1 _ y8 =>
 opN p_ (sLen #[36] 3 [v1]) Kp fun x44 =>
 opN p_ (sBin .lss 3 y8 x44) Kp fun x45 =>
 gdK x45 true (fun k => k x24) fun x47 =>
 gdK x45 true (opN p_ (sEq .neq 52 (.tmp 47) (.const (.pointer none)) x47 (.pointer none)) Kp) fun x48 =>
 opN p_ (sPick x45 x48 (.bool false)) Kp fun x49 =>
 condS x49
 (opN p_ (sIA 36 v1 y8) Kp fun x54 =>
 opN p_ (sFA 43 x54 0) Kp fun x55 =>
 opN p_ (sLoad 3 x55) Kp fun x56 =>
 opN p_ (sEq .eql 3 (.tmp 56) (.const (.int .i64 0)) x56 (.int .i64 0)) Kp fun x79 =>
 condS x79
 (opN p_ (sIA 36 v1 y8) Kp fun x82 =>
 opN p_ (sFA 43 x82 1) Kp fun x83 =>
 opN p_ (sLoad 22 x83) Kp fun x84 =>
 opN p_ (sCall (fn 9) [x84]) Kp fun x85 =>
 drS (stD p_ (sIA 36 v1 y8) fun D7 x93 =>
 stD p_ (sFA 43 x93 1) fun D8 x94 =>
 stD p_ (sLoad 22 x94) fun D9 x95 =>
 opN p_ (sCall (fn 31) [x21, x85]) Kp fun x88 =>
 (fun w => D9 w ∧ (fun w => D8 w ∧ (fun w => D7 w ∧ (opN p_ (sCall (fn 12) [x88]) Kp fun x89 =>
 (fun w => D9 w ∧ (fun w => D8 w ∧ (fun w => D7 w ∧ (opN p_ (sCall (fn 32) [x24, x95]) Kp fun x96 =>
 stS p_ (sEq .neq 3 (.tmp 89) (.tmp 96) x89 x96) fun x97 =>
 gdK x97 false (fun k => k x85) fun x99 =>
 gdK x97 false (fun k => k v1) fun x100 =>
 gdK x97 false (fun k => k y8) fun x101 =>
 gdK x97 false (stS p_ (sIA 36 x100 x101)) fun x102 =>
 gdK x97 false (stS p_ (sFA 43 x102 1)) fun x103 =>
 gdK x97 false (stS p_ (sLoad 22 x103)) fun x104 =>
 gdK x97 false (opN p_ (sCall (fn 17) [x99, x104]) Kp) fun x105 =>
 gdK x97 false (stS p_ (sUn .not x105)) fun x106 =>
 stS p_ (sPick x97 (.bool true) x106) fun x107 =>
 condS x107
 (K (.bool false))
 (opN p_ (sBin .add 3 y8 (.int .i64 1)) Kp fun x51 =>
 next1 I1 m1 x51)) w) w) w)) w) w) w)))
 (opN p_ (sEq .eql 3 (.tmp 56) (.const (.int .i64 1)) x56 (.int .i64 1)) Kp fun x109 =>
 condS x109
 (opN p_ (sCall (fn 33) [x21]) Kp fun x112 =>
 opN p_ (sExt x112 0) Kp fun x113 =>
 opN p_ (sExt x112 1) Kp fun x114 =>
 opN p_ (sCall (fn 34) [x24]) Kp fun x117 =>
 opN p_ (sExt x117 0) Kp fun x118 =>
 opN p_ (sExt x117 1) Kp fun x119 =>
 opN p_ (sConv 22 9 x113) Kp fun x121 =>
 opN p_ (sConv 22 9 x118) Kp fun x123 =>
 opN p_ (sEq .neq 9 (.tmp 121) (.tmp 123) x121 x123) Kp fun x124 =>
 gdK x124 false (fun k => k x114) fun x126 =>
 gdK x124 false (opN p_ (sCall (fn 12) [x126]) Kp) fun x127 =>
 gdK x124 false (fun k => k x119) fun x128 =>
 gdK x124 false (opN p_ (sEq .neq 3 (.tmp 127) (.tmp 128) x127 x128) Kp) fun x129 =>
 opN p_ (sPick x124 (.bool true) x129) Kp fun x130 =>
 condS x130
 (K (.bool false))
 (opN p_ (sBin .add 3 y8 (.int .i64 1)) Kp fun x51 =>
 next1 I1 m1 x51))
 (opN p_ (sCall (fn 35) [x21]) Kp fun x59 =>
 opN p_ (sExt x59 0) Kp fun x60 =>
 opN p_ (sExt x59 1) Kp fun x61 =>
 opN p_ (sCall (fn 36) [x24]) Kp fun x64 =>
 opN p_ (sExt x64 0) Kp fun x65 =>
 opN p_ (sExt x64 1) Kp fun x66 =>
 opN p_ (sConv 22 9 x60) Kp fun x68 =>
 opN p_ (sConv 22 9 x65) Kp fun x70 =>
 opN p_ (sEq .neq 9 (.tmp 68) (.tmp 70) x68 x70) Kp fun x71 =>
 gdK x71 false (fun k => k x61) fun x73 =>
 gdK x71 false (opN p_ (sCall (fn 12) [x73]) Kp) fun x74 =>
 gdK x71 false (fun k => k x66) fun x75 =>
 gdK x71 false (opN p_ (sEq .neq 3 (.tmp 74) (.tmp 75) x74 x75) Kp) fun x76 =>
 opN p_ (sPick x71 (.bool true) x76) Kp fun x77 =>
 condS x77
 (K (.bool false))
 (opN p_ (sBin .add 3 y8 (.int .i64 1)) Kp fun x51 =>
 next1 I1 m1 x51))))
 (K (.bool true))) (.int .i64 0))
theorem law07_GzipStreams_s {v0 v1 : Value} : Shp p_ 5 [v0, v1] (law07_GzipStreams v0 v1) := sh_ Tryz.call5 Tryz.func5 (an := { loops := [(6, [8])], drs := [(15, .ofL [(0, 1), (1, 1), (4, 2), (5, 2), (6, 2), (7, 3), (8, 3), (9, 3), (2, 0), (3, 0), (10, 0), (11, 1), (12, 1), (13, 1), (14, 1), (15, 1), (16, 1), (17, 1), (18, 1), (19, 0), (20, 1), (21, 1)])] }) fun _ _ => by kernel_rfl
def law01_Lent (v0 : Value) (Kp : PK) (K : Value -> WP) : WP :=
 opN p_ (sBuildSl 22 0 []) Kp fun x4 =>
 opN p_ (sApp #[22, 22] 22 [x4, v0]) Kp fun x6 =>
 opN p_ (sBuildSl 22 2 [(0, (.int .u8 201)), (1, (.int .u8 202))]) Kp fun x8 =>
 opN p_ (sApp #[22, 22] 22 [x6, x8]) Kp fun x9 =>
 opN p_ (sLen #[22] 3 [v0]) Kp fun x12 =>
 opN p_ (sSl 22 x9 none (some x12) none) Kp fun x13 =>
 K x13
theorem law01_Lent_s {v0 : Value} : Shp p_ 9 [v0] (law01_Lent v0) := sh_ Tryz.call9 Tryz.func9 (an := {}) fun _ _ => by kernel_rfl
def gzip_Pack (v0 v1 v2 : Value) (Kp : PK) (K : Value → WP) : WP :=
 opN p_ (sBin .lss 3 v2 (.int .i64 0)) Kp fun x11 =>
 gdK x11 false (fun k => k v2) fun x13 =>
 gdK x11 false (opN p_ (sBin .gtr 3 x13 (.int .i64 4294967295)) Kp) fun x14 =>
 opN p_ (sPick x11 (.bool true) x14) Kp fun x15 =>
 condS x15
 (K (.tuple #[(.slice none 0 0), (.int .i64 1)]))
 (opN p_ (sCall (fn 39) [v0, v1]) Kp fun x19 =>
 opN p_ (sExt x19 0) Kp fun x20 =>
 opN p_ (sExt x19 1) Kp fun x21 =>
 opN p_ (sEq .neq 25 (.tmp 22) (.const (.int .i64 0)) x21 (.int .i64 0)) Kp fun x23 =>
 condS x23
 (K (.tuple #[(.slice none 0 0), x21]))
 (opN p_ (sCall (fn 41) [v2]) Kp fun x26 =>
 opN p_ (sApp #[22, 22] 22 [x26, x20]) Kp fun x28 =>
 opN p_ (sCall (fn 13) [v0]) Kp fun x30 =>
 opN p_ (sCall (fn 40) [x28, x30]) Kp fun x31 =>
 opN p_ (sLen #[22] 3 [v0]) Kp fun x33 =>
 opN p_ (sConv 3 23 x33) Kp fun x34 =>
 opN p_ (sCall (fn 40) [x31, x34]) Kp fun x35 =>
 K (.tuple #[x35, (.int .i64 0)])))
theorem gzip_Pack_s {v0 v1 v2 : Value} : Shp p_ 10 [v0, v1, v2] (gzip_Pack v0 v1 v2) := sh_ Tryz.call10 Tryz.func10 (an := {}) fun _ _ => by kernel_rfl
def law07_num (v0 : Value) (Kp : PK) (K : Value -> WP) : WP :=
 K v0
theorem law07_num_s {v0 : Value} : Shp p_ 12 [v0] (law07_num v0) := sh_ Tryz.call12 Tryz.func12 (an := {}) fun _ _ => by kernel_rfl
def gzip_Crc (v0 : Value) (Kp : PK) (K : Value -> WP) : WP :=
 opN p_ (sCall (fn 15) [(.int .u32 0), v0]) Kp fun x4 =>
 K x4
theorem gzip_Crc_s {v0 : Value} : Shp p_ 13 [v0] (gzip_Crc v0) := sh_ Tryz.call13 Tryz.func13 (an := {}) fun _ _ => by kernel_rfl
def ref07_Crc (v0 : Value) (Kp : PK) (K : Value -> WP) : WP :=
 opN p_ (sCall (fn 16) [(.int .u32 0), v0]) Kp fun x4 =>
 K x4
theorem ref07_Crc_s {v0 : Value} : Shp p_ 14 [v0] (ref07_Crc v0) := sh_ Tryz.call14 Tryz.func14 (an := {}) fun _ _ => by kernel_rfl
def gzip_Add (v0 v1 : Value) (Kp : PK) (K : Value → WP) : WP :=
 opN p_ (sCall (fn 45) []) Kp fun x9 =>
 opN p_ (sAlloc 65) Kp fun x5 =>
 opN p_ (sStore 65 x5 x9) Kp fun _ =>
 opN p_ (sUn .xor v0) Kp fun x11 =>
 opN p_ (sLen #[22] 3 [v1]) Kp fun x13 =>
 loop2 (fun I1 m1 _ y6 y14 =>
 opN p_ (sBin .lss 3 y14 x13) Kp fun x15 =>
 condS x15
 (opN p_ (sIA 22 v1 y14) Kp fun x16 =>
 opN p_ (sLoad 5 x16) Kp fun x17 =>
 opN p_ (sConv 23 5 y6) Kp fun x19 =>
 opN p_ (sBin .xor 5 x19 x17) Kp fun x21 =>
 opN p_ (sIA 65 x5 x21) Kp fun x22 =>
 opN p_ (sLoad 23 x22) Kp fun x23 =>
 opN p_ (sBin .shr 23 y6 (.int .u64 8)) Kp fun x25 =>
 opN p_ (sBin .xor 23 x23 x25) Kp fun x26 =>
 opN p_ (sBin .add 3 y14 (.int .i64 1)) Kp fun x27 =>
 next2 I1 m1 x26 x27)
 (opN p_ (sUn .xor y6) Kp fun x29 =>
 K x29)) x11 (.int .i64 0)
theorem gzip_Add_s {v0 v1 : Value} : Shp p_ 15 [v0, v1] (gzip_Add v0 v1) := sh_ Tryz.call15 Tryz.func15 (an := { loops := [(4, [6, 14])] }) fun _ _ => by kernel_rfl
def ref07_Add (v0 v1 : Value) (Kp : PK) (K : Value → WP) : WP :=
 opN p_ (sUn .xor v0) Kp fun x11 =>
 loop2 (fun I1 m1 _ y5 y6 =>
 opN p_ (sLen #[22] 3 [v1]) Kp fun x14 =>
 opN p_ (sBin .lss 3 y6 x14) Kp fun x15 =>
 condS x15
 (opN p_ (sIA 22 v1 y6) Kp fun x20 =>
 opN p_ (sLoad 5 x20) Kp fun x21 =>
 opN p_ (sConv 5 23 x21) Kp fun x22 =>
 loop3 (fun I2 m2 _ y5 y7 y8 =>
 opN p_ (sBin .lss 3 y8 (.int .i64 8)) Kp fun x24 =>
 condS x24
 (opN p_ (sBin .xor 23 y5 y7) Kp fun x29 =>
 opN p_ (sBin .and 23 x29 (.int .u32 1)) Kp fun x30 =>
 opN p_ (sEq .eql 23 (.tmp 30) (.const (.int .u32 1)) x30 (.int .u32 1)) Kp fun x31 =>
 opN p_ (sBin .shr 23 y5 (.int .u64 1)) Kp fun x33 =>
 opN p_ (sBin .shr 23 y7 (.int .u64 1)) Kp fun x35 =>
 condS x31
 (opN p_ (sBin .xor 23 x33 (.int .u32 3988292384)) Kp fun x38 =>
 opN p_ (sBin .add 3 y8 (.int .i64 1)) Kp fun x26 =>
 next3 I2 m2 x38 x35 x26)
 (opN p_ (sBin .add 3 y8 (.int .i64 1)) Kp fun x26 =>
 next3 I2 m2 x33 x35 x26))
 (opN p_ (sBin .add 3 y6 (.int .i64 1)) Kp fun x17 =>
 next2 I1 m1 y5 x17)) y5 x22 (.int .i64 0))
 (opN p_ (sUn .xor y5) Kp fun x40 =>
 K x40)) x11 (.int .i64 0)
theorem ref07_Add_s {v0 v1 : Value} : Shp p_ 16 [v0, v1] (ref07_Add v0 v1) := sh_ Tryz.call16 Tryz.func16 (an := { loops := [(3, [5, 6]), (7, [5, 7, 8])] }) fun _ _ => by kernel_rfl
def law01_Stays (v0 v1 : Value) (Kp : PK) (K : Value -> WP) : WP :=
 opN p_ (sLen #[22] 3 [v1]) Kp fun x8 =>
 opN p_ (sBin .add 3 x8 (.int .i64 2)) Kp fun x9 =>
 opN p_ (sSl 22 v0 none (some x9) none) Kp fun x10 =>
 drS (stS p_ (sLen #[22] 3 [v1]) fun x13 =>
 stS p_ (sSl 22 x10 none (some x13) none) fun x14 =>
 stS p_ (sConv 22 9 x14) fun x15 =>
 stS p_ (sConv 22 9 v1) fun x17 =>
 stS p_ (sEq .eql 9 (.tmp 15) (.tmp 17) x15 x17) fun x18 =>
 gdK x18 true (fun k => k x10) fun x20 =>
 gdK x18 true (fun k => k v1) fun x21 =>
 gdK x18 true (stS p_ (sLen #[22] 3 [x21])) fun x22 =>
 gdK x18 true (stS p_ (sIA 22 x20 x22)) fun x23 =>
 gdK x18 true (stS p_ (sLoad 5 x23)) fun x24 =>
 gdK x18 true (stS p_ (sEq .eql 5 (.tmp 24) (.const (.int .u8 201)) x24 (.int .u8 201))) fun x25 =>
 stS p_ (sPick x18 x25 (.bool false)) fun x26 =>
 gdK x26 true (fun k => k x10) fun x28 =>
 gdK x26 true (fun k => k v1) fun x29 =>
 gdK x26 true (stS p_ (sLen #[22] 3 [x29])) fun x30 =>
 gdK x26 true (stS p_ (sBin .add 3 x30 (.int .i64 1))) fun x31 =>
 gdK x26 true (stS p_ (sIA 22 x28 x31)) fun x32 =>
 gdK x26 true (stS p_ (sLoad 5 x32)) fun x33 =>
 gdK x26 true (stS p_ (sEq .eql 5 (.tmp 33) (.const (.int .u8 202)) x33 (.int .u8 202))) fun x34 =>
 stS p_ (sPick x26 x34 (.bool false)) fun x35 =>
 K x35)
theorem law01_Stays_s {v0 v1 : Value} : Shp p_ 17 [v0, v1] (law01_Stays v0 v1) := sh_ Tryz.call17 Tryz.func17 (an := { drs := [(2, .ofL [(0, 1), (1, 1), (2, 1), (3, 1), (4, 1), (5, 1), (6, 1), (7, 1), (8, 1), (9, 1), (10, 1), (11, 1), (12, 1), (13, 1), (14, 1), (15, 1), (16, 1), (17, 1), (18, 1), (19, 1), (20, 1), (21, 1), (22, 1), (23, 1), (24, 1), (25, 1)])] }) fun _ _ => by kernel_rfl
def law07_knows (Kp : PK) (K : Value -> WP) : WP :=
 opN p_ (sCall (fn 10) [(.slice none 0 0), (.int .i64 6), (.int .i64 0)]) Kp fun x4 =>
 opN p_ (sExt x4 0) Kp fun x5 =>
 opN p_ (sExt x4 1) Kp fun x6 =>
 opN p_ (sCall (fn 12) [x6]) Kp fun x8 =>
 opN p_ (sEq .eql 3 (.tmp 8) (.const (.int .i64 0)) x8 (.int .i64 0)) Kp fun x9 =>
 gdK x9 true (fun k => k x5) fun x11 =>
 gdK x9 true (opN p_ (sConv 22 9 x11) Kp) fun x12 =>
 gdK x9 true (opN p_ (sEq .eql 9 (.tmp 12) (.const (.string ⟨#[31, 139, 8, 0, 0, 0, 0, 0, 0, 255, 3, 0, 0, 0, 0, 0, 0, 0, 0, 0]⟩)) x12 (.string ⟨#[31, 139, 8, 0, 0, 0, 0, 0, 0, 255, 3, 0, 0, 0, 0, 0, 0, 0, 0, 0]⟩)) Kp) fun x13 =>
 opN p_ (sPick x9 x13 (.bool false)) Kp fun x14 =>
 gdK x14 true (opN p_ (sBuildSl 22 9 [(0, (.int .u8 49)), (1, (.int .u8 50)), (2, (.int .u8 51)), (3, (.int .u8 52)), (4, (.int .u8 53)), (5, (.int .u8 54)), (6, (.int .u8 55)), (7, (.int .u8 56)), (8, (.int .u8 57))]) Kp) fun x16 =>
 gdK x14 true (opN p_ (sConv 22 22 x16) Kp) fun x17 =>
 gdK x14 true (opN p_ (sCall (fn 13) [x17]) Kp) fun x18 =>
 gdK x14 true (opN p_ (sEq .eql 23 (.tmp 18) (.const (.int .u32 3421780262)) x18 (.int .u32 3421780262)) Kp) fun x19 =>
 opN p_ (sPick x14 x19 (.bool false)) Kp fun x20 =>
 K x20
theorem law07_knows_s  : Shp p_ 18 [] (law07_knows) := sh_ Tryz.call18 Tryz.func18 (an := {}) fun _ _ => by kernel_rfl
def deflate_NewStream (v0 : Value) (Kp : PK) (K : Value → WP) : WP :=
 opN p_ (sCall (fn 46) [v0]) Kp fun x5 =>
 condS x5
 (K (.tuple #[(.pointer none), (.int .i64 1)]))
 (opN p_ (sBuild 69 [(0, v0), (3, (.bool true))]) Kp fun x7 =>
 opN p_ (sBox 69 x7) Kp fun x8 =>
 K (.tuple #[x8, (.int .i64 0)]))
theorem deflate_NewStream_s {v0 : Value} : Shp p_ 19 [v0] (deflate_NewStream v0) := sh_ Tryz.call19 Tryz.func19 (an := {}) fun _ _ => by kernel_rfl
def ref06_NewStream (v0 : Value) (Kp : PK) (K : Value → WP) : WP :=
 opN p_ (sBin .lss 3 v0 (.int .i64 0)) Kp fun x4 =>
 gdK x4 false (fun k => k v0) fun x6 =>
 gdK x4 false (opN p_ (sBin .gtr 3 x6 (.int .i64 9)) Kp) fun x7 =>
 opN p_ (sPick x4 (.bool true) x7) Kp fun x8 =>
 condS x8
 (K (.pointer none))
 (opN p_ (sBuild 71 [(0, v0)]) Kp fun x10 =>
 opN p_ (sBox 71 x10) Kp fun x11 =>
 K x11)
theorem ref06_NewStream_s {v0 : Value} : Shp p_ 20 [v0] (ref06_NewStream v0) := sh_ Tryz.call20 Tryz.func20 (an := {}) fun _ _ => by kernel_rfl
def deflate_Stream_Write (v0 v1 : Value) (Kp : PK) (K : Value → WP) : WP :=
 opN p_ (sCall (fn 47) [v0]) Kp fun x7 =>
 opN p_ (sEq .neq 25 (.tmp 8) (.const (.int .i64 0)) x7 (.int .i64 0)) Kp fun x9 =>
 condS x9
 (K x7)
 (opN p_ (sLen #[22] 3 [v1]) Kp fun x12 =>
 opN p_ (sNil v0) Kp fun x14 =>
 opN p_ (sFA 69 x14 2) Kp fun x15 =>
 opN p_ (sLoad 3 x15) Kp fun x16 =>
 opN p_ (sBin .sub 3 (.int .i64 524288) x16) Kp fun x17 =>
 opN p_ (sBin .gtr 3 x12 x17) Kp fun x18 =>
 condS x18
 (K (.int .i64 6))
 (opN p_ (sNil v0) Kp fun x20 =>
 opN p_ (sFA 69 x20 2) Kp fun x21 =>
 opN p_ (sLoad 3 x21) Kp fun x22 =>
 opN p_ (sLen #[22] 3 [v1]) Kp fun x24 =>
 opN p_ (sBin .add 3 x22 x24) Kp fun x25 =>
 opN p_ (sNil v0) Kp fun x26 =>
 opN p_ (sFA 69 x26 2) Kp fun x27 =>
 opN p_ (sStore 3 x27 x25) Kp fun _ =>
 opN p_ (sNil v0) Kp fun x30 =>
 opN p_ (sFA 69 x30 1) Kp fun x31 =>
 opN p_ (sLoad 22 x31) Kp fun x32 =>
 opN p_ (sApp #[22, 22] 22 [x32, v1]) Kp fun x34 =>
 opN p_ (sNil v0) Kp fun x35 =>
 opN p_ (sFA 69 x35 1) Kp fun x36 =>
 opN p_ (sStore 22 x36 x34) Kp fun _ =>
 K (.int .i64 0)))
theorem deflate_Stream_Write_s {v0 v1 : Value} : Shp p_ 23 [v0, v1] (deflate_Stream_Write v0 v1) := sh_ Tryz.call23 Tryz.func23 (an := {}) fun _ _ => by kernel_rfl
def ref06_Stream_Write (v0 v1 : Value) (Kp : PK) (K : Value → WP) : WP :=
 opN p_ (sNil v0) Kp fun x6 =>
 opN p_ (sFA 71 x6 3) Kp fun x7 =>
 opN p_ (sLoad 4 x7) Kp fun x8 =>
 condS x8
 (K (.int .i64 64))
 (opN p_ (sLen #[22] 3 [v1]) Kp fun x10 =>
 opN p_ (sNil v0) Kp fun x12 =>
 opN p_ (sFA 71 x12 2) Kp fun x13 =>
 opN p_ (sLoad 3 x13) Kp fun x14 =>
 opN p_ (sBin .sub 3 (.int .i64 524288) x14) Kp fun x15 =>
 opN p_ (sBin .gtr 3 x10 x15) Kp fun x16 =>
 condS x16
 (K (.int .i64 6))
 (opN p_ (sNil v0) Kp fun x19 =>
 opN p_ (sFA 71 x19 2) Kp fun x20 =>
 opN p_ (sLoad 3 x20) Kp fun x21 =>
 opN p_ (sLen #[22] 3 [v1]) Kp fun x23 =>
 opN p_ (sBin .add 3 x21 x23) Kp fun x24 =>
 opN p_ (sNil v0) Kp fun x25 =>
 opN p_ (sFA 71 x25 2) Kp fun x26 =>
 opN p_ (sStore 3 x26 x24) Kp fun _ =>
 opN p_ (sBuildSl 22 0 []) Kp fun x28 =>
 opN p_ (sNil v0) Kp fun x30 =>
 opN p_ (sFA 71 x30 1) Kp fun x31 =>
 opN p_ (sLoad 22 x31) Kp fun x32 =>
 opN p_ (sApp #[22, 22] 22 [x28, x32]) Kp fun x33 =>
 opN p_ (sApp #[22, 22] 22 [x33, v1]) Kp fun x35 =>
 opN p_ (sNil v0) Kp fun x36 =>
 opN p_ (sFA 71 x36 1) Kp fun x37 =>
 opN p_ (sStore 22 x37 x35) Kp fun _ =>
 K (.int .i64 0)))
theorem ref06_Stream_Write_s {v0 v1 : Value} : Shp p_ 24 [v0, v1] (ref06_Stream_Write v0 v1) := sh_ Tryz.call24 Tryz.func24 (an := {}) fun _ _ => by kernel_rfl
def deflate_Stream_Flush (v0 : Value) (Kp : PK) (K : Value → WP) : WP :=
 opN p_ (sCall (fn 47) [v0]) Kp fun x9 =>
 opN p_ (sEq .neq 25 (.tmp 10) (.const (.int .i64 0)) x9 (.int .i64 0)) Kp fun x11 =>
 gdK x11 false (fun k => k v0) fun x13 =>
 gdK x11 false (opN p_ (sNil x13) Kp) fun x14 =>
 gdK x11 false (opN p_ (sFA 69 x14 1) Kp) fun x15 =>
 gdK x11 false (opN p_ (sLoad 22 x15) Kp) fun x16 =>
 gdK x11 false (opN p_ (sLen #[22] 3 [x16]) Kp) fun x17 =>
 gdK x11 false (opN p_ (sEq .eql 3 (.tmp 17) (.const (.int .i64 0)) x17 (.int .i64 0)) Kp) fun x18 =>
 opN p_ (sPick x11 (.bool true) x18) Kp fun x19 =>
 condS x19
 (K (.tuple #[(.slice none 0 0), x9]))
 (opN p_ (sCall (fn 48) []) Kp fun x21 =>
 drS (stS p_ (sNil v0) fun x23 =>
 stS p_ (sFA 69 x23 1) fun x24 =>
 stS p_ (sLoad 22 x24) fun x25 =>
 stS p_ (sNil v0) fun x27 =>
 stS p_ (sFA 69 x27 0) fun x28 =>
 stS p_ (sLoad 3 x28) fun x29 =>
 opN p_ (sCall (fn 49) [x25, x29]) Kp fun x30 =>
 stS p_ (sLen #[75] 3 [x30]) fun x31 =>
 loop1 (fun I1 m1 _ y32 =>
 opN p_ (sBin .lss 3 y32 x31) Kp fun x33 =>
 condS x33
 (opN p_ (sIA 75 x30 y32) Kp fun x34 =>
 opN p_ (sLoad 79 x34) Kp fun x35 =>
 opN p_ (sAlloc 79) Kp fun x7 =>
 opN p_ (sStore 79 x7 x35) Kp fun _ =>
 opN p_ (sLoad 79 x7) Kp fun x36 =>
 opN p_ (sCall (fn 50) [x36, x21, (.int .i64 0)]) Kp fun x38 =>
 opN p_ (sBin .add 3 y32 (.int .i64 1)) Kp fun x39 =>
 next1 I1 m1 x39)
 (opN p_ (sCall (fn 51) [x21, (.int .i64 0), (.int .i64 3)]) Kp fun x41 =>
 opN p_ (sBuild 79 []) Kp fun x42 =>
 opN p_ (sCall (fn 52) [x42, x21]) Kp fun x44 =>
 opN p_ (sNil v0) Kp fun x46 =>
 opN p_ (sFA 69 x46 1) Kp fun x47 =>
 opN p_ (sStore 22 x47 (.slice none 0 0)) Kp fun _ =>
 opN p_ (sCall (fn 53) [x21]) Kp fun x49 =>
 K (.tuple #[x49, (.int .i64 0)]))) (.int .i64 0)))
theorem deflate_Stream_Flush_s {v0 : Value} : Shp p_ 25 [v0] (deflate_Stream_Flush v0) := sh_ Tryz.call25 Tryz.func25 (an := { loops := [(6, [32])], drs := [(5, .ofL [(0, 1), (1, 1), (2, 1), (3, 1), (4, 1), (5, 1), (6, 1), (7, 1), (10, 2), (8, 0), (9, 1)])] }) fun _ _ => by kernel_rfl
def ref06_Stream_Flush (v0 : Value) (Kp : PK) (K : Value → WP) : WP :=
 opN p_ (sNil v0) Kp fun x8 =>
 opN p_ (sFA 71 x8 3) Kp fun x9 =>
 opN p_ (sLoad 4 x9) Kp fun x10 =>
 condS x10
 (K (.tuple #[(.slice none 0 0), (.int .i64 64)]))
 (opN p_ (sNil v0) Kp fun x12 =>
 opN p_ (sFA 71 x12 1) Kp fun x13 =>
 opN p_ (sLoad 22 x13) Kp fun x14 =>
 opN p_ (sLen #[22] 3 [x14]) Kp fun x15 =>
 opN p_ (sEq .eql 3 (.tmp 15) (.const (.int .i64 0)) x15 (.int .i64 0)) Kp fun x16 =>
 condS x16
 (K (.tuple #[(.slice none 0 0), (.int .i64 0)]))
 (opN p_ (sBuild 86 []) Kp fun x17 =>
 opN p_ (sBox 86 x17) Kp fun x18 =>
 drS (stS p_ (sNil v0) fun x20 =>
 stS p_ (sFA 71 x20 1) fun x21 =>
 stS p_ (sLoad 22 x21) fun x22 =>
 stS p_ (sNil v0) fun x24 =>
 stS p_ (sFA 71 x24 0) fun x25 =>
 stS p_ (sLoad 3 x25) fun x26 =>
 opN p_ (sCall (fn 54) [x22, x26]) Kp fun x27 =>
 loop1 (fun I1 m1 _ y6 =>
 opN p_ (sLen #[87] 3 [x27]) Kp fun x30 =>
 opN p_ (sBin .lss 3 y6 x30) Kp fun x31 =>
 condS x31
 (drS (stS p_ (sIA 87 x27 y6) fun x37 =>
 stS p_ (sLoad 92 x37) fun x38 =>
 stS p_ (sNil v0) fun x40 =>
 stS p_ (sFA 71 x40 0) fun x41 =>
 stS p_ (sLoad 3 x41) fun x42 =>
 opN p_ (sCall (fn 55) [x18, x38, x42, (.int .i64 0)]) Kp fun x43 =>
 opN p_ (sBin .add 3 y6 (.int .i64 1)) Kp fun x33 =>
 next1 I1 m1 x33))
 (opN p_ (sCall (fn 56) [x18, (.int .i64 0), (.int .i64 3)]) Kp fun x45 =>
 opN p_ (sCall (fn 57) [x18, (.slice none 0 0)]) Kp fun x47 =>
 opN p_ (sNil v0) Kp fun x49 =>
 opN p_ (sFA 71 x49 1) Kp fun x50 =>
 opN p_ (sStore 22 x50 (.slice none 0 0)) Kp fun _ =>
 opN p_ (sCall (fn 58) [x18]) Kp fun x52 =>
 K (.tuple #[x52, (.int .i64 0)]))) (.int .i64 0))))
theorem ref06_Stream_Flush_s {v0 : Value} : Shp p_ 26 [v0] (ref06_Stream_Flush v0) := sh_ Tryz.call26 Tryz.func26 (an := { loops := [(8, [6])], drs := [(6, .ofL [(0, 1), (1, 1), (2, 1), (3, 1), (4, 1), (5, 1), (6, 1), (7, 1), (8, 0), (9, 1)]), (10, .ofL [(0, 1), (1, 1), (2, 1), (3, 1), (4, 1), (5, 1), (6, 1), (7, 1), (8, 1), (9, 0)])] }) fun _ _ => by kernel_rfl
def deflate_Stream_Close (v0 : Value) (Kp : PK) (K : Value → WP) : WP :=
 opN p_ (sCall (fn 47) [v0]) Kp fun x6 =>
 opN p_ (sEq .neq 25 (.tmp 7) (.const (.int .i64 0)) x6 (.int .i64 0)) Kp fun x8 =>
 condS x8
 (K (.tuple #[(.slice none 0 0), x6]))
 (opN p_ (sNil v0) Kp fun x11 =>
 opN p_ (sFA 69 x11 4) Kp fun x12 =>
 opN p_ (sStore 4 x12 (.bool true)) Kp fun _ =>
 drS (stS p_ (sNil v0) fun x14 =>
 stS p_ (sFA 69 x14 1) fun x15 =>
 stS p_ (sLoad 22 x15) fun x16 =>
 stS p_ (sNil v0) fun x18 =>
 stS p_ (sFA 69 x18 0) fun x19 =>
 stS p_ (sLoad 3 x19) fun x20 =>
 opN p_ (sCall (fn 39) [x16, x20]) Kp fun x21 =>
 stS p_ (sExt x21 0) fun x22 =>
 stS p_ (sExt x21 1) fun x23 =>
 K (.tuple #[x22, x23])))
theorem deflate_Stream_Close_s {v0 : Value} : Shp p_ 27 [v0] (deflate_Stream_Close v0) := sh_ Tryz.call27 Tryz.func27 (an := { drs := [(5, .ofL [(0, 1), (1, 1), (2, 1), (3, 1), (4, 1), (5, 1), (6, 1), (7, 1), (8, 0), (9, 1), (10, 1), (11, 1), (12, 1)])] }) fun _ _ => by kernel_rfl
def ref06_Stream_Close (v0 : Value) (Kp : PK) (K : Value → WP) : WP :=
 opN p_ (sNil v0) Kp fun x5 =>
 opN p_ (sFA 71 x5 3) Kp fun x6 =>
 opN p_ (sLoad 4 x6) Kp fun x7 =>
 condS x7
 (K (.tuple #[(.slice none 0 0), (.int .i64 64)]))
 (opN p_ (sNil v0) Kp fun x9 =>
 opN p_ (sFA 71 x9 3) Kp fun x10 =>
 opN p_ (sStore 4 x10 (.bool true)) Kp fun _ =>
 drS (stS p_ (sNil v0) fun x12 =>
 stS p_ (sFA 71 x12 1) fun x13 =>
 stS p_ (sLoad 22 x13) fun x14 =>
 stS p_ (sNil v0) fun x16 =>
 stS p_ (sFA 71 x16 0) fun x17 =>
 stS p_ (sLoad 3 x17) fun x18 =>
 opN p_ (sCall (fn 42) [x14, x18]) Kp fun x19 =>
 stS p_ (sExt x19 0) fun x20 =>
 stS p_ (sExt x19 1) fun x21 =>
 K (.tuple #[x20, x21])))
theorem ref06_Stream_Close_s {v0 : Value} : Shp p_ 28 [v0] (ref06_Stream_Close v0) := sh_ Tryz.call28 Tryz.func28 (an := { drs := [(4, .ofL [(0, 1), (1, 1), (2, 1), (3, 1), (4, 1), (5, 1), (6, 1), (7, 1), (8, 0), (9, 1), (10, 1), (11, 1), (12, 1)])] }) fun _ _ => by kernel_rfl
def gzip_NewStream (v0 : Value) (Kp : PK) (K : Value → WP) : WP :=
 opN p_ (sCall (fn 19) [v0]) Kp fun x8 =>
 opN p_ (sExt x8 0) Kp fun x9 =>
 opN p_ (sExt x8 1) Kp fun x10 =>
 opN p_ (sEq .neq 25 (.tmp 11) (.const (.int .i64 0)) x10 (.int .i64 0)) Kp fun x12 =>
 condS x12
 (K (.tuple #[(.pointer none), x10]))
 (opN p_ (sBuild 96 [(0, x9)]) Kp fun x15 =>
 opN p_ (sBox 96 x15) Kp fun x16 =>
 K (.tuple #[x16, (.int .i64 0)]))
theorem gzip_NewStream_s {v0 : Value} : Shp p_ 29 [v0] (gzip_NewStream v0) := sh_ Tryz.call29 Tryz.func29 (an := {}) fun _ _ => by kernel_rfl
def ref07_NewStream (v0 : Value) (Kp : PK) (K : Value → WP) : WP :=
 opN p_ (sCall (fn 20) [v0]) Kp fun x5 =>
 opN p_ (sEq .eql 40 (.tmp 6) (.const (.pointer none)) x5 (.pointer none)) Kp fun x7 =>
 condS x7
 (K (.pointer none))
 (opN p_ (sBuild 98 [(0, x5)]) Kp fun x9 =>
 opN p_ (sBox 98 x9) Kp fun x10 =>
 K x10)
theorem ref07_NewStream_s {v0 : Value} : Shp p_ 30 [v0] (ref07_NewStream v0) := sh_ Tryz.call30 Tryz.func30 (an := {}) fun _ _ => by kernel_rfl
def gzip_Stream_Write (v0 v1 : Value) (Kp : PK) (K : Value → WP) : WP :=
 opN p_ (sCall (fn 59) [v0]) Kp fun x7 =>
 opN p_ (sCall (fn 23) [x7, v1]) Kp fun x9 =>
 opN p_ (sEq .eql 25 (.tmp 10) (.const (.int .i64 0)) x9 (.int .i64 0)) Kp fun x11 =>
 condS x11
 (opN p_ (sNil v0) Kp fun x14 =>
 opN p_ (sFA 96 x14 1) Kp fun x15 =>
 opN p_ (sLoad 23 x15) Kp fun x16 =>
 opN p_ (sCall (fn 15) [x16, v1]) Kp fun x18 =>
 opN p_ (sNil v0) Kp fun x19 =>
 opN p_ (sFA 96 x19 1) Kp fun x20 =>
 opN p_ (sStore 23 x20 x18) Kp fun _ =>
 opN p_ (sNil v0) Kp fun x22 =>
 opN p_ (sFA 96 x22 2) Kp fun x23 =>
 opN p_ (sLoad 23 x23) Kp fun x24 =>
 opN p_ (sLen #[22] 3 [v1]) Kp fun x26 =>
 opN p_ (sConv 3 23 x26) Kp fun x27 =>
 opN p_ (sBin .add 23 x24 x27) Kp fun x28 =>
 opN p_ (sNil v0) Kp fun x29 =>
 opN p_ (sFA 96 x29 2) Kp fun x30 =>
 opN p_ (sStore 23 x30 x28) Kp fun _ =>
 K x9)
 (K x9)
theorem gzip_Stream_Write_s {v0 v1 : Value} : Shp p_ 31 [v0, v1] (gzip_Stream_Write v0 v1) := sh_ Tryz.call31 Tryz.func31 (an := {}) fun _ _ => by kernel_rfl
def ref07_Stream_Write (v0 v1 : Value) (Kp : PK) (K : Value → WP) : WP :=
 opN p_ (sNil v0) Kp fun x7 =>
 opN p_ (sFA 98 x7 0) Kp fun x8 =>
 opN p_ (sLoad 40 x8) Kp fun x9 =>
 opN p_ (sCall (fn 24) [x9, v1]) Kp fun x11 =>
 opN p_ (sEq .eql 3 (.tmp 12) (.const (.int .i64 0)) x11 (.int .i64 0)) Kp fun x13 =>
 condS x13
 (opN p_ (sBuildSl 22 0 []) Kp fun x15 =>
 opN p_ (sNil v0) Kp fun x17 =>
 opN p_ (sFA 98 x17 1) Kp fun x18 =>
 opN p_ (sLoad 22 x18) Kp fun x19 =>
 opN p_ (sApp #[22, 22] 22 [x15, x19]) Kp fun x20 =>
 opN p_ (sApp #[22, 22] 22 [x20, v1]) Kp fun x22 =>
 opN p_ (sNil v0) Kp fun x23 =>
 opN p_ (sFA 98 x23 1) Kp fun x24 =>
 opN p_ (sStore 22 x24 x22) Kp fun _ =>
 K x11)
 (K x11)
theorem ref07_Stream_Write_s {v0 v1 : Value} : Shp p_ 32 [v0, v1] (ref07_Stream_Write v0 v1) := sh_ Tryz.call32 Tryz.func32 (an := {}) fun _ _ => by kernel_rfl
def gzip_Stream_Flush (v0 : Value) (Kp : PK) (K : Value -> WP) : WP :=
 opN p_ (sCall (fn 59) [v0]) Kp fun x8 =>
 opN p_ (sCall (fn 25) [x8]) Kp fun x9 =>
 opN p_ (sExt x9 0) Kp fun x10 =>
 opN p_ (sExt x9 1) Kp fun x11 =>
 opN p_ (sCall (fn 60) [v0, x10]) Kp fun x14 =>
 K (.tuple #[x14, x11])
theorem gzip_Stream_Flush_s {v0 : Value} : Shp p_ 33 [v0] (gzip_Stream_Flush v0) := sh_ Tryz.call33 Tryz.func33 (an := {}) fun _ _ => by kernel_rfl
def ref07_Stream_Flush (v0 : Value) (Kp : PK) (K : Value -> WP) : WP :=
 opN p_ (sNil v0) Kp fun x8 =>
 opN p_ (sFA 98 x8 0) Kp fun x9 =>
 opN p_ (sLoad 40 x9) Kp fun x10 =>
 opN p_ (sCall (fn 26) [x10]) Kp fun x11 =>
 opN p_ (sExt x11 0) Kp fun x12 =>
 opN p_ (sExt x11 1) Kp fun x13 =>
 opN p_ (sCall (fn 61) [v0, x12]) Kp fun x16 =>
 K (.tuple #[x16, x13])
theorem ref07_Stream_Flush_s {v0 : Value} : Shp p_ 34 [v0] (ref07_Stream_Flush v0) := sh_ Tryz.call34 Tryz.func34 (an := {}) fun _ _ => by kernel_rfl
def gzip_Stream_Close (v0 : Value) (Kp : PK) (K : Value -> WP) : WP :=
 opN p_ (sCall (fn 59) [v0]) Kp fun x8 =>
 opN p_ (sCall (fn 27) [x8]) Kp fun x9 =>
 opN p_ (sExt x9 0) Kp fun x10 =>
 opN p_ (sExt x9 1) Kp fun x11 =>
 opN p_ (sEq .neq 25 (.tmp 12) (.const (.int .i64 0)) x11 (.int .i64 0)) Kp fun x13 =>
 condS x13
 (K (.tuple #[(.slice none 0 0), x11]))
 (drS (stD p_ (sNil v0) fun D4 x19 =>
 stD p_ (sFA 96 x19 1) fun D5 x20 =>
 stD p_ (sLoad 23 x20) fun D6 x21 =>
 stD p_ (sNil v0) fun D9 x24 =>
 stD p_ (sFA 96 x24 2) fun D10 x25 =>
 stD p_ (sLoad 23 x25) fun D11 x26 =>
 opN p_ (sCall (fn 60) [v0, x10]) Kp fun x17 =>
 (fun w => D11 w /\ (fun w => D10 w /\ (fun w => D9 w /\ (fun w => D6 w /\ (fun w => D5 w /\ (fun w => D4 w /\ (opN p_ (sCall (fn 40) [x17, x21]) Kp fun x22 =>
 (fun w => D11 w /\ (fun w => D10 w /\ (fun w => D9 w /\ (opN p_ (sCall (fn 40) [x22, x26]) Kp fun x27 =>
 K (.tuple #[x27, (.int .i64 0)])) w) w) w)) w) w) w) w) w) w)))
theorem gzip_Stream_Close_s {v0 : Value} : Shp p_ 35 [v0] (gzip_Stream_Close v0) := sh_ Tryz.call35 Tryz.func35 (an := { drs := [(4, .ofL [(0, 1), (1, 1), (3, 2), (4, 3), (5, 3), (6, 3), (8, 2), (9, 3), (10, 3), (11, 3), (2, 0), (7, 0), (12, 0), (13, 1), (14, 1)])] }) fun _ _ => by kernel_rfl
def ref07_Stream_Close (v0 : Value) (Kp : PK) (K : Value → WP) : WP :=
 opN p_ (sNil v0) Kp fun x8 =>
 opN p_ (sFA 98 x8 0) Kp fun x9 =>
 opN p_ (sLoad 40 x9) Kp fun x10 =>
 opN p_ (sCall (fn 28) [x10]) Kp fun x11 =>
 opN p_ (sExt x11 0) Kp fun x12 =>
 opN p_ (sExt x11 1) Kp fun x13 =>
 opN p_ (sEq .neq 3 (.tmp 14) (.const (.int .i64 0)) x13 (.int .i64 0)) Kp fun x15 =>
 condS x15
 (K (.tuple #[(.slice none 0 0), x13]))
 (drS (stD p_ (sNil v0) fun D4 x21 =>
 stD p_ (sFA 98 x21 1) fun D5 x22 =>
 stD p_ (sLoad 22 x22) fun D6 x23 =>
 opN p_ (sCall (fn 61) [v0, x12]) Kp fun x19 =>
 (fun w => D6 w ∧ (fun w => D5 w ∧ (fun w => D4 w ∧ (opN p_ (sCall (fn 44) [x23]) Kp fun x24 =>
 opN p_ (sApp #[22, 22] 22 [x19, x24]) Kp fun x25 =>
 K (.tuple #[x25, (.int .i64 0)])) w) w) w)))
theorem ref07_Stream_Close_s {v0 : Value} : Shp p_ 36 [v0] (ref07_Stream_Close v0) := sh_ Tryz.call36 Tryz.func36 (an := { drs := [(4, .ofL [(0, 1), (1, 1), (3, 2), (4, 3), (5, 3), (6, 3), (2, 0), (7, 0), (8, 0), (9, 1), (10, 1)])] }) fun _ _ => by kernel_rfl
def deflate_Deflate (v0 v1 : Value) (Kp : PK) (K : Value → WP) : WP :=
 opN p_ (sCall (fn 46) [v1]) Kp fun x13 =>
 condS x13
 (K (.tuple #[(.slice none 0 0), (.int .i64 1)]))
 (opN p_ (sLen #[22] 3 [v0]) Kp fun x16 =>
 opN p_ (sBin .gtr 3 x16 (.int .i64 524288)) Kp fun x17 =>
 condS x17
 (K (.tuple #[(.slice none 0 0), (.int .i64 6)]))
 (opN p_ (sCall (fn 48) []) Kp fun x18 =>
 opN p_ (sCall (fn 49) [v0, v1]) Kp fun x21 =>
 opN p_ (sLen #[75] 3 [x21]) Kp fun x23 =>
 loop1 (fun I1 m1 _ y24 =>
 opN p_ (sBin .lss 3 y24 x23) Kp fun x25 =>
 condS x25
 (opN p_ (sIA 75 x21 y24) Kp fun x27 =>
 opN p_ (sLoad 79 x27) Kp fun x28 =>
 opN p_ (sAlloc 79) Kp fun x9 =>
 opN p_ (sStore 79 x9 x28) Kp fun _ =>
 cut1 (fun J1 =>
 opN p_ (sLen #[75] 3 [x21]) Kp fun x31 =>
 opN p_ (sBin .sub 3 x31 (.int .i64 1)) Kp fun x32 =>
 opN p_ (sEq .eql 3 (.tmp 29) (.tmp 32) y24 x32) Kp fun x33 =>
 condS x33
 (J1 (.int .i64 1))
 (J1 (.int .i64 0))) fun _ z10 =>
 opN p_ (sLoad 79 x9) Kp fun x34 =>
 opN p_ (sCall (fn 50) [x34, x18, z10]) Kp fun x37 =>
 opN p_ (sBin .add 3 y24 (.int .i64 1)) Kp fun x38 =>
 next1 I1 m1 x38)
 (opN p_ (sCall (fn 53) [x18]) Kp fun x40 =>
 K (.tuple #[x40, (.int .i64 0)]))) (.int .i64 0)))
theorem deflate_Deflate_s {v0 v1 : Value} : Shp p_ 39 [v0, v1] (deflate_Deflate v0 v1) := sh_ Tryz.call39 Tryz.func39 (an := { cuts := [(13, [10])], loops := [(8, [24])] }) fun _ _ => by kernel_rfl
def gzip_four (v0 v1 : Value) (Kp : PK) (K : Value -> WP) : WP :=
 opN p_ (sConv 23 5 v1) Kp fun x7 =>
 opN p_ (sBin .shr 23 v1 (.int .u64 8)) Kp fun x9 =>
 opN p_ (sConv 23 5 x9) Kp fun x10 =>
 opN p_ (sBin .shr 23 v1 (.int .u64 16)) Kp fun x12 =>
 opN p_ (sConv 23 5 x12) Kp fun x13 =>
 opN p_ (sBin .shr 23 v1 (.int .u64 24)) Kp fun x15 =>
 opN p_ (sConv 23 5 x15) Kp fun x16 =>
 opN p_ (sBuildSl 22 4 [(0, x7), (1, x10), (2, x13), (3, x16)]) Kp fun x17 =>
 opN p_ (sApp #[22, 22] 22 [v0, x17]) Kp fun x18 =>
 K x18
theorem gzip_four_s {v0 v1 : Value} : Shp p_ 40 [v0, v1] (gzip_four v0 v1) := sh_ Tryz.call40 Tryz.func40 (an := {}) fun _ _ => by kernel_rfl
def gzip_head (v0 : Value) (Kp : PK) (K : Value -> WP) : WP :=
 opN p_ (sBuildSl 22 4 [(0, (.int .u8 31)), (1, (.int .u8 139)), (2, (.int .u8 8)), (3, (.int .u8 0))]) Kp fun x3 =>
 opN p_ (sConv 3 23 v0) Kp fun x5 =>
 opN p_ (sCall (fn 40) [x3, x5]) Kp fun x6 =>
 opN p_ (sBuildSl 22 2 [(0, (.int .u8 0)), (1, (.int .u8 255))]) Kp fun x7 =>
 opN p_ (sApp #[22, 22] 22 [x6, x7]) Kp fun x8 =>
 K x8
theorem gzip_head_s {v0 : Value} : Shp p_ 41 [v0] (gzip_head v0) := sh_ Tryz.call41 Tryz.func41 (an := {}) fun _ _ => by kernel_rfl
def ref06_Deflate (v0 v1 : Value) (Kp : PK) (K : Value → WP) : WP :=
 opN p_ (sBin .lss 3 v1 (.int .i64 0)) Kp fun x11 =>
 gdK x11 false (fun k => k v1) fun x13 =>
 gdK x11 false (opN p_ (sBin .gtr 3 x13 (.int .i64 9)) Kp) fun x14 =>
 opN p_ (sPick x11 (.bool true) x14) Kp fun x15 =>
 condS x15
 (K (.tuple #[(.slice none 0 0), (.int .i64 1)]))
 (opN p_ (sLen #[22] 3 [v0]) Kp fun x17 =>
 opN p_ (sBin .gtr 3 x17 (.int .i64 524288)) Kp fun x18 =>
 condS x18
 (K (.tuple #[(.slice none 0 0), (.int .i64 6)]))
 (opN p_ (sBuild 86 []) Kp fun x19 =>
 opN p_ (sBox 86 x19) Kp fun x20 =>
 opN p_ (sCall (fn 54) [v0, v1]) Kp fun x23 =>
 loop1 (fun I1 m1 _ y8 =>
 opN p_ (sLen #[87] 3 [x23]) Kp fun x26 =>
 opN p_ (sBin .lss 3 y8 x26) Kp fun x27 =>
 condS x27
 (cut1 (fun J1 =>
 opN p_ (sLen #[87] 3 [x23]) Kp fun x32 =>
 opN p_ (sBin .sub 3 x32 (.int .i64 1)) Kp fun x33 =>
 opN p_ (sEq .eql 3 (.tmp 30) (.tmp 33) y8 x33) Kp fun x34 =>
 condS x34
 (J1 (.int .i64 1))
 (J1 (.int .i64 0))) fun _ z9 =>
 opN p_ (sIA 87 x23 y8) Kp fun x38 =>
 opN p_ (sLoad 92 x38) Kp fun x39 =>
 opN p_ (sCall (fn 55) [x20, x39, v1, z9]) Kp fun x42 =>
 opN p_ (sBin .add 3 y8 (.int .i64 1)) Kp fun x29 =>
 next1 I1 m1 x29)
 (opN p_ (sCall (fn 58) [x20]) Kp fun x44 =>
 K (.tuple #[x44, (.int .i64 0)]))) (.int .i64 0)))
theorem ref06_Deflate_s {v0 v1 : Value} : Shp p_ 42 [v0, v1] (ref06_Deflate v0 v1) := sh_ Tryz.call42 Tryz.func42 (an := { cuts := [(13, [9])], loops := [(8, [8])] }) fun _ _ => by kernel_rfl
def ref07_Head (v0 : Value) (Kp : PK) (K : Value -> WP) : WP :=
 opN p_ (sBuildSl 22 4 [(0, (.int .u8 31)), (1, (.int .u8 139)), (2, (.int .u8 8)), (3, (.int .u8 0))]) Kp fun x4 =>
 opN p_ (sConv 3 23 v0) Kp fun x6 =>
 opN p_ (sCall (fn 63) [x6]) Kp fun x7 =>
 opN p_ (sApp #[22, 22] 22 [x4, x7]) Kp fun x8 =>
 opN p_ (sBuildSl 22 2 [(0, (.int .u8 0)), (1, (.int .u8 255))]) Kp fun x10 =>
 opN p_ (sApp #[22, 22] 22 [x8, x10]) Kp fun x11 =>
 K x11
theorem ref07_Head_s {v0 : Value} : Shp p_ 43 [v0] (ref07_Head v0) := sh_ Tryz.call43 Tryz.func43 (an := {}) fun _ _ => by kernel_rfl
def ref07_Tail (v0 : Value) (Kp : PK) (K : Value -> WP) : WP :=
 opN p_ (sCall (fn 14) [v0]) Kp fun x4 =>
 opN p_ (sCall (fn 63) [x4]) Kp fun x5 =>
 opN p_ (sLen #[22] 3 [v0]) Kp fun x7 =>
 opN p_ (sConv 3 23 x7) Kp fun x8 =>
 opN p_ (sCall (fn 63) [x8]) Kp fun x9 =>
 opN p_ (sApp #[22, 22] 22 [x5, x9]) Kp fun x10 =>
 K x10
theorem ref07_Tail_s {v0 : Value} : Shp p_ 44 [v0] (ref07_Tail v0) := sh_ Tryz.call44 Tryz.func44 (an := {}) fun _ _ => by kernel_rfl
def gzip_table (Kp : PK) (K : Value → WP) : WP :=
 opN p_ (sAlloc 65) Kp fun x0 =>
 opN p_ (sAlloc 65) Kp fun x1 =>
 loop1 (fun I1 m1 _ y4 =>
 opN p_ (sBin .lss 3 y4 (.int .i64 256)) Kp fun x5 =>
 condS x5
 (opN p_ (sConv 3 23 y4) Kp fun x8 =>
 loop2 (fun I2 m2 _ y3 y9 =>
 opN p_ (sBin .lss 3 y9 (.int .i64 8)) Kp fun x10 =>
 condS x10
 (opN p_ (sBin .and 23 y3 (.int .u32 1)) Kp fun x12 =>
 opN p_ (sEq .eql 23 (.tmp 12) (.const (.int .u32 1)) x12 (.int .u32 1)) Kp fun x13 =>
 condS x13
 (opN p_ (sBin .shr 23 y3 (.int .u64 1)) Kp fun x15 =>
 opN p_ (sBin .xor 23 x15 (.int .u32 3988292384)) Kp fun x16 =>
 opN p_ (sBin .add 3 y9 (.int .i64 1)) Kp fun x19 =>
 next2 I2 m2 x16 x19)
 (opN p_ (sBin .shr 23 y3 (.int .u64 1)) Kp fun x18 =>
 opN p_ (sBin .add 3 y9 (.int .i64 1)) Kp fun x19 =>
 next2 I2 m2 x18 x19))
 (opN p_ (sIA 65 x1 y4) Kp fun x22 =>
 opN p_ (sStore 23 x22 y3) Kp fun _ =>
 opN p_ (sBin .add 3 y4 (.int .i64 1)) Kp fun x23 =>
 next1 I1 m1 x23)) x8 (.int .i64 0))
 (opN p_ (sLoad 65 x1) Kp fun x24 =>
 opN p_ (sStore 65 x0 x24) Kp fun _ =>
 (stS p_ (sRes 65 x0) fun r0 => K r0))) (.int .i64 0)
theorem gzip_table_s  : Shp p_ 45 [] (gzip_table) := sh_ Tryz.call45 Tryz.func45 (an := { loops := [(3, [4]), (7, [3, 9])] }) fun _ _ => by kernel_rfl
def deflate_wrong (v0 : Value) (Kp : PK) (K : Value -> WP) : WP :=
 opN p_ (sBin .lss 3 v0 (.int .i64 0)) Kp fun x4 =>
 gdK x4 false (fun k => k v0) fun x6 =>
 gdK x4 false (opN p_ (sBin .gtr 3 x6 (.int .i64 9)) Kp) fun x7 =>
 opN p_ (sPick x4 (.bool true) x7) Kp fun x8 =>
 K x8
theorem deflate_wrong_s {v0 : Value} : Shp p_ 46 [v0] (deflate_wrong v0) := sh_ Tryz.call46 Tryz.func46 (an := {}) fun _ _ => by kernel_rfl
def deflate_Stream_open (v0 : Value) (Kp : PK) (K : Value → WP) : WP :=
 cut1 (fun J1 =>
 opN p_ (sEq .eql 37 (.tmp 4) (.const (.pointer none)) v0 (.pointer none)) Kp fun x5 =>
 condS x5
 (J1 x5)
 (opN p_ (sNil v0) Kp fun x7 =>
 opN p_ (sFA 69 x7 3) Kp fun x8 =>
 opN p_ (sLoad 4 x8) Kp fun x9 =>
 opN p_ (sUn .not x9) Kp fun x10 =>
 J1 x10)) fun _ z3 =>
 condS z3
 (K (.int .i64 1))
 (opN p_ (sNil v0) Kp fun x13 =>
 opN p_ (sFA 69 x13 4) Kp fun x14 =>
 opN p_ (sLoad 4 x14) Kp fun x15 =>
 condS x15
 (K (.int .i64 64))
 (K (.int .i64 0)))
theorem deflate_Stream_open_s {v0 : Value} : Shp p_ 47 [v0] (deflate_Stream_open v0) := sh_ Tryz.call47 Tryz.func47 (an := { cuts := [(3, [3])] }) fun _ _ => by kernel_rfl
def bits_NewWriter (Kp : PK) (K : Value -> WP) : WP :=
 opN p_ (sBuild 104 [(2, (.bool true))]) Kp fun x1 =>
 opN p_ (sBox 104 x1) Kp fun x2 =>
 K x2
theorem bits_NewWriter_s  : Shp p_ 48 [] (bits_NewWriter) := sh_ Tryz.call48 Tryz.func48 (an := {}) fun _ _ => by kernel_rfl
def deflate_blocks (v0 v1 : Value) (Kp : PK) (K : Value → WP) : WP :=
 opN p_ (sBox 22 v0) Kp fun x2 =>
 opN p_ (sBox 3 v1) Kp fun x3 =>
 opN p_ (sAlloc 77) Kp fun x5 =>
 cut0 (fun J1 =>
 opN p_ (sLoad 3 x3) Kp fun x16 =>
 opN p_ (sBin .gtr 3 x16 (.int .i64 0)) Kp fun x17 =>
 condS x17
 (opN p_ (sLoad 22 x2) Kp fun x19 =>
 opN p_ (sLoad 3 x3) Kp fun x20 =>
 opN p_ (sConv 3 55 x20) Kp fun x21 =>
 opN p_ (sBin .shl 3 (.int .i64 2) x21) Kp fun x22 =>
 opN p_ (sCall (fn 64) [x19, (.int .i64 32768), x22]) Kp fun x23 =>
 opN p_ (sExt x23 0) Kp fun x24 =>
 opN p_ (sExt x23 1) Kp fun x25 =>
 opN p_ (sStore 77 x5 x24) Kp fun _ =>
 J1)
 (opN p_ (sLoad 22 x2) Kp fun x26 =>
 opN p_ (sLen #[22] 3 [x26]) Kp fun x27 =>
 loop1 (fun I1 m1 _ y28 =>
 opN p_ (sBin .lss 3 y28 x27) Kp fun x29 =>
 condS x29
 (opN p_ (sIA 22 x26 y28) Kp fun x30 =>
 opN p_ (sLoad 5 x30) Kp fun x31 =>
 opN p_ (sLoad 77 x5) Kp fun x32 =>
 opN p_ (sBuild 108 [(2, x31)]) Kp fun x34 =>
 opN p_ (sBuildSl 77 1 [(0, x34)]) Kp fun x35 =>
 opN p_ (sApp #[77, 77] 77 [x32, x35]) Kp fun x36 =>
 opN p_ (sStore 77 x5 x36) Kp fun _ =>
 opN p_ (sBin .add 3 y28 (.int .i64 1)) Kp fun x37 =>
 next1 I1 m1 x37)
 (J1)) (.int .i64 0))) fun _ =>
 opN p_ (sAlloc 75) Kp fun x8 =>
 opN p_ (sAlloc 3) Kp fun x9 =>
 opN p_ (sAlloc 3) Kp fun x10 =>
 opN p_ (sAlloc 3) Kp fun x11 =>
 opN p_ (sStore 3 x9 (.int .i64 0)) Kp fun _ =>
 opN p_ (sStore 3 x10 (.int .i64 0)) Kp fun _ =>
 opN p_ (sStore 3 x11 (.int .i64 0)) Kp fun _ =>
 opN p_ (sMkF (.func 65) [] [x8, x5, x9, x2, x10, x11, x3]) Kp fun x38 =>
 opN p_ (sLoad 77 x5) Kp fun x39 =>
 opN p_ (sLen #[77] 3 [x39]) Kp fun x40 =>
 loop1 (fun I2 m2 _ y41 =>
 opN p_ (sBin .lss 3 y41 x40) Kp fun x42 =>
 condS x42
 (opN p_ (sIA 77 x39 y41) Kp fun x44 =>
 opN p_ (sLoad 108 x44) Kp fun x45 =>
 opN p_ (sAlloc 108) Kp fun x14 =>
 opN p_ (sStore 108 x14 x45) Kp fun _ =>
 opN p_ (sLoad 3 x11) Kp fun x46 =>
 opN p_ (sFA 108 x14 0) Kp fun x47 =>
 opN p_ (sLoad 3 x47) Kp fun x48 =>
 opN p_ (sMax #[3, 3] 3 [(.int .i64 1), x48]) Kp fun x49 =>
 opN p_ (sBin .add 3 x46 x49) Kp fun x50 =>
 opN p_ (sStore 3 x11 x50) Kp fun _ =>
 opN p_ (sLoad 3 x11) Kp fun x51 =>
 opN p_ (sLoad 3 x10) Kp fun x52 =>
 opN p_ (sBin .sub 3 x51 x52) Kp fun x53 =>
 opN p_ (sLoad 3 x3) Kp fun x54 =>
 opN p_ (sEq .eql 3 (.tmp 54) (.const (.int .i64 0)) x54 (.int .i64 0)) Kp fun x55 =>
 gdK x55 true (fun k => k x53) fun x57 =>
 gdK x55 true (opN p_ (sEq .eql 3 (.tmp 57) (.const (.int .i64 30000)) x57 (.int .i64 30000)) Kp) fun x58 =>
 opN p_ (sPick x55 x58 (.bool false)) Kp fun x59 =>
 gdK x59 false (opN p_ (sLoad 3 x3) Kp) fun x61 =>
 gdK x59 false (opN p_ (sBin .gtr 3 x61 (.int .i64 0)) Kp) fun x62 =>
 gdK x59 false (fun k => k x62) fun x63 =>
 gdK x63 true (fun k => k y41) fun x64 =>
 gdK x63 true (opN p_ (sBin .add 3 x64 (.int .i64 1)) Kp) fun x65 =>
 gdK x63 true (opN p_ (sLoad 3 x9) Kp) fun x66 =>
 gdK x63 true (opN p_ (sBin .sub 3 x65 x66) Kp) fun x67 =>
 gdK x63 true (opN p_ (sEq .eql 3 (.tmp 67) (.const (.int .i64 8192)) x67 (.int .i64 8192)) Kp) fun x68 =>
 gdK x63 true (fun k => k x68) fun x69 =>
 gdK x69 false (fun k => k x53) fun x70 =>
 gdK x69 false (opN p_ (sBin .gtr 3 x70 (.int .i64 30000)) Kp) fun x71 =>
 gdK x63 true (opN p_ (sPick x69 (.bool true) x71) Kp) fun x72 =>
 gdK x59 false (opN p_ (sPick x63 x72 (.bool false)) Kp) fun x73 =>
 opN p_ (sPick x59 (.bool true) x73) Kp fun x74 =>
 condS x74
 (opN p_ (sBin .add 3 y41 (.int .i64 1)) Kp fun x77 =>
 opN p_ (sCall x38 [x77]) Kp fun x78 =>
 opN p_ (sBin .add 3 y41 (.int .i64 1)) Kp fun x79 =>
 next1 I2 m2 x79)
 (opN p_ (sBin .add 3 y41 (.int .i64 1)) Kp fun x79 =>
 next1 I2 m2 x79))
 (opN p_ (sLoad 3 x9) Kp fun x80 =>
 opN p_ (sLoad 77 x5) Kp fun x81 =>
 opN p_ (sLen #[77] 3 [x81]) Kp fun x82 =>
 opN p_ (sBin .lss 3 x80 x82) Kp fun x83 =>
 gdK x83 false (opN p_ (sLoad 75 x8) Kp) fun x85 =>
 gdK x83 false (opN p_ (sLen #[75] 3 [x85]) Kp) fun x86 =>
 gdK x83 false (opN p_ (sEq .eql 3 (.tmp 86) (.const (.int .i64 0)) x86 (.int .i64 0)) Kp) fun x87 =>
 opN p_ (sPick x83 (.bool true) x87) Kp fun x88 =>
 condS x88
 (opN p_ (sLoad 77 x5) Kp fun x90 =>
 opN p_ (sLen #[77] 3 [x90]) Kp fun x91 =>
 opN p_ (sCall x38 [x91]) Kp fun x92 =>
 opN p_ (sLoad 75 x8) Kp fun x93 =>
 K x93)
 (opN p_ (sLoad 75 x8) Kp fun x93 =>
 K x93))) (.int .i64 0)
theorem deflate_blocks_s {v0 v1 : Value} : Shp p_ 49 [v0, v1] (deflate_blocks v0 v1) := sh_ Tryz.call49 Tryz.func49 (an := { cuts := [(9, [])], loops := [(5, [28]), (13, [41])] }) fun _ _ => by kernel_rfl
def deflate_block_put (v0 v1 v2 : Value) (Kp : PK) (K : Value → WP) : WP :=
 opN p_ (sBox 79 v0) Kp fun x3 =>
 opN p_ (sBuild 111 [(0, (fn 52)), (1, (fn 66)), (2, (fn 67))]) Kp fun x12 =>
 opN p_ (sAlloc 111) Kp fun x6 =>
 opN p_ (sStore 111 x6 x12) Kp fun _ =>
 cut1 (fun J1 =>
 opN p_ (sFA 79 x3 2) Kp fun x13 =>
 opN p_ (sLoad 3 x13) Kp fun x14 =>
 opN p_ (sBin .gtr 3 x14 (.int .i64 0)) Kp fun x15 =>
 condS x15
 (drS (stD p_ (sLoad 79 x3) fun D0 x16 =>
 stD p_ (sIA 111 x6 (.int .i64 0)) fun D1 x17 =>
 stD p_ (sLoad 110 x17) fun D2 x18 =>
 opN p_ (sCall (fn 69) [v1]) Kp fun x20 =>
 (fun w => D2 w ∧ (fun w => D1 w ∧ (fun w => D0 w ∧ (opN p_ (sCall (fn 68) [x16, x18, x20]) Kp fun x21 =>
 opN p_ (sSl 111 x6 (some (.int .i64 1)) none none) Kp fun x22 =>
 opN p_ (sLen #[114] 3 [x22]) Kp fun x23 =>
 loop3 (fun I1 m1 _ y7 y8 y24 =>
 opN p_ (sBin .lss 3 y24 x23) Kp fun x25 =>
 condS x25
 (opN p_ (sIA 114 x22 y24) Kp fun x27 =>
 opN p_ (sLoad 110 x27) Kp fun x28 =>
 drS (stD p_ (sLoad 79 x3) fun D0 x29 =>
 opN p_ (sCall (fn 69) [v1]) Kp fun x32 =>
 (fun w => D0 w ∧ (opN p_ (sCall (fn 68) [x29, x28, x32]) Kp fun x33 =>
 opN p_ (sBin .lss 3 x33 y8) Kp fun x36 =>
 condS x36
 (opN p_ (sBin .add 3 y24 (.int .i64 1)) Kp fun x39 =>
 opN p_ (sBin .add 3 y24 (.int .i64 1)) Kp fun x40 =>
 next3 I1 m1 x39 x33 x40)
 (opN p_ (sBin .add 3 y24 (.int .i64 1)) Kp fun x40 =>
 next3 I1 m1 y7 y8 x40)) w)))
 (J1 y7)) (.int .i64 0) x21 (.int .i64 0)) w) w) w)))
 (J1 (.int .i64 0))) fun _ z7 =>
 opN p_ (sCall (fn 51) [v1, v2, (.int .i64 1)]) Kp fun x43 =>
 opN p_ (sCall (fn 51) [v1, z7, (.int .i64 2)]) Kp fun x46 =>
 drS (stS p_ (sIA 111 x6 z7) fun x48 =>
 stS p_ (sLoad 110 x48) fun x49 =>
 stS p_ (sLoad 79 x3) fun x50 =>
 opN p_ (sCall x49 [x50, v1]) Kp fun x52 =>
 K (.tuple #[]))
theorem deflate_block_put_s {v0 v1 v2 : Value} : Shp p_ 50 [v0, v1, v2] (deflate_block_put v0 v1 v2) := sh_ Tryz.call50 Tryz.func50 (an := { cuts := [(12, [7])], loops := [(6, [7, 8, 24])], drs := [(4, .ofL [(0, 3), (1, 3), (2, 3), (3, 1), (4, 0), (5, 0), (6, 1)]), (8, .ofL [(0, 3), (1, 2), (2, 1), (3, 0), (4, 0), (5, 1)]), (14, .ofL [(0, 1), (1, 1), (2, 1), (3, 1), (4, 1), (5, 0)])] }) fun _ _ => by kernel_rfl
def bits_Writer_Put (v0 v1 v2 : Value) (Kp : PK) (K : Value → WP) : WP :=
 cut1 (fun J1 =>
 opN p_ (sCall (fn 70) [v0]) Kp fun x11 =>
 condS x11
 (J1 x11)
 (opN p_ (sBin .lss 3 v2 (.int .i64 0)) Kp fun x13 =>
 condS x13
 (J1 x13)
 (opN p_ (sBin .gtr 3 v2 (.int .i64 32)) Kp fun x15 =>
 condS x15
 (J1 x15)
 (opN p_ (sBin .lss 3 v1 (.int .i64 0)) Kp fun x17 =>
 condS x17
 (J1 x17)
 (opN p_ (sMin #[3, 3] 3 [v2, (.int .i64 32)]) Kp fun x20 =>
 opN p_ (sMax #[3, 3] 3 [(.int .i64 0), x20]) Kp fun x21 =>
 opN p_ (sConv 3 55 x21) Kp fun x22 =>
 opN p_ (sBin .shl 3 (.int .i64 1) x22) Kp fun x23 =>
 opN p_ (sBin .geq 3 v1 x23) Kp fun x24 =>
 J1 x24))))) fun _ z9 =>
 condS z9
 (K (.int .i64 1))
 (opN p_ (sNil v0) Kp fun x28 =>
 opN p_ (sFA 104 x28 1) Kp fun x29 =>
 opN p_ (sLoad 3 x29) Kp fun x30 =>
 opN p_ (sBin .sub 3 (.int .i64 8388608) x30) Kp fun x31 =>
 opN p_ (sBin .gtr 3 v2 x31) Kp fun x32 =>
 condS x32
 (K (.int .i64 6))
 (opN p_ (sCall (fn 71) []) Kp fun x33 =>
 opN p_ (sAlloc 115) Kp fun x7 =>
 opN p_ (sStore 115 x7 x33) Kp fun _ =>
 loop1 (fun I1 m1 _ y35 =>
 opN p_ (sBin .lss 3 y35 v2) Kp fun x36 =>
 condS x36
 (cut0 (fun J2 =>
 opN p_ (sNil v0) Kp fun x39 =>
 opN p_ (sFA 104 x39 1) Kp fun x40 =>
 opN p_ (sLoad 3 x40) Kp fun x41 =>
 opN p_ (sBin .rem 3 x41 (.int .i64 8)) Kp fun x42 =>
 opN p_ (sEq .eql 3 (.tmp 42) (.const (.int .i64 0)) x42 (.int .i64 0)) Kp fun x43 =>
 condS x43
 (opN p_ (sNil v0) Kp fun x46 =>
 opN p_ (sFA 104 x46 0) Kp fun x47 =>
 opN p_ (sLoad 22 x47) Kp fun x48 =>
 opN p_ (sBuildSl 22 1 [(0, (.int .u8 0))]) Kp fun x49 =>
 opN p_ (sApp #[22, 22] 22 [x48, x49]) Kp fun x50 =>
 opN p_ (sNil v0) Kp fun x51 =>
 opN p_ (sFA 104 x51 0) Kp fun x52 =>
 opN p_ (sStore 22 x52 x50) Kp fun _ =>
 J2)
 (J2)) fun _ =>
 cut0 (fun J3 =>
 opN p_ (sConv 3 55 y35) Kp fun x55 =>
 opN p_ (sBin .shr 3 v1 x55) Kp fun x56 =>
 opN p_ (sBin .and 3 x56 (.int .i64 1)) Kp fun x57 =>
 opN p_ (sEq .eql 3 (.tmp 57) (.const (.int .i64 1)) x57 (.int .i64 1)) Kp fun x58 =>
 condS x58
 (drS (stS p_ (sNil v0) fun x60 =>
 stS p_ (sFA 104 x60 0) fun x61 =>
 stS p_ (sLoad 22 x61) fun x62 =>
 stS p_ (sNil v0) fun x64 =>
 stS p_ (sFA 104 x64 1) fun x65 =>
 stS p_ (sLoad 3 x65) fun x66 =>
 stS p_ (sBin .quo 3 x66 (.int .i64 8)) fun x67 =>
 stS p_ (sIA 22 x62 x67) fun x68 =>
 stS p_ (sLoad 5 x68) fun x69 =>
 stS p_ (sNil v0) fun x71 =>
 stS p_ (sFA 104 x71 1) fun x72 =>
 stS p_ (sLoad 3 x72) fun x73 =>
 stS p_ (sBin .rem 3 x73 (.int .i64 8)) fun x74 =>
 stS p_ (sIA 115 x7 x74) fun x75 =>
 stS p_ (sLoad 5 x75) fun x76 =>
 stS p_ (sBin .or 5 x69 x76) fun x77 =>
 stS p_ (sIA 22 x62 x67) fun x78 =>
 opN p_ (sStore 5 x78 x77) Kp fun _ =>
 J3))
 (J3)) fun _ =>
 opN p_ (sNil v0) Kp fun x80 =>
 opN p_ (sFA 104 x80 1) Kp fun x81 =>
 opN p_ (sLoad 3 x81) Kp fun x82 =>
 opN p_ (sBin .add 3 x82 (.int .i64 1)) Kp fun x83 =>
 opN p_ (sNil v0) Kp fun x84 =>
 opN p_ (sFA 104 x84 1) Kp fun x85 =>
 opN p_ (sStore 3 x85 x83) Kp fun _ =>
 opN p_ (sBin .add 3 y35 (.int .i64 1)) Kp fun x86 =>
 next1 I1 m1 x86)
 (K (.int .i64 0))) (.int .i64 0)))
theorem bits_Writer_Put_s {v0 v1 v2 : Value} : Shp p_ 51 [v0, v1, v2] (bits_Writer_Put v0 v1 v2) := sh_ Tryz.call51 Tryz.func51 (an := { cuts := [(6, [9]), (15, []), (17, [])], loops := [(11, [35])], drs := [(16, .ofL [(0, 1), (1, 1), (2, 1), (3, 1), (4, 1), (5, 1), (6, 1), (7, 1), (8, 1), (9, 1), (10, 1), (11, 1), (12, 1), (13, 1), (14, 1), (15, 1), (16, 1), (17, 1), (18, 1), (19, 1), (20, 0)])] }) fun _ _ => by kernel_rfl
def deflate_block_stored (v0 v1 : Value) (Kp : PK) (K : Value -> WP) : WP :=
 opN p_ (sBox 79 v0) Kp fun x2 =>
 opN p_ (sCall (fn 72) [v1]) Kp fun x5 =>
 opN p_ (sFA 79 x2 1) Kp fun x7 =>
 opN p_ (sLoad 22 x7) Kp fun x8 =>
 opN p_ (sLen #[22] 3 [x8]) Kp fun x9 =>
 opN p_ (sCall (fn 51) [v1, x9, (.int .i64 16)]) Kp fun x10 =>
 opN p_ (sFA 79 x2 1) Kp fun x12 =>
 opN p_ (sLoad 22 x12) Kp fun x13 =>
 opN p_ (sLen #[22] 3 [x13]) Kp fun x14 =>
 opN p_ (sBin .sub 3 (.int .i64 65535) x14) Kp fun x15 =>
 opN p_ (sCall (fn 51) [v1, x15, (.int .i64 16)]) Kp fun x16 =>
 opN p_ (sFA 79 x2 1) Kp fun x18 =>
 opN p_ (sLoad 22 x18) Kp fun x19 =>
 opN p_ (sCall (fn 73) [v1, x19]) Kp fun x20 =>
 K (.tuple #[])
theorem deflate_block_stored_s {v0 v1 : Value} : Shp p_ 52 [v0, v1] (deflate_block_stored v0 v1) := sh_ Tryz.call52 Tryz.func52 (an := {}) fun _ _ => by kernel_rfl
def bits_Writer_Bytes (v0 : Value) (Kp : PK) (K : Value → WP) : WP :=
 opN p_ (sCall (fn 70) [v0]) Kp fun x4 =>
 condS x4
 (K (.slice none 0 0))
 (opN p_ (sNil v0) Kp fun x6 =>
 opN p_ (sFA 104 x6 0) Kp fun x7 =>
 opN p_ (sLoad 22 x7) Kp fun x8 =>
 opN p_ (sApp #[22, 22] 22 [(.slice none 0 0), x8]) Kp fun x9 =>
 K x9)
theorem bits_Writer_Bytes_s {v0 : Value} : Shp p_ 53 [v0] (bits_Writer_Bytes v0) := sh_ Tryz.call53 Tryz.func53 (an := {}) fun _ _ => by kernel_rfl
def ref06_blocks (v0 v1 : Value) (Kp : PK) (K : Value → WP) : WP :=
 opN p_ (sCall (fn 74) [v0, v1]) Kp fun x14 =>
 opN p_ (sBuild 92 []) Kp fun x15 =>
 opN p_ (sAlloc 92) Kp fun x7 =>
 opN p_ (sStore 92 x7 x15) Kp fun _ =>
 loop3 (fun I1 m1 _ y6 y8 y9 =>
 opN p_ (sLen #[90] 3 [x14]) Kp fun x18 =>
 opN p_ (sBin .lss 3 y9 x18) Kp fun x19 =>
 condS x19
 (opN p_ (sIA 90 x14 y9) Kp fun x24 =>
 opN p_ (sFA 118 x24 0) Kp fun x25 =>
 opN p_ (sLoad 3 x25) Kp fun x26 =>
 opN p_ (sMax #[3, 3] 3 [(.int .i64 1), x26]) Kp fun x27 =>
 drS (stD p_ (sFA 92 x7 0) fun D0 x28 =>
 stD p_ (sLoad 90 x28) fun D1 x29 =>
 stS p_ (sIA 90 x14 y9) fun x32 =>
 stS p_ (sLoad 118 x32) fun x33 =>
 opN p_ (sBuildSl 90 1 [(0, x33)]) Kp fun x34 =>
 (fun w => D1 w ∧ (fun w => D0 w ∧ (opN p_ (sApp #[90, 90] 90 [x29, x34]) Kp fun x35 =>
 stS p_ (sFA 92 x7 0) fun x36 =>
 opN p_ (sStore 90 x36 x35) Kp fun _ =>
 drS (stS p_ (sFA 92 x7 1) fun x37 =>
 stS p_ (sLoad 22 x37) fun x38 =>
 stS p_ (sBin .add 3 y8 x27) fun x43 =>
 stS p_ (sSl 22 v0 (some y8) (some x43) none) fun x44 =>
 opN p_ (sApp #[22, 22] 22 [x38, x44]) Kp fun x45 =>
 stS p_ (sFA 92 x7 1) fun x46 =>
 opN p_ (sStore 22 x46 x45) Kp fun _ =>
 opN p_ (sBin .add 3 y8 x27) Kp fun x49 =>
 opN p_ (sFA 92 x7 0) Kp fun x50 =>
 opN p_ (sLoad 90 x50) Kp fun x51 =>
 opN p_ (sLen #[90] 3 [x51]) Kp fun x52 =>
 opN p_ (sEq .eql 3 (.tmp 52) (.const (.int .i64 8192)) x52 (.int .i64 8192)) Kp fun x53 =>
 gdK x53 false (opN p_ (sFA 92 x7 1) Kp) fun x55 =>
 gdK x53 false (opN p_ (sLoad 22 x55) Kp) fun x56 =>
 gdK x53 false (opN p_ (sLen #[22] 3 [x56]) Kp) fun x57 =>
 gdK x53 false (opN p_ (sBin .gtr 3 x57 (.int .i64 30000)) Kp) fun x58 =>
 opN p_ (sPick x53 (.bool true) x58) Kp fun x59 =>
 cut1 (fun J1 =>
 opN p_ (sEq .eql 3 (.tmp 60) (.const (.int .i64 0)) v1 (.int .i64 0)) Kp fun x61 =>
 condS x61
 (opN p_ (sFA 92 x7 1) Kp fun x62 =>
 opN p_ (sLoad 22 x62) Kp fun x63 =>
 opN p_ (sLen #[22] 3 [x63]) Kp fun x64 =>
 opN p_ (sEq .eql 3 (.tmp 64) (.const (.int .i64 30000)) x64 (.int .i64 30000)) Kp fun x65 =>
 J1 x65)
 (J1 x59)) fun _ z11 =>
 condS z11
 (opN p_ (sLoad 92 x7) Kp fun x68 =>
 opN p_ (sBuildSl 87 1 [(0, x68)]) Kp fun x69 =>
 opN p_ (sApp #[87, 87] 87 [y6, x69]) Kp fun x70 =>
 opN p_ (sBuild 92 []) Kp fun x71 =>
 opN p_ (sStore 92 x7 x71) Kp fun _ =>
 opN p_ (sBin .add 3 y9 (.int .i64 1)) Kp fun x21 =>
 next3 I1 m1 x70 x49 x21)
 (opN p_ (sBin .add 3 y9 (.int .i64 1)) Kp fun x21 =>
 next3 I1 m1 y6 x49 x21))) w) w)))
 (opN p_ (sFA 92 x7 0) Kp fun x72 =>
 opN p_ (sLoad 90 x72) Kp fun x73 =>
 opN p_ (sLen #[90] 3 [x73]) Kp fun x74 =>
 opN p_ (sBin .gtr 3 x74 (.int .i64 0)) Kp fun x75 =>
 gdK x75 false (fun k => k y6) fun x77 =>
 gdK x75 false (opN p_ (sLen #[87] 3 [x77]) Kp) fun x78 =>
 gdK x75 false (opN p_ (sEq .eql 3 (.tmp 78) (.const (.int .i64 0)) x78 (.int .i64 0)) Kp) fun x79 =>
 opN p_ (sPick x75 (.bool true) x79) Kp fun x80 =>
 condS x80
 (opN p_ (sLoad 92 x7) Kp fun x82 =>
 opN p_ (sBuildSl 87 1 [(0, x82)]) Kp fun x83 =>
 opN p_ (sApp #[87, 87] 87 [y6, x83]) Kp fun x84 =>
 K x84)
 (K y6))) (.slice none 0 0) (.int .i64 0) (.int .i64 0)
theorem ref06_blocks_s {v0 v1 : Value} : Shp p_ 54 [v0, v1] (ref06_blocks v0 v1) := sh_ Tryz.call54 Tryz.func54 (an := { cuts := [(15, [11])], loops := [(6, [6, 8, 9])], drs := [(9, .ofL [(0, 3), (1, 3), (2, 1), (3, 1), (4, 1), (5, 1), (6, 0), (7, 0), (8, 1), (9, 0)]), (10, .ofL [(0, 1), (1, 1), (2, 1), (3, 1), (4, 1), (5, 1), (6, 1), (7, 1), (8, 0), (9, 1), (10, 0)])] }) fun _ _ => by kernel_rfl
def ref06_put (v0 v1 v2 v3 : Value) (Kp : PK) (K : Value → WP) : WP :=
 opN p_ (sBox 92 v1) Kp fun x5 =>
 loop1 (fun I1 m1 _ y8 =>
 opN p_ (sNil v0) Kp fun x13 =>
 opN p_ (sFA 86 x13 0) Kp fun x14 =>
 opN p_ (sLoad 22 x14) Kp fun x15 =>
 opN p_ (sLen #[22] 3 [x15]) Kp fun x16 =>
 opN p_ (sBin .add 3 x16 y8) Kp fun x18 =>
 opN p_ (sBin .rem 3 x18 (.int .i64 8)) Kp fun x19 =>
 opN p_ (sEq .neq 3 (.tmp 19) (.const (.int .i64 0)) x19 (.int .i64 0)) Kp fun x20 =>
 condS x20
 (opN p_ (sBin .add 3 y8 (.int .i64 1)) Kp fun x22 =>
 next1 I1 m1 x22)
 (opN p_ (sBin .add 3 y8 (.int .i64 32)) Kp fun x24 =>
 opN p_ (sFA 92 x5 1) Kp fun x25 =>
 opN p_ (sLoad 22 x25) Kp fun x26 =>
 opN p_ (sLen #[22] 3 [x26]) Kp fun x27 =>
 opN p_ (sBin .mul 3 (.int .i64 8) x27) Kp fun x28 =>
 opN p_ (sBin .add 3 x24 x28) Kp fun x29 =>
 loop3 (fun I2 m2 _ y8_2 y9 y10 =>
 opN p_ (sBin .leq 3 y10 (.int .i64 2)) Kp fun x31 =>
 gdK x31 true (fun k => k v2) fun x33 =>
 gdK x31 true (opN p_ (sBin .gtr 3 x33 (.int .i64 0)) Kp) fun x34 =>
 opN p_ (sPick x31 x34 (.bool false)) Kp fun x35 =>
 condS x35
 (opN p_ (sLoad 92 x5) Kp fun x40 =>
 opN p_ (sCall (fn 75) [y10, v3, x40]) Kp fun x41 =>
 opN p_ (sNil x41) Kp fun x43 =>
 opN p_ (sFA 86 x43 0) Kp fun x44 =>
 opN p_ (sLoad 22 x44) Kp fun x45 =>
 opN p_ (sLen #[22] 3 [x45]) Kp fun x46 =>
 opN p_ (sBin .lss 3 x46 y8_2) Kp fun x48 =>
 condS x48
 (opN p_ (sNil x41) Kp fun x50 =>
 opN p_ (sFA 86 x50 0) Kp fun x51 =>
 opN p_ (sLoad 22 x51) Kp fun x52 =>
 opN p_ (sLen #[22] 3 [x52]) Kp fun x53 =>
 opN p_ (sBin .add 3 y10 (.int .i64 1)) Kp fun x37 =>
 next3 I2 m2 x53 x41 x37)
 (opN p_ (sBin .add 3 y10 (.int .i64 1)) Kp fun x37 =>
 next3 I2 m2 y8_2 y9 x37))
 (opN p_ (sEq .neq 84 (.tmp 55) (.const (.pointer none)) y9 (.pointer none)) Kp fun x56 =>
 condS x56
 (drS (stS p_ (sNil v0) fun x59 =>
 stS p_ (sFA 86 x59 0) fun x60 =>
 stS p_ (sLoad 22 x60) fun x61 =>
 stS p_ (sNil y9) fun x63 =>
 stS p_ (sFA 86 x63 0) fun x64 =>
 stS p_ (sLoad 22 x64) fun x65 =>
 opN p_ (sApp #[22, 22] 22 [x61, x65]) Kp fun x66 =>
 stS p_ (sNil v0) fun x67 =>
 stS p_ (sFA 86 x67 0) fun x68 =>
 opN p_ (sStore 22 x68 x66) Kp fun _ =>
 K (.tuple #[])))
 (opN p_ (sCall (fn 56) [v0, v3, (.int .i64 1)]) Kp fun x71 =>
 opN p_ (sCall (fn 56) [v0, (.int .i64 0), (.int .i64 2)]) Kp fun x73 =>
 opN p_ (sFA 92 x5 1) Kp fun x75 =>
 opN p_ (sLoad 22 x75) Kp fun x76 =>
 opN p_ (sCall (fn 57) [v0, x76]) Kp fun x77 =>
 K (.tuple #[])))) x29 (.pointer none) (.int .i64 1))) (.int .i64 3)
theorem ref06_put_s {v0 v1 v2 v3 : Value} : Shp p_ 55 [v0, v1, v2, v3] (ref06_put v0 v1 v2 v3) := sh_ Tryz.call55 Tryz.func55 (an := { loops := [(2, [8]), (7, [8, 9, 10])], drs := [(14, .ofL [(0, 2), (1, 1), (2, 1), (3, 1), (4, 1), (5, 1), (6, 1), (7, 1), (8, 1), (9, 0), (10, 1), (11, 1), (12, 0)])] }) fun _ _ => by kernel_rfl
def ref02_Writer_Put (v0 v1 v2 : Value) (Kp : PK) (K : Value → WP) : WP :=
 opN p_ (sBin .lss 3 v2 (.int .i64 0)) Kp fun x9 =>
 gdK x9 false (fun k => k v2) fun x11 =>
 gdK x9 false (opN p_ (sBin .gtr 3 x11 (.int .i64 32)) Kp) fun x12 =>
 opN p_ (sPick x9 (.bool true) x12) Kp fun x13 =>
 gdK x13 false (fun k => k v1) fun x15 =>
 gdK x13 false (opN p_ (sBin .lss 3 x15 (.int .i64 0)) Kp) fun x16 =>
 opN p_ (sPick x13 (.bool true) x16) Kp fun x17 =>
 gdK x17 false (fun k => k v1) fun x19 =>
 gdK x17 false (fun k => k v2) fun x20 =>
 gdK x17 false (opN p_ (sConv 3 55 x20) Kp) fun x21 =>
 gdK x17 false (opN p_ (sBin .shl 3 (.int .i64 1) x21) Kp) fun x22 =>
 gdK x17 false (opN p_ (sBin .geq 3 x19 x22) Kp) fun x23 =>
 opN p_ (sPick x17 (.bool true) x23) Kp fun x24 =>
 condS x24
 (K (.int .i64 1))
 (opN p_ (sNil v0) Kp fun x27 =>
 opN p_ (sFA 86 x27 0) Kp fun x28 =>
 opN p_ (sLoad 22 x28) Kp fun x29 =>
 opN p_ (sLen #[22] 3 [x29]) Kp fun x30 =>
 opN p_ (sBin .sub 3 (.int .i64 8388608) x30) Kp fun x31 =>
 opN p_ (sBin .gtr 3 v2 x31) Kp fun x32 =>
 condS x32
 (K (.int .i64 6))
 (loop1 (fun I1 m1 _ y7 =>
 opN p_ (sBin .lss 3 y7 v2) Kp fun x35 =>
 condS x35
 (opN p_ (sNil v0) Kp fun x40 =>
 opN p_ (sFA 86 x40 0) Kp fun x41 =>
 opN p_ (sLoad 22 x41) Kp fun x42 =>
 opN p_ (sConv 3 55 y7) Kp fun x45 =>
 opN p_ (sBin .shr 3 v1 x45) Kp fun x46 =>
 opN p_ (sBin .and 3 x46 (.int .i64 1)) Kp fun x47 =>
 opN p_ (sConv 3 5 x47) Kp fun x48 =>
 opN p_ (sBuildSl 22 1 [(0, x48)]) Kp fun x49 =>
 opN p_ (sApp #[22, 22] 22 [x42, x49]) Kp fun x50 =>
 opN p_ (sNil v0) Kp fun x51 =>
 opN p_ (sFA 86 x51 0) Kp fun x52 =>
 opN p_ (sStore 22 x52 x50) Kp fun _ =>
 opN p_ (sBin .add 3 y7 (.int .i64 1)) Kp fun x37 =>
 next1 I1 m1 x37)
 (K (.int .i64 0))) (.int .i64 0)))
theorem ref02_Writer_Put_s {v0 v1 v2 : Value} : Shp p_ 56 [v0, v1, v2] (ref02_Writer_Put v0 v1 v2) := sh_ Tryz.call56 Tryz.func56 (an := { loops := [(6, [7])] }) fun _ _ => by kernel_rfl
def ref06_stored (v0 v1 : Value) (Kp : PK) (K : Value -> WP) : WP :=
 opN p_ (sCall (fn 76) [v0]) Kp fun x5 =>
 opN p_ (sLen #[22] 3 [v1]) Kp fun x8 =>
 opN p_ (sCall (fn 56) [v0, x8, (.int .i64 16)]) Kp fun x9 =>
 opN p_ (sLen #[22] 3 [v1]) Kp fun x12 =>
 opN p_ (sBin .sub 3 (.int .i64 65535) x12) Kp fun x13 =>
 opN p_ (sCall (fn 56) [v0, x13, (.int .i64 16)]) Kp fun x14 =>
 opN p_ (sCall (fn 77) [v0, v1]) Kp fun x17 =>
 K (.tuple #[])
theorem ref06_stored_s {v0 v1 : Value} : Shp p_ 57 [v0, v1] (ref06_stored v0 v1) := sh_ Tryz.call57 Tryz.func57 (an := {}) fun _ _ => by kernel_rfl
def ref02_Writer_Bytes (v0 : Value) (Kp : PK) (K : Value -> WP) : WP :=
 opN p_ (sNil v0) Kp fun x6 =>
 opN p_ (sFA 86 x6 0) Kp fun x7 =>
 opN p_ (sLoad 22 x7) Kp fun x8 =>
 opN p_ (sLen #[22] 3 [x8]) Kp fun x9 =>
 opN p_ (sBin .add 3 x9 (.int .i64 7)) Kp fun x10 =>
 opN p_ (sBin .quo 3 x10 (.int .i64 8)) Kp fun x11 =>
 opN p_ (sMkSl 22 x11 x11) Kp fun x12 =>
 loop1 (fun I1 m1 _ y4 =>
 opN p_ (sNil v0) Kp fun x15 =>
 opN p_ (sFA 86 x15 0) Kp fun x16 =>
 opN p_ (sLoad 22 x16) Kp fun x17 =>
 opN p_ (sLen #[22] 3 [x17]) Kp fun x18 =>
 opN p_ (sBin .lss 3 y4 x18) Kp fun x19 =>
 condS x19
 (drS (stS p_ (sBin .quo 3 y4 (.int .i64 8)) fun x24 =>
 stS p_ (sBin .quo 3 y4 (.int .i64 8)) fun x27 =>
 stS p_ (sIA 22 x12 x27) fun x28 =>
 stS p_ (sLoad 5 x28) fun x29 =>
 stS p_ (sNil v0) fun x31 =>
 stS p_ (sFA 86 x31 0) fun x32 =>
 stS p_ (sLoad 22 x32) fun x33 =>
 stS p_ (sIA 22 x33 y4) fun x35 =>
 stS p_ (sLoad 5 x35) fun x36 =>
 stS p_ (sBin .rem 3 y4 (.int .i64 8)) fun x38 =>
 stS p_ (sConv 3 55 x38) fun x39 =>
 stS p_ (sBin .shl 5 x36 x39) fun x40 =>
 stS p_ (sBin .or 5 x29 x40) fun x41 =>
 stS p_ (sIA 22 x12 x24) fun x42 =>
 opN p_ (sStore 5 x42 x41) Kp fun _ =>
 opN p_ (sBin .add 3 y4 (.int .i64 1)) Kp fun x21 =>
 next1 I1 m1 x21))
 (K x12)) (.int .i64 0)
theorem ref02_Writer_Bytes_s {v0 : Value} : Shp p_ 58 [v0] (ref02_Writer_Bytes v0) := sh_ Tryz.call58 Tryz.func58 (an := { loops := [(3, [4])], drs := [(5, .ofL [(0, 1), (1, 1), (2, 1), (3, 1), (4, 1), (5, 1), (6, 1), (7, 1), (8, 1), (9, 1), (10, 1), (11, 1), (12, 1), (13, 1), (14, 1), (15, 1), (16, 1), (17, 1), (18, 1), (19, 1), (20, 1), (21, 0)])] }) fun _ _ => by kernel_rfl
def gzip_Stream_stream (v0 : Value) (Kp : PK) (K : Value → WP) : WP :=
 opN p_ (sEq .eql 49 (.tmp 3) (.const (.pointer none)) v0 (.pointer none)) Kp fun x4 =>
 condS x4
 (K (.pointer none))
 (opN p_ (sNil v0) Kp fun x6 =>
 opN p_ (sFA 96 x6 0) Kp fun x7 =>
 opN p_ (sLoad 37 x7) Kp fun x8 =>
 K x8)
theorem gzip_Stream_stream_s {v0 : Value} : Shp p_ 59 [v0] (gzip_Stream_stream v0) := sh_ Tryz.call59 Tryz.func59 (an := {}) fun _ _ => by kernel_rfl
def gzip_Stream_begun (v0 v1 : Value) (Kp : PK) (K : Value → WP) : WP :=
 opN p_ (sEq .eql 49 (.tmp 5) (.const (.pointer none)) v0 (.pointer none)) Kp fun x6 =>
 gdK x6 false (fun k => k v0) fun x8 =>
 gdK x6 false (opN p_ (sNil x8) Kp) fun x9 =>
 gdK x6 false (opN p_ (sFA 96 x9 3) Kp) fun x10 =>
 gdK x6 false (opN p_ (sLoad 4 x10) Kp) fun x11 =>
 opN p_ (sPick x6 (.bool true) x11) Kp fun x12 =>
 gdK x12 false (fun k => k v1) fun x14 =>
 gdK x12 false (opN p_ (sLen #[22] 3 [x14]) Kp) fun x15 =>
 gdK x12 false (opN p_ (sEq .eql 3 (.tmp 15) (.const (.int .i64 0)) x15 (.int .i64 0)) Kp) fun x16 =>
 opN p_ (sPick x12 (.bool true) x16) Kp fun x17 =>
 condS x17
 (K v1)
 (opN p_ (sNil v0) Kp fun x20 =>
 opN p_ (sFA 96 x20 3) Kp fun x21 =>
 opN p_ (sStore 4 x21 (.bool true)) Kp fun _ =>
 opN p_ (sCall (fn 41) [(.int .i64 0)]) Kp fun x22 =>
 opN p_ (sApp #[22, 22] 22 [x22, v1]) Kp fun x24 =>
 K x24)
theorem gzip_Stream_begun_s {v0 v1 : Value} : Shp p_ 60 [v0, v1] (gzip_Stream_begun v0 v1) := sh_ Tryz.call60 Tryz.func60 (an := {}) fun _ _ => by kernel_rfl
def ref07_Stream_begun (v0 v1 : Value) (Kp : PK) (K : Value → WP) : WP :=
 opN p_ (sNil v0) Kp fun x6 =>
 opN p_ (sFA 98 x6 2) Kp fun x7 =>
 opN p_ (sLoad 4 x7) Kp fun x8 =>
 gdK x8 false (fun k => k v1) fun x10 =>
 gdK x8 false (opN p_ (sLen #[22] 3 [x10]) Kp) fun x11 =>
 gdK x8 false (opN p_ (sEq .eql 3 (.tmp 11) (.const (.int .i64 0)) x11 (.int .i64 0)) Kp) fun x12 =>
 opN p_ (sPick x8 (.bool true) x12) Kp fun x13 =>
 condS x13
 (K v1)
 (opN p_ (sNil v0) Kp fun x16 =>
 opN p_ (sFA 98 x16 2) Kp fun x17 =>
 opN p_ (sStore 4 x17 (.bool true)) Kp fun _ =>
 opN p_ (sCall (fn 43) [(.int .i64 0)]) Kp fun x18 =>
 opN p_ (sApp #[22, 22] 22 [x18, v1]) Kp fun x20 =>
 K x20)
theorem ref07_Stream_begun_s {v0 v1 : Value} : Shp p_ 61 [v0, v1] (ref07_Stream_begun v0 v1) := sh_ Tryz.call61 Tryz.func61 (an := {}) fun _ _ => by kernel_rfl
def ref07_four (v0 : Value) (Kp : PK) (K : Value -> WP) : WP :=
 opN p_ (sConv 23 5 v0) Kp fun x4 =>
 opN p_ (sBin .shr 23 v0 (.int .u64 8)) Kp fun x6 =>
 opN p_ (sConv 23 5 x6) Kp fun x7 =>
 opN p_ (sBin .shr 23 v0 (.int .u64 16)) Kp fun x9 =>
 opN p_ (sConv 23 5 x9) Kp fun x10 =>
 opN p_ (sBin .shr 23 v0 (.int .u64 24)) Kp fun x12 =>
 opN p_ (sConv 23 5 x12) Kp fun x13 =>
 opN p_ (sBuildSl 22 4 [(0, x4), (1, x7), (2, x10), (3, x13)]) Kp fun x14 =>
 K x14
theorem ref07_four_s {v0 : Value} : Shp p_ 63 [v0] (ref07_four v0) := sh_ Tryz.call63 Tryz.func63 (an := {}) fun _ _ => by kernel_rfl
def lz_Pieces (v0 v1 v2 : Value) (Kp : PK) (K : Value → WP) : WP :=
 cut1 (fun J1 =>
 opN p_ (sBin .lss 3 v1 (.int .i64 1)) Kp fun x14 =>
 condS x14
 (J1 x14)
 (opN p_ (sBin .gtr 3 v1 (.int .i64 32768)) Kp fun x16 =>
 condS x16
 (J1 x16)
 (opN p_ (sBin .lss 3 v2 (.int .i64 0)) Kp fun x18 =>
 condS x18
 (J1 x18)
 (opN p_ (sBin .gtr 3 v2 (.int .i64 4096)) Kp fun x20 =>
 J1 x20)))) fun _ z12 =>
 condS z12
 (K (.tuple #[(.slice none 0 0), (.int .i64 1)]))
 (opN p_ (sLen #[22] 3 [v0]) Kp fun x23 =>
 opN p_ (sBin .gtr 3 x23 (.int .i64 1048576)) Kp fun x24 =>
 condS x24
 (K (.tuple #[(.slice none 0 0), (.int .i64 6)]))
 (opN p_ (sMkMap 125 none) Kp fun x26 =>
 opN p_ (sBuild 127 [(0, v0), (1, x26), (3, v1), (4, v2)]) Kp fun x29 =>
 opN p_ (sBox 127 x29) Kp fun x30 =>
 loop2 (fun I1 m1 _ y9 y10 =>
 opN p_ (sLen #[22] 3 [v0]) Kp fun x33 =>
 opN p_ (sBin .lss 3 y10 x33) Kp fun x34 =>
 condS x34
 (opN p_ (sCall (fn 84) [x30, y10]) Kp fun x37 =>
 opN p_ (sCall (fn 85) [x30, y10]) Kp fun x40 =>
 opN p_ (sAlloc 108) Kp fun x11 =>
 opN p_ (sStore 108 x11 x40) Kp fun _ =>
 opN p_ (sLoad 108 x11) Kp fun x42 =>
 opN p_ (sBuildSl 77 1 [(0, x42)]) Kp fun x43 =>
 opN p_ (sApp #[77, 77] 77 [y9, x43]) Kp fun x44 =>
 opN p_ (sFA 108 x11 0) Kp fun x46 =>
 opN p_ (sLoad 3 x46) Kp fun x47 =>
 opN p_ (sMax #[3, 3] 3 [(.int .i64 1), x47]) Kp fun x48 =>
 opN p_ (sBin .add 3 y10 x48) Kp fun x49 =>
 next2 I1 m1 x44 x49)
 (K (.tuple #[y9, (.int .i64 0)]))) (.slice none 0 0) (.int .i64 0)))
theorem lz_Pieces_s {v0 v1 v2 : Value} : Shp p_ 64 [v0, v1, v2] (lz_Pieces v0 v1 v2) := sh_ Tryz.call64 Tryz.func64 (an := { cuts := [(5, [12])], loops := [(11, [9, 10])] }) fun _ _ => by kernel_rfl
def deflate_blocks_1 (v0 v1 v2 v3 v4 v5 v6 v7 : Value) (Kp : PK) (K : Value -> WP) : WP :=
 drS (stD p_ (sLoad 75 v1) fun D0 x9 =>
 stS p_ (sLoad 77 v2) fun x10 =>
 stS p_ (sLoad 3 v3) fun x11 =>
 stS p_ (sSl 77 x10 (some x11) (some v0) none) fun x13 =>
 stS p_ (sLoad 22 v4) fun x14 =>
 stS p_ (sLoad 3 v5) fun x15 =>
 stS p_ (sLoad 3 v6) fun x16 =>
 stS p_ (sSl 22 x14 (some x15) (some x16) none) fun x17 =>
 stS p_ (sLoad 3 v7) fun x18 =>
 stS p_ (sBuild 79 [(0, x13), (1, x17), (2, x18)]) fun x19 =>
 opN p_ (sBuildSl 75 1 [(0, x19)]) Kp fun x20 =>
 (fun w => D0 w /\ (opN p_ (sApp #[75, 75] 75 [x9, x20]) Kp fun x21 =>
 opN p_ (sStore 75 v1 x21) Kp fun _ =>
 drS (stD p_ (sLoad 3 v6) fun D1 x23 =>
 opN p_ (sStore 3 v3 v0) Kp fun _ =>
 (fun w => D1 w /\ (opN p_ (sStore 3 v5 x23) Kp fun _ =>
 K (.tuple #[])) w))) w))
theorem deflate_blocks_1_s {v0 v1 v2 v3 v4 v5 v6 v7 : Value} : Shp p_ 65 [v0, v1, v2, v3, v4, v5, v6, v7] (deflate_blocks_1 v0 v1 v2 v3 v4 v5 v6 v7) := sh_ Tryz.call65 Tryz.func65 (an := { drs := [(0, .ofL [(0, 3), (1, 1), (2, 1), (3, 1), (4, 1), (5, 1), (6, 1), (7, 1), (8, 1), (9, 1), (10, 1), (11, 0), (12, 0), (13, 0)]), (1, .ofL [(0, 1), (1, 3), (2, 0), (3, 0)])] }) fun _ _ => by kernel_rfl
def deflate_block_fixed (v0 v1 : Value) (Kp : PK) (K : Value -> WP) : WP :=
 opN p_ (sBox 79 v0) Kp fun x2 =>
 opN p_ (sCall (fn 86) []) Kp fun x7 =>
 opN p_ (sExt x7 0) Kp fun x8 =>
 opN p_ (sExt x7 1) Kp fun x9 =>
 drS (stD p_ (sLoad 79 x2) fun D0 x10 =>
 opN p_ (sCall (fn 88) [x8]) Kp fun x12 =>
 (fun w => D0 w /\ (opN p_ (sCall (fn 88) [x9]) Kp fun x14 =>
 (fun w => D0 w /\ (opN p_ (sCall (fn 89) [v1]) Kp fun x16 =>
 (fun w => D0 w /\ (opN p_ (sCall (fn 87) [x10, x12, x14, x16]) Kp fun x17 =>
 K (.tuple #[])) w)) w)) w))
theorem deflate_block_fixed_s {v0 v1 : Value} : Shp p_ 66 [v0, v1] (deflate_block_fixed v0 v1) := sh_ Tryz.call66 Tryz.func66 (an := { drs := [(2, .ofL [(0, 3), (1, 1), (3, 2), (5, 2), (2, 0), (4, 0), (6, 0), (7, 0)])] }) fun _ _ => by kernel_rfl
def deflate_block_dynamic (v0 v1 : Value) (Kp : PK) (K : Value -> WP) : WP :=
 opN p_ (sBox 79 v0) Kp fun x2 =>
 opN p_ (sLoad 79 x2) Kp fun x7 =>
 opN p_ (sCall (fn 90) [x7]) Kp fun x8 =>
 opN p_ (sExt x8 0) Kp fun x9 =>
 opN p_ (sExt x8 1) Kp fun x10 =>
 opN p_ (sAlloc 134) Kp fun x4 =>
 opN p_ (sAlloc 134) Kp fun x5 =>
 opN p_ (sStore 134 x4 x9) Kp fun _ =>
 opN p_ (sStore 134 x5 x10) Kp fun _ =>
 opN p_ (sLoad 134 x4) Kp fun x12 =>
 opN p_ (sLoad 134 x5) Kp fun x13 =>
 opN p_ (sCall (fn 91) [v1, x12, x13]) Kp fun x14 =>
 drS (stD p_ (sLoad 79 x2) fun D0 x15 =>
 stD p_ (sLoad 134 x4) fun D1 x16 =>
 stD p_ (sLoad 134 x5) fun D2 x17 =>
 opN p_ (sCall (fn 89) [v1]) Kp fun x19 =>
 (fun w => D2 w /\ (fun w => D1 w /\ (fun w => D0 w /\ (opN p_ (sCall (fn 87) [x15, x16, x17, x19]) Kp fun x20 =>
 K (.tuple #[])) w) w) w))
theorem deflate_block_dynamic_s {v0 v1 : Value} : Shp p_ 67 [v0, v1] (deflate_block_dynamic v0 v1) := sh_ Tryz.call67 Tryz.func67 (an := { drs := [(3, .ofL [(0, 3), (1, 3), (2, 3), (3, 1), (4, 0), (5, 0)])] }) fun _ _ => by kernel_rfl
def deflate_block_size (v0 v1 v2 : Value) (Kp : PK) (K : Value -> WP) : WP :=
 opN p_ (sBox 79 v0) Kp fun x3 =>
 opN p_ (sCall (fn 48) []) Kp fun x8 =>
 opN p_ (sBin .rem 3 v2 (.int .i64 8)) Kp fun x11 =>
 opN p_ (sCall (fn 51) [x8, (.int .i64 0), x11]) Kp fun x12 =>
 opN p_ (sCall (fn 51) [x8, (.int .i64 0), (.int .i64 3)]) Kp fun x14 =>
 opN p_ (sLoad 79 x3) Kp fun x16 =>
 opN p_ (sCall v1 [x16, x8]) Kp fun x18 =>
 opN p_ (sCall (fn 69) [x8]) Kp fun x20 =>
 opN p_ (sBin .rem 3 v2 (.int .i64 8)) Kp fun x22 =>
 opN p_ (sBin .sub 3 x20 x22) Kp fun x23 =>
 K x23
theorem deflate_block_size_s {v0 v1 v2 : Value} : Shp p_ 68 [v0, v1, v2] (deflate_block_size v0 v1 v2) := sh_ Tryz.call68 Tryz.func68 (an := {}) fun _ _ => by kernel_rfl
def bits_Writer_Bits (v0 : Value) (Kp : PK) (K : Value → WP) : WP :=
 opN p_ (sCall (fn 70) [v0]) Kp fun x4 =>
 condS x4
 (K (.int .i64 0))
 (opN p_ (sNil v0) Kp fun x6 =>
 opN p_ (sFA 104 x6 1) Kp fun x7 =>
 opN p_ (sLoad 3 x7) Kp fun x8 =>
 K x8)
theorem bits_Writer_Bits_s {v0 : Value} : Shp p_ 69 [v0] (bits_Writer_Bits v0) := sh_ Tryz.call69 Tryz.func69 (an := {}) fun _ _ => by kernel_rfl
def bits_Writer_none (v0 : Value) (Kp : PK) (K : Value -> WP) : WP :=
 opN p_ (sEq .eql 73 (.tmp 3) (.const (.pointer none)) v0 (.pointer none)) Kp fun x4 =>
 gdK x4 false (fun k => k v0) fun x6 =>
 gdK x4 false (opN p_ (sNil x6) Kp) fun x7 =>
 gdK x4 false (opN p_ (sFA 104 x7 2) Kp) fun x8 =>
 gdK x4 false (opN p_ (sLoad 4 x8) Kp) fun x9 =>
 gdK x4 false (opN p_ (sUn .not x9) Kp) fun x10 =>
 opN p_ (sPick x4 (.bool true) x10) Kp fun x11 =>
 K x11
theorem bits_Writer_none_s {v0 : Value} : Shp p_ 70 [v0] (bits_Writer_none v0) := sh_ Tryz.call70 Tryz.func70 (an := {}) fun _ _ => by kernel_rfl
def bits_masks (Kp : PK) (K : Value -> WP) : WP :=
 opN p_ (sAlloc 115) Kp fun x0 =>
 opN p_ (sBuild 115 [(0, (.int .u8 1)), (1, (.int .u8 2)), (2, (.int .u8 4)), (3, (.int .u8 8)), (4, (.int .u8 16)), (5, (.int .u8 32)), (6, (.int .u8 64)), (7, (.int .u8 128))]) Kp fun x1 =>
 opN p_ (sStore 115 x0 x1) Kp fun _ =>
 (stS p_ (sRes 115 x0) fun r0 => K r0)
theorem bits_masks_s  : Shp p_ 71 [] (bits_masks) := sh_ Tryz.call71 Tryz.func71 (an := {}) fun _ _ => by kernel_rfl
def bits_Writer_Align (v0 : Value) (Kp : PK) (K : Value → WP) : WP :=
 opN p_ (sCall (fn 70) [v0]) Kp fun x3 =>
 opN p_ (sUn .not x3) Kp fun x4 =>
 condS x4
 (opN p_ (sNil v0) Kp fun x7 =>
 opN p_ (sFA 104 x7 0) Kp fun x8 =>
 opN p_ (sLoad 22 x8) Kp fun x9 =>
 opN p_ (sLen #[22] 3 [x9]) Kp fun x10 =>
 opN p_ (sBin .mul 3 (.int .i64 8) x10) Kp fun x11 =>
 opN p_ (sNil v0) Kp fun x12 =>
 opN p_ (sFA 104 x12 1) Kp fun x13 =>
 opN p_ (sStore 3 x13 x11) Kp fun _ =>
 K (.tuple #[]))
 (K (.tuple #[]))
theorem bits_Writer_Align_s {v0 : Value} : Shp p_ 72 [v0] (bits_Writer_Align v0) := sh_ Tryz.call72 Tryz.func72 (an := {}) fun _ _ => by kernel_rfl
def bits_Writer_Raw (v0 v1 : Value) (Kp : PK) (K : Value → WP) : WP :=
 opN p_ (sCall (fn 70) [v0]) Kp fun x7 =>
 condS x7
 (K (.int .i64 1))
 (opN p_ (sLen #[22] 3 [v1]) Kp fun x10 =>
 opN p_ (sNil v0) Kp fun x12 =>
 opN p_ (sFA 104 x12 0) Kp fun x13 =>
 opN p_ (sLoad 22 x13) Kp fun x14 =>
 opN p_ (sLen #[22] 3 [x14]) Kp fun x15 =>
 opN p_ (sBin .sub 3 (.int .i64 1048576) x15) Kp fun x16 =>
 opN p_ (sBin .gtr 3 x10 x16) Kp fun x17 =>
 condS x17
 (K (.int .i64 6))
 (opN p_ (sNil v0) Kp fun x20 =>
 opN p_ (sFA 104 x20 0) Kp fun x21 =>
 opN p_ (sLoad 22 x21) Kp fun x22 =>
 opN p_ (sApp #[22, 22] 22 [x22, v1]) Kp fun x24 =>
 opN p_ (sNil v0) Kp fun x25 =>
 opN p_ (sFA 104 x25 0) Kp fun x26 =>
 opN p_ (sStore 22 x26 x24) Kp fun _ =>
 opN p_ (sCall (fn 72) [v0]) Kp fun x28 =>
 K (.int .i64 0)))
theorem bits_Writer_Raw_s {v0 v1 : Value} : Shp p_ 73 [v0, v1] (bits_Writer_Raw v0 v1) := sh_ Tryz.call73 Tryz.func73 (an := {}) fun _ _ => by kernel_rfl
def ref06_pieces (v0 v1 : Value) (Kp : PK) (K : Value → WP) : WP :=
 opN p_ (sEq .eql 3 (.tmp 9) (.const (.int .i64 0)) v1 (.int .i64 0)) Kp fun x10 =>
 condS x10
 (loop2 (fun I1 m1 _ y5 y6 =>
 opN p_ (sLen #[22] 3 [v0]) Kp fun x13 =>
 opN p_ (sBin .lss 3 y6 x13) Kp fun x14 =>
 condS x14
 (opN p_ (sIA 22 v0 y6) Kp fun x20 =>
 opN p_ (sLoad 5 x20) Kp fun x21 =>
 opN p_ (sBuild 118 [(2, x21)]) Kp fun x22 =>
 opN p_ (sBuildSl 90 1 [(0, x22)]) Kp fun x23 =>
 opN p_ (sApp #[90, 90] 90 [y5, x23]) Kp fun x24 =>
 opN p_ (sBin .add 3 y6 (.int .i64 1)) Kp fun x16 =>
 next2 I1 m1 x24 x16)
 (K y5)) (.slice none 0 0) (.int .i64 0))
 (opN p_ (sConv 3 55 v1) Kp fun x29 =>
 opN p_ (sBin .shl 3 (.int .i64 2) x29) Kp fun x30 =>
 opN p_ (sCall (fn 92) [v0, (.int .i64 32768), x30]) Kp fun x31 =>
 opN p_ (sExt x31 0) Kp fun x32 =>
 opN p_ (sExt x31 1) Kp fun x33 =>
 K x32)
theorem ref06_pieces_s {v0 v1 : Value} : Shp p_ 74 [v0, v1] (ref06_pieces v0 v1) := sh_ Tryz.call74 Tryz.func74 (an := { loops := [(4, [5, 6])] }) fun _ _ => by kernel_rfl
def ref06_way (v0 v1 v2 : Value) (Kp : PK) (K : Value → WP) : WP :=
 opN p_ (sBox 92 v2) Kp fun x5 =>
 opN p_ (sBuild 86 []) Kp fun x12 =>
 opN p_ (sBox 86 x12) Kp fun x13 =>
 opN p_ (sCall (fn 56) [x13, v1, (.int .i64 1)]) Kp fun x16 =>
 opN p_ (sCall (fn 56) [x13, v0, (.int .i64 2)]) Kp fun x19 =>
 opN p_ (sEq .eql 3 (.tmp 20) (.const (.int .i64 1)) v0 (.int .i64 1)) Kp fun x22 =>
 condS x22
 (opN p_ (sCall (fn 93) []) Kp fun x24 =>
 opN p_ (sExt x24 0) Kp fun x25 =>
 opN p_ (sExt x24 1) Kp fun x26 =>
 opN p_ (sLoad 92 x5) Kp fun x28 =>
 opN p_ (sCall (fn 94) [x13, x28, x25, x26]) Kp fun x31 =>
 K x13)
 (opN p_ (sEq .eql 3 (.tmp 20) (.const (.int .i64 2)) v0 (.int .i64 2)) Kp fun x33 =>
 condS x33
 (opN p_ (sLoad 92 x5) Kp fun x35 =>
 opN p_ (sCall (fn 95) [x35]) Kp fun x36 =>
 opN p_ (sExt x36 0) Kp fun x37 =>
 opN p_ (sExt x36 1) Kp fun x38 =>
 opN p_ (sCall (fn 96) [x13, x37, x38]) Kp fun x42 =>
 opN p_ (sLoad 92 x5) Kp fun x44 =>
 opN p_ (sCall (fn 94) [x13, x44, x37, x38]) Kp fun x47 =>
 K x13)
 (K x13))
theorem ref06_way_s {v0 v1 v2 : Value} : Shp p_ 75 [v0, v1, v2] (ref06_way v0 v1 v2) := sh_ Tryz.call75 Tryz.func75 (an := {}) fun _ _ => by kernel_rfl
def ref02_Writer_Align (v0 : Value) (Kp : PK) (K : Value → WP) : WP :=
 loop0 (fun I1 m1 _  =>
 opN p_ (sNil v0) Kp fun x3 =>
 opN p_ (sFA 86 x3 0) Kp fun x4 =>
 opN p_ (sLoad 22 x4) Kp fun x5 =>
 opN p_ (sLen #[22] 3 [x5]) Kp fun x6 =>
 opN p_ (sBin .rem 3 x6 (.int .i64 8)) Kp fun x7 =>
 opN p_ (sEq .neq 3 (.tmp 7) (.const (.int .i64 0)) x7 (.int .i64 0)) Kp fun x8 =>
 condS x8
 (opN p_ (sNil v0) Kp fun x11 =>
 opN p_ (sFA 86 x11 0) Kp fun x12 =>
 opN p_ (sLoad 22 x12) Kp fun x13 =>
 opN p_ (sBuildSl 22 1 [(0, (.int .u8 0))]) Kp fun x14 =>
 opN p_ (sApp #[22, 22] 22 [x13, x14]) Kp fun x15 =>
 opN p_ (sNil v0) Kp fun x16 =>
 opN p_ (sFA 86 x16 0) Kp fun x17 =>
 opN p_ (sStore 22 x17 x15) Kp fun _ =>
 next0 I1 m1)
 (K (.tuple #[])))
theorem ref02_Writer_Align_s {v0 : Value} : Shp p_ 76 [v0] (ref02_Writer_Align v0) := sh_ Tryz.call76 Tryz.func76 (an := { loops := [(0, [])] }) fun _ _ => by kernel_rfl
def ref02_Writer_Raw (v0 v1 : Value) (Kp : PK) (K : Value → WP) : WP :=
 opN p_ (sNil v0) Kp fun x8 =>
 opN p_ (sFA 86 x8 0) Kp fun x9 =>
 opN p_ (sLoad 22 x9) Kp fun x10 =>
 opN p_ (sLen #[22] 3 [x10]) Kp fun x11 =>
 opN p_ (sBin .add 3 x11 (.int .i64 7)) Kp fun x12 =>
 opN p_ (sBin .quo 3 x12 (.int .i64 8)) Kp fun x13 =>
 opN p_ (sLen #[22] 3 [v1]) Kp fun x15 =>
 opN p_ (sBin .sub 3 (.int .i64 1048576) x13) Kp fun x17 =>
 opN p_ (sBin .gtr 3 x15 x17) Kp fun x18 =>
 condS x18
 (K (.int .i64 6))
 (opN p_ (sCall (fn 76) [v0]) Kp fun x20 =>
 loop1 (fun I1 m1 _ y6 =>
 opN p_ (sLen #[22] 3 [v1]) Kp fun x23 =>
 opN p_ (sBin .lss 3 y6 x23) Kp fun x24 =>
 condS x24
 (opN p_ (sIA 22 v1 y6) Kp fun x30 =>
 opN p_ (sLoad 5 x30) Kp fun x31 =>
 opN p_ (sConv 5 3 x31) Kp fun x32 =>
 opN p_ (sCall (fn 56) [v0, x32, (.int .i64 8)]) Kp fun x33 =>
 opN p_ (sBin .add 3 y6 (.int .i64 1)) Kp fun x26 =>
 next1 I1 m1 x26)
 (K (.int .i64 0))) (.int .i64 0))
theorem ref02_Writer_Raw_s {v0 v1 : Value} : Shp p_ 77 [v0, v1] (ref02_Writer_Raw v0 v1) := sh_ Tryz.call77 Tryz.func77 (an := { loops := [(6, [6])] }) fun _ _ => by kernel_rfl
def lz_finder_learn (v0 v1 : Value) (Kp : PK) (K : Value → WP) : WP :=
 loop0 (fun I1 m1 _  =>
 drS (stS p_ (sNil v0) fun x6 =>
 stS p_ (sFA 127 x6 2) fun x7 =>
 stS p_ (sLoad 3 x7) fun x8 =>
 stS p_ (sBin .lss 3 x8 v1) fun x10 =>
 gdK x10 true (fun k => k v0) fun x12 =>
 gdK x10 true (stS p_ (sNil x12)) fun x13 =>
 gdK x10 true (stS p_ (sFA 127 x13 2)) fun x14 =>
 gdK x10 true (stS p_ (sLoad 3 x14)) fun x15 =>
 gdK x10 true (stS p_ (sBin .add 3 x15 (.int .i64 3))) fun x16 =>
 gdK x10 true (fun k => k v0) fun x17 =>
 gdK x10 true (stS p_ (sNil x17)) fun x18 =>
 gdK x10 true (stS p_ (sFA 127 x18 0)) fun x19 =>
 gdK x10 true (stS p_ (sLoad 22 x19)) fun x20 =>
 gdK x10 true (stS p_ (sLen #[22] 3 [x20])) fun x21 =>
 gdK x10 true (stS p_ (sBin .leq 3 x16 x21)) fun x22 =>
 stS p_ (sPick x10 x22 (.bool false)) fun x23 =>
 condS x23
 (drS (stD p_ (sNil v0) fun D1 x32 =>
 stD p_ (sFA 127 x32 0) fun D2 x33 =>
 stD p_ (sLoad 22 x33) fun D3 x34 =>
 stD p_ (sNil v0) fun D5 x36 =>
 stD p_ (sFA 127 x36 2) fun D6 x37 =>
 stD p_ (sLoad 3 x37) fun D7 x38 =>
 stD p_ (sSl 22 x34 (some x38) none none) fun D8 x39 =>
 stD p_ (sArrP 147 x39) fun D9 x40 =>
 stD p_ (sLoad 147 x40) fun D10 x41 =>
 opN p_ (sAlloc 147) Kp fun x4 =>
 (fun w => D10 w ∧ (fun w => D9 w ∧ (fun w => D8 w ∧ (fun w => D7 w ∧ (fun w => D6 w ∧ (fun w => D5 w ∧ (fun w => D3 w ∧ (fun w => D2 w ∧ (fun w => D1 w ∧ (opN p_ (sStore 147 x4 x41) Kp fun _ =>
 drS (stD p_ (sNil v0) fun D1 x43 =>
 stD p_ (sFA 127 x43 1) fun D2 x44 =>
 stD p_ (sLoad 125 x44) fun D3 x45 =>
 stD p_ (sLoad 147 x4) fun D4 x46 =>
 stS p_ (sNil v0) fun x49 =>
 stS p_ (sFA 127 x49 2) fun x50 =>
 stS p_ (sLoad 3 x50) fun x51 =>
 opN p_ (sBuildSl 129 1 [(0, x51)]) Kp fun x52 =>
 (fun w => D4 w ∧ (fun w => D3 w ∧ (fun w => D2 w ∧ (fun w => D1 w ∧ (opN p_ (sMapEnt 125 x45 x46) Kp fun x53 =>
 stS p_ (sExt x53 0) fun x47 =>
 stD p_ (sExt x53 1) fun D13 x55 =>
 opN p_ (sApp #[129, 129] 129 [x47, x52]) Kp fun x54 =>
 (fun w => D13 w ∧ (opN p_ (sEntSt 125 x45 x55 x54) Kp fun _ =>
 opN p_ (sNil v0) Kp fun x25 =>
 opN p_ (sFA 127 x25 2) Kp fun x26 =>
 opN p_ (sLoad 3 x26) Kp fun x27 =>
 opN p_ (sBin .add 3 x27 (.int .i64 1)) Kp fun x28 =>
 opN p_ (sNil v0) Kp fun x29 =>
 opN p_ (sFA 127 x29 2) Kp fun x30 =>
 opN p_ (sStore 3 x30 x28) Kp fun _ =>
 next0 I1 m1) w)) w) w) w) w))) w) w) w) w) w) w) w) w) w)))
 (K (.tuple #[]))))
theorem lz_finder_learn_s {v0 v1 : Value} : Shp p_ 84 [v0, v1] (lz_finder_learn v0 v1) := sh_ Tryz.call84 Tryz.func84 (an := { loops := [(0, [])], drs := [(0, .ofL [(0, 1), (1, 1), (2, 1), (3, 1), (4, 1), (5, 1), (6, 1), (7, 1), (8, 1), (9, 1), (10, 1), (11, 1), (12, 1), (13, 1), (14, 1), (15, 1), (16, 1), (17, 1), (18, 1)]), (2, .ofL [(0, 2), (1, 3), (2, 3), (3, 3), (4, 2), (5, 3), (6, 3), (7, 3), (8, 3), (9, 3), (10, 3), (11, 0), (12, 0)]), (3, .ofL [(0, 2), (1, 3), (2, 3), (3, 3), (4, 3), (5, 1), (6, 1), (7, 1), (8, 1), (9, 0), (10, 0), (11, 1), (13, 3), (12, 0), (14, 0)])] }) fun _ _ => by kernel_rfl
def lz_finder_piece (v0 v1 : Value) (Kp : PK) (K : Value → WP) : WP :=
 opN p_ (sBox 124 v0) Kp fun x2 =>
 opN p_ (sBox 3 v1) Kp fun x3 =>
 opN p_ (sAlloc 108) Kp fun x4 =>
 drS (stD p_ (sLoad 124 x2) fun D0 x8 =>
 stD p_ (sNil x8) fun D1 x9 =>
 stD p_ (sFA 127 x9 0) fun D2 x10 =>
 stD p_ (sLoad 22 x10) fun D3 x11 =>
 stD p_ (sLoad 3 x3) fun D4 x12 =>
 stD p_ (sIA 22 x11 x12) fun D5 x13 =>
 stD p_ (sLoad 5 x13) fun D6 x14 =>
 stD p_ (sBuild 108 [(2, x14)]) fun D7 x15 =>
 opN p_ (sAlloc 108) Kp fun x5 =>
 (fun w => D7 w ∧ (fun w => D6 w ∧ (fun w => D5 w ∧ (fun w => D4 w ∧ (fun w => D3 w ∧ (fun w => D2 w ∧ (fun w => D1 w ∧ (fun w => D0 w ∧ (opN p_ (sStore 108 x5 x15) Kp fun _ =>
 opN p_ (sLoad 124 x2) Kp fun x16 =>
 opN p_ (sLoad 3 x3) Kp fun x17 =>
 opN p_ (sCall (fn 101) [x16, x17]) Kp fun x18 =>
 rfS p_ x18 1 (fun u19 B1 N1 J1r =>
 B1 (opN p_ (sLoad 124 x2) noK fun x20 =>
 opN p_ (sLoad 3 x3) noK fun x22 =>
 opN p_ (sCall (fn 102) [x20, u19, x22]) noK fun x23 =>
 opN p_ (sFA 108 x5 0) noK fun x25 =>
 opN p_ (sLoad 3 x25) noK fun x26 =>
 opN p_ (sBin .gtr 3 x23 x26) noK fun x27 =>
 condS x27
 (opN p_ (sLoad 3 x3) noK fun x29 =>
 opN p_ (sBin .sub 3 x29 u19) noK fun x31 =>
 opN p_ (sBuild 108 [(0, x23), (1, x31)]) noK fun x32 =>
 opN p_ (sStore 108 x5 x32) noK fun _ =>
 N1)
 (N1))) (fun d1 =>
 opN p_ (sLoad 108 x5) (KpM [d1] Kp) fun x33 =>
 opN p_ (sStore 108 x4 x33) (KpM [d1] Kp) fun _ =>
 (tkS d1 ((stS p_ (sRes 108 x4) fun r0 => K r0)))) (fun d1 => (tkS d1 ((stS p_ (sRes 108 x4) fun r0 => K r0)))) (fun d1 ch => (tkS d1 (Kp ch)))) w) w) w) w) w) w) w) w))
theorem lz_finder_piece_s {v0 v1 : Value} : Shp p_ 85 [v0, v1] (lz_finder_piece v0 v1) := shT_ Tryz.call85 Tryz.func85 (an := { drs := [(1, .ofL [(0, 3), (1, 3), (2, 3), (3, 3), (4, 3), (5, 3), (6, 3), (7, 3), (8, 0), (9, 0)])] }) fun _ _ => by kernel_rfl
def inflate_Fixed (Kp : PK) (K : Value -> WP) : WP :=
 opN p_ (sCall (fn 103) [(.slice none 0 0), (.int .i64 144), (.int .i64 8)]) Kp fun x7 =>
 opN p_ (sCall (fn 103) [x7, (.int .i64 112), (.int .i64 9)]) Kp fun x8 =>
 opN p_ (sCall (fn 103) [x8, (.int .i64 24), (.int .i64 7)]) Kp fun x9 =>
 opN p_ (sCall (fn 103) [x9, (.int .i64 8), (.int .i64 8)]) Kp fun x10 =>
 opN p_ (sCall (fn 103) [(.slice none 0 0), (.int .i64 32), (.int .i64 5)]) Kp fun x13 =>
 K (.tuple #[x10, x13])
theorem inflate_Fixed_s  : Shp p_ 86 [] (inflate_Fixed) := sh_ Tryz.call86 Tryz.func86 (an := {}) fun _ _ => by kernel_rfl
def deflate_block_symbols (v0 v1 v2 v3 : Value) (Kp : PK) (K : Value → WP) : WP :=
 opN p_ (sBox 79 v0) Kp fun x4 =>
 opN p_ (sBox 134 v1) Kp fun x5 =>
 opN p_ (sBox 134 v2) Kp fun x6 =>
 opN p_ (sFA 79 x4 0) Kp fun x13 =>
 opN p_ (sLoad 77 x13) Kp fun x14 =>
 opN p_ (sLen #[77] 3 [x14]) Kp fun x15 =>
 loop1 (fun I1 m1 _ y16 =>
 opN p_ (sBin .lss 3 y16 x15) Kp fun x17 =>
 condS x17
 (opN p_ (sIA 77 x14 y16) Kp fun x18 =>
 opN p_ (sLoad 108 x18) Kp fun x19 =>
 opN p_ (sAlloc 108) Kp fun x9 =>
 opN p_ (sStore 108 x9 x19) Kp fun _ =>
 opN p_ (sFA 108 x9 0) Kp fun x20 =>
 opN p_ (sLoad 3 x20) Kp fun x21 =>
 opN p_ (sEq .eql 3 (.tmp 21) (.const (.int .i64 0)) x21 (.int .i64 0)) Kp fun x22 =>
 condS x22
 (opN p_ (sLoad 134 x5) Kp fun x24 =>
 opN p_ (sFA 108 x9 2) Kp fun x25 =>
 opN p_ (sLoad 5 x25) Kp fun x26 =>
 opN p_ (sConv 5 3 x26) Kp fun x27 =>
 opN p_ (sCall v3 [x24, x27, (.int .i64 0), (.int .i64 0)]) Kp fun x28 =>
 opN p_ (sBin .add 3 y16 (.int .i64 1)) Kp fun x55 =>
 next1 I1 m1 x55)
 (opN p_ (sFA 108 x9 0) Kp fun x30 =>
 opN p_ (sLoad 3 x30) Kp fun x31 =>
 opN p_ (sCall (fn 104) [x31]) Kp fun x32 =>
 opN p_ (sExt x32 0) Kp fun x33 =>
 opN p_ (sExt x32 1) Kp fun x34 =>
 opN p_ (sExt x32 2) Kp fun x35 =>
 opN p_ (sLoad 134 x5) Kp fun x37 =>
 opN p_ (sCall v3 [x37, x33, x34, x35]) Kp fun x41 =>
 opN p_ (sFA 108 x9 1) Kp fun x43 =>
 opN p_ (sLoad 3 x43) Kp fun x44 =>
 opN p_ (sCall (fn 105) [x44]) Kp fun x45 =>
 opN p_ (sExt x45 0) Kp fun x46 =>
 opN p_ (sExt x45 1) Kp fun x47 =>
 opN p_ (sExt x45 2) Kp fun x48 =>
 opN p_ (sLoad 134 x6) Kp fun x50 =>
 opN p_ (sCall v3 [x50, x46, x47, x48]) Kp fun x54 =>
 opN p_ (sBin .add 3 y16 (.int .i64 1)) Kp fun x55 =>
 next1 I1 m1 x55))
 (opN p_ (sLoad 134 x5) Kp fun x57 =>
 opN p_ (sCall v3 [x57, (.int .i64 256), (.int .i64 0), (.int .i64 0)]) Kp fun x58 =>
 K (.tuple #[]))) (.int .i64 0)
theorem deflate_block_symbols_s {v0 v1 v2 v3 : Value} : Shp p_ 87 [v0, v1, v2, v3] (deflate_block_symbols v0 v1 v2 v3) := sh_ Tryz.call87 Tryz.func87 (an := { loops := [(2, [16])] }) fun _ _ => by kernel_rfl
def deflate_newSet (v0 : Value) (Kp : PK) (K : Value -> WP) : WP :=
 opN p_ (sAlloc 134) Kp fun x2 =>
 opN p_ (sCall (fn 106) [v0]) Kp fun x7 =>
 opN p_ (sExt x7 0) Kp fun x8 =>
 opN p_ (sExt x7 1) Kp fun x9 =>
 opN p_ (sBuild 134 [(0, v0), (1, x8)]) Kp fun x12 =>
 opN p_ (sStore 134 x2 x12) Kp fun _ =>
 (stS p_ (sRes 134 x2) fun r0 => K r0)
theorem deflate_newSet_s {v0 : Value} : Shp p_ 88 [v0] (deflate_newSet v0) := sh_ Tryz.call88 Tryz.func88 (an := {}) fun _ _ => by kernel_rfl
def deflate_into (v0 : Value) (Kp : PK) (K : Value -> WP) : WP :=
 opN p_ (sBox 73 v0) Kp fun x1 =>
 opN p_ (sMkF (.func 107) [] [x1]) Kp fun x3 =>
 K x3
theorem deflate_into_s {v0 : Value} : Shp p_ 89 [v0] (deflate_into v0) := sh_ Tryz.call89 Tryz.func89 (an := {}) fun _ _ => by kernel_rfl
def deflate_block_own (v0 : Value) (Kp : PK) (K : Value → WP) : WP :=
 opN p_ (sBox 79 v0) Kp fun x1 =>
 opN p_ (sAlloc 134) Kp fun x2 =>
 opN p_ (sAlloc 134) Kp fun x3 =>
 cut1 (fun J1 =>
 drS (andS (opN p_ (sMkSl 129 (.int .i64 286) (.int .i64 286)) Kp fun x9 =>
 andS (opN p_ (sMkSl 129 (.int .i64 30) (.int .i64 30)) Kp fun x10 =>
 stD p_ (sBuild 163 [(0, x9), (1, x10)]) fun D2 x11 =>
 opN p_ (sAlloc 163) Kp fun x4 =>
 (fun w => D2 w ∧ (opN p_ (sStore 163 x4 x11) Kp fun _ =>
 J1 x4) w))
 (opN p_ (sAlloc 163) Kp fun x4 =>
 opN p_ (sMkSl 129 (.int .i64 30) (.int .i64 30)) Kp fun x10 =>
 stS p_ (sBuild 163 [(0, x9), (1, x10)]) fun x11 =>
 opN p_ (sStore 163 x4 x11) Kp fun _ =>
 J1 x4))
 (andS (opN p_ (sMkSl 129 (.int .i64 30) (.int .i64 30)) Kp fun x10 =>
 andS (opN p_ (sMkSl 129 (.int .i64 286) (.int .i64 286)) Kp fun x9 =>
 stD p_ (sBuild 163 [(0, x9), (1, x10)]) fun D2 x11 =>
 opN p_ (sAlloc 163) Kp fun x4 =>
 (fun w => D2 w ∧ (opN p_ (sStore 163 x4 x11) Kp fun _ =>
 J1 x4) w))
 (opN p_ (sAlloc 163) Kp fun x4 =>
 opN p_ (sMkSl 129 (.int .i64 286) (.int .i64 286)) Kp fun x9 =>
 stS p_ (sBuild 163 [(0, x9), (1, x10)]) fun x11 =>
 opN p_ (sStore 163 x4 x11) Kp fun _ =>
 J1 x4))
 (opN p_ (sAlloc 163) Kp fun x4 =>
 andS (opN p_ (sMkSl 129 (.int .i64 286) (.int .i64 286)) Kp fun x9 =>
 opN p_ (sMkSl 129 (.int .i64 30) (.int .i64 30)) Kp fun x10 =>
 stS p_ (sBuild 163 [(0, x9), (1, x10)]) fun x11 =>
 opN p_ (sStore 163 x4 x11) Kp fun _ =>
 J1 x4)
 (opN p_ (sMkSl 129 (.int .i64 30) (.int .i64 30)) Kp fun x10 =>
 opN p_ (sMkSl 129 (.int .i64 286) (.int .i64 286)) Kp fun x9 =>
 stS p_ (sBuild 163 [(0, x9), (1, x10)]) fun x11 =>
 opN p_ (sStore 163 x4 x11) Kp fun _ =>
 J1 x4))))) fun _ z4 =>
 opN p_ (sLoad 79 x1) Kp fun x12 =>
 opN p_ (sIA 163 z4 (.int .i64 0)) Kp fun x13 =>
 opN p_ (sLoad 129 x13) Kp fun x14 =>
 opN p_ (sBuild 134 [(0, x14)]) Kp fun x15 =>
 opN p_ (sIA 163 z4 (.int .i64 1)) Kp fun x16 =>
 opN p_ (sLoad 129 x16) Kp fun x17 =>
 opN p_ (sBuild 134 [(0, x17)]) Kp fun x18 =>
 opN p_ (sCall (fn 87) [x12, x15, x18, (fn 109)]) Kp fun x19 =>
 opN p_ (sIA 163 z4 (.int .i64 0)) Kp fun x21 =>
 opN p_ (sLoad 129 x21) Kp fun x22 =>
 opN p_ (sCall (fn 110) [x22, (.int .i64 15)]) Kp fun x23 =>
 opN p_ (sExt x23 0) Kp fun x24 =>
 opN p_ (sExt x23 1) Kp fun x25 =>
 opN p_ (sIA 163 z4 (.int .i64 1)) Kp fun x27 =>
 opN p_ (sLoad 129 x27) Kp fun x28 =>
 opN p_ (sCall (fn 110) [x28, (.int .i64 15)]) Kp fun x29 =>
 opN p_ (sExt x29 0) Kp fun x30 =>
 opN p_ (sExt x29 1) Kp fun x31 =>
 opN p_ (sCall (fn 88) [x24]) Kp fun x33 =>
 opN p_ (sCall (fn 88) [x30]) Kp fun x35 =>
 opN p_ (sStore 134 x2 x33) Kp fun _ =>
 opN p_ (sStore 134 x3 x35) Kp fun _ =>
 (stS p_ (sRes 134 x2) fun r0 => (stS p_ (sRes 134 x3) fun r1 => K (.tuple #[r0, r1])))
theorem deflate_block_own_s {v0 : Value} : Shp p_ 90 [v0] (deflate_block_own v0) := sh_ Tryz.call90 Tryz.func90 (an := { drs := [(1, (.alt ((.op 0 0 (.alt (.ofL [(1, 0), (2, 3), (3, 0), (4, 0)]) (.ofL [(3, 0), (1, 0), (2, 1), (4, 0)])))) ((.alt ((.op 1 0 (.alt (.ofL [(0, 0), (2, 3), (3, 0), (4, 0)]) (.ofL [(3, 0), (0, 0), (2, 1), (4, 0)])))) ((.op 3 0 (.alt (.ofL [(0, 0), (1, 0), (2, 1), (4, 0)]) (.ofL [(1, 0), (0, 0), (2, 1), (4, 0)]))))))))], rcuts := [(2, [4])] }) fun _ _ => by kernel_rfl
def deflate_head (v0 v1 v2 : Value) (Kp : PK) (K : Value → WP) : WP :=
 opN p_ (sBox 73 v0) Kp fun x3 =>
 opN p_ (sBox 134 v1) Kp fun x4 =>
 opN p_ (sBox 134 v2) Kp fun x5 =>
 drS (stS p_ (sFA 134 x4 0) fun x23 =>
 stS p_ (sLoad 129 x23) fun x24 =>
 stD p_ (sFA 134 x5 0) fun D3 x26 =>
 stD p_ (sLoad 129 x26) fun D4 x27 =>
 opN p_ (sCall (fn 111) [x24, (.int .i64 257)]) Kp fun x25 =>
 (fun w => D4 w ∧ (fun w => D3 w ∧ (opN p_ (sCall (fn 111) [x27, (.int .i64 1)]) Kp fun x28 =>
 drS (stS p_ (sFA 134 x4 0) fun x29 =>
 stS p_ (sLoad 129 x29) fun x30 =>
 stS p_ (sSl 129 x30 none (some x25) none) fun x32 =>
 stD p_ (sFA 134 x5 0) fun D5 x34 =>
 stD p_ (sLoad 129 x34) fun D6 x35 =>
 stD p_ (sSl 129 x35 none (some x28) none) fun D8 x37 =>
 opN p_ (sApp #[129, 129] 129 [(.slice none 0 0), x32]) Kp fun x33 =>
 (fun w => D8 w ∧ (fun w => D6 w ∧ (fun w => D5 w ∧ (opN p_ (sApp #[129, 129] 129 [x33, x37]) Kp fun x38 =>
 opN p_ (sMkSl 129 (.int .i64 19) (.int .i64 19)) Kp fun x39 =>
 opN p_ (sAlloc 129) Kp fun x9 =>
 opN p_ (sStore 129 x9 x39) Kp fun _ =>
 opN p_ (sAlloc 3) Kp fun x10 =>
 opN p_ (sStore 3 x10 (.int .i64 0)) Kp fun _ =>
 opN p_ (sCall (fn 112) [x38]) Kp fun x41 =>
 rfS p_ x41 1 (fun u42 B1 N1 J1r =>
 opN p_ (sAlloc 170) noK fun x11 =>
 opN p_ (sStore 170 x11 u42) noK fun _ =>
 B1 (opN p_ (sLoad 129 x9) noK fun x43 =>
 opN p_ (sFA 170 x11 0) noK fun x44 =>
 opN p_ (sLoad 3 x44) noK fun x45 =>
 opN p_ (sIA 129 x43 x45) noK fun x46 =>
 opN p_ (sLoad 3 x46) noK fun x47 =>
 opN p_ (sBin .add 3 x47 (.int .i64 1)) noK fun x48 =>
 opN p_ (sIA 129 x43 x45) noK fun x49 =>
 opN p_ (sStore 3 x49 x48) noK fun _ =>
 opN p_ (sLoad 129 x9) noK fun x50 =>
 opN p_ (sFA 170 x11 0) noK fun x51 =>
 opN p_ (sLoad 3 x51) noK fun x52 =>
 opN p_ (sIA 129 x50 x52) noK fun x53 =>
 opN p_ (sLoad 3 x53) noK fun x54 =>
 opN p_ (sEq .eql 3 (.tmp 54) (.const (.int .i64 1)) x54 (.int .i64 1)) noK fun x55 =>
 condS x55
 (opN p_ (sLoad 3 x10) noK fun x56 =>
 opN p_ (sBin .add 3 x56 (.int .i64 1)) noK fun x57 =>
 opN p_ (sStore 3 x10 x57) noK fun _ =>
 N1)
 (N1))) (fun d1 =>
 cut0 (fun J1 =>
 opN p_ (sLoad 3 x10) (KpM [d1] Kp) fun x58 =>
 opN p_ (sEq .eql 3 (.tmp 58) (.const (.int .i64 1)) x58 (.int .i64 1)) (KpM [d1] Kp) fun x59 =>
 condS x59
 (cut1 (fun J2 =>
 opN p_ (sLoad 129 x9) (KpM [d1] Kp) fun x60 =>
 opN p_ (sIA 129 x60 (.int .i64 0)) (KpM [d1] Kp) fun x61 =>
 opN p_ (sLoad 3 x61) (KpM [d1] Kp) fun x62 =>
 opN p_ (sBin .gtr 3 x62 (.int .i64 0)) (KpM [d1] Kp) fun x63 =>
 condS x63
 (J2 (.int .i64 1))
 (J2 (.int .i64 0))) fun _ z12 =>
 opN p_ (sLoad 129 x9) (KpM [d1] Kp) fun x64 =>
 opN p_ (sIA 129 x64 z12) (KpM [d1] Kp) fun x66 =>
 opN p_ (sLoad 3 x66) (KpM [d1] Kp) fun x67 =>
 opN p_ (sBin .add 3 x67 (.int .i64 1)) (KpM [d1] Kp) fun x68 =>
 opN p_ (sIA 129 x64 z12) (KpM [d1] Kp) fun x69 =>
 opN p_ (sStore 3 x69 x68) (KpM [d1] Kp) fun _ =>
 J1)
 (J1)) fun _ =>
 opN p_ (sLoad 129 x9) (KpM [d1] Kp) fun x71 =>
 opN p_ (sCall (fn 110) [x71, (.int .i64 7)]) (KpM [d1] Kp) fun x72 =>
 opN p_ (sExt x72 0) (KpM [d1] Kp) fun x73 =>
 opN p_ (sExt x72 1) (KpM [d1] Kp) fun x74 =>
 opN p_ (sCall (fn 88) [x73]) (KpM [d1] Kp) fun x76 =>
 opN p_ (sAlloc 134) (KpM [d1] Kp) fun x15 =>
 opN p_ (sStore 134 x15 x76) (KpM [d1] Kp) fun _ =>
 opN p_ (sBuild 171 [(0, (.int .i64 16)), (1, (.int .i64 17)), (2, (.int .i64 18)), (3, (.int .i64 0)), (4, (.int .i64 8)), (5, (.int .i64 7)), (6, (.int .i64 9)), (7, (.int .i64 6)), (8, (.int .i64 10)), (9, (.int .i64 5)), (10, (.int .i64 11)), (11, (.int .i64 4)), (12, (.int .i64 12)), (13, (.int .i64 3)), (14, (.int .i64 13)), (15, (.int .i64 2)), (16, (.int .i64 14)), (17, (.int .i64 1)), (18, (.int .i64 15))]) (KpM [d1] Kp) fun x77 =>
 loop2 (fun I1 m1 _ y16 y78 =>
 opN p_ (sBin .lss 3 y78 (.int .i64 19)) (KpM [d1] Kp) fun x79 =>
 condS x79
 (opN p_ (sIx 171 x77 y78) (KpM [d1] Kp) fun x80 =>
 opN p_ (sIA 129 x73 x80) (KpM [d1] Kp) fun x84 =>
 opN p_ (sLoad 3 x84) (KpM [d1] Kp) fun x85 =>
 opN p_ (sBuildSl 129 1 [(0, x85)]) (KpM [d1] Kp) fun x86 =>
 opN p_ (sApp #[129, 129] 129 [y16, x86]) (KpM [d1] Kp) fun x87 =>
 opN p_ (sBin .add 3 y78 (.int .i64 1)) (KpM [d1] Kp) fun x88 =>
 next2 I1 m1 x87 x88)
 (opN p_ (sCall (fn 111) [y16, (.int .i64 4)]) (KpM [d1] Kp) fun x90 =>
 opN p_ (sLoad 73 x3) (KpM [d1] Kp) fun x91 =>
 opN p_ (sBin .sub 3 x25 (.int .i64 257)) (KpM [d1] Kp) fun x93 =>
 opN p_ (sCall (fn 51) [x91, x93, (.int .i64 5)]) (KpM [d1] Kp) fun x94 =>
 opN p_ (sLoad 73 x3) (KpM [d1] Kp) fun x95 =>
 opN p_ (sBin .sub 3 x28 (.int .i64 1)) (KpM [d1] Kp) fun x97 =>
 opN p_ (sCall (fn 51) [x95, x97, (.int .i64 5)]) (KpM [d1] Kp) fun x98 =>
 opN p_ (sLoad 73 x3) (KpM [d1] Kp) fun x99 =>
 opN p_ (sBin .sub 3 x90 (.int .i64 4)) (KpM [d1] Kp) fun x101 =>
 opN p_ (sCall (fn 51) [x99, x101, (.int .i64 4)]) (KpM [d1] Kp) fun x102 =>
 opN p_ (sSl 129 y16 none (some x90) none) (KpM [d1] Kp) fun x105 =>
 opN p_ (sLen #[129] 3 [x105]) (KpM [d1] Kp) fun x106 =>
 loop1 (fun I2 m2 _ y107 =>
 opN p_ (sBin .lss 3 y107 x106) (KpM [d1] Kp) fun x108 =>
 condS x108
 (opN p_ (sIA 129 x105 y107) (KpM [d1] Kp) fun x109 =>
 opN p_ (sLoad 3 x109) (KpM [d1] Kp) fun x110 =>
 opN p_ (sLoad 73 x3) (KpM [d1] Kp) fun x111 =>
 opN p_ (sCall (fn 51) [x111, x110, (.int .i64 3)]) (KpM [d1] Kp) fun x113 =>
 opN p_ (sBin .add 3 y107 (.int .i64 1)) (KpM [d1] Kp) fun x114 =>
 next1 I2 m2 x114)
 (opN p_ (sCall (fn 112) [x38]) (KpM [d1] Kp) fun x116 =>
 rfS p_ x116 1 (fun u117 B2 N2 J2r =>
 opN p_ (sAlloc 170) noK fun x22 =>
 opN p_ (sStore 170 x22 u117) noK fun _ =>
 B2 (opN p_ (sLoad 73 x3) noK fun x118 =>
 opN p_ (sFA 134 x15 1) noK fun x119 =>
 opN p_ (sLoad 129 x119) noK fun x120 =>
 opN p_ (sFA 134 x15 0) noK fun x121 =>
 opN p_ (sLoad 129 x121) noK fun x122 =>
 opN p_ (sFA 170 x22 0) noK fun x123 =>
 opN p_ (sLoad 3 x123) noK fun x124 =>
 opN p_ (sCall (fn 108) [x118, x120, x122, x124]) noK fun x125 =>
 opN p_ (sLoad 73 x3) noK fun x126 =>
 opN p_ (sFA 170 x22 2) noK fun x127 =>
 opN p_ (sLoad 3 x127) noK fun x128 =>
 opN p_ (sFA 170 x22 1) noK fun x129 =>
 opN p_ (sLoad 3 x129) noK fun x130 =>
 opN p_ (sCall (fn 51) [x126, x128, x130]) noK fun x131 =>
 N2)) (fun d2 =>
 (tkS d2 (tkS d1 (K (.tuple #[]))))) (fun d2 => (tkS d2 (tkS d1 (K (.tuple #[]))))) (fun d2 ch => (tkS d2 (tkS d1 (Kp ch)))))) (.int .i64 0))) (.slice none 0 0) (.int .i64 0)) (fun d1 => (tkS d1 (K (.tuple #[])))) (fun d1 ch => (tkS d1 (Kp ch)))) w) w) w))) w) w))
theorem deflate_head_s {v0 v1 v2 : Value} : Shp p_ 91 [v0, v1, v2] (deflate_head v0 v1 v2) := shT_ Tryz.call91 Tryz.func91 (an := { cuts := [(14, [12]), (15, [])], loops := [(19, [16, 78]), (28, [107])], drs := [(1, .ofL [(0, 1), (1, 1), (3, 3), (4, 3), (2, 0), (5, 0), (6, 1), (7, 1)]), (2, .ofL [(0, 1), (1, 1), (2, 1), (3, 1), (5, 3), (6, 3), (7, 2), (8, 3), (4, 0), (9, 0), (10, 1)])] }) fun _ _ => by kernel_rfl
def ref04_Pieces (v0 v1 v2 : Value) (Kp : PK) (K : Value → WP) : WP :=
 opN p_ (sBin .lss 3 v1 (.int .i64 1)) Kp fun x12 =>
 gdK x12 false (fun k => k v1) fun x14 =>
 gdK x12 false (opN p_ (sBin .gtr 3 x14 (.int .i64 32768)) Kp) fun x15 =>
 opN p_ (sPick x12 (.bool true) x15) Kp fun x16 =>
 gdK x16 false (fun k => k v2) fun x18 =>
 gdK x16 false (opN p_ (sBin .lss 3 x18 (.int .i64 0)) Kp) fun x19 =>
 opN p_ (sPick x16 (.bool true) x19) Kp fun x20 =>
 gdK x20 false (fun k => k v2) fun x22 =>
 gdK x20 false (opN p_ (sBin .gtr 3 x22 (.int .i64 4096)) Kp) fun x23 =>
 opN p_ (sPick x20 (.bool true) x23) Kp fun x24 =>
 condS x24
 (K (.tuple #[(.slice none 0 0), (.int .i64 1)]))
 (opN p_ (sLen #[22] 3 [v0]) Kp fun x26 =>
 opN p_ (sBin .gtr 3 x26 (.int .i64 1048576)) Kp fun x27 =>
 condS x27
 (K (.tuple #[(.slice none 0 0), (.int .i64 6)]))
 (loop2 (fun I1 m1 _ y8 y9 =>
 opN p_ (sLen #[22] 3 [v0]) Kp fun x30 =>
 opN p_ (sBin .lss 3 y9 x30) Kp fun x31 =>
 condS x31
 (opN p_ (sCall (fn 113) [v0, y9, v1, v2]) Kp fun x36 =>
 opN p_ (sAlloc 118) Kp fun x10 =>
 opN p_ (sStore 118 x10 x36) Kp fun _ =>
 opN p_ (sLoad 118 x10) Kp fun x38 =>
 opN p_ (sBuildSl 90 1 [(0, x38)]) Kp fun x39 =>
 opN p_ (sApp #[90, 90] 90 [y8, x39]) Kp fun x40 =>
 opN p_ (sFA 118 x10 0) Kp fun x42 =>
 opN p_ (sLoad 3 x42) Kp fun x43 =>
 opN p_ (sMax #[3, 3] 3 [(.int .i64 1), x43]) Kp fun x44 =>
 opN p_ (sBin .add 3 y9 x44) Kp fun x45 =>
 next2 I1 m1 x40 x45)
 (K (.tuple #[y8, (.int .i64 0)]))) (.slice none 0 0) (.int .i64 0)))
theorem ref04_Pieces_s {v0 v1 v2 : Value} : Shp p_ 92 [v0, v1, v2] (ref04_Pieces v0 v1 v2) := sh_ Tryz.call92 Tryz.func92 (an := { loops := [(7, [8, 9])] }) fun _ _ => by kernel_rfl
def ref05_Fixed (Kp : PK) (K : Value → WP) : WP :=
 loop2 (fun I1 m1 _ y2 y4 =>
 opN p_ (sBin .lss 3 y4 (.int .i64 288)) Kp fun x8 =>
 condS x8
 (cut1 (fun J1 =>
 opN p_ (sBin .geq 3 y4 (.int .i64 144)) Kp fun x12 =>
 gdK x12 true (fun k => k y4) fun x14 =>
 gdK x12 true (opN p_ (sBin .lss 3 x14 (.int .i64 256)) Kp) fun x15 =>
 opN p_ (sPick x12 x15 (.bool false)) Kp fun x16 =>
 condS x16
 (J1 (.int .i64 9))
 (J1 (.int .i64 8))) fun _ z5 =>
 cut1 (fun J2 =>
 opN p_ (sBin .geq 3 y4 (.int .i64 256)) Kp fun x18 =>
 gdK x18 true (fun k => k y4) fun x20 =>
 gdK x18 true (opN p_ (sBin .lss 3 x20 (.int .i64 280)) Kp) fun x21 =>
 opN p_ (sPick x18 x21 (.bool false)) Kp fun x22 =>
 condS x22
 (J2 (.int .i64 7))
 (J2 z5)) fun _ z5 =>
 opN p_ (sBuildSl 129 1 [(0, z5)]) Kp fun x25 =>
 opN p_ (sApp #[129, 129] 129 [y2, x25]) Kp fun x26 =>
 opN p_ (sBin .add 3 y4 (.int .i64 1)) Kp fun x10 =>
 next2 I1 m1 x26 x10)
 (loop2 (fun I2 m2 _ y3 y6 =>
 opN p_ (sBin .lss 3 y6 (.int .i64 32)) Kp fun x28 =>
 condS x28
 (opN p_ (sBuildSl 129 1 [(0, (.int .i64 5))]) Kp fun x32 =>
 opN p_ (sApp #[129, 129] 129 [y3, x32]) Kp fun x33 =>
 opN p_ (sBin .add 3 y6 (.int .i64 1)) Kp fun x30 =>
 next2 I2 m2 x33 x30)
 (K (.tuple #[y2, y3]))) (.slice none 0 0) (.int .i64 0))) (.slice none 0 0) (.int .i64 0)
theorem ref05_Fixed_s  : Shp p_ 93 [] (ref05_Fixed) := sh_ Tryz.call93 Tryz.func93 (an := { cuts := [(9, [5]), (11, [5])], loops := [(4, [2, 4]), (13, [3, 6])] }) fun _ _ => by kernel_rfl
def ref06_symbols (v0 v1 v2 v3 : Value) (Kp : PK) (K : Value → WP) : WP :=
 opN p_ (sBox 92 v1) Kp fun x5 =>
 opN p_ (sCall (fn 114) [v2]) Kp fun x21 =>
 opN p_ (sExt x21 0) Kp fun x22 =>
 opN p_ (sExt x21 1) Kp fun x23 =>
 opN p_ (sCall (fn 114) [v3]) Kp fun x26 =>
 opN p_ (sExt x26 0) Kp fun x27 =>
 opN p_ (sExt x26 1) Kp fun x28 =>
 loop1 (fun I1 m1 _ y12 =>
 opN p_ (sFA 92 x5 0) Kp fun x30 =>
 opN p_ (sLoad 90 x30) Kp fun x31 =>
 opN p_ (sLen #[90] 3 [x31]) Kp fun x32 =>
 opN p_ (sBin .lss 3 y12 x32) Kp fun x33 =>
 condS x33
 (opN p_ (sFA 92 x5 0) Kp fun x36 =>
 opN p_ (sLoad 90 x36) Kp fun x37 =>
 opN p_ (sIA 90 x37 y12) Kp fun x39 =>
 opN p_ (sFA 118 x39 0) Kp fun x40 =>
 opN p_ (sLoad 3 x40) Kp fun x41 =>
 opN p_ (sEq .eql 3 (.tmp 41) (.const (.int .i64 0)) x41 (.int .i64 0)) Kp fun x42 =>
 condS x42
 (opN p_ (sFA 92 x5 0) Kp fun x46 =>
 opN p_ (sLoad 90 x46) Kp fun x47 =>
 opN p_ (sIA 90 x47 y12) Kp fun x49 =>
 opN p_ (sFA 118 x49 2) Kp fun x50 =>
 opN p_ (sLoad 5 x50) Kp fun x51 =>
 opN p_ (sConv 5 3 x51) Kp fun x52 =>
 opN p_ (sCall (fn 115) [v0, x22, v2, x52]) Kp fun x53 =>
 opN p_ (sBin .add 3 y12 (.int .i64 1)) Kp fun x35 =>
 next1 I1 m1 x35)
 (opN p_ (sFA 92 x5 0) Kp fun x55 =>
 opN p_ (sLoad 90 x55) Kp fun x56 =>
 opN p_ (sIA 90 x56 y12) Kp fun x58 =>
 opN p_ (sFA 118 x58 0) Kp fun x59 =>
 opN p_ (sLoad 3 x59) Kp fun x60 =>
 opN p_ (sCall (fn 116) [x60]) Kp fun x61 =>
 opN p_ (sExt x61 0) Kp fun x62 =>
 opN p_ (sExt x61 1) Kp fun x63 =>
 opN p_ (sExt x61 2) Kp fun x64 =>
 opN p_ (sFA 92 x5 0) Kp fun x66 =>
 opN p_ (sLoad 90 x66) Kp fun x67 =>
 opN p_ (sIA 90 x67 y12) Kp fun x69 =>
 opN p_ (sFA 118 x69 1) Kp fun x70 =>
 opN p_ (sLoad 3 x70) Kp fun x71 =>
 opN p_ (sCall (fn 117) [x71]) Kp fun x72 =>
 opN p_ (sExt x72 0) Kp fun x73 =>
 opN p_ (sExt x72 1) Kp fun x74 =>
 opN p_ (sExt x72 2) Kp fun x75 =>
 opN p_ (sCall (fn 115) [v0, x22, v2, x62]) Kp fun x80 =>
 opN p_ (sCall (fn 56) [v0, x64, x63]) Kp fun x84 =>
 opN p_ (sCall (fn 115) [v0, x27, v3, x73]) Kp fun x89 =>
 opN p_ (sCall (fn 56) [v0, x75, x74]) Kp fun x93 =>
 opN p_ (sBin .add 3 y12 (.int .i64 1)) Kp fun x35 =>
 next1 I1 m1 x35))
 (opN p_ (sCall (fn 115) [v0, x22, v2, (.int .i64 256)]) Kp fun x97 =>
 K (.tuple #[]))) (.int .i64 0)
theorem ref06_symbols_s {v0 v1 v2 v3 : Value} : Shp p_ 94 [v0, v1, v2, v3] (ref06_symbols v0 v1 v2 v3) := sh_ Tryz.call94 Tryz.func94 (an := { loops := [(4, [12])] }) fun _ _ => by kernel_rfl
def ref06_own (v0 : Value) (Kp : PK) (K : Value → WP) : WP :=
 opN p_ (sBox 92 v0) Kp fun x1 =>
 opN p_ (sMkSl 129 (.int .i64 286) (.int .i64 286)) Kp fun x17 =>
 opN p_ (sMkSl 129 (.int .i64 30) (.int .i64 30)) Kp fun x18 =>
 opN p_ (sIA 129 x17 (.int .i64 256)) Kp fun x20 =>
 opN p_ (sStore 3 x20 (.int .i64 1)) Kp fun _ =>
 loop1 (fun I1 m1 _ y6 =>
 opN p_ (sFA 92 x1 0) Kp fun x22 =>
 opN p_ (sLoad 90 x22) Kp fun x23 =>
 opN p_ (sLen #[90] 3 [x23]) Kp fun x24 =>
 opN p_ (sBin .lss 3 y6 x24) Kp fun x25 =>
 condS x25
 (opN p_ (sFA 92 x1 0) Kp fun x28 =>
 opN p_ (sLoad 90 x28) Kp fun x29 =>
 opN p_ (sIA 90 x29 y6) Kp fun x31 =>
 opN p_ (sFA 118 x31 0) Kp fun x32 =>
 opN p_ (sLoad 3 x32) Kp fun x33 =>
 opN p_ (sEq .eql 3 (.tmp 33) (.const (.int .i64 0)) x33 (.int .i64 0)) Kp fun x34 =>
 condS x34
 (opN p_ (sFA 92 x1 0) Kp fun x36 =>
 opN p_ (sLoad 90 x36) Kp fun x37 =>
 opN p_ (sIA 90 x37 y6) Kp fun x39 =>
 opN p_ (sFA 118 x39 2) Kp fun x40 =>
 opN p_ (sLoad 5 x40) Kp fun x41 =>
 opN p_ (sIA 129 x17 x41) Kp fun x42 =>
 opN p_ (sLoad 3 x42) Kp fun x43 =>
 opN p_ (sBin .add 3 x43 (.int .i64 1)) Kp fun x44 =>
 opN p_ (sIA 129 x17 x41) Kp fun x45 =>
 opN p_ (sStore 3 x45 x44) Kp fun _ =>
 opN p_ (sBin .add 3 y6 (.int .i64 1)) Kp fun x27 =>
 next1 I1 m1 x27)
 (opN p_ (sFA 92 x1 0) Kp fun x47 =>
 opN p_ (sLoad 90 x47) Kp fun x48 =>
 opN p_ (sIA 90 x48 y6) Kp fun x50 =>
 opN p_ (sFA 118 x50 0) Kp fun x51 =>
 opN p_ (sLoad 3 x51) Kp fun x52 =>
 opN p_ (sCall (fn 116) [x52]) Kp fun x53 =>
 opN p_ (sExt x53 0) Kp fun x54 =>
 opN p_ (sExt x53 1) Kp fun x55 =>
 opN p_ (sExt x53 2) Kp fun x56 =>
 opN p_ (sFA 92 x1 0) Kp fun x58 =>
 opN p_ (sLoad 90 x58) Kp fun x59 =>
 opN p_ (sIA 90 x59 y6) Kp fun x61 =>
 opN p_ (sFA 118 x61 1) Kp fun x62 =>
 opN p_ (sLoad 3 x62) Kp fun x63 =>
 opN p_ (sCall (fn 117) [x63]) Kp fun x64 =>
 opN p_ (sExt x64 0) Kp fun x65 =>
 opN p_ (sExt x64 1) Kp fun x66 =>
 opN p_ (sExt x64 2) Kp fun x67 =>
 opN p_ (sIA 129 x17 x54) Kp fun x70 =>
 opN p_ (sLoad 3 x70) Kp fun x71 =>
 opN p_ (sBin .add 3 x71 (.int .i64 1)) Kp fun x72 =>
 opN p_ (sIA 129 x17 x54) Kp fun x73 =>
 opN p_ (sStore 3 x73 x72) Kp fun _ =>
 opN p_ (sIA 129 x18 x65) Kp fun x76 =>
 opN p_ (sLoad 3 x76) Kp fun x77 =>
 opN p_ (sBin .add 3 x77 (.int .i64 1)) Kp fun x78 =>
 opN p_ (sIA 129 x18 x65) Kp fun x79 =>
 opN p_ (sStore 3 x79 x78) Kp fun _ =>
 opN p_ (sBin .add 3 y6 (.int .i64 1)) Kp fun x27 =>
 next1 I1 m1 x27))
 (opN p_ (sCall (fn 118) [x17, (.int .i64 15)]) Kp fun x82 =>
 opN p_ (sExt x82 0) Kp fun x83 =>
 opN p_ (sExt x82 1) Kp fun x84 =>
 opN p_ (sCall (fn 118) [x18, (.int .i64 15)]) Kp fun x87 =>
 opN p_ (sExt x87 0) Kp fun x88 =>
 opN p_ (sExt x87 1) Kp fun x89 =>
 K (.tuple #[x83, x88]))) (.int .i64 0)
theorem ref06_own_s {v0 : Value} : Shp p_ 95 [v0] (ref06_own v0) := sh_ Tryz.call95 Tryz.func95 (an := { loops := [(5, [6])] }) fun _ _ => by kernel_rfl
def ref06_head (v0 v1 v2 : Value) (Kp : PK) (K : Value → WP) : WP :=
 opN p_ (sCall (fn 119) [v1, (.int .i64 257)]) Kp fun x23 =>
 opN p_ (sCall (fn 119) [v2, (.int .i64 1)]) Kp fun x25 =>
 drS (stD p_ (sSl 129 v1 none (some x23) none) fun D3 x29 =>
 stD p_ (sSl 129 v2 none (some x25) none) fun D7 x33 =>
 opN p_ (sBuildSl 129 0 []) Kp fun x26 =>
 (fun w => D7 w ∧ (fun w => D3 w ∧ (opN p_ (sApp #[129, 129] 129 [x26, x29]) Kp fun x30 =>
 (fun w => D7 w ∧ (opN p_ (sApp #[129, 129] 129 [x30, x33]) Kp fun x34 =>
 opN p_ (sCall (fn 120) [x34]) Kp fun x35 =>
 opN p_ (sMkSl 129 (.int .i64 19) (.int .i64 19)) Kp fun x36 =>
 loop2 (fun I1 m1 _ y10 y11 =>
 opN p_ (sLen #[177] 3 [x35]) Kp fun x39 =>
 opN p_ (sBin .lss 3 y11 x39) Kp fun x40 =>
 condS x40
 (cut1 (fun J1 =>
 opN p_ (sIA 177 x35 y11) Kp fun x46 =>
 opN p_ (sFA 180 x46 0) Kp fun x47 =>
 opN p_ (sLoad 3 x47) Kp fun x48 =>
 opN p_ (sIA 129 x36 x48) Kp fun x49 =>
 opN p_ (sLoad 3 x49) Kp fun x50 =>
 opN p_ (sEq .eql 3 (.tmp 50) (.const (.int .i64 0)) x50 (.int .i64 0)) Kp fun x51 =>
 condS x51
 (opN p_ (sBin .add 3 y10 (.int .i64 1)) Kp fun x53 =>
 J1 x53)
 (J1 y10)) fun _ z10 =>
 opN p_ (sIA 177 x35 y11) Kp fun x57 =>
 opN p_ (sFA 180 x57 0) Kp fun x58 =>
 opN p_ (sLoad 3 x58) Kp fun x59 =>
 opN p_ (sIA 129 x36 x59) Kp fun x60 =>
 opN p_ (sLoad 3 x60) Kp fun x61 =>
 opN p_ (sBin .add 3 x61 (.int .i64 1)) Kp fun x62 =>
 opN p_ (sIA 129 x36 x59) Kp fun x63 =>
 opN p_ (sStore 3 x63 x62) Kp fun _ =>
 opN p_ (sBin .add 3 y11 (.int .i64 1)) Kp fun x42 =>
 next2 I1 m1 z10 x42)
 (cut0 (fun J2 =>
 opN p_ (sEq .eql 3 (.tmp 64) (.const (.int .i64 1)) y10 (.int .i64 1)) Kp fun x65 =>
 gdK x65 true (fun k => k x36) fun x67 =>
 gdK x65 true (opN p_ (sIA 129 x67 (.int .i64 0)) Kp) fun x68 =>
 gdK x65 true (opN p_ (sLoad 3 x68) Kp) fun x69 =>
 gdK x65 true (opN p_ (sEq .eql 3 (.tmp 69) (.const (.int .i64 0)) x69 (.int .i64 0)) Kp) fun x70 =>
 opN p_ (sPick x65 x70 (.bool false)) Kp fun x71 =>
 condS x71
 (opN p_ (sIA 129 x36 (.int .i64 0)) Kp fun x73 =>
 opN p_ (sStore 3 x73 (.int .i64 1)) Kp fun _ =>
 J2)
 (opN p_ (sEq .eql 3 (.tmp 74) (.const (.int .i64 1)) y10 (.int .i64 1)) Kp fun x75 =>
 condS x75
 (opN p_ (sIA 129 x36 (.int .i64 1)) Kp fun x77 =>
 opN p_ (sStore 3 x77 (.int .i64 1)) Kp fun _ =>
 J2)
 (J2))) fun _ =>
 opN p_ (sCall (fn 118) [x36, (.int .i64 7)]) Kp fun x80 =>
 opN p_ (sExt x80 0) Kp fun x81 =>
 opN p_ (sExt x80 1) Kp fun x82 =>
 opN p_ (sCall (fn 114) [x81]) Kp fun x85 =>
 opN p_ (sExt x85 0) Kp fun x86 =>
 opN p_ (sExt x85 1) Kp fun x87 =>
 opN p_ (sCall (fn 121) []) Kp fun x88 =>
 loop2 (fun I2 m2 _ y17 y18 =>
 opN p_ (sBin .lss 3 y18 (.int .i64 19)) Kp fun x90 =>
 condS x90
 (opN p_ (sIA 129 x88 y18) Kp fun x97 =>
 opN p_ (sLoad 3 x97) Kp fun x98 =>
 opN p_ (sIA 129 x81 x98) Kp fun x99 =>
 opN p_ (sLoad 3 x99) Kp fun x100 =>
 opN p_ (sBuildSl 129 1 [(0, x100)]) Kp fun x101 =>
 opN p_ (sApp #[129, 129] 129 [y17, x101]) Kp fun x102 =>
 opN p_ (sBin .add 3 y18 (.int .i64 1)) Kp fun x92 =>
 next2 I2 m2 x102 x92)
 (opN p_ (sCall (fn 119) [y17, (.int .i64 4)]) Kp fun x104 =>
 opN p_ (sBin .sub 3 x23 (.int .i64 257)) Kp fun x107 =>
 opN p_ (sCall (fn 56) [v0, x107, (.int .i64 5)]) Kp fun x108 =>
 opN p_ (sBin .sub 3 x25 (.int .i64 1)) Kp fun x111 =>
 opN p_ (sCall (fn 56) [v0, x111, (.int .i64 5)]) Kp fun x112 =>
 opN p_ (sBin .sub 3 x104 (.int .i64 4)) Kp fun x115 =>
 opN p_ (sCall (fn 56) [v0, x115, (.int .i64 4)]) Kp fun x116 =>
 loop1 (fun I3 m3 _ y20 =>
 opN p_ (sBin .lss 3 y20 x104) Kp fun x119 =>
 condS x119
 (opN p_ (sIA 129 y17 y20) Kp fun x125 =>
 opN p_ (sLoad 3 x125) Kp fun x126 =>
 opN p_ (sCall (fn 56) [v0, x126, (.int .i64 3)]) Kp fun x127 =>
 opN p_ (sBin .add 3 y20 (.int .i64 1)) Kp fun x121 =>
 next1 I3 m3 x121)
 (loop1 (fun I4 m4 _ y21 =>
 opN p_ (sLen #[177] 3 [x35]) Kp fun x130 =>
 opN p_ (sBin .lss 3 y21 x130) Kp fun x131 =>
 condS x131
 (opN p_ (sIA 177 x35 y21) Kp fun x139 =>
 opN p_ (sFA 180 x139 0) Kp fun x140 =>
 opN p_ (sLoad 3 x140) Kp fun x141 =>
 opN p_ (sCall (fn 115) [v0, x86, x81, x141]) Kp fun x142 =>
 drS (stS p_ (sIA 177 x35 y21) fun x146 =>
 stS p_ (sFA 180 x146 2) fun x147 =>
 stS p_ (sLoad 3 x147) fun x148 =>
 stS p_ (sIA 177 x35 y21) fun x151 =>
 stS p_ (sFA 180 x151 1) fun x152 =>
 stS p_ (sLoad 3 x152) fun x153 =>
 opN p_ (sCall (fn 56) [v0, x148, x153]) Kp fun x154 =>
 opN p_ (sBin .add 3 y21 (.int .i64 1)) Kp fun x133 =>
 next1 I4 m4 x133))
 (K (.tuple #[]))) (.int .i64 0))) (.int .i64 0))) (.slice none 0 0) (.int .i64 0))) (.int .i64 0) (.int .i64 0)) w)) w) w))
theorem ref06_head_s {v0 v1 v2 : Value} : Shp p_ 96 [v0, v1, v2] (ref06_head v0 v1 v2) := sh_ Tryz.call96 Tryz.func96 (an := { cuts := [(10, [10]), (15, [])], loops := [(6, [10, 11]), (20, [17, 18]), (28, [20]), (32, [21])], drs := [(2, .ofL [(1, 2), (2, 2), (3, 3), (5, 2), (6, 2), (7, 3), (0, 0), (4, 0), (8, 0), (9, 0), (10, 1)]), (35, .ofL [(0, 1), (1, 1), (2, 1), (3, 1), (4, 1), (5, 1), (6, 1), (7, 1), (8, 1), (9, 1), (10, 1), (11, 0)])] }) fun _ _ => by kernel_rfl
def lz_finder_candidates (v0 v1 : Value) (Kp : PK) (K : Value -> WP) : WP :=
 opN p_ (sBox 124 v0) Kp fun x2 =>
 opN p_ (sBox 3 v1) Kp fun x3 =>
 opN p_ (sMkF (.func 131) [] [x3, x2]) Kp fun x5 =>
 K x5
theorem lz_finder_candidates_s {v0 v1 : Value} : Shp p_ 101 [v0, v1] (lz_finder_candidates v0 v1) := sh_ Tryz.call101 Tryz.func101 (an := {}) fun _ _ => by kernel_rfl
def lz_finder_length (v0 v1 v2 : Value) (Kp : PK) (K : Value → WP) : WP :=
 loop1 (fun I1 m1 _ y7 =>
 drS (stS p_ (sBin .lss 3 y7 (.int .i64 258)) fun x9 =>
 gdK x9 true (fun k => k v2) fun x11 =>
 gdK x9 true (fun k => k y7) fun x12 =>
 gdK x9 true (stS p_ (sBin .add 3 x11 x12)) fun x13 =>
 gdK x9 true (fun k => k v0) fun x14 =>
 gdK x9 true (stS p_ (sNil x14)) fun x15 =>
 gdK x9 true (stS p_ (sFA 127 x15 0)) fun x16 =>
 gdK x9 true (stS p_ (sLoad 22 x16)) fun x17 =>
 gdK x9 true (stS p_ (sLen #[22] 3 [x17])) fun x18 =>
 gdK x9 true (stS p_ (sBin .lss 3 x13 x18)) fun x19 =>
 stS p_ (sPick x9 x19 (.bool false)) fun x20 =>
 gdK x20 true (fun k => k v0) fun x22 =>
 gdK x20 true (stS p_ (sNil x22)) fun x23 =>
 gdK x20 true (stS p_ (sFA 127 x23 0)) fun x24 =>
 gdK x20 true (stS p_ (sLoad 22 x24)) fun x25 =>
 gdK x20 true (fun k => k v1) fun x26 =>
 gdK x20 true (fun k => k y7) fun x27 =>
 gdK x20 true (stS p_ (sBin .add 3 x26 x27)) fun x28 =>
 gdK x20 true (stS p_ (sIA 22 x25 x28)) fun x29 =>
 gdK x20 true (stS p_ (sLoad 5 x29)) fun x30 =>
 gdK x20 true (fun k => k v0) fun x31 =>
 gdK x20 true (stS p_ (sNil x31)) fun x32 =>
 gdK x20 true (stS p_ (sFA 127 x32 0)) fun x33 =>
 gdK x20 true (stS p_ (sLoad 22 x33)) fun x34 =>
 gdK x20 true (fun k => k v2) fun x35 =>
 gdK x20 true (fun k => k y7) fun x36 =>
 gdK x20 true (stS p_ (sBin .add 3 x35 x36)) fun x37 =>
 gdK x20 true (stS p_ (sIA 22 x34 x37)) fun x38 =>
 gdK x20 true (stS p_ (sLoad 5 x38)) fun x39 =>
 gdK x20 true (stS p_ (sEq .eql 5 (.tmp 30) (.tmp 39) x30 x39)) fun x40 =>
 stS p_ (sPick x20 x40 (.bool false)) fun x41 =>
 condS x41
 (opN p_ (sBin .add 3 y7 (.int .i64 1)) Kp fun x43 =>
 next1 I1 m1 x43)
 (K y7))) (.int .i64 0)
theorem lz_finder_length_s {v0 v1 v2 : Value} : Shp p_ 102 [v0, v1, v2] (lz_finder_length v0 v1 v2) := sh_ Tryz.call102 Tryz.func102 (an := { loops := [(2, [7])], drs := [(2, .ofL [(0, 1), (1, 1), (2, 1), (3, 1), (4, 1), (5, 1), (6, 1), (7, 1), (8, 1), (9, 1), (10, 1), (11, 1), (12, 1), (13, 1), (14, 1), (15, 1), (16, 1), (17, 1), (18, 1), (19, 1), (20, 1), (21, 1), (22, 1), (23, 1), (24, 1), (25, 1), (26, 1), (27, 1), (28, 1), (29, 1), (30, 1), (31, 1), (32, 1), (33, 1)])] }) fun _ _ => by kernel_rfl
def inflate_Fixed_1 (v0 v1 v2 : Value) (Kp : PK) (K : Value → WP) : WP :=
 loop2 (fun I1 m1 _ y0 y8 =>
 opN p_ (sBin .lss 3 y8 v1) Kp fun x9 =>
 condS x9
 (opN p_ (sBuildSl 129 1 [(0, v2)]) Kp fun x12 =>
 opN p_ (sApp #[129, 129] 129 [y0, x12]) Kp fun x13 =>
 opN p_ (sBin .add 3 y8 (.int .i64 1)) Kp fun x14 =>
 next2 I1 m1 x13 x14)
 (K y0)) v0 (.int .i64 0)
theorem inflate_Fixed_1_s {v0 v1 v2 : Value} : Shp p_ 103 [v0, v1, v2] (inflate_Fixed_1 v0 v1 v2) := sh_ Tryz.call103 Tryz.func103 (an := { loops := [(2, [0, 8])] }) fun _ _ => by kernel_rfl
def lz_Length (v0 : Value) (Kp : PK) (K : Value → WP) : WP :=
 opN p_ (sBin .gtr 3 v0 (.int .i64 258)) Kp fun x6 =>
 condS x6
 (K (.tuple #[(.int .i64 (-1)), (.int .i64 0), (.int .i64 0)]))
 (opN p_ (sCall (fn 132) [v0, (.int .i64 257), (.int .i64 285), (fn 133)]) Kp fun x8 =>
 opN p_ (sExt x8 0) Kp fun x9 =>
 opN p_ (sExt x8 1) Kp fun x10 =>
 opN p_ (sExt x8 2) Kp fun x11 =>
 K (.tuple #[x9, x10, x11]))
theorem lz_Length_s {v0 : Value} : Shp p_ 104 [v0] (lz_Length v0) := sh_ Tryz.call104 Tryz.func104 (an := {}) fun _ _ => by kernel_rfl
def lz_Distance (v0 : Value) (Kp : PK) (K : Value → WP) : WP :=
 opN p_ (sBin .gtr 3 v0 (.int .i64 32768)) Kp fun x6 =>
 condS x6
 (K (.tuple #[(.int .i64 (-1)), (.int .i64 0), (.int .i64 0)]))
 (opN p_ (sCall (fn 132) [v0, (.int .i64 0), (.int .i64 29), (fn 134)]) Kp fun x8 =>
 opN p_ (sExt x8 0) Kp fun x9 =>
 opN p_ (sExt x8 1) Kp fun x10 =>
 opN p_ (sExt x8 2) Kp fun x11 =>
 K (.tuple #[x9, x10, x11]))
theorem lz_Distance_s {v0 : Value} : Shp p_ 105 [v0] (lz_Distance v0) := sh_ Tryz.call105 Tryz.func105 (an := {}) fun _ _ => by kernel_rfl
def huff_Codes (v0 : Value) (Kp : PK) (K : Value → WP) : WP :=
 opN p_ (sCall (fn 135) [v0]) Kp fun x13 =>
 opN p_ (sExt x13 0) Kp fun x14 =>
 opN p_ (sExt x13 1) Kp fun x15 =>
 opN p_ (sAlloc 194) Kp fun x4 =>
 opN p_ (sStore 194 x4 x14) Kp fun _ =>
 opN p_ (sUn .not x15) Kp fun x17 =>
 condS x17
 (K (.tuple #[(.slice none 0 0), (.int .i64 30)]))
 (opN p_ (sIA 194 x4 (.int .i64 0)) Kp fun x18 =>
 opN p_ (sStore 3 x18 (.int .i64 0)) Kp fun _ =>
 opN p_ (sAlloc 194) Kp fun x6 =>
 loop1 (fun I1 m1 _ y7 =>
 opN p_ (sBin .leq 3 y7 (.int .i64 15)) Kp fun x20 =>
 condS x20
 (drS (stS p_ (sBin .sub 3 y7 (.int .i64 1)) fun x25 =>
 stS p_ (sIA 194 x6 x25) fun x26 =>
 stS p_ (sLoad 3 x26) fun x27 =>
 stS p_ (sBin .sub 3 y7 (.int .i64 1)) fun x29 =>
 stS p_ (sIA 194 x4 x29) fun x30 =>
 stS p_ (sLoad 3 x30) fun x31 =>
 stS p_ (sBin .add 3 x27 x31) fun x32 =>
 stS p_ (sBin .shl 3 x32 (.int .u64 1)) fun x33 =>
 stS p_ (sIA 194 x6 y7) fun x34 =>
 opN p_ (sStore 3 x34 x33) Kp fun _ =>
 opN p_ (sBin .add 3 y7 (.int .i64 1)) Kp fun x22 =>
 next1 I1 m1 x22))
 (opN p_ (sLen #[129] 3 [v0]) Kp fun x36 =>
 opN p_ (sMkSl 129 x36 x36) Kp fun x37 =>
 opN p_ (sLen #[129] 3 [v0]) Kp fun x39 =>
 loop1 (fun I2 m2 _ y40 =>
 opN p_ (sBin .lss 3 y40 x39) Kp fun x41 =>
 condS x41
 (opN p_ (sIA 129 v0 y40) Kp fun x43 =>
 opN p_ (sLoad 3 x43) Kp fun x44 =>
 opN p_ (sBin .gtr 3 x44 (.int .i64 0)) Kp fun x46 =>
 condS x46
 (opN p_ (sIA 194 x6 x44) Kp fun x50 =>
 opN p_ (sLoad 3 x50) Kp fun x51 =>
 opN p_ (sIA 129 x37 y40) Kp fun x52 =>
 opN p_ (sStore 3 x52 x51) Kp fun _ =>
 opN p_ (sIA 194 x6 x44) Kp fun x54 =>
 opN p_ (sLoad 3 x54) Kp fun x55 =>
 opN p_ (sBin .add 3 x55 (.int .i64 1)) Kp fun x56 =>
 opN p_ (sIA 194 x6 x44) Kp fun x57 =>
 opN p_ (sStore 3 x57 x56) Kp fun _ =>
 opN p_ (sBin .add 3 y40 (.int .i64 1)) Kp fun x58 =>
 next1 I2 m2 x58)
 (opN p_ (sBin .add 3 y40 (.int .i64 1)) Kp fun x58 =>
 next1 I2 m2 x58))
 (K (.tuple #[x37, (.int .i64 0)]))) (.int .i64 0))) (.int .i64 1))
theorem huff_Codes_s {v0 : Value} : Shp p_ 106 [v0] (huff_Codes v0) := sh_ Tryz.call106 Tryz.func106 (an := { loops := [(7, [7]), (12, [40])], drs := [(9, .ofL [(0, 1), (1, 1), (2, 1), (3, 1), (4, 1), (5, 1), (6, 1), (7, 1), (8, 1), (9, 1), (10, 1), (11, 1), (12, 0)])] }) fun _ _ => by kernel_rfl
def deflate_into_1 (v0 v1 v2 v3 v4 : Value) (Kp : PK) (K : Value -> WP) : WP :=
 opN p_ (sBox 134 v0) Kp fun x5 =>
 opN p_ (sLoad 73 v4) Kp fun x9 =>
 opN p_ (sFA 134 x5 1) Kp fun x10 =>
 opN p_ (sLoad 129 x10) Kp fun x11 =>
 opN p_ (sFA 134 x5 0) Kp fun x12 =>
 opN p_ (sLoad 129 x12) Kp fun x13 =>
 opN p_ (sCall (fn 108) [x9, x11, x13, v1]) Kp fun x15 =>
 opN p_ (sLoad 73 v4) Kp fun x16 =>
 opN p_ (sCall (fn 51) [x16, v3, v2]) Kp fun x19 =>
 K (.tuple #[])
theorem deflate_into_1_s {v0 v1 v2 v3 v4 : Value} : Shp p_ 107 [v0, v1, v2, v3, v4] (deflate_into_1 v0 v1 v2 v3 v4) := sh_ Tryz.call107 Tryz.func107 (an := {}) fun _ _ => by kernel_rfl
def huff_Put (v0 v1 v2 v3 : Value) (Kp : PK) (K : Value → WP) : WP :=
 opN p_ (sBin .lss 3 v3 (.int .i64 0)) Kp fun x12 =>
 gdK x12 false (fun k => k v3) fun x14 =>
 gdK x12 false (fun k => k v1) fun x15 =>
 gdK x12 false (opN p_ (sLen #[129] 3 [x15]) Kp) fun x16 =>
 gdK x12 false (fun k => k v2) fun x17 =>
 gdK x12 false (opN p_ (sLen #[129] 3 [x17]) Kp) fun x18 =>
 gdK x12 false (opN p_ (sMin #[3, 3] 3 [x16, x18]) Kp) fun x19 =>
 gdK x12 false (opN p_ (sBin .geq 3 x14 x19) Kp) fun x20 =>
 opN p_ (sPick x12 (.bool true) x20) Kp fun x21 =>
 condS x21
 (K (.int .i64 1))
 (drS (stS p_ (sIA 129 v1 v3) fun x24 =>
 stS p_ (sLoad 3 x24) fun x25 =>
 stS p_ (sIA 129 v2 v3) fun x28 =>
 stS p_ (sLoad 3 x28) fun x29 =>
 opN p_ (sBin .lss 3 x29 (.int .i64 1)) Kp fun x31 =>
 gdK x31 false (fun k => k x29) fun x33 =>
 gdK x31 false (opN p_ (sBin .gtr 3 x33 (.int .i64 15)) Kp) fun x34 =>
 opN p_ (sPick x31 (.bool true) x34) Kp fun x35 =>
 gdK x35 false (fun k => k x25) fun x37 =>
 gdK x35 false (opN p_ (sBin .lss 3 x37 (.int .i64 0)) Kp) fun x38 =>
 opN p_ (sPick x35 (.bool true) x38) Kp fun x39 =>
 gdK x39 false (fun k => k x25) fun x41 =>
 gdK x39 false (fun k => k x29) fun x42 =>
 gdK x39 false (opN p_ (sConv 3 55 x42) Kp) fun x43 =>
 gdK x39 false (opN p_ (sBin .shl 3 (.int .i64 1) x43) Kp) fun x44 =>
 gdK x39 false (opN p_ (sBin .geq 3 x41 x44) Kp) fun x45 =>
 opN p_ (sPick x39 (.bool true) x45) Kp fun x46 =>
 condS x46
 (K (.int .i64 1))
 (opN p_ (sCall (fn 136) [x25, x29]) Kp fun x50 =>
 opN p_ (sCall (fn 51) [v0, x50, x29]) Kp fun x52 =>
 K x52)))
theorem huff_Put_s {v0 v1 v2 v3 : Value} : Shp p_ 108 [v0, v1, v2, v3] (huff_Put v0 v1 v2 v3) := sh_ Tryz.call108 Tryz.func108 (an := { drs := [(3, .ofL [(0, 1), (1, 1), (2, 1), (3, 1), (4, 1), (5, 1), (6, 1), (7, 1), (8, 1), (9, 1)])] }) fun _ _ => by kernel_rfl
def deflate_block_own_1 (v0 v1 v2 v3 : Value) (Kp : PK) (K : Value -> WP) : WP :=
 opN p_ (sBox 134 v0) Kp fun x4 =>
 opN p_ (sFA 134 x4 0) Kp fun x8 =>
 opN p_ (sLoad 129 x8) Kp fun x9 =>
 opN p_ (sIA 129 x9 v1) Kp fun x11 =>
 opN p_ (sLoad 3 x11) Kp fun x12 =>
 opN p_ (sBin .add 3 x12 (.int .i64 1)) Kp fun x13 =>
 opN p_ (sIA 129 x9 v1) Kp fun x14 =>
 opN p_ (sStore 3 x14 x13) Kp fun _ =>
 K (.tuple #[])
theorem deflate_block_own_1_s {v0 v1 v2 v3 : Value} : Shp p_ 109 [v0, v1, v2, v3] (deflate_block_own_1 v0 v1 v2 v3) := sh_ Tryz.call109 Tryz.func109 (an := {}) fun _ _ => by kernel_rfl
def huff_Lengths (v0 v1 : Value) (Kp : PK) (K : Value → WP) : WP :=
 opN p_ (sLen #[129] 3 [v0]) Kp fun x18 =>
 opN p_ (sBin .gtr 3 x18 (.int .i64 320)) Kp fun x19 =>
 gdK x19 false (fun k => k v1) fun x21 =>
 gdK x19 false (opN p_ (sBin .lss 3 x21 (.int .i64 1)) Kp) fun x22 =>
 opN p_ (sPick x19 (.bool true) x22) Kp fun x23 =>
 gdK x23 false (fun k => k v1) fun x25 =>
 gdK x23 false (opN p_ (sBin .gtr 3 x25 (.int .i64 15)) Kp) fun x26 =>
 opN p_ (sPick x23 (.bool true) x26) Kp fun x27 =>
 condS x27
 (K (.tuple #[(.slice none 0 0), (.int .i64 1)]))
 (opN p_ (sLen #[129] 3 [v0]) Kp fun x29 =>
 loop2 (fun I1 m1 _ y6 y30 =>
 opN p_ (sBin .lss 3 y30 x29) Kp fun x31 =>
 condS x31
 (opN p_ (sIA 129 v0 y30) Kp fun x33 =>
 opN p_ (sLoad 3 x33) Kp fun x34 =>
 opN p_ (sBin .lss 3 x34 (.int .i64 0)) Kp fun x36 =>
 gdK x36 false (fun k => k x34) fun x38 =>
 gdK x36 false (opN p_ (sBin .gtr 3 x38 (.int .i64 1099511627776)) Kp) fun x39 =>
 opN p_ (sPick x36 (.bool true) x39) Kp fun x40 =>
 condS x40
 (K (.tuple #[(.slice none 0 0), (.int .i64 1)]))
 (opN p_ (sBin .gtr 3 x34 (.int .i64 0)) Kp fun x42 =>
 condS x42
 (opN p_ (sBuildSl 129 1 [(0, y30)]) Kp fun x46 =>
 opN p_ (sBuild 199 [(0, x34), (1, x46)]) Kp fun x47 =>
 opN p_ (sBuildSl 197 1 [(0, x47)]) Kp fun x48 =>
 opN p_ (sApp #[197, 197] 197 [y6, x48]) Kp fun x49 =>
 opN p_ (sBin .add 3 y30 (.int .i64 1)) Kp fun x50 =>
 next2 I1 m1 x49 x50)
 (opN p_ (sBin .add 3 y30 (.int .i64 1)) Kp fun x50 =>
 next2 I1 m1 y6 x50)))
 (opN p_ (sLen #[197] 3 [y6]) Kp fun x52 =>
 opN p_ (sConv 3 55 v1) Kp fun x55 =>
 opN p_ (sBin .shl 3 (.int .i64 1) x55) Kp fun x56 =>
 opN p_ (sBin .gtr 3 x52 x56) Kp fun x57 =>
 condS x57
 (K (.tuple #[(.slice none 0 0), (.int .i64 1)]))
 (opN p_ (sLen #[129] 3 [v0]) Kp fun x59 =>
 opN p_ (sMkSl 129 x59 x59) Kp fun x60 =>
 opN p_ (sEq .eql 3 (.tmp 61) (.const (.int .i64 1)) x52 (.int .i64 1)) Kp fun x62 =>
 condS x62
 (opN p_ (sIA 197 y6 (.int .i64 0)) Kp fun x65 =>
 opN p_ (sFA 199 x65 1) Kp fun x66 =>
 opN p_ (sLoad 129 x66) Kp fun x67 =>
 opN p_ (sIA 129 x67 (.int .i64 0)) Kp fun x68 =>
 opN p_ (sLoad 3 x68) Kp fun x69 =>
 opN p_ (sIA 129 x60 x69) Kp fun x70 =>
 opN p_ (sStore 3 x70 (.int .i64 1)) Kp fun _ =>
 K (.tuple #[x60, (.int .i64 0)]))
 (opN p_ (sCall (fn 137) [y6, (fn 138)]) Kp fun x73 =>
 opN p_ (sBin .sub 3 v1 (.int .i64 1)) Kp fun x76 =>
 loop2 (fun I2 m2 _ y11 y77 =>
 opN p_ (sBin .lss 3 y77 x76) Kp fun x78 =>
 condS x78
 (loop2 (fun I3 m3 _ y12 y13 =>
 opN p_ (sBin .add 3 y13 (.int .i64 1)) Kp fun x80 =>
 opN p_ (sLen #[197] 3 [y11]) Kp fun x82 =>
 opN p_ (sBin .lss 3 x80 x82) Kp fun x83 =>
 condS x83
 (drS (stD p_ (sIA 197 y11 y13) fun D3 x89 =>
 stD p_ (sFA 199 x89 0) fun D4 x90 =>
 stD p_ (sLoad 3 x90) fun D5 x91 =>
 stD p_ (sBin .add 3 y13 (.int .i64 1)) fun D8 x94 =>
 stD p_ (sIA 197 y11 x94) fun D9 x95 =>
 stD p_ (sFA 199 x95 0) fun D10 x96 =>
 stD p_ (sLoad 3 x96) fun D11 x97 =>
 stD p_ (sBin .add 3 x91 x97) fun D12 x98 =>
 stS p_ (sIA 197 y11 y13) fun x101 =>
 stS p_ (sFA 199 x101 1) fun x102 =>
 stS p_ (sLoad 129 x102) fun x103 =>
 stS p_ (sBin .add 3 y13 (.int .i64 1)) fun x106 =>
 stS p_ (sIA 197 y11 x106) fun x107 =>
 stS p_ (sFA 199 x107 1) fun x108 =>
 stS p_ (sLoad 129 x108) fun x109 =>
 opN p_ (sBuildSl 228 2 [(0, x103), (1, x109)]) Kp fun x110 =>
 (fun w => D12 w ∧ (fun w => D11 w ∧ (fun w => D10 w ∧ (fun w => D9 w ∧ (fun w => D8 w ∧ (fun w => D5 w ∧ (fun w => D4 w ∧ (fun w => D3 w ∧ (opN p_ (sCall (fn 140) [x110]) Kp fun x111 =>
 (fun w => D12 w ∧ (fun w => D11 w ∧ (fun w => D10 w ∧ (fun w => D9 w ∧ (fun w => D8 w ∧ (fun w => D5 w ∧ (fun w => D4 w ∧ (fun w => D3 w ∧ (stS p_ (sBuild 199 [(0, x98), (1, x111)]) fun x112 =>
 opN p_ (sBuildSl 197 1 [(0, x112)]) Kp fun x113 =>
 opN p_ (sApp #[197, 197] 197 [y12, x113]) Kp fun x114 =>
 opN p_ (sBin .add 3 y13 (.int .i64 2)) Kp fun x85 =>
 next2 I3 m3 x114 x85) w) w) w) w) w) w) w) w)) w) w) w) w) w) w) w) w)))
 (opN p_ (sCall (fn 141) [y6, y12]) Kp fun x117 =>
 opN p_ (sBin .add 3 y77 (.int .i64 1)) Kp fun x118 =>
 next2 I2 m2 x117 x118)) (.slice none 0 0) (.int .i64 0))
 (loop1 (fun I4 m4 _ y14 =>
 opN p_ (sBin .mul 3 (.int .i64 2) x52) Kp fun x121 =>
 opN p_ (sBin .sub 3 x121 (.int .i64 2)) Kp fun x122 =>
 opN p_ (sBin .lss 3 y14 x122) Kp fun x123 =>
 condS x123
 (opN p_ (sIA 197 y11 y14) Kp fun x128 =>
 opN p_ (sFA 199 x128 1) Kp fun x129 =>
 opN p_ (sLoad 129 x129) Kp fun x130 =>
 opN p_ (sLen #[129] 3 [x130]) Kp fun x131 =>
 loop1 (fun I5 m5 _ y132 =>
 opN p_ (sBin .lss 3 y132 x131) Kp fun x133 =>
 condS x133
 (opN p_ (sIA 129 x130 y132) Kp fun x134 =>
 opN p_ (sLoad 3 x134) Kp fun x135 =>
 opN p_ (sIA 129 x60 x135) Kp fun x138 =>
 opN p_ (sLoad 3 x138) Kp fun x139 =>
 opN p_ (sBin .add 3 x139 (.int .i64 1)) Kp fun x140 =>
 opN p_ (sIA 129 x60 x135) Kp fun x141 =>
 opN p_ (sStore 3 x141 x140) Kp fun _ =>
 opN p_ (sBin .add 3 y132 (.int .i64 1)) Kp fun x142 =>
 next1 I5 m5 x142)
 (opN p_ (sBin .add 3 y14 (.int .i64 1)) Kp fun x125 =>
 next1 I4 m4 x125)) (.int .i64 0))
 (K (.tuple #[x60, (.int .i64 0)]))) (.int .i64 0))) y6 (.int .i64 0))))) (.slice none 0 0) (.int .i64 0))
theorem huff_Lengths_s {v0 v1 : Value} : Shp p_ 110 [v0, v1] (huff_Lengths v0 v1) := sh_ Tryz.call110 Tryz.func110 (an := { loops := [(5, [6, 30]), (22, [11, 77]), (25, [12, 13]), (31, [14]), (34, [132])], drs := [(27, .ofL [(0, 2), (1, 2), (2, 2), (3, 3), (4, 3), (5, 3), (6, 2), (7, 2), (8, 3), (9, 3), (10, 3), (11, 3), (12, 3), (13, 1), (14, 1), (15, 1), (16, 1), (17, 1), (18, 1), (19, 1), (20, 1), (21, 1), (22, 1), (23, 1), (24, 0), (25, 0), (26, 1), (27, 0), (28, 0), (29, 1)])] }) fun _ _ => by kernel_rfl
def deflate_upto (v0 v1 : Value) (Kp : PK) (K : Value → WP) : WP :=
 opN p_ (sLen #[129] 3 [v0]) Kp fun x7 =>
 loop1 (fun I1 m1 _ y5 =>
 opN p_ (sBin .gtr 3 y5 v1) Kp fun x10 =>
 gdK x10 true (fun k => k v0) fun x12 =>
 gdK x10 true (fun k => k y5) fun x13 =>
 gdK x10 true (opN p_ (sBin .sub 3 x13 (.int .i64 1)) Kp) fun x14 =>
 gdK x10 true (opN p_ (sIA 129 x12 x14) Kp) fun x15 =>
 gdK x10 true (opN p_ (sLoad 3 x15) Kp) fun x16 =>
 gdK x10 true (opN p_ (sEq .eql 3 (.tmp 16) (.const (.int .i64 0)) x16 (.int .i64 0)) Kp) fun x17 =>
 opN p_ (sPick x10 x17 (.bool false)) Kp fun x18 =>
 condS x18
 (opN p_ (sBin .sub 3 y5 (.int .i64 1)) Kp fun x20 =>
 next1 I1 m1 x20)
 (K y5)) x7
theorem deflate_upto_s {v0 v1 : Value} : Shp p_ 111 [v0, v1] (deflate_upto v0 v1) := sh_ Tryz.call111 Tryz.func111 (an := { loops := [(2, [5])] }) fun _ _ => by kernel_rfl
def deflate_runs (v0 : Value) (Kp : PK) (K : Value -> WP) : WP :=
 opN p_ (sBox 129 v0) Kp fun x1 =>
 opN p_ (sMkF (.func 142) [] [x1]) Kp fun x3 =>
 K x3
theorem deflate_runs_s {v0 : Value} : Shp p_ 112 [v0] (deflate_runs v0) := sh_ Tryz.call112 Tryz.func112 (an := {}) fun _ _ => by kernel_rfl
def ref04_at (v0 v1 v2 v3 : Value) (Kp : PK) (K : Value → WP) : WP :=
 opN p_ (sAlloc 118) Kp fun x8 =>
 opN p_ (sIA 22 v0 v1) Kp fun x14 =>
 opN p_ (sLoad 5 x14) Kp fun x15 =>
 opN p_ (sBuild 118 [(2, x15)]) Kp fun x16 =>
 opN p_ (sAlloc 118) Kp fun x9 =>
 opN p_ (sStore 118 x9 x16) Kp fun _ =>
 opN p_ (sBin .sub 3 v1 (.int .i64 1)) Kp fun x18 =>
 loop2 (fun I1 m1 _ y3 y10 =>
 opN p_ (sBin .geq 3 y10 (.int .i64 0)) Kp fun x20 =>
 gdK x20 true (fun k => k v1) fun x22 =>
 gdK x20 true (fun k => k y10) fun x23 =>
 gdK x20 true (opN p_ (sBin .sub 3 x22 x23) Kp) fun x24 =>
 gdK x20 true (fun k => k v2) fun x25 =>
 gdK x20 true (opN p_ (sBin .leq 3 x24 x25) Kp) fun x26 =>
 opN p_ (sPick x20 x26 (.bool false)) Kp fun x27 =>
 gdK x27 true (fun k => k y3) fun x29 =>
 gdK x27 true (opN p_ (sBin .gtr 3 x29 (.int .i64 0)) Kp) fun x30 =>
 opN p_ (sPick x27 x30 (.bool false)) Kp fun x31 =>
 condS x31
 (opN p_ (sCall (fn 143) [v0, y10, v1]) Kp fun x37 =>
 opN p_ (sBin .lss 3 x37 (.int .i64 3)) Kp fun x39 =>
 condS x39
 (opN p_ (sBin .sub 3 y10 (.int .i64 1)) Kp fun x33 =>
 next2 I1 m1 y3 x33)
 (opN p_ (sBin .sub 3 y3 (.int .i64 1)) Kp fun x41 =>
 opN p_ (sFA 118 x9 0) Kp fun x43 =>
 opN p_ (sLoad 3 x43) Kp fun x44 =>
 opN p_ (sBin .gtr 3 x37 x44) Kp fun x45 =>
 condS x45
 (opN p_ (sBin .sub 3 v1 y10) Kp fun x49 =>
 opN p_ (sBuild 118 [(0, x37), (1, x49)]) Kp fun x50 =>
 opN p_ (sStore 118 x9 x50) Kp fun _ =>
 opN p_ (sBin .sub 3 y10 (.int .i64 1)) Kp fun x33 =>
 next2 I1 m1 x41 x33)
 (opN p_ (sBin .sub 3 y10 (.int .i64 1)) Kp fun x33 =>
 next2 I1 m1 x41 x33)))
 (opN p_ (sLoad 118 x9) Kp fun x51 =>
 opN p_ (sStore 118 x8 x51) Kp fun _ =>
 (stS p_ (sRes 118 x8) fun r0 => K r0))) v3 x18
theorem ref04_at_s {v0 v1 v2 v3 : Value} : Shp p_ 113 [v0, v1, v2, v3] (ref04_at v0 v1 v2 v3) := sh_ Tryz.call113 Tryz.func113 (an := { loops := [(3, [3, 10])] }) fun _ _ => by kernel_rfl
def ref03_Codes (v0 : Value) (Kp : PK) (K : Value → WP) : WP :=
 opN p_ (sCall (fn 144) [v0]) Kp fun x13 =>
 opN p_ (sExt x13 0) Kp fun x14 =>
 opN p_ (sExt x13 1) Kp fun x15 =>
 opN p_ (sUn .not x15) Kp fun x17 =>
 condS x17
 (K (.tuple #[(.slice none 0 0), (.int .i64 30)]))
 (opN p_ (sLen #[129] 3 [v0]) Kp fun x19 =>
 opN p_ (sMkSl 129 x19 x19) Kp fun x20 =>
 loop3 (fun I1 m1 _ y7 y8 y9 =>
 opN p_ (sBin .leq 3 y9 (.int .i64 15)) Kp fun x22 =>
 condS x22
 (loop3 (fun I2 m2 _ y7 y8 y10 =>
 opN p_ (sLen #[129] 3 [v0]) Kp fun x27 =>
 opN p_ (sBin .lss 3 y10 x27) Kp fun x28 =>
 condS x28
 (opN p_ (sIA 129 v0 y10) Kp fun x33 =>
 opN p_ (sLoad 3 x33) Kp fun x34 =>
 opN p_ (sEq .neq 3 (.tmp 34) (.tmp 35) x34 y9) Kp fun x36 =>
 condS x36
 (opN p_ (sBin .add 3 y10 (.int .i64 1)) Kp fun x30 =>
 next3 I2 m2 y7 y8 x30)
 (cut1 (fun J1 =>
 opN p_ (sBin .gtr 3 y8 (.int .i64 0)) Kp fun x38 =>
 condS x38
 (opN p_ (sBin .add 3 y7 (.int .i64 1)) Kp fun x40 =>
 opN p_ (sBin .sub 3 y9 y8) Kp fun x43 =>
 opN p_ (sConv 3 55 x43) Kp fun x44 =>
 opN p_ (sBin .shl 3 x40 x44) Kp fun x45 =>
 J1 x45)
 (J1 y7)) fun _ z7 =>
 opN p_ (sIA 129 x20 y10) Kp fun x49 =>
 opN p_ (sStore 3 x49 z7) Kp fun _ =>
 opN p_ (sBin .add 3 y10 (.int .i64 1)) Kp fun x30 =>
 next3 I2 m2 z7 y9 x30))
 (opN p_ (sBin .add 3 y9 (.int .i64 1)) Kp fun x24 =>
 next3 I1 m1 y7 y8 x24)) y7 y8 (.int .i64 0))
 (K (.tuple #[x20, (.int .i64 0)]))) (.int .i64 0) (.int .i64 0) (.int .i64 1))
theorem ref03_Codes_s {v0 : Value} : Shp p_ 114 [v0] (ref03_Codes v0) := sh_ Tryz.call114 Tryz.func114 (an := { cuts := [(16, [7])], loops := [(8, [7, 8, 9]), (11, [7, 8, 10])] }) fun _ _ => by kernel_rfl
def ref03_Put (v0 v1 v2 v3 : Value) (Kp : PK) (K : Value → WP) : WP :=
 opN p_ (sBin .lss 3 v3 (.int .i64 0)) Kp fun x11 =>
 gdK x11 false (fun k => k v3) fun x13 =>
 gdK x11 false (fun k => k v1) fun x14 =>
 gdK x11 false (opN p_ (sLen #[129] 3 [x14]) Kp) fun x15 =>
 gdK x11 false (opN p_ (sBin .geq 3 x13 x15) Kp) fun x16 =>
 opN p_ (sPick x11 (.bool true) x16) Kp fun x17 =>
 gdK x17 false (fun k => k v3) fun x19 =>
 gdK x17 false (fun k => k v2) fun x20 =>
 gdK x17 false (opN p_ (sLen #[129] 3 [x20]) Kp) fun x21 =>
 gdK x17 false (opN p_ (sBin .geq 3 x19 x21) Kp) fun x22 =>
 opN p_ (sPick x17 (.bool true) x22) Kp fun x23 =>
 condS x23
 (K (.int .i64 1))
 (opN p_ (sIA 129 v2 v3) Kp fun x26 =>
 opN p_ (sLoad 3 x26) Kp fun x27 =>
 opN p_ (sBin .lss 3 x27 (.int .i64 1)) Kp fun x29 =>
 gdK x29 false (fun k => k x27) fun x31 =>
 gdK x29 false (opN p_ (sBin .gtr 3 x31 (.int .i64 15)) Kp) fun x32 =>
 opN p_ (sPick x29 (.bool true) x32) Kp fun x33 =>
 gdK x33 false (fun k => k v1) fun x35 =>
 gdK x33 false (fun k => k v3) fun x36 =>
 gdK x33 false (opN p_ (sIA 129 x35 x36) Kp) fun x37 =>
 gdK x33 false (opN p_ (sLoad 3 x37) Kp) fun x38 =>
 gdK x33 false (opN p_ (sBin .lss 3 x38 (.int .i64 0)) Kp) fun x39 =>
 opN p_ (sPick x33 (.bool true) x39) Kp fun x40 =>
 gdK x40 false (fun k => k v1) fun x42 =>
 gdK x40 false (fun k => k v3) fun x43 =>
 gdK x40 false (opN p_ (sIA 129 x42 x43) Kp) fun x44 =>
 gdK x40 false (opN p_ (sLoad 3 x44) Kp) fun x45 =>
 gdK x40 false (fun k => k x27) fun x46 =>
 gdK x40 false (opN p_ (sConv 3 55 x46) Kp) fun x47 =>
 gdK x40 false (opN p_ (sBin .shl 3 (.int .i64 1) x47) Kp) fun x48 =>
 gdK x40 false (opN p_ (sBin .geq 3 x45 x48) Kp) fun x49 =>
 opN p_ (sPick x40 (.bool true) x49) Kp fun x50 =>
 condS x50
 (K (.int .i64 1))
 (opN p_ (sIA 129 v1 v3) Kp fun x54 =>
 opN p_ (sLoad 3 x54) Kp fun x55 =>
 opN p_ (sCall (fn 145) [x55, x27]) Kp fun x57 =>
 opN p_ (sCall (fn 56) [v0, x57, x27]) Kp fun x59 =>
 K x59))
theorem ref03_Put_s {v0 v1 v2 v3 : Value} : Shp p_ 115 [v0, v1, v2, v3] (ref03_Put v0 v1 v2 v3) := sh_ Tryz.call115 Tryz.func115 (an := {}) fun _ _ => by kernel_rfl
def ref04_Length (v0 : Value) (Kp : PK) (K : Value → WP) : WP :=
 opN p_ (sBin .lss 3 v0 (.int .i64 3)) Kp fun x9 =>
 gdK x9 false (fun k => k v0) fun x11 =>
 gdK x9 false (opN p_ (sBin .gtr 3 x11 (.int .i64 258)) Kp) fun x12 =>
 opN p_ (sPick x9 (.bool true) x12) Kp fun x13 =>
 condS x13
 (K (.tuple #[(.int .i64 (-1)), (.int .i64 0), (.int .i64 0)]))
 (opN p_ (sCall (fn 146) [(.int .i64 285)]) Kp fun x16 =>
 opN p_ (sExt x16 0) Kp fun x17 =>
 opN p_ (sExt x16 1) Kp fun x18 =>
 loop3 (fun I1 m1 _ y5 y6 y7 =>
 opN p_ (sBin .gtr 3 y6 v0) Kp fun x21 =>
 condS x21
 (opN p_ (sBin .sub 3 y5 (.int .i64 1)) Kp fun x23 =>
 opN p_ (sCall (fn 146) [x23]) Kp fun x26 =>
 opN p_ (sExt x26 0) Kp fun x27 =>
 opN p_ (sExt x26 1) Kp fun x28 =>
 next3 I1 m1 x23 x27 x28)
 (opN p_ (sBin .sub 3 v0 y6) Kp fun x33 =>
 K (.tuple #[y5, y7, x33]))) (.int .i64 285) x17 x18)
theorem ref04_Length_s {v0 : Value} : Shp p_ 116 [v0] (ref04_Length v0) := sh_ Tryz.call116 Tryz.func116 (an := { loops := [(5, [5, 6, 7])] }) fun _ _ => by kernel_rfl
def ref04_Distance (v0 : Value) (Kp : PK) (K : Value → WP) : WP :=
 opN p_ (sBin .lss 3 v0 (.int .i64 1)) Kp fun x9 =>
 gdK x9 false (fun k => k v0) fun x11 =>
 gdK x9 false (opN p_ (sBin .gtr 3 x11 (.int .i64 32768)) Kp) fun x12 =>
 opN p_ (sPick x9 (.bool true) x12) Kp fun x13 =>
 condS x13
 (K (.tuple #[(.int .i64 (-1)), (.int .i64 0), (.int .i64 0)]))
 (opN p_ (sCall (fn 147) [(.int .i64 29)]) Kp fun x16 =>
 opN p_ (sExt x16 0) Kp fun x17 =>
 opN p_ (sExt x16 1) Kp fun x18 =>
 loop3 (fun I1 m1 _ y5 y6 y7 =>
 opN p_ (sBin .gtr 3 y6 v0) Kp fun x21 =>
 condS x21
 (opN p_ (sBin .sub 3 y5 (.int .i64 1)) Kp fun x23 =>
 opN p_ (sCall (fn 147) [x23]) Kp fun x26 =>
 opN p_ (sExt x26 0) Kp fun x27 =>
 opN p_ (sExt x26 1) Kp fun x28 =>
 next3 I1 m1 x23 x27 x28)
 (opN p_ (sBin .sub 3 v0 y6) Kp fun x33 =>
 K (.tuple #[y5, y7, x33]))) (.int .i64 29) x17 x18)
theorem ref04_Distance_s {v0 : Value} : Shp p_ 117 [v0] (ref04_Distance v0) := sh_ Tryz.call117 Tryz.func117 (an := { loops := [(5, [5, 6, 7])] }) fun _ _ => by kernel_rfl
def ref03_Lengths (v0 v1 : Value) (Kp : PK) (K : Value → WP) : WP :=
 opN p_ (sLen #[129] 3 [v0]) Kp fun x17 =>
 opN p_ (sBin .gtr 3 x17 (.int .i64 320)) Kp fun x18 =>
 gdK x18 false (fun k => k v1) fun x20 =>
 gdK x18 false (opN p_ (sBin .lss 3 x20 (.int .i64 1)) Kp) fun x21 =>
 opN p_ (sPick x18 (.bool true) x21) Kp fun x22 =>
 gdK x22 false (fun k => k v1) fun x24 =>
 gdK x22 false (opN p_ (sBin .gtr 3 x24 (.int .i64 15)) Kp) fun x25 =>
 opN p_ (sPick x22 (.bool true) x25) Kp fun x26 =>
 condS x26
 (K (.tuple #[(.slice none 0 0), (.int .i64 1)]))
 (loop2 (fun I1 m1 _ y6 y7 =>
 opN p_ (sLen #[129] 3 [v0]) Kp fun x29 =>
 opN p_ (sBin .lss 3 y7 x29) Kp fun x30 =>
 condS x30
 (opN p_ (sIA 129 v0 y7) Kp fun x35 =>
 opN p_ (sLoad 3 x35) Kp fun x36 =>
 opN p_ (sBin .lss 3 x36 (.int .i64 0)) Kp fun x37 =>
 gdK x37 false (fun k => k v0) fun x39 =>
 gdK x37 false (fun k => k y7) fun x40 =>
 gdK x37 false (opN p_ (sIA 129 x39 x40) Kp) fun x41 =>
 gdK x37 false (opN p_ (sLoad 3 x41) Kp) fun x42 =>
 gdK x37 false (opN p_ (sBin .gtr 3 x42 (.int .i64 1099511627776)) Kp) fun x43 =>
 opN p_ (sPick x37 (.bool true) x43) Kp fun x44 =>
 condS x44
 (K (.tuple #[(.slice none 0 0), (.int .i64 1)]))
 (opN p_ (sIA 129 v0 y7) Kp fun x47 =>
 opN p_ (sLoad 3 x47) Kp fun x48 =>
 opN p_ (sBin .gtr 3 x48 (.int .i64 0)) Kp fun x49 =>
 condS x49
 (opN p_ (sBin .add 3 y6 (.int .i64 1)) Kp fun x51 =>
 opN p_ (sBin .add 3 y7 (.int .i64 1)) Kp fun x32 =>
 next2 I1 m1 x51 x32)
 (opN p_ (sBin .add 3 y7 (.int .i64 1)) Kp fun x32 =>
 next2 I1 m1 y6 x32)))
 (opN p_ (sConv 3 55 v1) Kp fun x54 =>
 opN p_ (sBin .shl 3 (.int .i64 1) x54) Kp fun x55 =>
 opN p_ (sBin .gtr 3 y6 x55) Kp fun x56 =>
 condS x56
 (K (.tuple #[(.slice none 0 0), (.int .i64 1)]))
 (opN p_ (sLen #[129] 3 [v0]) Kp fun x58 =>
 opN p_ (sMkSl 129 x58 x58) Kp fun x59 =>
 opN p_ (sCall (fn 148) [v0]) Kp fun x61 =>
 opN p_ (sEq .eql 3 (.tmp 62) (.const (.int .i64 1)) y6 (.int .i64 1)) Kp fun x63 =>
 condS x63
 (opN p_ (sIA 209 x61 (.int .i64 0)) Kp fun x66 =>
 opN p_ (sFA 212 x66 1) Kp fun x67 =>
 opN p_ (sLoad 129 x67) Kp fun x68 =>
 opN p_ (sIA 129 x68 (.int .i64 0)) Kp fun x69 =>
 opN p_ (sLoad 3 x69) Kp fun x70 =>
 opN p_ (sIA 129 x59 x70) Kp fun x71 =>
 opN p_ (sStore 3 x71 (.int .i64 1)) Kp fun _ =>
 K (.tuple #[x59, (.int .i64 0)]))
 (loop2 (fun I2 m2 _ y10 y11 =>
 opN p_ (sBin .lss 3 y11 v1) Kp fun x76 =>
 condS x76
 (loop2 (fun I3 m3 _ y12 y13 =>
 opN p_ (sBin .add 3 y13 (.int .i64 1)) Kp fun x80 =>
 opN p_ (sLen #[209] 3 [y10]) Kp fun x82 =>
 opN p_ (sBin .lss 3 x80 x82) Kp fun x83 =>
 condS x83
 (drS (stD p_ (sIA 209 y10 y13) fun D3 x89 =>
 stD p_ (sFA 212 x89 0) fun D4 x90 =>
 stD p_ (sLoad 3 x90) fun D5 x91 =>
 stD p_ (sBin .add 3 y13 (.int .i64 1)) fun D8 x94 =>
 stD p_ (sIA 209 y10 x94) fun D9 x95 =>
 stD p_ (sFA 212 x95 0) fun D10 x96 =>
 stD p_ (sLoad 3 x96) fun D11 x97 =>
 stD p_ (sBin .add 3 x91 x97) fun D12 x98 =>
 stD p_ (sIA 209 y10 y13) fun D16 x102 =>
 stD p_ (sFA 212 x102 1) fun D17 x103 =>
 stD p_ (sLoad 129 x103) fun D18 x104 =>
 stD p_ (sBin .add 3 y13 (.int .i64 1)) fun D22 x108 =>
 stD p_ (sIA 209 y10 x108) fun D23 x109 =>
 stD p_ (sFA 212 x109 1) fun D24 x110 =>
 stD p_ (sLoad 129 x110) fun D25 x111 =>
 opN p_ (sBuildSl 129 0 []) Kp fun x99 =>
 (fun w => D25 w ∧ (fun w => D24 w ∧ (fun w => D23 w ∧ (fun w => D22 w ∧ (fun w => D18 w ∧ (fun w => D17 w ∧ (fun w => D16 w ∧ (fun w => D12 w ∧ (fun w => D11 w ∧ (fun w => D10 w ∧ (fun w => D9 w ∧ (fun w => D8 w ∧ (fun w => D5 w ∧ (fun w => D4 w ∧ (fun w => D3 w ∧ (opN p_ (sApp #[129, 129] 129 [x99, x104]) Kp fun x105 =>
 (fun w => D25 w ∧ (fun w => D24 w ∧ (fun w => D23 w ∧ (fun w => D22 w ∧ (fun w => D12 w ∧ (fun w => D11 w ∧ (fun w => D10 w ∧ (fun w => D9 w ∧ (fun w => D8 w ∧ (fun w => D5 w ∧ (fun w => D4 w ∧ (fun w => D3 w ∧ (opN p_ (sApp #[129, 129] 129 [x105, x111]) Kp fun x112 =>
 (fun w => D12 w ∧ (fun w => D11 w ∧ (fun w => D10 w ∧ (fun w => D9 w ∧ (fun w => D8 w ∧ (fun w => D5 w ∧ (fun w => D4 w ∧ (fun w => D3 w ∧ (stS p_ (sBuild 212 [(0, x98), (1, x112)]) fun x113 =>
 opN p_ (sBuildSl 209 1 [(0, x113)]) Kp fun x114 =>
 opN p_ (sApp #[209, 209] 209 [y12, x114]) Kp fun x115 =>
 opN p_ (sBin .add 3 y13 (.int .i64 2)) Kp fun x85 =>
 next2 I3 m3 x115 x85) w) w) w) w) w) w) w) w)) w) w) w) w) w) w) w) w) w) w) w) w)) w) w) w) w) w) w) w) w) w) w) w) w) w) w) w)))
 (opN p_ (sCall (fn 149) [x61, y12]) Kp fun x118 =>
 opN p_ (sBin .add 3 y11 (.int .i64 1)) Kp fun x78 =>
 next2 I2 m2 x118 x78)) (.slice none 0 0) (.int .i64 0))
 (loop1 (fun I4 m4 _ y14 =>
 opN p_ (sBin .mul 3 (.int .i64 2) y6) Kp fun x121 =>
 opN p_ (sBin .sub 3 x121 (.int .i64 2)) Kp fun x122 =>
 opN p_ (sBin .lss 3 y14 x122) Kp fun x123 =>
 condS x123
 (loop1 (fun I5 m5 _ y15 =>
 opN p_ (sIA 209 y10 y14) Kp fun x129 =>
 opN p_ (sFA 212 x129 1) Kp fun x130 =>
 opN p_ (sLoad 129 x130) Kp fun x131 =>
 opN p_ (sLen #[129] 3 [x131]) Kp fun x132 =>
 opN p_ (sBin .lss 3 y15 x132) Kp fun x133 =>
 condS x133
 (opN p_ (sIA 209 y10 y14) Kp fun x139 =>
 opN p_ (sFA 212 x139 1) Kp fun x140 =>
 opN p_ (sLoad 129 x140) Kp fun x141 =>
 opN p_ (sIA 129 x141 y15) Kp fun x143 =>
 opN p_ (sLoad 3 x143) Kp fun x144 =>
 opN p_ (sIA 129 x59 x144) Kp fun x145 =>
 opN p_ (sLoad 3 x145) Kp fun x146 =>
 opN p_ (sBin .add 3 x146 (.int .i64 1)) Kp fun x147 =>
 opN p_ (sIA 129 x59 x144) Kp fun x148 =>
 opN p_ (sStore 3 x148 x147) Kp fun _ =>
 opN p_ (sBin .add 3 y15 (.int .i64 1)) Kp fun x135 =>
 next1 I5 m5 x135)
 (opN p_ (sBin .add 3 y14 (.int .i64 1)) Kp fun x125 =>
 next1 I4 m4 x125)) (.int .i64 0))
 (K (.tuple #[x59, (.int .i64 0)]))) (.int .i64 0))) x61 (.int .i64 1))))) (.int .i64 0) (.int .i64 0))
theorem ref03_Lengths_s {v0 v1 : Value} : Shp p_ 118 [v0, v1] (ref03_Lengths v0 v1) := sh_ Tryz.call118 Tryz.func118 (an := { loops := [(5, [6, 7]), (20, [10, 11]), (24, [12, 13]), (29, [14]), (32, [15])], drs := [(26, .ofL [(0, 2), (1, 2), (2, 2), (3, 3), (4, 3), (5, 3), (6, 2), (7, 2), (8, 3), (9, 3), (10, 3), (11, 3), (12, 3), (14, 2), (15, 2), (16, 3), (17, 3), (18, 3), (20, 2), (21, 2), (22, 3), (23, 3), (24, 3), (25, 3), (13, 0), (19, 0), (26, 0), (27, 1), (28, 0), (29, 0), (30, 1)])] }) fun _ _ => by kernel_rfl
def ref06_upto (v0 v1 : Value) (Kp : PK) (K : Value → WP) : WP :=
 loop2 (fun I1 m1 _ y5 y6 =>
 opN p_ (sLen #[129] 3 [v0]) Kp fun x10 =>
 opN p_ (sBin .lss 3 y6 x10) Kp fun x11 =>
 condS x11
 (opN p_ (sIA 129 v0 y6) Kp fun x16 =>
 opN p_ (sLoad 3 x16) Kp fun x17 =>
 opN p_ (sEq .neq 3 (.tmp 17) (.const (.int .i64 0)) x17 (.int .i64 0)) Kp fun x18 =>
 condS x18
 (opN p_ (sBin .add 3 y6 (.int .i64 1)) Kp fun x21 =>
 opN p_ (sMax #[3, 3] 3 [y5, x21]) Kp fun x22 =>
 opN p_ (sBin .add 3 y6 (.int .i64 1)) Kp fun x13 =>
 next2 I1 m1 x22 x13)
 (opN p_ (sBin .add 3 y6 (.int .i64 1)) Kp fun x13 =>
 next2 I1 m1 y5 x13))
 (K y5)) v1 (.int .i64 0)
theorem ref06_upto_s {v0 v1 : Value} : Shp p_ 119 [v0, v1] (ref06_upto v0 v1) := sh_ Tryz.call119 Tryz.func119 (an := { loops := [(3, [5, 6])] }) fun _ _ => by kernel_rfl
def ref06_runs (v0 : Value) (Kp : PK) (K : Value → WP) : WP :=
 loop2 (fun I1 m1 _ y3 y4 =>
 opN p_ (sLen #[129] 3 [v0]) Kp fun x9 =>
 opN p_ (sBin .lss 3 y4 x9) Kp fun x10 =>
 condS x10
 (opN p_ (sIA 129 v0 y4) Kp fun x13 =>
 opN p_ (sLoad 3 x13) Kp fun x14 =>
 loop1 (fun I2 m2 _ y6 =>
 opN p_ (sBin .add 3 y4 y6) Kp fun x17 =>
 opN p_ (sLen #[129] 3 [v0]) Kp fun x19 =>
 opN p_ (sBin .lss 3 x17 x19) Kp fun x20 =>
 gdK x20 true (fun k => k v0) fun x22 =>
 gdK x20 true (fun k => k y4) fun x23 =>
 gdK x20 true (fun k => k y6) fun x24 =>
 gdK x20 true (opN p_ (sBin .add 3 x23 x24) Kp) fun x25 =>
 gdK x20 true (opN p_ (sIA 129 x22 x25) Kp) fun x26 =>
 gdK x20 true (opN p_ (sLoad 3 x26) Kp) fun x27 =>
 gdK x20 true (fun k => k x14) fun x28 =>
 gdK x20 true (opN p_ (sEq .eql 3 (.tmp 27) (.tmp 28) x27 x28) Kp) fun x29 =>
 opN p_ (sPick x20 x29 (.bool false)) Kp fun x30 =>
 condS x30
 (opN p_ (sBin .add 3 y6 (.int .i64 1)) Kp fun x32 =>
 next1 I2 m2 x32)
 (opN p_ (sEq .eql 3 (.tmp 39) (.const (.int .i64 0)) x14 (.int .i64 0)) Kp fun x40 =>
 gdK x40 true (fun k => k y6) fun x42 =>
 gdK x40 true (opN p_ (sBin .geq 3 x42 (.int .i64 11)) Kp) fun x43 =>
 opN p_ (sPick x40 x43 (.bool false)) Kp fun x44 =>
 condS x44
 (opN p_ (sMin #[3, 3] 3 [y6, (.int .i64 138)]) Kp fun x46 =>
 opN p_ (sBin .sub 3 x46 (.int .i64 11)) Kp fun x49 =>
 opN p_ (sBuild 180 [(0, (.int .i64 18)), (1, (.int .i64 7)), (2, x49)]) Kp fun x50 =>
 opN p_ (sBuildSl 177 1 [(0, x50)]) Kp fun x51 =>
 opN p_ (sApp #[177, 177] 177 [y3, x51]) Kp fun x52 =>
 opN p_ (sBin .add 3 y4 x46) Kp fun x96 =>
 next2 I1 m1 x52 x96)
 (opN p_ (sEq .eql 3 (.tmp 54) (.const (.int .i64 0)) x14 (.int .i64 0)) Kp fun x55 =>
 gdK x55 true (fun k => k y6) fun x57 =>
 gdK x55 true (opN p_ (sBin .geq 3 x57 (.int .i64 3)) Kp) fun x58 =>
 opN p_ (sPick x55 x58 (.bool false)) Kp fun x59 =>
 condS x59
 (opN p_ (sBin .sub 3 y6 (.int .i64 3)) Kp fun x62 =>
 opN p_ (sBuild 180 [(0, (.int .i64 17)), (1, (.int .i64 3)), (2, x62)]) Kp fun x63 =>
 opN p_ (sBuildSl 177 1 [(0, x63)]) Kp fun x64 =>
 opN p_ (sApp #[177, 177] 177 [y3, x64]) Kp fun x65 =>
 opN p_ (sBin .add 3 y4 y6) Kp fun x96 =>
 next2 I1 m1 x65 x96)
 (opN p_ (sEq .neq 3 (.tmp 67) (.const (.int .i64 0)) x14 (.int .i64 0)) Kp fun x68 =>
 gdK x68 true (fun k => k y4) fun x70 =>
 gdK x68 true (opN p_ (sBin .gtr 3 x70 (.int .i64 0)) Kp) fun x71 =>
 opN p_ (sPick x68 x71 (.bool false)) Kp fun x72 =>
 gdK x72 true (fun k => k v0) fun x74 =>
 gdK x72 true (fun k => k y4) fun x75 =>
 gdK x72 true (opN p_ (sBin .sub 3 x75 (.int .i64 1)) Kp) fun x76 =>
 gdK x72 true (opN p_ (sIA 129 x74 x76) Kp) fun x77 =>
 gdK x72 true (opN p_ (sLoad 3 x77) Kp) fun x78 =>
 gdK x72 true (fun k => k x14) fun x79 =>
 gdK x72 true (opN p_ (sEq .eql 3 (.tmp 78) (.tmp 79) x78 x79) Kp) fun x80 =>
 opN p_ (sPick x72 x80 (.bool false)) Kp fun x81 =>
 gdK x81 true (fun k => k y6) fun x83 =>
 gdK x81 true (opN p_ (sBin .geq 3 x83 (.int .i64 3)) Kp) fun x84 =>
 opN p_ (sPick x81 x84 (.bool false)) Kp fun x85 =>
 condS x85
 (opN p_ (sMin #[3, 3] 3 [y6, (.int .i64 6)]) Kp fun x87 =>
 opN p_ (sBin .sub 3 x87 (.int .i64 3)) Kp fun x90 =>
 opN p_ (sBuild 180 [(0, (.int .i64 16)), (1, (.int .i64 2)), (2, x90)]) Kp fun x91 =>
 opN p_ (sBuildSl 177 1 [(0, x91)]) Kp fun x92 =>
 opN p_ (sApp #[177, 177] 177 [y3, x92]) Kp fun x93 =>
 opN p_ (sBin .add 3 y4 x87) Kp fun x96 =>
 next2 I1 m1 x93 x96)
 (opN p_ (sBuild 180 [(0, x14), (1, (.int .i64 0)), (2, (.int .i64 0))]) Kp fun x35 =>
 opN p_ (sBuildSl 177 1 [(0, x35)]) Kp fun x36 =>
 opN p_ (sApp #[177, 177] 177 [y3, x36]) Kp fun x37 =>
 opN p_ (sBin .add 3 y4 (.int .i64 1)) Kp fun x96 =>
 next2 I1 m1 x37 x96))))) (.int .i64 1))
 (K y3)) (.slice none 0 0) (.int .i64 0)
theorem ref06_runs_s {v0 : Value} : Shp p_ 120 [v0] (ref06_runs v0) := sh_ Tryz.call120 Tryz.func120 (an := { loops := [(3, [3, 4]), (6, [6])] }) fun _ _ => by kernel_rfl
def ref06_order (Kp : PK) (K : Value -> WP) : WP :=
 opN p_ (sBuildSl 129 19 [(0, (.int .i64 16)), (1, (.int .i64 17)), (2, (.int .i64 18)), (3, (.int .i64 0)), (4, (.int .i64 8)), (5, (.int .i64 7)), (6, (.int .i64 9)), (7, (.int .i64 6)), (8, (.int .i64 10)), (9, (.int .i64 5)), (10, (.int .i64 11)), (11, (.int .i64 4)), (12, (.int .i64 12)), (13, (.int .i64 3)), (14, (.int .i64 13)), (15, (.int .i64 2)), (16, (.int .i64 14)), (17, (.int .i64 1)), (18, (.int .i64 15))]) Kp fun x1 =>
 K x1
theorem ref06_order_s  : Shp p_ 121 [] (ref06_order) := sh_ Tryz.call121 Tryz.func121 (an := {}) fun _ _ => by kernel_rfl
def lz_finder_candidates_1 (v0 v1 v2 : Value) (Kp : PK) (K : Value → WP) : WP :=
 drS (stS p_ (sLoad 3 v1) fun x7 =>
 stS p_ (sBin .add 3 x7 (.int .i64 3)) fun x8 =>
 stS p_ (sLoad 124 v2) fun x9 =>
 stS p_ (sNil x9) fun x10 =>
 stS p_ (sFA 127 x10 0) fun x11 =>
 stS p_ (sLoad 22 x11) fun x12 =>
 stS p_ (sLen #[22] 3 [x12]) fun x13 =>
 stS p_ (sBin .gtr 3 x8 x13) fun x14 =>
 condS x14
 (K (.tuple #[]))
 (drS (stS p_ (sLoad 124 v2) fun x15 =>
 stS p_ (sNil x15) fun x16 =>
 stS p_ (sFA 127 x16 1) fun x17 =>
 stS p_ (sLoad 125 x17) fun x18 =>
 stS p_ (sLoad 124 v2) fun x19 =>
 stS p_ (sNil x19) fun x20 =>
 stS p_ (sFA 127 x20 0) fun x21 =>
 stS p_ (sLoad 22 x21) fun x22 =>
 stS p_ (sLoad 3 v1) fun x23 =>
 stS p_ (sSl 22 x22 (some x23) none none) fun x24 =>
 stS p_ (sArrP 147 x24) fun x25 =>
 stS p_ (sLoad 147 x25) fun x26 =>
 stS p_ (sLook 125 x18 x26 false) fun x27 =>
 opN p_ (sLen #[129] 3 [x27]) Kp fun x29 =>
 opN p_ (sBin .sub 3 x29 (.int .i64 1)) Kp fun x30 =>
 loop2 (fun I1 m1 _ y5 y6 =>
 opN p_ (sBin .geq 3 y5 (.int .i64 0)) Kp fun x32 =>
 gdK x32 true (fun k => k y6) fun x34 =>
 gdK x32 true (opN p_ (sLoad 124 v2) Kp) fun x35 =>
 gdK x32 true (opN p_ (sNil x35) Kp) fun x36 =>
 gdK x32 true (opN p_ (sFA 127 x36 4) Kp) fun x37 =>
 gdK x32 true (opN p_ (sLoad 3 x37) Kp) fun x38 =>
 gdK x32 true (opN p_ (sBin .lss 3 x34 x38) Kp) fun x39 =>
 opN p_ (sPick x32 x39 (.bool false)) Kp fun x40 =>
 condS x40
 (drS (stS p_ (sLoad 3 v1) fun x45 =>
 stS p_ (sIA 129 x27 y5) fun x48 =>
 stS p_ (sLoad 3 x48) fun x49 =>
 stS p_ (sBin .sub 3 x45 x49) fun x50 =>
 stS p_ (sLoad 124 v2) fun x51 =>
 stS p_ (sNil x51) fun x52 =>
 stS p_ (sFA 127 x52 3) fun x53 =>
 stS p_ (sLoad 3 x53) fun x54 =>
 stS p_ (sBin .gtr 3 x50 x54) fun x55 =>
 gdK x55 false (fun k => k v0) fun x57 =>
 gdK x55 false (fun k => k x27) fun x58 =>
 gdK x55 false (fun k => k y5) fun x59 =>
 gdK x55 false (stS p_ (sIA 129 x58 x59)) fun x60 =>
 gdK x55 false (stS p_ (sLoad 3 x60)) fun x61 =>
 gdK x55 false (opN p_ (sCall x57 [x61]) Kp) fun x62 =>
 gdK x55 false (stS p_ (sUn .not x62)) fun x63 =>
 stS p_ (sPick x55 (.bool true) x63) fun x64 =>
 condS x64
 (K (.tuple #[]))
 (opN p_ (sBin .sub 3 y5 (.int .i64 1)) Kp fun x42 =>
 opN p_ (sBin .add 3 y6 (.int .i64 1)) Kp fun x44 =>
 next2 I1 m1 x42 x44)))
 (K (.tuple #[]))) x30 (.int .i64 0))))
theorem lz_finder_candidates_1_s {v0 v1 v2 : Value} : Shp p_ 131 [v0, v1, v2] (lz_finder_candidates_1 v0 v1 v2) := sh_ Tryz.call131 Tryz.func131 (an := { loops := [(3, [5, 6])], drs := [(0, .ofL [(0, 1), (1, 1), (2, 1), (3, 1), (4, 1), (5, 1), (6, 1), (7, 1)]), (1, .ofL [(0, 1), (1, 1), (2, 1), (3, 1), (4, 1), (5, 1), (6, 1), (7, 1), (8, 1), (9, 1), (10, 1), (11, 1), (12, 1), (13, 1)]), (5, .ofL [(0, 1), (1, 1), (2, 1), (3, 1), (4, 1), (5, 1), (6, 1), (7, 1), (8, 1), (9, 1), (10, 1), (11, 1), (12, 1), (13, 1), (14, 1), (15, 1), (16, 1), (17, 0), (18, 1), (19, 1)])] }) fun _ _ => by kernel_rfl
def lz_last (v0 v1 v2 v3 : Value) (Kp : PK) (K : Value → WP) : WP :=
 loop1 (fun I1 m1 _ y11 =>
 opN p_ (sBin .geq 3 y11 v1) Kp fun x17 =>
 condS x17
 (opN p_ (sCall v3 [y11]) Kp fun x23 =>
 opN p_ (sExt x23 0) Kp fun x24 =>
 opN p_ (sExt x23 1) Kp fun x25 =>
 opN p_ (sBin .leq 3 x24 v0) Kp fun x28 =>
 condS x28
 (opN p_ (sBin .sub 3 v0 x24) Kp fun x33 =>
 K (.tuple #[y11, x25, x33]))
 (opN p_ (sBin .sub 3 y11 (.int .i64 1)) Kp fun x19 =>
 next1 I1 m1 x19))
 (K (.tuple #[(.int .i64 (-1)), (.int .i64 0), (.int .i64 0)]))) v2
theorem lz_last_s {v0 v1 v2 v3 : Value} : Shp p_ 132 [v0, v1, v2, v3] (lz_last v0 v1 v2 v3) := sh_ Tryz.call132 Tryz.func132 (an := { loops := [(2, [11])] }) fun _ _ => by kernel_rfl
def lz_BaseLength (v0 : Value) (Kp : PK) (K : Value → WP) : WP :=
 opN p_ (sBin .sub 3 v0 (.int .i64 257)) Kp fun x6 =>
 opN p_ (sBin .lss 3 x6 (.int .i64 0)) Kp fun x20 =>
 gdK x20 false (fun k => k x6) fun x22 =>
 gdK x20 false (opN p_ (sBin .gtr 3 x22 (.int .i64 28)) Kp) fun x23 =>
 opN p_ (sPick x20 (.bool true) x23) Kp fun x24 =>
 condS x24
 (K (.tuple #[(.int .i64 0), (.int .i64 0)]))
 (opN p_ (sEq .eql 3 (.tmp 26) (.const (.int .i64 28)) x6 (.int .i64 28)) Kp fun x27 =>
 condS x27
 (K (.tuple #[(.int .i64 258), (.int .i64 0)]))
 (opN p_ (sBin .lss 3 x6 (.int .i64 8)) Kp fun x30 =>
 condS x30
 (opN p_ (sBin .add 3 x6 (.int .i64 3)) Kp fun x32 =>
 K (.tuple #[x32, (.int .i64 0)]))
 (opN p_ (sBin .quo 3 x6 (.int .i64 4)) Kp fun x8 =>
 opN p_ (sBin .sub 3 x8 (.int .i64 1)) Kp fun x9 =>
 opN p_ (sBin .rem 3 x6 (.int .i64 4)) Kp fun x11 =>
 opN p_ (sBin .add 3 (.int .i64 4) x11) Kp fun x12 =>
 opN p_ (sConv 3 55 x9) Kp fun x14 =>
 opN p_ (sBin .shl 3 x12 x14) Kp fun x15 =>
 opN p_ (sBin .add 3 (.int .i64 3) x15) Kp fun x16 =>
 K (.tuple #[x16, x9]))))
theorem lz_BaseLength_s {v0 : Value} : Shp p_ 133 [v0] (lz_BaseLength v0) := sh_ Tryz.call133 Tryz.func133 (an := {}) fun _ _ => by kernel_rfl
def lz_BaseDistance (v0 : Value) (Kp : PK) (K : Value → WP) : WP :=
 opN p_ (sBin .lss 3 v0 (.int .i64 0)) Kp fun x6 =>
 gdK x6 false (fun k => k v0) fun x8 =>
 gdK x6 false (opN p_ (sBin .gtr 3 x8 (.int .i64 29)) Kp) fun x9 =>
 opN p_ (sPick x6 (.bool true) x9) Kp fun x10 =>
 condS x10
 (K (.tuple #[(.int .i64 0), (.int .i64 0)]))
 (opN p_ (sBin .lss 3 v0 (.int .i64 4)) Kp fun x13 =>
 condS x13
 (opN p_ (sBin .add 3 v0 (.int .i64 1)) Kp fun x15 =>
 K (.tuple #[x15, (.int .i64 0)]))
 (opN p_ (sBin .quo 3 v0 (.int .i64 2)) Kp fun x17 =>
 opN p_ (sBin .sub 3 x17 (.int .i64 1)) Kp fun x18 =>
 opN p_ (sBin .rem 3 v0 (.int .i64 2)) Kp fun x20 =>
 opN p_ (sBin .add 3 (.int .i64 2) x20) Kp fun x21 =>
 opN p_ (sConv 3 55 x18) Kp fun x23 =>
 opN p_ (sBin .shl 3 x21 x23) Kp fun x24 =>
 opN p_ (sBin .add 3 (.int .i64 1) x24) Kp fun x25 =>
 K (.tuple #[x25, x18])))
theorem lz_BaseDistance_s {v0 : Value} : Shp p_ 134 [v0] (lz_BaseDistance v0) := sh_ Tryz.call134 Tryz.func134 (an := {}) fun _ _ => by kernel_rfl
def huff_counts (v0 : Value) (Kp : PK) (K : Value → WP) : WP :=
 opN p_ (sAlloc 194) Kp fun x2 =>
 opN p_ (sLen #[129] 3 [v0]) Kp fun x10 =>
 opN p_ (sBin .gtr 3 x10 (.int .i64 320)) Kp fun x11 =>
 condS x11
 (opN p_ (sLoad 194 x2) Kp fun x12 =>
 opN p_ (sStore 194 x2 x12) Kp fun _ =>
 (stS p_ (sRes 194 x2) fun r0 => K (.tuple #[r0, (.bool false)])))
 (opN p_ (sLen #[129] 3 [v0]) Kp fun x14 =>
 loop1 (fun I1 m1 _ y15 =>
 opN p_ (sBin .lss 3 y15 x14) Kp fun x16 =>
 condS x16
 (opN p_ (sIA 129 v0 y15) Kp fun x17 =>
 opN p_ (sLoad 3 x17) Kp fun x18 =>
 opN p_ (sBin .lss 3 x18 (.int .i64 0)) Kp fun x20 =>
 gdK x20 false (fun k => k x18) fun x22 =>
 gdK x20 false (opN p_ (sBin .gtr 3 x22 (.int .i64 15)) Kp) fun x23 =>
 opN p_ (sPick x20 (.bool true) x23) Kp fun x24 =>
 condS x24
 (opN p_ (sLoad 194 x2) Kp fun x25 =>
 opN p_ (sStore 194 x2 x25) Kp fun _ =>
 (stS p_ (sRes 194 x2) fun r0 => K (.tuple #[r0, (.bool false)])))
 (opN p_ (sIA 194 x2 x18) Kp fun x27 =>
 opN p_ (sLoad 3 x27) Kp fun x28 =>
 opN p_ (sBin .add 3 x28 (.int .i64 1)) Kp fun x29 =>
 opN p_ (sIA 194 x2 x18) Kp fun x30 =>
 opN p_ (sStore 3 x30 x29) Kp fun _ =>
 opN p_ (sBin .add 3 y15 (.int .i64 1)) Kp fun x31 =>
 next1 I1 m1 x31))
 (opN p_ (sSl 194 x2 (some (.int .i64 1)) none none) Kp fun x32 =>
 opN p_ (sLen #[129] 3 [x32]) Kp fun x33 =>
 loop2 (fun I2 m2 _ y6 y34 =>
 opN p_ (sBin .lss 3 y34 x33) Kp fun x35 =>
 condS x35
 (opN p_ (sIA 129 x32 y34) Kp fun x36 =>
 opN p_ (sLoad 3 x36) Kp fun x37 =>
 opN p_ (sBin .mul 3 (.int .i64 2) y6) Kp fun x39 =>
 opN p_ (sBin .sub 3 x39 x37) Kp fun x41 =>
 opN p_ (sBin .lss 3 x41 (.int .i64 0)) Kp fun x43 =>
 condS x43
 (opN p_ (sLoad 194 x2) Kp fun x44 =>
 opN p_ (sStore 194 x2 x44) Kp fun _ =>
 (stS p_ (sRes 194 x2) fun r0 => K (.tuple #[r0, (.bool false)])))
 (opN p_ (sBin .add 3 y34 (.int .i64 1)) Kp fun x45 =>
 next2 I2 m2 x41 x45))
 (opN p_ (sLoad 194 x2) Kp fun x46 =>
 opN p_ (sStore 194 x2 x46) Kp fun _ =>
 (stS p_ (sRes 194 x2) fun r0 => K (.tuple #[r0, (.bool true)])))) (.int .i64 1) (.int .i64 0))) (.int .i64 0))
theorem huff_counts_s {v0 : Value} : Shp p_ 135 [v0] (huff_counts v0) := sh_ Tryz.call135 Tryz.func135 (an := { loops := [(4, [15]), (12, [6, 34])] }) fun _ _ => by kernel_rfl
def bits_Reverse (v0 v1 : Value) (Kp : PK) (K : Value → WP) : WP :=
 opN p_ (sMin #[3, 3] 3 [v1, (.int .i64 32)]) Kp fun x8 =>
 opN p_ (sMax #[3, 3] 3 [(.int .i64 0), x8]) Kp fun x9 =>
 loop2 (fun I1 m1 _ y5 y10 =>
 opN p_ (sBin .lss 3 y10 x9) Kp fun x11 =>
 condS x11
 (opN p_ (sBin .shl 3 y5 (.int .u64 1)) Kp fun x14 =>
 opN p_ (sConv 3 55 y10) Kp fun x17 =>
 opN p_ (sBin .shr 3 v0 x17) Kp fun x18 =>
 opN p_ (sBin .and 3 x18 (.int .i64 1)) Kp fun x19 =>
 opN p_ (sBin .or 3 x14 x19) Kp fun x20 =>
 opN p_ (sBin .add 3 y10 (.int .i64 1)) Kp fun x21 =>
 next2 I1 m1 x20 x21)
 (K y5)) (.int .i64 0) (.int .i64 0)
theorem bits_Reverse_s {v0 v1 : Value} : Shp p_ 136 [v0, v1] (bits_Reverse v0 v1) := sh_ Tryz.call136 Tryz.func136 (an := { loops := [(3, [5, 10])] }) fun _ _ => by kernel_rfl
def slices_SortStableFunc_huff_weighed_int_huff_weighed_int (v0 v1 : Value) (Kp : PK) (K : Value -> WP) : WP :=
 opN p_ (sLen #[197] 3 [v0]) Kp fun x6 =>
 opN p_ (sCall (fn 164) [v0, x6, v1]) Kp fun x8 =>
 K (.tuple #[])
theorem slices_SortStableFunc_huff_weighed_int_huff_weighed_int_s {v0 v1 : Value} : Shp p_ 137 [v0, v1] (slices_SortStableFunc_huff_weighed_int_huff_weighed_int v0 v1) := sh_ Tryz.call137 Tryz.func137 (an := {}) fun _ _ => by kernel_rfl
def huff_Lengths_1 (v0 v1 : Value) (Kp : PK) (K : Value -> WP) : WP :=
 opN p_ (sBox 199 v0) Kp fun x2 =>
 opN p_ (sBox 199 v1) Kp fun x3 =>
 opN p_ (sFA 199 x2 0) Kp fun x5 =>
 opN p_ (sLoad 3 x5) Kp fun x6 =>
 opN p_ (sFA 199 x3 0) Kp fun x7 =>
 opN p_ (sLoad 3 x7) Kp fun x8 =>
 opN p_ (sCall (fn 139) [x6, x8]) Kp fun x9 =>
 K x9
theorem huff_Lengths_1_s {v0 v1 : Value} : Shp p_ 138 [v0, v1] (huff_Lengths_1 v0 v1) := sh_ Tryz.call138 Tryz.func138 (an := {}) fun _ _ => by kernel_rfl
def cmp_Compare_int (v0 v1 : Value) (Kp : PK) (K : Value → WP) : WP :=
 opN p_ (sCall (fn 165) [v0]) Kp fun x8 =>
 opN p_ (sCall (fn 165) [v1]) Kp fun x10 =>
 condS x8
 (condS x10
 (K (.int .i64 0))
 (K (.int .i64 (-1))))
 (condS x10
 (K (.int .i64 1))
 (opN p_ (sBin .lss 3 v0 v1) Kp fun x16 =>
 condS x16
 (K (.int .i64 (-1)))
 (opN p_ (sBin .gtr 3 v0 v1) Kp fun x19 =>
 condS x19
 (K (.int .i64 1))
 (K (.int .i64 0)))))
theorem cmp_Compare_int_s {v0 v1 : Value} : Shp p_ 139 [v0, v1] (cmp_Compare_int v0 v1) := sh_ Tryz.call139 Tryz.func139 (an := {}) fun _ _ => by kernel_rfl
def slices_Concat_int_int (v0 : Value) (Kp : PK) (K : Value → WP) : WP :=
 opN p_ (sLen #[228] 3 [v0]) Kp fun x10 =>
 loop2 (fun I1 m1 _ y3 y11 =>
 opN p_ (sBin .lss 3 y11 x10) Kp fun x12 =>
 condS x12
 (opN p_ (sIA 228 v0 y11) Kp fun x13 =>
 opN p_ (sLoad 129 x13) Kp fun x14 =>
 opN p_ (sLen #[129] 3 [x14]) Kp fun x17 =>
 opN p_ (sBin .add 3 y3 x17) Kp fun x18 =>
 opN p_ (sBin .lss 3 x18 (.int .i64 0)) Kp fun x20 =>
 condS x20
 (opN p_ (sMkI 9 (.string ⟨#[108, 101, 110, 32, 111, 117, 116, 32, 111, 102, 32, 114, 97, 110, 103, 101]⟩)) Kp fun x21 =>
 opN p_ (sPanic x21) Kp fun _ =>
 opN p_ (sBin .add 3 y11 (.int .i64 1)) Kp fun x22 =>
 next2 I1 m1 x18 x22)
 (opN p_ (sBin .add 3 y11 (.int .i64 1)) Kp fun x22 =>
 next2 I1 m1 x18 x22))
 (opN p_ (sCall (fn 166) [(.slice none 0 0), y3]) Kp fun x24 =>
 opN p_ (sLen #[228] 3 [v0]) Kp fun x26 =>
 loop2 (fun I2 m2 _ y6 y27 =>
 opN p_ (sBin .lss 3 y27 x26) Kp fun x28 =>
 condS x28
 (opN p_ (sIA 228 v0 y27) Kp fun x29 =>
 opN p_ (sLoad 129 x29) Kp fun x30 =>
 opN p_ (sApp #[129, 129] 129 [y6, x30]) Kp fun x33 =>
 opN p_ (sBin .add 3 y27 (.int .i64 1)) Kp fun x34 =>
 next2 I2 m2 x33 x34)
 (K y6)) x24 (.int .i64 0))) (.int .i64 0) (.int .i64 0)
theorem slices_Concat_int_int_s {v0 : Value} : Shp p_ 140 [v0] (slices_Concat_int_int v0) := sh_ Tryz.call140 Tryz.func140 (an := { loops := [(3, [3, 11]), (11, [6, 27])] }) fun _ _ => by kernel_rfl
def huff_merge_int (v0 v1 : Value) (Kp : PK) (K : Value → WP) : WP :=
 opN p_ (sLen #[197] 3 [v0]) Kp fun x7 =>
 opN p_ (sLen #[197] 3 [v1]) Kp fun x9 =>
 opN p_ (sBin .add 3 x7 x9) Kp fun x10 =>
 opN p_ (sMkSl 197 (.int .i64 0) x10) Kp fun x11 =>
 loop3 (fun I1 m1 _ y0 y1 y5 =>
 opN p_ (sLen #[197] 3 [y0]) Kp fun x22 =>
 opN p_ (sEq .eql 3 (.tmp 22) (.const (.int .i64 0)) x22 (.int .i64 0)) Kp fun x23 =>
 condS x23
 (opN p_ (sApp #[197, 197] 197 [y5, y1]) Kp fun x26 =>
 K x26)
 (drS (stS p_ (sLen #[197] 3 [y1]) fun x29 =>
 stS p_ (sBin .gtr 3 x29 (.int .i64 0)) fun x30 =>
 gdK x30 true (fun k => k y1) fun x32 =>
 gdK x30 true (stS p_ (sIA 197 x32 (.int .i64 0))) fun x33 =>
 gdK x30 true (stS p_ (sFA 199 x33 0)) fun x34 =>
 gdK x30 true (stS p_ (sLoad 3 x34)) fun x35 =>
 gdK x30 true (fun k => k y0) fun x36 =>
 gdK x30 true (stS p_ (sIA 197 x36 (.int .i64 0))) fun x37 =>
 gdK x30 true (stS p_ (sFA 199 x37 0)) fun x38 =>
 gdK x30 true (stS p_ (sLoad 3 x38)) fun x39 =>
 gdK x30 true (stS p_ (sBin .lss 3 x35 x39)) fun x40 =>
 stS p_ (sPick x30 x40 (.bool false)) fun x41 =>
 condS x41
 (drS (stS p_ (sIA 197 y1 (.int .i64 0)) fun x44 =>
 stS p_ (sLoad 199 x44) fun x45 =>
 stD p_ (sSl 197 y1 (some (.int .i64 1)) none none) fun D7 x49 =>
 opN p_ (sBuildSl 197 1 [(0, x45)]) Kp fun x46 =>
 (fun w => D7 w ∧ (opN p_ (sApp #[197, 197] 197 [y5, x46]) Kp fun x47 =>
 (fun w => D7 w ∧ (next3 I1 m1 y0 x49 x47) w)) w)))
 (drS (stS p_ (sIA 197 y0 (.int .i64 0)) fun x14 =>
 stS p_ (sLoad 199 x14) fun x15 =>
 stD p_ (sSl 197 y0 (some (.int .i64 1)) none none) fun D7 x19 =>
 opN p_ (sBuildSl 197 1 [(0, x15)]) Kp fun x16 =>
 (fun w => D7 w ∧ (opN p_ (sApp #[197, 197] 197 [y5, x16]) Kp fun x17 =>
 (fun w => D7 w ∧ (next3 I1 m1 x19 y1 x17) w)) w)))))) v0 v1 x11
theorem huff_merge_int_s {v0 v1 : Value} : Shp p_ 141 [v0, v1] (huff_merge_int v0 v1) := sh_ Tryz.call141 Tryz.func141 (an := { loops := [(3, [0, 1, 5])], drs := [(2, .ofL [(0, 2), (1, 1), (2, 1), (3, 1), (6, 2), (7, 3), (4, 0), (5, 0), (8, 1), (9, 1)]), (5, .ofL [(0, 1), (1, 1), (2, 1), (3, 1), (4, 1), (5, 1), (6, 1), (7, 1), (8, 1), (9, 1), (10, 1), (11, 1), (12, 1), (13, 1), (14, 1)]), (6, .ofL [(0, 2), (1, 1), (2, 1), (3, 1), (6, 2), (7, 3), (4, 0), (5, 0), (8, 1), (9, 1)])] }) fun _ _ => by kernel_rfl
def deflate_runs_1 (v0 v1 : Value) (Kp : PK) (K : Value → WP) : WP :=
 loop1 (fun I1 m1 _ y3 =>
 opN p_ (sLoad 129 v1) Kp fun x8 =>
 opN p_ (sLen #[129] 3 [x8]) Kp fun x9 =>
 opN p_ (sBin .lss 3 y3 x9) Kp fun x10 =>
 condS x10
 (opN p_ (sLoad 129 v1) Kp fun x11 =>
 opN p_ (sIA 129 x11 y3) Kp fun x13 =>
 opN p_ (sLoad 3 x13) Kp fun x14 =>
 loop1 (fun I2 m2 _ y5 =>
 opN p_ (sBin .add 3 y3 y5) Kp fun x17 =>
 opN p_ (sLoad 129 v1) Kp fun x18 =>
 opN p_ (sLen #[129] 3 [x18]) Kp fun x19 =>
 opN p_ (sBin .lss 3 x17 x19) Kp fun x20 =>
 gdK x20 true (opN p_ (sLoad 129 v1) Kp) fun x22 =>
 gdK x20 true (fun k => k y3) fun x23 =>
 gdK x20 true (fun k => k y5) fun x24 =>
 gdK x20 true (opN p_ (sBin .add 3 x23 x24) Kp) fun x25 =>
 gdK x20 true (opN p_ (sIA 129 x22 x25) Kp) fun x26 =>
 gdK x20 true (opN p_ (sLoad 3 x26) Kp) fun x27 =>
 gdK x20 true (fun k => k x14) fun x28 =>
 gdK x20 true (opN p_ (sEq .eql 3 (.tmp 27) (.tmp 28) x27 x28) Kp) fun x29 =>
 opN p_ (sPick x20 x29 (.bool false)) Kp fun x30 =>
 condS x30
 (opN p_ (sBin .add 3 y5 (.int .i64 1)) Kp fun x32 =>
 next1 I2 m2 x32)
 (opN p_ (sBuild 170 [(0, x14)]) Kp fun x34 =>
 opN p_ (sAlloc 170) Kp fun x6 =>
 opN p_ (sStore 170 x6 x34) Kp fun _ =>
 cut1 (fun J1 =>
 opN p_ (sEq .eql 3 (.tmp 36) (.const (.int .i64 0)) x14 (.int .i64 0)) Kp fun x37 =>
 gdK x37 true (fun k => k y5) fun x39 =>
 gdK x37 true (opN p_ (sBin .geq 3 x39 (.int .i64 11)) Kp) fun x40 =>
 opN p_ (sPick x37 x40 (.bool false)) Kp fun x41 =>
 condS x41
 (opN p_ (sMin #[3, 3] 3 [y5, (.int .i64 138)]) Kp fun x43 =>
 opN p_ (sBin .sub 3 x43 (.int .i64 11)) Kp fun x45 =>
 opN p_ (sBuild 170 [(0, (.int .i64 18)), (1, (.int .i64 7)), (2, x45)]) Kp fun x46 =>
 opN p_ (sStore 170 x6 x46) Kp fun _ =>
 J1 x43)
 (opN p_ (sEq .eql 3 (.tmp 48) (.const (.int .i64 0)) x14 (.int .i64 0)) Kp fun x49 =>
 gdK x49 true (fun k => k y5) fun x51 =>
 gdK x49 true (opN p_ (sBin .geq 3 x51 (.int .i64 3)) Kp) fun x52 =>
 opN p_ (sPick x49 x52 (.bool false)) Kp fun x53 =>
 condS x53
 (opN p_ (sBin .sub 3 y5 (.int .i64 3)) Kp fun x55 =>
 opN p_ (sBuild 170 [(0, (.int .i64 17)), (1, (.int .i64 3)), (2, x55)]) Kp fun x56 =>
 opN p_ (sStore 170 x6 x56) Kp fun _ =>
 J1 y5)
 (opN p_ (sEq .neq 3 (.tmp 58) (.const (.int .i64 0)) x14 (.int .i64 0)) Kp fun x59 =>
 gdK x59 true (fun k => k y5) fun x61 =>
 gdK x59 true (opN p_ (sBin .geq 3 x61 (.int .i64 3)) Kp) fun x62 =>
 opN p_ (sPick x59 x62 (.bool false)) Kp fun x63 =>
 gdK x63 true (fun k => k y3) fun x65 =>
 gdK x63 true (opN p_ (sBin .gtr 3 x65 (.int .i64 0)) Kp) fun x66 =>
 opN p_ (sPick x63 x66 (.bool false)) Kp fun x67 =>
 gdK x67 true (opN p_ (sLoad 129 v1) Kp) fun x69 =>
 gdK x67 true (fun k => k y3) fun x70 =>
 gdK x67 true (opN p_ (sBin .sub 3 x70 (.int .i64 1)) Kp) fun x71 =>
 gdK x67 true (opN p_ (sIA 129 x69 x71) Kp) fun x72 =>
 gdK x67 true (opN p_ (sLoad 3 x72) Kp) fun x73 =>
 gdK x67 true (fun k => k x14) fun x74 =>
 gdK x67 true (opN p_ (sEq .eql 3 (.tmp 73) (.tmp 74) x73 x74) Kp) fun x75 =>
 opN p_ (sPick x67 x75 (.bool false)) Kp fun x76 =>
 condS x76
 (opN p_ (sMin #[3, 3] 3 [y5, (.int .i64 6)]) Kp fun x78 =>
 opN p_ (sBin .sub 3 x78 (.int .i64 3)) Kp fun x80 =>
 opN p_ (sBuild 170 [(0, (.int .i64 16)), (1, (.int .i64 2)), (2, x80)]) Kp fun x81 =>
 opN p_ (sStore 170 x6 x81) Kp fun _ =>
 J1 x78)
 (J1 (.int .i64 1))))) fun _ z5 =>
 opN p_ (sLoad 170 x6) Kp fun x83 =>
 opN p_ (sCall v0 [x83]) Kp fun x84 =>
 opN p_ (sUn .not x84) Kp fun x85 =>
 condS x85
 (K (.tuple #[]))
 (opN p_ (sBin .add 3 y3 z5) Kp fun x88 =>
 next1 I1 m1 x88))) (.int .i64 1))
 (K (.tuple #[]))) (.int .i64 0)
theorem deflate_runs_1_s {v0 v1 : Value} : Shp p_ 142 [v0, v1] (deflate_runs_1 v0 v1) := sh_ Tryz.call142 Tryz.func142 (an := { cuts := [(15, [5])], loops := [(1, [3]), (3, [5])] }) fun _ _ => by kernel_rfl
def ref04_alike (v0 v1 v2 : Value) (Kp : PK) (K : Value → WP) : WP :=
 loop1 (fun I1 m1 _ y7 =>
 drS (stS p_ (sBin .lss 3 y7 (.int .i64 258)) fun x9 =>
 gdK x9 true (fun k => k v2) fun x11 =>
 gdK x9 true (fun k => k y7) fun x12 =>
 gdK x9 true (stS p_ (sBin .add 3 x11 x12)) fun x13 =>
 gdK x9 true (fun k => k v0) fun x14 =>
 gdK x9 true (stS p_ (sLen #[22] 3 [x14])) fun x15 =>
 gdK x9 true (stS p_ (sBin .lss 3 x13 x15)) fun x16 =>
 stS p_ (sPick x9 x16 (.bool false)) fun x17 =>
 gdK x17 true (fun k => k v0) fun x19 =>
 gdK x17 true (fun k => k v1) fun x20 =>
 gdK x17 true (fun k => k y7) fun x21 =>
 gdK x17 true (stS p_ (sBin .add 3 x20 x21)) fun x22 =>
 gdK x17 true (stS p_ (sIA 22 x19 x22)) fun x23 =>
 gdK x17 true (stS p_ (sLoad 5 x23)) fun x24 =>
 gdK x17 true (fun k => k v0) fun x25 =>
 gdK x17 true (fun k => k v2) fun x26 =>
 gdK x17 true (fun k => k y7) fun x27 =>
 gdK x17 true (stS p_ (sBin .add 3 x26 x27)) fun x28 =>
 gdK x17 true (stS p_ (sIA 22 x25 x28)) fun x29 =>
 gdK x17 true (stS p_ (sLoad 5 x29)) fun x30 =>
 gdK x17 true (stS p_ (sEq .eql 5 (.tmp 24) (.tmp 30) x24 x30)) fun x31 =>
 stS p_ (sPick x17 x31 (.bool false)) fun x32 =>
 condS x32
 (opN p_ (sBin .add 3 y7 (.int .i64 1)) Kp fun x34 =>
 next1 I1 m1 x34)
 (K y7))) (.int .i64 0)
theorem ref04_alike_s {v0 v1 v2 : Value} : Shp p_ 143 [v0, v1, v2] (ref04_alike v0 v1 v2) := sh_ Tryz.call143 Tryz.func143 (an := { loops := [(2, [7])], drs := [(2, .ofL [(0, 1), (1, 1), (2, 1), (3, 1), (4, 1), (5, 1), (6, 1), (7, 1), (8, 1), (9, 1), (10, 1), (11, 1), (12, 1), (13, 1), (14, 1), (15, 1), (16, 1), (17, 1), (18, 1), (19, 1), (20, 1), (21, 1), (22, 1), (23, 1), (24, 1)])] }) fun _ _ => by kernel_rfl
def ref03_weight (v0 : Value) (Kp : PK) (K : Value → WP) : WP :=
 loop2 (fun I1 m1 _ y4 y5 =>
 opN p_ (sLen #[129] 3 [v0]) Kp fun x8 =>
 opN p_ (sBin .lss 3 y5 x8) Kp fun x9 =>
 condS x9
 (opN p_ (sIA 129 v0 y5) Kp fun x14 =>
 opN p_ (sLoad 3 x14) Kp fun x15 =>
 opN p_ (sBin .lss 3 x15 (.int .i64 0)) Kp fun x16 =>
 gdK x16 false (fun k => k v0) fun x18 =>
 gdK x16 false (fun k => k y5) fun x19 =>
 gdK x16 false (opN p_ (sIA 129 x18 x19) Kp) fun x20 =>
 gdK x16 false (opN p_ (sLoad 3 x20) Kp) fun x21 =>
 gdK x16 false (opN p_ (sBin .gtr 3 x21 (.int .i64 15)) Kp) fun x22 =>
 opN p_ (sPick x16 (.bool true) x22) Kp fun x23 =>
 condS x23
 (K (.tuple #[(.int .i64 0), (.bool false)]))
 (opN p_ (sIA 129 v0 y5) Kp fun x26 =>
 opN p_ (sLoad 3 x26) Kp fun x27 =>
 opN p_ (sBin .gtr 3 x27 (.int .i64 0)) Kp fun x28 =>
 condS x28
 (opN p_ (sIA 129 v0 y5) Kp fun x32 =>
 opN p_ (sLoad 3 x32) Kp fun x33 =>
 opN p_ (sBin .sub 3 (.int .i64 15) x33) Kp fun x34 =>
 opN p_ (sConv 3 55 x34) Kp fun x35 =>
 opN p_ (sBin .shl 3 (.int .i64 1) x35) Kp fun x36 =>
 opN p_ (sBin .add 3 y4 x36) Kp fun x37 =>
 opN p_ (sBin .add 3 y5 (.int .i64 1)) Kp fun x11 =>
 next2 I1 m1 x37 x11)
 (opN p_ (sBin .add 3 y5 (.int .i64 1)) Kp fun x11 =>
 next2 I1 m1 y4 x11)))
 (opN p_ (sLen #[129] 3 [v0]) Kp fun x40 =>
 opN p_ (sBin .leq 3 x40 (.int .i64 320)) Kp fun x41 =>
 gdK x41 true (fun k => k y4) fun x43 =>
 gdK x41 true (opN p_ (sBin .leq 3 x43 (.int .i64 32768)) Kp) fun x44 =>
 opN p_ (sPick x41 x44 (.bool false)) Kp fun x45 =>
 K (.tuple #[y4, x45]))) (.int .i64 0) (.int .i64 0)
theorem ref03_weight_s {v0 : Value} : Shp p_ 144 [v0] (ref03_weight v0) := sh_ Tryz.call144 Tryz.func144 (an := { loops := [(3, [4, 5])] }) fun _ _ => by kernel_rfl
def ref02_Reverse (v0 v1 : Value) (Kp : PK) (K : Value → WP) : WP :=
 opN p_ (sMin #[3, 3] 3 [v1, (.int .i64 32)]) Kp fun x8 =>
 opN p_ (sMax #[3, 3] 3 [(.int .i64 0), x8]) Kp fun x9 =>
 loop2 (fun I1 m1 _ y5 y6 =>
 opN p_ (sBin .lss 3 y6 x9) Kp fun x12 =>
 condS x12
 (opN p_ (sBin .mul 3 (.int .i64 2) y5) Kp fun x16 =>
 opN p_ (sConv 3 55 y6) Kp fun x19 =>
 opN p_ (sBin .shr 3 v0 x19) Kp fun x20 =>
 opN p_ (sBin .and 3 x20 (.int .i64 1)) Kp fun x21 =>
 opN p_ (sBin .add 3 x16 x21) Kp fun x22 =>
 opN p_ (sBin .add 3 y6 (.int .i64 1)) Kp fun x14 =>
 next2 I1 m1 x22 x14)
 (K y5)) (.int .i64 0) (.int .i64 0)
theorem ref02_Reverse_s {v0 v1 : Value} : Shp p_ 145 [v0, v1] (ref02_Reverse v0 v1) := sh_ Tryz.call145 Tryz.func145 (an := { loops := [(4, [5, 6])] }) fun _ _ => by kernel_rfl
def ref04_BaseLength (v0 : Value) (Kp : PK) (K : Value → WP) : WP :=
 opN p_ (sBin .lss 3 v0 (.int .i64 257)) Kp fun x9 =>
 gdK x9 false (fun k => k v0) fun x11 =>
 gdK x9 false (opN p_ (sBin .gtr 3 x11 (.int .i64 285)) Kp) fun x12 =>
 opN p_ (sPick x9 (.bool true) x12) Kp fun x13 =>
 condS x13
 (K (.tuple #[(.int .i64 0), (.int .i64 0)]))
 (opN p_ (sEq .eql 3 (.tmp 15) (.const (.int .i64 285)) v0 (.int .i64 285)) Kp fun x16 =>
 condS x16
 (K (.tuple #[(.int .i64 258), (.int .i64 0)]))
 (opN p_ (sBin .lss 3 v0 (.int .i64 265)) Kp fun x19 =>
 condS x19
 (opN p_ (sBin .sub 3 v0 (.int .i64 254)) Kp fun x21 =>
 K (.tuple #[x21, (.int .i64 0)]))
 (opN p_ (sBin .sub 3 v0 (.int .i64 261)) Kp fun x23 =>
 opN p_ (sBin .quo 3 x23 (.int .i64 4)) Kp fun x24 =>
 loop2 (fun I1 m1 _ y5 y6 =>
 opN p_ (sBin .lss 3 y6 v0) Kp fun x27 =>
 condS x27
 (opN p_ (sBin .sub 3 y6 (.int .i64 261)) Kp fun x32 =>
 opN p_ (sBin .quo 3 x32 (.int .i64 4)) Kp fun x33 =>
 opN p_ (sConv 3 55 x33) Kp fun x34 =>
 opN p_ (sBin .shl 3 (.int .i64 1) x34) Kp fun x35 =>
 opN p_ (sBin .add 3 y5 x35) Kp fun x36 =>
 opN p_ (sBin .add 3 y6 (.int .i64 1)) Kp fun x29 =>
 next2 I1 m1 x36 x29)
 (K (.tuple #[y5, x24]))) (.int .i64 11) (.int .i64 265))))
theorem ref04_BaseLength_s {v0 : Value} : Shp p_ 146 [v0] (ref04_BaseLength v0) := sh_ Tryz.call146 Tryz.func146 (an := { loops := [(10, [5, 6])] }) fun _ _ => by kernel_rfl
def ref04_BaseDistance (v0 : Value) (Kp : PK) (K : Value → WP) : WP :=
 opN p_ (sBin .lss 3 v0 (.int .i64 0)) Kp fun x9 =>
 gdK x9 false (fun k => k v0) fun x11 =>
 gdK x9 false (opN p_ (sBin .gtr 3 x11 (.int .i64 29)) Kp) fun x12 =>
 opN p_ (sPick x9 (.bool true) x12) Kp fun x13 =>
 condS x13
 (K (.tuple #[(.int .i64 0), (.int .i64 0)]))
 (opN p_ (sBin .lss 3 v0 (.int .i64 4)) Kp fun x16 =>
 condS x16
 (opN p_ (sBin .add 3 v0 (.int .i64 1)) Kp fun x18 =>
 K (.tuple #[x18, (.int .i64 0)]))
 (opN p_ (sBin .sub 3 v0 (.int .i64 2)) Kp fun x20 =>
 opN p_ (sBin .quo 3 x20 (.int .i64 2)) Kp fun x21 =>
 loop2 (fun I1 m1 _ y5 y6 =>
 opN p_ (sBin .lss 3 y6 v0) Kp fun x24 =>
 condS x24
 (opN p_ (sBin .sub 3 y6 (.int .i64 2)) Kp fun x29 =>
 opN p_ (sBin .quo 3 x29 (.int .i64 2)) Kp fun x30 =>
 opN p_ (sConv 3 55 x30) Kp fun x31 =>
 opN p_ (sBin .shl 3 (.int .i64 1) x31) Kp fun x32 =>
 opN p_ (sBin .add 3 y5 x32) Kp fun x33 =>
 opN p_ (sBin .add 3 y6 (.int .i64 1)) Kp fun x26 =>
 next2 I1 m1 x33 x26)
 (K (.tuple #[y5, x21]))) (.int .i64 5) (.int .i64 4)))
theorem ref04_BaseDistance_s {v0 : Value} : Shp p_ 147 [v0] (ref04_BaseDistance v0) := sh_ Tryz.call147 Tryz.func147 (an := { loops := [(8, [5, 6])] }) fun _ _ => by kernel_rfl
def ref03_coins (v0 : Value) (Kp : PK) (K : Value → WP) : WP :=
 loop2 (fun I1 m1 _ y3 y4 =>
 opN p_ (sLen #[129] 3 [v0]) Kp fun x9 =>
 opN p_ (sBin .lss 3 y4 x9) Kp fun x10 =>
 condS x10
 (opN p_ (sIA 129 v0 y4) Kp fun x15 =>
 opN p_ (sLoad 3 x15) Kp fun x16 =>
 opN p_ (sEq .eql 3 (.tmp 16) (.const (.int .i64 0)) x16 (.int .i64 0)) Kp fun x17 =>
 condS x17
 (opN p_ (sBin .add 3 y4 (.int .i64 1)) Kp fun x12 =>
 next2 I1 m1 y3 x12)
 (opN p_ (sLen #[209] 3 [y3]) Kp fun x19 =>
 loop1 (fun I2 m2 _ y5 =>
 drS (stS p_ (sBin .gtr 3 y5 (.int .i64 0)) fun x21 =>
 gdK x21 true (fun k => k y3) fun x23 =>
 gdK x21 true (fun k => k y5) fun x24 =>
 gdK x21 true (stS p_ (sBin .sub 3 x24 (.int .i64 1))) fun x25 =>
 gdK x21 true (stS p_ (sIA 209 x23 x25)) fun x26 =>
 gdK x21 true (stS p_ (sFA 212 x26 0)) fun x27 =>
 gdK x21 true (stS p_ (sLoad 3 x27)) fun x28 =>
 gdK x21 true (fun k => k v0) fun x29 =>
 gdK x21 true (fun k => k y4) fun x30 =>
 gdK x21 true (stS p_ (sIA 129 x29 x30)) fun x31 =>
 gdK x21 true (stS p_ (sLoad 3 x31)) fun x32 =>
 gdK x21 true (stS p_ (sBin .gtr 3 x28 x32)) fun x33 =>
 stS p_ (sPick x21 x33 (.bool false)) fun x34 =>
 condS x34
 (opN p_ (sBin .sub 3 y5 (.int .i64 1)) Kp fun x36 =>
 next1 I2 m2 x36)
 (opN p_ (sBuildSl 209 0 []) Kp fun x37 =>
 opN p_ (sSl 209 y3 (some y5) none none) Kp fun x40 =>
 opN p_ (sApp #[209, 209] 209 [x37, x40]) Kp fun x41 =>
 drS (stD p_ (sSl 209 y3 none (some y5) none) fun D2 x44 =>
 stD p_ (sIA 129 v0 y4) fun D5 x47 =>
 stD p_ (sLoad 3 x47) fun D6 x48 =>
 opN p_ (sBuildSl 129 1 [(0, y4)]) Kp fun x50 =>
 (fun w => D6 w ∧ (fun w => D5 w ∧ (fun w => D2 w ∧ (stS p_ (sBuild 212 [(0, x48), (1, x50)]) fun x51 =>
 opN p_ (sBuildSl 209 1 [(0, x51)]) Kp fun x52 =>
 (fun w => D2 w ∧ (opN p_ (sApp #[209, 209] 209 [x44, x52]) Kp fun x53 =>
 opN p_ (sApp #[209, 209] 209 [x53, x41]) Kp fun x55 =>
 opN p_ (sBin .add 3 y4 (.int .i64 1)) Kp fun x12 =>
 next2 I1 m1 x55 x12) w)) w) w) w))))) x19))
 (K y3)) (.slice none 0 0) (.int .i64 0)
theorem ref03_coins_s {v0 : Value} : Shp p_ 148 [v0] (ref03_coins v0) := sh_ Tryz.call148 Tryz.func148 (an := { loops := [(3, [3, 4]), (7, [5])], drs := [(7, .ofL [(0, 1), (1, 1), (2, 1), (3, 1), (4, 1), (5, 1), (6, 1), (7, 1), (8, 1), (9, 1), (10, 1), (11, 1), (12, 1), (13, 1), (14, 1)]), (10, .ofL [(0, 2), (1, 2), (2, 3), (3, 2), (4, 2), (5, 3), (6, 3), (7, 1), (12, 2), (8, 0), (9, 1), (10, 0), (11, 0), (13, 0), (14, 1)])] }) fun _ _ => by kernel_rfl
def ref03_merged (v0 v1 : Value) (Kp : PK) (K : Value → WP) : WP :=
 loop3 (fun I1 m1 _ y5 y6 y7 =>
 opN p_ (sLen #[209] 3 [v0]) Kp fun x10 =>
 opN p_ (sBin .lss 3 y7 x10) Kp fun x11 =>
 condS x11
 (loop2 (fun I2 m2 _ y5 y6 =>
 drS (stS p_ (sLen #[209] 3 [v1]) fun x16 =>
 stS p_ (sBin .lss 3 y6 x16) fun x17 =>
 gdK x17 true (fun k => k v1) fun x19 =>
 gdK x17 true (fun k => k y6) fun x20 =>
 gdK x17 true (stS p_ (sIA 209 x19 x20)) fun x21 =>
 gdK x17 true (stS p_ (sFA 212 x21 0)) fun x22 =>
 gdK x17 true (stS p_ (sLoad 3 x22)) fun x23 =>
 gdK x17 true (fun k => k v0) fun x24 =>
 gdK x17 true (fun k => k y7) fun x25 =>
 gdK x17 true (stS p_ (sIA 209 x24 x25)) fun x26 =>
 gdK x17 true (stS p_ (sFA 212 x26 0)) fun x27 =>
 gdK x17 true (stS p_ (sLoad 3 x27)) fun x28 =>
 gdK x17 true (stS p_ (sBin .lss 3 x23 x28)) fun x29 =>
 stS p_ (sPick x17 x29 (.bool false)) fun x30 =>
 condS x30
 (opN p_ (sIA 209 v1 y6) Kp fun x34 =>
 opN p_ (sLoad 212 x34) Kp fun x35 =>
 opN p_ (sBuildSl 209 1 [(0, x35)]) Kp fun x36 =>
 opN p_ (sApp #[209, 209] 209 [y5, x36]) Kp fun x37 =>
 opN p_ (sBin .add 3 y6 (.int .i64 1)) Kp fun x39 =>
 next2 I2 m2 x37 x39)
 (opN p_ (sIA 209 v0 y7) Kp fun x43 =>
 opN p_ (sLoad 212 x43) Kp fun x44 =>
 opN p_ (sBuildSl 209 1 [(0, x44)]) Kp fun x45 =>
 opN p_ (sApp #[209, 209] 209 [y5, x45]) Kp fun x46 =>
 opN p_ (sBin .add 3 y7 (.int .i64 1)) Kp fun x13 =>
 next3 I1 m1 x46 y6 x13))) y5 y6)
 (opN p_ (sSl 209 v1 (some y6) none none) Kp fun x50 =>
 opN p_ (sApp #[209, 209] 209 [y5, x50]) Kp fun x51 =>
 K x51)) (.slice none 0 0) (.int .i64 0) (.int .i64 0)
theorem ref03_merged_s {v0 v1 : Value} : Shp p_ 149 [v0, v1] (ref03_merged v0 v1) := sh_ Tryz.call149 Tryz.func149 (an := { loops := [(4, [5, 6, 7]), (6, [5, 6])], drs := [(6, .ofL [(0, 1), (1, 1), (2, 1), (3, 1), (4, 1), (5, 1), (6, 1), (7, 1), (8, 1), (9, 1), (10, 1), (11, 1), (12, 1), (13, 1), (14, 1), (15, 1), (16, 1)])] }) fun _ _ => by kernel_rfl
def slices_stableCmpFunc_huff_weighed_int (v0 v1 v2 : Value) (Kp : PK) (K : Value → WP) : WP :=
 loop2 (fun I1 m1 _ y7 y8 =>
 opN p_ (sBin .leq 3 y8 v1) Kp fun x13 =>
 condS x13
 (opN p_ (sCall (fn 170) [v0, y7, y8, v2]) Kp fun x18 =>
 opN p_ (sBin .add 3 y8 (.int .i64 20)) Kp fun x22 =>
 next2 I1 m1 y8 x22)
 (opN p_ (sCall (fn 170) [v0, y7, v1, v2]) Kp fun x27 =>
 loop1 (fun I2 m2 _ y6 =>
 opN p_ (sBin .lss 3 y6 v1) Kp fun x30 =>
 condS x30
 (opN p_ (sBin .mul 3 (.int .i64 2) y6) Kp fun x32 =>
 loop2 (fun I3 m3 _ y7_2 y8_2 =>
 opN p_ (sBin .leq 3 y8_2 v1) Kp fun x35 =>
 condS x35
 (opN p_ (sBin .add 3 y7_2 y6) Kp fun x40 =>
 opN p_ (sCall (fn 171) [v0, y7_2, x40, y8_2, v2]) Kp fun x43 =>
 opN p_ (sBin .mul 3 (.int .i64 2) y6) Kp fun x47 =>
 opN p_ (sBin .add 3 y8_2 x47) Kp fun x48 =>
 next2 I3 m3 y8_2 x48)
 (opN p_ (sBin .add 3 y7_2 y6) Kp fun x51 =>
 opN p_ (sBin .lss 3 x51 v1) Kp fun x54 =>
 condS x54
 (opN p_ (sCall (fn 171) [v0, y7_2, x51, v1, v2]) Kp fun x60 =>
 opN p_ (sBin .mul 3 y6 (.int .i64 2)) Kp fun x62 =>
 next1 I2 m2 x62)
 (opN p_ (sBin .mul 3 y6 (.int .i64 2)) Kp fun x62 =>
 next1 I2 m2 x62))) (.int .i64 0) x32)
 (K (.tuple #[]))) (.int .i64 20))) (.int .i64 0) (.int .i64 20)
theorem slices_stableCmpFunc_huff_weighed_int_s {v0 v1 v2 : Value} : Shp p_ 164 [v0, v1, v2] (slices_stableCmpFunc_huff_weighed_int v0 v1 v2) := sh_ Tryz.call164 Tryz.func164 (an := { loops := [(2, [7, 8]), (7, [6]), (9, [7, 8])] }) fun _ _ => by kernel_rfl
def cmp_isNaN_int (v0 : Value) (Kp : PK) (K : Value -> WP) : WP :=
 opN p_ (sEq .neq 3 (.tmp 3) (.tmp 4) v0 v0) Kp fun x5 =>
 K x5
theorem cmp_isNaN_int_s {v0 : Value} : Shp p_ 165 [v0] (cmp_isNaN_int v0) := sh_ Tryz.call165 Tryz.func165 (an := {}) fun _ _ => by kernel_rfl
def slices_Grow_int_int (v0 v1 : Value) (Kp : PK) (K : Value → WP) : WP :=
 cut0 (fun J1 =>
 opN p_ (sBin .lss 3 v1 (.int .i64 0)) Kp fun x6 =>
 condS x6
 (opN p_ (sMkI 9 (.string ⟨#[99, 97, 110, 110, 111, 116, 32, 98, 101, 32, 110, 101, 103, 97, 116, 105, 118, 101]⟩)) Kp fun x7 =>
 opN p_ (sPanic x7) Kp fun _ =>
 J1)
 (J1)) fun _ =>
 opN p_ (sCap #[129] 3 [v0]) Kp fun x10 =>
 opN p_ (sLen #[129] 3 [v0]) Kp fun x12 =>
 opN p_ (sBin .sub 3 x10 x12) Kp fun x13 =>
 opN p_ (sBin .sub 3 v1 x13) Kp fun x14 =>
 opN p_ (sBin .gtr 3 x14 (.int .i64 0)) Kp fun x16 =>
 condS x16
 (opN p_ (sCap #[129] 3 [v0]) Kp fun x19 =>
 opN p_ (sSl 129 v0 none (some x19) none) Kp fun x20 =>
 opN p_ (sApp #[129, 3] 129 [x20, x14]) Kp fun x22 =>
 opN p_ (sLen #[129] 3 [v0]) Kp fun x24 =>
 opN p_ (sSl 129 x22 none (some x24) none) Kp fun x25 =>
 K x25)
 (K v0)
theorem slices_Grow_int_int_s {v0 v1 : Value} : Shp p_ 166 [v0, v1] (slices_Grow_int_int v0 v1) := sh_ Tryz.call166 Tryz.func166 (an := { cuts := [(3, [])] }) fun _ _ => by kernel_rfl
def slices_insertionSortCmpFunc_huff_weighed_int (v0 v1 v2 v3 : Value) (Kp : PK) (K : Value → WP) : WP :=
 opN p_ (sBin .add 3 v1 (.int .i64 1)) Kp fun x11 =>
 loop1 (fun I1 m1 _ y8 =>
 opN p_ (sBin .lss 3 y8 v2) Kp fun x14 =>
 condS x14
 (loop1 (fun I2 m2 _ y9 =>
 drS (stS p_ (sBin .gtr 3 y9 v1) fun x20 =>
 gdK x20 true (fun k => k v3) fun x22 =>
 gdK x20 true (fun k => k v0) fun x23 =>
 gdK x20 true (fun k => k y9) fun x24 =>
 gdK x20 true (stS p_ (sIA 197 x23 x24)) fun x25 =>
 gdK x20 true (stS p_ (sLoad 199 x25)) fun x26 =>
 gdK x20 true (fun k => k v0) fun x27 =>
 gdK x20 true (fun k => k y9) fun x28 =>
 gdK x20 true (stS p_ (sBin .sub 3 x28 (.int .i64 1))) fun x29 =>
 gdK x20 true (stS p_ (sIA 197 x27 x29)) fun x30 =>
 gdK x20 true (stS p_ (sLoad 199 x30)) fun x31 =>
 gdK x20 true (opN p_ (sCall x22 [x26, x31]) Kp) fun x32 =>
 gdK x20 true (stS p_ (sBin .lss 3 x32 (.int .i64 0))) fun x33 =>
 stS p_ (sPick x20 x33 (.bool false)) fun x34 =>
 condS x34
 (drS (stD p_ (sBin .sub 3 y9 (.int .i64 1)) fun D4 x41 =>
 stS p_ (sBin .sub 3 y9 (.int .i64 1)) fun x44 =>
 stS p_ (sIA 197 v0 x44) fun x45 =>
 stS p_ (sLoad 199 x45) fun x46 =>
 stS p_ (sIA 197 v0 y9) fun x49 =>
 stS p_ (sLoad 199 x49) fun x50 =>
 stS p_ (sIA 197 v0 y9) fun x51 =>
 opN p_ (sStore 199 x51 x46) Kp fun _ =>
 (fun w => D4 w ∧ (stS p_ (sIA 197 v0 x41) fun x52 =>
 opN p_ (sStore 199 x52 x50) Kp fun _ =>
 opN p_ (sBin .sub 3 y9 (.int .i64 1)) Kp fun x36 =>
 next1 I2 m2 x36) w)))
 (opN p_ (sBin .add 3 y8 (.int .i64 1)) Kp fun x16 =>
 next1 I1 m1 x16))) y8)
 (K (.tuple #[]))) x11
theorem slices_insertionSortCmpFunc_huff_weighed_int_s {v0 v1 v2 v3 : Value} : Shp p_ 170 [v0, v1, v2, v3] (slices_insertionSortCmpFunc_huff_weighed_int v0 v1 v2 v3) := sh_ Tryz.call170 Tryz.func170 (an := { loops := [(1, [8]), (4, [9])], drs := [(4, .ofL [(0, 1), (1, 1), (2, 1), (3, 1), (4, 1), (5, 1), (6, 1), (7, 1), (8, 1), (9, 1), (10, 1), (11, 1), (12, 1), (13, 1), (14, 0), (15, 1), (16, 1)]), (6, .ofL [(0, 1), (1, 1), (2, 2), (3, 2), (4, 3), (5, 1), (6, 1), (7, 1), (8, 1), (9, 1), (10, 1), (11, 1), (12, 1), (13, 1), (14, 1), (15, 0), (16, 1), (17, 0)])] }) fun _ _ => by kernel_rfl
def slices_symMergeCmpFunc_huff_weighed_int (v0 v1 v2 v3 v4 : Value) (Kp : PK) (K : Value → WP) : WP :=
 opN p_ (sBin .sub 3 v2 v1) Kp fun x27 =>
 opN p_ (sEq .eql 3 (.tmp 27) (.const (.int .i64 1)) x27 (.int .i64 1)) Kp fun x28 =>
 condS x28
 (loop2 (fun I1 m1 _ y10 y11 =>
 opN p_ (sBin .lss 3 y10 y11) Kp fun x33 =>
 condS x33
 (opN p_ (sBin .add 3 y10 y11) Kp fun x36 =>
 opN p_ (sConv 3 55 x36) Kp fun x37 =>
 opN p_ (sBin .shr 55 x37 (.int .u64 1)) Kp fun x38 =>
 opN p_ (sConv 55 3 x38) Kp fun x39 =>
 drS (stS p_ (sIA 197 v0 x39) fun x43 =>
 stS p_ (sLoad 199 x43) fun x44 =>
 stS p_ (sIA 197 v0 v1) fun x47 =>
 stS p_ (sLoad 199 x47) fun x48 =>
 opN p_ (sCall v4 [x44, x48]) Kp fun x49 =>
 stS p_ (sBin .lss 3 x49 (.int .i64 0)) fun x50 =>
 condS x50
 (opN p_ (sBin .add 3 x39 (.int .i64 1)) Kp fun x52 =>
 next2 I1 m1 x52 y11)
 (next2 I1 m1 y10 x39)))
 (loop1 (fun I2 m2 _ y13 =>
 opN p_ (sBin .sub 3 y10 (.int .i64 1)) Kp fun x57 =>
 opN p_ (sBin .lss 3 y13 x57) Kp fun x58 =>
 condS x58
 (drS (stD p_ (sBin .add 3 y13 (.int .i64 1)) fun D4 x65 =>
 stS p_ (sBin .add 3 y13 (.int .i64 1)) fun x68 =>
 stS p_ (sIA 197 v0 x68) fun x69 =>
 stS p_ (sLoad 199 x69) fun x70 =>
 stS p_ (sIA 197 v0 y13) fun x73 =>
 stS p_ (sLoad 199 x73) fun x74 =>
 stS p_ (sIA 197 v0 y13) fun x75 =>
 opN p_ (sStore 199 x75 x70) Kp fun _ =>
 (fun w => D4 w ∧ (stS p_ (sIA 197 v0 x65) fun x76 =>
 opN p_ (sStore 199 x76 x74) Kp fun _ =>
 opN p_ (sBin .add 3 y13 (.int .i64 1)) Kp fun x60 =>
 next1 I2 m2 x60) w)))
 (K (.tuple #[]))) v1)) v2 v3)
 (opN p_ (sBin .sub 3 v3 v2) Kp fun x79 =>
 opN p_ (sEq .eql 3 (.tmp 79) (.const (.int .i64 1)) x79 (.int .i64 1)) Kp fun x80 =>
 condS x80
 (loop2 (fun I3 m3 _ y14 y15 =>
 opN p_ (sBin .lss 3 y14 y15) Kp fun x85 =>
 condS x85
 (opN p_ (sBin .add 3 y14 y15) Kp fun x88 =>
 opN p_ (sConv 3 55 x88) Kp fun x89 =>
 opN p_ (sBin .shr 55 x89 (.int .u64 1)) Kp fun x90 =>
 opN p_ (sConv 55 3 x90) Kp fun x91 =>
 drS (stS p_ (sIA 197 v0 v2) fun x95 =>
 stS p_ (sLoad 199 x95) fun x96 =>
 stS p_ (sIA 197 v0 x91) fun x99 =>
 stS p_ (sLoad 199 x99) fun x100 =>
 opN p_ (sCall v4 [x96, x100]) Kp fun x101 =>
 stS p_ (sBin .lss 3 x101 (.int .i64 0)) fun x102 =>
 stS p_ (sUn .not x102) fun x103 =>
 condS x103
 (opN p_ (sBin .add 3 x91 (.int .i64 1)) Kp fun x105 =>
 next2 I3 m3 x105 y15)
 (next2 I3 m3 y14 x91)))
 (loop1 (fun I4 m4 _ y17 =>
 opN p_ (sBin .gtr 3 y17 y14) Kp fun x110 =>
 condS x110
 (drS (stD p_ (sBin .sub 3 y17 (.int .i64 1)) fun D4 x117 =>
 stS p_ (sBin .sub 3 y17 (.int .i64 1)) fun x120 =>
 stS p_ (sIA 197 v0 x120) fun x121 =>
 stS p_ (sLoad 199 x121) fun x122 =>
 stS p_ (sIA 197 v0 y17) fun x125 =>
 stS p_ (sLoad 199 x125) fun x126 =>
 stS p_ (sIA 197 v0 y17) fun x127 =>
 opN p_ (sStore 199 x127 x122) Kp fun _ =>
 (fun w => D4 w ∧ (stS p_ (sIA 197 v0 x117) fun x128 =>
 opN p_ (sStore 199 x128 x126) Kp fun _ =>
 opN p_ (sBin .sub 3 y17 (.int .i64 1)) Kp fun x112 =>
 next1 I4 m4 x112) w)))
 (K (.tuple #[]))) v2)) v1 v2)
 (opN p_ (sBin .add 3 v1 v3) Kp fun x131 =>
 opN p_ (sConv 3 55 x131) Kp fun x132 =>
 opN p_ (sBin .shr 55 x132 (.int .u64 1)) Kp fun x133 =>
 opN p_ (sConv 55 3 x133) Kp fun x134 =>
 opN p_ (sBin .add 3 x134 v2) Kp fun x137 =>
 cut2 (fun J1 =>
 opN p_ (sBin .gtr 3 v2 x134) Kp fun x140 =>
 condS x140
 (opN p_ (sBin .sub 3 x137 v3) Kp fun x143 =>
 J1 x143 x134)
 (J1 v1 v2)) fun _ z20 z21 =>
 opN p_ (sBin .sub 3 x137 (.int .i64 1)) Kp fun x148 =>
 loop2 (fun I5 m5 _ y20 y21 =>
 opN p_ (sBin .lss 3 y20 y21) Kp fun x151 =>
 condS x151
 (opN p_ (sBin .add 3 y20 y21) Kp fun x154 =>
 opN p_ (sConv 3 55 x154) Kp fun x155 =>
 opN p_ (sBin .shr 55 x155 (.int .u64 1)) Kp fun x156 =>
 opN p_ (sConv 55 3 x156) Kp fun x157 =>
 drS (stS p_ (sBin .sub 3 x148 x157) fun x162 =>
 stS p_ (sIA 197 v0 x162) fun x163 =>
 stS p_ (sLoad 199 x163) fun x164 =>
 stS p_ (sIA 197 v0 x157) fun x167 =>
 stS p_ (sLoad 199 x167) fun x168 =>
 opN p_ (sCall v4 [x164, x168]) Kp fun x169 =>
 stS p_ (sBin .lss 3 x169 (.int .i64 0)) fun x170 =>
 stS p_ (sUn .not x170) fun x171 =>
 condS x171
 (opN p_ (sBin .add 3 x157 (.int .i64 1)) Kp fun x173 =>
 next2 I5 m5 x173 y21)
 (next2 I5 m5 y20 x157)))
 (opN p_ (sBin .sub 3 x137 y20) Kp fun x177 =>
 cut0 (fun J2 =>
 opN p_ (sBin .lss 3 y20 v2) Kp fun x180 =>
 gdK x180 true (fun k => k v2) fun x182 =>
 gdK x180 true (fun k => k x177) fun x183 =>
 gdK x180 true (opN p_ (sBin .lss 3 x182 x183) Kp) fun x184 =>
 opN p_ (sPick x180 x184 (.bool false)) Kp fun x185 =>
 condS x185
 (opN p_ (sCall (fn 173) [v0, y20, v2, x177, v4]) Kp fun x191 =>
 J2)
 (J2)) fun _ =>
 cut0 (fun J3 =>
 opN p_ (sBin .lss 3 v1 y20) Kp fun x194 =>
 gdK x194 true (fun k => k y20) fun x196 =>
 gdK x194 true (fun k => k x134) fun x197 =>
 gdK x194 true (opN p_ (sBin .lss 3 x196 x197) Kp) fun x198 =>
 opN p_ (sPick x194 x198 (.bool false)) Kp fun x199 =>
 condS x199
 (opN p_ (sCall (fn 171) [v0, v1, y20, x134, v4]) Kp fun x205 =>
 J3)
 (J3)) fun _ =>
 opN p_ (sBin .lss 3 x134 x177) Kp fun x208 =>
 gdK x208 true (fun k => k x177) fun x210 =>
 gdK x208 true (fun k => k v3) fun x211 =>
 gdK x208 true (opN p_ (sBin .lss 3 x210 x211) Kp) fun x212 =>
 opN p_ (sPick x208 x212 (.bool false)) Kp fun x213 =>
 condS x213
 (opN p_ (sCall (fn 171) [v0, x134, x177, v3, v4]) Kp fun x219 =>
 K (.tuple #[]))
 (K (.tuple #[])))) z20 z21))
theorem slices_symMergeCmpFunc_huff_weighed_int_s {v0 v1 v2 v3 v4 : Value} : Shp p_ 171 [v0, v1, v2, v3, v4] (slices_symMergeCmpFunc_huff_weighed_int v0 v1 v2 v3 v4) := sh_ Tryz.call171 Tryz.func171 (an := { cuts := [(32, [20, 21]), (41, []), (43, [])], loops := [(3, [10, 11]), (9, [13]), (15, [14, 15]), (21, [17]), (33, [20, 21])], drs := [(5, .ofL [(0, 1), (1, 1), (2, 1), (3, 1), (4, 1), (5, 1), (6, 1), (7, 1), (8, 1), (9, 0), (10, 1)]), (11, .ofL [(0, 1), (1, 1), (2, 2), (3, 2), (4, 3), (5, 1), (6, 1), (7, 1), (8, 1), (9, 1), (10, 1), (11, 1), (12, 1), (13, 1), (14, 1), (15, 0), (16, 1), (17, 0)]), (17, .ofL [(0, 1), (1, 1), (2, 1), (3, 1), (4, 1), (5, 1), (6, 1), (7, 1), (8, 1), (9, 0), (10, 1), (11, 1)]), (23, .ofL [(0, 1), (1, 1), (2, 2), (3, 2), (4, 3), (5, 1), (6, 1), (7, 1), (8, 1), (9, 1), (10, 1), (11, 1), (12, 1), (13, 1), (14, 1), (15, 0), (16, 1), (17, 0)]), (35, .ofL [(0, 1), (1, 1), (2, 1), (3, 1), (4, 1), (5, 1), (6, 1), (7, 1), (8, 1), (9, 1), (10, 1), (11, 0), (12, 1), (13, 1)])] }) fun _ _ => by kernel_rfl
def slices_rotateCmpFunc_huff_weighed_int (v0 v1 v2 v3 v4 : Value) (Kp : PK) (K : Value → WP) : WP :=
 opN p_ (sBin .sub 3 v2 v1) Kp fun x14 =>
 opN p_ (sBin .sub 3 v3 v2) Kp fun x17 =>
 loop2 (fun I1 m1 _ y10 y11 =>
 opN p_ (sEq .neq 3 (.tmp 18) (.tmp 19) y10 y11) Kp fun x20 =>
 condS x20
 (opN p_ (sBin .gtr 3 y10 y11) Kp fun x23 =>
 condS x23
 (opN p_ (sBin .sub 3 v2 y10) Kp fun x27 =>
 opN p_ (sCall (fn 174) [v0, x27, v2, y11, v4]) Kp fun x31 =>
 opN p_ (sBin .sub 3 y10 y11) Kp fun x34 =>
 next2 I1 m1 x34 y11)
 (opN p_ (sBin .sub 3 v2 y10) Kp fun x38 =>
 opN p_ (sBin .add 3 v2 y11) Kp fun x41 =>
 opN p_ (sBin .sub 3 x41 y10) Kp fun x43 =>
 opN p_ (sCall (fn 174) [v0, x38, x43, y10, v4]) Kp fun x46 =>
 opN p_ (sBin .sub 3 y11 y10) Kp fun x49 =>
 next2 I1 m1 y10 x49))
 (opN p_ (sBin .sub 3 v2 y10) Kp fun x53 =>
 opN p_ (sCall (fn 174) [v0, x53, v2, y10, v4]) Kp fun x57 =>
 K (.tuple #[]))) x14 x17
theorem slices_rotateCmpFunc_huff_weighed_int_s {v0 v1 v2 v3 v4 : Value} : Shp p_ 173 [v0, v1, v2, v3, v4] (slices_rotateCmpFunc_huff_weighed_int v0 v1 v2 v3 v4) := sh_ Tryz.call173 Tryz.func173 (an := { loops := [(2, [10, 11])] }) fun _ _ => by kernel_rfl
def slices_swapRangeCmpFunc_huff_weighed_int (v0 v1 v2 v3 v4 : Value) (Kp : PK) (K : Value -> WP) : WP :=
 loop1 (fun I1 m1 _ y10 =>
 opN p_ (sBin .lss 3 y10 v3) Kp fun x13 =>
 condS x13
 (drS (stS p_ (sBin .add 3 v1 y10) fun x19 =>
 stD p_ (sBin .add 3 v2 y10) fun D7 x23 =>
 stS p_ (sBin .add 3 v2 y10) fun x27 =>
 stS p_ (sIA 197 v0 x27) fun x28 =>
 stS p_ (sLoad 199 x28) fun x29 =>
 stS p_ (sBin .add 3 v1 y10) fun x33 =>
 stS p_ (sIA 197 v0 x33) fun x34 =>
 stS p_ (sLoad 199 x34) fun x35 =>
 stS p_ (sIA 197 v0 x19) fun x36 =>
 opN p_ (sStore 199 x36 x29) Kp fun _ =>
 (fun w => D7 w /\ (stS p_ (sIA 197 v0 x23) fun x37 =>
 opN p_ (sStore 199 x37 x35) Kp fun _ =>
 opN p_ (sBin .add 3 y10 (.int .i64 1)) Kp fun x15 =>
 next1 I1 m1 x15) w)))
 (K (.tuple #[]))) (.int .i64 0)
theorem slices_swapRangeCmpFunc_huff_weighed_int_s {v0 v1 v2 v3 v4 : Value} : Shp p_ 174 [v0, v1, v2, v3, v4] (slices_swapRangeCmpFunc_huff_weighed_int v0 v1 v2 v3 v4) := sh_ Tryz.call174 Tryz.func174 (an := { loops := [(1, [10])], drs := [(3, .ofL [(0, 1), (1, 1), (2, 1), (3, 1), (4, 2), (5, 2), (6, 2), (7, 3), (8, 1), (9, 1), (10, 1), (11, 1), (12, 1), (13, 1), (14, 1), (15, 1), (16, 1), (17, 1), (18, 1), (19, 1), (20, 1), (21, 0), (22, 1), (23, 0)])] }) fun _ _ => by kernel_rfl
end Go.Proofs.YthoeeahdkdcceaaGreat.S
