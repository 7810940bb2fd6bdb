/- What the loaded program's types are, one fact a line; printed by a program of mine. No conditions. (26 texts made one; each says below what it is.) -/
import Derived.Test.YthomhkpedghhgaaDoorChecked
import Derived.Test.YthomhkpedghhgaaDoorK1
import Derived.KernelRfl
import Derived.ChangeArms
import Derived.Test.YthomhkpedghhgaaDoorRows
import Derived.Laws.Externs
import Derived.Lib.Strings
import Derived.Lib.Walk
import Derived.Lib.BufferWrite
import Derived.Lib.UnsafeStr
import Derived.Laws.MakeOwn
import Derived.WalkKit
import Derived.Lib.Slices
import Derived.Lib.Builder
import Derived.Lib.MakeNoZero
import Derived.Laws.IdiomCopy
import Derived.Laws.BitsLemmas
import Derived.Shelf.RegionOpenPlain
import Derived.Lib.IfaceEq
import Derived.Laws.StructEq
set_option linter.unusedVariables false
set_option linter.unusedSimpArgs false
set_option linter.unusedSectionVars false
namespace Go.Proofs.YthomhkpedghhgaaDoor.T
open Go Go.Proofs Sh Sl
theorem fld {P : Program} {t : TypeId} {fs : Array Field} {f ft o n : Nat} (hu : ∀ w, (underlying t).run P w = .ok (.struct fs) w) (hf : (fs[f]?).map (fun x => (x.type, x.offset)) = some (ft, o)) (hs : ∀ w, (sizeOf ft).run P w = .ok (n + 1) w) : FldT P t f o :=
 ⟨fun g b w => by
  cases h : fs[f]? with
  | none => rw [h] at hf; cases hf
  | some fl =>
   rw [h] at hf
   simp only [Option.map_some, Option.some.injEq, Prod.mk.injEq] at hf
   obtain ⟨rfl, rfl⟩ := hf
   simp only [Instr.fieldAt, Sem.run_bind, hu, Result.andThen_ok, h, Instr.sureAddr, fieldPlace, hs, Sem.run_pure]
   by_cases h0 : fl.offset = 0 <;> simp [Addr.add, h0]⟩
theorem slt {P : Program} {t e : TypeId} {i : TypeInfo} {z : Value} {s b : Nat} (hu : P.underlying t = some (.slice e)) (hi : P.info? e = some i) (hz : i.zero = some z) (hs : i.size = s) (hb : i.bytes = b) (hzs : z.cells.size = s) : SlT P t e s b := ⟨hu, i, z, hi, hz, hs, hb, hzs⟩
instance int_2 : IntT p_ 2 .i64 := ⟨Tryd.runUnderlying2⟩
instance one_3 : OneT p_ 3 := ⟨Tryd.isAgg3, Tryd.sizeOf3⟩
instance int_3 : IntT p_ 3 .i64 := ⟨Tryd.runUnderlying3⟩
instance one_4 : OneT p_ 4 := ⟨Tryd.isAgg4, Tryd.sizeOf4⟩
instance zero_4 : ZeroT p_ 4 (.bool false) := ⟨Tryd.zeroValue4⟩
instance one_5 : OneT p_ 5 := ⟨Tryd.isAgg5, Tryd.sizeOf5⟩
instance int_5 : IntT p_ 5 .u8 := ⟨Tryd.runUnderlying5⟩
instance one_9 : OneT p_ 9 := ⟨Tryd.isAgg9, Tryd.sizeOf9⟩
instance str_9 : StrT p_ 9 := ⟨Tryd.underlying9⟩
instance one_22 : OneT p_ 22 := ⟨Tryd.isAgg22, Tryd.sizeOf22⟩
instance sl_22 : SlT p_ 22 35 2 32 := slt (z := (.agg #[(.string ⟨#[]⟩), (.string ⟨#[]⟩)])) Tryd.underlying22 (i := Tryd.t35) (by kernel_rfl) (by kernel_rfl) (by kernel_rfl) (by kernel_rfl) (by kernel_rfl)
instance zero_24 : ZeroT p_ 24 (.agg #[(.string ⟨#[]⟩), (.string ⟨#[]⟩), (.int .i64 0), (.slice none 0 0)]) := ⟨Tryd.zeroValue24⟩
instance agg_24 : AggT p_ 24 4 := ⟨Tryd.isAgg24, Tryd.sizeOf24⟩
instance fld_24_0 : FldT p_ 24 0 0 := fld Tryd.runUnderlying24 (ft := 9) (by kernel_rfl) Tryd.sizeOf9
instance fld_24_1 : FldT p_ 24 1 1 := fld Tryd.runUnderlying24 (ft := 9) (by kernel_rfl) Tryd.sizeOf9
instance fld_24_2 : FldT p_ 24 2 2 := fld Tryd.runUnderlying24 (ft := 3) (by kernel_rfl) Tryd.sizeOf3
instance fld_24_3 : FldT p_ 24 3 3 := fld Tryd.runUnderlying24 (ft := 22) (by kernel_rfl) Tryd.sizeOf22
instance fld_26_0 : FldT p_ 26 0 0 := fld Tryd.runUnderlying26 (ft := 3) (by kernel_rfl) Tryd.sizeOf3
instance fld_26_1 : FldT p_ 26 1 1 := fld Tryd.runUnderlying26 (ft := 9) (by kernel_rfl) Tryd.sizeOf9
instance fld_26_2 : FldT p_ 26 2 2 := fld Tryd.runUnderlying26 (ft := 3) (by kernel_rfl) Tryd.sizeOf3
instance fld_26_3 : FldT p_ 26 3 3 := fld Tryd.runUnderlying26 (ft := 9) (by kernel_rfl) Tryd.sizeOf9
instance fld_26_4 : FldT p_ 26 4 4 := fld Tryd.runUnderlying26 (ft := 9) (by kernel_rfl) Tryd.sizeOf9
instance fld_26_5 : FldT p_ 26 5 5 := fld Tryd.runUnderlying26 (ft := 4) (by kernel_rfl) Tryd.sizeOf4
instance zero_27 : ZeroT p_ 27 (.agg #[(.int .i64 0), (.string ⟨#[]⟩), (.int .i64 0), (.string ⟨#[]⟩), (.string ⟨#[]⟩), (.bool false)]) := ⟨Tryd.zeroValue27⟩
instance agg_27 : AggT p_ 27 6 := ⟨Tryd.isAgg27, Tryd.sizeOf27⟩
instance fld_27_0 : FldT p_ 27 0 0 := fld Tryd.runUnderlying27 (ft := 3) (by kernel_rfl) Tryd.sizeOf3
instance fld_27_1 : FldT p_ 27 1 1 := fld Tryd.runUnderlying27 (ft := 9) (by kernel_rfl) Tryd.sizeOf9
instance fld_27_2 : FldT p_ 27 2 2 := fld Tryd.runUnderlying27 (ft := 3) (by kernel_rfl) Tryd.sizeOf3
instance fld_27_3 : FldT p_ 27 3 3 := fld Tryd.runUnderlying27 (ft := 9) (by kernel_rfl) Tryd.sizeOf9
instance fld_27_4 : FldT p_ 27 4 4 := fld Tryd.runUnderlying27 (ft := 9) (by kernel_rfl) Tryd.sizeOf9
instance fld_27_5 : FldT p_ 27 5 5 := fld Tryd.runUnderlying27 (ft := 4) (by kernel_rfl) Tryd.sizeOf4
instance one_29 : OneT p_ 29 := ⟨Tryd.isAgg29, Tryd.sizeOf29⟩
instance zero_29 : ZeroT p_ 29 (.slice none 0 0) := ⟨Tryd.zeroValue29⟩
instance sl_29 : SlT p_ 29 9 1 16 := slt (z := (.string ⟨#[]⟩)) Tryd.underlying29 (i := Tryd.t9) (by kernel_rfl) (by kernel_rfl) (by kernel_rfl) (by kernel_rfl) (by kernel_rfl)
instance zero_35 : ZeroT p_ 35 (.agg #[(.string ⟨#[]⟩), (.string ⟨#[]⟩)]) := ⟨Tryd.zeroValue35⟩
instance agg_35 : AggT p_ 35 2 := ⟨Tryd.isAgg35, Tryd.sizeOf35⟩
instance fld_35_0 : FldT p_ 35 0 0 := fld Tryd.runUnderlying35 (ft := 9) (by kernel_rfl) Tryd.sizeOf9
instance fld_35_1 : FldT p_ 35 1 1 := fld Tryd.runUnderlying35 (ft := 9) (by kernel_rfl) Tryd.sizeOf9
instance one_43 : OneT p_ 43 := ⟨Tryd.isAgg43, Tryd.sizeOf43⟩
instance ptr_43 : PtrT p_ 43 := ⟨by kernel_rfl⟩
instance one_44 : OneT p_ 44 := ⟨Tryd.isAgg44, Tryd.sizeOf44⟩
instance zero_44 : ZeroT p_ 44 (.int .i64 0) := ⟨Tryd.zeroValue44⟩
instance one_47 : OneT p_ 47 := ⟨Tryd.isAgg47, Tryd.sizeOf47⟩
instance sl_47 : SlT p_ 47 79 2 16 := slt (z := (.agg #[(.int .i64 0), (.int .i64 0)])) Tryd.underlying47 (i := Tryd.t79) (by kernel_rfl) (by kernel_rfl) (by kernel_rfl) (by kernel_rfl) (by kernel_rfl)
instance zero_49 : ZeroT p_ 49 (.agg #[(.string ⟨#[]⟩), (.slice none 0 0), (.int .i64 0), (.int .i64 0)]) := ⟨Tryd.zeroValue49⟩
instance agg_49 : AggT p_ 49 4 := ⟨Tryd.isAgg49, Tryd.sizeOf49⟩
instance fld_49_1 : FldT p_ 49 1 1 := fld Tryd.runUnderlying49 (ft := 47) (by kernel_rfl) Tryd.sizeOf47
instance fld_49_2 : FldT p_ 49 2 2 := fld Tryd.runUnderlying49 (ft := 3) (by kernel_rfl) Tryd.sizeOf3
instance one_51 : OneT p_ 51 := ⟨Tryd.isAgg51, Tryd.sizeOf51⟩
instance sl_51 : SlT p_ 51 85 2 16 := slt (z := (.agg #[(.int .i64 0), (.int .i64 0)])) Tryd.underlying51 (i := Tryd.t85) (by kernel_rfl) (by kernel_rfl) (by kernel_rfl) (by kernel_rfl) (by kernel_rfl)
instance zero_53 : ZeroT p_ 53 (.agg #[(.string ⟨#[]⟩), (.slice none 0 0), (.int .i64 0), (.int .i64 0)]) := ⟨Tryd.zeroValue53⟩
instance agg_53 : AggT p_ 53 4 := ⟨Tryd.isAgg53, Tryd.sizeOf53⟩
instance fld_53_0 : FldT p_ 53 0 0 := fld Tryd.runUnderlying53 (ft := 9) (by kernel_rfl) Tryd.sizeOf9
instance fld_53_1 : FldT p_ 53 1 1 := fld Tryd.runUnderlying53 (ft := 51) (by kernel_rfl) Tryd.sizeOf51
instance fld_53_2 : FldT p_ 53 2 2 := fld Tryd.runUnderlying53 (ft := 3) (by kernel_rfl) Tryd.sizeOf3
instance fld_53_3 : FldT p_ 53 3 3 := fld Tryd.runUnderlying53 (ft := 3) (by kernel_rfl) Tryd.sizeOf3
instance zero_57 : ZeroT p_ 57 (.agg #[(.int .i64 0), (.int .i64 0)]) := ⟨Tryd.zeroValue57⟩
instance agg_57 : AggT p_ 57 2 := ⟨Tryd.isAgg57, Tryd.sizeOf57⟩
instance fld_57_0 : FldT p_ 57 0 0 := fld Tryd.runUnderlying57 (ft := 3) (by kernel_rfl) Tryd.sizeOf3
instance fld_57_1 : FldT p_ 57 1 1 := fld Tryd.runUnderlying57 (ft := 3) (by kernel_rfl) Tryd.sizeOf3
instance one_64 : OneT p_ 64 := ⟨Tryd.isAgg64, Tryd.sizeOf64⟩
instance bytes_64 : BytesT p_ 64 := ⟨_, Tryd.underlying64, Tryd.underlying5⟩
instance sl_64 : SlT p_ 64 5 1 1 := slt (z := (.int .u8 0)) Tryd.underlying64 (i := Tryd.t5) (by kernel_rfl) (by kernel_rfl) (by kernel_rfl) (by kernel_rfl) (by kernel_rfl)
instance zero_66 : ZeroT p_ 66 (.agg #[(.pointer none), (.slice none 0 0)]) := ⟨Tryd.zeroValue66⟩
instance fld_66_1 : FldT p_ 66 1 1 := fld Tryd.runUnderlying66 (ft := 64) (by kernel_rfl) Tryd.sizeOf64
instance one_74 : OneT p_ 74 := ⟨Tryd.isAgg74, Tryd.sizeOf74⟩
instance map_74 : MapT p_ 74 3 80 := ⟨Tryd.underlying74⟩
instance one_75 : OneT p_ 75 := ⟨Tryd.isAgg75, Tryd.sizeOf75⟩
instance sl_75 : SlT p_ 75 80 1 8 := slt (z := (.pointer none)) Tryd.underlying75 (i := Tryd.t80) (by kernel_rfl) (by kernel_rfl) (by kernel_rfl) (by kernel_rfl) (by kernel_rfl)
instance fld_77_0 : FldT p_ 77 0 0 := fld Tryd.runUnderlying77 (ft := 75) (by kernel_rfl) Tryd.sizeOf75
instance fld_77_1 : FldT p_ 77 1 1 := fld Tryd.runUnderlying77 (ft := 74) (by kernel_rfl) Tryd.sizeOf74
instance fld_77_2 : FldT p_ 77 2 2 := fld Tryd.runUnderlying77 (ft := 74) (by kernel_rfl) Tryd.sizeOf74
instance fld_77_3 : FldT p_ 77 3 3 := fld Tryd.runUnderlying77 (ft := 3) (by kernel_rfl) Tryd.sizeOf3
instance fld_77_4 : FldT p_ 77 4 4 := fld Tryd.runUnderlying77 (ft := 3) (by kernel_rfl) Tryd.sizeOf3
instance zero_79 : ZeroT p_ 79 (.agg #[(.int .i64 0), (.int .i64 0)]) := ⟨Tryd.zeroValue79⟩
instance agg_79 : AggT p_ 79 2 := ⟨Tryd.isAgg79, Tryd.sizeOf79⟩
instance fld_79_0 : FldT p_ 79 0 0 := fld Tryd.runUnderlying79 (ft := 3) (by kernel_rfl) Tryd.sizeOf3
instance fld_79_1 : FldT p_ 79 1 1 := fld Tryd.runUnderlying79 (ft := 3) (by kernel_rfl) Tryd.sizeOf3
instance one_80 : OneT p_ 80 := ⟨Tryd.isAgg80, Tryd.sizeOf80⟩
instance zero_80 : ZeroT p_ 80 (.pointer none) := ⟨Tryd.zeroValue80⟩
instance ptr_80 : PtrT p_ 80 := ⟨by kernel_rfl⟩
instance one_82 : OneT p_ 82 := ⟨Tryd.isAgg82, Tryd.sizeOf82⟩
instance sl_82 : SlT p_ 82 3 1 8 := slt (z := (.int .i64 0)) Tryd.underlying82 (i := Tryd.t3) (by kernel_rfl) (by kernel_rfl) (by kernel_rfl) (by kernel_rfl) (by kernel_rfl)
instance fld_84_0 : FldT p_ 84 0 0 := fld Tryd.runUnderlying84 (ft := 79) (by kernel_rfl) Tryd.sizeOf79
instance fld_84_1 : FldT p_ 84 1 2 := fld Tryd.runUnderlying84 (ft := 82) (by kernel_rfl) Tryd.sizeOf82
instance fld_84_2 : FldT p_ 84 2 3 := fld Tryd.runUnderlying84 (ft := 3) (by kernel_rfl) Tryd.sizeOf3
instance fld_84_3 : FldT p_ 84 3 4 := fld Tryd.runUnderlying84 (ft := 3) (by kernel_rfl) Tryd.sizeOf3
instance fld_85_0 : FldT p_ 85 0 0 := fld Tryd.runUnderlying85 (ft := 3) (by kernel_rfl) Tryd.sizeOf3
instance fld_85_1 : FldT p_ 85 1 1 := fld Tryd.runUnderlying85 (ft := 3) (by kernel_rfl) Tryd.sizeOf3
instance one_92 : OneT p_ 92 := ⟨Tryd.isAgg92, Tryd.sizeOf92⟩
instance agg_94 : AggT p_ 94 3 := ⟨Tryd.isAgg94, Tryd.sizeOf94⟩
instance fld_94_0 : FldT p_ 94 0 0 := fld Tryd.runUnderlying94 (ft := 4) (by kernel_rfl) Tryd.sizeOf4
instance fld_94_1 : FldT p_ 94 1 1 := fld Tryd.runUnderlying94 (ft := 4) (by kernel_rfl) Tryd.sizeOf4
instance fld_94_2 : FldT p_ 94 2 2 := fld Tryd.runUnderlying94 (ft := 92) (by kernel_rfl) Tryd.sizeOf92
instance agg_98 : AggT p_ 98 256 := ⟨Tryd.isAgg98, Tryd.sizeOf98⟩
instance arr_98 : ArrT p_ 98 256 3 1 := ⟨Tryd.runUnderlying98, Tryd.sizeOf3⟩
instance zero_107 : ZeroT p_ 107 (.agg #[(.int .u8 0), (.int .u8 0), (.int .u8 0), (.int .u8 0), (.int .u8 0), (.int .u8 0), (.int .u8 0), (.int .u8 0), (.int .u8 0), (.int .u8 0), (.int .u8 0), (.int .u8 0), (.int .u8 0), (.int .u8 0), (.int .u8 0), (.int .u8 0), (.int .u8 0), (.int .u8 0), (.int .u8 0), (.int .u8 0), (.int .u8 0), (.int .u8 0), (.int .u8 0), (.int .u8 0)]) := ⟨Tryd.zeroValue107⟩
instance arr_107 : ArrT p_ 107 24 5 1 := ⟨Tryd.runUnderlying107, Tryd.sizeOf5⟩
instance one_108 : OneT p_ 108 := ⟨Tryd.isAgg108, Tryd.sizeOf108⟩
instance int_108 : IntT p_ 108 .u64 := ⟨Tryd.runUnderlying108⟩
instance arr_115 : ArrT p_ 115 20 108 1 := ⟨Tryd.runUnderlying115, Tryd.sizeOf108⟩
instance int_116 : IntT p_ 116 .u32 := ⟨Tryd.runUnderlying116⟩
instance agg_125 : AggT p_ 125 256 := ⟨Tryd.isAgg125, Tryd.sizeOf125⟩
instance arr_125 : ArrT p_ 125 256 4 1 := ⟨Tryd.runUnderlying125, Tryd.sizeOf4⟩
instance bld_27_0_1_2_3_4_5 {a0 a1 a2 a3 a4 a5 : Value} [h0 : OC a0] [h1 : OC a1] [h2 : OC a2] [h3 : OC a3] [h4 : OC a4] [h5 : OC a5] : RV p_ (sBuild 27 [(0, a0), (1, a1), (2, a2), (3, a3), (4, a4), (5, a5)]) (.agg #[a0, a1, a2, a3, a4, a5]) := ⟨fun W w _ => by
 have c0 := cells_one h0.one; have c1 := cells_one h1.one; have c2 := cells_one h2.one; have c3 := cells_one h3.one; have c4 := cells_one h4.one; have c5 := cells_one h5.one; simp [sBuild, Instr.build, Tryd.zeroValue27, Tryd.runUnderlying27, Tryd.sizeOf3, Tryd.sizeOf4, Tryd.sizeOf9, cells_agg, Instr.fill, c0, c1, c2, c3, c4, c5]⟩
instance bld_24_0_1_2 {a0 a1 a2 : Value} [h0 : OC a0] [h1 : OC a1] [h2 : OC a2] : RV p_ (sBuild 24 [(0, a0), (1, a1), (2, a2)]) (.agg #[a0, a1, a2, (.slice none 0 0)]) := ⟨fun W w _ => by
 have c0 := cells_one h0.one; have c1 := cells_one h1.one; have c2 := cells_one h2.one; simp [sBuild, Instr.build, Tryd.zeroValue24, Tryd.runUnderlying24, Tryd.sizeOf3, Tryd.sizeOf9, Tryd.sizeOf22, cells_agg, Instr.fill, c0, c1, c2]⟩
instance bld_35_0_1 {a0 a1 : Value} [h0 : OC a0] [h1 : OC a1] : RV p_ (sBuild 35 [(0, a0), (1, a1)]) (.agg #[a0, a1]) := ⟨fun W w _ => by
 have c0 := cells_one h0.one; have c1 := cells_one h1.one; simp [sBuild, Instr.build, Tryd.zeroValue35, Tryd.runUnderlying35, Tryd.sizeOf9, cells_agg, Instr.fill, c0, c1]⟩
instance bld_77_1_2_5 {a0 a1 a2 : Value} [h0 : OC a0] [h1 : OC a1] [h2 : OC a2] : RV p_ (sBuild 77 [(1, a0), (2, a1), (5, a2)]) (.agg #[(.slice none 0 0), a0, a1, (.int .i64 0), (.int .i64 0), a2]) := ⟨fun W w _ => by
 have c0 := cells_one h0.one; have c1 := cells_one h1.one; have c2 := cells_one h2.one; simp [sBuild, Instr.build, Tryd.zeroValue77, Tryd.runUnderlying77, Tryd.sizeOf3, Tryd.sizeOf74, Tryd.sizeOf75, cells_agg, Instr.fill, c0, c1, c2]⟩
instance bld_84_0_3 {a0_0 a0_1 a1 : Value} [h1 : OC a1] : RV p_ (sBuild 84 [(0, .agg #[a0_0, a0_1]), (3, a1)]) (.agg #[a0_0, a0_1, (.slice none 0 0), (.int .i64 0), a1]) := ⟨fun W w _ => by
 have c1 := cells_one h1.one; simp [sBuild, Instr.build, Tryd.zeroValue84, Tryd.runUnderlying84, Tryd.sizeOf3, Tryd.sizeOf79, Tryd.sizeOf82, cells_agg, Instr.fill, c1]⟩
instance bld_49_0_2_3 {a0 a1 a2 : Value} [h0 : OC a0] [h1 : OC a1] [h2 : OC a2] : RV p_ (sBuild 49 [(0, a0), (2, a1), (3, a2)]) (.agg #[a0, (.slice none 0 0), a1, a2]) := ⟨fun W w _ => by
 have c0 := cells_one h0.one; have c1 := cells_one h1.one; have c2 := cells_one h2.one; simp [sBuild, Instr.build, Tryd.zeroValue49, Tryd.runUnderlying49, Tryd.sizeOf3, Tryd.sizeOf9, Tryd.sizeOf47, cells_agg, Instr.fill, c0, c1, c2]⟩
instance bld_79_0_1 {a0 a1 : Value} [h0 : OC a0] [h1 : OC a1] : RV p_ (sBuild 79 [(0, a0), (1, a1)]) (.agg #[a0, a1]) := ⟨fun W w _ => by
 have c0 := cells_one h0.one; have c1 := cells_one h1.one; simp [sBuild, Instr.build, Tryd.zeroValue79, Tryd.runUnderlying79, Tryd.sizeOf3, cells_agg, Instr.fill, c0, c1]⟩
instance bld_85_0_1 {a0 a1 : Value} [h0 : OC a0] [h1 : OC a1] : RV p_ (sBuild 85 [(0, a0), (1, a1)]) (.agg #[a0, a1]) := ⟨fun W w _ => by
 have c0 := cells_one h0.one; have c1 := cells_one h1.one; simp [sBuild, Instr.build, Tryd.zeroValue85, Tryd.runUnderlying85, Tryd.sizeOf3, cells_agg, Instr.fill, c0, c1]⟩
instance bld_53_1_2 {a0 a1 : Value} [h0 : OC a0] [h1 : OC a1] : RV p_ (sBuild 53 [(1, a0), (2, a1)]) (.agg #[(.string ⟨#[]⟩), a0, a1, (.int .i64 0)]) := ⟨fun W w _ => by
 have c0 := cells_one h0.one; have c1 := cells_one h1.one; simp [sBuild, Instr.build, Tryd.zeroValue53, Tryd.runUnderlying53, Tryd.sizeOf3, Tryd.sizeOf9, Tryd.sizeOf51, cells_agg, Instr.fill, c0, c1]⟩
instance bld_57_  : RV p_ (sBuild 57 []) (.agg #[(.int .i64 0), (.int .i64 0)]) := ⟨fun W w _ => by
   simp [sBuild, Instr.build, Tryd.zeroValue57, Tryd.runUnderlying57, Tryd.sizeOf3, cells_agg, Instr.fill]⟩
instance bld_57_0_1 {a0 a1 : Value} [h0 : OC a0] [h1 : OC a1] : RV p_ (sBuild 57 [(0, a0), (1, a1)]) (.agg #[a0, a1]) := ⟨fun W w _ => by
 have c0 := cells_one h0.one; have c1 := cells_one h1.one; simp [sBuild, Instr.build, Tryd.zeroValue57, Tryd.runUnderlying57, Tryd.sizeOf3, cells_agg, Instr.fill, c0, c1]⟩
instance bld_94_2 {a0 : Value} [h0 : OC a0] : RV p_ (sBuild 94 [(2, a0)]) (.agg #[(.bool false), (.bool false), a0]) := ⟨fun W w _ => by
 have c0 := cells_one h0.one; simp [sBuild, Instr.build, Tryd.zeroValue94, Tryd.runUnderlying94, Tryd.sizeOf4, Tryd.sizeOf92, cells_agg, Instr.fill, c0]⟩
end Go.Proofs.YthomhkpedghhgaaDoor.T
namespace Go.Proofs.YthomhkpedghhgaaDoor.Sl
open Go Sh
variable {P : Program} {W : World} {L L' : List HP} {Kp : PK} {k : Value -> WP}
theorem fill_run : ∀ (vs pre zs : List Value), zs.length = vs.length -> (∀ v ∈ vs, v.cells = #[v]) ->
  Instr.fill (fun i => some (i * 1, 1)) (pre ++ zs).toArray ((vs.zipIdx pre.length).map fun x => (x.2, x.1)) = some (pre ++ vs).toArray
 | [], pre, zs, hz, _ => by
  have : zs = [] := List.eq_nil_of_length_eq_zero (by simpa using hz)
  subst this; simp [Instr.fill]
 | v :: vs, pre, [], hz, _ => by simp at hz
 | v :: vs, pre, z :: zs, hz, ho => by
  have hv := ho v (by simp)
  have ih := fill_run vs (pre ++ [v]) zs (by simpa using hz) (fun u hu => ho u (by simp [hu]))
  simp only [List.zipIdx_cons, List.map_cons, Instr.fill, hv]
  rw [if_neg (by simp)]
  have h2 : Array.foldl (fun cs (x : Value × Nat) => cs.setIfInBounds (pre.length * 1 + x.2) x.1) (pre ++ z :: zs).toArray (#[v] : Array Value).zipIdx = (pre ++ [v] ++ zs).toArray := by
   simp
  have h3 : (pre ++ [v]).length = pre.length + 1 := by simp
  rw [h3] at ih
  rw [h2, ih]; simp
theorem e_bslN {t e : TypeId} {b n : Nat} {parts : List (Nat × Value)} {vs : List Value} [ht : SlT P t e 1 b] (hn : vs.length = n) (hp : parts = vs.zipIdx.map fun x => (x.2, x.1)) (ho : ∀ v ∈ vs, v.cells = #[v]) (hm : n <= 16777216)
  (h : ∀ g, Ent W (pt g (.cells vs.toArray e) :: L) (k (.slice (some ⟨g, 0, none⟩) n n))) : Ent W L (opN P (sBuildSl t n parts) Kp k) := fun w hw => by
 refine ⟨?_⟩
 obtain ⟨i, z, hi, hz, hs, hb, hzs⟩ := ht.info
 have : (sBuildSl t n parts).run P w = .ok (.value (.slice (some ⟨w.heap.size, 0, none⟩) n n)) (w.alloc (.cells vs.toArray e)) := by
  have hm' : ¬ (2 ^ 24 < n) := by omega
  have hf : ∀ zs : List Value, zs.length = vs.length -> Instr.fill (fun i => some (i * 1, 1)) zs.toArray parts = some vs.toArray := fun zs hz => by
   have := fill_run vs [] zs hz ho
   simpa [hp] using this
  by_cases h0 : n = 0
  ·have : vs = [] := List.eq_nil_of_length_eq_zero (by omega)
   subst this; subst h0
   simp [sBuildSl, Instr.buildSlice, run_underlying ht.ut, sizeOf_run hi, hs, hp, newRow, Instr.fill]
   have e0 : (Array.range 0).map (fun _ => (default : Value)) = #[] := Array.eq_empty_of_size_eq_zero (by simp)
   rw [e0]
  ·have hf' := hf ((List.range n).map fun j => z.cells[j % z.cells.size]!) (by simp [hn])
   have e1 : ((Array.range n).map fun j => z.cells[j % z.cells.size]!) = ((List.range n).map fun j => z.cells[j % z.cells.size]!).toArray := by
    apply Array.ext'
    simp [Array.toList_range]
   rw [<- e1] at hf'
   simp only [Nat.mul_one] at hf'
   simp [sBuildSl, Instr.buildSlice, run_underlying ht.ut, sizeOf_run hi, hs, h0, hm', zeroValue, typeInfo, hi, hz, newRow, hf']
 rw [this]
 exact h _ _ (hw.alloc _)
end Go.Proofs.YthomhkpedghhgaaDoor.Sl
namespace Go.Proofs.YthomhkpedghhgaaDoor.Sl
open Go Go.RowKit Sh
variable {P : Program} {W : World} {L L' : List HP} {Kp : PK} {k : Value -> WP} {H : Type} {enc : TypeId × Value -> H}
theorem spot_none {w : World} {a : Addr} {v : Value} (h : w.cell? a = some v) : a.spot = none /\ a.block < w.heap.size := by
 unfold World.cell? at h
 split at h
 ·rename_i c _ _ e
  refine ⟨?_, (Array.getElem?_eq_some_iff.1 e).1⟩
  cases hs : a.spot with
  | none => rfl
  | some x => rw [hs] at h; simp at h
 ·cases h
structure Old {α : Type} (W : World) (s : Nat) (rd : α -> List Value -> Prop) (a : Option Addr) (n : Nat) (xs : List α) : Prop where
 len : xs.length = n
 at_ : 0 < n -> ∃ g o, a = some ⟨g, o, none⟩ /\ g < W.heap.size /\ ∀ (i : Nat) (h : i < xs.length), ∃ cs : List Value, cs.length = s /\ rd xs[i] cs /\ ∀ (j : Nat) (v : Value), cs[j]? = some v -> W.cell? ⟨g, o + (i * s + j), none⟩ = some v
theorem v_ldOld {t : TypeId} {g o : Nat} {v : Value} [ht : OneT P t] (hg : g < W.heap.size) (hv : W.cell? ⟨g, o, none⟩ = some v) : RunV P W [] (sLoad t (.pointer (some ⟨g, o, none⟩))) v := by
 have H : RdB W (pu True) (some ⟨g, o, none⟩) 1 [v] := rd_old rfl hg (fun j u hu => by
  match j, hu with
  | 0, hu => simp at hu; subst hu; exact hv)
 have := v_ldRd (P := P) (t := t) (j := 0) H rfl
 exact fun w hw => this w (Imp.sat (.pu trivial .refl) hw)
theorem choose_list {α : Type} {n : Nat} {R : Nat -> α -> Prop} (h : ∀ i, i < n -> ∃ a, R i a) : ∃ xs : List α, xs.length = n /\ ∀ (i : Nat) (hi : i < xs.length), R i xs[i] := by
 induction n with
 | zero => exact ⟨[], rfl, fun i hi => by simp at hi⟩
 | succ n ih =>
  obtain ⟨xs, h1, h2⟩ := ih fun i hi => h i (by omega)
  obtain ⟨a, ha⟩ := h n (by omega)
  refine ⟨xs ++ [a], by simp [h1], fun i hi => ?_⟩
  by_cases c : i < xs.length
  ·rw [List.getElem_append_left c]; exact h2 i c
  ·have : i = n := by simp at hi; omega
   subst this
   rw [List.getElem_append_right (by omega)]
   simpa [h1] using ha
theorem bulk_cons (d : DataW H) (r : List (DataW H)) : Rows.uptoBulkAll (d :: r) = Rows.uptoBulk d + Rows.uptoBulkAll r := by simp [Rows.uptoBulkAll]
theorem bulk_sum {α : Type} {m : α -> Nat} : ∀ (xs : List α) (ds : List (DataW H)), xs.length = ds.length -> (∀ (i : Nat) (h1 : i < xs.length) (h2 : i < ds.length), m xs[i] <= Rows.uptoBulk ds[i]) -> (xs.map m).sum <= Rows.uptoBulkAll ds
 | [], [], _, _ => by simp
 | x :: xs, d :: ds, hl, h => by
  have h0 := h 0 (by simp) (by simp)
  have ih := bulk_sum xs ds (by simpa using hl) (fun i h1 h2 => h (i + 1) (by simp; omega) (by simp; omega))
  rw [bulk_cons, List.map_cons, List.sum_cons]
  simp only [List.getElem_cons_zero] at h0
  omega
theorem open_old {α : Type} {rd : α -> List Value -> Prop} {m : α -> Nat} {t e : TypeId} {s fuel : Nat} {sp : Nat -> Bool} {held : Bool} {cs : List Value} {x : DataW H × List MemPlace} (ht : P.underlying t = some (.slice e)) (hc : P.cellsOf e = s) (hs : 0 < s)
  (op : ∀ (n : Nat) (cs : List Value) (x : DataW H × List MemPlace), DataW.trod enc P W 0 sp held n e cs = some x -> ∃ a, rd a cs /\ m a <= Rows.uptoBulk x.1) (h : DataW.trod enc P W 0 sp held fuel t cs = some x) :
  ∃ (a : Option Addr) (n cap : Nat) (xs : List α), cs = [.slice a n cap] /\ n <= cap /\ cap <= maxLen /\ (a = none -> n = 0 /\ cap = 0) /\ Old W s rd a n xs /\ (xs.map m).sum + 1 <= Rows.uptoBulk x.1 := by
 rcases DataW.trod_slice ht h with ⟨rfl, rfl⟩ | ⟨a, len, cap, elems, rest, n, rfl, rfl, rfl, hb, hl, hm, he, hel, _, _⟩
 ·exact ⟨none, 0, 0, [], rfl, Nat.le_refl _, by unfold maxLen; omega, fun _ => ⟨rfl, rfl⟩, ⟨rfl, fun c => by omega⟩, by simp [Rows.uptoBulk]⟩
 ·have cell0 : ∀ i, i < len -> ∃ ds : List Value, ds.length = s /\ (∃ y, rd y ds /\ ∀ h : i < elems.length, m y <= Rows.uptoBulk elems[i].1) /\ ∀ j, j < s -> W.cell? ((a.add (i * s)).add j) = ds[j]? := fun i hi => by
   have h1 := hel i hi
   rw [List.getElem?_eq_getElem (by omega), Option.bind_eq_some_iff] at h1
   obtain ⟨ds, h2, h3⟩ := h1
   unfold World.cells? at h2
   rw [if_pos (Nat.zero_le _), hc] at h2
   obtain ⟨y, hy, hm2⟩ := op _ _ _ h3
   exact ⟨ds, by simpa using mapM_some_length h2, ⟨y, hy, fun _ => hm2⟩, fun j hj => mapM_some_get h2 j j (by simp [hj])⟩
  by_cases hz : len = 0
  ·subst hz
   exact ⟨some a, 0, cap, [], rfl, hl, hm, (fun c => by cases c), ⟨rfl, fun c => by omega⟩, by simp [Rows.uptoBulk]⟩
  obtain ⟨d0, hd0, _, hg0⟩ := cell0 0 (by omega)
  have h0 := hg0 0 hs
  have ea : (a.add (0 * s)).add 0 = a := by unfold Addr.add; simp
  rw [ea, List.getElem?_eq_getElem (by omega)] at h0
  obtain ⟨s1, s2⟩ := spot_none h0
  obtain ⟨g, o, sp'⟩ := a
  obtain rfl : sp' = none := s1
  have key : ∀ i, i < len -> ∃ y : α, (∀ h : i < elems.length, m y <= Rows.uptoBulk elems[i].1) /\ ∃ ds : List Value, ds.length = s /\ rd y ds /\ ∀ (j : Nat) (v : Value), ds[j]? = some v -> W.cell? ⟨g, o + (i * s + j), none⟩ = some v := fun i hi => by
   obtain ⟨ds, hlen, ⟨y, hy, hyb⟩, hget⟩ := cell0 i hi
   refine ⟨y, hyb, ds, hlen, hy, fun j v hv => ?_⟩
   have hj : j < s := by
    rcases Nat.lt_or_ge j ds.length with c | c
    ·omega
    ·rw [List.getElem?_eq_none c] at hv; cases hv
   have := hget j hj
   rw [addr_add, addr_add, hv, Nat.add_assoc] at this
   exact this
  obtain ⟨xs, h1, h2⟩ := choose_list key
  refine ⟨some ⟨g, o, none⟩, len, cap, xs, rfl, hl, hm, (fun c => by cases c), ⟨h1, fun hn => ⟨g, o, rfl, s2, fun i hi => (h2 i hi).2⟩⟩, ?_⟩
  have := bulk_sum (m := m) xs (elems.map (·.1)) (by simp; omega) (fun i e1 e2 => by simpa using (h2 i e1).1 (by simpa using e2))
  simp only [Rows.uptoBulk]
  omega
end Go.Proofs.YthomhkpedghhgaaDoor.Sl
namespace Go.Proofs.YthomhkpedghhgaaDoor.Sl
open Go Sh
variable {P : Program} {W : World} {L L' : List HP} {Kp : PK} {k : Value -> WP}
theorem fold_put (o : Nat) : ∀ (us pre zs : List Value) (m : Nat), pre.length = o + m -> us.length <= zs.length ->
  (us.zipIdx m).foldl (fun (cs : Array Value) (x : Value × Nat) => cs.setIfInBounds (o + x.2) x.1) (pre ++ zs).toArray = (pre ++ us ++ zs.drop us.length).toArray
 | [], pre, zs, m, _, _ => by simp
 | u :: us, pre, [], m, _, h => by simp at h
 | u :: us, pre, z :: zs, m, hp, h => by
  have ih := fold_put o us (pre ++ [u]) zs (m + 1) (by simp; omega) (by simpa using h)
  have e : ((pre ++ z :: zs).toArray).setIfInBounds (o + m) u = (pre ++ [u] ++ zs).toArray := by
   rw [<- hp]; simp
  rw [List.zipIdx_cons, List.foldl_cons]
  simp only
  rw [e, ih]; simp
theorem fill_runS (s : Nat) : ∀ (vs pre zs : List Value) (m : Nat), pre.length = m * s -> zs.length = vs.length * s -> (∀ v ∈ vs, v.cells.size = s) ->
  Instr.fill (fun i => some (i * s, s)) (pre ++ zs).toArray ((vs.zipIdx m).map fun x => (x.2, x.1)) = some (pre ++ vs.flatMap fun v => v.cells.toList).toArray
 | [], pre, zs, m, _, hz, _ => by
  have : zs = [] := List.eq_nil_of_length_eq_zero (by simpa using hz)
  subst this; simp [Instr.fill]
 | v :: vs, pre, zs, m, hp, hz, ho => by
  have hv := ho v (by simp)
  have hz' : zs.length = vs.length * s + s := by rw [hz, List.length_cons, Nat.add_mul, Nat.one_mul]
  have ih := fill_runS s vs (pre ++ v.cells.toList) (zs.drop s) (m + 1) (by rw [List.length_append, hp, Array.length_toList, hv, Nat.add_mul, Nat.one_mul]) (by rw [List.length_drop, hz']; omega) (fun u hu => ho u (by simp [hu]))
  simp only [List.zipIdx_cons, List.map_cons, Instr.fill, hv]
  rw [if_neg (by simp [hp, hz'])]
  have h2 : Array.foldl (fun cs (x : Value × Nat) => cs.setIfInBounds (m * s + x.2) x.1) (pre ++ zs).toArray v.cells.zipIdx = (pre ++ v.cells.toList ++ zs.drop s).toArray := by
   have := fold_put (m * s) v.cells.toList pre zs 0 (by simpa using hp) (by rw [Array.length_toList, hv]; omega)
   rw [Array.length_toList, hv] at this
   rw [<- this]
   have e2 : v.cells.zipIdx.toList = v.cells.toList.zipIdx := by simp
   rw [<- e2, Array.foldl_toList]
  rw [h2, ih]; simp
theorem e_bslS {t e : TypeId} {s b n : Nat} {parts : List (Nat × Value)} {vs : List Value} [ht : SlT P t e s b] (hn : vs.length = n) (h1 : 0 < n) (hp : parts = vs.zipIdx.map fun x => (x.2, x.1)) (ho : ∀ v ∈ vs, v.cells.size = s) (hm : n * s <= 16777216)
  (h : ∀ g, Ent W (pt g (.cells (vs.flatMap fun v => v.cells.toList).toArray e) :: L) (k (.slice (some ⟨g, 0, none⟩) n n))) : Ent W L (opN P (sBuildSl t n parts) Kp k) := fun w hw => by
 refine ⟨?_⟩
 obtain ⟨i, z, hi, hz, hs, hb, hzs⟩ := ht.info
 have : (sBuildSl t n parts).run P w = .ok (.value (.slice (some ⟨w.heap.size, 0, none⟩) n n)) (w.alloc (.cells (vs.flatMap fun v => v.cells.toList).toArray e)) := by
  have hm' : ¬ (2 ^ 24 < n * s) := by omega
  have hf : ∀ zs : Array Value, zs.size = n * s -> Instr.fill (fun i => some (i * s, s)) zs parts = some (vs.flatMap fun v => v.cells.toList).toArray := fun zs hz => by
   have := fill_runS s vs [] zs.toList 0 (by simp) (by simp [hz, hn]) ho
   simpa [hp] using this
  by_cases h0 : n * s = 0
  ·simp [sBuildSl, Instr.buildSlice, run_underlying ht.ut, sizeOf_run hi, hs, zeroValue, typeInfo, hi, hz, newRow, h0]
   have := hf ((Array.range 0).map fun _ => (default : Value)) (by simp [h0])
   rw [this]
   simp
  ·simp [sBuildSl, Instr.buildSlice, run_underlying ht.ut, sizeOf_run hi, hs, hm', zeroValue, typeInfo, hi, hz, newRow, h0]
   have := hf ((Array.range (n * s)).map fun j => z.cells[j % z.cells.size]!) (by simp)
   rw [this]
   simp
 rw [this]
 exact h _ _ (hw.alloc _)
theorem flat_len {α : Type} {f : α -> List Value} {s : Nat} (hf : ∀ x, (f x).length = s) : ∀ l : List α, (l.flatMap f).length = l.length * s
 | [] => by simp
 | x :: l => by rw [List.flatMap_cons, List.length_append, hf, flat_len hf l, List.length_cons, Nat.add_mul, Nat.one_mul, Nat.add_comm]
theorem flat_get {α : Type} {f : α -> List Value} {s : Nat} (hf : ∀ x, (f x).length = s) : ∀ (l : List α) (i j : Nat) (hi : i < l.length) (hj : j < s), (l.flatMap f)[i * s + j]? = (f l[i])[j]?
 | x :: l, 0, j, _, hj => by
  rw [List.flatMap_cons, Nat.zero_mul, Nat.zero_add, List.getElem?_append_left (by rw [hf]; exact hj)]; rfl
 | x :: l, i + 1, j, hi, hj => by
  rw [List.flatMap_cons, List.getElem?_append_right (by rw [hf, Nat.add_mul]; omega), hf, show (i + 1) * s + j - s = i * s + j by rw [Nat.add_mul]; omega, flat_get hf l i j (by simpa using hi) hj]; rfl
end Go.Proofs.YthomhkpedghhgaaDoor.Sl
namespace Go.Proofs.YthomhkpedghhgaaDoor.Sl
open Go Go.RowKit Sh
variable {P : Program} {W : World} {L L' : List HP} {Kp : PK} {k : Value -> WP} {H : Type} {enc : TypeId × Value -> H}
def I (n : Int) : Value := .int .i64 n
theorem I_one {l : List Int} : ∀ u ∈ l.map I, u.oneCell' = true := by
 intro u hu; obtain ⟨c, _, rfl⟩ := List.mem_map.1 hu; rfl
theorem I_get {l : List Int} {j : Nat} (h : j < l.length) : (l.map I)[j]? = some (I l[j]) := by simp [h]
def An (n : Nat) (f : Nat -> Int) : Array Value := ((List.range n).map fun j => I (f j)).toArray
theorem An_size (n : Nat) (f : Nat -> Int) : (An n f).size = n := by simp [An]
theorem An_get {n j : Nat} {f : Nat -> Int} (h : j < n) : (An n f)[j]? = some (I (f j)) := by simp [An, h]
theorem An_congr {n : Nat} {f g : Nat -> Int} (h : ∀ j, j < n -> f j = g j) : An n f = An n g := by
 unfold An
 congr 1
 exact List.map_congr_left fun j hj => by rw [h j (List.mem_range.1 hj)]
theorem An_set {n j : Nat} {f : Nat -> Int} {v : Int} : (An n f).setIfInBounds j (I v) = An n fun i => if i = j then v else f i := by
 apply Array.ext_getElem?
 intro i
 rw [Array.getElem?_setIfInBounds, An_size]
 by_cases c : j = i
 ·subst c
  rw [if_pos rfl]
  by_cases h : j < n
  ·rw [if_pos h, An_get h]; simp
  ·rw [if_neg h, Array.getElem?_eq_none (by rw [An_size]; omega)]
 ·rw [if_neg c]
  by_cases h : i < n
  ·rw [An_get h, An_get h, if_neg (fun e => c e.symm)]
  ·rw [Array.getElem?_eq_none (by rw [An_size]; omega), Array.getElem?_eq_none (by rw [An_size]; omega)]
end Go.Proofs.YthomhkpedghhgaaDoor.Sl
namespace Go.Proofs.YthomhkpedghhgaaDoor.S
open Go Sh Sl
theorem wide : p_.follows .mixedOrders = true := by kernel_rfl
theorem sh_ {f : FuncId} {fn : Func} {an : Ann} {args : List Value} {sh : PK -> (Value -> WP) -> WP} (hc : ∀ (a : Array Value) (w : World), (callFunc f a).run p_ w = .ok (.enter f a) w) (hf : p_.funcs[f]? = some fn) (he : ∀ Kp K, cevF p_ an fn args Kp K = sh Kp K) : Shp p_ f args sh := shp wide hc hf he
theorem shT_ {f : FuncId} {fn : Func} {an : Ann} {args : List Value} {sh : PK -> (Value -> WP) -> WP} (hc : ∀ (a : Array Value) (w : World), (callFunc f a).run p_ w = .ok (.enter f a) w) (hf : p_.funcs[f]? = some fn) (he : ∀ Kp K, cevFT p_ an fn args Kp K = sh Kp K) : Shp p_ f args sh := shpT wide hc hf he
def lit0 : List UInt8 := [48, 48, 48, 49, 48, 50, 48, 51, 48, 52, 48, 53, 48, 54, 48, 55, 48, 56, 48, 57, 49, 48, 49, 49, 49, 50, 49, 51, 49, 52, 49, 53, 49, 54, 49, 55, 49, 56, 49, 57, 50, 48, 50, 49, 50, 50, 50, 51, 50, 52, 50, 53, 50, 54, 50, 55, 50, 56, 50, 57, 51, 48, 51, 49, 51, 50, 51, 51, 51, 52, 51, 53, 51, 54, 51, 55, 51, 56, 51, 57, 52, 48, 52, 49, 52, 50, 52, 51, 52, 52, 52, 53, 52, 54, 52, 55, 52, 56, 52, 57, 53, 48, 53, 49, 53, 50, 53, 51, 53, 52, 53, 53, 53, 54, 53, 55, 53, 56, 53, 57, 54, 48, 54, 49, 54, 50, 54, 51, 54, 52, 54, 53, 54, 54, 54, 55, 54, 56, 54, 57, 55, 48, 55, 49, 55, 50, 55, 51, 55, 52, 55, 53, 55, 54, 55, 55, 55, 56, 55, 57, 56, 48, 56, 49, 56, 50, 56, 51, 56, 52, 56, 53, 56, 54, 56, 55, 56, 56, 56, 57, 57, 48, 57, 49, 57, 50, 57, 51, 57, 52, 57, 53, 57, 54, 57, 55, 57, 56, 57, 57]
def lit1 : List UInt8 := [0, 1, 2, 2, 3, 3, 3, 3, 4, 4, 4, 4, 4, 4, 4, 4, 5, 5, 5, 5, 5, 5, 5, 5, 5, 5, 5, 5, 5, 5, 5, 5, 6, 6, 6, 6, 6, 6, 6, 6, 6, 6, 6, 6, 6, 6, 6, 6, 6, 6, 6, 6, 6, 6, 6, 6, 6, 6, 6, 6, 6, 6, 6, 6, 7, 7, 7, 7, 7, 7, 7, 7, 7, 7, 7, 7, 7, 7, 7, 7, 7, 7, 7, 7, 7, 7, 7, 7, 7, 7, 7, 7, 7, 7, 7, 7, 7, 7, 7, 7, 7, 7, 7, 7, 7, 7, 7, 7, 7, 7, 7, 7, 7, 7, 7, 7, 7, 7, 7, 7, 7, 7, 7, 7, 7, 7, 7, 7, 8, 8, 8, 8, 8, 8, 8, 8, 8, 8, 8, 8, 8, 8, 8, 8, 8, 8, 8, 8, 8, 8, 8, 8, 8, 8, 8, 8, 8, 8, 8, 8, 8, 8, 8, 8, 8, 8, 8, 8, 8, 8, 8, 8, 8, 8, 8, 8, 8, 8, 8, 8, 8, 8, 8, 8, 8, 8, 8, 8, 8, 8, 8, 8, 8, 8, 8, 8, 8, 8, 8, 8, 8, 8, 8, 8, 8, 8, 8, 8, 8, 8, 8, 8, 8, 8, 8, 8, 8, 8, 8, 8, 8, 8, 8, 8, 8, 8, 8, 8, 8, 8, 8, 8, 8, 8, 8, 8, 8, 8, 8, 8, 8, 8, 8, 8, 8, 8, 8, 8, 8, 8, 8, 8, 8, 8, 8, 8]
def law22_PoolPrivate (v0 v1 v2 v3 : Value) (Kp : PK) (K : Value → WP) : WP :=
 opN p_ (sBox 24 v0) Kp fun x4 =>
 opN p_ (sBox 26 v1) Kp fun x5 =>
 opN p_ (sFA 26 x5 0) Kp fun x15 =>
 opN p_ (sLoad 3 x15) Kp fun x16 =>
 opN p_ (sFA 26 x5 1) Kp fun x17 =>
 opN p_ (sLoad 9 x17) Kp fun x18 =>
 opN p_ (sFA 26 x5 2) Kp fun x19 =>
 opN p_ (sLoad 3 x19) Kp fun x20 =>
 opN p_ (sFA 26 x5 3) Kp fun x21 =>
 opN p_ (sLoad 9 x21) Kp fun x22 =>
 opN p_ (sFA 26 x5 4) Kp fun x23 =>
 opN p_ (sLoad 9 x23) Kp fun x24 =>
 opN p_ (sFA 26 x5 5) Kp fun x25 =>
 opN p_ (sLoad 4 x25) Kp fun x26 =>
 opN p_ (sBuild 27 [(0, x16), (1, x18), (2, x20), (3, x22), (4, x24), (5, x26)]) Kp fun x27 =>
 opN p_ (sAlloc 27) Kp fun x9 =>
 opN p_ (sStore 27 x9 x27) Kp fun _ =>
 opN p_ (sLoad 24 x4) Kp fun x28 =>
 opN p_ (sLoad 27 x9) Kp fun x29 =>
 opN p_ (sCall (fn 4) [x28, x29, v2, v3]) Kp fun x32 =>
 opN p_ (sAlloc 24) Kp fun x10 =>
 opN p_ (sStore 24 x10 x32) Kp fun _ =>
 opN p_ (sBuildSl 29 8 [(0, (.string ⟨#[67, 111, 110, 110, 101, 99, 116, 105, 111, 110]⟩)), (1, (.string ⟨#[75, 101, 101, 112, 45, 65, 108, 105, 118, 101]⟩)), (2, (.string ⟨#[84, 69]⟩)), (3, (.string ⟨#[84, 114, 97, 105, 108, 101, 114]⟩)), (4, (.string ⟨#[84, 114, 97, 110, 115, 102, 101, 114, 45, 69, 110, 99, 111, 100, 105, 110, 103]⟩)), (5, (.string ⟨#[85, 112, 103, 114, 97, 100, 101]⟩)), (6, (.string ⟨#[80, 114, 111, 120, 121, 45, 67, 111, 110, 110, 101, 99, 116, 105, 111, 110]⟩)), (7, (.string ⟨#[69, 120, 112, 101, 99, 116]⟩))]) Kp fun x33 =>
 loop1 (fun I1 m1 _ y12 =>
 opN p_ (sLen #[29] 3 [x33]) Kp fun x36 =>
 opN p_ (sBin .lss 3 y12 x36) Kp fun x37 =>
 condS x37
 (drS (stS p_ (sFA 24 x10 3) fun x40 =>
 stS p_ (sLoad 22 x40) fun x41 =>
 stS p_ (sIA 29 x33 y12) fun x44 =>
 stS p_ (sLoad 9 x44) fun x45 =>
 opN p_ (sCall (fn 5) [x41, x45]) Kp fun x46 =>
 stS p_ (sLen #[29] 3 [x46]) fun x47 =>
 stS p_ (sBin .gtr 3 x47 (.int .i64 0)) fun x48 =>
 condS x48
 (K (.bool false))
 (opN p_ (sBin .add 3 y12 (.int .i64 1)) Kp fun x39 =>
 next1 I1 m1 x39)))
 (opN p_ (sFA 24 x10 3) Kp fun x49 =>
 opN p_ (sLoad 22 x49) Kp fun x50 =>
 opN p_ (sCall (fn 5) [x50, (.string ⟨#[99, 111, 110, 116, 101, 110, 116, 45, 108, 101, 110, 103, 116, 104]⟩)]) Kp fun x51 =>
 opN p_ (sFA 24 x10 3) Kp fun x52 =>
 opN p_ (sLoad 22 x52) Kp fun x53 =>
 opN p_ (sCall (fn 5) [x53, (.string ⟨#[118, 105, 97]⟩)]) Kp fun x54 =>
 drS (stS p_ (sLen #[29] 3 [x54]) fun x56 =>
 stS p_ (sEq .neq 3 (.tmp 56) (.const (.int .i64 1)) x56 (.int .i64 1)) fun x57 =>
 gdK x57 false (fun k => k x54) fun x59 =>
 gdK x57 false (stS p_ (sIA 29 x59 (.int .i64 0))) fun x60 =>
 gdK x57 false (stS p_ (sLoad 9 x60)) fun x61 =>
 gdK x57 false (stS p_ (sLen #[9] 3 [x61])) fun x62 =>
 gdK x57 false (stS p_ (sBin .lss 3 x62 (.int .i64 9))) fun x63 =>
 stS p_ (sPick x57 (.bool true) x63) fun x64 =>
 gdK x64 false (fun k => k x54) fun x66 =>
 gdK x64 false (stS p_ (sIA 29 x66 (.int .i64 0))) fun x67 =>
 gdK x64 false (stS p_ (sLoad 9 x67)) fun x68 =>
 gdK x64 false (fun k => k x54) fun x69 =>
 gdK x64 false (stS p_ (sIA 29 x69 (.int .i64 0))) fun x70 =>
 gdK x64 false (stS p_ (sLoad 9 x70)) fun x71 =>
 gdK x64 false (stS p_ (sLen #[9] 3 [x71])) fun x72 =>
 gdK x64 false (stS p_ (sBin .sub 3 x72 (.int .i64 9))) fun x73 =>
 gdK x64 false (stS p_ (sSl 9 x68 (some x73) none none)) fun x74 =>
 gdK x64 false (stS p_ (sEq .neq 9 (.tmp 74) (.const (.string ⟨#[103, 97, 116, 101, 104, 111, 117, 115, 101]⟩)) x74 (.string ⟨#[103, 97, 116, 101, 104, 111, 117, 115, 101]⟩))) fun x75 =>
 stS p_ (sPick x64 (.bool true) x75) fun x76 =>
 gdK x76 false (stS p_ (sFA 24 x10 3)) fun x78 =>
 gdK x76 false (stS p_ (sLoad 22 x78)) fun x79 =>
 gdK x76 false (opN p_ (sCall (fn 5) [x79, (.string ⟨#[104, 111, 115, 116]⟩)]) Kp) fun x80 =>
 gdK x76 false (stS p_ (sLen #[29] 3 [x80])) fun x81 =>
 gdK x76 false (stS p_ (sEq .neq 3 (.tmp 81) (.const (.int .i64 1)) x81 (.int .i64 1))) fun x82 =>
 stS p_ (sPick x76 (.bool true) x82) fun x83 =>
 condS x83
 (K (.bool false))
 (drS (gdK v3 true (fun k => k x51) fun x86 =>
 gdK v3 true (stS p_ (sLen #[29] 3 [x86])) fun x87 =>
 gdK v3 true (stS p_ (sEq .eql 3 (.tmp 87) (.const (.int .i64 1)) x87 (.int .i64 1))) fun x88 =>
 stS p_ (sPick v3 x88 (.bool false)) fun x89 =>
 gdK x89 true (fun k => k x51) fun x91 =>
 gdD x89 true (stD p_ (sIA 29 x91 (.int .i64 0))) fun D8 x92 =>
 gdD x89 true (stD p_ (sLoad 9 x92)) fun D9 x93 =>
 gdK x89 true (fun k => k v2) fun x94 =>
 gdK x89 true (opN p_ (sCall (fn 6) [x94]) Kp) fun x95 =>
 (fun w => D9 w ∧ (fun w => D8 w ∧ (gdK x89 true (stS p_ (sEq .eql 9 (.tmp 93) (.tmp 95) x93 x95)) fun x96 =>
 stS p_ (sPick x89 x96 (.bool false)) fun x97 =>
 gdK x97 false (fun k => k v3) fun x99 =>
 gdK x97 false (stS p_ (sUn .not x99)) fun x100 =>
 gdK x97 false (fun k => k x100) fun x101 =>
 gdK x101 true (fun k => k x51) fun x102 =>
 gdK x101 true (stS p_ (sLen #[29] 3 [x102])) fun x103 =>
 gdK x101 true (stS p_ (sEq .eql 3 (.tmp 103) (.const (.int .i64 0)) x103 (.int .i64 0))) fun x104 =>
 gdK x97 false (stS p_ (sPick x101 x104 (.bool false))) fun x105 =>
 stS p_ (sPick x97 (.bool true) x105) fun x106 =>
 gdK x106 true (stS p_ (sFA 24 x10 2)) fun x108 =>
 gdK x106 true (stS p_ (sLoad 3 x108)) fun x109 =>
 gdK x106 true (stS p_ (sEq .eql 3 (.tmp 109) (.const (.int .i64 1)) x109 (.int .i64 1))) fun x110 =>
 stS p_ (sPick x106 x110 (.bool false)) fun x111 =>
 gdK x111 true (stS p_ (sFA 24 x10 0)) fun x113 =>
 gdK x111 true (stS p_ (sLoad 9 x113)) fun x114 =>
 gdK x111 true (stS p_ (sFA 24 x4 0)) fun x115 =>
 gdK x111 true (stS p_ (sLoad 9 x115)) fun x116 =>
 gdK x111 true (stS p_ (sEq .eql 9 (.tmp 114) (.tmp 116) x114 x116)) fun x117 =>
 stS p_ (sPick x111 x117 (.bool false)) fun x118 =>
 gdK x118 true (opN p_ (sCall (fn 7) []) Kp) fun x120 =>
 stS p_ (sPick x118 x120 (.bool false)) fun x121 =>
 K x121) w) w)))))) (.int .i64 0)
theorem law22_PoolPrivate_s {v0 v1 v2 v3 : Value} : Shp p_ 3 [v0, v1, v2, v3] (law22_PoolPrivate v0 v1 v2 v3) := sh_ Tryd.call3 Tryd.func3 (an := { loops := [(5, [12])], drs := [(7, .ofL [(0, 1), (1, 1), (2, 1), (3, 1), (4, 1), (5, 1), (6, 0), (7, 1), (8, 1)]), (11, .ofL [(0, 1), (1, 1), (2, 1), (3, 1), (4, 1), (5, 1), (6, 1), (7, 1), (8, 1), (9, 1), (10, 1), (11, 1), (12, 1), (13, 1), (14, 1), (15, 1), (16, 1), (17, 1), (18, 1), (19, 1), (20, 1), (21, 1), (22, 1), (23, 1), (24, 1), (25, 0), (26, 1), (27, 1), (28, 1)]), (13, .ofL [(0, 1), (1, 1), (2, 1), (3, 1), (4, 1), (5, 1), (6, 1), (7, 2), (8, 3), (9, 3), (10, 1), (11, 0), (12, 1), (13, 1), (14, 1), (15, 1), (16, 1), (17, 1), (18, 1), (19, 1), (20, 1), (21, 1), (22, 1), (23, 1), (24, 1), (25, 1), (26, 1), (27, 1), (28, 1), (29, 1), (30, 1), (31, 1), (32, 1), (33, 1), (34, 1), (35, 1), (36, 0), (37, 1), (38, 1)])] }) fun _ _ => by kernel_rfl
def pool_Forward (v0 v1 v2 v3 : Value) (Kp : PK) (K : Value → WP) : WP :=
 opN p_ (sBox 24 v0) Kp fun x4 =>
 opN p_ (sBox 27 v1) Kp fun x5 =>
 opN p_ (sAlloc 24) Kp fun x8 =>
 opN p_ (sFA 24 x4 0) Kp fun x14 =>
 opN p_ (sLoad 9 x14) Kp fun x15 =>
 opN p_ (sFA 27 x5 3) Kp fun x16 =>
 opN p_ (sLoad 9 x16) Kp fun x17 =>
 opN p_ (sBuild 24 [(0, x15), (1, x17), (2, (.int .i64 1))]) Kp fun x18 =>
 opN p_ (sAlloc 24) Kp fun x9 =>
 opN p_ (sStore 24 x9 x18) Kp fun _ =>
 cut0 (fun J1 =>
 opN p_ (sFA 27 x5 5) Kp fun x19 =>
 opN p_ (sLoad 4 x19) Kp fun x20 =>
 condS x20
 (opN p_ (sFA 24 x9 1) Kp fun x21 =>
 opN p_ (sLoad 9 x21) Kp fun x22 =>
 opN p_ (sFA 27 x5 4) Kp fun x23 =>
 opN p_ (sLoad 9 x23) Kp fun x24 =>
 opN p_ (sBin .add 9 (.string ⟨#[63]⟩) x24) Kp fun x25 =>
 opN p_ (sBin .add 9 x22 x25) Kp fun x26 =>
 opN p_ (sFA 24 x9 1) Kp fun x27 =>
 opN p_ (sStore 9 x27 x26) Kp fun _ =>
 J1)
 (J1)) fun _ =>
 opN p_ (sMkF (.func 8) [] [x9]) Kp fun x28 =>
 opN p_ (sFA 24 x4 3) Kp fun x30 =>
 opN p_ (sLoad 22 x30) Kp fun x31 =>
 opN p_ (sCall (fn 9) [x31, (.string ⟨#[72, 111, 115, 116]⟩)]) Kp fun x32 =>
 opN p_ (sExt x32 0) Kp fun x33 =>
 opN p_ (sExt x32 1) Kp fun x34 =>
 cut1 (fun J2 =>
 opN p_ (sFA 27 x5 0) Kp fun x35 =>
 opN p_ (sLoad 3 x35) Kp fun x36 =>
 opN p_ (sEq .eql 3 (.tmp 36) (.const (.int .i64 2)) x36 (.int .i64 2)) Kp fun x37 =>
 condS x37
 (opN p_ (sFA 27 x5 1) Kp fun x38 =>
 opN p_ (sLoad 9 x38) Kp fun x39 =>
 opN p_ (sFA 27 x5 2) Kp fun x40 =>
 opN p_ (sLoad 3 x40) Kp fun x41 =>
 opN p_ (sBin .geq 3 x41 (.int .i64 0)) Kp fun x42 =>
 condS x42
 (opN p_ (sFA 27 x5 2) Kp fun x44 =>
 opN p_ (sLoad 3 x44) Kp fun x45 =>
 opN p_ (sCall (fn 6) [x45]) Kp fun x46 =>
 opN p_ (sBin .add 9 (.string ⟨#[58]⟩) x46) Kp fun x47 =>
 opN p_ (sBin .add 9 x39 x47) Kp fun x48 =>
 J2 x48)
 (J2 x39))
 (J2 x33)) fun _ z11 =>
 opN p_ (sCall x28 [(.string ⟨#[72, 111, 115, 116]⟩), z11]) Kp fun x51 =>
 cut0 (fun J3 =>
 drS (stD p_ (sFA 24 x9 3) fun D0 x52 =>
 stD p_ (sLoad 22 x52) fun D1 x53 =>
 stD p_ (sFA 24 x4 3) fun D2 x54 =>
 stD p_ (sLoad 22 x54) fun D3 x55 =>
 andS (opN p_ (sCall (fn 11) [x55]) Kp fun x56 =>
 (fun w => D1 w ∧ (fun w => D0 w ∧ (opN p_ (sBuildSl 29 4 [(0, (.string ⟨#[72, 111, 115, 116]⟩)), (1, (.string ⟨#[67, 111, 110, 116, 101, 110, 116, 45, 76, 101, 110, 103, 116, 104]⟩)), (2, (.string ⟨#[69, 120, 112, 101, 99, 116]⟩)), (3, (.string ⟨#[86, 105, 97]⟩))]) Kp fun x57 =>
 (fun w => D3 w ∧ (fun w => D2 w ∧ (fun w => D1 w ∧ (fun w => D0 w ∧ (opN p_ (sCall (fn 10) [x56, x57]) Kp fun x58 =>
 (fun w => D1 w ∧ (fun w => D0 w ∧ (opN p_ (sApp #[22, 22] 22 [x53, x58]) Kp fun x59 =>
 stS p_ (sFA 24 x9 3) fun x60 =>
 opN p_ (sStore 22 x60 x59) Kp fun _ =>
 J3) w) w)) w) w) w) w)) w) w))
 (opN p_ (sBuildSl 29 4 [(0, (.string ⟨#[72, 111, 115, 116]⟩)), (1, (.string ⟨#[67, 111, 110, 116, 101, 110, 116, 45, 76, 101, 110, 103, 116, 104]⟩)), (2, (.string ⟨#[69, 120, 112, 101, 99, 116]⟩)), (3, (.string ⟨#[86, 105, 97]⟩))]) Kp fun x57 =>
 (fun w => D3 w ∧ (fun w => D2 w ∧ (fun w => D1 w ∧ (fun w => D0 w ∧ (opN p_ (sCall (fn 11) [x55]) Kp fun x56 =>
 (fun w => D1 w ∧ (fun w => D0 w ∧ (opN p_ (sCall (fn 10) [x56, x57]) Kp fun x58 =>
 (fun w => D1 w ∧ (fun w => D0 w ∧ (opN p_ (sApp #[22, 22] 22 [x53, x58]) Kp fun x59 =>
 stS p_ (sFA 24 x9 3) fun x60 =>
 opN p_ (sStore 22 x60 x59) Kp fun _ =>
 J3) w) w)) w) w)) w) w) w) w)))) fun _ =>
 cut1 (fun J4 =>
 opN p_ (sFA 24 x4 2) Kp fun x61 =>
 opN p_ (sLoad 3 x61) Kp fun x62 =>
 opN p_ (sEq .eql 3 (.tmp 62) (.const (.int .i64 0)) x62 (.int .i64 0)) Kp fun x63 =>
 condS x63
 (J4 (.string ⟨#[49, 46, 48, 32, 103, 97, 116, 101, 104, 111, 117, 115, 101]⟩))
 (J4 (.string ⟨#[49, 46, 49, 32, 103, 97, 116, 101, 104, 111, 117, 115, 101]⟩))) fun _ z13 =>
 opN p_ (sFA 24 x4 3) Kp fun x65 =>
 opN p_ (sLoad 22 x65) Kp fun x66 =>
 opN p_ (sCall (fn 13) [x66, (.string ⟨#[86, 105, 97]⟩)]) Kp fun x67 =>
 opN p_ (sBuildSl 29 1 [(0, z13)]) Kp fun x69 =>
 opN p_ (sApp #[29, 29] 29 [x67, x69]) Kp fun x70 =>
 opN p_ (sCall (fn 12) [x70, (.string ⟨#[44, 32]⟩)]) Kp fun x71 =>
 opN p_ (sCall x28 [(.string ⟨#[86, 105, 97]⟩), x71]) Kp fun x72 =>
 condS v3
 (opN p_ (sCall (fn 6) [v2]) Kp fun x76 =>
 opN p_ (sCall x28 [(.string ⟨#[67, 111, 110, 116, 101, 110, 116, 45, 76, 101, 110, 103, 116, 104]⟩), x76]) Kp fun x77 =>
 opN p_ (sLoad 24 x9) Kp fun x78 =>
 opN p_ (sStore 24 x8 x78) Kp fun _ =>
 (stS p_ (sRes 24 x8) fun r0 => K r0))
 (opN p_ (sLoad 24 x9) Kp fun x78 =>
 opN p_ (sStore 24 x8 x78) Kp fun _ =>
 (stS p_ (sRes 24 x8) fun r0 => K r0))
theorem pool_Forward_s {v0 v1 v2 v3 : Value} : Shp p_ 4 [v0, v1, v2, v3] (pool_Forward v0 v1 v2 v3) := sh_ Tryd.call4 Tryd.func4 (an := { cuts := [(4, []), (10, [11]), (15, [13])], drs := [(11, (.op 0 3 (.op 1 3 (.op 2 3 (.op 3 3 (.alt (.ofL [(4, 0), (5, 0), (6, 0), (7, 0), (8, 1), (9, 0)]) (.ofL [(5, 0), (4, 0), (6, 0), (7, 0), (8, 1), (9, 0)])))))))], rcuts := [(12, [])] }) fun _ _ => by kernel_rfl
def ref11_Values (v0 v1 : Value) (Kp : PK) (K : Value → WP) : WP :=
 loop2 (fun I1 m1 _ y5 y6 =>
 opN p_ (sLen #[22] 3 [v0]) Kp fun x9 =>
 opN p_ (sBin .lss 3 y6 x9) Kp fun x10 =>
 condS x10
 (opN p_ (sIA 22 v0 y6) Kp fun x15 =>
 opN p_ (sFA 35 x15 0) Kp fun x16 =>
 opN p_ (sLoad 9 x16) Kp fun x17 =>
 opN p_ (sCall (fn 14) [x17, v1]) Kp fun x19 =>
 condS x19
 (opN p_ (sIA 22 v0 y6) Kp fun x23 =>
 opN p_ (sFA 35 x23 1) Kp fun x24 =>
 opN p_ (sLoad 9 x24) Kp fun x25 =>
 opN p_ (sBuildSl 29 1 [(0, x25)]) Kp fun x26 =>
 opN p_ (sApp #[29, 29] 29 [y5, x26]) Kp fun x27 =>
 opN p_ (sBin .add 3 y6 (.int .i64 1)) Kp fun x12 =>
 next2 I1 m1 x27 x12)
 (opN p_ (sBin .add 3 y6 (.int .i64 1)) Kp fun x12 =>
 next2 I1 m1 y5 x12))
 (K y5)) (.slice none 0 0) (.int .i64 0)
theorem ref11_Values_s {v0 v1 : Value} : Shp p_ 5 [v0, v1] (ref11_Values v0 v1) := sh_ Tryd.call5 Tryd.func5 (an := { loops := [(3, [5, 6])] }) fun _ _ => by kernel_rfl
def ascii_Digits (v0 : Value) (Kp : PK) (K : Value -> WP) : WP :=
 opN p_ (sCall (fn 15) [v0]) Kp fun x4 =>
 K x4
theorem ascii_Digits_s {v0 : Value} : Shp p_ 6 [v0] (ascii_Digits v0) := sh_ Tryd.call6 Tryd.func6 (an := {}) fun _ _ => by kernel_rfl
def law22_knows (Kp : PK) (K : Value → WP) : WP :=
 opN p_ (sCall (fn 18) []) Kp fun x17 =>
 opN p_ (sCall (fn 17) [x17]) Kp fun x18 =>
 opN p_ (sCall (fn 16) [x18]) Kp fun x19 =>
 opN p_ (sExt x19 0) Kp fun x20 =>
 opN p_ (sExt x19 1) Kp fun x21 =>
 opN p_ (sCall (fn 19) [x21]) Kp fun x23 =>
 opN p_ (sEq .neq 3 (.tmp 23) (.const (.int .i64 0)) x23 (.int .i64 0)) Kp fun x24 =>
 gdK x24 false (fun k => k x20) fun x26 =>
 gdK x24 false (opN p_ (sEq .eql 43 (.tmp 26) (.const (.pointer none)) x26 (.pointer none)) Kp) fun x27 =>
 opN p_ (sPick x24 (.bool true) x27) Kp fun x28 =>
 condS x28
 (K (.bool false))
 (opN p_ (sCall (fn 20) [x20, (.int .i64 0)]) Kp fun x31 =>
 opN p_ (sExt x31 0) Kp fun x32 =>
 opN p_ (sExt x31 1) Kp fun x33 =>
 opN p_ (sExt x31 2) Kp fun x34 =>
 opN p_ (sAlloc 57) Kp fun x3 =>
 opN p_ (sStore 57 x3 x32) Kp fun _ =>
 opN p_ (sCall (fn 20) [x20, (.int .i64 0)]) Kp fun x37 =>
 opN p_ (sExt x37 0) Kp fun x38 =>
 opN p_ (sExt x37 1) Kp fun x39 =>
 opN p_ (sExt x37 2) Kp fun x40 =>
 opN p_ (sAlloc 57) Kp fun x6 =>
 opN p_ (sStore 57 x6 x38) Kp fun _ =>
 opN p_ (sCall (fn 20) [x20, (.int .i64 0)]) Kp fun x43 =>
 opN p_ (sExt x43 0) Kp fun x44 =>
 opN p_ (sExt x43 1) Kp fun x45 =>
 opN p_ (sExt x43 2) Kp fun x46 =>
 opN p_ (sAlloc 57) Kp fun x9 =>
 opN p_ (sStore 57 x9 x44) Kp fun _ =>
 opN p_ (sCall (fn 21) [x20, (.int .i64 0), (.bool true)]) Kp fun x48 =>
 opN p_ (sCall (fn 20) [x20, (.int .i64 0)]) Kp fun x51 =>
 opN p_ (sExt x51 0) Kp fun x52 =>
 opN p_ (sExt x51 1) Kp fun x53 =>
 opN p_ (sExt x51 2) Kp fun x54 =>
 opN p_ (sAlloc 57) Kp fun x13 =>
 opN p_ (sStore 57 x13 x52) Kp fun _ =>
 opN p_ (sFA 57 x3 0) Kp fun x55 =>
 opN p_ (sLoad 3 x55) Kp fun x56 =>
 opN p_ (sEq .eql 3 (.tmp 56) (.const (.int .i64 1)) x56 (.int .i64 1)) Kp fun x57 =>
 gdK x57 true (fun k => k x33) fun x59 =>
 opN p_ (sPick x57 x59 (.bool false)) Kp fun x60 =>
 gdK x60 true (opN p_ (sFA 57 x6 0) Kp) fun x62 =>
 gdK x60 true (opN p_ (sLoad 3 x62) Kp) fun x63 =>
 gdK x60 true (opN p_ (sEq .eql 3 (.tmp 63) (.const (.int .i64 2)) x63 (.int .i64 2)) Kp) fun x64 =>
 opN p_ (sPick x60 x64 (.bool false)) Kp fun x65 =>
 gdK x65 true (opN p_ (sFA 57 x6 1) Kp) fun x67 =>
 gdK x65 true (opN p_ (sLoad 3 x67) Kp) fun x68 =>
 gdK x65 true (opN p_ (sEq .eql 3 (.tmp 68) (.const (.int .i64 1)) x68 (.int .i64 1)) Kp) fun x69 =>
 opN p_ (sPick x65 x69 (.bool false)) Kp fun x70 =>
 gdK x70 true (fun k => k x39) fun x72 =>
 opN p_ (sPick x70 x72 (.bool false)) Kp fun x73 =>
 gdK x73 true (fun k => k x46) fun x75 =>
 gdK x73 true (opN p_ (sCall (fn 19) [x75]) Kp) fun x76 =>
 gdK x73 true (opN p_ (sEq .eql 3 (.tmp 76) (.const (.int .i64 63)) x76 (.int .i64 63)) Kp) fun x77 =>
 opN p_ (sPick x73 x77 (.bool false)) Kp fun x78 =>
 gdK x78 true (fun k => k x48) fun x80 =>
 gdK x78 true (opN p_ (sCall (fn 19) [x80]) Kp) fun x81 =>
 gdK x78 true (opN p_ (sEq .eql 3 (.tmp 81) (.const (.int .i64 0)) x81 (.int .i64 0)) Kp) fun x82 =>
 opN p_ (sPick x78 x82 (.bool false)) Kp fun x83 =>
 gdK x83 true (opN p_ (sFA 57 x13 1) Kp) fun x85 =>
 gdK x83 true (opN p_ (sLoad 3 x85) Kp) fun x86 =>
 gdK x83 true (opN p_ (sEq .eql 3 (.tmp 86) (.const (.int .i64 0)) x86 (.int .i64 0)) Kp) fun x87 =>
 opN p_ (sPick x83 x87 (.bool false)) Kp fun x88 =>
 gdK x88 true (fun k => k x53) fun x90 =>
 gdK x88 true (opN p_ (sUn .not x90) Kp) fun x91 =>
 opN p_ (sPick x88 x91 (.bool false)) Kp fun x92 =>
 K x92)
theorem law22_knows_s  : Shp p_ 7 [] (law22_knows) := sh_ Tryd.call7 Tryd.func7 (an := {}) fun _ _ => by kernel_rfl
def pool_Forward_1 (v0 v1 v2 : Value) (Kp : PK) (K : Value -> WP) : WP :=
 opN p_ (sFA 24 v2 3) Kp fun x5 =>
 opN p_ (sLoad 22 x5) Kp fun x6 =>
 opN p_ (sBuild 35 [(0, v0), (1, v1)]) Kp fun x9 =>
 opN p_ (sBuildSl 22 1 [(0, x9)]) Kp fun x10 =>
 opN p_ (sApp #[22, 22] 22 [x6, x10]) Kp fun x11 =>
 opN p_ (sFA 24 v2 3) Kp fun x12 =>
 opN p_ (sStore 22 x12 x11) Kp fun _ =>
 K (.tuple #[])
theorem pool_Forward_1_s {v0 v1 v2 : Value} : Shp p_ 8 [v0, v1, v2] (pool_Forward_1 v0 v1 v2) := sh_ Tryd.call8 Tryd.func8 (an := {}) fun _ _ => by kernel_rfl
def head_First (v0 v1 : Value) (Kp : PK) (K : Value → WP) : WP :=
 opN p_ (sCall (fn 13) [v0, v1]) Kp fun x10 =>
 opN p_ (sLen #[29] 3 [x10]) Kp fun x11 =>
 loop1 (fun I1 m1 _ y12 =>
 opN p_ (sBin .lss 3 y12 x11) Kp fun x13 =>
 condS x13
 (opN p_ (sIA 29 x10 y12) Kp fun x14 =>
 opN p_ (sLoad 9 x14) Kp fun x15 =>
 K (.tuple #[x15, (.bool true)]))
 (K (.tuple #[(.string ⟨#[]⟩), (.bool false)]))) (.int .i64 0)
theorem head_First_s {v0 v1 : Value} : Shp p_ 9 [v0, v1] (head_First v0 v1) := sh_ Tryd.call9 Tryd.func9 (an := { loops := [(2, [12])] }) fun _ _ => by kernel_rfl
def head_Without (v0 v1 : Value) (Kp : PK) (K : Value → WP) : WP :=
 opN p_ (sLen #[22] 3 [v0]) Kp fun x11 =>
 loop2 (fun I1 m1 _ y5 y12 =>
 opN p_ (sBin .lss 3 y12 x11) Kp fun x13 =>
 condS x13
 (opN p_ (sIA 22 v0 y12) Kp fun x14 =>
 opN p_ (sLoad 35 x14) Kp fun x15 =>
 opN p_ (sAlloc 35) Kp fun x7 =>
 opN p_ (sStore 35 x7 x15) Kp fun _ =>
 opN p_ (sLen #[29] 3 [v1]) Kp fun x17 =>
 loop1 (fun I2 m2 _ y18 =>
 opN p_ (sBin .lss 3 y18 x17) Kp fun x19 =>
 condS x19
 (opN p_ (sIA 29 v1 y18) Kp fun x20 =>
 opN p_ (sLoad 9 x20) Kp fun x21 =>
 opN p_ (sFA 35 x7 0) Kp fun x22 =>
 opN p_ (sLoad 9 x22) Kp fun x23 =>
 opN p_ (sCall (fn 22) [x23, x21]) Kp fun x25 =>
 condS x25
 (opN p_ (sBin .add 3 y12 (.int .i64 1)) Kp fun x31 =>
 next2 I1 m1 y5 x31)
 (opN p_ (sBin .add 3 y18 (.int .i64 1)) Kp fun x26 =>
 next1 I2 m2 x26))
 (opN p_ (sLoad 35 x7) Kp fun x28 =>
 opN p_ (sBuildSl 22 1 [(0, x28)]) Kp fun x29 =>
 opN p_ (sApp #[22, 22] 22 [y5, x29]) Kp fun x30 =>
 opN p_ (sBin .add 3 y12 (.int .i64 1)) Kp fun x31 =>
 next2 I1 m1 x30 x31)) (.int .i64 0))
 (K y5)) (.slice none 0 0) (.int .i64 0)
theorem head_Without_s {v0 v1 : Value} : Shp p_ 10 [v0, v1] (head_Without v0 v1) := sh_ Tryd.call10 Tryd.func10 (an := { loops := [(3, [5, 12]), (6, [18])] }) fun _ _ => by kernel_rfl
def pool_Strip (v0 : Value) (Kp : PK) (K : Value → WP) : WP :=
 opN p_ (sBuildSl 29 9 [(0, (.string ⟨#[67, 111, 110, 110, 101, 99, 116, 105, 111, 110]⟩)), (1, (.string ⟨#[75, 101, 101, 112, 45, 65, 108, 105, 118, 101]⟩)), (2, (.string ⟨#[80, 114, 111, 120, 121, 45, 67, 111, 110, 110, 101, 99, 116, 105, 111, 110]⟩)), (3, (.string ⟨#[80, 114, 111, 120, 121, 45, 65, 117, 116, 104, 101, 110, 116, 105, 99, 97, 116, 101]⟩)), (4, (.string ⟨#[80, 114, 111, 120, 121, 45, 65, 117, 116, 104, 111, 114, 105, 122, 97, 116, 105, 111, 110]⟩)), (5, (.string ⟨#[84, 69]⟩)), (6, (.string ⟨#[84, 114, 97, 105, 108, 101, 114]⟩)), (7, (.string ⟨#[84, 114, 97, 110, 115, 102, 101, 114, 45, 69, 110, 99, 111, 100, 105, 110, 103]⟩)), (8, (.string ⟨#[85, 112, 103, 114, 97, 100, 101]⟩))]) Kp fun x10 =>
 opN p_ (sCall (fn 13) [v0, (.string ⟨#[67, 111, 110, 110, 101, 99, 116, 105, 111, 110]⟩)]) Kp fun x12 =>
 opN p_ (sLen #[29] 3 [x12]) Kp fun x13 =>
 loop2 (fun I1 m1 _ y3 y14 =>
 opN p_ (sBin .lss 3 y14 x13) Kp fun x15 =>
 condS x15
 (opN p_ (sIA 29 x12 y14) Kp fun x16 =>
 opN p_ (sLoad 9 x16) Kp fun x17 =>
 opN p_ (sCall (fn 23) [x17]) Kp fun x20 =>
 opN p_ (sExt x20 0) Kp fun x21 =>
 opN p_ (sExt x20 1) Kp fun x22 =>
 opN p_ (sLen #[29] 3 [x21]) Kp fun x24 =>
 loop2 (fun I2 m2 _ y3 y25 =>
 opN p_ (sBin .lss 3 y25 x24) Kp fun x26 =>
 condS x26
 (opN p_ (sIA 29 x21 y25) Kp fun x27 =>
 opN p_ (sLoad 9 x27) Kp fun x28 =>
 opN p_ (sEq .neq 9 (.tmp 29) (.const (.string ⟨#[104, 111, 115, 116]⟩)) x28 (.string ⟨#[104, 111, 115, 116]⟩)) Kp fun x30 =>
 condS x30
 (opN p_ (sBuildSl 29 1 [(0, x28)]) Kp fun x33 =>
 opN p_ (sApp #[29, 29] 29 [y3, x33]) Kp fun x34 =>
 opN p_ (sBin .add 3 y25 (.int .i64 1)) Kp fun x35 =>
 next2 I2 m2 x34 x35)
 (opN p_ (sBin .add 3 y25 (.int .i64 1)) Kp fun x35 =>
 next2 I2 m2 y3 x35))
 (opN p_ (sBin .add 3 y14 (.int .i64 1)) Kp fun x36 =>
 next2 I1 m1 y3 x36)) y3 (.int .i64 0))
 (opN p_ (sCall (fn 10) [v0, y3]) Kp fun x39 =>
 K x39)) x10 (.int .i64 0)
theorem pool_Strip_s {v0 : Value} : Shp p_ 11 [v0] (pool_Strip v0) := sh_ Tryd.call11 Tryd.func11 (an := { loops := [(3, [3, 14]), (7, [3, 25])] }) fun _ _ => by kernel_rfl
def strings_Join (v0 v1 : Value) (Kp : PK) (K : Value → WP) : WP :=
 opN p_ (sLen #[29] 3 [v0]) Kp fun x12 =>
 opN p_ (sEq .eql 3 (.tmp 12) (.const (.int .i64 0)) x12 (.int .i64 0)) Kp fun x14 =>
 condS x14
 (K (.string ⟨#[]⟩))
 (opN p_ (sEq .eql 3 (.tmp 12) (.const (.int .i64 1)) x12 (.int .i64 1)) Kp fun x16 =>
 condS x16
 (opN p_ (sIA 29 v0 (.int .i64 0)) Kp fun x18 =>
 opN p_ (sLoad 9 x18) Kp fun x19 =>
 K x19)
 (cut1 (fun J1 =>
 opN p_ (sLen #[9] 3 [v1]) Kp fun x21 =>
 opN p_ (sBin .gtr 3 x21 (.int .i64 0)) Kp fun x22 =>
 condS x22
 (cut0 (fun J2 =>
 opN p_ (sLen #[9] 3 [v1]) Kp fun x24 =>
 opN p_ (sLen #[29] 3 [v0]) Kp fun x26 =>
 opN p_ (sBin .sub 3 x26 (.int .i64 1)) Kp fun x27 =>
 opN p_ (sBin .quo 3 (.int .i64 9223372036854775807) x27) Kp fun x28 =>
 opN p_ (sBin .geq 3 x24 x28) Kp fun x29 =>
 condS x29
 (opN p_ (sMkI 9 (.string ⟨#[115, 116, 114, 105, 110, 103, 115, 58, 32, 74, 111, 105, 110, 32, 111, 117, 116, 112, 117, 116, 32, 108, 101, 110, 103, 116, 104, 32, 111, 118, 101, 114, 102, 108, 111, 119]⟩)) Kp fun x30 =>
 opN p_ (sPanic x30) Kp fun _ =>
 J2)
 (J2)) fun _ =>
 opN p_ (sLen #[9] 3 [v1]) Kp fun x33 =>
 opN p_ (sLen #[29] 3 [v0]) Kp fun x35 =>
 opN p_ (sBin .sub 3 x35 (.int .i64 1)) Kp fun x36 =>
 opN p_ (sBin .mul 3 x33 x36) Kp fun x37 =>
 opN p_ (sBin .add 3 (.int .i64 0) x37) Kp fun x38 =>
 J1 x38)
 (J1 (.int .i64 0))) fun _ z5 =>
 opN p_ (sLen #[29] 3 [v0]) Kp fun x40 =>
 loop2 (fun I1 m1 _ y5 y41 =>
 opN p_ (sBin .lss 3 y41 x40) Kp fun x42 =>
 condS x42
 (opN p_ (sIA 29 v0 y41) Kp fun x43 =>
 opN p_ (sLoad 9 x43) Kp fun x44 =>
 cut0 (fun J3 =>
 opN p_ (sLen #[9] 3 [x44]) Kp fun x46 =>
 opN p_ (sBin .sub 3 (.int .i64 9223372036854775807) y5) Kp fun x48 =>
 opN p_ (sBin .gtr 3 x46 x48) Kp fun x49 =>
 condS x49
 (opN p_ (sMkI 9 (.string ⟨#[115, 116, 114, 105, 110, 103, 115, 58, 32, 74, 111, 105, 110, 32, 111, 117, 116, 112, 117, 116, 32, 108, 101, 110, 103, 116, 104, 32, 111, 118, 101, 114, 102, 108, 111, 119]⟩)) Kp fun x50 =>
 opN p_ (sPanic x50) Kp fun _ =>
 J3)
 (J3)) fun _ =>
 opN p_ (sLen #[9] 3 [x44]) Kp fun x53 =>
 opN p_ (sBin .add 3 y5 x53) Kp fun x54 =>
 opN p_ (sBin .add 3 y41 (.int .i64 1)) Kp fun x55 =>
 next2 I1 m1 x54 x55)
 (opN p_ (sAlloc 66) Kp fun x8 =>
 opN p_ (sCall (fn 24) [x8, y5]) Kp fun x57 =>
 opN p_ (sIA 29 v0 (.int .i64 0)) Kp fun x59 =>
 opN p_ (sLoad 9 x59) Kp fun x60 =>
 opN p_ (sCall (fn 25) [x8, x60]) Kp fun x61 =>
 opN p_ (sSl 29 v0 (some (.int .i64 1)) none none) Kp fun x63 =>
 opN p_ (sLen #[29] 3 [x63]) Kp fun x64 =>
 loop1 (fun I2 m2 _ y65 =>
 opN p_ (sBin .lss 3 y65 x64) Kp fun x66 =>
 condS x66
 (opN p_ (sIA 29 x63 y65) Kp fun x67 =>
 opN p_ (sLoad 9 x67) Kp fun x68 =>
 opN p_ (sCall (fn 25) [x8, v1]) Kp fun x70 =>
 opN p_ (sCall (fn 25) [x8, x68]) Kp fun x72 =>
 opN p_ (sBin .add 3 y65 (.int .i64 1)) Kp fun x73 =>
 next1 I2 m2 x73)
 (opN p_ (sCall (fn 26) [x8]) Kp fun x74 =>
 K x74)) (.int .i64 0))) z5 (.int .i64 0)))
theorem strings_Join_s {v0 v1 : Value} : Shp p_ 12 [v0, v1] (strings_Join v0 v1) := sh_ Tryd.call12 Tryd.func12 (an := { cuts := [(10, []), (11, [5]), (16, [])], loops := [(12, [5, 41]), (22, [65])] }) fun _ _ => by kernel_rfl
def head_Values (v0 v1 : Value) (Kp : PK) (K : Value → WP) : WP :=
 opN p_ (sLen #[22] 3 [v0]) Kp fun x9 =>
 loop2 (fun I1 m1 _ y5 y10 =>
 opN p_ (sBin .lss 3 y10 x9) Kp fun x11 =>
 condS x11
 (opN p_ (sIA 22 v0 y10) Kp fun x12 =>
 opN p_ (sLoad 35 x12) Kp fun x13 =>
 opN p_ (sAlloc 35) Kp fun x7 =>
 opN p_ (sStore 35 x7 x13) Kp fun _ =>
 opN p_ (sFA 35 x7 0) Kp fun x14 =>
 opN p_ (sLoad 9 x14) Kp fun x15 =>
 opN p_ (sCall (fn 22) [x15, v1]) Kp fun x17 =>
 condS x17
 (opN p_ (sFA 35 x7 1) Kp fun x19 =>
 opN p_ (sLoad 9 x19) Kp fun x20 =>
 opN p_ (sBuildSl 29 1 [(0, x20)]) Kp fun x21 =>
 opN p_ (sApp #[29, 29] 29 [y5, x21]) Kp fun x22 =>
 opN p_ (sBin .add 3 y10 (.int .i64 1)) Kp fun x23 =>
 next2 I1 m1 x22 x23)
 (opN p_ (sBin .add 3 y10 (.int .i64 1)) Kp fun x23 =>
 next2 I1 m1 y5 x23))
 (K y5)) (.slice none 0 0) (.int .i64 0)
theorem head_Values_s {v0 v1 : Value} : Shp p_ 13 [v0, v1] (head_Values v0 v1) := sh_ Tryd.call13 Tryd.func13 (an := { loops := [(3, [5, 10])] }) fun _ _ => by kernel_rfl
def ref01_Equal (v0 v1 : Value) (Kp : PK) (K : Value -> WP) : WP :=
 opN p_ (sCall (fn 27) [v0]) Kp fun x6 =>
 opN p_ (sCall (fn 27) [v1]) Kp fun x8 =>
 opN p_ (sEq .eql 9 (.tmp 6) (.tmp 8) x6 x8) Kp fun x9 =>
 K x9
theorem ref01_Equal_s {v0 v1 : Value} : Shp p_ 14 [v0, v1] (ref01_Equal v0 v1) := sh_ Tryd.call14 Tryd.func14 (an := {}) fun _ _ => by kernel_rfl
def strconv_Itoa (v0 : Value) (Kp : PK) (K : Value -> WP) : WP :=
 opN p_ (sCall (fn 28) [v0]) Kp fun x4 =>
 K x4
theorem strconv_Itoa_s {v0 : Value} : Shp p_ 15 [v0] (strconv_Itoa v0) := sh_ Tryd.call15 Tryd.func15 (an := {}) fun _ _ => by kernel_rfl
def pool_New (v0 : Value) (Kp : PK) (K : Value → WP) : WP :=
 opN p_ (sBox 49 v0) Kp fun x1 =>
 opN p_ (sFA 49 x1 1) Kp fun x7 =>
 opN p_ (sLoad 47 x7) Kp fun x8 =>
 opN p_ (sLen #[47] 3 [x8]) Kp fun x9 =>
 opN p_ (sEq .eql 3 (.tmp 9) (.const (.int .i64 0)) x9 (.int .i64 0)) Kp fun x10 =>
 gdK x10 false (opN p_ (sFA 49 x1 1) Kp) fun x12 =>
 gdK x10 false (opN p_ (sLoad 47 x12) Kp) fun x13 =>
 gdK x10 false (opN p_ (sLen #[47] 3 [x13]) Kp) fun x14 =>
 gdK x10 false (opN p_ (sBin .gtr 3 x14 (.int .i64 16)) Kp) fun x15 =>
 opN p_ (sPick x10 (.bool true) x15) Kp fun x16 =>
 gdK x16 false (opN p_ (sFA 49 x1 2) Kp) fun x18 =>
 gdK x16 false (opN p_ (sLoad 3 x18) Kp) fun x19 =>
 gdK x16 false (opN p_ (sBin .lss 3 x19 (.int .i64 1)) Kp) fun x20 =>
 opN p_ (sPick x16 (.bool true) x20) Kp fun x21 =>
 gdK x21 false (opN p_ (sFA 49 x1 2) Kp) fun x23 =>
 gdK x21 false (opN p_ (sLoad 3 x23) Kp) fun x24 =>
 gdK x21 false (opN p_ (sBin .gtr 3 x24 (.int .i64 3600)) Kp) fun x25 =>
 opN p_ (sPick x21 (.bool true) x25) Kp fun x26 =>
 condS x26
 (K (.tuple #[(.pointer none), (.int .i64 1)]))
 (opN p_ (sMkMap 74 none) Kp fun x27 =>
 opN p_ (sMkMap 74 none) Kp fun x28 =>
 opN p_ (sFA 49 x1 2) Kp fun x29 =>
 opN p_ (sLoad 3 x29) Kp fun x30 =>
 opN p_ (sBuild 77 [(1, x27), (2, x28), (5, x30)]) Kp fun x31 =>
 opN p_ (sBox 77 x31) Kp fun x32 =>
 opN p_ (sFA 49 x1 1) Kp fun x33 =>
 opN p_ (sLoad 47 x33) Kp fun x34 =>
 opN p_ (sLen #[47] 3 [x34]) Kp fun x35 =>
 loop1 (fun I1 m1 _ y36 =>
 opN p_ (sBin .lss 3 y36 x35) Kp fun x37 =>
 condS x37
 (opN p_ (sIA 47 x34 y36) Kp fun x38 =>
 opN p_ (sLoad 79 x38) Kp fun x39 =>
 opN p_ (sAlloc 79) Kp fun x6 =>
 opN p_ (sStore 79 x6 x39) Kp fun _ =>
 opN p_ (sFA 79 x6 1) Kp fun x40 =>
 opN p_ (sLoad 3 x40) Kp fun x41 =>
 opN p_ (sBin .lss 3 x41 (.int .i64 1)) Kp fun x42 =>
 gdK x42 false (opN p_ (sFA 79 x6 1) Kp) fun x44 =>
 gdK x42 false (opN p_ (sLoad 3 x44) Kp) fun x45 =>
 gdK x42 false (opN p_ (sBin .gtr 3 x45 (.int .i64 64)) Kp) fun x46 =>
 opN p_ (sPick x42 (.bool true) x46) Kp fun x47 =>
 gdK x47 false (fun k => k x32) fun x49 =>
 gdK x47 false (opN p_ (sFA 79 x6 0) Kp) fun x50 =>
 gdK x47 false (opN p_ (sLoad 3 x50) Kp) fun x51 =>
 gdK x47 false (opN p_ (sCall (fn 29) [x49, x51]) Kp) fun x52 =>
 gdK x47 false (opN p_ (sEq .neq 80 (.tmp 52) (.const (.pointer none)) x52 (.pointer none)) Kp) fun x53 =>
 opN p_ (sPick x47 (.bool true) x53) Kp fun x54 =>
 condS x54
 (K (.tuple #[(.pointer none), (.int .i64 1)]))
 (drS (stD p_ (sNil x32) fun D2 x57 =>
 stD p_ (sFA 77 x57 0) fun D3 x58 =>
 stD p_ (sLoad 75 x58) fun D4 x59 =>
 stS p_ (sLoad 79 x6) fun x60 =>
 stS p_ (sBuild 84 [(0, x60), (3, (.int .i64 (-2199023255552)))]) fun x61 =>
 opN p_ (sBox 84 x61) Kp fun x62 =>
 (fun w => D4 w ∧ (fun w => D3 w ∧ (fun w => D2 w ∧ (opN p_ (sBuildSl 75 1 [(0, x62)]) Kp fun x63 =>
 (fun w => D4 w ∧ (fun w => D3 w ∧ (fun w => D2 w ∧ (opN p_ (sApp #[75, 75] 75 [x59, x63]) Kp fun x64 =>
 stS p_ (sNil x32) fun x65 =>
 stS p_ (sFA 77 x65 0) fun x66 =>
 opN p_ (sStore 75 x66 x64) Kp fun _ =>
 opN p_ (sBin .add 3 y36 (.int .i64 1)) Kp fun x67 =>
 next1 I1 m1 x67) w) w) w)) w) w) w))))
 (K (.tuple #[x32, (.int .i64 0)]))) (.int .i64 0))
theorem pool_New_s {v0 : Value} : Shp p_ 16 [v0] (pool_New v0) := sh_ Tryd.call16 Tryd.func16 (an := { loops := [(5, [36])], drs := [(9, .ofL [(0, 2), (1, 2), (2, 3), (3, 3), (4, 3), (5, 1), (6, 1), (7, 0), (8, 0), (9, 0), (10, 1), (11, 1), (12, 0)])] }) fun _ _ => by kernel_rfl
def law22_own (v0 : Value) (Kp : PK) (K : Value → WP) : WP :=
 opN p_ (sBox 53 v0) Kp fun x1 =>
 opN p_ (sAlloc 49) Kp fun x2 =>
 opN p_ (sFA 53 x1 0) Kp fun x5 =>
 opN p_ (sLoad 9 x5) Kp fun x6 =>
 opN p_ (sFA 53 x1 2) Kp fun x7 =>
 opN p_ (sLoad 3 x7) Kp fun x8 =>
 opN p_ (sFA 53 x1 3) Kp fun x9 =>
 opN p_ (sLoad 3 x9) Kp fun x10 =>
 opN p_ (sBuild 49 [(0, x6), (2, x8), (3, x10)]) Kp fun x11 =>
 opN p_ (sAlloc 49) Kp fun x3 =>
 opN p_ (sStore 49 x3 x11) Kp fun _ =>
 loop1 (fun I1 m1 _ y4 =>
 opN p_ (sFA 53 x1 1) Kp fun x13 =>
 opN p_ (sLoad 51 x13) Kp fun x14 =>
 opN p_ (sLen #[51] 3 [x14]) Kp fun x15 =>
 opN p_ (sBin .lss 3 y4 x15) Kp fun x16 =>
 condS x16
 (drS (stD p_ (sFA 49 x3 1) fun D0 x19 =>
 stD p_ (sLoad 47 x19) fun D1 x20 =>
 stS p_ (sFA 53 x1 1) fun x21 =>
 stS p_ (sLoad 51 x21) fun x22 =>
 stS p_ (sIA 51 x22 y4) fun x24 =>
 stS p_ (sFA 85 x24 0) fun x25 =>
 stS p_ (sLoad 3 x25) fun x26 =>
 stS p_ (sFA 53 x1 1) fun x27 =>
 stS p_ (sLoad 51 x27) fun x28 =>
 stS p_ (sIA 51 x28 y4) fun x30 =>
 stS p_ (sFA 85 x30 1) fun x31 =>
 stS p_ (sLoad 3 x31) fun x32 =>
 stS p_ (sBuild 79 [(0, x26), (1, x32)]) fun x33 =>
 opN p_ (sBuildSl 47 1 [(0, x33)]) Kp fun x34 =>
 (fun w => D1 w ∧ (fun w => D0 w ∧ (opN p_ (sApp #[47, 47] 47 [x20, x34]) Kp fun x35 =>
 stS p_ (sFA 49 x3 1) fun x36 =>
 opN p_ (sStore 47 x36 x35) Kp fun _ =>
 opN p_ (sBin .add 3 y4 (.int .i64 1)) Kp fun x18 =>
 next1 I1 m1 x18) w) w)))
 (opN p_ (sLoad 49 x3) Kp fun x37 =>
 opN p_ (sStore 49 x2 x37) Kp fun _ =>
 (stS p_ (sRes 49 x2) fun r0 => K r0))) (.int .i64 0)
theorem law22_own_s {v0 : Value} : Shp p_ 17 [v0] (law22_own v0) := sh_ Tryd.call17 Tryd.func17 (an := { loops := [(3, [4])], drs := [(5, .ofL [(0, 3), (1, 3), (2, 1), (3, 1), (4, 1), (5, 1), (6, 1), (7, 1), (8, 1), (9, 1), (10, 1), (11, 1), (12, 1), (13, 1), (14, 1), (15, 0), (16, 0), (17, 1), (18, 0)])] }) fun _ _ => by kernel_rfl
def law22_two (Kp : PK) (K : Value -> WP) : WP :=
 opN p_ (sAlloc 53) Kp fun x0 =>
 opN p_ (sBuild 85 [(0, (.int .i64 1)), (1, (.int .i64 1))]) Kp fun x1 =>
 opN p_ (sBuild 85 [(0, (.int .i64 2)), (1, (.int .i64 1))]) Kp fun x2 =>
 opN p_ (sBuildSl 51 2 [(0, x1), (1, x2)]) Kp fun x3 =>
 opN p_ (sBuild 53 [(1, x3), (2, (.int .i64 10))]) Kp fun x4 =>
 opN p_ (sStore 53 x0 x4) Kp fun _ =>
 (stS p_ (sRes 53 x0) fun r0 => K r0)
theorem law22_two_s  : Shp p_ 18 [] (law22_two) := sh_ Tryd.call18 Tryd.func18 (an := {}) fun _ _ => by kernel_rfl
def law22_num (v0 : Value) (Kp : PK) (K : Value -> WP) : WP :=
 K v0
theorem law22_num_s {v0 : Value} : Shp p_ 19 [v0] (law22_num v0) := sh_ Tryd.call19 Tryd.func19 (an := {}) fun _ _ => by kernel_rfl
def pool_Pool_Take (v0 v1 : Value) (Kp : PK) (K : Value → WP) : WP :=
 opN p_ (sBox 43 v0) Kp fun x2 =>
 opN p_ (sBox 3 v1) Kp fun x3 =>
 opN p_ (sAlloc 57) Kp fun x4 =>
 opN p_ (sAlloc 4) Kp fun x5 =>
 opN p_ (sAlloc 44) Kp fun x6 =>
 opN p_ (sLoad 43 x2) Kp fun x11 =>
 opN p_ (sCall (fn 30) [x11]) Kp fun x12 =>
 condS x12
 (opN p_ (sBuild 57 []) Kp fun x13 =>
 opN p_ (sStore 57 x4 x13) Kp fun _ =>
 opN p_ (sStore 4 x5 (.bool false)) Kp fun _ =>
 opN p_ (sStore 44 x6 (.int .i64 1)) Kp fun _ =>
 (stS p_ (sRes 57 x4) fun r0 => (stS p_ (sRes 4 x5) fun r1 => (stS p_ (sRes 44 x6) fun r2 => K (.tuple #[r0, r1, r2])))))
 (opN p_ (sStore 44 x6 (.int .i64 3)) Kp fun _ =>
 opN p_ (sLoad 43 x2) Kp fun x14 =>
 opN p_ (sCall (fn 31) [x14]) Kp fun x15 =>
 rfS p_ x15 2 (fun u16 u17 B1 N1 J1r =>
 B1 (drS (stS p_ (sLoad 3 x3) fun x18 =>
 stD p_ (sNil u17) fun D3 x21 =>
 stD p_ (sFA 84 x21 3) fun D4 x22 =>
 stD p_ (sLoad 3 x22) fun D5 x23 =>
 opN p_ (sCall (fn 32) [x18]) noK fun x19 =>
 (fun w => D5 w ∧ (fun w => D4 w ∧ (fun w => D3 w ∧ (stS p_ (sBin .lss 3 x19 x23) fun x24 =>
 condS x24
 (N1)
 (opN p_ (sStore 44 x6 (.int .i64 63)) noK fun _ =>
 opN p_ (sLoad 43 x2) noK fun x25 =>
 opN p_ (sNil x25) noK fun x26 =>
 opN p_ (sFA 77 x26 4) noK fun x27 =>
 opN p_ (sLoad 3 x27) noK fun x28 =>
 opN p_ (sNil u17) noK fun x30 =>
 opN p_ (sFA 84 x30 1) noK fun x31 =>
 opN p_ (sLoad 82 x31) noK fun x32 =>
 opN p_ (sLen #[82] 3 [x32]) noK fun x33 =>
 cut1 (fun J1 =>
 opN p_ (sBin .gtr 3 x33 (.int .i64 0)) noK fun x36 =>
 condS x36
 (drS (stS p_ (sNil u17) fun x39 =>
 stS p_ (sFA 84 x39 1) fun x40 =>
 stS p_ (sLoad 82 x40) fun x41 =>
 stS p_ (sBin .sub 3 x33 (.int .i64 1)) fun x43 =>
 stS p_ (sIA 82 x41 x43) fun x44 =>
 stS p_ (sLoad 3 x44) fun x45 =>
 stS p_ (sNil u17) fun x47 =>
 stS p_ (sFA 84 x47 1) fun x48 =>
 stS p_ (sLoad 82 x48) fun x49 =>
 stS p_ (sBin .sub 3 x33 (.int .i64 1)) fun x51 =>
 stS p_ (sSl 82 x49 none (some x51) none) fun x52 =>
 stS p_ (sNil u17) fun x53 =>
 stS p_ (sFA 84 x53 1) fun x54 =>
 opN p_ (sStore 82 x54 x52) noK fun _ =>
 opN p_ (sLoad 43 x2) noK fun x55 =>
 opN p_ (sNil x55) noK fun x56 =>
 opN p_ (sFA 77 x56 2) noK fun x57 =>
 opN p_ (sLoad 74 x57) noK fun x58 =>
 opN p_ (sDel #[74, 3] 0 [x58, x45]) noK fun _ =>
 J1 x45))
 (drS (stS p_ (sNil u17) fun x62 =>
 stS p_ (sFA 84 x62 2) fun x63 =>
 stS p_ (sLoad 3 x63) fun x64 =>
 stS p_ (sNil u17) fun x66 =>
 stS p_ (sFA 84 x66 0) fun x67 =>
 stS p_ (sFA 79 x67 1) fun x68 =>
 stS p_ (sLoad 3 x68) fun x69 =>
 stS p_ (sBin .lss 3 x64 x69) fun x70 =>
 condS x70
 (opN p_ (sLoad 43 x2) noK fun x71 =>
 opN p_ (sNil x71) noK fun x72 =>
 opN p_ (sFA 77 x72 4) noK fun x73 =>
 opN p_ (sLoad 3 x73) noK fun x74 =>
 opN p_ (sBin .add 3 x74 (.int .i64 1)) noK fun x75 =>
 opN p_ (sNil x71) noK fun x76 =>
 opN p_ (sFA 77 x76 4) noK fun x77 =>
 opN p_ (sStore 3 x77 x75) noK fun _ =>
 J1 x28)
 (N1)))) fun _ z9 =>
 opN p_ (sNil u17) noK fun x79 =>
 opN p_ (sFA 84 x79 2) noK fun x80 =>
 opN p_ (sLoad 3 x80) noK fun x81 =>
 opN p_ (sBin .add 3 x81 (.int .i64 1)) noK fun x82 =>
 opN p_ (sNil u17) noK fun x83 =>
 opN p_ (sFA 84 x83 2) noK fun x84 =>
 opN p_ (sStore 3 x84 x82) noK fun _ =>
 opN p_ (sLoad 43 x2) noK fun x85 =>
 opN p_ (sNil x85) noK fun x86 =>
 opN p_ (sFA 77 x86 1) noK fun x87 =>
 opN p_ (sLoad 74 x87) noK fun x88 =>
 opN p_ (sMapSet 74 x88 z9 u17) noK fun _ =>
 drS (stS p_ (sLoad 43 x2) fun x91 =>
 stS p_ (sBin .add 3 u16 (.int .i64 1)) fun x93 =>
 stS p_ (sLoad 43 x2) fun x94 =>
 stS p_ (sNil x94) fun x95 =>
 stS p_ (sFA 77 x95 0) fun x96 =>
 stS p_ (sLoad 75 x96) fun x97 =>
 stS p_ (sLen #[75] 3 [x97]) fun x98 =>
 stS p_ (sBin .rem 3 x93 x98) fun x99 =>
 stS p_ (sNil x91) fun x100 =>
 stS p_ (sFA 77 x100 3) fun x101 =>
 opN p_ (sStore 3 x101 x99) noK fun _ =>
 opN p_ (sNil u17) noK fun x103 =>
 opN p_ (sFA 84 x103 0) noK fun x104 =>
 opN p_ (sFA 79 x104 0) noK fun x105 =>
 opN p_ (sLoad 3 x105) noK fun x106 =>
 opN p_ (sBuild 57 [(0, x106), (1, z9)]) noK fun x108 =>
 opN p_ (sEq .eql 3 (.tmp 109) (.const (.int .i64 0)) x33 (.int .i64 0)) noK fun x110 =>
 opN p_ (sStore 57 x4 x108) noK fun _ =>
 opN p_ (sStore 4 x5 x110) noK fun _ =>
 opN p_ (sStore 44 x6 (.int .i64 0)) noK fun _ =>
 J1r))) w) w) w)))) (fun d1 =>
 drS (stS p_ (sBuild 57 []) fun x111 =>
 stD p_ (sLoad 44 x6) fun D1 x112 =>
 opN p_ (sStore 57 x4 x111) (KpM [d1] Kp) fun _ =>
 (fun w => D1 w ∧ (opN p_ (sStore 4 x5 (.bool false)) (KpM [d1] Kp) fun _ =>
 (fun w => D1 w ∧ (opN p_ (sStore 44 x6 x112) (KpM [d1] Kp) fun _ =>
 (tkS d1 ((stS p_ (sRes 57 x4) fun r0 => (stS p_ (sRes 4 x5) fun r1 => (stS p_ (sRes 44 x6) fun r2 => K (.tuple #[r0, r1, r2]))))))) w)) w))) (fun d1 => (tkS d1 ((stS p_ (sRes 57 x4) fun r0 => (stS p_ (sRes 4 x5) fun r1 => (stS p_ (sRes 44 x6) fun r2 => K (.tuple #[r0, r1, r2]))))))) (fun d1 ch => (tkS d1 (Kp ch))))
theorem pool_Pool_Take_s {v0 v1 : Value} : Shp p_ 20 [v0, v1] (pool_Pool_Take v0 v1) := shT_ Tryd.call20 Tryd.func20 (an := { cuts := [(16, [9])], drs := [(7, .ofL [(0, 1), (2, 2), (3, 3), (4, 3), (5, 3), (1, 0), (6, 1)]), (12, .ofL [(0, 1), (1, 1), (2, 1), (3, 1), (4, 1), (5, 1), (6, 1), (7, 1), (8, 1), (9, 1), (10, 1), (11, 1), (12, 1), (13, 1), (14, 1), (15, 1), (16, 1), (17, 1), (18, 1), (19, 0)]), (14, .ofL [(0, 1), (1, 1), (2, 1), (3, 1), (4, 1), (5, 1), (6, 1), (7, 1), (8, 1), (9, 1), (10, 1)]), (18, .ofL [(0, 1), (1, 1), (2, 1), (3, 1), (4, 1), (5, 1), (6, 1), (7, 1), (8, 1), (9, 1), (10, 1), (11, 0)]), (20, .ofL [(0, 1), (1, 3), (2, 0), (3, 0), (4, 0)])] }) fun _ _ => by kernel_rfl
def pool_Pool_Done (v0 v1 v2 : Value) (Kp : PK) (K : Value → WP) : WP :=
 opN p_ (sCall (fn 30) [v0]) Kp fun x9 =>
 condS x9
 (K (.int .i64 1))
 (opN p_ (sNil v0) Kp fun x11 =>
 opN p_ (sFA 77 x11 1) Kp fun x12 =>
 opN p_ (sLoad 74 x12) Kp fun x13 =>
 opN p_ (sLook 74 x13 v1 false) Kp fun x15 =>
 opN p_ (sEq .eql 80 (.tmp 16) (.const (.pointer none)) x15 (.pointer none)) Kp fun x17 =>
 condS x17
 (K (.int .i64 3))
 (opN p_ (sNil v0) Kp fun x19 =>
 opN p_ (sFA 77 x19 1) Kp fun x20 =>
 opN p_ (sLoad 74 x20) Kp fun x21 =>
 opN p_ (sDel #[74, 3] 0 [x21, v1]) Kp fun _ =>
 opN p_ (sNil x15) Kp fun x24 =>
 opN p_ (sFA 84 x24 2) Kp fun x25 =>
 opN p_ (sLoad 3 x25) Kp fun x26 =>
 opN p_ (sBin .sub 3 x26 (.int .i64 1)) Kp fun x27 =>
 opN p_ (sNil x15) Kp fun x28 =>
 opN p_ (sFA 84 x28 2) Kp fun x29 =>
 opN p_ (sStore 3 x29 x27) Kp fun _ =>
 condS v2
 (opN p_ (sNil x15) Kp fun x33 =>
 opN p_ (sFA 84 x33 1) Kp fun x34 =>
 opN p_ (sLoad 82 x34) Kp fun x35 =>
 opN p_ (sBuildSl 82 1 [(0, v1)]) Kp fun x37 =>
 opN p_ (sApp #[82, 82] 82 [x35, x37]) Kp fun x38 =>
 opN p_ (sNil x15) Kp fun x39 =>
 opN p_ (sFA 84 x39 1) Kp fun x40 =>
 opN p_ (sStore 82 x40 x38) Kp fun _ =>
 opN p_ (sNil v0) Kp fun x42 =>
 opN p_ (sFA 77 x42 2) Kp fun x43 =>
 opN p_ (sLoad 74 x43) Kp fun x44 =>
 opN p_ (sMapSet 74 x44 v1 x15) Kp fun _ =>
 K (.int .i64 0))
 (K (.int .i64 0))))
theorem pool_Pool_Done_s {v0 v1 v2 : Value} : Shp p_ 21 [v0, v1, v2] (pool_Pool_Done v0 v1 v2) := sh_ Tryd.call21 Tryd.func21 (an := {}) fun _ _ => by kernel_rfl
def ascii_Equal (v0 v1 : Value) (Kp : PK) (K : Value -> WP) : WP :=
 opN p_ (sLen #[9] 3 [v0]) Kp fun x6 =>
 opN p_ (sLen #[9] 3 [v1]) Kp fun x8 =>
 opN p_ (sEq .eql 3 (.tmp 6) (.tmp 8) x6 x8) Kp fun x9 =>
 gdK x9 true (fun k => k v0) fun x11 =>
 gdK x9 true (opN p_ (sCall (fn 33) [x11]) Kp) fun x12 =>
 gdK x9 true (fun k => k v1) fun x13 =>
 gdK x9 true (opN p_ (sCall (fn 33) [x13]) Kp) fun x14 =>
 gdK x9 true (opN p_ (sEq .eql 9 (.tmp 12) (.tmp 14) x12 x14) Kp) fun x15 =>
 opN p_ (sPick x9 x15 (.bool false)) Kp fun x16 =>
 K x16
theorem ascii_Equal_s {v0 v1 : Value} : Shp p_ 22 [v0, v1] (ascii_Equal v0 v1) := sh_ Tryd.call22 Tryd.func22 (an := {}) fun _ _ => by kernel_rfl
def fields_Tokens (v0 : Value) (Kp : PK) (K : Value -> WP) : WP :=
 opN p_ (sBuild 94 [(2, (fn 35))]) Kp fun x5 =>
 opN p_ (sCall (fn 34) [v0, x5]) Kp fun x6 =>
 opN p_ (sExt x6 0) Kp fun x7 =>
 opN p_ (sExt x6 1) Kp fun x8 =>
 K (.tuple #[x7, x8])
theorem fields_Tokens_s {v0 : Value} : Shp p_ 23 [v0] (fields_Tokens v0) := sh_ Tryd.call23 Tryd.func23 (an := {}) fun _ _ => by kernel_rfl
def strings_Builder_Grow (v0 v1 : Value) (Kp : PK) (K : Value → WP) : WP :=
 opN p_ (sCall (fn 37) [v0]) Kp fun x5 =>
 cut0 (fun J1 =>
 opN p_ (sBin .lss 3 v1 (.int .i64 0)) Kp fun x7 =>
 condS x7
 (opN p_ (sMkI 9 (.string ⟨#[115, 116, 114, 105, 110, 103, 115, 46, 66, 117, 105, 108, 100, 101, 114, 46, 71, 114, 111, 119, 58, 32, 110, 101, 103, 97, 116, 105, 118, 101, 32, 99, 111, 117, 110, 116]⟩)) Kp fun x8 =>
 opN p_ (sPanic x8) Kp fun _ =>
 J1)
 (J1)) fun _ =>
 drS (stS p_ (sNil v0) fun x10 =>
 stS p_ (sFA 66 x10 1) fun x11 =>
 stS p_ (sLoad 64 x11) fun x12 =>
 stS p_ (sCap #[64] 3 [x12]) fun x13 =>
 stS p_ (sNil v0) fun x15 =>
 stS p_ (sFA 66 x15 1) fun x16 =>
 stS p_ (sLoad 64 x16) fun x17 =>
 stS p_ (sLen #[64] 3 [x17]) fun x18 =>
 stS p_ (sBin .sub 3 x13 x18) fun x19 =>
 stS p_ (sBin .lss 3 x19 v1) fun x21 =>
 condS x21
 (opN p_ (sCall (fn 38) [v0, v1]) Kp fun x24 =>
 K (.tuple #[]))
 (K (.tuple #[])))
theorem strings_Builder_Grow_s {v0 v1 : Value} : Shp p_ 24 [v0, v1] (strings_Builder_Grow v0 v1) := sh_ Tryd.call24 Tryd.func24 (an := { cuts := [(3, [])], drs := [(3, .ofL [(0, 1), (1, 1), (2, 1), (3, 1), (4, 1), (5, 1), (6, 1), (7, 1), (8, 1), (9, 1), (10, 1), (11, 1), (12, 1)])] }) fun _ _ => by kernel_rfl
def strings_Builder_WriteString (v0 v1 : Value) (Kp : PK) (K : Value -> WP) : WP :=
 opN p_ (sCall (fn 37) [v0]) Kp fun x7 =>
 opN p_ (sNil v0) Kp fun x10 =>
 opN p_ (sFA 66 x10 1) Kp fun x11 =>
 opN p_ (sLoad 64 x11) Kp fun x12 =>
 opN p_ (sApp #[64, 9] 64 [x12, v1]) Kp fun x14 =>
 opN p_ (sNil v0) Kp fun x15 =>
 opN p_ (sFA 66 x15 1) Kp fun x16 =>
 opN p_ (sStore 64 x16 x14) Kp fun _ =>
 opN p_ (sLen #[9] 3 [v1]) Kp fun x18 =>
 K (.tuple #[x18, .nilIface])
theorem strings_Builder_WriteString_s {v0 v1 : Value} : Shp p_ 25 [v0, v1] (strings_Builder_WriteString v0 v1) := sh_ Tryd.call25 Tryd.func25 (an := {}) fun _ _ => by kernel_rfl
def ref01_Lower (v0 : Value) (Kp : PK) (K : Value → WP) : WP :=
 opN p_ (sConv 9 64 v0) Kp fun x6 =>
 loop1 (fun I1 m1 _ y4 =>
 opN p_ (sLen #[64] 3 [x6]) Kp fun x9 =>
 opN p_ (sBin .lss 3 y4 x9) Kp fun x10 =>
 condS x10
 (opN p_ (sIA 64 x6 y4) Kp fun x15 =>
 opN p_ (sLoad 5 x15) Kp fun x16 =>
 opN p_ (sBin .geq 5 x16 (.int .u8 65)) Kp fun x17 =>
 gdK x17 true (fun k => k x6) fun x19 =>
 gdK x17 true (fun k => k y4) fun x20 =>
 gdK x17 true (opN p_ (sIA 64 x19 x20) Kp) fun x21 =>
 gdK x17 true (opN p_ (sLoad 5 x21) Kp) fun x22 =>
 gdK x17 true (opN p_ (sBin .leq 5 x22 (.int .u8 90)) Kp) fun x23 =>
 opN p_ (sPick x17 x23 (.bool false)) Kp fun x24 =>
 condS x24
 (opN p_ (sIA 64 x6 y4) Kp fun x29 =>
 opN p_ (sLoad 5 x29) Kp fun x30 =>
 opN p_ (sBin .add 5 x30 (.int .u8 32)) Kp fun x31 =>
 opN p_ (sIA 64 x6 y4) Kp fun x32 =>
 opN p_ (sStore 5 x32 x31) Kp fun _ =>
 opN p_ (sBin .add 3 y4 (.int .i64 1)) Kp fun x12 =>
 next1 I1 m1 x12)
 (opN p_ (sBin .add 3 y4 (.int .i64 1)) Kp fun x12 =>
 next1 I1 m1 x12))
 (opN p_ (sConv 64 9 x6) Kp fun x34 =>
 K x34)) (.int .i64 0)
theorem ref01_Lower_s {v0 : Value} : Shp p_ 27 [v0] (ref01_Lower v0) := sh_ Tryd.call27 Tryd.func27 (an := { loops := [(3, [4])] }) fun _ _ => by kernel_rfl
def istrconv_Itoa (v0 : Value) (Kp : PK) (K : Value -> WP) : WP :=
 opN p_ (sCall (fn 39) [v0, (.int .i64 10)]) Kp fun x4 =>
 K x4
theorem istrconv_Itoa_s {v0 : Value} : Shp p_ 28 [v0] (istrconv_Itoa v0) := sh_ Tryd.call28 Tryd.func28 (an := {}) fun _ _ => by kernel_rfl
def pool_Pool_peer (v0 v1 : Value) (Kp : PK) (K : Value → WP) : WP :=
 opN p_ (sNil v0) Kp fun x8 =>
 opN p_ (sFA 77 x8 0) Kp fun x9 =>
 opN p_ (sLoad 75 x9) Kp fun x10 =>
 opN p_ (sLen #[75] 3 [x10]) Kp fun x11 =>
 loop1 (fun I1 m1 _ y12 =>
 opN p_ (sBin .lss 3 y12 x11) Kp fun x13 =>
 condS x13
 (opN p_ (sIA 75 x10 y12) Kp fun x14 =>
 opN p_ (sLoad 80 x14) Kp fun x15 =>
 opN p_ (sNil x15) Kp fun x17 =>
 opN p_ (sFA 84 x17 0) Kp fun x18 =>
 opN p_ (sFA 79 x18 0) Kp fun x19 =>
 opN p_ (sLoad 3 x19) Kp fun x20 =>
 opN p_ (sEq .eql 3 (.tmp 20) (.tmp 21) x20 v1) Kp fun x22 =>
 condS x22
 (K x15)
 (opN p_ (sBin .add 3 y12 (.int .i64 1)) Kp fun x24 =>
 next1 I1 m1 x24))
 (K (.pointer none))) (.int .i64 0)
theorem pool_Pool_peer_s {v0 v1 : Value} : Shp p_ 29 [v0, v1] (pool_Pool_peer v0 v1) := sh_ Tryd.call29 Tryd.func29 (an := { loops := [(2, [12])] }) fun _ _ => by kernel_rfl
def pool_Pool_none (v0 : Value) (Kp : PK) (K : Value -> WP) : WP :=
 opN p_ (sEq .eql 43 (.tmp 3) (.const (.pointer none)) v0 (.pointer none)) Kp fun x4 =>
 gdK x4 false (fun k => k v0) fun x6 =>
 gdK x4 false (opN p_ (sNil x6) Kp) fun x7 =>
 gdK x4 false (opN p_ (sFA 77 x7 1) Kp) fun x8 =>
 gdK x4 false (opN p_ (sLoad 74 x8) Kp) fun x9 =>
 gdK x4 false (opN p_ (sEq .eql 74 (.tmp 9) (.const (.map none)) x9 (.map none)) Kp) fun x10 =>
 opN p_ (sPick x4 (.bool true) x10) Kp fun x11 =>
 K x11
theorem pool_Pool_none_s {v0 : Value} : Shp p_ 30 [v0] (pool_Pool_none v0) := sh_ Tryd.call30 Tryd.func30 (an := {}) fun _ _ => by kernel_rfl
def pool_Pool_round (v0 : Value) (Kp : PK) (K : Value -> WP) : WP :=
 opN p_ (sBox 43 v0) Kp fun x1 =>
 opN p_ (sMkF (.func 40) [] [x1]) Kp fun x3 =>
 K x3
theorem pool_Pool_round_s {v0 : Value} : Shp p_ 31 [v0] (pool_Pool_round v0) := sh_ Tryd.call31 Tryd.func31 (an := {}) fun _ _ => by kernel_rfl
def pool_clock (v0 : Value) (Kp : PK) (K : Value -> WP) : WP :=
 opN p_ (sMin #[3, 3] 3 [v0, (.int .i64 1099511627776)]) Kp fun x4 =>
 opN p_ (sMax #[3, 3] 3 [(.int .i64 (-1099511627776)), x4]) Kp fun x5 =>
 K x5
theorem pool_clock_s {v0 : Value} : Shp p_ 32 [v0] (pool_clock v0) := sh_ Tryd.call32 Tryd.func32 (an := {}) fun _ _ => by kernel_rfl
def ascii_Lower (v0 : Value) (Kp : PK) (K : Value → WP) : WP :=
 opN p_ (sCall (fn 41) []) Kp fun x7 =>
 opN p_ (sAlloc 98) Kp fun x3 =>
 opN p_ (sStore 98 x3 x7) Kp fun _ =>
 opN p_ (sConv 9 64 v0) Kp fun x9 =>
 opN p_ (sLen #[64] 3 [x9]) Kp fun x11 =>
 loop1 (fun I1 m1 _ y12 =>
 opN p_ (sBin .lss 3 y12 x11) Kp fun x13 =>
 condS x13
 (opN p_ (sIA 64 x9 y12) Kp fun x15 =>
 opN p_ (sLoad 5 x15) Kp fun x16 =>
 opN p_ (sIA 98 x3 x16) Kp fun x18 =>
 opN p_ (sLoad 3 x18) Kp fun x19 =>
 opN p_ (sBin .and 3 x19 (.int .i64 4)) Kp fun x20 =>
 opN p_ (sEq .neq 3 (.tmp 20) (.const (.int .i64 0)) x20 (.int .i64 0)) Kp fun x21 =>
 condS x21
 (opN p_ (sBin .add 5 x16 (.int .u8 32)) Kp fun x25 =>
 opN p_ (sIA 64 x9 y12) Kp fun x26 =>
 opN p_ (sStore 5 x26 x25) Kp fun _ =>
 opN p_ (sBin .add 3 y12 (.int .i64 1)) Kp fun x27 =>
 next1 I1 m1 x27)
 (opN p_ (sBin .add 3 y12 (.int .i64 1)) Kp fun x27 =>
 next1 I1 m1 x27))
 (opN p_ (sConv 64 9 x9) Kp fun x29 =>
 K x29)) (.int .i64 0)
theorem ascii_Lower_s {v0 : Value} : Shp p_ 33 [v0] (ascii_Lower v0) := sh_ Tryd.call33 Tryd.func33 (an := { loops := [(4, [12])] }) fun _ _ => by kernel_rfl
def fields_list_string (v0 v1 : Value) (Kp : PK) (K : Value → WP) : WP :=
 opN p_ (sBox 94 v1) Kp fun x3 =>
 opN p_ (sAlloc 29) Kp fun x4 =>
 opN p_ (sAlloc 44) Kp fun x5 =>
 opN p_ (sAlloc 29) Kp fun x6 =>
 opN p_ (sLoad 94 x3) Kp fun x10 =>
 opN p_ (sCall (fn 42) [x10, v0]) Kp fun x12 =>
 rfS p_ x12 1 (fun u13 B1 N1 J1r =>
 B1 (opN p_ (sFA 94 x3 2) noK fun x15 =>
 opN p_ (sLoad 92 x15) noK fun x16 =>
 opN p_ (sCall x16 [u13]) noK fun x18 =>
 opN p_ (sExt x18 0) noK fun x19 =>
 opN p_ (sExt x18 1) noK fun x20 =>
 opN p_ (sUn .not x20) noK fun x22 =>
 condS x22
 (opN p_ (sStore 29 x4 (.slice none 0 0)) noK fun _ =>
 opN p_ (sStore 44 x5 (.int .i64 42)) noK fun _ =>
 J1r)
 (opN p_ (sLoad 29 x6) noK fun x23 =>
 opN p_ (sBuildSl 29 1 [(0, x19)]) noK fun x25 =>
 opN p_ (sApp #[29, 29] 29 [x23, x25]) noK fun x26 =>
 opN p_ (sStore 29 x6 x26) noK fun _ =>
 N1))) (fun d1 =>
 opN p_ (sLoad 29 x6) (KpM [d1] Kp) fun x27 =>
 opN p_ (sStore 29 x4 x27) (KpM [d1] Kp) fun _ =>
 opN p_ (sStore 44 x5 (.int .i64 0)) (KpM [d1] Kp) fun _ =>
 (tkS d1 ((stS p_ (sRes 29 x4) fun r0 => (stS p_ (sRes 44 x5) fun r1 => K (.tuple #[r0, r1])))))) (fun d1 => (tkS d1 ((stS p_ (sRes 29 x4) fun r0 => (stS p_ (sRes 44 x5) fun r1 => K (.tuple #[r0, r1])))))) (fun d1 ch => (tkS d1 (Kp ch)))
theorem fields_list_string_s {v0 v1 : Value} : Shp p_ 34 [v0, v1] (fields_list_string v0 v1) := shT_ Tryd.call34 Tryd.func34 (an := {}) fun _ _ => by kernel_rfl
def fields_Tokens_1 (v0 : Value) (Kp : PK) (K : Value -> WP) : WP :=
 opN p_ (sCall (fn 33) [v0]) Kp fun x5 =>
 opN p_ (sCall (fn 36) [v0]) Kp fun x7 =>
 K (.tuple #[x5, x7])
theorem fields_Tokens_1_s {v0 : Value} : Shp p_ 35 [v0] (fields_Tokens_1 v0) := sh_ Tryd.call35 Tryd.func35 (an := {}) fun _ _ => by kernel_rfl
def ascii_Token (v0 : Value) (Kp : PK) (K : Value -> WP) : WP :=
 opN p_ (sEq .neq 9 (.tmp 3) (.const (.string ⟨#[]⟩)) v0 (.string ⟨#[]⟩)) Kp fun x4 =>
 gdK x4 true (fun k => k v0) fun x6 =>
 gdK x4 true (opN p_ (sCall (fn 43) [x6, (.int .i64 1)]) Kp) fun x7 =>
 opN p_ (sPick x4 x7 (.bool false)) Kp fun x8 =>
 K x8
theorem ascii_Token_s {v0 : Value} : Shp p_ 36 [v0] (ascii_Token v0) := sh_ Tryd.call36 Tryd.func36 (an := {}) fun _ _ => by kernel_rfl
def strings_Builder_grow (v0 v1 : Value) (Kp : PK) (K : Value -> WP) : WP :=
 drS (stS p_ (sNil v0) fun x6 =>
 stS p_ (sFA 66 x6 1) fun x7 =>
 stS p_ (sLoad 64 x7) fun x8 =>
 stS p_ (sCap #[64] 3 [x8]) fun x9 =>
 stS p_ (sBin .mul 3 (.int .i64 2) x9) fun x10 =>
 stS p_ (sBin .add 3 x10 v1) fun x12 =>
 stD p_ (sNil v0) fun D10 x15 =>
 stD p_ (sFA 66 x15 1) fun D11 x16 =>
 stD p_ (sLoad 64 x16) fun D12 x17 =>
 stD p_ (sLen #[64] 3 [x17]) fun D13 x18 =>
 opN p_ (sCall (fn 45) [x12]) Kp fun x13 =>
 (fun w => D13 w /\ (fun w => D12 w /\ (fun w => D11 w /\ (fun w => D10 w /\ (stS p_ (sSl 64 x13 none (some x18) none) fun x19 =>
 opN p_ (sNil v0) Kp fun x22 =>
 opN p_ (sFA 66 x22 1) Kp fun x23 =>
 opN p_ (sLoad 64 x23) Kp fun x24 =>
 opN p_ (sCopy #[64, 64] 3 [x19, x24]) Kp fun x25 =>
 opN p_ (sNil v0) Kp fun x28 =>
 opN p_ (sFA 66 x28 1) Kp fun x29 =>
 opN p_ (sStore 64 x29 x19) Kp fun _ =>
 K (.tuple #[])) w) w) w) w))
theorem strings_Builder_grow_s {v0 v1 : Value} : Shp p_ 38 [v0, v1] (strings_Builder_grow v0 v1) := sh_ Tryd.call38 Tryd.func38 (an := { drs := [(0, .ofL [(0, 1), (1, 1), (2, 1), (3, 1), (4, 1), (5, 1), (6, 1), (7, 1), (9, 2), (10, 3), (11, 3), (12, 3), (13, 3), (8, 0), (14, 1), (15, 1)])] }) fun _ _ => by kernel_rfl
def istrconv_FormatInt (v0 v1 : Value) (Kp : PK) (K : Value → WP) : WP :=
 opN p_ (sEq .eql 3 (.tmp 10) (.const (.int .i64 10)) v1 (.int .i64 10)) Kp fun x11 =>
 condS x11
 (opN p_ (sBin .leq 2 (.int .i64 0) v0) Kp fun x13 =>
 gdK x13 true (fun k => k v0) fun x15 =>
 gdK x13 true (opN p_ (sBin .lss 2 x15 (.int .i64 100)) Kp) fun x16 =>
 opN p_ (sPick x13 x16 (.bool false)) Kp fun x17 =>
 condS x17
 (opN p_ (sCall (fn 46) [v0]) Kp fun x19 =>
 K x19)
 (opN p_ (sAlloc 107) Kp fun x5 =>
 opN p_ (sConv 2 108 v0) Kp fun x21 =>
 cut1 (fun J1 =>
 opN p_ (sBin .lss 2 v0 (.int .i64 0)) Kp fun x23 =>
 condS x23
 (opN p_ (sUn .neg x21) Kp fun x25 =>
 J1 x25)
 (J1 x21)) fun _ z6 =>
 opN p_ (sCall (fn 47) [z6]) Kp fun x27 =>
 opN p_ (sBin .add 3 (.int .i64 1) x27) Kp fun x29 =>
 opN p_ (sSl 107 x5 (some (.int .i64 1)) (some x29) none) Kp fun x30 =>
 opN p_ (sCall (fn 48) [x30, z6]) Kp fun x32 =>
 opN p_ (sBin .lss 2 v0 (.int .i64 0)) Kp fun x34 =>
 condS x34
 (opN p_ (sIA 107 x5 (.int .i64 0)) Kp fun x35 =>
 opN p_ (sStore 5 x35 (.int .u8 45)) Kp fun _ =>
 opN p_ (sBin .add 3 (.int .i64 1) x27) Kp fun x37 =>
 opN p_ (sSl 107 x5 none (some x37) none) Kp fun x38 =>
 opN p_ (sConv 64 9 x38) Kp fun x39 =>
 K x39)
 (opN p_ (sBin .add 3 (.int .i64 1) x27) Kp fun x41 =>
 opN p_ (sSl 107 x5 (some (.int .i64 1)) (some x41) none) Kp fun x42 =>
 opN p_ (sConv 64 9 x42) Kp fun x43 =>
 K x43)))
 (opN p_ (sConv 2 108 v0) Kp fun x46 =>
 opN p_ (sBin .lss 2 v0 (.int .i64 0)) Kp fun x49 =>
 opN p_ (sCall (fn 49) [(.slice none 0 0), x46, v1, x49, (.bool false)]) Kp fun x50 =>
 opN p_ (sExt x50 0) Kp fun x51 =>
 opN p_ (sExt x50 1) Kp fun x52 =>
 K x52)
theorem istrconv_FormatInt_s {v0 v1 : Value} : Shp p_ 39 [v0, v1] (istrconv_FormatInt v0 v1) := sh_ Tryd.call39 Tryd.func39 (an := { cuts := [(8, [6])] }) fun _ _ => by kernel_rfl
def pool_Pool_round_1 (v0 v1 : Value) (Kp : PK) (K : Value → WP) : WP :=
 opN p_ (sLoad 43 v1) Kp fun x5 =>
 opN p_ (sNil x5) Kp fun x6 =>
 opN p_ (sFA 77 x6 0) Kp fun x7 =>
 opN p_ (sLoad 75 x7) Kp fun x8 =>
 opN p_ (sLen #[75] 3 [x8]) Kp fun x9 =>
 loop1 (fun I1 m1 _ y10 =>
 opN p_ (sBin .lss 3 y10 x9) Kp fun x11 =>
 condS x11
 (drS (stS p_ (sLoad 43 v1) fun x13 =>
 stS p_ (sNil x13) fun x14 =>
 stS p_ (sFA 77 x14 3) fun x15 =>
 stS p_ (sLoad 3 x15) fun x16 =>
 stS p_ (sBin .add 3 x16 y10) fun x18 =>
 stS p_ (sLoad 43 v1) fun x19 =>
 stS p_ (sNil x19) fun x20 =>
 stS p_ (sFA 77 x20 0) fun x21 =>
 stS p_ (sLoad 75 x21) fun x22 =>
 stS p_ (sLen #[75] 3 [x22]) fun x23 =>
 stS p_ (sBin .rem 3 x18 x23) fun x24 =>
 opN p_ (sLoad 43 v1) Kp fun x27 =>
 opN p_ (sNil x27) Kp fun x28 =>
 opN p_ (sFA 77 x28 0) Kp fun x29 =>
 opN p_ (sLoad 75 x29) Kp fun x30 =>
 opN p_ (sIA 75 x30 x24) Kp fun x32 =>
 opN p_ (sLoad 80 x32) Kp fun x33 =>
 opN p_ (sCall v0 [x24, x33]) Kp fun x34 =>
 opN p_ (sUn .not x34) Kp fun x35 =>
 condS x35
 (K (.tuple #[]))
 (opN p_ (sBin .add 3 y10 (.int .i64 1)) Kp fun x36 =>
 next1 I1 m1 x36)))
 (K (.tuple #[]))) (.int .i64 0)
theorem pool_Pool_round_1_s {v0 v1 : Value} : Shp p_ 40 [v0, v1] (pool_Pool_round_1 v0 v1) := sh_ Tryd.call40 Tryd.func40 (an := { loops := [(1, [10])], drs := [(3, .ofL [(0, 1), (1, 1), (2, 1), (3, 1), (4, 1), (5, 1), (6, 1), (7, 1), (8, 1), (9, 1), (10, 1), (11, 1), (12, 1)])] }) fun _ _ => by kernel_rfl
def ascii_classes (Kp : PK) (K : Value → WP) : WP :=
 opN p_ (sAlloc 98) Kp fun x0 =>
 opN p_ (sAlloc 98) Kp fun x1 =>
 loop1 (fun I1 m1 _ y4 =>
 opN p_ (sBin .lss 3 y4 (.int .i64 256)) Kp fun x5 =>
 condS x5
 (opN p_ (sBin .geq 3 y4 (.int .i64 97)) Kp fun x8 =>
 gdK x8 true (fun k => k y4) fun x10 =>
 gdK x8 true (opN p_ (sBin .leq 3 x10 (.int .i64 122)) Kp) fun x11 =>
 opN p_ (sPick x8 x11 (.bool false)) Kp fun x12 =>
 gdK x12 false (fun k => k y4) fun x14 =>
 gdK x12 false (opN p_ (sBin .geq 3 x14 (.int .i64 65)) Kp) fun x15 =>
 gdK x12 false (fun k => k x15) fun x16 =>
 gdK x16 true (fun k => k y4) fun x17 =>
 gdK x16 true (opN p_ (sBin .leq 3 x17 (.int .i64 90)) Kp) fun x18 =>
 gdK x12 false (opN p_ (sPick x16 x18 (.bool false)) Kp) fun x19 =>
 opN p_ (sPick x12 (.bool true) x19) Kp fun x20 =>
 gdK x20 false (fun k => k y4) fun x22 =>
 gdK x20 false (opN p_ (sBin .geq 3 x22 (.int .i64 48)) Kp) fun x23 =>
 gdK x20 false (fun k => k x23) fun x24 =>
 gdK x24 true (fun k => k y4) fun x25 =>
 gdK x24 true (opN p_ (sBin .leq 3 x25 (.int .i64 57)) Kp) fun x26 =>
 gdK x20 false (opN p_ (sPick x24 x26 (.bool false)) Kp) fun x27 =>
 opN p_ (sPick x20 (.bool true) x27) Kp fun x28 =>
 cut0 (fun J1 =>
 gdK x28 false (fun k => k y4) fun x31 =>
 gdK x28 false (opN p_ (sBin .gtr 3 x31 (.int .i64 32)) Kp) fun x32 =>
 gdK x28 false (fun k => k x32) fun x33 =>
 gdK x33 true (fun k => k y4) fun x34 =>
 gdK x33 true (opN p_ (sBin .lss 3 x34 (.int .i64 127)) Kp) fun x35 =>
 gdK x28 false (opN p_ (sPick x33 x35 (.bool false)) Kp) fun x36 =>
 gdK x28 false (fun k => k x36) fun x37 =>
 gdK x37 true (fun k => k y4) fun x38 =>
 gdK x37 true (opN p_ (sConv 3 5 x38) Kp) fun x39 =>
 gdK x37 true (opN p_ (sCall (fn 50) [(.string ⟨#[33, 35, 36, 37, 38, 39, 42, 43, 45, 46, 94, 95, 96, 124, 126]⟩), x39]) Kp) fun x40 =>
 gdK x37 true (opN p_ (sBin .geq 3 x40 (.int .i64 0)) Kp) fun x41 =>
 gdK x28 false (opN p_ (sPick x37 x41 (.bool false)) Kp) fun x42 =>
 opN p_ (sPick x28 (.bool true) x42) Kp fun x43 =>
 condS x43
 (opN p_ (sIA 98 x1 y4) Kp fun x45 =>
 opN p_ (sLoad 3 x45) Kp fun x46 =>
 opN p_ (sBin .or 3 x46 (.int .i64 1)) Kp fun x47 =>
 opN p_ (sIA 98 x1 y4) Kp fun x48 =>
 opN p_ (sStore 3 x48 x47) Kp fun _ =>
 J1)
 (J1)) fun _ =>
 cut0 (fun J2 =>
 opN p_ (sEq .eql 3 (.tmp 49) (.const (.int .i64 9)) y4 (.int .i64 9)) Kp fun x50 =>
 gdK x50 false (fun k => k y4) fun x52 =>
 gdK x50 false (opN p_ (sBin .geq 3 x52 (.int .i64 32)) Kp) fun x53 =>
 gdK x50 false (fun k => k x53) fun x54 =>
 gdK x54 true (fun k => k y4) fun x55 =>
 gdK x54 true (opN p_ (sEq .neq 3 (.tmp 55) (.const (.int .i64 127)) x55 (.int .i64 127)) Kp) fun x56 =>
 gdK x50 false (opN p_ (sPick x54 x56 (.bool false)) Kp) fun x57 =>
 opN p_ (sPick x50 (.bool true) x57) Kp fun x58 =>
 condS x58
 (opN p_ (sIA 98 x1 y4) Kp fun x60 =>
 opN p_ (sLoad 3 x60) Kp fun x61 =>
 opN p_ (sBin .or 3 x61 (.int .i64 2)) Kp fun x62 =>
 opN p_ (sIA 98 x1 y4) Kp fun x63 =>
 opN p_ (sStore 3 x63 x62) Kp fun _ =>
 J2)
 (J2)) fun _ =>
 opN p_ (sBin .geq 3 y4 (.int .i64 65)) Kp fun x65 =>
 gdK x65 true (fun k => k y4) fun x67 =>
 gdK x65 true (opN p_ (sBin .leq 3 x67 (.int .i64 90)) Kp) fun x68 =>
 opN p_ (sPick x65 x68 (.bool false)) Kp fun x69 =>
 condS x69
 (opN p_ (sIA 98 x1 y4) Kp fun x71 =>
 opN p_ (sLoad 3 x71) Kp fun x72 =>
 opN p_ (sBin .or 3 x72 (.int .i64 4)) Kp fun x73 =>
 opN p_ (sIA 98 x1 y4) Kp fun x74 =>
 opN p_ (sStore 3 x74 x73) Kp fun _ =>
 opN p_ (sBin .add 3 y4 (.int .i64 1)) Kp fun x75 =>
 next1 I1 m1 x75)
 (opN p_ (sBin .add 3 y4 (.int .i64 1)) Kp fun x75 =>
 next1 I1 m1 x75))
 (opN p_ (sLoad 98 x1) Kp fun x76 =>
 opN p_ (sStore 98 x0 x76) Kp fun _ =>
 (stS p_ (sRes 98 x0) fun r0 => K r0))) (.int .i64 0)
theorem ascii_classes_s  : Shp p_ 41 [] (ascii_classes) := sh_ Tryd.call41 Tryd.func41 (an := { cuts := [(8, []), (10, [])], loops := [(3, [4])] }) fun _ _ => by kernel_rfl
def fields_kind_string_elements (v0 v1 : Value) (Kp : PK) (K : Value -> WP) : WP :=
 opN p_ (sBox 94 v0) Kp fun x2 =>
 opN p_ (sBox 9 v1) Kp fun x3 =>
 opN p_ (sMkF (.func 51) [] [x3, x2]) Kp fun x5 =>
 K x5
theorem fields_kind_string_elements_s {v0 v1 : Value} : Shp p_ 42 [v0, v1] (fields_kind_string_elements v0 v1) := sh_ Tryd.call42 Tryd.func42 (an := {}) fun _ _ => by kernel_rfl
def ascii_all (v0 v1 : Value) (Kp : PK) (K : Value → WP) : WP :=
 opN p_ (sCall (fn 41) []) Kp fun x7 =>
 opN p_ (sAlloc 98) Kp fun x5 =>
 opN p_ (sStore 98 x5 x7) Kp fun _ =>
 opN p_ (sLen #[9] 3 [v0]) Kp fun x9 =>
 loop1 (fun I1 m1 _ y10 =>
 opN p_ (sBin .lss 3 y10 x9) Kp fun x11 =>
 condS x11
 (opN p_ (sIx 9 v0 y10) Kp fun x15 =>
 opN p_ (sIA 98 x5 x15) Kp fun x16 =>
 opN p_ (sLoad 3 x16) Kp fun x17 =>
 opN p_ (sBin .and 3 x17 v1) Kp fun x19 =>
 opN p_ (sEq .eql 3 (.tmp 19) (.const (.int .i64 0)) x19 (.int .i64 0)) Kp fun x20 =>
 condS x20
 (K (.bool false))
 (opN p_ (sBin .add 3 y10 (.int .i64 1)) Kp fun x21 =>
 next1 I1 m1 x21))
 (K (.bool true))) (.int .i64 0)
theorem ascii_all_s {v0 v1 : Value} : Shp p_ 43 [v0, v1] (ascii_all v0 v1) := sh_ Tryd.call43 Tryd.func43 (an := { loops := [(3, [10])] }) fun _ _ => by kernel_rfl
def istrconv_small (v0 : Value) (Kp : PK) (K : Value → WP) : WP :=
 opN p_ (sBin .lss 3 v0 (.int .i64 10)) Kp fun x4 =>
 condS x4
 (opN p_ (sBin .add 3 v0 (.int .i64 1)) Kp fun x7 =>
 opN p_ (sSl 9 (.string ⟨#[48, 49, 50, 51, 52, 53, 54, 55, 56, 57, 97, 98, 99, 100, 101, 102, 103, 104, 105, 106, 107, 108, 109, 110, 111, 112, 113, 114, 115, 116, 117, 118, 119, 120, 121, 122]⟩) (some v0) (some x7) none) Kp fun x8 =>
 K x8)
 (opN p_ (sBin .mul 3 v0 (.int .i64 2)) Kp fun x10 =>
 opN p_ (sBin .mul 3 v0 (.int .i64 2)) Kp fun x12 =>
 opN p_ (sBin .add 3 x12 (.int .i64 2)) Kp fun x13 =>
 opN p_ (sSl 9 (txt lit0) (some x10) (some x13) none) Kp fun x14 =>
 K x14)
theorem istrconv_small_s {v0 : Value} : Shp p_ 46 [v0] (istrconv_small v0) := sh_ Tryd.call46 Tryd.func46 (an := {}) fun _ _ => by kernel_rfl
def istrconv_numDigits (v0 : Value) (Kp : PK) (K : Value -> WP) : WP :=
 opN p_ (sCall (fn 54) [v0]) Kp fun x5 =>
 opN p_ (sCall (fn 53) [x5]) Kp fun x6 =>
 opN p_ (sIA 115 (.pointer (some ⟨1, 0, none⟩)) x6) Kp fun x10 =>
 opN p_ (sLoad 108 x10) Kp fun x11 =>
 opN p_ (sBin .geq 108 v0 x11) Kp fun x12 =>
 opN p_ (sCall (fn 55) [x12]) Kp fun x13 =>
 opN p_ (sBin .add 3 x6 x13) Kp fun x14 =>
 K x14
theorem istrconv_numDigits_s {v0 : Value} : Shp p_ 47 [v0] (istrconv_numDigits v0) := sh_ Tryd.call47 Tryd.func47 (an := {}) fun _ _ => by kernel_rfl
def istrconv_formatBase10 (v0 v1 : Value) (Kp : PK) (K : Value → WP) : WP :=
 opN p_ (sLen #[64] 3 [v0]) Kp fun x18 =>
 loop2 (fun I1 m1 _ y1 y4 =>
 opN p_ (sBin .geq 3 y4 (.int .i64 8)) Kp fun x20 =>
 condS x20
 (opN p_ (sBin .rem 108 y1 (.int .u64 100000000)) Kp fun x22 =>
 opN p_ (sConv 108 116 x22) Kp fun x23 =>
 opN p_ (sBin .quo 108 y1 (.int .u64 100000000)) Kp fun x25 =>
 opN p_ (sBin .quo 116 x23 (.int .u32 10000)) Kp fun x27 =>
 opN p_ (sBin .rem 116 x23 (.int .u32 10000)) Kp fun x29 =>
 opN p_ (sBin .quo 116 x29 (.int .u32 100)) Kp fun x31 =>
 opN p_ (sBin .mul 116 x31 (.int .u32 2)) Kp fun x32 =>
 opN p_ (sBin .rem 116 x29 (.int .u32 100)) Kp fun x34 =>
 opN p_ (sBin .mul 116 x34 (.int .u32 2)) Kp fun x35 =>
 opN p_ (sBin .quo 116 x27 (.int .u32 100)) Kp fun x37 =>
 opN p_ (sBin .mul 116 x37 (.int .u32 2)) Kp fun x38 =>
 opN p_ (sBin .rem 116 x27 (.int .u32 100)) Kp fun x40 =>
 opN p_ (sBin .mul 116 x40 (.int .u32 2)) Kp fun x41 =>
 drS (stS p_ (sBin .sub 3 y4 (.int .i64 1)) fun x44 =>
 stD p_ (sBin .sub 3 y4 (.int .i64 2)) fun D5 x47 =>
 stS p_ (sBin .add 116 x35 (.int .u32 1)) fun x49 =>
 stS p_ (sIx 9 (txt lit0) x49) fun x50 =>
 stD p_ (sIx 9 (txt lit0) x35) fun D10 x52 =>
 stS p_ (sIA 64 v0 x44) fun x53 =>
 opN p_ (sStore 5 x53 x50) Kp fun _ =>
 (fun w => D10 w ∧ (fun w => D5 w ∧ (stS p_ (sIA 64 v0 x47) fun x54 =>
 opN p_ (sStore 5 x54 x52) Kp fun _ =>
 drS (stS p_ (sBin .sub 3 y4 (.int .i64 3)) fun x57 =>
 stD p_ (sBin .sub 3 y4 (.int .i64 4)) fun D5 x60 =>
 stS p_ (sBin .add 116 x32 (.int .u32 1)) fun x62 =>
 stS p_ (sIx 9 (txt lit0) x62) fun x63 =>
 stD p_ (sIx 9 (txt lit0) x32) fun D10 x65 =>
 stS p_ (sIA 64 v0 x57) fun x66 =>
 opN p_ (sStore 5 x66 x63) Kp fun _ =>
 (fun w => D10 w ∧ (fun w => D5 w ∧ (stS p_ (sIA 64 v0 x60) fun x67 =>
 opN p_ (sStore 5 x67 x65) Kp fun _ =>
 drS (stS p_ (sBin .sub 3 y4 (.int .i64 5)) fun x70 =>
 stD p_ (sBin .sub 3 y4 (.int .i64 6)) fun D5 x73 =>
 stS p_ (sBin .add 116 x41 (.int .u32 1)) fun x75 =>
 stS p_ (sIx 9 (txt lit0) x75) fun x76 =>
 stD p_ (sIx 9 (txt lit0) x41) fun D10 x78 =>
 stS p_ (sIA 64 v0 x70) fun x79 =>
 opN p_ (sStore 5 x79 x76) Kp fun _ =>
 (fun w => D10 w ∧ (fun w => D5 w ∧ (stS p_ (sIA 64 v0 x73) fun x80 =>
 opN p_ (sStore 5 x80 x78) Kp fun _ =>
 drS (stS p_ (sBin .sub 3 y4 (.int .i64 7)) fun x83 =>
 stD p_ (sBin .sub 3 y4 (.int .i64 8)) fun D5 x86 =>
 stS p_ (sBin .add 116 x38 (.int .u32 1)) fun x88 =>
 stS p_ (sIx 9 (txt lit0) x88) fun x89 =>
 stD p_ (sIx 9 (txt lit0) x38) fun D10 x91 =>
 stS p_ (sIA 64 v0 x83) fun x92 =>
 opN p_ (sStore 5 x92 x89) Kp fun _ =>
 (fun w => D10 w ∧ (fun w => D5 w ∧ (stS p_ (sIA 64 v0 x86) fun x93 =>
 opN p_ (sStore 5 x93 x91) Kp fun _ =>
 opN p_ (sBin .sub 3 y4 (.int .i64 8)) Kp fun x95 =>
 next2 I1 m1 x25 x95) w) w))) w) w))) w) w))) w) w)))
 (opN p_ (sConv 108 116 y1) Kp fun x97 =>
 cut2 (fun J1 =>
 opN p_ (sBin .geq 3 y4 (.int .i64 4)) Kp fun x99 =>
 condS x99
 (opN p_ (sBin .rem 116 x97 (.int .u32 10000)) Kp fun x101 =>
 opN p_ (sBin .quo 116 x97 (.int .u32 10000)) Kp fun x103 =>
 opN p_ (sBin .quo 116 x101 (.int .u32 100)) Kp fun x105 =>
 opN p_ (sBin .mul 116 x105 (.int .u32 2)) Kp fun x106 =>
 opN p_ (sBin .rem 116 x101 (.int .u32 100)) Kp fun x108 =>
 opN p_ (sBin .mul 116 x108 (.int .u32 2)) Kp fun x109 =>
 drS (stS p_ (sBin .sub 3 y4 (.int .i64 1)) fun x112 =>
 stD p_ (sBin .sub 3 y4 (.int .i64 2)) fun D5 x115 =>
 stS p_ (sBin .add 116 x109 (.int .u32 1)) fun x117 =>
 stS p_ (sIx 9 (txt lit0) x117) fun x118 =>
 stD p_ (sIx 9 (txt lit0) x109) fun D10 x120 =>
 stS p_ (sIA 64 v0 x112) fun x121 =>
 opN p_ (sStore 5 x121 x118) Kp fun _ =>
 (fun w => D10 w ∧ (fun w => D5 w ∧ (stS p_ (sIA 64 v0 x115) fun x122 =>
 opN p_ (sStore 5 x122 x120) Kp fun _ =>
 drS (stS p_ (sBin .sub 3 y4 (.int .i64 3)) fun x125 =>
 stD p_ (sBin .sub 3 y4 (.int .i64 4)) fun D5 x128 =>
 stS p_ (sBin .add 116 x106 (.int .u32 1)) fun x130 =>
 stS p_ (sIx 9 (txt lit0) x130) fun x131 =>
 stD p_ (sIx 9 (txt lit0) x106) fun D10 x133 =>
 stS p_ (sIA 64 v0 x125) fun x134 =>
 opN p_ (sStore 5 x134 x131) Kp fun _ =>
 (fun w => D10 w ∧ (fun w => D5 w ∧ (stS p_ (sIA 64 v0 x128) fun x135 =>
 opN p_ (sStore 5 x135 x133) Kp fun _ =>
 opN p_ (sBin .sub 3 y4 (.int .i64 4)) Kp fun x137 =>
 J1 x137 x103) w) w))) w) w)))
 (J1 y4 x97)) fun _ z4 z12 =>
 cut2 (fun J2 =>
 opN p_ (sBin .geq 3 z4 (.int .i64 2)) Kp fun x139 =>
 condS x139
 (opN p_ (sBin .rem 116 z12 (.int .u32 100)) Kp fun x141 =>
 opN p_ (sBin .mul 116 x141 (.int .u32 2)) Kp fun x142 =>
 opN p_ (sBin .quo 116 z12 (.int .u32 100)) Kp fun x144 =>
 drS (stS p_ (sBin .sub 3 z4 (.int .i64 1)) fun x147 =>
 stD p_ (sBin .sub 3 z4 (.int .i64 2)) fun D5 x150 =>
 stS p_ (sBin .add 116 x142 (.int .u32 1)) fun x152 =>
 stS p_ (sIx 9 (txt lit0) x152) fun x153 =>
 stD p_ (sIx 9 (txt lit0) x142) fun D10 x155 =>
 stS p_ (sIA 64 v0 x147) fun x156 =>
 opN p_ (sStore 5 x156 x153) Kp fun _ =>
 (fun w => D10 w ∧ (fun w => D5 w ∧ (stS p_ (sIA 64 v0 x150) fun x157 =>
 opN p_ (sStore 5 x157 x155) Kp fun _ =>
 opN p_ (sBin .sub 3 z4 (.int .i64 2)) Kp fun x159 =>
 J2 x159 x144) w) w)))
 (J2 z4 z12)) fun _ z4 z12 =>
 opN p_ (sBin .gtr 3 z4 (.int .i64 0)) Kp fun x161 =>
 condS x161
 (opN p_ (sBin .add 116 (.int .u32 48) z12) Kp fun x164 =>
 opN p_ (sConv 116 5 x164) Kp fun x165 =>
 opN p_ (sIA 64 v0 (.int .i64 0)) Kp fun x166 =>
 opN p_ (sStore 5 x166 x165) Kp fun _ =>
 K (.tuple #[]))
 (K (.tuple #[])))) v1 x18
theorem istrconv_formatBase10_s {v0 v1 : Value} : Shp p_ 48 [v0, v1] (istrconv_formatBase10 v0 v1) := sh_ Tryd.call48 Tryd.func48 (an := { cuts := [(20, [4, 12]), (25, [4, 12])], loops := [(1, [1, 4])], drs := [(7, .ofL [(0, 1), (1, 1), (2, 1), (3, 2), (4, 2), (5, 3), (6, 1), (7, 1), (8, 1), (9, 2), (10, 3), (11, 1), (12, 0), (13, 1), (14, 0)]), (8, .ofL [(0, 1), (1, 1), (2, 1), (3, 2), (4, 2), (5, 3), (6, 1), (7, 1), (8, 1), (9, 2), (10, 3), (11, 1), (12, 0), (13, 1), (14, 0)]), (9, .ofL [(0, 1), (1, 1), (2, 1), (3, 2), (4, 2), (5, 3), (6, 1), (7, 1), (8, 1), (9, 2), (10, 3), (11, 1), (12, 0), (13, 1), (14, 0)]), (10, .ofL [(0, 1), (1, 1), (2, 1), (3, 2), (4, 2), (5, 3), (6, 1), (7, 1), (8, 1), (9, 2), (10, 3), (11, 1), (12, 0), (13, 1), (14, 0)]), (17, .ofL [(0, 1), (1, 1), (2, 1), (3, 2), (4, 2), (5, 3), (6, 1), (7, 1), (8, 1), (9, 2), (10, 3), (11, 1), (12, 0), (13, 1), (14, 0)]), (18, .ofL [(0, 1), (1, 1), (2, 1), (3, 2), (4, 2), (5, 3), (6, 1), (7, 1), (8, 1), (9, 2), (10, 3), (11, 1), (12, 0), (13, 1), (14, 0)]), (23, .ofL [(0, 1), (1, 1), (2, 1), (3, 2), (4, 2), (5, 3), (6, 1), (7, 1), (8, 1), (9, 2), (10, 3), (11, 1), (12, 0), (13, 1), (14, 0)])] }) fun _ _ => by kernel_rfl
def strings_IndexByte (v0 v1 : Value) (Kp : PK) (K : Value -> WP) : WP :=
 opN p_ (sCall (fn 58) [v0, v1]) Kp fun x7 =>
 K x7
theorem strings_IndexByte_s {v0 v1 : Value} : Shp p_ 50 [v0, v1] (strings_IndexByte v0 v1) := sh_ Tryd.call50 Tryd.func50 (an := {}) fun _ _ => by kernel_rfl
def fields_kind_string_elements_1 (v0 v1 v2 : Value) (Kp : PK) (K : Value → WP) : WP :=
 loop3 (fun I1 m1 _ y4 y5 y6 =>
 opN p_ (sLoad 9 v1) Kp fun x11 =>
 opN p_ (sLen #[9] 3 [x11]) Kp fun x12 =>
 opN p_ (sBin .lss 3 y6 x12) Kp fun x13 =>
 condS x13
 (opN p_ (sLoad 9 v1) Kp fun x16 =>
 opN p_ (sIx 9 x16 y6) Kp fun x18 =>
 opN p_ (sEq .eql 5 (.tmp 20) (.const (.int .u8 92)) x18 (.int .u8 92)) Kp fun x21 =>
 gdK x21 true (fun k => k y4) fun x23 =>
 opN p_ (sPick x21 x23 (.bool false)) Kp fun x24 =>
 gdK x24 true (opN p_ (sFA 94 v2 1) Kp) fun x26 =>
 gdK x24 true (opN p_ (sLoad 4 x26) Kp) fun x27 =>
 opN p_ (sPick x24 x27 (.bool false)) Kp fun x28 =>
 condS x28
 (opN p_ (sBin .add 3 y6 (.int .i64 1)) Kp fun x30 =>
 opN p_ (sBin .add 3 x30 (.int .i64 1)) Kp fun x15 =>
 next3 I1 m1 y4 y5 x15)
 (opN p_ (sEq .eql 5 (.tmp 32) (.const (.int .u8 34)) x18 (.int .u8 34)) Kp fun x33 =>
 gdK x33 true (opN p_ (sFA 94 v2 0) Kp) fun x35 =>
 gdK x33 true (opN p_ (sLoad 4 x35) Kp) fun x36 =>
 opN p_ (sPick x33 x36 (.bool false)) Kp fun x37 =>
 condS x37
 (opN p_ (sUn .not y4) Kp fun x39 =>
 opN p_ (sBin .add 3 y6 (.int .i64 1)) Kp fun x15 =>
 next3 I1 m1 x39 y5 x15)
 (opN p_ (sEq .eql 5 (.tmp 41) (.const (.int .u8 44)) x18 (.int .u8 44)) Kp fun x42 =>
 gdK x42 true (fun k => k y4) fun x44 =>
 gdK x42 true (opN p_ (sUn .not x44) Kp) fun x45 =>
 opN p_ (sPick x42 x45 (.bool false)) Kp fun x46 =>
 condS x46
 (opN p_ (sLoad 9 v1) Kp fun x47 =>
 opN p_ (sSl 9 x47 (some y5) (some y6) none) Kp fun x50 =>
 opN p_ (sCall (fn 52) [x50]) Kp fun x51 =>
 opN p_ (sEq .neq 9 (.tmp 52) (.const (.string ⟨#[]⟩)) x51 (.string ⟨#[]⟩)) Kp fun x53 =>
 gdK x53 true (fun k => k v0) fun x55 =>
 gdK x53 true (fun k => k x51) fun x56 =>
 gdK x53 true (opN p_ (sCall x55 [x56]) Kp) fun x57 =>
 gdK x53 true (opN p_ (sUn .not x57) Kp) fun x58 =>
 opN p_ (sPick x53 x58 (.bool false)) Kp fun x59 =>
 condS x59
 (K (.tuple #[]))
 (opN p_ (sBin .add 3 y6 (.int .i64 1)) Kp fun x61 =>
 opN p_ (sBin .add 3 y6 (.int .i64 1)) Kp fun x15 =>
 next3 I1 m1 y4 x61 x15))
 (opN p_ (sBin .add 3 y6 (.int .i64 1)) Kp fun x15 =>
 next3 I1 m1 y4 y5 x15))))
 (opN p_ (sLoad 9 v1) Kp fun x62 =>
 opN p_ (sSl 9 x62 (some y5) none none) Kp fun x64 =>
 opN p_ (sCall (fn 52) [x64]) Kp fun x65 =>
 opN p_ (sEq .neq 9 (.tmp 66) (.const (.string ⟨#[]⟩)) x65 (.string ⟨#[]⟩)) Kp fun x67 =>
 condS x67
 (opN p_ (sCall v0 [x65]) Kp fun x70 =>
 K (.tuple #[]))
 (K (.tuple #[])))) (.bool false) (.int .i64 0) (.int .i64 0)
theorem fields_kind_string_elements_1_s {v0 v1 v2 : Value} : Shp p_ 51 [v0, v1, v2] (fields_kind_string_elements_1 v0 v1 v2) := sh_ Tryd.call51 Tryd.func51 (an := { loops := [(2, [4, 5, 6])] }) fun _ _ => by kernel_rfl
def ascii_Trim (v0 : Value) (Kp : PK) (K : Value -> WP) : WP :=
 opN p_ (sCall (fn 59) [v0, (.string ⟨#[32, 9]⟩)]) Kp fun x4 =>
 K x4
theorem ascii_Trim_s {v0 : Value} : Shp p_ 52 [v0] (ascii_Trim v0) := sh_ Tryd.call52 Tryd.func52 (an := {}) fun _ _ => by kernel_rfl
def istrconv_log10Pow2 (v0 : Value) (Kp : PK) (K : Value -> WP) : WP :=
 opN p_ (sBin .mul 3 v0 (.int .i64 78913)) Kp fun x4 =>
 opN p_ (sBin .shr 3 x4 (.int .u64 18)) Kp fun x5 =>
 K x5
theorem istrconv_log10Pow2_s {v0 : Value} : Shp p_ 53 [v0] (istrconv_log10Pow2 v0) := sh_ Tryd.call53 Tryd.func53 (an := {}) fun _ _ => by kernel_rfl
def math_bits_Len64 (v0 : Value) (Kp : PK) (K : Value → WP) : WP :=
 cut2 (fun J1 =>
 opN p_ (sBin .geq 108 v0 (.int .u64 4294967296)) Kp fun x4 =>
 condS x4
 (opN p_ (sBin .shr 108 v0 (.int .u64 32)) Kp fun x6 =>
 J1 x6 (.int .i64 32))
 (J1 v0 (.int .i64 0))) fun _ z0 z2 =>
 cut2 (fun J2 =>
 opN p_ (sBin .geq 108 z0 (.int .u64 65536)) Kp fun x8 =>
 condS x8
 (opN p_ (sBin .shr 108 z0 (.int .u64 16)) Kp fun x10 =>
 opN p_ (sBin .add 3 z2 (.int .i64 16)) Kp fun x12 =>
 J2 x10 x12)
 (J2 z0 z2)) fun _ z0 z2 =>
 cut2 (fun J3 =>
 opN p_ (sBin .geq 108 z0 (.int .u64 256)) Kp fun x14 =>
 condS x14
 (opN p_ (sBin .shr 108 z0 (.int .u64 8)) Kp fun x16 =>
 opN p_ (sBin .add 3 z2 (.int .i64 8)) Kp fun x18 =>
 J3 x16 x18)
 (J3 z0 z2)) fun _ z0 z2 =>
 opN p_ (sConv 108 5 z0) Kp fun x21 =>
 opN p_ (sIx 9 (txt lit1) x21) Kp fun x22 =>
 opN p_ (sConv 5 3 x22) Kp fun x23 =>
 opN p_ (sBin .add 3 z2 x23) Kp fun x24 =>
 K x24
theorem math_bits_Len64_s {v0 : Value} : Shp p_ 54 [v0] (math_bits_Len64 v0) := sh_ Tryd.call54 Tryd.func54 (an := { cuts := [(4, [0, 2]), (7, [0, 2]), (10, [0, 2])] }) fun _ _ => by kernel_rfl
def istrconv_bool2_int (v0 : Value) (Kp : PK) (K : Value -> WP) : WP :=
 condS v0
 (K (.int .i64 1))
 (K (.int .i64 0))
theorem istrconv_bool2_int_s {v0 : Value} : Shp p_ 55 [v0] (istrconv_bool2_int v0) := sh_ Tryd.call55 Tryd.func55 (an := {}) fun _ _ => by kernel_rfl
def stringslite_IndexByte (v0 v1 : Value) (Kp : PK) (K : Value -> WP) : WP :=
 opN p_ (sCall (fn 62) [v0, v1]) Kp fun x7 =>
 K x7
theorem stringslite_IndexByte_s {v0 v1 : Value} : Shp p_ 58 [v0, v1] (stringslite_IndexByte v0 v1) := sh_ Tryd.call58 Tryd.func58 (an := {}) fun _ _ => by kernel_rfl
def strings_Trim (v0 v1 : Value) (Kp : PK) (K : Value → WP) : WP :=
 opN p_ (sEq .eql 9 (.tmp 7) (.const (.string ⟨#[]⟩)) v0 (.string ⟨#[]⟩)) Kp fun x8 =>
 gdK x8 false (fun k => k v1) fun x10 =>
 gdK x8 false (opN p_ (sEq .eql 9 (.tmp 10) (.const (.string ⟨#[]⟩)) x10 (.string ⟨#[]⟩)) Kp) fun x11 =>
 opN p_ (sPick x8 (.bool true) x11) Kp fun x12 =>
 condS x12
 (K v0)
 (opN p_ (sLen #[9] 3 [v1]) Kp fun x15 =>
 opN p_ (sEq .eql 3 (.tmp 15) (.const (.int .i64 1)) x15 (.int .i64 1)) Kp fun x16 =>
 gdK x16 true (fun k => k v1) fun x18 =>
 gdK x16 true (opN p_ (sIx 9 x18 (.int .i64 0)) Kp) fun x19 =>
 gdK x16 true (opN p_ (sBin .lss 5 x19 (.int .u8 128)) Kp) fun x20 =>
 opN p_ (sPick x16 x20 (.bool false)) Kp fun x21 =>
 condS x21
 (drS (stS p_ (sIx 9 v1 (.int .i64 0)) fun x24 =>
 stD p_ (sIx 9 v1 (.int .i64 0)) fun D5 x27 =>
 opN p_ (sCall (fn 64) [v0, x24]) Kp fun x25 =>
 (fun w => D5 w ∧ (opN p_ (sCall (fn 63) [x25, x27]) Kp fun x28 =>
 K x28) w)))
 (opN p_ (sCall (fn 65) [v1]) Kp fun x31 =>
 opN p_ (sExt x31 0) Kp fun x32 =>
 opN p_ (sExt x31 1) Kp fun x33 =>
 opN p_ (sAlloc 125) Kp fun x5 =>
 opN p_ (sStore 125 x5 x32) Kp fun _ =>
 condS x33
 (opN p_ (sCall (fn 67) [v0, x5]) Kp fun x36 =>
 opN p_ (sCall (fn 66) [x36, x5]) Kp fun x37 =>
 K x37)
 (opN p_ (sCall (fn 69) [v0, v1]) Kp fun x40 =>
 opN p_ (sCall (fn 68) [x40, v1]) Kp fun x42 =>
 K x42)))
theorem strings_Trim_s {v0 v1 : Value} : Shp p_ 59 [v0, v1] (strings_Trim v0 v1) := sh_ Tryd.call59 Tryd.func59 (an := { drs := [(4, .ofL [(0, 1), (1, 1), (2, 1), (4, 2), (5, 3), (3, 0), (6, 0), (7, 1)])] }) fun _ _ => by kernel_rfl
def strings_makeASCIISet (v0 : Value) (Kp : PK) (K : Value → WP) : WP :=
 opN p_ (sAlloc 125) Kp fun x2 =>
 loop1 (fun I1 m1 _ y4 =>
 opN p_ (sLen #[9] 3 [v0]) Kp fun x8 =>
 opN p_ (sBin .lss 3 y4 x8) Kp fun x9 =>
 condS x9
 (opN p_ (sIx 9 v0 y4) Kp fun x14 =>
 opN p_ (sBin .geq 5 x14 (.int .u8 128)) Kp fun x16 =>
 condS x16
 (opN p_ (sLoad 125 x2) Kp fun x17 =>
 opN p_ (sStore 125 x2 x17) Kp fun _ =>
 (stS p_ (sRes 125 x2) fun r0 => K (.tuple #[r0, (.bool false)])))
 (opN p_ (sIA 125 x2 x14) Kp fun x19 =>
 opN p_ (sStore 4 x19 (.bool true)) Kp fun _ =>
 opN p_ (sBin .add 3 y4 (.int .i64 1)) Kp fun x11 =>
 next1 I1 m1 x11))
 (opN p_ (sLoad 125 x2) Kp fun x20 =>
 opN p_ (sStore 125 x2 x20) Kp fun _ =>
 (stS p_ (sRes 125 x2) fun r0 => K (.tuple #[r0, (.bool true)])))) (.int .i64 0)
theorem strings_makeASCIISet_s {v0 : Value} : Shp p_ 65 [v0] (strings_makeASCIISet v0) := sh_ Tryd.call65 Tryd.func65 (an := { loops := [(2, [4])] }) fun _ _ => by kernel_rfl
def strings_trimLeftASCII (v0 v1 : Value) (Kp : PK) (K : Value → WP) : WP :=
 loop1 (fun I1 m1 _ y0 =>
 opN p_ (sLen #[9] 3 [y0]) Kp fun x6 =>
 opN p_ (sBin .gtr 3 x6 (.int .i64 0)) Kp fun x7 =>
 condS x7
 (opN p_ (sIx 9 y0 (.int .i64 0)) Kp fun x10 =>
 opN p_ (sCall (fn 70) [v1, x10]) Kp fun x11 =>
 opN p_ (sUn .not x11) Kp fun x12 =>
 condS x12
 (K y0)
 (opN p_ (sSl 9 y0 (some (.int .i64 1)) none none) Kp fun x14 =>
 next1 I1 m1 x14))
 (K y0)) v0
theorem strings_trimLeftASCII_s {v0 v1 : Value} : Shp p_ 66 [v0, v1] (strings_trimLeftASCII v0 v1) := sh_ Tryd.call66 Tryd.func66 (an := { loops := [(1, [0])] }) fun _ _ => by kernel_rfl
def strings_trimRightASCII (v0 v1 : Value) (Kp : PK) (K : Value → WP) : WP :=
 loop1 (fun I1 m1 _ y0 =>
 opN p_ (sLen #[9] 3 [y0]) Kp fun x6 =>
 opN p_ (sBin .gtr 3 x6 (.int .i64 0)) Kp fun x7 =>
 condS x7
 (opN p_ (sLen #[9] 3 [y0]) Kp fun x11 =>
 opN p_ (sBin .sub 3 x11 (.int .i64 1)) Kp fun x12 =>
 opN p_ (sIx 9 y0 x12) Kp fun x13 =>
 opN p_ (sCall (fn 70) [v1, x13]) Kp fun x14 =>
 opN p_ (sUn .not x14) Kp fun x15 =>
 condS x15
 (K y0)
 (opN p_ (sLen #[9] 3 [y0]) Kp fun x18 =>
 opN p_ (sBin .sub 3 x18 (.int .i64 1)) Kp fun x19 =>
 opN p_ (sSl 9 y0 none (some x19) none) Kp fun x20 =>
 next1 I1 m1 x20))
 (K y0)) v0
theorem strings_trimRightASCII_s {v0 v1 : Value} : Shp p_ 67 [v0, v1] (strings_trimRightASCII v0 v1) := sh_ Tryd.call67 Tryd.func67 (an := { loops := [(1, [0])] }) fun _ _ => by kernel_rfl
def strings_asciiSet_contains (v0 v1 : Value) (Kp : PK) (K : Value -> WP) : WP :=
 opN p_ (sNil v0) Kp fun x7 =>
 opN p_ (sIA 125 x7 v1) Kp fun x8 =>
 opN p_ (sLoad 4 x8) Kp fun x9 =>
 K x9
theorem strings_asciiSet_contains_s {v0 v1 : Value} : Shp p_ 70 [v0, v1] (strings_asciiSet_contains v0 v1) := sh_ Tryd.call70 Tryd.func70 (an := {}) fun _ _ => by kernel_rfl
end Go.Proofs.YthomhkpedghhgaaDoor.S
namespace Go.Proofs.YthomhkpedghhgaaDoor.FD
open Go Go.Proofs Go.RowKit Sh Sl T
section
variable {P : Program} {W : World} {L L' : List HP} {Kp : PK} {k : Value -> WP}
theorem e_and {a b : Bool} {y : Value} {s : Value -> Sem Next} (h2 : a = true -> RunV P W [] (s y) (.bool b)) (h : Ent W L (k (.bool (a && b)))) :
  Ent W L (gdK (.bool a) true (fun k => k y) fun x => gdK (.bool a) true (opN P (s x) Kp) fun x2 => opN P (sPick (.bool a) x2 (.bool false)) Kp k) := by
 cases a with
 | true =>
  refine e_gdT (e_gdT (o_ (h2 rfl) ?_))
  refine o_ v_pickT ?_
  simpa using h
 | false =>
  refine e_gdF2 (e_gdF2 (o_ v_pickF ?_))
  simpa using h
theorem e_orand {a b c : Bool} {y : Value} {s1 s2 : Value -> Sem Next} (h1 : a = false -> RunV P W [] (s1 y) (.bool b)) (h2 : a = false -> b = true -> RunV P W [] (s2 y) (.bool c)) (h : Ent W L (k (.bool (a || (b && c))))) :
  Ent W L (gdK (.bool a) false (fun k => k y) fun x14 => gdK (.bool a) false (opN P (s1 x14) Kp) fun x15 => gdK (.bool a) false (fun k => k x15) fun x16 => gdK x16 true (fun k => k y) fun x17 => gdK x16 true (opN P (s2 x17) Kp) fun x18 =>
   gdK (.bool a) false (opN P (sPick x16 x18 (.bool false)) Kp) fun x19 => opN P (sPick (.bool a) (.bool true) x19) Kp k) := by
 cases a with
 | true =>
  refine e_gdF1 (e_gdF1 (e_gdF1 (e_gdU (e_gdU (e_gdF1 (o_ v_pickT ?_))))))
  simpa using h
 | false =>
  refine e_gdT (e_gdT (o_ (h1 rfl) ?_))
  refine e_gdT ?_
  cases b with
  | true =>
   refine e_gdT (e_gdT (o_ (h2 rfl rfl) ?_))
   refine e_gdT (o_ v_pickT (o_ v_pickF ?_))
   simpa using h
  | false =>
   refine e_gdF2 (e_gdF2 (e_gdT (o_ v_pickF (o_ v_pickF ?_))))
   simpa using h
theorem e_stF {t : TypeId} {g o : Nat} {cs : Array Value} {T : TypeId} {fz : Nat × Nat} {v : Value} [ht : OneT P t] [hv : OC v] (p : Pick L (pt g (.cells cs T fz)) L') (ho : o < cs.size) (hfz : ¬ (fz.1 <= o /\ o < fz.2))
  (h : Ent W (pt g (.cells (cs.setIfInBounds o v) T fz) :: L') (k undef)) : Ent W L (opN P (sStore t (.pointer (some ⟨g, o, none⟩)) v) Kp k) := fun w hw => by
 have hw' := hw.pick p
 have hc : w.cell? ⟨g, o, none⟩ = some cs[o] := by rw [hw'.cell, Array.getElem?_eq_getElem ho]
 have hf : w.frozen? ⟨g, o, none⟩ = false := by
  simp only [World.frozen?, hw'.pt_.1]
  simp
  intro h1
  by_cases c : o < fz.2
  ·exact absurd ⟨h1, c⟩ hfz
  ·omega
 have hcells : v.cells = #[v] := by exact cells_one hv.one
 refine ⟨?_⟩
 have hr : (sStore t (.pointer (some ⟨g, o, none⟩)) v).run P w = .ok .skip (w.setCell ⟨g, o, none⟩ v) := by
  simp [sStore, Instr.storeAt, Instr.sureAddr, storeVar, ht.size, hcells, storeCells, Addr.add, run_store, hv.one, hc, hf]
 rw [hr]
 exact h _ (hw'.setCell v)
theorem e_sbytesF {s t e : TypeId} {l : List UInt8} [hs : StrT P s] (ht : P.underlying t = some (.slice e)) (he : P.underlying e = some (.int .u8))
  (h : ∀ g c (rest : List Value), Ent W (pt g (.cells (l.map B ++ rest).toArray e (l.length + rest.length, l.length + rest.length + 1)) :: L) (k (.slice (some ⟨g, 0, none⟩) l.length c))) : Ent W L (opN P (sConv s t (txt l)) Kp k) := fun w hw => by
 refine ⟨?_⟩
 have hr := run_bytes_of_string (P := P) w s t e ⟨l.toArray⟩ hs.ut ht he
 have hb : bytesRow ⟨l.toArray⟩ (grownCap w l.length 0 e) = (l.map B ++ (Array.replicate (grownCap w l.length 0 e - l.length) (Value.int .u8 0)).toList).toArray := by
  apply Array.ext'
  simp [bytesRow, B, ByteArray.size]
 have : (sConv s t (txt l)).run P w = .ok (.value (.slice (some ⟨w.heap.size, 0, none⟩) l.length (grownCap w l.length 0 e))) (w.drew.alloc (.cells (bytesRow ⟨l.toArray⟩ (grownCap w l.length 0 e)) e ((bytesRow ⟨l.toArray⟩ (grownCap w l.length 0 e)).size, (bytesRow ⟨l.toArray⟩ (grownCap w l.length 0 e)).size + 1))) := by
  simp [sConv, txt, hr, ByteArray.size]
 rw [this]
 have h2 := (hw.drew).alloc (.cells (bytesRow ⟨l.toArray⟩ (grownCap w l.length 0 e)) e ((bytesRow ⟨l.toArray⟩ (grownCap w l.length 0 e)).size, (bytesRow ⟨l.toArray⟩ (grownCap w l.length 0 e)).size + 1))
 rw [hb] at h2 ⊢
 have hz : ((l.map B ++ (Array.replicate (grownCap w l.length 0 e - l.length) (Value.int .u8 0)).toList).toArray).size = l.length + ((Array.replicate (grownCap w l.length 0 e - l.length) (Value.int .u8 0)).toList).length := by simp
 rw [hz] at h2 ⊢
 exact h _ _ _ _ h2
end
def ixF (l : List UInt8) (c : UInt8) : Int := if c ∈ l then ((l.findIdx (· == c) : Nat) : Int) else -1
theorem firstIdx_eq {l : List UInt8} {c : UInt8} : firstIdx ⟨l.toArray⟩ c = ixF l c := by
 have e : ∀ i, i < l.length -> ((⟨l.toArray⟩ : ByteArray)[i]! == c) = (l.getD i 0 == c) := fun i hi => by
  have h2 : i < (⟨l.toArray⟩ : ByteArray).size := hi
  rw [getElem!_pos _ i h2]
  simp [ByteArray.getElem_eq_getElem_data, List.getD_eq_getElem?_getD, hi]
 unfold ixF
 by_cases h : c ∈ l
 ·rw [if_pos h]
  have hlt : l.findIdx (· == c) < l.length := List.findIdx_lt_length_of_exists ⟨c, h, by simp⟩
  have hf : (List.range (⟨l.toArray⟩ : ByteArray).size).find? (fun i => (⟨l.toArray⟩ : ByteArray)[i]! == c) = some (l.findIdx (· == c)) := by
   rw [List.find?_eq_some_iff_getElem]
   refine ⟨?_, l.findIdx (· == c), by simpa [ByteArray.size] using hlt, by simp, fun j hj => ?_⟩
   ·rw [e _ hlt]
    have := List.findIdx_getElem (w := hlt)
    simpa [List.getD_eq_getElem?_getD, hlt] using this
   ·have hjl : j < l.length := by omega
    simp only [List.getElem_range]
    rw [e _ hjl]
    have := List.not_of_lt_findIdx hj
    simpa [List.getD_eq_getElem?_getD, hjl] using this
  unfold firstIdx
  rw [hf]
 ·rw [if_neg h]
  have hf : (List.range (⟨l.toArray⟩ : ByteArray).size).find? (fun i => (⟨l.toArray⟩ : ByteArray)[i]! == c) = none := by
   rw [List.find?_eq_none]
   intro i hi
   have hil : i < l.length := by simpa [ByteArray.size] using hi
   rw [e i hil]
   simp [List.getD_eq_getElem?_getD, hil]
   rintro rfl
   exact h (List.getElem_mem hil)
  unfold firstIdx
  rw [hf]
theorem ixF_nn {l : List UInt8} {c : UInt8} : (0 <= ixF l c) ↔ c ∈ l := by
 unfold ixF
 by_cases h : c ∈ l
 ·rw [if_pos h]; simp [h]
 ·rw [if_neg h]; simp [h]
theorem indexByte0 {W : World} {l : List UInt8} {c : UInt8} : Cn p_ 58 [txt l, Sl.B c] W [] (fun _ : Unit => .int .i64 (ixF l c)) (fun _ => []) := by
 have ext : RunV p_ W [] (sCall (fn 62) [txt l, Sl.B c]) (.int .i64 (ixF l c)) := fun w _ => by
  have hr : (callFunc 62 #[txt l, Sl.B c]).run p_ w = .ok (.value (.int .i64 (ixF l c))) w := by
   rw [run_callFunc_extern Tryd.func62 (by kernel_rfl) (by kernel_rfl) (by kernel_rfl) (e := Extern.BytealgIndexByte.indexByte) (by kernel_rfl)]
   have := run_indexByte_string (P := p_) ⟨l.toArray⟩ (c.toNat : Int) w
   unfold txt Sl.B
   rw [this]
   simp only [Result.andThen_ok]
   rw [show (↑c.toNat : Int).toNat.toUInt8 = c by simp, firstIdx_eq]
  simp [sCall, Deferred.ofValue, invoke, fn, hr]
 (refine S.stringslite_IndexByte_s.cn fun F => ?_; unfold S.stringslite_IndexByte; simp only [ca_, na_])
 refine o_ ext ?_
 refine rt_ () ?_
 exact im_
theorem indexByte {W : World} {l : List UInt8} {c : UInt8} : Cn p_ 50 [txt l, Sl.B c] W [] (fun _ : Unit => .int .i64 (ixF l c)) (fun _ => []) := by
 (refine S.strings_IndexByte_s.cn fun F => ?_; unfold S.strings_IndexByte; simp only [ca_, na_])
 refine c_ indexByte0 fun _ => ?_
 refine rt_ () ?_
 exact im_
end Go.Proofs.YthomhkpedghhgaaDoor.FD
namespace Go.Proofs.YthomhkpedghhgaaDoor.FD
open Go Go.Proofs Go.RowKit Sh Sl T
instance zero256 : ZeroT p_ 98 (.agg (An 256 fun _ => 0)) := ⟨fun w => (Tryd.zeroValue98 w).trans (by
 have : Tryd.zeroCells98 = An 256 fun _ => 0 := by kernel_rfl
 rw [this])⟩
def u8 (i : Nat) : UInt8 := UInt8.ofNat i
theorem u8_nat {i : Nat} (h : i < 256) : (u8 i).toNat = i := by
 unfold u8
 rw [UInt8.toNat_ofNat']
 omega
def clT (i : Nat) : Int := if tokB (u8 i) then 1 else 0
def clV (i : Nat) : Int := clT i + (if i = 9 \/ (32 <= i /\ i ≠ 127) then 2 else 0)
def cls (i : Nat) : Int := clV i + (if 65 <= i /\ i <= 90 then 4 else 0)
theorem aln_i {i : Nat} (h : i < 256) : ((decide ((97 : Int) <= (i : Int)) && decide ((i : Int) <= 122)) || (decide ((65 : Int) <= (i : Int)) && decide ((i : Int) <= 90)) || (decide ((48 : Int) <= (i : Int)) && decide ((i : Int) <= 57))) = alnB (u8 i) := by
 unfold alnB
 have e := u8_nat h
 simp only [UInt8.le_iff_toNat_le, e]
 rw [<- Bool.decide_and, <- Bool.decide_and, <- Bool.decide_and, <- Bool.decide_or, <- Bool.decide_or, decide_eq_decide]
 simp only [show (97 : UInt8).toNat = 97 from rfl, show (122 : UInt8).toNat = 122 from rfl, show (65 : UInt8).toNat = 65 from rfl, show (90 : UInt8).toNat = 90 from rfl, show (48 : UInt8).toNat = 48 from rfl, show (57 : UInt8).toNat = 57 from rfl]
 omega
theorem tokC_b (c : UInt8) : tokC.contains c = true -> 32 < c.toNat /\ c.toNat < 127 := by
 refine all8 (p := fun c => tokC.contains c = true -> 32 < c.toNat /\ c.toNat < 127) ?_ c
 decide +kernel
def clA (i : Nat) (x : Int) : Nat -> Int := fun j => if j < i then cls j else if j = i then x else 0
theorem clA_set {i : Nat} {x y : Int} : (An 256 (clA i x)).setIfInBounds i (.int .i64 y) = An 256 (clA i y) := by
 refine An_set.trans (An_congr fun j _ => ?_)
 unfold clA
 by_cases h : j = i
 ·subst h; simp
 ·simp [h]
theorem clA_at {i : Nat} {x : Int} (h : i < 256) : (An 256 (clA i x))[i]? = some (.int .i64 x) := by
 rw [An_get h]; simp [clA, I]
theorem clA_next {i : Nat} : An 256 (clA i (cls i)) = An 256 (clA (i + 1) 0) := An_congr fun j _ => by
 unfold clA
 by_cases h : j < i
 ·rw [if_pos h, if_pos (by omega)]
 ·by_cases h2 : j = i
  ·subst h2; simp
  ·rw [if_neg h, if_neg h2, if_neg (by omega)]; simp
theorem an_one {n : Nat} {f : Nat -> Int} : ∀ u ∈ (An n f).toList, u.oneCell' = true := by
 intro u hu
 simp only [An] at hu
 obtain ⟨j, _, rfl⟩ := List.mem_map.1 hu
 rfl
theorem or1 : bitOp .or .i64 0 1 = 1 := by rfl
theorem or2 {x : Int} (h : x = 0 \/ x = 1) : bitOp .or .i64 x 2 = x + 2 := by rcases h with rfl | rfl <;> rfl
theorem or4 {x : Int} (h : x = 0 \/ x = 1 \/ x = 2 \/ x = 3) : bitOp .or .i64 x 4 = x + 4 := by rcases h with rfl | rfl | rfl | rfl <;> rfl
theorem clT_v (i : Nat) : clT i = 0 \/ clT i = 1 := by unfold clT; split <;> simp
theorem clV_v (i : Nat) : clV i = 0 \/ clV i = 1 \/ clV i = 2 \/ clV i = 3 := by
 have := clT_v i
 unfold clV
 split <;> omega
theorem classes {W : World} : Cn p_ 41 [] W [] (fun _ : Unit => .agg (An 256 cls)) (fun _ => []) := by
 (refine S.ascii_classes_s.cn fun F => ?_; unfold S.ascii_classes; simp only [ca_, na_])
 refine e_newA fun b0 => ?_
 refine e_newA fun b1 => ?_
 refine e_loop1 (fun m y => [ex fun i : Nat => all [pu (m + i = 256 ∧ y = .int .i64 (i : Int)), pt b1 (.cells (An 256 (clA i 0)) 98 (0, 0)), pt b0 (.cells (An 256 fun _ => 0) 98 (0, 0))]] ++ F) 256 ?_ ?_
 ·refine Imp.ex 0 (.all ?_)
  refine nr_ ?_
  have e : An 256 (clA 0 0) = An 256 fun _ => 0 := An_congr fun j _ => by unfold clA; simp
  rw [e]
  exact .pu ⟨by omega, rfl⟩ .refl
 intro m ds y
 refine nr_ ?_
 refine e_ex Pick.here fun i => e_all Pick.here ?_
 refine nr_ ?_
 refine e_pu Pick.here fun hi => ?_
 obtain ⟨hmi, rfl⟩ := hi
 refine e_ask v_lss .nil (fun h => ?_) (fun h => ?_)
 ·have hil : i < 256 := by omega
  refine e_condT (o_ v_geq (e_and (fun _ => v_leq) ?_))
  refine e_orand (fun _ => v_geq) (fun _ _ => v_leq) ?_
  refine e_orand (fun _ => v_geq) (fun _ _ => v_leq) ?_
  rw [aln_i hil]
  refine e_cut0 (pt b1 (.cells (An 256 (clA i (clT i))) 98 (0, 0)) :: pt b0 (.cells (An 256 fun _ => 0) 98 (0, 0)) :: F) ?_ ?_
  ·intro ds1
   refine e_cut0 (pt b1 (.cells (An 256 (clA i (clV i))) 98 (0, 0)) :: pt b0 (.cells (An 256 fun _ => 0) 98 (0, 0)) :: F) ?_ ?_
   ·intro ds2
    have fin : ∀ x, x = cls i → Ent W (pt b1 (.cells (An 256 (clA i x)) 98 (0, 0)) :: pt b0 (.cells (An 256 fun _ => 0) 98 (0, 0)) :: F) (next1 (fun m y w => sat W ([ex fun i : Nat => all [pu (m + i = 256 ∧ y = .int .i64 (i : Int)), pt b1 (.cells (An 256 (clA i 0)) 98 (0, 0)), pt b0 (.cells (An 256 fun _ => 0) 98 (0, 0))]] ++ F) w) m (.int .i64 ((i : Int) + 1))) := by
     intro x hx
     subst hx
     rw [clA_next]
     refine e_next1 (m - 1) (by omega) (.ex (i + 1) (.all ?_))
     refine nr_ ?_
     exact .pu ⟨by omega, rfl⟩ .refl
    refine o_ v_geq (e_and (fun _ => v_leq) ?_)
    rw [← Bool.decide_and]
    by_cases h4 : (65 : Int) ≤ (i : Int) ∧ (i : Int) ≤ 90
    ·rw [dT_ h4]
     refine e_condT (o_ (v_iaA i rfl hil) ?_)
     rw [Nat.zero_add, Nat.mul_one]
     refine e_opN (v_ld (clA_at hil)) (.pick .here .nil) ?_
     refine o_ v_or (o_ (v_iaA i rfl hil) ?_)
     rw [Nat.zero_add, Nat.mul_one]
     refine e_st .here (by rw [An_size]; exact hil) ?_
     rw [clA_set, or4 (clV_v i)]
     refine ad_ ?_
     exact fin _ (by unfold cls; rw [if_pos (by omega)])
    ·rw [dF_ h4]
     refine e_condF (ad_ ?_)
     exact fin _ (by unfold cls; rw [if_neg (by omega), Int.add_zero])
   ·have fin : ∀ b : Bool, b = decide (i = 9 ∨ (32 ≤ i ∧ i ≠ 127)) → Ent W (pt b1 (.cells (An 256 (clA i (clT i))) 98 (0, 0)) :: pt b0 (.cells (An 256 fun _ => 0) 98 (0, 0)) :: F) (condS (.bool b)
      (opN p_ (sIA 98 (.pointer (some ⟨b1, 0, none⟩)) (.int .i64 (i : Int))) noP fun x60 =>
       opN p_ (sLoad 3 x60) noP fun x61 =>
       opN p_ (sBin .or 3 x61 (.int .i64 2)) noP fun x62 =>
       opN p_ (sIA 98 (.pointer (some ⟨b1, 0, none⟩)) (.int .i64 (i : Int))) noP fun x63 =>
       opN p_ (sStore 3 x63 x62) noP fun _ => fun w => sat W (pt b1 (.cells (An 256 (clA i (clV i))) 98 (0, 0)) :: pt b0 (.cells (An 256 fun _ => 0) 98 (0, 0)) :: F) w)
      (fun w => sat W (pt b1 (.cells (An 256 (clA i (clV i))) 98 (0, 0)) :: pt b0 (.cells (An 256 fun _ => 0) 98 (0, 0)) :: F) w)) := by
     intro b hb
     by_cases h2 : i = 9 ∨ (32 ≤ i ∧ i ≠ 127)
     ·rw [hb, dT_ h2]
      refine e_condT (o_ (v_iaA i rfl hil) ?_)
      rw [Nat.zero_add, Nat.mul_one]
      refine e_opN (v_ld (clA_at hil)) (.pick .here .nil) ?_
      refine o_ v_or (o_ (v_iaA i rfl hil) ?_)
      rw [Nat.zero_add, Nat.mul_one]
      refine e_st .here (by rw [An_size]; exact hil) ?_
      rw [clA_set, or2 (clT_v i), show clT i + 2 = clV i by unfold clV; rw [if_pos h2]]
      exact e_sat .refl
     ·rw [hb, dF_ h2]
      refine e_condF ?_
      rw [show clT i = clV i by unfold clV; rw [if_neg h2, Int.add_zero]]
      exact e_sat .refl
    refine o_ v_eql (e_orand (fun _ => v_geq) (fun _ _ => v_neq) ?_)
    refine fin _ ?_
    rw [← Bool.decide_and, ← Bool.decide_or, decide_eq_decide]
    omega
  ·have finT : tokB (u8 i) = true → Ent W (pt b1 (.cells (An 256 (clA i 0)) 98 (0, 0)) :: pt b0 (.cells (An 256 fun _ => 0) 98 (0, 0)) :: F)
      (opN p_ (sIA 98 (.pointer (some ⟨b1, 0, none⟩)) (.int .i64 (i : Int))) noP fun x60 =>
       opN p_ (sLoad 3 x60) noP fun x61 =>
       opN p_ (sBin .or 3 x61 (.int .i64 1)) noP fun x62 =>
       opN p_ (sIA 98 (.pointer (some ⟨b1, 0, none⟩)) (.int .i64 (i : Int))) noP fun x63 =>
       opN p_ (sStore 3 x63 x62) noP fun _ => fun w => sat W (pt b1 (.cells (An 256 (clA i (clT i))) 98 (0, 0)) :: pt b0 (.cells (An 256 fun _ => 0) 98 (0, 0)) :: F) w) := by
    intro hb
    refine o_ (v_iaA i rfl hil) ?_
    rw [Nat.zero_add, Nat.mul_one]
    refine e_opN (v_ld (clA_at hil)) (.pick .here .nil) ?_
    refine o_ v_or (o_ (v_iaA i rfl hil) ?_)
    rw [Nat.zero_add, Nat.mul_one]
    refine e_st .here (by rw [An_size]; exact hil) ?_
    rw [clA_set, or1, show (1 : Int) = clT i by unfold clT; rw [hb]; rfl]
    exact e_sat .refl
   have finF : tokB (u8 i) = false → Ent W (pt b1 (.cells (An 256 (clA i 0)) 98 (0, 0)) :: pt b0 (.cells (An 256 fun _ => 0) 98 (0, 0)) :: F)
      (fun w => sat W (pt b1 (.cells (An 256 (clA i (clT i))) 98 (0, 0)) :: pt b0 (.cells (An 256 fun _ => 0) 98 (0, 0)) :: F) w) := by
    intro hb
    rw [show clT i = 0 by unfold clT; rw [hb]; rfl]
    exact e_sat .refl
   have htk : tokB (u8 i) = (alnB (u8 i) || tokC.contains (u8 i)) := rfl
   cases ha : alnB (u8 i) with
   | true =>
    rw [ha] at htk
    exact e_gdF1 (e_gdF1 (e_gdF1 (e_gdU (e_gdU (e_gdF1 (e_gdF1 (e_gdU (e_gdU (e_gdU (e_gdU (e_gdF1 (o_ v_pickT (e_condT (finT (by rw [htk]; rfl)))))))))))))))
   | false =>
    rw [ha, Bool.false_or] at htk
    have hcb := tokC_b (u8 i)
    rw [u8_nat hil] at hcb
    refine e_gdT (e_gdT (e_ask v_gtr .nil (fun h => ?_) (fun h => ?_)))
    ·(refine e_gdT ?_); refine e_gdT ?_; refine e_gdT ?_
     refine e_ask v_lss .nil (fun h => ?_) (fun h => ?_)
     ·(refine e_gdT ?_); refine o_ v_pickT ?_; refine e_gdT ?_; refine e_gdT ?_; refine e_gdT ?_
      refine o_ v_conv ?_
      rw [show (IntKind.u8.wrap (i : Int)) = ((u8 i).toNat : Int) by rw [u8_nat hil]; simp [IntKind.wrap, IntKind.signed, IntKind.bits]; omega]
      refine e_gdT (e_call (indexByte (l := tokC) (c := u8 i)) .nil fun _ => ?_)
      refine nr_ ?_
      refine e_gdT (e_ask v_geq .nil (fun h => ?_) (fun h => ?_))
      ·(refine e_gdT ?_); refine o_ v_pickT ?_; refine o_ v_pickF ?_; refine e_condT ?_
       exact finT (by rw [htk]; simpa using ixF_nn.1 h)
      ·(refine e_gdT ?_); refine o_ v_pickT ?_; refine o_ v_pickF ?_; refine e_condF ?_
       exact finF (by rw [htk]; simpa using fun c => h (ixF_nn.2 c))
     ·(refine e_gdT ?_); refine o_ v_pickT ?_; refine e_gdT ?_; refine e_gdF2 ?_; refine e_gdF2 ?_; refine e_gdF2 ?_; refine e_gdF2 ?_; refine e_gdT ?_; refine o_ v_pickF ?_; refine o_ v_pickF ?_; refine e_condF ?_
      exact finF (by rw [htk]; cases hx : tokC.contains (u8 i) with
       | true => have := hcb hx; omega
       | false => rfl)
    ·(refine e_gdT ?_); refine e_gdF2 ?_; refine e_gdF2 ?_; refine e_gdT ?_; refine o_ v_pickF ?_; refine e_gdT ?_; refine e_gdF2 ?_; refine e_gdF2 ?_; refine e_gdF2 ?_; refine e_gdF2 ?_; refine e_gdT ?_; refine o_ v_pickF ?_; refine o_ v_pickF ?_; refine e_condF ?_
     exact finF (by rw [htk]; cases hx : tokC.contains (u8 i) with
      | true => have := hcb hx; omega
      | false => rfl)
 ·have h256 : i = 256 := by omega
  subst h256
  refine e_condF ?_
  have e : An 256 (clA 256 0) = An 256 cls := An_congr fun j hj => by unfold clA; rw [if_pos hj]
  rw [e]
  refine e_opN (v_ldAgg (An_size 256 cls)) (.pick .here .nil) ?_
  refine e_stAgg (.there .here) (An_size 256 _) (An_size 256 _) an_one ?_
  refine e_stS (v_resA (An_size 256 cls)) (.pick .here .nil) ?_
  refine rt_ () ?_
  exact im_
theorem and1 (c : UInt8) : bitOp .and .i64 (cls c.toNat) 1 = 0 ↔ tokB c = false := by
 refine all8 (p := fun c => bitOp .and .i64 (cls c.toNat) 1 = 0 ↔ tokB c = false) ?_ c
 decide +kernel
theorem and4 (c : UInt8) : bitOp .and .i64 (cls c.toNat) 4 ≠ 0 ↔ (65 <= c /\ c <= 90) := by
 refine all8 (p := fun c => bitOp .and .i64 (cls c.toNat) 4 ≠ 0 ↔ (65 <= c /\ c <= 90)) ?_ c
 decide +kernel
theorem all_ {W : World} {l : List UInt8} {bit : Int} {p : UInt8 -> Bool} (hb : ∀ c : UInt8, bitOp .and .i64 (cls c.toNat) bit = 0 ↔ p c = false) (hl : l.length <= 4611686018427387904) :
  Cn p_ 43 [txt l, .int .i64 bit] W [] (fun _ : Unit => .bool (l.all p)) (fun _ => []) := by
 (refine S.ascii_all_s.cn fun F => ?_; unfold S.ascii_all; simp only [ca_, na_])
 refine c_ classes fun _ => ?_
 refine e_newA fun b1 => ?_
 refine e_stAgg .here (An_size 256 _) (An_size 256 _) an_one ?_
 refine o_ v_lent (e_loop1 (fun m y => [ex fun i : Nat => all [pu (m + i = l.length /\ y = .int .i64 (i : Int) /\ l.all p = (l.drop i).all p), pt b1 (.cells (An 256 cls) 98 (0, 0))]] ++ F) l.length ?_ ?_)
 ·refine Imp.ex 0 (.all ?_)
  refine nr_ ?_
  exact .pu ⟨by omega, rfl, rfl⟩ .refl
 intro m ds y
 refine nr_ ?_
 refine e_ex Pick.here fun i => e_all Pick.here ?_
 refine nr_ ?_
 refine e_pu Pick.here fun hi => ?_
 obtain ⟨hmi, rfl, hall⟩ := hi
 refine e_ask v_lss .nil (fun h => ?_) (fun h => ?_)
 ·have hil : i < l.length := by omega
  refine e_condT (o_ (v_ixS i rfl hil) ?_)
  have hc := (l[i]).toNat_lt
  refine o_ (v_iaA (l[i]).toNat rfl hc) ?_
  rw [Nat.zero_add, Nat.mul_one]
  refine e_opN (v_ld (An_get hc)) (.pick .here .nil) ?_
  refine o_ v_and ?_
  rw [dr hil, List.all_cons] at hall
  refine e_ask v_eql .nil (fun h => ?_) (fun h => ?_)
  ·refine e_condT ?_
   rw [(hb _).1 h, Bool.false_and] at hall
   rw [hall]
   refine rt_ () ?_
   exact im_
  ·refine e_condF ?_
   have hp : p l[i] = true := by
    cases hx : p l[i] with
    | true => rfl
    | false => exact absurd ((hb _).2 hx) h
   rw [hp, Bool.true_and] at hall
   refine ad_ ?_
   refine e_next1 (m - 1) (by omega) (.ex (i + 1) (.all ?_))
   refine nr_ ?_
   exact .pu ⟨by omega, rfl, hall⟩ .refl
 ·refine e_condF ?_
  rw [List.drop_of_length_le (by omega), List.all_nil] at hall
  rw [hall]
  refine rt_ () ?_
  exact im_
theorem token {W : World} {l : List UInt8} (hl : l.length <= 4611686018427387904) : Cn p_ 36 [txt l] W [] (fun _ : Unit => .bool (tokF l)) (fun _ => []) := by
 (refine S.ascii_Token_s.cn fun F => ?_; unfold S.ascii_Token; simp only [ca_, na_])
 have e0 : (Value.string ⟨#[]⟩) = txt [] := rfl
 rw [e0]
 refine e_ask v_strne .nil (fun h => ?_) (fun h => ?_)
 ·refine e_gdT (e_gdT (c_ (all_ and1 hl) fun _ => ?_))
  refine o_ v_pickT ?_
  have : tokF l = l.all tokB := by unfold tokF; cases l with
   | nil => exact absurd rfl h
   | cons _ _ => rfl
  rw [this]
  refine rt_ () ?_
  exact im_
 ·have h : l = [] := Decidable.not_not.1 h
  subst h
  refine e_gdF2 (e_gdF2 (o_ v_pickF (rt_ () ?_)))
  exact im_
theorem lower {W : World} {l : List UInt8} (hl : l.length <= 4611686018427387904) : Cn p_ 33 [txt l] W [] (fun _ : Unit => txt (lowF l)) (fun _ => []) := by
 (refine S.ascii_Lower_s.cn fun F => ?_; unfold S.ascii_Lower; simp only [ca_, na_])
 refine c_ classes fun _ => ?_
 refine e_newA fun b1 => ?_
 refine e_stAgg .here (An_size 256 _) (An_size 256 _) an_one ?_
 refine e_sbytesF Tryd.underlying64 Tryd.underlying5 fun g c rest => ?_
 refine o_ v_len (e_loop1 (fun m y => [ex fun i : Nat => all [pu (m + i = l.length /\ y = .int .i64 (i : Int)), pt g (.cells (((l.take i).map lowB ++ l.drop i).map B ++ rest).toArray 5 (l.length + rest.length, l.length + rest.length + 1)), pt b1 (.cells (An 256 cls) 98 (0, 0))]] ++ F) l.length ?_ ?_)
 ·refine Imp.ex 0 (.all ?_)
  refine nr_ ?_
  rw [List.take_zero, List.drop_zero, List.map_nil, List.nil_append]
  exact .pu ⟨by omega, rfl⟩ .refl
 intro m ds y
 refine nr_ ?_
 refine e_ex Pick.here fun i => e_all Pick.here ?_
 refine nr_ ?_
 refine e_pu Pick.here fun hi => ?_
 obtain ⟨hmi, rfl⟩ := hi
 refine e_ask v_lss .nil (fun h => ?_) (fun h => ?_)
 ·have hil : i < l.length := by omega
  refine e_condT ?_
  have hcl : ((l.take i).map lowB ++ l.drop i).length = l.length := by simp; omega
  have hget : ((((l.take i).map lowB ++ l.drop i).map B ++ rest).toArray)[i]? = some (B l[i]) := by
   simp [List.getElem?_append, hil, Nat.min_eq_left (Nat.le_of_lt hil)]
   intro h0; omega
  refine o_ (v_ia1 i rfl hil) ?_
  rw [Nat.zero_add]
  refine e_opN (v_ld hget) (.pick .here .nil) ?_
  have hc := (l[i]).toNat_lt
  refine o_ (v_iaA (l[i]).toNat rfl hc) ?_
  rw [Nat.zero_add, Nat.mul_one]
  refine e_opN (v_ld (An_get hc)) (.pick (.there .here) .nil) ?_
  refine o_ v_and ?_
  have step : ∀ x, x = lowB l[i] -> (((l.take i).map lowB ++ l.drop i).map B ++ rest).toArray.setIfInBounds i (B x) = (((l.take (i + 1)).map lowB ++ l.drop (i + 1)).map B ++ rest).toArray := by
   intro x hx
   subst hx
   rw [List.setIfInBounds_toArray]
   congr 1
   rw [dr hil, List.take_succ_eq_append_getElem hil]
   rw [List.map_append, List.map_append, List.map_append, List.map_append]
   have hk : (List.map B (List.map lowB (List.take i l))).length = i := by simp; omega
   rw [List.append_assoc, List.append_assoc, List.append_assoc, List.set_append, if_neg (by rw [hk]; omega), hk, Nat.sub_self]
   rfl
  refine e_ask v_neq .nil (fun h => ?_) (fun h => ?_)
  ·have h65 := (and4 l[i]).1 h
   have hlo : lowB l[i] = l[i] + 32 := if_pos h65
   have hn : (lowB l[i]).toNat = (l[i]).toNat + 32 := by
    rw [hlo, UInt8.toNat_add]
    have := UInt8.le_iff_toNat_le.1 h65.2
    simp only [show (90 : UInt8).toNat = 90 from rfl] at this
    simp only [show (32 : UInt8).toNat = 32 from rfl]
    omega
   refine e_condT (o_ v_addw ?_)
   rw [show IntKind.u8.wrap ((l[i].toNat : Int) + 32) = ((lowB l[i]).toNat : Int) by
    rw [hn]
    have := UInt8.le_iff_toNat_le.1 h65.2
    simp only [show (90 : UInt8).toNat = 90 from rfl] at this
    simp [IntKind.wrap, IntKind.signed, IntKind.bits]; omega]
   refine o_ (v_ia1 i rfl hil) ?_
   rw [Nat.zero_add]
   refine e_stF (v := B (lowB l[i])) .here (by simp; omega) (by simp; omega) ?_
   rw [step _ rfl]
   refine ad_ ?_
   refine e_next1 (m - 1) (by omega) (.ex (i + 1) (.all ?_))
   refine nr_ ?_
   exact .pu ⟨by omega, rfl⟩ .refl
  ·have hlo : lowB l[i] = l[i] := if_neg (fun c => h ((and4 l[i]).2 c))
   refine e_condF ?_
   have e2 : (((l.take i).map lowB ++ l.drop i).map B ++ rest).toArray = (((l.take (i + 1)).map lowB ++ l.drop (i + 1)).map B ++ rest).toArray := by
    rw [<- step _ hlo.symm]
    refine Array.ext_getElem? fun j => ?_
    rw [Array.getElem?_setIfInBounds]
    by_cases hj : i = j
    ·subst hj
     rw [if_pos rfl, hget, if_pos (by simp; omega)]
    ·rw [if_neg hj]
   rw [e2]
   refine ad_ ?_
   refine e_next1 (m - 1) (by omega) (.ex (i + 1) (.all ?_))
   refine nr_ ?_
   exact .pu ⟨by omega, rfl⟩ .refl
 ·have hie : i = l.length := by omega
  subst hie
  refine e_condF ?_
  rw [List.take_length, List.drop_length, List.append_nil]
  have hrd := rd_row (W := W) (g := g) (e := 5) (fz := (l.length + rest.length, l.length + rest.length + 1)) (cs := (lowF l).map B) (rest := rest)
  have e1 : ((lowF l).map B).length = l.length := by simp [lowF]
  rw [e1] at hrd
  refine e_opN (v_str (l := lowF l) hrd (by intro h; cases h)) (.pick .here .nil) ?_
  refine rt_ () ?_
  exact im_
def Bn (n : Nat) (f : Nat -> Bool) : Array Value := ((List.range n).map fun j => Value.bool (f j)).toArray
theorem Bn_size (n : Nat) (f : Nat -> Bool) : (Bn n f).size = n := by simp [Bn]
theorem Bn_get {n j : Nat} {f : Nat -> Bool} (h : j < n) : (Bn n f)[j]? = some (.bool (f j)) := by simp [Bn, h]
theorem Bn_congr {n : Nat} {f g : Nat -> Bool} (h : ∀ j, j < n -> f j = g j) : Bn n f = Bn n g := by
 unfold Bn
 congr 1
 exact List.map_congr_left fun j hj => by rw [h j (List.mem_range.1 hj)]
theorem Bn_set {n j : Nat} {f : Nat -> Bool} {v : Bool} : (Bn n f).setIfInBounds j (.bool v) = Bn n fun i => if i = j then v else f i := by
 apply Array.ext_getElem?
 intro i
 rw [Array.getElem?_setIfInBounds, Bn_size]
 by_cases c : j = i
 ·subst c
  rw [if_pos rfl]
  by_cases h : j < n
  ·rw [if_pos h, Bn_get h]; simp
  ·rw [if_neg h, Array.getElem?_eq_none (by rw [Bn_size]; omega)]
 ·rw [if_neg c]
  by_cases h : i < n
  ·rw [Bn_get h, Bn_get h, if_neg (fun e => c e.symm)]
  ·rw [Array.getElem?_eq_none (by rw [Bn_size]; omega), Array.getElem?_eq_none (by rw [Bn_size]; omega)]
theorem bn_one {n : Nat} {f : Nat -> Bool} : ∀ u ∈ (Bn n f).toList, u.oneCell' = true := by
 intro u hu
 simp only [Bn] at hu
 obtain ⟨j, _, rfl⟩ := List.mem_map.1 hu
 rfl
instance zeroSet : ZeroT p_ 125 (.agg (Bn 256 fun _ => false)) := ⟨fun w => (Tryd.zeroValue125 w).trans (by
 have : Tryd.zeroCells125 = Bn 256 fun _ => false := by kernel_rfl
 rw [this])⟩
def blN (j : Nat) : Bool := decide (j = 32 \/ j = 9)
theorem blN_c (c : UInt8) : blN c.toNat = isBl c := by
 refine all8 (p := fun c => blN c.toNat = isBl c) ?_ c
 decide +kernel
theorem makeSet {W : World} : Cn p_ 65 [txt [32, 9]] W [] (fun _ : Unit => .tuple #[.agg (Bn 256 blN), .bool true]) (fun _ => []) := by
 (refine S.strings_makeASCIISet_s.cn fun F => ?_; unfold S.strings_makeASCIISet; simp only [ca_, na_])
 refine e_newA fun b => ?_
 refine e_loop1 (fun m y => [ex fun i : Nat => all [pu (m + i = 2 /\ y = .int .i64 (i : Int)), pt b (.cells (Bn 256 fun j => decide ((j = 32 /\ 0 < i) \/ (j = 9 /\ 1 < i))) 125 (0, 0))]] ++ F) 2 ?_ ?_
 ·refine Imp.ex 0 (.all ?_)
  refine nr_ ?_
  refine .pu ⟨by omega, rfl⟩ ?_
  have e : (Bn 256 fun j => decide ((j = 32 /\ 0 < 0) \/ (j = 9 /\ 1 < 0))) = Bn 256 fun _ => false := Bn_congr fun j _ => by simp
  rw [e]
  exact .refl
 intro m ds y
 refine nr_ ?_
 refine e_ex Pick.here fun i => e_all Pick.here ?_
 refine nr_ ?_
 refine e_pu Pick.here fun hi => ?_
 obtain ⟨hmi, rfl⟩ := hi
 refine o_ v_lent (e_ask v_lss .nil (fun h => ?_) (fun h => ?_))
 ·have hil : i < ([32, 9] : List UInt8).length := Int.ofNat_lt.1 h
  have hi2 : i < 2 := hil
  refine e_condT ?_
  have step : ∀ (c : UInt8), ([32, 9] : List UInt8)[i]? = some c -> c.toNat < 128 -> (Bn 256 fun j => if j = c.toNat then true else decide ((j = 32 /\ 0 < i) \/ (j = 9 /\ 1 < i))) = (Bn 256 fun j => decide ((j = 32 /\ 0 < i + 1) \/ (j = 9 /\ 1 < i + 1))) := by
   intro c hc _
   refine Bn_congr fun j _ => ?_
   have : i = 0 \/ i = 1 := by omega
   rcases this with rfl | rfl
   ·have : c = 32 := by simpa using hc.symm
    subst this
    by_cases h1 : j = 32 <;> simp [h1]
   ·have : c = 9 := by simpa using hc.symm
    subst this
    by_cases h1 : j = 9 <;> simp [h1]
  have hc : ([32, 9] : List UInt8)[i].toNat < 128 := by
   have : i = 0 \/ i = 1 := by omega
   rcases this with rfl | rfl
   ·show (32 : UInt8).toNat < 128
    decide
   ·show (9 : UInt8).toNat < 128
    decide
  refine o_ (v_ixS (l := [32, 9]) i rfl hil) ?_
  have hstep := step _ (List.getElem?_eq_getElem hil) hc
  obtain ⟨c, hce⟩ : ∃ c, c = ([32, 9] : List UInt8)[i] := ⟨_, rfl⟩
  rw [<- hce] at hstep hc ⊢
  refine o_ (v_geq (q := .u8) (a := (c.toNat : Int)) (b := 128)) ?_
  rw [dF_ (by omega)]
  refine e_condF (o_ (v_iaA c.toNat rfl (by omega)) ?_)
  rw [Nat.zero_add, Nat.mul_one]
  refine e_st .here (by rw [Bn_size]; omega) ?_
  rw [Bn_set, hstep]
  refine ad_ ?_
  refine e_next1 (m - 1) (by omega) (.ex (i + 1) (.all ?_))
  refine nr_ ?_
  exact .pu ⟨by omega, rfl⟩ .refl
 ·have hi2 : i = 2 := by simp at h; omega
  subst hi2
  refine e_condF ?_
  have e : (Bn 256 fun j => decide ((j = 32 /\ 0 < 2) \/ (j = 9 /\ 1 < 2))) = Bn 256 blN := Bn_congr fun j _ => by simp [blN]
  rw [e]
  refine e_opN (v_ldAgg (Bn_size 256 _)) (.pick .here .nil) ?_
  refine e_stAgg .here (Bn_size 256 _) (Bn_size 256 _) bn_one ?_
  refine e_stS (v_resA (Bn_size 256 _)) (.pick .here .nil) ?_
  refine rt_ () ?_
  exact im_
theorem contains {W : World} {g : Nat} {c : UInt8} : Cn p_ 70 [.pointer (some ⟨g, 0, none⟩), Sl.B c] W [pt g (.cells (Bn 256 blN) 125 (0, 0))] (fun _ : Unit => .bool (isBl c)) (fun _ => [pt g (.cells (Bn 256 blN) 125 (0, 0))]) := by
 (refine S.strings_asciiSet_contains_s.cn fun F => ?_; unfold S.strings_asciiSet_contains; simp only [ca_, na_])
 refine o_ v_nil ?_
 have hc := c.toNat_lt
 refine o_ (v_iaA c.toNat rfl hc) ?_
 rw [Nat.zero_add, Nat.mul_one]
 refine e_opN (v_ld (Bn_get hc)) (.pick .here .nil) ?_
 rw [blN_c]
 refine rt_ () ?_
 exact im_
theorem trimLeft {W : World} {g : Nat} {l : List UInt8} (hl : l.length <= 4611686018427387904) : Cn p_ 66 [txt l, .pointer (some ⟨g, 0, none⟩)] W [pt g (.cells (Bn 256 blN) 125 (0, 0))] (fun _ : Unit => txt (trimL l)) (fun _ => [pt g (.cells (Bn 256 blN) 125 (0, 0))]) := by
 (refine S.strings_trimLeftASCII_s.cn fun F => ?_; unfold S.strings_trimLeftASCII; simp only [ca_, na_])
 refine e_loop1 (fun m y => [ex fun u : List UInt8 => all [pu (m = u.length /\ y = txt u /\ trimL u = trimL l /\ u.length <= l.length), pt g (.cells (Bn 256 blN) 125 (0, 0))]] ++ F) l.length ?_ ?_
 ·refine Imp.ex l (.all ?_)
  refine nr_ ?_
  exact .pu ⟨rfl, rfl, rfl, Nat.le_refl _⟩ .refl
 intro m ds y
 refine nr_ ?_
 refine e_ex Pick.here fun u => e_all Pick.here ?_
 refine nr_ ?_
 refine e_pu Pick.here fun hi => ?_
 obtain ⟨hmi, rfl, htr, hul⟩ := hi
 refine o_ v_lent (e_ask v_gtr .nil (fun h => ?_) (fun h => ?_))
 ·have h0 : 0 < u.length := by omega
  refine e_condT (o_ (v_ixS 0 rfl h0) ?_)
  refine c_ contains fun _ => ?_
  refine o_ v_not ?_
  cases hb : isBl u[0] with
  | true =>
   refine e_condF (o_ (v_ssl 1 rfl (by omega)) ?_)
   refine e_next1 (m - 1) (by omega) (.ex (u.drop 1) (.all ?_))
   refine nr_ ?_
   refine .pu ⟨by rw [List.length_drop]; omega, rfl, (trimL_t h0 hb).symm.trans htr, by rw [List.length_drop]; omega⟩ ?_
   exact im_
  | false =>
   refine e_condT ?_
   rw [<- htr, trimL_f h0 hb]
   refine rt_ () ?_
   exact im_
 ·have h0 : u = [] := List.eq_nil_of_length_eq_zero (by omega)
  subst h0
  refine e_condF ?_
  rw [<- htr]
  refine rt_ () ?_
  exact im_
theorem trimRight {W : World} {g : Nat} {l : List UInt8} (hl : l.length <= 4611686018427387904) : Cn p_ 67 [txt l, .pointer (some ⟨g, 0, none⟩)] W [pt g (.cells (Bn 256 blN) 125 (0, 0))] (fun _ : Unit => txt (trimR l)) (fun _ => [pt g (.cells (Bn 256 blN) 125 (0, 0))]) := by
 (refine S.strings_trimRightASCII_s.cn fun F => ?_; unfold S.strings_trimRightASCII; simp only [ca_, na_])
 refine e_loop1 (fun m y => [ex fun u : List UInt8 => all [pu (m = u.length /\ y = txt u /\ trimR u = trimR l /\ u.length <= l.length), pt g (.cells (Bn 256 blN) 125 (0, 0))]] ++ F) l.length ?_ ?_
 ·refine Imp.ex l (.all ?_)
  refine nr_ ?_
  exact .pu ⟨rfl, rfl, rfl, Nat.le_refl _⟩ .refl
 intro m ds y
 refine nr_ ?_
 refine e_ex Pick.here fun u => e_all Pick.here ?_
 refine nr_ ?_
 refine e_pu Pick.here fun hi => ?_
 obtain ⟨hmi, rfl, htr, hul⟩ := hi
 refine o_ v_lent (e_ask v_gtr .nil (fun h => ?_) (fun h => ?_))
 ·obtain ⟨n, hn⟩ : ∃ n, u.length = n + 1 := ⟨u.length - 1, by omega⟩
  refine e_condT (o_ v_lent (sb_ ?_))
  refine o_ (v_ixS n (by omega) (by omega)) ?_
  refine c_ contains fun _ => ?_
  refine o_ v_not ?_
  cases hb : isBl (u[n]'(by omega)) with
  | true =>
   refine e_condF (o_ v_lent (sb_ ?_))
   refine o_ (v_ssh n (by omega) (by omega)) ?_
   refine e_next1 (m - 1) (by omega) (.ex (u.take n) (.all ?_))
   refine nr_ ?_
   refine .pu ⟨by rw [List.length_take]; omega, rfl, (trimR_t hn hb).symm.trans htr, by rw [List.length_take]; omega⟩ ?_
   exact im_
  | false =>
   refine e_condT ?_
   rw [<- htr, trimR_f hn hb]
   refine rt_ () ?_
   exact im_
 ·have h0 : u = [] := List.eq_nil_of_length_eq_zero (by omega)
  subst h0
  refine e_condF ?_
  rw [<- htr]
  refine rt_ () ?_
  exact im_
theorem trimR_len (l : List UInt8) : (trimR l).length <= l.length := by
 have h2 := (List.dropWhile_sublist (p := isBl) (l := l.reverse)).length_le
 unfold trimR
 rw [List.length_reverse] at h2 ⊢
 exact h2
theorem trimS {W : World} {l : List UInt8} (hl : l.length <= 4611686018427387904) : Cn p_ 59 [txt l, txt [32, 9]] W [] (fun _ : Unit => txt (trimB l)) (fun _ => []) := by
 (refine S.strings_Trim_s.cn fun F => ?_; unfold S.strings_Trim; simp only [ca_, na_])
 have e0 : (Value.string ⟨#[]⟩) = txt [] := rfl
 rw [e0]
 refine e_ask v_streq .nil (fun h => ?_) (fun h => ?_)
 ·subst h
  refine e_gdF1 (e_gdF1 (o_ v_pickT (e_condT (rt_ () ?_))))
  exact im_
 ·(refine e_gdT ?_); refine e_gdT ?_
  refine o_ v_streq ?_
  rw [dF_ (by decide)]
  refine o_ v_pickF (e_condF (o_ v_lent (o_ v_eql ?_)))
  rw [dF_ (by decide)]
  refine e_gdF2 (e_gdF2 (e_gdF2 (o_ v_pickF (e_condF (c_ makeSet fun _ => ?_)))))
  refine o_ (v_extN (vs := [_, _]) .here) ?_
  refine o_ (v_extN (vs := [_, _]) (.there .here)) ?_
  refine e_newA fun b => ?_
  refine e_stAgg .here (Bn_size 256 _) (Bn_size 256 _) bn_one ?_
  refine e_condT (c_ (trimRight hl) fun _ => ?_)
  refine c_ (trimLeft (Nat.le_trans (trimR_len l) hl)) fun _ => ?_
  refine rt_ () ?_
  exact im_
theorem trim {W : World} {l : List UInt8} (hl : l.length <= 4611686018427387904) : Cn p_ 52 [txt l] W [] (fun _ : Unit => txt (trimB l)) (fun _ => []) := by
 (refine S.ascii_Trim_s.cn fun F => ?_; unfold S.ascii_Trim; simp only [ca_, na_])
 have e0 : (Value.string ⟨#[32, 9]⟩) = txt [32, 9] := rfl
 rw [e0]
 refine c_ (trimS hl) fun _ => ?_
 refine rt_ () ?_
 exact im_
def eqlF (a b : List UInt8) : Bool := decide (a.length = b.length) && decide (lowF a = lowF b)
theorem equal {W : World} {a b : List UInt8} (ha : a.length <= 4611686018427387904) (hb : b.length <= 4611686018427387904) : Cn p_ 22 [txt a, txt b] W [] (fun _ : Unit => .bool (eqlF a b)) (fun _ => []) := by
 (refine S.ascii_Equal_s.cn fun F => ?_; unfold S.ascii_Equal; simp only [ca_, na_])
 refine o_ v_lent (o_ v_lent (e_ask v_eql .nil (fun h => ?_) (fun h => ?_)))
 ·have e : eqlF a b = decide (lowF a = lowF b) := by unfold eqlF; rw [dT_ (by omega)]; rfl
  rw [e]
  refine e_gdT (e_gdT (c_ (lower ha) fun _ => ?_))
  refine e_gdT (e_gdT (c_ (lower hb) fun _ => ?_))
  refine e_gdT (o_ v_streq (o_ v_pickT (rt_ () ?_)))
  exact im_
 ·have e : eqlF a b = false := by unfold eqlF; rw [dF_ (by omega)]; rfl
  rw [e]
  refine e_gdF2 (e_gdF2 (e_gdF2 (e_gdF2 (e_gdF2 (o_ v_pickF (rt_ () ?_))))))
  exact im_
section
variable {P : Program} {W : World} {L L' : List HP} {Kp : PK} {k : Value -> WP}
theorem e_and0 {a b : Bool} (h : Ent W L (k (.bool (a && b)))) : Ent W L (gdK (.bool a) true (fun k => k (.bool b)) fun x2 => opN P (sPick (.bool a) x2 (.bool false)) Kp k) := by
 cases a with
 | true =>
  refine e_gdT (o_ v_pickT ?_)
  simpa using h
 | false =>
  refine e_gdF2 (o_ v_pickF ?_)
  simpa using h
theorem e_and2 {a b : Bool} {A : List HP} {s1 : Sem Next} {v1 : Value} {s2 : Value -> Sem Next} (h1 : RunV P W [] s1 v1) (h2 : RunV P W A (s2 v1) (.bool b)) (i : Imp W L A) (h : Ent W L (k (.bool (a && b)))) :
  Ent W L (gdK (.bool a) true (opN P s1 Kp) fun x => gdK (.bool a) true (opN P (s2 x) Kp) fun x2 => opN P (sPick (.bool a) x2 (.bool false)) Kp k) := by
 cases a with
 | true =>
  refine e_gdT (o_ h1 ?_)
  refine e_gdT (e_opN h2 i ?_)
  refine o_ v_pickT ?_
  simpa using h
 | false =>
  refine e_gdF2 (e_gdF2 (o_ v_pickF ?_))
  simpa using h
theorem e_cond {φ : Prop} [Decidable φ] {b : Bool} {X Y : WP} (hb : b = decide φ) (ht : φ -> Ent W L X) (hf : ¬ φ -> Ent W L Y) : Ent W L (condS (.bool b) X Y) := by
 subst hb
 by_cases h : φ
 ·rw [dT_ h]; exact e_condT (ht h)
 ·rw [dF_ h]; exact e_condF (hf h)
theorem v_sslh {t : TypeId} {l : List UInt8} {q r : IntKind} {i j : Int} (a b : Nat) [ht : StrT P t] (hi : i = (a : Int)) (hj : j = (b : Int)) (hab : a <= b) (hb : b <= l.length) : RunV P W [] (sSl t (txt l) (some (.int q i)) (some (.int r j)) none) (txt (sub l a b)) := fun w _ => by
 have e : (⟨l.toArray⟩ : ByteArray).size = l.length := rfl
 have e2 : (⟨l.toArray⟩ : ByteArray).extract a b = ⟨(sub l a b).toArray⟩ := by
  apply ByteArray.ext
  rw [ByteArray.data_extract]
  simp [sub]
 simp [sSl, Instr.sliceAt, Instr.slice, Instr.sliceBounds, run_underlying ht.ut, txt, e, run_sb b hj hb, run_sb a hi hab, e2]
theorem B_eq {t : TypeId} {ox oy : Operand} {c : UInt8} {n : Int} (d : UInt8) (hn : n = (d.toNat : Int)) : RunV P W [] (sEq .eql t ox oy (Sl.B c) (.int .u8 n)) (.bool (decide (c = d))) := by
 have e : decide (c = d) = decide ((c.toNat : Int) = n) := by
  rw [decide_eq_decide, hn]
  constructor
  ·rintro rfl; rfl
  ·intro h
   exact UInt8.toNat_inj.1 (by omega)
 rw [e]
 exact v_eql
end
theorem els_len (q e : Bool) : ∀ (n : Nat) (l : List UInt8), l.length <= n -> ∀ (inn : Bool) (cur p : List UInt8), p ∈ els q e inn cur l -> p.length <= cur.length + l.length
 | _, [], _, inn, cur, p, h => by
  have : p = cur := by simpa [els] using h
  subst this; simp
 | n + 1, c :: r, hn, inn, cur, p, h => by
  have hr : r.length <= n := by simpa using hn
  rw [els_cons] at h
  split at h
  ·cases r with
   | nil =>
    have : p = cur ++ [c] := by simpa using h
    subst this; simp
   | cons d r' =>
    have := els_len q e n r' (by simp at hr; omega) _ _ _ h
    simp at this ⊢; omega
  ·split at h
   ·have := els_len q e n r hr _ _ _ h
    simp at this ⊢; omega
   ·split at h
    ·rcases List.mem_cons.1 h with h | h
     ·subst h; simp
     ·have := els_len q e n r hr _ _ _ h
      simp at this ⊢; omega
    ·have := els_len q e n r hr _ _ _ h
     simp at this ⊢; omega
theorem elems_len {q e : Bool} {l w : List UInt8} (h : w ∈ elemsF q e l) : w.length <= l.length := by
 obtain ⟨_, v, hv, rfl⟩ := tidy_mem h
 have := els_len q e _ _ (Nat.le_refl _) _ _ _ hv
 have h2 := trim_len v
 simp [sub] at this
 omega
theorem els_num (q e : Bool) : ∀ (n : Nat) (l : List UInt8), l.length <= n -> ∀ (inn : Bool) (cur : List UInt8), (els q e inn cur l).length <= l.length + 1
 | _, [], _, inn, cur => by simp [els]
 | n + 1, c :: r, hn, inn, cur => by
  have hr : r.length <= n := by simpa using hn
  rw [els_cons]
  split
  ·cases r with
   | nil => simp
   | cons d r' =>
    have := els_num q e n r' (by simp at hr; omega) inn (cur ++ [c, d])
    simp; omega
  ·split
   ·have := els_num q e n r hr (!inn) (cur ++ [c])
    simp; omega
   ·split
    ·have := els_num q e n r hr false []
     simp; omega
    ·have := els_num q e n r hr inn (cur ++ [c])
     simp; omega
theorem elems_num {q e : Bool} {l : List UInt8} : (elemsF q e l).length <= l.length + 1 := by
 have h1 := tidy_len (stE l q e false 0 0)
 have h2 := els_num q e _ (l.drop 0) (Nat.le_refl _) false (sub l 0 0)
 rw [List.length_drop] at h2
 unfold elemsF
 unfold stE at h1 ⊢
 omega
theorem at_drop {α : Type} {xs r : List α} {k : Nat} {x : α} (h : xs.drop k = x :: r) : xs[k]? = some x /\ xs.drop (k + 1) = r /\ k < xs.length := by
 have hk : k < xs.length := by
  rcases Nat.lt_or_ge k xs.length with c | c
  ·exact c
  ·rw [List.drop_of_length_le c] at h; cases h
 rw [List.drop_eq_getElem_cons hk] at h
 injection h with h1 h2
 exact ⟨by rw [List.getElem?_eq_getElem hk, h1], h2, hk⟩
def ewv (q e : Bool) (l : List UInt8) : List (List Value) := (elemsF q e l).map fun w => [txt w]
theorem ewv_at {q e : Bool} {l w : List UInt8} {k : Nat} (h : (elemsF q e l)[k]? = some w) : (ewv q e l)[k]? = some [txt w] := by simp [ewv, h]
theorem ewv_len {q e : Bool} {l : List UInt8} : (ewv q e l).length = (elemsF q e l).length := by simp [ewv]
end Go.Proofs.YthomhkpedghhgaaDoor.FD
namespace Go.Proofs.YthomhkpedghhgaaDoor.FD
open Go Go.Proofs Go.RowKit Sh Sl T
theorem infoBd : (p_.info? 66).map (·.size) = some 2 := by kernel_rfl
theorem liesBd : liesAt p_ p_.depth 66 (2 / p_.cellsOf 66) 0 66 1 = true := by kernel_rfl
set_option maxHeartbeats 1000000 in
set_option maxRecDepth 100000 in
theorem cc_used (b : Nat) (w : World) (h0 : w.cell? ⟨b, 0, none⟩ = some (.pointer (some ⟨b, 0, none⟩))) :
  Calls p_ 37 #[.pointer (some ⟨b, 0, none⟩)] w fun e w' => e = .returned (.tuple #[]) /\ w' = w := by
 obtain ⟨j, hj, _⟩ := Option.map_eq_some_iff.1 infoBd
 go_enter Tryd.func37, Tryd.ntmps37
 go_wp2
 rw [Lib.run_neq_ptr_same w _ Tryd.underlying63 hj]
 go_wp2
 go_end0
 exact ⟨rfl, rfl⟩
set_option maxHeartbeats 1000000 in
set_option maxRecDepth 100000 in
theorem cc_fresh (b : Nat) (w : World) (h0 : w.cell? ⟨b, 0, none⟩ = some (.pointer none)) (hsh : w.shape? b = some (66, 2)) (hfz : w.frozen? ⟨b, 0, none⟩ = false) :
  Calls p_ 37 #[.pointer (some ⟨b, 0, none⟩)] w fun e w' => e = .returned (.tuple #[]) /\ w' = w.setCell ⟨b, 0, none⟩ (.pointer (some ⟨b, 0, none⟩)) := by
 obtain ⟨j, hj, hjs⟩ := Option.map_eq_some_iff.1 infoBd
 go_enter Tryd.func37, Tryd.ntmps37
 go_wp2
 rw [Lib.run_to_unsafe w ⟨b, 0, none⟩ Tryd.underlying63 Tryd.underlying104 hj (by rw [hjs]; decide) hsh (Nat.zero_lt_succ 1)]
 simp only [Result.andThen]
 rw [Oper.upon_value]
 go_wp2
 rw [run_callFunc_extern Tryd.func44 (by kernel_rfl) (by kernel_rfl) (by kernel_rfl) (e := Extern.AbiNoEscape.same) (by kernel_rfl)]
 rw [Lib.run_noEscape]
 simp only [Result.andThen]
 rw [Oper.upon_value]
 go_wp2
 rw [Lib.run_from_unsafe w ⟨b, 0, none⟩ Tryd.underlying104 Tryd.underlying63 hj hsh liesBd]
 simp only [Result.andThen]
 rw [Oper.upon_value]
 go_wp2
 go_end0
 exact ⟨rfl, rfl⟩
def bd (b : Nat) (r : Option Addr × Nat) (l : List UInt8) : HP := all [pt b (.cells #[.pointer (some ⟨b, 0, none⟩), .slice r.1 l.length r.2] 66 (0, 0)), Sl 1 5 r.1 r.2 l.length (l.map B)]
theorem check0 {W : World} {b : Nat} {v : Value} : Cn p_ 37 [.pointer (some ⟨b, 0, none⟩)] W [pt b (.cells #[.pointer none, v] 66 (0, 0))] (fun _ : Unit => .tuple #[]) (fun _ => [pt b (.cells #[.pointer (some ⟨b, 0, none⟩), v] 66 (0, 0))]) :=
 ⟨Tryd.call37, fun F w hw => (cc_fresh b w (by rw [(show sat W (pt b _ :: F) w from hw).cell]; rfl) (by rw [World.shape?, (show sat W (pt b _ :: F) w from hw).pt_.1]; rfl) (show sat W (pt b _ :: F) w from hw).free).mono fun e w' ⟨he, hb⟩ => ⟨(), he, by
  rw [hb]
  exact (show sat W (pt b _ :: F) w from hw).setCell (o := 0) (.pointer (some ⟨b, 0, none⟩))⟩⟩
theorem check1 {W : World} {b : Nat} {v : Value} : Cn p_ 37 [.pointer (some ⟨b, 0, none⟩)] W [pt b (.cells #[.pointer (some ⟨b, 0, none⟩), v] 66 (0, 0))] (fun _ : Unit => .tuple #[]) (fun _ => [pt b (.cells #[.pointer (some ⟨b, 0, none⟩), v] 66 (0, 0))]) :=
 ⟨Tryd.call37, fun F w hw => (cc_used b w (by rw [(show sat W (pt b _ :: F) w from hw).cell]; rfl)).mono fun e w' ⟨he, hb⟩ => ⟨(), he, by rw [hb]; exact hw⟩⟩
set_option maxHeartbeats 2000000 in
set_option maxRecDepth 100000 in
theorem str_run (b g cap : Nat) (cur : Array Value) (l : List UInt8) (w : World) (hb : w.cell? ⟨b, 1, none⟩ = some (.slice (some ⟨g, 0, none⟩) l.length cap)) (hg : w.heap[g]? = some (.cells cur 5 (0, 0))) (h0 : l ≠ []) (hc : l.length <= cap) (hcs : cap <= cur.size) (hcm : cap <= maxLen)
  (hcell : ∀ j x, l[j]? = some x -> w.cell? ⟨g, j, none⟩ = some (B x)) :
  Calls p_ 26 #[.pointer (some ⟨b, 0, none⟩)] w fun e w' => e = .returned (.string ⟨l.toArray⟩) /\ w' = w.drew.freeze ⟨g, 0, none⟩ l.length := by
 have hl0 : l.length ≠ 0 := by simpa using h0
 have c1 : w.drew.cell? ⟨b, 1, none⟩ = some (.slice (some ⟨g, 0, none⟩) l.length cap) := hb
 have hSD : (Builtin.unsafeSliceData_ #[64] 95 #[.slice (some ⟨g, 0, none⟩) l.length cap]).run p_ w.drew = .ok (.pointer (some ⟨g, 0, none⟩)) w.drew :=
  Lib.run_unsafeSliceData_row _ _ _ _ _ _ (by omega)
 have hUS : (Builtin.unsafeString_ #[95, 3] 9 #[.pointer (some ⟨g, 0, none⟩), .int .i64 l.length]).run p_ w.drew = .ok (.string ⟨l.toArray⟩) (w.drew.freeze ⟨g, 0, none⟩ l.length) := by
  refine Lib.run_unsafeString_row w.drew 95 3 9 5 Tryd.underlying95 (by kernel_rfl) g cur.size (by have hg' : w.drew.heap[g]? = some (.cells cur 5 (0, 0)) := hg; simp [World.shape?, hg']) l h0 (by omega) (by unfold maxLen at hcm; omega) ?_
  intro j x hx
  rw [addr_add, Nat.zero_add]
  exact hcell j x hx
 have mixed := S.wide
 go_enter Tryd.func26, Tryd.ntmps26
 go_wp2
 go_region_o
 all_goals (go_wp2; go_ret; exact ⟨rfl, rfl⟩)
theorem bdString {W : World} {b : Nat} {r : Option Addr × Nat} {l : List UInt8} (h0 : l ≠ []) : Cn p_ 26 [.pointer (some ⟨b, 0, none⟩)] W [bd b r l] (fun _ : Unit => txt l) (fun _ => []) :=
 ⟨Tryd.call26, fun F w hw => by
  have hl0 : 0 < l.length := List.length_pos_iff.2 h0
  obtain ⟨ra, rc⟩ := r
  have h1 : sat W ([pt b (.cells #[.pointer (some ⟨b, 0, none⟩), .slice ra l.length rc] 66 (0, 0)), Sl 1 5 ra rc l.length (l.map B)] ++ F) w :=
   sat.map (L := all [pt b (.cells #[.pointer (some ⟨b, 0, none⟩), .slice ra l.length rc] 66 (0, 0)), Sl 1 5 ra rc l.length (l.map B)] :: F) (fun _ H => all_append' H) hw
  simp only [ca_, na_] at h1
  have h2 := h1.pick (.there .here)
  obtain ⟨g, hg⟩ : ∃ g, ra = some ⟨g, 0, none⟩ := by
   obtain ⟨f, ⟨l1, l2, l3, hd⟩, _⟩ := h2.fst
   rcases hd with ⟨_, hc0⟩ | ⟨g, rest, hr, _, _⟩
   ·omega
   ·exact ⟨g, hr⟩
  subst hg
  obtain ⟨rest, r1, r2, r3, r4, hp⟩ := sl_row h2
  have hcur : (l.map B ++ rest).length = rc := by rw [List.length_append, r1]; simp; omega
  refine (str_run b g rc (l.map B ++ rest).toArray l w (by rw [h1.cell]; rfl) hp.pt_.1 h0 r3 (by simpa using Nat.le_of_eq hcur.symm) r4 (fun j x hx => ?_)).mono fun e w' ⟨he, hb⟩ => ⟨(), he, ?_⟩
  ·rw [hp.cell]
   have hj : j < l.length := by
    rcases Nat.lt_or_ge j l.length with c | c
    ·exact c
    ·rw [List.getElem?_eq_none c] at hx; cases hx
   rw [List.getElem?_toArray, List.getElem?_append_left (by simpa using hj), List.getElem?_map, hx]; rfl
  ·subst hb
   have h3 := hp.drew
   have h4 : sat W (pt g (.cells (l.map B ++ rest).toArray 5 (0, l.length)) :: _) (w.drew.freeze ⟨g, 0, none⟩ l.length) := h3.turn (by simp [World.freeze]; split <;> rfl) (by simp [World.freeze]; split <;> rfl) (by simp [World.freeze]; split <;> rfl) (by simp [World.freeze]; split <;> simp) (by
    rw [World.freeze, if_neg (by omega)]
    simp only [Array.getElem?_modify, if_pos, h3.pt_.1]
    simp) (fun i hi => by
    rw [World.freeze, if_neg (by omega)]
    simp only [Array.getElem?_modify]
    rw [if_neg (fun c => hi c.symm)])
   exact h4.drop.drop⟩
end Go.Proofs.YthomhkpedghhgaaDoor.FD
namespace Go.Proofs.YthomhkpedghhgaaDoor.Sl
open Go Sh
variable {P : Program} {W : World}
instance {f : FuncId} : OC (fn f) := ⟨rfl⟩
end Go.Proofs.YthomhkpedghhgaaDoor.Sl
namespace Go.Proofs.YthomhkpedghhgaaDoor.FD
open Go Go.Proofs Go.RowKit Sh Sl T
theorem els_string {W : World} {l : List UInt8} {q e : Bool} {fv : Value} : Cn p_ 42 [.agg #[.bool q, .bool e, fv], txt l] W [] (fun c : Nat × Nat => .func (.func 51) #[] [.pointer (some ⟨c.1, 0, none⟩), .pointer (some ⟨c.2, 0, none⟩)].toArray) (fun c => [pt c.1 (.cells #[txt l] 9 (0, 0)), pt c.2 (.cells #[.bool q, .bool e, fv] 94 (0, 0))]) := by
 (refine S.fields_kind_string_elements_s.cn fun F => ?_; unfold S.fields_kind_string_elements; simp only [ca_, na_])
 refine e_boxA fun gk => ?_
 refine e_box1 fun gs => ?_
 refine o_ v_mkF (rt_ ((gs, gk)) ?_)
 exact .refl
theorem els1_string {W : World} {l : List UInt8} {q e : Bool} {fv : Value} {gs gk lp : Nat} {G : Nat -> HP} {Gx T T' : HP} (hl : l.length <= 4611686018427387904)
  (hy : YieldC p_ lp (ewv q e l) (fun k => all [T, all [pt gs (.cells #[txt l] 9 (0, 0)), pt gk (.cells #[.bool q, .bool e, fv] 94 (0, 0)), G k]]) (all [T', Gx]) W) :
  Cn p_ 51 [yv lp, .pointer (some ⟨gs, 0, none⟩), .pointer (some ⟨gk, 0, none⟩)] W [all [T, all [pt gs (.cells #[txt l] 9 (0, 0)), pt gk (.cells #[.bool q, .bool e, fv] 94 (0, 0)), G 0]]] (fun _ : Bool => .tuple #[]) (fun b => [if b then all [T, all [pt gs (.cells #[txt l] 9 (0, 0)), pt gk (.cells #[.bool q, .bool e, fv] 94 (0, 0)), G (elemsF q e l).length]] else all [T', Gx]]) := by
 (refine S.fields_kind_string_elements_1_s.cn fun F => ?_; unfold S.fields_kind_string_elements_1; simp only [ca_, na_])
 refine e_all .here ?_
 refine nr_ ?_
 refine e_all (.there .here) ?_
 refine nr_ ?_
 refine e_loop3 (fun m x y z => [ex fun st : Bool × Nat × Nat × Nat => all [pu (m + st.2.2.1 = l.length + 1 /\ x = .bool st.1 /\ y = .int .i64 (st.2.1 : Int) /\ z = .int .i64 (st.2.2.1 : Int) /\ st.2.1 <= st.2.2.1 /\ st.2.1 <= l.length /\ (elemsF q e l).drop st.2.2.2 = tidy (stE l q e st.1 st.2.1 st.2.2.1) /\ st.2.2.2 <= (elemsF q e l).length),
   T, pt gs (.cells #[txt l] 9 (0, 0)), pt gk (.cells #[.bool q, .bool e, fv] 94 (0, 0)), G st.2.2.2]] ++ F) (l.length + 1) ?_ ?_
 ·refine Imp.ex (false, 0, 0, 0) (.all ?_)
  refine nr_ ?_
  refine .pu ⟨by simp, rfl, rfl, rfl, Nat.le_refl _, Nat.zero_le _, rfl, Nat.zero_le _⟩ ?_
  exact im_
 intro m ds x y z
 refine nr_ ?_
 refine e_ex Pick.here fun st => e_all Pick.here ?_
 obtain ⟨inn, a, i, k⟩ := st
 refine nr_ ?_
 refine e_pu Pick.here fun hi => ?_
 (try dsimp only at hi)
 obtain ⟨hmi, rfl, rfl, rfl, hai, hal, hdr, hkl⟩ := hi
 refine p_op (v_ldN .here) ?_
 refine o_ v_lent (e_ask v_lss .nil (fun h => ?_) (fun h => ?_))
 ·have hil : i < l.length := by omega
  refine e_condT (p_op (v_ldN .here) ?_)
  refine o_ (v_ixS i rfl hil) ?_
  refine o_ (B_eq 92 rfl) ?_
  refine e_and0 ?_
  refine e_and2 v_fa0 (v_ldN (.there .here)) (.pick (by repeat constructor) .nil) ?_
  refine e_cond (φ := l[i] = 92 /\ inn = true /\ e = true) (by cases inn <;> cases e <;> simp) (fun h1 => ?_) (fun h1 => ?_)
  ·refine ad_ ?_
   refine ad_ ?_
   rw [stE_esc hil hai h1.1 h1.2.1 h1.2.2] at hdr
   refine e_next3 (m - 2) (by omega) (.ex (inn, a, i + 2, k) (.all ?_))
   refine nr_ ?_
   refine .pu ⟨by (try dsimp only); omega, rfl, rfl, by (try dsimp only); rw [Int.add_assoc]; rfl, by (try dsimp only); omega, hal, hdr, hkl⟩ ?_
   exact im_
  ·refine o_ (B_eq 34 rfl) ?_
   refine e_and2 v_fa0 (v_ldN .here) (.pick (by repeat constructor) .nil) ?_
   refine e_cond (φ := l[i] = 34 /\ q = true) (by cases q <;> simp) (fun h2 => ?_) (fun h2 => ?_)
   ·refine o_ v_not (ad_ ?_)
    rw [stE_q hil hai h1 h2.1 h2.2] at hdr
    refine e_next3 (m - 1) (by omega) (.ex (!inn, a, i + 1, k) (.all ?_))
    refine nr_ ?_
    refine .pu ⟨by (try dsimp only); omega, rfl, rfl, rfl, by (try dsimp only); omega, hal, hdr, hkl⟩ ?_
    exact im_
   ·refine o_ (B_eq 44 rfl) ?_
    refine e_and (fun _ => v_not) ?_
    refine e_cond (φ := l[i] = 44 /\ inn = false) (by cases inn <;> simp) (fun h3 => ?_) (fun h3 => ?_)
    ·refine p_op (v_ldN .here) ?_
     refine o_ (v_sslh a i rfl rfl hai (by omega)) ?_
     refine e_call (trim (by simp [sub]; omega)) .nil fun _ => ?_
     refine nr_ ?_
     have e0 : (Value.string ⟨#[]⟩) = txt [] := rfl
     rw [stE_c hil hai h3.1 h3.2, tidy_cons] at hdr
     rw [e0]
     refine o_ v_strne ?_
     by_cases h4 : trimB (sub l a i) = []
     ·rw [if_pos h4] at hdr
      rw [dF_ (fun c => c h4)]
      refine e_gdF2 (e_gdF2 (e_gdF2 (e_gdF2 (o_ v_pickF (e_condF (ad_ ?_)))))); refine ad_ ?_
      refine e_next3 (m - 1) (by omega) (.ex (inn, i + 1, i + 1, k) (.all ?_))
      refine nr_ ?_
      refine .pu ⟨by (try dsimp only); omega, rfl, rfl, rfl, Nat.le_refl _, by (try dsimp only); omega, by rw [h3.2]; exact hdr, hkl⟩ ?_
      exact im_
     ·rw [if_neg h4] at hdr
      obtain ⟨hg, hd2, hk2⟩ := at_drop hdr
      rw [dT_ h4]
      refine e_gdT (e_gdT (e_gdT (e_imp (M := all [T, all [pt gs (.cells #[txt l] 9 (0, 0)), pt gk (.cells #[.bool q, .bool e, fv] 94 (0, 0)), G k]] :: F) ?_ ?_)))
      ·refine .all ?_
       refine nr_ ?_
       refine .pick (by repeat constructor) (.all ?_)
       refine nr_ ?_
       exact im_
      refine e_yield hy k (ewv_at hg) .here ?_ ?_
      ·(refine e_gdT ?_); refine o_ v_notT ?_; refine o_ v_pickT ?_; refine e_condF ?_; refine ad_ ?_; refine ad_ ?_
       refine e_all .here ?_
       refine nr_ ?_
       refine e_all (.there .here) ?_
       refine nr_ ?_
       refine e_next3 (m - 1) (by omega) (.ex (inn, i + 1, i + 1, k + 1) (.all ?_))
       refine nr_ ?_
       refine .pu ⟨by (try dsimp only); omega, rfl, rfl, rfl, Nat.le_refl _, by (try dsimp only); omega, by rw [h3.2]; exact hd2, by (try dsimp only); omega⟩ ?_
       exact im_
      ·(refine e_gdT ?_); refine o_ v_notF ?_; refine o_ v_pickT ?_; refine e_condT ?_
       refine rt_ false ?_
       exact .refl
    ·refine ad_ ?_
     rw [stE_o hil hai h1 h2 h3] at hdr
     refine e_next3 (m - 1) (by omega) (.ex (inn, a, i + 1, k) (.all ?_))
     refine nr_ ?_
     refine .pu ⟨by (try dsimp only); omega, rfl, rfl, rfl, by (try dsimp only); omega, hal, hdr, hkl⟩ ?_
     exact im_
 ·refine e_condF (p_op (v_ldN .here) ?_)
  refine o_ (v_ssl a rfl hal) ?_
  refine e_call (trim (by simp; omega)) .nil fun _ => ?_
  refine nr_ ?_
  have e0 : (Value.string ⟨#[]⟩) = txt [] := rfl
  rw [e0]
  rw [stE_end (by omega), tidy_cons, tidy_nil] at hdr
  refine o_ v_strne ?_
  by_cases h4 : trimB (l.drop a) = []
  ·rw [if_pos h4] at hdr
   rw [dF_ (fun c => c h4)]
   have hkn : k = (elemsF q e l).length := by
    have := congrArg List.length hdr
    rw [List.length_drop, List.length_nil] at this; omega
   subst hkn
   refine e_condF (rt_ true ?_)
   refine .all ?_
   refine nr_ ?_
   refine .pick (by repeat constructor) (.all ?_)
   refine nr_ ?_
   exact im_
  ·rw [if_neg h4] at hdr
   obtain ⟨hg, hd2, hk2⟩ := at_drop hdr
   rw [dT_ h4]
   refine e_condT (e_imp (M := all [T, all [pt gs (.cells #[txt l] 9 (0, 0)), pt gk (.cells #[.bool q, .bool e, fv] 94 (0, 0)), G k]] :: F) ?_ ?_)
   ·refine .all ?_
    refine nr_ ?_
    refine .pick (by repeat constructor) (.all ?_)
    refine nr_ ?_
    exact im_
   have hkn : k + 1 = (elemsF q e l).length := by
    have := congrArg List.length hd2
    rw [List.length_drop, List.length_nil] at this; omega
   refine e_yield hy k (ewv_at hg) .here ?_ ?_
   ·rw [hkn]
    refine rt_ true ?_
    exact .refl
   ·refine rt_ false ?_
    exact .refl
def vstring (x : List UInt8) : Value := txt x
def pstring (x : List UInt8) : List Value := [txt x]
theorem list_string {W : World} {l : List UInt8} {q e : Bool} {f : FuncId} {one : List UInt8 → (List UInt8) × Bool} (hl : l.length ≤ 2097152)
  (hone : ∀ w : List UInt8, w.length ≤ l.length → Cn p_ f [txt w] W [] (fun _ : Unit => .tuple #[vstring (one w).1, .bool (one w).2]) (fun _ => [])) :
  Cn p_ 34 [txt l, .agg #[.bool q, .bool e, fn f]] W [] (fun r : Option Addr × Nat => .tuple #[.slice r.1 (lsF (listF one (elemsF q e l))).1.length r.2, .int .i64 (lsF (listF one (elemsF q e l))).2])
   (fun r => [Sl 1 9 r.1 r.2 (lsF (listF one (elemsF q e l))).1.length ((lsF (listF one (elemsF q e l))).1.flatMap pstring)]) := by
 have hnum := elems_num (q := q) (e := e) (l := l)
 (refine S.fields_list_string_s.cn fun F => ?_; unfold S.fields_list_string; simp only [ca_, na_])
 refine e_boxA fun b3 => ?_
 refine e_new1 fun b4 => ?_
 refine e_new1 fun b5 => ?_
 refine e_new1 fun b6 => ?_
 refine p_op (v_ldAgg (cs := #[.bool q, .bool e, fn f]) rfl) ?_
 refine e_call els_string .nil fun c => ?_
 obtain ⟨gs, gk⟩ := c
 refine nr_ ?_
 refine e_rf (f := 51) (cap := [.pointer (some ⟨gs, 0, none⟩), .pointer (some ⟨gk, 0, none⟩)]) (ewv q e l)
  (fun k => all [pt gs (.cells #[txt l] 9 (0, 0)), pt gk (.cells #[.bool q, .bool e, fn f] 94 (0, 0)), all [pu (((elemsF q e l).take k).all (fun w => (one w).2) = true ∧ k ≤ (elemsF q e l).length), pt b3 (.cells #[.bool q, .bool e, fn f] 94 (0, 0)), pt b4 (.cells #[.slice none 0 0] 29 (0, 0)), pt b5 (.cells #[.int .i64 0] 44 (0, 0)),
   ex fun r : Option Addr × Nat => all [pt b6 (.cells #[.slice r.1 k r.2] 29 (0, 0)), Sl 1 9 r.1 r.2 k (((elemsF q e l).take k).flatMap fun w => pstring (one w).1)], all F]])
  (all [pu ((elemsF q e l).all (fun w => (one w).2) = false), pt b4 (.cells #[.slice none 0 0] 29 (0, 0)), pt b5 (.cells #[.int .i64 42] 44 (0, 0)), all F]) rfl ?_ ?_ ?_ ?_ ?_ ?_
 ·intro x hx
  obtain ⟨w, _, rfl⟩ := List.mem_map.1 hx
  rfl
 ·refine .all ?_
  refine nr_ ?_
  refine .pick (by repeat constructor) (.pick (by repeat constructor) (.all ?_))
  refine nr_ ?_
  refine .pu ⟨rfl, Nat.zero_le _⟩ ?_
  refine .pick (by repeat constructor) (.pick (by repeat constructor) (.pick (by repeat constructor) (.ex (none, 0) (.all ?_))))
  refine nr_ ?_
  refine .pick (by repeat constructor) (imp_nil (.all ?_))
  rw [List.append_nil]
  exact .refl
 ·intro lp T T' hy
  rw [ewv_len]
  exact els1_string (by omega) hy
 ·intro k hk F2 T0 T1 B N J hB hN hJ
  rw [ewv_len] at hk
  obtain ⟨w, hwe⟩ : ∃ w, w = (elemsF q e l)[k] := ⟨_, rfl⟩
  have hwl : w.length ≤ l.length := elems_len (by rw [hwe]; exact List.getElem_mem hk)
  have hat : (elemsF q e l)[k]? = some w := by rw [hwe, List.getElem?_eq_getElem hk]
  have e0 : ∀ h, (ewv q e l)[k]'h = [txt w] := fun h => by
   have := ewv_at hat
   rw [List.getElem?_eq_getElem h] at this
   exact Option.some.inj this
  rw [e0]
  simp only [vapp, List.headD_cons, List.tail_cons]
  refine e_all (.there .here) ?_
  refine nr_ ?_
  refine e_all (.there (.there .here)) ?_
  refine nr_ ?_
  refine e_pu .here fun hp => ?_
  obtain ⟨hp, hkn⟩ := hp
  have htk : (elemsF q e l).take (k + 1) = (elemsF q e l).take k ++ [w] := by rw [List.take_succ_eq_append_getElem hk, hwe]
  refine hB _ _ _ (by repeat constructor) ?_
  refine e_ex (A := fun r : Option Addr × Nat => all [pt b6 (.cells #[.slice r.1 k r.2] 29 (0, 0)), Sl 1 9 r.1 r.2 k (((elemsF q e l).take k).flatMap fun w => pstring (one w).1)]) (by repeat constructor) fun r => e_all Pick.here ?_
  obtain ⟨a, c⟩ := r
  refine nr_ ?_
  refine o_ v_fa0 (p_op (v_ldN (.there (.there .here))) ?_)
  refine e_call (hone w hwl) .nil fun _ => ?_
  refine nr_ ?_
  unfold vstring
  refine o_ (v_extN (vs := [_, _]) .here) ?_
  refine o_ (v_extN (vs := [_, _]) (.there .here)) ?_
  refine o_ v_not ?_
  cases hok : (one w).2 with
  | false =>
   refine e_condT (e_stN (by repeat constructor) .here ?_)
   refine e_stN (by repeat constructor) .here ?_
   refine hJ _ ?_
   refine .pick (by repeat constructor) (.all ?_)
   refine nr_ ?_
   refine .pu ?_ ?_
   ·rw [Bool.eq_false_iff]
    intro hall
    have := List.all_eq_true.1 hall w (by rw [hwe]; exact List.getElem_mem hk)
    rw [hok] at this; cases this
   refine .pick (by repeat constructor) (.pick (by repeat constructor) ?_)
   exact im_
  | true =>
   refine e_condF (p_op (v_ldN .here) ?_)
   refine e_bsl1 fun gb => ?_
   refine e_app (m := 1) (news := [txt (one w).1]) (by repeat constructor) (src_pt (e' := 9) (by kernel_rfl) .here (by rfl) (by intro u hu; rw [List.mem_singleton.1 hu]; rfl)) (by omega) (by omega) fun a' c' => ?_
   refine e_stN (by repeat constructor) .here ?_
   refine hN _ ?_
   refine .pick (by repeat constructor) (.all ?_)
   refine nr_ ?_
   refine .pick (by repeat constructor) (.pick (by repeat constructor) (.all ?_))
   refine nr_ ?_
   refine .pu ⟨?_, by omega⟩ ?_
   ·rw [htk, List.all_append, hp]
    simp [hok]
   refine .pick (by repeat constructor) (.pick (by repeat constructor) (.pick (by repeat constructor) (.ex (a', c') (.all ?_))))
   refine nr_ ?_
   rw [htk, List.flatMap_append, List.flatMap_singleton]
   refine .pick (by repeat constructor) (.pick (by repeat constructor) ?_)
   exact im_
 ·intro d
  rw [ewv_len]
  refine e_all (.there .here) ?_
  refine nr_ ?_
  refine e_all (.there (.there .here)) ?_
  refine nr_ ?_
  refine e_pu .here fun hp => ?_
  obtain ⟨hp, _⟩ := hp
  rw [List.take_length] at hp ⊢
  refine e_ex (A := fun r : Option Addr × Nat => all [pt b6 (.cells #[.slice r.1 (elemsF q e l).length r.2] 29 (0, 0)), Sl 1 9 r.1 r.2 (elemsF q e l).length ((elemsF q e l).flatMap fun w => pstring (one w).1)]) (by repeat constructor) fun r => e_all Pick.here ?_
  obtain ⟨a, c⟩ := r
  refine nr_ ?_
  refine p_op (v_ldN .here) ?_
  refine e_stN (by repeat constructor) .here ?_
  refine e_stN (by repeat constructor) .here ?_
  refine e_tk (by repeat constructor) ?_
  refine p_st (v_res1 .here) ?_
  refine p_st (v_res1 .here) ?_
  have e1 : lsF (listF one (elemsF q e l)) = ((elemsF q e l).map fun w => (one w).1, 0) := by
   unfold listF
   rw [if_pos hp]; rfl
  rw [e1]
  refine e_rest (M := [Sl 1 9 a c (elemsF q e l).length ((elemsF q e l).flatMap fun w => pstring (one w).1)]) (F := F) im_ ?_
  refine nr_ ?_
  refine e_ret (a, c) (by simp) ?_
  simp only [List.length_map, List.flatMap_map]
  exact .refl
 ·intro d
  refine e_all (.there .here) ?_
  refine nr_ ?_
  refine e_pu .here fun hp => ?_
  refine e_tk (by repeat constructor) ?_
  refine p_st (v_res1 .here) ?_
  refine p_st (v_res1 .here) ?_
  have e1 : lsF (listF one (elemsF q e l)) = ([], 42) := by
   unfold listF
   rw [if_neg (by rw [hp]; simp)]; rfl
  rw [e1]
  refine e_rest (M := []) (F := F) im_ ?_
  refine nr_ ?_
  refine e_ret (none, 0) rfl ?_
  exact imp_nil .refl
section
variable {P : Program} {W : World} {L L' : List HP} {Kp : PK} {k : Value -> WP}
end
theorem token1 {W : World} {l : List UInt8} (hl : l.length <= 4611686018427387904) : Cn p_ 35 [txt l] W [] (fun _ : Unit => .tuple #[vstring (tokenF l).1, .bool (tokenF l).2]) (fun _ => []) := by
 (refine S.fields_Tokens_1_s.cn fun F => ?_; unfold S.fields_Tokens_1; simp only [ca_, na_])
 refine c_ (lower hl) fun _ => ?_
 refine c_ (token hl) fun _ => ?_
 refine rt_ () ?_
 exact im_
end Go.Proofs.YthomhkpedghhgaaDoor.FD
namespace Go.Proofs.YthomhkpedghhgaaDoor.FD
open Go Go.Proofs Go.RowKit Sh Sl T
theorem rlower {W : World} {l : List UInt8} (hl : l.length <= 4611686018427387904) : Cn p_ 27 [txt l] W [] (fun _ : Unit => txt (lowF l)) (fun _ => []) := by
 (refine S.ref01_Lower_s.cn fun F => ?_; unfold S.ref01_Lower; simp only [ca_, na_])
 refine e_sbytesF Tryd.underlying64 Tryd.underlying5 fun g c rest => ?_
 refine e_loop1 (fun m y => [ex fun i : Nat => all [pu (m + i = l.length /\ y = .int .i64 (i : Int)), pt g (.cells (((l.take i).map lowB ++ l.drop i).map B ++ rest).toArray 5 (l.length + rest.length, l.length + rest.length + 1))]] ++ F) l.length ?_ ?_
 ·refine Imp.ex 0 (.all ?_)
  refine nr_ ?_
  rw [List.take_zero, List.drop_zero, List.map_nil, List.nil_append]
  exact .pu ⟨by omega, rfl⟩ .refl
 intro m ds y
 refine nr_ ?_
 refine e_ex Pick.here fun i => e_all Pick.here ?_
 refine nr_ ?_
 refine e_pu Pick.here fun hi => ?_
 obtain ⟨hmi, rfl⟩ := hi
 refine o_ v_len (e_ask v_lss .nil (fun h => ?_) (fun h => ?_))
 ·have hil : i < l.length := by omega
  refine e_condT ?_
  have hcl : ((l.take i).map lowB ++ l.drop i).length = l.length := by simp; omega
  have hget : ((((l.take i).map lowB ++ l.drop i).map B ++ rest).toArray)[i]? = some (B l[i]) := by
   simp [List.getElem?_append, hil, Nat.min_eq_left (Nat.le_of_lt hil)]
   intro h0; omega
  have ld : RunV p_ W [pt g (.cells (((l.take i).map lowB ++ l.drop i).map B ++ rest).toArray 5 (l.length + rest.length, l.length + rest.length + 1))] (sLoad 5 (.pointer (some ⟨g, i, none⟩))) (B l[i]) := v_ld hget
  refine o_ (v_ia1 i rfl hil) ?_
  rw [Nat.zero_add]
  refine e_opN ld (.pick .here .nil) ?_
  have step : ∀ x, x = lowB l[i] -> (((l.take i).map lowB ++ l.drop i).map B ++ rest).toArray.setIfInBounds i (B x) = (((l.take (i + 1)).map lowB ++ l.drop (i + 1)).map B ++ rest).toArray := by
   intro x hx
   subst hx
   rw [List.setIfInBounds_toArray]
   congr 1
   rw [dr hil, List.take_succ_eq_append_getElem hil]
   rw [List.map_append, List.map_append, List.map_append, List.map_append]
   have hk : (List.map B (List.map lowB (List.take i l))).length = i := by simp; omega
   rw [List.append_assoc, List.append_assoc, List.append_assoc, List.set_append, if_neg (by rw [hk]; omega), hk, Nat.sub_self]
   rfl
  have h65 : ((65 : Int) <= (l[i].toNat : Int) /\ (l[i].toNat : Int) <= 90) ↔ (65 <= l[i] /\ l[i] <= 90) := by
   rw [UInt8.le_iff_toNat_le, UInt8.le_iff_toNat_le]
   simp only [show (65 : UInt8).toNat = 65 from rfl, show (90 : UInt8).toNat = 90 from rfl]
   omega
  have no : ¬ (65 <= l[i] /\ l[i] <= 90) -> Ent W (pt g (.cells (((l.take i).map lowB ++ l.drop i).map B ++ rest).toArray 5 (l.length + rest.length, l.length + rest.length + 1)) :: F) (opN p_ (sBin .add 3 (.int .i64 (i : Int)) (.int .i64 1)) noP fun x12 => next1 (fun m y w => sat W ([ex fun i : Nat => all [pu (m + i = l.length /\ y = .int .i64 (i : Int)), pt g (.cells (((l.take i).map lowB ++ l.drop i).map B ++ rest).toArray 5 (l.length + rest.length, l.length + rest.length + 1))]] ++ F) w) m x12) := by
   intro hno
   have hlo : lowB l[i] = l[i] := if_neg hno
   have e2 : (((l.take i).map lowB ++ l.drop i).map B ++ rest).toArray = (((l.take (i + 1)).map lowB ++ l.drop (i + 1)).map B ++ rest).toArray := by
    rw [<- step _ hlo.symm]
    refine Array.ext_getElem? fun j => ?_
    rw [Array.getElem?_setIfInBounds]
    by_cases hj : i = j
    ·subst hj
     rw [if_pos rfl, hget, if_pos (by simp; omega)]
    ·rw [if_neg hj]
   rw [e2]
   refine ad_ ?_
   refine e_next1 (m - 1) (by omega) (.ex (i + 1) (.all ?_))
   refine nr_ ?_
   exact .pu ⟨by omega, rfl⟩ .refl
  refine o_ (v_geq (q := .u8) (a := (l[i].toNat : Int)) (b := 65)) ?_
  by_cases h1 : (65 : Int) <= (l[i].toNat : Int)
  ·rw [dT_ h1]
   refine e_gdT (e_gdT (e_gdT (o_ (v_ia1 i rfl hil) ?_)))
   rw [Nat.zero_add]
   refine e_gdT (e_opN ld (.pick .here .nil) ?_)
   refine e_gdT (o_ (v_leq (q := .u8) (a := (l[i].toNat : Int)) (b := 90)) ?_)
   refine o_ v_pickT ?_
   by_cases h2 : (l[i].toNat : Int) <= 90
   ·rw [dT_ h2]
    refine e_condT ?_
    have hlo : lowB l[i] = l[i] + 32 := if_pos (h65.1 ⟨h1, h2⟩)
    have hn : (lowB l[i]).toNat = (l[i]).toNat + 32 := by
     rw [hlo, UInt8.toNat_add]
     simp only [show (32 : UInt8).toNat = 32 from rfl]
     omega
    refine o_ (v_ia1 i rfl hil) ?_
    rw [Nat.zero_add]
    refine e_opN ld (.pick .here .nil) ?_
    refine o_ (v_addw (q := .u8) (a := (l[i].toNat : Int)) (b := 32)) ?_
    rw [show IntKind.u8.wrap ((l[i].toNat : Int) + 32) = ((lowB l[i]).toNat : Int) by
     rw [hn]
     simp [IntKind.wrap, IntKind.signed, IntKind.bits]; omega]
    refine o_ (v_ia1 i rfl hil) ?_
    rw [Nat.zero_add]
    refine e_stF (v := B (lowB l[i])) .here (by simp; omega) (by simp; omega) ?_
    rw [step _ rfl]
    refine ad_ ?_
    refine e_next1 (m - 1) (by omega) (.ex (i + 1) (.all ?_))
    refine nr_ ?_
    exact .pu ⟨by omega, rfl⟩ .refl
   ·rw [dF_ h2]
    exact e_condF (no (fun c => h2 (h65.2 c).2))
  ·rw [dF_ h1]
   exact e_gdF2 (e_gdF2 (e_gdF2 (e_gdF2 (e_gdF2 (o_ v_pickF (e_condF (no (fun c => h1 (h65.2 c).1))))))))
 ·have hie : i = l.length := by omega
  subst hie
  refine e_condF ?_
  rw [List.take_length, List.drop_length, List.append_nil]
  have hrd := rd_row (W := W) (g := g) (e := 5) (fz := (l.length + rest.length, l.length + rest.length + 1)) (cs := (lowF l).map B) (rest := rest)
  have e1 : ((lowF l).map B).length = l.length := by simp [lowF]
  rw [e1] at hrd
  refine e_opN (v_str (l := lowF l) hrd (by intro h; cases h)) (.pick .here .nil) ?_
  refine rt_ () ?_
  exact im_
abbrev Fd := List UInt8 × List UInt8
def vFd (x : Fd) : Value := .agg #[txt x.1, txt x.2]
def pFd (x : Fd) : List Value := [txt x.1, txt x.2]
theorem pFd_len (x : Fd) : (pFd x).length = 2 := rfl
theorem fd_at {xs : List Fd} {i : Nat} (h : i < xs.length) : (xs.flatMap pFd)[i * 2 + 0]? = some (txt xs[i].1) /\ (xs.flatMap pFd)[i * 2 + 1]? = some (txt xs[i].2) :=
 ⟨flat_get (f := pFd) (s := 2) pFd_len xs i 0 h (by omega), flat_get (f := pFd) (s := 2) pFd_len xs i 1 h (by omega)⟩
def RdF (W : World) (A : HP) (a : Option Addr) (l : List Fd) : Prop := RdB W A a (l.length * 2) (l.flatMap pFd)
theorem rdF_at {W : World} {A : HP} {a : Option Addr} {l : List Fd} (h : RdF W A a l) (hl : 0 < l.length) : ∃ g o, a = some ⟨g, o, none⟩ := by
 obtain ⟨g, o, e, _⟩ := h.at_ (by omega)
 exact ⟨g, o, e⟩
theorem rdF_sl {W : World} {g c : Nat} {l : List Fd} : RdF W (Sl 2 35 (some ⟨g, 0, none⟩) c l.length (l.flatMap pFd)) (some ⟨g, 0, none⟩) l := rd_slG (flat_len (f := pFd) (s := 2) (fun _ => rfl) l) (fun _ => ⟨g, rfl⟩)
theorem ld_fdA {W : World} {A : HP} {l : List Fd} {i g o : Nat} (hA : RdF W A (some ⟨g, o, none⟩) l) (h : i < l.length) : RunV p_ W [A] (sLoad 35 (.pointer (some ⟨g, o + i * 2, none⟩))) (vFd l[i]) :=
 v_ldRdG (vs := pFd l[i]) hA rfl (fun j hj => flat_get (f := pFd) (s := 2) (fun _ => rfl) l i j h hj)
def hOK (l : List Fd) : Prop := l.length <= 4194304 /\ ∀ f ∈ l, f.1.length <= 4194304 /\ f.2.length <= 4194304
def valsF (l : List Fd) (n : List UInt8) : List (List UInt8) := (l.filter fun f => eqlF f.1 n).map (·.2)
def firstF (l : List Fd) (n : List UInt8) : List UInt8 × Bool := match valsF l n with
 | [] => ([], false)
 | v :: _ => (v, true)
theorem vals_take {l : List Fd} {n : List UInt8} {i : Nat} (h : i < l.length) : valsF (l.take (i + 1)) n = valsF (l.take i) n ++ (if eqlF l[i].1 n then [l[i].2] else []) := by
 unfold valsF
 rw [List.take_succ_eq_append_getElem h, List.filter_append, List.map_append]
 congr 1
 cases he : eqlF l[i].1 n <;> simp [he]
theorem vals_len (l : List Fd) (n : List UInt8) : (valsF l n).length <= l.length := by
 unfold valsF
 rw [List.length_map]
 exact List.length_filter_le _ _
theorem values {W : World} {l : List Fd} {n : List UInt8} {a : Option Addr} {c : Nat} {A : HP} (hA : RdF W A a l) (hl : hOK l) (hn : n.length <= 4194304) : Cn p_ 13 [.slice a l.length c, txt n] W [A] (fun r : Option Addr × Nat => .slice r.1 (valsF l n).length r.2)
  (fun r => [A, Sl 1 9 r.1 r.2 (valsF l n).length ((valsF l n).map txt)]) := by
 (refine S.head_Values_s.cn fun F => ?_; unfold S.head_Values; simp only [ca_, na_])
 refine o_ v_len (e_loop2 (fun m x y => [ex fun st : (Option Addr × Nat) × Nat => all [pu (m + st.2 = l.length /\ x = .slice st.1.1 (valsF (l.take st.2) n).length st.1.2 /\ y = .int .i64 (st.2 : Int)), Sl 1 9 st.1.1 st.1.2 (valsF (l.take st.2) n).length ((valsF (l.take st.2) n).map txt), A]] ++ F) l.length ?_ ?_)
 ·refine Imp.ex ((none, 0), 0) (.all ?_)
  refine nr_ ?_
  refine .pu ⟨rfl, rfl, rfl⟩ ?_
  exact imp_nil .refl
 intro m ds x y
 refine nr_ ?_
 refine e_ex Pick.here fun st => e_all Pick.here ?_
 obtain ⟨⟨sa, sc⟩, i⟩ := st
 refine nr_ ?_
 refine e_pu Pick.here fun hi => ?_
 (try dsimp only at hi)
 obtain ⟨hmi, rfl, rfl⟩ := hi
 refine e_ask v_lss .nil (fun h => ?_) (fun h => ?_)
 ·have hil : i < l.length := by omega
  have hb := hl.2 _ (List.getElem_mem hil)
  have hv := vals_take (n := n) hil
  have hvl := vals_len (l.take i) n
  have hl1 := hl.1
  rw [List.length_take] at hvl
  refine e_condT ?_
  obtain ⟨g, o, rfl⟩ := rdF_at hA (Nat.zero_lt_of_lt hil)
  refine o_ (v_ia i rfl hil) ?_
  refine p_op (ld_fdA hA hil) ?_
  generalize l[i] = x at hb hv ⊢
  unfold vFd
  refine e_newA fun b7 => ?_
  refine e_stAgg .here (by rfl) (by rfl) (by intro u hu; simp at hu; rcases hu with rfl | rfl <;> rfl) ?_
  refine o_ v_fa0 (ln_ ?_)
  refine e_call (equal (a := x.1) (b := n) (by omega) (by omega)) .nil fun _ => ?_
  refine nr_ ?_
  cases he : eqlF x.1 n with
  | true =>
   rw [he, if_pos rfl] at hv
   refine e_condT (o_ v_fa0 (ln_ ?_)); refine e_bsl1 fun g => ?_
   refine e_app (m := 1) (news := [txt x.2]) (by repeat constructor) (src_pt (e' := 9) (by kernel_rfl) .here (by rfl) (by intro u hu; rw [List.mem_singleton.1 hu]; rfl)) (by omega) (by omega) fun a' c' => ?_
   refine ad_ ?_
   refine e_next2 (m - 1) (by omega) (.ex ((a', c'), i + 1) (.all ?_))
   refine nr_ ?_
   (try dsimp only)
   rw [hv, List.length_append, List.map_append]
   refine .pu ⟨by omega, rfl, rfl⟩ ?_
   refine .pick .here ?_
   exact im_
  | false =>
   rw [he, if_neg (by decide), List.append_nil] at hv
   refine e_condF (ad_ ?_)
   refine e_next2 (m - 1) (by omega) (.ex ((sa, sc), i + 1) (.all ?_))
   refine nr_ ?_
   (try dsimp only)
   rw [hv]
   refine .pu ⟨by omega, rfl, rfl⟩ ?_
   exact im_
 ·have : i = l.length := by omega
  subst this
  rw [List.take_length]
  refine e_condF (rt_ ((sa, sc)) ?_)
  exact im_
theorem requal {W : World} {a b : List UInt8} (ha : a.length <= 4611686018427387904) (hb : b.length <= 4611686018427387904) : Cn p_ 14 [txt a, txt b] W [] (fun _ : Unit => .bool (eqlF a b)) (fun _ => []) := by
 (refine S.ref01_Equal_s.cn fun F => ?_; unfold S.ref01_Equal; simp only [ca_, na_])
 refine e_call (rlower (l := a) ha) .nil fun _ => ?_
 refine nr_ ?_
 refine e_call (rlower (l := b) hb) .nil fun _ => ?_
 refine nr_ ?_
 refine o_ v_streq ?_
 have e : decide (lowF a = lowF b) = eqlF a b := by
  unfold eqlF
  by_cases h : lowF a = lowF b
  ·have hl : a.length = b.length := by have := congrArg List.length h; simpa [lowF] using this
   simp [h, hl]
  ·simp [h]
 rw [e]
 refine rt_ () ?_
 exact im_
theorem rvalues {W : World} {l : List Fd} {n : List UInt8} {a : Option Addr} {c : Nat} {A : HP} (hA : RdF W A a l) (hl : hOK l) (hn : n.length <= 4194304) : Cn p_ 5 [.slice a l.length c, txt n] W [A] (fun r : Option Addr × Nat => .slice r.1 (valsF l n).length r.2)
  (fun r => [A, Sl 1 9 r.1 r.2 (valsF l n).length ((valsF l n).map txt)]) := by
 (refine S.ref11_Values_s.cn fun F => ?_; unfold S.ref11_Values; simp only [ca_, na_])
 refine e_loop2 (fun m x y => [ex fun st : (Option Addr × Nat) × Nat => all [pu (m + st.2 = l.length /\ x = .slice st.1.1 (valsF (l.take st.2) n).length st.1.2 /\ y = .int .i64 (st.2 : Int)), Sl 1 9 st.1.1 st.1.2 (valsF (l.take st.2) n).length ((valsF (l.take st.2) n).map txt), A]] ++ F) l.length ?_ ?_
 ·refine Imp.ex ((none, 0), 0) (.all ?_)
  refine nr_ ?_
  refine .pu ⟨rfl, rfl, rfl⟩ ?_
  exact imp_nil .refl
 intro m ds x y
 refine nr_ ?_
 refine e_ex Pick.here fun st => e_all Pick.here ?_
 obtain ⟨⟨sa, sc⟩, i⟩ := st
 refine nr_ ?_
 refine e_pu Pick.here fun hi => ?_
 (try dsimp only at hi)
 obtain ⟨hmi, rfl, rfl⟩ := hi
 refine o_ v_len (e_ask v_lss .nil (fun h => ?_) (fun h => ?_))
 ·have hil : i < l.length := by omega
  have hb := hl.2 _ (List.getElem_mem hil)
  have hat := fd_at hil
  have hv := vals_take (n := n) hil
  have hvl := vals_len (l.take i) n
  have hl1 := hl.1
  rw [List.length_take] at hvl
  refine e_condT ?_
  obtain ⟨g, o, rfl⟩ := rdF_at hA (Nat.zero_lt_of_lt hil)
  generalize l[i] = x at hb hv hat ⊢
  have l0 : RunV p_ W [A] (sLoad 9 (.pointer (some ⟨g, o + i * 2 + 0, none⟩))) (txt x.1) := v_ldRd2 hA hat.1
  have l1 : RunV p_ W [A] (sLoad 9 (.pointer (some ⟨g, o + i * 2 + 1, none⟩))) (txt x.2) := v_ldRd2 hA hat.2
  refine o_ (v_ia i rfl hil) ?_
  refine o_ v_fa (p_op l0 ?_)
  refine e_call (requal (a := x.1) (b := n) (by omega) (by omega)) .nil fun _ => ?_
  refine nr_ ?_
  cases he : eqlF x.1 n with
  | true =>
   rw [he, if_pos rfl] at hv
   refine e_condT (o_ (v_ia i rfl hil) ?_)
   refine o_ v_fa (p_op l1 ?_)
   refine e_bsl1 fun gb => ?_
   refine e_app (m := 1) (news := [txt x.2]) (by repeat constructor) (src_pt (e' := 9) (by kernel_rfl) .here (by rfl) (by intro u hu; rw [List.mem_singleton.1 hu]; rfl)) (by omega) (by omega) fun a' c' => ?_
   refine ad_ ?_
   refine e_next2 (m - 1) (by omega) (.ex ((a', c'), i + 1) (.all ?_))
   refine nr_ ?_
   (try dsimp only)
   rw [hv, List.length_append, List.map_append]
   refine .pu ⟨by omega, rfl, rfl⟩ ?_
   refine .pick .here ?_
   exact im_
  | false =>
   rw [he, if_neg (by decide), List.append_nil] at hv
   refine e_condF (ad_ ?_)
   refine e_next2 (m - 1) (by omega) (.ex ((sa, sc), i + 1) (.all ?_))
   refine nr_ ?_
   (try dsimp only)
   rw [hv]
   refine .pu ⟨by omega, rfl, rfl⟩ ?_
   exact im_
 ·have : i = l.length := by omega
  subst this
  rw [List.take_length]
  refine e_condF (rt_ ((sa, sc)) ?_)
  exact im_
theorem first {W : World} {l : List Fd} {n : List UInt8} {a : Option Addr} {c : Nat} {A : HP} (hA : RdF W A a l) (hl : hOK l) (hn : n.length <= 4194304) : Cn p_ 9 [.slice a l.length c, txt n] W [A] (fun _ : Unit => .tuple #[txt (firstF l n).1, .bool (firstF l n).2])
  (fun r => [A]) := by
 (refine S.head_First_s.cn fun F => ?_; unfold S.head_First; simp only [ca_, na_])
 refine e_call (values hA hl hn) (.cons .here .nil) fun r => ?_
 obtain ⟨sa, sc⟩ := r
 refine nr_ ?_
 unfold firstF
 generalize valsF l n = V
 refine o_ v_len (e_loop1 (fun m y => pu (y = .int .i64 0) :: A :: Sl 1 9 sa sc V.length (V.map txt) :: F) 0 ?_ ?_)
 ·exact .pu rfl .refl
 intro m ds y
 refine e_pu .here fun hy => ?_
 subst hy
 cases V with
 | nil =>
  refine o_ (v_lss (a := 0) (b := 0)) ?_
  refine e_condF (rt_ () ?_)
  exact im_
 | cons v r =>
  refine o_ v_lss ?_
  rw [dT_ (by simp)]
  refine e_condT (e_slsome (a := sa) (.there .here) (by simp) fun g hg => ?_)
  subst hg
  have ld : RunV p_ W [Sl 1 9 (some ⟨g, 0, none⟩) sc (v :: r).length ((v :: r).map txt)] (sLoad 9 (.pointer (some ⟨g, 0 + 0, none⟩))) (txt v) := v_ldSl rfl
  refine o_ (v_ia1 0 rfl (by simp)) ?_
  refine p_op ld ?_
  refine rt_ () ?_
  exact im_
section
variable {P : Program} {W : World} {L L' : List HP} {Kp : PK} {k : Value -> WP}
theorem e_own0 {s : Nat} {e : TypeId} {g : Nat} {cs : List Value} {n : Nat} {S : WP} (p : Pick L (pt g (.cells cs.toArray e (0, 0))) L') (hn : cs.length = n * s) (hm : n <= maxLen) (h : Ent W (Sl s e (some ⟨g, 0, none⟩) n 0 [] :: L') S) : Ent W L S :=
 e_conv p (fun h hh => ⟨by simp, Nat.zero_le _, hm, .inr ⟨g, cs, rfl, by simpa using hn, hh⟩⟩) h
theorem v_copy0 {dT sT ty e : TypeId} {b : Nat} {d a : Option Addr} {dLen dCap sLen sCap : Nat} [ht : SlT P dT e 1 b] (hn : Nat.min sLen dLen = 0) : RunV P W [] (sCopy #[dT, sT] ty [.slice d dLen dCap, .slice a sLen sCap]) (.int .i64 0) := fun w _ => by
 obtain ⟨i, z, hi, hz, hsz, hb, hzs⟩ := ht.info
 have hr := run_copy_none (P := P) w dT sT ty e d a dLen dCap sLen sCap ht.ut (by rw [hi]; simp [hsz]) hn
 simp [sCopy, hr, goInt]
theorem src_str {tx : TypeId} {l : List UInt8} (hk : P.underlying tx = some .string) : ∀ w, sat W L w -> Src P 1 tx (txt l) l.length (l.map B) w := fun w _ => Src.ofString w hk ⟨l.toArray⟩
end
theorem e_mnz {W : World} {L : List HP} {Kp : PK} {k : Value -> WP} {n : Nat} (hn : n <= 281474976710656) (h : ∀ g (cs : List Value), n <= cs.length -> cs.length <= maxLen -> Ent W (pt g (.cells cs.toArray 5 (0, 0)) :: L) (k (.slice (some ⟨g, 0, none⟩) n cs.length))) :
  Ent W L (opN p_ (sCall (fn 45) [.int .i64 (n : Int)]) Kp k) := fun w hw => by
 obtain ⟨cs, hrun, hle, hmx⟩ := Lib.run_makeNoZero (P := p_) w #[3] 64 5 Tryd.underlying64 n hn
 have hr : (callFunc 45 #[.int .i64 (n : Int)]).run p_ w = .ok (.value (.slice (some ⟨w.heap.size, 0, none⟩) n cs.size)) (w.drew.drew.alloc (.cells cs 5)) := by
  rw [run_callFunc_extern Tryd.func45 (by kernel_rfl) (by kernel_rfl) (by kernel_rfl) (e := Extern.BytealgMakeNoZero.makeNoZero #[3] #[64]) (by kernel_rfl), hrun]
  rfl
 refine ⟨?_⟩
 rw [show (sCall (fn 45) [.int .i64 (n : Int)]).run p_ w = .ok (.value (.slice (some ⟨w.heap.size, 0, none⟩) n cs.size)) (w.drew.drew.alloc (.cells cs 5)) by simp [sCall, Deferred.ofValue, invoke, fn, hr]]
 have := h w.heap.size cs.toList (by simpa using hle) (by simpa using hmx (by unfold maxLen; omega))
 simp only [Array.toArray_toList, Array.length_toList] at this
 exact this _ ((hw.drew.drew).alloc (.cells cs 5))
theorem grow0 {W : World} {b n : Nat} {p : Value} (hn : n <= 4194304) : Cn p_ 38 [.pointer (some ⟨b, 0, none⟩), .int .i64 (n : Int)] W [pt b (.cells #[p, .slice none 0 0] 66 (0, 0))] (fun _ : Nat × Nat => .tuple #[])
  (fun r => [pt b (.cells #[p, .slice (some ⟨r.1, 0, none⟩) 0 r.2] 66 (0, 0)), Sl 1 5 (some ⟨r.1, 0, none⟩) r.2 0 []]) := by
 (refine S.strings_Builder_grow_s.cn fun F => ?_; unfold S.strings_Builder_grow; simp only [ca_, na_])
 refine e_drS (t_ v_nil (t_ v_fa0 (e_stS (v_ldN (.there .here)) (.pick .here .nil) ?_)))
 refine t_ v_capG ?_
 refine t_ (v_mul (by decide) (by decide)) ?_
 refine t_ (v_add (by omega) (by omega)) ?_
 refine e_stD v_nil .nil ?_
 refine e_stD v_fa0 .nil ?_
 refine e_stD (v_ldN (.there .here)) (.pick .here .nil) ?_
 refine e_stD v_len .nil ?_
 rw [show (2 * ((0 : Nat) : Int) + (n : Int)) = ((n : Nat) : Int) by omega]
 refine e_mnz (by omega) fun g cs h1 h2 => ?_
 refine e_obl im_ ?_
 refine e_obl im_ ?_
 refine e_obl im_ ?_
 refine e_obl im_ ?_
 refine t_ (v_slh0 0 rfl (Nat.zero_le _)) ?_
 refine o_ v_nil (o_ v_fa0 (p_op (v_ldN (.there .here)) ?_))
 refine o_ (v_copy0 rfl) ?_
 refine o_ v_nil (o_ v_fa0 (e_stN (.there .here) (.there .here) ?_))
 refine e_own0 (s := 1) (n := cs.length) (.there .here) (by omega) h2 ?_
 refine rt_ ((g, cs.length)) ?_
 refine .pick (by repeat constructor) ?_
 exact im_
theorem grow1 {W : World} {b n : Nat} (hn : 0 < n) (hm : n <= 4194304) : Cn p_ 24 [.pointer (some ⟨b, 0, none⟩), .int .i64 (n : Int)] W [pt b (.cells #[.pointer none, .slice none 0 0] 66 (0, 0))] (fun _ : Nat × Nat => .tuple #[])
  (fun r => [bd b (some ⟨r.1, 0, none⟩, r.2) []]) := by
 (refine S.strings_Builder_Grow_s.cn fun F => ?_; unfold S.strings_Builder_Grow; simp only [ca_, na_])
 refine e_call check0 (.cons .here .nil) fun _ => ?_
 refine nr_ ?_
 refine e_cut0d ?_
 refine o_ v_lss ?_
 rw [dF_ (by omega)]
 refine e_condF (e_allds fun ds => ?_)
 refine e_drS (t_ v_nil (t_ v_fa0 (e_stS (v_ldN (.there .here)) (.pick .here .nil) ?_)))
 refine t_ v_capG ?_
 refine t_ v_nil (t_ v_fa0 (e_stS (v_ldN (.there .here)) (.pick .here .nil) ?_))
 refine t_ v_len (t_ (v_sub (by decide) (by decide)) ?_)
 refine t_ v_lss ?_
 rw [dT_ (by omega)]
 refine e_condT (e_call (grow0 hm) (.cons .here .nil) fun r => ?_)
 refine nr_ ?_
 refine e_retT r ?_
 unfold bd
 refine .all ?_
 refine nr_ ?_
 exact .refl
theorem writeStr {W : World} {b : Nat} {r : Option Addr × Nat} {l m : List UInt8} (hl : l.length + m.length <= 16777216) : Cn p_ 25 [.pointer (some ⟨b, 0, none⟩), txt m] W [bd b r l] (fun _ : Option Addr × Nat => .tuple #[.int .i64 (m.length : Int), .nilIface]) (fun r' => [bd b r' (l ++ m)]) := by
 (refine S.strings_Builder_WriteString_s.cn fun F => ?_; unfold S.strings_Builder_WriteString; simp only [ca_, na_])
 unfold bd
 refine e_all .here ?_
 refine nr_ ?_
 refine e_call check1 (.cons .here .nil) fun _ => ?_
 refine nr_ ?_
 refine o_ v_nil (o_ v_fa0 (e_opN (v_ldN (.there .here)) (.pick .here .nil) ?_))
 refine e_app (m := m.length) (news := m.map B) (by repeat constructor) (src_str (by kernel_rfl)) (by omega) (by omega) fun a' c' => ?_
 refine o_ v_nil (o_ v_fa0 (e_stN (.there .here) (.there .here) ?_))
 refine o_ v_lent (rt_ ((a', c')) ?_)
 refine .all ?_
 refine nr_ ?_
 rw [List.length_append, List.map_append]
 refine .pick (by repeat constructor) ?_
 exact im_
end Go.Proofs.YthomhkpedghhgaaDoor.FD
namespace Go.Proofs.YthomhkpedghhgaaDoor.FD
open Go Go.Proofs Go.RowKit Sh Sl T
def joinF (sep : List UInt8) : List (List UInt8) -> List UInt8
 | [] => []
 | v :: r => v ++ r.flatMap (fun w => sep ++ w)
def sumL : List (List UInt8) -> Nat
 | [] => 0
 | v :: r => v.length + sumL r
theorem sum_app (a b : List (List UInt8)) : sumL (a ++ b) = sumL a + sumL b := by
 induction a with
 | nil => simp [sumL]
 | cons v r ih => simp [sumL, ih]; omega
theorem flat_sum (sep : List UInt8) (r : List (List UInt8)) : (r.flatMap (fun w => sep ++ w)).length = sumL r + sep.length * r.length := by
 induction r with
 | nil => simp [sumL]
 | cons v r ih =>
  rw [List.flatMap_cons, List.length_append, ih, sumL, List.length_append, List.length_cons, Nat.mul_add, Nat.mul_one]
  omega
theorem sum_take {V : List (List UInt8)} {i : Nat} (h : i < V.length) : sumL (V.take (i + 1)) = sumL (V.take i) + V[i].length := by
 rw [List.take_succ_eq_append_getElem h, sum_app]
 simp [sumL]
theorem sum_take_le (V : List (List UInt8)) (i : Nat) : sumL (V.take i) <= sumL V := by
 have := sum_app (V.take i) (V.drop i)
 rw [List.take_append_drop] at this; omega
theorem quo_big {k : Nat} (h1 : 1 <= k) (h2 : k <= 4194304) : 16 < 9223372036854775807 / k := by
 have := Nat.div_le_div_left (a := 9223372036854775807) h2 (by omega)
 have e : 9223372036854775807 / 4194304 = 2199023255551 := rfl
 omega
theorem join {W : World} {sep : List UInt8} {V : List (List UInt8)} {a : Option Addr} {c : Nat} (hs : 0 < sep.length) (hs2 : sep.length <= 16) (hV : (joinF sep V).length <= 4194304) (hn : V.length <= 4194304) :
  Cn p_ 12 [.slice a V.length c, txt sep] W [Sl 1 9 a c V.length (V.map txt)] (fun _ : Unit => txt (joinF sep V)) (fun _ => []) := by
 (refine S.strings_Join_s.cn fun F => ?_; unfold S.strings_Join; simp only [ca_, na_])
 match V, hV, hn with
 | [], _, _ =>
  refine o_ v_len (o_ v_eql ?_)
  rw [dT_ (by rfl)]
  refine e_condT (rt_ () ?_)
  exact im_
 | [v], _, _ =>
  refine o_ v_len (o_ v_eql ?_)
  rw [dF_ (by simp)]
  refine e_condF (o_ v_eql ?_)
  rw [dT_ (by rfl)]
  refine e_condT (e_slsome (a := a) .here (by simp) fun g hg => ?_)
  subst hg
  have ld : RunV p_ W [Sl 1 9 (some ⟨g, 0, none⟩) c [v].length ([v].map txt)] (sLoad 9 (.pointer (some ⟨g, 0 + 0, none⟩))) (txt v) := v_ldSl rfl
  refine o_ (v_ia1 0 rfl (by simp)) ?_
  refine p_op ld ?_
  refine e_ret () (by simp [joinF]) ?_
  exact im_
 | v :: u :: r, hV, hn =>
  have hjl : (joinF sep (v :: u :: r)).length = sumL (v :: u :: r) + sep.length * ((v :: u :: r).length - 1) := by
   unfold joinF
   rw [List.length_append, flat_sum]
   simp only [sumL, List.length_cons, Nat.add_sub_cancel]
   omega
  obtain ⟨V, hVe⟩ : ∃ V, V = v :: u :: r := ⟨_, rfl⟩
  have h2 : 2 <= V.length := by rw [hVe]; simp
  have hv0 : V[0]? = some v := by rw [hVe]; rfl
  have hj0 : joinF sep V = v ++ (V.drop 1).flatMap (fun w => sep ++ w) := by rw [hVe]; rfl
  rw [<- hVe] at hV hn hjl ⊢
  clear hVe
  have hq := quo_big (k := V.length - 1) (by omega) (by omega)
  refine o_ v_len (o_ v_eql ?_)
  rw [dF_ (by omega)]
  refine e_condF (o_ v_eql ?_)
  rw [dF_ (by omega)]
  refine e_condF (e_slsome (a := a) .here (by omega) fun g hg => ?_)
  subst hg
  refine e_slfacts .here fun f1 f2 f3 f4 => ?_
  have ld : ∀ i (h : i < V.length), RunV p_ W [Sl 1 9 (some ⟨g, 0, none⟩) c V.length (V.map txt)] (sLoad 9 (.pointer (some ⟨g, i, none⟩))) (txt V[i]) := fun i h => v_ldSl (by rw [List.getElem?_map, List.getElem?_eq_getElem h]; rfl)
  have hml : sep.length * (V.length - 1) <= 4194304 := by omega
  refine e_cut1 (fun z => pu (z = .int .i64 ((sep.length * (V.length - 1) : Nat) : Int)) :: Sl 1 9 (some ⟨g, 0, none⟩) c V.length (V.map txt) :: F) ?_ ?_
  rotate_left
  ·refine o_ v_lent (o_ v_gtr ?_)
   rw [dT_ (by omega)]
   refine e_condT (e_cut0d ?_)
   refine o_ v_lent (o_ v_len (sb_ ?_))
   rw [show ((V.length : Nat) : Int) - 1 = ((V.length - 1 : Nat) : Int) by omega]
   refine o_ (v_quo (by omega) (by omega) (by omega)) ?_
   refine o_ v_geq ?_
   rw [dF_ (by
    have e : (9223372036854775807 : Int) / ((V.length - 1 : Nat) : Int) = ((9223372036854775807 / (V.length - 1) : Nat) : Int) := rfl
    rw [e]
    omega)]
   refine e_condF (e_allds fun ds => ?_)
   refine o_ v_lent (o_ v_len (sb_ ?_))
   rw [show ((V.length : Nat) : Int) - 1 = ((V.length - 1 : Nat) : Int) by omega]
   have hm : ((sep.length : Nat) : Int) * ((V.length - 1 : Nat) : Int) = ((sep.length * (V.length - 1) : Nat) : Int) := by push_cast; rfl
   refine o_ (v_mul (by rw [hm]; omega) (by rw [hm]; omega)) ?_
   rw [hm]
   refine ad_ ?_
   refine e_sat (.pu (by congr 1; push_cast; omega) ?_)
   exact .refl
  ·intro ds z
   refine e_pu .here fun hz => ?_
   subst hz
   refine o_ v_len ?_
   have hsum : sumL V + sep.length * (V.length - 1) <= 4194304 := by omega
   generalize hM : sep.length * (V.length - 1) = M at hml hsum hjl ⊢
   have hMp : 0 < M := by
    rw [<- hM]
    exact Nat.mul_pos hs (by omega)
   refine e_loop2 (fun m x y => (ex fun i : Nat => pu (m + i = V.length /\ x = .int .i64 ((M + sumL (V.take i) : Nat) : Int) /\ y = .int .i64 (i : Int))) :: Sl 1 9 (some ⟨g, 0, none⟩) c V.length (V.map txt) :: F) V.length ?_ ?_
   ·exact .ex 0 (.pu ⟨rfl, rfl, rfl⟩ .refl)
   intro m ds2 x y
   refine e_ex .here fun i => e_pu .here fun hi => ?_
   obtain ⟨hmi, rfl, rfl⟩ := hi
   have hst := sum_take_le V i
   refine e_ask v_lss .nil (fun h => ?_) (fun h => ?_)
   ·have hil : i < V.length := by omega
    have hsu := sum_take hil
    have hst2 := sum_take_le V (i + 1)
    refine e_condT (o_ (v_ia1 i rfl hil) ?_)
    rw [Nat.zero_add]
    refine e_opN (ld i hil) (.pick .here .nil) ?_
    refine e_cut0d ?_
    refine o_ v_lent (sb_ ?_)
    refine o_ v_gtr ?_
    rw [dF_ (by omega)]
    refine e_condF (e_allds fun ds3 => ?_)
    refine o_ v_lent (ad_ ?_)
    refine ad_ ?_
    exact e_next2 (m - 1) (by omega) (.ex (i + 1) (.pu ⟨by omega, by rw [hsu]; congr 1; omega, rfl⟩ .refl))
   ·have hie : i = V.length := by omega
    subst hie
    rw [List.take_length]
    refine e_condF (e_newA fun b => ?_)
    refine e_call (grow1 (n := M + sumL V) (by omega) (by omega)) (.cons .here .nil) fun r => ?_
    refine nr_ ?_
    obtain ⟨v', hv'⟩ : ∃ v', v' = v := ⟨_, rfl⟩
    have hV0 : V[0]'(by omega) = v := by
     rw [List.getElem?_eq_getElem (by omega)] at hv0
     exact Option.some.inj hv0
    have hvl : v.length <= 4194304 := by
     rw [hj0, List.length_append] at hV
     omega
    refine o_ (v_ia1 0 rfl (by omega)) ?_
    have ld0 := ld 0 (by omega)
    rw [hV0] at ld0
    refine p_op ld0 ?_
    refine e_call (writeStr (l := []) (m := v) (by simp; omega)) (.cons .here .nil) fun r => ?_
    refine nr_ ?_
    refine o_ (v_sll 1 rfl (by omega)) ?_
    rw [if_neg (by omega), show (some (⟨g, 0, none⟩ : Addr)).map (·.add (1 * 1)) = some ⟨g, 1, none⟩ by simp [addr_add]]
    refine o_ v_len (e_loop1 (fun m y => (ex fun st : Nat × Option Addr × Nat => all [pu (m + st.1 = V.length - 1 /\ y = .int .i64 (st.1 : Int)), bd b st.2 (v ++ ((V.drop 1).take st.1).flatMap (fun w => sep ++ w))]) :: Sl 1 9 (some ⟨g, 0, none⟩) c V.length (V.map txt) :: F) (V.length - 1) ?_ ?_)
    ·refine .ex (0, r) (.all ?_)
     refine nr_ ?_
     refine .pu ⟨rfl, rfl⟩ ?_
     simp only [List.take_zero, List.flatMap_nil, List.append_nil]
     exact .refl
    intro m ds4 y
    refine e_ex .here fun st => e_all .here ?_
    obtain ⟨i, r⟩ := st
    refine nr_ ?_
    refine e_pu .here fun hi => ?_
    (try dsimp only at hi)
    obtain ⟨hmi, rfl⟩ := hi
    have hfl := flat_sum sep ((V.drop 1).take i)
    have hle : (v ++ ((V.drop 1).take i).flatMap (fun w => sep ++ w)).length <= 4194304 := by
     have e : (V.drop 1).flatMap (fun w => sep ++ w) = ((V.drop 1).take i).flatMap (fun w => sep ++ w) ++ ((V.drop 1).drop i).flatMap (fun w => sep ++ w) := by
      rw [<- List.flatMap_append, List.take_append_drop]
     rw [hj0, e, List.length_append, List.length_append] at hV
     rw [List.length_append]
     omega
    refine e_ask v_lss .nil (fun h => ?_) (fun h => ?_)
    ·have hil : i < V.length - 1 := by omega
     have hwl : V[1 + i]'(by omega) ∈ V := List.getElem_mem _
     have htk : (V.drop 1).take (i + 1) = (V.drop 1).take i ++ [V[1 + i]'(by omega)] := by
      rw [List.take_succ_eq_append_getElem (by rw [List.length_drop]; omega), List.getElem_drop]
     have hle2 : (v ++ ((V.drop 1).take (i + 1)).flatMap (fun w => sep ++ w)).length <= 4194304 := by
      have e : (V.drop 1).flatMap (fun w => sep ++ w) = ((V.drop 1).take (i + 1)).flatMap (fun w => sep ++ w) ++ ((V.drop 1).drop (i + 1)).flatMap (fun w => sep ++ w) := by
       rw [<- List.flatMap_append, List.take_append_drop]
      rw [hj0, e, List.length_append, List.length_append] at hV
      rw [List.length_append]
      omega
     have hstep : v ++ ((V.drop 1).take (i + 1)).flatMap (fun w => sep ++ w) = ((v ++ ((V.drop 1).take i).flatMap (fun w => sep ++ w)) ++ sep) ++ V[1 + i]'(by omega) := by
      rw [htk, List.flatMap_append]
      simp
     rw [hstep, List.length_append, List.length_append] at hle2
     refine e_condT (o_ (v_ia1 i rfl hil) ?_)
     refine p_op (ld (1 + i) (by omega)) ?_
     refine e_call (writeStr (by omega)) (.cons .here .nil) fun r1 => ?_
     refine nr_ ?_
     refine e_call (writeStr (by rw [List.length_append]; omega)) (.cons .here .nil) fun r2 => ?_
     refine nr_ ?_
     refine ad_ ?_
     refine e_next1 (m - 1) (by omega) (.ex (i + 1, r2) (.all ?_))
     refine nr_ ?_
     refine .pu ⟨by (try dsimp only); omega, rfl⟩ ?_
     (try dsimp only)
     rw [hstep]
     exact .refl
    ·have hie : i = V.length - 1 := by omega
     have ht : (V.drop 1).take i = V.drop 1 := List.take_of_length_le (by rw [List.length_drop]; omega)
     rw [ht, <- hj0]
     refine e_condF ?_
     refine e_call (bdString (by
      intro e
      rw [e] at hjl
      simp at hjl
      omega)) (.cons .here .nil) fun _ => ?_
     refine nr_ ?_
     refine rt_ () ?_
     exact im_
def noneF (names : List (List UInt8)) (f : Fd) : Bool := !names.any (fun n => eqlF f.1 n)
def withF (l : List Fd) (names : List (List UInt8)) : List Fd := l.filter (noneF names)
theorem with_take {l : List Fd} {N : List (List UInt8)} {i : Nat} (h : i < l.length) : withF (l.take (i + 1)) N = withF (l.take i) N ++ (if noneF N l[i] then [l[i]] else []) := by
 unfold withF
 rw [List.take_succ_eq_append_getElem h, List.filter_append]
 congr 1
 cases he : noneF N l[i] <;> simp [he]
theorem with_len (l : List Fd) (N : List (List UInt8)) : (withF l N).length <= l.length := List.length_filter_le _ _
end Go.Proofs.YthomhkpedghhgaaDoor.FD
