/- What the loaded program's types are, one fact a line; printed by a program of mine. No conditions. (6 texts made one; each says below what it is.) -/
import Derived.Test.YthomhkpedghhgaaGreatDoorChecked
import Derived.Test.YthomhkpedghhgaaGreatDoorK1
import Derived.KernelRfl
import Derived.ChangeArms
import Derived.Test.YthomhkpedghhgaaGreatDoorRows
set_option linter.unusedVariables false
set_option linter.unusedSimpArgs false
set_option linter.unusedSectionVars false
namespace Go.Proofs.YthomhkpedghhgaaGreatDoor.T
open Go Go.Proofs Sh Sl
theorem fld {P : Program} {t : TypeId} {fs : Array Field} {f ft o n : Nat} (hu : ∀ w, (underlying t).run P w = .ok (.struct fs) w) (hf : (fs[f]?).map (fun x => (x.type, x.offset)) = some (ft, o)) (hs : ∀ w, (sizeOf ft).run P w = .ok (n + 1) w) : FldT P t f o :=
 ⟨fun g b w => by
  cases h : fs[f]? with
  | none => rw [h] at hf; cases hf
  | some fl =>
   rw [h] at hf
   simp only [Option.map_some, Option.some.injEq, Prod.mk.injEq] at hf
   obtain ⟨rfl, rfl⟩ := hf
   simp only [Instr.fieldAt, Sem.run_bind, hu, Result.andThen_ok, h, Instr.sureAddr, fieldPlace, hs, Sem.run_pure]
   by_cases h0 : fl.offset = 0 <;> simp [Addr.add, h0]⟩
theorem slt {P:Program}{t e:TypeId}{i:TypeInfo}{z:Value}{s b:Nat}(hu:P.underlying t=some (.slice e))(hi:P.info? e=some i)(hz:i.zero=some z)(hs:i.size=s)(hb:i.bytes=b)(hzs:z.cells.size=s):SlT P t e s b:=⟨hu,i,z,hi,hz,hs,hb,hzs⟩
instance int_2:IntT p_ 2 .i64:=⟨Tryz.runUnderlying2⟩
instance one_3:OneT p_ 3:=⟨Tryz.isAgg3,Tryz.sizeOf3⟩
instance zero_3:ZeroT p_ 3 (.int .i64 0):=⟨Tryz.zeroValue3⟩
instance int_3:IntT p_ 3 .i64:=⟨Tryz.runUnderlying3⟩
instance one_4:OneT p_ 4:=⟨Tryz.isAgg4,Tryz.sizeOf4⟩
instance zero_4:ZeroT p_ 4 (.bool false):=⟨Tryz.zeroValue4⟩
instance one_5:OneT p_ 5:=⟨Tryz.isAgg5,Tryz.sizeOf5⟩
instance zero_5:ZeroT p_ 5 (.int .u8 0):=⟨Tryz.zeroValue5⟩
instance int_5:IntT p_ 5 .u8:=⟨Tryz.runUnderlying5⟩
instance one_9:OneT p_ 9:=⟨Tryz.isAgg9,Tryz.sizeOf9⟩
instance str_9:StrT p_ 9:=⟨Tryz.underlying9⟩
instance sl_22:SlT p_ 22 36 11 160:=slt (z:=(.agg #[(.int .i64 0),(.string ⟨#[]⟩),(.string ⟨#[]⟩),(.string ⟨#[]⟩),(.int .i64 0),(.slice none 0 0),(.int .i64 0),(.slice none 0 0),(.slice none 0 0),(.int .i64 0),(.int .i64 0)])) Tryz.underlying22 (i:=Tryz.t36) (by kernel_rfl) (by kernel_rfl) (by kernel_rfl) (by kernel_rfl) (by kernel_rfl)
instance ptr_23:PtrT p_ 23:=⟨by kernel_rfl⟩
instance one_24:OneT p_ 24:=⟨Tryz.isAgg24,Tryz.sizeOf24⟩
instance zero_24:ZeroT p_ 24 (.int .i64 0):=⟨Tryz.zeroValue24⟩
instance int_24:IntT p_ 24 .i64:=⟨Tryz.runUnderlying24⟩
instance one_29:OneT p_ 29:=⟨Tryz.isAgg29,Tryz.sizeOf29⟩
instance sl_29:SlT p_ 29 68 2 32:=slt (z:=(.agg #[(.string ⟨#[]⟩),(.string ⟨#[]⟩)])) Tryz.underlying29 (i:=Tryz.t68) (by kernel_rfl) (by kernel_rfl) (by kernel_rfl) (by kernel_rfl) (by kernel_rfl)
instance zero_31:ZeroT p_ 31 (.agg #[(.string ⟨#[]⟩),(.string ⟨#[]⟩),(.int .i64 0),(.slice none 0 0)]):=⟨Tryz.zeroValue31⟩
instance agg_31:AggT p_ 31 4:=⟨Tryz.isAgg31,Tryz.sizeOf31⟩
instance fld_31_0:FldT p_ 31 0 0:=fld Tryz.runUnderlying31 (ft:=9) (by kernel_rfl) Tryz.sizeOf9
instance fld_31_3:FldT p_ 31 3 3:=fld Tryz.runUnderlying31 (ft:=29) (by kernel_rfl) Tryz.sizeOf29
instance one_32:OneT p_ 32:=⟨Tryz.isAgg32,Tryz.sizeOf32⟩
instance bytes_32:BytesT p_ 32:=⟨_,Tryz.underlying32,Tryz.underlying5⟩
instance sl_32:SlT p_ 32 5 1 1:=slt (z:=(.int .u8 0)) Tryz.underlying32 (i:=Tryz.t5) (by kernel_rfl) (by kernel_rfl) (by kernel_rfl) (by kernel_rfl) (by kernel_rfl)
instance zero_34:ZeroT p_ 34 (.agg #[(.int .i64 0),(.slice none 0 0),(.slice none 0 0)]):=⟨Tryz.zeroValue34⟩
instance agg_34:AggT p_ 34 3:=⟨Tryz.isAgg34,Tryz.sizeOf34⟩
instance fld_34_0:FldT p_ 34 0 0:=fld Tryz.runUnderlying34 (ft:=3) (by kernel_rfl) Tryz.sizeOf3
instance fld_34_1:FldT p_ 34 1 1:=fld Tryz.runUnderlying34 (ft:=29) (by kernel_rfl) Tryz.sizeOf29
instance fld_34_2:FldT p_ 34 2 2:=fld Tryz.runUnderlying34 (ft:=32) (by kernel_rfl) Tryz.sizeOf32
instance zero_36:ZeroT p_ 36 (.agg #[(.int .i64 0),(.string ⟨#[]⟩),(.string ⟨#[]⟩),(.string ⟨#[]⟩),(.int .i64 0),(.slice none 0 0),(.int .i64 0),(.slice none 0 0),(.slice none 0 0),(.int .i64 0),(.int .i64 0)]):=⟨Tryz.zeroValue36⟩
instance agg_36:AggT p_ 36 11:=⟨Tryz.isAgg36,Tryz.sizeOf36⟩
instance fld_36_0:FldT p_ 36 0 0:=fld Tryz.runUnderlying36 (ft:=3) (by kernel_rfl) Tryz.sizeOf3
instance fld_36_1:FldT p_ 36 1 1:=fld Tryz.runUnderlying36 (ft:=9) (by kernel_rfl) Tryz.sizeOf9
instance fld_36_2:FldT p_ 36 2 2:=fld Tryz.runUnderlying36 (ft:=31) (by kernel_rfl) Tryz.sizeOf31
instance fld_36_3:FldT p_ 36 3 6:=fld Tryz.runUnderlying36 (ft:=34) (by kernel_rfl) Tryz.sizeOf34
instance fld_36_4:FldT p_ 36 4 9:=fld Tryz.runUnderlying36 (ft:=3) (by kernel_rfl) Tryz.sizeOf3
instance fld_36_5:FldT p_ 36 5 10:=fld Tryz.runUnderlying36 (ft:=3) (by kernel_rfl) Tryz.sizeOf3
instance one_46:OneT p_ 46:=⟨Tryz.isAgg46,Tryz.sizeOf46⟩
instance zero_46:ZeroT p_ 46 (.slice none 0 0):=⟨Tryz.zeroValue46⟩
instance sl_46:SlT p_ 46 9 1 16:=slt (z:=(.string ⟨#[]⟩)) Tryz.underlying46 (i:=Tryz.t9) (by kernel_rfl) (by kernel_rfl) (by kernel_rfl) (by kernel_rfl) (by kernel_rfl)
instance one_57:OneT p_ 57:=⟨Tryz.isAgg57,Tryz.sizeOf57⟩
instance zero_57:ZeroT p_ 57 (.slice none 0 0):=⟨Tryz.zeroValue57⟩
instance sl_57:SlT p_ 57 65 1 8:=slt (z:=(.pointer none)) Tryz.underlying57 (i:=Tryz.t65) (by kernel_rfl) (by kernel_rfl) (by kernel_rfl) (by kernel_rfl) (by kernel_rfl)
instance fld_59_0:FldT p_ 59 0 0:=fld Tryz.runUnderlying59 (ft:=57) (by kernel_rfl) Tryz.sizeOf57
instance one_60:OneT p_ 60:=⟨Tryz.isAgg60,Tryz.sizeOf60⟩
instance map_60:MapT p_ 60 9 57:=⟨Tryz.underlying60⟩
instance fld_62_0:FldT p_ 62 0 0:=fld Tryz.runUnderlying62 (ft:=59) (by kernel_rfl) Tryz.sizeOf59
instance fld_62_1:FldT p_ 62 1 1:=fld Tryz.runUnderlying62 (ft:=60) (by kernel_rfl) Tryz.sizeOf60
instance fld_62_2:FldT p_ 62 2 2:=fld Tryz.runUnderlying62 (ft:=3) (by kernel_rfl) Tryz.sizeOf3
instance fld_62_3:FldT p_ 62 3 3:=fld Tryz.runUnderlying62 (ft:=3) (by kernel_rfl) Tryz.sizeOf3
instance one_65:OneT p_ 65:=⟨Tryz.isAgg65,Tryz.sizeOf65⟩
instance zero_65:ZeroT p_ 65 (.pointer none):=⟨Tryz.zeroValue65⟩
instance ptr_65:PtrT p_ 65:=⟨by kernel_rfl⟩
instance zero_68:ZeroT p_ 68 (.agg #[(.string ⟨#[]⟩),(.string ⟨#[]⟩)]):=⟨Tryz.zeroValue68⟩
instance agg_68:AggT p_ 68 2:=⟨Tryz.isAgg68,Tryz.sizeOf68⟩
instance fld_68_0:FldT p_ 68 0 0:=fld Tryz.runUnderlying68 (ft:=9) (by kernel_rfl) Tryz.sizeOf9
instance fld_68_1:FldT p_ 68 1 1:=fld Tryz.runUnderlying68 (ft:=9) (by kernel_rfl) Tryz.sizeOf9
instance fld_72_0:FldT p_ 72 0 0:=fld Tryz.runUnderlying72 (ft:=9) (by kernel_rfl) Tryz.sizeOf9
instance fld_72_3:FldT p_ 72 3 3:=fld Tryz.runUnderlying72 (ft:=29) (by kernel_rfl) Tryz.sizeOf29
instance fld_72_4:FldT p_ 72 4 4:=fld Tryz.runUnderlying72 (ft:=34) (by kernel_rfl) Tryz.sizeOf34
instance fld_72_5:FldT p_ 72 5 7:=fld Tryz.runUnderlying72 (ft:=3) (by kernel_rfl) Tryz.sizeOf3
instance fld_72_6:FldT p_ 72 6 8:=fld Tryz.runUnderlying72 (ft:=3) (by kernel_rfl) Tryz.sizeOf3
instance fld_72_7:FldT p_ 72 7 9:=fld Tryz.runUnderlying72 (ft:=3) (by kernel_rfl) Tryz.sizeOf3
instance one_78:OneT p_ 78:=⟨Tryz.isAgg78,Tryz.sizeOf78⟩
instance one_79:OneT p_ 79:=⟨Tryz.isAgg79,Tryz.sizeOf79⟩
instance zero_79:ZeroT p_ 79 (.slice none 0 0):=⟨Tryz.zeroValue79⟩
instance sl_79:SlT p_ 79 128 3 40:=slt (z:=(.agg #[(.string ⟨#[]⟩),(.string ⟨#[]⟩),(.bool false)])) Tryz.underlying79 (i:=Tryz.t128) (by kernel_rfl) (by kernel_rfl) (by kernel_rfl) (by kernel_rfl) (by kernel_rfl)
instance sl_91:SlT p_ 91 140 3 40:=slt (z:=(.agg #[(.string ⟨#[]⟩),(.string ⟨#[]⟩),(.bool false)])) Tryz.underlying91 (i:=Tryz.t140) (by kernel_rfl) (by kernel_rfl) (by kernel_rfl) (by kernel_rfl) (by kernel_rfl)
instance sl_105:SlT p_ 105 3 1 8:=slt (z:=(.int .i64 0)) Tryz.underlying105 (i:=Tryz.t3) (by kernel_rfl) (by kernel_rfl) (by kernel_rfl) (by kernel_rfl) (by kernel_rfl)
instance arr_107:ArrT p_ 107 2 9 1:=⟨Tryz.runUnderlying107,Tryz.sizeOf9⟩
instance zero_128:ZeroT p_ 128 (.agg #[(.string ⟨#[]⟩),(.string ⟨#[]⟩),(.bool false)]):=⟨Tryz.zeroValue128⟩
instance agg_128:AggT p_ 128 3:=⟨Tryz.isAgg128,Tryz.sizeOf128⟩
instance fld_128_0:FldT p_ 128 0 0:=fld Tryz.runUnderlying128 (ft:=9) (by kernel_rfl) Tryz.sizeOf9
instance fld_128_1:FldT p_ 128 1 1:=fld Tryz.runUnderlying128 (ft:=9) (by kernel_rfl) Tryz.sizeOf9
instance fld_128_2:FldT p_ 128 2 2:=fld Tryz.runUnderlying128 (ft:=4) (by kernel_rfl) Tryz.sizeOf4
instance one_130:OneT p_ 130:=⟨Tryz.isAgg130,Tryz.sizeOf130⟩
instance agg_132:AggT p_ 132 3:=⟨Tryz.isAgg132,Tryz.sizeOf132⟩
instance fld_132_0:FldT p_ 132 0 0:=fld Tryz.runUnderlying132 (ft:=4) (by kernel_rfl) Tryz.sizeOf4
instance fld_132_1:FldT p_ 132 1 1:=fld Tryz.runUnderlying132 (ft:=4) (by kernel_rfl) Tryz.sizeOf4
instance fld_132_2:FldT p_ 132 2 2:=fld Tryz.runUnderlying132 (ft:=130) (by kernel_rfl) Tryz.sizeOf130
instance zero_140:ZeroT p_ 140 (.agg #[(.string ⟨#[]⟩),(.string ⟨#[]⟩),(.bool false)]):=⟨Tryz.zeroValue140⟩
instance agg_140:AggT p_ 140 3:=⟨Tryz.isAgg140,Tryz.sizeOf140⟩
instance fld_140_0:FldT p_ 140 0 0:=fld Tryz.runUnderlying140 (ft:=9) (by kernel_rfl) Tryz.sizeOf9
instance fld_140_1:FldT p_ 140 1 1:=fld Tryz.runUnderlying140 (ft:=9) (by kernel_rfl) Tryz.sizeOf9
instance fld_140_2:FldT p_ 140 2 2:=fld Tryz.runUnderlying140 (ft:=4) (by kernel_rfl) Tryz.sizeOf4
instance agg_147:AggT p_ 147 256:=⟨Tryz.isAgg147,Tryz.sizeOf147⟩
instance arr_147:ArrT p_ 147 256 3 1:=⟨Tryz.runUnderlying147,Tryz.sizeOf3⟩
instance one_153:OneT p_ 153:=⟨Tryz.isAgg153,Tryz.sizeOf153⟩
instance agg_155:AggT p_ 155 3:=⟨Tryz.isAgg155,Tryz.sizeOf155⟩
instance fld_155_0:FldT p_ 155 0 0:=fld Tryz.runUnderlying155 (ft:=4) (by kernel_rfl) Tryz.sizeOf4
instance fld_155_1:FldT p_ 155 1 1:=fld Tryz.runUnderlying155 (ft:=4) (by kernel_rfl) Tryz.sizeOf4
instance fld_155_2:FldT p_ 155 2 2:=fld Tryz.runUnderlying155 (ft:=153) (by kernel_rfl) Tryz.sizeOf153
instance zero_162:ZeroT p_ 162 (.agg #[(.pointer none),(.slice none 0 0)]):=⟨Tryz.zeroValue162⟩
instance fld_162_1:FldT p_ 162 1 1:=fld Tryz.runUnderlying162 (ft:=32) (by kernel_rfl) Tryz.sizeOf32
instance one_165:OneT p_ 165:=⟨Tryz.isAgg165,Tryz.sizeOf165⟩
instance zero_175:ZeroT p_ 175 (.agg #[(.int .i64 0),(.int .i64 0),(.int .i64 0),(.int .i64 0),(.int .i64 0),(.int .i64 0),(.int .i64 0)]):=⟨Tryz.zeroValue175⟩
instance agg_175:AggT p_ 175 7:=⟨Tryz.isAgg175,Tryz.sizeOf175⟩
instance fld_175_0:FldT p_ 175 0 0:=fld Tryz.runUnderlying175 (ft:=3) (by kernel_rfl) Tryz.sizeOf3
instance fld_175_1:FldT p_ 175 1 1:=fld Tryz.runUnderlying175 (ft:=3) (by kernel_rfl) Tryz.sizeOf3
instance fld_175_2:FldT p_ 175 2 2:=fld Tryz.runUnderlying175 (ft:=3) (by kernel_rfl) Tryz.sizeOf3
instance fld_175_3:FldT p_ 175 3 3:=fld Tryz.runUnderlying175 (ft:=3) (by kernel_rfl) Tryz.sizeOf3
instance fld_175_4:FldT p_ 175 4 4:=fld Tryz.runUnderlying175 (ft:=3) (by kernel_rfl) Tryz.sizeOf3
instance fld_175_5:FldT p_ 175 5 5:=fld Tryz.runUnderlying175 (ft:=3) (by kernel_rfl) Tryz.sizeOf3
instance fld_175_6:FldT p_ 175 6 6:=fld Tryz.runUnderlying175 (ft:=3) (by kernel_rfl) Tryz.sizeOf3
instance one_181:OneT p_ 181:=⟨Tryz.isAgg181,Tryz.sizeOf181⟩
instance arr_184:ArrT p_ 184 3 181 1:=⟨Tryz.runUnderlying184,Tryz.sizeOf181⟩
instance one_186:OneT p_ 186:=⟨Tryz.isAgg186,Tryz.sizeOf186⟩
instance int_186:IntT p_ 186 .u64:=⟨Tryz.runUnderlying186⟩
instance zero_203:ZeroT p_ 203 (.agg #[(.int .i64 0),(.int .i64 0),(.int .i64 0),(.int .i64 0),(.int .i64 0),(.int .i64 0),(.int .i64 0)]):=⟨Tryz.zeroValue203⟩
instance agg_203:AggT p_ 203 7:=⟨Tryz.isAgg203,Tryz.sizeOf203⟩
instance fld_203_0:FldT p_ 203 0 0:=fld Tryz.runUnderlying203 (ft:=3) (by kernel_rfl) Tryz.sizeOf3
instance fld_203_1:FldT p_ 203 1 1:=fld Tryz.runUnderlying203 (ft:=3) (by kernel_rfl) Tryz.sizeOf3
instance fld_203_2:FldT p_ 203 2 2:=fld Tryz.runUnderlying203 (ft:=3) (by kernel_rfl) Tryz.sizeOf3
instance fld_203_3:FldT p_ 203 3 3:=fld Tryz.runUnderlying203 (ft:=3) (by kernel_rfl) Tryz.sizeOf3
instance fld_203_4:FldT p_ 203 4 4:=fld Tryz.runUnderlying203 (ft:=3) (by kernel_rfl) Tryz.sizeOf3
instance fld_203_5:FldT p_ 203 5 5:=fld Tryz.runUnderlying203 (ft:=3) (by kernel_rfl) Tryz.sizeOf3
instance fld_203_6:FldT p_ 203 6 6:=fld Tryz.runUnderlying203 (ft:=3) (by kernel_rfl) Tryz.sizeOf3
instance fld_207_0:FldT p_ 207 0 0:=fld Tryz.runUnderlying207 (ft:=9) (by kernel_rfl) Tryz.sizeOf9
instance zero_215:ZeroT p_ 215 (.agg #[(.int .u8 0),(.int .u8 0),(.int .u8 0),(.int .u8 0),(.int .u8 0),(.int .u8 0),(.int .u8 0),(.int .u8 0),(.int .u8 0),(.int .u8 0),(.int .u8 0),(.int .u8 0),(.int .u8 0),(.int .u8 0),(.int .u8 0),(.int .u8 0),(.int .u8 0),(.int .u8 0),(.int .u8 0),(.int .u8 0),(.int .u8 0),(.int .u8 0),(.int .u8 0),(.int .u8 0)]):=⟨Tryz.zeroValue215⟩
instance arr_215:ArrT p_ 215 24 5 1:=⟨Tryz.runUnderlying215,Tryz.sizeOf5⟩
instance agg_225:AggT p_ 225 256:=⟨Tryz.isAgg225,Tryz.sizeOf225⟩
instance arr_225:ArrT p_ 225 256 4 1:=⟨Tryz.runUnderlying225,Tryz.sizeOf4⟩
instance zero_230:ZeroT p_ 230 (.agg #[(.string ⟨#[]⟩),(.string ⟨#[]⟩),(.string ⟨#[]⟩),(.string ⟨#[]⟩),(.string ⟨#[]⟩),(.string ⟨#[]⟩),(.string ⟨#[]⟩),(.string ⟨#[]⟩),(.string ⟨#[]⟩),(.string ⟨#[]⟩),(.string ⟨#[]⟩),(.string ⟨#[]⟩)]):=⟨Tryz.zeroValue230⟩
instance agg_230:AggT p_ 230 12:=⟨Tryz.isAgg230,Tryz.sizeOf230⟩
instance arr_230:ArrT p_ 230 12 9 1:=⟨Tryz.runUnderlying230,Tryz.sizeOf9⟩
instance zero_236:ZeroT p_ 236 (.agg #[(.string ⟨#[]⟩),(.string ⟨#[]⟩),(.string ⟨#[]⟩),(.string ⟨#[]⟩),(.string ⟨#[]⟩),(.string ⟨#[]⟩),(.string ⟨#[]⟩)]):=⟨Tryz.zeroValue236⟩
instance agg_236:AggT p_ 236 7:=⟨Tryz.isAgg236,Tryz.sizeOf236⟩
instance arr_236:ArrT p_ 236 7 9 1:=⟨Tryz.runUnderlying236,Tryz.sizeOf9⟩
instance int_239:IntT p_ 239 .i64:=⟨Tryz.runUnderlying239⟩
instance int_241:IntT p_ 241 .u64:=⟨Tryz.runUnderlying241⟩
instance arr_247:ArrT p_ 247 20 186 1:=⟨Tryz.runUnderlying247,Tryz.sizeOf186⟩
instance int_248:IntT p_ 248 .u32:=⟨Tryz.runUnderlying248⟩
instance bld_34_  :RV p_ (sBuild 34 []) (.agg #[(.int .i64 0),(.slice none 0 0),(.slice none 0 0)]):=⟨fun W w _=>by
   simp[sBuild,Instr.build,Tryz.zeroValue34,Tryz.runUnderlying34,Tryz.sizeOf3,Tryz.sizeOf29,Tryz.sizeOf32,cells_agg,Instr.fill]⟩
instance bld_62_1_2 {a0 a1:Value}[h0:OC a0][h1:OC a1]:RV p_ (sBuild 62 [(1,a0),(2,a1)]) (.agg #[(.slice none 0 0),a0,a1,(.int .i64 0)]):=⟨fun W w _=>by
 have c0:=cells_one h0.one;have c1:=cells_one h1.one;simp[sBuild,Instr.build,Tryz.zeroValue62,Tryz.runUnderlying62,Tryz.sizeOf3,Tryz.sizeOf59,Tryz.sizeOf60,cells_agg,Instr.fill,c0,c1]⟩
instance bld_31_0 {a0:Value}[h0:OC a0]:RV p_ (sBuild 31 [(0,a0)]) (.agg #[a0,(.string ⟨#[]⟩),(.int .i64 0),(.slice none 0 0)]):=⟨fun W w _=>by
 have c0:=cells_one h0.one;simp[sBuild,Instr.build,Tryz.zeroValue31,Tryz.runUnderlying31,Tryz.sizeOf3,Tryz.sizeOf9,Tryz.sizeOf29,cells_agg,Instr.fill,c0]⟩
instance bld_72_0_1_2_3_4_5_6 {a0 a1 a2 a3 a4_0 a4_1 a4_2 a5 a6:Value}[h0:OC a0][h1:OC a1][h2:OC a2][h3:OC a3][h5:OC a5][h6:OC a6]:RV p_ (sBuild 72 [(0,a0),(1,a1),(2,a2),(3,a3),(4,.agg #[a4_0,a4_1,a4_2]),(5,a5),(6,a6)]) (.agg #[a0,a1,a2,a3,a4_0,a4_1,a4_2,a5,a6,(.int .i64 0)]):=⟨fun W w _=>by
 have c0:=cells_one h0.one;have c1:=cells_one h1.one;have c2:=cells_one h2.one;have c3:=cells_one h3.one;have c5:=cells_one h5.one;have c6:=cells_one h6.one;simp[sBuild,Instr.build,Tryz.zeroValue72,Tryz.runUnderlying72,Tryz.sizeOf3,Tryz.sizeOf9,Tryz.sizeOf29,Tryz.sizeOf34,cells_agg,Instr.fill,c0,c1,c2,c3,c5,c6]⟩
instance bld_34_0_1_2 {a0 a1 a2:Value}[h0:OC a0][h1:OC a1][h2:OC a2]:RV p_ (sBuild 34 [(0,a0),(1,a1),(2,a2)]) (.agg #[a0,a1,a2]):=⟨fun W w _=>by
 have c0:=cells_one h0.one;have c1:=cells_one h1.one;have c2:=cells_one h2.one;simp[sBuild,Instr.build,Tryz.zeroValue34,Tryz.runUnderlying34,Tryz.sizeOf3,Tryz.sizeOf29,Tryz.sizeOf32,cells_agg,Instr.fill,c0,c1,c2]⟩
instance bld_68_0_1 {a0 a1:Value}[h0:OC a0][h1:OC a1]:RV p_ (sBuild 68 [(0,a0),(1,a1)]) (.agg #[a0,a1]):=⟨fun W w _=>by
 have c0:=cells_one h0.one;have c1:=cells_one h1.one;simp[sBuild,Instr.build,Tryz.zeroValue68,Tryz.runUnderlying68,Tryz.sizeOf9,cells_agg,Instr.fill,c0,c1]⟩
instance bld_107_0_1 {a0 a1:Value}[h0:OC a0][h1:OC a1]:RV p_ (sBuild 107 [(0,a0),(1,a1)]) (.agg #[a0,a1]):=⟨fun W w _=>by
 have c0:=cells_one h0.one;have c1:=cells_one h1.one;simp[sBuild,Instr.build,Tryz.zeroValue107,Tryz.runUnderlying107,Tryz.sizeOf9,cells_agg,Instr.fill,c0,c1]⟩
instance bld_132_2 {a0:Value}[h0:OC a0]:RV p_ (sBuild 132 [(2,a0)]) (.agg #[(.bool false),(.bool false),a0]):=⟨fun W w _=>by
 have c0:=cells_one h0.one;simp[sBuild,Instr.build,Tryz.zeroValue132,Tryz.runUnderlying132,Tryz.sizeOf4,Tryz.sizeOf130,cells_agg,Instr.fill,c0]⟩
instance bld_155_0_1_2 {a0 a1 a2:Value}[h0:OC a0][h1:OC a1][h2:OC a2]:RV p_ (sBuild 155 [(0,a0),(1,a1),(2,a2)]) (.agg #[a0,a1,a2]):=⟨fun W w _=>by
 have c0:=cells_one h0.one;have c1:=cells_one h1.one;have c2:=cells_one h2.one;simp[sBuild,Instr.build,Tryz.zeroValue155,Tryz.runUnderlying155,Tryz.sizeOf4,Tryz.sizeOf153,cells_agg,Instr.fill,c0,c1,c2]⟩
instance bld_184_0_1_2 {a0 a1 a2:Value}[h0:OC a0][h1:OC a1][h2:OC a2]:RV p_ (sBuild 184 [(0,a0),(1,a1),(2,a2)]) (.agg #[a0,a1,a2]):=⟨fun W w _=>by
 have c0:=cells_one h0.one;have c1:=cells_one h1.one;have c2:=cells_one h2.one;simp[sBuild,Instr.build,Tryz.zeroValue184,Tryz.runUnderlying184,Tryz.sizeOf181,cells_agg,Instr.fill,c0,c1,c2]⟩
instance bld_140_0 {a0:Value}[h0:OC a0]:RV p_ (sBuild 140 [(0,a0)]) (.agg #[a0,(.string ⟨#[]⟩),(.bool false)]):=⟨fun W w _=>by
 have c0:=cells_one h0.one;simp[sBuild,Instr.build,Tryz.zeroValue140,Tryz.runUnderlying140,Tryz.sizeOf4,Tryz.sizeOf9,cells_agg,Instr.fill,c0]⟩
instance bld_175_0_1_2_3_4_5 {a0 a1 a2 a3 a4 a5:Value}[h0:OC a0][h1:OC a1][h2:OC a2][h3:OC a3][h4:OC a4][h5:OC a5]:RV p_ (sBuild 175 [(0,a0),(1,a1),(2,a2),(3,a3),(4,a4),(5,a5)]) (.agg #[a0,a1,a2,a3,a4,a5,(.int .i64 0)]):=⟨fun W w _=>by
 have c0:=cells_one h0.one;have c1:=cells_one h1.one;have c2:=cells_one h2.one;have c3:=cells_one h3.one;have c4:=cells_one h4.one;have c5:=cells_one h5.one;simp[sBuild,Instr.build,Tryz.zeroValue175,Tryz.runUnderlying175,Tryz.sizeOf3,cells_agg,Instr.fill,c0,c1,c2,c3,c4,c5]⟩
instance bld_207_0 {a0:Value}[h0:OC a0]:RV p_ (sBuild 207 [(0,a0)]) (.agg #[a0]):=⟨fun W w _=>by
 have c0:=cells_one h0.one;simp[sBuild,Instr.build,Tryz.zeroValue207,Tryz.runUnderlying207,Tryz.sizeOf9,cells_agg,Instr.fill,c0]⟩
instance bld_175_  :RV p_ (sBuild 175 []) (.agg #[(.int .i64 0),(.int .i64 0),(.int .i64 0),(.int .i64 0),(.int .i64 0),(.int .i64 0),(.int .i64 0)]):=⟨fun W w _=>by
   simp[sBuild,Instr.build,Tryz.zeroValue175,Tryz.runUnderlying175,Tryz.sizeOf3,cells_agg,Instr.fill]⟩
instance bld_175_0_1_3_4_5 {a0 a1 a2 a3 a4:Value}[h0:OC a0][h1:OC a1][h2:OC a2][h3:OC a3][h4:OC a4]:RV p_ (sBuild 175 [(0,a0),(1,a1),(3,a2),(4,a3),(5,a4)]) (.agg #[a0,a1,(.int .i64 0),a2,a3,a4,(.int .i64 0)]):=⟨fun W w _=>by
 have c0:=cells_one h0.one;have c1:=cells_one h1.one;have c2:=cells_one h2.one;have c3:=cells_one h3.one;have c4:=cells_one h4.one;simp[sBuild,Instr.build,Tryz.zeroValue175,Tryz.runUnderlying175,Tryz.sizeOf3,cells_agg,Instr.fill,c0,c1,c2,c3,c4]⟩
instance bld_203_  :RV p_ (sBuild 203 []) (.agg #[(.int .i64 0),(.int .i64 0),(.int .i64 0),(.int .i64 0),(.int .i64 0),(.int .i64 0),(.int .i64 0)]):=⟨fun W w _=>by
   simp[sBuild,Instr.build,Tryz.zeroValue203,Tryz.runUnderlying203,Tryz.sizeOf3,cells_agg,Instr.fill]⟩
instance bld_203_6_3_4_5 {a0 a1 a2 a3:Value}[h0:OC a0][h1:OC a1][h2:OC a2][h3:OC a3]:RV p_ (sBuild 203 [(6,a0),(3,a1),(4,a2),(5,a3)]) (.agg #[(.int .i64 0),(.int .i64 0),(.int .i64 0),a1,a2,a3,a0]):=⟨fun W w _=>by
 have c0:=cells_one h0.one;have c1:=cells_one h1.one;have c2:=cells_one h2.one;have c3:=cells_one h3.one;simp[sBuild,Instr.build,Tryz.zeroValue203,Tryz.runUnderlying203,Tryz.sizeOf3,cells_agg,Instr.fill,c0,c1,c2,c3]⟩
instance bld_230_0_1_2_3_4_5_6_7_8_9_10_11 {a0 a1 a2 a3 a4 a5 a6 a7 a8 a9 a10 a11:Value}[h0:OC a0][h1:OC a1][h2:OC a2][h3:OC a3][h4:OC a4][h5:OC a5][h6:OC a6][h7:OC a7][h8:OC a8][h9:OC a9][h10:OC a10][h11:OC a11]:RV p_ (sBuild 230 [(0,a0),(1,a1),(2,a2),(3,a3),(4,a4),(5,a5),(6,a6),(7,a7),(8,a8),(9,a9),(10,a10),(11,a11)]) (.agg #[a0,a1,a2,a3,a4,a5,a6,a7,a8,a9,a10,a11]):=⟨fun W w _=>by
 have c0:=cells_one h0.one;have c1:=cells_one h1.one;have c2:=cells_one h2.one;have c3:=cells_one h3.one;have c4:=cells_one h4.one;have c5:=cells_one h5.one;have c6:=cells_one h6.one;have c7:=cells_one h7.one;have c8:=cells_one h8.one;have c9:=cells_one h9.one;have c10:=cells_one h10.one;have c11:=cells_one h11.one;simp[sBuild,Instr.build,Tryz.zeroValue230,Tryz.runUnderlying230,Tryz.sizeOf9,cells_agg,Instr.fill,c0,c1,c2,c3,c4,c5,c6,c7,c8,c9,c10,c11]⟩
instance bld_236_0_1_2_3_4_5_6 {a0 a1 a2 a3 a4 a5 a6:Value}[h0:OC a0][h1:OC a1][h2:OC a2][h3:OC a3][h4:OC a4][h5:OC a5][h6:OC a6]:RV p_ (sBuild 236 [(0,a0),(1,a1),(2,a2),(3,a3),(4,a4),(5,a5),(6,a6)]) (.agg #[a0,a1,a2,a3,a4,a5,a6]):=⟨fun W w _=>by
 have c0:=cells_one h0.one;have c1:=cells_one h1.one;have c2:=cells_one h2.one;have c3:=cells_one h3.one;have c4:=cells_one h4.one;have c5:=cells_one h5.one;have c6:=cells_one h6.one;simp[sBuild,Instr.build,Tryz.zeroValue236,Tryz.runUnderlying236,Tryz.sizeOf9,cells_agg,Instr.fill,c0,c1,c2,c3,c4,c5,c6]⟩
instance bld_256_0_1_2 {a0 a1 a2:Value}[h0:OC a0][h1:OC a1][h2:OC a2]:RV p_ (sBuild 256 [(0,a0),(1,a1),(2,a2)]) (.agg #[a0,a1,a2]):=⟨fun W w _=>by
 have c0:=cells_one h0.one;have c1:=cells_one h1.one;have c2:=cells_one h2.one;simp[sBuild,Instr.build,Tryz.zeroValue256,Tryz.runUnderlying256,Tryz.sizeOf9,Tryz.sizeOf165,cells_agg,Instr.fill,c0,c1,c2]⟩
end Go.Proofs.YthomhkpedghhgaaGreatDoor.T
namespace Go.Proofs.YthomhkpedghhgaaGreatDoor.Sl
open Go Sh
variable {P:Program} {W:World} {L L':List HP} {Kp:PK} {k:Value->WP}
theorem fill_run:∀(vs pre zs:List Value),zs.length=vs.length->(∀v∈vs,v.cells= #[v])->
  Instr.fill (fun i=>some (i * 1,1)) (pre++zs).toArray ((vs.zipIdx pre.length).map fun x=>(x.2,x.1))=some (pre++vs).toArray
 |[],pre,zs,hz,_=>by
  have:zs=[]:=List.eq_nil_of_length_eq_zero (by simpa using hz)
  subst this;simp[Instr.fill]
 |v::vs,pre,[],hz,_=>by simp at hz
 |v::vs,pre,z::zs,hz,ho=>by
  have hv:=ho v (by simp)
  have ih:=fill_run vs (pre++[v]) zs (by simpa using hz) (fun u hu=>ho u (by simp[hu]))
  simp only[List.zipIdx_cons,List.map_cons,Instr.fill,hv]
  rw[if_neg (by simp)]
  have h2:Array.foldl (fun cs (x:Value × Nat)=>cs.setIfInBounds (pre.length * 1+x.2) x.1) (pre++z::zs).toArray (#[v]:Array Value).zipIdx=(pre++[v]++zs).toArray:=by
   simp
  have h3:(pre++[v]).length=pre.length+1:=by simp
  rw[h3]at ih
  rw[h2,ih];simp
theorem e_bslN {t e:TypeId} {b n:Nat} {parts:List (Nat × Value)} {vs:List Value} [ht:SlT P t e 1 b] (hn:vs.length=n) (hp:parts=vs.zipIdx.map fun x=>(x.2,x.1)) (ho:∀v∈vs,v.cells= #[v]) (hm:n<=16777216)
  (h:∀g,Ent W (pt g (.cells vs.toArray e)::L) (k (.slice (some ⟨g,0,none⟩) n n))):Ent W L (opN P (sBuildSl t n parts) Kp k):=fun w hw=>by
 refine⟨?_⟩
 obtain⟨i,z,hi,hz,hs,hb,hzs⟩:=ht.info
 have:(sBuildSl t n parts).run P w= .ok (.value (.slice (some ⟨w.heap.size,0,none⟩) n n)) (w.alloc (.cells vs.toArray e)):=by
  have hm':¬(2^24<n):=by omega
  have hf:∀zs:List Value,zs.length=vs.length->Instr.fill (fun i=>some (i * 1,1)) zs.toArray parts=some vs.toArray:=fun zs hz=>by
   have:=fill_run vs [] zs hz ho
   simpa [hp]using this
  by_cases h0:n=0
  ·have:vs=[]:=List.eq_nil_of_length_eq_zero (by omega)
   subst this;subst h0
   simp[sBuildSl,Instr.buildSlice,run_underlying ht.ut,sizeOf_run hi,hs,hp,newRow,Instr.fill]
   have e0:(Array.range 0).map (fun _=>(default:Value))= #[]:=Array.eq_empty_of_size_eq_zero (by simp)
   rw[e0]
  ·have hf':=hf ((List.range n).map fun j=>z.cells[j%z.cells.size]!) (by simp[hn])
   have e1:((Array.range n).map fun j=>z.cells[j%z.cells.size]!)=((List.range n).map fun j=>z.cells[j%z.cells.size]!).toArray:=by
    apply Array.ext'
    simp[Array.toList_range]
   rw[<- e1]at hf'
   simp only[Nat.mul_one]at hf'
   simp[sBuildSl,Instr.buildSlice,run_underlying ht.ut,sizeOf_run hi,hs,h0,hm',zeroValue,typeInfo,hi,hz,newRow,hf']
 rw[this]
 exact h _ _ (hw.alloc _)
theorem e_mksl {t e:TypeId} {b:Nat} {z:Value} {q r:IntKind} {l c:Int} (n m:Nat) [ht:SlT P t e 1 b] [hz:ZeroT P e z] [hc:OC z] (hl:l=(n:Int)) (hcm:c=(m:Int)) (h1:n<=m) (h2:b * m<=281474976710656) (h3:m<=maxLen)
  (h:∀g,Ent W (Sl 1 e (some ⟨g,0,none⟩) m n (List.replicate n z)::L) (k (.slice (some ⟨g,0,none⟩) n m))):Ent W L (opN P (sMkSl t (.int q l) (.int r c)) Kp k):=fun w hw=>by
 refine⟨?_⟩
 obtain⟨i,z',hi,hz',hs,hb,hzs⟩:=ht.info
 have e0:z'=z:=by
  have:=hz.run w
  simp[zeroValue,typeInfo,hi,hz']at this
  exact this
 subst e0
 subst hl;subst hcm
 have hcz:z'.cells= #[z']:=cells_one hc.one
 have hbm:(i.bytes:Int) * (m:Int)<=281474976710656:=by
  rw[hb]
  obtain⟨X,hX⟩:∃X,X=b * m:=⟨_,rfl⟩
  have h4:(X:Int)<=281474976710656:=by omega
  rw[hX,Int.natCast_mul]at h4
  exact h4
 have hr:=run_make (P:=P) (w:=w) t e i z' ht.ut hi hz' q r n m (by omega) (by omega) hbm (by unfold maxLen at h3;omega)
 simp only[Int.toNat_natCast,hs,Nat.mul_one]at hr
 have e1:madeCells z'.cells m=(List.replicate n z'++List.replicate (m-n) z').toArray:=by
  rw[hcz,List.replicate_append_replicate]
  apply Array.ext'
  simp[madeCells,Array.toList_range,Nat.mod_one]
  rw[show n+(m-n)=m by omega]
  apply List.ext_getElem <;> simp
 have:(sMkSl t (.int q n) (.int r m)).run P w= .ok (.value (.slice (some ⟨w.heap.size,0,none⟩) n m)) (w.alloc (.cells (List.replicate n z'++List.replicate (m-n) z').toArray e)):=by
  simp[sMkSl,hr,e1]
 rw[this]
 refine h _ _ ?_
 have:=hw.alloc (.cells (List.replicate n z'++List.replicate (m-n) z').toArray e)
 refine Imp.sat (L:=pt w.heap.size (.cells (List.replicate n z'++List.replicate (m-n) z').toArray e)::L) ?_ this
 exact .conv (B:=pt w.heap.size (.cells (List.replicate n z'++List.replicate (m-n) z').toArray e)) (fun f hf=>⟨by simp,h1,h3,.inr ⟨_,List.replicate (m-n) z',rfl,by simp,hf⟩⟩) (.pick .here .refl)
end Go.Proofs.YthomhkpedghhgaaGreatDoor.Sl
namespace Go.Proofs.YthomhkpedghhgaaGreatDoor.Sl
open Go Go.RowKit Sh
variable {P:Program} {W:World} {L L':List HP} {Kp:PK} {k:Value->WP} {H:Type} {enc:TypeId × Value->H}
theorem spot_none {w:World}{a:Addr}{v:Value}(h:w.cell? a=some v):a.spot=none/\a.block<w.heap.size:=by
 unfold World.cell? at h
 split at h
 ·rename_i c _ _ e
  refine⟨?_,(Array.getElem?_eq_some_iff.1 e).1⟩
  cases hs:a.spot with
  |none=>rfl
  |some x=>rw[hs]at h;simp at h
 ·cases h
structure Old {α:Type}(W:World)(s:Nat)(rd:α->List Value->Prop)(a:Option Addr)(n:Nat)(xs:List α):Prop where
 len:xs.length=n
 at_:0<n->∃g o,a=some ⟨g,o,none⟩/\g<W.heap.size/\∀(i:Nat) (h:i<xs.length),∃cs:List Value,cs.length=s/\rd xs[i] cs/\∀(j:Nat) (v:Value),cs[j]? =some v->W.cell? ⟨g,o+(i * s+j),none⟩=some v
theorem v_ldOld {t:TypeId}{g o:Nat}{v:Value}[ht:OneT P t](hg:g<W.heap.size)(hv:W.cell? ⟨g,o,none⟩=some v):RunV P W [] (sLoad t (.pointer (some ⟨g,o,none⟩))) v:=by
 have H:RdB W (pu True) (some ⟨g,o,none⟩) 1 [v]:=rd_old rfl hg (fun j u hu=>by
  match j,hu with
  |0,hu=>simp at hu;subst hu;exact hv)
 have:=v_ldRd (P:=P) (t:=t) (j:=0) H rfl
 exact fun w hw=>this w (Imp.sat (.pu trivial .refl) hw)
theorem choose_list {α:Type}{n:Nat}{R:Nat->α->Prop}(h:∀i,i<n->∃a,R i a):∃xs:List α,xs.length=n/\∀(i:Nat) (hi:i<xs.length),R i xs[i]:=by
 induction n with
 |zero=>exact⟨[],rfl,fun i hi=>by simp at hi⟩
 |succ n ih=>
  obtain⟨xs,h1,h2⟩:=ih fun i hi=>h i (by omega)
  obtain⟨a,ha⟩:=h n (by omega)
  refine⟨xs++[a],by simp[h1],fun i hi=>?_⟩
  by_cases c:i<xs.length
  ·rw[List.getElem_append_left c];exact h2 i c
  ·have:i=n:=by simp at hi;omega
   subst this
   rw[List.getElem_append_right (by omega)]
   simpa [h1]using ha
theorem bulk_cons (d:DataW H)(r:List (DataW H)):Rows.uptoBulkAll (d::r)=Rows.uptoBulk d+Rows.uptoBulkAll r:=by simp[Rows.uptoBulkAll]
theorem bulk_sum {α:Type}{m:α->Nat}:∀(xs:List α) (ds:List (DataW H)),xs.length=ds.length->(∀(i:Nat) (h1:i<xs.length) (h2:i<ds.length),m xs[i]<=Rows.uptoBulk ds[i])->(xs.map m).sum<=Rows.uptoBulkAll ds
 |[],[],_,_=>by simp
 |x::xs,d::ds,hl,h=>by
  have h0:=h 0 (by simp) (by simp)
  have ih:=bulk_sum xs ds (by simpa using hl) (fun i h1 h2=>h (i+1) (by simp;omega) (by simp;omega))
  rw[bulk_cons,List.map_cons,List.sum_cons]
  simp only[List.getElem_cons_zero]at h0
  omega
theorem open_old {α:Type} {rd:α->List Value->Prop} {m:α->Nat} {t e:TypeId} {s fuel:Nat} {sp:Nat->Bool} {held:Bool} {cs:List Value} {x:DataW H × List MemPlace} (ht:P.underlying t=some (.slice e)) (hc:P.cellsOf e=s) (hs:0<s)
  (op:∀(n:Nat) (cs:List Value) (x:DataW H × List MemPlace),DataW.trod enc P W 0 sp held n e cs=some x->∃a,rd a cs/\m a<=Rows.uptoBulk x.1) (h:DataW.trod enc P W 0 sp held fuel t cs=some x):
  ∃(a:Option Addr) (n cap:Nat) (xs:List α),cs=[.slice a n cap]/\n<=cap/\cap<=maxLen/\(a=none->n=0/\cap=0)/\Old W s rd a n xs/\(xs.map m).sum+1<=Rows.uptoBulk x.1:=by
 rcases DataW.trod_slice ht h with ⟨rfl,rfl⟩|⟨a,len,cap,elems,rest,n,rfl,rfl,rfl,hb,hl,hm,he,hel,_,_⟩
 ·exact⟨none,0,0,[],rfl,Nat.le_refl _,by unfold maxLen;omega,fun _=>⟨rfl,rfl⟩,⟨rfl,fun c=>by omega⟩,by simp[Rows.uptoBulk]⟩
 ·have cell0:∀i,i<len->∃ds:List Value,ds.length=s/\(∃y,rd y ds/\∀h:i<elems.length,m y<=Rows.uptoBulk elems[i].1)/\∀j,j<s->W.cell? ((a.add (i * s)).add j)=ds[j]? :=fun i hi=>by
   have h1:=hel i hi
   rw[List.getElem?_eq_getElem (by omega),Option.bind_eq_some_iff]at h1
   obtain⟨ds,h2,h3⟩:=h1
   unfold World.cells? at h2
   rw[if_pos (Nat.zero_le _),hc]at h2
   obtain⟨y,hy,hm2⟩:=op _ _ _ h3
   exact⟨ds,by simpa using mapM_some_length h2,⟨y,hy,fun _=>hm2⟩,fun j hj=>mapM_some_get h2 j j (by simp[hj])⟩
  by_cases hz:len=0
  ·subst hz
   exact⟨some a,0,cap,[],rfl,hl,hm,(fun c=>by cases c),⟨rfl,fun c=>by omega⟩,by simp[Rows.uptoBulk]⟩
  obtain⟨d0,hd0,_,hg0⟩:=cell0 0 (by omega)
  have h0:=hg0 0 hs
  have ea:(a.add (0 * s)).add 0=a:=by unfold Addr.add;simp
  rw[ea,List.getElem?_eq_getElem (by omega)]at h0
  obtain⟨s1,s2⟩:=spot_none h0
  obtain⟨g,o,sp'⟩:=a
  obtain rfl:sp'=none:=s1
  have key:∀i,i<len->∃y:α,(∀h:i<elems.length,m y<=Rows.uptoBulk elems[i].1)/\∃ds:List Value,ds.length=s/\rd y ds/\∀(j:Nat) (v:Value),ds[j]? =some v->W.cell? ⟨g,o+(i * s+j),none⟩=some v:=fun i hi=>by
   obtain⟨ds,hlen,⟨y,hy,hyb⟩,hget⟩:=cell0 i hi
   refine⟨y,hyb,ds,hlen,hy,fun j v hv=>?_⟩
   have hj:j<s:=by
    rcases Nat.lt_or_ge j ds.length with c|c
    ·omega
    ·rw[List.getElem?_eq_none c]at hv;cases hv
   have:=hget j hj
   rw[addr_add,addr_add,hv,Nat.add_assoc]at this
   exact this
  obtain⟨xs,h1,h2⟩:=choose_list key
  refine⟨some ⟨g,o,none⟩,len,cap,xs,rfl,hl,hm,(fun c=>by cases c),⟨h1,fun hn=>⟨g,o,rfl,s2,fun i hi=>(h2 i hi).2⟩⟩,?_⟩
  have:=bulk_sum (m:=m) xs (elems.map (·.1)) (by simp;omega) (fun i e1 e2=>by simpa using (h2 i e1).1 (by simpa using e2))
  simp only[Rows.uptoBulk]
  omega
theorem sum_ones {α:Type}:∀l:List α,(l.map fun _=>1).sum=l.length
 |[]=>rfl
 |x::l=>by simp[sum_ones l];omega
def rdU (c:UInt8)(cs:List Value):Prop:=cs=[B c]
theorem Old.bytes {a:Option Addr}{n:Nat}{b:List UInt8}{A:HP}(h:Old W 1 rdU a n b):RdB W A a n (b.map B):=by
 refine⟨by rw[List.length_map];exact h.len,fun hn=>?_⟩
 obtain⟨g,o,rfl,hg,hc⟩:=h.at_ hn
 refine⟨g,o,rfl,fun w L hw j v hv=>?_⟩
 rw[List.getElem?_map]at hv
 have hj:j<b.length:=by
  rcases Nat.lt_or_ge j b.length with c|c
  ·exact c
  ·rw[List.getElem?_eq_none c]at hv;cases hv
 obtain⟨cs,h1,h2,h3⟩:=hc j hj
 rw[h2]at h3
 have:=h3 0 (B b[j]) rfl
 rw[List.getElem?_eq_getElem hj]at hv
 have hv':B b[j]=v:=Option.some.inj hv
 rw[hw.base.cell (p:=⟨g,o+j,none⟩) hg,<- hv']
 simpa using this
theorem open_u8 {e:TypeId}{sp:Nat->Bool}{held:Bool}(he:P.underlying e=some (.int .u8)):∀(n:Nat) (cs:List Value) (x:DataW H × List MemPlace),DataW.trod enc P W 0 sp held n e cs=some x->∃a,rdU a cs/\1<=Rows.uptoBulk x.1:=fun n cs x h=>by
 obtain⟨m,rfl,rfl,hw⟩:=DataW.trod_int he h
 have hm:0<=m/\m<=255:=by simpa [Lit.wf,IntKind.min,IntKind.max,IntKind.signed,IntKind.bits]using hw
 refine⟨UInt8.ofNat m.toNat,?_,by simp[Rows.uptoBulk]⟩
 unfold rdU B
 rw[UInt8.toNat_ofNat',Nat.mod_eq_of_lt (by omega),Int.toNat_of_nonneg hm.1]
theorem open_bytes {t e:TypeId}{fuel:Nat}{sp:Nat->Bool}{held:Bool}{cs:List Value}{x:DataW H × List MemPlace}(ht:P.underlying t=some (.slice e))(hc:P.cellsOf e=1)(he:P.underlying e=some (.int .u8))(h:DataW.trod enc P W 0 sp held fuel t cs=some x):
  ∃(a:Option Addr) (cap:Nat) (b:List UInt8),cs=[.slice a b.length cap]/\b.length<=cap/\cap<=maxLen/\(a=none->b.length=0)/\(∀A,RdB W A a b.length (b.map B))/\b.length+1<=Rows.uptoBulk x.1:=by
 obtain⟨a,n,cap,b,rfl,h1,h2,h3,h4,h5⟩:=open_old (m:=fun _=>1) ht hc (by omega) (open_u8 (enc:=enc) he) h
 have hl:=h4.len
 subst hl
 exact⟨a,cap,b,rfl,h1,h2,fun c=>(h3 c).1,fun A=>h4.bytes,by rwa [sum_ones]at h5⟩
theorem open_slice {t e:TypeId}{v:Value}{d:DataW H}{ps:List MemPlace}{r:Reach}{b0:Nat}{sp:Nat->Bool}{held:Bool}(ht:P.underlying t=some (.slice e))(hval:Value.okWide P W r b0 t v)(hd:DataW.Trod enc P W 0 sp held t v d ps):
  ∃fuel,DataW.trod enc P W 0 sp held fuel t [v]=some (d,ps):=by
 obtain⟨a,n,c,rfl⟩:=WideShapes.okWide_slice ht hval
 obtain⟨fuel,hf⟩:=hd
 exact⟨fuel,hf⟩
end Go.Proofs.YthomhkpedghhgaaGreatDoor.Sl
namespace Go.Proofs.YthomhkpedghhgaaGreatDoor.Sl
open Go Sh
variable {P:Program} {W:World} {L L':List HP} {Kp:PK} {k:Value->WP}
theorem fold_put (o:Nat):∀(us pre zs:List Value) (m:Nat),pre.length=o+m->us.length<=zs.length->
  (us.zipIdx m).foldl (fun(cs:Array Value) (x:Value × Nat)=>cs.setIfInBounds (o+x.2) x.1) (pre++zs).toArray=(pre++us++zs.drop us.length).toArray
 |[],pre,zs,m,_,_=>by simp
 |u::us,pre,[],m,_,h=>by simp at h
 |u::us,pre,z::zs,m,hp,h=>by
  have ih:=fold_put o us (pre++[u]) zs (m+1) (by simp;omega) (by simpa using h)
  have e:((pre++z::zs).toArray).setIfInBounds (o+m) u=(pre++[u]++zs).toArray:=by
   rw[<- hp];simp
  rw[List.zipIdx_cons,List.foldl_cons]
  simp only
  rw[e,ih];simp
theorem fill_runS (s:Nat):∀(vs pre zs:List Value) (m:Nat),pre.length=m * s->zs.length=vs.length * s->(∀v∈vs,v.cells.size=s)->
  Instr.fill (fun i=>some (i * s,s)) (pre++zs).toArray ((vs.zipIdx m).map fun x=>(x.2,x.1))=some (pre++vs.flatMap fun v=>v.cells.toList).toArray
 |[],pre,zs,m,_,hz,_=>by
  have:zs=[]:=List.eq_nil_of_length_eq_zero (by simpa using hz)
  subst this;simp[Instr.fill]
 |v::vs,pre,zs,m,hp,hz,ho=>by
  have hv:=ho v (by simp)
  have hz':zs.length=vs.length * s+s:=by rw[hz,List.length_cons,Nat.add_mul,Nat.one_mul]
  have ih:=fill_runS s vs (pre++v.cells.toList) (zs.drop s) (m+1) (by rw[List.length_append,hp,Array.length_toList,hv,Nat.add_mul,Nat.one_mul]) (by rw[List.length_drop,hz'];omega) (fun u hu=>ho u (by simp[hu]))
  simp only[List.zipIdx_cons,List.map_cons,Instr.fill,hv]
  rw[if_neg (by simp[hp,hz'])]
  have h2:Array.foldl (fun cs (x:Value × Nat)=>cs.setIfInBounds (m * s+x.2) x.1) (pre++zs).toArray v.cells.zipIdx=(pre++v.cells.toList++zs.drop s).toArray:=by
   have:=fold_put (m * s) v.cells.toList pre zs 0 (by simpa using hp) (by rw[Array.length_toList,hv];omega)
   rw[Array.length_toList,hv]at this
   rw[<- this]
   have e2:v.cells.zipIdx.toList=v.cells.toList.zipIdx:=by simp
   rw[<- e2,Array.foldl_toList]
  rw[h2,ih];simp
theorem e_bslS {t e:TypeId} {s b n:Nat} {parts:List (Nat × Value)} {vs:List Value} [ht:SlT P t e s b] (hn:vs.length=n) (h1:0<n) (hp:parts=vs.zipIdx.map fun x=>(x.2,x.1)) (ho:∀v∈vs,v.cells.size=s) (hm:n * s<=16777216)
  (h:∀g,Ent W (pt g (.cells (vs.flatMap fun v=>v.cells.toList).toArray e)::L) (k (.slice (some ⟨g,0,none⟩) n n))):Ent W L (opN P (sBuildSl t n parts) Kp k):=fun w hw=>by
 refine⟨?_⟩
 obtain⟨i,z,hi,hz,hs,hb,hzs⟩:=ht.info
 have:(sBuildSl t n parts).run P w= .ok (.value (.slice (some ⟨w.heap.size,0,none⟩) n n)) (w.alloc (.cells (vs.flatMap fun v=>v.cells.toList).toArray e)):=by
  have hm':¬(2^24<n * s):=by omega
  have hf:∀zs:Array Value,zs.size=n * s->Instr.fill (fun i=>some (i * s,s)) zs parts=some (vs.flatMap fun v=>v.cells.toList).toArray:=fun zs hz=>by
   have:=fill_runS s vs [] zs.toList 0 (by simp) (by simp[hz,hn]) ho
   simpa [hp]using this
  by_cases h0:n * s=0
  ·simp[sBuildSl,Instr.buildSlice,run_underlying ht.ut,sizeOf_run hi,hs,zeroValue,typeInfo,hi,hz,newRow,h0]
   have:=hf ((Array.range 0).map fun _=>(default:Value)) (by simp[h0])
   rw[this]
   simp
  ·simp[sBuildSl,Instr.buildSlice,run_underlying ht.ut,sizeOf_run hi,hs,hm',zeroValue,typeInfo,hi,hz,newRow,h0]
   have:=hf ((Array.range (n * s)).map fun j=>z.cells[j%z.cells.size]!) (by simp)
   rw[this]
   simp
 rw[this]
 exact h _ _ (hw.alloc _)
theorem flat_len {α:Type}{f:α->List Value}{s:Nat}(hf:∀x,(f x).length=s):∀l:List α,(l.flatMap f).length=l.length * s
 |[]=>by simp
 |x::l=>by rw[List.flatMap_cons,List.length_append,hf,flat_len hf l,List.length_cons,Nat.add_mul,Nat.one_mul,Nat.add_comm]
theorem flat_get {α:Type}{f:α->List Value}{s:Nat}(hf:∀x,(f x).length=s):∀(l:List α) (i j:Nat) (hi:i<l.length) (hj:j<s),(l.flatMap f)[i * s+j]? =(f l[i])[j]?
 |x::l,0,j,_,hj=>by
  rw[List.flatMap_cons,Nat.zero_mul,Nat.zero_add,List.getElem?_append_left (by rw[hf];exact hj)];rfl
 |x::l,i+1,j,hi,hj=>by
  rw[List.flatMap_cons,List.getElem?_append_right (by rw[hf,Nat.add_mul];omega),hf,show(i+1) * s+j-s=i * s+j by rw[Nat.add_mul];omega,flat_get hf l i j (by simpa using hi) hj];rfl
end Go.Proofs.YthomhkpedghhgaaGreatDoor.Sl
namespace Go.Proofs.YthomhkpedghhgaaGreatDoor.Sl
open Go Go.RowKit Sh
variable {P:Program} {W:World} {L L':List HP} {Kp:PK} {k:Value->WP} {H:Type} {enc:TypeId × Value->H}
def I (n:Int):Value:= .int .i64 n
def An (n:Nat)(f:Nat->Int):Array Value:=((List.range n).map fun j=>I (f j)).toArray
theorem An_size (n:Nat)(f:Nat->Int):(An n f).size=n:=by simp[An]
theorem An_get {n j:Nat}{f:Nat->Int}(h:j<n):(An n f)[j]? =some (I (f j)):=by simp[An,h]
theorem An_congr {n:Nat}{f g:Nat->Int}(h:∀j,j<n->f j=g j):An n f=An n g:=by
 unfold An
 congr 1
 exact List.map_congr_left fun j hj=>by rw[h j (List.mem_range.1 hj)]
theorem An_set {n j:Nat}{f:Nat->Int}{v:Int}:(An n f).setIfInBounds j (I v)=An n fun i=>if i=j then v else f i:=by
 apply Array.ext_getElem?
 intro i
 rw[Array.getElem?_setIfInBounds,An_size]
 by_cases c:j=i
 ·subst c
  rw[if_pos rfl]
  by_cases h:j<n
  ·rw[if_pos h,An_get h];simp
  ·rw[if_neg h,Array.getElem?_eq_none (by rw[An_size];omega)]
 ·rw[if_neg c]
  by_cases h:i<n
  ·rw[An_get h,An_get h,if_neg (fun e=>c e.symm)]
  ·rw[Array.getElem?_eq_none (by rw[An_size];omega),Array.getElem?_eq_none (by rw[An_size];omega)]
end Go.Proofs.YthomhkpedghhgaaGreatDoor.Sl
namespace Go.Proofs.YthomhkpedghhgaaGreatDoor.S
open Go Sh Sl
theorem wide:p_.follows .mixedOrders=true:=by kernel_rfl
theorem sh_ {f:FuncId}{fn:Func}{an:Ann}{args:List Value}{sh:PK->(Value->WP)->WP}(hc:∀(a:Array Value) (w:World),(callFunc f a).run p_ w= .ok (.enter f a) w)(hf:p_.funcs[f]? =some fn)(he:∀Kp K,cevF p_ an fn args Kp K=sh Kp K):Shp p_ f args sh:=shp wide hc hf he
theorem shD_ {f:FuncId}{fn:Func}{an:Ann}{args:List Value}{sh:PK->(Value->WP)->WP}(hc:∀(a:Array Value) (w:World),(callFunc f a).run p_ w= .ok (.enter f a) w)(hf:p_.funcs[f]? =some fn)(he:∀Kp K,cevFD p_ an fn args Kp K=sh Kp K):Shp p_ f args sh:=shpD wide hc hf he
theorem shT_ {f:FuncId}{fn:Func}{an:Ann}{args:List Value}{sh:PK->(Value->WP)->WP}(hc:∀(a:Array Value) (w:World),(callFunc f a).run p_ w= .ok (.enter f a) w)(hf:p_.funcs[f]? =some fn)(he:∀Kp K,cevFT p_ an fn args Kp K=sh Kp K):Shp p_ f args sh:=shpT wide hc hf he
def lit0:List UInt8:=[48,48,48,49,48,50,48,51,48,52,48,53,48,54,48,55,48,56,48,57,49,48,49,49,49,50,49,51,49,52,49,53,49,54,49,55,49,56,49,57,50,48,50,49,50,50,50,51,50,52,50,53,50,54,50,55,50,56,50,57,51,48,51,49,51,50,51,51,51,52,51,53,51,54,51,55,51,56,51,57,52,48,52,49,52,50,52,51,52,52,52,53,52,54,52,55,52,56,52,57,53,48,53,49,53,50,53,51,53,52,53,53,53,54,53,55,53,56,53,57,54,48,54,49,54,50,54,51,54,52,54,53,54,54,54,55,54,56,54,57,55,48,55,49,55,50,55,51,55,52,55,53,55,54,55,55,55,56,55,57,56,48,56,49,56,50,56,51,56,52,56,53,56,54,56,55,56,56,56,57,57,48,57,49,57,50,57,51,57,52,57,53,57,54,57,55,57,56,57,57]
def lit1:List UInt8:=[0,1,2,2,3,3,3,3,4,4,4,4,4,4,4,4,5,5,5,5,5,5,5,5,5,5,5,5,5,5,5,5,6,6,6,6,6,6,6,6,6,6,6,6,6,6,6,6,6,6,6,6,6,6,6,6,6,6,6,6,6,6,6,6,7,7,7,7,7,7,7,7,7,7,7,7,7,7,7,7,7,7,7,7,7,7,7,7,7,7,7,7,7,7,7,7,7,7,7,7,7,7,7,7,7,7,7,7,7,7,7,7,7,7,7,7,7,7,7,7,7,7,7,7,7,7,7,7,8,8,8,8,8,8,8,8,8,8,8,8,8,8,8,8,8,8,8,8,8,8,8,8,8,8,8,8,8,8,8,8,8,8,8,8,8,8,8,8,8,8,8,8,8,8,8,8,8,8,8,8,8,8,8,8,8,8,8,8,8,8,8,8,8,8,8,8,8,8,8,8,8,8,8,8,8,8,8,8,8,8,8,8,8,8,8,8,8,8,8,8,8,8,8,8,8,8,8,8,8,8,8,8,8,8,8,8,8,8,8,8,8,8,8,8,8,8,8,8,8,8,8,8,8,8,8,8]
def law23_CacheServes (v0 v1:Value)(Kp:PK)(K:Value→WP):WP:=
 opN p_ (sBin .rem 3 v0 (.int .i64 100000)) Kp fun x17=>
 opN p_ (sBin .add 3 x17 (.int .i64 100000)) Kp fun x18=>
 opN p_ (sBin .rem 3 x18 (.int .i64 100000)) Kp fun x19=>
 opN p_ (sCall (fn 7) [x19]) Kp fun x22=>
 opN p_ (sExt x22 0) Kp fun x23=>
 opN p_ (sExt x22 1) Kp fun x24=>
 opN p_ (sCall (fn 8) [x24]) Kp fun x26=>
 opN p_ (sEq .neq 3 (.tmp 26) (.const (.int .i64 0)) x26 (.int .i64 0)) Kp fun x27=>
 gdK x27 false (fun k=>k x23) fun x29=>
 gdK x27 false (opN p_ (sEq .eql 23 (.tmp 29) (.const (.pointer none)) x29 (.pointer none)) Kp) fun x30=>
 opN p_ (sPick x27 (.bool true) x30) Kp fun x31=>
 gdK x31 false (opN p_ (sCall (fn 9) []) Kp) fun x33=>
 gdK x31 false (opN p_ (sUn .not x33) Kp) fun x34=>
 opN p_ (sPick x31 (.bool true) x34) Kp fun x35=>
 condS x35
 (K (.bool false))
 (loop1 (fun I1 m1 _ y7=>
 opN p_ (sLen #[22] 3 [v1]) Kp fun x38=>
 opN p_ (sBin .lss 3 y7 x38) Kp fun x39=>
 condS x39
 (opN p_ (sIA 22 v1 y7) Kp fun x44=>
 opN p_ (sLoad 36 x44) Kp fun x45=>
 opN p_ (sAlloc 36) Kp fun x8=>
 opN p_ (sStore 36 x8 x45) Kp fun _=>
 opN p_ (sFA 36 x8 0) Kp fun x46=>
 opN p_ (sLoad 3 x46) Kp fun x47=>
 opN p_ (sEq .eql 3 (.tmp 47) (.const (.int .i64 0)) x47 (.int .i64 0)) Kp fun x48=>
 condS x48
 (drS (stD p_ (sFA 36 x8 1) fun D1 x50=>
 stD p_ (sLoad 9 x50) fun D2 x51=>
 stS p_ (sFA 36 x8 2) fun x52=>
 stS p_ (sLoad 31 x52) fun x53=>
 stD p_ (sFA 36 x8 3) fun D6 x55=>
 stD p_ (sLoad 34 x55) fun D7 x56=>
 stD p_ (sFA 36 x8 4) fun D9 x58=>
 stD p_ (sLoad 3 x58) fun D10 x59=>
 stD p_ (sFA 36 x8 5) fun D11 x60=>
 stD p_ (sLoad 3 x60) fun D12 x61=>
 opN p_ (sCall (fn 11) [x53]) Kp fun x54=>
 (fun w=>D12 w∧(fun w=>D11 w∧(fun w=>D10 w∧(fun w=>D9 w∧(fun w=>D7 w∧(fun w=>D6 w∧(fun w=>D2 w∧(fun w=>D1 w∧(opN p_ (sCall (fn 12) [x56]) Kp fun x57=>
 (fun w=>D12 w∧(fun w=>D11 w∧(fun w=>D10 w∧(fun w=>D9 w∧(fun w=>D2 w∧(fun w=>D1 w∧(opN p_ (sCall (fn 10) [x23,x51,x54,x57,x59,x61]) Kp fun x62=>
 opN p_ (sBin .add 3 y7 (.int .i64 1)) Kp fun x41=>
 next1 I1 m1 x41) w) w) w) w) w) w)) w) w) w) w) w) w) w) w)))
 (cut3 (fun J1=>
 drS (stD p_ (sFA 36 x8 1) fun D1 x65=>
 stD p_ (sLoad 9 x65) fun D2 x66=>
 stD p_ (sFA 36 x8 2) fun D3 x67=>
 stD p_ (sLoad 31 x67) fun D4 x68=>
 stD p_ (sFA 36 x8 5) fun D6 x70=>
 stD p_ (sLoad 3 x70) fun D7 x71=>
 andS (opN p_ (sCall (fn 11) [x68]) Kp fun x69=>
 (fun w=>D7 w∧(fun w=>D6 w∧(fun w=>D2 w∧(fun w=>D1 w∧(andS (opN p_ (sCall (fn 13) [x23,x66,x69,x71]) Kp fun x72=>
 stD p_ (sExt x72 0) fun D10 x73=>
 stD p_ (sExt x72 1) fun D11 x74=>
 stD p_ (sExt x72 2) fun D12 x75=>
 opN p_ (sAlloc 34) Kp fun x9=>
 (fun w=>D12 w∧(fun w=>D11 w∧(fun w=>D10 w∧(fun w=>D7 w∧(fun w=>D6 w∧(fun w=>D4 w∧(fun w=>D3 w∧(fun w=>D2 w∧(fun w=>D1 w∧(opN p_ (sStore 34 x9 x73) Kp fun _=>
 (fun w=>D12 w∧(fun w=>D11 w∧(J1 x9 x74 x75) w) w)) w) w) w) w) w) w) w) w) w))
 (opN p_ (sAlloc 34) Kp fun x9=>
 (fun w=>D7 w∧(fun w=>D6 w∧(fun w=>D4 w∧(fun w=>D3 w∧(fun w=>D2 w∧(fun w=>D1 w∧(opN p_ (sCall (fn 13) [x23,x66,x69,x71]) Kp fun x72=>
 stS p_ (sExt x72 0) fun x73=>
 stD p_ (sExt x72 1) fun D11 x74=>
 stD p_ (sExt x72 2) fun D12 x75=>
 opN p_ (sStore 34 x9 x73) Kp fun _=>
 (fun w=>D12 w∧(fun w=>D11 w∧(J1 x9 x74 x75) w) w)) w) w) w) w) w) w))) w) w) w) w))
 (opN p_ (sAlloc 34) Kp fun x9=>
 (fun w=>D7 w∧(fun w=>D6 w∧(fun w=>D4 w∧(fun w=>D3 w∧(fun w=>D2 w∧(fun w=>D1 w∧(opN p_ (sCall (fn 11) [x68]) Kp fun x69=>
 (fun w=>D7 w∧(fun w=>D6 w∧(fun w=>D2 w∧(fun w=>D1 w∧(opN p_ (sCall (fn 13) [x23,x66,x69,x71]) Kp fun x72=>
 stS p_ (sExt x72 0) fun x73=>
 stD p_ (sExt x72 1) fun D11 x74=>
 stD p_ (sExt x72 2) fun D12 x75=>
 opN p_ (sStore 34 x9 x73) Kp fun _=>
 (fun w=>D12 w∧(fun w=>D11 w∧(J1 x9 x74 x75) w) w)) w) w) w) w)) w) w) w) w) w) w)))) fun _ z9 z10 z11=>
 opN p_ (sEq .eql 3 (.tmp 76) (.const (.int .i64 0)) z11 (.int .i64 0)) Kp fun x77=>
 condS x77
 (opN p_ (sFA 34 z9 0) Kp fun x78=>
 opN p_ (sLoad 3 x78) Kp fun x79=>
 opN p_ (sEq .neq 3 (.tmp 79) (.const (.int .i64 0)) x79 (.int .i64 0)) Kp fun x80=>
 gdK x80 false (fun k=>k z10) fun x82=>
 gdK x80 false (opN p_ (sEq .neq 3 (.tmp 82) (.const (.int .i64 0)) x82 (.int .i64 0)) Kp) fun x83=>
 opN p_ (sPick x80 (.bool true) x83) Kp fun x84=>
 condS x84
 (K (.bool false))
 (opN p_ (sBin .add 3 y7 (.int .i64 1)) Kp fun x41=>
 next1 I1 m1 x41))
 (loop2 (fun I2 m2 _ y12 y13=>
 opN p_ (sBin .lss 3 y13 y7) Kp fun x87=>
 gdK x87 true (fun k=>k y12) fun x89=>
 gdK x87 true (opN p_ (sUn .not x89) Kp) fun x90=>
 opN p_ (sPick x87 x90 (.bool false)) Kp fun x91=>
 condS x91
 (opN p_ (sIA 22 v1 y13) Kp fun x96=>
 opN p_ (sLoad 36 x96) Kp fun x97=>
 opN p_ (sAlloc 36) Kp fun x14=>
 opN p_ (sStore 36 x14 x97) Kp fun _=>
 opN p_ (sFA 36 x14 0) Kp fun x98=>
 opN p_ (sLoad 3 x98) Kp fun x99=>
 opN p_ (sEq .neq 3 (.tmp 99) (.const (.int .i64 0)) x99 (.int .i64 0)) Kp fun x100=>
 gdK x100 false (opN p_ (sFA 36 x14 1) Kp) fun x102=>
 gdK x100 false (opN p_ (sLoad 9 x102) Kp) fun x103=>
 gdK x100 false (opN p_ (sFA 36 x8 1) Kp) fun x104=>
 gdK x100 false (opN p_ (sLoad 9 x104) Kp) fun x105=>
 gdK x100 false (opN p_ (sEq .neq 9 (.tmp 103) (.tmp 105) x103 x105) Kp) fun x106=>
 opN p_ (sPick x100 (.bool true) x106) Kp fun x107=>
 gdK x107 false (opN p_ (sFA 36 x14 2) Kp) fun x109=>
 gdK x107 false (opN p_ (sLoad 31 x109) Kp) fun x110=>
 gdK x107 false (opN p_ (sFA 36 x14 3) Kp) fun x111=>
 gdK x107 false (opN p_ (sLoad 34 x111) Kp) fun x112=>
 gdK x107 false (opN p_ (sCall (fn 14) [x110,x112]) Kp) fun x113=>
 gdK x107 false (opN p_ (sUn .not x113) Kp) fun x114=>
 opN p_ (sPick x107 (.bool true) x114) Kp fun x115=>
 gdK x115 false (opN p_ (sFA 36 x14 2) Kp) fun x117=>
 gdK x115 false (opN p_ (sLoad 31 x117) Kp) fun x118=>
 gdK x115 false (opN p_ (sFA 36 x8 2) Kp) fun x119=>
 gdK x115 false (opN p_ (sLoad 31 x119) Kp) fun x120=>
 gdK x115 false (opN p_ (sFA 36 x14 3) Kp) fun x121=>
 gdK x115 false (opN p_ (sLoad 34 x121) Kp) fun x122=>
 gdK x115 false (opN p_ (sCall (fn 15) [x118,x120,x122]) Kp) fun x123=>
 gdK x115 false (opN p_ (sUn .not x123) Kp) fun x124=>
 opN p_ (sPick x115 (.bool true) x124) Kp fun x125=>
 gdK x125 false (opN p_ (sFA 36 x14 3) Kp) fun x127=>
 gdK x125 false (opN p_ (sFA 34 x127 2) Kp) fun x128=>
 gdK x125 false (opN p_ (sLoad 32 x128) Kp) fun x129=>
 gdK x125 false (opN p_ (sConv 32 9 x129) Kp) fun x130=>
 gdK x125 false (opN p_ (sFA 34 z9 2) Kp) fun x131=>
 gdK x125 false (opN p_ (sLoad 32 x131) Kp) fun x132=>
 gdK x125 false (opN p_ (sConv 32 9 x132) Kp) fun x133=>
 gdK x125 false (opN p_ (sEq .neq 9 (.tmp 130) (.tmp 133) x130 x133) Kp) fun x134=>
 opN p_ (sPick x125 (.bool true) x134) Kp fun x135=>
 condS x135
 (opN p_ (sBin .add 3 y13 (.int .i64 1)) Kp fun x93=>
 next2 I2 m2 y12 x93)
 (cut1 (fun J2=>
 drS (stS p_ (sFA 36 x14 3) fun x136=>
 stS p_ (sFA 34 x136 0) fun x137=>
 stS p_ (sLoad 3 x137) fun x138=>
 stS p_ (sFA 34 z9 0) fun x139=>
 stS p_ (sLoad 3 x139) fun x140=>
 stS p_ (sEq .eql 3 (.tmp 138) (.tmp 140) x138 x140) fun x141=>
 gdD x141 true (stD p_ (sFA 36 x14 3)) fun D7 x143=>
 gdD x141 true (stD p_ (sFA 34 x143 1)) fun D8 x144=>
 gdD x141 true (stD p_ (sLoad 29 x144)) fun D9 x145=>
 gdD x141 true (stD p_ (sFA 34 z9 1)) fun D12 x148=>
 gdD x141 true (stD p_ (sLoad 29 x148)) fun D13 x149=>
 andS (gdK x141 true (opN p_ (sBuildSl 46 1 [(0,(.string ⟨#[97,103,101]⟩))]) Kp) fun x146=>
 (fun w=>D13 w∧(fun w=>D12 w∧(fun w=>D9 w∧(fun w=>D8 w∧(fun w=>D7 w∧(andS (gdK x141 true (opN p_ (sCall (fn 17) [x145,x146]) Kp) fun x147=>
 (fun w=>D13 w∧(fun w=>D12 w∧(gdK x141 true (opN p_ (sBuildSl 46 1 [(0,(.string ⟨#[97,103,101]⟩))]) Kp) fun x150=>
 (fun w=>D13 w∧(fun w=>D12 w∧(fun w=>D9 w∧(fun w=>D8 w∧(fun w=>D7 w∧(gdK x141 true (opN p_ (sCall (fn 17) [x149,x150]) Kp) fun x151=>
 gdK x141 true (opN p_ (sCall (fn 16) [x147,x151]) Kp) fun x152=>
 stS p_ (sPick x141 x152 (.bool false)) fun x153=>
 J2 x153) w) w) w) w) w)) w) w))
 (gdK x141 true (opN p_ (sBuildSl 46 1 [(0,(.string ⟨#[97,103,101]⟩))]) Kp) fun x150=>
 (fun w=>D13 w∧(fun w=>D12 w∧(fun w=>D9 w∧(fun w=>D8 w∧(fun w=>D7 w∧(gdK x141 true (opN p_ (sCall (fn 17) [x145,x146]) Kp) fun x147=>
 (fun w=>D13 w∧(fun w=>D12 w∧(gdK x141 true (opN p_ (sCall (fn 17) [x149,x150]) Kp) fun x151=>
 gdK x141 true (opN p_ (sCall (fn 16) [x147,x151]) Kp) fun x152=>
 stS p_ (sPick x141 x152 (.bool false)) fun x153=>
 J2 x153) w) w)) w) w) w) w) w))) w) w) w) w) w))
 (gdK x141 true (opN p_ (sBuildSl 46 1 [(0,(.string ⟨#[97,103,101]⟩))]) Kp) fun x150=>
 (fun w=>D13 w∧(fun w=>D12 w∧(fun w=>D9 w∧(fun w=>D8 w∧(fun w=>D7 w∧(gdK x141 true (opN p_ (sBuildSl 46 1 [(0,(.string ⟨#[97,103,101]⟩))]) Kp) fun x146=>
 (fun w=>D13 w∧(fun w=>D12 w∧(fun w=>D9 w∧(fun w=>D8 w∧(fun w=>D7 w∧(gdK x141 true (opN p_ (sCall (fn 17) [x145,x146]) Kp) fun x147=>
 (fun w=>D13 w∧(fun w=>D12 w∧(gdK x141 true (opN p_ (sCall (fn 17) [x149,x150]) Kp) fun x151=>
 gdK x141 true (opN p_ (sCall (fn 16) [x147,x151]) Kp) fun x152=>
 stS p_ (sPick x141 x152 (.bool false)) fun x153=>
 J2 x153) w) w)) w) w) w) w) w)) w) w) w) w) w)))) fun _ z12=>
 opN p_ (sFA 36 x14 5) Kp fun x154=>
 opN p_ (sLoad 3 x154) Kp fun x155=>
 opN p_ (sMin #[3,3] 3 [x155,(.int .i64 1099511627776)]) Kp fun x156=>
 opN p_ (sMax #[3,3] 3 [(.int .i64 0),x156]) Kp fun x157=>
 gdK z12 true (fun k=>k z11) fun x160=>
 gdK z12 true (opN p_ (sEq .neq 3 (.tmp 160) (.const (.int .i64 1)) x160 (.int .i64 1)) Kp) fun x161=>
 gdK z12 true (fun k=>k x161) fun x162=>
 gdK x162 false (fun k=>k z10) fun x163=>
 gdK x162 false (opN p_ (sFA 36 x14 3) Kp) fun x164=>
 gdK x162 false (opN p_ (sLoad 34 x164) Kp) fun x165=>
 gdK x162 false (fun k=>k x157) fun x166=>
 gdK x162 false (opN p_ (sCall (fn 18) [x165,x166]) Kp) fun x167=>
 gdK x162 false (opN p_ (sBin .lss 3 x163 x167) Kp) fun x168=>
 gdK x162 false (fun k=>k x168) fun x169=>
 gdK x169 true (fun k=>k z10) fun x170=>
 gdK x169 true (opN p_ (sFA 36 x14 3) Kp) fun x171=>
 gdK x169 true (opN p_ (sLoad 34 x171) Kp) fun x172=>
 gdK x169 true (opN p_ (sFA 36 x14 4) Kp) fun x173=>
 gdK x169 true (opN p_ (sLoad 3 x173) Kp) fun x174=>
 gdK x169 true (opN p_ (sFA 36 x14 5) Kp) fun x175=>
 gdK x169 true (opN p_ (sLoad 3 x175) Kp) fun x176=>
 gdK x169 true (opN p_ (sFA 36 x8 5) Kp) fun x177=>
 gdK x169 true (opN p_ (sLoad 3 x177) Kp) fun x178=>
 gdK x169 true (opN p_ (sCall (fn 19) [x172,x174,x176,x178]) Kp) fun x179=>
 gdK x169 true (opN p_ (sEq .eql 3 (.tmp 170) (.tmp 179) x170 x179) Kp) fun x180=>
 gdK x162 false (opN p_ (sPick x169 x180 (.bool false)) Kp) fun x181=>
 gdK z12 true (opN p_ (sPick x162 (.bool true) x181) Kp) fun x182=>
 opN p_ (sPick z12 x182 (.bool false)) Kp fun x183=>
 opN p_ (sBin .add 3 y13 (.int .i64 1)) Kp fun x93=>
 next2 I2 m2 x183 x93))
 (opN p_ (sUn .not y12) Kp fun x185=>
 condS x185
 (K (.bool false))
 (opN p_ (sBin .add 3 y7 (.int .i64 1)) Kp fun x41=>
 next1 I1 m1 x41))) (.bool false) (.int .i64 0))))
 (K (.bool true))) (.int .i64 0))
theorem law23_CacheServes_s {v0 v1:Value}:Shp p_ 3 [v0,v1] (law23_CacheServes v0 v1):=sh_ Tryz.call3 Tryz.func3 (an:={loops:=[(6,[7]),(17,[12,13])],drs:=[(10,.ofL [(0,2),(1,3),(2,3),(3,1),(4,1),(6,3),(7,3),(9,3),(10,3),(11,3),(12,3),(5,0),(8,0),(13,0)]),(11,(.op 0 2 (.op 1 3 (.op 2 3 (.op 3 3 (.op 4 3 (.op 6 3 (.op 7 3 (.alt ((.op 5 0 (.alt (.ofL [(8,0),(9,2),(10,3),(11,3),(12,3),(13,0),(14,0),(15,1),(16,1)]) (.ofL [(13,0),(8,0),(9,1),(10,1),(11,3),(12,3),(14,0),(15,1),(16,1)])))) (.ofL [(13,0),(5,0),(8,0),(9,1),(10,1),(11,3),(12,3),(14,0),(15,1),(16,1)])))))))))),(21,(.op 0 1 (.op 1 1 (.op 2 1 (.op 3 1 (.op 4 1 (.op 5 1 (.op 6 1 (.op 7 3 (.op 8 3 (.op 9 3 (.op 12 3 (.op 13 3 (.alt ((.op 10 0 (.alt (.ofL [(11,0),(14,0),(15,0),(16,0),(17,1),(18,1)]) (.ofL [(14,0),(11,0),(15,0),(16,0),(17,1),(18,1)])))) (.ofL [(14,0),(10,0),(11,0),(15,0),(16,0),(17,1),(18,1)])))))))))))))))],rcuts:=[(12,[9,10,11]),(22,[12])]}) fun _ _=>by kernel_rfl
def cache_New (v0:Value)(Kp:PK)(K:Value→WP):WP:=
 opN p_ (sBin .lss 3 v0 (.int .i64 0)) Kp fun x5=>
 gdK x5 false (fun k=>k v0) fun x7=>
 gdK x5 false (opN p_ (sBin .gtr 3 x7 (.int .i64 1048576)) Kp) fun x8=>
 opN p_ (sPick x5 (.bool true) x8) Kp fun x9=>
 condS x9
 (K (.tuple #[(.pointer none),(.int .i64 1)]))
 (opN p_ (sMkMap 60 none) Kp fun x10=>
 opN p_ (sBuild 62 [(1,x10),(2,v0)]) Kp fun x12=>
 opN p_ (sBox 62 x12) Kp fun x13=>
 K (.tuple #[x13,(.int .i64 0)]))
theorem cache_New_s {v0:Value}:Shp p_ 7 [v0] (cache_New v0):=sh_ Tryz.call7 Tryz.func7 (an:={}) fun _ _=>by kernel_rfl
def law23_num (v0:Value)(Kp:PK)(K:Value->WP):WP:=
 K v0
theorem law23_num_s {v0:Value}:Shp p_ 8 [v0] (law23_num v0):=sh_ Tryz.call8 Tryz.func8 (an:={}) fun _ _=>by kernel_rfl
def law23_knows (Kp:PK)(K:Value→WP):WP:=
 opN p_ (sCall (fn 7) [(.int .i64 1000)]) Kp fun x14=>
 opN p_ (sExt x14 0) Kp fun x15=>
 opN p_ (sExt x14 1) Kp fun x16=>
 opN p_ (sBuild 31 [(0,(.string ⟨#[71,69,84]⟩))]) Kp fun x17=>
 opN p_ (sAlloc 31) Kp fun x3=>
 opN p_ (sStore 31 x3 x17) Kp fun _=>
 drS (opN p_ (sCall (fn 8) [x16]) Kp fun x19=>
 stS p_ (sEq .neq 3 (.tmp 19) (.const (.int .i64 0)) x19 (.int .i64 0)) fun x20=>
 gdK x20 false (fun k=>k x15) fun x22=>
 gdK x20 false (stS p_ (sEq .eql 23 (.tmp 22) (.const (.pointer none)) x22 (.pointer none))) fun x23=>
 stS p_ (sPick x20 (.bool true) x23) fun x24=>
 gdK x24 false (fun k=>k x15) fun x26=>
 gdD x24 false (stD p_ (sLoad 31 x3)) fun D9 x27=>
 gdK x24 false (opN p_ (sCall (fn 30) [(.string ⟨#[49,48]⟩)]) Kp) fun x28=>
 (fun w=>D9 w∧(gdK x24 false (opN p_ (sCall (fn 10) [x26,(.string ⟨#[107]⟩),x27,x28,(.int .i64 5),(.int .i64 5)]) Kp) fun x29=>
 gdK x24 false (stS p_ (sUn .not x29)) fun x30=>
 stS p_ (sPick x24 (.bool true) x30) fun x31=>
 condS x31
 (K (.bool false))
 (opN p_ (sLoad 31 x3) Kp fun x34=>
 opN p_ (sCall (fn 13) [x15,(.string ⟨#[107]⟩),x34,(.int .i64 14)]) Kp fun x35=>
 opN p_ (sExt x35 0) Kp fun x36=>
 opN p_ (sExt x35 1) Kp fun x37=>
 opN p_ (sExt x35 2) Kp fun x38=>
 opN p_ (sAlloc 34) Kp fun x4=>
 opN p_ (sStore 34 x4 x36) Kp fun _=>
 opN p_ (sLoad 31 x3) Kp fun x41=>
 opN p_ (sCall (fn 13) [x15,(.string ⟨#[107]⟩),x41,(.int .i64 15)]) Kp fun x42=>
 opN p_ (sExt x42 0) Kp fun x43=>
 opN p_ (sExt x42 1) Kp fun x44=>
 opN p_ (sExt x42 2) Kp fun x45=>
 opN p_ (sAlloc 34) Kp fun x7=>
 opN p_ (sStore 34 x7 x43) Kp fun _=>
 opN p_ (sLoad 31 x3) Kp fun x48=>
 opN p_ (sCall (fn 13) [x15,(.string ⟨#[111,116,104,101,114]⟩),x48,(.int .i64 14)]) Kp fun x49=>
 opN p_ (sExt x49 0) Kp fun x50=>
 opN p_ (sExt x49 1) Kp fun x51=>
 opN p_ (sExt x49 2) Kp fun x52=>
 opN p_ (sAlloc 34) Kp fun x10=>
 opN p_ (sStore 34 x10 x50) Kp fun _=>
 opN p_ (sEq .eql 3 (.tmp 53) (.const (.int .i64 1)) x38 (.int .i64 1)) Kp fun x54=>
 gdK x54 true (fun k=>k x37) fun x56=>
 gdK x54 true (opN p_ (sEq .eql 3 (.tmp 56) (.const (.int .i64 9)) x56 (.int .i64 9)) Kp) fun x57=>
 opN p_ (sPick x54 x57 (.bool false)) Kp fun x58=>
 gdK x58 true (opN p_ (sFA 34 x4 2) Kp) fun x60=>
 gdK x58 true (opN p_ (sLoad 32 x60) Kp) fun x61=>
 gdK x58 true (opN p_ (sConv 32 9 x61) Kp) fun x62=>
 gdK x58 true (opN p_ (sEq .eql 9 (.tmp 62) (.const (.string ⟨#[120]⟩)) x62 (.string ⟨#[120]⟩)) Kp) fun x63=>
 opN p_ (sPick x58 x63 (.bool false)) Kp fun x64=>
 gdK x64 true (fun k=>k x45) fun x66=>
 gdK x64 true (opN p_ (sEq .eql 3 (.tmp 66) (.const (.int .i64 2)) x66 (.int .i64 2)) Kp) fun x67=>
 opN p_ (sPick x64 x67 (.bool false)) Kp fun x68=>
 gdK x68 true (fun k=>k x52) fun x70=>
 gdK x68 true (opN p_ (sEq .eql 3 (.tmp 70) (.const (.int .i64 0)) x70 (.int .i64 0)) Kp) fun x71=>
 opN p_ (sPick x68 x71 (.bool false)) Kp fun x72=>
 K x72)) w))
theorem law23_knows_s  :Shp p_ 9 [] (law23_knows):=sh_ Tryz.call9 Tryz.func9 (an:={drs:=[(3,.ofL [(0,1),(1,0),(2,1),(3,1),(4,1),(5,1),(6,1),(7,1),(8,2),(9,3),(10,0),(11,0),(12,1),(13,1)])]}) fun _ _=>by kernel_rfl
def cache_Cache_Store (v0 v1 v2 v3 v4 v5:Value)(Kp:PK)(K:Value→WP):WP:=
 opN p_ (sBox 31 v2) Kp fun x8=>
 opN p_ (sBox 34 v3) Kp fun x9=>
 opN p_ (sCall (fn 31) [v0]) Kp fun x17=>
 gdK x17 false (opN p_ (sLoad 31 x8) Kp) fun x19=>
 gdK x17 false (opN p_ (sLoad 34 x9) Kp) fun x20=>
 gdK x17 false (opN p_ (sCall (fn 20) [x19,x20]) Kp) fun x21=>
 gdK x17 false (opN p_ (sUn .not x21) Kp) fun x22=>
 opN p_ (sPick x17 (.bool true) x22) Kp fun x23=>
 condS x23
 (K (.bool false))
 (drS (stD p_ (sFA 31 x8 0) fun D1 x25=>
 stD p_ (sLoad 9 x25) fun D2 x26=>
 stS p_ (sFA 31 x8 3) fun x27=>
 stS p_ (sLoad 29 x27) fun x28=>
 stD p_ (sFA 31 x8 3) fun D6 x30=>
 stD p_ (sLoad 29 x30) fun D7 x31=>
 stD p_ (sLoad 34 x9) fun D8 x32=>
 stD p_ (sLoad 34 x9) fun D10 x34=>
 opN p_ (sCall (fn 32) [x28]) Kp fun x29=>
 (fun w=>D10 w∧(fun w=>D8 w∧(fun w=>D7 w∧(fun w=>D6 w∧(fun w=>D2 w∧(fun w=>D1 w∧(opN p_ (sCall (fn 33) [x31,x32]) Kp fun x33=>
 (fun w=>D10 w∧(fun w=>D2 w∧(fun w=>D1 w∧(opN p_ (sCall (fn 34) [x34]) Kp fun x35=>
 (fun w=>D2 w∧(fun w=>D1 w∧(opN p_ (sCall (fn 35) [v4]) Kp fun x37=>
 (fun w=>D2 w∧(fun w=>D1 w∧(opN p_ (sCall (fn 35) [v5]) Kp fun x39=>
 (fun w=>D2 w∧(fun w=>D1 w∧(stS p_ (sBuild 72 [(0,v1),(1,x26),(2,x29),(3,x33),(4,x35),(5,x37),(6,x39)]) fun x40=>
 opN p_ (sBox 72 x40) Kp fun x41=>
 drS (stD p_ (sLen #[9] 3 [v1]) fun D2 x44=>
 stD p_ (sFA 34 x9 2) fun D3 x45=>
 stD p_ (sLoad 32 x45) fun D4 x46=>
 stD p_ (sLen #[32] 3 [x46]) fun D5 x47=>
 stD p_ (sBin .add 3 x44 x47) fun D6 x48=>
 stD p_ (sBin .add 3 x48 (.int .i64 64)) fun D7 x49=>
 stS p_ (sFA 34 x9 1) fun x50=>
 stS p_ (sLoad 29 x50) fun x51=>
 stD p_ (sNil x41) fun D13 x55=>
 stD p_ (sFA 72 x55 3) fun D14 x56=>
 stD p_ (sLoad 29 x56) fun D15 x57=>
 opN p_ (sCall (fn 36) [x51]) Kp fun x52=>
 (fun w=>D15 w∧(fun w=>D14 w∧(fun w=>D13 w∧(fun w=>D7 w∧(fun w=>D6 w∧(fun w=>D5 w∧(fun w=>D4 w∧(fun w=>D3 w∧(fun w=>D2 w∧(stD p_ (sBin .add 3 x49 x52) fun D11 x53=>
 opN p_ (sCall (fn 36) [x57]) Kp fun x58=>
 (fun w=>D11 w∧(fun w=>D7 w∧(fun w=>D6 w∧(fun w=>D5 w∧(fun w=>D4 w∧(fun w=>D3 w∧(fun w=>D2 w∧(stS p_ (sBin .add 3 x53 x58) fun x59=>
 stS p_ (sNil x41) fun x60=>
 stS p_ (sFA 72 x60 7) fun x61=>
 opN p_ (sStore 3 x61 x59) Kp fun _=>
 drS (stS p_ (sNil x41) fun x63=>
 stS p_ (sFA 72 x63 7) fun x64=>
 stS p_ (sLoad 3 x64) fun x65=>
 stS p_ (sNil v0) fun x67=>
 stS p_ (sFA 62 x67 2) fun x68=>
 stS p_ (sLoad 3 x68) fun x69=>
 stS p_ (sBin .gtr 3 x65 x69) fun x70=>
 condS x70
 (K (.bool false))
 (opN p_ (sNil v0) Kp fun x72=>
 opN p_ (sFA 62 x72 1) Kp fun x73=>
 opN p_ (sLoad 60 x73) Kp fun x74=>
 opN p_ (sLook 60 x74 v1 false) Kp fun x76=>
 opN p_ (sCall (fn 37) [x76]) Kp fun x77=>
 opN p_ (sLen #[57] 3 [x77]) Kp fun x78=>
 loop1 (fun I1 m1 _ y79=>
 opN p_ (sBin .lss 3 y79 x78) Kp fun x80=>
 condS x80
 (opN p_ (sIA 57 x77 y79) Kp fun x81=>
 opN p_ (sLoad 65 x81) Kp fun x82=>
 opN p_ (sFA 31 x8 3) Kp fun x84=>
 opN p_ (sLoad 29 x84) Kp fun x85=>
 opN p_ (sCall (fn 38) [x82,x85]) Kp fun x86=>
 condS x86
 (opN p_ (sCall (fn 39) [v0,x82]) Kp fun x89=>
 opN p_ (sBin .add 3 y79 (.int .i64 1)) Kp fun x90=>
 next1 I1 m1 x90)
 (opN p_ (sBin .add 3 y79 (.int .i64 1)) Kp fun x90=>
 next1 I1 m1 x90))
 (loop0 (fun I2 m2 _  =>
 drS (stS p_ (sNil v0) fun x92=>
 stS p_ (sFA 62 x92 3) fun x93=>
 stS p_ (sLoad 3 x93) fun x94=>
 stS p_ (sNil v0) fun x96=>
 stS p_ (sFA 62 x96 2) fun x97=>
 stS p_ (sLoad 3 x97) fun x98=>
 stS p_ (sNil x41) fun x100=>
 stS p_ (sFA 72 x100 7) fun x101=>
 stS p_ (sLoad 3 x101) fun x102=>
 stS p_ (sBin .sub 3 x98 x102) fun x103=>
 stS p_ (sBin .gtr 3 x94 x103) fun x104=>
 condS x104
 (opN p_ (sNil v0) Kp fun x107=>
 opN p_ (sFA 62 x107 0) Kp fun x108=>
 opN p_ (sFA 59 x108 0) Kp fun x109=>
 opN p_ (sLoad 57 x109) Kp fun x110=>
 opN p_ (sIA 57 x110 (.int .i64 0)) Kp fun x111=>
 opN p_ (sLoad 65 x111) Kp fun x112=>
 opN p_ (sCall (fn 39) [v0,x112]) Kp fun x113=>
 next0 I2 m2)
 (drS (stD p_ (sNil v0) fun D1 x115=>
 stD p_ (sFA 62 x115 1) fun D2 x116=>
 stD p_ (sLoad 60 x116) fun D3 x117=>
 stD p_ (sNil v0) fun D6 x120=>
 stD p_ (sFA 62 x120 1) fun D7 x121=>
 stD p_ (sLoad 60 x121) fun D8 x122=>
 stD p_ (sLook 60 x122 v1 false) fun D10 x124=>
 opN p_ (sBuildSl 57 1 [(0,x41)]) Kp fun x126=>
 (fun w=>D10 w∧(fun w=>D8 w∧(fun w=>D7 w∧(fun w=>D6 w∧(fun w=>D3 w∧(fun w=>D2 w∧(fun w=>D1 w∧(opN p_ (sApp #[57,57] 57 [x124,x126]) Kp fun x127=>
 (fun w=>D3 w∧(fun w=>D2 w∧(fun w=>D1 w∧(opN p_ (sMapSet 60 x117 v1 x127) Kp fun _=>
 opN p_ (sNil v0) Kp fun x129=>
 opN p_ (sFA 62 x129 0) Kp fun x130=>
 opN p_ (sCall (fn 40) [x130,x41]) Kp fun x132=>
 drS (stS p_ (sNil v0) fun x134=>
 stS p_ (sFA 62 x134 3) fun x135=>
 stS p_ (sLoad 3 x135) fun x136=>
 stS p_ (sNil x41) fun x138=>
 stS p_ (sFA 72 x138 7) fun x139=>
 stS p_ (sLoad 3 x139) fun x140=>
 stS p_ (sBin .add 3 x136 x140) fun x141=>
 stS p_ (sNil v0) fun x142=>
 stS p_ (sFA 62 x142 3) fun x143=>
 opN p_ (sStore 3 x143 x141) Kp fun _=>
 K (.bool true))) w) w) w)) w) w) w) w) w) w) w))))))) (.int .i64 0)))) w) w) w) w) w) w) w)) w) w) w) w) w) w) w) w) w))) w) w)) w) w)) w) w)) w) w) w)) w) w) w) w) w) w)))
theorem cache_Cache_Store_s {v0 v1 v2 v3 v4 v5:Value}:Shp p_ 10 [v0,v1,v2,v3,v4,v5] (cache_Cache_Store v0 v1 v2 v3 v4 v5):=sh_ Tryz.call10 Tryz.func10 (an:={loops:=[(8,[79]),(13,[])],drs:=[(3,.ofL [(0,2),(1,3),(2,3),(3,1),(4,1),(6,3),(7,3),(8,3),(10,3),(12,2),(14,2),(5,0),(9,0),(11,0),(13,0),(15,0),(16,1),(17,0),(18,1)]),(4,.ofL [(0,2),(1,2),(2,3),(3,3),(4,3),(5,3),(6,3),(7,3),(8,1),(9,1),(12,2),(13,3),(14,3),(15,3),(10,0),(11,3),(16,0),(17,1),(18,1),(19,1),(20,0)]),(5,.ofL [(0,1),(1,1),(2,1),(3,1),(4,1),(5,1),(6,1),(7,1),(8,1)]),(13,.ofL [(0,1),(1,1),(2,1),(3,1),(4,1),(5,1),(6,1),(7,1),(8,1),(9,1),(10,1),(11,1),(12,1),(13,1)]),(15,.ofL [(0,2),(1,3),(2,3),(3,3),(4,2),(5,2),(6,3),(7,3),(8,3),(9,2),(10,3),(11,1),(12,0),(13,0),(14,0)]),(17,.ofL [(0,1),(1,1),(2,1),(3,1),(4,1),(5,1),(6,1),(7,1),(8,1),(9,1),(10,1),(11,0)])]}) fun _ _=>by kernel_rfl
def law23_asks (v0:Value)(Kp:PK)(K:Value->WP):WP:=
 opN p_ (sBox 31 v0) Kp fun x1=>
 opN p_ (sAlloc 31) Kp fun x2=>
 opN p_ (sBuildSl 29 0 []) Kp fun x3=>
 opN p_ (sFA 31 x1 3) Kp fun x4=>
 opN p_ (sLoad 29 x4) Kp fun x5=>
 opN p_ (sApp #[29,29] 29 [x3,x5]) Kp fun x6=>
 opN p_ (sFA 31 x1 3) Kp fun x7=>
 opN p_ (sStore 29 x7 x6) Kp fun _=>
 opN p_ (sLoad 31 x1) Kp fun x8=>
 opN p_ (sStore 31 x2 x8) Kp fun _=>
 (stS p_ (sRes 31 x2) fun r0=>K r0)
theorem law23_asks_s {v0:Value}:Shp p_ 11 [v0] (law23_asks v0):=sh_ Tryz.call11 Tryz.func11 (an:={}) fun _ _=>by kernel_rfl
def law23_copied (v0:Value)(Kp:PK)(K:Value→WP):WP:=
 opN p_ (sBox 34 v0) Kp fun x1=>
 opN p_ (sAlloc 34) Kp fun x2=>
 drS (stD p_ (sFA 34 x1 0) fun D0 x3=>
 stD p_ (sLoad 3 x3) fun D1 x4=>
 stD p_ (sFA 34 x1 1) fun D3 x6=>
 stD p_ (sLoad 29 x6) fun D4 x7=>
 stD p_ (sFA 34 x1 2) fun D7 x10=>
 stD p_ (sLoad 32 x10) fun D8 x11=>
 andS (opN p_ (sBuildSl 29 0 []) Kp fun x5=>
 (fun w=>D8 w∧(fun w=>D7 w∧(fun w=>D4 w∧(fun w=>D3 w∧(fun w=>D1 w∧(fun w=>D0 w∧(andS (opN p_ (sApp #[29,29] 29 [x5,x7]) Kp fun x8=>
 (fun w=>D8 w∧(fun w=>D7 w∧(fun w=>D1 w∧(fun w=>D0 w∧(opN p_ (sBuildSl 32 0 []) Kp fun x9=>
 (fun w=>D8 w∧(fun w=>D7 w∧(fun w=>D4 w∧(fun w=>D3 w∧(fun w=>D1 w∧(fun w=>D0 w∧(opN p_ (sApp #[32,32] 32 [x9,x11]) Kp fun x12=>
 (fun w=>D1 w∧(fun w=>D0 w∧(stS p_ (sBuild 34 [(0,x4),(1,x8),(2,x12)]) fun x13=>
 opN p_ (sStore 34 x2 x13) Kp fun _=>
 (stS p_ (sRes 34 x2) fun r0=>K r0)) w) w)) w) w) w) w) w) w)) w) w) w) w))
 (opN p_ (sBuildSl 32 0 []) Kp fun x9=>
 (fun w=>D8 w∧(fun w=>D7 w∧(fun w=>D4 w∧(fun w=>D3 w∧(fun w=>D1 w∧(fun w=>D0 w∧(opN p_ (sApp #[29,29] 29 [x5,x7]) Kp fun x8=>
 (fun w=>D8 w∧(fun w=>D7 w∧(fun w=>D1 w∧(fun w=>D0 w∧(opN p_ (sApp #[32,32] 32 [x9,x11]) Kp fun x12=>
 (fun w=>D1 w∧(fun w=>D0 w∧(stS p_ (sBuild 34 [(0,x4),(1,x8),(2,x12)]) fun x13=>
 opN p_ (sStore 34 x2 x13) Kp fun _=>
 (stS p_ (sRes 34 x2) fun r0=>K r0)) w) w)) w) w) w) w)) w) w) w) w) w) w))) w) w) w) w) w) w))
 (opN p_ (sBuildSl 32 0 []) Kp fun x9=>
 (fun w=>D8 w∧(fun w=>D7 w∧(fun w=>D4 w∧(fun w=>D3 w∧(fun w=>D1 w∧(fun w=>D0 w∧(opN p_ (sBuildSl 29 0 []) Kp fun x5=>
 (fun w=>D8 w∧(fun w=>D7 w∧(fun w=>D4 w∧(fun w=>D3 w∧(fun w=>D1 w∧(fun w=>D0 w∧(opN p_ (sApp #[29,29] 29 [x5,x7]) Kp fun x8=>
 (fun w=>D8 w∧(fun w=>D7 w∧(fun w=>D1 w∧(fun w=>D0 w∧(opN p_ (sApp #[32,32] 32 [x9,x11]) Kp fun x12=>
 (fun w=>D1 w∧(fun w=>D0 w∧(stS p_ (sBuild 34 [(0,x4),(1,x8),(2,x12)]) fun x13=>
 opN p_ (sStore 34 x2 x13) Kp fun _=>
 (stS p_ (sRes 34 x2) fun r0=>K r0)) w) w)) w) w) w) w)) w) w) w) w) w) w)) w) w) w) w) w) w)))
theorem law23_copied_s {v0:Value}:Shp p_ 12 [v0] (law23_copied v0):=sh_ Tryz.call12 Tryz.func12 (an:={drs:=[(1,(.op 0 3 (.op 1 3 (.op 3 3 (.op 4 3 (.op 7 3 (.op 8 3 (.alt ((.op 2 0 (.alt (.ofL [(5,0),(6,0),(9,0),(10,1),(11,0)]) (.ofL [(6,0),(5,0),(9,0),(10,1),(11,0)])))) (.ofL [(6,0),(2,0),(5,0),(9,0),(10,1),(11,0)])))))))))]}) fun _ _=>by kernel_rfl
def cache_Cache_Look (v0 v1 v2 v3:Value)(Kp:PK)(K:Value→WP):WP:=
 opN p_ (sBox 31 v2) Kp fun x6=>
 opN p_ (sAlloc 34) Kp fun x8=>
 opN p_ (sCall (fn 31) [v0]) Kp fun x22=>
 condS x22
 (opN p_ (sBuild 34 []) Kp fun x23=>
 opN p_ (sStore 34 x8 x23) Kp fun _=>
 (stS p_ (sRes 34 x8) fun r0=>K (.tuple #[r0,(.int .i64 0),(.int .i64 0)])))
 (opN p_ (sFA 31 x6 3) Kp fun x26=>
 opN p_ (sLoad 29 x26) Kp fun x27=>
 opN p_ (sCall (fn 41) [v0,v1,x27]) Kp fun x28=>
 opN p_ (sEq .eql 65 (.tmp 29) (.const (.pointer none)) x28 (.pointer none)) Kp fun x30=>
 condS x30
 (opN p_ (sBuild 34 []) Kp fun x31=>
 opN p_ (sStore 34 x8 x31) Kp fun _=>
 (stS p_ (sRes 34 x8) fun r0=>K (.tuple #[r0,(.int .i64 0),(.int .i64 0)])))
 (opN p_ (sNil v0) Kp fun x33=>
 opN p_ (sFA 62 x33 0) Kp fun x34=>
 opN p_ (sCall (fn 40) [x34,x28]) Kp fun x36=>
 drS (stS p_ (sNil x28) fun x38=>
 stS p_ (sFA 72 x38 4) fun x39=>
 stS p_ (sLoad 34 x39) fun x40=>
 stS p_ (sNil x28) fun x42=>
 stS p_ (sFA 72 x42 5) fun x43=>
 stS p_ (sLoad 3 x43) fun x44=>
 stS p_ (sNil x28) fun x46=>
 stS p_ (sFA 72 x46 6) fun x47=>
 stS p_ (sLoad 3 x47) fun x48=>
 opN p_ (sCall (fn 22) [x40,x44,x48,v3]) Kp fun x50=>
 drS (stS p_ (sNil x28) fun x52=>
 stS p_ (sFA 72 x52 4) fun x53=>
 stS p_ (sLoad 34 x53) fun x54=>
 stS p_ (sNil x28) fun x56=>
 stS p_ (sFA 72 x56 6) fun x57=>
 stS p_ (sLoad 3 x57) fun x58=>
 opN p_ (sCall (fn 21) [x54,x58]) Kp fun x59=>
 opN p_ (sFA 31 x6 3) Kp fun x60=>
 opN p_ (sLoad 29 x60) Kp fun x61=>
 opN p_ (sCall (fn 42) [x61]) Kp fun x63=>
 opN p_ (sCall (fn 43) [x63,(.string ⟨#[109,97,120,45,97,103,101]⟩)]) Kp fun x66=>
 opN p_ (sExt x66 0) Kp fun x67=>
 opN p_ (sExt x66 1) Kp fun x68=>
 opN p_ (sCall (fn 43) [x63,(.string ⟨#[109,105,110,45,102,114,101,115,104]⟩)]) Kp fun x71=>
 opN p_ (sExt x71 0) Kp fun x72=>
 opN p_ (sExt x71 1) Kp fun x73=>
 opN p_ (sCall (fn 45) [x61,(.string ⟨#[80,114,97,103,109,97]⟩)]) Kp fun x76=>
 opN p_ (sCall (fn 44) [x76]) Kp fun x77=>
 opN p_ (sExt x77 0) Kp fun x78=>
 opN p_ (sExt x77 1) Kp fun x79=>
 cut1 (fun J1=>
 opN p_ (sNil x28) Kp fun x82=>
 opN p_ (sFA 72 x82 4) Kp fun x83=>
 opN p_ (sFA 34 x83 1) Kp fun x84=>
 opN p_ (sLoad 29 x84) Kp fun x85=>
 opN p_ (sCall (fn 42) [x85]) Kp fun x86=>
 opN p_ (sCall (fn 46) [x86]) Kp fun x87=>
 opN p_ (sBuildSl 46 1 [(0,(.string ⟨#[110,111,45,99,97,99,104,101]⟩))]) Kp fun x88=>
 opN p_ (sCall x87 [x88]) Kp fun x89=>
 condS x89
 (condS x89
 (J1 (.int .i64 2))
 (J1 (.int .i64 1)))
 (opN p_ (sCall (fn 46) [x63]) Kp fun x91=>
 opN p_ (sBuildSl 46 1 [(0,(.string ⟨#[110,111,45,99,97,99,104,101]⟩))]) Kp fun x92=>
 opN p_ (sCall x91 [x92]) Kp fun x93=>
 condS x93
 (condS x93
 (J1 (.int .i64 2))
 (J1 (.int .i64 1)))
 (opN p_ (sCall (fn 47) [x78,(.string ⟨#[110,111,45,99,97,99,104,101]⟩)]) Kp fun x95=>
 gdK x95 true (fun k=>k x61) fun x97=>
 gdK x95 true (opN p_ (sBuildSl 46 1 [(0,(.string ⟨#[67,97,99,104,101,45,67,111,110,116,114,111,108]⟩))]) Kp) fun x98=>
 gdK x95 true (opN p_ (sCall (fn 48) [x97,x98]) Kp) fun x99=>
 gdK x95 true (opN p_ (sUn .not x99) Kp) fun x100=>
 opN p_ (sPick x95 x100 (.bool false)) Kp fun x101=>
 condS x101
 (condS x101
 (J1 (.int .i64 2))
 (J1 (.int .i64 1)))
 (opN p_ (sBin .add 3 x50 x72) Kp fun x104=>
 opN p_ (sBin .geq 3 x104 x59) Kp fun x106=>
 condS x106
 (condS x106
 (J1 (.int .i64 2))
 (J1 (.int .i64 1)))
 (gdK x68 true (fun k=>k x67) fun x109=>
 gdK x68 true (fun k=>k x50) fun x110=>
 gdK x68 true (opN p_ (sBin .lss 3 x109 x110) Kp) fun x111=>
 opN p_ (sPick x68 x111 (.bool false)) Kp fun x112=>
 condS x112
 (J1 (.int .i64 2))
 (J1 (.int .i64 1))))))) fun _ z10=>
 opN p_ (sNil x28) Kp fun x114=>
 opN p_ (sFA 72 x114 4) Kp fun x115=>
 opN p_ (sLoad 34 x115) Kp fun x116=>
 opN p_ (sCall (fn 34) [x116]) Kp fun x117=>
 opN p_ (sStore 34 x8 x117) Kp fun _=>
 opN p_ (sFA 34 x8 1) Kp fun x118=>
 opN p_ (sLoad 29 x118) Kp fun x119=>
 opN p_ (sBuildSl 46 1 [(0,(.string ⟨#[65,103,101]⟩))]) Kp fun x120=>
 opN p_ (sCall (fn 49) [x119,x120]) Kp fun x121=>
 opN p_ (sCall (fn 50) [x50]) Kp fun x123=>
 opN p_ (sBuild 68 [(0,(.string ⟨#[65,103,101]⟩)),(1,x123)]) Kp fun x124=>
 opN p_ (sBuildSl 29 1 [(0,x124)]) Kp fun x125=>
 opN p_ (sApp #[29,29] 29 [x121,x125]) Kp fun x126=>
 opN p_ (sFA 34 x8 1) Kp fun x127=>
 opN p_ (sStore 29 x127 x126) Kp fun _=>
 opN p_ (sLoad 34 x8) Kp fun x128=>
 opN p_ (sStore 34 x8 x128) Kp fun _=>
 (stS p_ (sRes 34 x8) fun r0=>K (.tuple #[r0,x50,z10]))))))
theorem cache_Cache_Look_s {v0 v1 v2 v3:Value}:Shp p_ 13 [v0,v1,v2,v3] (cache_Cache_Look v0 v1 v2 v3):=sh_ Tryz.call13 Tryz.func13 (an:={cuts:=[(21,[10])],drs:=[(7,.ofL [(0,1),(1,1),(2,1),(3,1),(4,1),(5,1),(6,1),(7,1),(8,1),(9,1),(10,1),(11,1),(12,1),(13,0),(14,1)]),(8,.ofL [(0,1),(1,1),(2,1),(3,1),(4,1),(5,1),(6,1),(7,1),(8,0),(9,1)])]}) fun _ _=>by kernel_rfl
def ref23_Storable (v0 v1:Value)(Kp:PK)(K:Value→WP):WP:=
 opN p_ (sBox 31 v0) Kp fun x2=>
 opN p_ (sBox 34 v1) Kp fun x3=>
 opN p_ (sFA 31 x2 3) Kp fun x9=>
 opN p_ (sLoad 29 x9) Kp fun x10=>
 opN p_ (sCall (fn 51) [x10]) Kp fun x11=>
 opN p_ (sFA 34 x3 1) Kp fun x12=>
 opN p_ (sLoad 29 x12) Kp fun x13=>
 opN p_ (sCall (fn 51) [x13]) Kp fun x14=>
 opN p_ (sFA 31 x2 0) Kp fun x15=>
 opN p_ (sLoad 9 x15) Kp fun x16=>
 opN p_ (sEq .neq 9 (.tmp 16) (.const (.string ⟨#[71,69,84]⟩)) x16 (.string ⟨#[71,69,84]⟩)) Kp fun x17=>
 gdK x17 false (opN p_ (sFA 34 x3 0) Kp) fun x19=>
 gdK x17 false (opN p_ (sLoad 3 x19) Kp) fun x20=>
 gdK x17 false (opN p_ (sEq .neq 3 (.tmp 20) (.const (.int .i64 200)) x20 (.int .i64 200)) Kp) fun x21=>
 gdK x17 false (fun k=>k x21) fun x22=>
 gdK x22 true (opN p_ (sFA 34 x3 0) Kp) fun x23=>
 gdK x22 true (opN p_ (sLoad 3 x23) Kp) fun x24=>
 gdK x22 true (opN p_ (sEq .neq 3 (.tmp 24) (.const (.int .i64 301)) x24 (.int .i64 301)) Kp) fun x25=>
 gdK x17 false (opN p_ (sPick x22 x25 (.bool false)) Kp) fun x26=>
 gdK x17 false (fun k=>k x26) fun x27=>
 gdK x27 true (opN p_ (sFA 34 x3 0) Kp) fun x28=>
 gdK x27 true (opN p_ (sLoad 3 x28) Kp) fun x29=>
 gdK x27 true (opN p_ (sEq .neq 3 (.tmp 29) (.const (.int .i64 404)) x29 (.int .i64 404)) Kp) fun x30=>
 gdK x17 false (opN p_ (sPick x27 x30 (.bool false)) Kp) fun x31=>
 gdK x17 false (fun k=>k x31) fun x32=>
 gdK x32 true (opN p_ (sFA 34 x3 0) Kp) fun x33=>
 gdK x32 true (opN p_ (sLoad 3 x33) Kp) fun x34=>
 gdK x32 true (opN p_ (sEq .neq 3 (.tmp 34) (.const (.int .i64 410)) x34 (.int .i64 410)) Kp) fun x35=>
 gdK x17 false (opN p_ (sPick x32 x35 (.bool false)) Kp) fun x36=>
 opN p_ (sPick x17 (.bool true) x36) Kp fun x37=>
 condS x37
 (K (.bool false))
 (opN p_ (sCall (fn 52) [x11,(.string ⟨#[110,111,45,115,116,111,114,101]⟩)]) Kp fun x39=>
 gdK x39 false (fun k=>k x14) fun x41=>
 gdK x39 false (opN p_ (sCall (fn 52) [x41,(.string ⟨#[110,111,45,115,116,111,114,101]⟩)]) Kp) fun x42=>
 opN p_ (sPick x39 (.bool true) x42) Kp fun x43=>
 gdK x43 false (fun k=>k x14) fun x45=>
 gdK x43 false (opN p_ (sCall (fn 52) [x45,(.string ⟨#[112,114,105,118,97,116,101]⟩)]) Kp) fun x46=>
 opN p_ (sPick x43 (.bool true) x46) Kp fun x47=>
 gdK x47 false (opN p_ (sFA 31 x2 3) Kp) fun x49=>
 gdK x47 false (opN p_ (sLoad 29 x49) Kp) fun x50=>
 gdK x47 false (opN p_ (sCall (fn 53) [x50,(.string ⟨#[97,117,116,104,111,114,105,122,97,116,105,111,110]⟩)]) Kp) fun x51=>
 gdK x47 false (fun k=>k x51) fun x52=>
 gdK x52 true (fun k=>k x14) fun x53=>
 gdK x52 true (opN p_ (sCall (fn 52) [x53,(.string ⟨#[112,117,98,108,105,99]⟩)]) Kp) fun x54=>
 gdK x52 true (opN p_ (sUn .not x54) Kp) fun x55=>
 gdK x47 false (opN p_ (sPick x52 x55 (.bool false)) Kp) fun x56=>
 gdK x47 false (fun k=>k x56) fun x57=>
 gdK x57 true (fun k=>k x14) fun x58=>
 gdK x57 true (opN p_ (sCall (fn 52) [x58,(.string ⟨#[115,45,109,97,120,97,103,101]⟩)]) Kp) fun x59=>
 gdK x57 true (opN p_ (sUn .not x59) Kp) fun x60=>
 gdK x47 false (opN p_ (sPick x57 x60 (.bool false)) Kp) fun x61=>
 opN p_ (sPick x47 (.bool true) x61) Kp fun x62=>
 condS x62
 (K (.bool false))
 (opN p_ (sFA 34 x3 1) Kp fun x63=>
 opN p_ (sLoad 29 x63) Kp fun x64=>
 opN p_ (sCall (fn 54) [x64]) Kp fun x65=>
 loop1 (fun I1 m1 _ y8=>
 opN p_ (sLen #[46] 3 [x65]) Kp fun x68=>
 opN p_ (sBin .lss 3 y8 x68) Kp fun x69=>
 condS x69
 (opN p_ (sIA 46 x65 y8) Kp fun x74=>
 opN p_ (sLoad 9 x74) Kp fun x75=>
 opN p_ (sEq .eql 9 (.tmp 75) (.const (.string ⟨#[42]⟩)) x75 (.string ⟨#[42]⟩)) Kp fun x76=>
 condS x76
 (K (.bool false))
 (opN p_ (sBin .add 3 y8 (.int .i64 1)) Kp fun x71=>
 next1 I1 m1 x71))
 (opN p_ (sFA 34 x3 1) Kp fun x77=>
 opN p_ (sLoad 29 x77) Kp fun x78=>
 opN p_ (sCall (fn 53) [x78,(.string ⟨#[99,111,110,116,101,110,116,45,114,97,110,103,101]⟩)]) Kp fun x79=>
 gdK x79 false (opN p_ (sFA 34 x3 1) Kp) fun x81=>
 gdK x79 false (opN p_ (sLoad 29 x81) Kp) fun x82=>
 gdK x79 false (opN p_ (sCall (fn 53) [x82,(.string ⟨#[115,101,116,45,99,111,111,107,105,101]⟩)]) Kp) fun x83=>
 opN p_ (sPick x79 (.bool true) x83) Kp fun x84=>
 condS x84
 (K (.bool false))
 (opN p_ (sCall (fn 52) [x14,(.string ⟨#[115,45,109,97,120,97,103,101]⟩)]) Kp fun x86=>
 gdK x86 false (fun k=>k x14) fun x88=>
 gdK x86 false (opN p_ (sCall (fn 52) [x88,(.string ⟨#[109,97,120,45,97,103,101]⟩)]) Kp) fun x89=>
 opN p_ (sPick x86 (.bool true) x89) Kp fun x90=>
 gdK x90 false (opN p_ (sFA 34 x3 1) Kp) fun x92=>
 gdK x90 false (opN p_ (sLoad 29 x92) Kp) fun x93=>
 gdK x90 false (opN p_ (sCall (fn 53) [x93,(.string ⟨#[101,120,112,105,114,101,115]⟩)]) Kp) fun x94=>
 opN p_ (sPick x90 (.bool true) x94) Kp fun x95=>
 gdK x95 false (opN p_ (sFA 34 x3 1) Kp) fun x97=>
 gdK x95 false (opN p_ (sLoad 29 x97) Kp) fun x98=>
 gdK x95 false (opN p_ (sCall (fn 53) [x98,(.string ⟨#[101,116,97,103]⟩)]) Kp) fun x99=>
 opN p_ (sPick x95 (.bool true) x99) Kp fun x100=>
 gdK x100 false (opN p_ (sFA 34 x3 1) Kp) fun x102=>
 gdK x100 false (opN p_ (sLoad 29 x102) Kp) fun x103=>
 gdK x100 false (opN p_ (sCall (fn 53) [x103,(.string ⟨#[108,97,115,116,45,109,111,100,105,102,105,101,100]⟩)]) Kp) fun x104=>
 opN p_ (sPick x100 (.bool true) x104) Kp fun x105=>
 K x105))) (.int .i64 0)))
theorem ref23_Storable_s {v0 v1:Value}:Shp p_ 14 [v0,v1] (ref23_Storable v0 v1):=sh_ Tryz.call14 Tryz.func14 (an:={loops:=[(9,[8])]}) fun _ _=>by kernel_rfl
def law23_alike (v0 v1 v2:Value)(Kp:PK)(K:Value→WP):WP:=
 opN p_ (sBox 31 v0) Kp fun x3=>
 opN p_ (sBox 31 v1) Kp fun x4=>
 opN p_ (sBox 34 v2) Kp fun x5=>
 opN p_ (sFA 34 x5 1) Kp fun x12=>
 opN p_ (sLoad 29 x12) Kp fun x13=>
 opN p_ (sCall (fn 54) [x13]) Kp fun x14=>
 loop1 (fun I1 m1 _ y8=>
 opN p_ (sLen #[46] 3 [x14]) Kp fun x17=>
 opN p_ (sBin .lss 3 y8 x17) Kp fun x18=>
 condS x18
 (drS (stS p_ (sFA 31 x3 3) fun x21=>
 stS p_ (sLoad 29 x21) fun x22=>
 stS p_ (sIA 46 x14 y8) fun x25=>
 stS p_ (sLoad 9 x25) fun x26=>
 opN p_ (sCall (fn 55) [x22,x26]) Kp fun x27=>
 drS (stS p_ (sFA 31 x4 3) fun x28=>
 stS p_ (sLoad 29 x28) fun x29=>
 stS p_ (sIA 46 x14 y8) fun x32=>
 stS p_ (sLoad 9 x32) fun x33=>
 opN p_ (sCall (fn 55) [x29,x33]) Kp fun x34=>
 opN p_ (sLen #[46] 3 [x27]) Kp fun x36=>
 opN p_ (sLen #[46] 3 [x34]) Kp fun x38=>
 opN p_ (sEq .neq 3 (.tmp 36) (.tmp 38) x36 x38) Kp fun x39=>
 condS x39
 (K (.bool false))
 (loop1 (fun I2 m2 _ y11=>
 opN p_ (sLen #[46] 3 [x27]) Kp fun x42=>
 opN p_ (sBin .lss 3 y11 x42) Kp fun x43=>
 condS x43
 (drS (stS p_ (sIA 46 x27 y11) fun x48=>
 stS p_ (sLoad 9 x48) fun x49=>
 stS p_ (sIA 46 x34 y11) fun x52=>
 stS p_ (sLoad 9 x52) fun x53=>
 stS p_ (sEq .neq 9 (.tmp 49) (.tmp 53) x49 x53) fun x54=>
 condS x54
 (K (.bool false))
 (opN p_ (sBin .add 3 y11 (.int .i64 1)) Kp fun x45=>
 next1 I2 m2 x45)))
 (opN p_ (sBin .add 3 y8 (.int .i64 1)) Kp fun x20=>
 next1 I1 m1 x20)) (.int .i64 0)))))
 (K (.bool true))) (.int .i64 0)
theorem law23_alike_s {v0 v1 v2:Value}:Shp p_ 15 [v0,v1,v2] (law23_alike v0 v1 v2):=sh_ Tryz.call15 Tryz.func15 (an:={loops:=[(3,[8]),(10,[11])],drs:=[(5,.ofL [(0,1),(1,1),(2,1),(3,1),(4,1),(5,1),(6,0),(7,1)]),(6,.ofL [(0,1),(1,1),(2,1),(3,1),(4,1),(5,1),(6,0),(7,1)]),(12,.ofL [(0,1),(1,1),(2,1),(3,1),(4,1),(5,1),(6,1),(7,1),(8,1)])]}) fun _ _=>by kernel_rfl
def law11_Fields (v0 v1:Value)(Kp:PK)(K:Value→WP):WP:=
 opN p_ (sLen #[29] 3 [v0]) Kp fun x7=>
 opN p_ (sLen #[29] 3 [v1]) Kp fun x9=>
 opN p_ (sEq .neq 3 (.tmp 7) (.tmp 9) x7 x9) Kp fun x10=>
 condS x10
 (K (.bool false))
 (loop1 (fun I1 m1 _ y5=>
 opN p_ (sLen #[29] 3 [v0]) Kp fun x13=>
 opN p_ (sBin .lss 3 y5 x13) Kp fun x14=>
 condS x14
 (drS (stS p_ (sIA 29 v0 y5) fun x19=>
 stS p_ (sLoad 68 x19) fun x20=>
 stS p_ (sIA 29 v1 y5) fun x23=>
 stS p_ (sLoad 68 x23) fun x24=>
 stS p_ (sEq .neq 68 (.tmp 20) (.tmp 24) x20 x24) fun x25=>
 condS x25
 (K (.bool false))
 (opN p_ (sBin .add 3 y5 (.int .i64 1)) Kp fun x16=>
 next1 I1 m1 x16)))
 (K (.bool true))) (.int .i64 0))
theorem law11_Fields_s {v0 v1:Value}:Shp p_ 16 [v0,v1] (law11_Fields v0 v1):=sh_ Tryz.call16 Tryz.func16 (an:={loops:=[(4,[5])],drs:=[(6,.ofL [(0,1),(1,1),(2,1),(3,1),(4,1),(5,1),(6,1),(7,1),(8,1)])]}) fun _ _=>by kernel_rfl
def ref11_Without (v0 v1:Value)(Kp:PK)(K:Value→WP):WP:=
 loop2 (fun I1 m1 _ y5 y6=>
 opN p_ (sLen #[29] 3 [v0]) Kp fun x11=>
 opN p_ (sBin .lss 3 y6 x11) Kp fun x12=>
 condS x12
 (loop2 (fun I2 m2 _ y7 y8=>
 opN p_ (sLen #[46] 3 [v1]) Kp fun x17=>
 opN p_ (sBin .lss 3 y8 x17) Kp fun x18=>
 condS x18
 (drS (gdK y7 false (fun k=>k v0) fun x23=>
 gdK y7 false (fun k=>k y6) fun x24=>
 gdK y7 false (stS p_ (sIA 29 x23 x24)) fun x25=>
 gdK y7 false (stS p_ (sFA 68 x25 0)) fun x26=>
 gdK y7 false (stS p_ (sLoad 9 x26)) fun x27=>
 gdK y7 false (fun k=>k v1) fun x28=>
 gdK y7 false (fun k=>k y8) fun x29=>
 gdK y7 false (stS p_ (sIA 46 x28 x29)) fun x30=>
 gdK y7 false (stS p_ (sLoad 9 x30)) fun x31=>
 gdK y7 false (opN p_ (sCall (fn 56) [x27,x31]) Kp) fun x32=>
 stS p_ (sPick y7 (.bool true) x32) fun x33=>
 opN p_ (sBin .add 3 y8 (.int .i64 1)) Kp fun x20=>
 next2 I2 m2 x33 x20))
 (opN p_ (sUn .not y7) Kp fun x35=>
 condS x35
 (opN p_ (sIA 29 v0 y6) Kp fun x39=>
 opN p_ (sLoad 68 x39) Kp fun x40=>
 opN p_ (sBuildSl 29 1 [(0,x40)]) Kp fun x41=>
 opN p_ (sApp #[29,29] 29 [y5,x41]) Kp fun x42=>
 opN p_ (sBin .add 3 y6 (.int .i64 1)) Kp fun x14=>
 next2 I1 m1 x42 x14)
 (opN p_ (sBin .add 3 y6 (.int .i64 1)) Kp fun x14=>
 next2 I1 m1 y5 x14))) (.bool false) (.int .i64 0))
 (K y5)) (.slice none 0 0) (.int .i64 0)
theorem ref11_Without_s {v0 v1:Value}:Shp p_ 17 [v0,v1] (ref11_Without v0 v1):=sh_ Tryz.call17 Tryz.func17 (an:={loops:=[(3,[5,6]),(7,[7,8])],drs:=[(9,.ofL [(0,1),(1,1),(2,1),(3,1),(4,1),(5,1),(6,1),(7,1),(8,1),(9,1),(10,1),(11,0),(12,1),(13,1)])]}) fun _ _=>by kernel_rfl
def ref23_Lifetime (v0 v1:Value)(Kp:PK)(K:Value→WP):WP:=
 opN p_ (sBox 34 v0) Kp fun x2=>
 opN p_ (sCall (fn 57) [v1]) Kp fun x13=>
 opN p_ (sFA 34 x2 1) Kp fun x14=>
 opN p_ (sLoad 29 x14) Kp fun x15=>
 opN p_ (sCall (fn 51) [x15]) Kp fun x16=>
 opN p_ (sCall (fn 58) [x16,(.string ⟨#[115,45,109,97,120,97,103,101]⟩)]) Kp fun x19=>
 opN p_ (sExt x19 0) Kp fun x20=>
 opN p_ (sExt x19 1) Kp fun x21=>
 cut2 (fun J1=>
 opN p_ (sUn .not x21) Kp fun x23=>
 condS x23
 (opN p_ (sCall (fn 58) [x16,(.string ⟨#[109,97,120,45,97,103,101]⟩)]) Kp fun x26=>
 opN p_ (sExt x26 0) Kp fun x27=>
 opN p_ (sExt x26 1) Kp fun x28=>
 J1 x27 x28)
 (J1 x20 x21)) fun _ z6 z7=>
 gdK z7 false (opN p_ (sFA 34 x2 1) Kp) fun x31=>
 gdK z7 false (opN p_ (sLoad 29 x31) Kp) fun x32=>
 gdK z7 false (opN p_ (sCall (fn 53) [x32,(.string ⟨#[101,120,112,105,114,101,115]⟩)]) Kp) fun x33=>
 gdK z7 false (opN p_ (sUn .not x33) Kp) fun x34=>
 opN p_ (sPick z7 (.bool true) x34) Kp fun x35=>
 condS x35
 (K z6)
 (opN p_ (sFA 34 x2 1) Kp fun x38=>
 opN p_ (sLoad 29 x38) Kp fun x39=>
 opN p_ (sCall (fn 59) [x39,(.string ⟨#[101,120,112,105,114,101,115]⟩),x13]) Kp fun x41=>
 opN p_ (sExt x41 0) Kp fun x42=>
 opN p_ (sExt x41 1) Kp fun x43=>
 opN p_ (sUn .not x43) Kp fun x45=>
 condS x45
 (K (.int .i64 0))
 (opN p_ (sFA 34 x2 1) Kp fun x47=>
 opN p_ (sLoad 29 x47) Kp fun x48=>
 opN p_ (sCall (fn 59) [x48,(.string ⟨#[100,97,116,101]⟩),x13]) Kp fun x50=>
 opN p_ (sExt x50 0) Kp fun x51=>
 opN p_ (sExt x50 1) Kp fun x52=>
 opN p_ (sUn .not x52) Kp fun x54=>
 condS x54
 (opN p_ (sBin .sub 3 x42 x13) Kp fun x58=>
 opN p_ (sMax #[3,3] 3 [(.int .i64 0),x58]) Kp fun x59=>
 K x59)
 (opN p_ (sBin .sub 3 x42 x51) Kp fun x58=>
 opN p_ (sMax #[3,3] 3 [(.int .i64 0),x58]) Kp fun x59=>
 K x59)))
theorem ref23_Lifetime_s {v0 v1:Value}:Shp p_ 18 [v0,v1] (ref23_Lifetime v0 v1):=sh_ Tryz.call18 Tryz.func18 (an:={cuts:=[(6,[6,7])]}) fun _ _=>by kernel_rfl
def ref23_Age (v0 v1 v2 v3:Value)(Kp:PK)(K:Value→WP):WP:=
 opN p_ (sBox 34 v0) Kp fun x4=>
 opN p_ (sCall (fn 57) [v1]) Kp fun x17=>
 opN p_ (sCall (fn 57) [v2]) Kp fun x19=>
 opN p_ (sCall (fn 57) [v3]) Kp fun x21=>
 opN p_ (sFA 34 x4 1) Kp fun x23=>
 opN p_ (sLoad 29 x23) Kp fun x24=>
 opN p_ (sCall (fn 59) [x24,(.string ⟨#[100,97,116,101]⟩),x19]) Kp fun x26=>
 opN p_ (sExt x26 0) Kp fun x27=>
 opN p_ (sExt x26 1) Kp fun x28=>
 cut1 (fun J1=>
 condS x28
 (opN p_ (sBin .sub 3 x19 x27) Kp fun x32=>
 opN p_ (sMax #[3,3] 3 [(.int .i64 0),x32]) Kp fun x33=>
 J1 x33)
 (J1 (.int .i64 0))) fun _ z9=>
 opN p_ (sFA 34 x4 1) Kp fun x35=>
 opN p_ (sLoad 29 x35) Kp fun x36=>
 opN p_ (sCall (fn 60) [x36,(.string ⟨#[97,103,101]⟩)]) Kp fun x37=>
 opN p_ (sExt x37 0) Kp fun x38=>
 opN p_ (sExt x37 1) Kp fun x39=>
 opN p_ (sCall (fn 61) [x38]) Kp fun x42=>
 opN p_ (sExt x42 0) Kp fun x43=>
 opN p_ (sExt x42 1) Kp fun x44=>
 cut1 (fun J2=>
 opN p_ (sEq .eql 3 (.tmp 45) (.const (.int .i64 11)) x44 (.int .i64 11)) Kp fun x46=>
 gdK x46 false (fun k=>k x43) fun x48=>
 gdK x46 false (opN p_ (sBin .gtr 3 x48 (.int .i64 2147483648)) Kp) fun x49=>
 opN p_ (sPick x46 (.bool true) x49) Kp fun x50=>
 condS x50
 (J2 (.int .i64 2147483648))
 (opN p_ (sEq .neq 3 (.tmp 51) (.const (.int .i64 0)) x44 (.int .i64 0)) Kp fun x52=>
 condS x52
 (J2 (.int .i64 0))
 (J2 x43))) fun _ z14=>
 opN p_ (sBin .sub 3 x19 x17) Kp fun x57=>
 opN p_ (sMax #[3,3] 3 [(.int .i64 0),x57]) Kp fun x58=>
 opN p_ (sBin .add 3 z14 x58) Kp fun x59=>
 opN p_ (sMax #[3,3] 3 [z9,x59]) Kp fun x60=>
 opN p_ (sBin .sub 3 x21 x19) Kp fun x63=>
 opN p_ (sMax #[3,3] 3 [(.int .i64 0),x63]) Kp fun x64=>
 opN p_ (sBin .add 3 x60 x64) Kp fun x65=>
 K x65
theorem ref23_Age_s {v0 v1 v2 v3:Value}:Shp p_ 19 [v0,v1,v2,v3] (ref23_Age v0 v1 v2 v3):=sh_ Tryz.call19 Tryz.func19 (an:={cuts:=[(8,[9]),(14,[14])]}) fun _ _=>by kernel_rfl
def cache_Storable (v0 v1:Value)(Kp:PK)(K:Value→WP):WP:=
 opN p_ (sBox 31 v0) Kp fun x2=>
 opN p_ (sBox 34 v1) Kp fun x3=>
 opN p_ (sFA 34 x3 1) Kp fun x8=>
 opN p_ (sLoad 29 x8) Kp fun x9=>
 opN p_ (sFA 31 x2 3) Kp fun x10=>
 opN p_ (sLoad 29 x10) Kp fun x11=>
 opN p_ (sCall (fn 42) [x11]) Kp fun x12=>
 opN p_ (sCall (fn 46) [x12]) Kp fun x13=>
 opN p_ (sCall (fn 42) [x9]) Kp fun x15=>
 opN p_ (sCall (fn 46) [x15]) Kp fun x16=>
 cut1 (fun J1=>
 opN p_ (sFA 31 x2 0) Kp fun x18=>
 opN p_ (sLoad 9 x18) Kp fun x19=>
 opN p_ (sEq .neq 9 (.tmp 19) (.const (.string ⟨#[71,69,84]⟩)) x19 (.string ⟨#[71,69,84]⟩)) Kp fun x20=>
 condS x20
 (J1 x20)
 (opN p_ (sBuildSl 105 4 [(0,(.int .i64 200)),(1,(.int .i64 301)),(2,(.int .i64 404)),(3,(.int .i64 410))]) Kp fun x21=>
 opN p_ (sFA 34 x3 0) Kp fun x22=>
 opN p_ (sLoad 3 x22) Kp fun x23=>
 opN p_ (sCall (fn 62) [x21,x23]) Kp fun x24=>
 opN p_ (sUn .not x24) Kp fun x25=>
 condS x25
 (J1 x25)
 (opN p_ (sBuildSl 46 1 [(0,(.string ⟨#[110,111,45,115,116,111,114,101]⟩))]) Kp fun x27=>
 opN p_ (sCall x13 [x27]) Kp fun x28=>
 condS x28
 (J1 x28)
 (opN p_ (sBuildSl 46 2 [(0,(.string ⟨#[110,111,45,115,116,111,114,101]⟩)),(1,(.string ⟨#[112,114,105,118,97,116,101]⟩))]) Kp fun x30=>
 opN p_ (sCall x16 [x30]) Kp fun x31=>
 condS x31
 (J1 x31)
 (opN p_ (sFA 31 x2 3) Kp fun x32=>
 opN p_ (sLoad 29 x32) Kp fun x33=>
 opN p_ (sBuildSl 46 1 [(0,(.string ⟨#[65,117,116,104,111,114,105,122,97,116,105,111,110]⟩))]) Kp fun x34=>
 opN p_ (sCall (fn 48) [x33,x34]) Kp fun x35=>
 gdK x35 true (fun k=>k x16) fun x37=>
 gdK x35 true (opN p_ (sBuildSl 46 2 [(0,(.string ⟨#[112,117,98,108,105,99]⟩)),(1,(.string ⟨#[115,45,109,97,120,97,103,101]⟩))]) Kp) fun x38=>
 gdK x35 true (opN p_ (sCall x37 [x38]) Kp) fun x39=>
 gdK x35 true (opN p_ (sUn .not x39) Kp) fun x40=>
 opN p_ (sPick x35 x40 (.bool false)) Kp fun x41=>
 condS x41
 (J1 x41)
 (opN p_ (sCall (fn 63) [x9]) Kp fun x43=>
 opN p_ (sCall (fn 47) [x43,(.string ⟨#[42]⟩)]) Kp fun x44=>
 condS x44
 (J1 x44)
 (opN p_ (sBuildSl 46 2 [(0,(.string ⟨#[67,111,110,116,101,110,116,45,82,97,110,103,101]⟩)),(1,(.string ⟨#[83,101,116,45,67,111,111,107,105,101]⟩))]) Kp fun x46=>
 opN p_ (sCall (fn 48) [x9,x46]) Kp fun x47=>
 J1 x47))))))) fun _ z17=>
 condS z17
 (K (.bool false))
 (opN p_ (sBuildSl 46 2 [(0,(.string ⟨#[115,45,109,97,120,97,103,101]⟩)),(1,(.string ⟨#[109,97,120,45,97,103,101]⟩))]) Kp fun x49=>
 opN p_ (sCall x16 [x49]) Kp fun x50=>
 gdK x50 false (fun k=>k x9) fun x52=>
 gdK x50 false (opN p_ (sBuildSl 46 3 [(0,(.string ⟨#[69,120,112,105,114,101,115]⟩)),(1,(.string ⟨#[69,84,97,103]⟩)),(2,(.string ⟨#[76,97,115,116,45,77,111,100,105,102,105,101,100]⟩))]) Kp) fun x53=>
 gdK x50 false (opN p_ (sCall (fn 48) [x52,x53]) Kp) fun x54=>
 opN p_ (sPick x50 (.bool true) x54) Kp fun x55=>
 K x55)
theorem cache_Storable_s {v0 v1:Value}:Shp p_ 20 [v0,v1] (cache_Storable v0 v1):=sh_ Tryz.call20 Tryz.func20 (an:={cuts:=[(10,[17])]}) fun _ _=>by kernel_rfl
def cache_Lifetime (v0 v1:Value)(Kp:PK)(K:Value→WP):WP:=
 opN p_ (sBox 34 v0) Kp fun x2=>
 opN p_ (sFA 34 x2 1) Kp fun x14=>
 opN p_ (sLoad 29 x14) Kp fun x15=>
 opN p_ (sCall (fn 42) [x15]) Kp fun x17=>
 opN p_ (sBuild 107 [(0,(.string ⟨#[115,45,109,97,120,97,103,101]⟩)),(1,(.string ⟨#[109,97,120,45,97,103,101]⟩))]) Kp fun x18=>
 loop1 (fun I1 m1 _ y19=>
 opN p_ (sBin .lss 3 y19 (.int .i64 2)) Kp fun x20=>
 condS x20
 (opN p_ (sIx 107 x18 y19) Kp fun x21=>
 opN p_ (sCall (fn 43) [x17,x21]) Kp fun x25=>
 opN p_ (sExt x25 0) Kp fun x26=>
 opN p_ (sExt x25 1) Kp fun x27=>
 condS x27
 (K x26)
 (opN p_ (sBin .add 3 y19 (.int .i64 1)) Kp fun x30=>
 next1 I1 m1 x30))
 (opN p_ (sCall (fn 35) [v1]) Kp fun x34=>
 opN p_ (sCall (fn 64) [x15,(.string ⟨#[69,120,112,105,114,101,115]⟩),x34]) Kp fun x35=>
 opN p_ (sExt x35 0) Kp fun x36=>
 opN p_ (sExt x35 1) Kp fun x37=>
 opN p_ (sUn .not x37) Kp fun x39=>
 condS x39
 (K (.int .i64 0))
 (opN p_ (sCall (fn 35) [v1]) Kp fun x43=>
 opN p_ (sCall (fn 64) [x15,(.string ⟨#[68,97,116,101]⟩),x43]) Kp fun x44=>
 opN p_ (sExt x44 0) Kp fun x45=>
 opN p_ (sExt x44 1) Kp fun x46=>
 opN p_ (sUn .not x46) Kp fun x48=>
 condS x48
 (opN p_ (sCall (fn 35) [v1]) Kp fun x50=>
 opN p_ (sBin .sub 3 x36 x50) Kp fun x53=>
 opN p_ (sMax #[3,3] 3 [(.int .i64 0),x53]) Kp fun x54=>
 K x54)
 (opN p_ (sBin .sub 3 x36 x45) Kp fun x53=>
 opN p_ (sMax #[3,3] 3 [(.int .i64 0),x53]) Kp fun x54=>
 K x54)))) (.int .i64 0)
theorem cache_Lifetime_s {v0 v1:Value}:Shp p_ 21 [v0,v1] (cache_Lifetime v0 v1):=sh_ Tryz.call21 Tryz.func21 (an:={loops:=[(4,[19])]}) fun _ _=>by kernel_rfl
def cache_Age (v0 v1 v2 v3:Value)(Kp:PK)(K:Value→WP):WP:=
 opN p_ (sBox 34 v0) Kp fun x4=>
 opN p_ (sCall (fn 35) [v1]) Kp fun x18=>
 opN p_ (sCall (fn 35) [v2]) Kp fun x20=>
 opN p_ (sCall (fn 35) [v3]) Kp fun x22=>
 opN p_ (sFA 34 x4 1) Kp fun x23=>
 opN p_ (sLoad 29 x23) Kp fun x24=>
 cut1 (fun J1=>
 opN p_ (sCall (fn 64) [x24,(.string ⟨#[68,97,116,101]⟩),x20]) Kp fun x28=>
 opN p_ (sExt x28 0) Kp fun x29=>
 opN p_ (sExt x28 1) Kp fun x30=>
 condS x30
 (opN p_ (sBin .sub 3 x20 x29) Kp fun x34=>
 opN p_ (sMax #[3,3] 3 [(.int .i64 0),x34]) Kp fun x35=>
 J1 x35)
 (J1 (.int .i64 0))) fun _ z10=>
 opN p_ (sCall (fn 65) [x24,(.string ⟨#[65,103,101]⟩)]) Kp fun x38=>
 opN p_ (sExt x38 0) Kp fun x39=>
 opN p_ (sExt x38 1) Kp fun x40=>
 opN p_ (sCall (fn 66) [x39]) Kp fun x43=>
 opN p_ (sExt x43 0) Kp fun x44=>
 opN p_ (sExt x43 1) Kp fun x45=>
 cut1 (fun J2=>
 opN p_ (sEq .eql 24 (.tmp 46) (.const (.int .i64 11)) x45 (.int .i64 11)) Kp fun x47=>
 condS x47
 (J2 (.int .i64 2147483648))
 (J2 x44)) fun _ z15=>
 opN p_ (sMin #[3,3] 3 [z15,(.int .i64 2147483648)]) Kp fun x50=>
 opN p_ (sBin .sub 3 x20 x18) Kp fun x53=>
 opN p_ (sMax #[3,3] 3 [(.int .i64 0),x53]) Kp fun x54=>
 opN p_ (sBin .add 3 x50 x54) Kp fun x55=>
 opN p_ (sMax #[3,3] 3 [z10,x55]) Kp fun x56=>
 opN p_ (sBin .sub 3 x22 x20) Kp fun x59=>
 opN p_ (sMax #[3,3] 3 [(.int .i64 0),x59]) Kp fun x60=>
 opN p_ (sBin .add 3 x56 x60) Kp fun x61=>
 K x61
theorem cache_Age_s {v0 v1 v2 v3:Value}:Shp p_ 22 [v0,v1,v2,v3] (cache_Age v0 v1 v2 v3):=sh_ Tryz.call22 Tryz.func22 (an:={cuts:=[(7,[10]),(11,[15])]}) fun _ _=>by kernel_rfl
def law23_fresh (v0:Value)(Kp:PK)(K:Value->WP):WP:=
 opN p_ (sAlloc 34) Kp fun x2=>
 opN p_ (sBin .add 9 (.string ⟨#[109,97,120,45,97,103,101,61]⟩) v0) Kp fun x4=>
 opN p_ (sBuild 68 [(0,(.string ⟨#[67,97,99,104,101,45,67,111,110,116,114,111,108]⟩)),(1,x4)]) Kp fun x5=>
 opN p_ (sBuildSl 29 1 [(0,x5)]) Kp fun x6=>
 opN p_ (sBuildSl 32 1 [(0,(.int .u8 120))]) Kp fun x7=>
 opN p_ (sConv 32 32 x7) Kp fun x8=>
 opN p_ (sBuild 34 [(0,(.int .i64 200)),(1,x6),(2,x8)]) Kp fun x9=>
 opN p_ (sStore 34 x2 x9) Kp fun _=>
 (stS p_ (sRes 34 x2) fun r0=>K r0)
theorem law23_fresh_s {v0:Value}:Shp p_ 30 [v0] (law23_fresh v0):=sh_ Tryz.call30 Tryz.func30 (an:={}) fun _ _=>by kernel_rfl
def cache_Cache_none (v0:Value)(Kp:PK)(K:Value->WP):WP:=
 opN p_ (sEq .eql 23 (.tmp 3) (.const (.pointer none)) v0 (.pointer none)) Kp fun x4=>
 gdK x4 false (fun k=>k v0) fun x6=>
 gdK x4 false (opN p_ (sNil x6) Kp) fun x7=>
 gdK x4 false (opN p_ (sFA 62 x7 1) Kp) fun x8=>
 gdK x4 false (opN p_ (sLoad 60 x8) Kp) fun x9=>
 gdK x4 false (opN p_ (sEq .eql 60 (.tmp 9) (.const (.map none)) x9 (.map none)) Kp) fun x10=>
 opN p_ (sPick x4 (.bool true) x10) Kp fun x11=>
 K x11
theorem cache_Cache_none_s {v0:Value}:Shp p_ 31 [v0] (cache_Cache_none v0):=sh_ Tryz.call31 Tryz.func31 (an:={}) fun _ _=>by kernel_rfl
def slices_Clone_api_Field_api_Field (v0:Value)(Kp:PK)(K:Value→WP):WP:=
 opN p_ (sEq .eql 29 (.tmp 3) (.const (.slice none 0 0)) v0 (.slice none 0 0)) Kp fun x4=>
 condS x4
 (K (.slice none 0 0))
 (opN p_ (sBuildSl 29 0 []) Kp fun x5=>
 opN p_ (sApp #[29,29] 29 [x5,v0]) Kp fun x7=>
 K x7)
theorem slices_Clone_api_Field_api_Field_s {v0:Value}:Shp p_ 32 [v0] (slices_Clone_api_Field_api_Field v0):=sh_ Tryz.call32 Tryz.func32 (an:={}) fun _ _=>by kernel_rfl
def cache_varied (v0 v1:Value)(Kp:PK)(K:Value→WP):WP:=
 opN p_ (sBox 34 v1) Kp fun x3=>
 opN p_ (sFA 34 x3 1) Kp fun x9=>
 opN p_ (sLoad 29 x9) Kp fun x10=>
 opN p_ (sCall (fn 63) [x10]) Kp fun x11=>
 opN p_ (sLen #[29] 3 [v0]) Kp fun x13=>
 loop2 (fun I1 m1 _ y6 y14=>
 opN p_ (sBin .lss 3 y14 x13) Kp fun x15=>
 condS x15
 (opN p_ (sIA 29 v0 y14) Kp fun x16=>
 opN p_ (sLoad 68 x16) Kp fun x17=>
 opN p_ (sAlloc 68) Kp fun x8=>
 opN p_ (sStore 68 x8 x17) Kp fun _=>
 opN p_ (sMkF (.func 73) [] [x8]) Kp fun x19=>
 opN p_ (sCall (fn 72) [x11,x19]) Kp fun x20=>
 condS x20
 (opN p_ (sLoad 68 x8) Kp fun x22=>
 opN p_ (sBuildSl 29 1 [(0,x22)]) Kp fun x23=>
 opN p_ (sApp #[29,29] 29 [y6,x23]) Kp fun x24=>
 opN p_ (sBin .add 3 y14 (.int .i64 1)) Kp fun x25=>
 next2 I1 m1 x24 x25)
 (opN p_ (sBin .add 3 y14 (.int .i64 1)) Kp fun x25=>
 next2 I1 m1 y6 x25))
 (K y6)) (.slice none 0 0) (.int .i64 0)
theorem cache_varied_s {v0 v1:Value}:Shp p_ 33 [v0,v1] (cache_varied v0 v1):=sh_ Tryz.call33 Tryz.func33 (an:={loops:=[(4,[6,14])]}) fun _ _=>by kernel_rfl
def cache_own (v0:Value)(Kp:PK)(K:Value->WP):WP:=
 opN p_ (sBox 34 v0) Kp fun x1=>
 opN p_ (sAlloc 34) Kp fun x2=>
 drS (stD p_ (sFA 34 x1 0) fun D0 x3=>
 stD p_ (sLoad 3 x3) fun D1 x4=>
 stS p_ (sFA 34 x1 1) fun x5=>
 stS p_ (sLoad 29 x5) fun x6=>
 stD p_ (sFA 34 x1 2) fun D5 x8=>
 stD p_ (sLoad 32 x8) fun D6 x9=>
 opN p_ (sCall (fn 32) [x6]) Kp fun x7=>
 (fun w=>D6 w/\(fun w=>D5 w/\(fun w=>D1 w/\(fun w=>D0 w/\(opN p_ (sCall (fn 75) [x9]) Kp fun x10=>
 (fun w=>D1 w/\(fun w=>D0 w/\(stS p_ (sBuild 34 [(0,x4),(1,x7),(2,x10)]) fun x11=>
 opN p_ (sStore 34 x2 x11) Kp fun _=>
 (stS p_ (sRes 34 x2) fun r0=>K r0)) w) w)) w) w) w) w))
theorem cache_own_s {v0:Value}:Shp p_ 34 [v0] (cache_own v0):=sh_ Tryz.call34 Tryz.func34 (an:={drs:=[(1,.ofL [(0,3),(1,3),(2,1),(3,1),(5,3),(6,3),(4,0),(7,0),(8,1),(9,0)])]}) fun _ _=>by kernel_rfl
def cache_clock (v0:Value)(Kp:PK)(K:Value->WP):WP:=
 opN p_ (sMin #[3,3] 3 [v0,(.int .i64 1099511627776)]) Kp fun x4=>
 opN p_ (sMax #[3,3] 3 [(.int .i64 0),x4]) Kp fun x5=>
 K x5
theorem cache_clock_s {v0:Value}:Shp p_ 35 [v0] (cache_clock v0):=sh_ Tryz.call35 Tryz.func35 (an:={}) fun _ _=>by kernel_rfl
def cache_size (v0:Value)(Kp:PK)(K:Value→WP):WP:=
 opN p_ (sLen #[29] 3 [v0]) Kp fun x7=>
 loop2 (fun I1 m1 _ y3 y8=>
 opN p_ (sBin .lss 3 y8 x7) Kp fun x9=>
 condS x9
 (opN p_ (sIA 29 v0 y8) Kp fun x10=>
 opN p_ (sLoad 68 x10) Kp fun x11=>
 opN p_ (sAlloc 68) Kp fun x5=>
 opN p_ (sStore 68 x5 x11) Kp fun _=>
 opN p_ (sFA 68 x5 0) Kp fun x13=>
 opN p_ (sLoad 9 x13) Kp fun x14=>
 opN p_ (sLen #[9] 3 [x14]) Kp fun x15=>
 opN p_ (sFA 68 x5 1) Kp fun x16=>
 opN p_ (sLoad 9 x16) Kp fun x17=>
 opN p_ (sLen #[9] 3 [x17]) Kp fun x18=>
 opN p_ (sBin .add 3 x15 x18) Kp fun x19=>
 opN p_ (sBin .add 3 y3 x19) Kp fun x20=>
 opN p_ (sBin .add 3 y8 (.int .i64 1)) Kp fun x21=>
 next2 I1 m1 x20 x21)
 (K y3)) (.int .i64 0) (.int .i64 0)
theorem cache_size_s {v0:Value}:Shp p_ 36 [v0] (cache_size v0):=sh_ Tryz.call36 Tryz.func36 (an:={loops:=[(3,[3,8])]}) fun _ _=>by kernel_rfl
def slices_Clone_cache_entry_cache_entry (v0:Value)(Kp:PK)(K:Value→WP):WP:=
 opN p_ (sEq .eql 57 (.tmp 3) (.const (.slice none 0 0)) v0 (.slice none 0 0)) Kp fun x4=>
 condS x4
 (K (.slice none 0 0))
 (opN p_ (sBuildSl 57 0 []) Kp fun x5=>
 opN p_ (sApp #[57,57] 57 [x5,v0]) Kp fun x7=>
 K x7)
theorem slices_Clone_cache_entry_cache_entry_s {v0:Value}:Shp p_ 37 [v0] (slices_Clone_cache_entry_cache_entry v0):=sh_ Tryz.call37 Tryz.func37 (an:={}) fun _ _=>by kernel_rfl
def cache_entry_fits (v0 v1:Value)(Kp:PK)(K:Value→WP):WP:=
 opN p_ (sNil v0) Kp fun x8=>
 opN p_ (sFA 72 x8 4) Kp fun x9=>
 opN p_ (sFA 34 x9 1) Kp fun x10=>
 opN p_ (sLoad 29 x10) Kp fun x11=>
 opN p_ (sCall (fn 63) [x11]) Kp fun x12=>
 opN p_ (sLen #[46] 3 [x12]) Kp fun x13=>
 loop1 (fun I1 m1 _ y14=>
 opN p_ (sBin .lss 3 y14 x13) Kp fun x15=>
 condS x15
 (opN p_ (sIA 46 x12 y14) Kp fun x16=>
 opN p_ (sLoad 9 x16) Kp fun x17=>
 opN p_ (sNil v0) Kp fun x19=>
 opN p_ (sFA 72 x19 3) Kp fun x20=>
 opN p_ (sLoad 29 x20) Kp fun x21=>
 opN p_ (sCall (fn 77) [x21,x17]) Kp fun x23=>
 opN p_ (sCall (fn 77) [v1,x17]) Kp fun x26=>
 opN p_ (sCall (fn 76) [x23,x26]) Kp fun x27=>
 opN p_ (sUn .not x27) Kp fun x28=>
 condS x28
 (K (.bool false))
 (opN p_ (sBin .add 3 y14 (.int .i64 1)) Kp fun x29=>
 next1 I1 m1 x29))
 (K (.bool true))) (.int .i64 0)
theorem cache_entry_fits_s {v0 v1:Value}:Shp p_ 38 [v0,v1] (cache_entry_fits v0 v1):=sh_ Tryz.call38 Tryz.func38 (an:={loops:=[(2,[14])]}) fun _ _=>by kernel_rfl
def cache_Cache_drop (v0 v1:Value)(Kp:PK)(K:Value->WP):WP:=
 opN p_ (sBox 65 v1) Kp fun x3=>
 drS (stS p_ (sNil v0) fun x6=>
 stS p_ (sFA 62 x6 0) fun x7=>
 stS p_ (sLoad 65 x3) fun x8=>
 opN p_ (sCall (fn 78) [x7,x8]) Kp fun x9=>
 drS (stS p_ (sNil v0) fun x11=>
 stS p_ (sFA 62 x11 3) fun x12=>
 stS p_ (sLoad 3 x12) fun x13=>
 stS p_ (sLoad 65 x3) fun x14=>
 stS p_ (sNil x14) fun x15=>
 stS p_ (sFA 72 x15 7) fun x16=>
 stS p_ (sLoad 3 x16) fun x17=>
 stS p_ (sBin .sub 3 x13 x17) fun x18=>
 stS p_ (sNil v0) fun x19=>
 stS p_ (sFA 62 x19 3) fun x20=>
 opN p_ (sStore 3 x20 x18) Kp fun _=>
 drS (stS p_ (sNil v0) fun x22=>
 stS p_ (sFA 62 x22 1) fun x23=>
 stS p_ (sLoad 60 x23) fun x24=>
 stS p_ (sLoad 65 x3) fun x25=>
 stS p_ (sNil x25) fun x26=>
 stS p_ (sFA 72 x26 0) fun x27=>
 stS p_ (sLoad 9 x27) fun x28=>
 stS p_ (sLook 60 x24 x28 false) fun x29=>
 stS p_ (sMkF (.func 80) [] [x3]) fun x30=>
 opN p_ (sCall (fn 79) [x29,x30]) Kp fun x31=>
 drS (stS p_ (sNil v0) fun x33=>
 stS p_ (sFA 62 x33 1) fun x34=>
 stS p_ (sLoad 60 x34) fun x35=>
 stS p_ (sLoad 65 x3) fun x36=>
 stS p_ (sNil x36) fun x37=>
 stS p_ (sFA 72 x37 0) fun x38=>
 stS p_ (sLoad 9 x38) fun x39=>
 opN p_ (sMapSet 60 x35 x39 x31) Kp fun _=>
 opN p_ (sLen #[57] 3 [x31]) Kp fun x42=>
 opN p_ (sEq .eql 3 (.tmp 42) (.const (.int .i64 0)) x42 (.int .i64 0)) Kp fun x43=>
 condS x43
 (drS (stS p_ (sNil v0) fun x45=>
 stS p_ (sFA 62 x45 1) fun x46=>
 stS p_ (sLoad 60 x46) fun x47=>
 stS p_ (sLoad 65 x3) fun x48=>
 stS p_ (sNil x48) fun x49=>
 stS p_ (sFA 72 x49 0) fun x50=>
 stS p_ (sLoad 9 x50) fun x51=>
 opN p_ (sDel #[60,9] 0 [x47,x51]) Kp fun _=>
 K (.tuple #[])))
 (K (.tuple #[]))))))
theorem cache_Cache_drop_s {v0 v1:Value}:Shp p_ 39 [v0,v1] (cache_Cache_drop v0 v1):=sh_ Tryz.call39 Tryz.func39 (an:={drs:=[(1,.ofL [(0,1),(1,1),(2,1),(3,1),(4,0)]),(2,.ofL [(0,1),(1,1),(2,1),(3,1),(4,1),(5,1),(6,1),(7,1),(8,1),(9,1),(10,1),(11,0)]),(3,.ofL [(0,1),(1,1),(2,1),(3,1),(4,1),(5,1),(6,1),(7,1),(8,1),(9,1),(10,0),(11,1)]),(4,.ofL [(0,1),(1,1),(2,1),(3,1),(4,1),(5,1),(6,1),(7,1),(8,1),(9,0)]),(6,.ofL [(0,1),(1,1),(2,1),(3,1),(4,1),(5,1),(6,1),(7,1),(8,0)])]}) fun _ _=>by kernel_rfl
def cache_ring_touch (v0 v1:Value)(Kp:PK)(K:Value->WP):WP:=
 opN p_ (sCall (fn 78) [v0,v1]) Kp fun x6=>
 opN p_ (sNil v0) Kp fun x9=>
 opN p_ (sFA 59 x9 0) Kp fun x10=>
 opN p_ (sLoad 57 x10) Kp fun x11=>
 opN p_ (sBuildSl 57 1 [(0,v1)]) Kp fun x13=>
 opN p_ (sApp #[57,57] 57 [x11,x13]) Kp fun x14=>
 opN p_ (sNil v0) Kp fun x15=>
 opN p_ (sFA 59 x15 0) Kp fun x16=>
 opN p_ (sStore 57 x16 x14) Kp fun _=>
 K (.tuple #[])
theorem cache_ring_touch_s {v0 v1:Value}:Shp p_ 40 [v0,v1] (cache_ring_touch v0 v1):=sh_ Tryz.call40 Tryz.func40 (an:={}) fun _ _=>by kernel_rfl
def cache_Cache_find (v0 v1 v2:Value)(Kp:PK)(K:Value→WP):WP:=
 opN p_ (sNil v0) Kp fun x10=>
 opN p_ (sFA 62 x10 1) Kp fun x11=>
 opN p_ (sLoad 60 x11) Kp fun x12=>
 opN p_ (sLook 60 x12 v1 false) Kp fun x14=>
 opN p_ (sLen #[57] 3 [x14]) Kp fun x16=>
 opN p_ (sBin .sub 3 x16 (.int .i64 1)) Kp fun x17=>
 loop1 (fun I1 m1 _ y8=>
 opN p_ (sBin .geq 3 y8 (.int .i64 0)) Kp fun x19=>
 condS x19
 (opN p_ (sIA 57 x14 y8) Kp fun x24=>
 opN p_ (sLoad 65 x24) Kp fun x25=>
 opN p_ (sCall (fn 38) [x25,v2]) Kp fun x27=>
 condS x27
 (opN p_ (sIA 57 x14 y8) Kp fun x30=>
 opN p_ (sLoad 65 x30) Kp fun x31=>
 K x31)
 (opN p_ (sBin .sub 3 y8 (.int .i64 1)) Kp fun x21=>
 next1 I1 m1 x21))
 (K (.pointer none))) x17
theorem cache_Cache_find_s {v0 v1 v2:Value}:Shp p_ 41 [v0,v1,v2] (cache_Cache_find v0 v1 v2):=sh_ Tryz.call41 Tryz.func41 (an:={loops:=[(3,[8])]}) fun _ _=>by kernel_rfl
def cache_list_directives (v0:Value)(Kp:PK)(K:Value->WP):WP:=
 opN p_ (sCall (fn 45) [v0,(.string ⟨#[67,97,99,104,101,45,67,111,110,116,114,111,108]⟩)]) Kp fun x7=>
 opN p_ (sCall (fn 81) [x7]) Kp fun x8=>
 opN p_ (sExt x8 0) Kp fun x9=>
 opN p_ (sExt x8 1) Kp fun x10=>
 K x9
theorem cache_list_directives_s {v0:Value}:Shp p_ 42 [v0] (cache_list_directives v0):=sh_ Tryz.call42 Tryz.func42 (an:={}) fun _ _=>by kernel_rfl
def fields_Seconds (v0 v1:Value)(Kp:PK)(K:Value→WP):WP:=
 opN p_ (sLen #[79] 3 [v0]) Kp fun x11=>
 loop1 (fun I1 m1 _ y12=>
 opN p_ (sBin .lss 3 y12 x11) Kp fun x13=>
 condS x13
 (opN p_ (sIA 79 v0 y12) Kp fun x14=>
 opN p_ (sLoad 128 x14) Kp fun x15=>
 opN p_ (sAlloc 128) Kp fun x7=>
 opN p_ (sStore 128 x7 x15) Kp fun _=>
 opN p_ (sFA 128 x7 0) Kp fun x16=>
 opN p_ (sLoad 9 x16) Kp fun x17=>
 opN p_ (sEq .neq 9 (.tmp 17) (.tmp 18) x17 v1) Kp fun x19=>
 condS x19
 (opN p_ (sBin .add 3 y12 (.int .i64 1)) Kp fun x37=>
 next1 I1 m1 x37)
 (opN p_ (sFA 128 x7 1) Kp fun x21=>
 opN p_ (sLoad 9 x21) Kp fun x22=>
 opN p_ (sCall (fn 66) [x22]) Kp fun x23=>
 opN p_ (sExt x23 0) Kp fun x24=>
 opN p_ (sExt x23 1) Kp fun x25=>
 cut1 (fun J1=>
 opN p_ (sEq .eql 24 (.tmp 27) (.const (.int .i64 11)) x25 (.int .i64 11)) Kp fun x28=>
 condS x28
 (J1 (.int .i64 2147483648))
 (opN p_ (sEq .neq 24 (.tmp 30) (.const (.int .i64 0)) x25 (.int .i64 0)) Kp fun x31=>
 condS x31
 (condS x31
 (J1 (.int .i64 0))
 (J1 x24))
 (opN p_ (sFA 128 x7 2) Kp fun x32=>
 opN p_ (sLoad 4 x32) Kp fun x33=>
 opN p_ (sUn .not x33) Kp fun x34=>
 condS x34
 (J1 (.int .i64 0))
 (J1 x24)))) fun _ z8=>
 opN p_ (sMin #[3,3] 3 [z8,(.int .i64 2147483648)]) Kp fun x36=>
 K (.tuple #[x36,(.bool true)])))
 (K (.tuple #[(.int .i64 0),(.bool false)]))) (.int .i64 0)
theorem fields_Seconds_s {v0 v1:Value}:Shp p_ 43 [v0,v1] (fields_Seconds v0 v1):=sh_ Tryz.call43 Tryz.func43 (an:={cuts:=[(11,[8])],loops:=[(2,[12])]}) fun _ _=>by kernel_rfl
def fields_Tokens (v0:Value)(Kp:PK)(K:Value->WP):WP:=
 opN p_ (sBuild 132 [(2,(fn 83))]) Kp fun x5=>
 opN p_ (sCall (fn 82) [v0,x5]) Kp fun x6=>
 opN p_ (sExt x6 0) Kp fun x7=>
 opN p_ (sExt x6 1) Kp fun x8=>
 K (.tuple #[x7,x8])
theorem fields_Tokens_s {v0:Value}:Shp p_ 44 [v0] (fields_Tokens v0):=sh_ Tryz.call44 Tryz.func44 (an:={}) fun _ _=>by kernel_rfl
def cache_list_all (v0 v1:Value)(Kp:PK)(K:Value->WP):WP:=
 opN p_ (sCall (fn 77) [v0,v1]) Kp fun x7=>
 opN p_ (sCall (fn 85) [x7,(.string ⟨#[44]⟩)]) Kp fun x8=>
 K x8
theorem cache_list_all_s {v0 v1:Value}:Shp p_ 45 [v0,v1] (cache_list_all v0 v1):=sh_ Tryz.call45 Tryz.func45 (an:={}) fun _ _=>by kernel_rfl
def cache_says (v0:Value)(Kp:PK)(K:Value->WP):WP:=
 opN p_ (sBox 79 v0) Kp fun x1=>
 opN p_ (sMkF (.func 86) [] [x1]) Kp fun x3=>
 K x3
theorem cache_says_s {v0:Value}:Shp p_ 46 [v0] (cache_says v0):=sh_ Tryz.call46 Tryz.func46 (an:={}) fun _ _=>by kernel_rfl
def slices_Contains_string_string (v0 v1:Value)(Kp:PK)(K:Value->WP):WP:=
 opN p_ (sCall (fn 89) [v0,v1]) Kp fun x7=>
 opN p_ (sBin .geq 3 x7 (.int .i64 0)) Kp fun x8=>
 K x8
theorem slices_Contains_string_string_s {v0 v1:Value}:Shp p_ 47 [v0,v1] (slices_Contains_string_string v0 v1):=sh_ Tryz.call47 Tryz.func47 (an:={}) fun _ _=>by kernel_rfl
def cache_list_has (v0 v1:Value)(Kp:PK)(K:Value->WP):WP:=
 opN p_ (sBox 78 v0) Kp fun x2=>
 opN p_ (sMkF (.func 90) [] [x2]) Kp fun x6=>
 opN p_ (sCall (fn 72) [v1,x6]) Kp fun x7=>
 K x7
theorem cache_list_has_s {v0 v1:Value}:Shp p_ 48 [v0,v1] (cache_list_has v0 v1):=sh_ Tryz.call48 Tryz.func48 (an:={}) fun _ _=>by kernel_rfl
def head_Without (v0 v1:Value)(Kp:PK)(K:Value→WP):WP:=
 opN p_ (sLen #[29] 3 [v0]) Kp fun x11=>
 loop2 (fun I1 m1 _ y5 y12=>
 opN p_ (sBin .lss 3 y12 x11) Kp fun x13=>
 condS x13
 (opN p_ (sIA 29 v0 y12) Kp fun x14=>
 opN p_ (sLoad 68 x14) Kp fun x15=>
 opN p_ (sAlloc 68) Kp fun x7=>
 opN p_ (sStore 68 x7 x15) Kp fun _=>
 opN p_ (sLen #[46] 3 [v1]) Kp fun x17=>
 loop1 (fun I2 m2 _ y18=>
 opN p_ (sBin .lss 3 y18 x17) Kp fun x19=>
 condS x19
 (opN p_ (sIA 46 v1 y18) Kp fun x20=>
 opN p_ (sLoad 9 x20) Kp fun x21=>
 opN p_ (sFA 68 x7 0) Kp fun x22=>
 opN p_ (sLoad 9 x22) Kp fun x23=>
 opN p_ (sCall (fn 74) [x23,x21]) Kp fun x25=>
 condS x25
 (opN p_ (sBin .add 3 y12 (.int .i64 1)) Kp fun x31=>
 next2 I1 m1 y5 x31)
 (opN p_ (sBin .add 3 y18 (.int .i64 1)) Kp fun x26=>
 next1 I2 m2 x26))
 (opN p_ (sLoad 68 x7) Kp fun x28=>
 opN p_ (sBuildSl 29 1 [(0,x28)]) Kp fun x29=>
 opN p_ (sApp #[29,29] 29 [y5,x29]) Kp fun x30=>
 opN p_ (sBin .add 3 y12 (.int .i64 1)) Kp fun x31=>
 next2 I1 m1 x30 x31)) (.int .i64 0))
 (K y5)) (.slice none 0 0) (.int .i64 0)
theorem head_Without_s {v0 v1:Value}:Shp p_ 49 [v0,v1] (head_Without v0 v1):=sh_ Tryz.call49 Tryz.func49 (an:={loops:=[(3,[5,12]),(6,[18])]}) fun _ _=>by kernel_rfl
def ascii_Digits (v0:Value)(Kp:PK)(K:Value->WP):WP:=
 opN p_ (sCall (fn 91) [v0]) Kp fun x4=>
 K x4
theorem ascii_Digits_s {v0:Value}:Shp p_ 50 [v0] (ascii_Digits v0):=sh_ Tryz.call50 Tryz.func50 (an:={}) fun _ _=>by kernel_rfl
def ref23_directives (v0:Value)(Kp:PK)(K:Value->WP):WP:=
 opN p_ (sCall (fn 93) [v0,(.string ⟨#[99,97,99,104,101,45,99,111,110,116,114,111,108]⟩)]) Kp fun x7=>
 opN p_ (sCall (fn 92) [x7]) Kp fun x8=>
 opN p_ (sExt x8 0) Kp fun x9=>
 opN p_ (sExt x8 1) Kp fun x10=>
 K x9
theorem ref23_directives_s {v0:Value}:Shp p_ 51 [v0] (ref23_directives v0):=sh_ Tryz.call51 Tryz.func51 (an:={}) fun _ _=>by kernel_rfl
def ref23_says (v0 v1:Value)(Kp:PK)(K:Value→WP):WP:=
 loop1 (fun I1 m1 _ y5=>
 opN p_ (sLen #[91] 3 [v0]) Kp fun x8=>
 opN p_ (sBin .lss 3 y5 x8) Kp fun x9=>
 condS x9
 (opN p_ (sIA 91 v0 y5) Kp fun x14=>
 opN p_ (sFA 140 x14 0) Kp fun x15=>
 opN p_ (sLoad 9 x15) Kp fun x16=>
 opN p_ (sEq .eql 9 (.tmp 16) (.tmp 17) x16 v1) Kp fun x18=>
 condS x18
 (K (.bool true))
 (opN p_ (sBin .add 3 y5 (.int .i64 1)) Kp fun x11=>
 next1 I1 m1 x11))
 (K (.bool false))) (.int .i64 0)
theorem ref23_says_s {v0 v1:Value}:Shp p_ 52 [v0,v1] (ref23_says v0 v1):=sh_ Tryz.call52 Tryz.func52 (an:={loops:=[(2,[5])]}) fun _ _=>by kernel_rfl
def ref23_comes (v0 v1:Value)(Kp:PK)(K:Value->WP):WP:=
 opN p_ (sCall (fn 55) [v0,v1]) Kp fun x7=>
 opN p_ (sLen #[46] 3 [x7]) Kp fun x8=>
 opN p_ (sBin .gtr 3 x8 (.int .i64 0)) Kp fun x9=>
 K x9
theorem ref23_comes_s {v0 v1:Value}:Shp p_ 53 [v0,v1] (ref23_comes v0 v1):=sh_ Tryz.call53 Tryz.func53 (an:={}) fun _ _=>by kernel_rfl
def ref23_Varies (v0:Value)(Kp:PK)(K:Value->WP):WP:=
 opN p_ (sCall (fn 93) [v0,(.string ⟨#[118,97,114,121]⟩)]) Kp fun x4=>
 opN p_ (sCall (fn 94) [x4,(.int .u8 44)]) Kp fun x5=>
 K x5
theorem ref23_Varies_s {v0:Value}:Shp p_ 54 [v0] (ref23_Varies v0):=sh_ Tryz.call54 Tryz.func54 (an:={}) fun _ _=>by kernel_rfl
def ref11_Values (v0 v1:Value)(Kp:PK)(K:Value→WP):WP:=
 loop2 (fun I1 m1 _ y5 y6=>
 opN p_ (sLen #[29] 3 [v0]) Kp fun x9=>
 opN p_ (sBin .lss 3 y6 x9) Kp fun x10=>
 condS x10
 (opN p_ (sIA 29 v0 y6) Kp fun x15=>
 opN p_ (sFA 68 x15 0) Kp fun x16=>
 opN p_ (sLoad 9 x16) Kp fun x17=>
 opN p_ (sCall (fn 56) [x17,v1]) Kp fun x19=>
 condS x19
 (opN p_ (sIA 29 v0 y6) Kp fun x23=>
 opN p_ (sFA 68 x23 1) Kp fun x24=>
 opN p_ (sLoad 9 x24) Kp fun x25=>
 opN p_ (sBuildSl 46 1 [(0,x25)]) Kp fun x26=>
 opN p_ (sApp #[46,46] 46 [y5,x26]) Kp fun x27=>
 opN p_ (sBin .add 3 y6 (.int .i64 1)) Kp fun x12=>
 next2 I1 m1 x27 x12)
 (opN p_ (sBin .add 3 y6 (.int .i64 1)) Kp fun x12=>
 next2 I1 m1 y5 x12))
 (K y5)) (.slice none 0 0) (.int .i64 0)
theorem ref11_Values_s {v0 v1:Value}:Shp p_ 55 [v0,v1] (ref11_Values v0 v1):=sh_ Tryz.call55 Tryz.func55 (an:={loops:=[(3,[5,6])]}) fun _ _=>by kernel_rfl
def ref01_Equal (v0 v1:Value)(Kp:PK)(K:Value->WP):WP:=
 opN p_ (sCall (fn 68) [v0]) Kp fun x6=>
 opN p_ (sCall (fn 68) [v1]) Kp fun x8=>
 opN p_ (sEq .eql 9 (.tmp 6) (.tmp 8) x6 x8) Kp fun x9=>
 K x9
theorem ref01_Equal_s {v0 v1:Value}:Shp p_ 56 [v0,v1] (ref01_Equal v0 v1):=sh_ Tryz.call56 Tryz.func56 (an:={}) fun _ _=>by kernel_rfl
def ref23_time (v0:Value)(Kp:PK)(K:Value->WP):WP:=
 opN p_ (sMin #[3,3] 3 [v0,(.int .i64 1099511627776)]) Kp fun x4=>
 opN p_ (sMax #[3,3] 3 [(.int .i64 0),x4]) Kp fun x5=>
 K x5
theorem ref23_time_s {v0:Value}:Shp p_ 57 [v0] (ref23_time v0):=sh_ Tryz.call57 Tryz.func57 (an:={}) fun _ _=>by kernel_rfl
def ref10_Seconds (v0 v1:Value)(Kp:PK)(K:Value→WP):WP:=
 loop1 (fun I1 m1 _ y6=>
 opN p_ (sLen #[91] 3 [v0]) Kp fun x11=>
 opN p_ (sBin .lss 3 y6 x11) Kp fun x12=>
 condS x12
 (opN p_ (sIA 91 v0 y6) Kp fun x17=>
 opN p_ (sFA 140 x17 0) Kp fun x18=>
 opN p_ (sLoad 9 x18) Kp fun x19=>
 opN p_ (sEq .neq 9 (.tmp 19) (.tmp 20) x19 v1) Kp fun x21=>
 condS x21
 (opN p_ (sBin .add 3 y6 (.int .i64 1)) Kp fun x14=>
 next1 I1 m1 x14)
 (opN p_ (sIA 91 v0 y6) Kp fun x25=>
 opN p_ (sFA 140 x25 1) Kp fun x26=>
 opN p_ (sLoad 9 x26) Kp fun x27=>
 opN p_ (sCall (fn 61) [x27]) Kp fun x28=>
 opN p_ (sExt x28 0) Kp fun x29=>
 opN p_ (sExt x28 1) Kp fun x30=>
 opN p_ (sEq .eql 3 (.tmp 32) (.const (.int .i64 11)) x30 (.int .i64 11)) Kp fun x33=>
 gdK x33 false (fun k=>k x29) fun x35=>
 gdK x33 false (opN p_ (sBin .gtr 3 x35 (.int .i64 2147483648)) Kp) fun x36=>
 opN p_ (sPick x33 (.bool true) x36) Kp fun x37=>
 condS x37
 (K (.tuple #[(.int .i64 2147483648),(.bool true)]))
 (opN p_ (sEq .neq 3 (.tmp 39) (.const (.int .i64 0)) x30 (.int .i64 0)) Kp fun x40=>
 gdK x40 false (fun k=>k v0) fun x42=>
 gdK x40 false (fun k=>k y6) fun x43=>
 gdK x40 false (opN p_ (sIA 91 x42 x43) Kp) fun x44=>
 gdK x40 false (opN p_ (sFA 140 x44 2) Kp) fun x45=>
 gdK x40 false (opN p_ (sLoad 4 x45) Kp) fun x46=>
 gdK x40 false (opN p_ (sUn .not x46) Kp) fun x47=>
 opN p_ (sPick x40 (.bool true) x47) Kp fun x48=>
 condS x48
 (K (.tuple #[(.int .i64 0),(.bool true)]))
 (K (.tuple #[x29,(.bool true)])))))
 (K (.tuple #[(.int .i64 0),(.bool false)]))) (.int .i64 0)
theorem ref10_Seconds_s {v0 v1:Value}:Shp p_ 58 [v0,v1] (ref10_Seconds v0 v1):=sh_ Tryz.call58 Tryz.func58 (an:={loops:=[(2,[6])]}) fun _ _=>by kernel_rfl
def ref23_date (v0 v1 v2:Value)(Kp:PK)(K:Value->WP):WP:=
 opN p_ (sCall (fn 60) [v0,v1]) Kp fun x15=>
 opN p_ (sExt x15 0) Kp fun x16=>
 opN p_ (sExt x15 1) Kp fun x17=>
 opN p_ (sCall (fn 95) [x16,v2]) Kp fun x21=>
 opN p_ (sExt x21 0) Kp fun x22=>
 opN p_ (sExt x21 1) Kp fun x23=>
 gdK x17 true (fun k=>k x23) fun x27=>
 gdK x17 true (opN p_ (sEq .eql 3 (.tmp 27) (.const (.int .i64 0)) x27 (.int .i64 0)) Kp) fun x28=>
 opN p_ (sPick x17 x28 (.bool false)) Kp fun x29=>
 K (.tuple #[x22,x29])
theorem ref23_date_s {v0 v1 v2:Value}:Shp p_ 59 [v0,v1,v2] (ref23_date v0 v1 v2):=sh_ Tryz.call59 Tryz.func59 (an:={}) fun _ _=>by kernel_rfl
def ref11_First (v0 v1:Value)(Kp:PK)(K:Value→WP):WP:=
 opN p_ (sCall (fn 55) [v0,v1]) Kp fun x9=>
 opN p_ (sLen #[46] 3 [x9]) Kp fun x11=>
 opN p_ (sEq .eql 3 (.tmp 11) (.const (.int .i64 0)) x11 (.int .i64 0)) Kp fun x12=>
 condS x12
 (K (.tuple #[(.string ⟨#[]⟩),(.bool false)]))
 (opN p_ (sIA 46 x9 (.int .i64 0)) Kp fun x14=>
 opN p_ (sLoad 9 x14) Kp fun x15=>
 K (.tuple #[x15,(.bool true)]))
theorem ref11_First_s {v0 v1:Value}:Shp p_ 60 [v0,v1] (ref11_First v0 v1):=sh_ Tryz.call60 Tryz.func60 (an:={}) fun _ _=>by kernel_rfl
def ref01_Decimal (v0:Value)(Kp:PK)(K:Value->WP):WP:=
 opN p_ (sCall (fn 96) [v0,(.int .i64 10),(.int .i64 1000000000000000000)]) Kp fun x5=>
 opN p_ (sExt x5 0) Kp fun x6=>
 opN p_ (sExt x5 1) Kp fun x7=>
 K (.tuple #[x6,x7])
theorem ref01_Decimal_s {v0:Value}:Shp p_ 61 [v0] (ref01_Decimal v0):=sh_ Tryz.call61 Tryz.func61 (an:={}) fun _ _=>by kernel_rfl
def slices_Contains_int_int (v0 v1:Value)(Kp:PK)(K:Value->WP):WP:=
 opN p_ (sCall (fn 97) [v0,v1]) Kp fun x7=>
 opN p_ (sBin .geq 3 x7 (.int .i64 0)) Kp fun x8=>
 K x8
theorem slices_Contains_int_int_s {v0 v1:Value}:Shp p_ 62 [v0,v1] (slices_Contains_int_int v0 v1):=sh_ Tryz.call62 Tryz.func62 (an:={}) fun _ _=>by kernel_rfl
def cache_list_varies (v0:Value)(Kp:PK)(K:Value->WP):WP:=
 opN p_ (sCall (fn 45) [v0,(.string ⟨#[86,97,114,121]⟩)]) Kp fun x4=>
 opN p_ (sCall (fn 98) [x4,(.int .u8 44)]) Kp fun x5=>
 K x5
theorem cache_list_varies_s {v0:Value}:Shp p_ 63 [v0] (cache_list_varies v0):=sh_ Tryz.call63 Tryz.func63 (an:={}) fun _ _=>by kernel_rfl
def cache_list_date (v0 v1 v2:Value)(Kp:PK)(K:Value->WP):WP:=
 opN p_ (sCall (fn 65) [v0,v1]) Kp fun x15=>
 opN p_ (sExt x15 0) Kp fun x16=>
 opN p_ (sExt x15 1) Kp fun x17=>
 opN p_ (sCall (fn 99) [x16,v2]) Kp fun x21=>
 opN p_ (sExt x21 0) Kp fun x22=>
 opN p_ (sExt x21 1) Kp fun x23=>
 gdK x17 true (fun k=>k x23) fun x27=>
 gdK x17 true (opN p_ (sEq .eql 24 (.tmp 27) (.const (.int .i64 0)) x27 (.int .i64 0)) Kp) fun x28=>
 opN p_ (sPick x17 x28 (.bool false)) Kp fun x29=>
 K (.tuple #[x22,x29])
theorem cache_list_date_s {v0 v1 v2:Value}:Shp p_ 64 [v0,v1,v2] (cache_list_date v0 v1 v2):=sh_ Tryz.call64 Tryz.func64 (an:={}) fun _ _=>by kernel_rfl
def head_First (v0 v1:Value)(Kp:PK)(K:Value→WP):WP:=
 opN p_ (sCall (fn 77) [v0,v1]) Kp fun x10=>
 opN p_ (sLen #[46] 3 [x10]) Kp fun x11=>
 loop1 (fun I1 m1 _ y12=>
 opN p_ (sBin .lss 3 y12 x11) Kp fun x13=>
 condS x13
 (opN p_ (sIA 46 x10 y12) Kp fun x14=>
 opN p_ (sLoad 9 x14) Kp fun x15=>
 K (.tuple #[x15,(.bool true)]))
 (K (.tuple #[(.string ⟨#[]⟩),(.bool false)]))) (.int .i64 0)
theorem head_First_s {v0 v1:Value}:Shp p_ 65 [v0,v1] (head_First v0 v1):=sh_ Tryz.call65 Tryz.func65 (an:={loops:=[(2,[12])]}) fun _ _=>by kernel_rfl
def ascii_Decimal (v0:Value)(Kp:PK)(K:Value->WP):WP:=
 opN p_ (sCall (fn 100) [v0,(.int .i64 10),(.int .i64 1000000000000000000)]) Kp fun x5=>
 opN p_ (sExt x5 0) Kp fun x6=>
 opN p_ (sExt x5 1) Kp fun x7=>
 K (.tuple #[x6,x7])
theorem ascii_Decimal_s {v0:Value}:Shp p_ 66 [v0] (ascii_Decimal v0):=sh_ Tryz.call66 Tryz.func66 (an:={}) fun _ _=>by kernel_rfl
def ascii_Lower (v0:Value)(Kp:PK)(K:Value→WP):WP:=
 opN p_ (sCall (fn 101) []) Kp fun x7=>
 opN p_ (sAlloc 147) Kp fun x3=>
 opN p_ (sStore 147 x3 x7) Kp fun _=>
 opN p_ (sConv 9 32 v0) Kp fun x9=>
 opN p_ (sLen #[32] 3 [x9]) Kp fun x11=>
 loop1 (fun I1 m1 _ y12=>
 opN p_ (sBin .lss 3 y12 x11) Kp fun x13=>
 condS x13
 (opN p_ (sIA 32 x9 y12) Kp fun x15=>
 opN p_ (sLoad 5 x15) Kp fun x16=>
 opN p_ (sIA 147 x3 x16) Kp fun x18=>
 opN p_ (sLoad 3 x18) Kp fun x19=>
 opN p_ (sBin .and 3 x19 (.int .i64 4)) Kp fun x20=>
 opN p_ (sEq .neq 3 (.tmp 20) (.const (.int .i64 0)) x20 (.int .i64 0)) Kp fun x21=>
 condS x21
 (opN p_ (sBin .add 5 x16 (.int .u8 32)) Kp fun x25=>
 opN p_ (sIA 32 x9 y12) Kp fun x26=>
 opN p_ (sStore 5 x26 x25) Kp fun _=>
 opN p_ (sBin .add 3 y12 (.int .i64 1)) Kp fun x27=>
 next1 I1 m1 x27)
 (opN p_ (sBin .add 3 y12 (.int .i64 1)) Kp fun x27=>
 next1 I1 m1 x27))
 (opN p_ (sConv 32 9 x9) Kp fun x29=>
 K x29)) (.int .i64 0)
theorem ascii_Lower_s {v0:Value}:Shp p_ 67 [v0] (ascii_Lower v0):=sh_ Tryz.call67 Tryz.func67 (an:={loops:=[(4,[12])]}) fun _ _=>by kernel_rfl
def ref01_Lower (v0:Value)(Kp:PK)(K:Value→WP):WP:=
 opN p_ (sConv 9 32 v0) Kp fun x6=>
 loop1 (fun I1 m1 _ y4=>
 opN p_ (sLen #[32] 3 [x6]) Kp fun x9=>
 opN p_ (sBin .lss 3 y4 x9) Kp fun x10=>
 condS x10
 (opN p_ (sIA 32 x6 y4) Kp fun x15=>
 opN p_ (sLoad 5 x15) Kp fun x16=>
 opN p_ (sBin .geq 5 x16 (.int .u8 65)) Kp fun x17=>
 gdK x17 true (fun k=>k x6) fun x19=>
 gdK x17 true (fun k=>k y4) fun x20=>
 gdK x17 true (opN p_ (sIA 32 x19 x20) Kp) fun x21=>
 gdK x17 true (opN p_ (sLoad 5 x21) Kp) fun x22=>
 gdK x17 true (opN p_ (sBin .leq 5 x22 (.int .u8 90)) Kp) fun x23=>
 opN p_ (sPick x17 x23 (.bool false)) Kp fun x24=>
 condS x24
 (opN p_ (sIA 32 x6 y4) Kp fun x29=>
 opN p_ (sLoad 5 x29) Kp fun x30=>
 opN p_ (sBin .add 5 x30 (.int .u8 32)) Kp fun x31=>
 opN p_ (sIA 32 x6 y4) Kp fun x32=>
 opN p_ (sStore 5 x32 x31) Kp fun _=>
 opN p_ (sBin .add 3 y4 (.int .i64 1)) Kp fun x12=>
 next1 I1 m1 x12)
 (opN p_ (sBin .add 3 y4 (.int .i64 1)) Kp fun x12=>
 next1 I1 m1 x12))
 (opN p_ (sConv 32 9 x6) Kp fun x34=>
 K x34)) (.int .i64 0)
theorem ref01_Lower_s {v0:Value}:Shp p_ 68 [v0] (ref01_Lower v0):=sh_ Tryz.call68 Tryz.func68 (an:={loops:=[(3,[4])]}) fun _ _=>by kernel_rfl
def slices_ContainsFunc_string_string (v0 v1:Value)(Kp:PK)(K:Value->WP):WP:=
 opN p_ (sCall (fn 103) [v0,v1]) Kp fun x7=>
 opN p_ (sBin .geq 3 x7 (.int .i64 0)) Kp fun x8=>
 K x8
theorem slices_ContainsFunc_string_string_s {v0 v1:Value}:Shp p_ 72 [v0,v1] (slices_ContainsFunc_string_string v0 v1):=sh_ Tryz.call72 Tryz.func72 (an:={}) fun _ _=>by kernel_rfl
def cache_varied_1 (v0 v1:Value)(Kp:PK)(K:Value->WP):WP:=
 opN p_ (sFA 68 v1 0) Kp fun x5=>
 opN p_ (sLoad 9 x5) Kp fun x6=>
 opN p_ (sCall (fn 74) [v0,x6]) Kp fun x7=>
 K x7
theorem cache_varied_1_s {v0 v1:Value}:Shp p_ 73 [v0,v1] (cache_varied_1 v0 v1):=sh_ Tryz.call73 Tryz.func73 (an:={}) fun _ _=>by kernel_rfl
def ascii_Equal (v0 v1:Value)(Kp:PK)(K:Value->WP):WP:=
 opN p_ (sLen #[9] 3 [v0]) Kp fun x6=>
 opN p_ (sLen #[9] 3 [v1]) Kp fun x8=>
 opN p_ (sEq .eql 3 (.tmp 6) (.tmp 8) x6 x8) Kp fun x9=>
 gdK x9 true (fun k=>k v0) fun x11=>
 gdK x9 true (opN p_ (sCall (fn 67) [x11]) Kp) fun x12=>
 gdK x9 true (fun k=>k v1) fun x13=>
 gdK x9 true (opN p_ (sCall (fn 67) [x13]) Kp) fun x14=>
 gdK x9 true (opN p_ (sEq .eql 9 (.tmp 12) (.tmp 14) x12 x14) Kp) fun x15=>
 opN p_ (sPick x9 x15 (.bool false)) Kp fun x16=>
 K x16
theorem ascii_Equal_s {v0 v1:Value}:Shp p_ 74 [v0,v1] (ascii_Equal v0 v1):=sh_ Tryz.call74 Tryz.func74 (an:={}) fun _ _=>by kernel_rfl
def slices_Clone_byte_byte (v0:Value)(Kp:PK)(K:Value→WP):WP:=
 opN p_ (sEq .eql 32 (.tmp 3) (.const (.slice none 0 0)) v0 (.slice none 0 0)) Kp fun x4=>
 condS x4
 (K (.slice none 0 0))
 (opN p_ (sBuildSl 32 0 []) Kp fun x5=>
 opN p_ (sApp #[32,32] 32 [x5,v0]) Kp fun x7=>
 K x7)
theorem slices_Clone_byte_byte_s {v0:Value}:Shp p_ 75 [v0] (slices_Clone_byte_byte v0):=sh_ Tryz.call75 Tryz.func75 (an:={}) fun _ _=>by kernel_rfl
def slices_Equal_string_string (v0 v1:Value)(Kp:PK)(K:Value→WP):WP:=
 opN p_ (sLen #[46] 3 [v0]) Kp fun x7=>
 opN p_ (sLen #[46] 3 [v1]) Kp fun x9=>
 opN p_ (sEq .neq 3 (.tmp 7) (.tmp 9) x7 x9) Kp fun x10=>
 condS x10
 (K (.bool false))
 (opN p_ (sLen #[46] 3 [v0]) Kp fun x12=>
 loop1 (fun I1 m1 _ y13=>
 opN p_ (sBin .lss 3 y13 x12) Kp fun x14=>
 condS x14
 (drS (stS p_ (sIA 46 v0 y13) fun x18=>
 stS p_ (sLoad 9 x18) fun x19=>
 stS p_ (sIA 46 v1 y13) fun x22=>
 stS p_ (sLoad 9 x22) fun x23=>
 stS p_ (sEq .neq 9 (.tmp 19) (.tmp 23) x19 x23) fun x24=>
 condS x24
 (K (.bool false))
 (opN p_ (sBin .add 3 y13 (.int .i64 1)) Kp fun x25=>
 next1 I1 m1 x25)))
 (K (.bool true))) (.int .i64 0))
theorem slices_Equal_string_string_s {v0 v1:Value}:Shp p_ 76 [v0,v1] (slices_Equal_string_string v0 v1):=sh_ Tryz.call76 Tryz.func76 (an:={loops:=[(4,[13])],drs:=[(6,.ofL [(0,1),(1,1),(2,1),(3,1),(4,1),(5,1),(6,1),(7,1),(8,1)])]}) fun _ _=>by kernel_rfl
def head_Values (v0 v1:Value)(Kp:PK)(K:Value→WP):WP:=
 opN p_ (sLen #[29] 3 [v0]) Kp fun x9=>
 loop2 (fun I1 m1 _ y5 y10=>
 opN p_ (sBin .lss 3 y10 x9) Kp fun x11=>
 condS x11
 (opN p_ (sIA 29 v0 y10) Kp fun x12=>
 opN p_ (sLoad 68 x12) Kp fun x13=>
 opN p_ (sAlloc 68) Kp fun x7=>
 opN p_ (sStore 68 x7 x13) Kp fun _=>
 opN p_ (sFA 68 x7 0) Kp fun x14=>
 opN p_ (sLoad 9 x14) Kp fun x15=>
 opN p_ (sCall (fn 74) [x15,v1]) Kp fun x17=>
 condS x17
 (opN p_ (sFA 68 x7 1) Kp fun x19=>
 opN p_ (sLoad 9 x19) Kp fun x20=>
 opN p_ (sBuildSl 46 1 [(0,x20)]) Kp fun x21=>
 opN p_ (sApp #[46,46] 46 [y5,x21]) Kp fun x22=>
 opN p_ (sBin .add 3 y10 (.int .i64 1)) Kp fun x23=>
 next2 I1 m1 x22 x23)
 (opN p_ (sBin .add 3 y10 (.int .i64 1)) Kp fun x23=>
 next2 I1 m1 y5 x23))
 (K y5)) (.slice none 0 0) (.int .i64 0)
theorem head_Values_s {v0 v1:Value}:Shp p_ 77 [v0,v1] (head_Values v0 v1):=sh_ Tryz.call77 Tryz.func77 (an:={loops:=[(3,[5,10])]}) fun _ _=>by kernel_rfl
def cache_ring_leave (v0 v1:Value)(Kp:PK)(K:Value->WP):WP:=
 opN p_ (sBox 65 v1) Kp fun x3=>
 opN p_ (sNil v0) Kp fun x6=>
 opN p_ (sFA 59 x6 0) Kp fun x7=>
 opN p_ (sLoad 57 x7) Kp fun x8=>
 opN p_ (sMkF (.func 104) [] [x3]) Kp fun x9=>
 opN p_ (sCall (fn 79) [x8,x9]) Kp fun x10=>
 opN p_ (sNil v0) Kp fun x11=>
 opN p_ (sFA 59 x11 0) Kp fun x12=>
 opN p_ (sStore 57 x12 x10) Kp fun _=>
 K (.tuple #[])
theorem cache_ring_leave_s {v0 v1:Value}:Shp p_ 78 [v0,v1] (cache_ring_leave v0 v1):=sh_ Tryz.call78 Tryz.func78 (an:={}) fun _ _=>by kernel_rfl
def slices_DeleteFunc_cache_entry_cache_entry (v0 v1:Value)(Kp:PK)(K:Value→WP):WP:=
 opN p_ (sCall (fn 105) [v0,v1]) Kp fun x10=>
 opN p_ (sEq .eql 3 (.tmp 11) (.const (.int .i64 (-1))) x10 (.int .i64 (-1))) Kp fun x12=>
 condS x12
 (K v0)
 (opN p_ (sBin .add 3 x10 (.int .i64 1)) Kp fun x15=>
 loop2 (fun I1 m1 _ y5 y6=>
 opN p_ (sLen #[57] 3 [v0]) Kp fun x18=>
 opN p_ (sBin .lss 3 y6 x18) Kp fun x19=>
 condS x19
 (opN p_ (sIA 57 v0 y6) Kp fun x24=>
 opN p_ (sLoad 65 x24) Kp fun x25=>
 opN p_ (sCall v1 [x25]) Kp fun x28=>
 opN p_ (sUn .not x28) Kp fun x29=>
 condS x29
 (opN p_ (sIA 57 v0 y5) Kp fun x33=>
 opN p_ (sStore 65 x33 x25) Kp fun _=>
 opN p_ (sBin .add 3 y5 (.int .i64 1)) Kp fun x35=>
 opN p_ (sBin .add 3 y6 (.int .i64 1)) Kp fun x21=>
 next2 I1 m1 x35 x21)
 (opN p_ (sBin .add 3 y6 (.int .i64 1)) Kp fun x21=>
 next2 I1 m1 y5 x21))
 (opN p_ (sSl 57 v0 (some y5) none none) Kp fun x38=>
 opN p_ (sClear #[57] 0 [x38]) Kp fun _=>
 opN p_ (sSl 57 v0 none (some y5) none) Kp fun x41=>
 K x41)) x10 x15)
theorem slices_DeleteFunc_cache_entry_cache_entry_s {v0 v1:Value}:Shp p_ 79 [v0,v1] (slices_DeleteFunc_cache_entry_cache_entry v0 v1):=sh_ Tryz.call79 Tryz.func79 (an:={loops:=[(5,[5,6])]}) fun _ _=>by kernel_rfl
def cache_Cache_drop_1 (v0 v1:Value)(Kp:PK)(K:Value->WP):WP:=
 opN p_ (sLoad 65 v1) Kp fun x5=>
 opN p_ (sEq .eql 65 (.tmp 4) (.tmp 5) v0 x5) Kp fun x6=>
 K x6
theorem cache_Cache_drop_1_s {v0 v1:Value}:Shp p_ 80 [v0,v1] (cache_Cache_drop_1 v0 v1):=sh_ Tryz.call80 Tryz.func80 (an:={}) fun _ _=>by kernel_rfl
def fields_Directives (v0:Value)(Kp:PK)(K:Value->WP):WP:=
 opN p_ (sBuild 155 [(0,(.bool true)),(1,(.bool true)),(2,(fn 107))]) Kp fun x5=>
 opN p_ (sCall (fn 106) [v0,x5]) Kp fun x6=>
 opN p_ (sExt x6 0) Kp fun x7=>
 opN p_ (sExt x6 1) Kp fun x8=>
 K (.tuple #[x7,x8])
theorem fields_Directives_s {v0:Value}:Shp p_ 81 [v0] (fields_Directives v0):=sh_ Tryz.call81 Tryz.func81 (an:={}) fun _ _=>by kernel_rfl
def fields_list_string (v0 v1:Value)(Kp:PK)(K:Value→WP):WP:=
 opN p_ (sBox 132 v1) Kp fun x3=>
 opN p_ (sAlloc 46) Kp fun x4=>
 opN p_ (sAlloc 24) Kp fun x5=>
 opN p_ (sAlloc 46) Kp fun x6=>
 opN p_ (sLoad 132 x3) Kp fun x10=>
 opN p_ (sCall (fn 108) [x10,v0]) Kp fun x12=>
 rfS p_ x12 1 (fun u13 B1 N1 J1r=>
 B1 (opN p_ (sFA 132 x3 2) noK fun x15=>
 opN p_ (sLoad 130 x15) noK fun x16=>
 opN p_ (sCall x16 [u13]) noK fun x18=>
 opN p_ (sExt x18 0) noK fun x19=>
 opN p_ (sExt x18 1) noK fun x20=>
 opN p_ (sUn .not x20) noK fun x22=>
 condS x22
 (opN p_ (sStore 46 x4 (.slice none 0 0)) noK fun _=>
 opN p_ (sStore 24 x5 (.int .i64 42)) noK fun _=>
 J1r)
 (opN p_ (sLoad 46 x6) noK fun x23=>
 opN p_ (sBuildSl 46 1 [(0,x19)]) noK fun x25=>
 opN p_ (sApp #[46,46] 46 [x23,x25]) noK fun x26=>
 opN p_ (sStore 46 x6 x26) noK fun _=>
 N1))) (fun d1=>
 opN p_ (sLoad 46 x6) (KpM [d1] Kp) fun x27=>
 opN p_ (sStore 46 x4 x27) (KpM [d1] Kp) fun _=>
 opN p_ (sStore 24 x5 (.int .i64 0)) (KpM [d1] Kp) fun _=>
 (tkS d1 ((stS p_ (sRes 46 x4) fun r0=>(stS p_ (sRes 24 x5) fun r1=>K (.tuple #[r0,r1])))))) (fun d1=>(tkS d1 ((stS p_ (sRes 46 x4) fun r0=>(stS p_ (sRes 24 x5) fun r1=>K (.tuple #[r0,r1])))))) (fun d1 ch=>(tkS d1 (Kp ch)))
theorem fields_list_string_s {v0 v1:Value}:Shp p_ 82 [v0,v1] (fields_list_string v0 v1):=shT_ Tryz.call82 Tryz.func82 (an:={}) fun _ _=>by kernel_rfl
def fields_Tokens_1 (v0:Value)(Kp:PK)(K:Value->WP):WP:=
 opN p_ (sCall (fn 67) [v0]) Kp fun x5=>
 opN p_ (sCall (fn 84) [v0]) Kp fun x7=>
 K (.tuple #[x5,x7])
theorem fields_Tokens_1_s {v0:Value}:Shp p_ 83 [v0] (fields_Tokens_1 v0):=sh_ Tryz.call83 Tryz.func83 (an:={}) fun _ _=>by kernel_rfl
def ascii_Token (v0:Value)(Kp:PK)(K:Value->WP):WP:=
 opN p_ (sEq .neq 9 (.tmp 3) (.const (.string ⟨#[]⟩)) v0 (.string ⟨#[]⟩)) Kp fun x4=>
 gdK x4 true (fun k=>k v0) fun x6=>
 gdK x4 true (opN p_ (sCall (fn 109) [x6,(.int .i64 1)]) Kp) fun x7=>
 opN p_ (sPick x4 x7 (.bool false)) Kp fun x8=>
 K x8
theorem ascii_Token_s {v0:Value}:Shp p_ 84 [v0] (ascii_Token v0):=sh_ Tryz.call84 Tryz.func84 (an:={}) fun _ _=>by kernel_rfl
def strings_Join (v0 v1:Value)(Kp:PK)(K:Value→WP):WP:=
 opN p_ (sLen #[46] 3 [v0]) Kp fun x12=>
 opN p_ (sEq .eql 3 (.tmp 12) (.const (.int .i64 0)) x12 (.int .i64 0)) Kp fun x14=>
 condS x14
 (K (.string ⟨#[]⟩))
 (opN p_ (sEq .eql 3 (.tmp 12) (.const (.int .i64 1)) x12 (.int .i64 1)) Kp fun x16=>
 condS x16
 (opN p_ (sIA 46 v0 (.int .i64 0)) Kp fun x18=>
 opN p_ (sLoad 9 x18) Kp fun x19=>
 K x19)
 (cut1 (fun J1=>
 opN p_ (sLen #[9] 3 [v1]) Kp fun x21=>
 opN p_ (sBin .gtr 3 x21 (.int .i64 0)) Kp fun x22=>
 condS x22
 (cut0 (fun J2=>
 opN p_ (sLen #[9] 3 [v1]) Kp fun x24=>
 opN p_ (sLen #[46] 3 [v0]) Kp fun x26=>
 opN p_ (sBin .sub 3 x26 (.int .i64 1)) Kp fun x27=>
 opN p_ (sBin .quo 3 (.int .i64 9223372036854775807) x27) Kp fun x28=>
 opN p_ (sBin .geq 3 x24 x28) Kp fun x29=>
 condS x29
 (opN p_ (sMkI 9 (.string ⟨#[115,116,114,105,110,103,115,58,32,74,111,105,110,32,111,117,116,112,117,116,32,108,101,110,103,116,104,32,111,118,101,114,102,108,111,119]⟩)) Kp fun x30=>
 opN p_ (sPanic x30) Kp fun _=>
 J2)
 (J2)) fun _=>
 opN p_ (sLen #[9] 3 [v1]) Kp fun x33=>
 opN p_ (sLen #[46] 3 [v0]) Kp fun x35=>
 opN p_ (sBin .sub 3 x35 (.int .i64 1)) Kp fun x36=>
 opN p_ (sBin .mul 3 x33 x36) Kp fun x37=>
 opN p_ (sBin .add 3 (.int .i64 0) x37) Kp fun x38=>
 J1 x38)
 (J1 (.int .i64 0))) fun _ z5=>
 opN p_ (sLen #[46] 3 [v0]) Kp fun x40=>
 loop2 (fun I1 m1 _ y5 y41=>
 opN p_ (sBin .lss 3 y41 x40) Kp fun x42=>
 condS x42
 (opN p_ (sIA 46 v0 y41) Kp fun x43=>
 opN p_ (sLoad 9 x43) Kp fun x44=>
 cut0 (fun J3=>
 opN p_ (sLen #[9] 3 [x44]) Kp fun x46=>
 opN p_ (sBin .sub 3 (.int .i64 9223372036854775807) y5) Kp fun x48=>
 opN p_ (sBin .gtr 3 x46 x48) Kp fun x49=>
 condS x49
 (opN p_ (sMkI 9 (.string ⟨#[115,116,114,105,110,103,115,58,32,74,111,105,110,32,111,117,116,112,117,116,32,108,101,110,103,116,104,32,111,118,101,114,102,108,111,119]⟩)) Kp fun x50=>
 opN p_ (sPanic x50) Kp fun _=>
 J3)
 (J3)) fun _=>
 opN p_ (sLen #[9] 3 [x44]) Kp fun x53=>
 opN p_ (sBin .add 3 y5 x53) Kp fun x54=>
 opN p_ (sBin .add 3 y41 (.int .i64 1)) Kp fun x55=>
 next2 I1 m1 x54 x55)
 (opN p_ (sAlloc 162) Kp fun x8=>
 opN p_ (sCall (fn 110) [x8,y5]) Kp fun x57=>
 opN p_ (sIA 46 v0 (.int .i64 0)) Kp fun x59=>
 opN p_ (sLoad 9 x59) Kp fun x60=>
 opN p_ (sCall (fn 111) [x8,x60]) Kp fun x61=>
 opN p_ (sSl 46 v0 (some (.int .i64 1)) none none) Kp fun x63=>
 opN p_ (sLen #[46] 3 [x63]) Kp fun x64=>
 loop1 (fun I2 m2 _ y65=>
 opN p_ (sBin .lss 3 y65 x64) Kp fun x66=>
 condS x66
 (opN p_ (sIA 46 x63 y65) Kp fun x67=>
 opN p_ (sLoad 9 x67) Kp fun x68=>
 opN p_ (sCall (fn 111) [x8,v1]) Kp fun x70=>
 opN p_ (sCall (fn 111) [x8,x68]) Kp fun x72=>
 opN p_ (sBin .add 3 y65 (.int .i64 1)) Kp fun x73=>
 next1 I2 m2 x73)
 (opN p_ (sCall (fn 112) [x8]) Kp fun x74=>
 K x74)) (.int .i64 0))) z5 (.int .i64 0)))
theorem strings_Join_s {v0 v1:Value}:Shp p_ 85 [v0,v1] (strings_Join v0 v1):=sh_ Tryz.call85 Tryz.func85 (an:={cuts:=[(10,[]),(11,[5]),(16,[])],loops:=[(12,[5,41]),(22,[65])]}) fun _ _=>by kernel_rfl
def cache_says_1 (v0 v1:Value)(Kp:PK)(K:Value->WP):WP:=
 opN p_ (sBox 46 v0) Kp fun x2=>
 opN p_ (sLoad 79 v1) Kp fun x4=>
 opN p_ (sMkF (.func 88) [] [x2]) Kp fun x5=>
 opN p_ (sCall (fn 87) [x4,x5]) Kp fun x6=>
 K x6
theorem cache_says_1_s {v0 v1:Value}:Shp p_ 86 [v0,v1] (cache_says_1 v0 v1):=sh_ Tryz.call86 Tryz.func86 (an:={}) fun _ _=>by kernel_rfl
def slices_ContainsFunc_fields_Directive_fields_Directive (v0 v1:Value)(Kp:PK)(K:Value->WP):WP:=
 opN p_ (sCall (fn 113) [v0,v1]) Kp fun x7=>
 opN p_ (sBin .geq 3 x7 (.int .i64 0)) Kp fun x8=>
 K x8
theorem slices_ContainsFunc_fields_Directive_fields_Directive_s {v0 v1:Value}:Shp p_ 87 [v0,v1] (slices_ContainsFunc_fields_Directive_fields_Directive v0 v1):=sh_ Tryz.call87 Tryz.func87 (an:={}) fun _ _=>by kernel_rfl
def cache_says_1_1 (v0 v1:Value)(Kp:PK)(K:Value->WP):WP:=
 opN p_ (sBox 128 v0) Kp fun x2=>
 opN p_ (sLoad 46 v1) Kp fun x4=>
 opN p_ (sFA 128 x2 0) Kp fun x5=>
 opN p_ (sLoad 9 x5) Kp fun x6=>
 opN p_ (sCall (fn 47) [x4,x6]) Kp fun x7=>
 K x7
theorem cache_says_1_1_s {v0 v1:Value}:Shp p_ 88 [v0,v1] (cache_says_1_1 v0 v1):=sh_ Tryz.call88 Tryz.func88 (an:={}) fun _ _=>by kernel_rfl
def slices_Index_string_string (v0 v1:Value)(Kp:PK)(K:Value→WP):WP:=
 opN p_ (sLen #[46] 3 [v0]) Kp fun x7=>
 loop1 (fun I1 m1 _ y8=>
 opN p_ (sBin .lss 3 y8 x7) Kp fun x9=>
 condS x9
 (opN p_ (sIA 46 v0 y8) Kp fun x14=>
 opN p_ (sLoad 9 x14) Kp fun x15=>
 opN p_ (sEq .eql 9 (.tmp 11) (.tmp 15) v1 x15) Kp fun x16=>
 condS x16
 (K y8)
 (opN p_ (sBin .add 3 y8 (.int .i64 1)) Kp fun x18=>
 next1 I1 m1 x18))
 (K (.int .i64 (-1)))) (.int .i64 0)
theorem slices_Index_string_string_s {v0 v1:Value}:Shp p_ 89 [v0,v1] (slices_Index_string_string v0 v1):=sh_ Tryz.call89 Tryz.func89 (an:={loops:=[(2,[8])]}) fun _ _=>by kernel_rfl
def cache_list_has_1 (v0 v1:Value)(Kp:PK)(K:Value->WP):WP:=
 opN p_ (sLoad 78 v1) Kp fun x4=>
 opN p_ (sCall (fn 77) [x4,v0]) Kp fun x6=>
 opN p_ (sLen #[46] 3 [x6]) Kp fun x7=>
 opN p_ (sBin .gtr 3 x7 (.int .i64 0)) Kp fun x8=>
 K x8
theorem cache_list_has_1_s {v0 v1:Value}:Shp p_ 90 [v0,v1] (cache_list_has_1 v0 v1):=sh_ Tryz.call90 Tryz.func90 (an:={}) fun _ _=>by kernel_rfl
def strconv_Itoa (v0:Value)(Kp:PK)(K:Value->WP):WP:=
 opN p_ (sCall (fn 114) [v0]) Kp fun x4=>
 K x4
theorem strconv_Itoa_s {v0:Value}:Shp p_ 91 [v0] (strconv_Itoa v0):=sh_ Tryz.call91 Tryz.func91 (an:={}) fun _ _=>by kernel_rfl
def ref10_Directives (v0:Value)(Kp:PK)(K:Value→WP):WP:=
 opN p_ (sCall (fn 115) [v0,(.bool true),(.bool true)]) Kp fun x10=>
 loop2 (fun I1 m1 _ y5 y6=>
 opN p_ (sLen #[46] 3 [x10]) Kp fun x13=>
 opN p_ (sBin .lss 3 y6 x13) Kp fun x14=>
 condS x14
 (opN p_ (sIA 46 x10 y6) Kp fun x20=>
 opN p_ (sLoad 9 x20) Kp fun x21=>
 opN p_ (sCall (fn 116) [x21]) Kp fun x22=>
 opN p_ (sExt x22 0) Kp fun x23=>
 opN p_ (sExt x22 1) Kp fun x24=>
 opN p_ (sAlloc 140) Kp fun x7=>
 opN p_ (sStore 140 x7 x23) Kp fun _=>
 opN p_ (sUn .not x24) Kp fun x26=>
 condS x26
 (K (.tuple #[(.slice none 0 0),(.int .i64 42)]))
 (opN p_ (sLoad 140 x7) Kp fun x28=>
 opN p_ (sBuildSl 91 1 [(0,x28)]) Kp fun x29=>
 opN p_ (sApp #[91,91] 91 [y5,x29]) Kp fun x30=>
 opN p_ (sBin .add 3 y6 (.int .i64 1)) Kp fun x16=>
 next2 I1 m1 x30 x16))
 (K (.tuple #[y5,(.int .i64 0)]))) (.slice none 0 0) (.int .i64 0)
theorem ref10_Directives_s {v0:Value}:Shp p_ 92 [v0] (ref10_Directives v0):=sh_ Tryz.call92 Tryz.func92 (an:={loops:=[(4,[5,6])]}) fun _ _=>by kernel_rfl
def ref23_joined (v0 v1:Value)(Kp:PK)(K:Value→WP):WP:=
 opN p_ (sCall (fn 55) [v0,v1]) Kp fun x10=>
 loop2 (fun I1 m1 _ y6 y7=>
 opN p_ (sLen #[46] 3 [x10]) Kp fun x13=>
 opN p_ (sBin .lss 3 y7 x13) Kp fun x14=>
 condS x14
 (cut1 (fun J1=>
 opN p_ (sBin .gtr 3 y7 (.int .i64 0)) Kp fun x18=>
 condS x18
 (opN p_ (sBin .add 9 y6 (.string ⟨#[44]⟩)) Kp fun x20=>
 J1 x20)
 (J1 y6)) fun _ z6=>
 opN p_ (sIA 46 x10 y7) Kp fun x24=>
 opN p_ (sLoad 9 x24) Kp fun x25=>
 opN p_ (sBin .add 9 z6 x25) Kp fun x26=>
 opN p_ (sBin .add 3 y7 (.int .i64 1)) Kp fun x16=>
 next2 I1 m1 x26 x16)
 (K y6)) (.string ⟨#[]⟩) (.int .i64 0)
theorem ref23_joined_s {v0 v1:Value}:Shp p_ 93 [v0,v1] (ref23_joined v0 v1):=sh_ Tryz.call93 Tryz.func93 (an:={cuts:=[(8,[6])],loops:=[(4,[6,7])]}) fun _ _=>by kernel_rfl
def ref01_Split (v0 v1:Value)(Kp:PK)(K:Value→WP):WP:=
 loop3 (fun I1 m1 _ y5 y6 y7=>
 opN p_ (sLen #[9] 3 [v0]) Kp fun x11=>
 opN p_ (sBin .leq 3 y7 x11) Kp fun x12=>
 condS x12
 (opN p_ (sLen #[9] 3 [v0]) Kp fun x17=>
 opN p_ (sBin .lss 3 y7 x17) Kp fun x18=>
 gdK x18 true (fun k=>k v0) fun x20=>
 gdK x18 true (fun k=>k y7) fun x21=>
 gdK x18 true (opN p_ (sIx 9 x20 x21) Kp) fun x22=>
 gdK x18 true (fun k=>k v1) fun x23=>
 gdK x18 true (opN p_ (sEq .neq 5 (.tmp 22) (.tmp 23) x22 x23) Kp) fun x24=>
 opN p_ (sPick x18 x24 (.bool false)) Kp fun x25=>
 condS x25
 (opN p_ (sBin .add 3 y7 (.int .i64 1)) Kp fun x14=>
 next3 I1 m1 y5 y6 x14)
 (opN p_ (sSl 9 v0 (some y6) (some y7) none) Kp fun x29=>
 opN p_ (sCall (fn 117) [x29]) Kp fun x30=>
 cut1 (fun J1=>
 opN p_ (sEq .neq 9 (.tmp 31) (.const (.string ⟨#[]⟩)) x30 (.string ⟨#[]⟩)) Kp fun x32=>
 condS x32
 (opN p_ (sBuildSl 46 1 [(0,x30)]) Kp fun x35=>
 opN p_ (sApp #[46,46] 46 [y5,x35]) Kp fun x36=>
 J1 x36)
 (J1 y5)) fun _ z5=>
 opN p_ (sBin .add 3 y7 (.int .i64 1)) Kp fun x38=>
 opN p_ (sBin .add 3 y7 (.int .i64 1)) Kp fun x14=>
 next3 I1 m1 z5 x38 x14))
 (K y5)) (.slice none 0 0) (.int .i64 0) (.int .i64 0)
theorem ref01_Split_s {v0 v1:Value}:Shp p_ 94 [v0,v1] (ref01_Split v0 v1):=sh_ Tryz.call94 Tryz.func94 (an:={cuts:=[(10,[5])],loops:=[(4,[5,6,7])]}) fun _ _=>by kernel_rfl
def ref09_Parse (v0 v1:Value)(Kp:PK)(K:Value→WP):WP:=
 opN p_ (sCall (fn 120) [v0,(.int .i64 12),(.int .i64 4)]) Kp fun x15=>
 opN p_ (sCall (fn 119) [v0,(.int .i64 5),(.int .i64 8),(.int .i64 17),x15]) Kp fun x16=>
 opN p_ (sCall (fn 118) [v0,x16,(.int .i64 1)]) Kp fun x17=>
 opN p_ (sExt x17 0) Kp fun x18=>
 opN p_ (sExt x17 1) Kp fun x19=>
 opN p_ (sEq .eql 3 (.tmp 20) (.const (.int .i64 0)) x19 (.int .i64 0)) Kp fun x21=>
 condS x21
 (K (.tuple #[x18,(.int .i64 0)]))
 (loop1 (fun I1 m1 _ y8=>
 opN p_ (sLen #[9] 3 [v0]) Kp fun x25=>
 opN p_ (sBin .lss 3 y8 x25) Kp fun x26=>
 gdK x26 true (fun k=>k v0) fun x28=>
 gdK x26 true (fun k=>k y8) fun x29=>
 gdK x26 true (opN p_ (sIx 9 x28 x29) Kp) fun x30=>
 gdK x26 true (opN p_ (sEq .neq 5 (.tmp 30) (.const (.int .u8 44)) x30 (.int .u8 44)) Kp) fun x31=>
 opN p_ (sPick x26 x31 (.bool false)) Kp fun x32=>
 condS x32
 (opN p_ (sBin .add 3 y8 (.int .i64 1)) Kp fun x34=>
 next1 I1 m1 x34)
 (opN p_ (sBin .add 3 y8 (.int .i64 9)) Kp fun x37=>
 opN p_ (sCall (fn 120) [v0,x37,(.int .i64 2)]) Kp fun x38=>
 cut0 (fun J1=>
 opN p_ (sBin .geq 3 x38 (.int .i64 0)) Kp fun x40=>
 condS x40
 (opN p_ (sBin .add 3 y8 (.int .i64 2)) Kp fun x45=>
 opN p_ (sBin .add 3 y8 (.int .i64 5)) Kp fun x47=>
 opN p_ (sBin .add 3 y8 (.int .i64 12)) Kp fun x49=>
 opN p_ (sCall (fn 121) [x38,v1]) Kp fun x52=>
 opN p_ (sCall (fn 119) [v0,x45,x47,x49,x52]) Kp fun x53=>
 opN p_ (sCall (fn 118) [v0,x53,(.int .i64 2)]) Kp fun x54=>
 opN p_ (sExt x54 0) Kp fun x55=>
 opN p_ (sExt x54 1) Kp fun x56=>
 opN p_ (sEq .eql 3 (.tmp 57) (.const (.int .i64 0)) x56 (.int .i64 0)) Kp fun x58=>
 condS x58
 (K (.tuple #[x55,(.int .i64 0)]))
 (J1))
 (J1)) fun _=>
 opN p_ (sCall (fn 120) [v0,(.int .i64 20),(.int .i64 4)]) Kp fun x62=>
 opN p_ (sCall (fn 119) [v0,(.int .i64 8),(.int .i64 4),(.int .i64 11),x62]) Kp fun x63=>
 opN p_ (sAlloc 175) Kp fun x10=>
 opN p_ (sStore 175 x10 x63) Kp fun _=>
 cut0 (fun J2=>
 opN p_ (sLen #[9] 3 [v0]) Kp fun x65=>
 opN p_ (sBin .gtr 3 x65 (.int .i64 9)) Kp fun x66=>
 gdK x66 true (fun k=>k v0) fun x68=>
 gdK x66 true (opN p_ (sIx 9 x68 (.int .i64 8)) Kp) fun x69=>
 gdK x66 true (opN p_ (sEq .eql 5 (.tmp 69) (.const (.int .u8 32)) x69 (.int .u8 32)) Kp) fun x70=>
 opN p_ (sPick x66 x70 (.bool false)) Kp fun x71=>
 condS x71
 (opN p_ (sCall (fn 120) [v0,(.int .i64 9),(.int .i64 1)]) Kp fun x73=>
 opN p_ (sFA 175 x10 2) Kp fun x74=>
 opN p_ (sStore 3 x74 x73) Kp fun _=>
 J2)
 (J2)) fun _=>
 opN p_ (sLoad 175 x10) Kp fun x76=>
 opN p_ (sCall (fn 118) [v0,x76,(.int .i64 3)]) Kp fun x77=>
 opN p_ (sExt x77 0) Kp fun x78=>
 opN p_ (sExt x77 1) Kp fun x79=>
 K (.tuple #[x78,x79]))) (.int .i64 0))
theorem ref09_Parse_s {v0 v1:Value}:Shp p_ 95 [v0,v1] (ref09_Parse v0 v1):=sh_ Tryz.call95 Tryz.func95 (an:={cuts:=[(12,[]),(15,[])],loops:=[(5,[8])]}) fun _ _=>by kernel_rfl
def ref01_number (v0 v1 v2:Value)(Kp:PK)(K:Value→WP):WP:=
 opN p_ (sLen #[9] 3 [v0]) Kp fun x13=>
 opN p_ (sEq .eql 3 (.tmp 13) (.const (.int .i64 0)) x13 (.int .i64 0)) Kp fun x14=>
 condS x14
 (K (.tuple #[(.int .i64 0),(.int .i64 21)]))
 (loop1 (fun I1 m1 _ y8=>
 opN p_ (sLen #[9] 3 [v0]) Kp fun x17=>
 opN p_ (sBin .lss 3 y8 x17) Kp fun x18=>
 condS x18
 (opN p_ (sIx 9 v0 y8) Kp fun x23=>
 opN p_ (sCall (fn 122) [x23,v1]) Kp fun x25=>
 opN p_ (sBin .lss 3 x25 (.int .i64 0)) Kp fun x26=>
 condS x26
 (K (.tuple #[(.int .i64 0),(.int .i64 21)]))
 (opN p_ (sBin .add 3 y8 (.int .i64 1)) Kp fun x20=>
 next1 I1 m1 x20))
 (loop2 (fun I2 m2 _ y9 y10=>
 opN p_ (sLen #[9] 3 [v0]) Kp fun x29=>
 opN p_ (sBin .lss 3 y10 x29) Kp fun x30=>
 condS x30
 (opN p_ (sIx 9 v0 y10) Kp fun x35=>
 opN p_ (sCall (fn 122) [x35,v1]) Kp fun x37=>
 opN p_ (sBin .sub 3 v2 x37) Kp fun x41=>
 opN p_ (sBin .quo 3 x41 v1) Kp fun x43=>
 opN p_ (sBin .gtr 3 y9 x43) Kp fun x44=>
 condS x44
 (K (.tuple #[(.int .i64 0),(.int .i64 11)]))
 (opN p_ (sBin .mul 3 y9 v1) Kp fun x47=>
 opN p_ (sBin .add 3 x47 x37) Kp fun x49=>
 opN p_ (sBin .add 3 y10 (.int .i64 1)) Kp fun x32=>
 next2 I2 m2 x49 x32))
 (K (.tuple #[y9,(.int .i64 0)]))) (.int .i64 0) (.int .i64 0))) (.int .i64 0))
theorem ref01_number_s {v0 v1 v2:Value}:Shp p_ 96 [v0,v1,v2] (ref01_number v0 v1 v2):=sh_ Tryz.call96 Tryz.func96 (an:={loops:=[(4,[8]),(10,[9,10])]}) fun _ _=>by kernel_rfl
def slices_Index_int_int (v0 v1:Value)(Kp:PK)(K:Value→WP):WP:=
 opN p_ (sLen #[105] 3 [v0]) Kp fun x7=>
 loop1 (fun I1 m1 _ y8=>
 opN p_ (sBin .lss 3 y8 x7) Kp fun x9=>
 condS x9
 (opN p_ (sIA 105 v0 y8) Kp fun x14=>
 opN p_ (sLoad 3 x14) Kp fun x15=>
 opN p_ (sEq .eql 3 (.tmp 11) (.tmp 15) v1 x15) Kp fun x16=>
 condS x16
 (K y8)
 (opN p_ (sBin .add 3 y8 (.int .i64 1)) Kp fun x18=>
 next1 I1 m1 x18))
 (K (.int .i64 (-1)))) (.int .i64 0)
theorem slices_Index_int_int_s {v0 v1:Value}:Shp p_ 97 [v0,v1] (slices_Index_int_int v0 v1):=sh_ Tryz.call97 Tryz.func97 (an:={loops:=[(2,[8])]}) fun _ _=>by kernel_rfl
def ascii_Split (v0 v1:Value)(Kp:PK)(K:Value→WP):WP:=
 loop2 (fun I1 m1 _ y0 y5=>
 opN p_ (sLen #[9] 3 [y0]) Kp fun x9=>
 opN p_ (sBin .gtr 3 x9 (.int .i64 0)) Kp fun x10=>
 condS x10
 (cut2 (fun J1=>
 opN p_ (sCall (fn 123) [y0,v1]) Kp fun x14=>
 opN p_ (sBin .geq 3 x14 (.int .i64 0)) Kp fun x16=>
 condS x16
 (drS (stS p_ (sSl 9 y0 none (some x14) none) fun x19=>
 stS p_ (sBin .add 3 x14 (.int .i64 1)) fun x22=>
 stS p_ (sSl 9 y0 (some x22) none none) fun x23=>
 J1 x23 x19))
 (J1 (.string ⟨#[]⟩) y0)) fun _ z0 z6=>
 opN p_ (sCall (fn 124) [z6]) Kp fun x25=>
 opN p_ (sEq .neq 9 (.tmp 26) (.const (.string ⟨#[]⟩)) x25 (.string ⟨#[]⟩)) Kp fun x27=>
 condS x27
 (opN p_ (sBuildSl 46 1 [(0,x25)]) Kp fun x30=>
 opN p_ (sApp #[46,46] 46 [y5,x30]) Kp fun x31=>
 next2 I1 m1 z0 x31)
 (next2 I1 m1 z0 y5))
 (K y5)) v0 (.slice none 0 0)
theorem ascii_Split_s {v0 v1:Value}:Shp p_ 98 [v0,v1] (ascii_Split v0 v1):=sh_ Tryz.call98 Tryz.func98 (an:={cuts:=[(8,[0,6])],loops:=[(2,[0,5])],drs:=[(6,.ofL [(0,1),(1,1),(2,1),(3,1),(4,1),(5,1),(6,1),(7,1),(8,1)])]}) fun _ _=>by kernel_rfl
def dates_Parse (v0 v1:Value)(Kp:PK)(K:Value→WP):WP:=
 opN p_ (sBuild 184 [(0,(fn 125)),(1,(fn 126)),(2,(fn 127))]) Kp fun x12=>
 loop3 (fun I1 m1 _ y6 y7 y13=>
 opN p_ (sBin .lss 3 y13 (.int .i64 3)) Kp fun x14=>
 condS x14
 (opN p_ (sIx 184 x12 y13) Kp fun x16=>
 opN p_ (sCall (fn 128) [v0,y13,v1,x16]) Kp fun x22=>
 opN p_ (sExt x22 0) Kp fun x23=>
 opN p_ (sExt x22 1) Kp fun x24=>
 condS x24
 (K (.tuple #[x23,(.int .i64 0)]))
 (opN p_ (sBin .add 3 y13 (.int .i64 1)) Kp fun x27=>
 next3 I1 m1 y6 y7 x27))
 (K (.tuple #[y6,y7]))) (.int .i64 0) (.int .i64 41) (.int .i64 0)
theorem dates_Parse_s {v0 v1:Value}:Shp p_ 99 [v0,v1] (dates_Parse v0 v1):=sh_ Tryz.call99 Tryz.func99 (an:={loops:=[(3,[6,7,13])]}) fun _ _=>by kernel_rfl
def ascii_number_string (v0 v1 v2:Value)(Kp:PK)(K:Value→WP):WP:=
 opN p_ (sCall (fn 67) [v0]) Kp fun x14=>
 opN p_ (sLen #[9] 3 [x14]) Kp fun x16=>
 loop1 (fun I1 m1 _ y17=>
 opN p_ (sBin .lss 3 y17 x16) Kp fun x18=>
 condS x18
 (opN p_ (sIx 9 x14 y17) Kp fun x22=>
 opN p_ (sCall (fn 123) [(.string ⟨#[48,49,50,51,52,53,54,55,56,57,97,98,99,100,101,102]⟩),x22]) Kp fun x23=>
 opN p_ (sBin .lss 3 x23 (.int .i64 0)) Kp fun x25=>
 gdK x25 false (fun k=>k x23) fun x27=>
 gdK x25 false (fun k=>k v1) fun x28=>
 gdK x25 false (opN p_ (sBin .geq 3 x27 x28) Kp) fun x29=>
 opN p_ (sPick x25 (.bool true) x29) Kp fun x30=>
 condS x30
 (K (.tuple #[(.int .i64 0),(.int .i64 21)]))
 (opN p_ (sBin .add 3 y17 (.int .i64 1)) Kp fun x31=>
 next1 I1 m1 x31))
 (opN p_ (sEq .eql 9 (.tmp 32) (.const (.string ⟨#[]⟩)) x14 (.string ⟨#[]⟩)) Kp fun x33=>
 condS x33
 (K (.tuple #[(.int .i64 0),(.int .i64 21)]))
 (opN p_ (sCall (fn 129) [x14,v1,(.int .i64 63)]) Kp fun x37=>
 opN p_ (sExt x37 0) Kp fun x38=>
 opN p_ (sExt x37 1) Kp fun x39=>
 opN p_ (sEq .neq 165 (.tmp 40) (.const .nilIface) x39 .nilIface) Kp fun x41=>
 gdK x41 false (fun k=>k x38) fun x43=>
 gdK x41 false (fun k=>k v2) fun x44=>
 gdK x41 false (opN p_ (sConv 3 186 x44) Kp) fun x45=>
 gdK x41 false (opN p_ (sBin .gtr 186 x43 x45) Kp) fun x46=>
 opN p_ (sPick x41 (.bool true) x46) Kp fun x47=>
 condS x47
 (K (.tuple #[(.int .i64 0),(.int .i64 11)]))
 (opN p_ (sConv 186 3 x38) Kp fun x49=>
 K (.tuple #[x49,(.int .i64 0)]))))) (.int .i64 0)
theorem ascii_number_string_s {v0 v1 v2:Value}:Shp p_ 100 [v0,v1,v2] (ascii_number_string v0 v1 v2):=sh_ Tryz.call100 Tryz.func100 (an:={loops:=[(3,[17])]}) fun _ _=>by kernel_rfl
def ascii_classes (Kp:PK)(K:Value→WP):WP:=
 opN p_ (sAlloc 147) Kp fun x0=>
 opN p_ (sAlloc 147) Kp fun x1=>
 loop1 (fun I1 m1 _ y4=>
 opN p_ (sBin .lss 3 y4 (.int .i64 256)) Kp fun x5=>
 condS x5
 (opN p_ (sBin .geq 3 y4 (.int .i64 97)) Kp fun x8=>
 gdK x8 true (fun k=>k y4) fun x10=>
 gdK x8 true (opN p_ (sBin .leq 3 x10 (.int .i64 122)) Kp) fun x11=>
 opN p_ (sPick x8 x11 (.bool false)) Kp fun x12=>
 gdK x12 false (fun k=>k y4) fun x14=>
 gdK x12 false (opN p_ (sBin .geq 3 x14 (.int .i64 65)) Kp) fun x15=>
 gdK x12 false (fun k=>k x15) fun x16=>
 gdK x16 true (fun k=>k y4) fun x17=>
 gdK x16 true (opN p_ (sBin .leq 3 x17 (.int .i64 90)) Kp) fun x18=>
 gdK x12 false (opN p_ (sPick x16 x18 (.bool false)) Kp) fun x19=>
 opN p_ (sPick x12 (.bool true) x19) Kp fun x20=>
 gdK x20 false (fun k=>k y4) fun x22=>
 gdK x20 false (opN p_ (sBin .geq 3 x22 (.int .i64 48)) Kp) fun x23=>
 gdK x20 false (fun k=>k x23) fun x24=>
 gdK x24 true (fun k=>k y4) fun x25=>
 gdK x24 true (opN p_ (sBin .leq 3 x25 (.int .i64 57)) Kp) fun x26=>
 gdK x20 false (opN p_ (sPick x24 x26 (.bool false)) Kp) fun x27=>
 opN p_ (sPick x20 (.bool true) x27) Kp fun x28=>
 cut0 (fun J1=>
 gdK x28 false (fun k=>k y4) fun x31=>
 gdK x28 false (opN p_ (sBin .gtr 3 x31 (.int .i64 32)) Kp) fun x32=>
 gdK x28 false (fun k=>k x32) fun x33=>
 gdK x33 true (fun k=>k y4) fun x34=>
 gdK x33 true (opN p_ (sBin .lss 3 x34 (.int .i64 127)) Kp) fun x35=>
 gdK x28 false (opN p_ (sPick x33 x35 (.bool false)) Kp) fun x36=>
 gdK x28 false (fun k=>k x36) fun x37=>
 gdK x37 true (fun k=>k y4) fun x38=>
 gdK x37 true (opN p_ (sConv 3 5 x38) Kp) fun x39=>
 gdK x37 true (opN p_ (sCall (fn 123) [(.string ⟨#[33,35,36,37,38,39,42,43,45,46,94,95,96,124,126]⟩),x39]) Kp) fun x40=>
 gdK x37 true (opN p_ (sBin .geq 3 x40 (.int .i64 0)) Kp) fun x41=>
 gdK x28 false (opN p_ (sPick x37 x41 (.bool false)) Kp) fun x42=>
 opN p_ (sPick x28 (.bool true) x42) Kp fun x43=>
 condS x43
 (opN p_ (sIA 147 x1 y4) Kp fun x45=>
 opN p_ (sLoad 3 x45) Kp fun x46=>
 opN p_ (sBin .or 3 x46 (.int .i64 1)) Kp fun x47=>
 opN p_ (sIA 147 x1 y4) Kp fun x48=>
 opN p_ (sStore 3 x48 x47) Kp fun _=>
 J1)
 (J1)) fun _=>
 cut0 (fun J2=>
 opN p_ (sEq .eql 3 (.tmp 49) (.const (.int .i64 9)) y4 (.int .i64 9)) Kp fun x50=>
 gdK x50 false (fun k=>k y4) fun x52=>
 gdK x50 false (opN p_ (sBin .geq 3 x52 (.int .i64 32)) Kp) fun x53=>
 gdK x50 false (fun k=>k x53) fun x54=>
 gdK x54 true (fun k=>k y4) fun x55=>
 gdK x54 true (opN p_ (sEq .neq 3 (.tmp 55) (.const (.int .i64 127)) x55 (.int .i64 127)) Kp) fun x56=>
 gdK x50 false (opN p_ (sPick x54 x56 (.bool false)) Kp) fun x57=>
 opN p_ (sPick x50 (.bool true) x57) Kp fun x58=>
 condS x58
 (opN p_ (sIA 147 x1 y4) Kp fun x60=>
 opN p_ (sLoad 3 x60) Kp fun x61=>
 opN p_ (sBin .or 3 x61 (.int .i64 2)) Kp fun x62=>
 opN p_ (sIA 147 x1 y4) Kp fun x63=>
 opN p_ (sStore 3 x63 x62) Kp fun _=>
 J2)
 (J2)) fun _=>
 opN p_ (sBin .geq 3 y4 (.int .i64 65)) Kp fun x65=>
 gdK x65 true (fun k=>k y4) fun x67=>
 gdK x65 true (opN p_ (sBin .leq 3 x67 (.int .i64 90)) Kp) fun x68=>
 opN p_ (sPick x65 x68 (.bool false)) Kp fun x69=>
 condS x69
 (opN p_ (sIA 147 x1 y4) Kp fun x71=>
 opN p_ (sLoad 3 x71) Kp fun x72=>
 opN p_ (sBin .or 3 x72 (.int .i64 4)) Kp fun x73=>
 opN p_ (sIA 147 x1 y4) Kp fun x74=>
 opN p_ (sStore 3 x74 x73) Kp fun _=>
 opN p_ (sBin .add 3 y4 (.int .i64 1)) Kp fun x75=>
 next1 I1 m1 x75)
 (opN p_ (sBin .add 3 y4 (.int .i64 1)) Kp fun x75=>
 next1 I1 m1 x75))
 (opN p_ (sLoad 147 x1) Kp fun x76=>
 opN p_ (sStore 147 x0 x76) Kp fun _=>
 (stS p_ (sRes 147 x0) fun r0=>K r0))) (.int .i64 0)
theorem ascii_classes_s  :Shp p_ 101 [] (ascii_classes):=sh_ Tryz.call101 Tryz.func101 (an:={cuts:=[(8,[]),(10,[])],loops:=[(3,[4])]}) fun _ _=>by kernel_rfl
def slices_IndexFunc_string_string (v0 v1:Value)(Kp:PK)(K:Value→WP):WP:=
 opN p_ (sLen #[46] 3 [v0]) Kp fun x7=>
 loop1 (fun I1 m1 _ y8=>
 opN p_ (sBin .lss 3 y8 x7) Kp fun x9=>
 condS x9
 (opN p_ (sIA 46 v0 y8) Kp fun x14=>
 opN p_ (sLoad 9 x14) Kp fun x15=>
 opN p_ (sCall v1 [x15]) Kp fun x16=>
 condS x16
 (K y8)
 (opN p_ (sBin .add 3 y8 (.int .i64 1)) Kp fun x18=>
 next1 I1 m1 x18))
 (K (.int .i64 (-1)))) (.int .i64 0)
theorem slices_IndexFunc_string_string_s {v0 v1:Value}:Shp p_ 103 [v0,v1] (slices_IndexFunc_string_string v0 v1):=sh_ Tryz.call103 Tryz.func103 (an:={loops:=[(2,[8])]}) fun _ _=>by kernel_rfl
def cache_ring_leave_1 (v0 v1:Value)(Kp:PK)(K:Value->WP):WP:=
 opN p_ (sLoad 65 v1) Kp fun x5=>
 opN p_ (sEq .eql 65 (.tmp 4) (.tmp 5) v0 x5) Kp fun x6=>
 K x6
theorem cache_ring_leave_1_s {v0 v1:Value}:Shp p_ 104 [v0,v1] (cache_ring_leave_1 v0 v1):=sh_ Tryz.call104 Tryz.func104 (an:={}) fun _ _=>by kernel_rfl
def slices_IndexFunc_cache_entry_cache_entry (v0 v1:Value)(Kp:PK)(K:Value→WP):WP:=
 opN p_ (sLen #[57] 3 [v0]) Kp fun x7=>
 loop1 (fun I1 m1 _ y8=>
 opN p_ (sBin .lss 3 y8 x7) Kp fun x9=>
 condS x9
 (opN p_ (sIA 57 v0 y8) Kp fun x14=>
 opN p_ (sLoad 65 x14) Kp fun x15=>
 opN p_ (sCall v1 [x15]) Kp fun x16=>
 condS x16
 (K y8)
 (opN p_ (sBin .add 3 y8 (.int .i64 1)) Kp fun x18=>
 next1 I1 m1 x18))
 (K (.int .i64 (-1)))) (.int .i64 0)
theorem slices_IndexFunc_cache_entry_cache_entry_s {v0 v1:Value}:Shp p_ 105 [v0,v1] (slices_IndexFunc_cache_entry_cache_entry v0 v1):=sh_ Tryz.call105 Tryz.func105 (an:={loops:=[(2,[8])]}) fun _ _=>by kernel_rfl
def fields_list_fields_Directive (v0 v1:Value)(Kp:PK)(K:Value→WP):WP:=
 opN p_ (sBox 155 v1) Kp fun x3=>
 opN p_ (sAlloc 79) Kp fun x4=>
 opN p_ (sAlloc 24) Kp fun x5=>
 opN p_ (sAlloc 79) Kp fun x6=>
 opN p_ (sLoad 155 x3) Kp fun x10=>
 opN p_ (sCall (fn 131) [x10,v0]) Kp fun x12=>
 rfS p_ x12 1 (fun u13 B1 N1 J1r=>
 B1 (opN p_ (sFA 155 x3 2) noK fun x15=>
 opN p_ (sLoad 153 x15) noK fun x16=>
 opN p_ (sCall x16 [u13]) noK fun x18=>
 opN p_ (sExt x18 0) noK fun x19=>
 opN p_ (sExt x18 1) noK fun x20=>
 opN p_ (sAlloc 128) noK fun x8=>
 opN p_ (sStore 128 x8 x19) noK fun _=>
 opN p_ (sUn .not x20) noK fun x22=>
 condS x22
 (opN p_ (sStore 79 x4 (.slice none 0 0)) noK fun _=>
 opN p_ (sStore 24 x5 (.int .i64 42)) noK fun _=>
 J1r)
 (opN p_ (sLoad 79 x6) noK fun x23=>
 opN p_ (sLoad 128 x8) noK fun x24=>
 opN p_ (sBuildSl 79 1 [(0,x24)]) noK fun x25=>
 opN p_ (sApp #[79,79] 79 [x23,x25]) noK fun x26=>
 opN p_ (sStore 79 x6 x26) noK fun _=>
 N1))) (fun d1=>
 opN p_ (sLoad 79 x6) (KpM [d1] Kp) fun x27=>
 opN p_ (sStore 79 x4 x27) (KpM [d1] Kp) fun _=>
 opN p_ (sStore 24 x5 (.int .i64 0)) (KpM [d1] Kp) fun _=>
 (tkS d1 ((stS p_ (sRes 79 x4) fun r0=>(stS p_ (sRes 24 x5) fun r1=>K (.tuple #[r0,r1])))))) (fun d1=>(tkS d1 ((stS p_ (sRes 79 x4) fun r0=>(stS p_ (sRes 24 x5) fun r1=>K (.tuple #[r0,r1])))))) (fun d1 ch=>(tkS d1 (Kp ch)))
theorem fields_list_fields_Directive_s {v0 v1:Value}:Shp p_ 106 [v0,v1] (fields_list_fields_Directive v0 v1):=shT_ Tryz.call106 Tryz.func106 (an:={}) fun _ _=>by kernel_rfl
def fields_directive (v0:Value)(Kp:PK)(K:Value→WP):WP:=
 opN p_ (sAlloc 128) Kp fun x2=>
 opN p_ (sCall (fn 132) [v0,(.string ⟨#[61]⟩)]) Kp fun x7=>
 opN p_ (sExt x7 0) Kp fun x8=>
 opN p_ (sExt x7 1) Kp fun x9=>
 opN p_ (sExt x7 2) Kp fun x10=>
 opN p_ (sFA 128 x2 0) Kp fun x11=>
 opN p_ (sStore 9 x11 x8) Kp fun _=>
 opN p_ (sFA 128 x2 1) Kp fun x12=>
 opN p_ (sStore 9 x12 x9) Kp fun _=>
 opN p_ (sFA 128 x2 2) Kp fun x13=>
 opN p_ (sStore 4 x13 x10) Kp fun _=>
 opN p_ (sFA 128 x2 0) Kp fun x14=>
 opN p_ (sLoad 9 x14) Kp fun x15=>
 opN p_ (sCall (fn 84) [x15]) Kp fun x16=>
 opN p_ (sFA 128 x2 0) Kp fun x17=>
 opN p_ (sLoad 9 x17) Kp fun x18=>
 opN p_ (sCall (fn 67) [x18]) Kp fun x19=>
 opN p_ (sFA 128 x2 0) Kp fun x20=>
 opN p_ (sStore 9 x20 x19) Kp fun _=>
 opN p_ (sFA 128 x2 2) Kp fun x21=>
 opN p_ (sLoad 4 x21) Kp fun x22=>
 gdK x22 true (opN p_ (sFA 128 x2 1) Kp) fun x24=>
 gdK x22 true (opN p_ (sLoad 9 x24) Kp) fun x25=>
 gdK x22 true (opN p_ (sCall (fn 84) [x25]) Kp) fun x26=>
 gdK x22 true (opN p_ (sUn .not x26) Kp) fun x27=>
 opN p_ (sPick x22 x27 (.bool false)) Kp fun x28=>
 condS x28
 (opN p_ (sFA 128 x2 1) Kp fun x30=>
 opN p_ (sLoad 9 x30) Kp fun x31=>
 opN p_ (sCall (fn 133) [x31]) Kp fun x32=>
 opN p_ (sExt x32 0) Kp fun x33=>
 opN p_ (sExt x32 1) Kp fun x34=>
 opN p_ (sFA 128 x2 1) Kp fun x35=>
 opN p_ (sStore 9 x35 x33) Kp fun _=>
 gdK x16 true (fun k=>k x34) fun x38=>
 opN p_ (sPick x16 x38 (.bool false)) Kp fun x39=>
 opN p_ (sLoad 128 x2) Kp fun x40=>
 opN p_ (sStore 128 x2 x40) Kp fun _=>
 (stS p_ (sRes 128 x2) fun r0=>K (.tuple #[r0,x39])))
 (opN p_ (sLoad 128 x2) Kp fun x40=>
 opN p_ (sStore 128 x2 x40) Kp fun _=>
 (stS p_ (sRes 128 x2) fun r0=>K (.tuple #[r0,x16])))
theorem fields_directive_s {v0:Value}:Shp p_ 107 [v0] (fields_directive v0):=sh_ Tryz.call107 Tryz.func107 (an:={}) fun _ _=>by kernel_rfl
def fields_kind_string_elements (v0 v1:Value)(Kp:PK)(K:Value->WP):WP:=
 opN p_ (sBox 132 v0) Kp fun x2=>
 opN p_ (sBox 9 v1) Kp fun x3=>
 opN p_ (sMkF (.func 134) [] [x3,x2]) Kp fun x5=>
 K x5
theorem fields_kind_string_elements_s {v0 v1:Value}:Shp p_ 108 [v0,v1] (fields_kind_string_elements v0 v1):=sh_ Tryz.call108 Tryz.func108 (an:={}) fun _ _=>by kernel_rfl
def ascii_all (v0 v1:Value)(Kp:PK)(K:Value→WP):WP:=
 opN p_ (sCall (fn 101) []) Kp fun x7=>
 opN p_ (sAlloc 147) Kp fun x5=>
 opN p_ (sStore 147 x5 x7) Kp fun _=>
 opN p_ (sLen #[9] 3 [v0]) Kp fun x9=>
 loop1 (fun I1 m1 _ y10=>
 opN p_ (sBin .lss 3 y10 x9) Kp fun x11=>
 condS x11
 (opN p_ (sIx 9 v0 y10) Kp fun x15=>
 opN p_ (sIA 147 x5 x15) Kp fun x16=>
 opN p_ (sLoad 3 x16) Kp fun x17=>
 opN p_ (sBin .and 3 x17 v1) Kp fun x19=>
 opN p_ (sEq .eql 3 (.tmp 19) (.const (.int .i64 0)) x19 (.int .i64 0)) Kp fun x20=>
 condS x20
 (K (.bool false))
 (opN p_ (sBin .add 3 y10 (.int .i64 1)) Kp fun x21=>
 next1 I1 m1 x21))
 (K (.bool true))) (.int .i64 0)
theorem ascii_all_s {v0 v1:Value}:Shp p_ 109 [v0,v1] (ascii_all v0 v1):=sh_ Tryz.call109 Tryz.func109 (an:={loops:=[(3,[10])]}) fun _ _=>by kernel_rfl
def strings_Builder_Grow (v0 v1:Value)(Kp:PK)(K:Value→WP):WP:=
 opN p_ (sCall (fn 135) [v0]) Kp fun x5=>
 cut0 (fun J1=>
 opN p_ (sBin .lss 3 v1 (.int .i64 0)) Kp fun x7=>
 condS x7
 (opN p_ (sMkI 9 (.string ⟨#[115,116,114,105,110,103,115,46,66,117,105,108,100,101,114,46,71,114,111,119,58,32,110,101,103,97,116,105,118,101,32,99,111,117,110,116]⟩)) Kp fun x8=>
 opN p_ (sPanic x8) Kp fun _=>
 J1)
 (J1)) fun _=>
 drS (stS p_ (sNil v0) fun x10=>
 stS p_ (sFA 162 x10 1) fun x11=>
 stS p_ (sLoad 32 x11) fun x12=>
 stS p_ (sCap #[32] 3 [x12]) fun x13=>
 stS p_ (sNil v0) fun x15=>
 stS p_ (sFA 162 x15 1) fun x16=>
 stS p_ (sLoad 32 x16) fun x17=>
 stS p_ (sLen #[32] 3 [x17]) fun x18=>
 stS p_ (sBin .sub 3 x13 x18) fun x19=>
 stS p_ (sBin .lss 3 x19 v1) fun x21=>
 condS x21
 (opN p_ (sCall (fn 136) [v0,v1]) Kp fun x24=>
 K (.tuple #[]))
 (K (.tuple #[])))
theorem strings_Builder_Grow_s {v0 v1:Value}:Shp p_ 110 [v0,v1] (strings_Builder_Grow v0 v1):=sh_ Tryz.call110 Tryz.func110 (an:={cuts:=[(3,[])],drs:=[(3,.ofL [(0,1),(1,1),(2,1),(3,1),(4,1),(5,1),(6,1),(7,1),(8,1),(9,1),(10,1),(11,1),(12,1)])]}) fun _ _=>by kernel_rfl
def strings_Builder_WriteString (v0 v1:Value)(Kp:PK)(K:Value->WP):WP:=
 opN p_ (sCall (fn 135) [v0]) Kp fun x7=>
 opN p_ (sNil v0) Kp fun x10=>
 opN p_ (sFA 162 x10 1) Kp fun x11=>
 opN p_ (sLoad 32 x11) Kp fun x12=>
 opN p_ (sApp #[32,9] 32 [x12,v1]) Kp fun x14=>
 opN p_ (sNil v0) Kp fun x15=>
 opN p_ (sFA 162 x15 1) Kp fun x16=>
 opN p_ (sStore 32 x16 x14) Kp fun _=>
 opN p_ (sLen #[9] 3 [v1]) Kp fun x18=>
 K (.tuple #[x18,.nilIface])
theorem strings_Builder_WriteString_s {v0 v1:Value}:Shp p_ 111 [v0,v1] (strings_Builder_WriteString v0 v1):=sh_ Tryz.call111 Tryz.func111 (an:={}) fun _ _=>by kernel_rfl
def slices_IndexFunc_fields_Directive_fields_Directive (v0 v1:Value)(Kp:PK)(K:Value→WP):WP:=
 opN p_ (sLen #[79] 3 [v0]) Kp fun x7=>
 loop1 (fun I1 m1 _ y8=>
 opN p_ (sBin .lss 3 y8 x7) Kp fun x9=>
 condS x9
 (opN p_ (sIA 79 v0 y8) Kp fun x14=>
 opN p_ (sLoad 128 x14) Kp fun x15=>
 opN p_ (sCall v1 [x15]) Kp fun x16=>
 condS x16
 (K y8)
 (opN p_ (sBin .add 3 y8 (.int .i64 1)) Kp fun x18=>
 next1 I1 m1 x18))
 (K (.int .i64 (-1)))) (.int .i64 0)
theorem slices_IndexFunc_fields_Directive_fields_Directive_s {v0 v1:Value}:Shp p_ 113 [v0,v1] (slices_IndexFunc_fields_Directive_fields_Directive v0 v1):=sh_ Tryz.call113 Tryz.func113 (an:={loops:=[(2,[8])]}) fun _ _=>by kernel_rfl
def istrconv_Itoa (v0:Value)(Kp:PK)(K:Value->WP):WP:=
 opN p_ (sCall (fn 137) [v0,(.int .i64 10)]) Kp fun x4=>
 K x4
theorem istrconv_Itoa_s {v0:Value}:Shp p_ 114 [v0] (istrconv_Itoa v0):=sh_ Tryz.call114 Tryz.func114 (an:={}) fun _ _=>by kernel_rfl
def ref10_elements (v0 v1 v2:Value)(Kp:PK)(K:Value→WP):WP:=
 loop4 (fun I1 m1 _ y7 y8 y9 y10=>
 opN p_ (sLen #[9] 3 [v0]) Kp fun x14=>
 opN p_ (sBin .leq 3 y10 x14) Kp fun x15=>
 condS x15
 (cut1 (fun J1=>
 opN p_ (sLen #[9] 3 [v0]) Kp fun x20=>
 opN p_ (sBin .lss 3 y10 x20) Kp fun x21=>
 gdK x21 true (fun k=>k y8) fun x23=>
 opN p_ (sPick x21 x23 (.bool false)) Kp fun x24=>
 gdK x24 true (fun k=>k v2) fun x26=>
 opN p_ (sPick x24 x26 (.bool false)) Kp fun x27=>
 gdK x27 true (fun k=>k v0) fun x29=>
 gdK x27 true (fun k=>k y10) fun x30=>
 gdK x27 true (opN p_ (sIx 9 x29 x30) Kp) fun x31=>
 gdK x27 true (opN p_ (sEq .eql 5 (.tmp 31) (.const (.int .u8 92)) x31 (.int .u8 92)) Kp) fun x32=>
 opN p_ (sPick x27 x32 (.bool false)) Kp fun x33=>
 condS x33
 (opN p_ (sBin .add 3 y10 (.int .i64 1)) Kp fun x35=>
 opN p_ (sLen #[9] 3 [v0]) Kp fun x38=>
 opN p_ (sBin .lss 3 x35 x38) Kp fun x39=>
 condS x39
 (opN p_ (sBin .add 3 x35 (.int .i64 1)) Kp fun x17=>
 next4 I1 m1 y7 y8 y9 x17)
 (J1 x35))
 (J1 y10)) fun _ z10=>
 cut1 (fun J2=>
 opN p_ (sLen #[9] 3 [v0]) Kp fun x42=>
 opN p_ (sBin .lss 3 z10 x42) Kp fun x43=>
 gdK x43 true (fun k=>k v1) fun x45=>
 opN p_ (sPick x43 x45 (.bool false)) Kp fun x46=>
 gdK x46 true (fun k=>k v0) fun x48=>
 gdK x46 true (fun k=>k z10) fun x49=>
 gdK x46 true (opN p_ (sIx 9 x48 x49) Kp) fun x50=>
 gdK x46 true (opN p_ (sEq .eql 5 (.tmp 50) (.const (.int .u8 34)) x50 (.int .u8 34)) Kp) fun x51=>
 opN p_ (sPick x46 x51 (.bool false)) Kp fun x52=>
 condS x52
 (opN p_ (sUn .not y8) Kp fun x54=>
 J2 x54)
 (J2 y8)) fun _ z8=>
 opN p_ (sLen #[9] 3 [v0]) Kp fun x57=>
 opN p_ (sBin .lss 3 z10 x57) Kp fun x58=>
 gdK x58 true (fun k=>k v0) fun x60=>
 gdK x58 true (fun k=>k z10) fun x61=>
 gdK x58 true (opN p_ (sIx 9 x60 x61) Kp) fun x62=>
 gdK x58 true (opN p_ (sEq .neq 5 (.tmp 62) (.const (.int .u8 44)) x62 (.int .u8 44)) Kp) fun x63=>
 gdK x58 true (fun k=>k x63) fun x64=>
 gdK x64 false (fun k=>k z8) fun x65=>
 gdK x58 true (opN p_ (sPick x64 (.bool true) x65) Kp) fun x66=>
 opN p_ (sPick x58 x66 (.bool false)) Kp fun x67=>
 condS x67
 (opN p_ (sBin .add 3 z10 (.int .i64 1)) Kp fun x17=>
 next4 I1 m1 y7 z8 y9 x17)
 (opN p_ (sLen #[9] 3 [v0]) Kp fun x72=>
 opN p_ (sMin #[3,3] 3 [z10,x72]) Kp fun x73=>
 opN p_ (sSl 9 v0 (some y9) (some x73) none) Kp fun x74=>
 opN p_ (sCall (fn 117) [x74]) Kp fun x75=>
 cut1 (fun J3=>
 opN p_ (sEq .neq 9 (.tmp 76) (.const (.string ⟨#[]⟩)) x75 (.string ⟨#[]⟩)) Kp fun x77=>
 condS x77
 (opN p_ (sBuildSl 46 1 [(0,x75)]) Kp fun x80=>
 opN p_ (sApp #[46,46] 46 [y7,x80]) Kp fun x81=>
 J3 x81)
 (J3 y7)) fun _ z7=>
 opN p_ (sBin .add 3 z10 (.int .i64 1)) Kp fun x83=>
 opN p_ (sBin .add 3 z10 (.int .i64 1)) Kp fun x17=>
 next4 I1 m1 z7 z8 x83 x17))
 (K y7)) (.slice none 0 0) (.bool false) (.int .i64 0) (.int .i64 0)
theorem ref10_elements_s {v0 v1 v2:Value}:Shp p_ 115 [v0,v1,v2] (ref10_elements v0 v1 v2):=sh_ Tryz.call115 Tryz.func115 (an:={cuts:=[(10,[10]),(12,[8]),(16,[7])],loops:=[(5,[7,8,9,10])]}) fun _ _=>by kernel_rfl
def ref10_directive (v0:Value)(Kp:PK)(K:Value→WP):WP:=
 opN p_ (sAlloc 140) Kp fun x2=>
 loop1 (fun I1 m1 _ y4=>
 opN p_ (sLen #[9] 3 [v0]) Kp fun x10=>
 opN p_ (sBin .lss 3 y4 x10) Kp fun x11=>
 gdK x11 true (fun k=>k v0) fun x13=>
 gdK x11 true (fun k=>k y4) fun x14=>
 gdK x11 true (opN p_ (sIx 9 x13 x14) Kp) fun x15=>
 gdK x11 true (opN p_ (sEq .neq 5 (.tmp 15) (.const (.int .u8 61)) x15 (.int .u8 61)) Kp) fun x16=>
 opN p_ (sPick x11 x16 (.bool false)) Kp fun x17=>
 condS x17
 (opN p_ (sBin .add 3 y4 (.int .i64 1)) Kp fun x19=>
 next1 I1 m1 x19)
 (opN p_ (sSl 9 v0 none (some y4) none) Kp fun x22=>
 opN p_ (sCall (fn 68) [x22]) Kp fun x23=>
 opN p_ (sBuild 140 [(0,x23)]) Kp fun x24=>
 opN p_ (sAlloc 140) Kp fun x5=>
 opN p_ (sStore 140 x5 x24) Kp fun _=>
 opN p_ (sFA 140 x5 0) Kp fun x25=>
 opN p_ (sLoad 9 x25) Kp fun x26=>
 opN p_ (sCall (fn 138) [x26]) Kp fun x27=>
 opN p_ (sUn .not x27) Kp fun x28=>
 condS x28
 (opN p_ (sLoad 140 x5) Kp fun x29=>
 opN p_ (sStore 140 x2 x29) Kp fun _=>
 (stS p_ (sRes 140 x2) fun r0=>K (.tuple #[r0,(.bool false)])))
 (opN p_ (sLen #[9] 3 [v0]) Kp fun x32=>
 opN p_ (sEq .eql 3 (.tmp 30) (.tmp 32) y4 x32) Kp fun x33=>
 condS x33
 (opN p_ (sLoad 140 x5) Kp fun x34=>
 opN p_ (sStore 140 x2 x34) Kp fun _=>
 (stS p_ (sRes 140 x2) fun r0=>K (.tuple #[r0,(.bool true)])))
 (opN p_ (sFA 140 x5 2) Kp fun x35=>
 opN p_ (sStore 4 x35 (.bool true)) Kp fun _=>
 opN p_ (sBin .add 3 y4 (.int .i64 1)) Kp fun x38=>
 opN p_ (sSl 9 v0 (some x38) none none) Kp fun x39=>
 opN p_ (sFA 140 x5 1) Kp fun x40=>
 opN p_ (sStore 9 x40 x39) Kp fun _=>
 opN p_ (sFA 140 x5 1) Kp fun x41=>
 opN p_ (sLoad 9 x41) Kp fun x42=>
 opN p_ (sCall (fn 138) [x42]) Kp fun x43=>
 condS x43
 (opN p_ (sLoad 140 x5) Kp fun x44=>
 opN p_ (sStore 140 x2 x44) Kp fun _=>
 (stS p_ (sRes 140 x2) fun r0=>K (.tuple #[r0,(.bool true)])))
 (opN p_ (sFA 140 x5 1) Kp fun x46=>
 opN p_ (sLoad 9 x46) Kp fun x47=>
 opN p_ (sCall (fn 139) [x47]) Kp fun x48=>
 opN p_ (sExt x48 0) Kp fun x49=>
 opN p_ (sExt x48 1) Kp fun x50=>
 opN p_ (sFA 140 x5 1) Kp fun x52=>
 opN p_ (sStore 9 x52 x49) Kp fun _=>
 opN p_ (sLoad 140 x5) Kp fun x53=>
 opN p_ (sStore 140 x2 x53) Kp fun _=>
 (stS p_ (sRes 140 x2) fun r0=>K (.tuple #[r0,x50]))))))) (.int .i64 0)
theorem ref10_directive_s {v0:Value}:Shp p_ 116 [v0] (ref10_directive v0):=sh_ Tryz.call116 Tryz.func116 (an:={loops:=[(2,[4])]}) fun _ _=>by kernel_rfl
def ref01_Trim (v0:Value)(Kp:PK)(K:Value→WP):WP:=
 loop1 (fun I1 m1 _ y0=>
 opN p_ (sLen #[9] 3 [y0]) Kp fun x4=>
 opN p_ (sBin .gtr 3 x4 (.int .i64 0)) Kp fun x5=>
 gdK x5 true (fun k=>k y0) fun x7=>
 gdK x5 true (opN p_ (sIx 9 x7 (.int .i64 0)) Kp) fun x8=>
 gdK x5 true (opN p_ (sCall (fn 140) [x8]) Kp) fun x9=>
 opN p_ (sPick x5 x9 (.bool false)) Kp fun x10=>
 condS x10
 (opN p_ (sSl 9 y0 (some (.int .i64 1)) none none) Kp fun x12=>
 next1 I1 m1 x12)
 (loop1 (fun I2 m2 _ y0_2=>
 opN p_ (sLen #[9] 3 [y0_2]) Kp fun x14=>
 opN p_ (sBin .gtr 3 x14 (.int .i64 0)) Kp fun x15=>
 gdK x15 true (fun k=>k y0_2) fun x17=>
 gdK x15 true (fun k=>k y0_2) fun x18=>
 gdK x15 true (opN p_ (sLen #[9] 3 [x18]) Kp) fun x19=>
 gdK x15 true (opN p_ (sBin .sub 3 x19 (.int .i64 1)) Kp) fun x20=>
 gdK x15 true (opN p_ (sIx 9 x17 x20) Kp) fun x21=>
 gdK x15 true (opN p_ (sCall (fn 140) [x21]) Kp) fun x22=>
 opN p_ (sPick x15 x22 (.bool false)) Kp fun x23=>
 condS x23
 (opN p_ (sLen #[9] 3 [y0_2]) Kp fun x26=>
 opN p_ (sBin .sub 3 x26 (.int .i64 1)) Kp fun x27=>
 opN p_ (sSl 9 y0_2 none (some x27) none) Kp fun x28=>
 next1 I2 m2 x28)
 (K y0_2)) y0)) v0
theorem ref01_Trim_s {v0:Value}:Shp p_ 117 [v0] (ref01_Trim v0):=sh_ Tryz.call117 Tryz.func117 (an:={loops:=[(1,[0]),(3,[0])]}) fun _ _=>by kernel_rfl
def ref09_same (v0 v1 v2:Value)(Kp:PK)(K:Value→WP):WP:=
 opN p_ (sBox 175 v1) Kp fun x4=>
 opN p_ (sLoad 175 x4) Kp fun x14=>
 opN p_ (sCall (fn 141) [x14]) Kp fun x15=>
 opN p_ (sExt x15 0) Kp fun x16=>
 opN p_ (sExt x15 1) Kp fun x17=>
 opN p_ (sEq .neq 3 (.tmp 18) (.const (.int .i64 0)) x17 (.int .i64 0)) Kp fun x19=>
 condS x19
 (K (.tuple #[(.int .i64 0),(.int .i64 41)]))
 (opN p_ (sCall (fn 142) [x16]) Kp fun x22=>
 opN p_ (sExt x22 0) Kp fun x23=>
 opN p_ (sExt x22 1) Kp fun x24=>
 opN p_ (sStore 175 x4 x23) Kp fun _=>
 opN p_ (sLoad 175 x4) Kp fun x26=>
 opN p_ (sCall (fn 143) [x26]) Kp fun x27=>
 opN p_ (sExt x27 0) Kp fun x28=>
 opN p_ (sExt x27 1) Kp fun x29=>
 opN p_ (sExt x27 2) Kp fun x30=>
 opN p_ (sEq .eql 3 (.tmp 31) (.const (.int .i64 1)) v2 (.int .i64 1)) Kp fun x32=>
 gdK x32 true (fun k=>k v0) fun x34=>
 gdK x32 true (fun k=>k x28) fun x35=>
 gdK x32 true (opN p_ (sEq .neq 9 (.tmp 34) (.tmp 35) x34 x35) Kp) fun x36=>
 opN p_ (sPick x32 x36 (.bool false)) Kp fun x37=>
 gdK x37 false (fun k=>k v2) fun x39=>
 gdK x37 false (opN p_ (sEq .eql 3 (.tmp 39) (.const (.int .i64 2)) x39 (.int .i64 2)) Kp) fun x40=>
 gdK x37 false (fun k=>k x40) fun x41=>
 gdK x41 true (fun k=>k v0) fun x42=>
 gdK x41 true (fun k=>k x29) fun x43=>
 gdK x41 true (opN p_ (sEq .neq 9 (.tmp 42) (.tmp 43) x42 x43) Kp) fun x44=>
 gdK x37 false (opN p_ (sPick x41 x44 (.bool false)) Kp) fun x45=>
 opN p_ (sPick x37 (.bool true) x45) Kp fun x46=>
 gdK x46 false (fun k=>k v2) fun x48=>
 gdK x46 false (opN p_ (sEq .eql 3 (.tmp 48) (.const (.int .i64 3)) x48 (.int .i64 3)) Kp) fun x49=>
 gdK x46 false (fun k=>k x49) fun x50=>
 gdK x50 true (fun k=>k v0) fun x51=>
 gdK x50 true (fun k=>k x30) fun x52=>
 gdK x50 true (opN p_ (sEq .neq 9 (.tmp 51) (.tmp 52) x51 x52) Kp) fun x53=>
 gdK x46 false (opN p_ (sPick x50 x53 (.bool false)) Kp) fun x54=>
 opN p_ (sPick x46 (.bool true) x54) Kp fun x55=>
 condS x55
 (K (.tuple #[(.int .i64 0),(.int .i64 41)]))
 (K (.tuple #[x16,(.int .i64 0)])))
theorem ref09_same_s {v0 v1 v2:Value}:Shp p_ 118 [v0,v1,v2] (ref09_same v0 v1 v2):=sh_ Tryz.call118 Tryz.func118 (an:={}) fun _ _=>by kernel_rfl
def ref09_read (v0 v1 v2 v3 v4:Value)(Kp:PK)(K:Value->WP):WP:=
 opN p_ (sAlloc 175) Kp fun x10=>
 opN p_ (sCall (fn 144) [v0,v2]) Kp fun x14=>
 opN p_ (sCall (fn 120) [v0,v1,(.int .i64 2)]) Kp fun x17=>
 opN p_ (sCall (fn 120) [v0,v3,(.int .i64 2)]) Kp fun x20=>
 opN p_ (sBin .add 3 v3 (.int .i64 3)) Kp fun x23=>
 opN p_ (sCall (fn 120) [v0,x23,(.int .i64 2)]) Kp fun x24=>
 opN p_ (sBin .add 3 v3 (.int .i64 6)) Kp fun x27=>
 opN p_ (sCall (fn 120) [v0,x27,(.int .i64 2)]) Kp fun x28=>
 opN p_ (sBuild 175 [(0,v4),(1,x14),(2,x17),(3,x20),(4,x24),(5,x28)]) Kp fun x29=>
 opN p_ (sStore 175 x10 x29) Kp fun _=>
 (stS p_ (sRes 175 x10) fun r0=>K r0)
theorem ref09_read_s {v0 v1 v2 v3 v4:Value}:Shp p_ 119 [v0,v1,v2,v3,v4] (ref09_read v0 v1 v2 v3 v4):=sh_ Tryz.call119 Tryz.func119 (an:={}) fun _ _=>by kernel_rfl
def ref09_digits (v0 v1 v2:Value)(Kp:PK)(K:Value→WP):WP:=
 opN p_ (sBin .lss 3 v1 (.int .i64 0)) Kp fun x10=>
 gdK x10 false (fun k=>k v1) fun x12=>
 gdK x10 false (fun k=>k v2) fun x13=>
 gdK x10 false (opN p_ (sBin .add 3 x12 x13) Kp) fun x14=>
 gdK x10 false (fun k=>k v0) fun x15=>
 gdK x10 false (opN p_ (sLen #[9] 3 [x15]) Kp) fun x16=>
 gdK x10 false (opN p_ (sBin .gtr 3 x14 x16) Kp) fun x17=>
 opN p_ (sPick x10 (.bool true) x17) Kp fun x18=>
 condS x18
 (K (.int .i64 (-1)))
 (loop2 (fun I1 m1 _ y7 y8=>
 opN p_ (sBin .add 3 v1 v2) Kp fun x23=>
 opN p_ (sBin .lss 3 y8 x23) Kp fun x24=>
 condS x24
 (opN p_ (sIx 9 v0 y8) Kp fun x29=>
 opN p_ (sBin .lss 5 x29 (.int .u8 48)) Kp fun x30=>
 gdK x30 false (fun k=>k v0) fun x32=>
 gdK x30 false (fun k=>k y8) fun x33=>
 gdK x30 false (opN p_ (sIx 9 x32 x33) Kp) fun x34=>
 gdK x30 false (opN p_ (sBin .gtr 5 x34 (.int .u8 57)) Kp) fun x35=>
 opN p_ (sPick x30 (.bool true) x35) Kp fun x36=>
 condS x36
 (K (.int .i64 (-1)))
 (opN p_ (sBin .mul 3 (.int .i64 10) y7) Kp fun x38=>
 opN p_ (sIx 9 v0 y8) Kp fun x41=>
 opN p_ (sBin .sub 5 x41 (.int .u8 48)) Kp fun x42=>
 opN p_ (sConv 5 3 x42) Kp fun x43=>
 opN p_ (sBin .add 3 x38 x43) Kp fun x44=>
 opN p_ (sBin .add 3 y8 (.int .i64 1)) Kp fun x26=>
 next2 I1 m1 x44 x26))
 (K y7)) (.int .i64 0) v1)
theorem ref09_digits_s {v0 v1 v2:Value}:Shp p_ 120 [v0,v1,v2] (ref09_digits v0 v1 v2):=sh_ Tryz.call120 Tryz.func120 (an:={loops:=[(5,[7,8])]}) fun _ _=>by kernel_rfl
def ref09_century (v0 v1:Value)(Kp:PK)(K:Value→WP):WP:=
 opN p_ (sCall (fn 142) [v1]) Kp fun x11=>
 opN p_ (sExt x11 0) Kp fun x12=>
 opN p_ (sExt x11 1) Kp fun x13=>
 opN p_ (sAlloc 175) Kp fun x6=>
 opN p_ (sStore 175 x6 x12) Kp fun _=>
 cut1 (fun J1=>
 opN p_ (sEq .eql 3 (.tmp 14) (.const (.int .i64 0)) x13 (.int .i64 0)) Kp fun x15=>
 condS x15
 (opN p_ (sFA 175 x6 0) Kp fun x16=>
 opN p_ (sLoad 3 x16) Kp fun x17=>
 J1 x17)
 (J1 (.int .i64 1970))) fun _ z5=>
 opN p_ (sBin .add 3 z5 (.int .i64 50)) Kp fun x19=>
 opN p_ (sMin #[3,3] 3 [x19,(.int .i64 9999)]) Kp fun x20=>
 loop1 (fun I1 m1 _ y8=>
 opN p_ (sBin .geq 3 y8 (.int .i64 1970)) Kp fun x22=>
 condS x22
 (opN p_ (sBin .rem 3 y8 (.int .i64 100)) Kp fun x26=>
 opN p_ (sEq .eql 3 (.tmp 26) (.tmp 27) x26 v0) Kp fun x28=>
 condS x28
 (K y8)
 (opN p_ (sBin .sub 3 y8 (.int .i64 1)) Kp fun x24=>
 next1 I1 m1 x24))
 (K (.int .i64 (-1)))) x20
theorem ref09_century_s {v0 v1:Value}:Shp p_ 121 [v0,v1] (ref09_century v0 v1):=sh_ Tryz.call121 Tryz.func121 (an:={cuts:=[(5,[5])],loops:=[(6,[8])]}) fun _ _=>by kernel_rfl
def ref01_worth (v0 v1:Value)(Kp:PK)(K:Value→WP):WP:=
 cut1 (fun J1=>
 opN p_ (sBin .geq 5 v0 (.int .u8 48)) Kp fun x8=>
 gdK x8 true (fun k=>k v0) fun x10=>
 gdK x8 true (opN p_ (sBin .leq 5 x10 (.int .u8 57)) Kp) fun x11=>
 opN p_ (sPick x8 x11 (.bool false)) Kp fun x12=>
 condS x12
 (opN p_ (sBin .sub 5 v0 (.int .u8 48)) Kp fun x14=>
 opN p_ (sConv 5 3 x14) Kp fun x15=>
 J1 x15)
 (opN p_ (sBin .geq 5 v0 (.int .u8 97)) Kp fun x18=>
 gdK x18 true (fun k=>k v0) fun x20=>
 gdK x18 true (opN p_ (sBin .leq 5 x20 (.int .u8 102)) Kp) fun x21=>
 opN p_ (sPick x18 x21 (.bool false)) Kp fun x22=>
 condS x22
 (opN p_ (sBin .sub 5 v0 (.int .u8 97)) Kp fun x24=>
 opN p_ (sConv 5 3 x24) Kp fun x25=>
 opN p_ (sBin .add 3 x25 (.int .i64 10)) Kp fun x26=>
 J1 x26)
 (opN p_ (sBin .geq 5 v0 (.int .u8 65)) Kp fun x29=>
 gdK x29 true (fun k=>k v0) fun x31=>
 gdK x29 true (opN p_ (sBin .leq 5 x31 (.int .u8 70)) Kp) fun x32=>
 opN p_ (sPick x29 x32 (.bool false)) Kp fun x33=>
 condS x33
 (opN p_ (sBin .sub 5 v0 (.int .u8 65)) Kp fun x35=>
 opN p_ (sConv 5 3 x35) Kp fun x36=>
 opN p_ (sBin .add 3 x36 (.int .i64 10)) Kp fun x37=>
 J1 x37)
 (J1 (.int .i64 (-1)))))) fun _ z5=>
 opN p_ (sBin .geq 3 z5 v1) Kp fun x40=>
 condS x40
 (K (.int .i64 (-1)))
 (K z5)
theorem ref01_worth_s {v0 v1:Value}:Shp p_ 122 [v0,v1] (ref01_worth v0 v1):=sh_ Tryz.call122 Tryz.func122 (an:={cuts:=[(8,[5])]}) fun _ _=>by kernel_rfl
def strings_IndexByte (v0 v1:Value)(Kp:PK)(K:Value->WP):WP:=
 opN p_ (sCall (fn 145) [v0,v1]) Kp fun x7=>
 K x7
theorem strings_IndexByte_s {v0 v1:Value}:Shp p_ 123 [v0,v1] (strings_IndexByte v0 v1):=sh_ Tryz.call123 Tryz.func123 (an:={}) fun _ _=>by kernel_rfl
def ascii_Trim (v0:Value)(Kp:PK)(K:Value->WP):WP:=
 opN p_ (sCall (fn 146) [v0,(.string ⟨#[32,9]⟩)]) Kp fun x4=>
 K x4
theorem ascii_Trim_s {v0:Value}:Shp p_ 124 [v0] (ascii_Trim v0):=sh_ Tryz.call124 Tryz.func124 (an:={}) fun _ _=>by kernel_rfl
def dates_reader_first (v0 v1:Value)(Kp:PK)(K:Value->WP):WP:=
 opN p_ (sAlloc 203) Kp fun x4=>
 opN p_ (sCall (fn 147) [v0,(.int .i64 5)]) Kp fun x6=>
 opN p_ (sCall (fn 148) [v0,(.int .i64 2)]) Kp fun x8=>
 opN p_ (sFA 203 x4 2) Kp fun x9=>
 opN p_ (sStore 3 x9 x8) Kp fun _=>
 opN p_ (sCall (fn 147) [v0,(.int .i64 1)]) Kp fun x11=>
 opN p_ (sCall (fn 149) [v0]) Kp fun x13=>
 opN p_ (sFA 203 x4 1) Kp fun x14=>
 opN p_ (sStore 3 x14 x13) Kp fun _=>
 opN p_ (sCall (fn 147) [v0,(.int .i64 1)]) Kp fun x16=>
 opN p_ (sCall (fn 148) [v0,(.int .i64 4)]) Kp fun x18=>
 opN p_ (sFA 203 x4 0) Kp fun x19=>
 opN p_ (sStore 3 x19 x18) Kp fun _=>
 opN p_ (sCall (fn 147) [v0,(.int .i64 1)]) Kp fun x21=>
 opN p_ (sCall (fn 150) [v0,x4]) Kp fun x23=>
 opN p_ (sLoad 203 x4) Kp fun x24=>
 opN p_ (sStore 203 x4 x24) Kp fun _=>
 (stS p_ (sRes 203 x4) fun r0=>K r0)
theorem dates_reader_first_s {v0 v1:Value}:Shp p_ 125 [v0,v1] (dates_reader_first v0 v1):=sh_ Tryz.call125 Tryz.func125 (an:={}) fun _ _=>by kernel_rfl
def dates_reader_second (v0 v1:Value)(Kp:PK)(K:Value→WP):WP:=
 opN p_ (sAlloc 203) Kp fun x4=>
 opN p_ (sNil v0) Kp fun x12=>
 opN p_ (sFA 207 x12 0) Kp fun x13=>
 opN p_ (sLoad 9 x13) Kp fun x14=>
 opN p_ (sBin .add 9 x14 (.string ⟨#[44]⟩)) Kp fun x15=>
 opN p_ (sCall (fn 123) [x15,(.int .u8 44)]) Kp fun x16=>
 opN p_ (sBin .add 3 x16 (.int .i64 2)) Kp fun x17=>
 opN p_ (sCall (fn 147) [v0,x17]) Kp fun x18=>
 opN p_ (sCall (fn 148) [v0,(.int .i64 2)]) Kp fun x20=>
 opN p_ (sFA 203 x4 2) Kp fun x21=>
 opN p_ (sStore 3 x21 x20) Kp fun _=>
 opN p_ (sCall (fn 147) [v0,(.int .i64 1)]) Kp fun x23=>
 opN p_ (sCall (fn 149) [v0]) Kp fun x25=>
 opN p_ (sFA 203 x4 1) Kp fun x26=>
 opN p_ (sStore 3 x26 x25) Kp fun _=>
 opN p_ (sCall (fn 147) [v0,(.int .i64 1)]) Kp fun x28=>
 opN p_ (sCall (fn 148) [v0,(.int .i64 2)]) Kp fun x30=>
 opN p_ (sCall (fn 147) [v0,(.int .i64 1)]) Kp fun x32=>
 opN p_ (sCall (fn 150) [v0,x4]) Kp fun x34=>
 cut1 (fun J1=>
 opN p_ (sCall (fn 151) [v1]) Kp fun x37=>
 opN p_ (sExt x37 0) Kp fun x38=>
 opN p_ (sExt x37 1) Kp fun x39=>
 opN p_ (sAlloc 203) Kp fun x7=>
 opN p_ (sStore 203 x7 x38) Kp fun _=>
 opN p_ (sEq .eql 24 (.tmp 40) (.const (.int .i64 0)) x39 (.int .i64 0)) Kp fun x41=>
 condS x41
 (opN p_ (sFA 203 x7 0) Kp fun x42=>
 opN p_ (sLoad 3 x42) Kp fun x43=>
 J1 x43)
 (J1 (.int .i64 1970))) fun _ z6=>
 opN p_ (sBin .add 3 z6 (.int .i64 50)) Kp fun x45=>
 opN p_ (sMin #[3,3] 3 [x45,(.int .i64 9999)]) Kp fun x46=>
 opN p_ (sBin .sub 3 x46 x30) Kp fun x50=>
 opN p_ (sBin .add 3 x50 (.int .i64 10000)) Kp fun x51=>
 opN p_ (sBin .rem 3 x51 (.int .i64 100)) Kp fun x52=>
 opN p_ (sBin .sub 3 x46 x52) Kp fun x53=>
 opN p_ (sFA 203 x4 0) Kp fun x54=>
 opN p_ (sStore 3 x54 x53) Kp fun _=>
 opN p_ (sLoad 203 x4) Kp fun x55=>
 opN p_ (sStore 203 x4 x55) Kp fun _=>
 (stS p_ (sRes 203 x4) fun r0=>K r0)
theorem dates_reader_second_s {v0 v1:Value}:Shp p_ 126 [v0,v1] (dates_reader_second v0 v1):=sh_ Tryz.call126 Tryz.func126 (an:={cuts:=[(13,[6])]}) fun _ _=>by kernel_rfl
def dates_reader_third (v0 v1:Value)(Kp:PK)(K:Value->WP):WP:=
 opN p_ (sAlloc 203) Kp fun x4=>
 opN p_ (sCall (fn 147) [v0,(.int .i64 4)]) Kp fun x6=>
 opN p_ (sCall (fn 149) [v0]) Kp fun x8=>
 opN p_ (sFA 203 x4 1) Kp fun x9=>
 opN p_ (sStore 3 x9 x8) Kp fun _=>
 opN p_ (sCall (fn 147) [v0,(.int .i64 1)]) Kp fun x11=>
 opN p_ (sCall (fn 148) [v0,(.int .i64 2)]) Kp fun x13=>
 opN p_ (sFA 203 x4 2) Kp fun x14=>
 opN p_ (sStore 3 x14 x13) Kp fun _=>
 opN p_ (sCall (fn 147) [v0,(.int .i64 1)]) Kp fun x16=>
 opN p_ (sCall (fn 150) [v0,x4]) Kp fun x18=>
 opN p_ (sCall (fn 147) [v0,(.int .i64 1)]) Kp fun x20=>
 opN p_ (sCall (fn 148) [v0,(.int .i64 4)]) Kp fun x22=>
 opN p_ (sFA 203 x4 0) Kp fun x23=>
 opN p_ (sStore 3 x23 x22) Kp fun _=>
 opN p_ (sLoad 203 x4) Kp fun x24=>
 opN p_ (sStore 203 x4 x24) Kp fun _=>
 (stS p_ (sRes 203 x4) fun r0=>K r0)
theorem dates_reader_third_s {v0 v1:Value}:Shp p_ 127 [v0,v1] (dates_reader_third v0 v1):=sh_ Tryz.call127 Tryz.func127 (an:={}) fun _ _=>by kernel_rfl
def dates_try_ret (p0 p1:Value)(K:Value->WP):WP:=
 (stS p_ (sRes 3 p0) fun r0=>(stS p_ (sRes 4 p1) fun r1=>K (.tuple #[r0,r1])))
def dates_try (v0 v1 v2 v3:Value)(Kp:PK)(K:Value→WP):WP:=
 opN p_ (sAlloc 3) Kp fun x8=>
 opN p_ (sAlloc 4) Kp fun x9=>
 opN p_ (sMkF (.func 152) [] [x8,x9]) Kp fun x13=>
 opDf x13 [] fun d1=>
 opN p_ (sBuild 207 [(0,v0)]) (KpD p_ d1 (dates_try_ret x8 x9 K) Kp) fun x17=>
 opN p_ (sBox 207 x17) (KpD p_ d1 (dates_try_ret x8 x9 K) Kp) fun x18=>
 opN p_ (sCall v3 [x18,v2]) (KpD p_ d1 (dates_try_ret x8 x9 K) Kp) fun x20=>
 opN p_ (sCall (fn 153) [x20]) (KpD p_ d1 (dates_try_ret x8 x9 K) Kp) fun x21=>
 opN p_ (sExt x21 0) (KpD p_ d1 (dates_try_ret x8 x9 K) Kp) fun x22=>
 opN p_ (sExt x21 1) (KpD p_ d1 (dates_try_ret x8 x9 K) Kp) fun x23=>
 opN p_ (sStore 3 x8 x22) (KpD p_ d1 (dates_try_ret x8 x9 K) Kp) fun _=>
 opN p_ (sLoad 3 x8) (KpD p_ d1 (dates_try_ret x8 x9 K) Kp) fun x25=>
 opN p_ (sCall (fn 151) [x25]) (KpD p_ d1 (dates_try_ret x8 x9 K) Kp) fun x26=>
 opN p_ (sExt x26 0) (KpD p_ d1 (dates_try_ret x8 x9 K) Kp) fun x27=>
 opN p_ (sExt x26 1) (KpD p_ d1 (dates_try_ret x8 x9 K) Kp) fun x28=>
 opN p_ (sAlloc 203) (KpD p_ d1 (dates_try_ret x8 x9 K) Kp) fun x11=>
 opN p_ (sStore 203 x11 x27) (KpD p_ d1 (dates_try_ret x8 x9 K) Kp) fun _=>
 opN p_ (sEq .neq 24 (.tmp 29) (.const (.int .i64 0)) x23 (.int .i64 0)) (KpD p_ d1 (dates_try_ret x8 x9 K) Kp) fun x30=>
 gdK x30 false (opN p_ (sLoad 203 x11) (KpD p_ d1 (dates_try_ret x8 x9 K) Kp)) fun x32=>
 gdK x30 false (fun k=>k v1) fun x33=>
 gdK x30 false (opN p_ (sCall (fn 154) [x32,x33]) (KpD p_ d1 (dates_try_ret x8 x9 K) Kp)) fun x34=>
 gdK x30 false (fun k=>k v0) fun x35=>
 gdK x30 false (opN p_ (sEq .neq 9 (.tmp 34) (.tmp 35) x34 x35) (KpD p_ d1 (dates_try_ret x8 x9 K) Kp)) fun x36=>
 opN p_ (sPick x30 (.bool true) x36) (KpD p_ d1 (dates_try_ret x8 x9 K) Kp) fun x37=>
 condS x37
 (opN p_ (sStore 3 x8 (.int .i64 0)) (KpD p_ d1 (dates_try_ret x8 x9 K) Kp) fun _=>
 opN p_ (sStore 4 x9 (.bool false)) (KpD p_ d1 (dates_try_ret x8 x9 K) Kp) fun _=>
 dfS p_ d1 .returning (dates_try_ret x8 x9 K) Kp)
 (opN p_ (sLoad 3 x8) (KpD p_ d1 (dates_try_ret x8 x9 K) Kp) fun x38=>
 opN p_ (sStore 3 x8 x38) (KpD p_ d1 (dates_try_ret x8 x9 K) Kp) fun _=>
 opN p_ (sStore 4 x9 (.bool true)) (KpD p_ d1 (dates_try_ret x8 x9 K) Kp) fun _=>
 dfS p_ d1 .returning (dates_try_ret x8 x9 K) Kp)
theorem dates_try_s {v0 v1 v2 v3:Value}:Shp p_ 128 [v0,v1,v2,v3] (dates_try v0 v1 v2 v3):=shD_ Tryz.call128 Tryz.func128 (an:={}) fun _ _=>by kernel_rfl
def strconv_ParseUint (v0 v1 v2:Value)(Kp:PK)(K:Value→WP):WP:=
 opN p_ (sCall (fn 155) [v0,v1,v2]) Kp fun x14=>
 opN p_ (sExt x14 0) Kp fun x15=>
 opN p_ (sExt x14 1) Kp fun x16=>
 opN p_ (sEq .neq 165 (.tmp 17) (.const .nilIface) x16 .nilIface) Kp fun x18=>
 condS x18
 (opN p_ (sCall (fn 156) [(.string ⟨#[80,97,114,115,101,85,105,110,116]⟩),v0,v1,v2,x16]) Kp fun x24=>
 K (.tuple #[x15,x24]))
 (K (.tuple #[x15,.nilIface]))
theorem strconv_ParseUint_s {v0 v1 v2:Value}:Shp p_ 129 [v0,v1,v2] (strconv_ParseUint v0 v1 v2):=sh_ Tryz.call129 Tryz.func129 (an:={}) fun _ _=>by kernel_rfl
def fields_kind_fields_Directive_elements (v0 v1:Value)(Kp:PK)(K:Value->WP):WP:=
 opN p_ (sBox 155 v0) Kp fun x2=>
 opN p_ (sBox 9 v1) Kp fun x3=>
 opN p_ (sMkF (.func 158) [] [x3,x2]) Kp fun x5=>
 K x5
theorem fields_kind_fields_Directive_elements_s {v0 v1:Value}:Shp p_ 131 [v0,v1] (fields_kind_fields_Directive_elements v0 v1):=sh_ Tryz.call131 Tryz.func131 (an:={}) fun _ _=>by kernel_rfl
def strings_Cut (v0 v1:Value)(Kp:PK)(K:Value->WP):WP:=
 opN p_ (sCall (fn 159) [v0,v1]) Kp fun x9=>
 opN p_ (sExt x9 0) Kp fun x10=>
 opN p_ (sExt x9 1) Kp fun x11=>
 opN p_ (sExt x9 2) Kp fun x12=>
 K (.tuple #[x10,x11,x12])
theorem strings_Cut_s {v0 v1:Value}:Shp p_ 132 [v0,v1] (strings_Cut v0 v1):=sh_ Tryz.call132 Tryz.func132 (an:={}) fun _ _=>by kernel_rfl
def fields_unquote (v0:Value)(Kp:PK)(K:Value→WP):WP:=
 opN p_ (sLen #[9] 3 [v0]) Kp fun x8=>
 opN p_ (sBin .lss 3 x8 (.int .i64 2)) Kp fun x9=>
 gdK x9 false (fun k=>k v0) fun x11=>
 gdK x9 false (opN p_ (sIx 9 x11 (.int .i64 0)) Kp) fun x12=>
 gdK x9 false (opN p_ (sEq .neq 5 (.tmp 12) (.const (.int .u8 34)) x12 (.int .u8 34)) Kp) fun x13=>
 opN p_ (sPick x9 (.bool true) x13) Kp fun x14=>
 condS x14
 (K (.tuple #[(.string ⟨#[]⟩),(.bool false)]))
 (loop2 (fun I1 m1 _ y4 y5=>
 opN p_ (sLen #[9] 3 [v0]) Kp fun x17=>
 opN p_ (sBin .lss 3 y5 x17) Kp fun x18=>
 condS x18
 (opN p_ (sIx 9 v0 y5) Kp fun x23=>
 cut2 (fun J1=>
 opN p_ (sEq .eql 5 (.tmp 25) (.const (.int .u8 34)) x23 (.int .u8 34)) Kp fun x26=>
 condS x26
 (opN p_ (sConv 32 9 y4) Kp fun x28=>
 opN p_ (sBin .add 3 y5 (.int .i64 1)) Kp fun x30=>
 opN p_ (sLen #[9] 3 [v0]) Kp fun x32=>
 opN p_ (sEq .eql 3 (.tmp 30) (.tmp 32) x30 x32) Kp fun x33=>
 K (.tuple #[x28,x33]))
 (opN p_ (sEq .eql 5 (.tmp 35) (.const (.int .u8 92)) x23 (.int .u8 92)) Kp fun x36=>
 condS x36
 (opN p_ (sBin .add 3 y5 (.int .i64 1)) Kp fun x38=>
 opN p_ (sLen #[9] 3 [v0]) Kp fun x41=>
 opN p_ (sEq .eql 3 (.tmp 39) (.tmp 41) x38 x41) Kp fun x42=>
 condS x42
 (K (.tuple #[(.string ⟨#[]⟩),(.bool false)]))
 (opN p_ (sIx 9 v0 x38) Kp fun x45=>
 J1 x38 x45))
 (J1 y5 x23))) fun _ z5 z6=>
 opN p_ (sBin .lss 5 z6 (.int .u8 32)) Kp fun x47=>
 gdK x47 true (fun k=>k z6) fun x49=>
 gdK x47 true (opN p_ (sEq .neq 5 (.tmp 49) (.const (.int .u8 9)) x49 (.int .u8 9)) Kp) fun x50=>
 opN p_ (sPick x47 x50 (.bool false)) Kp fun x51=>
 gdK x51 false (fun k=>k z6) fun x53=>
 gdK x51 false (opN p_ (sEq .eql 5 (.tmp 53) (.const (.int .u8 127)) x53 (.int .u8 127)) Kp) fun x54=>
 opN p_ (sPick x51 (.bool true) x54) Kp fun x55=>
 condS x55
 (K (.tuple #[(.string ⟨#[]⟩),(.bool false)]))
 (opN p_ (sBuildSl 32 1 [(0,z6)]) Kp fun x58=>
 opN p_ (sApp #[32,32] 32 [y4,x58]) Kp fun x59=>
 opN p_ (sBin .add 3 z5 (.int .i64 1)) Kp fun x20=>
 next2 I1 m1 x59 x20))
 (K (.tuple #[(.string ⟨#[]⟩),(.bool false)]))) (.slice none 0 0) (.int .i64 1))
theorem fields_unquote_s {v0:Value}:Shp p_ 133 [v0] (fields_unquote v0):=sh_ Tryz.call133 Tryz.func133 (an:={cuts:=[(15,[5,6])],loops:=[(5,[4,5])]}) fun _ _=>by kernel_rfl
def fields_kind_string_elements_1 (v0 v1 v2:Value)(Kp:PK)(K:Value→WP):WP:=
 loop3 (fun I1 m1 _ y4 y5 y6=>
 opN p_ (sLoad 9 v1) Kp fun x11=>
 opN p_ (sLen #[9] 3 [x11]) Kp fun x12=>
 opN p_ (sBin .lss 3 y6 x12) Kp fun x13=>
 condS x13
 (opN p_ (sLoad 9 v1) Kp fun x16=>
 opN p_ (sIx 9 x16 y6) Kp fun x18=>
 opN p_ (sEq .eql 5 (.tmp 20) (.const (.int .u8 92)) x18 (.int .u8 92)) Kp fun x21=>
 gdK x21 true (fun k=>k y4) fun x23=>
 opN p_ (sPick x21 x23 (.bool false)) Kp fun x24=>
 gdK x24 true (opN p_ (sFA 132 v2 1) Kp) fun x26=>
 gdK x24 true (opN p_ (sLoad 4 x26) Kp) fun x27=>
 opN p_ (sPick x24 x27 (.bool false)) Kp fun x28=>
 condS x28
 (opN p_ (sBin .add 3 y6 (.int .i64 1)) Kp fun x30=>
 opN p_ (sBin .add 3 x30 (.int .i64 1)) Kp fun x15=>
 next3 I1 m1 y4 y5 x15)
 (opN p_ (sEq .eql 5 (.tmp 32) (.const (.int .u8 34)) x18 (.int .u8 34)) Kp fun x33=>
 gdK x33 true (opN p_ (sFA 132 v2 0) Kp) fun x35=>
 gdK x33 true (opN p_ (sLoad 4 x35) Kp) fun x36=>
 opN p_ (sPick x33 x36 (.bool false)) Kp fun x37=>
 condS x37
 (opN p_ (sUn .not y4) Kp fun x39=>
 opN p_ (sBin .add 3 y6 (.int .i64 1)) Kp fun x15=>
 next3 I1 m1 x39 y5 x15)
 (opN p_ (sEq .eql 5 (.tmp 41) (.const (.int .u8 44)) x18 (.int .u8 44)) Kp fun x42=>
 gdK x42 true (fun k=>k y4) fun x44=>
 gdK x42 true (opN p_ (sUn .not x44) Kp) fun x45=>
 opN p_ (sPick x42 x45 (.bool false)) Kp fun x46=>
 condS x46
 (opN p_ (sLoad 9 v1) Kp fun x47=>
 opN p_ (sSl 9 x47 (some y5) (some y6) none) Kp fun x50=>
 opN p_ (sCall (fn 124) [x50]) Kp fun x51=>
 opN p_ (sEq .neq 9 (.tmp 52) (.const (.string ⟨#[]⟩)) x51 (.string ⟨#[]⟩)) Kp fun x53=>
 gdK x53 true (fun k=>k v0) fun x55=>
 gdK x53 true (fun k=>k x51) fun x56=>
 gdK x53 true (opN p_ (sCall x55 [x56]) Kp) fun x57=>
 gdK x53 true (opN p_ (sUn .not x57) Kp) fun x58=>
 opN p_ (sPick x53 x58 (.bool false)) Kp fun x59=>
 condS x59
 (K (.tuple #[]))
 (opN p_ (sBin .add 3 y6 (.int .i64 1)) Kp fun x61=>
 opN p_ (sBin .add 3 y6 (.int .i64 1)) Kp fun x15=>
 next3 I1 m1 y4 x61 x15))
 (opN p_ (sBin .add 3 y6 (.int .i64 1)) Kp fun x15=>
 next3 I1 m1 y4 y5 x15))))
 (opN p_ (sLoad 9 v1) Kp fun x62=>
 opN p_ (sSl 9 x62 (some y5) none none) Kp fun x64=>
 opN p_ (sCall (fn 124) [x64]) Kp fun x65=>
 opN p_ (sEq .neq 9 (.tmp 66) (.const (.string ⟨#[]⟩)) x65 (.string ⟨#[]⟩)) Kp fun x67=>
 condS x67
 (opN p_ (sCall v0 [x65]) Kp fun x70=>
 K (.tuple #[]))
 (K (.tuple #[])))) (.bool false) (.int .i64 0) (.int .i64 0)
theorem fields_kind_string_elements_1_s {v0 v1 v2:Value}:Shp p_ 134 [v0,v1,v2] (fields_kind_string_elements_1 v0 v1 v2):=sh_ Tryz.call134 Tryz.func134 (an:={loops:=[(2,[4,5,6])]}) fun _ _=>by kernel_rfl
def strings_Builder_grow (v0 v1:Value)(Kp:PK)(K:Value->WP):WP:=
 drS (stS p_ (sNil v0) fun x6=>
 stS p_ (sFA 162 x6 1) fun x7=>
 stS p_ (sLoad 32 x7) fun x8=>
 stS p_ (sCap #[32] 3 [x8]) fun x9=>
 stS p_ (sBin .mul 3 (.int .i64 2) x9) fun x10=>
 stS p_ (sBin .add 3 x10 v1) fun x12=>
 stD p_ (sNil v0) fun D10 x15=>
 stD p_ (sFA 162 x15 1) fun D11 x16=>
 stD p_ (sLoad 32 x16) fun D12 x17=>
 stD p_ (sLen #[32] 3 [x17]) fun D13 x18=>
 opN p_ (sCall (fn 161) [x12]) Kp fun x13=>
 (fun w=>D13 w/\(fun w=>D12 w/\(fun w=>D11 w/\(fun w=>D10 w/\(stS p_ (sSl 32 x13 none (some x18) none) fun x19=>
 opN p_ (sNil v0) Kp fun x22=>
 opN p_ (sFA 162 x22 1) Kp fun x23=>
 opN p_ (sLoad 32 x23) Kp fun x24=>
 opN p_ (sCopy #[32,32] 3 [x19,x24]) Kp fun x25=>
 opN p_ (sNil v0) Kp fun x28=>
 opN p_ (sFA 162 x28 1) Kp fun x29=>
 opN p_ (sStore 32 x29 x19) Kp fun _=>
 K (.tuple #[])) w) w) w) w))
theorem strings_Builder_grow_s {v0 v1:Value}:Shp p_ 136 [v0,v1] (strings_Builder_grow v0 v1):=sh_ Tryz.call136 Tryz.func136 (an:={drs:=[(0,.ofL [(0,1),(1,1),(2,1),(3,1),(4,1),(5,1),(6,1),(7,1),(9,2),(10,3),(11,3),(12,3),(13,3),(8,0),(14,1),(15,1)])]}) fun _ _=>by kernel_rfl
def istrconv_FormatInt (v0 v1:Value)(Kp:PK)(K:Value→WP):WP:=
 opN p_ (sEq .eql 3 (.tmp 10) (.const (.int .i64 10)) v1 (.int .i64 10)) Kp fun x11=>
 condS x11
 (opN p_ (sBin .leq 2 (.int .i64 0) v0) Kp fun x13=>
 gdK x13 true (fun k=>k v0) fun x15=>
 gdK x13 true (opN p_ (sBin .lss 2 x15 (.int .i64 100)) Kp) fun x16=>
 opN p_ (sPick x13 x16 (.bool false)) Kp fun x17=>
 condS x17
 (opN p_ (sCall (fn 162) [v0]) Kp fun x19=>
 K x19)
 (opN p_ (sAlloc 215) Kp fun x5=>
 opN p_ (sConv 2 186 v0) Kp fun x21=>
 cut1 (fun J1=>
 opN p_ (sBin .lss 2 v0 (.int .i64 0)) Kp fun x23=>
 condS x23
 (opN p_ (sUn .neg x21) Kp fun x25=>
 J1 x25)
 (J1 x21)) fun _ z6=>
 opN p_ (sCall (fn 163) [z6]) Kp fun x27=>
 opN p_ (sBin .add 3 (.int .i64 1) x27) Kp fun x29=>
 opN p_ (sSl 215 x5 (some (.int .i64 1)) (some x29) none) Kp fun x30=>
 opN p_ (sCall (fn 164) [x30,z6]) Kp fun x32=>
 opN p_ (sBin .lss 2 v0 (.int .i64 0)) Kp fun x34=>
 condS x34
 (opN p_ (sIA 215 x5 (.int .i64 0)) Kp fun x35=>
 opN p_ (sStore 5 x35 (.int .u8 45)) Kp fun _=>
 opN p_ (sBin .add 3 (.int .i64 1) x27) Kp fun x37=>
 opN p_ (sSl 215 x5 none (some x37) none) Kp fun x38=>
 opN p_ (sConv 32 9 x38) Kp fun x39=>
 K x39)
 (opN p_ (sBin .add 3 (.int .i64 1) x27) Kp fun x41=>
 opN p_ (sSl 215 x5 (some (.int .i64 1)) (some x41) none) Kp fun x42=>
 opN p_ (sConv 32 9 x42) Kp fun x43=>
 K x43)))
 (opN p_ (sConv 2 186 v0) Kp fun x46=>
 opN p_ (sBin .lss 2 v0 (.int .i64 0)) Kp fun x49=>
 opN p_ (sCall (fn 165) [(.slice none 0 0),x46,v1,x49,(.bool false)]) Kp fun x50=>
 opN p_ (sExt x50 0) Kp fun x51=>
 opN p_ (sExt x50 1) Kp fun x52=>
 K x52)
theorem istrconv_FormatInt_s {v0 v1:Value}:Shp p_ 137 [v0,v1] (istrconv_FormatInt v0 v1):=sh_ Tryz.call137 Tryz.func137 (an:={cuts:=[(8,[6])]}) fun _ _=>by kernel_rfl
def ref01_Token (v0:Value)(Kp:PK)(K:Value→WP):WP:=
 loop1 (fun I1 m1 _ y3=>
 opN p_ (sLen #[9] 3 [v0]) Kp fun x6=>
 opN p_ (sBin .lss 3 y3 x6) Kp fun x7=>
 condS x7
 (opN p_ (sIx 9 v0 y3) Kp fun x12=>
 cut1 (fun J1=>
 opN p_ (sEq .eql 5 (.tmp 12) (.const (.int .u8 33)) x12 (.int .u8 33)) Kp fun x19=>
 condS x19
 (J1 x19)
 (opN p_ (sEq .eql 5 (.tmp 12) (.const (.int .u8 35)) x12 (.int .u8 35)) Kp fun x20=>
 condS x20
 (J1 x20)
 (opN p_ (sEq .eql 5 (.tmp 12) (.const (.int .u8 36)) x12 (.int .u8 36)) Kp fun x21=>
 condS x21
 (J1 x21)
 (opN p_ (sEq .eql 5 (.tmp 12) (.const (.int .u8 37)) x12 (.int .u8 37)) Kp fun x22=>
 condS x22
 (J1 x22)
 (opN p_ (sEq .eql 5 (.tmp 12) (.const (.int .u8 38)) x12 (.int .u8 38)) Kp fun x23=>
 condS x23
 (J1 x23)
 (opN p_ (sEq .eql 5 (.tmp 12) (.const (.int .u8 39)) x12 (.int .u8 39)) Kp fun x24=>
 condS x24
 (J1 x24)
 (opN p_ (sEq .eql 5 (.tmp 12) (.const (.int .u8 42)) x12 (.int .u8 42)) Kp fun x25=>
 condS x25
 (J1 x25)
 (opN p_ (sEq .eql 5 (.tmp 12) (.const (.int .u8 43)) x12 (.int .u8 43)) Kp fun x26=>
 condS x26
 (J1 x26)
 (opN p_ (sEq .eql 5 (.tmp 12) (.const (.int .u8 45)) x12 (.int .u8 45)) Kp fun x27=>
 condS x27
 (J1 x27)
 (opN p_ (sEq .eql 5 (.tmp 12) (.const (.int .u8 46)) x12 (.int .u8 46)) Kp fun x28=>
 condS x28
 (J1 x28)
 (opN p_ (sEq .eql 5 (.tmp 12) (.const (.int .u8 94)) x12 (.int .u8 94)) Kp fun x29=>
 condS x29
 (J1 x29)
 (opN p_ (sEq .eql 5 (.tmp 12) (.const (.int .u8 95)) x12 (.int .u8 95)) Kp fun x30=>
 condS x30
 (J1 x30)
 (opN p_ (sEq .eql 5 (.tmp 12) (.const (.int .u8 96)) x12 (.int .u8 96)) Kp fun x31=>
 condS x31
 (J1 x31)
 (opN p_ (sEq .eql 5 (.tmp 12) (.const (.int .u8 124)) x12 (.int .u8 124)) Kp fun x32=>
 condS x32
 (J1 x32)
 (opN p_ (sEq .eql 5 (.tmp 12) (.const (.int .u8 126)) x12 (.int .u8 126)) Kp fun x33=>
 J1 x33))))))))))))))) fun _ z18=>
 condS z18
 (opN p_ (sBin .add 3 y3 (.int .i64 1)) Kp fun x9=>
 next1 I1 m1 x9)
 (opN p_ (sIx 9 v0 y3) Kp fun x15=>
 opN p_ (sCall (fn 166) [x15]) Kp fun x16=>
 opN p_ (sUn .not x16) Kp fun x17=>
 condS x17
 (K (.bool false))
 (opN p_ (sBin .add 3 y3 (.int .i64 1)) Kp fun x9=>
 next1 I1 m1 x9)))
 (opN p_ (sLen #[9] 3 [v0]) Kp fun x35=>
 opN p_ (sBin .gtr 3 x35 (.int .i64 0)) Kp fun x36=>
 K x36)) (.int .i64 0)
theorem ref01_Token_s {v0:Value}:Shp p_ 138 [v0] (ref01_Token v0):=sh_ Tryz.call138 Tryz.func138 (an:={cuts:=[(5,[18])],loops:=[(2,[3])]}) fun _ _=>by kernel_rfl
def ref10_unquoted (v0:Value)(Kp:PK)(K:Value→WP):WP:=
 opN p_ (sLen #[9] 3 [v0]) Kp fun x8=>
 opN p_ (sBin .lss 3 x8 (.int .i64 2)) Kp fun x9=>
 gdK x9 false (fun k=>k v0) fun x11=>
 gdK x9 false (opN p_ (sIx 9 x11 (.int .i64 0)) Kp) fun x12=>
 gdK x9 false (opN p_ (sEq .neq 5 (.tmp 12) (.const (.int .u8 34)) x12 (.int .u8 34)) Kp) fun x13=>
 opN p_ (sPick x9 (.bool true) x13) Kp fun x14=>
 condS x14
 (K (.tuple #[(.string ⟨#[]⟩),(.bool false)]))
 (loop2 (fun I1 m1 _ y4 y5=>
 opN p_ (sLen #[9] 3 [v0]) Kp fun x17=>
 opN p_ (sBin .lss 3 y5 x17) Kp fun x18=>
 condS x18
 (opN p_ (sIx 9 v0 y5) Kp fun x23=>
 opN p_ (sEq .eql 5 (.tmp 24) (.const (.int .u8 34)) x23 (.int .u8 34)) Kp fun x25=>
 condS x25
 (opN p_ (sConv 32 9 y4) Kp fun x27=>
 opN p_ (sLen #[9] 3 [v0]) Kp fun x30=>
 opN p_ (sBin .sub 3 x30 (.int .i64 1)) Kp fun x31=>
 opN p_ (sEq .eql 3 (.tmp 28) (.tmp 31) y5 x31) Kp fun x32=>
 K (.tuple #[x27,x32]))
 (cut2 (fun J1=>
 opN p_ (sEq .eql 5 (.tmp 33) (.const (.int .u8 92)) x23 (.int .u8 92)) Kp fun x34=>
 condS x34
 (opN p_ (sBin .add 3 y5 (.int .i64 1)) Kp fun x36=>
 opN p_ (sLen #[9] 3 [v0]) Kp fun x39=>
 opN p_ (sEq .eql 3 (.tmp 37) (.tmp 39) x36 x39) Kp fun x40=>
 condS x40
 (K (.tuple #[(.string ⟨#[]⟩),(.bool false)]))
 (opN p_ (sIx 9 v0 x36) Kp fun x43=>
 J1 x36 x43))
 (J1 y5 x23)) fun _ z5 z6=>
 opN p_ (sEq .neq 5 (.tmp 44) (.const (.int .u8 9)) z6 (.int .u8 9)) Kp fun x45=>
 gdK x45 true (fun k=>k z6) fun x47=>
 gdK x45 true (opN p_ (sBin .lss 5 x47 (.int .u8 32)) Kp) fun x48=>
 gdK x45 true (fun k=>k x48) fun x49=>
 gdK x49 false (fun k=>k z6) fun x50=>
 gdK x49 false (opN p_ (sEq .eql 5 (.tmp 50) (.const (.int .u8 127)) x50 (.int .u8 127)) Kp) fun x51=>
 gdK x45 true (opN p_ (sPick x49 (.bool true) x51) Kp) fun x52=>
 opN p_ (sPick x45 x52 (.bool false)) Kp fun x53=>
 condS x53
 (K (.tuple #[(.string ⟨#[]⟩),(.bool false)]))
 (opN p_ (sBuildSl 32 1 [(0,z6)]) Kp fun x56=>
 opN p_ (sApp #[32,32] 32 [y4,x56]) Kp fun x57=>
 opN p_ (sBin .add 3 z5 (.int .i64 1)) Kp fun x20=>
 next2 I1 m1 x57 x20)))
 (K (.tuple #[(.string ⟨#[]⟩),(.bool false)]))) (.slice none 0 0) (.int .i64 1))
theorem ref10_unquoted_s {v0:Value}:Shp p_ 139 [v0] (ref10_unquoted v0):=sh_ Tryz.call139 Tryz.func139 (an:={cuts:=[(15,[5,6])],loops:=[(5,[4,5])]}) fun _ _=>by kernel_rfl
def ref01_blank (v0:Value)(Kp:PK)(K:Value->WP):WP:=
 opN p_ (sEq .eql 5 (.tmp 3) (.const (.int .u8 9)) v0 (.int .u8 9)) Kp fun x4=>
 gdK x4 false (fun k=>k v0) fun x6=>
 gdK x4 false (opN p_ (sEq .eql 5 (.tmp 6) (.const (.int .u8 32)) x6 (.int .u8 32)) Kp) fun x7=>
 opN p_ (sPick x4 (.bool true) x7) Kp fun x8=>
 K x8
theorem ref01_blank_s {v0:Value}:Shp p_ 140 [v0] (ref01_blank v0):=sh_ Tryz.call140 Tryz.func140 (an:={}) fun _ _=>by kernel_rfl
def ref09_Join (v0:Value)(Kp:PK)(K:Value→WP):WP:=
 opN p_ (sBox 175 v0) Kp fun x1=>
 drS (stS p_ (sFA 175 x1 0) fun x7=>
 stS p_ (sLoad 3 x7) fun x8=>
 stS p_ (sBin .lss 3 x8 (.int .i64 1970)) fun x9=>
 gdK x9 false (stS p_ (sFA 175 x1 0)) fun x11=>
 gdK x9 false (stS p_ (sLoad 3 x11)) fun x12=>
 gdK x9 false (stS p_ (sBin .gtr 3 x12 (.int .i64 9999))) fun x13=>
 stS p_ (sPick x9 (.bool true) x13) fun x14=>
 gdK x14 false (stS p_ (sFA 175 x1 1)) fun x16=>
 gdK x14 false (stS p_ (sLoad 3 x16)) fun x17=>
 gdK x14 false (stS p_ (sBin .lss 3 x17 (.int .i64 1))) fun x18=>
 stS p_ (sPick x14 (.bool true) x18) fun x19=>
 gdK x19 false (stS p_ (sFA 175 x1 1)) fun x21=>
 gdK x19 false (stS p_ (sLoad 3 x21)) fun x22=>
 gdK x19 false (stS p_ (sBin .gtr 3 x22 (.int .i64 12))) fun x23=>
 stS p_ (sPick x19 (.bool true) x23) fun x24=>
 gdK x24 false (stS p_ (sFA 175 x1 2)) fun x26=>
 gdK x24 false (stS p_ (sLoad 3 x26)) fun x27=>
 gdK x24 false (stS p_ (sBin .lss 3 x27 (.int .i64 1))) fun x28=>
 stS p_ (sPick x24 (.bool true) x28) fun x29=>
 gdD x29 false (stD p_ (sFA 175 x1 2)) fun D24 x31=>
 gdD x29 false (stD p_ (sLoad 3 x31)) fun D25 x32=>
 gdK x29 false (stS p_ (sFA 175 x1 0)) fun x33=>
 gdK x29 false (stS p_ (sLoad 3 x33)) fun x34=>
 gdK x29 false (stS p_ (sFA 175 x1 1)) fun x35=>
 gdK x29 false (stS p_ (sLoad 3 x35)) fun x36=>
 gdK x29 false (opN p_ (sCall (fn 167) [x34,x36]) Kp) fun x37=>
 (fun w=>D25 w∧(fun w=>D24 w∧(gdK x29 false (stS p_ (sBin .gtr 3 x32 x37)) fun x38=>
 stS p_ (sPick x29 (.bool true) x38) fun x39=>
 condS x39
 (K (.tuple #[(.int .i64 0),(.int .i64 41)]))
 (opN p_ (sFA 175 x1 3) Kp fun x40=>
 opN p_ (sLoad 3 x40) Kp fun x41=>
 opN p_ (sBin .lss 3 x41 (.int .i64 0)) Kp fun x42=>
 gdK x42 false (opN p_ (sFA 175 x1 3) Kp) fun x44=>
 gdK x42 false (opN p_ (sLoad 3 x44) Kp) fun x45=>
 gdK x42 false (opN p_ (sBin .gtr 3 x45 (.int .i64 23)) Kp) fun x46=>
 opN p_ (sPick x42 (.bool true) x46) Kp fun x47=>
 gdK x47 false (opN p_ (sFA 175 x1 4) Kp) fun x49=>
 gdK x47 false (opN p_ (sLoad 3 x49) Kp) fun x50=>
 gdK x47 false (opN p_ (sBin .lss 3 x50 (.int .i64 0)) Kp) fun x51=>
 opN p_ (sPick x47 (.bool true) x51) Kp fun x52=>
 gdK x52 false (opN p_ (sFA 175 x1 4) Kp) fun x54=>
 gdK x52 false (opN p_ (sLoad 3 x54) Kp) fun x55=>
 gdK x52 false (opN p_ (sBin .gtr 3 x55 (.int .i64 59)) Kp) fun x56=>
 opN p_ (sPick x52 (.bool true) x56) Kp fun x57=>
 gdK x57 false (opN p_ (sFA 175 x1 5) Kp) fun x59=>
 gdK x57 false (opN p_ (sLoad 3 x59) Kp) fun x60=>
 gdK x57 false (opN p_ (sBin .lss 3 x60 (.int .i64 0)) Kp) fun x61=>
 opN p_ (sPick x57 (.bool true) x61) Kp fun x62=>
 gdK x62 false (opN p_ (sFA 175 x1 5) Kp) fun x64=>
 gdK x62 false (opN p_ (sLoad 3 x64) Kp) fun x65=>
 gdK x62 false (opN p_ (sBin .gtr 3 x65 (.int .i64 59)) Kp) fun x66=>
 opN p_ (sPick x62 (.bool true) x66) Kp fun x67=>
 condS x67
 (K (.tuple #[(.int .i64 0),(.int .i64 41)]))
 (opN p_ (sFA 175 x1 2) Kp fun x68=>
 opN p_ (sLoad 3 x68) Kp fun x69=>
 opN p_ (sBin .sub 3 x69 (.int .i64 1)) Kp fun x70=>
 loop2 (fun I1 m1 _ y4 y5=>
 opN p_ (sFA 175 x1 0) Kp fun x72=>
 opN p_ (sLoad 3 x72) Kp fun x73=>
 opN p_ (sBin .lss 3 y5 x73) Kp fun x74=>
 condS x74
 (opN p_ (sCall (fn 168) [y5]) Kp fun x79=>
 opN p_ (sBin .add 3 y4 x79) Kp fun x80=>
 opN p_ (sBin .add 3 y5 (.int .i64 1)) Kp fun x76=>
 next2 I1 m1 x80 x76)
 (loop2 (fun I2 m2 _ y4 y6=>
 opN p_ (sFA 175 x1 1) Kp fun x82=>
 opN p_ (sLoad 3 x82) Kp fun x83=>
 opN p_ (sBin .lss 3 y6 x83) Kp fun x84=>
 condS x84
 (opN p_ (sFA 175 x1 0) Kp fun x88=>
 opN p_ (sLoad 3 x88) Kp fun x89=>
 opN p_ (sCall (fn 167) [x89,y6]) Kp fun x91=>
 opN p_ (sBin .add 3 y4 x91) Kp fun x92=>
 opN p_ (sBin .add 3 y6 (.int .i64 1)) Kp fun x86=>
 next2 I2 m2 x92 x86)
 (opN p_ (sBin .mul 3 y4 (.int .i64 86400)) Kp fun x94=>
 opN p_ (sFA 175 x1 3) Kp fun x95=>
 opN p_ (sLoad 3 x95) Kp fun x96=>
 opN p_ (sBin .mul 3 x96 (.int .i64 3600)) Kp fun x97=>
 opN p_ (sBin .add 3 x94 x97) Kp fun x98=>
 opN p_ (sFA 175 x1 4) Kp fun x99=>
 opN p_ (sLoad 3 x99) Kp fun x100=>
 opN p_ (sBin .mul 3 x100 (.int .i64 60)) Kp fun x101=>
 opN p_ (sBin .add 3 x98 x101) Kp fun x102=>
 opN p_ (sFA 175 x1 5) Kp fun x103=>
 opN p_ (sLoad 3 x103) Kp fun x104=>
 opN p_ (sBin .add 3 x102 x104) Kp fun x105=>
 K (.tuple #[x105,(.int .i64 0)]))) y4 (.int .i64 1))) x70 (.int .i64 1970)))) w) w))
theorem ref09_Join_s {v0:Value}:Shp p_ 141 [v0] (ref09_Join v0):=sh_ Tryz.call141 Tryz.func141 (an:={loops:=[(7,[4,5]),(11,[4,6])],drs:=[(1,.ofL [(0,1),(1,1),(2,1),(3,1),(4,1),(5,1),(6,1),(7,1),(8,1),(9,1),(10,1),(11,1),(12,1),(13,1),(14,1),(15,1),(16,1),(17,1),(18,1),(19,1),(20,1),(21,1),(22,1),(23,1),(24,3),(25,3),(26,1),(27,1),(28,1),(29,1),(30,0),(31,1),(32,1)])]}) fun _ _=>by kernel_rfl
def ref09_Split (v0:Value)(Kp:PK)(K:Value→WP):WP:=
 opN p_ (sAlloc 175) Kp fun x2=>
 opN p_ (sBin .lss 3 v0 (.int .i64 0)) Kp fun x7=>
 gdK x7 false (fun k=>k v0) fun x9=>
 gdK x7 false (opN p_ (sBin .gtr 3 x9 (.int .i64 253402300799)) Kp) fun x10=>
 opN p_ (sPick x7 (.bool true) x10) Kp fun x11=>
 condS x11
 (opN p_ (sBuild 175 []) Kp fun x12=>
 opN p_ (sStore 175 x2 x12) Kp fun _=>
 (stS p_ (sRes 175 x2) fun r0=>K (.tuple #[r0,(.int .i64 11)])))
 (opN p_ (sBin .quo 3 v0 (.int .i64 3600)) Kp fun x14=>
 opN p_ (sBin .rem 3 x14 (.int .i64 24)) Kp fun x15=>
 opN p_ (sBin .quo 3 v0 (.int .i64 60)) Kp fun x17=>
 opN p_ (sBin .rem 3 x17 (.int .i64 60)) Kp fun x18=>
 opN p_ (sBin .rem 3 v0 (.int .i64 60)) Kp fun x20=>
 opN p_ (sBuild 175 [(0,(.int .i64 1970)),(1,(.int .i64 1)),(3,x15),(4,x18),(5,x20)]) Kp fun x21=>
 opN p_ (sAlloc 175) Kp fun x4=>
 opN p_ (sStore 175 x4 x21) Kp fun _=>
 opN p_ (sBin .quo 3 v0 (.int .i64 86400)) Kp fun x23=>
 opN p_ (sBin .add 3 x23 (.int .i64 4)) Kp fun x25=>
 opN p_ (sBin .rem 3 x25 (.int .i64 7)) Kp fun x26=>
 opN p_ (sFA 175 x4 6) Kp fun x27=>
 opN p_ (sStore 3 x27 x26) Kp fun _=>
 loop1 (fun I1 m1 _ y5=>
 opN p_ (sFA 175 x4 0) Kp fun x29=>
 opN p_ (sLoad 3 x29) Kp fun x30=>
 opN p_ (sCall (fn 168) [x30]) Kp fun x31=>
 opN p_ (sBin .geq 3 y5 x31) Kp fun x32=>
 condS x32
 (opN p_ (sFA 175 x4 0) Kp fun x34=>
 opN p_ (sLoad 3 x34) Kp fun x35=>
 opN p_ (sCall (fn 168) [x35]) Kp fun x36=>
 opN p_ (sBin .sub 3 y5 x36) Kp fun x37=>
 opN p_ (sFA 175 x4 0) Kp fun x38=>
 opN p_ (sLoad 3 x38) Kp fun x39=>
 opN p_ (sBin .add 3 x39 (.int .i64 1)) Kp fun x40=>
 opN p_ (sFA 175 x4 0) Kp fun x41=>
 opN p_ (sStore 3 x41 x40) Kp fun _=>
 next1 I1 m1 x37)
 (loop1 (fun I2 m2 _ y5_2=>
 opN p_ (sFA 175 x4 0) Kp fun x43=>
 opN p_ (sLoad 3 x43) Kp fun x44=>
 opN p_ (sFA 175 x4 1) Kp fun x45=>
 opN p_ (sLoad 3 x45) Kp fun x46=>
 opN p_ (sCall (fn 167) [x44,x46]) Kp fun x47=>
 opN p_ (sBin .geq 3 y5_2 x47) Kp fun x48=>
 condS x48
 (opN p_ (sFA 175 x4 0) Kp fun x50=>
 opN p_ (sLoad 3 x50) Kp fun x51=>
 opN p_ (sFA 175 x4 1) Kp fun x52=>
 opN p_ (sLoad 3 x52) Kp fun x53=>
 opN p_ (sCall (fn 167) [x51,x53]) Kp fun x54=>
 opN p_ (sBin .sub 3 y5_2 x54) Kp fun x55=>
 opN p_ (sFA 175 x4 1) Kp fun x56=>
 opN p_ (sLoad 3 x56) Kp fun x57=>
 opN p_ (sBin .add 3 x57 (.int .i64 1)) Kp fun x58=>
 opN p_ (sFA 175 x4 1) Kp fun x59=>
 opN p_ (sStore 3 x59 x58) Kp fun _=>
 next1 I2 m2 x55)
 (opN p_ (sBin .add 3 y5_2 (.int .i64 1)) Kp fun x61=>
 opN p_ (sFA 175 x4 2) Kp fun x62=>
 opN p_ (sStore 3 x62 x61) Kp fun _=>
 opN p_ (sLoad 175 x4) Kp fun x63=>
 opN p_ (sStore 175 x2 x63) Kp fun _=>
 (stS p_ (sRes 175 x2) fun r0=>K (.tuple #[r0,(.int .i64 0)])))) y5)) x23)
theorem ref09_Split_s {v0:Value}:Shp p_ 142 [v0] (ref09_Split v0):=sh_ Tryz.call142 Tryz.func142 (an:={loops:=[(6,[5]),(9,[5])]}) fun _ _=>by kernel_rfl
def ref09_Forms (v0:Value)(Kp:PK)(K:Value→WP):WP:=
 opN p_ (sBox 175 v0) Kp fun x1=>
 opN p_ (sCall (fn 169) []) Kp fun x15=>
 opN p_ (sExt x15 0) Kp fun x16=>
 opN p_ (sExt x15 1) Kp fun x17=>
 opN p_ (sExt x15 2) Kp fun x18=>
 opN p_ (sFA 175 x1 1) Kp fun x20=>
 opN p_ (sLoad 3 x20) Kp fun x21=>
 opN p_ (sBin .sub 3 x21 (.int .i64 1)) Kp fun x22=>
 opN p_ (sIA 46 x18 x22) Kp fun x23=>
 opN p_ (sLoad 9 x23) Kp fun x24=>
 opN p_ (sFA 175 x1 2) Kp fun x25=>
 opN p_ (sLoad 3 x25) Kp fun x26=>
 opN p_ (sCall (fn 170) [x26]) Kp fun x27=>
 cut1 (fun J1=>
 opN p_ (sFA 175 x1 2) Kp fun x28=>
 opN p_ (sLoad 3 x28) Kp fun x29=>
 opN p_ (sBin .lss 3 x29 (.int .i64 10)) Kp fun x30=>
 condS x30
 (opN p_ (sSl 9 x27 (some (.int .i64 1)) none none) Kp fun x32=>
 opN p_ (sBin .add 9 (.string ⟨#[32]⟩) x32) Kp fun x33=>
 J1 x33)
 (J1 x27)) fun _ z9=>
 drS (stS p_ (sFA 175 x1 0) fun x34=>
 stS p_ (sLoad 3 x34) fun x35=>
 stS p_ (sBin .quo 3 x35 (.int .i64 100)) fun x36=>
 stD p_ (sFA 175 x1 0) fun D4 x38=>
 stD p_ (sLoad 3 x38) fun D5 x39=>
 opN p_ (sCall (fn 170) [x36]) Kp fun x37=>
 (fun w=>D5 w∧(fun w=>D4 w∧(opN p_ (sCall (fn 170) [x39]) Kp fun x40=>
 stS p_ (sBin .add 9 x37 x40) fun x41=>
 drS (stD p_ (sFA 175 x1 6) fun D1 x43=>
 stD p_ (sLoad 3 x43) fun D2 x44=>
 stD p_ (sIA 46 x16 x44) fun D3 x45=>
 stD p_ (sLoad 9 x45) fun D4 x46=>
 stD p_ (sBin .add 9 x46 (.string ⟨#[44,32]⟩)) fun D5 x47=>
 stS p_ (sFA 175 x1 2) fun x48=>
 stS p_ (sLoad 3 x48) fun x49=>
 stD p_ (sLoad 175 x1) fun D17 x59=>
 opN p_ (sCall (fn 170) [x49]) Kp fun x50=>
 (fun w=>D17 w∧(fun w=>D5 w∧(fun w=>D4 w∧(fun w=>D3 w∧(fun w=>D2 w∧(fun w=>D1 w∧(stD p_ (sBin .add 9 x47 x50) fun D9 x51=>
 stD p_ (sBin .add 9 x51 (.string ⟨#[32]⟩)) fun D10 x52=>
 stD p_ (sBin .add 9 x52 x24) fun D12 x54=>
 stD p_ (sBin .add 9 x54 (.string ⟨#[32]⟩)) fun D13 x55=>
 stD p_ (sBin .add 9 x55 x41) fun D15 x57=>
 stD p_ (sBin .add 9 x57 (.string ⟨#[32]⟩)) fun D16 x58=>
 opN p_ (sCall (fn 171) [x59]) Kp fun x60=>
 (fun w=>D16 w∧(fun w=>D15 w∧(fun w=>D13 w∧(fun w=>D12 w∧(fun w=>D10 w∧(fun w=>D9 w∧(fun w=>D5 w∧(fun w=>D4 w∧(fun w=>D3 w∧(fun w=>D2 w∧(fun w=>D1 w∧(stS p_ (sBin .add 9 x58 x60) fun x61=>
 stS p_ (sBin .add 9 x61 (.string ⟨#[32,71,77,84]⟩)) fun x62=>
 drS (stD p_ (sFA 175 x1 6) fun D1 x64=>
 stD p_ (sLoad 3 x64) fun D2 x65=>
 stD p_ (sIA 46 x17 x65) fun D3 x66=>
 stD p_ (sLoad 9 x66) fun D4 x67=>
 stD p_ (sBin .add 9 x67 (.string ⟨#[44,32]⟩)) fun D5 x68=>
 stS p_ (sFA 175 x1 2) fun x69=>
 stS p_ (sLoad 3 x69) fun x70=>
 stD p_ (sFA 175 x1 0) fun D14 x77=>
 stD p_ (sLoad 3 x77) fun D15 x78=>
 stD p_ (sLoad 175 x1) fun D19 x82=>
 opN p_ (sCall (fn 170) [x70]) Kp fun x71=>
 (fun w=>D19 w∧(fun w=>D15 w∧(fun w=>D14 w∧(fun w=>D5 w∧(fun w=>D4 w∧(fun w=>D3 w∧(fun w=>D2 w∧(fun w=>D1 w∧(stD p_ (sBin .add 9 x68 x71) fun D9 x72=>
 stD p_ (sBin .add 9 x72 (.string ⟨#[45]⟩)) fun D10 x73=>
 stD p_ (sBin .add 9 x73 x24) fun D12 x75=>
 stD p_ (sBin .add 9 x75 (.string ⟨#[45]⟩)) fun D13 x76=>
 opN p_ (sCall (fn 170) [x78]) Kp fun x79=>
 (fun w=>D13 w∧(fun w=>D12 w∧(fun w=>D10 w∧(fun w=>D9 w∧(fun w=>D19 w∧(fun w=>D5 w∧(fun w=>D4 w∧(fun w=>D3 w∧(fun w=>D2 w∧(fun w=>D1 w∧(stD p_ (sBin .add 9 x76 x79) fun D17 x80=>
 stD p_ (sBin .add 9 x80 (.string ⟨#[32]⟩)) fun D18 x81=>
 opN p_ (sCall (fn 171) [x82]) Kp fun x83=>
 (fun w=>D18 w∧(fun w=>D17 w∧(fun w=>D13 w∧(fun w=>D12 w∧(fun w=>D10 w∧(fun w=>D9 w∧(fun w=>D5 w∧(fun w=>D4 w∧(fun w=>D3 w∧(fun w=>D2 w∧(fun w=>D1 w∧(stS p_ (sBin .add 9 x81 x83) fun x84=>
 stS p_ (sBin .add 9 x84 (.string ⟨#[32,71,77,84]⟩)) fun x85=>
 drS (stD p_ (sFA 175 x1 6) fun D1 x87=>
 stD p_ (sLoad 3 x87) fun D2 x88=>
 stD p_ (sIA 46 x16 x88) fun D3 x89=>
 stD p_ (sLoad 9 x89) fun D4 x90=>
 stD p_ (sBin .add 9 x90 (.string ⟨#[32]⟩)) fun D5 x91=>
 stD p_ (sBin .add 9 x91 x24) fun D7 x93=>
 stD p_ (sBin .add 9 x93 (.string ⟨#[32]⟩)) fun D8 x94=>
 stD p_ (sBin .add 9 x94 z9) fun D10 x96=>
 stD p_ (sBin .add 9 x96 (.string ⟨#[32]⟩)) fun D11 x97=>
 stS p_ (sLoad 175 x1) fun x98=>
 opN p_ (sCall (fn 171) [x98]) Kp fun x99=>
 (fun w=>D11 w∧(fun w=>D10 w∧(fun w=>D8 w∧(fun w=>D7 w∧(fun w=>D5 w∧(fun w=>D4 w∧(fun w=>D3 w∧(fun w=>D2 w∧(fun w=>D1 w∧(stS p_ (sBin .add 9 x97 x99) fun x100=>
 stS p_ (sBin .add 9 x100 (.string ⟨#[32]⟩)) fun x101=>
 stS p_ (sBin .add 9 x101 x41) fun x103=>
 K (.tuple #[x62,x85,x103])) w) w) w) w) w) w) w) w) w))) w) w) w) w) w) w) w) w) w) w) w)) w) w) w) w) w) w) w) w) w) w)) w) w) w) w) w) w) w) w))) w) w) w) w) w) w) w) w) w) w) w)) w) w) w) w) w) w))) w) w))
theorem ref09_Forms_s {v0:Value}:Shp p_ 143 [v0] (ref09_Forms v0):=sh_ Tryz.call143 Tryz.func143 (an:={cuts:=[(6,[9])],drs:=[(6,.ofL [(0,1),(1,1),(2,1),(4,3),(5,3),(3,0),(6,0),(7,1),(8,1)]),(7,.ofL [(0,2),(1,3),(2,3),(3,3),(4,3),(5,3),(6,1),(7,1),(11,2),(14,2),(17,3),(8,0),(9,3),(10,3),(12,3),(13,3),(15,3),(16,3),(18,0),(19,1),(20,1),(21,1)]),(8,.ofL [(0,2),(1,3),(2,3),(3,3),(4,3),(5,3),(6,1),(7,1),(11,2),(14,3),(15,3),(19,3),(8,0),(9,3),(10,3),(12,3),(13,3),(16,0),(17,3),(18,3),(20,0),(21,1),(22,1),(23,1)]),(9,.ofL [(0,2),(1,3),(2,3),(3,3),(4,3),(5,3),(6,2),(7,3),(8,3),(9,2),(10,3),(11,3),(12,1),(16,2),(13,0),(14,1),(15,1),(17,1),(18,1)])]}) fun _ _=>by kernel_rfl
def ref09_month (v0 v1:Value)(Kp:PK)(K:Value→WP):WP:=
 opN p_ (sCall (fn 169) []) Kp fun x10=>
 opN p_ (sExt x10 0) Kp fun x11=>
 opN p_ (sExt x10 1) Kp fun x12=>
 opN p_ (sExt x10 2) Kp fun x13=>
 loop1 (fun I1 m1 _ y8=>
 opN p_ (sBin .lss 3 y8 (.int .i64 12)) Kp fun x15=>
 condS x15
 (drS (stS p_ (sBin .add 3 v1 (.int .i64 3)) fun x19=>
 stS p_ (sLen #[9] 3 [v0]) fun x21=>
 stS p_ (sBin .leq 3 x19 x21) fun x22=>
 gdK x22 true (fun k=>k v0) fun x24=>
 gdK x22 true (fun k=>k v1) fun x25=>
 gdK x22 true (fun k=>k v1) fun x26=>
 gdK x22 true (stS p_ (sBin .add 3 x26 (.int .i64 3))) fun x27=>
 gdK x22 true (stS p_ (sSl 9 x24 (some x25) (some x27) none)) fun x28=>
 gdK x22 true (fun k=>k x13) fun x29=>
 gdK x22 true (fun k=>k y8) fun x30=>
 gdK x22 true (stS p_ (sIA 46 x29 x30)) fun x31=>
 gdK x22 true (stS p_ (sLoad 9 x31)) fun x32=>
 gdK x22 true (stS p_ (sEq .eql 9 (.tmp 28) (.tmp 32) x28 x32)) fun x33=>
 stS p_ (sPick x22 x33 (.bool false)) fun x34=>
 condS x34
 (opN p_ (sBin .add 3 y8 (.int .i64 1)) Kp fun x36=>
 K x36)
 (opN p_ (sBin .add 3 y8 (.int .i64 1)) Kp fun x17=>
 next1 I1 m1 x17)))
 (K (.int .i64 0))) (.int .i64 0)
theorem ref09_month_s {v0 v1:Value}:Shp p_ 144 [v0,v1] (ref09_month v0 v1):=sh_ Tryz.call144 Tryz.func144 (an:={loops:=[(3,[8])],drs:=[(5,.ofL [(0,1),(1,1),(2,1),(3,1),(4,1),(5,1),(6,1),(7,1),(8,1),(9,1),(10,1),(11,1),(12,1),(13,1),(14,1),(15,1),(16,1)])]}) fun _ _=>by kernel_rfl
def stringslite_IndexByte (v0 v1:Value)(Kp:PK)(K:Value->WP):WP:=
 opN p_ (sCall (fn 172) [v0,v1]) Kp fun x7=>
 K x7
theorem stringslite_IndexByte_s {v0 v1:Value}:Shp p_ 145 [v0,v1] (stringslite_IndexByte v0 v1):=sh_ Tryz.call145 Tryz.func145 (an:={}) fun _ _=>by kernel_rfl
def strings_Trim (v0 v1:Value)(Kp:PK)(K:Value→WP):WP:=
 opN p_ (sEq .eql 9 (.tmp 7) (.const (.string ⟨#[]⟩)) v0 (.string ⟨#[]⟩)) Kp fun x8=>
 gdK x8 false (fun k=>k v1) fun x10=>
 gdK x8 false (opN p_ (sEq .eql 9 (.tmp 10) (.const (.string ⟨#[]⟩)) x10 (.string ⟨#[]⟩)) Kp) fun x11=>
 opN p_ (sPick x8 (.bool true) x11) Kp fun x12=>
 condS x12
 (K v0)
 (opN p_ (sLen #[9] 3 [v1]) Kp fun x15=>
 opN p_ (sEq .eql 3 (.tmp 15) (.const (.int .i64 1)) x15 (.int .i64 1)) Kp fun x16=>
 gdK x16 true (fun k=>k v1) fun x18=>
 gdK x16 true (opN p_ (sIx 9 x18 (.int .i64 0)) Kp) fun x19=>
 gdK x16 true (opN p_ (sBin .lss 5 x19 (.int .u8 128)) Kp) fun x20=>
 opN p_ (sPick x16 x20 (.bool false)) Kp fun x21=>
 condS x21
 (drS (stS p_ (sIx 9 v1 (.int .i64 0)) fun x24=>
 stD p_ (sIx 9 v1 (.int .i64 0)) fun D5 x27=>
 opN p_ (sCall (fn 174) [v0,x24]) Kp fun x25=>
 (fun w=>D5 w∧(opN p_ (sCall (fn 173) [x25,x27]) Kp fun x28=>
 K x28) w)))
 (opN p_ (sCall (fn 175) [v1]) Kp fun x31=>
 opN p_ (sExt x31 0) Kp fun x32=>
 opN p_ (sExt x31 1) Kp fun x33=>
 opN p_ (sAlloc 225) Kp fun x5=>
 opN p_ (sStore 225 x5 x32) Kp fun _=>
 condS x33
 (opN p_ (sCall (fn 177) [v0,x5]) Kp fun x36=>
 opN p_ (sCall (fn 176) [x36,x5]) Kp fun x37=>
 K x37)
 (opN p_ (sCall (fn 179) [v0,v1]) Kp fun x40=>
 opN p_ (sCall (fn 178) [x40,v1]) Kp fun x42=>
 K x42)))
theorem strings_Trim_s {v0 v1:Value}:Shp p_ 146 [v0,v1] (strings_Trim v0 v1):=sh_ Tryz.call146 Tryz.func146 (an:={drs:=[(4,.ofL [(0,1),(1,1),(2,1),(4,2),(5,3),(3,0),(6,0),(7,1)])]}) fun _ _=>by kernel_rfl
end Go.Proofs.YthomhkpedghhgaaGreatDoor.S
