/- What the loaded program's types are, one fact a line; printed by a program of mine. No conditions. (6 texts made one; each says below what it is.) -/
import Derived.Test.YtndojgomlkpeaaaGreatDoorChecked
import Derived.Test.YtndojgomlkpeaaaGreatDoorK1
import Derived.KernelRfl
import Derived.ChangeArms
import Derived.Test.YtndojgomlkpeaaaGreatDoorRows
set_option linter.unusedVariables false
set_option linter.unusedSimpArgs false
set_option linter.unusedSectionVars false
namespace Go.Proofs.YtndojgomlkpeaaaGreatDoor
namespace T
open Go Go.Proofs Sh Sl
theorem iR {P : Program} {t : TypeId} {fs : Array Field} {f ft o n : Nat} (hu : ∀ w, (underlying t).run P w = .ok (.struct fs) w) (hf : (fs[f]?).map (fun x => (x.type, x.offset)) = some (ft, o)) (hs : ∀ w, (sizeOf ft).run P w = .ok (n + 1) w) : FldT P t f o :=
 ⟨fun g b w => by
  cases h : fs[f]? with
  | none => rw [h] at hf; cases hf
  | some fl =>
   rw [h] at hf
   simp only [Option.map_some, Option.some.injEq, Prod.mk.injEq] at hf
   obtain ⟨rfl, rfl⟩ := hf
   simp only [Instr.fieldAt, Sem.run_bind, hu, Result.andThen_ok, h, Instr.sureAddr, fieldPlace, hs, Sem.run_pure]
   by_cases h0 : fl.offset = 0 <;> simp [Addr.add, h0]⟩
theorem HJ {P:Program}{t e:TypeId}{i:TypeInfo}{z:Value}{s b:Nat}(hu:P.underlying t=some (.slice e))(hi:P.info? e=some i)(hz:i.zero=some z)(hs:i.size=s)(hb:i.bytes=b)(hzs:z.cells.size=s):SlT P t e s b:=⟨hu,i,z,hi,hz,hs,hb,hzs⟩
instance U8:IntT p_ 2 .i64:=⟨Tryz.runUnderlying2⟩
instance U9:OneT p_ 3:=⟨Tryz.isAgg3,Tryz.sizeOf3⟩
instance T6:ZeroT p_ 3 (.int .i64 0):=⟨Tryz.zeroValue3⟩
instance U_:IntT p_ 3 .i64:=⟨Tryz.runUnderlying3⟩
instance Va:OneT p_ 4:=⟨Tryz.isAgg4,Tryz.sizeOf4⟩
instance T7:ZeroT p_ 4 (.bool false):=⟨Tryz.zeroValue4⟩
instance Vb:OneT p_ 5:=⟨Tryz.isAgg5,Tryz.sizeOf5⟩
instance Vc:IntT p_ 5 .u8:=⟨Tryz.runUnderlying5⟩
instance Vd:OneT p_ 9:=⟨Tryz.isAgg9,Tryz.sizeOf9⟩
instance Ve:StrT p_ 9:=⟨Tryz.underlying9⟩
instance T8:OneT p_ 22:=⟨Tryz.isAgg22,Tryz.sizeOf22⟩
instance Vf:SlT p_ 22 52 2 32:=HJ (z:=(.agg #[(.string ⟨#[]⟩),(.string ⟨#[]⟩)])) Tryz.underlying22 (i:=Tryz.t52) (by kernel_rfl) (by kernel_rfl) (by kernel_rfl) (by kernel_rfl) (by kernel_rfl)
instance T9:OneT p_ 23:=⟨Tryz.isAgg23,Tryz.sizeOf23⟩
instance SN:ZeroT p_ 23 (.slice none 0 0):=⟨Tryz.zeroValue23⟩
instance Q0:BytesT p_ 23:=⟨_,Tryz.underlying23,Tryz.underlying5⟩
instance Vg:SlT p_ 23 5 1 1:=HJ (z:=(.int .u8 0)) Tryz.underlying23 (i:=Tryz.t5) (by kernel_rfl) (by kernel_rfl) (by kernel_rfl) (by kernel_rfl) (by kernel_rfl)
instance SO:ZeroT p_ 25 (.agg #[(.int .i64 0),(.slice none 0 0),(.slice none 0 0)]):=⟨Tryz.zeroValue25⟩
instance T_:AggT p_ 25 3:=⟨Tryz.isAgg25,Tryz.sizeOf25⟩
instance Q1:FldT p_ 25 0 0:=iR Tryz.runUnderlying25 (ft:=3) (by kernel_rfl) Tryz.sizeOf3
instance Q2:FldT p_ 25 1 1:=iR Tryz.runUnderlying25 (ft:=22) (by kernel_rfl) Tryz.sizeOf22
instance Q3:FldT p_ 25 2 2:=iR Tryz.runUnderlying25 (ft:=23) (by kernel_rfl) Tryz.sizeOf23
instance Ua:OneT p_ 27:=⟨Tryz.isAgg27,Tryz.sizeOf27⟩
instance SP:ZeroT p_ 27 (.int .i64 0):=⟨Tryz.zeroValue27⟩
instance Ub:IntT p_ 27 .i64:=⟨Tryz.runUnderlying27⟩
instance Uc:OneT p_ 34:=⟨Tryz.isAgg34,Tryz.sizeOf34⟩
instance Vh:SlT p_ 36 9 1 16:=HJ (z:=(.string ⟨#[]⟩)) Tryz.underlying36 (i:=Tryz.t9) (by kernel_rfl) (by kernel_rfl) (by kernel_rfl) (by kernel_rfl) (by kernel_rfl)
instance SQ:ZeroT p_ 48 (.agg #[(.bool false),(.string ⟨#[]⟩)]):=⟨Tryz.zeroValue48⟩
instance Ud:AggT p_ 48 2:=⟨Tryz.isAgg48,Tryz.sizeOf48⟩
instance Q4:FldT p_ 48 0 0:=iR Tryz.runUnderlying48 (ft:=4) (by kernel_rfl) Tryz.sizeOf4
instance Q5:FldT p_ 48 1 1:=iR Tryz.runUnderlying48 (ft:=9) (by kernel_rfl) Tryz.sizeOf9
instance SS:ZeroT p_ 52 (.agg #[(.string ⟨#[]⟩),(.string ⟨#[]⟩)]):=⟨Tryz.zeroValue52⟩
instance Ue:AggT p_ 52 2:=⟨Tryz.isAgg52,Tryz.sizeOf52⟩
instance Q6:FldT p_ 52 0 0:=iR Tryz.runUnderlying52 (ft:=9) (by kernel_rfl) Tryz.sizeOf9
instance Q7:FldT p_ 52 1 1:=iR Tryz.runUnderlying52 (ft:=9) (by kernel_rfl) Tryz.sizeOf9
instance ST:ZeroT p_ 61 (.agg #[.nilFunc,.nilFunc,.nilFunc,.nilFunc]):=⟨Tryz.zeroValue61⟩
instance Uf:AggT p_ 61 4:=⟨Tryz.isAgg61,Tryz.sizeOf61⟩
instance Ug:ArrT p_ 61 4 34 1:=⟨Tryz.runUnderlying61,Tryz.sizeOf34⟩
instance Uh:OneT p_ 62:=⟨Tryz.isAgg62,Tryz.sizeOf62⟩
instance SU:ZeroT p_ 62 (.slice none 0 0):=⟨Tryz.zeroValue62⟩
instance Vi:SlT p_ 62 67 2 24:=HJ (z:=(.agg #[(.string ⟨#[]⟩),(.int .i64 0)])) Tryz.underlying62 (i:=Tryz.t67) (by kernel_rfl) (by kernel_rfl) (by kernel_rfl) (by kernel_rfl) (by kernel_rfl)
instance Ui:OneT p_ 65:=⟨Tryz.isAgg65,Tryz.sizeOf65⟩
instance SV:ZeroT p_ 65 (.map none):=⟨Tryz.zeroValue65⟩
instance Uj:MapT p_ 65 9 3:=⟨Tryz.underlying65⟩
instance SW:ZeroT p_ 67 (.agg #[(.string ⟨#[]⟩),(.int .i64 0)]):=⟨Tryz.zeroValue67⟩
instance Uk:AggT p_ 67 2:=⟨Tryz.isAgg67,Tryz.sizeOf67⟩
instance Q8:FldT p_ 67 0 0:=iR Tryz.runUnderlying67 (ft:=9) (by kernel_rfl) Tryz.sizeOf9
instance Q9:FldT p_ 67 1 1:=iR Tryz.runUnderlying67 (ft:=3) (by kernel_rfl) Tryz.sizeOf3
instance Ul:ArrT p_ 69 2 9 1:=⟨Tryz.runUnderlying69,Tryz.sizeOf9⟩
instance Um:OneT p_ 74:=⟨Tryz.isAgg74,Tryz.sizeOf74⟩
instance SX:ZeroT p_ 74 (.slice none 0 0):=⟨Tryz.zeroValue74⟩
instance Vj:SlT p_ 74 78 3 40:=HJ (z:=(.agg #[(.string ⟨#[]⟩),(.string ⟨#[]⟩),(.bool false)])) Tryz.underlying74 (i:=Tryz.t78) (by kernel_rfl) (by kernel_rfl) (by kernel_rfl) (by kernel_rfl) (by kernel_rfl)
instance SY:ZeroT p_ 78 (.agg #[(.string ⟨#[]⟩),(.string ⟨#[]⟩),(.bool false)]):=⟨Tryz.zeroValue78⟩
instance Uo:AggT p_ 78 3:=⟨Tryz.isAgg78,Tryz.sizeOf78⟩
instance Q_:FldT p_ 78 0 0:=iR Tryz.runUnderlying78 (ft:=9) (by kernel_rfl) Tryz.sizeOf9
instance Ra:FldT p_ 78 1 1:=iR Tryz.runUnderlying78 (ft:=9) (by kernel_rfl) Tryz.sizeOf9
instance Rb:FldT p_ 78 2 2:=iR Tryz.runUnderlying78 (ft:=4) (by kernel_rfl) Tryz.sizeOf4
instance Uq:OneT p_ 94:=⟨Tryz.isAgg94,Tryz.sizeOf94⟩
instance Us:AggT p_ 96 3:=⟨Tryz.isAgg96,Tryz.sizeOf96⟩
instance Rc:FldT p_ 96 0 0:=iR Tryz.runUnderlying96 (ft:=4) (by kernel_rfl) Tryz.sizeOf4
instance Rd:FldT p_ 96 1 1:=iR Tryz.runUnderlying96 (ft:=4) (by kernel_rfl) Tryz.sizeOf4
instance Re:FldT p_ 96 2 2:=iR Tryz.runUnderlying96 (ft:=94) (by kernel_rfl) Tryz.sizeOf94
instance Ut:AggT p_ 97 256:=⟨Tryz.isAgg97,Tryz.sizeOf97⟩
instance Uu:ArrT p_ 97 256 3 1:=⟨Tryz.runUnderlying97,Tryz.sizeOf3⟩
instance SZ:OneT p_ 101:=⟨Tryz.isAgg101,Tryz.sizeOf101⟩
instance S0:AggT p_ 103 3:=⟨Tryz.isAgg103,Tryz.sizeOf103⟩
instance P9:FldT p_ 103 0 0:=iR Tryz.runUnderlying103 (ft:=4) (by kernel_rfl) Tryz.sizeOf4
instance P_:FldT p_ 103 1 1:=iR Tryz.runUnderlying103 (ft:=4) (by kernel_rfl) Tryz.sizeOf4
instance Qa:FldT p_ 103 2 2:=iR Tryz.runUnderlying103 (ft:=101) (by kernel_rfl) Tryz.sizeOf101
instance S1:OneT p_ 105:=⟨Tryz.isAgg105,Tryz.sizeOf105⟩
instance Qb:FldT p_ 107 0 0:=iR Tryz.runUnderlying107 (ft:=23) (by kernel_rfl) Tryz.sizeOf23
instance S2:OneT p_ 112:=⟨Tryz.isAgg112,Tryz.sizeOf112⟩
instance S3:IntT p_ 112 .u32:=⟨Tryz.runUnderlying112⟩
instance Rf:ZeroT p_ 121 (.agg #[(.pointer none),(.slice none 0 0)]):=⟨Tryz.zeroValue121⟩
instance Qc:FldT p_ 121 1 1:=iR Tryz.runUnderlying121 (ft:=23) (by kernel_rfl) Tryz.sizeOf23
instance S4:OneT p_ 124:=⟨Tryz.isAgg124,Tryz.sizeOf124⟩
instance S5:AggT p_ 135 256:=⟨Tryz.isAgg135,Tryz.sizeOf135⟩
instance S6:ArrT p_ 135 256 4 1:=⟨Tryz.runUnderlying135,Tryz.sizeOf4⟩
instance Rg:ZeroT p_ 142 (.agg #[(.int .u8 0),(.int .u8 0),(.int .u8 0)]):=⟨Tryz.zeroValue142⟩
instance S7:AggT p_ 142 3:=⟨Tryz.isAgg142,Tryz.sizeOf142⟩
instance S8:ArrT p_ 142 3 5 1:=⟨Tryz.runUnderlying142,Tryz.sizeOf5⟩
instance Rh:ZeroT p_ 144 (.agg #[(.int .i64 0),.nilFunc]):=⟨Tryz.zeroValue144⟩
instance S9:AggT p_ 144 2:=⟨Tryz.isAgg144,Tryz.sizeOf144⟩
instance Qd:FldT p_ 144 0 0:=iR Tryz.runUnderlying144 (ft:=3) (by kernel_rfl) Tryz.sizeOf3
instance Ri:ZeroT p_ 145 (.agg #[(.int .i64 0),.nilFunc,(.int .i64 0),.nilFunc,(.int .i64 0),.nilFunc]):=⟨Tryz.zeroValue145⟩
instance S_:AggT p_ 145 6:=⟨Tryz.isAgg145,Tryz.sizeOf145⟩
instance Ta:ArrT p_ 145 3 144 2:=⟨Tryz.runUnderlying145,Tryz.sizeOf144⟩
instance Tb:OneT p_ 146:=⟨Tryz.isAgg146,Tryz.sizeOf146⟩
instance Rj:ZeroT p_ 146 (.slice none 0 0):=⟨Tryz.zeroValue146⟩
instance Uv:SlT p_ 146 188 2 16:=HJ (z:=(.agg #[(.int .i64 0),(.int .i64 0)])) Tryz.underlying146 (i:=Tryz.t188) (by kernel_rfl) (by kernel_rfl) (by kernel_rfl) (by kernel_rfl) (by kernel_rfl)
instance Tc:IntT p_ 149 .u64:=⟨Tryz.runUnderlying149⟩
instance Te:OneT p_ 156:=⟨Tryz.isAgg156,Tryz.sizeOf156⟩
instance Tf:PtrT p_ 156:=⟨by kernel_rfl⟩
instance Tg:OneT p_ 158:=⟨Tryz.isAgg158,Tryz.sizeOf158⟩
instance Rk:ZeroT p_ 158 (.slice none 0 0):=⟨Tryz.zeroValue158⟩
instance Uw:SlT p_ 158 162 3 56:=HJ (z:=(.agg #[(.slice none 0 0),(.slice none 0 0),(.int .i64 0)])) Tryz.underlying158 (i:=Tryz.t162) (by kernel_rfl) (by kernel_rfl) (by kernel_rfl) (by kernel_rfl) (by kernel_rfl)
instance Th:OneT p_ 160:=⟨Tryz.isAgg160,Tryz.sizeOf160⟩
instance Rl:ZeroT p_ 160 (.slice none 0 0):=⟨Tryz.zeroValue160⟩
instance Ux:SlT p_ 160 209 3 24:=HJ (z:=(.agg #[(.int .i64 0),(.int .i64 0),(.int .u8 0)])) Tryz.underlying160 (i:=Tryz.t209) (by kernel_rfl) (by kernel_rfl) (by kernel_rfl) (by kernel_rfl) (by kernel_rfl)
instance Rm:ZeroT p_ 162 (.agg #[(.slice none 0 0),(.slice none 0 0),(.int .i64 0)]):=⟨Tryz.zeroValue162⟩
instance Ti:AggT p_ 162 3:=⟨Tryz.isAgg162,Tryz.sizeOf162⟩
instance Qe:FldT p_ 162 0 0:=iR Tryz.runUnderlying162 (ft:=160) (by kernel_rfl) Tryz.sizeOf160
instance Qf:FldT p_ 162 1 1:=iR Tryz.runUnderlying162 (ft:=23) (by kernel_rfl) Tryz.sizeOf23
instance Qg:FldT p_ 162 2 2:=iR Tryz.runUnderlying162 (ft:=3) (by kernel_rfl) Tryz.sizeOf3
instance Rn:ZeroT p_ 169 (.agg #[(.int .u8 0),(.int .u8 0),(.int .u8 0),(.int .u8 0),(.int .u8 0),(.int .u8 0),(.int .u8 0),(.int .u8 0),(.int .u8 0),(.int .u8 0),(.int .u8 0),(.int .u8 0),(.int .u8 0),(.int .u8 0),(.int .u8 0),(.int .u8 0),(.int .u8 0),(.int .u8 0),(.int .u8 0),(.int .u8 0),(.int .u8 0),(.int .u8 0),(.int .u8 0),(.int .u8 0)]):=⟨Tryz.zeroValue169⟩
instance Tj:ArrT p_ 169 24 5 1:=⟨Tryz.runUnderlying169,Tryz.sizeOf5⟩
instance Tk:OneT p_ 170:=⟨Tryz.isAgg170,Tryz.sizeOf170⟩
instance Tl:IntT p_ 170 .u64:=⟨Tryz.runUnderlying170⟩
instance Tm:OneT p_ 181:=⟨Tryz.isAgg181,Tryz.sizeOf181⟩
instance Tn:PtrT p_ 181:=⟨by kernel_rfl⟩
instance Qh:FldT p_ 184 0 0:=iR Tryz.runUnderlying184 (ft:=181) (by kernel_rfl) Tryz.sizeOf181
instance Qi:FldT p_ 184 1 1:=iR Tryz.runUnderlying184 (ft:=23) (by kernel_rfl) Tryz.sizeOf23
instance Qj:FldT p_ 184 2 2:=iR Tryz.runUnderlying184 (ft:=3) (by kernel_rfl) Tryz.sizeOf3
instance To:OneT p_ 185:=⟨Tryz.isAgg185,Tryz.sizeOf185⟩
instance Ro:ZeroT p_ 186 (.agg #[.nilFunc,.nilFunc,.nilFunc,.nilFunc]):=⟨Tryz.zeroValue186⟩
instance Tp:AggT p_ 186 4:=⟨Tryz.isAgg186,Tryz.sizeOf186⟩
instance Tq:ArrT p_ 186 4 185 1:=⟨Tryz.runUnderlying186,Tryz.sizeOf185⟩
instance Tr:AggT p_ 190 256:=⟨Tryz.isAgg190,Tryz.sizeOf190⟩
instance Ts:ArrT p_ 190 256 112 1:=⟨Tryz.runUnderlying190,Tryz.sizeOf112⟩
instance Tt:OneT p_ 197:=⟨Tryz.isAgg197,Tryz.sizeOf197⟩
instance Rq:ZeroT p_ 197 (.slice none 0 0):=⟨Tryz.zeroValue197⟩
instance Uy:SlT p_ 197 3 1 8:=HJ (z:=(.int .i64 0)) Tryz.underlying197 (i:=Tryz.t3) (by kernel_rfl) (by kernel_rfl) (by kernel_rfl) (by kernel_rfl) (by kernel_rfl)
instance Qk:FldT p_ 205 0 0:=iR Tryz.runUnderlying205 (ft:=23) (by kernel_rfl) Tryz.sizeOf23
instance Ql:FldT p_ 205 1 1:=iR Tryz.runUnderlying205 (ft:=3) (by kernel_rfl) Tryz.sizeOf3
instance Qn:FldT p_ 205 2 2:=iR Tryz.runUnderlying205 (ft:=4) (by kernel_rfl) Tryz.sizeOf4
instance Rr:ZeroT p_ 209 (.agg #[(.int .i64 0),(.int .i64 0),(.int .u8 0)]):=⟨Tryz.zeroValue209⟩
instance Tu:AggT p_ 209 3:=⟨Tryz.isAgg209,Tryz.sizeOf209⟩
instance Qo:FldT p_ 209 0 0:=iR Tryz.runUnderlying209 (ft:=3) (by kernel_rfl) Tryz.sizeOf3
instance Qp:FldT p_ 209 1 1:=iR Tryz.runUnderlying209 (ft:=3) (by kernel_rfl) Tryz.sizeOf3
instance Qq:FldT p_ 209 2 2:=iR Tryz.runUnderlying209 (ft:=5) (by kernel_rfl) Tryz.sizeOf5
instance Tv:OneT p_ 210:=⟨Tryz.isAgg210,Tryz.sizeOf210⟩
instance Rs:ZeroT p_ 212 (.agg #[.nilFunc,.nilFunc,.nilFunc]):=⟨Tryz.zeroValue212⟩
instance Tw:AggT p_ 212 3:=⟨Tryz.isAgg212,Tryz.sizeOf212⟩
instance Tx:ArrT p_ 212 3 210 1:=⟨Tryz.runUnderlying212,Tryz.sizeOf210⟩
instance Uz:SlT p_ 214 210 1 8:=HJ (z:= .nilFunc) Tryz.underlying214 (i:=Tryz.t210) (by kernel_rfl) (by kernel_rfl) (by kernel_rfl) (by kernel_rfl) (by kernel_rfl)
instance Ty:ArrT p_ 220 20 170 1:=⟨Tryz.runUnderlying220,Tryz.sizeOf170⟩
instance Qr:FldT p_ 227 0 0:=iR Tryz.runUnderlying227 (ft:=23) (by kernel_rfl) Tryz.sizeOf23
instance Qt:FldT p_ 227 1 1:=iR Tryz.runUnderlying227 (ft:=3) (by kernel_rfl) Tryz.sizeOf3
instance Qu:FldT p_ 229 0 0:=iR Tryz.runUnderlying229 (ft:=227) (by kernel_rfl) Tryz.sizeOf227
instance Qv:FldT p_ 229 1 2:=iR Tryz.runUnderlying229 (ft:=4) (by kernel_rfl) Tryz.sizeOf4
instance Tz:PtrT p_ 234:=⟨by kernel_rfl⟩
instance Rt:ZeroT p_ 236 (.agg #[(.int .i64 0),(.int .i64 0),(.int .i64 0),(.int .i64 0),(.int .i64 0),(.int .i64 0),(.int .i64 0),(.int .i64 0),(.int .i64 0),(.int .i64 0),(.int .i64 0),(.int .i64 0),(.int .i64 0),(.int .i64 0),(.int .i64 0),(.int .i64 0),(.int .i64 0),(.int .i64 0),(.int .i64 0)]):=⟨Tryz.zeroValue236⟩
instance TA:AggT p_ 236 19:=⟨Tryz.isAgg236,Tryz.sizeOf236⟩
instance TB:ArrT p_ 236 19 3 1:=⟨Tryz.runUnderlying236,Tryz.sizeOf3⟩
instance TC:OneT p_ 250:=⟨Tryz.isAgg250,Tryz.sizeOf250⟩
instance TD:OneT p_ 251:=⟨Tryz.isAgg251,Tryz.sizeOf251⟩
instance TE:MapT p_ 251 142 197:=⟨Tryz.underlying251⟩
instance Qw:FldT p_ 253 0 0:=iR Tryz.runUnderlying253 (ft:=23) (by kernel_rfl) Tryz.sizeOf23
instance Qx:FldT p_ 253 1 1:=iR Tryz.runUnderlying253 (ft:=251) (by kernel_rfl) Tryz.sizeOf251
instance Qy:FldT p_ 253 2 2:=iR Tryz.runUnderlying253 (ft:=3) (by kernel_rfl) Tryz.sizeOf3
instance Qz:FldT p_ 253 3 3:=iR Tryz.runUnderlying253 (ft:=3) (by kernel_rfl) Tryz.sizeOf3
instance QA:FldT p_ 253 4 4:=iR Tryz.runUnderlying253 (ft:=3) (by kernel_rfl) Tryz.sizeOf3
instance Ru:ZeroT p_ 258 (.agg #[(.slice none 0 0),(.slice none 0 0)]):=⟨Tryz.zeroValue258⟩
instance TF:AggT p_ 258 2:=⟨Tryz.isAgg258,Tryz.sizeOf258⟩
instance QB:FldT p_ 258 0 0:=iR Tryz.runUnderlying258 (ft:=197) (by kernel_rfl) Tryz.sizeOf197
instance QC:FldT p_ 258 1 1:=iR Tryz.runUnderlying258 (ft:=197) (by kernel_rfl) Tryz.sizeOf197
instance Rv:ZeroT p_ 266 (.agg #[(.int .u8 0),(.int .u8 0),(.int .u8 0),(.int .u8 0),(.int .u8 0),(.int .u8 0),(.int .u8 0),(.int .u8 0)]):=⟨Tryz.zeroValue266⟩
instance TG:AggT p_ 266 8:=⟨Tryz.isAgg266,Tryz.sizeOf266⟩
instance TH:ArrT p_ 266 8 5 1:=⟨Tryz.runUnderlying266,Tryz.sizeOf5⟩
instance Rw:ZeroT p_ 280 (.agg #[(.int .i64 0),(.int .i64 0),(.int .i64 0),(.int .i64 0),(.int .i64 0),(.int .i64 0),(.int .i64 0),(.int .i64 0),(.int .i64 0),(.int .i64 0),(.int .i64 0),(.int .i64 0),(.int .i64 0),(.int .i64 0),(.int .i64 0),(.int .i64 0)]):=⟨Tryz.zeroValue280⟩
instance TI:AggT p_ 280 16:=⟨Tryz.isAgg280,Tryz.sizeOf280⟩
instance TJ:ArrT p_ 280 16 3 1:=⟨Tryz.runUnderlying280,Tryz.sizeOf3⟩
instance Rx:ZeroT p_ 299 (.agg #[(.slice none 0 0),(.slice none 0 0)]):=⟨Tryz.zeroValue299⟩
instance TK:AggT p_ 299 2:=⟨Tryz.isAgg299,Tryz.sizeOf299⟩
instance TL:ArrT p_ 299 2 197 1:=⟨Tryz.runUnderlying299,Tryz.sizeOf197⟩
instance Ry:ZeroT p_ 306 (.agg #[(.int .i64 0),(.int .i64 0),(.int .i64 0)]):=⟨Tryz.zeroValue306⟩
instance TM:AggT p_ 306 3:=⟨Tryz.isAgg306,Tryz.sizeOf306⟩
instance QD:FldT p_ 306 0 0:=iR Tryz.runUnderlying306 (ft:=3) (by kernel_rfl) Tryz.sizeOf3
instance QE:FldT p_ 306 1 1:=iR Tryz.runUnderlying306 (ft:=3) (by kernel_rfl) Tryz.sizeOf3
instance QF:FldT p_ 306 2 2:=iR Tryz.runUnderlying306 (ft:=3) (by kernel_rfl) Tryz.sizeOf3
instance TN:OneT p_ 311:=⟨Tryz.isAgg311,Tryz.sizeOf311⟩
instance TO:MapT p_ 311 315 3:=⟨Tryz.underlying311⟩
instance QG:FldT p_ 313 0 0:=iR Tryz.runUnderlying313 (ft:=311) (by kernel_rfl) Tryz.sizeOf311
instance Rz:ZeroT p_ 315 (.agg #[(.int .i64 0),(.int .i64 0)]):=⟨Tryz.zeroValue315⟩
instance TP:AggT p_ 315 2:=⟨Tryz.isAgg315,Tryz.sizeOf315⟩
instance QH:FldT p_ 315 0 0:=iR Tryz.runUnderlying315 (ft:=3) (by kernel_rfl) Tryz.sizeOf3
instance QI:FldT p_ 315 1 1:=iR Tryz.runUnderlying315 (ft:=3) (by kernel_rfl) Tryz.sizeOf3
instance UA:SlT p_ 317 319 2 32:=HJ (z:=(.agg #[(.int .i64 0),(.slice none 0 0)])) Tryz.underlying317 (i:=Tryz.t319) (by kernel_rfl) (by kernel_rfl) (by kernel_rfl) (by kernel_rfl) (by kernel_rfl)
instance TQ:AggT p_ 319 2:=⟨Tryz.isAgg319,Tryz.sizeOf319⟩
instance QJ:FldT p_ 319 0 0:=iR Tryz.runUnderlying319 (ft:=3) (by kernel_rfl) Tryz.sizeOf3
instance QK:FldT p_ 319 1 1:=iR Tryz.runUnderlying319 (ft:=197) (by kernel_rfl) Tryz.sizeOf197
instance TR:IntT p_ 325 .i64:=⟨Tryz.runUnderlying325⟩
instance UB:SlT p_ 331 197 1 24:=HJ (z:=(.slice none 0 0)) Tryz.underlying331 (i:=Tryz.t197) (by kernel_rfl) (by kernel_rfl) (by kernel_rfl) (by kernel_rfl) (by kernel_rfl)
instance Oj {a0 a1:Value}[h0:OC a0][h1:OC a1]:RV p_ (az 52 [(0,a0),(1,a1)]) (.agg #[a0,a1]):=⟨fun W w _=>by
 have c0:=ao h0.one;have c1:=ao h1.one;simp[az,Instr.build,Tryz.zeroValue52,Tryz.runUnderlying52,Tryz.sizeOf9,bk,Instr.fill,c0,c1]⟩
instance Lo {a0 a1 a2:Value}[h0:OC a0][h1:OC a1][h2:OC a2]:RV p_ (az 25 [(0,a0),(1,a1),(2,a2)]) (.agg #[a0,a1,a2]):=⟨fun W w _=>by
 have c0:=ao h0.one;have c1:=ao h1.one;have c2:=ao h2.one;simp[az,Instr.build,Tryz.zeroValue25,Tryz.runUnderlying25,Tryz.sizeOf3,Tryz.sizeOf22,Tryz.sizeOf23,bk,Instr.fill,c0,c1,c2]⟩
instance Im {a0 a1 a2 a3:Value}[h0:OC a0][h1:OC a1][h2:OC a2][h3:OC a3]:RV p_ (az 61 [(0,a0),(1,a1),(2,a2),(3,a3)]) (.agg #[a0,a1,a2,a3]):=⟨fun W w _=>by
 have c0:=ao h0.one;have c1:=ao h1.one;have c2:=ao h2.one;have c3:=ao h3.one;simp[az,Instr.build,Tryz.zeroValue61,Tryz.runUnderlying61,Tryz.sizeOf34,bk,Instr.fill,c0,c1,c2,c3]⟩
instance Ol {a0 a1:Value}[h0:OC a0][h1:OC a1]:RV p_ (az 69 [(0,a0),(1,a1)]) (.agg #[a0,a1]):=⟨fun W w _=>by
 have c0:=ao h0.one;have c1:=ao h1.one;simp[az,Instr.build,Tryz.zeroValue69,Tryz.runUnderlying69,Tryz.sizeOf9,bk,Instr.fill,c0,c1]⟩
instance TS  :RV p_ (az 48 []) (.agg #[(.bool false),(.string ⟨#[]⟩)]):=⟨fun W w _=>by
   simp[az,Instr.build,Tryz.zeroValue48,Tryz.runUnderlying48,Tryz.sizeOf4,Tryz.sizeOf9,bk,Instr.fill]⟩
instance RA {a0:Value}[h0:OC a0]:RV p_ (az 96 [(2,a0)]) (.agg #[(.bool false),(.bool false),a0]):=⟨fun W w _=>by
 have c0:=ao h0.one;simp[az,Instr.build,Tryz.zeroValue96,Tryz.runUnderlying96,Tryz.sizeOf4,Tryz.sizeOf94,bk,Instr.fill,c0]⟩
instance KP {a0 a1 a2:Value}[h0:OC a0][h1:OC a1][h2:OC a2]:RV p_ (az 103 [(0,a0),(1,a1),(2,a2)]) (.agg #[a0,a1,a2]):=⟨fun W w _=>by
 have c0:=ao h0.one;have c1:=ao h1.one;have c2:=ao h2.one;simp[az,Instr.build,Tryz.zeroValue103,Tryz.runUnderlying103,Tryz.sizeOf4,Tryz.sizeOf101,bk,Instr.fill,c0,c1,c2]⟩
instance Om {a0 a1:Value}[h0:OC a0][h1:OC a1]:RV p_ (az 48 [(0,a0),(1,a1)]) (.agg #[a0,a1]):=⟨fun W w _=>by
 have c0:=ao h0.one;have c1:=ao h1.one;simp[az,Instr.build,Tryz.zeroValue48,Tryz.runUnderlying48,Tryz.sizeOf4,Tryz.sizeOf9,bk,Instr.fill,c0,c1]⟩
instance QL {a0:Value}[h0:OC a0]:RV p_ (az 107 [(0,a0)]) (.agg #[a0]):=⟨fun W w _=>by
 have c0:=ao h0.one;simp[az,Instr.build,Tryz.zeroValue107,Tryz.runUnderlying107,Tryz.sizeOf23,bk,Instr.fill,c0]⟩
instance On {a0 a1:Value}[h0:OC a0][h1:OC a1]:RV p_ (az 67 [(0,a0),(1,a1)]) (.agg #[a0,a1]):=⟨fun W w _=>by
 have c0:=ao h0.one;have c1:=ao h1.one;simp[az,Instr.build,Tryz.zeroValue67,Tryz.runUnderlying67,Tryz.sizeOf3,Tryz.sizeOf9,bk,Instr.fill,c0,c1]⟩
instance TT  :RV p_ (az 67 []) (.agg #[(.string ⟨#[]⟩),(.int .i64 0)]):=⟨fun W w _=>by
   simp[az,Instr.build,Tryz.zeroValue67,Tryz.runUnderlying67,Tryz.sizeOf3,Tryz.sizeOf9,bk,Instr.fill]⟩
instance KQ {a0 a1 a2:Value}[h0:OC a0][h1:OC a1][h2:OC a2]:RV p_ (az 142 [(0,a0),(1,a1),(2,a2)]) (.agg #[a0,a1,a2]):=⟨fun W w _=>by
 have c0:=ao h0.one;have c1:=ao h1.one;have c2:=ao h2.one;simp[az,Instr.build,Tryz.zeroValue142,Tryz.runUnderlying142,Tryz.sizeOf5,bk,Instr.fill,c0,c1,c2]⟩
instance No {a0 a1:Value}[h0:OC a0][h1:OC a1]:RV p_ (az 144 [(0,a0),(1,a1)]) (.agg #[a0,a1]):=⟨fun W w _=>by
 have c0:=ao h0.one;have c1:=ao h1.one;simp[az,Instr.build,Tryz.zeroValue144,Tryz.runUnderlying144,Tryz.sizeOf1,Tryz.sizeOf3,bk,Instr.fill,c0,c1]⟩
instance KR {a0_0 a0_1 a1_0 a1_1 a2_0 a2_1:Value}  :RV p_ (az 145 [(0,.agg #[a0_0,a0_1]),(1,.agg #[a1_0,a1_1]),(2,.agg #[a2_0,a2_1])]) (.agg #[a0_0,a0_1,a1_0,a1_1,a2_0,a2_1]):=⟨fun W w _=>by
   simp[az,Instr.build,Tryz.zeroValue145,Tryz.runUnderlying145,Tryz.sizeOf144,bk,Instr.fill]⟩
instance Np {a0 a1:Value}[h0:OC a0][h1:OC a1]:RV p_ (az 184 [(0,a0),(2,a1)]) (.agg #[a0,(.slice none 0 0),a1]):=⟨fun W w _=>by
 have c0:=ao h0.one;have c1:=ao h1.one;simp[az,Instr.build,Tryz.zeroValue184,Tryz.runUnderlying184,Tryz.sizeOf3,Tryz.sizeOf23,Tryz.sizeOf181,bk,Instr.fill,c0,c1]⟩
instance HK {a0 a1 a2 a3:Value}[h0:OC a0][h1:OC a1][h2:OC a2][h3:OC a3]:RV p_ (az 186 [(0,a0),(1,a1),(2,a2),(3,a3)]) (.agg #[a0,a1,a2,a3]):=⟨fun W w _=>by
 have c0:=ao h0.one;have c1:=ao h1.one;have c2:=ao h2.one;have c3:=ao h3.one;simp[az,Instr.build,Tryz.zeroValue186,Tryz.runUnderlying186,Tryz.sizeOf185,bk,Instr.fill,c0,c1,c2,c3]⟩
instance Nq {a0 a1:Value}[h0:OC a0][h1:OC a1]:RV p_ (az 188 [(0,a0),(1,a1)]) (.agg #[a0,a1]):=⟨fun W w _=>by
 have c0:=ao h0.one;have c1:=ao h1.one;simp[az,Instr.build,Tryz.zeroValue188,Tryz.runUnderlying188,Tryz.sizeOf3,bk,Instr.fill,c0,c1]⟩
instance QM {a0:Value}[h0:OC a0]:RV p_ (az 205 [(2,a0)]) (.agg #[(.slice none 0 0),(.int .i64 0),a0]):=⟨fun W w _=>by
 have c0:=ao h0.one;simp[az,Instr.build,Tryz.zeroValue205,Tryz.runUnderlying205,Tryz.sizeOf3,Tryz.sizeOf4,Tryz.sizeOf23,bk,Instr.fill,c0]⟩
instance QN {a0:Value}[h0:OC a0]:RV p_ (az 209 [(2,a0)]) (.agg #[(.int .i64 0),(.int .i64 0),a0]):=⟨fun W w _=>by
 have c0:=ao h0.one;simp[az,Instr.build,Tryz.zeroValue209,Tryz.runUnderlying209,Tryz.sizeOf3,Tryz.sizeOf5,bk,Instr.fill,c0]⟩
instance KS {a0 a1 a2:Value}[h0:OC a0][h1:OC a1][h2:OC a2]:RV p_ (az 212 [(0,a0),(1,a1),(2,a2)]) (.agg #[a0,a1,a2]):=⟨fun W w _=>by
 have c0:=ao h0.one;have c1:=ao h1.one;have c2:=ao h2.one;simp[az,Instr.build,Tryz.zeroValue212,Tryz.runUnderlying212,Tryz.sizeOf210,bk,Instr.fill,c0,c1,c2]⟩
instance Nr {a0 a1:Value}[h0:OC a0][h1:OC a1]:RV p_ (az 227 [(0,a0),(1,a1)]) (.agg #[a0,a1]):=⟨fun W w _=>by
 have c0:=ao h0.one;have c1:=ao h1.one;simp[az,Instr.build,Tryz.zeroValue227,Tryz.runUnderlying227,Tryz.sizeOf3,Tryz.sizeOf23,bk,Instr.fill,c0,c1]⟩
instance Ns {a0_0 a0_1 a1:Value}[h1:OC a1]:RV p_ (az 229 [(0,.agg #[a0_0,a0_1]),(1,a1)]) (.agg #[a0_0,a0_1,a1]):=⟨fun W w _=>by
 have c1:=ao h1.one;simp[az,Instr.build,Tryz.zeroValue229,Tryz.runUnderlying229,Tryz.sizeOf4,Tryz.sizeOf227,bk,Instr.fill,c1]⟩
instance iV {a0 a1 a2 a3 a4 a5 a6 a7 a8 a9 a10 a11 a12 a13 a14 a15 a16 a17 a18:Value}[h0:OC a0][h1:OC a1][h2:OC a2][h3:OC a3][h4:OC a4][h5:OC a5][h6:OC a6][h7:OC a7][h8:OC a8][h9:OC a9][h10:OC a10][h11:OC a11][h12:OC a12][h13:OC a13][h14:OC a14][h15:OC a15][h16:OC a16][h17:OC a17][h18:OC a18]:RV p_ (az 236 [(0,a0),(1,a1),(2,a2),(3,a3),(4,a4),(5,a5),(6,a6),(7,a7),(8,a8),(9,a9),(10,a10),(11,a11),(12,a12),(13,a13),(14,a14),(15,a15),(16,a16),(17,a17),(18,a18)]) (.agg #[a0,a1,a2,a3,a4,a5,a6,a7,a8,a9,a10,a11,a12,a13,a14,a15,a16,a17,a18]):=⟨fun W w _=>by
 have c0:=ao h0.one;have c1:=ao h1.one;have c2:=ao h2.one;have c3:=ao h3.one;have c4:=ao h4.one;have c5:=ao h5.one;have c6:=ao h6.one;have c7:=ao h7.one;have c8:=ao h8.one;have c9:=ao h9.one;have c10:=ao h10.one;have c11:=ao h11.one;have c12:=ao h12.one;have c13:=ao h13.one;have c14:=ao h14.one;have c15:=ao h15.one;have c16:=ao h16.one;have c17:=ao h17.one;have c18:=ao h18.one;simp[az,Instr.build,Tryz.zeroValue236,Tryz.runUnderlying236,Tryz.sizeOf3,bk,Instr.fill,c0,c1,c2,c3,c4,c5,c6,c7,c8,c9,c10,c11,c12,c13,c14,c15,c16,c17,c18]⟩
instance HL {a0 a1 a2 a3:Value}[h0:OC a0][h1:OC a1][h2:OC a2][h3:OC a3]:RV p_ (az 253 [(0,a0),(1,a1),(3,a2),(4,a3)]) (.agg #[a0,a1,(.int .i64 0),a2,a3]):=⟨fun W w _=>by
 have c0:=ao h0.one;have c1:=ao h1.one;have c2:=ao h2.one;have c3:=ao h3.one;simp[az,Instr.build,Tryz.zeroValue253,Tryz.runUnderlying253,Tryz.sizeOf3,Tryz.sizeOf23,Tryz.sizeOf251,bk,Instr.fill,c0,c1,c2,c3]⟩
instance KU {a0 a1 a2:Value}[h0:OC a0][h1:OC a1][h2:OC a2]:RV p_ (az 162 [(0,a0),(1,a1),(2,a2)]) (.agg #[a0,a1,a2]):=⟨fun W w _=>by
 have c0:=ao h0.one;have c1:=ao h1.one;have c2:=ao h2.one;simp[az,Instr.build,Tryz.zeroValue162,Tryz.runUnderlying162,Tryz.sizeOf3,Tryz.sizeOf23,Tryz.sizeOf160,bk,Instr.fill,c0,c1,c2]⟩
instance Nt {a0 a1:Value}[h0:OC a0][h1:OC a1]:RV p_ (az 209 [(0,a0),(1,a1)]) (.agg #[a0,a1,(.int .u8 0)]):=⟨fun W w _=>by
 have c0:=ao h0.one;have c1:=ao h1.one;simp[az,Instr.build,Tryz.zeroValue209,Tryz.runUnderlying209,Tryz.sizeOf3,Tryz.sizeOf5,bk,Instr.fill,c0,c1]⟩
instance Nu {a0 a1:Value}[h0:OC a0][h1:OC a1]:RV p_ (az 258 [(0,a0),(1,a1)]) (.agg #[a0,a1]):=⟨fun W w _=>by
 have c0:=ao h0.one;have c1:=ao h1.one;simp[az,Instr.build,Tryz.zeroValue258,Tryz.runUnderlying258,Tryz.sizeOf197,bk,Instr.fill,c0,c1]⟩
instance Nv {a0 a1:Value}[h0:OC a0][h1:OC a1]:RV p_ (az 299 [(0,a0),(1,a1)]) (.agg #[a0,a1]):=⟨fun W w _=>by
 have c0:=ao h0.one;have c1:=ao h1.one;simp[az,Instr.build,Tryz.zeroValue299,Tryz.runUnderlying299,Tryz.sizeOf197,bk,Instr.fill,c0,c1]⟩
instance QO {a0:Value}[h0:OC a0]:RV p_ (az 258 [(0,a0)]) (.agg #[a0,(.slice none 0 0)]):=⟨fun W w _=>by
 have c0:=ao h0.one;simp[az,Instr.build,Tryz.zeroValue258,Tryz.runUnderlying258,Tryz.sizeOf197,bk,Instr.fill,c0]⟩
instance zb {a0 a1 a2 a3 a4 a5 a6 a7:Value}[h0:OC a0][h1:OC a1][h2:OC a2][h3:OC a3][h4:OC a4][h5:OC a5][h6:OC a6][h7:OC a7]:RV p_ (az 266 [(0,a0),(1,a1),(2,a2),(3,a3),(4,a4),(5,a5),(6,a6),(7,a7)]) (.agg #[a0,a1,a2,a3,a4,a5,a6,a7]):=⟨fun W w _=>by
 have c0:=ao h0.one;have c1:=ao h1.one;have c2:=ao h2.one;have c3:=ao h3.one;have c4:=ao h4.one;have c5:=ao h5.one;have c6:=ao h6.one;have c7:=ao h7.one;simp[az,Instr.build,Tryz.zeroValue266,Tryz.runUnderlying266,Tryz.sizeOf5,bk,Instr.fill,c0,c1,c2,c3,c4,c5,c6,c7]⟩
instance QP {a0:Value}[h0:OC a0]:RV p_ (az 313 [(0,a0)]) (.agg #[a0]):=⟨fun W w _=>by
 have c0:=ao h0.one;simp[az,Instr.build,Tryz.zeroValue313,Tryz.runUnderlying313,Tryz.sizeOf311,bk,Instr.fill,c0]⟩
instance Nw {a0 a1:Value}[h0:OC a0][h1:OC a1]:RV p_ (az 315 [(0,a0),(1,a1)]) (.agg #[a0,a1]):=⟨fun W w _=>by
 have c0:=ao h0.one;have c1:=ao h1.one;simp[az,Instr.build,Tryz.zeroValue315,Tryz.runUnderlying315,Tryz.sizeOf3,bk,Instr.fill,c0,c1]⟩
instance Nx {a0 a1:Value}[h0:OC a0][h1:OC a1]:RV p_ (az 319 [(0,a0),(1,a1)]) (.agg #[a0,a1]):=⟨fun W w _=>by
 have c0:=ao h0.one;have c1:=ao h1.one;simp[az,Instr.build,Tryz.zeroValue319,Tryz.runUnderlying319,Tryz.sizeOf3,Tryz.sizeOf197,bk,Instr.fill,c0,c1]⟩
instance RB  :RV p_ (az 315 []) (.agg #[(.int .i64 0),(.int .i64 0)]):=⟨fun W w _=>by
   simp[az,Instr.build,Tryz.zeroValue315,Tryz.runUnderlying315,Tryz.sizeOf3,bk,Instr.fill]⟩
instance QQ {a0:Value}[h0:OC a0]:RV p_ (az 306 [(0,a0)]) (.agg #[a0,(.int .i64 0),(.int .i64 0)]):=⟨fun W w _=>by
 have c0:=ao h0.one;simp[az,Instr.build,Tryz.zeroValue306,Tryz.runUnderlying306,Tryz.sizeOf3,bk,Instr.fill,c0]⟩
instance KV {a0 a1 a2:Value}[h0:OC a0][h1:OC a1][h2:OC a2]:RV p_ (az 306 [(0,a0),(1,a1),(2,a2)]) (.agg #[a0,a1,a2]):=⟨fun W w _=>by
 have c0:=ao h0.one;have c1:=ao h1.one;have c2:=ao h2.one;simp[az,Instr.build,Tryz.zeroValue306,Tryz.runUnderlying306,Tryz.sizeOf3,bk,Instr.fill,c0,c1,c2]⟩
instance KW {a0 a1 a2:Value}[h0:OC a0][h1:OC a1][h2:OC a2]:RV p_ (az 334 [(0,a0),(1,a1),(2,a2)]) (.agg #[a0,a1,a2]):=⟨fun W w _=>by
 have c0:=ao h0.one;have c1:=ao h1.one;have c2:=ao h2.one;simp[az,Instr.build,Tryz.zeroValue334,Tryz.runUnderlying334,Tryz.sizeOf9,Tryz.sizeOf124,bk,Instr.fill,c0,c1,c2]⟩
end T
namespace Sl
open Go Sh
variable {P:Program} {W:World} {L L':List HP} {Kp:PK} {k:Value->WP}
theorem Ca:∀(vs pre zs:List Value),zs.length=vs.length->(∀v∈vs,v.cells= #[v])->
  Instr.fill (fun i=>some (i * 1,1)) (pre++zs).toArray ((vs.zipIdx pre.length).map fun x=>(x.2,x.1))=some (pre++vs).toArray
 |[],pre,zs,hz,_=>by
  have:zs=[]:=List.eq_nil_of_length_eq_zero (by simpa using hz)
  subst this;simp[Instr.fill]
 |v::vs,pre,[],hz,_=>by simp at hz
 |v::vs,pre,z::zs,hz,ho=>by
  have hv:=ho v (by simp)
  have ih:=Ca vs (pre++[v]) zs (by simpa using hz) (fun u hu=>ho u (by simp[hu]))
  simp only[List.zipIdx_cons,List.map_cons,Instr.fill,hv]
  rw[if_neg (by simp)]
  have h2:Array.foldl (fun cs (x:Value × Nat)=>cs.setIfInBounds (pre.length * 1+x.2) x.1) (pre++z::zs).toArray (#[v]:Array Value).zipIdx=(pre++[v]++zs).toArray:=by
   simp
  have h3:(pre++[v]).length=pre.length+1:=by simp
  rw[h3]at ih
  rw[h2,ih];simp
theorem pS {t e:TypeId} {b n:Nat} {parts:List (Nat × Value)} {vs:List Value} [ht:SlT P t e 1 b] (hn:vs.length=n) (hp:parts=vs.zipIdx.map fun x=>(x.2,x.1)) (ho:∀v∈vs,v.cells= #[v]) (hm:n<=16777216)
  (h:∀g,be W (pt g (.cells vs.toArray e)::L) (k (.slice (some ⟨g,0,none⟩) n n))):be W L (opN P (aS t n parts) Kp k):=fun w hw=>by
 refine⟨?_⟩
 obtain⟨i,z,hi,hz,hs,hb,hzs⟩:=ht.info
 have:(aS t n parts).run P w= .ok (.value (.slice (some ⟨w.heap.size,0,none⟩) n n)) (w.alloc (.cells vs.toArray e)):=by
  have hm':¬(2^24<n):=by omega
  have hf:∀zs:List Value,zs.length=vs.length->Instr.fill (fun i=>some (i * 1,1)) zs.toArray parts=some vs.toArray:=fun zs hz=>by
   have:=Ca vs [] zs hz ho
   simpa [hp]using this
  by_cases h0:n=0
  ·have:vs=[]:=List.eq_nil_of_length_eq_zero (by omega)
   subst this;subst h0
   simp[aS,Instr.buildSlice,run_underlying ht.ut,dK hi,hs,hp,newRow,Instr.fill]
   have e0:(Array.range 0).map (fun _=>(default:Value))= #[]:=Array.eq_empty_of_size_eq_zero (by simp)
   rw[e0]
  ·have hf':=hf ((List.range n).map fun j=>z.cells[j%z.cells.size]!) (by simp[hn])
   have e1:((Array.range n).map fun j=>z.cells[j%z.cells.size]!)=((List.range n).map fun j=>z.cells[j%z.cells.size]!).toArray:=by
    apply Array.ext'
    simp[Array.toList_range]
   rw[<- e1]at hf'
   simp only[Nat.mul_one]at hf'
   simp[aS,Instr.buildSlice,run_underlying ht.ut,dK hi,hs,h0,hm',zeroValue,typeInfo,hi,hz,newRow,hf']
 rw[this]
 exact h _ _ (hw.alloc _)
theorem gz {t e:TypeId} {b:Nat} {z:Value} {q r:IntKind} {l c:Int} (n m:Nat) [ht:SlT P t e 1 b] [hz:ZeroT P e z] [hc:OC z] (hl:l=(n:Int)) (hcm:c=(m:Int)) (h1:n<=m) (h2:b * m<=281474976710656) (h3:m<=maxLen)
  (h:∀g,be W (Sl 1 e (some ⟨g,0,none⟩) m n (List.replicate n z)::L) (k (.slice (some ⟨g,0,none⟩) n m))):be W L (opN P (fC t (.int q l) (.int r c)) Kp k):=fun w hw=>by
 refine⟨?_⟩
 obtain⟨i,z',hi,hz',hs,hb,hzs⟩:=ht.info
 have e0:z'=z:=by
  have:=hz.run w
  simp[zeroValue,typeInfo,hi,hz']at this
  exact this
 subst e0
 subst hl;subst hcm
 have hcz:z'.cells= #[z']:=ao hc.one
 have hbm:(i.bytes:Int) * (m:Int)<=281474976710656:=by
  rw[hb]
  obtain⟨X,hX⟩:∃X,X=b * m:=⟨_,rfl⟩
  have h4:(X:Int)<=281474976710656:=by omega
  rw[hX,Int.natCast_mul]at h4
  exact h4
 have hr:=run_make (P:=P) (w:=w) t e i z' ht.ut hi hz' q r n m (by omega) (by omega) hbm (by unfold maxLen at h3;omega)
 simp only[Int.toNat_natCast,hs,Nat.mul_one]at hr
 have e1:madeCells z'.cells m=(List.replicate n z'++List.replicate (m-n) z').toArray:=by
  rw[hcz,List.replicate_append_replicate]
  apply Array.ext'
  simp[madeCells,Array.toList_range,Nat.mod_one]
  rw[show n+(m-n)=m by omega]
  apply List.ext_getElem <;> simp
 have:(fC t (.int q n) (.int r m)).run P w= .ok (.value (.slice (some ⟨w.heap.size,0,none⟩) n m)) (w.alloc (.cells (List.replicate n z'++List.replicate (m-n) z').toArray e)):=by
  simp[fC,hr,e1]
 rw[this]
 refine h _ _ ?_
 have:=hw.alloc (.cells (List.replicate n z'++List.replicate (m-n) z').toArray e)
 refine Imp.sat (L:=pt w.heap.size (.cells (List.replicate n z'++List.replicate (m-n) z').toArray e)::L) ?_ this
 exact .conv (B:=pt w.heap.size (.cells (List.replicate n z'++List.replicate (m-n) z').toArray e)) (fun f hf=>⟨by simp,h1,h3,.inr ⟨_,List.replicate (m-n) z',rfl,by simp,hf⟩⟩) (.pick .here .refl)
end Sl
namespace Sl
open Go Go.RowKit Sh
variable {P:Program} {W:World} {L L':List HP} {Kp:PK} {k:Value->WP} {H:Type} {enc:TypeId × Value->H}
theorem GJ {w:World}{a:Addr}{v:Value}(h:w.cell? a=some v):a.spot=none/\a.block<w.heap.size:=by
 unfold World.cell? at h
 split at h
 ·rename_i c _ _ e
  refine⟨?_,(Array.getElem?_eq_some_iff.1 e).1⟩
  cases hs:a.spot with
  |none=>rfl
  |some x=>rw[hs]at h;simp at h
 ·cases h
structure Old {α:Type}(W:World)(s:Nat)(rd:α->List Value->Prop)(a:Option Addr)(n:Nat)(xs:List α):Prop where
 len:xs.length=n
 at_:0<n->∃g o,a=some ⟨g,o,none⟩/\g<W.heap.size/\∀(i:Nat) (h:i<xs.length),∃cs:List Value,cs.length=s/\rd xs[i] cs/\∀(j:Nat) (v:Value),cs[j]? =some v->W.cell? ⟨g,o+(i * s+j),none⟩=some v
theorem Fm {t:TypeId}{g o:Nat}{v:Value}[ht:OneT P t](hg:g<W.heap.size)(hv:W.cell? ⟨g,o,none⟩=some v):bb P W [] (af t (.pointer (some ⟨g,o,none⟩))) v:=by
 have H:RdB W (pu True) (some ⟨g,o,none⟩) 1 [v]:=Of rfl hg (fun j u hu=>by
  match j,hu with
  |0,hu=>simp at hu;subst hu;exact hv)
 have:=cX (P:=P) (t:=t) (j:=0) H rfl
 exact fun w hw=>this w (Imp.sat (.pu trivial .refl) hw)
theorem Cb {α:Type}{n:Nat}{R:Nat->α->Prop}(h:∀i,i<n->∃a,R i a):∃xs:List α,xs.length=n/\∀(i:Nat) (hi:i<xs.length),R i xs[i]:=by
 induction n with
 |zero=>exact⟨[],rfl,fun i hi=>by simp at hi⟩
 |succ n ih=>
  obtain⟨xs,h1,h2⟩:=ih fun i hi=>h i (by omega)
  obtain⟨a,ha⟩:=h n (by omega)
  refine⟨xs++[a],by simp[h1],fun i hi=>?_⟩
  by_cases c:i<xs.length
  ·rw[List.getElem_append_left c];exact h2 i c
  ·have:i=n:=by simp at hi;omega
   subst this
   rw[List.getElem_append_right (by omega)]
   simpa [h1]using ha
theorem zc (d:DataW H)(r:List (DataW H)):Rows.uptoBulkAll (d::r)=Rows.uptoBulk d+Rows.uptoBulkAll r:=by simp[Rows.uptoBulkAll]
theorem Cc {α:Type}{m:α->Nat}:∀(xs:List α) (ds:List (DataW H)),xs.length=ds.length->(∀(i:Nat) (h1:i<xs.length) (h2:i<ds.length),m xs[i]<=Rows.uptoBulk ds[i])->(xs.map m).sum<=Rows.uptoBulkAll ds
 |[],[],_,_=>by simp
 |x::xs,d::ds,hl,h=>by
  have h0:=h 0 (by simp) (by simp)
  have ih:=Cc xs ds (by simpa using hl) (fun i h1 h2=>h (i+1) (by simp;omega) (by simp;omega))
  rw[zc,List.map_cons,List.sum_cons]
  simp only[List.getElem_cons_zero]at h0
  omega
theorem wd {α:Type} {rd:α->List Value->Prop} {m:α->Nat} {t e:TypeId} {s fuel:Nat} {sp:Nat->Bool} {held:Bool} {cs:List Value} {x:DataW H × List MemPlace} (ht:P.underlying t=some (.slice e)) (hc:P.cellsOf e=s) (hs:0<s)
  (op:∀(n:Nat) (cs:List Value) (x:DataW H × List MemPlace),DataW.trod enc P W 0 sp held n e cs=some x->∃a,rd a cs/\m a<=Rows.uptoBulk x.1) (h:DataW.trod enc P W 0 sp held fuel t cs=some x):
  ∃(a:Option Addr) (n cap:Nat) (xs:List α),cs=[.slice a n cap]/\n<=cap/\cap<=maxLen/\(a=none->n=0/\cap=0)/\Old W s rd a n xs/\(xs.map m).sum+1<=Rows.uptoBulk x.1:=by
 rcases DataW.trod_slice ht h with ⟨rfl,rfl⟩|⟨a,len,cap,elems,rest,n,rfl,rfl,rfl,hb,hl,hm,he,hel,_,_⟩
 ·exact⟨none,0,0,[],rfl,Nat.le_refl _,by unfold maxLen;omega,fun _=>⟨rfl,rfl⟩,⟨rfl,fun c=>by omega⟩,by simp[Rows.uptoBulk]⟩
 ·have cell0:∀i,i<len->∃ds:List Value,ds.length=s/\(∃y,rd y ds/\∀h:i<elems.length,m y<=Rows.uptoBulk elems[i].1)/\∀j,j<s->W.cell? ((a.add (i * s)).add j)=ds[j]? :=fun i hi=>by
   have h1:=hel i hi
   rw[List.getElem?_eq_getElem (by omega),Option.bind_eq_some_iff]at h1
   obtain⟨ds,h2,h3⟩:=h1
   unfold World.cells? at h2
   rw[if_pos (Nat.zero_le _),hc]at h2
   obtain⟨y,hy,hm2⟩:=op _ _ _ h3
   exact⟨ds,by simpa using mapM_some_length h2,⟨y,hy,fun _=>hm2⟩,fun j hj=>mapM_some_get h2 j j (by simp[hj])⟩
  by_cases hz:len=0
  ·subst hz
   exact⟨some a,0,cap,[],rfl,hl,hm,(fun c=>by cases c),⟨rfl,fun c=>by omega⟩,by simp[Rows.uptoBulk]⟩
  obtain⟨d0,hd0,_,hg0⟩:=cell0 0 (by omega)
  have h0:=hg0 0 hs
  have ea:(a.add (0 * s)).add 0=a:=by unfold Addr.add;simp
  rw[ea,List.getElem?_eq_getElem (by omega)]at h0
  obtain⟨s1,s2⟩:=GJ h0
  obtain⟨g,o,sp'⟩:=a
  obtain rfl:sp'=none:=s1
  have key:∀i,i<len->∃y:α,(∀h:i<elems.length,m y<=Rows.uptoBulk elems[i].1)/\∃ds:List Value,ds.length=s/\rd y ds/\∀(j:Nat) (v:Value),ds[j]? =some v->W.cell? ⟨g,o+(i * s+j),none⟩=some v:=fun i hi=>by
   obtain⟨ds,hlen,⟨y,hy,hyb⟩,hget⟩:=cell0 i hi
   refine⟨y,hyb,ds,hlen,hy,fun j v hv=>?_⟩
   have hj:j<s:=by
    rcases Nat.lt_or_ge j ds.length with c|c
    ·omega
    ·rw[List.getElem?_eq_none c]at hv;cases hv
   have:=hget j hj
   rw[db,db,hv,Nat.add_assoc]at this
   exact this
  obtain⟨xs,h1,h2⟩:=Cb key
  refine⟨some ⟨g,o,none⟩,len,cap,xs,rfl,hl,hm,(fun c=>by cases c),⟨h1,fun hn=>⟨g,o,rfl,s2,fun i hi=>(h2 i hi).2⟩⟩,?_⟩
  have:=Cc (m:=m) xs (elems.map (·.1)) (by simp;omega) (fun i e1 e2=>by simpa using (h2 i e1).1 (by simpa using e2))
  simp only[Rows.uptoBulk]
  omega
theorem nf {α:Type}:∀l:List α,(l.map fun _=>1).sum=l.length
 |[]=>rfl
 |x::l=>by simp[nf l];omega
def UC (c:UInt8)(cs:List Value):Prop:=cs=[B c]
theorem Old.bytes {a:Option Addr}{n:Nat}{b:List UInt8}{A:HP}(h:Old W 1 UC a n b):RdB W A a n (b.map B):=by
 refine⟨by rw[List.length_map];exact h.len,fun hn=>?_⟩
 obtain⟨g,o,rfl,hg,hc⟩:=h.at_ hn
 refine⟨g,o,rfl,fun w L hw j v hv=>?_⟩
 rw[List.getElem?_map]at hv
 have hj:j<b.length:=by
  rcases Nat.lt_or_ge j b.length with c|c
  ·exact c
  ·rw[List.getElem?_eq_none c]at hv;cases hv
 obtain⟨cs,h1,h2,h3⟩:=hc j hj
 rw[h2]at h3
 have:=h3 0 (B b[j]) rfl
 rw[List.getElem?_eq_getElem hj]at hv
 have hv':B b[j]=v:=Option.some.inj hv
 rw[hw.base.cell (p:=⟨g,o+j,none⟩) hg,<- hv']
 simpa using this
theorem Lp {e:TypeId}{sp:Nat->Bool}{held:Bool}(he:P.underlying e=some (.int .u8)):∀(n:Nat) (cs:List Value) (x:DataW H × List MemPlace),DataW.trod enc P W 0 sp held n e cs=some x->∃a,UC a cs/\1<=Rows.uptoBulk x.1:=fun n cs x h=>by
 obtain⟨m,rfl,rfl,hw⟩:=DataW.trod_int he h
 have hm:0<=m/\m<=255:=by simpa [Lit.wf,IntKind.min,IntKind.max,IntKind.signed,IntKind.bits]using hw
 refine⟨UInt8.ofNat m.toNat,?_,by simp[Rows.uptoBulk]⟩
 unfold UC B
 rw[UInt8.toNat_ofNat',Nat.mod_eq_of_lt (by omega),Int.toNat_of_nonneg hm.1]
theorem Eg {t e:TypeId}{fuel:Nat}{sp:Nat->Bool}{held:Bool}{cs:List Value}{x:DataW H × List MemPlace}(ht:P.underlying t=some (.slice e))(hc:P.cellsOf e=1)(he:P.underlying e=some (.int .u8))(h:DataW.trod enc P W 0 sp held fuel t cs=some x):
  ∃(a:Option Addr) (cap:Nat) (b:List UInt8),cs=[.slice a b.length cap]/\b.length<=cap/\cap<=maxLen/\(a=none->b.length=0)/\(∀A,RdB W A a b.length (b.map B))/\b.length+1<=Rows.uptoBulk x.1:=by
 obtain⟨a,n,cap,b,rfl,h1,h2,h3,h4,h5⟩:=wd (m:=fun _=>1) ht hc (by omega) (Lp (enc:=enc) he) h
 have hl:=h4.len
 subst hl
 exact⟨a,cap,b,rfl,h1,h2,fun c=>(h3 c).1,fun A=>h4.bytes,by rwa [nf]at h5⟩
theorem Eh {t e:TypeId}{v:Value}{d:DataW H}{ps:List MemPlace}{r:Reach}{b0:Nat}{sp:Nat->Bool}{held:Bool}(ht:P.underlying t=some (.slice e))(hval:Value.okWide P W r b0 t v)(hd:DataW.Trod enc P W 0 sp held t v d ps):
  ∃fuel,DataW.trod enc P W 0 sp held fuel t [v]=some (d,ps):=by
 obtain⟨a,n,c,rfl⟩:=WideShapes.okWide_slice ht hval
 obtain⟨fuel,hf⟩:=hd
 exact⟨fuel,hf⟩
end Sl
namespace Sl
open Go Sh
variable {P:Program} {W:World} {L L':List HP} {Kp:PK} {k:Value->WP}
theorem Cd (o:Nat):∀(us pre zs:List Value) (m:Nat),pre.length=o+m->us.length<=zs.length->
  (us.zipIdx m).foldl (fun(cs:Array Value) (x:Value × Nat)=>cs.setIfInBounds (o+x.2) x.1) (pre++zs).toArray=(pre++us++zs.drop us.length).toArray
 |[],pre,zs,m,_,_=>by simp
 |u::us,pre,[],m,_,h=>by simp at h
 |u::us,pre,z::zs,m,hp,h=>by
  have ih:=Cd o us (pre++[u]) zs (m+1) (by simp;omega) (by simpa using h)
  have e:((pre++z::zs).toArray).setIfInBounds (o+m) u=(pre++[u]++zs).toArray:=by
   rw[<- hp];simp
  rw[List.zipIdx_cons,List.foldl_cons]
  simp only
  rw[e,ih];simp
theorem zd (s:Nat):∀(vs pre zs:List Value) (m:Nat),pre.length=m * s->zs.length=vs.length * s->(∀v∈vs,v.cells.size=s)->
  Instr.fill (fun i=>some (i * s,s)) (pre++zs).toArray ((vs.zipIdx m).map fun x=>(x.2,x.1))=some (pre++vs.flatMap fun v=>v.cells.toList).toArray
 |[],pre,zs,m,_,hz,_=>by
  have:zs=[]:=List.eq_nil_of_length_eq_zero (by simpa using hz)
  subst this;simp[Instr.fill]
 |v::vs,pre,zs,m,hp,hz,ho=>by
  have hv:=ho v (by simp)
  have hz':zs.length=vs.length * s+s:=by rw[hz,List.length_cons,Nat.add_mul,Nat.one_mul]
  have ih:=zd s vs (pre++v.cells.toList) (zs.drop s) (m+1) (by rw[List.length_append,hp,Array.length_toList,hv,Nat.add_mul,Nat.one_mul]) (by rw[List.length_drop,hz'];omega) (fun u hu=>ho u (by simp[hu]))
  simp only[List.zipIdx_cons,List.map_cons,Instr.fill,hv]
  rw[if_neg (by simp[hp,hz'])]
  have h2:Array.foldl (fun cs (x:Value × Nat)=>cs.setIfInBounds (m * s+x.2) x.1) (pre++zs).toArray v.cells.zipIdx=(pre++v.cells.toList++zs.drop s).toArray:=by
   have:=Cd (m * s) v.cells.toList pre zs 0 (by simpa using hp) (by rw[Array.length_toList,hv];omega)
   rw[Array.length_toList,hv]at this
   rw[<- this]
   have e2:v.cells.zipIdx.toList=v.cells.toList.zipIdx:=by simp
   rw[<- e2,Array.foldl_toList]
  rw[h2,ih];simp
theorem fp {t e:TypeId} {s b n:Nat} {parts:List (Nat × Value)} {vs:List Value} [ht:SlT P t e s b] (hn:vs.length=n) (h1:0<n) (hp:parts=vs.zipIdx.map fun x=>(x.2,x.1)) (ho:∀v∈vs,v.cells.size=s) (hm:n * s<=16777216)
  (h:∀g,be W (pt g (.cells (vs.flatMap fun v=>v.cells.toList).toArray e)::L) (k (.slice (some ⟨g,0,none⟩) n n))):be W L (opN P (aS t n parts) Kp k):=fun w hw=>by
 refine⟨?_⟩
 obtain⟨i,z,hi,hz,hs,hb,hzs⟩:=ht.info
 have:(aS t n parts).run P w= .ok (.value (.slice (some ⟨w.heap.size,0,none⟩) n n)) (w.alloc (.cells (vs.flatMap fun v=>v.cells.toList).toArray e)):=by
  have hm':¬(2^24<n * s):=by omega
  have hf:∀zs:Array Value,zs.size=n * s->Instr.fill (fun i=>some (i * s,s)) zs parts=some (vs.flatMap fun v=>v.cells.toList).toArray:=fun zs hz=>by
   have:=zd s vs [] zs.toList 0 (by simp) (by simp[hz,hn]) ho
   simpa [hp]using this
  by_cases h0:n * s=0
  ·simp[aS,Instr.buildSlice,run_underlying ht.ut,dK hi,hs,zeroValue,typeInfo,hi,hz,newRow,h0]
   have:=hf ((Array.range 0).map fun _=>(default:Value)) (by simp[h0])
   rw[this]
   simp
  ·simp[aS,Instr.buildSlice,run_underlying ht.ut,dK hi,hs,hm',zeroValue,typeInfo,hi,hz,newRow,h0]
   have:=hf ((Array.range (n * s)).map fun j=>z.cells[j%z.cells.size]!) (by simp)
   rw[this]
   simp
 rw[this]
 exact h _ _ (hw.alloc _)
theorem dM {α:Type}{f:α->List Value}{s:Nat}(hf:∀x,(f x).length=s):∀l:List α,(l.flatMap f).length=l.length * s
 |[]=>by simp
 |x::l=>by rw[List.flatMap_cons,List.length_append,hf,dM hf l,List.length_cons,Nat.add_mul,Nat.one_mul,Nat.add_comm]
theorem gA {α:Type}{f:α->List Value}{s:Nat}(hf:∀x,(f x).length=s):∀(l:List α) (i j:Nat) (hi:i<l.length) (hj:j<s),(l.flatMap f)[i * s+j]? =(f l[i])[j]?
 |x::l,0,j,_,hj=>by
  rw[List.flatMap_cons,Nat.zero_mul,Nat.zero_add,List.getElem?_append_left (by rw[hf];exact hj)];rfl
 |x::l,i+1,j,hi,hj=>by
  rw[List.flatMap_cons,List.getElem?_append_right (by rw[hf,Nat.add_mul];omega),hf,show(i+1) * s+j-s=i * s+j by rw[Nat.add_mul];omega,gA hf l i j (by simpa using hi) hj];rfl
end Sl
namespace Sl
open Go Go.RowKit Sh
variable {P:Program} {W:World} {L L':List HP} {Kp:PK} {k:Value->WP} {H:Type} {enc:TypeId × Value->H}
def I (n:Int):Value:= .int .i64 n
instance {n:Int}:OC (I n):=⟨rfl⟩
theorem Ce {l:List Int}:∀u∈l.map I,u.oneCell'=true:=by
 intro u hu;obtain⟨c,_,rfl⟩:=List.mem_map.1 hu;rfl
theorem gB {l:List Int}{j:Nat}(h:j<l.length):(l.map I)[j]? =some (I l[j]):=by simp[h]
def An (n:Nat)(f:Nat->Int):Array Value:=((List.range n).map fun j=>I (f j)).toArray
theorem cM (n:Nat)(f:Nat->Int):(An n f).size=n:=by simp[An]
theorem jC {n j:Nat}{f:Nat->Int}(h:j<n):(An n f)[j]? =some (I (f j)):=by simp[An,h]
theorem eW {n:Nat}{f g:Nat->Int}(h:∀j,j<n->f j=g j):An n f=An n g:=by
 unfold An
 congr 1
 exact List.map_congr_left fun j hj=>by rw[h j (List.mem_range.1 hj)]
theorem we {n j:Nat}{f:Nat->Int}{v:Int}:(An n f).setIfInBounds j (I v)=An n fun i=>if i=j then v else f i:=by
 apply Array.ext_getElem?
 intro i
 rw[Array.getElem?_setIfInBounds,cM]
 by_cases c:j=i
 ·subst c
  rw[if_pos rfl]
  by_cases h:j<n
  ·rw[if_pos h,jC h];simp
  ·rw[if_neg h,Array.getElem?_eq_none (by rw[cM];omega)]
 ·rw[if_neg c]
  by_cases h:i<n
  ·rw[jC h,jC h,if_neg (fun e=>c e.symm)]
  ·rw[Array.getElem?_eq_none (by rw[cM];omega),Array.getElem?_eq_none (by rw[cM];omega)]
theorem In {t e:TypeId}{s len:Nat}{g l:Nat}{q:IntKind}{i:Int}[ht:ArrT P t len e s](hi:i=(l:Int))(hl:l<len):bb P W [] (eo t (.pointer (some ⟨g,0,none⟩)) (some (.int q i)) none none) (.slice (some ⟨g,l * s,none⟩) (len-l) (len-l)):=fun w _=>by
 have hne:len≠l:=by omega
 simp[eo,Instr.sliceAt,Instr.sliceBounds,ht.ut,ht.size,fb l hi (Nat.le_of_lt hl),Instr.sureAddr,hne,Addr.add]
 intro h;exact h.symm
theorem Io {A:HP}{g m n l:Nat}{f:Nat->Int}(h:RdB W A (some ⟨g,0,none⟩) n ((List.range n).map fun j=>I (f j)))(hl:l+m=n):RdB W A (some ⟨g,l * 1,none⟩) m ((List.range m).map fun j=>I (f (l+j))):=by
 have:=h.cut (cap:=n+1) (l:=l) (h:=n) (by omega) (by omega) (by omega)
 rw[if_neg (by omega)]at this
 have e:(Option.map (fun x:Addr=>x.add (l * 1)) (some ⟨g,0,none⟩))=some ⟨g,l * 1,none⟩:=by simp[db]
 rw[e,show n-l=m by omega]at this
 have e2:List.take m (List.drop l ((List.range n).map fun j=>I (f j)))=(List.range m).map fun j=>I (f (l+j)):=by
  apply List.ext_getElem?
  intro j
  rw[List.getElem?_take]
  by_cases c:j<m
  ·rw[if_pos c,List.getElem?_drop,List.getElem?_map,List.getElem?_map,List.getElem?_range (by omega),List.getElem?_range c];rfl
  ·rw[if_neg c,List.getElem?_eq_none (by simp;omega)]
 rw[e2]at this
 exact this
end Sl
namespace S
open Go Sh Sl
theorem wide:p_.follows .mixedOrders=true:=by kernel_rfl
theorem bT {f:FuncId}{fn:Func}{an:Ann}{args:List Value}{sh:PK->(Value->WP)->WP}(hc:∀(a:Array Value) (w:World),(callFunc f a).run p_ w= .ok (.enter f a) w)(hf:p_.funcs[f]? =some fn)(he:∀Kp K,K_ p_ an fn args Kp K=sh Kp K):Shp p_ f args sh:=Vo wide hc hf he
theorem RC {f:FuncId}{fn:Func}{an:Ann}{args:List Value}{sh:PK->(Value->WP)->WP}(hc:∀(a:Array Value) (w:World),(callFunc f a).run p_ w= .ok (.enter f a) w)(hf:p_.funcs[f]? =some fn)(he:∀Kp K,E7 p_ an fn args Kp K=sh Kp K):Shp p_ f args sh:=T4 wide hc hf he
theorem Ip {f:FuncId}{fn:Func}{an:Ann}{args:List Value}{sh:PK->(Value->WP)->WP}(hc:∀(a:Array Value) (w:World),(callFunc f a).run p_ w= .ok (.enter f a) w)(hf:p_.funcs[f]? =some fn)(he:∀Kp K,E8 p_ an fn args Kp K=sh Kp K):Shp p_ f args sh:=T5 wide hc hf he
def ir:List UInt8:=[48,48,48,49,48,50,48,51,48,52,48,53,48,54,48,55,48,56,48,57,49,48,49,49,49,50,49,51,49,52,49,53,49,54,49,55,49,56,49,57,50,48,50,49,50,50,50,51,50,52,50,53,50,54,50,55,50,56,50,57,51,48,51,49,51,50,51,51,51,52,51,53,51,54,51,55,51,56,51,57,52,48,52,49,52,50,52,51,52,52,52,53,52,54,52,55,52,56,52,57,53,48,53,49,53,50,53,51,53,52,53,53,53,54,53,55,53,56,53,57,54,48,54,49,54,50,54,51,54,52,54,53,54,54,54,55,54,56,54,57,55,48,55,49,55,50,55,51,55,52,55,53,55,54,55,55,55,56,55,57,56,48,56,49,56,50,56,51,56,52,56,53,56,54,56,55,56,56,56,57,57,48,57,49,57,50,57,51,57,52,57,53,57,54,57,55,57,56,57,57]
def wh:List UInt8:=[0,1,2,2,3,3,3,3,4,4,4,4,4,4,4,4,5,5,5,5,5,5,5,5,5,5,5,5,5,5,5,5,6,6,6,6,6,6,6,6,6,6,6,6,6,6,6,6,6,6,6,6,6,6,6,6,6,6,6,6,6,6,6,6,7,7,7,7,7,7,7,7,7,7,7,7,7,7,7,7,7,7,7,7,7,7,7,7,7,7,7,7,7,7,7,7,7,7,7,7,7,7,7,7,7,7,7,7,7,7,7,7,7,7,7,7,7,7,7,7,7,7,7,7,7,7,7,7,8,8,8,8,8,8,8,8,8,8,8,8,8,8,8,8,8,8,8,8,8,8,8,8,8,8,8,8,8,8,8,8,8,8,8,8,8,8,8,8,8,8,8,8,8,8,8,8,8,8,8,8,8,8,8,8,8,8,8,8,8,8,8,8,8,8,8,8,8,8,8,8,8,8,8,8,8,8,8,8,8,8,8,8,8,8,8,8,8,8,8,8,8,8,8,8,8,8,8,8,8,8,8,8,8,8,8,8,8,8,8,8,8,8,8,8,8,8,8,8,8,8,8,8,8,8,8,8]
def h_ (v0 v1 v2 v3:Value)(Kp:PK)(K:Value→WP):WP:=
 opN p_ (dn 25 v1) Kp fun x5=>
 e8 (stS p_ (af 25 x5) fun x11=>
 stD p_ (af 25 x5) fun D4 x14=>
 opN p_ (aj (fn 7) [x11]) Kp fun x12=>
 (fun w=>D4 w∧(opN p_ (aj (fn 14) [v0,x12,(.int .i64 0)]) Kp fun x13=>
 (fun w=>D4 w∧(opN p_ (aj (fn 11) [x13,x14]) Kp fun x15=>
 stS p_ (jZ .not x15) fun x16=>
 gdK x16 false (fun k=>k v0) fun x18=>
 gdK x16 false (stS p_ (af 25 x5)) fun x19=>
 gdK x16 false (fun k=>k v2) fun x21=>
 gdD x16 false (stD p_ (ae .rem 3 x21 (.int .i64 9))) fun D12 x22=>
 gdD x16 false (stD p_ (ae .sub 3 x22 (.int .i64 10))) fun D13 x23=>
 gdD x16 false (stD p_ (af 25 x5)) fun D15 x25=>
 gdK x16 false (opN p_ (aj (fn 7) [x19]) Kp) fun x20=>
 (fun w=>D15 w∧(fun w=>D13 w∧(fun w=>D12 w∧(gdK x16 false (opN p_ (aj (fn 14) [x18,x20,x23]) Kp) fun x24=>
 (fun w=>D15 w∧(gdK x16 false (opN p_ (aj (fn 11) [x24,x25]) Kp) fun x26=>
 gdK x16 false (stS p_ (jZ .not x26)) fun x27=>
 stS p_ (aK x16 (.bool true) x27) fun x28=>
 condS x28
 (K (.bool false))
 (opN p_ (af 25 x5) Kp fun x29=>
 opN p_ (aj (fn 7) [x29]) Kp fun x30=>
 opN p_ (aM 25) Kp fun x9=>
 opN p_ (ak 25 x9 x30) Kp fun _=>
 mZ (fun J1=>
 opN p_ (b_ .eql 3 (.tmp 31) (.const (.int .i64 200)) v3 (.int .i64 200)) Kp fun x32=>
 condS x32
 (opN p_ (bB 25 x9 1) Kp fun x33=>
 opN p_ (af 22 x33) Kp fun x34=>
 opN p_ (az 52 [(0,(.string ⟨#[67,111,110,116,101,110,116,45,82,97,110,103,101]⟩)),(1,(.string ⟨#[98,121,116,101,115,32,48,45,49,47,50]⟩))]) Kp fun x35=>
 opN p_ (aS 22 1 [(0,x35)]) Kp fun x36=>
 opN p_ (cP #[22,22] 22 [x34,x36]) Kp fun x37=>
 opN p_ (bB 25 x9 1) Kp fun x38=>
 opN p_ (ak 22 x38 x37) Kp fun _=>
 J1)
 (opN p_ (bB 25 x9 0) Kp fun x40=>
 opN p_ (ak 3 x40 v3) Kp fun _=>
 J1)) fun _=>
 e8 (stS p_ (af 25 x9) fun x42=>
 stD p_ (af 25 x9) fun D5 x46=>
 opN p_ (aj (fn 7) [x42]) Kp fun x43=>
 (fun w=>D5 w∧(opN p_ (aj (fn 14) [v0,x43,v2]) Kp fun x45=>
 (fun w=>D5 w∧(opN p_ (aj (fn 11) [x45,x46]) Kp fun x47=>
 gdK x47 true (stS p_ (af 25 x9)) fun x49=>
 gdK x47 true (opN p_ (aj (fn 18) [x49]) Kp) fun x50=>
 gdK x47 true (stS p_ (jZ .not x50)) fun x51=>
 stS p_ (aK x47 x51 (.bool false)) fun x52=>
 gdK x52 true (opN p_ (aj (fn 12) []) Kp) fun x54=>
 stS p_ (aK x52 x54 (.bool false)) fun x55=>
 K x55) w)) w)))) w)) w) w) w)) w)) w))
theorem kX {v0 v1 v2 v3:Value}:Shp p_ 6 [v0,v1,v2,v3] (h_ v0 v1 v2 v3):=bT Tryz.call6 Tryz.func6 (an:={cuts:=[(7,[])],drs:=[(1,.ofL [(0,2),(1,1),(4,3),(2,0),(3,0),(5,0),(6,1),(7,1),(8,2),(9,1),(11,2),(12,3),(13,3),(15,3),(10,0),(14,0),(16,0),(17,1),(18,1)]),(7,.ofL [(0,2),(1,1),(3,2),(5,3),(2,0),(4,0),(6,0),(7,1),(8,1),(9,0),(10,1),(11,1),(12,1),(13,0),(14,1),(15,1)])]}) fun _ _=>by kernel_rfl
def qR (v0:Value)(Kp:PK)(K:Value→WP):WP:=
 opN p_ (dn 25 v0) Kp fun x1=>
 opN p_ (aM 25) Kp fun x2=>
 e8 (stD p_ (bB 25 x1 0) fun D0 x3=>
 stD p_ (af 3 x3) fun D1 x4=>
 stD p_ (bB 25 x1 1) fun D3 x6=>
 stD p_ (af 22 x6) fun D4 x7=>
 stD p_ (bB 25 x1 2) fun D7 x10=>
 stD p_ (af 23 x10) fun D8 x11=>
 qC (opN p_ (aS 22 0 []) Kp fun x5=>
 (fun w=>D8 w∧(fun w=>D7 w∧(fun w=>D4 w∧(fun w=>D3 w∧(fun w=>D1 w∧(fun w=>D0 w∧(qC (opN p_ (cP #[22,22] 22 [x5,x7]) Kp fun x8=>
 (fun w=>D8 w∧(fun w=>D7 w∧(fun w=>D1 w∧(fun w=>D0 w∧(opN p_ (aS 23 0 []) Kp fun x9=>
 (fun w=>D8 w∧(fun w=>D7 w∧(fun w=>D4 w∧(fun w=>D3 w∧(fun w=>D1 w∧(fun w=>D0 w∧(opN p_ (cP #[23,23] 23 [x9,x11]) Kp fun x12=>
 (fun w=>D1 w∧(fun w=>D0 w∧(stS p_ (az 25 [(0,x4),(1,x8),(2,x12)]) fun x13=>
 opN p_ (ak 25 x2 x13) Kp fun _=>
 (stS p_ (cG 25 x2) fun r0=>K r0)) w) w)) w) w) w) w) w) w)) w) w) w) w))
 (opN p_ (aS 23 0 []) Kp fun x9=>
 (fun w=>D8 w∧(fun w=>D7 w∧(fun w=>D4 w∧(fun w=>D3 w∧(fun w=>D1 w∧(fun w=>D0 w∧(opN p_ (cP #[22,22] 22 [x5,x7]) Kp fun x8=>
 (fun w=>D8 w∧(fun w=>D7 w∧(fun w=>D1 w∧(fun w=>D0 w∧(opN p_ (cP #[23,23] 23 [x9,x11]) Kp fun x12=>
 (fun w=>D1 w∧(fun w=>D0 w∧(stS p_ (az 25 [(0,x4),(1,x8),(2,x12)]) fun x13=>
 opN p_ (ak 25 x2 x13) Kp fun _=>
 (stS p_ (cG 25 x2) fun r0=>K r0)) w) w)) w) w) w) w)) w) w) w) w) w) w))) w) w) w) w) w) w))
 (opN p_ (aS 23 0 []) Kp fun x9=>
 (fun w=>D8 w∧(fun w=>D7 w∧(fun w=>D4 w∧(fun w=>D3 w∧(fun w=>D1 w∧(fun w=>D0 w∧(opN p_ (aS 22 0 []) Kp fun x5=>
 (fun w=>D8 w∧(fun w=>D7 w∧(fun w=>D4 w∧(fun w=>D3 w∧(fun w=>D1 w∧(fun w=>D0 w∧(opN p_ (cP #[22,22] 22 [x5,x7]) Kp fun x8=>
 (fun w=>D8 w∧(fun w=>D7 w∧(fun w=>D1 w∧(fun w=>D0 w∧(opN p_ (cP #[23,23] 23 [x9,x11]) Kp fun x12=>
 (fun w=>D1 w∧(fun w=>D0 w∧(stS p_ (az 25 [(0,x4),(1,x8),(2,x12)]) fun x13=>
 opN p_ (ak 25 x2 x13) Kp fun _=>
 (stS p_ (cG 25 x2) fun r0=>K r0)) w) w)) w) w) w) w)) w) w) w) w) w) w)) w) w) w) w) w) w)))
theorem wi {v0:Value}:Shp p_ 7 [v0] (qR v0):=bT Tryz.call7 Tryz.func7 (an:={drs:=[(1,(.op 0 3 (.op 1 3 (.op 3 3 (.op 4 3 (.op 7 3 (.op 8 3 (.alt ((.op 2 0 (.alt (.ofL [(5,0),(6,0),(9,0),(10,1),(11,0)]) (.ofL [(6,0),(5,0),(9,0),(10,1),(11,0)])))) (.ofL [(6,0),(2,0),(5,0),(9,0),(10,1),(11,0)])))))))))]}) fun _ _=>by kernel_rfl
def mg (v0 v1:Value)(Kp:PK)(K:Value→WP):WP:=
 opN p_ (dn 25 v0) Kp fun x2=>
 opN p_ (bB 25 x2 1) Kp fun x7=>
 opN p_ (af 22 x7) Kp fun x8=>
 opN p_ (aj (fn 22) [x8,(.string ⟨#[67,111,110,116,101,110,116,45,69,110,99,111,100,105,110,103]⟩)]) Kp fun x9=>
 jw (fun J1=>
 opN p_ (ae .lss 3 v1 (.int .i64 0)) Kp fun x12=>
 condS x12
 (J1 x12)
 (opN p_ (ae .gtr 3 v1 (.int .i64 1048576)) Kp fun x14=>
 J1 x14)) fun _ z10=>
 condS z10
 (K (.tuple #[(.slice none 0 0),(.int .i64 1)]))
 (opN p_ (bB 25 x2 2) Kp fun x16=>
 opN p_ (af 23 x16) Kp fun x17=>
 opN p_ (aV #[23] 3 [x17]) Kp fun x18=>
 opN p_ (ae .gtr 3 x18 (.int .i64 1048576)) Kp fun x19=>
 condS x19
 (K (.tuple #[(.slice none 0 0),(.int .i64 6)]))
 (opN p_ (aV #[36] 3 [x9]) Kp fun x22=>
 opN p_ (b_ .eql 3 (.tmp 22) (.const (.int .i64 1)) x22 (.int .i64 1)) Kp fun x23=>
 gdK x23 true (fun k=>k x9) fun x25=>
 gdK x23 true (opN p_ (bR 36 x25 (.int .i64 0)) Kp) fun x26=>
 gdK x23 true (opN p_ (af 9 x26) Kp) fun x27=>
 gdK x23 true (opN p_ (aj (fn 20) [x27,(.string ⟨#[103,122,105,112]⟩)]) Kp) fun x28=>
 opN p_ (aK x23 x28 (.bool false)) Kp fun x29=>
 condS x29
 (opN p_ (bB 25 x2 2) Kp fun x30=>
 opN p_ (af 23 x30) Kp fun x31=>
 opN p_ (aj (fn 23) [x31,v1]) Kp fun x33=>
 opN p_ (bi x33 0) Kp fun x34=>
 opN p_ (bi x33 1) Kp fun x35=>
 K (.tuple #[x34,x35]))
 (opN p_ (aV #[36] 3 [x9]) Kp fun x38=>
 opN p_ (ae .gtr 3 x38 (.int .i64 0)) Kp fun x39=>
 condS x39
 (K (.tuple #[(.slice none 0 0),(.int .i64 46)]))
 (opN p_ (bB 25 x2 2) Kp fun x41=>
 opN p_ (af 23 x41) Kp fun x42=>
 opN p_ (aV #[23] 3 [x42]) Kp fun x43=>
 opN p_ (ae .gtr 3 x43 v1) Kp fun x45=>
 condS x45
 (K (.tuple #[(.slice none 0 0),(.int .i64 6)]))
 (opN p_ (bB 25 x2 2) Kp fun x46=>
 opN p_ (af 23 x46) Kp fun x47=>
 opN p_ (cP #[23,23] 23 [(.slice none 0 0),x47]) Kp fun x48=>
 K (.tuple #[x48,(.int .i64 0)]))))))
theorem qT {v0 v1:Value}:Shp p_ 8 [v0,v1] (mg v0 v1):=bT Tryz.call8 Tryz.func8 (an:={cuts:=[(4,[10])]}) fun _ _=>by kernel_rfl
def ze (v0:Value)(Kp:PK)(K:Value->WP):WP:=
 K v0
theorem Cf {v0:Value}:Shp p_ 10 [v0] (ze v0):=bT Tryz.call10 Tryz.func10 (an:={}) fun _ _=>by kernel_rfl
def wj (v0 v1:Value)(Kp:PK)(K:Value->WP):WP:=
 opN p_ (dn 25 v0) Kp fun x2=>
 opN p_ (dn 25 v1) Kp fun x3=>
 opN p_ (bB 25 x2 0) Kp fun x5=>
 opN p_ (af 3 x5) Kp fun x6=>
 opN p_ (bB 25 x3 0) Kp fun x7=>
 opN p_ (af 3 x7) Kp fun x8=>
 opN p_ (b_ .eql 3 (.tmp 6) (.tmp 8) x6 x8) Kp fun x9=>
 gdK x9 true (opN p_ (bB 25 x2 1) Kp) fun x11=>
 gdK x9 true (opN p_ (af 22 x11) Kp) fun x12=>
 gdK x9 true (opN p_ (bB 25 x3 1) Kp) fun x13=>
 gdK x9 true (opN p_ (af 22 x13) Kp) fun x14=>
 gdK x9 true (opN p_ (aj (fn 26) [x12,x14]) Kp) fun x15=>
 opN p_ (aK x9 x15 (.bool false)) Kp fun x16=>
 gdK x16 true (opN p_ (bB 25 x2 2) Kp) fun x18=>
 gdK x16 true (opN p_ (af 23 x18) Kp) fun x19=>
 gdK x16 true (opN p_ (bz 23 9 x19) Kp) fun x20=>
 gdK x16 true (opN p_ (bB 25 x3 2) Kp) fun x21=>
 gdK x16 true (opN p_ (af 23 x21) Kp) fun x22=>
 gdK x16 true (opN p_ (bz 23 9 x22) Kp) fun x23=>
 gdK x16 true (opN p_ (b_ .eql 9 (.tmp 20) (.tmp 23) x20 x23) Kp) fun x24=>
 opN p_ (aK x16 x24 (.bool false)) Kp fun x25=>
 K x25
theorem Aq {v0 v1:Value}:Shp p_ 11 [v0,v1] (wj v0 v1):=bT Tryz.call11 Tryz.func11 (an:={}) fun _ _=>by kernel_rfl
def uw (Kp:PK)(K:Value→WP):WP:=
 opN p_ (az 52 [(0,(.string ⟨#[67,111,110,116,101,110,116,45,84,121,112,101]⟩)),(1,(.string ⟨#[116,101,120,116,47,112,108,97,105,110]⟩))]) Kp fun x5=>
 opN p_ (aS 22 1 [(0,x5)]) Kp fun x6=>
 opN p_ (aS 23 40 [(0,(.int .u8 97)),(1,(.int .u8 97)),(2,(.int .u8 97)),(3,(.int .u8 97)),(4,(.int .u8 97)),(5,(.int .u8 97)),(6,(.int .u8 97)),(7,(.int .u8 97)),(8,(.int .u8 97)),(9,(.int .u8 97)),(10,(.int .u8 97)),(11,(.int .u8 97)),(12,(.int .u8 97)),(13,(.int .u8 97)),(14,(.int .u8 97)),(15,(.int .u8 97)),(16,(.int .u8 97)),(17,(.int .u8 97)),(18,(.int .u8 97)),(19,(.int .u8 97)),(20,(.int .u8 97)),(21,(.int .u8 97)),(22,(.int .u8 97)),(23,(.int .u8 97)),(24,(.int .u8 97)),(25,(.int .u8 97)),(26,(.int .u8 97)),(27,(.int .u8 97)),(28,(.int .u8 97)),(29,(.int .u8 97)),(30,(.int .u8 97)),(31,(.int .u8 97)),(32,(.int .u8 97)),(33,(.int .u8 97)),(34,(.int .u8 97)),(35,(.int .u8 97)),(36,(.int .u8 97)),(37,(.int .u8 97)),(38,(.int .u8 97)),(39,(.int .u8 97))]) Kp fun x7=>
 opN p_ (bz 23 23 x7) Kp fun x8=>
 opN p_ (az 25 [(0,(.int .i64 200)),(1,x6),(2,x8)]) Kp fun x9=>
 opN p_ (aM 25) Kp fun x1=>
 opN p_ (ak 25 x1 x9) Kp fun _=>
 jw (fun J1=>
 e8 (stD p_ (af 25 x1) fun D1 x11=>
 qC (opN p_ (aj (fn 27) [(.string ⟨#[103,122,105,112]⟩)]) Kp fun x10=>
 (fun w=>D1 w∧(qC (opN p_ (aj (fn 14) [x10,x11,(.int .i64 6)]) Kp fun x12=>
 opN p_ (aM 25) Kp fun x2=>
 (fun w=>D1 w∧(opN p_ (ak 25 x2 x12) Kp fun _=>
 J1 x2) w))
 (opN p_ (aM 25) Kp fun x2=>
 (fun w=>D1 w∧(opN p_ (aj (fn 14) [x10,x11,(.int .i64 6)]) Kp fun x12=>
 opN p_ (ak 25 x2 x12) Kp fun _=>
 J1 x2) w))) w))
 (opN p_ (aM 25) Kp fun x2=>
 (fun w=>D1 w∧(opN p_ (aj (fn 27) [(.string ⟨#[103,122,105,112]⟩)]) Kp fun x10=>
 (fun w=>D1 w∧(opN p_ (aj (fn 14) [x10,x11,(.int .i64 6)]) Kp fun x12=>
 opN p_ (ak 25 x2 x12) Kp fun _=>
 J1 x2) w)) w)))) fun _ z2=>
 opN p_ (af 25 z2) Kp fun x14=>
 opN p_ (aj (fn 8) [x14,(.int .i64 100)]) Kp fun x15=>
 opN p_ (bi x15 0) Kp fun x16=>
 opN p_ (bi x15 1) Kp fun x17=>
 opN p_ (aj (fn 27) [(.string ⟨#[103,122,105,112,59,113,61,48,46,53,44,32,105,100,101,110,116,105,116,121,59,113,61,48,46,54]⟩)]) Kp fun x18=>
 opN p_ (aj (fn 16) [x18]) Kp fun x19=>
 opN p_ (b_ .eql 9 (.tmp 19) (.const (.string ⟨#[105,100,101,110,116,105,116,121]⟩)) x19 (.string ⟨#[105,100,101,110,116,105,116,121]⟩)) Kp fun x20=>
 gdK x20 true (opN p_ (aj (fn 27) [(.string ⟨#[103,122,105,112]⟩)]) Kp) fun x22=>
 gdK x20 true (opN p_ (aj (fn 16) [x22]) Kp) fun x23=>
 gdK x20 true (opN p_ (b_ .eql 9 (.tmp 23) (.const (.string ⟨#[103,122,105,112]⟩)) x23 (.string ⟨#[103,122,105,112]⟩)) Kp) fun x24=>
 opN p_ (aK x20 x24 (.bool false)) Kp fun x25=>
 gdK x25 true (opN p_ (bB 25 z2 2) Kp) fun x27=>
 gdK x25 true (opN p_ (af 23 x27) Kp) fun x28=>
 gdK x25 true (opN p_ (aV #[23] 3 [x28]) Kp) fun x29=>
 gdK x25 true (opN p_ (ae .lss 3 x29 (.int .i64 40)) Kp) fun x30=>
 opN p_ (aK x25 x30 (.bool false)) Kp fun x31=>
 gdK x31 true (fun k=>k x17) fun x33=>
 gdK x31 true (opN p_ (aj (fn 10) [x33]) Kp) fun x34=>
 gdK x31 true (opN p_ (b_ .eql 3 (.tmp 34) (.const (.int .i64 0)) x34 (.int .i64 0)) Kp) fun x35=>
 opN p_ (aK x31 x35 (.bool false)) Kp fun x36=>
 gdK x36 true (fun k=>k x16) fun x38=>
 gdK x36 true (opN p_ (bz 23 9 x38) Kp) fun x39=>
 gdK x36 true (opN p_ (bB 25 x1 2) Kp) fun x40=>
 gdK x36 true (opN p_ (af 23 x40) Kp) fun x41=>
 gdK x36 true (opN p_ (bz 23 9 x41) Kp) fun x42=>
 gdK x36 true (opN p_ (b_ .eql 9 (.tmp 39) (.tmp 42) x39 x42) Kp) fun x43=>
 opN p_ (aK x36 x43 (.bool false)) Kp fun x44=>
 K x44
theorem yu  :Shp p_ 12 [] (uw):=bT Tryz.call12 Tryz.func12 (an:={drs:=[(2,(.op 1 3 (.alt ((.op 0 0 (.alt (.ofL [(2,0),(3,0),(4,0)]) (.ofL [(3,0),(2,0),(4,0)])))) (.ofL [(3,0),(0,0),(2,0),(4,0)]))))],rcuts:=[(3,[2])]}) fun _ _=>by kernel_rfl
def qU (v0 v1 v2:Value)(Kp:PK)(K:Value→WP):WP:=
 opN p_ (dn 22 v0) Kp fun x3=>
 opN p_ (dn 25 v1) Kp fun x4=>
 opN p_ (dn 3 v2) Kp fun x5=>
 opN p_ (aM 25) Kp fun x6=>
 jw (fun J1=>
 e8 (stD p_ (bB 25 x4 0) fun D0 x11=>
 stD p_ (af 3 x11) fun D1 x12=>
 stD p_ (bB 25 x4 1) fun D2 x13=>
 stD p_ (af 22 x13) fun D3 x14=>
 stD p_ (bB 25 x4 2) fun D5 x16=>
 stD p_ (af 23 x16) fun D6 x17=>
 qC (opN p_ (cP #[22,22] 22 [(.slice none 0 0),x14]) Kp fun x15=>
 (fun w=>D6 w∧(fun w=>D5 w∧(fun w=>D1 w∧(fun w=>D0 w∧(qC (opN p_ (cP #[23,23] 23 [(.slice none 0 0),x17]) Kp fun x18=>
 (fun w=>D1 w∧(fun w=>D0 w∧(stD p_ (az 25 [(0,x12),(1,x15),(2,x18)]) fun D8 x19=>
 opN p_ (aM 25) Kp fun x7=>
 (fun w=>D8 w∧(fun w=>D6 w∧(fun w=>D5 w∧(fun w=>D3 w∧(fun w=>D2 w∧(fun w=>D1 w∧(fun w=>D0 w∧(opN p_ (ak 25 x7 x19) Kp fun _=>
 J1 x7) w) w) w) w) w) w) w)) w) w))
 (opN p_ (aM 25) Kp fun x7=>
 (fun w=>D6 w∧(fun w=>D5 w∧(fun w=>D3 w∧(fun w=>D2 w∧(fun w=>D1 w∧(fun w=>D0 w∧(opN p_ (cP #[23,23] 23 [(.slice none 0 0),x17]) Kp fun x18=>
 (fun w=>D1 w∧(fun w=>D0 w∧(stS p_ (az 25 [(0,x12),(1,x15),(2,x18)]) fun x19=>
 opN p_ (ak 25 x7 x19) Kp fun _=>
 J1 x7) w) w)) w) w) w) w) w) w))) w) w) w) w))
 (opN p_ (aM 25) Kp fun x7=>
 (fun w=>D6 w∧(fun w=>D5 w∧(fun w=>D3 w∧(fun w=>D2 w∧(fun w=>D1 w∧(fun w=>D0 w∧(opN p_ (cP #[22,22] 22 [(.slice none 0 0),x14]) Kp fun x15=>
 (fun w=>D6 w∧(fun w=>D5 w∧(fun w=>D1 w∧(fun w=>D0 w∧(opN p_ (cP #[23,23] 23 [(.slice none 0 0),x17]) Kp fun x18=>
 (fun w=>D1 w∧(fun w=>D0 w∧(stS p_ (az 25 [(0,x12),(1,x15),(2,x18)]) fun x19=>
 opN p_ (ak 25 x7 x19) Kp fun _=>
 J1 x7) w) w)) w) w) w) w)) w) w) w) w) w) w)))) fun _ z7=>
 opN p_ (lN (.func 28) [] [x5,x4]) Kp fun x20=>
 opN p_ (lN (.func 29) [] [z7]) Kp fun x21=>
 opN p_ (lN (.func 31) [] [x3]) Kp fun x22=>
 opN p_ (lN (.func 32) [] [z7,x5]) Kp fun x23=>
 opN p_ (az 61 [(0,x20),(1,x21),(2,x22),(3,x23)]) Kp fun x24=>
 opN p_ (aM 61) Kp fun x8=>
 opN p_ (ak 61 x8 x24) Kp fun _=>
 opN p_ (af 61 x8) Kp fun x25=>
 bX (fun I1 m1 _ y26=>
 opN p_ (ae .lss 3 y26 (.int .i64 4)) Kp fun x27=>
 condS x27
 (opN p_ (iq 61 x25 y26) Kp fun x28=>
 opN p_ (aj x28 []) Kp fun x30=>
 opN p_ (jZ .not x30) Kp fun x31=>
 condS x31
 (opN p_ (af 25 z7) Kp fun x33=>
 opN p_ (ak 25 x6 x33) Kp fun _=>
 (stS p_ (cG 25 x6) fun r0=>K r0))
 (opN p_ (ae .add 3 y26 (.int .i64 1)) Kp fun x32=>
 bI I1 m1 x32))
 (opN p_ (af 25 z7) Kp fun x33=>
 opN p_ (ak 25 x6 x33) Kp fun _=>
 (stS p_ (cG 25 x6) fun r0=>K r0))) (.int .i64 0)
theorem wl {v0 v1 v2:Value}:Shp p_ 14 [v0,v1,v2] (qU v0 v1 v2):=bT Tryz.call14 Tryz.func14 (an:={loops:=[(4,[26])],drs:=[(1,(.op 0 3 (.op 1 3 (.op 2 3 (.op 3 3 (.op 5 3 (.op 6 3 (.alt ((.op 4 0 (.alt (.ofL [(7,0),(8,3),(9,0),(10,0)]) (.ofL [(9,0),(7,0),(8,1),(10,0)])))) (.ofL [(9,0),(4,0),(7,0),(8,1),(10,0)])))))))))],rcuts:=[(2,[7])]}) fun _ _=>by kernel_rfl
def pp (v0:Value)(Kp:PK)(K:Value→WP):WP:=
 opN p_ (aj (fn 34) [v0,(.string ⟨#[65,99,99,101,112,116,45,69,110,99,111,100,105,110,103]⟩)]) Kp fun x17=>
 opN p_ (bi x17 0) Kp fun x18=>
 opN p_ (bi x17 1) Kp fun x19=>
 opN p_ (aj (fn 35) [x18]) Kp fun x22=>
 opN p_ (bi x22 0) Kp fun x23=>
 opN p_ (bi x22 1) Kp fun x24=>
 opN p_ (jZ .not x19) Kp fun x26=>
 gdK x26 false (fun k=>k x24) fun x28=>
 gdK x26 false (opN p_ (b_ .neq 27 (.tmp 28) (.const (.int .i64 0)) x28 (.int .i64 0)) Kp) fun x29=>
 opN p_ (aK x26 (.bool true) x29) Kp fun x30=>
 condS x30
 (K (.string ⟨#[105,100,101,110,116,105,116,121]⟩))
 (opN p_ (pP 65 none) Kp fun x31=>
 opN p_ (aM 65) Kp fun x7=>
 opN p_ (ak 65 x7 x31) Kp fun _=>
 opN p_ (aV #[62] 3 [x23]) Kp fun x33=>
 bX (fun I1 m1 _ y34=>
 opN p_ (ae .lss 3 y34 x33) Kp fun x35=>
 condS x35
 (opN p_ (bR 62 x23 y34) Kp fun x36=>
 opN p_ (af 67 x36) Kp fun x37=>
 opN p_ (aM 67) Kp fun x9=>
 opN p_ (ak 67 x9 x37) Kp fun _=>
 opN p_ (bB 67 x9 0) Kp fun x38=>
 opN p_ (af 9 x38) Kp fun x39=>
 jw (fun J1=>
 opN p_ (b_ .eql 9 (.tmp 40) (.const (.string ⟨#[120,45,103,122,105,112]⟩)) x39 (.string ⟨#[120,45,103,122,105,112]⟩)) Kp fun x41=>
 condS x41
 (J1 (.string ⟨#[103,122,105,112]⟩))
 (J1 x39)) fun _ z10=>
 opN p_ (af 65 x7) Kp fun x43=>
 opN p_ (mY 65 x43 z10 true) Kp fun x45=>
 opN p_ (bi x45 0) Kp fun x46=>
 opN p_ (bi x45 1) Kp fun x47=>
 opN p_ (jZ .not x47) Kp fun x49=>
 condS x49
 (opN p_ (af 65 x7) Kp fun x50=>
 opN p_ (bB 67 x9 1) Kp fun x52=>
 opN p_ (af 3 x52) Kp fun x53=>
 opN p_ (j9 65 x50 z10 x53) Kp fun _=>
 opN p_ (ae .add 3 y34 (.int .i64 1)) Kp fun x54=>
 bI I1 m1 x54)
 (opN p_ (ae .add 3 y34 (.int .i64 1)) Kp fun x54=>
 bI I1 m1 x54))
 (opN p_ (lN (.func 36) [] [x7]) Kp fun x55=>
 opN p_ (aj x55 [(.string ⟨#[103,122,105,112]⟩),(.int .i64 0)]) Kp fun x57=>
 opN p_ (ae .gtr 3 x57 (.int .i64 0)) Kp fun x59=>
 gdK x59 true (fun k=>k x57) fun x61=>
 gdK x59 true (fun k=>k x55) fun x62=>
 gdK x59 true (opN p_ (aj x62 [(.string ⟨#[105,100,101,110,116,105,116,121]⟩),(.int .i64 1)]) Kp) fun x63=>
 gdK x59 true (opN p_ (ae .geq 3 x61 x63) Kp) fun x64=>
 opN p_ (aK x59 x64 (.bool false)) Kp fun x65=>
 condS x65
 (K (.string ⟨#[103,122,105,112]⟩))
 (K (.string ⟨#[105,100,101,110,116,105,116,121]⟩)))) (.int .i64 0))
theorem u5 {v0:Value}:Shp p_ 16 [v0] (pp v0):=bT Tryz.call16 Tryz.func16 (an:={cuts:=[(12,[10])],loops:=[(7,[34])]}) fun _ _=>by kernel_rfl
def qV (v0:Value)(Kp:PK)(K:Value->WP):WP:=
 opN p_ (aj (fn 37) [v0]) Kp fun x4=>
 K x4
theorem wm {v0:Value}:Shp p_ 17 [v0] (qV v0):=bT Tryz.call17 Tryz.func17 (an:={}) fun _ _=>by kernel_rfl
def wn (v0:Value)(Kp:PK)(K:Value→WP):WP:=
 opN p_ (dn 25 v0) Kp fun x1=>
 opN p_ (bB 25 x1 0) Kp fun x15=>
 opN p_ (af 3 x15) Kp fun x16=>
 opN p_ (b_ .neq 3 (.tmp 16) (.const (.int .i64 200)) x16 (.int .i64 200)) Kp fun x17=>
 gdK x17 false (opN p_ (bB 25 x1 2) Kp) fun x19=>
 gdK x17 false (opN p_ (af 23 x19) Kp) fun x20=>
 gdK x17 false (opN p_ (aV #[23] 3 [x20]) Kp) fun x21=>
 gdK x17 false (opN p_ (ae .lss 3 x21 (.int .i64 32)) Kp) fun x22=>
 opN p_ (aK x17 (.bool true) x22) Kp fun x23=>
 condS x23
 (K (.bool false))
 (opN p_ (az 69 [(0,(.string ⟨#[67,111,110,116,101,110,116,45,69,110,99,111,100,105,110,103]⟩)),(1,(.string ⟨#[67,111,110,116,101,110,116,45,82,97,110,103,101]⟩))]) Kp fun x24=>
 bX (fun I1 m1 _ y25=>
 opN p_ (ae .lss 3 y25 (.int .i64 2)) Kp fun x26=>
 condS x26
 (opN p_ (iq 69 x24 y25) Kp fun x27=>
 opN p_ (bB 25 x1 1) Kp fun x29=>
 opN p_ (af 22 x29) Kp fun x30=>
 opN p_ (aj (fn 38) [x30,x27]) Kp fun x32=>
 opN p_ (bi x32 0) Kp fun x33=>
 opN p_ (bi x32 1) Kp fun x34=>
 condS x34
 (K (.bool false))
 (opN p_ (ae .add 3 y25 (.int .i64 1)) Kp fun x36=>
 bI I1 m1 x36))
 (opN p_ (bB 25 x1 1) Kp fun x38=>
 opN p_ (af 22 x38) Kp fun x39=>
 opN p_ (aj (fn 38) [x39,(.string ⟨#[67,111,110,116,101,110,116,45,84,121,112,101]⟩)]) Kp fun x40=>
 opN p_ (bi x40 0) Kp fun x41=>
 opN p_ (bi x40 1) Kp fun x42=>
 opN p_ (aj (fn 39) [x41,(.string ⟨#[59]⟩)]) Kp fun x45=>
 opN p_ (bi x45 0) Kp fun x46=>
 opN p_ (bi x45 1) Kp fun x47=>
 opN p_ (bi x45 2) Kp fun x48=>
 opN p_ (aj (fn 41) [x46]) Kp fun x50=>
 opN p_ (aj (fn 40) [x50]) Kp fun x51=>
 jw (fun J1=>
 opN p_ (aj (fn 42) [x51,(.string ⟨#[116,101,120,116,47]⟩)]) Kp fun x54=>
 condS x54
 (J1 x54)
 (opN p_ (b_ .eql 9 (.tmp 55) (.const (.string ⟨#[97,112,112,108,105,99,97,116,105,111,110,47,106,115,111,110]⟩)) x51 (.string ⟨#[97,112,112,108,105,99,97,116,105,111,110,47,106,115,111,110]⟩)) Kp fun x56=>
 condS x56
 (J1 x56)
 (opN p_ (b_ .eql 9 (.tmp 57) (.const (.string ⟨#[105,109,97,103,101,47,115,118,103,43,120,109,108]⟩)) x51 (.string ⟨#[105,109,97,103,101,47,115,118,103,43,120,109,108]⟩)) Kp fun x58=>
 J1 x58))) fun _ z52=>
 condS z52
 (opN p_ (bB 25 x1 1) Kp fun x60=>
 opN p_ (af 22 x60) Kp fun x61=>
 opN p_ (aj (fn 34) [x61,(.string ⟨#[67,97,99,104,101,45,67,111,110,116,114,111,108]⟩)]) Kp fun x62=>
 opN p_ (bi x62 0) Kp fun x63=>
 opN p_ (bi x62 1) Kp fun x64=>
 opN p_ (aj (fn 43) [x63]) Kp fun x67=>
 opN p_ (bi x67 0) Kp fun x68=>
 opN p_ (bi x67 1) Kp fun x69=>
 opN p_ (aV #[74] 3 [x68]) Kp fun x71=>
 bX (fun I2 m2 _ y72=>
 opN p_ (ae .lss 3 y72 x71) Kp fun x73=>
 condS x73
 (opN p_ (bR 74 x68 y72) Kp fun x74=>
 opN p_ (af 78 x74) Kp fun x75=>
 opN p_ (aM 78) Kp fun x14=>
 opN p_ (ak 78 x14 x75) Kp fun _=>
 opN p_ (bB 78 x14 0) Kp fun x76=>
 opN p_ (af 9 x76) Kp fun x77=>
 opN p_ (b_ .eql 9 (.tmp 77) (.const (.string ⟨#[110,111,45,116,114,97,110,115,102,111,114,109]⟩)) x77 (.string ⟨#[110,111,45,116,114,97,110,115,102,111,114,109]⟩)) Kp fun x78=>
 condS x78
 (K (.bool false))
 (opN p_ (ae .add 3 y72 (.int .i64 1)) Kp fun x79=>
 bI I2 m2 x79))
 (K (.bool true))) (.int .i64 0))
 (K (.bool false)))) (.int .i64 0))
theorem Ar {v0:Value}:Shp p_ 18 [v0] (wn v0):=bT Tryz.call18 Tryz.func18 (an:={cuts:=[(13,[52])],loops:=[(4,[25]),(20,[72])]}) fun _ _=>by kernel_rfl
def ux (v0 v1:Value)(Kp:PK)(K:Value→WP):WP:=
 dF (fun I1 m1 _ y0 y5=>
 opN p_ (aV #[9] 3 [y0]) Kp fun x9=>
 opN p_ (ae .gtr 3 x9 (.int .i64 0)) Kp fun x10=>
 condS x10
 (sU (fun J1=>
 opN p_ (aj (fn 44) [y0,v1]) Kp fun x14=>
 opN p_ (ae .geq 3 x14 (.int .i64 0)) Kp fun x16=>
 condS x16
 (e8 (stS p_ (eo 9 y0 none (some x14) none) fun x19=>
 stS p_ (ae .add 3 x14 (.int .i64 1)) fun x22=>
 stS p_ (eo 9 y0 (some x22) none none) fun x23=>
 J1 x23 x19))
 (J1 (.string ⟨#[]⟩) y0)) fun _ z0 z6=>
 opN p_ (aj (fn 41) [z6]) Kp fun x25=>
 opN p_ (b_ .neq 9 (.tmp 26) (.const (.string ⟨#[]⟩)) x25 (.string ⟨#[]⟩)) Kp fun x27=>
 condS x27
 (opN p_ (aS 36 1 [(0,x25)]) Kp fun x30=>
 opN p_ (cP #[36,36] 36 [y5,x30]) Kp fun x31=>
 cH I1 m1 z0 x31)
 (cH I1 m1 z0 y5))
 (K y5)) v0 (.slice none 0 0)
theorem yw {v0 v1:Value}:Shp p_ 19 [v0,v1] (ux v0 v1):=bT Tryz.call19 Tryz.func19 (an:={cuts:=[(8,[0,6])],loops:=[(2,[0,5])],drs:=[(6,.ofL [(0,1),(1,1),(2,1),(3,1),(4,1),(5,1),(6,1),(7,1),(8,1)])]}) fun _ _=>by kernel_rfl
def uy (v0 v1:Value)(Kp:PK)(K:Value->WP):WP:=
 opN p_ (aV #[9] 3 [v0]) Kp fun x6=>
 opN p_ (aV #[9] 3 [v1]) Kp fun x8=>
 opN p_ (b_ .eql 3 (.tmp 6) (.tmp 8) x6 x8) Kp fun x9=>
 gdK x9 true (fun k=>k v0) fun x11=>
 gdK x9 true (opN p_ (aj (fn 40) [x11]) Kp) fun x12=>
 gdK x9 true (fun k=>k v1) fun x13=>
 gdK x9 true (opN p_ (aj (fn 40) [x13]) Kp) fun x14=>
 gdK x9 true (opN p_ (b_ .eql 9 (.tmp 12) (.tmp 14) x12 x14) Kp) fun x15=>
 opN p_ (aK x9 x15 (.bool false)) Kp fun x16=>
 K x16
theorem yx {v0 v1:Value}:Shp p_ 20 [v0,v1] (uy v0 v1):=bT Tryz.call20 Tryz.func20 (an:={}) fun _ _=>by kernel_rfl
def mh (v0:Value)(Kp:PK)(K:Value→WP):WP:=
 opN p_ (aM 48) Kp fun x2=>
 opN p_ (aj (fn 45) [v0]) Kp fun x8=>
 opN p_ (bi x8 0) Kp fun x9=>
 opN p_ (bi x8 1) Kp fun x10=>
 opN p_ (aM 48) Kp fun x4=>
 opN p_ (ak 48 x4 x9) Kp fun _=>
 opN p_ (jZ .not x10) Kp fun x12=>
 condS x12
 (opN p_ (az 48 []) Kp fun x13=>
 opN p_ (ak 48 x2 x13) Kp fun _=>
 (stS p_ (cG 48 x2) fun r0=>K (.tuple #[r0,(.int .i64 42)])))
 (opN p_ (af 48 x4) Kp fun x14=>
 opN p_ (ak 48 x2 x14) Kp fun _=>
 (stS p_ (cG 48 x2) fun r0=>K (.tuple #[r0,(.int .i64 0)])))
theorem qW {v0:Value}:Shp p_ 21 [v0] (mh v0):=bT Tryz.call21 Tryz.func21 (an:={}) fun _ _=>by kernel_rfl
def uz (v0 v1:Value)(Kp:PK)(K:Value→WP):WP:=
 opN p_ (aV #[22] 3 [v0]) Kp fun x9=>
 dF (fun I1 m1 _ y5 y10=>
 opN p_ (ae .lss 3 y10 x9) Kp fun x11=>
 condS x11
 (opN p_ (bR 22 v0 y10) Kp fun x12=>
 opN p_ (af 52 x12) Kp fun x13=>
 opN p_ (aM 52) Kp fun x7=>
 opN p_ (ak 52 x7 x13) Kp fun _=>
 opN p_ (bB 52 x7 0) Kp fun x14=>
 opN p_ (af 9 x14) Kp fun x15=>
 opN p_ (aj (fn 20) [x15,v1]) Kp fun x17=>
 condS x17
 (opN p_ (bB 52 x7 1) Kp fun x19=>
 opN p_ (af 9 x19) Kp fun x20=>
 opN p_ (aS 36 1 [(0,x20)]) Kp fun x21=>
 opN p_ (cP #[36,36] 36 [y5,x21]) Kp fun x22=>
 opN p_ (ae .add 3 y10 (.int .i64 1)) Kp fun x23=>
 cH I1 m1 x22 x23)
 (opN p_ (ae .add 3 y10 (.int .i64 1)) Kp fun x23=>
 cH I1 m1 y5 x23))
 (K y5)) (.slice none 0 0) (.int .i64 0)
theorem yy {v0 v1:Value}:Shp p_ 22 [v0,v1] (uz v0 v1):=bT Tryz.call22 Tryz.func22 (an:={loops:=[(3,[5,10])]}) fun _ _=>by kernel_rfl
def uA (v0 v1:Value)(Kp:PK)(K:Value->WP):WP:=
 opN p_ (aj (fn 46) [v0,v1]) Kp fun x12=>
 opN p_ (bi x12 0) Kp fun x13=>
 opN p_ (bi x12 1) Kp fun x14=>
 opN p_ (bi x12 2) Kp fun x15=>
 K (.tuple #[x13,x15])
theorem yz {v0 v1:Value}:Shp p_ 23 [v0,v1] (uA v0 v1):=bT Tryz.call23 Tryz.func23 (an:={}) fun _ _=>by kernel_rfl
def qX (v0 v1:Value)(Kp:PK)(K:Value→WP):WP:=
 opN p_ (aV #[22] 3 [v0]) Kp fun x7=>
 opN p_ (aV #[22] 3 [v1]) Kp fun x9=>
 opN p_ (b_ .neq 3 (.tmp 7) (.tmp 9) x7 x9) Kp fun x10=>
 condS x10
 (K (.bool false))
 (bX (fun I1 m1 _ y5=>
 opN p_ (aV #[22] 3 [v0]) Kp fun x13=>
 opN p_ (ae .lss 3 y5 x13) Kp fun x14=>
 condS x14
 (e8 (stS p_ (bR 22 v0 y5) fun x19=>
 stS p_ (af 52 x19) fun x20=>
 stS p_ (bR 22 v1 y5) fun x23=>
 stS p_ (af 52 x23) fun x24=>
 stS p_ (b_ .neq 52 (.tmp 20) (.tmp 24) x20 x24) fun x25=>
 condS x25
 (K (.bool false))
 (opN p_ (ae .add 3 y5 (.int .i64 1)) Kp fun x16=>
 bI I1 m1 x16)))
 (K (.bool true))) (.int .i64 0))
theorem wo {v0 v1:Value}:Shp p_ 26 [v0,v1] (qX v0 v1):=bT Tryz.call26 Tryz.func26 (an:={loops:=[(4,[5])],drs:=[(6,.ofL [(0,1),(1,1),(2,1),(3,1),(4,1),(5,1),(6,1),(7,1),(8,1)])]}) fun _ _=>by kernel_rfl
def qY (v0:Value)(Kp:PK)(K:Value->WP):WP:=
 opN p_ (az 52 [(0,(.string ⟨#[65,99,99,101,112,116,45,69,110,99,111,100,105,110,103]⟩)),(1,v0)]) Kp fun x4=>
 opN p_ (aS 22 1 [(0,x4)]) Kp fun x5=>
 K x5
theorem wq {v0:Value}:Shp p_ 27 [v0] (qY v0):=bT Tryz.call27 Tryz.func27 (an:={}) fun _ _=>by kernel_rfl
def nj (v0 v1:Value)(Kp:PK)(K:Value->WP):WP:=
 opN p_ (af 3 v0) Kp fun x3=>
 opN p_ (ae .geq 3 x3 (.int .i64 1)) Kp fun x4=>
 gdK x4 true (opN p_ (af 3 v0) Kp) fun x6=>
 gdK x4 true (opN p_ (ae .leq 3 x6 (.int .i64 9)) Kp) fun x7=>
 opN p_ (aK x4 x7 (.bool false)) Kp fun x8=>
 gdK x8 true (opN p_ (af 25 v1) Kp) fun x10=>
 gdK x8 true (opN p_ (aj (fn 18) [x10]) Kp) fun x11=>
 opN p_ (aK x8 x11 (.bool false)) Kp fun x12=>
 K x12
theorem s_ {v0 v1:Value}:Shp p_ 28 [v0,v1] (nj v0 v1):=bT Tryz.call28 Tryz.func28 (an:={}) fun _ _=>by kernel_rfl
def nk (v0:Value)(Kp:PK)(K:Value->WP):WP:=
 opN p_ (aj (fn 30) [v0]) Kp fun x2=>
 K x2
theorem td {v0:Value}:Shp p_ 29 [v0] (nk v0):=bT Tryz.call29 Tryz.func29 (an:={}) fun _ _=>by kernel_rfl
def uB (v0:Value)(Kp:PK)(K:Value→WP):WP:=
 opN p_ (aM 4) Kp fun x2=>
 opN p_ (bG v0) Kp fun x5=>
 opN p_ (bB 25 x5 1) Kp fun x6=>
 opN p_ (af 22 x6) Kp fun x7=>
 opN p_ (aj (fn 49) [x7]) Kp fun x8=>
 rfS p_ x8 1 (fun u9 B1 N1 J1r=>
 B1 (opN p_ (b_ .eql 9 (.tmp 10) (.const (.string ⟨#[42]⟩)) u9 (.string ⟨#[42]⟩)) dW fun x11=>
 gdK x11 false (fun k=>k u9) fun x13=>
 gdK x11 false (opN p_ (aj (fn 20) [x13,(.string ⟨#[65,99,99,101,112,116,45,69,110,99,111,100,105,110,103]⟩)]) dW) fun x14=>
 opN p_ (aK x11 (.bool true) x14) dW fun x15=>
 condS x15
 (opN p_ (ak 4 x2 (.bool true)) dW fun _=>
 J1r)
 (N1))) (fun d1=>
 opN p_ (bG v0) (e_ [d1] Kp) fun x18=>
 opN p_ (bB 25 x18 1) (e_ [d1] Kp) fun x19=>
 opN p_ (af 22 x19) (e_ [d1] Kp) fun x20=>
 opN p_ (az 52 [(0,(.string ⟨#[86,97,114,121]⟩)),(1,(.string ⟨#[65,99,99,101,112,116,45,69,110,99,111,100,105,110,103]⟩))]) (e_ [d1] Kp) fun x21=>
 opN p_ (aS 22 1 [(0,x21)]) (e_ [d1] Kp) fun x22=>
 opN p_ (cP #[22,22] 22 [x20,x22]) (e_ [d1] Kp) fun x23=>
 opN p_ (bG v0) (e_ [d1] Kp) fun x24=>
 opN p_ (bB 25 x24 1) (e_ [d1] Kp) fun x25=>
 opN p_ (ak 22 x25 x23) (e_ [d1] Kp) fun _=>
 opN p_ (ak 4 x2 (.bool true)) (e_ [d1] Kp) fun _=>
 (tkS d1 ((stS p_ (cG 4 x2) fun r0=>K r0)))) (fun d1=>(tkS d1 ((stS p_ (cG 4 x2) fun r0=>K r0)))) (fun d1 ch=>(tkS d1 (Kp ch)))
theorem yA {v0:Value}:Shp p_ 30 [v0] (uB v0):=Ip Tryz.call30 Tryz.func30 (an:={}) fun _ _=>by kernel_rfl
def nl (v0:Value)(Kp:PK)(K:Value->WP):WP:=
 opN p_ (af 22 v0) Kp fun x2=>
 opN p_ (aj (fn 16) [x2]) Kp fun x3=>
 opN p_ (b_ .eql 9 (.tmp 3) (.const (.string ⟨#[103,122,105,112]⟩)) x3 (.string ⟨#[103,122,105,112]⟩)) Kp fun x4=>
 K x4
theorem te {v0:Value}:Shp p_ 31 [v0] (nl v0):=bT Tryz.call31 Tryz.func31 (an:={}) fun _ _=>by kernel_rfl
def nn (v0 v1:Value)(Kp:PK)(K:Value->WP):WP:=
 opN p_ (af 3 v1) Kp fun x3=>
 opN p_ (aj (fn 33) [v0,x3]) Kp fun x4=>
 K x4
theorem tf {v0 v1:Value}:Shp p_ 32 [v0,v1] (nn v0 v1):=bT Tryz.call32 Tryz.func32 (an:={}) fun _ _=>by kernel_rfl
def uC (v0 v1:Value)(Kp:PK)(K:Value→WP):WP:=
 opN p_ (bG v0) Kp fun x14=>
 opN p_ (bB 25 x14 2) Kp fun x15=>
 opN p_ (af 23 x15) Kp fun x16=>
 opN p_ (aj (fn 50) [x16,v1,(.int .i64 0)]) Kp fun x18=>
 opN p_ (bi x18 0) Kp fun x19=>
 opN p_ (bi x18 1) Kp fun x20=>
 opN p_ (b_ .neq 27 (.tmp 21) (.const (.int .i64 0)) x20 (.int .i64 0)) Kp fun x22=>
 condS x22
 (K (.bool false))
 (opN p_ (bG v0) Kp fun x24=>
 opN p_ (bB 25 x24 1) Kp fun x25=>
 opN p_ (af 22 x25) Kp fun x26=>
 opN p_ (aS 36 2 [(0,(.string ⟨#[67,111,110,116,101,110,116,45,76,101,110,103,116,104]⟩)),(1,(.string ⟨#[65,99,99,101,112,116,45,82,97,110,103,101,115]⟩))]) Kp fun x27=>
 opN p_ (aj (fn 51) [x26,x27]) Kp fun x28=>
 opN p_ (aV #[22] 3 [x28]) Kp fun x30=>
 bX (fun I1 m1 _ y31=>
 opN p_ (ae .lss 3 y31 x30) Kp fun x32=>
 condS x32
 (opN p_ (bR 22 x28 y31) Kp fun x34=>
 opN p_ (af 52 x34) Kp fun x35=>
 opN p_ (aM 52) Kp fun x9=>
 opN p_ (ak 52 x9 x35) Kp fun _=>
 opN p_ (bB 52 x9 1) Kp fun x37=>
 opN p_ (af 9 x37) Kp fun x38=>
 opN p_ (aj (fn 21) [x38]) Kp fun x39=>
 opN p_ (bi x39 0) Kp fun x40=>
 opN p_ (bi x39 1) Kp fun x41=>
 opN p_ (aM 48) Kp fun x10=>
 opN p_ (ak 48 x10 x40) Kp fun _=>
 opN p_ (b_ .eql 27 (.tmp 42) (.const (.int .i64 0)) x41 (.int .i64 0)) Kp fun x43=>
 gdK x43 true (opN p_ (bB 52 x9 0) Kp) fun x45=>
 gdK x43 true (opN p_ (af 9 x45) Kp) fun x46=>
 gdK x43 true (opN p_ (aj (fn 20) [x46,(.string ⟨#[69,84,97,103]⟩)]) Kp) fun x47=>
 opN p_ (aK x43 x47 (.bool false)) Kp fun x48=>
 condS x48
 (opN p_ (bB 48 x10 0) Kp fun x49=>
 opN p_ (ak 4 x49 (.bool true)) Kp fun _=>
 opN p_ (af 48 x10) Kp fun x52=>
 opN p_ (aj (fn 52) [x52]) Kp fun x53=>
 opN p_ (bR 22 x28 y31) Kp fun x54=>
 opN p_ (bB 52 x54 1) Kp fun x55=>
 opN p_ (ak 9 x55 x53) Kp fun _=>
 opN p_ (ae .add 3 y31 (.int .i64 1)) Kp fun x56=>
 bI I1 m1 x56)
 (opN p_ (ae .add 3 y31 (.int .i64 1)) Kp fun x56=>
 bI I1 m1 x56))
 (opN p_ (az 52 [(0,(.string ⟨#[67,111,110,116,101,110,116,45,69,110,99,111,100,105,110,103]⟩)),(1,(.string ⟨#[103,122,105,112]⟩))]) Kp fun x59=>
 opN p_ (aV #[23] 3 [x19]) Kp fun x61=>
 opN p_ (aj (fn 17) [x61]) Kp fun x62=>
 opN p_ (az 52 [(0,(.string ⟨#[67,111,110,116,101,110,116,45,76,101,110,103,116,104]⟩)),(1,x62)]) Kp fun x63=>
 opN p_ (aS 22 2 [(0,x59),(1,x63)]) Kp fun x64=>
 opN p_ (cP #[22,22] 22 [x28,x64]) Kp fun x65=>
 opN p_ (bG v0) Kp fun x66=>
 opN p_ (bB 25 x66 1) Kp fun x67=>
 opN p_ (ak 22 x67 x65) Kp fun _=>
 opN p_ (bG v0) Kp fun x70=>
 opN p_ (bB 25 x70 2) Kp fun x71=>
 opN p_ (ak 23 x71 x19) Kp fun _=>
 K (.bool true))) (.int .i64 0))
theorem yB {v0 v1:Value}:Shp p_ 33 [v0,v1] (uC v0 v1):=bT Tryz.call33 Tryz.func33 (an:={loops:=[(6,[31])]}) fun _ _=>by kernel_rfl
def wt (v0 v1:Value)(Kp:PK)(K:Value->WP):WP:=
 opN p_ (aj (fn 22) [v0,v1]) Kp fun x9=>
 opN p_ (aj (fn 53) [x9,(.string ⟨#[44]⟩)]) Kp fun x11=>
 opN p_ (aV #[36] 3 [x9]) Kp fun x13=>
 opN p_ (ae .gtr 3 x13 (.int .i64 0)) Kp fun x14=>
 K (.tuple #[x11,x14])
theorem As {v0 v1:Value}:Shp p_ 34 [v0,v1] (wt v0 v1):=bT Tryz.call34 Tryz.func34 (an:={}) fun _ _=>by kernel_rfl
def nq (v0:Value)(Kp:PK)(K:Value->WP):WP:=
 opN p_ (az 96 [(2,(fn 55))]) Kp fun x5=>
 opN p_ (aj (fn 54) [v0,x5]) Kp fun x6=>
 opN p_ (bi x6 0) Kp fun x7=>
 opN p_ (bi x6 1) Kp fun x8=>
 K (.tuple #[x7,x8])
theorem tg {v0:Value}:Shp p_ 35 [v0] (nq v0):=bT Tryz.call35 Tryz.func35 (an:={}) fun _ _=>by kernel_rfl
def mi (v0 v1 v2:Value)(Kp:PK)(K:Value→WP):WP:=
 opN p_ (az 69 [(0,v0),(1,(.string ⟨#[42]⟩))]) Kp fun x11=>
 bX (fun I1 m1 _ y12=>
 opN p_ (ae .lss 3 y12 (.int .i64 2)) Kp fun x13=>
 condS x13
 (opN p_ (iq 69 x11 y12) Kp fun x14=>
 opN p_ (af 65 v2) Kp fun x16=>
 opN p_ (mY 65 x16 x14 true) Kp fun x18=>
 opN p_ (bi x18 0) Kp fun x19=>
 opN p_ (bi x18 1) Kp fun x20=>
 condS x20
 (K x19)
 (opN p_ (ae .add 3 y12 (.int .i64 1)) Kp fun x23=>
 bI I1 m1 x23))
 (K v1)) (.int .i64 0)
theorem qZ {v0 v1 v2:Value}:Shp p_ 36 [v0,v1,v2] (mi v0 v1 v2):=bT Tryz.call36 Tryz.func36 (an:={loops:=[(2,[12])]}) fun _ _=>by kernel_rfl
def q9 (v0:Value)(Kp:PK)(K:Value->WP):WP:=
 opN p_ (aj (fn 56) [v0]) Kp fun x4=>
 K x4
theorem wu {v0:Value}:Shp p_ 37 [v0] (q9 v0):=bT Tryz.call37 Tryz.func37 (an:={}) fun _ _=>by kernel_rfl
def wv (v0 v1:Value)(Kp:PK)(K:Value→WP):WP:=
 opN p_ (aj (fn 22) [v0,v1]) Kp fun x10=>
 opN p_ (aV #[36] 3 [x10]) Kp fun x11=>
 bX (fun I1 m1 _ y12=>
 opN p_ (ae .lss 3 y12 x11) Kp fun x13=>
 condS x13
 (opN p_ (bR 36 x10 y12) Kp fun x14=>
 opN p_ (af 9 x14) Kp fun x15=>
 K (.tuple #[x15,(.bool true)]))
 (K (.tuple #[(.string ⟨#[]⟩),(.bool false)]))) (.int .i64 0)
theorem At {v0 v1:Value}:Shp p_ 38 [v0,v1] (wv v0 v1):=bT Tryz.call38 Tryz.func38 (an:={loops:=[(2,[12])]}) fun _ _=>by kernel_rfl
def uD (v0 v1:Value)(Kp:PK)(K:Value->WP):WP:=
 opN p_ (aj (fn 57) [v0,v1]) Kp fun x9=>
 opN p_ (bi x9 0) Kp fun x10=>
 opN p_ (bi x9 1) Kp fun x11=>
 opN p_ (bi x9 2) Kp fun x12=>
 K (.tuple #[x10,x11,x12])
theorem yC {v0 v1:Value}:Shp p_ 39 [v0,v1] (uD v0 v1):=bT Tryz.call39 Tryz.func39 (an:={}) fun _ _=>by kernel_rfl
def uE (v0:Value)(Kp:PK)(K:Value→WP):WP:=
 opN p_ (aj (fn 58) []) Kp fun x7=>
 opN p_ (aM 97) Kp fun x3=>
 opN p_ (ak 97 x3 x7) Kp fun _=>
 opN p_ (bz 9 23 v0) Kp fun x9=>
 opN p_ (aV #[23] 3 [x9]) Kp fun x11=>
 bX (fun I1 m1 _ y12=>
 opN p_ (ae .lss 3 y12 x11) Kp fun x13=>
 condS x13
 (opN p_ (bR 23 x9 y12) Kp fun x15=>
 opN p_ (af 5 x15) Kp fun x16=>
 opN p_ (bR 97 x3 x16) Kp fun x18=>
 opN p_ (af 3 x18) Kp fun x19=>
 opN p_ (ae .and 3 x19 (.int .i64 4)) Kp fun x20=>
 opN p_ (b_ .neq 3 (.tmp 20) (.const (.int .i64 0)) x20 (.int .i64 0)) Kp fun x21=>
 condS x21
 (opN p_ (ae .add 5 x16 (.int .u8 32)) Kp fun x25=>
 opN p_ (bR 23 x9 y12) Kp fun x26=>
 opN p_ (ak 5 x26 x25) Kp fun _=>
 opN p_ (ae .add 3 y12 (.int .i64 1)) Kp fun x27=>
 bI I1 m1 x27)
 (opN p_ (ae .add 3 y12 (.int .i64 1)) Kp fun x27=>
 bI I1 m1 x27))
 (opN p_ (bz 23 9 x9) Kp fun x29=>
 K x29)) (.int .i64 0)
theorem yD {v0:Value}:Shp p_ 40 [v0] (uE v0):=bT Tryz.call40 Tryz.func40 (an:={loops:=[(4,[12])]}) fun _ _=>by kernel_rfl
def ww (v0:Value)(Kp:PK)(K:Value->WP):WP:=
 opN p_ (aj (fn 59) [v0,(.string ⟨#[32,9]⟩)]) Kp fun x4=>
 K x4
theorem Au {v0:Value}:Shp p_ 41 [v0] (ww v0):=bT Tryz.call41 Tryz.func41 (an:={}) fun _ _=>by kernel_rfl
def kg (v0 v1:Value)(Kp:PK)(K:Value->WP):WP:=
 opN p_ (aj (fn 60) [v0,v1]) Kp fun x7=>
 K x7
theorem oT {v0 v1:Value}:Shp p_ 42 [v0,v1] (kg v0 v1):=bT Tryz.call42 Tryz.func42 (an:={}) fun _ _=>by kernel_rfl
def kh (v0:Value)(Kp:PK)(K:Value->WP):WP:=
 opN p_ (az 103 [(0,(.bool true)),(1,(.bool true)),(2,(fn 62))]) Kp fun x5=>
 opN p_ (aj (fn 61) [v0,x5]) Kp fun x6=>
 opN p_ (bi x6 0) Kp fun x7=>
 opN p_ (bi x6 1) Kp fun x8=>
 K (.tuple #[x7,x8])
theorem oU {v0:Value}:Shp p_ 43 [v0] (kh v0):=bT Tryz.call43 Tryz.func43 (an:={}) fun _ _=>by kernel_rfl
def kj (v0 v1:Value)(Kp:PK)(K:Value->WP):WP:=
 opN p_ (aj (fn 63) [v0,v1]) Kp fun x7=>
 K x7
theorem oV {v0 v1:Value}:Shp p_ 44 [v0,v1] (kj v0 v1):=bT Tryz.call44 Tryz.func44 (an:={}) fun _ _=>by kernel_rfl
def wx (v0:Value)(Kp:PK)(K:Value→WP):WP:=
 opN p_ (aM 48) Kp fun x2=>
 opN p_ (aj (fn 64) [v0,(.string ⟨#[87,47]⟩)]) Kp fun x10=>
 opN p_ (bi x10 0) Kp fun x11=>
 opN p_ (bi x10 1) Kp fun x12=>
 opN p_ (aV #[9] 3 [x11]) Kp fun x14=>
 opN p_ (ae .lss 3 x14 (.int .i64 2)) Kp fun x15=>
 gdK x15 false (fun k=>k x11) fun x17=>
 gdK x15 false (opN p_ (iq 9 x17 (.int .i64 0)) Kp) fun x18=>
 gdK x15 false (opN p_ (b_ .neq 5 (.tmp 18) (.const (.int .u8 34)) x18 (.int .u8 34)) Kp) fun x19=>
 opN p_ (aK x15 (.bool true) x19) Kp fun x20=>
 gdK x20 false (fun k=>k x11) fun x22=>
 gdK x20 false (fun k=>k x11) fun x23=>
 gdK x20 false (opN p_ (aV #[9] 3 [x23]) Kp) fun x24=>
 gdK x20 false (opN p_ (ae .sub 3 x24 (.int .i64 1)) Kp) fun x25=>
 gdK x20 false (opN p_ (iq 9 x22 x25) Kp) fun x26=>
 gdK x20 false (opN p_ (b_ .neq 5 (.tmp 26) (.const (.int .u8 34)) x26 (.int .u8 34)) Kp) fun x27=>
 opN p_ (aK x20 (.bool true) x27) Kp fun x28=>
 condS x28
 (opN p_ (az 48 []) Kp fun x29=>
 opN p_ (ak 48 x2 x29) Kp fun _=>
 (stS p_ (cG 48 x2) fun r0=>K (.tuple #[r0,(.bool false)])))
 (opN p_ (aV #[9] 3 [x11]) Kp fun x32=>
 opN p_ (ae .sub 3 x32 (.int .i64 1)) Kp fun x33=>
 opN p_ (eo 9 x11 (some (.int .i64 1)) (some x33) none) Kp fun x34=>
 opN p_ (bz 9 23 x34) Kp fun x36=>
 opN p_ (aV #[23] 3 [x36]) Kp fun x37=>
 bX (fun I1 m1 _ y38=>
 opN p_ (ae .lss 3 y38 x37) Kp fun x39=>
 condS x39
 (opN p_ (bR 23 x36 y38) Kp fun x40=>
 opN p_ (af 5 x40) Kp fun x41=>
 opN p_ (ae .leq 5 x41 (.int .u8 32)) Kp fun x43=>
 gdK x43 false (fun k=>k x41) fun x45=>
 gdK x43 false (opN p_ (b_ .eql 5 (.tmp 45) (.const (.int .u8 34)) x45 (.int .u8 34)) Kp) fun x46=>
 opN p_ (aK x43 (.bool true) x46) Kp fun x47=>
 gdK x47 false (fun k=>k x41) fun x49=>
 gdK x47 false (opN p_ (b_ .eql 5 (.tmp 49) (.const (.int .u8 127)) x49 (.int .u8 127)) Kp) fun x50=>
 opN p_ (aK x47 (.bool true) x50) Kp fun x51=>
 condS x51
 (opN p_ (az 48 []) Kp fun x52=>
 opN p_ (ak 48 x2 x52) Kp fun _=>
 (stS p_ (cG 48 x2) fun r0=>K (.tuple #[r0,(.bool false)])))
 (opN p_ (ae .add 3 y38 (.int .i64 1)) Kp fun x53=>
 bI I1 m1 x53))
 (opN p_ (az 48 [(0,x12),(1,x34)]) Kp fun x56=>
 opN p_ (ak 48 x2 x56) Kp fun _=>
 (stS p_ (cG 48 x2) fun r0=>K (.tuple #[r0,(.bool true)])))) (.int .i64 0))
theorem Av {v0:Value}:Shp p_ 45 [v0] (wx v0):=bT Tryz.call45 Tryz.func45 (an:={loops:=[(6,[38])]}) fun _ _=>by kernel_rfl
def aD (p0 p1 p2:Value)(K:Value->WP):WP:=
 (stS p_ (cG 23 p0) fun r0=>(stS p_ (cG 3 p1) fun r1=>(stS p_ (cG 27 p2) fun r2=>K (.tuple #[r0,r1,r2]))))
def uF (v0 v1:Value)(Kp:PK)(K:Value→WP):WP:=
 opN p_ (aM 23) Kp fun x4=>
 opN p_ (aM 3) Kp fun x5=>
 opN p_ (aM 27) Kp fun x6=>
 jw (fun J1=>
 opN p_ (ae .lss 3 v1 (.int .i64 0)) Kp fun x14=>
 condS x14
 (J1 x14)
 (opN p_ (ae .gtr 3 v1 (.int .i64 1048576)) Kp fun x16=>
 J1 x16)) fun _ z12=>
 condS z12
 (opN p_ (ak 23 x4 (.slice none 0 0)) Kp fun _=>
 opN p_ (ak 3 x5 (.int .i64 0)) Kp fun _=>
 opN p_ (ak 27 x6 (.int .i64 1)) Kp fun _=>
 (stS p_ (cG 23 x4) fun r0=>(stS p_ (cG 3 x5) fun r1=>(stS p_ (cG 27 x6) fun r2=>K (.tuple #[r0,r1,r2])))))
 (opN p_ (aV #[23] 3 [v0]) Kp fun x19=>
 opN p_ (ae .gtr 3 x19 (.int .i64 1048576)) Kp fun x20=>
 condS x20
 (opN p_ (ak 23 x4 (.slice none 0 0)) Kp fun _=>
 opN p_ (ak 3 x5 (.int .i64 0)) Kp fun _=>
 opN p_ (ak 27 x6 (.int .i64 6)) Kp fun _=>
 (stS p_ (cG 23 x4) fun r0=>(stS p_ (cG 3 x5) fun r1=>(stS p_ (cG 27 x6) fun r2=>K (.tuple #[r0,r1,r2])))))
 (opN p_ (lN (.func 65) [] [x4,x5,x6]) Kp fun x21=>
 opDf x21 [] fun d1=>
 opN p_ (az 107 [(0,v0)]) (gf p_ d1 (aD x4 x5 x6 K) Kp) fun x23=>
 opN p_ (dn 107 x23) (gf p_ d1 (aD x4 x5 x6 K) Kp) fun x24=>
 E_ (fun I1 m1 _  =>
 opN p_ (af 3 x5) (gf p_ d1 (aD x4 x5 x6 K) Kp) fun x25=>
 opN p_ (b_ .eql 3 (.tmp 25) (.const (.int .i64 0)) x25 (.int .i64 0)) (gf p_ d1 (aD x4 x5 x6 K) Kp) fun x26=>
 gdK x26 false (fun k=>k x24) fun x28=>
 gdK x26 false (opN p_ (bG x28) (gf p_ d1 (aD x4 x5 x6 K) Kp)) fun x29=>
 gdK x26 false (opN p_ (bB 107 x29 0) (gf p_ d1 (aD x4 x5 x6 K) Kp)) fun x30=>
 gdK x26 false (opN p_ (af 23 x30) (gf p_ d1 (aD x4 x5 x6 K) Kp)) fun x31=>
 gdK x26 false (opN p_ (aV #[23] 3 [x31]) (gf p_ d1 (aD x4 x5 x6 K) Kp)) fun x32=>
 gdK x26 false (opN p_ (ae .gtr 3 x32 (.int .i64 0)) (gf p_ d1 (aD x4 x5 x6 K) Kp)) fun x33=>
 opN p_ (aK x26 (.bool true) x33) (gf p_ d1 (aD x4 x5 x6 K) Kp) fun x34=>
 condS x34
 (opN p_ (aj (fn 66) [x24]) (gf p_ d1 (aD x4 x5 x6 K) Kp) fun x36=>
 e8 (stS p_ (bG x24) fun x39=>
 stS p_ (bB 107 x39 0) fun x40=>
 stS p_ (af 23 x40) fun x41=>
 stS p_ (af 23 x4) fun x43=>
 stS p_ (aV #[23] 3 [x43]) fun x44=>
 stS p_ (ae .sub 3 v1 x44) fun x45=>
 opN p_ (aj (fn 67) [x41,x45]) (gf p_ d1 (aD x4 x5 x6 K) Kp) fun x46=>
 stS p_ (bi x46 0) fun x47=>
 stS p_ (bi x46 1) fun x48=>
 stS p_ (bi x46 2) fun x49=>
 mZ (fun J2=>
 opN p_ (b_ .neq 27 (.tmp 50) (.const (.int .i64 0)) x49 (.int .i64 0)) (gf p_ d1 (aD x4 x5 x6 K) Kp) fun x51=>
 condS x51
 (opN p_ (fB 27 x49) (gf p_ d1 (aD x4 x5 x6 K) Kp) fun x53=>
 opN p_ (gj x53) (gf p_ d1 (aD x4 x5 x6 K) Kp) fun _=>
 J2)
 (J2)) fun _=>
 opN p_ (aj (fn 68) [x24,x48]) (gf p_ d1 (aD x4 x5 x6 K) Kp) fun x56=>
 opN p_ (aj (fn 68) [x24,(.int .i64 8)]) (gf p_ d1 (aD x4 x5 x6 K) Kp) fun x58=>
 opN p_ (aj (fn 72) [x47]) (gf p_ d1 (aD x4 x5 x6 K) Kp) fun x61=>
 opN p_ (aj (fn 71) [(.slice none 0 0),x61]) (gf p_ d1 (aD x4 x5 x6 K) Kp) fun x62=>
 opN p_ (aV #[23] 3 [x47]) (gf p_ d1 (aD x4 x5 x6 K) Kp) fun x64=>
 opN p_ (bz 3 112 x64) (gf p_ d1 (aD x4 x5 x6 K) Kp) fun x65=>
 opN p_ (aj (fn 71) [x62,x65]) (gf p_ d1 (aD x4 x5 x6 K) Kp) fun x66=>
 opN p_ (aj (fn 70) [x58,x66]) (gf p_ d1 (aD x4 x5 x6 K) Kp) fun x67=>
 opN p_ (aj (fn 69) [x67]) (gf p_ d1 (aD x4 x5 x6 K) Kp) fun x68=>
 opN p_ (af 23 x4) (gf p_ d1 (aD x4 x5 x6 K) Kp) fun x69=>
 opN p_ (cP #[23,23] 23 [x69,x47]) (gf p_ d1 (aD x4 x5 x6 K) Kp) fun x71=>
 opN p_ (ak 23 x4 x71) (gf p_ d1 (aD x4 x5 x6 K) Kp) fun _=>
 opN p_ (af 3 x5) (gf p_ d1 (aD x4 x5 x6 K) Kp) fun x72=>
 opN p_ (ae .add 3 x72 (.int .i64 1)) (gf p_ d1 (aD x4 x5 x6 K) Kp) fun x73=>
 opN p_ (ak 3 x5 x73) (gf p_ d1 (aD x4 x5 x6 K) Kp) fun _=>
 BW I1 m1))
 (e8 (stS p_ (af 23 x4) fun x74=>
 stD p_ (af 3 x5) fun D1 x75=>
 opN p_ (ak 23 x4 x74) (gf p_ d1 (aD x4 x5 x6 K) Kp) fun _=>
 (fun w=>D1 w∧(opN p_ (ak 3 x5 x75) (gf p_ d1 (aD x4 x5 x6 K) Kp) fun _=>
 opN p_ (ak 27 x6 (.int .i64 0)) (gf p_ d1 (aD x4 x5 x6 K) Kp) fun _=>
 dfS p_ d1 .returning (aD x4 x5 x6 K) Kp) w))))))
theorem yE {v0 v1:Value}:Shp p_ 46 [v0,v1] (uF v0 v1):=RC Tryz.call46 Tryz.func46 (an:={cuts:=[(3,[12]),(13,[])],loops:=[(8,[])],drs:=[(10,.ofL [(0,1),(1,1),(2,1),(3,1),(4,1),(5,1),(6,1),(7,1),(8,0),(9,1),(10,1),(11,1),(12,1),(13,1),(14,1),(15,1)]),(18,.ofL [(0,1),(1,3),(2,0),(3,0),(4,0)])]}) fun _ _=>by kernel_rfl
def pq (v0:Value)(Kp:PK)(K:Value->WP):WP:=
 opN p_ (dn 22 v0) Kp fun x1=>
 opN p_ (lN (.func 78) [] [x1]) Kp fun x3=>
 K x3
theorem u6 {v0:Value}:Shp p_ 49 [v0] (pq v0):=bT Tryz.call49 Tryz.func49 (an:={}) fun _ _=>by kernel_rfl
def zf (v0 v1 v2:Value)(Kp:PK)(K:Value→WP):WP:=
 opN p_ (ae .lss 3 v2 (.int .i64 0)) Kp fun x11=>
 gdK x11 false (fun k=>k v2) fun x13=>
 gdK x11 false (opN p_ (ae .gtr 3 x13 (.int .i64 4294967295)) Kp) fun x14=>
 opN p_ (aK x11 (.bool true) x14) Kp fun x15=>
 condS x15
 (K (.tuple #[(.slice none 0 0),(.int .i64 1)]))
 (opN p_ (aj (fn 79) [v0,v1]) Kp fun x19=>
 opN p_ (bi x19 0) Kp fun x20=>
 opN p_ (bi x19 1) Kp fun x21=>
 opN p_ (b_ .neq 27 (.tmp 22) (.const (.int .i64 0)) x21 (.int .i64 0)) Kp fun x23=>
 condS x23
 (K (.tuple #[(.slice none 0 0),x21]))
 (opN p_ (aj (fn 80) [v2]) Kp fun x26=>
 opN p_ (cP #[23,23] 23 [x26,x20]) Kp fun x28=>
 opN p_ (aj (fn 72) [v0]) Kp fun x30=>
 opN p_ (aj (fn 71) [x28,x30]) Kp fun x31=>
 opN p_ (aV #[23] 3 [v0]) Kp fun x33=>
 opN p_ (bz 3 112 x33) Kp fun x34=>
 opN p_ (aj (fn 71) [x31,x34]) Kp fun x35=>
 K (.tuple #[x35,(.int .i64 0)])))
theorem Cg {v0 v1 v2:Value}:Shp p_ 50 [v0,v1,v2] (zf v0 v1 v2):=bT Tryz.call50 Tryz.func50 (an:={}) fun _ _=>by kernel_rfl
def q_ (v0 v1:Value)(Kp:PK)(K:Value→WP):WP:=
 opN p_ (aV #[22] 3 [v0]) Kp fun x11=>
 dF (fun I1 m1 _ y5 y12=>
 opN p_ (ae .lss 3 y12 x11) Kp fun x13=>
 condS x13
 (opN p_ (bR 22 v0 y12) Kp fun x14=>
 opN p_ (af 52 x14) Kp fun x15=>
 opN p_ (aM 52) Kp fun x7=>
 opN p_ (ak 52 x7 x15) Kp fun _=>
 opN p_ (aV #[36] 3 [v1]) Kp fun x17=>
 bX (fun I2 m2 _ y18=>
 opN p_ (ae .lss 3 y18 x17) Kp fun x19=>
 condS x19
 (opN p_ (bR 36 v1 y18) Kp fun x20=>
 opN p_ (af 9 x20) Kp fun x21=>
 opN p_ (bB 52 x7 0) Kp fun x22=>
 opN p_ (af 9 x22) Kp fun x23=>
 opN p_ (aj (fn 20) [x23,x21]) Kp fun x25=>
 condS x25
 (opN p_ (ae .add 3 y12 (.int .i64 1)) Kp fun x31=>
 cH I1 m1 y5 x31)
 (opN p_ (ae .add 3 y18 (.int .i64 1)) Kp fun x26=>
 bI I2 m2 x26))
 (opN p_ (af 52 x7) Kp fun x28=>
 opN p_ (aS 22 1 [(0,x28)]) Kp fun x29=>
 opN p_ (cP #[22,22] 22 [y5,x29]) Kp fun x30=>
 opN p_ (ae .add 3 y12 (.int .i64 1)) Kp fun x31=>
 cH I1 m1 x30 x31)) (.int .i64 0))
 (K y5)) (.slice none 0 0) (.int .i64 0)
theorem wy {v0 v1:Value}:Shp p_ 51 [v0,v1] (q_ v0 v1):=bT Tryz.call51 Tryz.func51 (an:={loops:=[(3,[5,12]),(6,[18])]}) fun _ _=>by kernel_rfl
def nr (v0:Value)(Kp:PK)(K:Value->WP):WP:=
 opN p_ (dn 48 v0) Kp fun x1=>
 jw (fun J1=>
 opN p_ (bB 48 x1 0) Kp fun x4=>
 opN p_ (af 4 x4) Kp fun x5=>
 condS x5
 (J1 (.string ⟨#[87,47]⟩))
 (J1 (.string ⟨#[]⟩))) fun _ z3=>
 opN p_ (ae .add 9 z3 (.string ⟨#[34]⟩)) Kp fun x7=>
 opN p_ (bB 48 x1 1) Kp fun x8=>
 opN p_ (af 9 x8) Kp fun x9=>
 opN p_ (ae .add 9 x7 x9) Kp fun x10=>
 opN p_ (ae .add 9 x10 (.string ⟨#[34]⟩)) Kp fun x11=>
 K x11
theorem th {v0:Value}:Shp p_ 52 [v0] (nr v0):=bT Tryz.call52 Tryz.func52 (an:={cuts:=[(4,[3])]}) fun _ _=>by kernel_rfl
def re (v0 v1:Value)(Kp:PK)(K:Value→WP):WP:=
 opN p_ (aV #[36] 3 [v0]) Kp fun x12=>
 opN p_ (b_ .eql 3 (.tmp 12) (.const (.int .i64 0)) x12 (.int .i64 0)) Kp fun x14=>
 condS x14
 (K (.string ⟨#[]⟩))
 (opN p_ (b_ .eql 3 (.tmp 12) (.const (.int .i64 1)) x12 (.int .i64 1)) Kp fun x16=>
 condS x16
 (opN p_ (bR 36 v0 (.int .i64 0)) Kp fun x18=>
 opN p_ (af 9 x18) Kp fun x19=>
 K x19)
 (jw (fun J1=>
 opN p_ (aV #[9] 3 [v1]) Kp fun x21=>
 opN p_ (ae .gtr 3 x21 (.int .i64 0)) Kp fun x22=>
 condS x22
 (mZ (fun J2=>
 opN p_ (aV #[9] 3 [v1]) Kp fun x24=>
 opN p_ (aV #[36] 3 [v0]) Kp fun x26=>
 opN p_ (ae .sub 3 x26 (.int .i64 1)) Kp fun x27=>
 opN p_ (ae .quo 3 (.int .i64 9223372036854775807) x27) Kp fun x28=>
 opN p_ (ae .geq 3 x24 x28) Kp fun x29=>
 condS x29
 (opN p_ (fB 9 (.string ⟨#[115,116,114,105,110,103,115,58,32,74,111,105,110,32,111,117,116,112,117,116,32,108,101,110,103,116,104,32,111,118,101,114,102,108,111,119]⟩)) Kp fun x30=>
 opN p_ (gj x30) Kp fun _=>
 J2)
 (J2)) fun _=>
 opN p_ (aV #[9] 3 [v1]) Kp fun x33=>
 opN p_ (aV #[36] 3 [v0]) Kp fun x35=>
 opN p_ (ae .sub 3 x35 (.int .i64 1)) Kp fun x36=>
 opN p_ (ae .mul 3 x33 x36) Kp fun x37=>
 opN p_ (ae .add 3 (.int .i64 0) x37) Kp fun x38=>
 J1 x38)
 (J1 (.int .i64 0))) fun _ z5=>
 opN p_ (aV #[36] 3 [v0]) Kp fun x40=>
 dF (fun I1 m1 _ y5 y41=>
 opN p_ (ae .lss 3 y41 x40) Kp fun x42=>
 condS x42
 (opN p_ (bR 36 v0 y41) Kp fun x43=>
 opN p_ (af 9 x43) Kp fun x44=>
 mZ (fun J3=>
 opN p_ (aV #[9] 3 [x44]) Kp fun x46=>
 opN p_ (ae .sub 3 (.int .i64 9223372036854775807) y5) Kp fun x48=>
 opN p_ (ae .gtr 3 x46 x48) Kp fun x49=>
 condS x49
 (opN p_ (fB 9 (.string ⟨#[115,116,114,105,110,103,115,58,32,74,111,105,110,32,111,117,116,112,117,116,32,108,101,110,103,116,104,32,111,118,101,114,102,108,111,119]⟩)) Kp fun x50=>
 opN p_ (gj x50) Kp fun _=>
 J3)
 (J3)) fun _=>
 opN p_ (aV #[9] 3 [x44]) Kp fun x53=>
 opN p_ (ae .add 3 y5 x53) Kp fun x54=>
 opN p_ (ae .add 3 y41 (.int .i64 1)) Kp fun x55=>
 cH I1 m1 x54 x55)
 (opN p_ (aM 121) Kp fun x8=>
 opN p_ (aj (fn 81) [x8,y5]) Kp fun x57=>
 opN p_ (bR 36 v0 (.int .i64 0)) Kp fun x59=>
 opN p_ (af 9 x59) Kp fun x60=>
 opN p_ (aj (fn 82) [x8,x60]) Kp fun x61=>
 opN p_ (eo 36 v0 (some (.int .i64 1)) none none) Kp fun x63=>
 opN p_ (aV #[36] 3 [x63]) Kp fun x64=>
 bX (fun I2 m2 _ y65=>
 opN p_ (ae .lss 3 y65 x64) Kp fun x66=>
 condS x66
 (opN p_ (bR 36 x63 y65) Kp fun x67=>
 opN p_ (af 9 x67) Kp fun x68=>
 opN p_ (aj (fn 82) [x8,v1]) Kp fun x70=>
 opN p_ (aj (fn 82) [x8,x68]) Kp fun x72=>
 opN p_ (ae .add 3 y65 (.int .i64 1)) Kp fun x73=>
 bI I2 m2 x73)
 (opN p_ (aj (fn 83) [x8]) Kp fun x74=>
 K x74)) (.int .i64 0))) z5 (.int .i64 0)))
theorem wz {v0 v1:Value}:Shp p_ 53 [v0,v1] (re v0 v1):=bT Tryz.call53 Tryz.func53 (an:={cuts:=[(10,[]),(11,[5]),(16,[])],loops:=[(12,[5,41]),(22,[65])]}) fun _ _=>by kernel_rfl
def fg (v0 v1:Value)(Kp:PK)(K:Value→WP):WP:=
 opN p_ (dn 96 v1) Kp fun x3=>
 opN p_ (aM 62) Kp fun x4=>
 opN p_ (aM 27) Kp fun x5=>
 opN p_ (aM 62) Kp fun x6=>
 opN p_ (af 96 x3) Kp fun x10=>
 opN p_ (aj (fn 84) [x10,v0]) Kp fun x12=>
 rfS p_ x12 1 (fun u13 B1 N1 J1r=>
 B1 (opN p_ (bB 96 x3 2) dW fun x15=>
 opN p_ (af 94 x15) dW fun x16=>
 opN p_ (aj x16 [u13]) dW fun x18=>
 opN p_ (bi x18 0) dW fun x19=>
 opN p_ (bi x18 1) dW fun x20=>
 opN p_ (aM 67) dW fun x8=>
 opN p_ (ak 67 x8 x19) dW fun _=>
 opN p_ (jZ .not x20) dW fun x22=>
 condS x22
 (opN p_ (ak 62 x4 (.slice none 0 0)) dW fun _=>
 opN p_ (ak 27 x5 (.int .i64 42)) dW fun _=>
 J1r)
 (opN p_ (af 62 x6) dW fun x23=>
 opN p_ (af 67 x8) dW fun x24=>
 opN p_ (aS 62 1 [(0,x24)]) dW fun x25=>
 opN p_ (cP #[62,62] 62 [x23,x25]) dW fun x26=>
 opN p_ (ak 62 x6 x26) dW fun _=>
 N1))) (fun d1=>
 opN p_ (af 62 x6) (e_ [d1] Kp) fun x27=>
 opN p_ (ak 62 x4 x27) (e_ [d1] Kp) fun _=>
 opN p_ (ak 27 x5 (.int .i64 0)) (e_ [d1] Kp) fun _=>
 (tkS d1 ((stS p_ (cG 62 x4) fun r0=>(stS p_ (cG 27 x5) fun r1=>K (.tuple #[r0,r1])))))) (fun d1=>(tkS d1 ((stS p_ (cG 62 x4) fun r0=>(stS p_ (cG 27 x5) fun r1=>K (.tuple #[r0,r1])))))) (fun d1 ch=>(tkS d1 (Kp ch)))
theorem jc {v0 v1:Value}:Shp p_ 54 [v0,v1] (fg v0 v1):=Ip Tryz.call54 Tryz.func54 (an:={}) fun _ _=>by kernel_rfl
def pv (v0:Value)(Kp:PK)(K:Value→WP):WP:=
 opN p_ (aM 67) Kp fun x2=>
 opN p_ (aj (fn 39) [v0,(.string ⟨#[59]⟩)]) Kp fun x12=>
 opN p_ (bi x12 0) Kp fun x13=>
 opN p_ (bi x12 1) Kp fun x14=>
 opN p_ (bi x12 2) Kp fun x15=>
 opN p_ (aj (fn 41) [x13]) Kp fun x17=>
 opN p_ (aj (fn 40) [x17]) Kp fun x18=>
 opN p_ (az 67 [(0,x18),(1,(.int .i64 1000))]) Kp fun x19=>
 opN p_ (aM 67) Kp fun x7=>
 opN p_ (ak 67 x7 x19) Kp fun _=>
 opN p_ (bB 67 x7 0) Kp fun x20=>
 opN p_ (af 9 x20) Kp fun x21=>
 opN p_ (aj (fn 85) [x21]) Kp fun x22=>
 condS x15
 (opN p_ (aj (fn 41) [x14]) Kp fun x25=>
 opN p_ (aV #[9] 3 [x25]) Kp fun x27=>
 opN p_ (ae .lss 3 x27 (.int .i64 2)) Kp fun x28=>
 gdK x28 false (fun k=>k x25) fun x30=>
 gdK x28 false (opN p_ (eo 9 x30 none (some (.int .i64 2)) none) Kp) fun x31=>
 gdK x28 false (opN p_ (aj (fn 20) [x31,(.string ⟨#[113,61]⟩)]) Kp) fun x32=>
 gdK x28 false (opN p_ (jZ .not x32) Kp) fun x33=>
 opN p_ (aK x28 (.bool true) x33) Kp fun x34=>
 condS x34
 (opN p_ (az 67 []) Kp fun x35=>
 opN p_ (ak 67 x2 x35) Kp fun _=>
 (stS p_ (cG 67 x2) fun r0=>K (.tuple #[r0,(.bool false)])))
 (opN p_ (eo 9 x25 (some (.int .i64 2)) none none) Kp fun x38=>
 opN p_ (aj (fn 86) [x38]) Kp fun x39=>
 opN p_ (bi x39 0) Kp fun x40=>
 opN p_ (bi x39 1) Kp fun x41=>
 opN p_ (bB 67 x7 1) Kp fun x42=>
 opN p_ (ak 3 x42 x40) Kp fun _=>
 gdK x22 true (fun k=>k x41) fun x45=>
 opN p_ (aK x22 x45 (.bool false)) Kp fun x46=>
 opN p_ (af 67 x7) Kp fun x47=>
 opN p_ (ak 67 x2 x47) Kp fun _=>
 (stS p_ (cG 67 x2) fun r0=>K (.tuple #[r0,x46]))))
 (opN p_ (af 67 x7) Kp fun x47=>
 opN p_ (ak 67 x2 x47) Kp fun _=>
 (stS p_ (cG 67 x2) fun r0=>K (.tuple #[r0,x22])))
theorem u7 {v0:Value}:Shp p_ 55 [v0] (pv v0):=bT Tryz.call55 Tryz.func55 (an:={}) fun _ _=>by kernel_rfl
def pw (v0:Value)(Kp:PK)(K:Value->WP):WP:=
 opN p_ (aj (fn 87) [v0,(.int .i64 10)]) Kp fun x4=>
 K x4
theorem u_ {v0:Value}:Shp p_ 56 [v0] (pw v0):=bT Tryz.call56 Tryz.func56 (an:={}) fun _ _=>by kernel_rfl
def mj (v0 v1:Value)(Kp:PK)(K:Value→WP):WP:=
 opN p_ (aj (fn 88) [v0,v1]) Kp fun x10=>
 opN p_ (ae .geq 3 x10 (.int .i64 0)) Kp fun x12=>
 condS x12
 (e8 (stS p_ (eo 9 v0 none (some x10) none) fun x15=>
 stS p_ (aV #[9] 3 [v1]) fun x19=>
 stS p_ (ae .add 3 x10 x19) fun x20=>
 stS p_ (eo 9 v0 (some x20) none none) fun x21=>
 K (.tuple #[x15,x21,(.bool true)])))
 (K (.tuple #[v0,(.string ⟨#[]⟩),(.bool false)]))
theorem rf {v0 v1:Value}:Shp p_ 57 [v0,v1] (mj v0 v1):=bT Tryz.call57 Tryz.func57 (an:={drs:=[(3,.ofL [(0,1),(1,1),(2,1),(3,1),(4,1),(5,1),(6,1),(7,1),(8,1),(9,1),(10,1),(11,1)])]}) fun _ _=>by kernel_rfl
def px (Kp:PK)(K:Value→WP):WP:=
 opN p_ (aM 97) Kp fun x0=>
 opN p_ (aM 97) Kp fun x1=>
 bX (fun I1 m1 _ y4=>
 opN p_ (ae .lss 3 y4 (.int .i64 256)) Kp fun x5=>
 condS x5
 (opN p_ (ae .geq 3 y4 (.int .i64 97)) Kp fun x8=>
 gdK x8 true (fun k=>k y4) fun x10=>
 gdK x8 true (opN p_ (ae .leq 3 x10 (.int .i64 122)) Kp) fun x11=>
 opN p_ (aK x8 x11 (.bool false)) Kp fun x12=>
 gdK x12 false (fun k=>k y4) fun x14=>
 gdK x12 false (opN p_ (ae .geq 3 x14 (.int .i64 65)) Kp) fun x15=>
 gdK x12 false (fun k=>k x15) fun x16=>
 gdK x16 true (fun k=>k y4) fun x17=>
 gdK x16 true (opN p_ (ae .leq 3 x17 (.int .i64 90)) Kp) fun x18=>
 gdK x12 false (opN p_ (aK x16 x18 (.bool false)) Kp) fun x19=>
 opN p_ (aK x12 (.bool true) x19) Kp fun x20=>
 gdK x20 false (fun k=>k y4) fun x22=>
 gdK x20 false (opN p_ (ae .geq 3 x22 (.int .i64 48)) Kp) fun x23=>
 gdK x20 false (fun k=>k x23) fun x24=>
 gdK x24 true (fun k=>k y4) fun x25=>
 gdK x24 true (opN p_ (ae .leq 3 x25 (.int .i64 57)) Kp) fun x26=>
 gdK x20 false (opN p_ (aK x24 x26 (.bool false)) Kp) fun x27=>
 opN p_ (aK x20 (.bool true) x27) Kp fun x28=>
 mZ (fun J1=>
 gdK x28 false (fun k=>k y4) fun x31=>
 gdK x28 false (opN p_ (ae .gtr 3 x31 (.int .i64 32)) Kp) fun x32=>
 gdK x28 false (fun k=>k x32) fun x33=>
 gdK x33 true (fun k=>k y4) fun x34=>
 gdK x33 true (opN p_ (ae .lss 3 x34 (.int .i64 127)) Kp) fun x35=>
 gdK x28 false (opN p_ (aK x33 x35 (.bool false)) Kp) fun x36=>
 gdK x28 false (fun k=>k x36) fun x37=>
 gdK x37 true (fun k=>k y4) fun x38=>
 gdK x37 true (opN p_ (bz 3 5 x38) Kp) fun x39=>
 gdK x37 true (opN p_ (aj (fn 44) [(.string ⟨#[33,35,36,37,38,39,42,43,45,46,94,95,96,124,126]⟩),x39]) Kp) fun x40=>
 gdK x37 true (opN p_ (ae .geq 3 x40 (.int .i64 0)) Kp) fun x41=>
 gdK x28 false (opN p_ (aK x37 x41 (.bool false)) Kp) fun x42=>
 opN p_ (aK x28 (.bool true) x42) Kp fun x43=>
 condS x43
 (opN p_ (bR 97 x1 y4) Kp fun x45=>
 opN p_ (af 3 x45) Kp fun x46=>
 opN p_ (ae .or 3 x46 (.int .i64 1)) Kp fun x47=>
 opN p_ (bR 97 x1 y4) Kp fun x48=>
 opN p_ (ak 3 x48 x47) Kp fun _=>
 J1)
 (J1)) fun _=>
 mZ (fun J2=>
 opN p_ (b_ .eql 3 (.tmp 49) (.const (.int .i64 9)) y4 (.int .i64 9)) Kp fun x50=>
 gdK x50 false (fun k=>k y4) fun x52=>
 gdK x50 false (opN p_ (ae .geq 3 x52 (.int .i64 32)) Kp) fun x53=>
 gdK x50 false (fun k=>k x53) fun x54=>
 gdK x54 true (fun k=>k y4) fun x55=>
 gdK x54 true (opN p_ (b_ .neq 3 (.tmp 55) (.const (.int .i64 127)) x55 (.int .i64 127)) Kp) fun x56=>
 gdK x50 false (opN p_ (aK x54 x56 (.bool false)) Kp) fun x57=>
 opN p_ (aK x50 (.bool true) x57) Kp fun x58=>
 condS x58
 (opN p_ (bR 97 x1 y4) Kp fun x60=>
 opN p_ (af 3 x60) Kp fun x61=>
 opN p_ (ae .or 3 x61 (.int .i64 2)) Kp fun x62=>
 opN p_ (bR 97 x1 y4) Kp fun x63=>
 opN p_ (ak 3 x63 x62) Kp fun _=>
 J2)
 (J2)) fun _=>
 opN p_ (ae .geq 3 y4 (.int .i64 65)) Kp fun x65=>
 gdK x65 true (fun k=>k y4) fun x67=>
 gdK x65 true (opN p_ (ae .leq 3 x67 (.int .i64 90)) Kp) fun x68=>
 opN p_ (aK x65 x68 (.bool false)) Kp fun x69=>
 condS x69
 (opN p_ (bR 97 x1 y4) Kp fun x71=>
 opN p_ (af 3 x71) Kp fun x72=>
 opN p_ (ae .or 3 x72 (.int .i64 4)) Kp fun x73=>
 opN p_ (bR 97 x1 y4) Kp fun x74=>
 opN p_ (ak 3 x74 x73) Kp fun _=>
 opN p_ (ae .add 3 y4 (.int .i64 1)) Kp fun x75=>
 bI I1 m1 x75)
 (opN p_ (ae .add 3 y4 (.int .i64 1)) Kp fun x75=>
 bI I1 m1 x75))
 (opN p_ (af 97 x1) Kp fun x76=>
 opN p_ (ak 97 x0 x76) Kp fun _=>
 (stS p_ (cG 97 x0) fun r0=>K r0))) (.int .i64 0)
theorem vd  :Shp p_ 58 [] (px):=bT Tryz.call58 Tryz.func58 (an:={cuts:=[(8,[]),(10,[])],loops:=[(3,[4])]}) fun _ _=>by kernel_rfl
def rg (v0 v1:Value)(Kp:PK)(K:Value→WP):WP:=
 opN p_ (b_ .eql 9 (.tmp 7) (.const (.string ⟨#[]⟩)) v0 (.string ⟨#[]⟩)) Kp fun x8=>
 gdK x8 false (fun k=>k v1) fun x10=>
 gdK x8 false (opN p_ (b_ .eql 9 (.tmp 10) (.const (.string ⟨#[]⟩)) x10 (.string ⟨#[]⟩)) Kp) fun x11=>
 opN p_ (aK x8 (.bool true) x11) Kp fun x12=>
 condS x12
 (K v0)
 (opN p_ (aV #[9] 3 [v1]) Kp fun x15=>
 opN p_ (b_ .eql 3 (.tmp 15) (.const (.int .i64 1)) x15 (.int .i64 1)) Kp fun x16=>
 gdK x16 true (fun k=>k v1) fun x18=>
 gdK x16 true (opN p_ (iq 9 x18 (.int .i64 0)) Kp) fun x19=>
 gdK x16 true (opN p_ (ae .lss 5 x19 (.int .u8 128)) Kp) fun x20=>
 opN p_ (aK x16 x20 (.bool false)) Kp fun x21=>
 condS x21
 (e8 (stS p_ (iq 9 v1 (.int .i64 0)) fun x24=>
 stD p_ (iq 9 v1 (.int .i64 0)) fun D5 x27=>
 opN p_ (aj (fn 90) [v0,x24]) Kp fun x25=>
 (fun w=>D5 w∧(opN p_ (aj (fn 89) [x25,x27]) Kp fun x28=>
 K x28) w)))
 (opN p_ (aj (fn 91) [v1]) Kp fun x31=>
 opN p_ (bi x31 0) Kp fun x32=>
 opN p_ (bi x31 1) Kp fun x33=>
 opN p_ (aM 135) Kp fun x5=>
 opN p_ (ak 135 x5 x32) Kp fun _=>
 condS x33
 (opN p_ (aj (fn 93) [v0,x5]) Kp fun x36=>
 opN p_ (aj (fn 92) [x36,x5]) Kp fun x37=>
 K x37)
 (opN p_ (aj (fn 95) [v0,v1]) Kp fun x40=>
 opN p_ (aj (fn 94) [x40,v1]) Kp fun x42=>
 K x42)))
theorem wA {v0 v1:Value}:Shp p_ 59 [v0,v1] (rg v0 v1):=bT Tryz.call59 Tryz.func59 (an:={drs:=[(4,.ofL [(0,1),(1,1),(2,1),(4,2),(5,3),(3,0),(6,0),(7,1)])]}) fun _ _=>by kernel_rfl
def eF (v0 v1:Value)(Kp:PK)(K:Value->WP):WP:=
 opN p_ (aV #[9] 3 [v0]) Kp fun x6=>
 opN p_ (aV #[9] 3 [v1]) Kp fun x8=>
 opN p_ (ae .geq 3 x6 x8) Kp fun x9=>
 gdK x9 true (fun k=>k v0) fun x11=>
 gdK x9 true (fun k=>k v1) fun x12=>
 gdK x9 true (opN p_ (aV #[9] 3 [x12]) Kp) fun x13=>
 gdK x9 true (opN p_ (eo 9 x11 none (some x13) none) Kp) fun x14=>
 gdK x9 true (fun k=>k v1) fun x15=>
 gdK x9 true (opN p_ (b_ .eql 9 (.tmp 14) (.tmp 15) x14 x15) Kp) fun x16=>
 opN p_ (aK x9 x16 (.bool false)) Kp fun x17=>
 K x17
theorem fU {v0 v1:Value}:Shp p_ 60 [v0,v1] (eF v0 v1):=bT Tryz.call60 Tryz.func60 (an:={}) fun _ _=>by kernel_rfl
def et (v0 v1:Value)(Kp:PK)(K:Value→WP):WP:=
 opN p_ (dn 103 v1) Kp fun x3=>
 opN p_ (aM 74) Kp fun x4=>
 opN p_ (aM 27) Kp fun x5=>
 opN p_ (aM 74) Kp fun x6=>
 opN p_ (af 103 x3) Kp fun x10=>
 opN p_ (aj (fn 96) [x10,v0]) Kp fun x12=>
 rfS p_ x12 1 (fun u13 B1 N1 J1r=>
 B1 (opN p_ (bB 103 x3 2) dW fun x15=>
 opN p_ (af 101 x15) dW fun x16=>
 opN p_ (aj x16 [u13]) dW fun x18=>
 opN p_ (bi x18 0) dW fun x19=>
 opN p_ (bi x18 1) dW fun x20=>
 opN p_ (aM 78) dW fun x8=>
 opN p_ (ak 78 x8 x19) dW fun _=>
 opN p_ (jZ .not x20) dW fun x22=>
 condS x22
 (opN p_ (ak 74 x4 (.slice none 0 0)) dW fun _=>
 opN p_ (ak 27 x5 (.int .i64 42)) dW fun _=>
 J1r)
 (opN p_ (af 74 x6) dW fun x23=>
 opN p_ (af 78 x8) dW fun x24=>
 opN p_ (aS 74 1 [(0,x24)]) dW fun x25=>
 opN p_ (cP #[74,74] 74 [x23,x25]) dW fun x26=>
 opN p_ (ak 74 x6 x26) dW fun _=>
 N1))) (fun d1=>
 opN p_ (af 74 x6) (e_ [d1] Kp) fun x27=>
 opN p_ (ak 74 x4 x27) (e_ [d1] Kp) fun _=>
 opN p_ (ak 27 x5 (.int .i64 0)) (e_ [d1] Kp) fun _=>
 (tkS d1 ((stS p_ (cG 74 x4) fun r0=>(stS p_ (cG 27 x5) fun r1=>K (.tuple #[r0,r1])))))) (fun d1=>(tkS d1 ((stS p_ (cG 74 x4) fun r0=>(stS p_ (cG 27 x5) fun r1=>K (.tuple #[r0,r1])))))) (fun d1 ch=>(tkS d1 (Kp ch)))
theorem it {v0 v1:Value}:Shp p_ 61 [v0,v1] (et v0 v1):=Ip Tryz.call61 Tryz.func61 (an:={}) fun _ _=>by kernel_rfl
def kY (v0:Value)(Kp:PK)(K:Value→WP):WP:=
 opN p_ (aM 78) Kp fun x2=>
 opN p_ (aj (fn 39) [v0,(.string ⟨#[61]⟩)]) Kp fun x7=>
 opN p_ (bi x7 0) Kp fun x8=>
 opN p_ (bi x7 1) Kp fun x9=>
 opN p_ (bi x7 2) Kp fun x10=>
 opN p_ (bB 78 x2 0) Kp fun x11=>
 opN p_ (ak 9 x11 x8) Kp fun _=>
 opN p_ (bB 78 x2 1) Kp fun x12=>
 opN p_ (ak 9 x12 x9) Kp fun _=>
 opN p_ (bB 78 x2 2) Kp fun x13=>
 opN p_ (ak 4 x13 x10) Kp fun _=>
 opN p_ (bB 78 x2 0) Kp fun x14=>
 opN p_ (af 9 x14) Kp fun x15=>
 opN p_ (aj (fn 85) [x15]) Kp fun x16=>
 opN p_ (bB 78 x2 0) Kp fun x17=>
 opN p_ (af 9 x17) Kp fun x18=>
 opN p_ (aj (fn 40) [x18]) Kp fun x19=>
 opN p_ (bB 78 x2 0) Kp fun x20=>
 opN p_ (ak 9 x20 x19) Kp fun _=>
 opN p_ (bB 78 x2 2) Kp fun x21=>
 opN p_ (af 4 x21) Kp fun x22=>
 gdK x22 true (opN p_ (bB 78 x2 1) Kp) fun x24=>
 gdK x22 true (opN p_ (af 9 x24) Kp) fun x25=>
 gdK x22 true (opN p_ (aj (fn 85) [x25]) Kp) fun x26=>
 gdK x22 true (opN p_ (jZ .not x26) Kp) fun x27=>
 opN p_ (aK x22 x27 (.bool false)) Kp fun x28=>
 condS x28
 (opN p_ (bB 78 x2 1) Kp fun x30=>
 opN p_ (af 9 x30) Kp fun x31=>
 opN p_ (aj (fn 97) [x31]) Kp fun x32=>
 opN p_ (bi x32 0) Kp fun x33=>
 opN p_ (bi x32 1) Kp fun x34=>
 opN p_ (bB 78 x2 1) Kp fun x35=>
 opN p_ (ak 9 x35 x33) Kp fun _=>
 gdK x16 true (fun k=>k x34) fun x38=>
 opN p_ (aK x16 x38 (.bool false)) Kp fun x39=>
 opN p_ (af 78 x2) Kp fun x40=>
 opN p_ (ak 78 x2 x40) Kp fun _=>
 (stS p_ (cG 78 x2) fun r0=>K (.tuple #[r0,x39])))
 (opN p_ (af 78 x2) Kp fun x40=>
 opN p_ (ak 78 x2 x40) Kp fun _=>
 (stS p_ (cG 78 x2) fun r0=>K (.tuple #[r0,x16])))
theorem pT {v0:Value}:Shp p_ 62 [v0] (kY v0):=bT Tryz.call62 Tryz.func62 (an:={}) fun _ _=>by kernel_rfl
def ib (v0 v1:Value)(Kp:PK)(K:Value->WP):WP:=
 opN p_ (aj (fn 98) [v0,v1]) Kp fun x7=>
 K x7
theorem kZ {v0 v1:Value}:Shp p_ 63 [v0,v1] (ib v0 v1):=bT Tryz.call63 Tryz.func63 (an:={}) fun _ _=>by kernel_rfl
def kl (v0 v1:Value)(Kp:PK)(K:Value->WP):WP:=
 opN p_ (aj (fn 99) [v0,v1]) Kp fun x8=>
 opN p_ (bi x8 0) Kp fun x9=>
 opN p_ (bi x8 1) Kp fun x10=>
 K (.tuple #[x9,x10])
theorem oW {v0 v1:Value}:Shp p_ 64 [v0,v1] (kl v0 v1):=bT Tryz.call64 Tryz.func64 (an:={}) fun _ _=>by kernel_rfl
def eC (v0 v1 v2:Value)(rv:Value)(Kp:PK)(K:Value→WP):WP:=
 opN p_ (b_ .neq 20 (.tmp 5) (.const .nilIface) rv .nilIface) Kp fun x6=>
 condS x6
 (e8 (stD p_ (SM rv 20 27 false) fun D1 x8=>
 opN p_ (ak 23 v0 (.slice none 0 0)) Kp fun _=>
 (fun w=>D1 w∧(opN p_ (ak 3 v1 (.int .i64 0)) Kp fun _=>
 (fun w=>D1 w∧(opN p_ (ak 27 v2 x8) Kp fun _=>
 K (.tuple #[])) w)) w)))
 (K (.tuple #[]))
def k5:Ann:={drs:=[(2,.ofL [(0,2),(1,3),(2,0),(3,0),(4,0)])]}
theorem ti (v0 v1 v2:Value)(rv:Value)(Kp:PK)(K:Value->WP):Lb p_ k5 Tryz.f65 [v0,v1,v2] rv Kp K=eC v0 v1 v2 rv Kp K:=by kernel_rfl
theorem mm {v0 v1 v2:Value}{u:FrameMode}{Kp:PK}{K:Value->WP}{w:World}(h:eC v0 v1 v2 (fA u).1 Kp K w):CallsD p_ 65 ([v0,v1,v2]:List Value).toArray u w fun
   | .returned v,u',w'=>u'=(fA u).2/\K v w'
   | .panicked ch,u',w'=>u'=(fA u).2/\Kp ch w'
   | .outgrown,_,_=>False:=
 mX wide Tryz.func65 (an:=k5) (args:=[v0,v1,v2]) (cast (congrFun (ti v0 v1 v2 _ Kp K) w).symm h)
def k6 (v0:Value)(Kp:PK)(K:Value→WP):WP:=
 opN p_ (dn 105 v0) Kp fun x1=>
 opN p_ (af 105 x1) Kp fun x10=>
 opN p_ (bG x10) Kp fun x11=>
 opN p_ (bB 107 x11 0) Kp fun x12=>
 opN p_ (af 23 x12) Kp fun x13=>
 opN p_ (az 142 [(0,(.int .u8 31)),(1,(.int .u8 139)),(2,(.int .u8 8))]) Kp fun x14=>
 bX (fun I1 m1 _ y15=>
 opN p_ (ae .lss 3 y15 (.int .i64 3)) Kp fun x16=>
 condS x16
 (opN p_ (iq 142 x14 y15) Kp fun x17=>
 opN p_ (af 105 x1) Kp fun x18=>
 opN p_ (aj (fn 68) [x18,(.int .i64 1)]) Kp fun x19=>
 opN p_ (bR 23 x19 (.int .i64 0)) Kp fun x20=>
 opN p_ (af 5 x20) Kp fun x21=>
 opN p_ (b_ .eql 5 (.tmp 21) (.tmp 22) x21 x17) Kp fun x23=>
 opN p_ (aj (fn 69) [x23]) Kp fun x24=>
 opN p_ (ae .add 3 y15 (.int .i64 1)) Kp fun x25=>
 bI I1 m1 x25)
 (opN p_ (af 105 x1) Kp fun x26=>
 opN p_ (aj (fn 100) [x26,(.int .i64 1)]) Kp fun x27=>
 opN p_ (ae .lss 3 x27 (.int .i64 32)) Kp fun x29=>
 opN p_ (aj (fn 69) [x29]) Kp fun x30=>
 opN p_ (af 105 x1) Kp fun x31=>
 opN p_ (aj (fn 68) [x31,(.int .i64 6)]) Kp fun x32=>
 opN p_ (lN (.func 101) [] [x1]) Kp fun x33=>
 opN p_ (az 144 [(0,(.int .i64 4)),(1,x33)]) Kp fun x34=>
 opN p_ (af 105 x1) Kp fun x35=>
 opN p_ (lN (.func 102) [x35] []) Kp fun x36=>
 opN p_ (az 144 [(0,(.int .i64 8)),(1,x36)]) Kp fun x37=>
 opN p_ (af 105 x1) Kp fun x38=>
 opN p_ (lN (.func 102) [x38] []) Kp fun x39=>
 opN p_ (az 144 [(0,(.int .i64 16)),(1,x39)]) Kp fun x40=>
 opN p_ (az 145 [(0,x34),(1,x37),(2,x40)]) Kp fun x41=>
 opN p_ (aM 145) Kp fun x6=>
 opN p_ (ak 145 x6 x41) Kp fun _=>
 opN p_ (af 145 x6) Kp fun x42=>
 bX (fun I2 m2 _ y43=>
 opN p_ (ae .lss 3 y43 (.int .i64 3)) Kp fun x44=>
 condS x44
 (opN p_ (iq 145 x42 y43) Kp fun x45=>
 opN p_ (aM 144) Kp fun x8=>
 opN p_ (ak 144 x8 x45) Kp fun _=>
 opN p_ (bB 144 x8 0) Kp fun x47=>
 opN p_ (af 3 x47) Kp fun x48=>
 opN p_ (ae .and 3 x27 x48) Kp fun x49=>
 opN p_ (b_ .neq 3 (.tmp 49) (.const (.int .i64 0)) x49 (.int .i64 0)) Kp fun x50=>
 condS x50
 (opN p_ (bB 144 x8 1) Kp fun x51=>
 opN p_ (af 1 x51) Kp fun x52=>
 opN p_ (aj x52 []) Kp fun x53=>
 opN p_ (ae .add 3 y43 (.int .i64 1)) Kp fun x54=>
 bI I2 m2 x54)
 (opN p_ (ae .add 3 y43 (.int .i64 1)) Kp fun x54=>
 bI I2 m2 x54))
 (opN p_ (ae .and 3 x27 (.int .i64 2)) Kp fun x56=>
 opN p_ (b_ .neq 3 (.tmp 56) (.const (.int .i64 0)) x56 (.int .i64 0)) Kp fun x57=>
 condS x57
 (opN p_ (aV #[23] 3 [x13]) Kp fun x60=>
 opN p_ (af 105 x1) Kp fun x61=>
 opN p_ (bG x61) Kp fun x62=>
 opN p_ (bB 107 x62 0) Kp fun x63=>
 opN p_ (af 23 x63) Kp fun x64=>
 opN p_ (aV #[23] 3 [x64]) Kp fun x65=>
 opN p_ (ae .sub 3 x60 x65) Kp fun x66=>
 opN p_ (eo 23 x13 none (some x66) none) Kp fun x67=>
 opN p_ (aj (fn 72) [x67]) Kp fun x68=>
 opN p_ (af 105 x1) Kp fun x69=>
 opN p_ (aj (fn 100) [x69,(.int .i64 2)]) Kp fun x70=>
 opN p_ (ae .and 112 x68 (.int .u32 65535)) Kp fun x72=>
 opN p_ (bz 112 3 x72) Kp fun x73=>
 opN p_ (b_ .eql 3 (.tmp 70) (.tmp 73) x70 x73) Kp fun x74=>
 opN p_ (aj (fn 69) [x74]) Kp fun x75=>
 K (.tuple #[]))
 (K (.tuple #[])))) (.int .i64 0))) (.int .i64 0)
theorem pU {v0:Value}:Shp p_ 66 [v0] (k6 v0):=bT Tryz.call66 Tryz.func66 (an:={loops:=[(3,[15]),(12,[43])]}) fun _ _=>by kernel_rfl
def mn (v0 v1:Value)(Kp:PK)(K:Value->WP):WP:=
 opN p_ (aj (fn 103) [v0,v1]) Kp fun x10=>
 opN p_ (bi x10 0) Kp fun x11=>
 opN p_ (bi x10 1) Kp fun x12=>
 opN p_ (bi x10 2) Kp fun x13=>
 opN p_ (bi x10 3) Kp fun x14=>
 K (.tuple #[x11,x13,x14])
theorem rh {v0 v1:Value}:Shp p_ 67 [v0,v1] (mn v0 v1):=bT Tryz.call67 Tryz.func67 (an:={}) fun _ _=>by kernel_rfl
def k7 (v0 v1:Value)(Kp:PK)(K:Value→WP):WP:=
 mZ (fun J1=>
 opN p_ (bG v0) Kp fun x8=>
 opN p_ (bB 107 x8 0) Kp fun x9=>
 opN p_ (af 23 x9) Kp fun x10=>
 opN p_ (aV #[23] 3 [x10]) Kp fun x11=>
 opN p_ (ae .gtr 3 v1 x11) Kp fun x12=>
 condS x12
 (opN p_ (fB 27 (.int .i64 20)) Kp fun x13=>
 opN p_ (gj x13) Kp fun _=>
 J1)
 (J1)) fun _=>
 opN p_ (bG v0) Kp fun x15=>
 opN p_ (bB 107 x15 0) Kp fun x16=>
 opN p_ (af 23 x16) Kp fun x17=>
 opN p_ (eo 23 x17 none (some v1) none) Kp fun x19=>
 opN p_ (bG v0) Kp fun x22=>
 opN p_ (bB 107 x22 0) Kp fun x23=>
 opN p_ (af 23 x23) Kp fun x24=>
 opN p_ (eo 23 x24 (some v1) none none) Kp fun x26=>
 opN p_ (bG v0) Kp fun x27=>
 opN p_ (bB 107 x27 0) Kp fun x28=>
 opN p_ (ak 23 x28 x26) Kp fun _=>
 K x19
theorem pV {v0 v1:Value}:Shp p_ 68 [v0,v1] (k7 v0 v1):=bT Tryz.call68 Tryz.func68 (an:={cuts:=[(3,[])]}) fun _ _=>by kernel_rfl
def uG (v0:Value)(Kp:PK)(K:Value→WP):WP:=
 opN p_ (jZ .not v0) Kp fun x3=>
 condS x3
 (opN p_ (fB 27 (.int .i64 32)) Kp fun x4=>
 opN p_ (gj x4) Kp fun _=>
 K (.tuple #[]))
 (K (.tuple #[]))
theorem yF {v0:Value}:Shp p_ 69 [v0] (uG v0):=bT Tryz.call69 Tryz.func69 (an:={}) fun _ _=>by kernel_rfl
def uH (v0 v1:Value)(Kp:PK)(K:Value->WP):WP:=
 opN p_ (bz 23 9 v0) Kp fun x6=>
 opN p_ (bz 23 9 v1) Kp fun x8=>
 opN p_ (b_ .eql 9 (.tmp 6) (.tmp 8) x6 x8) Kp fun x9=>
 K x9
theorem yG {v0 v1:Value}:Shp p_ 70 [v0,v1] (uH v0 v1):=bT Tryz.call70 Tryz.func70 (an:={}) fun _ _=>by kernel_rfl
def zg (v0 v1:Value)(Kp:PK)(K:Value->WP):WP:=
 opN p_ (bz 112 5 v1) Kp fun x7=>
 opN p_ (ae .shr 112 v1 (.int .u64 8)) Kp fun x9=>
 opN p_ (bz 112 5 x9) Kp fun x10=>
 opN p_ (ae .shr 112 v1 (.int .u64 16)) Kp fun x12=>
 opN p_ (bz 112 5 x12) Kp fun x13=>
 opN p_ (ae .shr 112 v1 (.int .u64 24)) Kp fun x15=>
 opN p_ (bz 112 5 x15) Kp fun x16=>
 opN p_ (aS 23 4 [(0,x7),(1,x10),(2,x13),(3,x16)]) Kp fun x17=>
 opN p_ (cP #[23,23] 23 [v0,x17]) Kp fun x18=>
 K x18
theorem Ci {v0 v1:Value}:Shp p_ 71 [v0,v1] (zg v0 v1):=bT Tryz.call71 Tryz.func71 (an:={}) fun _ _=>by kernel_rfl
def Cj (v0:Value)(Kp:PK)(K:Value->WP):WP:=
 opN p_ (aj (fn 104) [(.int .u32 0),v0]) Kp fun x4=>
 K x4
theorem Ei {v0:Value}:Shp p_ 72 [v0] (Cj v0):=bT Tryz.call72 Tryz.func72 (an:={}) fun _ _=>by kernel_rfl
def mo (v0 v1:Value)(Kp:PK)(K:Value→WP):WP:=
 opN p_ (af 22 v1) Kp fun x7=>
 opN p_ (aj (fn 22) [x7,(.string ⟨#[86,97,114,121]⟩)]) Kp fun x8=>
 opN p_ (aV #[36] 3 [x8]) Kp fun x9=>
 bX (fun I1 m1 _ y10=>
 opN p_ (ae .lss 3 y10 x9) Kp fun x11=>
 condS x11
 (opN p_ (bR 36 x8 y10) Kp fun x12=>
 opN p_ (af 9 x12) Kp fun x13=>
 opN p_ (aj (fn 19) [x13,(.int .u8 44)]) Kp fun x15=>
 opN p_ (aV #[36] 3 [x15]) Kp fun x16=>
 bX (fun I2 m2 _ y17=>
 opN p_ (ae .lss 3 y17 x16) Kp fun x18=>
 condS x18
 (opN p_ (bR 36 x15 y17) Kp fun x19=>
 opN p_ (af 9 x19) Kp fun x20=>
 opN p_ (aj v0 [x20]) Kp fun x23=>
 opN p_ (jZ .not x23) Kp fun x24=>
 condS x24
 (K (.tuple #[]))
 (opN p_ (ae .add 3 y17 (.int .i64 1)) Kp fun x25=>
 bI I2 m2 x25))
 (opN p_ (ae .add 3 y10 (.int .i64 1)) Kp fun x26=>
 bI I1 m1 x26)) (.int .i64 0))
 (K (.tuple #[]))) (.int .i64 0)
theorem ri {v0 v1:Value}:Shp p_ 78 [v0,v1] (mo v0 v1):=bT Tryz.call78 Tryz.func78 (an:={loops:=[(1,[10]),(4,[17])]}) fun _ _=>by kernel_rfl
def mq (v0 v1:Value)(Kp:PK)(K:Value→WP):WP:=
 opN p_ (aj (fn 109) [v1]) Kp fun x13=>
 condS x13
 (K (.tuple #[(.slice none 0 0),(.int .i64 1)]))
 (opN p_ (aV #[23] 3 [v0]) Kp fun x16=>
 opN p_ (ae .gtr 3 x16 (.int .i64 524288)) Kp fun x17=>
 condS x17
 (K (.tuple #[(.slice none 0 0),(.int .i64 6)]))
 (opN p_ (aj (fn 110) []) Kp fun x18=>
 opN p_ (aj (fn 111) [v0,v1]) Kp fun x21=>
 opN p_ (aV #[158] 3 [x21]) Kp fun x23=>
 bX (fun I1 m1 _ y24=>
 opN p_ (ae .lss 3 y24 x23) Kp fun x25=>
 condS x25
 (opN p_ (bR 158 x21 y24) Kp fun x27=>
 opN p_ (af 162 x27) Kp fun x28=>
 opN p_ (aM 162) Kp fun x9=>
 opN p_ (ak 162 x9 x28) Kp fun _=>
 jw (fun J1=>
 opN p_ (aV #[158] 3 [x21]) Kp fun x31=>
 opN p_ (ae .sub 3 x31 (.int .i64 1)) Kp fun x32=>
 opN p_ (b_ .eql 3 (.tmp 29) (.tmp 32) y24 x32) Kp fun x33=>
 condS x33
 (J1 (.int .i64 1))
 (J1 (.int .i64 0))) fun _ z10=>
 opN p_ (af 162 x9) Kp fun x34=>
 opN p_ (aj (fn 112) [x34,x18,z10]) Kp fun x37=>
 opN p_ (ae .add 3 y24 (.int .i64 1)) Kp fun x38=>
 bI I1 m1 x38)
 (opN p_ (aj (fn 113) [x18]) Kp fun x40=>
 K (.tuple #[x40,(.int .i64 0)]))) (.int .i64 0)))
theorem rj {v0 v1:Value}:Shp p_ 79 [v0,v1] (mq v0 v1):=bT Tryz.call79 Tryz.func79 (an:={cuts:=[(13,[10])],loops:=[(8,[24])]}) fun _ _=>by kernel_rfl
def zh (v0:Value)(Kp:PK)(K:Value->WP):WP:=
 opN p_ (aS 23 4 [(0,(.int .u8 31)),(1,(.int .u8 139)),(2,(.int .u8 8)),(3,(.int .u8 0))]) Kp fun x3=>
 opN p_ (bz 3 112 v0) Kp fun x5=>
 opN p_ (aj (fn 71) [x3,x5]) Kp fun x6=>
 opN p_ (aS 23 2 [(0,(.int .u8 0)),(1,(.int .u8 255))]) Kp fun x7=>
 opN p_ (cP #[23,23] 23 [x6,x7]) Kp fun x8=>
 K x8
theorem Ck {v0:Value}:Shp p_ 80 [v0] (zh v0):=bT Tryz.call80 Tryz.func80 (an:={}) fun _ _=>by kernel_rfl
def iF (v0 v1:Value)(Kp:PK)(K:Value→WP):WP:=
 opN p_ (aj (fn 114) [v0]) Kp fun x5=>
 mZ (fun J1=>
 opN p_ (ae .lss 3 v1 (.int .i64 0)) Kp fun x7=>
 condS x7
 (opN p_ (fB 9 (.string ⟨#[115,116,114,105,110,103,115,46,66,117,105,108,100,101,114,46,71,114,111,119,58,32,110,101,103,97,116,105,118,101,32,99,111,117,110,116]⟩)) Kp fun x8=>
 opN p_ (gj x8) Kp fun _=>
 J1)
 (J1)) fun _=>
 e8 (stS p_ (bG v0) fun x10=>
 stS p_ (bB 121 x10 1) fun x11=>
 stS p_ (af 23 x11) fun x12=>
 stS p_ (vV #[23] 3 [x12]) fun x13=>
 stS p_ (bG v0) fun x15=>
 stS p_ (bB 121 x15 1) fun x16=>
 stS p_ (af 23 x16) fun x17=>
 stS p_ (aV #[23] 3 [x17]) fun x18=>
 stS p_ (ae .sub 3 x13 x18) fun x19=>
 stS p_ (ae .lss 3 x19 v1) fun x21=>
 condS x21
 (opN p_ (aj (fn 115) [v0,v1]) Kp fun x24=>
 K (.tuple #[]))
 (K (.tuple #[])))
theorem lR {v0 v1:Value}:Shp p_ 81 [v0,v1] (iF v0 v1):=bT Tryz.call81 Tryz.func81 (an:={cuts:=[(3,[])],drs:=[(3,.ofL [(0,1),(1,1),(2,1),(3,1),(4,1),(5,1),(6,1),(7,1),(8,1),(9,1),(10,1),(11,1),(12,1)])]}) fun _ _=>by kernel_rfl
def eK (v0 v1:Value)(Kp:PK)(K:Value->WP):WP:=
 opN p_ (aj (fn 114) [v0]) Kp fun x7=>
 opN p_ (bG v0) Kp fun x10=>
 opN p_ (bB 121 x10 1) Kp fun x11=>
 opN p_ (af 23 x11) Kp fun x12=>
 opN p_ (cP #[23,9] 23 [x12,v1]) Kp fun x14=>
 opN p_ (bG v0) Kp fun x15=>
 opN p_ (bB 121 x15 1) Kp fun x16=>
 opN p_ (ak 23 x16 x14) Kp fun _=>
 opN p_ (aV #[9] 3 [v1]) Kp fun x18=>
 K (.tuple #[x18,.nilIface])
theorem iG {v0 v1:Value}:Shp p_ 82 [v0,v1] (eK v0 v1):=bT Tryz.call82 Tryz.func82 (an:={}) fun _ _=>by kernel_rfl
def dN (v0 v1:Value)(Kp:PK)(K:Value->WP):WP:=
 opN p_ (dn 96 v0) Kp fun x2=>
 opN p_ (dn 9 v1) Kp fun x3=>
 opN p_ (lN (.func 116) [] [x3,x2]) Kp fun x5=>
 K x5
theorem fq {v0 v1:Value}:Shp p_ 84 [v0,v1] (dN v0 v1):=bT Tryz.call84 Tryz.func84 (an:={}) fun _ _=>by kernel_rfl
def uI (v0:Value)(Kp:PK)(K:Value->WP):WP:=
 opN p_ (b_ .neq 9 (.tmp 3) (.const (.string ⟨#[]⟩)) v0 (.string ⟨#[]⟩)) Kp fun x4=>
 gdK x4 true (fun k=>k v0) fun x6=>
 gdK x4 true (opN p_ (aj (fn 117) [x6,(.int .i64 1)]) Kp) fun x7=>
 opN p_ (aK x4 x7 (.bool false)) Kp fun x8=>
 K x8
theorem yH {v0:Value}:Shp p_ 85 [v0] (uI v0):=bT Tryz.call85 Tryz.func85 (an:={}) fun _ _=>by kernel_rfl
def py (v0:Value)(Kp:PK)(K:Value→WP):WP:=
 opN p_ (aj (fn 39) [v0,(.string ⟨#[46]⟩)]) Kp fun x11=>
 opN p_ (bi x11 0) Kp fun x12=>
 opN p_ (bi x11 1) Kp fun x13=>
 opN p_ (bi x11 2) Kp fun x14=>
 opN p_ (b_ .neq 9 (.tmp 15) (.const (.string ⟨#[48]⟩)) x12 (.string ⟨#[48]⟩)) Kp fun x16=>
 gdK x16 true (fun k=>k x12) fun x18=>
 gdK x16 true (opN p_ (b_ .neq 9 (.tmp 18) (.const (.string ⟨#[49]⟩)) x18 (.string ⟨#[49]⟩)) Kp) fun x19=>
 opN p_ (aK x16 x19 (.bool false)) Kp fun x20=>
 gdK x20 false (fun k=>k x13) fun x22=>
 gdK x20 false (opN p_ (aV #[9] 3 [x22]) Kp) fun x23=>
 gdK x20 false (opN p_ (ae .gtr 3 x23 (.int .i64 3)) Kp) fun x24=>
 opN p_ (aK x20 (.bool true) x24) Kp fun x25=>
 condS x25
 (K (.tuple #[(.int .i64 0),(.bool false)]))
 (opN p_ (ae .add 9 x13 (.string ⟨#[48,48,48]⟩)) Kp fun x29=>
 opN p_ (eo 9 x29 none (some (.int .i64 3)) none) Kp fun x30=>
 opN p_ (ae .add 9 x12 x30) Kp fun x31=>
 opN p_ (aj (fn 118) [x31]) Kp fun x32=>
 opN p_ (bi x32 0) Kp fun x33=>
 opN p_ (bi x32 1) Kp fun x34=>
 opN p_ (b_ .eql 27 (.tmp 36) (.const (.int .i64 0)) x34 (.int .i64 0)) Kp fun x37=>
 gdK x37 true (fun k=>k x33) fun x39=>
 gdK x37 true (opN p_ (ae .leq 3 x39 (.int .i64 1000)) Kp) fun x40=>
 opN p_ (aK x37 x40 (.bool false)) Kp fun x41=>
 K (.tuple #[x33,x41]))
theorem ve {v0:Value}:Shp p_ 86 [v0] (py v0):=bT Tryz.call86 Tryz.func86 (an:={}) fun _ _=>by kernel_rfl
def jD (v0 v1:Value)(Kp:PK)(K:Value→WP):WP:=
 opN p_ (b_ .eql 3 (.tmp 10) (.const (.int .i64 10)) v1 (.int .i64 10)) Kp fun x11=>
 condS x11
 (opN p_ (ae .leq 2 (.int .i64 0) v0) Kp fun x13=>
 gdK x13 true (fun k=>k v0) fun x15=>
 gdK x13 true (opN p_ (ae .lss 2 x15 (.int .i64 100)) Kp) fun x16=>
 opN p_ (aK x13 x16 (.bool false)) Kp fun x17=>
 condS x17
 (opN p_ (aj (fn 119) [v0]) Kp fun x19=>
 K x19)
 (opN p_ (aM 169) Kp fun x5=>
 opN p_ (bz 2 170 v0) Kp fun x21=>
 jw (fun J1=>
 opN p_ (ae .lss 2 v0 (.int .i64 0)) Kp fun x23=>
 condS x23
 (opN p_ (jZ .neg x21) Kp fun x25=>
 J1 x25)
 (J1 x21)) fun _ z6=>
 opN p_ (aj (fn 120) [z6]) Kp fun x27=>
 opN p_ (ae .add 3 (.int .i64 1) x27) Kp fun x29=>
 opN p_ (eo 169 x5 (some (.int .i64 1)) (some x29) none) Kp fun x30=>
 opN p_ (aj (fn 121) [x30,z6]) Kp fun x32=>
 opN p_ (ae .lss 2 v0 (.int .i64 0)) Kp fun x34=>
 condS x34
 (opN p_ (bR 169 x5 (.int .i64 0)) Kp fun x35=>
 opN p_ (ak 5 x35 (.int .u8 45)) Kp fun _=>
 opN p_ (ae .add 3 (.int .i64 1) x27) Kp fun x37=>
 opN p_ (eo 169 x5 none (some x37) none) Kp fun x38=>
 opN p_ (bz 23 9 x38) Kp fun x39=>
 K x39)
 (opN p_ (ae .add 3 (.int .i64 1) x27) Kp fun x41=>
 opN p_ (eo 169 x5 (some (.int .i64 1)) (some x41) none) Kp fun x42=>
 opN p_ (bz 23 9 x42) Kp fun x43=>
 K x43)))
 (opN p_ (bz 2 170 v0) Kp fun x46=>
 opN p_ (ae .lss 2 v0 (.int .i64 0)) Kp fun x49=>
 opN p_ (aj (fn 122) [(.slice none 0 0),x46,v1,x49,(.bool false)]) Kp fun x50=>
 opN p_ (bi x50 0) Kp fun x51=>
 opN p_ (bi x50 1) Kp fun x52=>
 K x52)
theorem ns {v0 v1:Value}:Shp p_ 87 [v0,v1] (jD v0 v1):=bT Tryz.call87 Tryz.func87 (an:={cuts:=[(8,[6])]}) fun _ _=>by kernel_rfl
def km (v0 v1:Value)(Kp:PK)(K:Value→WP):WP:=
 opN p_ (aV #[9] 3 [v1]) Kp fun x15=>
 opN p_ (b_ .eql 3 (.tmp 17) (.const (.int .i64 0)) x15 (.int .i64 0)) Kp fun x18=>
 gdK x18 false (fun k=>k v1) fun x20=>
 gdK x18 false (fun k=>k v0) fun x21=>
 gdK x18 false (opN p_ (b_ .eql 9 (.tmp 20) (.tmp 21) x20 x21) Kp) fun x22=>
 opN p_ (aK x18 (.bool true) x22) Kp fun x23=>
 condS x23
 (K (.int .i64 0))
 (opN p_ (b_ .eql 3 (.tmp 25) (.const (.int .i64 1)) x15 (.int .i64 1)) Kp fun x26=>
 condS x26
 (opN p_ (iq 9 v1 (.int .i64 0)) Kp fun x29=>
 opN p_ (aj (fn 63) [v0,x29]) Kp fun x30=>
 K x30)
 (opN p_ (aV #[9] 3 [v0]) Kp fun x34=>
 opN p_ (ae .geq 3 x15 x34) Kp fun x35=>
 condS x35
 (K (.int .i64 (-1)))
 (opN p_ (af 3 (.pointer (some ⟨0,0,none⟩))) Kp fun x38=>
 opN p_ (ae .leq 3 x15 x38) Kp fun x39=>
 gdK x39 true (fun k=>k v0) fun x41=>
 gdK x39 true (opN p_ (aV #[9] 3 [x41]) Kp) fun x42=>
 gdK x39 true (opN p_ (ae .leq 3 x42 (.int .i64 64)) Kp) fun x43=>
 opN p_ (aK x39 x43 (.bool false)) Kp fun x44=>
 condS x44
 (opN p_ (aj (fn 123) [v0,v1]) Kp fun x47=>
 K x47)
 (opN p_ (iq 9 v1 (.int .i64 0)) Kp fun x49=>
 opN p_ (iq 9 v1 (.int .i64 1)) Kp fun x51=>
 opN p_ (aV #[9] 3 [v0]) Kp fun x53=>
 opN p_ (ae .sub 3 x53 x15) Kp fun x55=>
 opN p_ (ae .add 3 x55 (.int .i64 1)) Kp fun x56=>
 dF (fun I1 m1 _ y8 y10=>
 opN p_ (ae .lss 3 y8 x56) Kp fun x59=>
 condS x59
 (jw (fun J1=>
 opN p_ (iq 9 v0 y8) Kp fun x62=>
 opN p_ (b_ .neq 5 (.tmp 62) (.tmp 63) x62 x49) Kp fun x64=>
 condS x64
 (opN p_ (ae .add 3 y8 (.int .i64 1)) Kp fun x67=>
 opN p_ (eo 9 v0 (some x67) (some x56) none) Kp fun x69=>
 opN p_ (aj (fn 63) [x69,x49]) Kp fun x71=>
 opN p_ (ae .lss 3 x71 (.int .i64 0)) Kp fun x73=>
 condS x73
 (K (.int .i64 (-1)))
 (opN p_ (ae .add 3 x71 (.int .i64 1)) Kp fun x76=>
 opN p_ (ae .add 3 y8 x76) Kp fun x77=>
 J1 x77))
 (J1 y8)) fun _ z8=>
 opN p_ (ae .add 3 z8 (.int .i64 1)) Kp fun x80=>
 opN p_ (iq 9 v0 x80) Kp fun x81=>
 opN p_ (b_ .eql 5 (.tmp 81) (.tmp 82) x81 x51) Kp fun x83=>
 gdK x83 true (fun k=>k v0) fun x85=>
 gdK x83 true (fun k=>k z8) fun x86=>
 gdK x83 true (fun k=>k z8) fun x87=>
 gdK x83 true (fun k=>k x15) fun x88=>
 gdK x83 true (opN p_ (ae .add 3 x87 x88) Kp) fun x89=>
 gdK x83 true (opN p_ (eo 9 x85 (some x86) (some x89) none) Kp) fun x90=>
 gdK x83 true (fun k=>k v1) fun x91=>
 gdK x83 true (opN p_ (b_ .eql 9 (.tmp 90) (.tmp 91) x90 x91) Kp) fun x92=>
 opN p_ (aK x83 x92 (.bool false)) Kp fun x93=>
 condS x93
 (K z8)
 (opN p_ (ae .add 3 z8 (.int .i64 1)) Kp fun x96=>
 opN p_ (ae .add 3 y10 (.int .i64 1)) Kp fun x98=>
 opN p_ (af 3 (.pointer (some ⟨0,0,none⟩))) Kp fun x100=>
 opN p_ (ae .leq 3 x15 x100) Kp fun x101=>
 gdK x101 true (fun k=>k x98) fun x103=>
 gdK x101 true (fun k=>k x96) fun x104=>
 gdK x101 true (opN p_ (aj (fn 124) [x104]) Kp) fun x105=>
 gdK x101 true (opN p_ (ae .gtr 3 x103 x105) Kp) fun x106=>
 opN p_ (aK x101 x106 (.bool false)) Kp fun x107=>
 condS x107
 (opN p_ (eo 9 v0 (some x96) none none) Kp fun x110=>
 opN p_ (aj (fn 123) [x110,v1]) Kp fun x112=>
 opN p_ (ae .geq 3 x112 (.int .i64 0)) Kp fun x114=>
 condS x114
 (opN p_ (ae .add 3 x112 x96) Kp fun x117=>
 K x117)
 (K (.int .i64 (-1))))
 (opN p_ (af 3 (.pointer (some ⟨0,0,none⟩))) Kp fun x119=>
 opN p_ (ae .gtr 3 x15 x119) Kp fun x120=>
 gdK x120 true (fun k=>k x98) fun x122=>
 gdK x120 true (fun k=>k x96) fun x123=>
 gdK x120 true (opN p_ (ae .shr 3 x123 (.int .u64 4)) Kp) fun x124=>
 gdK x120 true (opN p_ (ae .add 3 (.int .i64 4) x124) Kp) fun x125=>
 gdK x120 true (opN p_ (ae .geq 3 x122 x125) Kp) fun x126=>
 opN p_ (aK x120 x126 (.bool false)) Kp fun x127=>
 gdK x127 true (fun k=>k x96) fun x129=>
 gdK x127 true (fun k=>k x56) fun x130=>
 gdK x127 true (opN p_ (ae .lss 3 x129 x130) Kp) fun x131=>
 opN p_ (aK x127 x131 (.bool false)) Kp fun x132=>
 condS x132
 (opN p_ (eo 9 v0 (some x96) none none) Kp fun x135=>
 opN p_ (aj (fn 125) [x135,v1]) Kp fun x137=>
 opN p_ (ae .lss 3 x137 (.int .i64 0)) Kp fun x139=>
 condS x139
 (K (.int .i64 (-1)))
 (opN p_ (ae .add 3 x96 x137) Kp fun x142=>
 K x142))
 (cH I1 m1 x96 x98))))
 (K (.int .i64 (-1)))) (.int .i64 0) (.int .i64 0)))))
theorem oX {v0 v1:Value}:Shp p_ 88 [v0,v1] (km v0 v1):=bT Tryz.call88 Tryz.func88 (an:={cuts:=[(21,[8])],loops:=[(15,[8,10])]}) fun _ _=>by kernel_rfl
def iH (v0:Value)(Kp:PK)(K:Value→WP):WP:=
 opN p_ (aM 135) Kp fun x2=>
 bX (fun I1 m1 _ y4=>
 opN p_ (aV #[9] 3 [v0]) Kp fun x8=>
 opN p_ (ae .lss 3 y4 x8) Kp fun x9=>
 condS x9
 (opN p_ (iq 9 v0 y4) Kp fun x14=>
 opN p_ (ae .geq 5 x14 (.int .u8 128)) Kp fun x16=>
 condS x16
 (opN p_ (af 135 x2) Kp fun x17=>
 opN p_ (ak 135 x2 x17) Kp fun _=>
 (stS p_ (cG 135 x2) fun r0=>K (.tuple #[r0,(.bool false)])))
 (opN p_ (bR 135 x2 x14) Kp fun x19=>
 opN p_ (ak 4 x19 (.bool true)) Kp fun _=>
 opN p_ (ae .add 3 y4 (.int .i64 1)) Kp fun x11=>
 bI I1 m1 x11))
 (opN p_ (af 135 x2) Kp fun x20=>
 opN p_ (ak 135 x2 x20) Kp fun _=>
 (stS p_ (cG 135 x2) fun r0=>K (.tuple #[r0,(.bool true)])))) (.int .i64 0)
theorem lS {v0:Value}:Shp p_ 91 [v0] (iH v0):=bT Tryz.call91 Tryz.func91 (an:={loops:=[(2,[4])]}) fun _ _=>by kernel_rfl
def ie (v0 v1:Value)(Kp:PK)(K:Value→WP):WP:=
 bX (fun I1 m1 _ y0=>
 opN p_ (aV #[9] 3 [y0]) Kp fun x6=>
 opN p_ (ae .gtr 3 x6 (.int .i64 0)) Kp fun x7=>
 condS x7
 (opN p_ (iq 9 y0 (.int .i64 0)) Kp fun x10=>
 opN p_ (aj (fn 126) [v1,x10]) Kp fun x11=>
 opN p_ (jZ .not x11) Kp fun x12=>
 condS x12
 (K y0)
 (opN p_ (eo 9 y0 (some (.int .i64 1)) none none) Kp fun x14=>
 bI I1 m1 x14))
 (K y0)) v0
theorem k8 {v0 v1:Value}:Shp p_ 92 [v0,v1] (ie v0 v1):=bT Tryz.call92 Tryz.func92 (an:={loops:=[(1,[0])]}) fun _ _=>by kernel_rfl
def gC (v0 v1:Value)(Kp:PK)(K:Value→WP):WP:=
 bX (fun I1 m1 _ y0=>
 opN p_ (aV #[9] 3 [y0]) Kp fun x6=>
 opN p_ (ae .gtr 3 x6 (.int .i64 0)) Kp fun x7=>
 condS x7
 (opN p_ (aV #[9] 3 [y0]) Kp fun x11=>
 opN p_ (ae .sub 3 x11 (.int .i64 1)) Kp fun x12=>
 opN p_ (iq 9 y0 x12) Kp fun x13=>
 opN p_ (aj (fn 126) [v1,x13]) Kp fun x14=>
 opN p_ (jZ .not x14) Kp fun x15=>
 condS x15
 (K y0)
 (opN p_ (aV #[9] 3 [y0]) Kp fun x18=>
 opN p_ (ae .sub 3 x18 (.int .i64 1)) Kp fun x19=>
 opN p_ (eo 9 y0 none (some x19) none) Kp fun x20=>
 bI I1 m1 x20))
 (K y0)) v0
theorem kH {v0 v1:Value}:Shp p_ 93 [v0,v1] (gC v0 v1):=bT Tryz.call93 Tryz.func93 (an:={loops:=[(1,[0])]}) fun _ _=>by kernel_rfl
def dy (v0 v1:Value)(Kp:PK)(K:Value->WP):WP:=
 opN p_ (dn 103 v0) Kp fun x2=>
 opN p_ (dn 9 v1) Kp fun x3=>
 opN p_ (lN (.func 130) [] [x3,x2]) Kp fun x5=>
 K x5
theorem eP {v0 v1:Value}:Shp p_ 96 [v0,v1] (dy v0 v1):=bT Tryz.call96 Tryz.func96 (an:={}) fun _ _=>by kernel_rfl
def nt (v0:Value)(Kp:PK)(K:Value→WP):WP:=
 opN p_ (aV #[9] 3 [v0]) Kp fun x8=>
 opN p_ (ae .lss 3 x8 (.int .i64 2)) Kp fun x9=>
 gdK x9 false (fun k=>k v0) fun x11=>
 gdK x9 false (opN p_ (iq 9 x11 (.int .i64 0)) Kp) fun x12=>
 gdK x9 false (opN p_ (b_ .neq 5 (.tmp 12) (.const (.int .u8 34)) x12 (.int .u8 34)) Kp) fun x13=>
 opN p_ (aK x9 (.bool true) x13) Kp fun x14=>
 condS x14
 (K (.tuple #[(.string ⟨#[]⟩),(.bool false)]))
 (dF (fun I1 m1 _ y4 y5=>
 opN p_ (aV #[9] 3 [v0]) Kp fun x17=>
 opN p_ (ae .lss 3 y5 x17) Kp fun x18=>
 condS x18
 (opN p_ (iq 9 v0 y5) Kp fun x23=>
 sU (fun J1=>
 opN p_ (b_ .eql 5 (.tmp 25) (.const (.int .u8 34)) x23 (.int .u8 34)) Kp fun x26=>
 condS x26
 (opN p_ (bz 23 9 y4) Kp fun x28=>
 opN p_ (ae .add 3 y5 (.int .i64 1)) Kp fun x30=>
 opN p_ (aV #[9] 3 [v0]) Kp fun x32=>
 opN p_ (b_ .eql 3 (.tmp 30) (.tmp 32) x30 x32) Kp fun x33=>
 K (.tuple #[x28,x33]))
 (opN p_ (b_ .eql 5 (.tmp 35) (.const (.int .u8 92)) x23 (.int .u8 92)) Kp fun x36=>
 condS x36
 (opN p_ (ae .add 3 y5 (.int .i64 1)) Kp fun x38=>
 opN p_ (aV #[9] 3 [v0]) Kp fun x41=>
 opN p_ (b_ .eql 3 (.tmp 39) (.tmp 41) x38 x41) Kp fun x42=>
 condS x42
 (K (.tuple #[(.string ⟨#[]⟩),(.bool false)]))
 (opN p_ (iq 9 v0 x38) Kp fun x45=>
 J1 x38 x45))
 (J1 y5 x23))) fun _ z5 z6=>
 opN p_ (ae .lss 5 z6 (.int .u8 32)) Kp fun x47=>
 gdK x47 true (fun k=>k z6) fun x49=>
 gdK x47 true (opN p_ (b_ .neq 5 (.tmp 49) (.const (.int .u8 9)) x49 (.int .u8 9)) Kp) fun x50=>
 opN p_ (aK x47 x50 (.bool false)) Kp fun x51=>
 gdK x51 false (fun k=>k z6) fun x53=>
 gdK x51 false (opN p_ (b_ .eql 5 (.tmp 53) (.const (.int .u8 127)) x53 (.int .u8 127)) Kp) fun x54=>
 opN p_ (aK x51 (.bool true) x54) Kp fun x55=>
 condS x55
 (K (.tuple #[(.string ⟨#[]⟩),(.bool false)]))
 (opN p_ (aS 23 1 [(0,z6)]) Kp fun x58=>
 opN p_ (cP #[23,23] 23 [y4,x58]) Kp fun x59=>
 opN p_ (ae .add 3 z5 (.int .i64 1)) Kp fun x20=>
 cH I1 m1 x59 x20))
 (K (.tuple #[(.string ⟨#[]⟩),(.bool false)]))) (.slice none 0 0) (.int .i64 1))
theorem tj {v0:Value}:Shp p_ 97 [v0] (nt v0):=bT Tryz.call97 Tryz.func97 (an:={cuts:=[(15,[5,6])],loops:=[(5,[4,5])]}) fun _ _=>by kernel_rfl
def ig (v0 v1:Value)(Kp:PK)(K:Value→WP):WP:=
 opN p_ (aj (fn 60) [v0,v1]) Kp fun x8=>
 opN p_ (jZ .not x8) Kp fun x9=>
 condS x9
 (K (.tuple #[v0,(.bool false)]))
 (opN p_ (aV #[9] 3 [v1]) Kp fun x13=>
 opN p_ (eo 9 v0 (some x13) none none) Kp fun x14=>
 K (.tuple #[x14,(.bool true)]))
theorem k9 {v0 v1:Value}:Shp p_ 99 [v0,v1] (ig v0 v1):=bT Tryz.call99 Tryz.func99 (an:={}) fun _ _=>by kernel_rfl
def jE (v0 v1:Value)(Kp:PK)(K:Value→WP):WP:=
 opN p_ (aj (fn 68) [v0,v1]) Kp fun x10=>
 opN p_ (aV #[23] 3 [x10]) Kp fun x11=>
 dF (fun I1 m1 _ y5 y12=>
 opN p_ (ae .lss 3 y12 x11) Kp fun x13=>
 condS x13
 (opN p_ (bR 23 x10 y12) Kp fun x15=>
 opN p_ (af 5 x15) Kp fun x16=>
 opN p_ (bz 5 3 x16) Kp fun x19=>
 opN p_ (ae .mul 3 (.int .i64 8) y12) Kp fun x21=>
 opN p_ (bz 3 149 x21) Kp fun x22=>
 opN p_ (ae .shl 3 x19 x22) Kp fun x23=>
 opN p_ (ae .or 3 y5 x23) Kp fun x24=>
 opN p_ (ae .add 3 y12 (.int .i64 1)) Kp fun x25=>
 cH I1 m1 x24 x25)
 (K y5)) (.int .i64 0) (.int .i64 0)
theorem nu {v0 v1:Value}:Shp p_ 100 [v0,v1] (jE v0 v1):=bT Tryz.call100 Tryz.func100 (an:={loops:=[(3,[5,12])]}) fun _ _=>by kernel_rfl
def aR (p0 p1 p2 p3:Value)(K:Value->WP):WP:=
 (stS p_ (cG 23 p0) fun r0=>(stS p_ (cG 146 p1) fun r1=>(stS p_ (cG 3 p2) fun r2=>(stS p_ (cG 27 p3) fun r3=>K (.tuple #[r0,r1,r2,r3])))))
def uJ (v0 v1:Value)(Kp:PK)(K:Value→WP):WP:=
 opN p_ (aM 23) Kp fun x4=>
 opN p_ (aM 146) Kp fun x5=>
 opN p_ (aM 3) Kp fun x6=>
 opN p_ (aM 27) Kp fun x7=>
 jw (fun J1=>
 opN p_ (ae .lss 3 v1 (.int .i64 0)) Kp fun x15=>
 condS x15
 (J1 x15)
 (opN p_ (ae .gtr 3 v1 (.int .i64 1048576)) Kp fun x17=>
 J1 x17)) fun _ z13=>
 condS z13
 (opN p_ (ak 23 x4 (.slice none 0 0)) Kp fun _=>
 opN p_ (ak 146 x5 (.slice none 0 0)) Kp fun _=>
 opN p_ (ak 3 x6 (.int .i64 0)) Kp fun _=>
 opN p_ (ak 27 x7 (.int .i64 1)) Kp fun _=>
 (stS p_ (cG 23 x4) fun r0=>(stS p_ (cG 146 x5) fun r1=>(stS p_ (cG 3 x6) fun r2=>(stS p_ (cG 27 x7) fun r3=>K (.tuple #[r0,r1,r2,r3]))))))
 (opN p_ (aV #[23] 3 [v0]) Kp fun x20=>
 opN p_ (ae .gtr 3 x20 (.int .i64 1048576)) Kp fun x21=>
 condS x21
 (opN p_ (ak 23 x4 (.slice none 0 0)) Kp fun _=>
 opN p_ (ak 146 x5 (.slice none 0 0)) Kp fun _=>
 opN p_ (ak 3 x6 (.int .i64 0)) Kp fun _=>
 opN p_ (ak 27 x7 (.int .i64 6)) Kp fun _=>
 (stS p_ (cG 23 x4) fun r0=>(stS p_ (cG 146 x5) fun r1=>(stS p_ (cG 3 x6) fun r2=>(stS p_ (cG 27 x7) fun r3=>K (.tuple #[r0,r1,r2,r3]))))))
 (opN p_ (lN (.func 132) [] [x4,x5,x6,x7]) Kp fun x22=>
 opDf x22 [] fun d1=>
 opN p_ (aj (fn 133) [v0]) (gf p_ d1 (aR x4 x5 x6 x7 K) Kp) fun x24=>
 opN p_ (az 184 [(0,x24),(2,v1)]) (gf p_ d1 (aR x4 x5 x6 x7 K) Kp) fun x26=>
 opN p_ (dn 184 x26) (gf p_ d1 (aR x4 x5 x6 x7 K) Kp) fun x27=>
 opN p_ (az 186 [(0,(fn 134)),(1,(fn 135)),(2,(fn 136)),(3,(fn 137))]) (gf p_ d1 (aR x4 x5 x6 x7 K) Kp) fun x28=>
 opN p_ (aM 186) (gf p_ d1 (aR x4 x5 x6 x7 K) Kp) fun x9=>
 opN p_ (ak 186 x9 x28) (gf p_ d1 (aR x4 x5 x6 x7 K) Kp) fun _=>
 bX (fun I1 m1 _ y10=>
 opN p_ (b_ .eql 3 (.tmp 29) (.const (.int .i64 0)) y10 (.int .i64 0)) (gf p_ d1 (aR x4 x5 x6 x7 K) Kp) fun x30=>
 condS x30
 (opN p_ (aj (fn 138) [x27,(.int .i64 1)]) (gf p_ d1 (aR x4 x5 x6 x7 K) Kp) fun x32=>
 e8 (stD p_ (bG x27) fun D3 x36=>
 stD p_ (bB 184 x36 1) fun D4 x37=>
 stD p_ (af 23 x37) fun D5 x38=>
 stD p_ (aV #[23] 3 [x38]) fun D6 x39=>
 opN p_ (aj (fn 138) [x27,(.int .i64 2)]) (gf p_ d1 (aR x4 x5 x6 x7 K) Kp) fun x34=>
 (fun w=>D6 w∧(fun w=>D5 w∧(fun w=>D4 w∧(fun w=>D3 w∧(opN p_ (bR 186 x9 x34) (gf p_ d1 (aR x4 x5 x6 x7 K) Kp) fun x41=>
 opN p_ (af 185 x41) (gf p_ d1 (aR x4 x5 x6 x7 K) Kp) fun x42=>
 opN p_ (aj x42 [x27]) (gf p_ d1 (aR x4 x5 x6 x7 K) Kp) fun x44=>
 e8 (stD p_ (af 146 x5) fun D0 x45=>
 stS p_ (bG x27) fun x48=>
 stS p_ (bB 184 x48 1) fun x49=>
 stS p_ (af 23 x49) fun x50=>
 stS p_ (aV #[23] 3 [x50]) fun x51=>
 stS p_ (ae .sub 3 x51 x39) fun x53=>
 stS p_ (az 188 [(0,x34),(1,x53)]) fun x54=>
 opN p_ (aS 146 1 [(0,x54)]) (gf p_ d1 (aR x4 x5 x6 x7 K) Kp) fun x55=>
 (fun w=>D0 w∧(opN p_ (cP #[146,146] 146 [x45,x55]) (gf p_ d1 (aR x4 x5 x6 x7 K) Kp) fun x56=>
 opN p_ (ak 146 x5 x56) (gf p_ d1 (aR x4 x5 x6 x7 K) Kp) fun _=>
 bI I1 m1 x32) w))) w) w) w) w)))
 (e8 (stD p_ (bG x27) fun D1 x58=>
 stD p_ (bB 184 x58 1) fun D2 x59=>
 stD p_ (af 23 x59) fun D3 x60=>
 stD p_ (af 146 x5) fun D4 x61=>
 stD p_ (aV #[23] 3 [v0]) fun D6 x63=>
 stS p_ (bG x27) fun x65=>
 stS p_ (bB 184 x65 0) fun x66=>
 stS p_ (af 181 x66) fun x67=>
 opN p_ (aj (fn 139) [x67]) (gf p_ d1 (aR x4 x5 x6 x7 K) Kp) fun x68=>
 (fun w=>D6 w∧(fun w=>D4 w∧(fun w=>D3 w∧(fun w=>D2 w∧(fun w=>D1 w∧(stD p_ (ae .quo 3 x68 (.int .i64 8)) fun D12 x69=>
 stD p_ (ae .sub 3 x63 x69) fun D13 x70=>
 opN p_ (ak 23 x4 x60) (gf p_ d1 (aR x4 x5 x6 x7 K) Kp) fun _=>
 (fun w=>D13 w∧(fun w=>D12 w∧(fun w=>D6 w∧(fun w=>D4 w∧(opN p_ (ak 146 x5 x61) (gf p_ d1 (aR x4 x5 x6 x7 K) Kp) fun _=>
 (fun w=>D13 w∧(fun w=>D12 w∧(fun w=>D6 w∧(opN p_ (ak 3 x6 x70) (gf p_ d1 (aR x4 x5 x6 x7 K) Kp) fun _=>
 opN p_ (ak 27 x7 (.int .i64 0)) (gf p_ d1 (aR x4 x5 x6 x7 K) Kp) fun _=>
 dfS p_ d1 .returning (aR x4 x5 x6 x7 K) Kp) w) w) w)) w) w) w) w)) w) w) w) w) w)))) (.int .i64 0)))
theorem yI {v0 v1:Value}:Shp p_ 103 [v0,v1] (uJ v0 v1):=RC Tryz.call103 Tryz.func103 (an:={cuts:=[(3,[13])],loops:=[(10,[10])],drs:=[(12,.ofL [(0,1),(2,2),(3,3),(4,3),(5,3),(6,3),(1,0),(7,1),(8,1)]),(14,.ofL [(0,3),(1,1),(2,1),(3,1),(4,1),(5,1),(6,1),(7,1),(8,1),(9,1),(10,0),(11,0),(12,0)]),(15,.ofL [(0,2),(1,3),(2,3),(3,3),(4,3),(5,2),(6,3),(7,1),(8,1),(9,1),(10,1),(11,0),(12,3),(13,3),(14,0),(15,0),(16,0),(17,0)])]}) fun _ _=>by kernel_rfl
def Cm (v0 v1:Value)(Kp:PK)(K:Value→WP):WP:=
 opN p_ (aj (fn 140) []) Kp fun x9=>
 opN p_ (aM 190) Kp fun x5=>
 opN p_ (ak 190 x5 x9) Kp fun _=>
 opN p_ (jZ .xor v0) Kp fun x11=>
 opN p_ (aV #[23] 3 [v1]) Kp fun x13=>
 dF (fun I1 m1 _ y6 y14=>
 opN p_ (ae .lss 3 y14 x13) Kp fun x15=>
 condS x15
 (opN p_ (bR 23 v1 y14) Kp fun x16=>
 opN p_ (af 5 x16) Kp fun x17=>
 opN p_ (bz 112 5 y6) Kp fun x19=>
 opN p_ (ae .xor 5 x19 x17) Kp fun x21=>
 opN p_ (bR 190 x5 x21) Kp fun x22=>
 opN p_ (af 112 x22) Kp fun x23=>
 opN p_ (ae .shr 112 y6 (.int .u64 8)) Kp fun x25=>
 opN p_ (ae .xor 112 x23 x25) Kp fun x26=>
 opN p_ (ae .add 3 y14 (.int .i64 1)) Kp fun x27=>
 cH I1 m1 x26 x27)
 (opN p_ (jZ .xor y6) Kp fun x29=>
 K x29)) x11 (.int .i64 0)
theorem Ej {v0 v1:Value}:Shp p_ 104 [v0,v1] (Cm v0 v1):=bT Tryz.call104 Tryz.func104 (an:={loops:=[(4,[6,14])]}) fun _ _=>by kernel_rfl
def pz (v0:Value)(Kp:PK)(K:Value->WP):WP:=
 opN p_ (ae .lss 3 v0 (.int .i64 0)) Kp fun x4=>
 gdK x4 false (fun k=>k v0) fun x6=>
 gdK x4 false (opN p_ (ae .gtr 3 x6 (.int .i64 9)) Kp) fun x7=>
 opN p_ (aK x4 (.bool true) x7) Kp fun x8=>
 K x8
theorem vf {v0:Value}:Shp p_ 109 [v0] (pz v0):=bT Tryz.call109 Tryz.func109 (an:={}) fun _ _=>by kernel_rfl
def nv (Kp:PK)(K:Value->WP):WP:=
 opN p_ (az 205 [(2,(.bool true))]) Kp fun x1=>
 opN p_ (dn 205 x1) Kp fun x2=>
 K x2
theorem tm  :Shp p_ 110 [] (nv):=bT Tryz.call110 Tryz.func110 (an:={}) fun _ _=>by kernel_rfl
def nw (v0 v1:Value)(Kp:PK)(K:Value→WP):WP:=
 opN p_ (dn 23 v0) Kp fun x2=>
 opN p_ (dn 3 v1) Kp fun x3=>
 opN p_ (aM 160) Kp fun x5=>
 mZ (fun J1=>
 opN p_ (af 3 x3) Kp fun x16=>
 opN p_ (ae .gtr 3 x16 (.int .i64 0)) Kp fun x17=>
 condS x17
 (opN p_ (af 23 x2) Kp fun x19=>
 opN p_ (af 3 x3) Kp fun x20=>
 opN p_ (bz 3 149 x20) Kp fun x21=>
 opN p_ (ae .shl 3 (.int .i64 2) x21) Kp fun x22=>
 opN p_ (aj (fn 149) [x19,(.int .i64 32768),x22]) Kp fun x23=>
 opN p_ (bi x23 0) Kp fun x24=>
 opN p_ (bi x23 1) Kp fun x25=>
 opN p_ (ak 160 x5 x24) Kp fun _=>
 J1)
 (opN p_ (af 23 x2) Kp fun x26=>
 opN p_ (aV #[23] 3 [x26]) Kp fun x27=>
 bX (fun I1 m1 _ y28=>
 opN p_ (ae .lss 3 y28 x27) Kp fun x29=>
 condS x29
 (opN p_ (bR 23 x26 y28) Kp fun x30=>
 opN p_ (af 5 x30) Kp fun x31=>
 opN p_ (af 160 x5) Kp fun x32=>
 opN p_ (az 209 [(2,x31)]) Kp fun x34=>
 opN p_ (aS 160 1 [(0,x34)]) Kp fun x35=>
 opN p_ (cP #[160,160] 160 [x32,x35]) Kp fun x36=>
 opN p_ (ak 160 x5 x36) Kp fun _=>
 opN p_ (ae .add 3 y28 (.int .i64 1)) Kp fun x37=>
 bI I1 m1 x37)
 (J1)) (.int .i64 0))) fun _=>
 opN p_ (aM 158) Kp fun x8=>
 opN p_ (aM 3) Kp fun x9=>
 opN p_ (aM 3) Kp fun x10=>
 opN p_ (aM 3) Kp fun x11=>
 opN p_ (ak 3 x9 (.int .i64 0)) Kp fun _=>
 opN p_ (ak 3 x10 (.int .i64 0)) Kp fun _=>
 opN p_ (ak 3 x11 (.int .i64 0)) Kp fun _=>
 opN p_ (lN (.func 150) [] [x8,x5,x9,x2,x10,x11,x3]) Kp fun x38=>
 opN p_ (af 160 x5) Kp fun x39=>
 opN p_ (aV #[160] 3 [x39]) Kp fun x40=>
 bX (fun I2 m2 _ y41=>
 opN p_ (ae .lss 3 y41 x40) Kp fun x42=>
 condS x42
 (opN p_ (bR 160 x39 y41) Kp fun x44=>
 opN p_ (af 209 x44) Kp fun x45=>
 opN p_ (aM 209) Kp fun x14=>
 opN p_ (ak 209 x14 x45) Kp fun _=>
 opN p_ (af 3 x11) Kp fun x46=>
 opN p_ (bB 209 x14 0) Kp fun x47=>
 opN p_ (af 3 x47) Kp fun x48=>
 opN p_ (GF #[3,3] 3 [(.int .i64 1),x48]) Kp fun x49=>
 opN p_ (ae .add 3 x46 x49) Kp fun x50=>
 opN p_ (ak 3 x11 x50) Kp fun _=>
 opN p_ (af 3 x11) Kp fun x51=>
 opN p_ (af 3 x10) Kp fun x52=>
 opN p_ (ae .sub 3 x51 x52) Kp fun x53=>
 opN p_ (af 3 x3) Kp fun x54=>
 opN p_ (b_ .eql 3 (.tmp 54) (.const (.int .i64 0)) x54 (.int .i64 0)) Kp fun x55=>
 gdK x55 true (fun k=>k x53) fun x57=>
 gdK x55 true (opN p_ (b_ .eql 3 (.tmp 57) (.const (.int .i64 30000)) x57 (.int .i64 30000)) Kp) fun x58=>
 opN p_ (aK x55 x58 (.bool false)) Kp fun x59=>
 gdK x59 false (opN p_ (af 3 x3) Kp) fun x61=>
 gdK x59 false (opN p_ (ae .gtr 3 x61 (.int .i64 0)) Kp) fun x62=>
 gdK x59 false (fun k=>k x62) fun x63=>
 gdK x63 true (fun k=>k y41) fun x64=>
 gdK x63 true (opN p_ (ae .add 3 x64 (.int .i64 1)) Kp) fun x65=>
 gdK x63 true (opN p_ (af 3 x9) Kp) fun x66=>
 gdK x63 true (opN p_ (ae .sub 3 x65 x66) Kp) fun x67=>
 gdK x63 true (opN p_ (b_ .eql 3 (.tmp 67) (.const (.int .i64 8192)) x67 (.int .i64 8192)) Kp) fun x68=>
 gdK x63 true (fun k=>k x68) fun x69=>
 gdK x69 false (fun k=>k x53) fun x70=>
 gdK x69 false (opN p_ (ae .gtr 3 x70 (.int .i64 30000)) Kp) fun x71=>
 gdK x63 true (opN p_ (aK x69 (.bool true) x71) Kp) fun x72=>
 gdK x59 false (opN p_ (aK x63 x72 (.bool false)) Kp) fun x73=>
 opN p_ (aK x59 (.bool true) x73) Kp fun x74=>
 condS x74
 (opN p_ (ae .add 3 y41 (.int .i64 1)) Kp fun x77=>
 opN p_ (aj x38 [x77]) Kp fun x78=>
 opN p_ (ae .add 3 y41 (.int .i64 1)) Kp fun x79=>
 bI I2 m2 x79)
 (opN p_ (ae .add 3 y41 (.int .i64 1)) Kp fun x79=>
 bI I2 m2 x79))
 (opN p_ (af 3 x9) Kp fun x80=>
 opN p_ (af 160 x5) Kp fun x81=>
 opN p_ (aV #[160] 3 [x81]) Kp fun x82=>
 opN p_ (ae .lss 3 x80 x82) Kp fun x83=>
 gdK x83 false (opN p_ (af 158 x8) Kp) fun x85=>
 gdK x83 false (opN p_ (aV #[158] 3 [x85]) Kp) fun x86=>
 gdK x83 false (opN p_ (b_ .eql 3 (.tmp 86) (.const (.int .i64 0)) x86 (.int .i64 0)) Kp) fun x87=>
 opN p_ (aK x83 (.bool true) x87) Kp fun x88=>
 condS x88
 (opN p_ (af 160 x5) Kp fun x90=>
 opN p_ (aV #[160] 3 [x90]) Kp fun x91=>
 opN p_ (aj x38 [x91]) Kp fun x92=>
 opN p_ (af 158 x8) Kp fun x93=>
 K x93)
 (opN p_ (af 158 x8) Kp fun x93=>
 K x93))) (.int .i64 0)
theorem tp {v0 v1:Value}:Shp p_ 111 [v0,v1] (nw v0 v1):=bT Tryz.call111 Tryz.func111 (an:={cuts:=[(9,[])],loops:=[(5,[28]),(13,[41])]}) fun _ _=>by kernel_rfl
def ko (v0 v1 v2:Value)(Kp:PK)(K:Value→WP):WP:=
 opN p_ (dn 162 v0) Kp fun x3=>
 opN p_ (az 212 [(0,(fn 151)),(1,(fn 152)),(2,(fn 153))]) Kp fun x12=>
 opN p_ (aM 212) Kp fun x6=>
 opN p_ (ak 212 x6 x12) Kp fun _=>
 jw (fun J1=>
 opN p_ (bB 162 x3 2) Kp fun x13=>
 opN p_ (af 3 x13) Kp fun x14=>
 opN p_ (ae .gtr 3 x14 (.int .i64 0)) Kp fun x15=>
 condS x15
 (e8 (stD p_ (af 162 x3) fun D0 x16=>
 stD p_ (bR 212 x6 (.int .i64 0)) fun D1 x17=>
 stD p_ (af 210 x17) fun D2 x18=>
 opN p_ (aj (fn 155) [v1]) Kp fun x20=>
 (fun w=>D2 w∧(fun w=>D1 w∧(fun w=>D0 w∧(opN p_ (aj (fn 154) [x16,x18,x20]) Kp fun x21=>
 opN p_ (eo 212 x6 (some (.int .i64 1)) none none) Kp fun x22=>
 opN p_ (aV #[214] 3 [x22]) Kp fun x23=>
 vW (fun I1 m1 _ y7 y8 y24=>
 opN p_ (ae .lss 3 y24 x23) Kp fun x25=>
 condS x25
 (opN p_ (bR 214 x22 y24) Kp fun x27=>
 opN p_ (af 210 x27) Kp fun x28=>
 e8 (stD p_ (af 162 x3) fun D0 x29=>
 opN p_ (aj (fn 155) [v1]) Kp fun x32=>
 (fun w=>D0 w∧(opN p_ (aj (fn 154) [x29,x28,x32]) Kp fun x33=>
 opN p_ (ae .lss 3 x33 y8) Kp fun x36=>
 condS x36
 (opN p_ (ae .add 3 y24 (.int .i64 1)) Kp fun x39=>
 opN p_ (ae .add 3 y24 (.int .i64 1)) Kp fun x40=>
 gY I1 m1 x39 x33 x40)
 (opN p_ (ae .add 3 y24 (.int .i64 1)) Kp fun x40=>
 gY I1 m1 y7 y8 x40)) w)))
 (J1 y7)) (.int .i64 0) x21 (.int .i64 0)) w) w) w)))
 (J1 (.int .i64 0))) fun _ z7=>
 opN p_ (aj (fn 156) [v1,v2,(.int .i64 1)]) Kp fun x43=>
 opN p_ (aj (fn 156) [v1,z7,(.int .i64 2)]) Kp fun x46=>
 e8 (stS p_ (bR 212 x6 z7) fun x48=>
 stS p_ (af 210 x48) fun x49=>
 stS p_ (af 162 x3) fun x50=>
 opN p_ (aj x49 [x50,v1]) Kp fun x52=>
 K (.tuple #[]))
theorem oY {v0 v1 v2:Value}:Shp p_ 112 [v0,v1,v2] (ko v0 v1 v2):=bT Tryz.call112 Tryz.func112 (an:={cuts:=[(12,[7])],loops:=[(6,[7,8,24])],drs:=[(4,.ofL [(0,3),(1,3),(2,3),(3,1),(4,0),(5,0),(6,1)]),(8,.ofL [(0,3),(1,2),(2,1),(3,0),(4,0),(5,1)]),(14,.ofL [(0,1),(1,1),(2,1),(3,1),(4,1),(5,0)])]}) fun _ _=>by kernel_rfl
def kp (v0:Value)(Kp:PK)(K:Value→WP):WP:=
 opN p_ (aj (fn 157) [v0]) Kp fun x4=>
 condS x4
 (K (.slice none 0 0))
 (opN p_ (bG v0) Kp fun x6=>
 opN p_ (bB 205 x6 0) Kp fun x7=>
 opN p_ (af 23 x7) Kp fun x8=>
 opN p_ (cP #[23,23] 23 [(.slice none 0 0),x8]) Kp fun x9=>
 K x9)
theorem oZ {v0:Value}:Shp p_ 113 [v0] (kp v0):=bT Tryz.call113 Tryz.func113 (an:={}) fun _ _=>by kernel_rfl
def iI (v0 v1:Value)(Kp:PK)(K:Value->WP):WP:=
 e8 (stS p_ (bG v0) fun x6=>
 stS p_ (bB 121 x6 1) fun x7=>
 stS p_ (af 23 x7) fun x8=>
 stS p_ (vV #[23] 3 [x8]) fun x9=>
 stS p_ (ae .mul 3 (.int .i64 2) x9) fun x10=>
 stS p_ (ae .add 3 x10 v1) fun x12=>
 stD p_ (bG v0) fun D10 x15=>
 stD p_ (bB 121 x15 1) fun D11 x16=>
 stD p_ (af 23 x16) fun D12 x17=>
 stD p_ (aV #[23] 3 [x17]) fun D13 x18=>
 opN p_ (aj (fn 159) [x12]) Kp fun x13=>
 (fun w=>D13 w/\(fun w=>D12 w/\(fun w=>D11 w/\(fun w=>D10 w/\(stS p_ (eo 23 x13 none (some x18) none) fun x19=>
 opN p_ (bG v0) Kp fun x22=>
 opN p_ (bB 121 x22 1) Kp fun x23=>
 opN p_ (af 23 x23) Kp fun x24=>
 opN p_ (HV #[23,23] 3 [x19,x24]) Kp fun x25=>
 opN p_ (bG v0) Kp fun x28=>
 opN p_ (bB 121 x28 1) Kp fun x29=>
 opN p_ (ak 23 x29 x19) Kp fun _=>
 K (.tuple #[])) w) w) w) w))
theorem lT {v0 v1:Value}:Shp p_ 115 [v0,v1] (iI v0 v1):=bT Tryz.call115 Tryz.func115 (an:={drs:=[(0,.ofL [(0,1),(1,1),(2,1),(3,1),(4,1),(5,1),(6,1),(7,1),(9,2),(10,3),(11,3),(12,3),(13,3),(8,0),(14,1),(15,1)])]}) fun _ _=>by kernel_rfl
def dB (v0 v1 v2:Value)(Kp:PK)(K:Value→WP):WP:=
 vW (fun I1 m1 _ y4 y5 y6=>
 opN p_ (af 9 v1) Kp fun x11=>
 opN p_ (aV #[9] 3 [x11]) Kp fun x12=>
 opN p_ (ae .lss 3 y6 x12) Kp fun x13=>
 condS x13
 (opN p_ (af 9 v1) Kp fun x16=>
 opN p_ (iq 9 x16 y6) Kp fun x18=>
 opN p_ (b_ .eql 5 (.tmp 20) (.const (.int .u8 92)) x18 (.int .u8 92)) Kp fun x21=>
 gdK x21 true (fun k=>k y4) fun x23=>
 opN p_ (aK x21 x23 (.bool false)) Kp fun x24=>
 gdK x24 true (opN p_ (bB 96 v2 1) Kp) fun x26=>
 gdK x24 true (opN p_ (af 4 x26) Kp) fun x27=>
 opN p_ (aK x24 x27 (.bool false)) Kp fun x28=>
 condS x28
 (opN p_ (ae .add 3 y6 (.int .i64 1)) Kp fun x30=>
 opN p_ (ae .add 3 x30 (.int .i64 1)) Kp fun x15=>
 gY I1 m1 y4 y5 x15)
 (opN p_ (b_ .eql 5 (.tmp 32) (.const (.int .u8 34)) x18 (.int .u8 34)) Kp fun x33=>
 gdK x33 true (opN p_ (bB 96 v2 0) Kp) fun x35=>
 gdK x33 true (opN p_ (af 4 x35) Kp) fun x36=>
 opN p_ (aK x33 x36 (.bool false)) Kp fun x37=>
 condS x37
 (opN p_ (jZ .not y4) Kp fun x39=>
 opN p_ (ae .add 3 y6 (.int .i64 1)) Kp fun x15=>
 gY I1 m1 x39 y5 x15)
 (opN p_ (b_ .eql 5 (.tmp 41) (.const (.int .u8 44)) x18 (.int .u8 44)) Kp fun x42=>
 gdK x42 true (fun k=>k y4) fun x44=>
 gdK x42 true (opN p_ (jZ .not x44) Kp) fun x45=>
 opN p_ (aK x42 x45 (.bool false)) Kp fun x46=>
 condS x46
 (opN p_ (af 9 v1) Kp fun x47=>
 opN p_ (eo 9 x47 (some y5) (some y6) none) Kp fun x50=>
 opN p_ (aj (fn 41) [x50]) Kp fun x51=>
 opN p_ (b_ .neq 9 (.tmp 52) (.const (.string ⟨#[]⟩)) x51 (.string ⟨#[]⟩)) Kp fun x53=>
 gdK x53 true (fun k=>k v0) fun x55=>
 gdK x53 true (fun k=>k x51) fun x56=>
 gdK x53 true (opN p_ (aj x55 [x56]) Kp) fun x57=>
 gdK x53 true (opN p_ (jZ .not x57) Kp) fun x58=>
 opN p_ (aK x53 x58 (.bool false)) Kp fun x59=>
 condS x59
 (K (.tuple #[]))
 (opN p_ (ae .add 3 y6 (.int .i64 1)) Kp fun x61=>
 opN p_ (ae .add 3 y6 (.int .i64 1)) Kp fun x15=>
 gY I1 m1 y4 x61 x15))
 (opN p_ (ae .add 3 y6 (.int .i64 1)) Kp fun x15=>
 gY I1 m1 y4 y5 x15))))
 (opN p_ (af 9 v1) Kp fun x62=>
 opN p_ (eo 9 x62 (some y5) none none) Kp fun x64=>
 opN p_ (aj (fn 41) [x64]) Kp fun x65=>
 opN p_ (b_ .neq 9 (.tmp 66) (.const (.string ⟨#[]⟩)) x65 (.string ⟨#[]⟩)) Kp fun x67=>
 condS x67
 (opN p_ (aj v0 [x65]) Kp fun x70=>
 K (.tuple #[]))
 (K (.tuple #[])))) (.bool false) (.int .i64 0) (.int .i64 0)
theorem eX {v0 v1 v2:Value}:Shp p_ 116 [v0,v1,v2] (dB v0 v1 v2):=bT Tryz.call116 Tryz.func116 (an:={loops:=[(2,[4,5,6])]}) fun _ _=>by kernel_rfl
def zi (v0 v1:Value)(Kp:PK)(K:Value→WP):WP:=
 opN p_ (aj (fn 58) []) Kp fun x7=>
 opN p_ (aM 97) Kp fun x5=>
 opN p_ (ak 97 x5 x7) Kp fun _=>
 opN p_ (aV #[9] 3 [v0]) Kp fun x9=>
 bX (fun I1 m1 _ y10=>
 opN p_ (ae .lss 3 y10 x9) Kp fun x11=>
 condS x11
 (opN p_ (iq 9 v0 y10) Kp fun x15=>
 opN p_ (bR 97 x5 x15) Kp fun x16=>
 opN p_ (af 3 x16) Kp fun x17=>
 opN p_ (ae .and 3 x17 v1) Kp fun x19=>
 opN p_ (b_ .eql 3 (.tmp 19) (.const (.int .i64 0)) x19 (.int .i64 0)) Kp fun x20=>
 condS x20
 (K (.bool false))
 (opN p_ (ae .add 3 y10 (.int .i64 1)) Kp fun x21=>
 bI I1 m1 x21))
 (K (.bool true))) (.int .i64 0)
theorem Co {v0 v1:Value}:Shp p_ 117 [v0,v1] (zi v0 v1):=bT Tryz.call117 Tryz.func117 (an:={loops:=[(3,[10])]}) fun _ _=>by kernel_rfl
def pA (v0:Value)(Kp:PK)(K:Value->WP):WP:=
 opN p_ (aj (fn 160) [v0,(.int .i64 10),(.int .i64 1000000000000000000)]) Kp fun x5=>
 opN p_ (bi x5 0) Kp fun x6=>
 opN p_ (bi x5 1) Kp fun x7=>
 K (.tuple #[x6,x7])
theorem vg {v0:Value}:Shp p_ 118 [v0] (pA v0):=bT Tryz.call118 Tryz.func118 (an:={}) fun _ _=>by kernel_rfl
def ny (v0:Value)(Kp:PK)(K:Value→WP):WP:=
 opN p_ (ae .lss 3 v0 (.int .i64 10)) Kp fun x4=>
 condS x4
 (opN p_ (ae .add 3 v0 (.int .i64 1)) Kp fun x7=>
 opN p_ (eo 9 (.string ⟨#[48,49,50,51,52,53,54,55,56,57,97,98,99,100,101,102,103,104,105,106,107,108,109,110,111,112,113,114,115,116,117,118,119,120,121,122]⟩) (some v0) (some x7) none) Kp fun x8=>
 K x8)
 (opN p_ (ae .mul 3 v0 (.int .i64 2)) Kp fun x10=>
 opN p_ (ae .mul 3 v0 (.int .i64 2)) Kp fun x12=>
 opN p_ (ae .add 3 x12 (.int .i64 2)) Kp fun x13=>
 opN p_ (eo 9 (bo ir) (some x10) (some x13) none) Kp fun x14=>
 K x14)
theorem tq {v0:Value}:Shp p_ 119 [v0] (ny v0):=bT Tryz.call119 Tryz.func119 (an:={}) fun _ _=>by kernel_rfl
def jF (v0:Value)(Kp:PK)(K:Value->WP):WP:=
 opN p_ (aj (fn 162) [v0]) Kp fun x5=>
 opN p_ (aj (fn 161) [x5]) Kp fun x6=>
 opN p_ (bR 220 (.pointer (some ⟨1,0,none⟩)) x6) Kp fun x10=>
 opN p_ (af 170 x10) Kp fun x11=>
 opN p_ (ae .geq 170 v0 x11) Kp fun x12=>
 opN p_ (aj (fn 163) [x12]) Kp fun x13=>
 opN p_ (ae .add 3 x6 x13) Kp fun x14=>
 K x14
theorem nz {v0:Value}:Shp p_ 120 [v0] (jF v0):=bT Tryz.call120 Tryz.func120 (an:={}) fun _ _=>by kernel_rfl
def ii (v0 v1:Value)(Kp:PK)(K:Value→WP):WP:=
 opN p_ (aV #[23] 3 [v0]) Kp fun x18=>
 dF (fun I1 m1 _ y1 y4=>
 opN p_ (ae .geq 3 y4 (.int .i64 8)) Kp fun x20=>
 condS x20
 (opN p_ (ae .rem 170 y1 (.int .u64 100000000)) Kp fun x22=>
 opN p_ (bz 170 112 x22) Kp fun x23=>
 opN p_ (ae .quo 170 y1 (.int .u64 100000000)) Kp fun x25=>
 opN p_ (ae .quo 112 x23 (.int .u32 10000)) Kp fun x27=>
 opN p_ (ae .rem 112 x23 (.int .u32 10000)) Kp fun x29=>
 opN p_ (ae .quo 112 x29 (.int .u32 100)) Kp fun x31=>
 opN p_ (ae .mul 112 x31 (.int .u32 2)) Kp fun x32=>
 opN p_ (ae .rem 112 x29 (.int .u32 100)) Kp fun x34=>
 opN p_ (ae .mul 112 x34 (.int .u32 2)) Kp fun x35=>
 opN p_ (ae .quo 112 x27 (.int .u32 100)) Kp fun x37=>
 opN p_ (ae .mul 112 x37 (.int .u32 2)) Kp fun x38=>
 opN p_ (ae .rem 112 x27 (.int .u32 100)) Kp fun x40=>
 opN p_ (ae .mul 112 x40 (.int .u32 2)) Kp fun x41=>
 e8 (stS p_ (ae .sub 3 y4 (.int .i64 1)) fun x44=>
 stD p_ (ae .sub 3 y4 (.int .i64 2)) fun D5 x47=>
 stS p_ (ae .add 112 x35 (.int .u32 1)) fun x49=>
 stS p_ (iq 9 (bo ir) x49) fun x50=>
 stD p_ (iq 9 (bo ir) x35) fun D10 x52=>
 stS p_ (bR 23 v0 x44) fun x53=>
 opN p_ (ak 5 x53 x50) Kp fun _=>
 (fun w=>D10 w∧(fun w=>D5 w∧(stS p_ (bR 23 v0 x47) fun x54=>
 opN p_ (ak 5 x54 x52) Kp fun _=>
 e8 (stS p_ (ae .sub 3 y4 (.int .i64 3)) fun x57=>
 stD p_ (ae .sub 3 y4 (.int .i64 4)) fun D5 x60=>
 stS p_ (ae .add 112 x32 (.int .u32 1)) fun x62=>
 stS p_ (iq 9 (bo ir) x62) fun x63=>
 stD p_ (iq 9 (bo ir) x32) fun D10 x65=>
 stS p_ (bR 23 v0 x57) fun x66=>
 opN p_ (ak 5 x66 x63) Kp fun _=>
 (fun w=>D10 w∧(fun w=>D5 w∧(stS p_ (bR 23 v0 x60) fun x67=>
 opN p_ (ak 5 x67 x65) Kp fun _=>
 e8 (stS p_ (ae .sub 3 y4 (.int .i64 5)) fun x70=>
 stD p_ (ae .sub 3 y4 (.int .i64 6)) fun D5 x73=>
 stS p_ (ae .add 112 x41 (.int .u32 1)) fun x75=>
 stS p_ (iq 9 (bo ir) x75) fun x76=>
 stD p_ (iq 9 (bo ir) x41) fun D10 x78=>
 stS p_ (bR 23 v0 x70) fun x79=>
 opN p_ (ak 5 x79 x76) Kp fun _=>
 (fun w=>D10 w∧(fun w=>D5 w∧(stS p_ (bR 23 v0 x73) fun x80=>
 opN p_ (ak 5 x80 x78) Kp fun _=>
 e8 (stS p_ (ae .sub 3 y4 (.int .i64 7)) fun x83=>
 stD p_ (ae .sub 3 y4 (.int .i64 8)) fun D5 x86=>
 stS p_ (ae .add 112 x38 (.int .u32 1)) fun x88=>
 stS p_ (iq 9 (bo ir) x88) fun x89=>
 stD p_ (iq 9 (bo ir) x38) fun D10 x91=>
 stS p_ (bR 23 v0 x83) fun x92=>
 opN p_ (ak 5 x92 x89) Kp fun _=>
 (fun w=>D10 w∧(fun w=>D5 w∧(stS p_ (bR 23 v0 x86) fun x93=>
 opN p_ (ak 5 x93 x91) Kp fun _=>
 opN p_ (ae .sub 3 y4 (.int .i64 8)) Kp fun x95=>
 cH I1 m1 x25 x95) w) w))) w) w))) w) w))) w) w)))
 (opN p_ (bz 170 112 y1) Kp fun x97=>
 sU (fun J1=>
 opN p_ (ae .geq 3 y4 (.int .i64 4)) Kp fun x99=>
 condS x99
 (opN p_ (ae .rem 112 x97 (.int .u32 10000)) Kp fun x101=>
 opN p_ (ae .quo 112 x97 (.int .u32 10000)) Kp fun x103=>
 opN p_ (ae .quo 112 x101 (.int .u32 100)) Kp fun x105=>
 opN p_ (ae .mul 112 x105 (.int .u32 2)) Kp fun x106=>
 opN p_ (ae .rem 112 x101 (.int .u32 100)) Kp fun x108=>
 opN p_ (ae .mul 112 x108 (.int .u32 2)) Kp fun x109=>
 e8 (stS p_ (ae .sub 3 y4 (.int .i64 1)) fun x112=>
 stD p_ (ae .sub 3 y4 (.int .i64 2)) fun D5 x115=>
 stS p_ (ae .add 112 x109 (.int .u32 1)) fun x117=>
 stS p_ (iq 9 (bo ir) x117) fun x118=>
 stD p_ (iq 9 (bo ir) x109) fun D10 x120=>
 stS p_ (bR 23 v0 x112) fun x121=>
 opN p_ (ak 5 x121 x118) Kp fun _=>
 (fun w=>D10 w∧(fun w=>D5 w∧(stS p_ (bR 23 v0 x115) fun x122=>
 opN p_ (ak 5 x122 x120) Kp fun _=>
 e8 (stS p_ (ae .sub 3 y4 (.int .i64 3)) fun x125=>
 stD p_ (ae .sub 3 y4 (.int .i64 4)) fun D5 x128=>
 stS p_ (ae .add 112 x106 (.int .u32 1)) fun x130=>
 stS p_ (iq 9 (bo ir) x130) fun x131=>
 stD p_ (iq 9 (bo ir) x106) fun D10 x133=>
 stS p_ (bR 23 v0 x125) fun x134=>
 opN p_ (ak 5 x134 x131) Kp fun _=>
 (fun w=>D10 w∧(fun w=>D5 w∧(stS p_ (bR 23 v0 x128) fun x135=>
 opN p_ (ak 5 x135 x133) Kp fun _=>
 opN p_ (ae .sub 3 y4 (.int .i64 4)) Kp fun x137=>
 J1 x137 x103) w) w))) w) w)))
 (J1 y4 x97)) fun _ z4 z12=>
 sU (fun J2=>
 opN p_ (ae .geq 3 z4 (.int .i64 2)) Kp fun x139=>
 condS x139
 (opN p_ (ae .rem 112 z12 (.int .u32 100)) Kp fun x141=>
 opN p_ (ae .mul 112 x141 (.int .u32 2)) Kp fun x142=>
 opN p_ (ae .quo 112 z12 (.int .u32 100)) Kp fun x144=>
 e8 (stS p_ (ae .sub 3 z4 (.int .i64 1)) fun x147=>
 stD p_ (ae .sub 3 z4 (.int .i64 2)) fun D5 x150=>
 stS p_ (ae .add 112 x142 (.int .u32 1)) fun x152=>
 stS p_ (iq 9 (bo ir) x152) fun x153=>
 stD p_ (iq 9 (bo ir) x142) fun D10 x155=>
 stS p_ (bR 23 v0 x147) fun x156=>
 opN p_ (ak 5 x156 x153) Kp fun _=>
 (fun w=>D10 w∧(fun w=>D5 w∧(stS p_ (bR 23 v0 x150) fun x157=>
 opN p_ (ak 5 x157 x155) Kp fun _=>
 opN p_ (ae .sub 3 z4 (.int .i64 2)) Kp fun x159=>
 J2 x159 x144) w) w)))
 (J2 z4 z12)) fun _ z4 z12=>
 opN p_ (ae .gtr 3 z4 (.int .i64 0)) Kp fun x161=>
 condS x161
 (opN p_ (ae .add 112 (.int .u32 48) z12) Kp fun x164=>
 opN p_ (bz 112 5 x164) Kp fun x165=>
 opN p_ (bR 23 v0 (.int .i64 0)) Kp fun x166=>
 opN p_ (ak 5 x166 x165) Kp fun _=>
 K (.tuple #[]))
 (K (.tuple #[])))) v1 x18
theorem k_ {v0 v1:Value}:Shp p_ 121 [v0,v1] (ii v0 v1):=bT Tryz.call121 Tryz.func121 (an:={cuts:=[(20,[4,12]),(25,[4,12])],loops:=[(1,[1,4])],drs:=[(7,.ofL [(0,1),(1,1),(2,1),(3,2),(4,2),(5,3),(6,1),(7,1),(8,1),(9,2),(10,3),(11,1),(12,0),(13,1),(14,0)]),(8,.ofL [(0,1),(1,1),(2,1),(3,2),(4,2),(5,3),(6,1),(7,1),(8,1),(9,2),(10,3),(11,1),(12,0),(13,1),(14,0)]),(9,.ofL [(0,1),(1,1),(2,1),(3,2),(4,2),(5,3),(6,1),(7,1),(8,1),(9,2),(10,3),(11,1),(12,0),(13,1),(14,0)]),(10,.ofL [(0,1),(1,1),(2,1),(3,2),(4,2),(5,3),(6,1),(7,1),(8,1),(9,2),(10,3),(11,1),(12,0),(13,1),(14,0)]),(17,.ofL [(0,1),(1,1),(2,1),(3,2),(4,2),(5,3),(6,1),(7,1),(8,1),(9,2),(10,3),(11,1),(12,0),(13,1),(14,0)]),(18,.ofL [(0,1),(1,1),(2,1),(3,2),(4,2),(5,3),(6,1),(7,1),(8,1),(9,2),(10,3),(11,1),(12,0),(13,1),(14,0)]),(23,.ofL [(0,1),(1,1),(2,1),(3,2),(4,2),(5,3),(6,1),(7,1),(8,1),(9,2),(10,3),(11,1),(12,0),(13,1),(14,0)])]}) fun _ _=>by kernel_rfl
def fh (v0 v1:Value)(Kp:PK)(K:Value->WP):WP:=
 opN p_ (bG v0) Kp fun x7=>
 opN p_ (bR 135 x7 v1) Kp fun x8=>
 opN p_ (af 4 x8) Kp fun x9=>
 K x9
theorem jd {v0 v1:Value}:Shp p_ 126 [v0,v1] (fh v0 v1):=bT Tryz.call126 Tryz.func126 (an:={}) fun _ _=>by kernel_rfl
def di (v0 v1 v2:Value)(Kp:PK)(K:Value→WP):WP:=
 vW (fun I1 m1 _ y4 y5 y6=>
 opN p_ (af 9 v1) Kp fun x11=>
 opN p_ (aV #[9] 3 [x11]) Kp fun x12=>
 opN p_ (ae .lss 3 y6 x12) Kp fun x13=>
 condS x13
 (opN p_ (af 9 v1) Kp fun x16=>
 opN p_ (iq 9 x16 y6) Kp fun x18=>
 opN p_ (b_ .eql 5 (.tmp 20) (.const (.int .u8 92)) x18 (.int .u8 92)) Kp fun x21=>
 gdK x21 true (fun k=>k y4) fun x23=>
 opN p_ (aK x21 x23 (.bool false)) Kp fun x24=>
 gdK x24 true (opN p_ (bB 103 v2 1) Kp) fun x26=>
 gdK x24 true (opN p_ (af 4 x26) Kp) fun x27=>
 opN p_ (aK x24 x27 (.bool false)) Kp fun x28=>
 condS x28
 (opN p_ (ae .add 3 y6 (.int .i64 1)) Kp fun x30=>
 opN p_ (ae .add 3 x30 (.int .i64 1)) Kp fun x15=>
 gY I1 m1 y4 y5 x15)
 (opN p_ (b_ .eql 5 (.tmp 32) (.const (.int .u8 34)) x18 (.int .u8 34)) Kp fun x33=>
 gdK x33 true (opN p_ (bB 103 v2 0) Kp) fun x35=>
 gdK x33 true (opN p_ (af 4 x35) Kp) fun x36=>
 opN p_ (aK x33 x36 (.bool false)) Kp fun x37=>
 condS x37
 (opN p_ (jZ .not y4) Kp fun x39=>
 opN p_ (ae .add 3 y6 (.int .i64 1)) Kp fun x15=>
 gY I1 m1 x39 y5 x15)
 (opN p_ (b_ .eql 5 (.tmp 41) (.const (.int .u8 44)) x18 (.int .u8 44)) Kp fun x42=>
 gdK x42 true (fun k=>k y4) fun x44=>
 gdK x42 true (opN p_ (jZ .not x44) Kp) fun x45=>
 opN p_ (aK x42 x45 (.bool false)) Kp fun x46=>
 condS x46
 (opN p_ (af 9 v1) Kp fun x47=>
 opN p_ (eo 9 x47 (some y5) (some y6) none) Kp fun x50=>
 opN p_ (aj (fn 41) [x50]) Kp fun x51=>
 opN p_ (b_ .neq 9 (.tmp 52) (.const (.string ⟨#[]⟩)) x51 (.string ⟨#[]⟩)) Kp fun x53=>
 gdK x53 true (fun k=>k v0) fun x55=>
 gdK x53 true (fun k=>k x51) fun x56=>
 gdK x53 true (opN p_ (aj x55 [x56]) Kp) fun x57=>
 gdK x53 true (opN p_ (jZ .not x57) Kp) fun x58=>
 opN p_ (aK x53 x58 (.bool false)) Kp fun x59=>
 condS x59
 (K (.tuple #[]))
 (opN p_ (ae .add 3 y6 (.int .i64 1)) Kp fun x61=>
 opN p_ (ae .add 3 y6 (.int .i64 1)) Kp fun x15=>
 gY I1 m1 y4 x61 x15))
 (opN p_ (ae .add 3 y6 (.int .i64 1)) Kp fun x15=>
 gY I1 m1 y4 y5 x15))))
 (opN p_ (af 9 v1) Kp fun x62=>
 opN p_ (eo 9 x62 (some y5) none none) Kp fun x64=>
 opN p_ (aj (fn 41) [x64]) Kp fun x65=>
 opN p_ (b_ .neq 9 (.tmp 66) (.const (.string ⟨#[]⟩)) x65 (.string ⟨#[]⟩)) Kp fun x67=>
 condS x67
 (opN p_ (aj v0 [x65]) Kp fun x70=>
 K (.tuple #[]))
 (K (.tuple #[])))) (.bool false) (.int .i64 0) (.int .i64 0)
theorem eu {v0 v1 v2:Value}:Shp p_ 130 [v0,v1,v2] (di v0 v1 v2):=bT Tryz.call130 Tryz.func130 (an:={loops:=[(2,[4,5,6])]}) fun _ _=>by kernel_rfl
def eE (v0 v1 v2 v3:Value)(rv:Value)(Kp:PK)(K:Value→WP):WP:=
 opN p_ (b_ .neq 20 (.tmp 6) (.const .nilIface) rv .nilIface) Kp fun x7=>
 condS x7
 (e8 (stD p_ (SM rv 20 27 false) fun D1 x9=>
 opN p_ (ak 23 v0 (.slice none 0 0)) Kp fun _=>
 (fun w=>D1 w∧(opN p_ (ak 146 v1 (.slice none 0 0)) Kp fun _=>
 (fun w=>D1 w∧(opN p_ (ak 3 v2 (.int .i64 0)) Kp fun _=>
 (fun w=>D1 w∧(opN p_ (ak 27 v3 x9) Kp fun _=>
 K (.tuple #[])) w)) w)) w)))
 (K (.tuple #[]))
def lf:Ann:={drs:=[(2,.ofL [(0,2),(1,3),(2,0),(3,0),(4,0),(5,0)])]}
theorem tr (v0 v1 v2 v3:Value)(rv:Value)(Kp:PK)(K:Value->WP):Lb p_ lf Tryz.f132 [v0,v1,v2,v3] rv Kp K=eE v0 v1 v2 v3 rv Kp K:=by kernel_rfl
theorem mr {v0 v1 v2 v3:Value}{u:FrameMode}{Kp:PK}{K:Value->WP}{w:World}(h:eE v0 v1 v2 v3 (fA u).1 Kp K w):CallsD p_ 132 ([v0,v1,v2,v3]:List Value).toArray u w fun
   | .returned v,u',w'=>u'=(fA u).2/\K v w'
   | .panicked ch,u',w'=>u'=(fA u).2/\Kp ch w'
   | .outgrown,_,_=>False:=
 mX wide Tryz.func132 (an:=lf) (args:=[v0,v1,v2,v3]) (cast (congrFun (tr v0 v1 v2 v3 _ Kp K) w).symm h)
def nA (v0:Value)(Kp:PK)(K:Value->WP):WP:=
 opN p_ (cP #[23,23] 23 [(.slice none 0 0),v0]) Kp fun x4=>
 opN p_ (az 227 [(0,x4),(1,(.int .i64 0))]) Kp fun x5=>
 opN p_ (az 229 [(0,x5),(1,(.bool true))]) Kp fun x6=>
 opN p_ (dn 229 x6) Kp fun x7=>
 K x7
theorem tz {v0:Value}:Shp p_ 133 [v0] (nA v0):=bT Tryz.call133 Tryz.func133 (an:={}) fun _ _=>by kernel_rfl
def ij (v0:Value)(Kp:PK)(K:Value->WP):WP:=
 opN p_ (bG v0) Kp fun x6=>
 opN p_ (bB 184 x6 0) Kp fun x7=>
 opN p_ (af 181 x7) Kp fun x8=>
 opN p_ (aj (fn 171) [x8]) Kp fun x9=>
 opN p_ (aj (fn 138) [v0,(.int .i64 16)]) Kp fun x11=>
 opN p_ (aj (fn 138) [v0,(.int .i64 16)]) Kp fun x13=>
 opN p_ (ae .sub 3 (.int .i64 65535) x11) Kp fun x15=>
 opN p_ (b_ .eql 3 (.tmp 13) (.tmp 15) x13 x15) Kp fun x16=>
 opN p_ (aj (fn 172) [x16,(.int .i64 31)]) Kp fun x17=>
 opN p_ (aj (fn 173) [v0,x11]) Kp fun x20=>
 opN p_ (bG v0) Kp fun x23=>
 opN p_ (bB 184 x23 0) Kp fun x24=>
 opN p_ (af 181 x24) Kp fun x25=>
 opN p_ (aj (fn 174) [x25,x11]) Kp fun x27=>
 opN p_ (bi x27 0) Kp fun x28=>
 opN p_ (bi x27 1) Kp fun x29=>
 opN p_ (aj (fn 175) [x29]) Kp fun x31=>
 opN p_ (bG v0) Kp fun x34=>
 opN p_ (bB 184 x34 1) Kp fun x35=>
 opN p_ (af 23 x35) Kp fun x36=>
 opN p_ (cP #[23,23] 23 [x36,x28]) Kp fun x38=>
 opN p_ (bG v0) Kp fun x39=>
 opN p_ (bB 184 x39 1) Kp fun x40=>
 opN p_ (ak 23 x40 x38) Kp fun _=>
 K (.tuple #[])
theorem lg {v0:Value}:Shp p_ 134 [v0] (ij v0):=bT Tryz.call134 Tryz.func134 (an:={}) fun _ _=>by kernel_rfl
def iJ (v0:Value)(Kp:PK)(K:Value->WP):WP:=
 opN p_ (aj (fn 176) []) Kp fun x5=>
 opN p_ (bi x5 0) Kp fun x6=>
 opN p_ (bi x5 1) Kp fun x7=>
 opN p_ (aj (fn 178) [x6]) Kp fun x10=>
 opN p_ (aj (fn 178) [x7]) Kp fun x12=>
 opN p_ (aj (fn 177) [v0,x10,x12]) Kp fun x13=>
 K (.tuple #[])
theorem lU {v0:Value}:Shp p_ 135 [v0] (iJ v0):=bT Tryz.call135 Tryz.func135 (an:={}) fun _ _=>by kernel_rfl
def gD (v0:Value)(Kp:PK)(K:Value→WP):WP:=
 opN p_ (aj (fn 138) [v0,(.int .i64 5)]) Kp fun x13=>
 opN p_ (aj (fn 138) [v0,(.int .i64 5)]) Kp fun x15=>
 opN p_ (aj (fn 138) [v0,(.int .i64 4)]) Kp fun x17=>
 opN p_ (ae .leq 3 x13 (.int .i64 29)) Kp fun x19=>
 gdK x19 true (fun k=>k x15) fun x21=>
 gdK x19 true (opN p_ (ae .leq 3 x21 (.int .i64 29)) Kp) fun x22=>
 opN p_ (aK x19 x22 (.bool false)) Kp fun x23=>
 opN p_ (aj (fn 172) [x23,(.int .i64 31)]) Kp fun x24=>
 opN p_ (fC 197 (.int .i64 19) (.int .i64 19)) Kp fun x25=>
 opN p_ (az 236 [(0,(.int .i64 16)),(1,(.int .i64 17)),(2,(.int .i64 18)),(3,(.int .i64 0)),(4,(.int .i64 8)),(5,(.int .i64 7)),(6,(.int .i64 9)),(7,(.int .i64 6)),(8,(.int .i64 10)),(9,(.int .i64 5)),(10,(.int .i64 11)),(11,(.int .i64 4)),(12,(.int .i64 12)),(13,(.int .i64 3)),(14,(.int .i64 13)),(15,(.int .i64 2)),(16,(.int .i64 14)),(17,(.int .i64 1)),(18,(.int .i64 15))]) Kp fun x26=>
 opN p_ (aM 236) Kp fun x6=>
 opN p_ (ak 236 x6 x26) Kp fun _=>
 opN p_ (ae .add 3 x17 (.int .i64 4)) Kp fun x28=>
 opN p_ (eo 236 x6 none (some x28) none) Kp fun x29=>
 opN p_ (aV #[197] 3 [x29]) Kp fun x30=>
 bX (fun I1 m1 _ y31=>
 opN p_ (ae .lss 3 y31 x30) Kp fun x32=>
 condS x32
 (opN p_ (bR 197 x29 y31) Kp fun x33=>
 opN p_ (af 3 x33) Kp fun x34=>
 opN p_ (aj (fn 138) [v0,(.int .i64 3)]) Kp fun x38=>
 opN p_ (bR 197 x25 x34) Kp fun x39=>
 opN p_ (ak 3 x39 x38) Kp fun _=>
 opN p_ (ae .add 3 y31 (.int .i64 1)) Kp fun x40=>
 bI I1 m1 x40)
 (opN p_ (aj (fn 179) [x25]) Kp fun x42=>
 opN p_ (aj (fn 172) [x42,(.int .i64 30)]) Kp fun x43=>
 opN p_ (aj (fn 178) [x25]) Kp fun x46=>
 opN p_ (ae .add 3 x13 (.int .i64 257)) Kp fun x48=>
 opN p_ (ae .add 3 x48 x15) Kp fun x50=>
 opN p_ (ae .add 3 x50 (.int .i64 1)) Kp fun x51=>
 opN p_ (aj (fn 180) [v0,x46,x51]) Kp fun x52=>
 e8 (stS p_ (ae .add 3 x13 (.int .i64 257)) fun x55=>
 stS p_ (eo 197 x52 none (some x55) none) fun x56=>
 stS p_ (ae .add 3 x13 (.int .i64 257)) fun x59=>
 stS p_ (eo 197 x52 (some x59) none none) fun x60=>
 opN p_ (bR 197 x56 (.int .i64 256)) Kp fun x62=>
 opN p_ (af 3 x62) Kp fun x63=>
 opN p_ (ae .gtr 3 x63 (.int .i64 0)) Kp fun x64=>
 gdK x64 true (fun k=>k x56) fun x66=>
 gdK x64 true (opN p_ (aj (fn 181) [x66]) Kp) fun x67=>
 opN p_ (aK x64 x67 (.bool false)) Kp fun x68=>
 gdK x68 true (fun k=>k x60) fun x70=>
 gdK x68 true (opN p_ (aj (fn 181) [x70]) Kp) fun x71=>
 opN p_ (aK x68 x71 (.bool false)) Kp fun x72=>
 opN p_ (aj (fn 172) [x72,(.int .i64 30)]) Kp fun x73=>
 opN p_ (aj (fn 178) [x56]) Kp fun x76=>
 opN p_ (aj (fn 178) [x60]) Kp fun x78=>
 opN p_ (aj (fn 177) [v0,x76,x78]) Kp fun x79=>
 K (.tuple #[])))) (.int .i64 0)
theorem kI {v0:Value}:Shp p_ 136 [v0] (gD v0):=bT Tryz.call136 Tryz.func136 (an:={loops:=[(5,[31])],drs:=[(11,.ofL [(0,1),(1,1),(2,1),(3,1),(4,1),(5,1),(6,1),(7,1),(8,1),(9,1)])]}) fun _ _=>by kernel_rfl
def iZ (v0:Value)(Kp:PK)(K:Value->WP):WP:=
 opN p_ (fB 27 (.int .i64 31)) Kp fun x2=>
 opN p_ (gj x2) Kp fun _=>
 K (.tuple #[])
theorem mN {v0:Value}:Shp p_ 137 [v0] (iZ v0):=bT Tryz.call137 Tryz.func137 (an:={}) fun _ _=>by kernel_rfl
def fu (v0 v1:Value)(Kp:PK)(K:Value->WP):WP:=
 opN p_ (bG v0) Kp fun x9=>
 opN p_ (bB 184 x9 0) Kp fun x10=>
 opN p_ (af 181 x10) Kp fun x11=>
 opN p_ (aj (fn 182) [x11,v1]) Kp fun x13=>
 opN p_ (bi x13 0) Kp fun x14=>
 opN p_ (bi x13 1) Kp fun x15=>
 opN p_ (aj (fn 175) [x15]) Kp fun x17=>
 K x14
theorem ik {v0 v1:Value}:Shp p_ 138 [v0,v1] (fu v0 v1):=bT Tryz.call138 Tryz.func138 (an:={}) fun _ _=>by kernel_rfl
def lh (v0:Value)(Kp:PK)(K:Value→WP):WP:=
 opN p_ (aj (fn 183) [v0]) Kp fun x4=>
 condS x4
 (K (.int .i64 0))
 (opN p_ (bG v0) Kp fun x6=>
 opN p_ (bB 229 x6 0) Kp fun x7=>
 opN p_ (aj (fn 184) [x7]) Kp fun x8=>
 K x8)
theorem pW {v0:Value}:Shp p_ 139 [v0] (lh v0):=bT Tryz.call139 Tryz.func139 (an:={}) fun _ _=>by kernel_rfl
def wB (Kp:PK)(K:Value→WP):WP:=
 opN p_ (aM 190) Kp fun x0=>
 opN p_ (aM 190) Kp fun x1=>
 bX (fun I1 m1 _ y4=>
 opN p_ (ae .lss 3 y4 (.int .i64 256)) Kp fun x5=>
 condS x5
 (opN p_ (bz 3 112 y4) Kp fun x8=>
 dF (fun I2 m2 _ y3 y9=>
 opN p_ (ae .lss 3 y9 (.int .i64 8)) Kp fun x10=>
 condS x10
 (opN p_ (ae .and 112 y3 (.int .u32 1)) Kp fun x12=>
 opN p_ (b_ .eql 112 (.tmp 12) (.const (.int .u32 1)) x12 (.int .u32 1)) Kp fun x13=>
 condS x13
 (opN p_ (ae .shr 112 y3 (.int .u64 1)) Kp fun x15=>
 opN p_ (ae .xor 112 x15 (.int .u32 3988292384)) Kp fun x16=>
 opN p_ (ae .add 3 y9 (.int .i64 1)) Kp fun x19=>
 cH I2 m2 x16 x19)
 (opN p_ (ae .shr 112 y3 (.int .u64 1)) Kp fun x18=>
 opN p_ (ae .add 3 y9 (.int .i64 1)) Kp fun x19=>
 cH I2 m2 x18 x19))
 (opN p_ (bR 190 x1 y4) Kp fun x22=>
 opN p_ (ak 112 x22 y3) Kp fun _=>
 opN p_ (ae .add 3 y4 (.int .i64 1)) Kp fun x23=>
 bI I1 m1 x23)) x8 (.int .i64 0))
 (opN p_ (af 190 x1) Kp fun x24=>
 opN p_ (ak 190 x0 x24) Kp fun _=>
 (stS p_ (cG 190 x0) fun r0=>K r0))) (.int .i64 0)
theorem Aw  :Shp p_ 140 [] (wB):=bT Tryz.call140 Tryz.func140 (an:={loops:=[(3,[4]),(7,[3,9])]}) fun _ _=>by kernel_rfl
def zj (v0 v1 v2:Value)(Kp:PK)(K:Value→WP):WP:=
 jw (fun J1=>
 opN p_ (ae .lss 3 v1 (.int .i64 1)) Kp fun x14=>
 condS x14
 (J1 x14)
 (opN p_ (ae .gtr 3 v1 (.int .i64 32768)) Kp fun x16=>
 condS x16
 (J1 x16)
 (opN p_ (ae .lss 3 v2 (.int .i64 0)) Kp fun x18=>
 condS x18
 (J1 x18)
 (opN p_ (ae .gtr 3 v2 (.int .i64 4096)) Kp fun x20=>
 J1 x20)))) fun _ z12=>
 condS z12
 (K (.tuple #[(.slice none 0 0),(.int .i64 1)]))
 (opN p_ (aV #[23] 3 [v0]) Kp fun x23=>
 opN p_ (ae .gtr 3 x23 (.int .i64 1048576)) Kp fun x24=>
 condS x24
 (K (.tuple #[(.slice none 0 0),(.int .i64 6)]))
 (opN p_ (pP 251 none) Kp fun x26=>
 opN p_ (az 253 [(0,v0),(1,x26),(3,v1),(4,v2)]) Kp fun x29=>
 opN p_ (dn 253 x29) Kp fun x30=>
 dF (fun I1 m1 _ y9 y10=>
 opN p_ (aV #[23] 3 [v0]) Kp fun x33=>
 opN p_ (ae .lss 3 y10 x33) Kp fun x34=>
 condS x34
 (opN p_ (aj (fn 195) [x30,y10]) Kp fun x37=>
 opN p_ (aj (fn 196) [x30,y10]) Kp fun x40=>
 opN p_ (aM 209) Kp fun x11=>
 opN p_ (ak 209 x11 x40) Kp fun _=>
 opN p_ (af 209 x11) Kp fun x42=>
 opN p_ (aS 160 1 [(0,x42)]) Kp fun x43=>
 opN p_ (cP #[160,160] 160 [y9,x43]) Kp fun x44=>
 opN p_ (bB 209 x11 0) Kp fun x46=>
 opN p_ (af 3 x46) Kp fun x47=>
 opN p_ (GF #[3,3] 3 [(.int .i64 1),x47]) Kp fun x48=>
 opN p_ (ae .add 3 y10 x48) Kp fun x49=>
 cH I1 m1 x44 x49)
 (K (.tuple #[y9,(.int .i64 0)]))) (.slice none 0 0) (.int .i64 0)))
theorem Cp {v0 v1 v2:Value}:Shp p_ 149 [v0,v1,v2] (zj v0 v1 v2):=bT Tryz.call149 Tryz.func149 (an:={cuts:=[(5,[12])],loops:=[(11,[9,10])]}) fun _ _=>by kernel_rfl
def li (v0 v1 v2 v3 v4 v5 v6 v7:Value)(Kp:PK)(K:Value->WP):WP:=
 e8 (stD p_ (af 158 v1) fun D0 x9=>
 stS p_ (af 160 v2) fun x10=>
 stS p_ (af 3 v3) fun x11=>
 stS p_ (eo 160 x10 (some x11) (some v0) none) fun x13=>
 stS p_ (af 23 v4) fun x14=>
 stS p_ (af 3 v5) fun x15=>
 stS p_ (af 3 v6) fun x16=>
 stS p_ (eo 23 x14 (some x15) (some x16) none) fun x17=>
 stS p_ (af 3 v7) fun x18=>
 stS p_ (az 162 [(0,x13),(1,x17),(2,x18)]) fun x19=>
 opN p_ (aS 158 1 [(0,x19)]) Kp fun x20=>
 (fun w=>D0 w/\(opN p_ (cP #[158,158] 158 [x9,x20]) Kp fun x21=>
 opN p_ (ak 158 v1 x21) Kp fun _=>
 e8 (stD p_ (af 3 v6) fun D1 x23=>
 opN p_ (ak 3 v3 v0) Kp fun _=>
 (fun w=>D1 w/\(opN p_ (ak 3 v5 x23) Kp fun _=>
 K (.tuple #[])) w))) w))
theorem pX {v0 v1 v2 v3 v4 v5 v6 v7:Value}:Shp p_ 150 [v0,v1,v2,v3,v4,v5,v6,v7] (li v0 v1 v2 v3 v4 v5 v6 v7):=bT Tryz.call150 Tryz.func150 (an:={drs:=[(0,.ofL [(0,3),(1,1),(2,1),(3,1),(4,1),(5,1),(6,1),(7,1),(8,1),(9,1),(10,1),(11,0),(12,0),(13,0)]),(1,.ofL [(0,1),(1,3),(2,0),(3,0)])]}) fun _ _=>by kernel_rfl
def iK (v0 v1:Value)(Kp:PK)(K:Value->WP):WP:=
 opN p_ (dn 162 v0) Kp fun x2=>
 opN p_ (aj (fn 197) [v1]) Kp fun x5=>
 opN p_ (bB 162 x2 1) Kp fun x7=>
 opN p_ (af 23 x7) Kp fun x8=>
 opN p_ (aV #[23] 3 [x8]) Kp fun x9=>
 opN p_ (aj (fn 156) [v1,x9,(.int .i64 16)]) Kp fun x10=>
 opN p_ (bB 162 x2 1) Kp fun x12=>
 opN p_ (af 23 x12) Kp fun x13=>
 opN p_ (aV #[23] 3 [x13]) Kp fun x14=>
 opN p_ (ae .sub 3 (.int .i64 65535) x14) Kp fun x15=>
 opN p_ (aj (fn 156) [v1,x15,(.int .i64 16)]) Kp fun x16=>
 opN p_ (bB 162 x2 1) Kp fun x18=>
 opN p_ (af 23 x18) Kp fun x19=>
 opN p_ (aj (fn 198) [v1,x19]) Kp fun x20=>
 K (.tuple #[])
theorem lV {v0 v1:Value}:Shp p_ 151 [v0,v1] (iK v0 v1):=bT Tryz.call151 Tryz.func151 (an:={}) fun _ _=>by kernel_rfl
def i5 (v0 v1:Value)(Kp:PK)(K:Value->WP):WP:=
 opN p_ (dn 162 v0) Kp fun x2=>
 opN p_ (aj (fn 176) []) Kp fun x7=>
 opN p_ (bi x7 0) Kp fun x8=>
 opN p_ (bi x7 1) Kp fun x9=>
 e8 (stD p_ (af 162 x2) fun D0 x10=>
 opN p_ (aj (fn 200) [x8]) Kp fun x12=>
 (fun w=>D0 w/\(opN p_ (aj (fn 200) [x9]) Kp fun x14=>
 (fun w=>D0 w/\(opN p_ (aj (fn 201) [v1]) Kp fun x16=>
 (fun w=>D0 w/\(opN p_ (aj (fn 199) [x10,x12,x14,x16]) Kp fun x17=>
 K (.tuple #[])) w)) w)) w))
theorem mO {v0 v1:Value}:Shp p_ 152 [v0,v1] (i5 v0 v1):=bT Tryz.call152 Tryz.func152 (an:={drs:=[(2,.ofL [(0,3),(1,1),(3,2),(5,2),(2,0),(4,0),(6,0),(7,0)])]}) fun _ _=>by kernel_rfl
def il (v0 v1:Value)(Kp:PK)(K:Value->WP):WP:=
 opN p_ (dn 162 v0) Kp fun x2=>
 opN p_ (af 162 x2) Kp fun x7=>
 opN p_ (aj (fn 202) [x7]) Kp fun x8=>
 opN p_ (bi x8 0) Kp fun x9=>
 opN p_ (bi x8 1) Kp fun x10=>
 opN p_ (aM 258) Kp fun x4=>
 opN p_ (aM 258) Kp fun x5=>
 opN p_ (ak 258 x4 x9) Kp fun _=>
 opN p_ (ak 258 x5 x10) Kp fun _=>
 opN p_ (af 258 x4) Kp fun x12=>
 opN p_ (af 258 x5) Kp fun x13=>
 opN p_ (aj (fn 203) [v1,x12,x13]) Kp fun x14=>
 e8 (stD p_ (af 162 x2) fun D0 x15=>
 stD p_ (af 258 x4) fun D1 x16=>
 stD p_ (af 258 x5) fun D2 x17=>
 opN p_ (aj (fn 201) [v1]) Kp fun x19=>
 (fun w=>D2 w/\(fun w=>D1 w/\(fun w=>D0 w/\(opN p_ (aj (fn 199) [x15,x16,x17,x19]) Kp fun x20=>
 K (.tuple #[])) w) w) w))
theorem lj {v0 v1:Value}:Shp p_ 153 [v0,v1] (il v0 v1):=bT Tryz.call153 Tryz.func153 (an:={drs:=[(3,.ofL [(0,3),(1,3),(2,3),(3,1),(4,0),(5,0)])]}) fun _ _=>by kernel_rfl
def jG (v0 v1 v2:Value)(Kp:PK)(K:Value->WP):WP:=
 opN p_ (dn 162 v0) Kp fun x3=>
 opN p_ (aj (fn 110) []) Kp fun x8=>
 opN p_ (ae .rem 3 v2 (.int .i64 8)) Kp fun x11=>
 opN p_ (aj (fn 156) [x8,(.int .i64 0),x11]) Kp fun x12=>
 opN p_ (aj (fn 156) [x8,(.int .i64 0),(.int .i64 3)]) Kp fun x14=>
 opN p_ (af 162 x3) Kp fun x16=>
 opN p_ (aj v1 [x16,x8]) Kp fun x18=>
 opN p_ (aj (fn 155) [x8]) Kp fun x20=>
 opN p_ (ae .rem 3 v2 (.int .i64 8)) Kp fun x22=>
 opN p_ (ae .sub 3 x20 x22) Kp fun x23=>
 K x23
theorem nB {v0 v1 v2:Value}:Shp p_ 154 [v0,v1,v2] (jG v0 v1 v2):=bT Tryz.call154 Tryz.func154 (an:={}) fun _ _=>by kernel_rfl
def ll (v0:Value)(Kp:PK)(K:Value→WP):WP:=
 opN p_ (aj (fn 157) [v0]) Kp fun x4=>
 condS x4
 (K (.int .i64 0))
 (opN p_ (bG v0) Kp fun x6=>
 opN p_ (bB 205 x6 1) Kp fun x7=>
 opN p_ (af 3 x7) Kp fun x8=>
 K x8)
theorem pY {v0:Value}:Shp p_ 155 [v0] (ll v0):=bT Tryz.call155 Tryz.func155 (an:={}) fun _ _=>by kernel_rfl
end S
end Go.Proofs.YtndojgomlkpeaaaGreatDoor
