/- Base lengths and distances; the fixed codes' lengths. No conditions but those that each names. (22 texts made one; each says below what it is.) -/
import Derived.Test.YtndojgomlkpeaaaGreatDoorK3
import Derived.Lib.AppendZeros
set_option linter.unusedVariables false
set_option linter.unusedSimpArgs false
set_option linter.unusedSectionVars false
set_option maxRecDepth 9999
namespace Go.Proofs.YtndojgomlkpeaaaGreatDoor.IF
open Go Go.Proofs Go.RowKit Sh Sl T HM HF B M
def bL (s:Int):Int × Int:=if s-257<0\/28<s-257 then(0,0)else if s-257=28 then(258,0)else if s-257<8 then(s-257+3,0)else(3+(4+(s-257)%4) * ((2^((s-257) / 4-1).toNat:Nat):Int),(s-257) / 4-1)
def bD (s:Int):Int × Int:=if s<0\/29<s then(0,0)else if s<4 then(s+1,0)else(1+(2+s%2) * ((2^(s / 2-1).toNat:Nat):Int),s / 2-1)
theorem baseLength {W:World}{s:Int}(h1: -1099511627776<=s/\s<=1099511627776):Cn p_ 211 [.int .i64 s] W [] (fun _:Unit=> .tuple #[.int .i64 (bL s).1,.int .i64 (bL s).2]) (fun _=>[]):=by
 (refine Shp.cn (Sg.g_ Tryz.call211 Tryz.func211) fun F=>?_;simp only[ca_,na_])
 refine sb_ ?_
 refine e_ask v_lss .nil (fun h=>?_) (fun h=>?_)
 ·(refine e_gdF1 ?_);refine e_gdF1 ?_;refine o_ v_pickT ?_;refine e_condT ?_
  rw[show bL s=(0,0)from if_pos (.inl h)]
  refine rt_ () ?_
  exact .refl
 have i1:=h
 refine e_gdT (e_gdT (e_ask v_gtr .nil (fun h=>?_) (fun h=>?_)))
 ·(refine o_ v_pickF ?_);refine e_condT ?_
  rw[show bL s=(0,0)from if_pos (.inr h)]
  refine rt_ () ?_
  exact .refl
 have i2:=h
 refine o_ v_pickF (e_condF (e_ask v_eql .nil (fun h=>?_) (fun h=>?_)))
 ·(refine e_condT ?_)
  rw[show bL s=(258,0) by unfold bL;rw[if_neg (by omega),if_pos h]]
  refine rt_ () ?_
  exact .refl
 have i3:=h
 refine e_condF (e_ask v_lss .nil (fun h=>?_) (fun h=>?_))
 ·(refine e_condT ?_);refine ad_ ?_
  rw[show bL s=(s-257+3,0) by unfold bL;rw[if_neg (by omega),if_neg i3,if_pos h]]
  refine rt_ () ?_
  exact .refl
 have i4:=h
 obtain⟨K,hK⟩:=Int.eq_ofNat_of_zero_le (show 0<=s-257 by omega)
 have hb:bL s=(3+(4+(s-257)%4) * ((2^((s-257) / 4-1).toNat:Nat):Int),(s-257) / 4-1):=by unfold bL;rw[if_neg (by omega),if_neg i3,if_neg i4]
 rw[hb,hK]
 have e1:(K:Int) / 4-1=((K / 4-1:Nat):Int):=by omega
 refine e_condF ?_;(((refine o_ (v_quo ?h1 ?h2 ?h3) ?_);(case h1=>omega);(case h2=>omega);(case h3=>omega)));refine sb_ ?_;(((refine o_ (v_rem ?h1 ?h2) ?_);(case h1=>omega);(case h2=>omega)));refine ad_ ?_
 refine o_ v_conv ?_
 rw[wrapu64' (by omega) (by omega),e1]
 refine o_ (v_shl (by omega)) ?_
 rw[shl64 (by omega) (by omega) (by omega),Int.toNat_natCast]
 have h5:(2:Nat)^(K / 4-1)<=32768:=pow15 (by omega)
 obtain⟨E,hE⟩:∃E:Nat,E=2^(K / 4-1):=⟨_,rfl⟩
 rw[<- hE]at h5 ⊢
 have h6:(4+(K:Int)%4) * (E:Int)<=8 * 32768:=Int.mul_le_mul (by omega) (by omega) (by omega) (by omega)
 have h7:0<=(4+(K:Int)%4) * (E:Int):=Int.mul_nonneg (by omega) (by omega)
 refine ad_ ?_
 refine rt_ () ?_
 exact .refl
theorem baseDistance {W:World}{s:Int}:Cn p_ 212 [.int .i64 s] W [] (fun _:Unit=> .tuple #[.int .i64 (bD s).1,.int .i64 (bD s).2]) (fun _=>[]):=by
 (refine Shp.cn (Sg.g_ Tryz.call212 Tryz.func212) fun F=>?_;simp only[ca_,na_])
 refine e_ask v_lss .nil (fun h=>?_) (fun h=>?_)
 ·(refine e_gdF1 ?_);refine e_gdF1 ?_;refine o_ v_pickT ?_;refine e_condT ?_
  rw[show bD s=(0,0)from if_pos (.inl h)]
  refine rt_ () ?_
  exact .refl
 have i1:=h
 refine e_gdT (e_gdT (e_ask v_gtr .nil (fun h=>?_) (fun h=>?_)))
 ·(refine o_ v_pickF ?_);refine e_condT ?_
  rw[show bD s=(0,0)from if_pos (.inr h)]
  refine rt_ () ?_
  exact .refl
 have i2:=h
 refine o_ v_pickF (e_condF (e_ask v_lss .nil (fun h=>?_) (fun h=>?_)))
 ·(refine e_condT ?_);refine ad_ ?_
  rw[show bD s=(s+1,0) by unfold bD;rw[if_neg (by omega),if_pos h]]
  refine rt_ () ?_
  exact .refl
 have i4:=h
 obtain⟨K,rfl⟩:=Int.eq_ofNat_of_zero_le (show 0<=s by omega)
 have hb:bD K=(1+(2+(K:Int)%2) * ((2^((K:Int) / 2-1).toNat:Nat):Int),(K:Int) / 2-1):=by unfold bD;rw[if_neg (by omega),if_neg i4]
 rw[hb]
 have e1:(K:Int) / 2-1=((K / 2-1:Nat):Int):=by omega
 refine e_condF ?_;(((refine o_ (v_quo ?h1 ?h2 ?h3) ?_);(case h1=>omega);(case h2=>omega);(case h3=>omega)));refine sb_ ?_;(((refine o_ (v_rem ?h1 ?h2) ?_);(case h1=>omega);(case h2=>omega)));refine ad_ ?_
 refine o_ v_conv ?_
 rw[wrapu64' (by omega) (by omega),e1]
 refine o_ (v_shl (by omega)) ?_
 rw[shl64 (by omega) (by omega) (by omega),Int.toNat_natCast]
 have h5:(2:Nat)^(K / 2-1)<=32768:=pow15 (by omega)
 obtain⟨E,hE⟩:∃E:Nat,E=2^(K / 2-1):=⟨_,rfl⟩
 rw[<- hE]at h5 ⊢
 have h6:(2+(K:Int)%2) * (E:Int)<=8 * 32768:=Int.mul_le_mul (by omega) (by omega) (by omega) (by omega)
 have h7:0<=(2+(K:Int)%2) * (E:Int):=Int.mul_nonneg (by omega) (by omega)
 refine ad_ ?_
 refine rt_ () ?_
 exact .refl
theorem fill {W:World}{a:Option Addr}{c k n:Nat}{l:List Int}{v:Int}(hn:l.length=n)(h1:n<=1048576)(h2:k<=1048576):Cn p_ 209 [.slice a n c,.int .i64 (k:Int),.int .i64 v] W [Sl 1 3 a c n (l.map I)]
  (fun q:Option Addr × Nat=> .slice q.1 (n+k) q.2) (fun q=>[Sl 1 3 q.1 q.2 (n+k) ((l++List.replicate k v).map I)]):=by
 (refine Shp.cn (Sg.g_ Tryz.call209 Tryz.func209 (an:={loops:=[(2,[0,8])]})) fun F=>?_;simp only[ca_,na_])
 refine e_loop2 (fun m x y=>[ex fun i:Nat=>ex fun q:Option Addr × Nat=>all [pu (m+i=k/\y= .int .i64 (i:Int)/\x= .slice q.1 (n+i) q.2),Sl 1 3 q.1 q.2 (n+i) ((l++List.replicate i v).map I)]]++F) k ?_ ?_
 ·refine .ex 0 (.ex (a,c) (.all ?_))
  refine nr_ ?_
  refine .pu ⟨by omega,rfl,rfl⟩ ?_
  rw[List.replicate_zero,List.append_nil]
  exact .refl
 intro m ds x y
 refine nr_ ?_
 refine e_ex Pick.here fun i=>e_ex Pick.here fun q=>e_all Pick.here ?_
 obtain⟨qa,qc⟩:=q
 refine nr_ ?_
 refine e_pu Pick.here fun hi=>?_
 obtain⟨hmi,rfl,rfl⟩:=hi
 (try dsimp only)
 refine e_ask v_lss .nil (fun h=>?_) (fun h=>?_)
 ·refine e_condT (e_bsl1 fun g=>?_)
  refine e_app (m:=1) (news:=[I v]) (by repeat constructor) (src_pt (e':=3) (by kernel_rfl) .here (by rfl) (I_one (l:=[v]))) (by omega) (by omega) fun a' c'=>?_
  refine ad_ ?_
  refine e_next2 (m-1) (by omega) (.ex (i+1) (.ex (a',c') (.all ?_)))
  refine nr_ ?_
  refine .pu ⟨by omega,congrArg (Value.int .i64) (by omega),by rw[Nat.add_assoc]⟩ ?_
  rw[List.replicate_succ',<- List.append_assoc,List.map_append (l₁:=l++List.replicate i v),<- Nat.add_assoc]
  exact .pick (by repeat constructor) im_
 ·have:i=k:=by omega
  subst this
  refine e_condF (e_ret (qa,qc) rfl ?_)
  exact .refl
def litL:List Int:=List.replicate 144 8++List.replicate 112 9++List.replicate 24 7++List.replicate 8 8
def dstL:List Int:=List.replicate 32 5
theorem lit_len:litL.length=0+144+112+24+8:=by simp only[litL,List.length_append,List.length_replicate]
theorem dst_len:dstL.length=0+32:=by simp only[dstL,List.length_replicate]
theorem fixedL {W:World}:Cn p_ 176 [] W [] (fun q:(Option Addr × Nat) × (Option Addr × Nat)=> .tuple #[.slice q.1.1 litL.length q.1.2,.slice q.2.1 dstL.length q.2.2])
  (fun q=>[Sl 1 3 q.1.1 q.1.2 litL.length (litL.map I),Sl 1 3 q.2.1 q.2.2 dstL.length (dstL.map I)]):=by
 (refine Shp.cn (Sg.g_ Tryz.call176 Tryz.func176) fun F=>?_;simp only[ca_,na_])
 rw[lit_len,dst_len]
 refine e_nil (s:=1) (e:=3) ?_
 refine c_ (fill (l:=[]) (k:=144) (v:=8) rfl (by omega) (by omega)) fun _=>?_
 rename_i q1
 obtain⟨a1,c1⟩:=q1
 (try dsimp only)
 refine c_ (fill (l:=List.replicate 144 8) (n:=0+144) (k:=112) (v:=9) (by rw[List.length_replicate]) (by omega) (by omega)) fun _=>?_
 rename_i q2
 obtain⟨a2,c2⟩:=q2
 (try dsimp only)
 refine c_ (fill (l:=List.replicate 144 8++List.replicate 112 9) (n:=0+144+112) (k:=24) (v:=7) (by rw[List.length_append,List.length_replicate,List.length_replicate]) (by omega) (by omega)) fun _=>?_
 rename_i q3
 obtain⟨a3,c3⟩:=q3
 (try dsimp only)
 refine c_ (fill (l:=List.replicate 144 8++List.replicate 112 9++List.replicate 24 7) (n:=0+144+112+24) (k:=8) (v:=8) (by rw[List.length_append,List.length_append,List.length_replicate,List.length_replicate,List.length_replicate]) (by omega) (by omega)) fun _=>?_
 rename_i q4
 obtain⟨a4,c4⟩:=q4
 (try dsimp only)
 rw[show(List.replicate 144 8++List.replicate 112 9++List.replicate 24 7++List.replicate 8 8:List Int)=litL from rfl]
 refine e_nil (s:=1) (e:=3) ?_
 refine c_ (fill (l:=[]) (k:=32) (v:=5) rfl (by omega) (by omega)) fun _=>?_
 rename_i q5
 obtain⟨a5,c5⟩:=q5
 rw[show(List.replicate 32 5:List Int)=dstL from rfl]
 (try dsimp only)
 refine e_ret ((a4,c4),(a5,c5)) rfl ?_
 exact .pick (by repeat constructor) (.pick (by repeat constructor) im_)
theorem dec_at (l:List Int)(b:List UInt8):∀f n c at_,at_<=(dec l b f n c at_).2.2/\((dec l b f n c at_).2.1=0->at_<(dec l b f n c at_).2.2)
 |0,n,c,at_=>⟨Nat.le_refl _,fun h=>by simp[dec]at h⟩
 |f+1,n,c,at_=>by
  have hA:at_<=takAt b at_ 1:=by unfold takAt;split <;> omega
  unfold dec
  by_cases hR:takR b at_ 1=0
  ·rw[if_pos hR]
   have hA1:takAt b at_ 1=at_+1:=by unfold takAt;rw[if_pos hR];rfl
   cases fL l ((n+1:Nat):Int) ((2 * c+takN b at_ 1:Nat):Int) l.length with
   |some i=>exact⟨hA,fun _=>by simp only;omega⟩
   |none=>
    have ih:=dec_at l b f (n+1) (2 * c+takN b at_ 1) (takAt b at_ 1)
    simp only
    exact⟨by omega,fun h=>by have:=ih.2 h;omega⟩
  ·rw[if_neg hR]
   exact⟨hA,fun h=>absurd h hR⟩
theorem nxt_at (l:List Int)(b:List UInt8)(at_:Nat):at_<=(nxt l b at_).2.2/\((nxt l b at_).2.1=0->at_<(nxt l b at_).2.2):=by
 unfold nxt
 split
 ·exact dec_at l b 15 0 0 at_
 ·exact⟨Nat.le_refl _,fun h=>by cases h⟩
theorem takAt_le (b:List UInt8)(at_:Nat)(k:Int):at_<=takAt b at_ k:=by unfold takAt;split <;> omega
def copyL (out:List UInt8)(far:Nat):Nat->List UInt8
 |0=>out
 |k+1=>copyL out far k++[(copyL out far k).getD ((copyL out far k).length-far) 0]
theorem copyL_len (out:List UInt8)(far:Nat):∀k,(copyL out far k).length=out.length+k
 |0=>rfl
 |k+1=>by rw[copyL,List.length_append,copyL_len out far k,List.length_singleton];omega
def mRound (la lb:List Int)(b:List UInt8)(most:Int)(at_:Nat)(out:List UInt8):Except Int (Bool × Nat × List UInt8):=
 let x:=nxt la b at_
 if x.2.1≠0 then .error x.2.1 else
 if x.1=256 then .ok (true,x.2.2,out)else
 if x.1<256 then(if ¬(1:Int)<=most-out.length then .error 6 else .ok (false,x.2.2,out++[UInt8.ofNat x.1.toNat]))else
 if ¬0<(bL x.1).1 then .error 30 else
 if takR b x.2.2 (bL x.1).2≠0 then .error (takR b x.2.2 (bL x.1).2)else
 let y:=nxt lb b (takAt b x.2.2 (bL x.1).2)
 if y.2.1≠0 then .error y.2.1 else
 if ¬0<(bD y.1).1 then .error 30 else
 if takR b y.2.2 (bD y.1).2≠0 then .error (takR b y.2.2 (bD y.1).2)else
 if ¬(bD y.1).1+takN b y.2.2 (bD y.1).2<=out.length then .error 31 else
 if ¬(bL x.1).1+takN b x.2.2 (bL x.1).2<=most-out.length then .error 6 else
 .ok (false,takAt b y.2.2 (bD y.1).2,copyL out ((bD y.1).1+takN b y.2.2 (bD y.1).2).toNat ((bL x.1).1+takN b x.2.2 (bL x.1).2).toNat)
def mSyms (la lb:List Int)(b:List UInt8)(most:Int):Nat->Nat->List UInt8->Except Int (Nat × List UInt8)
 |0,_,_=> .error 20
 |f+1,at_,out=>match mRound la lb b most at_ out with
  | .error e=> .error e
  | .ok (true,a,o)=> .ok (a,o)
  | .ok (false,a,o)=>mSyms la lb b most f a o
theorem dec_val (l:List Int)(b:List UInt8):∀f n c at_,0<=(dec l b f n c at_).1/\(dec l b f n c at_).1<=l.length
 |0,n,c,at_=>by simp[dec]
 |f+1,n,c,at_=>by
  unfold dec
  split
  ·cases h:fL l ((n+1:Nat):Int) ((2 * c+takN b at_ 1:Nat):Int) l.length with
   |some i=>have:=(fL_sound h).1;simp only;omega
   |none=>exact dec_val l b f _ _ _
  ·simp
theorem nxt_val (l:List Int)(b:List UInt8)(at_:Nat):0<=(nxt l b at_).1/\(nxt l b at_).1<=l.length:=by
 unfold nxt
 split
 ·exact dec_val l b 15 0 0 at_
 ·simp
theorem bL_b (s:Int)(h:0<=s):0<=(bL s).1/\(bL s).1<=1099511627776/\0<=(bL s).2:=by
 unfold bL
 split
 ·simp
 ·split
  ·simp
  ·split
   ·simp only;omega
   ·rename_i h1 h2 h3
    have e:((2^((s-257) / 4-1).toNat:Nat):Int)<=32768:=by
     have:=pow15 (show((s-257) / 4-1).toNat<=15 by omega)
     omega
    have e0:(0:Int)<=((2^((s-257) / 4-1).toNat:Nat):Int):=Int.natCast_nonneg _
    obtain⟨E,hE⟩:∃E:Int,E=((2^((s-257) / 4-1).toNat:Nat):Int):=⟨_,rfl⟩
    rw[<- hE]at e e0 ⊢
    have h6:(4+(s-257)%4) * E<=8 * 32768:=Int.mul_le_mul (by omega) (by omega) (by omega) (by omega)
    have h7:0<=(4+(s-257)%4) * E:=Int.mul_nonneg (by omega) (by omega)
    simp only;omega
theorem bD_b (s:Int)(h:0<=s):0<=(bD s).1/\(bD s).1<=1099511627776/\0<=(bD s).2:=by
 unfold bD
 split
 ·simp
 ·split
  ·simp only;omega
  ·rename_i h1 h2
   have e:((2^(s / 2-1).toNat:Nat):Int)<=32768:=by
    have:=pow15 (show(s / 2-1).toNat<=15 by omega)
    omega
   have e0:(0:Int)<=((2^(s / 2-1).toNat:Nat):Int):=Int.natCast_nonneg _
   obtain⟨E,hE⟩:∃E:Int,E=((2^(s / 2-1).toNat:Nat):Int):=⟨_,rfl⟩
   rw[<- hE]at e e0 ⊢
   have h6:(2+s%2) * E<=8 * 32768:=Int.mul_le_mul (by omega) (by omega) (by omega) (by omega)
   have h7:0<=(2+s%2) * E:=Int.mul_nonneg (by omega) (by omega)
   simp only;omega
theorem takN32 (b:List UInt8)(at_:Nat)(k:Int):takN b at_ k<4294967296:=by
 unfold takN
 split
 ·rename_i h
  have hk:k.toNat<=32:=by
   unfold takR at h
   split at h
   ·cases h
   ·omega
  exact Nat.lt_of_lt_of_le (tak_lt _ _ _) (Nat.le_trans (Nat.pow_le_pow_right (by omega) hk) (by decide))
 ·omega
theorem ite_err {α:Type}{c:Prop}[Decidable c]{e:Int}{x:Except Int α}{v:α}(h:(if c then .error e else x)= .ok v):¬c/\x= .ok v:=by
 by_cases hc:c
 ·rw[if_pos hc]at h;cases h
 ·rw[if_neg hc]at h;exact⟨hc,h⟩
theorem mRound_ok {la lb:List Int}{b:List UInt8}{most:Int}{at_:Nat}{out:List UInt8}{t:Bool}{a:Nat}{o:List UInt8}(h:mRound la lb b most at_ out= .ok (t,a,o))(h0:(out.length:Int)<=most):(o.length:Int)<=most:=by
 have ho:∀ {t':Bool} {a':Nat} {o':List UInt8},(Except.ok (t',a',o'):Except Int (Bool × Nat × List UInt8))= .ok (t,a,o)->o'=o:=fun e=>(Prod.mk.inj (Prod.mk.inj (Except.ok.inj e)).2).2
 unfold mRound at h
 simp only at h
 obtain⟨_,h⟩:=ite_err h
 by_cases c1:(nxt la b at_).1=256
 ·rw[if_pos c1]at h
  rw[<- ho h];exact h0
 rw[if_neg c1]at h
 by_cases c2:(nxt la b at_).1<256
 ·rw[if_pos c2]at h
  obtain⟨c3,h⟩:=ite_err h
  rw[<- ho h,List.length_append,List.length_singleton];omega
 rw[if_neg c2]at h
 obtain⟨_,h⟩:=ite_err h
 obtain⟨_,h⟩:=ite_err h
 obtain⟨_,h⟩:=ite_err h
 obtain⟨_,h⟩:=ite_err h
 obtain⟨_,h⟩:=ite_err h
 obtain⟨_,h⟩:=ite_err h
 obtain⟨c3,h⟩:=ite_err h
 rw[<- ho h,copyL_len]
 generalize (bL (nxt la b at_).1).1+(takN b (nxt la b at_).2.2 (bL (nxt la b at_).1).2:Int)=E at c3 ⊢
 omega
theorem mSyms_ok {la lb:List Int}{b:List UInt8}{most:Int}:∀(f:Nat) {at_:Nat} {out:List UInt8} {a:Nat} {o:List UInt8},mSyms la lb b most f at_ out= .ok (a,o)->(out.length:Int)<=most->(o.length:Int)<=most
 |0,_,_,_,_,h,_=>by cases h
 |f+1,at_,out,a,o,h,h0=>by
  rw[mSyms]at h
  split at h
  ·cases h
  ·rename_i hr
   cases h
   exact mRound_ok hr h0
  ·rename_i hr
   exact mSyms_ok f h (mRound_ok hr h0)
def mS (la lb:List Int)(b:List UInt8)(most:Int)(at_:Nat)(out:List UInt8):Except Int (Nat × List UInt8):=mSyms la lb b most (8 * b.length+1-at_) at_ out
theorem symbols {W:World}{p pa pb at_:Nat}{la lb:List Int}{b out:List UInt8}{most:Int}(hla:la.length<=320)(hlb:lb.length<=320)(h1:0<=most/\most<=1048576)(h2:(out.length:Int)<=most):
  CnP p_ 177 [.pointer (some ⟨p,0,none⟩),.pointer (some ⟨pa,0,none⟩),.pointer (some ⟨pb,0,none⟩)] W [IsS p b at_ out most,IsDec pa la,IsDec pb lb]
   (fun _:Ok (mS la lb b most at_ out)=> .tuple #[]) (fun x=>[IsS p b x.1.1 x.1.2 most]) (fun y:Er (mS la lb b most at_ out)=>pn y.1) (fun _=>[]):=by
 (refine Shp.cnP (Sg.g_ Tryz.call177 Tryz.func177 (an:={loops:=[(0,[]),(14,[79])],drs:=[(15,.ofL [(0,2),(1,2),(2,3),(3,3),(4,3),(5,1),(6,1),(7,1),(8,1),(9,1),(10,1),(11,1),(12,1),(13,1),(14,1),(15,1),(16,1),(17,1),(18,0),(19,0),(20,1),(21,1),(22,0)])]}) (os:=[(15,[(18,[4,3,2])])])) fun F=>?_;simp only[ca_,na_,-eq_self])
 obtain⟨R,hR⟩:∃R,R=mS la lb b most at_ out:=⟨_,rfl⟩
 rw[<- hR]
 refine e_loop0 (fun m=>[ex fun at1:Nat=>ex fun o1:List UInt8=>all [pu (8 * b.length+1<=m+at1/\R=mSyms la lb b most m at1 o1/\(o1.length:Int)<=most),IsS p b at1 o1 most,IsDec pa la,IsDec pb lb]]++F) (8 * b.length+1-at_) ?_ ?_
 ·refine .ex at_ (.ex out (.all ?_))
  refine nr_ ?_
  refine .pu ⟨by omega,hR,h2⟩ ?_
  exact .pick (by repeat constructor) (.pick (by repeat constructor) (.pick (by repeat constructor) .refl))
 clear hR h2
 intro m ds
 refine nr_ ?_
 refine e_ex Pick.here fun at1=>e_ex Pick.here fun o1=>e_all Pick.here ?_
 refine nr_ ?_
 refine e_pu Pick.here fun hi=>?_
 obtain⟨hm,hR,h2⟩:=hi
 refine e_ex Pick.here fun q=>e_all Pick.here ?_
 obtain⟨r,qa,qc⟩:=q
 refine nr_ ?_
 refine e_rfact (.there .here) fun hat=>?_
 obtain⟨m,rfl⟩:∃m',m=m'+1:=⟨m-1,by omega⟩
 rw[mSyms]at hR
 have hM:mRound la lb b most at1 o1=mRound la lb b most at1 o1:=rfl
 conv at hM=>rhs;unfold mRound
 simp only at hM
 refine o_ v_nil (o_ v_fa0 (ln_ ?_))
 (refine' e_callP (inext) ?hp (fun _=>?_) (fun _=>?_);(case hp=>(repeat(first|exact Picks.nil|(apply Picks.cons;(focus repeat constructor)))));(all_goals (try simp only[ca_,na_,Bool.not_true,Bool.not_false,-eq_self])))
 rotate_left
 ·rename_i y
  rw[if_pos y.2]at hM
  rw[hM]at hR
  refine e_pan ⟨_,hR⟩ rfl ?_
  exact im_
 rename_i x1
 rw[if_neg (fun c=>c x1.2)]at hM
 have hv:=nxt_val la b at1
 have hlt:=(nxt_at la b at1).2 x1.2
 obtain⟨x,hx⟩:∃x,x=(nxt la b at1).1:=⟨_,rfl⟩
 obtain⟨a2,ha2⟩:∃a2,a2=(nxt la b at1).2.2:=⟨_,rfl⟩
 rw[<- hx]at hv
 rw[<- ha2]at hlt
 rw[<- hx,<- ha2]at hM ⊢
 refine e_imp (M:=IsS p b a2 o1 most::IsDec pa la::IsDec pb lb::F) (.ex (r,(qa,qc)) (.all (.pick (by repeat constructor) (.pick (by repeat constructor) (.pick (by repeat constructor) im_))))) ?_
 refine e_ask v_eql .nil (fun h=>?_) (fun h=>?_)
 ·rw[if_pos h]at hM
  rw[hM]at hR
  refine e_condT (rt_ ((⟨_,hR⟩:Ok R)) ?_)
  exact im_
 rw[if_neg h]at hM
 refine e_condF (e_ask v_lss .nil (fun h=>?_) (fun h=>?_))
 ·rw[if_pos h]at hM
  refine e_condT ?_
  (refine' e_callP (room (most:=most) (out:=o1) (by omega) (by omega)) ?hp (fun _=>?_) (fun _=>?_);(case hp=>(repeat(first|exact Picks.nil|(apply Picks.cons;(focus repeat constructor)))));(all_goals (try simp only[ca_,na_,Bool.not_true,Bool.not_false,-eq_self])))
  rotate_left
  ·rename_i y
   rw[if_pos y.2]at hM
   rw[hM]at hR
   refine e_pan ⟨_,hR⟩ rfl ?_
   exact im_
  rename_i x2
  have h3:=x2.2
  rw[if_neg (fun c=>c x2.2)]at hM
  rw[hM]at hR
  simp only at hR
  refine e_ex Pick.here fun q=>e_all Pick.here ?_
  obtain⟨r,qa,qc⟩:=q
  refine nr_ ?_
  obtain⟨X,rfl⟩:=Int.eq_ofNat_of_zero_le hv.1
  refine o_ v_nil (o_ v_fa0 (ln_ ?_))
  refine o_ v_conv ?_
  rw[wrap8 (by omega),<- B_ofNat (by omega)]
  refine e_bsl1 fun g=>?_
  refine e_app (m:=1) (news:=[Sl.B (UInt8.ofNat X)]) (by repeat constructor) (src_pt (e':=5) (by kernel_rfl) .here (by rfl) (B_one (l:=[UInt8.ofNat X]))) (by omega) (by omega) fun a' c'=>?_
  refine o_ v_nil (o_ v_fa0 (sn_ ?_))
  refine e_next0 m (by omega) (.ex a2 (.ex (o1++[UInt8.ofNat X]) (.all ?_)))
  refine nr_ ?_
  refine .pu ⟨by omega,hR,by rw[List.length_append,List.length_singleton];omega⟩ ?_
  refine .ex (r,(a',c')) (.all ?_)
  refine nr_ ?_
  rw[List.length_append,List.map_append,List.length_singleton]
  exact .pick (by repeat constructor) (.pick (by repeat constructor) (.pick (by repeat constructor) (.pick (by repeat constructor) (.pick (by repeat constructor) im_))))
 rw[if_neg h]at hM
 refine e_condF ?_
 have hbl:=bL_b x (by omega)
 refine c_ (baseLength (by omega)) fun _=>?_
 obtain⟨base,hbase⟩:∃base,base=(bL x).1:=⟨_,rfl⟩
 obtain⟨n,hn⟩:∃n,n=(bL x).2:=⟨_,rfl⟩
 rw[<- hbase,<- hn]at hM hbl ⊢
 refine o_ (v_ext (v:= .int .i64 base) rfl) ?_
 refine o_ (v_ext (v:= .int .i64 n) rfl) ?_
 refine o_ v_gtr ?_
 (refine' e_callP (demand) ?hp (fun _=>?_) (fun _=>?_);(case hp=>(repeat(first|exact Picks.nil|(apply Picks.cons;(focus repeat constructor)))));(all_goals (try simp only[ca_,na_,Bool.not_true,Bool.not_false,-eq_self])))
 rotate_left
 ·rename_i y
  rw[if_pos (of_decide_eq_false y.2)]at hM
  rw[hM]at hR
  refine e_pan ⟨_,hR⟩ rfl ?_
  exact im_
 rename_i x3
 rw[if_neg (fun c=>c (of_decide_eq_true x3.2))]at hM
 (refine' e_callP (stake) ?hp (fun _=>?_) (fun _=>?_);(case hp=>(repeat(first|exact Picks.nil|(apply Picks.cons;(focus repeat constructor)))));(all_goals (try simp only[ca_,na_,Bool.not_true,Bool.not_false,-eq_self])))
 rotate_left
 ·rename_i y
  rw[if_pos y.2]at hM
  rw[hM]at hR
  refine e_pan ⟨_,hR⟩ rfl ?_
  exact im_
 rename_i x4
 rw[if_neg (fun c=>c x4.2)]at hM
 have ht1:=takN32 b a2 n
 obtain⟨t1,ht⟩:∃t1,t1=takN b a2 n:=⟨_,rfl⟩
 have hlt3:=takAt_le b a2 n
 obtain⟨a3,ha3⟩:∃a3,a3=takAt b a2 n:=⟨_,rfl⟩
 rw[<- ht]at ht1
 rw[<- ha3]at hlt3
 rw[<- ht,<- ha3]at hM ⊢
 refine ad_ ?_;refine o_ v_nil (o_ v_fa0 (e_ex Pick.here fun q=>e_all Pick.here ?_))
 obtain⟨r,qa,qc⟩:=q
 refine nr_ ?_
 refine ln_ ?_
 (refine' e_callP (inext) ?hp (fun _=>?_) (fun _=>?_);(case hp=>(repeat(first|exact Picks.nil|(apply Picks.cons;(focus repeat constructor)))));(all_goals (try simp only[ca_,na_,Bool.not_true,Bool.not_false,-eq_self])))
 rotate_left
 ·rename_i y
  rw[if_pos y.2]at hM
  rw[hM]at hR
  refine e_pan ⟨_,hR⟩ rfl ?_
  exact im_
 rename_i x5
 rw[if_neg (fun c=>c x5.2)]at hM
 have hv5:=nxt_val lb b a3
 have hlt5:=(nxt_at lb b a3).2 x5.2
 obtain⟨y1,hy1⟩:∃x,x=(nxt lb b a3).1:=⟨_,rfl⟩
 obtain⟨a4,ha4⟩:∃a2,a2=(nxt lb b a3).2.2:=⟨_,rfl⟩
 rw[<- hy1]at hv5
 rw[<- ha4]at hlt5
 rw[<- hy1,<- ha4]at hM ⊢
 refine e_imp (M:=IsS p b a4 o1 most::IsDec pa la::IsDec pb lb::F) (.ex (r,(qa,qc)) (.all (.pick (by repeat constructor) (.pick (by repeat constructor) (.pick (by repeat constructor) im_))))) ?_
 have hbd:=bD_b y1 (by omega)
 refine c_ baseDistance fun _=>?_
 obtain⟨dist,hdist⟩:∃base,base=(bD y1).1:=⟨_,rfl⟩
 obtain⟨k,hk⟩:∃n,n=(bD y1).2:=⟨_,rfl⟩
 rw[<- hdist,<- hk]at hM hbd ⊢
 refine o_ (v_ext (v:= .int .i64 dist) rfl) ?_
 refine o_ (v_ext (v:= .int .i64 k) rfl) ?_
 refine o_ v_gtr ?_
 (refine' e_callP (demand) ?hp (fun _=>?_) (fun _=>?_);(case hp=>(repeat(first|exact Picks.nil|(apply Picks.cons;(focus repeat constructor)))));(all_goals (try simp only[ca_,na_,Bool.not_true,Bool.not_false,-eq_self])))
 rotate_left
 ·rename_i y
  rw[if_pos (of_decide_eq_false y.2)]at hM
  rw[hM]at hR
  refine e_pan ⟨_,hR⟩ rfl ?_
  exact im_
 rename_i x6
 have hd0:=of_decide_eq_true x6.2
 rw[if_neg (fun c=>c (of_decide_eq_true x6.2))]at hM
 (refine' e_callP (stake) ?hp (fun _=>?_) (fun _=>?_);(case hp=>(repeat(first|exact Picks.nil|(apply Picks.cons;(focus repeat constructor)))));(all_goals (try simp only[ca_,na_,Bool.not_true,Bool.not_false,-eq_self])))
 rotate_left
 ·rename_i y
  rw[if_pos y.2]at hM
  rw[hM]at hR
  refine e_pan ⟨_,hR⟩ rfl ?_
  exact im_
 rename_i x7
 rw[if_neg (fun c=>c x7.2)]at hM
 have ht7:=takN32 b a4 k
 obtain⟨t2,htt⟩:∃t1,t1=takN b a4 k:=⟨_,rfl⟩
 have hlt7:=takAt_le b a4 k
 obtain⟨a5,ha5⟩:∃a3,a3=takAt b a4 k:=⟨_,rfl⟩
 rw[<- htt]at ht7
 rw[<- ha5]at hlt7
 rw[<- htt,<- ha5]at hM ⊢
 refine ad_ ?_;refine o_ v_nil (o_ v_fa0 (e_ex Pick.here fun q=>e_all Pick.here ?_))
 obtain⟨r,qa,qc⟩:=q
 refine nr_ ?_
 refine ln_ ?_;refine o_ v_len (o_ v_leq ?_)
 (refine' e_callP (demand) ?hp (fun _=>?_) (fun _=>?_);(case hp=>(repeat(first|exact Picks.nil|(apply Picks.cons;(focus repeat constructor)))));(all_goals (try simp only[ca_,na_,Bool.not_true,Bool.not_false,-eq_self])))
 rotate_left
 ·rename_i y
  rw[if_pos (of_decide_eq_false y.2)]at hM
  rw[hM]at hR
  refine e_pan ⟨_,hR⟩ rfl ?_
  exact im_
 rename_i x8
 have hfar:=of_decide_eq_true x8.2
 rw[if_neg (fun c=>c (of_decide_eq_true x8.2))]at hM
 refine e_imp (M:=IsS p b a5 o1 most::IsDec pa la::IsDec pb lb::F) (.ex (r,(qa,qc)) (.all (.pick (by repeat constructor) (.pick (by repeat constructor) (.pick (by repeat constructor) im_))))) ?_
 (refine' e_callP (room (most:=most) (out:=o1) (by omega) (by omega)) ?hp (fun _=>?_) (fun _=>?_);(case hp=>(repeat(first|exact Picks.nil|(apply Picks.cons;(focus repeat constructor)))));(all_goals (try simp only[ca_,na_,Bool.not_true,Bool.not_false,-eq_self])))
 rotate_left
 ·rename_i y
  rw[if_pos y.2]at hM
  rw[hM]at hR
  refine e_pan ⟨_,hR⟩ rfl ?_
  exact im_
 rename_i x9
 have hroom:=x9.2
 rw[if_neg (fun c=>c x9.2)]at hM
 rw[hM]at hR
 simp only at hR
 obtain⟨far,hfarE⟩:∃far:Nat,far=(dist+(t2:Int)).toNat:=⟨_,rfl⟩
 obtain⟨len,hlenE⟩:∃len:Nat,len=(base+(t1:Int)).toNat:=⟨_,rfl⟩
 rw[<- hfarE,<- hlenE]at hR
 rw[show dist+(t2:Int)=(far:Int) by omega,show base+(t1:Int)=(len:Int) by omega]
 refine e_loop1 (fun m2 y=>[ex fun i:Nat=>all [pu (m2+i=len/\y= .int .i64 (i:Int)),IsS p b a5 (copyL o1 far i) most,IsDec pa la,IsDec pb lb]]++F) len ?_ ?_
 ·refine .ex 0 (.all ?_)
  refine nr_ ?_
  refine .pu ⟨by omega,rfl⟩ ?_
  exact .pick (by repeat constructor) (.pick (by repeat constructor) (.pick (by repeat constructor) .refl))
 intro m2 ds y
 refine nr_ ?_
 refine e_ex Pick.here fun i=>e_all Pick.here ?_
 refine nr_ ?_
 refine e_pu Pick.here fun hi=>?_
 obtain⟨hmi,rfl⟩:=hi
 have hcl:=copyL_len o1 far i
 refine e_ask v_lss .nil (fun h=>?_) (fun h=>?_)
 ·refine e_condT (e_ex Pick.here fun q=>e_all Pick.here ?_)
  obtain⟨r,qa,qc⟩:=q
  refine nr_ ?_
  refine e_slfacts (.there (.there .here)) fun f1 f2 f3 f4=>?_
  obtain⟨C,hC⟩:∃C,C=copyL o1 far i:=⟨_,rfl⟩
  rw[<- hC]at hcl f4 ⊢
  obtain⟨gq,rfl⟩:=f4 (by omega)
  have hj:C.length-far<C.length:=by omega
  refine e_drS (e_stD v_nil .nil ?_);refine e_stD v_fa0 .nil ?_;(((refine' e_stD (v_ldN ?hc) ?hi ?_);(case hi=>exact .pick (by repeat constructor) .nil);(case hc=>repeat constructor)));refine t_ v_nil (t_ v_fa0 (ls_ ?_));refine t_ v_nil (t_ v_fa0 (ls_ ?_));refine t_ v_len ?_;(refine t_ (v_sub (by omega) (by omega)) ?_)
  refine t_ (v_ia1 (C.length-far) (by omega) hj) ?_
  refine p_st (v_ldSl (v:=Sl.B C[C.length-far]) (by rw[Nat.zero_add];exact B_get hj)) ?_
  refine e_bsl1 fun g=>?_
  refine ob_ ?_;refine ob_ ?_;refine ob_ ?_
  refine e_app (m:=1) (news:=[Sl.B C[C.length-far]]) (by repeat constructor) (src_pt (e':=5) (by kernel_rfl) .here (by rfl) (B_one (l:=[C[C.length-far]]))) (by omega) (by omega) fun a' c'=>?_
  refine t_ v_nil (t_ v_fa0 (sn_ ?_));refine ad_ ?_
  refine e_next1 (m2-1) (by omega) (.ex (i+1) (.all ?_))
  refine nr_ ?_
  refine .pu ⟨by omega,congrArg (Value.int .i64) (by omega)⟩ ?_
  refine .ex (r,(a',c')) (.all ?_)
  refine nr_ ?_
  rw[show copyL o1 far (i+1)=C++[C[C.length-far]] by rw[copyL,<- hC,List.getD_eq_getElem?_getD,List.getElem?_eq_getElem hj];rfl]
  rw[List.length_append,List.map_append,List.length_singleton]
  exact .pick (by repeat constructor) (.pick (by repeat constructor) (.pick (by repeat constructor) (.pick (by repeat constructor) (.pick (by repeat constructor) im_))))
 ·have:i=len:=by omega
  subst this
  refine e_condF (e_next0 m (by omega) (.ex a5 (.ex (copyL o1 far i) (.all ?_))))
  refine nr_ ?_
  refine .pu ⟨by omega,hR,by omega⟩ ?_
  exact .pick (by repeat constructor) (.pick (by repeat constructor) (.pick (by repeat constructor) .refl))
end Go.Proofs.YtndojgomlkpeaaaGreatDoor.IF
namespace Go.Proofs.YtndojgomlkpeaaaGreatDoor.HF
open Go Go.Proofs Go.RowKit Sh Sl T HM B M
def sym (cs ls:List Int)(s:Int):Option (Int × Nat):=
 if s<0 then none else match cs[s.toNat]?,ls[s.toNat]? with
 |some c,some n=>if 1<=n/\n<=15/\0<=c/\c<2^n.toNat then some (c,n.toNat)else none
 |_,_=>none
def phR (cs ls:List Int)(s:Int)(L:List Bool):Int:=match sym cs ls s with
 |some p=>putR L (rv p.1 p.2) p.2
 |none=>1
def phL (cs ls:List Int)(s:Int)(L:List Bool):List Bool:=match sym cs ls s with
 |some p=>putL L (rv p.1 p.2) p.2
 |none=>L
theorem sym_at {cs ls:List Int}{N:Nat}(h1:N<cs.length)(h2:N<ls.length):sym cs ls N=if 1<=ls[N]/\ls[N]<=15/\0<=cs[N]/\cs[N]<2^ls[N].toNat then some (cs[N],ls[N].toNat)else none:=by
 unfold sym
 rw[if_neg (by omega),Int.toNat_natCast,List.getElem?_eq_getElem h1,List.getElem?_eq_getElem h2]
theorem sym_out {cs ls:List Int}{s:Int}(h:s<0\/(cs.length:Int)<=s\/(ls.length:Int)<=s):sym cs ls s=none:=by
 unfold sym
 by_cases h0:s<0
 ·rw[if_pos h0]
 ·rw[if_neg h0]
  rcases h with h|h|h
  ·exact absurd h h0
  ·rw[List.getElem?_eq_none (by omega)]
  ·rw[List.getElem?_eq_none (l:=ls) (by omega)]
   cases cs[s.toNat]? <;> rfl
theorem lim_nat {n:Nat}(h:n<=15):lim (n:Int)=n:=by unfold lim;rw[if_neg (by omega)];simp
section
variable {W:World} {A A2:HP} {a1 a2:Option Addr} {c1 c2:Nat} {cs ls:List Int} {s:Int}
theorem hput {p:Nat}{L:List Bool}(h1:RdB W A a1 cs.length (cs.map I))(h2:RdB W A2 a2 ls.length (ls.map I)):
  Cn p_ 228 [.pointer (some ⟨p,0,none⟩),.slice a1 cs.length c1,.slice a2 ls.length c2,.int .i64 s] W [IsW p L,A,A2] (fun _:Unit=> .int .i64 (phR cs ls s L)) (fun _=>[IsW p (phL cs ls s L),A,A2]):=by
 (refine Shp.cn (Sg.g_ Tryz.call228 Tryz.func228 (an:={drs:=[(3,.ofL [(0,1),(1,1),(2,1),(3,1),(4,1),(5,1),(6,1),(7,1),(8,1),(9,1)])]})) fun F=>?_;simp only[ca_,na_])
 have bad:sym cs ls s=none->Ent W (IsW p L::A::A2::F) (fun w=>∃x:Unit,(Value.int .i64 1)= .int .i64 (phR cs ls s L)/\sat W ([IsW p (phL cs ls s L),A,A2]++F) w):=fun hn=>by
  refine e_ret () (by unfold phR;rw[hn]) ?_
  unfold phL
  rw[hn]
  exact .refl
 refine e_ask v_lss .nil (fun h=>?_) (fun h=>?_)
 ·(refine e_gdF1 ?_);refine e_gdF1 ?_;refine e_gdF1 ?_;refine e_gdF1 ?_;refine e_gdF1 ?_;refine e_gdF1 ?_;refine e_gdF1 ?_;refine o_ v_pickT ?_;refine e_condT ?_
  exact bad (sym_out (.inl h))
 have h0:=h
 refine e_gdT (e_gdT (e_gdT (o_ v_len (e_gdT (e_gdT (o_ v_len (e_gdT (o_ v_min (e_gdT (e_ask v_geq .nil (fun h=>?_) (fun h=>?_)))))))))))
 ·(refine o_ v_pickF ?_);refine e_condT ?_
  exact bad (sym_out (by split at h <;> omega))
 obtain⟨N,rfl⟩:=Int.eq_ofNat_of_zero_le (show 0<=s by omega)
 have hN1:N<cs.length:=by split at h <;> omega
 have hN2:N<ls.length:=by split at h <;> omega
 have hsym:=sym_at hN1 hN2
 obtain⟨g1,o1,rfl,_⟩:=h1.at_ (by omega)
 obtain⟨g2,o2,rfl,_⟩:=h2.at_ (by omega)
 obtain⟨c,hc⟩:∃c,c=cs[N]:=⟨_,rfl⟩
 obtain⟨n,hn⟩:∃n,n=ls[N]:=⟨_,rfl⟩
 have g1':=I_get hN1
 have g2':=I_get hN2
 rw[<- hc]at hsym g1'
 rw[<- hn]at hsym g2'
 refine o_ v_pickF (e_condF (e_drS (t_ (v_ia1 N (by rfl) hN1) ?_)))
 refine p_st (v_ldRd h1 g1') ?_
 refine t_ (v_ia1 N (by rfl) hN2) ?_
 refine p_st (v_ldRd h2 g2') ?_
 refine e_ask v_lss .nil (fun h=>?_) (fun h=>?_)
 ·(refine e_gdF1 ?_);refine e_gdF1 ?_;refine o_ v_pickT ?_;refine e_gdF1 ?_;refine e_gdF1 ?_;refine o_ v_pickT ?_;refine e_gdF1 ?_;refine e_gdF1 ?_;refine e_gdF1 ?_;refine e_gdF1 ?_;refine e_gdF1 ?_;refine o_ v_pickT ?_;refine e_condT ?_
  exact bad (by rw[hsym,if_neg (by omega)])
 have i1:=h
 refine e_gdT (e_gdT (e_ask v_gtr .nil (fun h=>?_) (fun h=>?_)))
 ·(refine o_ v_pickF ?_);refine e_gdF1 ?_;refine e_gdF1 ?_;refine o_ v_pickT ?_;refine e_gdF1 ?_;refine e_gdF1 ?_;refine e_gdF1 ?_;refine e_gdF1 ?_;refine e_gdF1 ?_;refine o_ v_pickT ?_;refine e_condT ?_
  exact bad (by rw[hsym,if_neg (by omega)])
 have i2:=h
 refine o_ v_pickF (e_gdT (e_gdT (e_ask v_lss .nil (fun h=>?_) (fun h=>?_))))
 ·(refine o_ v_pickF ?_);refine e_gdF1 ?_;refine e_gdF1 ?_;refine e_gdF1 ?_;refine e_gdF1 ?_;refine e_gdF1 ?_;refine o_ v_pickT ?_;refine e_condT ?_
  exact bad (by rw[hsym,if_neg (by omega)])
 have i3:=h
 obtain⟨m,rfl⟩:=Int.eq_ofNat_of_zero_le (show 0<=n by omega)
 rw[Int.toNat_natCast]at hsym
 refine o_ v_pickF (e_gdT (e_gdT (e_gdT (o_ v_conv ?_))))
 rw[wrapu64' (by omega) (by omega)]
 refine e_gdT (o_ (v_shl (by omega)) ?_)
 rw[shl64 (by omega) (by omega) (by omega),Int.one_mul]
 have e2:((2^m:Nat):Int)=(2:Int)^m:=Int.natCast_pow 2 m
 rw[e2]
 refine e_gdT (e_ask v_geq .nil (fun h=>?_) (fun h=>?_))
 ·(refine o_ v_pickF ?_);refine e_condT ?_
  exact bad (by rw[hsym,if_neg (fun c=>by have:=c.2.2.2;omega)])
 have hs:sym cs ls N=some (c,m):=by rw[hsym,if_pos ⟨by omega,by omega,by omega,by omega⟩]
 refine o_ v_pickF (e_condF (c_ reverse fun _=>?_))
 rw[lim_nat (show m<=15 by omega)]
 refine c_ put fun _=>?_
 refine e_ret () (by unfold phR;rw[hs]) ?_
 unfold phL
 rw[hs]
 exact im_
end
end Go.Proofs.YtndojgomlkpeaaaGreatDoor.HF
namespace Go.Proofs.YtndojgomlkpeaaaGreatDoor.IF
open Go Go.Proofs Go.RowKit HM HF B M
def lastF (base:Int->Int × Int)(n:Int)(first:Int):Nat->Int × Int × Int
 |0=>(-1,0,0)
 |k+1=>if(base (first+k)).1<=n then(first+k,(base (first+k)).2,n-(base (first+k)).1)else lastF base n first k
def lenS (n:Int):Int × Int × Int:=if 258<n then(-1,0,0)else lastF bL n 257 29
def disS (n:Int):Int × Int × Int:=if 32768<n then(-1,0,0)else lastF bD n 0 30
theorem lastF_ok {base:Int->Int × Int}{n first:Int}:∀(k:Nat),(∃j:Nat,j<k/\(base (first+j)).1<=n)->∃j:Nat,j<k/\lastF base n first k=(first+j,(base (first+j)).2,n-(base (first+j)).1)/\(base (first+j)).1<=n/\(j+1<k->n<(base (first+(j+1:Nat))).1)
 |0,h=>by obtain⟨j,hj,_⟩:=h;omega
 |k+1,h=>by
  unfold lastF
  by_cases c:(base (first+k)).1<=n
  ·rw[if_pos c]
   exact⟨k,by omega,rfl,c,fun h=>by omega⟩
  ·rw[if_neg c]
   obtain⟨j,hj,hb⟩:=h
   have hjk:j<k:=by
    rcases Nat.lt_or_ge j k with d|d
    ·exact d
    ·exact absurd (by rw[show k=j by omega];exact hb) c
   obtain⟨i,h1,h2,h3,h4⟩:=lastF_ok k ⟨j,hjk,hb⟩
   refine⟨i,by omega,h2,h3,fun h=>?_⟩
   by_cases d:i+1<k
   ·exact h4 d
   ·rw[show i+1=k by omega];omega
theorem bL_steps:∀j:Fin 28,(bL (257+(j.1:Nat))).1+((2^(bL (257+(j.1:Nat))).2.toNat:Nat):Int) ≥ (bL (257+((j.1+1:Nat):Int))).1/\0<=(bL (257+(j.1:Nat))).2/\(bL (257+(j.1:Nat))).2<=5/\0<(bL (257+(j.1:Nat))).1:=by decide
theorem bD_steps:∀j:Fin 29,(bD (0+(j.1:Nat))).1+((2^(bD (0+(j.1:Nat))).2.toNat:Nat):Int) ≥ (bD (0+((j.1+1:Nat):Int))).1/\0<=(bD (0+(j.1:Nat))).2/\(bD (0+(j.1:Nat))).2<=13/\0<(bD (0+(j.1:Nat))).1:=by decide
theorem lenS_ok {n:Int}(h1:3<=n)(h2:n<=258):∃(s:Nat) (e k:Nat),lenS n=((s:Int),(k:Int),(e:Int))/\257<=s/\s<=285/\(bL s).1+e=n/\(bL s).2=k/\e<2^k/\k<=5/\0<(bL s).1:=by
 unfold lenS
 rw[if_neg (by omega)]
 obtain⟨j,hj,e1,e2,e3⟩:=lastF_ok (base:=bL) (n:=n) (first:=257) 29 ⟨0,by omega,by rw[show bL (257+((0:Nat):Int))=(3,0)from rfl];exact h1⟩
 rw[e1]
 have es:(257:Int)+(j:Int)=((257+j:Nat):Int):=by omega
 rcases Nat.lt_or_ge j 28 with c|c
 ·obtain⟨s1,s2,s3,s4⟩:=bL_steps ⟨j,c⟩
  have e4:=e3 (by omega)
  simp only at s1 s2 s3 s4
  obtain⟨k,hk⟩:=Int.eq_ofNat_of_zero_le s2
  obtain⟨e,he⟩:=Int.eq_ofNat_of_zero_le (show 0<=n-(bL (257+(j:Int))).1 by omega)
  rw[hk,Int.toNat_natCast]at s1
  refine⟨257+j,e,k,by rw[he,hk,es],by omega,by omega,by rw[<- es];omega,by rw[<- es,hk],?_,by omega,by rw[<- es];exact s4⟩
  have:(e:Int)<((2^k:Nat):Int):=by omega
  exact Int.ofNat_lt.1 this
 ·have hj8:j=28:=by omega
  subst hj8
  have hb:bL (257+((28:Nat):Int))=(258,0):=rfl
  rw[hb]at e2 ⊢
  refine⟨285,0,0,?_,by omega,by omega,?_,rfl,by decide,by omega,by decide⟩
  ·simp only at e2;rw[show n-258=0 by omega];rfl
  ·show(258:Int)+0=n
   simp only at e2;omega
theorem disS_ok {n:Int}(h1:1<=n)(h2:n<=32768):∃(s:Nat) (e k:Nat),disS n=((s:Int),(k:Int),(e:Int))/\s<=29/\(bD s).1+e=n/\(bD s).2=k/\e<2^k/\k<=13/\0<(bD s).1:=by
 unfold disS
 rw[if_neg (by omega)]
 obtain⟨j,hj,e1,e2,e3⟩:=lastF_ok (base:=bD) (n:=n) (first:=0) 30 ⟨0,by omega,by rw[show bD (0+((0:Nat):Int))=(1,0)from rfl];exact h1⟩
 rw[e1]
 have es:(0:Int)+(j:Int)=((j:Nat):Int):=by omega
 rcases Nat.lt_or_ge j 29 with c|c
 ·obtain⟨s1,s2,s3,s4⟩:=bD_steps ⟨j,c⟩
  have e4:=e3 (by omega)
  simp only at s1 s2 s3 s4
  obtain⟨k,hk⟩:=Int.eq_ofNat_of_zero_le s2
  obtain⟨e,he⟩:=Int.eq_ofNat_of_zero_le (show 0<=n-(bD (0+(j:Int))).1 by omega)
  rw[hk,Int.toNat_natCast]at s1
  refine⟨j,e,k,by rw[he,hk,es],by omega,by rw[<- es];omega,by rw[<- es,hk],?_,by omega,by rw[<- es];exact s4⟩
  have:(e:Int)<((2^k:Nat):Int):=by omega
  exact Int.ofNat_lt.1 this
 ·have hj8:j=29:=by omega
  subst hj8
  have hb:bD (0+((29:Nat):Int))=(24577,13):=rfl
  rw[hb]at e2 ⊢
  simp only at e2
  obtain⟨e,he⟩:=Int.eq_ofNat_of_zero_le (show 0<=n-24577 by omega)
  refine⟨29,e,13,by rw[he];rfl,by omega,?_,rfl,?_,by omega,by decide⟩
  ·show(24577:Int)+e=n
   omega
  ·have:(2:Nat)^13=8192:=rfl
   omega
theorem sym_pos {cs ls:List Int}{s:Int}{p:Int × Nat}(h:sym cs ls s=some p):1<=p.2/\p.2<=15:=by
 unfold sym at h
 split at h
 ·cases h
 ·split at h
  ·rename_i c n _ _
   by_cases hc:1<=n/\n<=15/\0<=c/\c<2^n.toNat
   ·rw[if_pos hc]at h
    have hp:=Option.some.inj h
    rw[<- hp]
    simp only
    omega
   ·rw[if_neg hc]at h;cases h
  ·cases h
end Go.Proofs.YtndojgomlkpeaaaGreatDoor.IF
namespace Go.Proofs.YtndojgomlkpeaaaGreatDoor.IF
open Go Go.Proofs Go.RowKit Sh Sl T HM HF B M
theorem last_ {W:World} {f:FuncId} {base:Int->Int × Int} {n first:Int} {N:Nat} (hf:∀s:Int,first<=s->s<first+N->Cn p_ f [.int .i64 s] W [] (fun _:Unit=> .tuple #[.int .i64 (base s).1,.int .i64 (base s).2]) (fun _=>[]))
  (h1: -1000000<=first/\first<=1000000) (hN:0<N/\N<=1000) (hn: -9223372036854000000<=n/\n<=9223372036854000000) (hb:∀s:Int,first<=s->s<first+N->0<=(base s).1/\(base s).1<=100000):
  Cn p_ 237 [.int .i64 n,.int .i64 first,.int .i64 (first+N-1),fn f] W [] (fun _:Unit=> .tuple #[.int .i64 (lastF base n first N).1,.int .i64 (lastF base n first N).2.1,.int .i64 (lastF base n first N).2.2]) (fun _=>[]):=by
 (refine Shp.cn (Sg.g_ Tryz.call237 Tryz.func237 (an:={loops:=[(2,[11])]})) fun F=>?_;simp only[ca_,na_])
 refine e_loop1 (fun m y=>(ex fun k:Nat=>pu (m=k/\k<=N/\y= .int .i64 (first+k-1)/\lastF base n first N=lastF base n first k))::F) N ?_ ?_
 ·exact .ex N (.pu ⟨rfl,Nat.le_refl _,rfl,rfl⟩ .refl)
 intro m ds y
 refine e_ex .here fun k=>e_pu .here fun hk=>?_
 obtain⟨rfl,hkN,rfl,hl⟩:=hk
 refine e_ask v_geq .nil (fun h=>?_) (fun h=>?_)
 ·obtain⟨j,rfl⟩:∃j,m=j+1:=⟨m-1,by omega⟩
  have hs:first+((j+1:Nat):Int)-1=first+(j:Int):=by push_cast;omega
  have hbb:=hb (first+j) (by omega) (by omega)
  rw[hs]
  refine e_condT (e_call (hf (first+j) (by omega) (by omega)) .nil fun _=>?_)
  refine nr_ ?_
  refine o_ (v_extN (vs:=[_,_]) .here) ?_
  refine o_ (v_extN (vs:=[_,_]) (.there .here)) ?_
  refine e_ask v_leq .nil (fun h2=>?_) (fun h2=>?_)
  ·rw[hl,lastF,if_pos h2]
   refine e_condT (sb_ ?_)
   refine rt_ () ?_
   exact .refl
  ·refine e_condF (sb_ ?_)
   refine e_next1 j (by omega) (.ex j (.pu ⟨rfl,by omega,rfl,by rw[hl,lastF,if_neg h2]⟩ ?_))
   exact .refl
 ·have hm0:m=0:=by omega
  subst hm0
  rw[hl]
  refine e_condF (rt_ () ?_)
  exact .refl
theorem bL_c:∀j:Fin 29,0<=(bL (257+(j.1:Nat))).1/\(bL (257+(j.1:Nat))).1<=100000:=by decide
theorem bD_c:∀j:Fin 30,0<=(bD (0+(j.1:Nat))).1/\(bD (0+(j.1:Nat))).1<=100000:=by decide
theorem lzLength {W:World}{n:Int}(hn: -9223372036854000000<=n):Cn p_ 224 [.int .i64 n] W [] (fun _:Unit=> .tuple #[.int .i64 (lenS n).1,.int .i64 (lenS n).2.1,.int .i64 (lenS n).2.2]) (fun _=>[]):=by
 unfold lenS
 (refine Shp.cn (Sg.g_ Tryz.call224 Tryz.func224) fun F=>?_;simp only[ca_,na_])
 refine e_ask v_gtr .nil (fun h=>?_) (fun h=>?_)
 ·rw[if_pos h]
  refine e_condT (rt_ () ?_)
  exact .refl
 ·rw[if_neg h]
  refine e_condF ?_
  refine e_call (last_ (base:=bL) (n:=n) (first:=257) (N:=29) (fun s h1 h2=>baseLength (by omega)) (by omega) (by omega) (by omega) (fun s h1 h2=>by
   obtain⟨j,hj⟩:=Int.eq_ofNat_of_zero_le (show 0<=s-257 by omega)
   have:=bL_c ⟨j,by omega⟩
   simp only at this
   rw[show s=257+(j:Int) by omega]
   exact this)) .nil fun _=>?_
  refine nr_ ?_
  refine o_ (v_extN (vs:=[_,_,_]) .here) ?_
  refine o_ (v_extN (vs:=[_,_,_]) (.there .here)) ?_
  refine o_ (v_extN (vs:=[_,_,_]) (.there (.there .here))) ?_
  refine rt_ () ?_
  exact .refl
theorem lzDistance {W:World}{n:Int}(hn: -9223372036854000000<=n):Cn p_ 225 [.int .i64 n] W [] (fun _:Unit=> .tuple #[.int .i64 (disS n).1,.int .i64 (disS n).2.1,.int .i64 (disS n).2.2]) (fun _=>[]):=by
 unfold disS
 (refine Shp.cn (Sg.g_ Tryz.call225 Tryz.func225) fun F=>?_;simp only[ca_,na_])
 refine e_ask v_gtr .nil (fun h=>?_) (fun h=>?_)
 ·rw[if_pos h]
  refine e_condT (rt_ () ?_)
  exact .refl
 ·rw[if_neg h]
  refine e_condF ?_
  refine e_call (last_ (base:=bD) (n:=n) (first:=0) (N:=30) (fun s h1 h2=>baseDistance) (by omega) (by omega) (by omega) (fun s h1 h2=>by
   obtain⟨j,hj⟩:=Int.eq_ofNat_of_zero_le (show 0<=s by omega)
   have:=bD_c ⟨j,by omega⟩
   simp only at this
   rw[show s=0+(j:Int) by omega]
   exact this)) .nil fun _=>?_
  refine nr_ ?_
  refine o_ (v_extN (vs:=[_,_,_]) .here) ?_
  refine o_ (v_extN (vs:=[_,_,_]) (.there .here)) ?_
  refine o_ (v_extN (vs:=[_,_,_]) (.there (.there .here))) ?_
  refine rt_ () ?_
  exact .refl
structure Pz where
 len:Int
 dist:Int
 c:UInt8
def vPz (p:Pz):Value:= .agg #[I p.len,I p.dist,Sl.B p.c]
def pPz (p:Pz):List Value:=[I p.len,I p.dist,Sl.B p.c]
theorem pz_get {l:List Pz}{i:Nat}(h:i<l.length):∀j,j<3->(l.flatMap pPz)[i * 3+j]? =(pPz l[i])[j]? :=fun j hj=>flat_get (f:=pPz) (s:=3) (fun _=>rfl) l i j h hj
end Go.Proofs.YtndojgomlkpeaaaGreatDoor.IF
namespace Go.Proofs.YtndojgomlkpeaaaGreatDoor.IF
open Go Go.Proofs Go.RowKit HM HF B M
def alk (b:List UInt8)(i j:Nat):Nat->Nat->Nat
 |0,n=>n
 |f+1,n=>if n<258/\j+n<b.length/\b[i+n]? =b[j+n]? then alk b i j f (n+1)else n
def alike (b:List UInt8)(i j:Nat):Nat:=alk b i j 259 0
theorem alk_spec (b:List UInt8)(i j:Nat):∀f n,n+f=259->(∀k,k<n->j+k<b.length/\b[i+k]? =b[j+k]?)->n<=258->n<=alk b i j f n/\alk b i j f n<=258/\(∀k,k<alk b i j f n->j+k<b.length/\b[i+k]? =b[j+k]?)
  /\¬(alk b i j f n<258/\j+alk b i j f n<b.length/\b[i+alk b i j f n]? =b[j+alk b i j f n]?)
 |0,n,h,_,h3=>by omega
 |f+1,n,h,h2,h3=>by
  unfold alk
  by_cases c:n<258/\j+n<b.length/\b[i+n]? =b[j+n]?
  ·rw[if_pos c]
   obtain⟨e1,e2,e3,e4⟩:=alk_spec b i j f (n+1) (by omega) (fun k hk=>by
    rcases Nat.lt_or_ge k n with d|d
    ·exact h2 k d
    ·rw[show k=n by omega];exact c.2) (by omega)
   exact⟨by omega,e2,e3,e4⟩
  ·rw[if_neg c]
   exact⟨Nat.le_refl _,h3,h2,c⟩
theorem alike_spec (b:List UInt8)(i j:Nat):alike b i j<=258/\(∀k,k<alike b i j->j+k<b.length/\b[i+k]? =b[j+k]?)/\¬(alike b i j<258/\j+alike b i j<b.length/\b[i+alike b i j]? =b[j+alike b i j]?):=by
 have:=alk_spec b i j 259 0 rfl (fun k hk=>by omega) (by omega)
 exact⟨this.2.1,this.2.2.1,this.2.2.2⟩
def tri (b:List UInt8)(i:Nat):UInt8 × UInt8 × UInt8:=(b.getD i 0,b.getD (i+1) 0,b.getD (i+2) 0)
theorem tri_get {b:List UInt8}{i:Nat}(h:i+3<=b.length):tri b i=(b[i],b[i+1],b[i+2]):=by
 unfold tri
 simp only[List.getD_eq_getElem?_getD]
 rw[List.getElem?_eq_getElem (by omega),List.getElem?_eq_getElem (by omega),List.getElem?_eq_getElem (by omega)];rfl
theorem alike3 {b:List UInt8}{i j:Nat}(hij:i<j)(hj:j+3<=b.length):3<=alike b i j↔tri b i=tri b j:=by
 obtain⟨e1,e2,e3⟩:=alike_spec b i j
 rw[tri_get (by omega),tri_get hj]
 constructor
 ·intro h
  have a0:=(e2 0 (by omega)).2
  have a1:=(e2 1 (by omega)).2
  have a2:=(e2 2 (by omega)).2
  rw[List.getElem?_eq_getElem (by omega),List.getElem?_eq_getElem (by omega)]at a0 a1 a2
  have b0:=Option.some.inj a0
  have b1:=Option.some.inj a1
  have b2:=Option.some.inj a2
  simp only[Nat.add_zero]at b0
  rw[b0,b1,b2]
 ·intro h
  have h1:=congrArg Prod.fst h
  have h2:=congrArg (fun x=>x.2.1) h
  have h3:=congrArg (fun x=>x.2.2) h
  simp only at h1 h2 h3
  rcases Nat.lt_or_ge (alike b i j) 3 with c|c
  ·exfalso
   refine e3 ⟨by omega,by omega,?_⟩
   rw[List.getElem?_eq_getElem (by omega),List.getElem?_eq_getElem (by omega)]
   congr 1
   rcases(show alike b i j=0\/alike b i j=1\/alike b i j=2 by omega)with d|d|d <;> simp only[d,Nat.add_zero] <;> assumption
  ·exact c
theorem alike_short {b:List UInt8}{i j:Nat}(hj:b.length<j+3):alike b i j<3:=by
 obtain⟨e1,e2,e3⟩:=alike_spec b i j
 rcases Nat.lt_or_ge (alike b i j) 3 with c|c
 ·exact c
 ·have:=(e2 2 (by omega)).1;omega
def bst (j i n:Nat)(p:Pz):Pz:=if p.len<(n:Int)then⟨n,(j:Int)-i,0⟩else p
def rat (b:List UInt8)(j w:Nat):Nat->Nat->Pz->Pz
 |0,_,p=>p
 |i+1,d,p=>if w<j-i\/d=0 then p else if alike b i j<3 then rat b j w i d p else rat b j w i (d-1) (bst j i (alike b i j) p)
def pieceAt (b:List UInt8)(w d j:Nat):Pz:=rat b j w j d ⟨0,0,b.getD j 0⟩
def cdl (w j:Nat):List Nat->Nat->List Nat
 |[],_=>[]
 |_::_,0=>[]
 |i::r,d+1=>if w<j-i then []else i::cdl w j r d
def pls (b:List UInt8)(m:Nat)(k:UInt8 × UInt8 × UInt8):List Nat:=(List.range m).filter fun i=>decide (tri b i=k)
theorem pls_succ (b:List UInt8)(m:Nat)(k:UInt8 × UInt8 × UInt8):pls b (m+1) k=if tri b m=k then pls b m k++[m]else pls b m k:=by
 unfold pls
 rw[List.range_succ,List.filter_append]
 by_cases c:tri b m=k
 ·rw[if_pos c];simp[c]
 ·rw[if_neg c];simp[c]
theorem pls_lt {b:List UInt8}{m:Nat}{k:UInt8 × UInt8 × UInt8}{i:Nat}(h:i∈pls b m k):i<m:=by
 unfold pls at h
 exact List.mem_range.1 (List.mem_filter.1 h).1
theorem pls_len (b:List UInt8)(m:Nat)(k:UInt8 × UInt8 × UInt8):(pls b m k).length<=m:=by
 unfold pls
 exact Nat.le_trans (List.length_filter_le _ _) (by simp)
theorem cdl_far {w j:Nat}:∀ {l:List Nat} {d:Nat},(∀i∈l,w<j-i)->cdl w j l d=[]
 |[],_,_=>by simp[cdl]
 |i::r,0,_=>by simp[cdl]
 |i::r,d+1,h=>by rw[cdl,if_pos (h i (by simp))]
theorem cdl_zero {w j:Nat}:∀ {l:List Nat},cdl w j l 0=[]
 |[]=>by simp[cdl]
 |i::r=>by simp[cdl]
theorem rat_cdl {b:List UInt8}{j w:Nat}(hj:j+3<=b.length):∀(m d:Nat) (p:Pz),m<=j->rat b j w m d p=(cdl w j (pls b m (tri b j)).reverse d).foldl (fun p i=>bst j i (alike b i j) p) p
 |0,d,p,_=>by simp[rat,pls,cdl]
 |m+1,d,p,hm=>by
  rw[rat,pls_succ]
  by_cases c:w<j-m\/d=0
  ·rw[if_pos c]
   rcases c with c|c
   ·rw[cdl_far]
    ·rfl
    ·intro i hi
     rw[List.mem_reverse]at hi
     split at hi
     ·rcases List.mem_append.1 hi with h|h
      ·have:=pls_lt h;omega
      ·rw[List.mem_singleton.1 h];exact c
     ·have:=pls_lt hi;omega
   ·rw[c,cdl_zero];rfl
  ·rw[if_neg c]
   by_cases t:tri b m=tri b j
   ·have h3:=(alike3 (i:=m) (by omega) hj).2 t
    rw[if_neg (by omega),if_pos t,List.reverse_append]
    obtain⟨d,rfl⟩:∃d',d=d'+1:=⟨d-1,by omega⟩
    simp only[List.reverse_cons,List.reverse_nil,List.nil_append,List.singleton_append]
    rw[cdl,if_neg (fun h=>c (.inl h)),List.foldl_cons,Nat.add_sub_cancel]
    exact rat_cdl hj m d _ (by omega)
   ·have h3:¬3<=alike b m j:=fun h=>t ((alike3 (i:=m) (by omega) hj).1 h)
    rw[if_pos (by omega),if_neg t]
    exact rat_cdl hj m d p (by omega)
theorem rat_short {b:List UInt8}{j w:Nat}(hj:b.length<j+3):∀(m d:Nat) (p:Pz),rat b j w m d p=p
 |0,d,p=>rfl
 |m+1,d,p=>by
  rw[rat,if_pos (alike_short hj)]
  split
  ·rfl
  ·exact rat_short hj m d p
def gP (b:List UInt8)(j:Nat)(p:Pz):Prop:=(p.len=0/\p.dist=0/\p.c=b.getD j 0)\/∃n d:Nat,p.len=n/\p.dist=d/\p.c=0/\3<=n/\n<=258/\1<=d/\d<=32768/\d<=j/\∀k,k<n->j+k<b.length/\b[j-d+k]? =b[j+k]?
theorem bst_gP {b:List UInt8}{j i w:Nat}{p:Pz}(hw:w<=32768)(hi:i<j)(hiw:¬w<j-i)(h3:¬alike b i j<3)(h:gP b j p):gP b j (bst j i (alike b i j) p):=by
 unfold bst
 by_cases c:p.len<(alike b i j:Int)
 ·rw[if_pos c]
  obtain⟨e1,e2,e3⟩:=alike_spec b i j
  refine .inr ⟨alike b i j,j-i,rfl,by simp only;omega,rfl,by omega,e1,by omega,by omega,by omega,fun k hk=>?_⟩
  rw[show j-(j-i)=i by omega]
  exact e2 k hk
 ·rw[if_neg c];exact h
theorem rat_gP {b:List UInt8}{j w:Nat}(hw:w<=32768):∀(m d:Nat) (p:Pz),m<=j->gP b j p->gP b j (rat b j w m d p)
 |0,d,p,_,h=>h
 |m+1,d,p,hm,h=>by
  rw[rat]
  split
  ·exact h
  ·rename_i c
   split
   ·exact rat_gP hw m d p (by omega) h
   ·rename_i c3
    exact rat_gP hw m _ _ (by omega) (bst_gP hw (by omega) (fun x=>c (.inl x)) c3 h)
theorem pieceAt_gP {b:List UInt8}{j w d:Nat}(hw:w<=32768):gP b j (pieceAt b w d j):=rat_gP hw j d _ (Nat.le_refl _) (.inl ⟨rfl,rfl,rfl⟩)
def pzN (p:Pz):Nat:=max 1 p.len.toNat
theorem pzN_pos (p:Pz):1<=pzN p:=by unfold pzN;omega
theorem gP_end {b:List UInt8}{j:Nat}{p:Pz}(h:gP b j p)(hj:j<b.length):j+pzN p<=b.length/\pzN p<=258/\(pzN p:Int)=(if p.len<1 then 1 else p.len):=by
 unfold pzN
 rcases h with ⟨h1,_⟩|⟨n,d,h1,_,_,h3,h4,_,_,_,h5⟩
 ·rw[h1];simp;omega
 ·rw[h1,Int.toNat_natCast]
  have:=(h5 (n-1) (by omega)).1
  refine⟨by omega,by omega,?_⟩
  split <;> omega
def pcs (b:List UInt8)(w d:Nat):Nat->Nat->List Pz
 |0,_=>[]
 |f+1,j=>if j<b.length then pieceAt b w d j::pcs b w d f (j+pzN (pieceAt b w d j))else []
def piecesF (b:List UInt8)(w d:Nat):List Pz:=pcs b w d (b.length+1) 0
theorem pcs_end {b:List UInt8}{w d:Nat}{f j:Nat}(h:b.length<=j):pcs b w d f j=[]:=by
 cases f with
 |zero=>rfl
 |succ f=>rw[pcs,if_neg (by omega)]
end Go.Proofs.YtndojgomlkpeaaaGreatDoor.IF
namespace Go.Proofs.YtndojgomlkpeaaaGreatDoor.IF
open Go Go.Proofs Go.RowKit Sh Sl T HM HF B M
def cntP:List Int->Int
 |[]=>0
 |x::l=>(if 0<x then 1 else 0)+cntP l
def sumP:List Int->Int
 |[]=>0
 |x::l=>(if 0<x then x else 0)+sumP l
theorem cntP_append:∀l m:List Int,cntP (l++m)=cntP l+cntP m
 |[],m=>by simp[cntP]
 |x::l,m=>by simp only[List.cons_append,cntP,cntP_append l m];omega
theorem sumP_append:∀l m:List Int,sumP (l++m)=sumP l+sumP m
 |[],m=>by simp[sumP]
 |x::l,m=>by simp only[List.cons_append,sumP,sumP_append l m];omega
theorem cntP_b:∀l:List Int,0<=cntP l/\cntP l<=l.length
 |[]=>by simp[cntP]
 |x::l=>by
  have:=cntP_b l
  simp only[cntP,List.length_cons]
  split <;> omega
theorem sumP_b {B:Int}:∀l:List Int,(∀x∈l,x<=B)->0<=B->0<=sumP l/\sumP l<=B * l.length
 |[],_,_=>by simp[sumP]
 |x::l,h,hB=>by
  have:=sumP_b l (fun y hy=>h y (.tail _ hy)) hB
  have hx:=h x (.head _)
  simp only[sumP,List.length_cons]
  have e:B * ((l.length+1:Nat):Int)=B * l.length+B:=by rw[Int.natCast_add,Int.mul_add];simp
  rw[e]
  generalize B * (l.length:Int)=E at this ⊢
  split <;> omega
def enoughB (l:List Int):Bool:=decide (cntP l=0)||(decide (cntP l=1)&&decide (sumP l=1))||fullB l
theorem enough {W:World}{a:Option Addr}{cap:Nat}{l:List Int}{A:HP}(hr:RdB W A a l.length (l.map I))(hl:l.length<=1048576)(hb:∀x∈l,x<=1048576):
  Cn p_ 181 [.slice a l.length cap] W [A] (fun _:Unit=> .bool (enoughB l)) (fun _=>[A]):=by
 (refine Shp.cn (Sg.g_ Tryz.call181 Tryz.func181 (an:={loops:=[(3,[3,4,9])]})) fun F=>?_;simp only[ca_,na_])
 refine o_ v_len (e_loop3 (fun m x y z=>[ex fun i:Nat=>pu (m+i=l.length/\x= .int .i64 (cntP (l.take i))/\y= .int .i64 (sumP (l.take i))/\z= .int .i64 (i:Int)),A]++F) l.length ?_ ?_)
 ·refine .ex 0 ?_
  exact .pu ⟨by omega,rfl,rfl,rfl⟩ .refl
 intro m ds x y z
 refine nr_ ?_
 refine e_ex Pick.here fun i=>e_pu Pick.here fun hi=>?_
 obtain⟨hmi,rfl,rfl,rfl⟩:=hi
 have c1:=cntP_b (l.take i)
 have c2:=sumP_b (B:=1048576) (l.take i) (fun x hx=>hb x (List.mem_of_mem_take hx)) (by omega)
 rw[List.length_take]at c1 c2
 refine e_ask v_lss .nil (fun h=>?_) (fun h=>?_)
 ·have hil:i<l.length:=by omega
  obtain⟨g,o,rfl,_⟩:=hr.at_ (by omega)
  have hx:=hb l[i] (List.getElem_mem hil)
  have t1:l.take (i+1)=l.take i++[l[i]]:=by rw[List.take_add_one,List.getElem?_eq_getElem hil];rfl
  refine e_condT (o_ (v_ia1 i (by rfl) hil) ?_)
  refine p_op (v_ldRd hr (v:=I l[i]) (I_get hil)) ?_
  unfold I
  refine e_ask v_gtr .nil (fun h=>?_) (fun h=>?_)
  ·have s1:cntP (l.take (i+1))=cntP (l.take i)+1:=by rw[t1,cntP_append];simp only[cntP];rw[if_pos (by omega)];omega
   have s2:sumP (l.take (i+1))=sumP (l.take i)+l[i]:=by rw[t1,sumP_append];simp only[sumP];rw[if_pos (by omega)];omega
   refine e_condT (ad_ ?_);refine ad_ ?_;refine ad_ ?_
   refine e_next3 (m-1) (by omega) (.ex (i+1) (.pu ⟨by omega,by rw[s1],by rw[s2],rfl⟩ ?_))
   exact .refl
  ·have s1:cntP (l.take (i+1))=cntP (l.take i):=by rw[t1,cntP_append];simp only[cntP];rw[if_neg (by omega)];omega
   have s2:sumP (l.take (i+1))=sumP (l.take i):=by rw[t1,sumP_append];simp only[sumP];rw[if_neg (by omega)];omega
   refine e_condF (ad_ ?_)
   refine e_next3 (m-1) (by omega) (.ex (i+1) (.pu ⟨by omega,by rw[s1],by rw[s2],rfl⟩ ?_))
   exact .refl
 ·have:i=l.length:=by omega
  subst this
  rw[List.take_length]
  refine e_condF ?_
  have fin:∀v:Bool,v=enoughB l->Ent W (A::F) (fun w=>∃x:Unit,(.bool v:Value)= .bool (enoughB l)/\sat W ([A]++F) w):=by
   intro v hv
   rw[hv]
   refine e_ret () rfl ?_
   exact .refl
  refine e_ask v_eql .nil (fun h=>?_) (fun h=>?_)
  ·(refine e_gdF1 ?_);refine e_gdF1 ?_;refine e_gdF1 ?_;refine e_gdU ?_;refine e_gdU ?_;refine e_gdF1 ?_;refine o_ v_pickT ?_;refine e_gdF1 ?_;refine e_gdF1 ?_;refine o_ v_pickT ?_
   exact fin true (by simp[enoughB,h])
  ·have h0:=h
   refine e_gdT (e_gdT (e_ask v_eql .nil (fun h=>?_) (fun h=>?_)))
   ·have h1:=h
    refine e_gdT (e_gdT (e_gdT (e_ask v_eql .nil (fun h=>?_) (fun h=>?_))))
    ·(refine e_gdT ?_);refine o_ v_pickT ?_;refine o_ v_pickF ?_;refine e_gdF1 ?_;refine e_gdF1 ?_;refine o_ v_pickT ?_
     exact fin true (by simp[enoughB,h1,h])
    ·(refine e_gdT ?_);refine o_ v_pickT ?_;refine o_ v_pickF ?_;refine e_gdT ?_;refine e_gdT ?_
     refine c_ (full hr (by omega)) fun _=>?_
     exact o_ v_pickF (fin _ (by simp[enoughB,h0,h]))
   ·(refine e_gdT ?_);refine e_gdF2 ?_;refine e_gdF2 ?_;refine e_gdT ?_;refine o_ v_pickF ?_;refine o_ v_pickF ?_;refine e_gdT ?_;refine e_gdT ?_
    refine c_ (full hr (by omega)) fun _=>?_
    exact o_ v_pickF (fin _ (by simp[enoughB,h0,h]))
theorem ok_lit:okL litL:=by
 have:decide (okL litL)=true:=by decide+kernel
 exact of_decide_eq_true this
theorem ok_dst:okL dstL:=by
 have:decide (okL dstL)=true:=by decide+kernel
 exact of_decide_eq_true this
theorem fixed {W:World}{p at_:Nat}{b out:List UInt8}{most:Int}(h1:0<=most/\most<=1048576)(h2:(out.length:Int)<=most):
  CnP p_ 135 [.pointer (some ⟨p,0,none⟩)] W [IsS p b at_ out most] (fun _:Ok (mS litL dstL b most at_ out)=> .tuple #[]) (fun x=>[IsS p b x.1.1 x.1.2 most]) (fun y:Er (mS litL dstL b most at_ out)=>pn y.1) (fun _=>[]):=by
 (refine Shp.cnP (Sg.g_ Tryz.call135 Tryz.func135) fun F=>?_;simp only[ca_,na_,-eq_self])
 refine c_ fixedL fun _=>?_
 rename_i q
 obtain⟨⟨la,lc⟩,⟨da,dc⟩⟩:=q
 (try dsimp only)
 refine e_slfacts (.here) fun f1 f2 f3 f4=>?_
 refine e_slfacts (.there .here) fun g1 g2 g3 g4=>?_
 refine o_ (v_ext (v:= .slice la litL.length lc) rfl) ?_
 refine o_ (v_ext (v:= .slice da dstL.length dc) rfl) ?_
 (refine' e_callP (decoder (rd_sl (by rw[List.length_map]) f4) (by rw[lit_len];omega)) ?hp (fun _=>?_) (fun _=>?_);(case hp=>(repeat(first|exact Picks.nil|(apply Picks.cons;(focus repeat constructor)))));(all_goals (try simp only[ca_,na_,Bool.not_true,Bool.not_false,-eq_self])))
 rotate_left
 ·rename_i y
  exact absurd ok_lit y.2
 rename_i x1
 (refine' e_callP (decoder (rd_sl (by rw[List.length_map]) g4) (by rw[dst_len];omega)) ?hp (fun _=>?_) (fun _=>?_);(case hp=>(repeat(first|exact Picks.nil|(apply Picks.cons;(focus repeat constructor)))));(all_goals (try simp only[ca_,na_,Bool.not_true,Bool.not_false,-eq_self])))
 rotate_left
 ·rename_i y
  exact absurd ok_dst y.2
 rename_i x2
 (refine' e_callP (symbols (by rw[lit_len];omega) (by rw[dst_len];omega) h1 h2) ?hp (fun _=>?_) (fun _=>?_);(case hp=>(repeat(first|exact Picks.nil|(apply Picks.cons;(focus repeat constructor)))));(all_goals (try simp only[ca_,na_,Bool.not_true,Bool.not_false,-eq_self])))
 ·rename_i x
  refine rt_ x ?_
  exact im_
 ·rename_i y
  refine e_pan y rfl ?_
  exact im_
theorem e_rfactS {W:World}{L L':List HP}{S:WP}{p at_:Nat}{b out:List UInt8}{most:Int}(q:Pick L (IsS p b at_ out most) L')(h:at_<=8 * b.length->Ent W L S):Ent W L S:=fun w hw=>by
 have e:Ent W L (fun _=>at_<=8 * b.length):=e_ex q fun r=>e_all .here (e_rfact (.there .here) fun hat=>fun _ _=>hat)
 exact h (e w hw) w hw
def mRun (l:List Int)(b:List UInt8)(at_:Nat)(acc:List Int):Except Int (Int × Int × Nat):=
 let x:=nxt l b at_
 if x.2.1≠0 then .error x.2.1 else
 if x.1=16 then(if takR b x.2.2 2≠0 then .error (takR b x.2.2 2)else if ¬0<acc.length then .error 30 else .ok (acc.getD (acc.length-1) 0,3+(takN b x.2.2 2:Int),takAt b x.2.2 2))else
 if x.1=17 then(if takR b x.2.2 3≠0 then .error (takR b x.2.2 3)else .ok (0,3+(takN b x.2.2 3:Int),takAt b x.2.2 3))else
 if x.1=18 then(if takR b x.2.2 7≠0 then .error (takR b x.2.2 7)else .ok (0,11+(takN b x.2.2 7:Int),takAt b x.2.2 7))else
 .ok (x.1,1,x.2.2)
def mRow (l:List Int)(b:List UInt8)(n:Nat):Nat->Nat->List Int->Except Int (Nat × List Int)
 |0,_,_=> .error 20
 |f+1,at_,acc=>if acc.length<n then(match mRun l b at_ acc with
  | .error e=> .error e
  | .ok (v,t,a)=>if ¬t<=(n:Int)-acc.length then .error 30 else mRow l b n f a (acc++List.replicate t.toNat v))else .ok (at_,acc)
theorem mRun_ok {l:List Int}{b:List UInt8}{at_:Nat}{acc:List Int}{v t:Int}{a:Nat}{B:Int}(h:mRun l b at_ acc= .ok (v,t,a))(h0:∀x∈acc,0<=x/\x<=B)(hl:(l.length:Int)<=B):0<=v/\v<=B/\1<=t/\at_<a:=by
 have ho:∀ {v' t':Int} {a':Nat},(Except.ok (v',t',a'):Except Int (Int × Int × Nat))= .ok (v,t,a)->v'=v/\t'=t/\a'=a:=fun e=>by
  have:=Prod.mk.inj (Except.ok.inj e)
  have h2:=Prod.mk.inj this.2
  exact⟨this.1,h2.1,h2.2⟩
 unfold mRun at h
 simp only at h
 obtain⟨c0,h⟩:=ite_err h
 have hlt:=(nxt_at l b at_).2 (Decidable.not_not.1 c0)
 have hv:=nxt_val l b at_
 by_cases c1:(nxt l b at_).1=16
 ·rw[if_pos c1]at h
  obtain⟨_,h⟩:=ite_err h
  obtain⟨c2,h⟩:=ite_err h
  obtain⟨rfl,rfl,rfl⟩:=ho h
  have c3:acc.length-1<acc.length:=by omega
  have hm:=h0 _ (List.getElem_mem c3)
  have hle:=takAt_le b (nxt l b at_).2.2 2
  rw[List.getD_eq_getElem?_getD,List.getElem?_eq_getElem c3]
  exact⟨hm.1,hm.2,by omega,by omega⟩
 rw[if_neg c1]at h
 by_cases c2:(nxt l b at_).1=17
 ·rw[if_pos c2]at h
  obtain⟨_,h⟩:=ite_err h
  obtain⟨rfl,rfl,rfl⟩:=ho h
  have hle:=takAt_le b (nxt l b at_).2.2 3
  exact⟨by omega,by omega,by omega,by omega⟩
 rw[if_neg c2]at h
 by_cases c3:(nxt l b at_).1=18
 ·rw[if_pos c3]at h
  obtain⟨_,h⟩:=ite_err h
  obtain⟨rfl,rfl,rfl⟩:=ho h
  have hle:=takAt_le b (nxt l b at_).2.2 7
  exact⟨by omega,by omega,by omega,by omega⟩
 rw[if_neg c3]at h
 obtain⟨rfl,rfl,rfl⟩:=ho h
 exact⟨by omega,by omega,by omega,by omega⟩
theorem mem_rep {acc:List Int}{v:Int}{k:Nat}{B:Int}(h0:∀x∈acc,0<=x/\x<=B)(hv:0<=v/\v<=B):∀x∈acc++List.replicate k v,0<=x/\x<=B:=by
 intro x hx
 rcases List.mem_append.1 hx with h|h
 ·exact h0 x h
 ·rw[(List.mem_replicate.1 h).2];exact hv
theorem mRow_ok {l:List Int}{b:List UInt8}{n:Nat}{B:Int}(hl:(l.length:Int)<=B):∀(f:Nat) {at_:Nat} {acc:List Int} {a:Nat} {r:List Int},mRow l b n f at_ acc= .ok (a,r)->acc.length<=n->(∀x∈acc,0<=x/\x<=B)->r.length=n/\(∀x∈r,0<=x/\x<=B)
 |0,_,_,_,_,h,_,_=>by cases h
 |f+1,at_,acc,a,r,h,h1,h0=>by
  rw[mRow]at h
  by_cases c:acc.length<n
  ·rw[if_pos c]at h
   cases hr:mRun l b at_ acc with
   |error e=>rw[hr]at h;cases h
   |ok q=>
    obtain⟨v,t,a1⟩:=q
    rw[hr]at h
    simp only at h
    obtain⟨c1,h⟩:=ite_err h
    have ho:=mRun_ok hr h0 hl
    refine mRow_ok hl f h ?_ (mem_rep h0 ⟨ho.1,ho.2.1⟩)
    rw[List.length_append,List.length_replicate];omega
  ·rw[if_neg c]at h
   have:=Prod.mk.inj (Except.ok.inj h)
   rw[<- this.2]
   exact⟨by omega,h0⟩
def mRw (l:List Int)(b:List UInt8)(n at_:Nat):Except Int (Nat × List Int):=mRow l b n (8 * b.length+1-at_) at_ []
theorem row {W:World}{p pd at_ n:Nat}{l:List Int}{b out:List UInt8}{most:Int}(hl:l.length<=320)(hn:n<=1048576)(ho:out.length<=1048576):
  CnP p_ 180 [.pointer (some ⟨p,0,none⟩),.pointer (some ⟨pd,0,none⟩),.int .i64 (n:Int)] W [IsS p b at_ out most,IsDec pd l]
   (fun x:Ok (mRw l b n at_) × Option Addr × Nat=> .slice x.2.1 n x.2.2) (fun x=>[IsS p b x.1.1.1 out most,Sl 1 3 x.2.1 x.2.2 n (x.1.1.2.map I)]) (fun y:Er (mRw l b n at_)=>pn y.1) (fun _=>[]):=by
 (refine Shp.cnP (Sg.g_ Tryz.call180 Tryz.func180 (an:={cuts:=[(14,[8,9])],loops:=[(2,[7]),(16,[7,54])]})) fun F=>?_;simp only[ca_,na_,-eq_self])
 obtain⟨R,hR⟩:∃R,R=mRw l b n at_:=⟨_,rfl⟩
 rw[<- hR]
 refine e_nil (s:=1) (e:=3) ?_
 refine e_rfactS (.there .here) fun hat0=>?_
 refine e_loop1 (fun m y=>[ex fun at1:Nat=>ex fun acc:List Int=>ex fun q:Option Addr × Nat=>all [pu (8 * b.length+1<=m+at1/\at1<=8 * b.length/\R=mRow l b n m at1 acc/\acc.length<=n/\(∀x∈acc,0<=x/\x<=320)/\y= .slice q.1 acc.length q.2),Sl 1 3 q.1 q.2 acc.length (acc.map I),IsS p b at1 out most,IsDec pd l]]++F) (8 * b.length+1-at_) ?_ ?_
 ·refine .ex at_ (.ex [] (.ex (none,0) (.all ?_)))
  refine nr_ ?_
  refine .pu ⟨by omega,hat0,hR,by simp,by simp,rfl⟩ ?_
  exact .pick (by repeat constructor) (.pick (by repeat constructor) (.pick (by repeat constructor) .refl))
 clear hR hat0
 intro m ds y
 refine nr_ ?_
 refine e_ex Pick.here fun at1=>e_ex Pick.here fun acc=>e_ex Pick.here fun q=>e_all Pick.here ?_
 obtain⟨qa,qc⟩:=q
 refine nr_ ?_
 refine e_pu Pick.here fun hi=>?_
 obtain⟨hm,hat,hR,h2,h3,rfl⟩:=hi
 obtain⟨m,rfl⟩:∃m',m=m'+1:=⟨m-1,by omega⟩
 rw[mRow]at hR
 refine e_slfacts .here fun f1 f2 f3 f4=>?_
 refine o_ v_len (e_ask v_lss .nil (fun h=>?_) (fun h=>?_))
 rotate_left
 ·rw[if_neg (by omega)]at hR
  have:acc.length=n:=by omega
  subst this
  refine e_condF (e_ret ((⟨_,hR⟩:Ok R),(qa,qc)) rfl ?_)
  exact im_
 rw[if_pos (by omega)]at hR
 refine e_condT ?_
 have hM:mRun l b at1 acc=mRun l b at1 acc:=rfl
 conv at hM=>rhs;unfold mRun
 simp only at hM
 refine e_ex (.there .here) fun q=>e_all Pick.here ?_
 obtain⟨r,sa,sc⟩:=q
 refine nr_ ?_
 refine o_ v_nil (o_ v_fa0 (ln_ ?_))
 (refine' e_callP (inext) ?hp (fun _=>?_) (fun _=>?_);(case hp=>(repeat(first|exact Picks.nil|(apply Picks.cons;(focus repeat constructor)))));(all_goals (try simp only[ca_,na_,Bool.not_true,Bool.not_false,-eq_self])))
 rotate_left
 ·rename_i y
  rw[if_pos y.2]at hM
  rw[hM]at hR
  refine e_pan ⟨_,hR⟩ rfl ?_
  exact im_
 rename_i x1
 rw[if_neg (fun c=>c x1.2)]at hM
 have hv:=nxt_val l b at1
 have hlt:=(nxt_at l b at1).2 x1.2
 obtain⟨x,hx⟩:∃x,x=(nxt l b at1).1:=⟨_,rfl⟩
 obtain⟨a2,ha2⟩:∃a2,a2=(nxt l b at1).2.2:=⟨_,rfl⟩
 rw[<- hx]at hv
 rw[<- ha2]at hlt
 rw[<- hx,<- ha2]at hM ⊢
 refine e_imp (M:=Sl 1 3 qa qc acc.length (acc.map I)::IsS p b a2 out most::IsDec pd l::F) (.pick (by repeat constructor) (.ex (r,(sa,sc)) (.all (.pick (by repeat constructor) (.pick (by repeat constructor) (.pick (by repeat constructor) im_)))))) ?_
 refine e_cut2 (fun z8 z9=>[ex fun v:Int=>ex fun t:Int=>ex fun a3:Nat=>all [pu (mRun l b at1 acc= .ok (v,t,a3)/\z8= .int .i64 v/\z9= .int .i64 t/\t<=1099511627776),Sl 1 3 qa qc acc.length (acc.map I),IsS p b a3 out most,IsDec pd l]]++F) ?_ ?_
 rotate_left
 ·(refine e_ask v_eql .nil (fun h=>?_) (fun h=>?_))
  ·rw[if_pos h]at hM
   refine e_condT ?_
   (refine' e_callP (stake) ?hp (fun _=>?_) (fun _=>?_);(case hp=>(repeat(first|exact Picks.nil|(apply Picks.cons;(focus repeat constructor)))));(all_goals (try simp only[ca_,na_,Bool.not_true,Bool.not_false,-eq_self])))
   rotate_left
   ·rename_i y
    rw[if_pos y.2]at hM
    rw[hM]at hR
    refine e_pan ⟨_,hR⟩ rfl ?_
    exact im_
   rename_i x4
   rw[if_neg (fun c=>c x4.2)]at hM
   have ht1:=takN32 b a2 2
   refine ad_ ?_;refine o_ v_len (o_ v_gtr ?_)
   (refine' e_callP (demand) ?hp (fun _=>?_) (fun _=>?_);(case hp=>(repeat(first|exact Picks.nil|(apply Picks.cons;(focus repeat constructor)))));(all_goals (try simp only[ca_,na_,Bool.not_true,Bool.not_false,-eq_self])))
   rotate_left
   ·rename_i y
    rw[if_pos (by have:=of_decide_eq_false y.2;omega)]at hM
    rw[hM]at hR
    refine e_pan ⟨_,hR⟩ rfl ?_
    exact im_
   rename_i x5
   have h0:=of_decide_eq_true x5.2
   rw[if_neg (by omega)]at hM
   obtain⟨gq,rfl⟩:=f4 (by omega)
   have hj:acc.length-1<acc.length:=by omega
   refine o_ v_len (sb_ ?_)
   refine o_ (v_ia1 (acc.length-1) (by omega) hj) ?_
   refine p_op (v_ldSl (v:=I acc[acc.length-1]) (by rw[Nat.zero_add];exact I_get hj)) ?_
   rw[List.getD_eq_getElem?_getD,List.getElem?_eq_getElem hj]at hM
   refine e_sat (.ex (acc[acc.length-1]) (.ex (3+(takN b a2 2:Int)) (.ex (takAt b a2 2) (.all ?_))))
   refine nr_ ?_
   refine .pu ⟨hM,rfl,rfl,by omega⟩ ?_
   exact .pick (by repeat constructor) (.pick (by repeat constructor) (.pick (by repeat constructor) .refl))
  rw[if_neg h]at hM
  refine e_condF (e_ask v_eql .nil (fun h=>?_) (fun h=>?_))
  ·rw[if_pos h]at hM
   refine e_condT ?_
   (refine' e_callP (stake) ?hp (fun _=>?_) (fun _=>?_);(case hp=>(repeat(first|exact Picks.nil|(apply Picks.cons;(focus repeat constructor)))));(all_goals (try simp only[ca_,na_,Bool.not_true,Bool.not_false,-eq_self])))
   rotate_left
   ·rename_i y
    rw[if_pos y.2]at hM
    rw[hM]at hR
    refine e_pan ⟨_,hR⟩ rfl ?_
    exact im_
   rename_i x4
   rw[if_neg (fun c=>c x4.2)]at hM
   have ht1:=takN32 b a2 3
   refine ad_ ?_
   refine e_sat (.ex 0 (.ex (3+(takN b a2 3:Int)) (.ex (takAt b a2 3) (.all ?_))))
   refine nr_ ?_
   refine .pu ⟨hM,rfl,rfl,by omega⟩ ?_
   exact .pick (by repeat constructor) (.pick (by repeat constructor) (.pick (by repeat constructor) .refl))
  rw[if_neg h]at hM
  refine e_condF (e_ask v_eql .nil (fun h=>?_) (fun h=>?_))
  ·rw[if_pos h]at hM
   refine e_condT ?_
   (refine' e_callP (stake) ?hp (fun _=>?_) (fun _=>?_);(case hp=>(repeat(first|exact Picks.nil|(apply Picks.cons;(focus repeat constructor)))));(all_goals (try simp only[ca_,na_,Bool.not_true,Bool.not_false,-eq_self])))
   rotate_left
   ·rename_i y
    rw[if_pos y.2]at hM
    rw[hM]at hR
    refine e_pan ⟨_,hR⟩ rfl ?_
    exact im_
   rename_i x4
   rw[if_neg (fun c=>c x4.2)]at hM
   have ht1:=takN32 b a2 7
   refine ad_ ?_
   refine e_sat (.ex 0 (.ex (11+(takN b a2 7:Int)) (.ex (takAt b a2 7) (.all ?_))))
   refine nr_ ?_
   refine .pu ⟨hM,rfl,rfl,by omega⟩ ?_
   exact .pick (by repeat constructor) (.pick (by repeat constructor) (.pick (by repeat constructor) .refl))
  rw[if_neg h]at hM
  refine e_condF (e_sat (.ex x (.ex 1 (.ex a2 (.all ?_)))))
  refine nr_ ?_
  refine .pu ⟨hM,rfl,rfl,by omega⟩ ?_
  exact .pick (by repeat constructor) (.pick (by repeat constructor) (.pick (by repeat constructor) .refl))
 clear hM hx ha2 hlt hv x1
 intro ds2 z8 z9
 refine nr_ ?_
 refine e_ex Pick.here fun v=>e_ex Pick.here fun t=>e_ex Pick.here fun a3=>e_all Pick.here ?_
 refine nr_ ?_
 refine e_pu Pick.here fun hi=>?_
 obtain⟨hM,rfl,rfl,ht⟩:=hi
 obtain⟨v0,v1,t1,hlt⟩:=mRun_ok (B:=320) hM h3 (by omega)
 rw[hM]at hR
 simp only at hR
 refine o_ v_len (sb_ ?_)
 refine o_ v_leq ?_
 (refine' e_callP (demand) ?hp (fun _=>?_) (fun _=>?_);(case hp=>(repeat(first|exact Picks.nil|(apply Picks.cons;(focus repeat constructor)))));(all_goals (try simp only[ca_,na_,Bool.not_true,Bool.not_false,-eq_self])))
 rotate_left
 ·rename_i y
  rw[if_pos (of_decide_eq_false y.2)]at hR
  refine e_pan ⟨_,hR⟩ rfl ?_
  exact im_
 rename_i x5
 have h0:=of_decide_eq_true x5.2
 rw[if_neg (fun c=>c h0)]at hR
 obtain⟨k,rfl⟩:=Int.eq_ofNat_of_zero_le (show 0<=t by omega)
 rw[Int.toNat_natCast]at hR
 refine e_rfactS (.there .here) fun hat3=>?_
 refine e_loop2 (fun m2 x y=>[ex fun i:Nat=>ex fun q:Option Addr × Nat=>all [pu (m2+i=k/\y= .int .i64 (i:Int)/\x= .slice q.1 (acc.length+i) q.2),Sl 1 3 q.1 q.2 (acc.length+i) ((acc++List.replicate i v).map I),IsS p b a3 out most,IsDec pd l]]++F) k ?_ ?_
 ·refine .ex 0 (.ex (qa,qc) (.all ?_))
  refine nr_ ?_
  refine .pu ⟨by omega,rfl,rfl⟩ ?_
  rw[List.replicate_zero,List.append_nil]
  exact .pick (by repeat constructor) (.pick (by repeat constructor) (.pick (by repeat constructor) .refl))
 intro m2 ds3 x y
 refine nr_ ?_
 refine e_ex Pick.here fun i=>e_ex Pick.here fun q=>e_all Pick.here ?_
 obtain⟨qa2,qc2⟩:=q
 refine nr_ ?_
 refine e_pu Pick.here fun hi=>?_
 obtain⟨hmi,rfl,rfl⟩:=hi
 (try dsimp only)
 refine e_ask v_lss .nil (fun h=>?_) (fun h=>?_)
 ·refine e_condT (e_bsl1 fun g=>?_)
  refine e_app (m:=1) (news:=[I v]) (by repeat constructor) (src_pt (e':=3) (by kernel_rfl) .here (by rfl) (I_one (l:=[v]))) (by omega) (by omega) fun a' c'=>?_
  refine ad_ ?_
  refine e_next2 (m2-1) (by omega) (.ex (i+1) (.ex (a',c') (.all ?_)))
  refine nr_ ?_
  refine .pu ⟨by omega,congrArg (Value.int .i64) (by omega),by rw[Nat.add_assoc]⟩ ?_
  rw[List.replicate_succ',<- List.append_assoc,List.map_append (l₁:=acc++List.replicate i v),<- Nat.add_assoc]
  exact .pick (by repeat constructor) (.pick (by repeat constructor) (.pick (by repeat constructor) im_))
 ·have:i=k:=by omega
  subst this
  refine e_condF (e_next1 m (by omega) (.ex a3 (.ex (acc++List.replicate i v) (.ex (qa2,qc2) (.all ?_)))))
  refine nr_ ?_
  have hle:(acc++List.replicate i v).length=acc.length+i:=by rw[List.length_append,List.length_replicate]
  rw[hle]
  refine .pu ⟨by omega,hat3,hR,by omega,mem_rep h3 ⟨v0,v1⟩,rfl⟩ ?_
  exact .pick (by repeat constructor) (.pick (by repeat constructor) (.pick (by repeat constructor) .refl))
end Go.Proofs.YtndojgomlkpeaaaGreatDoor.IF
namespace Go.Proofs.YtndojgomlkpeaaaGreatDoor.Sl
open Go Go.Proofs Go.RowKit Sh
theorem v_slAh {P:Program}{W:World}{t e:TypeId}{s len:Nat}{g:Nat}{q:IntKind}{j:Int}(h:Nat)[ht:ArrT P t len e s](hj:j=(h:Int))(hl:h<=len)(h0:0<len):RunV P W [] (sSl t (.pointer (some ⟨g,0,none⟩)) none (some (.int q j)) none) (.slice (some ⟨g,0,none⟩) h len):=fun w _=>by
 have hne:len≠0:=by omega
 simp[sSl,Instr.sliceAt,Instr.sliceBounds,ht.ut,ht.size,run_bound h hj hl,Instr.sureAddr,hne,Addr.add]
end Go.Proofs.YtndojgomlkpeaaaGreatDoor.Sl
namespace Go.Proofs.YtndojgomlkpeaaaGreatDoor.IF
open Go Go.Proofs Go.RowKit Sh Sl T HM HF B M
def ordL:List Nat:=[16,17,18,0,8,7,9,6,10,5,11,4,12,3,13,2,14,1,15]
def mCl (b:List UInt8):List Nat->Nat->List Int->Except Int (Nat × List Int)
 |[],at_,l=> .ok (at_,l)
 |k::ks,at_,l=>if takR b at_ 3≠0 then .error (takR b at_ 3)else mCl b ks (takAt b at_ 3) (l.set k (takN b at_ 3:Int))
def mBoth (b:List UInt8)(most:Int)(h n:Nat)(l:List Int)(at_:Nat)(out:List UInt8):Except Int (Nat × List UInt8):=
 match mRw l b n at_ with
 | .error e=> .error e
 | .ok (a5,r)=>
  if ¬(0<r.getD 256 0/\enoughB (r.take h)=true/\enoughB (r.drop h)=true)then .error 30 else
  if ¬okL (r.take h)then .error 30 else
  if ¬okL (r.drop h)then .error 30 else mS (r.take h) (r.drop h) b most a5 out
def mDyn (b:List UInt8)(most:Int)(at_:Nat)(out:List UInt8):Except Int (Nat × List UInt8):=
 if takR b at_ 5≠0 then .error (takR b at_ 5)else
 if takR b (takAt b at_ 5) 5≠0 then .error (takR b (takAt b at_ 5) 5)else
 if takR b (takAt b (takAt b at_ 5) 5) 4≠0 then .error (takR b (takAt b (takAt b at_ 5) 5) 4)else
 if ¬(takN b at_ 5<=29/\takN b (takAt b at_ 5) 5<=29)then .error 31 else
 match mCl b (ordL.take (takN b (takAt b (takAt b at_ 5) 5) 4+4)) (takAt b (takAt b (takAt b at_ 5) 5) 4) (List.replicate 19 0)with
 | .error e=> .error e
 | .ok (a4,l)=>if ¬fullB l=true then .error 30 else mBoth b most (takN b at_ 5+257) (takN b at_ 5+257+takN b (takAt b at_ 5) 5+1) l a4 out
theorem takN_lt {b:List UInt8}{at_:Nat}{k:Nat}:takN b at_ k<2^k:=by
 unfold takN
 split
 ·have:=tak_lt (ub b) at_ ((k:Int)).toNat
  rwa [Int.toNat_natCast]at this
 ·exact Nat.pow_pos (by omega)
theorem dynamic {W:World}{p at_:Nat}{b out:List UInt8}{most:Int}(h1:0<=most/\most<=1048576)(h2:(out.length:Int)<=most):
  CnP p_ 136 [.pointer (some ⟨p,0,none⟩)] W [IsS p b at_ out most] (fun _:Ok (mDyn b most at_ out)=> .tuple #[]) (fun x=>[IsS p b x.1.1 x.1.2 most]) (fun y:Er (mDyn b most at_ out)=>pn y.1) (fun _=>[]):=by
 (refine Shp.cnP (Sg.g_ Tryz.call136 Tryz.func136 (an:={loops:=[(5,[31])],drs:=[(11,.ofL [(0,1),(1,1),(2,1),(3,1),(4,1),(5,1),(6,1),(7,1),(8,1),(9,1)])]})) fun F=>?_;simp only[ca_,na_,-eq_self])
 obtain⟨R,hR⟩:∃R,R=mDyn b most at_ out:=⟨_,rfl⟩
 rw[<- hR]
 unfold mDyn at hR
 (refine' e_callP (stake) ?hp (fun _=>?_) (fun _=>?_);(case hp=>(repeat(first|exact Picks.nil|(apply Picks.cons;(focus repeat constructor)))));(all_goals (try simp only[ca_,na_,Bool.not_true,Bool.not_false,-eq_self])))
 rotate_left
 ·rename_i y
  rw[if_pos y.2]at hR
  refine e_pan ⟨_,hR⟩ rfl ?_
  exact im_
 rename_i x1
 rw[if_neg (fun c=>c x1.2)]at hR
 have hh:=takN_lt (b:=b) (at_:=at_) (k:=5)
 obtain⟨nh,hhE⟩:∃h,h=takN b at_ 5:=⟨_,rfl⟩
 obtain⟨a1,ha1⟩:∃a,a=takAt b at_ 5:=⟨_,rfl⟩
 rw[<- hhE,<- ha1]at hR
 rw[show(takN b at_ 5)=nh from hhE.symm,<- ha1]
 rw[show takN b at_ ((5:Nat):Int)=nh from hhE.symm]at hh
 (refine' e_callP (stake) ?hp (fun _=>?_) (fun _=>?_);(case hp=>(repeat(first|exact Picks.nil|(apply Picks.cons;(focus repeat constructor)))));(all_goals (try simp only[ca_,na_,Bool.not_true,Bool.not_false,-eq_self])))
 rotate_left
 ·rename_i y
  rw[if_pos y.2]at hR
  refine e_pan ⟨_,hR⟩ rfl ?_
  exact im_
 rename_i x2
 rw[if_neg (fun c=>c x2.2)]at hR
 have hd:=takN_lt (b:=b) (at_:=a1) (k:=5)
 obtain⟨nd,hdE⟩:∃h,h=takN b a1 5:=⟨_,rfl⟩
 obtain⟨a2,ha2⟩:∃a,a=takAt b a1 5:=⟨_,rfl⟩
 rw[<- hdE,<- ha2]at hR
 rw[show(takN b a1 5)=nd from hdE.symm,<- ha2]
 rw[show takN b a1 ((5:Nat):Int)=nd from hdE.symm]at hd
 (refine' e_callP (stake) ?hp (fun _=>?_) (fun _=>?_);(case hp=>(repeat(first|exact Picks.nil|(apply Picks.cons;(focus repeat constructor)))));(all_goals (try simp only[ca_,na_,Bool.not_true,Bool.not_false,-eq_self])))
 rotate_left
 ·rename_i y
  rw[if_pos y.2]at hR
  refine e_pan ⟨_,hR⟩ rfl ?_
  exact im_
 rename_i x3
 rw[if_neg (fun c=>c x3.2)]at hR
 have hc:=takN_lt (b:=b) (at_:=a2) (k:=4)
 obtain⟨c,hcE⟩:∃h,h=takN b a2 4:=⟨_,rfl⟩
 obtain⟨a3,ha3⟩:∃a,a=takAt b a2 4:=⟨_,rfl⟩
 rw[<- hcE,<- ha3]at hR
 rw[show(takN b a2 4)=c from hcE.symm,<- ha3]
 rw[show takN b a2 ((4:Nat):Int)=c from hcE.symm]at hc
 have hop:(out.length:Int)<=1048576:=by omega
 refine o_ v_leq ?_
 by_cases hq:nh<=29/\nd<=29
 rotate_left
 ·rw[if_pos hq]at hR
  by_cases hq1:nh<=29
  ·rw[dT_ (by omega)]
   refine e_gdT (e_gdT (o_ v_leq ?_))
   rw[dF_ (by omega)]
   refine o_ v_pickT ?_
   (refine' e_callP (demand) ?hp (fun _=>?_) (fun _=>?_);(case hp=>(repeat(first|exact Picks.nil|(apply Picks.cons;(focus repeat constructor)))));(all_goals (try simp only[ca_,na_,Bool.not_true,Bool.not_false,-eq_self])))
   ·rename_i x
    exact absurd x.2 (by decide)
   ·refine e_pan ⟨_,hR⟩ rfl ?_
    exact im_
  ·rw[dF_ (by omega)]
   refine e_gdF2 (e_gdF2 (o_ v_pickF ?_))
   (refine' e_callP (demand) ?hp (fun _=>?_) (fun _=>?_);(case hp=>(repeat(first|exact Picks.nil|(apply Picks.cons;(focus repeat constructor)))));(all_goals (try simp only[ca_,na_,Bool.not_true,Bool.not_false,-eq_self])))
   ·rename_i x
    exact absurd x.2 (by decide)
   ·refine e_pan ⟨_,hR⟩ rfl ?_
    exact im_
 rw[if_neg (fun c=>c hq)]at hR
 obtain⟨hq1,hq2⟩:=hq
 rw[dT_ (by omega)]
 refine e_gdT (e_gdT (o_ v_leq ?_))
 rw[dT_ (by omega)]
 refine o_ v_pickT ?_
 (refine' e_callP (demand) ?hp (fun _=>?_) (fun _=>?_);(case hp=>(repeat(first|exact Picks.nil|(apply Picks.cons;(focus repeat constructor)))));(all_goals (try simp only[ca_,na_,Bool.not_true,Bool.not_false,-eq_self])))
 rotate_left
 ·rename_i y
  exact absurd y.2 (by decide)
 refine e_mksl 19 19 (by rfl) (by rfl) (by omega) (by omega) (by decide) fun gl=>?_
 refine o_ v_rv ?_;refine e_newA fun g=>?_;refine sg_ ?_;refine ad_ ?_
 refine o_ (v_slAh (c+4) (by omega) (by omega) (by omega)) ?_
 obtain⟨K,hK⟩:∃K,K=c+4:=⟨_,rfl⟩
 rw[<- hK]at hR ⊢
 have hK19:K<=19:=by omega
 obtain⟨M,hM⟩:∃M,M=mCl b (ordL.take K) a3 (List.replicate 19 0):=⟨_,rfl⟩
 rw[<- hM]at hR
 refine o_ v_len (e_loop1 (fun m y=>[ex fun i:Nat=>ex fun at1:Nat=>ex fun l:List Int=>all [pu (m+i=K/\y= .int .i64 (i:Int)/\M=mCl b ((ordL.take K).drop i) at1 l/\l.length=19),pt g (.cells #[(.int .i64 16),(.int .i64 17),(.int .i64 18),(.int .i64 0),(.int .i64 8),(.int .i64 7),(.int .i64 9),(.int .i64 6),(.int .i64 10),(.int .i64 5),(.int .i64 11),(.int .i64 4),(.int .i64 12),(.int .i64 3),(.int .i64 13),(.int .i64 2),(.int .i64 14),(.int .i64 1),(.int .i64 15)] 236 (0,0)),Sl 1 3 (some ⟨gl,0,none⟩) 19 19 (l.map I),IsS p b at1 out most]]++F) K ?_ ?_)
 ·refine .ex 0 (.ex a3 (.ex (List.replicate 19 0) (.all ?_)))
  refine nr_ ?_
  refine .pu ⟨by omega,rfl,hM,by simp⟩ ?_
  rw[List.map_replicate]
  exact .pick (by repeat constructor) (.pick (by repeat constructor) (.pick (by repeat constructor) .refl))
 clear hM
 intro m ds y
 refine nr_ ?_
 refine e_ex Pick.here fun i=>e_ex Pick.here fun at1=>e_ex Pick.here fun l=>e_all Pick.here ?_
 refine nr_ ?_
 refine e_pu Pick.here fun hi=>?_
 obtain⟨hmi,rfl,hM,hl19⟩:=hi
 refine e_ask v_lss .nil (fun h=>?_) (fun h=>?_)
 ·have hiK:i<K:=by omega
  have hog:(ordL.take K).drop i=ordL.getD i 0::(ordL.take K).drop (i+1):=by
   have hlen:i<(ordL.take K).length:=by rw[List.length_take,show ordL.length=19 from rfl];omega
   rw[List.drop_eq_getElem_cons hlen,List.getElem_take,List.getD_eq_getElem?_getD,List.getElem?_eq_getElem]
   rfl
  rw[hog,mCl]at hM
  obtain⟨o,ho⟩:∃o,o=ordL.getD i 0:=⟨_,rfl⟩
  rw[<- ho]at hM
  have hov:(#[(.int .i64 16),(.int .i64 17),(.int .i64 18),(.int .i64 0),(.int .i64 8),(.int .i64 7),(.int .i64 9),(.int .i64 6),(.int .i64 10),(.int .i64 5),(.int .i64 11),(.int .i64 4),(.int .i64 12),(.int .i64 3),(.int .i64 13),(.int .i64 2),(.int .i64 14),(.int .i64 1),(.int .i64 15)]:Array Value)[0+i]? =some (.int .i64 (o:Int))/\o<19:=by
   rw[ho]
   have:i=0\/i=1\/i=2\/i=3\/i=4\/i=5\/i=6\/i=7\/i=8\/i=9\/i=10\/i=11\/i=12\/i=13\/i=14\/i=15\/i=16\/i=17\/i=18:=by omega
   rcases this with rfl|rfl|rfl|rfl|rfl|rfl|rfl|rfl|rfl|rfl|rfl|rfl|rfl|rfl|rfl|rfl|rfl|rfl|rfl <;> exact⟨rfl,by decide⟩
  refine e_condT (o_ (v_ia1 i (by rfl) hiK) ?_)
  refine p_op (v_ld hov.1) ?_
  (refine' e_callP (stake) ?hp (fun _=>?_) (fun _=>?_);(case hp=>(repeat(first|exact Picks.nil|(apply Picks.cons;(focus repeat constructor)))));(all_goals (try simp only[ca_,na_,Bool.not_true,Bool.not_false,-eq_self])))
  rotate_left
  ·rename_i y
   rw[if_pos y.2]at hM
   rw[hM]at hR
   refine e_pan ⟨_,hR⟩ rfl ?_
   exact im_
  rename_i x4
  rw[if_neg (fun c=>c x4.2)]at hM
  refine o_ (v_ia1 o (by rfl) (by omega)) ?_
  rw[Nat.zero_add]
  refine e_stSl (by repeat constructor) (by rw[List.length_map];omega) ?_
  refine ad_ ?_
  refine e_next1 (m-1) (by omega) (.ex (i+1) (.ex (takAt b at1 3) (.ex (l.set o (takN b at1 3:Int)) (.all ?_))))
  refine nr_ ?_
  refine .pu ⟨by omega,rfl,hM,by rw[List.length_set];omega⟩ ?_
  rw[List.map_set]
  exact .pick (by repeat constructor) (.pick (by repeat constructor) (.pick (by repeat constructor) .refl))
 have hiK:i=K:=by omega
 subst hiK
 rw[List.drop_eq_nil_of_le (by rw[List.length_take];omega),mCl]at hM
 rw[hM]at hR
 simp only at hR
 refine e_condF ?_
 have hsl:RdB W (Sl 1 3 (some ⟨gl,0,none⟩) 19 19 (l.map I)) (some ⟨gl,0,none⟩) l.length (l.map I):=by
  rw[hl19];exact rd_sl (by rw[List.length_map,hl19]) (fun _=>⟨gl,rfl⟩)
 rw[show(Value.slice (some ⟨gl,0,none⟩) 19 19)= .slice (some ⟨gl,0,none⟩) l.length 19 by rw[hl19]]
 refine c_ (full hsl (by omega)) fun _=>?_
 (refine' e_callP (demand) ?hp (fun _=>?_) (fun _=>?_);(case hp=>(repeat(first|exact Picks.nil|(apply Picks.cons;(focus repeat constructor)))));(all_goals (try simp only[ca_,na_,Bool.not_true,Bool.not_false,-eq_self])))
 rotate_left
 ·rename_i y
  rw[if_pos (by rw[y.2];decide)]at hR
  refine e_pan ⟨_,hR⟩ rfl ?_
  exact im_
 rename_i x5
 rw[if_neg (fun c=>c x5.2)]at hR
 (refine' e_callP (decoder hsl (by omega)) ?hp (fun _=>?_) (fun _=>?_);(case hp=>(repeat(first|exact Picks.nil|(apply Picks.cons;(focus repeat constructor)))));(all_goals (try simp only[ca_,na_,Bool.not_true,Bool.not_false,-eq_self])))
 rotate_left
 ·rename_i y
  have hf:=x5.2
  unfold fullB at hf
  exact absurd (of_decide_eq_true (Bool.and_eq_true _ _▸hf).1) y.2
 rename_i x6
 refine ad_ ?_;refine ad_ ?_;refine ad_ ?_
 rw[show(nh:Int)+257+nd+1=((nh+257+nd+1:Nat):Int) by omega]
 unfold mBoth at hR
 (refine' e_callP (row (l:=l) (out:=out) (by omega) (by omega) (by omega)) ?hp (fun _=>?_) (fun _=>?_);(case hp=>(repeat(first|exact Picks.nil|(apply Picks.cons;(focus repeat constructor)))));(all_goals (try simp only[ca_,na_,Bool.not_true,Bool.not_false,-eq_self])))
 rotate_left
 ·rename_i y
  rw[y.2]at hR
  refine e_pan ⟨_,hR⟩ rfl ?_
  exact im_
 rename_i q
 obtain⟨⟨⟨a5,r⟩,hrow⟩,ra,rc⟩:=q
 rw[hrow]at hR
 simp only at hR
 (try dsimp only)
 obtain⟨hrl,hrb⟩:=mRow_ok (B:=320) (by omega) _ hrow (by simp) (by simp)
 obtain⟨n,hn⟩:∃n,n=nh+257+nd+1:=⟨_,rfl⟩
 obtain⟨k,hk⟩:∃n,n=nh+257:=⟨_,rfl⟩
 rw[<- hk]at hR
 rw[<- hn]at hrl ⊢
 refine e_slfacts (.there .here) fun f1 f2 f3 f4=>?_
 obtain⟨gr,rfl⟩:=f4 (by omega)
 have f4:0<n->∃g',some (⟨gr,0,none⟩:Addr)=some ⟨g',0,none⟩:=fun _=>⟨gr,rfl⟩
 have hrd:=rd_sl (W:=W) (e:=3) (cap:=rc) (cs:=r.map I) (n:=n) (by rw[List.length_map,hrl]) f4
 have hA0:Option.map (fun x:Addr=>x.add (0 * 1)) (some ⟨gr,0,none⟩)=some ⟨gr,0,none⟩:=by simp[addr_add]
 have hAk:Option.map (fun x:Addr=>x.add (k * 1)) (some ⟨gr,0,none⟩)=some ⟨gr,k,none⟩:=by simp[addr_add]
 have hla:(r.take k).length=k:=by rw[List.length_take];omega
 have hlb:(r.drop k).length=n-k:=by rw[List.length_drop,hrl]
 have hRa:=hrd.cut (l:=0) (h:=k) (cap:=rc) (by omega) (by omega) f2
 rw[if_neg (by omega),hA0,List.drop_zero,<- List.map_take,Nat.sub_zero]at hRa
 have hRb:=hrd.cut (l:=k) (h:=n) (cap:=rc) (by omega) (by omega) f2
 rw[if_neg (by omega),hAk,List.take_of_length_le (by rw[List.length_drop,List.length_map];omega),<- List.map_drop]at hRb
 have hba:∀x∈r.take k,x<=1048576:=fun x hx=>by have:=(hrb x (List.mem_of_mem_take hx)).2;omega
 have hbb:∀x∈r.drop k,x<=1048576:=fun x hx=>by have:=(hrb x (List.mem_of_mem_drop hx)).2;omega
 refine e_drS ?_;(refine t_ (v_add (by omega) (by omega)) ?_)
 rw[show(nh:Int)+257=(k:Int) by omega]
 refine t_ (v_slh k (by rfl) (by omega)) ?_
 rw[if_neg (by omega),hA0]
 (refine t_ (v_add (by omega) (by omega)) ?_)
 rw[show(nh:Int)+257=(k:Int) by omega]
 refine t_ (v_sll k (by rfl) (by omega)) ?_
 rw[if_neg (by omega),hAk]
 have h256:256<r.length:=by omega
 refine o_ (v_ia1 256 (by rfl) (by omega)) ?_
 refine p_op (v_ldSl (v:=I r[256]) (by rw[Nat.zero_add];exact I_get h256)) ?_
 refine o_ v_gtr ?_
 have hg:r.getD 256 0=r[256]:=by rw[List.getD_eq_getElem?_getD,List.getElem?_eq_getElem h256];rfl
 rw[hg]at hR
 rw[<- hlb]at hRb
 have hlbn:=hlb
 rw[<- hlb]
 obtain⟨la,hlaE⟩:∃la,la=r.take k:=⟨_,rfl⟩
 obtain⟨lb,hlbE⟩:∃lb,lb=r.drop k:=⟨_,rfl⟩
 rw[<- hlaE]at hR hRa hba hla
 rw[<- hlbE]at hR hRb hbb hlbn ⊢
 rw[<- hla]at hRa hRb ⊢
 have fin0:∀(L:List HP) (kk:Value->WP),Imp W L F->¬((0:Int)<r[256]/\enoughB la=true/\enoughB lb=true)->Ent W L (opN p_ (sCall (fn 172) [.bool false,.int .i64 30]) (fun ch w=>∃y:Er R,ch=pn y.1/\sat W F w) kk):=by
  intro L kk hi hn
  rw[if_pos hn]at hR
  refine e_imp hi ?_
  refine e_callP (A:=[]) (F:=F) demand .nil (fun x=>?_) (fun y=>?_)
  ·exact absurd x.2 (by decide)
  ·refine e_pan ⟨_,hR⟩ rfl ?_
   exact .refl
 by_cases hc1:0<r[256]
 rotate_left
 ·rw[dF_ (by omega)]
  exact e_gdF2 (e_gdF2 (o_ v_pickF (e_gdF2 (e_gdF2 (o_ v_pickF (fin0 _ _ im_ (fun c=>hc1 c.1)))))))
 rw[dT_ (by omega)]
 refine e_gdT (e_gdT (c_ (enough hRa (by omega) hba) fun _=>?_))
 by_cases hc2:enoughB la=true
 rotate_left
 ·rw[show enoughB la=false by simpa using hc2]
  exact o_ v_pickT (e_gdF2 (e_gdF2 (o_ v_pickF (fin0 _ _ im_ (fun c=>hc2 c.2.1)))))
 rw[hc2]
 refine o_ v_pickT (e_gdT (e_gdT (c_ (enough hRb (by omega) hbb) fun _=>?_)))
 by_cases hc3:enoughB lb=true
 rotate_left
 ·rw[show enoughB lb=false by simpa using hc3]
  exact o_ v_pickT (fin0 _ _ im_ (fun c=>hc3 c.2.2))
 rw[hc3]
 refine o_ v_pickT ?_
 (refine' e_callP (demand) ?hp (fun _=>?_) (fun _=>?_);(case hp=>(repeat(first|exact Picks.nil|(apply Picks.cons;(focus repeat constructor)))));(all_goals (try simp only[ca_,na_,Bool.not_true,Bool.not_false,-eq_self])))
 rotate_left
 ·rename_i y
  exact absurd y.2 (by decide)
 rw[if_neg (fun c=>c ⟨hc1,hc2,hc3⟩)]at hR
 (refine' e_callP (decoder hRa (by omega)) ?hp (fun _=>?_) (fun _=>?_);(case hp=>(repeat(first|exact Picks.nil|(apply Picks.cons;(focus repeat constructor)))));(all_goals (try simp only[ca_,na_,Bool.not_true,Bool.not_false,-eq_self])))
 rotate_left
 ·rename_i y
  rw[if_pos y.2]at hR
  refine e_pan ⟨_,hR⟩ rfl ?_
  exact im_
 rename_i x8
 rw[if_neg (fun c=>c x8.2)]at hR
 (refine' e_callP (decoder hRb (by omega)) ?hp (fun _=>?_) (fun _=>?_);(case hp=>(repeat(first|exact Picks.nil|(apply Picks.cons;(focus repeat constructor)))));(all_goals (try simp only[ca_,na_,Bool.not_true,Bool.not_false,-eq_self])))
 rotate_left
 ·rename_i y
  rw[if_pos y.2]at hR
  refine e_pan ⟨_,hR⟩ rfl ?_
  exact im_
 rename_i x9
 rw[if_neg (fun c=>c x9.2)]at hR
 rw[hR]
 (refine' e_callP (symbols (by have:=x8.2.len;omega) (by have:=x9.2.len;omega) h1 h2) ?hp (fun _=>?_) (fun _=>?_);(case hp=>(repeat(first|exact Picks.nil|(apply Picks.cons;(focus repeat constructor)))));(all_goals (try simp only[ca_,na_,Bool.not_true,Bool.not_false,-eq_self])))
 ·rename_i x
  refine rt_ x ?_
  exact im_
 ·rename_i y
  refine e_pan y rfl ?_
  exact im_
end Go.Proofs.YtndojgomlkpeaaaGreatDoor.IF
namespace Go.Proofs.YtndojgomlkpeaaaGreatDoor.IF
open Go Go.Proofs Go.RowKit Sh Sl T HM HF B M
def mKind (k:Nat)(b:List UInt8)(most:Int)(at_:Nat)(out:List UInt8):Except Int (Nat × List UInt8):=
 if k=0 then mStored b most at_ out else if k=1 then mS litL dstL b most at_ out else if k=2 then mDyn b most at_ out else .error 31
theorem none_ {W:World}{p at_:Nat}{b out:List UInt8}{most:Int}:CnP p_ 137 [.pointer (some ⟨p,0,none⟩)] W [IsS p b at_ out most] (fun _:Ok (mKind 3 b most at_ out)=> .tuple #[]) (fun x=>[IsS p b x.1.1 x.1.2 most]) (fun y:Er (mKind 3 b most at_ out)=>pn y.1) (fun _=>[]):=by
 (refine Shp.cnP (Sg.g_ Tryz.call137 Tryz.func137) fun F=>?_;simp only[ca_,na_,-eq_self])
 refine o_ v_mkI (e_panic ?_)
 refine e_pan ⟨31,rfl⟩ rfl ?_
 exact im_
def mLoop (b:List UInt8)(most:Int):Nat->Nat->List UInt8->List (Int × Int)->Except Int (Nat × List UInt8 × List (Int × Int))
 |0,_,_,_=> .error 20
 |f+1,at_,out,l=>
  if takR b at_ 1≠0 then .error (takR b at_ 1)else
  if takR b (takAt b at_ 1) 2≠0 then .error (takR b (takAt b at_ 1) 2)else
  match mKind (takN b (takAt b at_ 1) 2) b most (takAt b (takAt b at_ 1) 2) out with
  | .error e=> .error e
  | .ok (a,o)=>if takN b at_ 1=0 then mLoop b most f a o (l++[((takN b (takAt b at_ 1) 2:Int),(o.length:Int)-(out.length:Int))])else .ok (a,o,l++[((takN b (takAt b at_ 1) 2:Int),(o.length:Int)-(out.length:Int))])
def mAll (b:List UInt8)(most:Int):Except Int (Nat × List UInt8 × List (Int × Int)):=
 if most<0\/1048576<most then .error 1 else if 1048576<b.length then .error 6 else mLoop b most (8 * b.length+1) 0 [] []
def aO (b:List UInt8)(most:Int):List UInt8:=match mAll b most with
 | .ok x=>x.2.1
 | .error _=>[]
def aL (b:List UInt8)(most:Int):List (Int × Int):=match mAll b most with
 | .ok x=>x.2.2
 | .error _=>[]
def aU (b:List UInt8)(most:Int):Int:=match mAll b most with
 | .ok x=>(b.length:Int)-(8 * (b.length:Int)-x.1) / 8
 | .error _=>0
def aE (b:List UInt8)(most:Int):Int:=match mAll b most with
 | .ok _=>0
 | .error e=>e
def blk (x:Int × Int):List Value:=[I x.1,I x.2]
theorem mStored_ok {b:List UInt8}{most:Int}{at_:Nat}{out:List UInt8}{a:Nat}{o:List UInt8}(h:mStored b most at_ out= .ok (a,o))(h0:(out.length:Int)<=most):(o.length:Int)<=most:=by
 unfold mStored at h
 obtain⟨_,h⟩:=ite_err h
 obtain⟨_,h⟩:=ite_err h
 obtain⟨_,h⟩:=ite_err h
 obtain⟨c,h⟩:=ite_err h
 obtain⟨_,h⟩:=ite_err h
 have:=(Prod.mk.inj (Except.ok.inj h)).2
 rw[<- this,List.length_append]
 have hle:(rrB b (takAt b (takAt b ((at_+7) / 8 * 8) 16) 16) (takN b ((at_+7) / 8 * 8) 16:Int)).length<=takN b ((at_+7) / 8 * 8) 16:=by unfold rrB;split;(rw[List.length_take];omega);simp
 omega
theorem mDyn_ok {b:List UInt8}{most:Int}{at_:Nat}{out:List UInt8}{a:Nat}{o:List UInt8}(h:mDyn b most at_ out= .ok (a,o))(h0:(out.length:Int)<=most):(o.length:Int)<=most:=by
 unfold mDyn at h
 obtain⟨_,h⟩:=ite_err h
 obtain⟨_,h⟩:=ite_err h
 obtain⟨_,h⟩:=ite_err h
 obtain⟨_,h⟩:=ite_err h
 split at h
 ·cases h
 ·obtain⟨_,h⟩:=ite_err h
  unfold mBoth at h
  split at h
  ·cases h
  ·obtain⟨_,h⟩:=ite_err h
   obtain⟨_,h⟩:=ite_err h
   obtain⟨_,h⟩:=ite_err h
   exact mSyms_ok _ h h0
theorem mKind_ok {k:Nat}{b:List UInt8}{most:Int}{at_:Nat}{out:List UInt8}{a:Nat}{o:List UInt8}(h:mKind k b most at_ out= .ok (a,o))(h0:(out.length:Int)<=most):(o.length:Int)<=most:=by
 unfold mKind at h
 split at h
 ·exact mStored_ok h h0
 split at h
 ·exact mSyms_ok _ h h0
 split at h
 ·exact mDyn_ok h h0
 ·cases h
theorem rrAt_le (b:List UInt8)(at_:Nat)(k:Int):at_<=rrAt b at_ k:=by unfold rrAt;split <;> omega
theorem mStored_at {b:List UInt8}{most:Int}{at_:Nat}{out:List UInt8}{a:Nat}{o:List UInt8}(h:mStored b most at_ out= .ok (a,o)):at_<=a:=by
 unfold mStored at h
 obtain⟨_,h⟩:=ite_err h
 obtain⟨_,h⟩:=ite_err h
 obtain⟨_,h⟩:=ite_err h
 obtain⟨c,h⟩:=ite_err h
 obtain⟨_,h⟩:=ite_err h
 have:=(Prod.mk.inj (Except.ok.inj h)).1
 have l1:=takAt_le b ((at_+7) / 8 * 8) 16
 have l2:=takAt_le b (takAt b ((at_+7) / 8 * 8) 16) 16
 have l3:=rrAt_le b (takAt b (takAt b ((at_+7) / 8 * 8) 16) 16) (takN b ((at_+7) / 8 * 8) 16:Int)
 omega
theorem mRound_at {la lb:List Int}{b:List UInt8}{most:Int}{at_:Nat}{out:List UInt8}{t:Bool}{a:Nat}{o:List UInt8}(h:mRound la lb b most at_ out= .ok (t,a,o)):at_<=a:=by
 have ho:∀ {t':Bool} {a':Nat} {o':List UInt8},(Except.ok (t',a',o'):Except Int (Bool × Nat × List UInt8))= .ok (t,a,o)->a'=a:=fun e=>(Prod.mk.inj (Prod.mk.inj (Except.ok.inj e)).2).1
 have n1:=(nxt_at la b at_).1
 unfold mRound at h
 simp only at h
 obtain⟨_,h⟩:=ite_err h
 by_cases c1:(nxt la b at_).1=256
 ·rw[if_pos c1]at h
  rw[<- ho h];exact n1
 rw[if_neg c1]at h
 by_cases c2:(nxt la b at_).1<256
 ·rw[if_pos c2]at h
  obtain⟨c3,h⟩:=ite_err h
  rw[<- ho h];exact n1
 rw[if_neg c2]at h
 obtain⟨_,h⟩:=ite_err h
 obtain⟨_,h⟩:=ite_err h
 obtain⟨_,h⟩:=ite_err h
 obtain⟨_,h⟩:=ite_err h
 obtain⟨_,h⟩:=ite_err h
 obtain⟨_,h⟩:=ite_err h
 obtain⟨c3,h⟩:=ite_err h
 rw[<- ho h]
 have l1:=takAt_le b (nxt la b at_).2.2 (bL (nxt la b at_).1).2
 have l2:=(nxt_at lb b (takAt b (nxt la b at_).2.2 (bL (nxt la b at_).1).2)).1
 have l3:=takAt_le b (nxt lb b (takAt b (nxt la b at_).2.2 (bL (nxt la b at_).1).2)).2.2 (bD (nxt lb b (takAt b (nxt la b at_).2.2 (bL (nxt la b at_).1).2)).1).2
 exact Nat.le_trans n1 (Nat.le_trans l1 (Nat.le_trans l2 l3))
theorem mSyms_at {la lb:List Int}{b:List UInt8}{most:Int}:∀(f:Nat) {at_:Nat} {out:List UInt8} {a:Nat} {o:List UInt8},mSyms la lb b most f at_ out= .ok (a,o)->at_<=a
 |0,_,_,_,_,h=>by cases h
 |f+1,at_,out,a,o,h=>by
  rw[mSyms]at h
  split at h
  ·cases h
  ·rename_i hr
   cases h
   exact mRound_at hr
  ·rename_i hr
   exact Nat.le_trans (mRound_at hr) (mSyms_at f h)
theorem mCl_at (b:List UInt8):∀(ks:List Nat) {at_ a:Nat} {l r:List Int},mCl b ks at_ l= .ok (a,r)->at_<=a
 |[],at_,a,l,r,h=>by
  have:=Prod.mk.inj (Except.ok.inj h)
  omega
 |k::ks,at_,a,l,r,h=>by
  rw[mCl]at h
  exact Nat.le_trans (takAt_le b at_ 3) (mCl_at b ks (ite_err h).2)
theorem mRun_at {l:List Int}{b:List UInt8}{at_:Nat}{acc:List Int}{v t:Int}{a:Nat}(h:mRun l b at_ acc= .ok (v,t,a)):at_<=a:=by
 have ho:∀ {v' t':Int} {a':Nat},(Except.ok (v',t',a'):Except Int (Int × Int × Nat))= .ok (v,t,a)->a'=a:=fun e=>(Prod.mk.inj (Prod.mk.inj (Except.ok.inj e)).2).2
 have n1:=(nxt_at l b at_).1
 unfold mRun at h
 simp only at h
 obtain⟨c0,h⟩:=ite_err h
 by_cases c1:(nxt l b at_).1=16
 ·rw[if_pos c1]at h
  obtain⟨_,h⟩:=ite_err h
  obtain⟨c2,h⟩:=ite_err h
  have hle:=takAt_le b (nxt l b at_).2.2 2
  rw[<- ho h];omega
 rw[if_neg c1]at h
 by_cases c2:(nxt l b at_).1=17
 ·rw[if_pos c2]at h
  obtain⟨_,h⟩:=ite_err h
  have hle:=takAt_le b (nxt l b at_).2.2 3
  rw[<- ho h];omega
 rw[if_neg c2]at h
 by_cases c3:(nxt l b at_).1=18
 ·rw[if_pos c3]at h
  obtain⟨_,h⟩:=ite_err h
  have hle:=takAt_le b (nxt l b at_).2.2 7
  rw[<- ho h];omega
 rw[if_neg c3]at h
 rw[<- ho h];omega
theorem mRow_at {l:List Int}{b:List UInt8}{n:Nat}:∀(f:Nat) {at_:Nat} {acc:List Int} {a:Nat} {r:List Int},mRow l b n f at_ acc= .ok (a,r)->at_<=a
 |0,_,_,_,_,h=>by cases h
 |f+1,at_,acc,a,r,h=>by
  rw[mRow]at h
  by_cases c:acc.length<n
  ·rw[if_pos c]at h
   cases hr:mRun l b at_ acc with
   |error e=>rw[hr]at h;cases h
   |ok q=>
    obtain⟨v,t,a1⟩:=q
    rw[hr]at h
    simp only at h
    obtain⟨c1,h⟩:=ite_err h
    exact Nat.le_trans (mRun_at hr) (mRow_at f h)
  ·rw[if_neg c]at h
   have:=Prod.mk.inj (Except.ok.inj h)
   omega
theorem mDyn_at {b:List UInt8}{most:Int}{at_:Nat}{out:List UInt8}{a:Nat}{o:List UInt8}(h:mDyn b most at_ out= .ok (a,o)):at_<=a:=by
 have l1:=takAt_le b at_ 5
 have l2:=takAt_le b (takAt b at_ 5) 5
 have l3:=takAt_le b (takAt b (takAt b at_ 5) 5) 4
 unfold mDyn at h
 obtain⟨_,h⟩:=ite_err h
 obtain⟨_,h⟩:=ite_err h
 obtain⟨_,h⟩:=ite_err h
 obtain⟨_,h⟩:=ite_err h
 split at h
 ·cases h
 ·rename_i hc
  have l4:=mCl_at b _ hc
  obtain⟨_,h⟩:=ite_err h
  unfold mBoth at h
  split at h
  ·cases h
  ·rename_i hr
   have l5:=mRow_at _ hr
   obtain⟨_,h⟩:=ite_err h
   obtain⟨_,h⟩:=ite_err h
   obtain⟨_,h⟩:=ite_err h
   have l6:=mSyms_at _ h
   omega
theorem mKind_at {k:Nat}{b:List UInt8}{most:Int}{at_:Nat}{out:List UInt8}{a:Nat}{o:List UInt8}(h:mKind k b most at_ out= .ok (a,o)):at_<=a:=by
 unfold mKind at h
 split at h
 ·exact mStored_at h
 split at h
 ·exact mSyms_at _ h
 split at h
 ·exact mDyn_at h
 ·cases h
def kf (k:Nat):FuncId:=if k=0 then 134 else if k=1 then 135 else if k=2 then 136 else 137
theorem kind {W:World}{p at_ k:Nat}{b out:List UInt8}{most:Int}(hk:k<4)(h1:0<=most/\most<=1048576)(h2:(out.length:Int)<=most):
  CnP p_ (kf k) [.pointer (some ⟨p,0,none⟩)] W [IsS p b at_ out most] (fun _:Ok (mKind k b most at_ out)=> .tuple #[]) (fun x=>[IsS p b x.1.1 x.1.2 most]) (fun y:Er (mKind k b most at_ out)=>pn y.1) (fun _=>[]):=by
 have:k=0\/k=1\/k=2\/k=3:=by omega
 rcases this with rfl|rfl|rfl|rfl
 ·exact stored (by omega) (by omega)
 ·exact fixed h1 h2
 ·exact dynamic h1 h2
 ·exact none_
theorem fails {W:World} {F:List HP} {g4 g5 g6 g7:Nat} {v4 v5 v6 v7:Value} {e:Int} {K:Value->WP} {Kq:PK}
  (h:Ent W (pt g4 (.cells #[.slice none 0 0] 23)::pt g5 (.cells #[.slice none 0 0] 146)::pt g6 (.cells #[.int .i64 0] 3)::pt g7 (.cells #[.int .i64 e] 27)::F) (K (.tuple #[.slice none 0 0,.slice none 0 0,.int .i64 0,.int .i64 e]))):
  Ent W (pt g4 (.cells #[v4] 23)::pt g5 (.cells #[v5] 146)::pt g6 (.cells #[v6] 3)::pt g7 (.cells #[v7] 27)::F)
   (KpD p_ {target:= .fn (.func 132) ([.pointer (some ⟨g4,0,none⟩),.pointer (some ⟨g5,0,none⟩),.pointer (some ⟨g6,0,none⟩),.pointer (some ⟨g7,0,none⟩)]:List Value).toArray,args:=([]:List Value).toArray} (S.inflate_all_ret (.pointer (some ⟨g4,0,none⟩)) (.pointer (some ⟨g5,0,none⟩)) (.pointer (some ⟨g6,0,none⟩)) (.pointer (some ⟨g7,0,none⟩)) K) Kq (pn e)):=by
 unfold KpD
 refine e_dfS (f:=132) (A:=[.pointer (some ⟨g4,0,none⟩),.pointer (some ⟨g5,0,none⟩),.pointer (some ⟨g6,0,none⟩),.pointer (some ⟨g7,0,none⟩)]) (shape:=fun rv=>S.inflate_all_1 (.pointer (some ⟨g4,0,none⟩)) (.pointer (some ⟨g5,0,none⟩)) (.pointer (some ⟨g6,0,none⟩)) (.pointer (some ⟨g7,0,none⟩)) rv) (fun c=>by cases c) ⟨_,_,rfl⟩ (inv_closure (cs:=[.pointer (some ⟨g4,0,none⟩),.pointer (some ⟨g5,0,none⟩),.pointer (some ⟨g6,0,none⟩),.pointer (some ⟨g7,0,none⟩)]) (bs:=[]) Tryz.call132) (fun h=>S.inflate_all_1_d h) ?_
 unfold S.inflate_all_1 pn
 rw[rec_pan,lv_pan]
 refine o_ (v_neIf (by kernel_rfl)) ?_
 refine e_condT (e_drS (e_stD (v_ta (k:= .i64) (by kernel_rfl)) .nil ?_))
 refine sn_ ?_;refine ob_ ?_;refine sn_ ?_;refine ob_ ?_;refine sn_ ?_;refine ob_ ?_;refine sn_ ?_
 unfold S.inflate_all_ret
 (((refine' e_stS (v_res1 ?hc) ?hi ?_);(case hi=>exact im_);(case hc=>repeat constructor)));(((refine' e_stS (v_res1 ?hc) ?hi ?_);(case hi=>exact im_);(case hc=>repeat constructor)));(((refine' e_stS (v_res1 ?hc) ?hi ?_);(case hi=>exact im_);(case hc=>repeat constructor)));(((refine' e_stS (v_res1 ?hc) ?hi ?_);(case hi=>exact im_);(case hc=>repeat constructor)))
 exact e_imp im_ h
theorem stakeX {W:World}{p r at_:Nat}{b:List UInt8}{v:Value}{most k:Int}:CnP p_ 138 [.pointer (some ⟨p,0,none⟩),.int .i64 k] W [pt p (.cells #[.pointer (some ⟨r,0,none⟩),v,.int .i64 most] 184),IsR r b at_]
  (fun _:If (takR b at_ k=0)=> .int .i64 (takN b at_ k:Int)) (fun _=>[pt p (.cells #[.pointer (some ⟨r,0,none⟩),v,.int .i64 most] 184),IsR r b (takAt b at_ k)]) (fun _:If (takR b at_ k≠0)=>pn (takR b at_ k)) (fun _=>[]):=by
 (refine Shp.cnP (Sg.g_ Tryz.call138 Tryz.func138) fun F=>?_;simp only[ca_,na_,-eq_self])
 refine o_ v_nil (o_ v_fa0 (ln_ ?_))
 refine c_ B.take fun _=>?_
 refine xt_ ?_;refine xt_ ?_
 (refine' e_callP (must) ?hp (fun _=>?_) (fun _=>?_);(case hp=>(repeat(first|exact Picks.nil|(apply Picks.cons;(focus repeat constructor)))));(all_goals (try simp only[ca_,na_,Bool.not_true,Bool.not_false,-eq_self])))
 ·rename_i x
  refine rt_ (yes (x.2)) ?_
  exact im_
 ·rename_i y
  refine e_pan (yes (y.2)) rfl ?_
  exact im_
theorem takN1 (b:List UInt8)(at_:Nat):takN b at_ 1=0\/takN b at_ 1=1:=by
 have:=takN_lt (b:=b) (at_:=at_) (k:=1)
 have e:takN b at_ ((1:Nat):Int)=takN b at_ 1:=rfl
 rw[e]at this
 omega
theorem kf_get {k:Nat}(hk:k<4):(#[fn 134,fn 135,fn 136,fn 137]:Array Value)[k]? =some (fn (kf k)):=by
 have:k=0\/k=1\/k=2\/k=3:=by omega
 rcases this with rfl|rfl|rfl|rfl <;> rfl
theorem blk_app (l:List (Int × Int))(x:Int × Int):(l++[x]).flatMap blk=l.flatMap blk++[I x.1,I x.2]:=by simp[blk]
theorem all_ {W:World}{a:Option Addr}{cap:Nat}{b:List UInt8}{A:HP}{most:Int}(hr:RdB W A a b.length (b.map B))(ha:a=none->b.length=0)(hb:b.length<=140737488355328):
  Cn p_ 103 [.slice a b.length cap,.int .i64 most] W [A]
   (fun q:(Option Addr × Nat) × (Option Addr × Nat)=> .tuple #[.slice q.1.1 (aO b most).length q.1.2,.slice q.2.1 (aL b most).length q.2.2,.int .i64 (aU b most),.int .i64 (aE b most)])
   (fun q=>[Sl 1 5 q.1.1 q.1.2 (aO b most).length ((aO b most).map B),Sl 2 188 q.2.1 q.2.2 (aL b most).length ((aL b most).flatMap blk),A]):=by
 (refine S.inflate_all_s.cn fun F=>?_;unfold S.inflate_all;simp only[ca_,na_])
 refine e_new1 fun g4=>?_
 refine e_new1 fun g5=>?_
 refine e_new1 fun g6=>?_
 refine e_new1 fun g7=>?_
 obtain⟨T,hT⟩:∃T,T=mAll b most:=⟨_,rfl⟩
 have bad:∀e:Int,T= .error e->aO b most=[]/\aL b most=[]/\aU b most=0/\aE b most=e:=by
  intro e he
  rw[hT]at he
  simp[aO,aL,aU,aE,he]
 have good:∀(a1:Nat) (o1:List UInt8) (l1:List (Int × Int)),T= .ok (a1,o1,l1)->aO b most=o1/\aL b most=l1/\aU b most=(b.length:Int)-(8 * (b.length:Int)-a1) / 8/\aE b most=0:=by
  intro a1 o1 l1 he
  rw[hT]at he
  simp[aO,aL,aU,aE,he]
 have fin:∀(e:Int) (L:List HP),T= .error e->Imp W L (A::F)->Ent W L (fun w=>∃q:(Option Addr × Nat) × (Option Addr × Nat),(.tuple #[.slice none 0 0,.slice none 0 0,.int .i64 0,.int .i64 e]:Value)= .tuple #[.slice q.1.1 (aO b most).length q.1.2,.slice q.2.1 (aL b most).length q.2.2,.int .i64 (aU b most),.int .i64 (aE b most)]/\sat W ([Sl 1 5 q.1.1 q.1.2 (aO b most).length ((aO b most).map B),Sl 2 188 q.2.1 q.2.2 (aL b most).length ((aL b most).flatMap blk),A]++F) w):=by
  intro e L he hi
  obtain⟨h1,h2,h3,h4⟩:=bad e he
  rw[h1,h2,h3,h4]
  refine e_imp hi ?_
  refine e_nil (s:=1) (e:=5) ?_
  refine e_nil (s:=2) (e:=188) ?_
  refine e_ret ((none,0),(none,0)) rfl ?_
  exact im_
 unfold mAll at hT
 refine e_cut1 (fun z=>[pu (z= .bool (decide (most<0\/1048576<most))),pt g4 (.cells #[.slice none 0 0] 23),pt g5 (.cells #[.slice none 0 0] 146),pt g6 (.cells #[.int .i64 0] 3),pt g7 (.cells #[.int .i64 0] 27),A]++F) ?_ ?_
 rotate_left
 ·(refine e_ask v_lss .nil (fun h=>?_) (fun h=>?_))
  ·refine e_condT (e_sat (.pu (by rw[dT_ (.inl h)]) ?_))
   exact im_
  ·refine e_condF (e_ask v_gtr .nil (fun h=>?_) (fun h=>?_))
   ·refine e_sat (.pu (by rw[dT_ (.inr h)]) ?_)
    exact im_
   ·refine e_sat (.pu (by rw[dF_ (by omega)]) ?_)
    exact im_
 intro ds z
 refine nr_ ?_
 refine e_pu Pick.here fun hz=>?_
 subst hz
 by_cases hm:most<0\/1048576<most
 ·rw[if_pos hm]at hT
  rw[dT_ hm]
  refine e_condT (sn_ ?_);refine sn_ ?_;refine sn_ ?_;refine sn_ ?_;(((refine' e_stS (v_res1 ?hc) ?hi ?_);(case hi=>exact im_);(case hc=>repeat constructor)));(((refine' e_stS (v_res1 ?hc) ?hi ?_);(case hi=>exact im_);(case hc=>repeat constructor)));(((refine' e_stS (v_res1 ?hc) ?hi ?_);(case hi=>exact im_);(case hc=>repeat constructor)));(((refine' e_stS (v_res1 ?hc) ?hi ?_);(case hi=>exact im_);(case hc=>repeat constructor)))
  exact fin 1 _ hT im_
 rw[if_neg hm]at hT
 rw[dF_ hm]
 refine e_condF (o_ v_len (e_ask v_gtr .nil (fun h=>?_) (fun h=>?_)))
 ·rw[if_pos (by omega)]at hT
  refine e_condT (sn_ ?_);refine sn_ ?_;refine sn_ ?_;refine sn_ ?_;(((refine' e_stS (v_res1 ?hc) ?hi ?_);(case hi=>exact im_);(case hc=>repeat constructor)));(((refine' e_stS (v_res1 ?hc) ?hi ?_);(case hi=>exact im_);(case hc=>repeat constructor)));(((refine' e_stS (v_res1 ?hc) ?hi ?_);(case hi=>exact im_);(case hc=>repeat constructor)));(((refine' e_stS (v_res1 ?hc) ?hi ?_);(case hi=>exact im_);(case hc=>repeat constructor)))
  exact fin 6 _ hT im_
 rw[if_neg (by omega)]at hT
 refine e_condF (o_ v_mkF (e_opDf ?_))
 simp only[List.nil_append,Array.append_empty,List.append_toArray]
 refine c_ (newReader hr ha hb) fun _=>?_
 rename_i pr
 refine o_ v_rv ?_
 refine e_boxA fun gs=>?_
 refine o_ v_rv ?_
 refine e_newA fun gk=>?_
 refine' e_stAgg ?hp ?hn ?hv ?h1 ?_
 case hp=>(repeat constructor)
 case hn=>rfl
 case hv=>rfl
 case h1=>simp[fn,Value.oneCell']
 have bad2:∀(e:Int) (L:List HP) (q:Option Addr × Nat) (n:Nat),T= .error e->Imp W L ([pt g4 (.cells #[.slice none 0 0] 23),pt g5 (.cells #[.slice q.1 n q.2] 146),pt g6 (.cells #[.int .i64 0] 3),pt g7 (.cells #[.int .i64 0] 27),A]++F)->Ent W L (KpD p_ {target:= .fn (.func 132) ([.pointer (some ⟨g4,0,none⟩),.pointer (some ⟨g5,0,none⟩),.pointer (some ⟨g6,0,none⟩),.pointer (some ⟨g7,0,none⟩)]:List Value).toArray,args:=([]:List Value).toArray} (S.inflate_all_ret (.pointer (some ⟨g4,0,none⟩)) (.pointer (some ⟨g5,0,none⟩)) (.pointer (some ⟨g6,0,none⟩)) (.pointer (some ⟨g7,0,none⟩)) (fun v w=>∃q:(Option Addr × Nat) × (Option Addr × Nat),v= .tuple #[.slice q.1.1 (aO b most).length q.1.2,.slice q.2.1 (aL b most).length q.2.2,.int .i64 (aU b most),.int .i64 (aE b most)]/\sat W ([Sl 1 5 q.1.1 q.1.2 (aO b most).length ((aO b most).map B),Sl 2 188 q.2.1 q.2.2 (aL b most).length ((aL b most).flatMap blk),A]++F) w)) noP (pn e)):=by
  intro e L q n he hi
  refine e_imp hi ?_
  refine nr_ ?_
  refine fails ?_
  exact fin e _ he im_
 refine e_nil (s:=2) (e:=188) ?_
 refine e_nil (s:=1) (e:=5) ?_
 refine e_imp (M:=IsS gs b 0 [] most::Sl 2 188 none 0 0 []::pt gk (.cells #[fn 134,fn 135,fn 136,fn 137] 186)::pt g4 (.cells #[.slice none 0 0] 23)::pt g5 (.cells #[.slice none 0 0] 146)::pt g6 (.cells #[.int .i64 0] 3)::pt g7 (.cells #[.int .i64 0] 27)::A::F) (.ex (pr,(none,0)) (.all (.pick (by repeat constructor) (.pick (by repeat constructor) (.pick (by repeat constructor) im_))))) ?_
 have hm0:0<=most/\most<=1048576:=by omega
 refine e_loop1 (fun m y=>[ex fun at1:Nat=>ex fun out:List UInt8=>ex fun l:List (Int × Int)=>ex fun q:Option Addr × Nat=>all [pu (((y= .int .i64 0/\8 * b.length+1<=m+at1/\T=mLoop b most m at1 out l)\/(y= .int .i64 1/\T= .ok (at1,out,l)))/\(out.length:Int)<=most/\l.length<=at1),IsS gs b at1 out most,Sl 2 188 q.1 q.2 l.length (l.flatMap blk),pt gk (.cells #[fn 134,fn 135,fn 136,fn 137] 186),pt g4 (.cells #[.slice none 0 0] 23),pt g5 (.cells #[.slice q.1 l.length q.2] 146),pt g6 (.cells #[.int .i64 0] 3),pt g7 (.cells #[.int .i64 0] 27),A]]++F) (8 * b.length+1) ?_ ?_
 ·refine .ex 0 (.ex [] (.ex [] (.ex (none,0) (.all ?_))))
  refine nr_ ?_
  refine .pu ⟨.inl ⟨rfl,by omega,hT⟩,by simpa using hm0.1,by simp⟩ ?_
  exact im_
 clear hT
 intro m ds y
 refine nr_ ?_
 refine e_ex Pick.here fun at1=>e_ex Pick.here fun out=>e_ex Pick.here fun l=>e_ex Pick.here fun q=>e_all Pick.here ?_
 obtain⟨qa,qc⟩:=q
 refine nr_ ?_
 refine e_pu Pick.here fun hi=>?_
 obtain⟨hi,ho,hll⟩:=hi
 refine e_rfactS .here fun hat=>?_
 rcases hi with ⟨rfl,hm,hT⟩|⟨rfl,hT⟩
 ·refine o_ v_eql ?_
  rw[dT_ rfl]
  refine e_condT ?_
  obtain⟨m,rfl⟩:∃m',m=m'+1:=⟨m-1,by omega⟩
  rw[mLoop]at hT
  (refine' e_callP (stake) ?hp (fun _=>?_) (fun _=>?_);(case hp=>(repeat(first|exact Picks.nil|(apply Picks.cons;(focus repeat constructor)))));(all_goals (try simp only[ca_,na_,Bool.not_true,Bool.not_false,-eq_self])))
  rotate_left
  ·rename_i y
   rw[if_pos y.2]at hT
   exact bad2 _ _ (qa,qc) l.length hT im_
  rename_i x1
  rw[if_neg (fun c=>c x1.2)]at hT
  have ha1:takAt b at1 1=at1+1:=by unfold takAt;rw[if_pos x1.2];rfl
  have hl1:=takN1 b at1
  obtain⟨last,hlast⟩:∃l,l=takN b at1 1:=⟨_,rfl⟩
  rw[<- hlast]at hl1
  rw[<- hlast,ha1]at hT ⊢
  refine e_drS (e_ex Pick.here fun q=>e_all Pick.here ?_)
  obtain⟨r,sa,sc⟩:=q
  refine nr_ ?_
  refine e_stD v_nil .nil ?_;refine e_stD v_fa0 .nil ?_;(((refine' e_stD (v_ldN ?hc) ?hi ?_);(case hi=>exact .pick (by repeat constructor) .nil);(case hc=>repeat constructor)));refine e_stD v_len .nil ?_
  (refine' e_callP (stakeX) ?hp (fun _=>?_) (fun _=>?_);(case hp=>(repeat(first|exact Picks.nil|(apply Picks.cons;(focus repeat constructor)))));(all_goals (try simp only[ca_,na_,Bool.not_true,Bool.not_false,-eq_self])))
  rotate_left
  ·rename_i y
   rw[if_pos y.2]at hT
   exact bad2 _ _ (qa,qc) l.length hT im_
  rename_i x2
  rw[if_neg (fun c=>c x2.2)]at hT
  have hk4:=takN_lt (b:=b) (at_:=at1+1) (k:=2)
  have hkE:takN b (at1+1) ((2:Nat):Int)=takN b (at1+1) 2:=rfl
  rw[hkE]at hk4
  have hlt2:=takAt_le b (at1+1) 2
  obtain⟨kk,hkk⟩:∃k,k=takN b (at1+1) 2:=⟨_,rfl⟩
  obtain⟨a2,ha2⟩:∃a,a=takAt b (at1+1) 2:=⟨_,rfl⟩
  rw[<- hkk]at hk4
  rw[<- ha2]at hlt2
  rw[<- hkk,<- ha2]at hT ⊢
  have hk4:kk<4:=hk4
  refine ob_ ?_;refine ob_ ?_;refine ob_ ?_;refine ob_ ?_
  refine o_ (v_iaA kk (by rfl) hk4) ?_
  refine p_op (v_ld (v:=fn (kf kk)) (by rw[Nat.zero_add,Nat.mul_one];exact kf_get hk4)) ?_
  refine e_imp (M:=IsS gs b a2 out most::Sl 2 188 qa qc l.length (l.flatMap blk)::pt gk (.cells #[fn 134,fn 135,fn 136,fn 137] 186)::pt g4 (.cells #[.slice none 0 0] 23)::pt g5 (.cells #[.slice qa l.length qc] 146)::pt g6 (.cells #[.int .i64 0] 3)::pt g7 (.cells #[.int .i64 0] 27)::A::F) (.ex (r,(sa,sc)) (.all (.pick (by repeat constructor) (.pick (by repeat constructor) (.pick (by repeat constructor) im_))))) ?_
  (refine' e_callP (kind hk4 hm0 ho) ?hp (fun _=>?_) (fun _=>?_);(case hp=>(repeat(first|exact Picks.nil|(apply Picks.cons;(focus repeat constructor)))));(all_goals (try simp only[ca_,na_,Bool.not_true,Bool.not_false,-eq_self])))
  rotate_left
  ·rename_i y
   have hy:=y.2
   rw[hy]at hT
   exact bad2 _ _ (qa,qc) l.length hT im_
  rename_i x3
  obtain⟨⟨a3,o3⟩,hx3⟩:=x3
  rw[hx3]at hT
  simp only at hT
  have ho3:=mKind_ok hx3 ho
  have ha3:=mKind_at hx3
  (try dsimp only)
  refine e_drS (e_ex Pick.here fun q=>e_all Pick.here ?_)
  obtain⟨r3,sa3,sc3⟩:=q
  refine nr_ ?_
  (((refine' e_stD (v_ldN ?hc) ?hi ?_);(case hi=>exact .pick (by repeat constructor) .nil);(case hc=>repeat constructor)));refine t_ v_nil ?_;refine t_ v_fa0 ?_;refine ls_ ?_;refine t_ v_len ?_;(refine t_ (v_sub (by omega) (by omega)) ?_);refine t_ v_rv ?_
  refine e_bslS (n:=1) (vs:=[.agg #[.int .i64 (kk:Int),.int .i64 ((o3.length:Int)-(out.length:Int))]]) rfl (by omega) rfl (by intro v hv;rw[List.mem_singleton.1 hv];rfl) (by omega) fun gb=>?_
  refine ob_ ?_
  refine e_app (m:=1) (news:=[I (kk:Int),I ((o3.length:Int)-(out.length:Int))]) (by repeat constructor) (src_pt (e':=188) (by kernel_rfl) .here (by rfl) (by simp[Value.cells,I,Value.oneCell'])) (by omega) (by omega) fun a' c'=>?_
  refine sn_ ?_
  have hT':(last=0/\T=mLoop b most m a3 o3 (l++[((kk:Int),(o3.length:Int)-(out.length:Int))]))\/(last=1/\T= .ok (a3,o3,l++[((kk:Int),(o3.length:Int)-(out.length:Int))])):=by
   rcases hl1 with h|h
   ·exact .inl ⟨h,by rw[hT,if_pos h]⟩
   ·exact .inr ⟨h,by rw[hT,if_neg (by omega)]⟩
  refine e_next1 m (by omega) (.ex a3 (.ex o3 (.ex (l++[((kk:Int),(o3.length:Int)-(out.length:Int))]) (.ex (a',c') (.all ?_)))))
  refine nr_ ?_
  refine .pu ⟨?_,ho3,by rw[List.length_append,List.length_singleton];omega⟩ ?_
  ·rcases hT' with ⟨h,e⟩|⟨h,e⟩
   ·subst h;exact .inl ⟨rfl,by omega,e⟩
   ·subst h;exact .inr ⟨rfl,e⟩
  refine .ex (r3,(sa3,sc3)) (.all ?_)
  refine nr_ ?_
  rw[List.length_append,blk_app,List.length_singleton]
  exact .pick (by repeat constructor) (.pick (by repeat constructor) (.pick (by repeat constructor) (.pick (by repeat constructor) (.pick (by repeat constructor) (.pick (by repeat constructor) (.pick (by repeat constructor) (.pick (by repeat constructor) (.pick (by repeat constructor) (.pick (by repeat constructor) im_)))))))))
 ·refine o_ v_eql ?_
  rw[dF_ (by omega)]
  refine e_condF (e_drS (e_ex Pick.here fun q=>e_all Pick.here ?_))
  obtain⟨r,sa,sc⟩:=q
  refine nr_ ?_
  refine e_stD v_nil .nil ?_;refine e_stD v_fa0 .nil ?_;(((refine' e_stD (v_ldN ?hc) ?hi ?_);(case hi=>exact .pick (by repeat constructor) .nil);(case hc=>repeat constructor)));(((refine' e_stD (v_ldN ?hc) ?hi ?_);(case hi=>exact .pick (by repeat constructor) .nil);(case hc=>repeat constructor)));refine e_stD v_len .nil ?_;refine t_ v_nil (t_ v_fa0 (ls_ ?_))
  refine c_ left fun _=>?_
  refine ob_ ?_;refine ob_ ?_;refine ob_ ?_;refine ob_ ?_;refine ob_ ?_;(((refine e_stD (v_quo ?h1 ?h2 ?h3) .nil ?_);(case h1=>omega);(case h2=>omega);(case h3=>omega)));(refine e_stD (v_sub (by omega) (by omega)) .nil ?_);refine sn_ ?_;refine ob_ ?_;refine ob_ ?_;refine ob_ ?_;refine ob_ ?_;refine sn_ ?_;refine ob_ ?_;refine ob_ ?_;refine ob_ ?_;refine sn_ ?_;refine sn_ ?_
  obtain⟨g1,g2,g3,g4'⟩:=good _ _ _ hT
  rw[g1,g2,g3,g4']
  refine e_dfS (f:=132) (A:=[.pointer (some ⟨g4,0,none⟩),.pointer (some ⟨g5,0,none⟩),.pointer (some ⟨g6,0,none⟩),.pointer (some ⟨g7,0,none⟩)]) (shape:=fun rv=>S.inflate_all_1 (.pointer (some ⟨g4,0,none⟩)) (.pointer (some ⟨g5,0,none⟩)) (.pointer (some ⟨g6,0,none⟩)) (.pointer (some ⟨g7,0,none⟩)) rv) (fun c=>by cases c) ⟨_,_,rfl⟩ (inv_closure (cs:=[.pointer (some ⟨g4,0,none⟩),.pointer (some ⟨g5,0,none⟩),.pointer (some ⟨g6,0,none⟩),.pointer (some ⟨g7,0,none⟩)]) (bs:=[]) Tryz.call132) (fun h=>S.inflate_all_1_d h) ?_
  unfold S.inflate_all_1
  rw[rec_ret,lv_ret]
  refine o_ (v_neIf0 (by kernel_rfl)) ?_
  refine e_condF ?_
  unfold S.inflate_all_ret
  (((refine' e_stS (v_res1 ?hc) ?hi ?_);(case hi=>exact im_);(case hc=>repeat constructor)));(((refine' e_stS (v_res1 ?hc) ?hi ?_);(case hi=>exact im_);(case hc=>repeat constructor)));(((refine' e_stS (v_res1 ?hc) ?hi ?_);(case hi=>exact im_);(case hc=>repeat constructor)));(((refine' e_stS (v_res1 ?hc) ?hi ?_);(case hi=>exact im_);(case hc=>repeat constructor)))
  refine e_ret ((sa,sc),(qa,qc)) rfl ?_
  refine nr_ ?_
  exact .pick (by repeat constructor) (.pick (by repeat constructor) (.pick (by repeat constructor) im_))
theorem inflate {W:World}{a:Option Addr}{cap:Nat}{b:List UInt8}{A:HP}{most:Int}(hr:RdB W A a b.length (b.map B))(ha:a=none->b.length=0)(hb:b.length<=140737488355328):
  Cn p_ 67 [.slice a b.length cap,.int .i64 most] W [A] (fun q:Option Addr × Nat=> .tuple #[.slice q.1 (aO b most).length q.2,.int .i64 (aU b most),.int .i64 (aE b most)]) (fun q=>[Sl 1 5 q.1 q.2 (aO b most).length ((aO b most).map B),A]):=by
 (refine Shp.cn (Sg.g_ Tryz.call67 Tryz.func67) fun F=>?_;simp only[ca_,na_])
 refine c_ (all_ hr ha hb) fun _=>?_
 rename_i q
 obtain⟨⟨oa,oc⟩,⟨la,lc⟩⟩:=q
 (try dsimp only)
 refine o_ (v_ext (v:= .slice oa (aO b most).length oc) rfl) ?_
 refine o_ (v_ext (v:= .slice la (aL b most).length lc) rfl) ?_
 refine o_ (v_ext (v:= .int .i64 (aU b most)) rfl) ?_
 refine o_ (v_ext (v:= .int .i64 (aE b most)) rfl) ?_
 refine rt_ ((oa,oc)) ?_
 exact im_
end Go.Proofs.YtndojgomlkpeaaaGreatDoor.IF
namespace Go.Proofs.YtndojgomlkpeaaaGreatDoor.IF
open Go Go.Proofs Go.RowKit HM HF B M
def gPs (b:List UInt8):Nat->List Pz->Prop
 |_,[]=>True
 |j,p::r=>j<b.length/\gP b j p/\gPs b (j+pzN p) r
def endN:Nat->List Pz->Nat
 |j,[]=>j
 |j,p::r=>endN (j+pzN p) r
theorem endN_append:∀(l m:List Pz) (j:Nat),endN j (l++m)=endN (endN j l) m
 |[],m,j=>rfl
 |p::l,m,j=>endN_append l m _
theorem gPs_append {b:List UInt8}:∀ {l m:List Pz} {j:Nat},gPs b j (l++m)↔gPs b j l/\gPs b (endN j l) m
 |[],m,j=>by simp[gPs,endN]
 |p::l,m,j=>by
  rw[List.cons_append]
  simp only[gPs,endN]
  rw[gPs_append (l:=l)]
  exact⟨fun⟨a,c,d,e⟩=>⟨⟨a,c,d⟩,e⟩,fun⟨⟨a,c,d⟩,e⟩=>⟨a,c,d,e⟩⟩
theorem endN_le {b:List UInt8}:∀ {l:List Pz} {j:Nat},gPs b j l->j<=b.length->endN j l<=b.length
 |[],j,_,h=>h
 |p::l,j,h,hj=>endN_le (l:=l) h.2.2 (gP_end h.2.1 h.1).1
theorem endN_ge:∀(l:List Pz) (j:Nat),j+l.length<=endN j l
 |[],j=>by simp[endN]
 |p::l,j=>by
  have:=endN_ge l (j+pzN p)
  have:=pzN_pos p
  simp only[endN,List.length_cons];omega
theorem pcs_gPs {b:List UInt8}{w d:Nat}(hw:w<=32768):∀(f j:Nat),b.length+1<=f+j->j<=b.length->gPs b j (pcs b w d f j)/\endN j (pcs b w d f j)=b.length
 |0,j,h1,h2=>by omega
 |f+1,j,h1,h2=>by
  rw[pcs]
  by_cases c:j<b.length
  ·rw[if_pos c]
   have hg:gP b j (pieceAt b w d j):=pieceAt_gP hw
   have he:=gP_end hg c
   have:=pzN_pos (pieceAt b w d j)
   obtain⟨e1,e2⟩:=pcs_gPs (b:=b) (w:=w) (d:=d) hw f (j+pzN (pieceAt b w d j)) (by omega) he.1
   exact⟨⟨c,hg,e1⟩,e2⟩
  ·rw[if_neg c]
   exact⟨trivial,by simp[endN];omega⟩
def lits (b:List UInt8):List Pz:=b.map fun c=>⟨0,0,c⟩
def pcsL (b:List UInt8)(level:Int):List Pz:=if 0<level then piecesF b 32768 (2 * 2^level.toNat)else lits b
theorem lits_gPs {b:List UInt8}:∀(r:List UInt8) (j:Nat),b.drop j=r->gPs b j (lits r)/\endN j (lits r)=j+r.length
 |[],j,h=>⟨trivial,rfl⟩
 |c::r,j,h=>by
  have hj:j<b.length:=by
   rcases Nat.lt_or_ge j b.length with d|d
   ·exact d
   ·rw[List.drop_of_length_le d]at h;cases h
  rw[List.drop_eq_getElem_cons hj]at h
  obtain⟨h1,h2⟩:=List.cons.inj h
  obtain⟨e1,e2⟩:=lits_gPs (b:=b) r (j+1) h2
  refine⟨⟨hj,.inl ⟨rfl,rfl,?_⟩,e1⟩,?_⟩
  ·rw[List.getD_eq_getElem?_getD,List.getElem?_eq_getElem hj];exact h1.symm
  ·show endN (j+1) (lits r)=_
   rw[e2,List.length_cons];omega
theorem pcsL_gPs (b:List UInt8)(level:Int):gPs b 0 (pcsL b level)/\endN 0 (pcsL b level)=b.length:=by
 unfold pcsL
 split
 ·exact pcs_gPs (Nat.le_refl _) _ _ (by omega) (by omega)
 ·have:=lits_gPs (b:=b) b 0 (by simp)
  rw[Nat.zero_add]at this
  exact this
theorem pcsL_len (b:List UInt8)(level:Int):(pcsL b level).length<=b.length:=by
 have h:=pcsL_gPs b level
 have:=endN_ge (pcsL b level) 0
 omega
end Go.Proofs.YtndojgomlkpeaaaGreatDoor.IF
namespace Go.Proofs.YtndojgomlkpeaaaGreatDoor.HF
open Go Go.Proofs Go.RowKit Sh Sl T HM
section rules
variable {P:Program} {W:World} {L L':List HP} {Kp:PK} {k:Value->WP} {A:HP}
theorem v_cap {t e ty:TypeId}{s b:Nat}{a:Option Addr}{n cap:Nat}[ht:SlT P t e s b]:RunV P W [] (sCap #[t] ty [.slice a n cap]) (.int .i64 (cap:Int)):=fun w _=>by
 simp[sCap,Builtin.cap_,run_underlying ht.ut,goInt]
theorem v_ldRdA {t:TypeId}{n m g o j:Nat}{cs vs:List Value}[ht:AggT P t n](H:RdB W A (some ⟨g,o,none⟩) m cs)(hn:vs.length=n)(hc:∀i,i<n->cs[j+i]? =vs[i]?):RunV P W [A] (sLoad t (.pointer (some ⟨g,o+j,none⟩))) (.agg vs.toArray):=fun w hw=>by
 have h:(loadCells ⟨g,o+j,none⟩ n).run P w= .ok vs.toArray w:=by
  subst hn
  refine run_loadCells_list (P:=P) w ⟨g,o+j,none⟩ vs (fun i v hv=>?_)
  have hi:i<vs.length:=by
   rcases Nat.lt_or_ge i vs.length with c|c
   ·exact c
   ·rw[List.getElem?_eq_none c]at hv;cases hv
  have hcv:=hc i hi
  rw[hv]at hcv
  have hl:=H.len
  have hlt:j+i<cs.length:=by
   rcases Nat.lt_or_ge (j+i) cs.length with c|c
   ·exact c
   ·rw[List.getElem?_eq_none c]at hcv;cases hcv
  obtain⟨g',o',e,hcell⟩:=H.at_ (by omega)
  injection e with e;injection e with e1 e2;subst e1;subst e2
  rw[addr_add,Nat.add_assoc]
  exact hcell w [] hw (j+i) v hcv
 simp[sLoad,Instr.loadAt,Instr.sureAddr,loadVar,ht.agg,ht.size,h]
theorem put_get {cs rest vs:List Value}{o n j:Nat}(hn:vs.length=n)(ho:o+n<=cs.length):(cs.take o++vs++cs.drop (o+n)++rest)[j]? =if o<=j/\j<o+n then vs[j-o]? else(cs++rest)[j]? :=by
 simp only[List.getElem?_append,List.length_append,List.length_take,List.length_drop,hn,Nat.min_eq_left (show o<=cs.length by omega),List.getElem?_take,List.getElem?_drop]
 repeat' split
 all_goals first|rfl|omega|(congr 1;omega)
theorem e_stSlA {t e:TypeId} {s n g o cap m:Nat} {cs:List Value} {vs:Array Value} [ht:AggT P t n] (p:Pick L (Sl s e (some ⟨g,0,none⟩) cap m cs) L') (hv:vs.size=n) (ho:o+n<=cs.length) (h1:∀u∈vs.toList,u.oneCell'=true)
  (h:Ent W (Sl s e (some ⟨g,0,none⟩) cap m (cs.take o++vs.toList++cs.drop (o+n))::L') (k undef)):Ent W L (opN P (sStore t (.pointer (some ⟨g,o,none⟩)) (.agg vs)) Kp k):=fun w hw=>by
 obtain⟨rest,r1,r2,r3,r4,hp⟩:=sl_row (hw.pick p)
 have hst:=run_storeCells_cells (P:=P) g o vs.toList 0 w (fun j hj=>by
  rw[hp.cell,Array.getElem?_eq_getElem (by simp at hj ⊢;omega)];rfl) (fun j _=>hp.free) h1
 obtain⟨cs',c1,c2,c3⟩:=setCells_world g (o+0) vs.toList w _ _ hp
 refine⟨?_⟩
 have hvl:vs.toList.length=n:=by simp[hv]
 have:(sStore t (.pointer (some ⟨g,o,none⟩)) (.agg vs)).run P w= .ok .skip (w.setCells g (o+0) vs.toList):=by
  simp[sStore,Instr.storeAt,Instr.sureAddr,storeVar,ht.size,Value.cells,hv,hst]
 rw[this]
 refine h _ (sl_back r1 (by simp[hv];omega) r3 r4 ?_)
 have he:cs'=(cs.take o++vs.toList++cs.drop (o+n)++rest).toArray:=by
  apply Array.ext_getElem?
  intro j
  rw[c3]
  simp only[Nat.add_zero,List.size_toArray,List.length_append,List.getElem?_toArray,hvl]
  rw[put_get hvl ho]
  by_cases hj:o<=j/\j<o+n
  ·rw[if_pos hj,if_pos ⟨hj.1,hj.2,by omega⟩]
  ·rw[if_neg hj,if_neg (fun c=>hj ⟨c.1,c.2.1⟩)]
 rwa [he]at c1
theorem e_appZ {t tn ty e:TypeId} {s b n:Nat} [ht:SlT P t e s b] (htn:P.underlying tn=some (.int .i64)) (h0:0<n) (hs:0<s) (h1:n * b<=140737488355328) (h2:n<=4611686018427387904)
  (h:∀g cap,n<=cap->Ent W (Sl s e (some ⟨g,0,none⟩) cap 0 []::L) (k (.slice (some ⟨g,0,none⟩) n cap))):Ent W L (opN P (sApp #[t,tn] ty [.slice none 0 0,.int .i64 (n:Int)]) Kp k):=fun w hw=>by
 obtain⟨i,z,hi,hz,hs',hb,hzs⟩:=ht.info
 subst hs';subst hb
 refine⟨?_⟩
 have hr:=Lib.run_append_nil_zeros (P:=P) w t tn ty e i z .i64 .i64 ht.ut htn hi hz n h0 hs (by omega) (by omega)
 have:(sApp #[t,tn] ty [.slice none 0 0,.int .i64 (n:Int)]).run P w= .ok (.value (.slice (some ⟨w.heap.size,0,none⟩) n (grownCap w n 0 e))) (w.drew.alloc (.cells (Builtin.zeroCells z.cells n++Builtin.zeroCells z.cells (grownCap w n 0 e-n)) e)):=by simp[sApp,hr]
 rw[this]
 have hge:=grownCap_ge w n 0 e
 have hle:=grownCap_le_maxLen w n 0 e (by unfold maxLen;omega)
 refine h _ _ hge _ ?_
 have ha:=(hw.drew).alloc (.cells (Builtin.zeroCells z.cells n++Builtin.zeroCells z.cells (grownCap w n 0 e-n)) e)
 have he:(Builtin.zeroCells z.cells n++Builtin.zeroCells z.cells (grownCap w n 0 e-n))=([]++(Builtin.zeroCells z.cells n++Builtin.zeroCells z.cells (grownCap w n 0 e-n)).toList).toArray:=by simp
 rw[he]at ha ⊢
 refine sl_back (g:=w.heap.size) ?_ (by simp) (by omega) hle ha
 simp only[Array.toList_append,List.length_append,Array.length_toList,size_zeroCells,hzs,Nat.sub_zero]
 rw[<- Nat.add_mul];congr 1;omega
end rules
structure It where
 n:Int
 g:Nat
 c:Nat
 w:List Int
def ic (x:It):List Value:=[I x.n,.slice (some ⟨x.g,0,none⟩) x.w.length x.c]
theorem ic_len (x:It):(ic x).length=2:=rfl
def er (x:It):Int × List Int:=(x.n,x.w)
def av (x:It):Value:= .agg #[I x.n,.slice (some ⟨x.g,0,none⟩) x.w.length x.c]
theorem ic_one (x:It):∀u∈ic x,u.oneCell'=true:=by
 intro u hu;simp[ic]at hu;rcases hu with rfl|rfl <;> rfl
theorem ics_one (xs:List It):∀u∈xs.flatMap ic,u.oneCell'=true:=by
 intro u hu
 obtain⟨x,_,hx⟩:=List.mem_flatMap.1 hu
 exact ic_one x u hx
theorem ics_len (xs:List It):(xs.flatMap ic).length=xs.length * 2:=flat_len ic_len xs
theorem ics_set (xs:List It)(j:Nat)(y:It)(h:j<xs.length):(xs.flatMap ic).take (j * 2)++ic y++(xs.flatMap ic).drop (j * 2+2)=(xs.set j y).flatMap ic:=by
 induction xs generalizing j with
 |nil=>simp at h
 |cons x xs ih=>
  cases j with
  |zero=>simp[ic]
  |succ j=>
   have:=ih j (by simpa using h)
   rw[List.set_cons_succ,List.flatMap_cons,List.flatMap_cons,<- this,show(j+1) * 2=j * 2+1+1 by omega,show j * 2+1+1+2=(j * 2+2)+1+1 by omega]
   simp[ic]
theorem cmpInt {W:World}{a b:Int}:Cn p_ 241 [.int .i64 a,.int .i64 b] W [] (fun _:Unit=> .int .i64 (if a<b then-1 else if b<a then 1 else 0)) (fun _=>[]):=by
 have nan:∀x:Int,Cn p_ 252 [.int .i64 x] W [] (fun _:Unit=> .bool false) (fun _=>[]):=fun x=>by
  (refine Shp.cn (Sg.g_ Tryz.call252 Tryz.func252) fun F=>?_;simp only[ca_,na_])
  refine o_ v_neq ?_
  rw[dF_ (by simp)]
  refine rt_ () ?_
  exact .refl
 (refine Shp.cn (Sg.g_ Tryz.call241 Tryz.func241) fun F=>?_;simp only[ca_,na_])
 refine c_ (nan a) fun _=>?_
 refine c_ (nan b) fun _=>?_
 refine e_condF (e_condF (e_ask v_lss .nil (fun h=>?_) (fun h=>?_)))
 ·rw[if_pos h]
  refine e_condT (rt_ () ?_)
  exact .refl
 rw[if_neg h]
 refine e_condF (e_ask v_gtr .nil (fun h=>?_) (fun h=>?_))
 ·rw[if_pos h]
  refine e_condT (rt_ () ?_)
  exact .refl
 ·rw[if_neg h]
  refine e_condF (rt_ () ?_)
  exact .refl
theorem cmpIt {W:World}{x y:It}:Cn p_ 240 [av x,av y] W [] (fun _:Unit=> .int .i64 (if x.n<y.n then-1 else if y.n<x.n then 1 else 0)) (fun _=>[]):=by
 (refine Shp.cn (Sg.g_ Tryz.call240 Tryz.func240) fun F=>?_;simp only[ca_,na_])
 unfold av I
 refine e_boxA fun g=>?_;refine e_boxA fun g=>?_;refine o_ v_fa0 (ln_ ?_);refine o_ v_fa0 (ln_ ?_)
 refine c_ cmpInt fun _=>?_
 refine rt_ () ?_
 exact im_
end Go.Proofs.YtndojgomlkpeaaaGreatDoor.HF
namespace Go.Proofs.YtndojgomlkpeaaaGreatDoor.HF
open Go Go.Proofs Go.RowKit Sh Sl T HM
theorem rd_slS {P:Program}{W:World}{s:Nat}{e:TypeId}{a:Option Addr}{cap n:Nat}{cs:List Value}(hl:cs.length=n * s)(ha:0<n->∃g,a=some ⟨g,0,none⟩):RdB W (Sl s e a cap n cs) a (n * s) cs:=⟨hl,fun hn=>by
 have hn0:0<n:=Nat.pos_of_mul_pos_right hn
 obtain⟨g,rfl⟩:=ha hn0
 refine⟨g,0,rfl,fun w L hw j v hv=>?_⟩
 obtain⟨rest,r1,r2,r3,r4,hp⟩:=sl_row hw
 rw[Nat.zero_add,hp.cell]
 have hj:j<cs.length:=by
  rcases Nat.lt_or_ge j cs.length with c|c
  ·exact c
  ·rw[List.getElem?_eq_none c]at hv;cases hv
 simpa [List.getElem?_append_left hj]using hv⟩
theorem v_ldIt {W:World}{A:HP}{g o j:Nat}{ys:List It}(H:RdB W A (some ⟨g,o,none⟩) (ys.length * 2) (ys.flatMap ic))(hj:j<ys.length):RunV p_ W [A] (sLoad 319 (.pointer (some ⟨g,o+j * 2,none⟩))) (av ys[j]):=
 v_ldRdA (vs:=ic ys[j]) H (by rfl) fun i hi=>flat_get ic_len ys j i hj hi
section spec
variable {α:Type} (key:α->Int)
def insAt (acc:List α)(x:α):Nat->List α
 |0=>x::acc
 |j+1=>match acc[j]? with
  |some y=>if key x<key y then insAt acc x j else acc.take (j+1)++x::acc.drop (j+1)
  |none=>acc++[x]
def insR (acc:List α)(x:α):List α:=insAt key acc x acc.length
def isort (xs:List α):List α:=xs.foldl (insR key) []
theorem length_insAt (acc:List α)(x:α):∀j,(insAt key acc x j).length=acc.length+1
 |0=>by simp[insAt]
 |j+1=>by
  unfold insAt
  split
  ·split
   ·exact length_insAt acc x j
   ·simp;omega
  ·simp
theorem isort_snoc (xs:List α)(x:α):isort key (xs++[x])=insR key (isort key xs) x:=by simp[isort]
theorem length_isort (xs:List α):(isort key xs).length=xs.length:=by
 have:∀n,∀xs:List α,xs.length=n->(isort key xs).length=n:=by
  intro n
  induction n with
  |zero=>intro xs h;rw[List.eq_nil_of_length_eq_zero h];rfl
  |succ n ih=>
   intro xs h
   have e:=List.take_append_drop n xs
   obtain⟨x,hx⟩:∃x,xs.drop n=[x]:=List.length_eq_one_iff.1 (by simp;omega)
   rw[hx]at e
   rw[<- e,isort_snoc,insR,length_insAt,ih _ (by simp;omega)]
 exact this _ xs rfl
theorem insAt_map {β:Type}(k2:β->Int)(f:α->β)(hk:∀x,k2 (f x)=key x)(acc:List α)(x:α):∀j,(insAt key acc x j).map f=insAt k2 (acc.map f) (f x) j
 |0=>by simp[insAt]
 |j+1=>by
  unfold insAt
  rw[List.getElem?_map]
  cases h:acc[j]? with
  |none=>simp
  |some y=>
   simp only[Option.map_some,hk]
   split
   ·exact insAt_map k2 f hk acc x j
   ·simp[List.map_take,List.map_drop]
theorem isort_map {β:Type}(k2:β->Int)(f:α->β)(hk:∀x,k2 (f x)=key x)(xs:List α):(isort key xs).map f=isort k2 (xs.map f):=by
 have:∀(xs acc:List α),(xs.foldl (insR key) acc).map f=(xs.map f).foldl (insR k2) (acc.map f):=by
  intro xs
  induction xs with
  |nil=>intro acc;rfl
  |cons x xs ih=>
   intro acc
   rw[List.foldl_cons,ih,List.map_cons,List.foldl_cons]
   congr 1
   unfold insR
   rw[insAt_map key k2 f hk,List.length_map]
 exact this xs []
theorem mem_insAt (acc:List α)(x y:α):∀j,y∈insAt key acc x j->y=x\/y∈acc
 |0,h=>by simpa [insAt]using h
 |j+1,h=>by
  unfold insAt at h
  split at h
  ·split at h
   ·exact mem_insAt acc x y j h
   ·rcases List.mem_append.1 h with c|c
    ·exact .inr (List.mem_of_mem_take c)
    ·rcases List.mem_cons.1 c with c|c
     ·exact .inl c
     ·exact .inr (List.mem_of_mem_drop c)
  ·rcases List.mem_append.1 h with c|c
   ·exact .inr c
   ·exact .inl (by simpa using c)
theorem mem_isort (xs:List α)(y:α)(h:y∈isort key xs):y∈xs:=by
 have:∀(xs acc:List α),y∈xs.foldl (insR key) acc->y∈xs\/y∈acc:=by
  intro xs
  induction xs with
  |nil=>intro acc h;exact .inr h
  |cons x xs ih=>
   intro acc h
   rw[List.foldl_cons]at h
   rcases ih _ h with c|c
   ·exact .inl (List.mem_cons_of_mem _ c)
   ·rcases mem_insAt key acc x y _ c with d|d
    ·exact .inl (by rw[d];exact List.mem_cons_self)
    ·exact .inr d
 rcases this xs [] h with c|c
 ·exact c
 ·cases c
end spec
theorem swap_lem {α:Type}(p q:List α)(y x:α):((p++y::x::q).set (p.length+1) y).set p.length x=p++x::y::q:=by
 rw[List.set_append_right _ _ (by omega),List.set_append_right _ _ (by omega),show p.length+1-p.length=1 by omega,Nat.sub_self];rfl
theorem insertion {W:World}{a:Option Addr}{cap c:Nat}{xs:List It}(hx:xs.length<=1099511627776):
  Cn p_ 256 [.slice a xs.length c,.int .i64 0,.int .i64 (xs.length:Int),fn 240] W [Sl 2 319 a cap xs.length (xs.flatMap ic)] (fun _:Unit=> .tuple #[]) (fun _=>[Sl 2 319 a cap xs.length ((isort It.n xs).flatMap ic)]):=by
 (refine Shp.cn (Sg.g_ Tryz.call256 Tryz.func256 (an:={loops:=[(1,[8]),(4,[9])],drs:=[(4,.ofL [(0,1),(1,1),(2,1),(3,1),(4,1),(5,1),(6,1),(7,1),(8,1),(9,1),(10,1),(11,1),(12,1),(13,1),(14,0),(15,1),(16,1)]),(6,.ofL [(0,1),(1,1),(2,2),(3,2),(4,3),(5,1),(6,1),(7,1),(8,1),(9,1),(10,1),(11,1),(12,1),(13,1),(14,1),(15,0),(16,1),(17,0)])]}) (os:=[(6,[(15,[4])])])) fun F=>?_;simp only[ca_,na_])
 refine ad_ ?_
 refine e_slfacts .here fun f1 f2 f3 f4=>?_
 refine e_loop1 (fun m y=>[ex fun i:Nat=>all [pu (m+i=xs.length+1/\1<=i/\y= .int .i64 (i:Int)),Sl 2 319 a cap xs.length ((isort It.n (xs.take i)++xs.drop i).flatMap ic)]]++F) xs.length ?_ ?_
 ·refine Imp.ex 1 (.all ?_)
  refine nr_ ?_
  refine .pu ⟨by omega,by omega,by rfl⟩ ?_
  have e:isort It.n (xs.take 1)++xs.drop 1=xs:=by
   cases xs with
   |nil=>rfl
   |cons x xs=>rfl
  rw[e]
  exact im_
 intro m ds y
 refine nr_ ?_
 refine e_ex Pick.here fun i=>e_all Pick.here ?_
 refine nr_ ?_
 refine e_pu Pick.here fun hi=>?_
 obtain⟨hmi,hi1,rfl⟩:=hi
 refine e_ask v_lss .nil (fun h=>?_) (fun h=>?_)
 ·have hil:i<xs.length:=by omega
  obtain⟨g,rfl⟩:=f4 (by omega)
  obtain⟨acc,hacc⟩:∃acc,acc=isort It.n (xs.take i):=⟨_,rfl⟩
  have hal:acc.length=i:=by rw[hacc,length_isort,List.length_take];omega
  have hdrop:xs.drop i=xs[i]::xs.drop (i+1):=List.drop_eq_getElem_cons hil
  have hnext:isort It.n (xs.take (i+1))=insR It.n acc xs[i]:=by rw[List.take_succ_eq_append_getElem hil,isort_snoc,hacc]
  rw[<- hacc,hdrop]
  refine e_condT (e_loop1 (fun m y=>[ex fun j:Nat=>all [pu (m=j/\j<=i/\y= .int .i64 (j:Int)/\insR It.n acc xs[i]=insAt It.n acc xs[i] j),Sl 2 319 (some ⟨g,0,none⟩) cap xs.length ((acc.take j++xs[i]::(acc.drop j++xs.drop (i+1))).flatMap ic)]]++F) i ?_ ?_)
  ·refine Imp.ex i (.all ?_)
   refine nr_ ?_
   refine .pu ⟨rfl,by omega,rfl,by unfold insR;rw[hal]⟩ ?_
   rw[List.take_of_length_le (by omega),List.drop_eq_nil_of_le (show acc.length<=i by omega),List.nil_append]
   exact im_
  intro m2 ds y
  refine nr_ ?_
  refine e_ex Pick.here fun j=>e_all Pick.here ?_
  refine nr_ ?_
  refine e_pu Pick.here fun hj=>?_
  obtain⟨rfl,hji,rfl,hins⟩:=hj
  have done:insR It.n acc xs[i]=acc.take m2++xs[i]::acc.drop m2->Ent W (Sl 2 319 (some ⟨g,0,none⟩) cap xs.length ((acc.take m2++xs[i]::(acc.drop m2++xs.drop (i+1))).flatMap ic)::F) (next1 (fun m y w=>sat W ([ex fun i:Nat=>all [pu (m+i=xs.length+1/\1<=i/\y= .int .i64 (i:Int)),Sl 2 319 (some ⟨g,0,none⟩) cap xs.length ((isort It.n (xs.take i)++xs.drop i).flatMap ic)]]++F) w) m (.int .i64 ((i:Int)+1))):=by
   intro he
   refine e_next1 (m-1) (by omega) (.ex (i+1) (.all ?_))
   refine nr_ ?_
   refine .pu ⟨by omega,by omega,by norm_cast⟩ ?_
   rw[hnext,he,List.append_assoc,List.cons_append]
   exact im_
  refine e_drS (e_askS v_gtr .nil (fun h=>?_) (fun h=>?_))
  ·obtain⟨j,rfl⟩:∃j,m2=j+1:=⟨m2-1,by omega⟩
   have hja:j<acc.length:=by omega
   obtain⟨p,hp⟩:∃p,p=acc.take j:=⟨_,rfl⟩
   obtain⟨q,hq⟩:∃q,q=acc.drop (j+1)++xs.drop (i+1):=⟨_,rfl⟩
   have hpl:p.length=j:=by rw[hp,List.length_take];omega
   have htk:acc.take (j+1)=p++[acc[j]]:=by rw[hp,List.take_succ_eq_append_getElem hja]
   have hys:acc.take (j+1)++xs[i]::(acc.drop (j+1)++xs.drop (i+1))=p++acc[j]::xs[i]::q:=by rw[htk,hq];simp
   rw[hys]at done
   rw[hys]
   have hyl:(p++acc[j]::xs[i]::q).length=xs.length:=by
    rw[<- hys];simp;omega
   have hrd:RdB W (Sl 2 319 (some ⟨g,0,none⟩) cap xs.length ((p++acc[j]::xs[i]::q).flatMap ic)) (some ⟨g,0,none⟩) ((p++acc[j]::xs[i]::q).length * 2) ((p++acc[j]::xs[i]::q).flatMap ic):=by
    rw[hyl];exact rd_slS (P:=p_) (by rw[ics_len,hyl]) (fun _=>⟨g,rfl⟩)
   have g1:(p++acc[j]::xs[i]::q)[j+1]'(by omega)=xs[i]:=by
    rw[List.getElem_append_right (by omega)];simp[hpl]
   have g0:(p++acc[j]::xs[i]::q)[j]'(by omega)=acc[j]:=by
    rw[List.getElem_append_right (by omega)];simp[hpl]
   have ld1:=v_ldIt hrd (j:=j+1) (by omega)
   have ld0:=v_ldIt hrd (j:=j) (by omega)
   rw[g1]at ld1
   rw[g0]at ld0
   refine e_gdT (e_gdT (e_gdT (e_gdT (t_ (v_ia (j+1) (by rfl) (by omega)) ?_))))
   refine e_gdT (e_stS ld1 (.pick .here .nil) ?_)
   refine e_gdT (e_gdT (e_gdT ?_));(refine t_ (v_sub (by omega) (by omega)) ?_);refine e_gdT (t_ (v_ia j (by omega) (by omega)) ?_)
   refine e_gdT (e_stS ld0 (.pick .here .nil) ?_)
   refine e_gdT (c_ cmpIt fun _=>?_)
   refine e_gdT (e_askS v_lss .nil (fun h2=>?_) (fun h2=>?_))
   ·have hlt:xs[i].n<acc[j].n:=by
     by_cases c:xs[i].n<acc[j].n
     ·exact c
     ·rw[if_neg c]at h2;split at h2 <;> omega
    refine t_ v_pickT (e_condT (e_drS ?_));(refine e_stD (v_sub (by omega) (by omega)) .nil ?_);(refine t_ (v_sub (by omega) (by omega)) ?_)
    refine t_ (v_ia j (by omega) (by omega)) ?_
    refine e_stS ld0 (.pick .here .nil) ?_
    refine t_ (v_ia (j+1) (by rfl) (by omega)) ?_
    refine e_stS ld1 (.pick .here .nil) ?_
    refine t_ (v_ia (j+1) (by rfl) (by omega)) ?_
    rw[Nat.zero_add]
    refine e_stSlA .here (by rfl) (by rw[ics_len];omega) (ic_one acc[j]) ?_
    rw[show((p++acc[j]::xs[i]::q).flatMap ic).take ((j+1) * 2)++(#[I acc[j].n,Value.slice (some ⟨acc[j].g,0,none⟩) acc[j].w.length acc[j].c]:Array Value).toList++((p++acc[j]::xs[i]::q).flatMap ic).drop ((j+1) * 2+2)=((p++acc[j]::xs[i]::q).set (j+1) acc[j]).flatMap ic from ics_set _ (j+1) acc[j] (by omega)]
    refine ob_ ?_
    refine t_ (v_ia j (by omega) (by omega)) ?_
    rw[Nat.zero_add]
    refine e_stSlA .here (by rfl) (by rw[ics_len,List.length_set];omega) (ic_one xs[i]) ?_
    rw[show(((p++acc[j]::xs[i]::q).set (j+1) acc[j]).flatMap ic).take (j * 2)++(#[I xs[i].n,Value.slice (some ⟨xs[i].g,0,none⟩) xs[i].w.length xs[i].c]:Array Value).toList++(((p++acc[j]::xs[i]::q).set (j+1) acc[j]).flatMap ic).drop (j * 2+2)=(((p++acc[j]::xs[i]::q).set (j+1) acc[j]).set j xs[i]).flatMap ic from ics_set _ j xs[i] (by rw[List.length_set];omega)]
    have hsw:=swap_lem p q acc[j] xs[i]
    rw[hpl]at hsw
    rw[hsw]
    refine sb_ ?_
    refine e_next1 j (by omega) (.ex j (.all ?_))
    refine nr_ ?_
    refine .pu ⟨rfl,by omega,by congr 1;omega,?_⟩ ?_
    ·rw[hins]
     conv=>lhs;unfold insAt
     rw[List.getElem?_eq_getElem hja]
     simp only
     rw[if_pos hlt]
    ·rw[show acc.take j++xs[i]::(acc.drop j++xs.drop (i+1))=p++xs[i]::acc[j]::q by rw[hp,hq,List.drop_eq_getElem_cons hja];rfl]
     exact im_
   ·have hge:¬xs[i].n<acc[j].n:=fun c=>h2 (by rw[if_pos c];omega)
    refine t_ v_pickT (e_condF (ad_ ?_))
    refine done ?_
    rw[hins]
    conv=>lhs;unfold insAt
    rw[List.getElem?_eq_getElem hja]
    simp only
    rw[if_neg hge]
  ·have:m2=0:=by omega
   subst this
   refine e_gdF2 (e_gdF2 (e_gdF2 (e_gdF2 (e_gdF2 (e_gdF2 (e_gdF2 (e_gdF2 (e_gdF2 (e_gdF2 (e_gdF2 (e_gdF2 (t_ v_pickF (e_condF (ad_ ?_))))))))))))))
   exact done (by rw[hins];rfl)
 ·refine e_condF ?_
  rw[List.take_of_length_le (by omega),List.drop_eq_nil_of_le (by omega),List.append_nil]
  refine rt_ () ?_
  exact im_
theorem sorted {W:World}{a:Option Addr}{cap c:Nat}{xs:List It}(hx:xs.length<20):
  Cn p_ 239 [.slice a xs.length c,fn 240] W [Sl 2 319 a cap xs.length (xs.flatMap ic)] (fun _:Unit=> .tuple #[]) (fun _=>[Sl 2 319 a cap xs.length ((isort It.n xs).flatMap ic)]):=by
 have inner:Cn p_ 251 [.slice a xs.length c,.int .i64 (xs.length:Int),fn 240] W [Sl 2 319 a cap xs.length (xs.flatMap ic)] (fun _:Unit=> .tuple #[]) (fun _=>[Sl 2 319 a cap xs.length ((isort It.n xs).flatMap ic)]):=by
  (refine Shp.cn (Sg.g_ Tryz.call251 Tryz.func251 (an:={loops:=[(2,[7,8]),(7,[6]),(9,[7,8])]})) fun F=>?_;simp only[ca_,na_])
  refine e_loop2 (fun m x y=>[pu (x= .int .i64 0/\y= .int .i64 20),Sl 2 319 a cap xs.length (xs.flatMap ic)]++F) 1 ?_ ?_
  ·refine nr_ ?_
   exact .pu ⟨rfl,rfl⟩ .refl
  intro m ds x y
  refine nr_ ?_
  refine e_pu Pick.here fun hxy=>?_
  obtain⟨rfl,rfl⟩:=hxy
  refine o_ v_leq ?_
  rw[dF_ (by omega)]
  refine e_condF (c_ (insertion (by omega)) fun _=>?_)
  refine e_loop1 (fun m y=>[pu (y= .int .i64 20),Sl 2 319 a cap xs.length ((isort It.n xs).flatMap ic)]++F) 1 ?_ ?_
  ·refine nr_ ?_
   exact .pu rfl .refl
  intro m ds y
  refine nr_ ?_
  refine e_pu Pick.here fun hy=>?_
  subst hy
  refine o_ v_lss ?_
  rw[dF_ (by omega)]
  refine e_condF (rt_ () ?_)
  exact im_
 (refine Shp.cn (Sg.g_ Tryz.call239 Tryz.func239) fun F=>?_;simp only[ca_,na_])
 refine o_ v_len (c_ inner fun _=>?_)
 refine rt_ () ?_
 exact im_
end Go.Proofs.YtndojgomlkpeaaaGreatDoor.HF
namespace Go.Proofs.YtndojgomlkpeaaaGreatDoor.HF
open Go Go.Proofs Go.RowKit Sh Sl T HM
section rules
variable {P:Program} {W:World} {L L' L'':List HP} {Kp:PK} {k:Value->WP} {A:HP}
theorem rd_none {a:Option Addr}{n:Nat}{cs:List Value}(h:RdB W A a n cs)(c:a=none):n=0:=by
 rcases Nat.eq_zero_or_pos n with z|z
 ·exact z
 ·obtain⟨_,_,e,_⟩:=h.at_ z
  rw[c]at e;cases e
theorem e_mksl0 {t e:TypeId} {s b:Nat} {q r:IntKind} {c:Int} (m:Nat) [ht:SlT P t e s b] (hcm:c=(m:Int)) (h2:b * m<=281474976710656) (h3:m<=maxLen)
  (h:∀g,Ent W (Sl s e (some ⟨g,0,none⟩) m 0 []::L) (k (.slice (some ⟨g,0,none⟩) 0 m))):Ent W L (opN P (sMkSl t (.int q 0) (.int r c)) Kp k):=fun w hw=>by
 refine⟨?_⟩
 obtain⟨i,z,hi,hz,hs,hb,hzs⟩:=ht.info
 subst hcm
 have hbm:(i.bytes:Int) * (m:Int)<=281474976710656:=by
  rw[hb]
  obtain⟨X,hX⟩:∃X,X=b * m:=⟨_,rfl⟩
  have h4:(X:Int)<=281474976710656:=by omega
  rw[hX,Int.natCast_mul]at h4
  exact h4
 have hr:=run_make (P:=P) (w:=w) t e i z ht.ut hi hz q r 0 m (by omega) (by omega) hbm (by unfold maxLen at h3;omega)
 simp only[Int.toNat_natCast,hs]at hr
 have:(sMkSl t (.int q 0) (.int r m)).run P w= .ok (.value (.slice (some ⟨w.heap.size,0,none⟩) 0 m)) (w.alloc (.cells (madeCells z.cells (m * s)) e)):=by
  simp[sMkSl,hr]
 rw[this]
 refine h _ _ ?_
 have ha:=hw.alloc (.cells (madeCells z.cells (m * s)) e)
 have he:madeCells z.cells (m * s)=([]++(madeCells z.cells (m * s)).toList).toArray:=by simp
 rw[he]at ha ⊢
 exact sl_back (by simp[madeCells]) (by simp) (by omega) h3 ha
end rules
def Arena (xs:List It):HP:=fun _ h=>∀x∈xs,∃rest:List Value,h x.g=some (.cells (x.w.map I++rest).toArray 3 (0,0))
theorem rd_ar {W:World}{xs:List It}{x:It}(hx:x∈xs):RdB W (Arena xs) (some ⟨x.g,0,none⟩) x.w.length (x.w.map I):=⟨by simp,fun hn=>⟨x.g,0,rfl,fun w L hw j v hv=>by
 obtain⟨f,⟨h1,h2,ha,hl,d,s1,s2⟩,b⟩:=hw.heap
 obtain⟨rest,hr⟩:=ha x hx
 have hg:=(b x.g _ (s1 x.g _ hr)).2
 rw[Nat.zero_add]
 have hj:j<(x.w.map I).length:=by
  rcases Nat.lt_or_ge j (x.w.map I).length with c|c
  ·exact c
  ·rw[List.getElem?_eq_none c]at hv;cases hv
 have hv2:(x.w.map I++rest)[j]? =some v:=by rw[List.getElem?_append_left hj];exact hv
 simp[World.cell?,hg,hv2]⟩⟩
theorem e_ar {W:World}{L L' L'':List HP}{S:WP}{g cap n:Nat}{xs:List It}{x:It}(hx:x.g=g)(p:Pick L (Sl 1 3 (some ⟨g,0,none⟩) cap n (x.w.map I)) L')(p':Pick L' (Arena xs) L'')(h:Ent W (Arena (x::xs)::L'') S):Ent W L S:=fun w hw=>by
 have h1:=hw.pick p
 refine h w (sat.map (L:=Sl 1 3 (some ⟨g,0,none⟩) cap n (x.w.map I)::L') (fun f hf=>?_) h1)
 have h2:=star_assoc' (star_mono (fun _=>p'.all) hf)
 obtain⟨f1,f2,⟨u1,u2,ha,hb,hd,t1,t2⟩,r⟩:=h2
 refine⟨f1,f2,fun y hy=>?_,r⟩
 rcases List.mem_cons.1 hy with rfl|hy
 ·obtain⟨q1,q2,q3,q4⟩:=ha
  rcases q4 with ⟨c,_⟩|⟨g',rest,c,e1,e2⟩
  ·cases c
  ·injection c with c;injection c with c;subst c
   exact⟨rest,by rw[hx];exact t1 _ _ e2⟩
 ·obtain⟨rest,hr⟩:=hb y hy
  exact⟨rest,t2 _ _ hr⟩
theorem imp_ar0 {W:World}{L M:List HP}(h:Imp W L M):Imp W L (Arena []::M):= .conv (B:=pu True) (fun f _ x hx=>by cases hx) (.pu trivial h)
theorem grow {W:World}{n:Nat}(h0:0<n)(hn:n<=1099511627776):
  Cn p_ 253 [.slice none 0 0,.int .i64 (n:Int)] W [] (fun q:Nat × Nat=> .slice (some ⟨q.1,0,none⟩) 0 q.2) (fun q=>[Sl 1 3 (some ⟨q.1,0,none⟩) q.2 0 []]):=by
 (refine Shp.cn (Sg.g_ Tryz.call253 Tryz.func253 (an:={cuts:=[(3,[])]})) fun F=>?_;simp only[ca_,na_])
 refine e_cut0 F ?_ ?_
 ·intro ds
  refine o_ v_cap ?_
  refine o_ v_len (sb_ ?_);refine sb_ ?_
  refine o_ v_gtr ?_
  rw[dT_ (by omega)]
  refine e_condT (o_ v_cap ?_)
  refine o_ (v_slh 0 (by rfl) (by omega)) ?_
  rw[if_pos rfl,show(n:Int)-(((0:Nat):Int)-((0:Nat):Int))=(n:Int) by omega]
  refine e_appZ (by kernel_rfl) h0 (by omega) (by omega) (by omega) fun g cap hc=>?_
  refine o_ v_len (o_ (v_slh 0 (by rfl) (by omega)) ?_)
  rw[if_neg (by omega),show(Option.map (fun x:Addr=>x.add (0 * 1)) (some ⟨g,0,none⟩))=some ⟨g,0,none⟩ by simp[addr_add]]
  refine e_ret (g,cap) rfl ?_
  exact im_
 ·(refine e_ask v_lss .nil (fun h=>?_) (fun h=>?_))
  ·omega
  refine e_condF (e_sat ?_)
  exact im_
def sz (m n:Nat):Nat->Nat
 |0=>0
 |1=>m
 |_=>m+n
def ac (x y:List Int):Nat->List Int
 |0=>[]
 |1=>x
 |_=>x++y
theorem concat {W:World}{A:HP}{g c1 c2:Nat}{a1 a2:Option Addr}{x y:List Int}{T:TypeId}(h1:RdB W A a1 x.length (x.map I))(h2:RdB W A a2 y.length (y.map I))(hx:0<x.length)(b1:x.length<=1073741824)(b2:y.length<=1073741824):
  Cn p_ 242 [.slice (some ⟨g,0,none⟩) 2 2] W [pt g (.cells #[.slice a1 x.length c1,.slice a2 y.length c2] T (0,0)),A] (fun q:Nat × Nat=> .slice (some ⟨q.1,0,none⟩) (x.length+y.length) q.2) (fun q=>[Sl 1 3 (some ⟨q.1,0,none⟩) q.2 (x.length+y.length) ((x++y).map I),A]):=by
 (refine Shp.cn (Sg.g_ Tryz.call242 Tryz.func242 (an:={loops:=[(3,[3,11]),(11,[6,27])]})) fun F=>?_;simp only[ca_,na_])
 refine o_ v_len (e_loop2 (fun m u v=>[pu (∃i:Nat,m+i=2/\v= .int .i64 (i:Int)/\u= .int .i64 (sz x.length y.length i:Int)),pt g (.cells #[.slice a1 x.length c1,.slice a2 y.length c2] T (0,0)),A]++F) 2 ?_ ?_)
 ·refine nr_ ?_
  exact .pu ⟨0,by omega,rfl,rfl⟩ .refl
 intro m ds u v
 refine nr_ ?_
 refine e_pu Pick.here fun hi=>?_
 obtain⟨i,hmi,rfl,rfl⟩:=hi
 have hszi:sz x.length y.length i<=2147483648:=by unfold sz;split <;> omega
 refine e_ask v_lss .nil (fun h=>?_) (fun h=>?_)
 ·have hi2:i=0\/i=1:=by omega
  obtain⟨ai,ni,ci,hcell,hni,hsz⟩:∃(ai:Option Addr) (ni ci:Nat),(#[.slice a1 x.length c1,.slice a2 y.length c2]:Array Value)[0+i]? =some (.slice ai ni ci)/\ni<=1073741824/\sz x.length y.length i+ni=sz x.length y.length (i+1):=by
   rcases hi2 with rfl|rfl
   ·exact⟨a1,x.length,c1,rfl,b1,by simp[sz]⟩
   ·exact⟨a2,y.length,c2,rfl,b2,by simp[sz]⟩
  refine e_condT (o_ (v_ia1 i (by rfl) (by omega)) ?_)
  refine e_opN (v_ld hcell) (.pick .here .nil) ?_
  refine o_ v_len (ad_ ?_)
  refine e_ask v_lss .nil (fun h=>?_) (fun h=>?_)
  ·omega
  refine e_condF (ad_ ?_)
  refine e_next2 (m-1) (by omega) ?_
  refine nr_ ?_
  exact .pu ⟨i+1,by omega,by norm_cast,by rw[<- hsz];norm_cast⟩ .refl
 ·have hi2:i=2:=by omega
  subst hi2
  refine e_condF (c_ (grow (n:=x.length+y.length) (by omega) (by omega)) fun _=>?_)
  rename_i q
  obtain⟨qg,qc⟩:=q
  refine o_ v_len (e_loop2 (fun m u v=>[ex fun q:Option Addr × Nat=>all [pu (∃i:Nat,m+i=2/\v= .int .i64 (i:Int)/\u= .slice q.1 (sz x.length y.length i) q.2),ex fun i:Nat=>all [pu (m+i=2),Sl 1 3 q.1 q.2 (sz x.length y.length i) ((ac x y i).map I)]],pt g (.cells #[.slice a1 x.length c1,.slice a2 y.length c2] T (0,0)),A]++F) 2 ?_ ?_)
  ·refine .ex (some ⟨qg,0,none⟩,qc) (.all ?_)
   refine nr_ ?_
   refine .pu ⟨0,by omega,rfl,rfl⟩ (.ex 0 (.all ?_))
   refine nr_ ?_
   exact .pu (by omega) (.pick .here .refl)
  intro m ds u v
  refine nr_ ?_
  refine e_ex Pick.here fun q=>e_all Pick.here ?_
  obtain⟨ua,uc⟩:=q
  refine nr_ ?_
  refine e_pu Pick.here fun hi=>?_
  obtain⟨i,hmi,rfl,rfl⟩:=hi
  refine e_ex Pick.here fun i'=>e_all Pick.here ?_
  refine nr_ ?_
  refine e_pu Pick.here fun hi'=>?_
  obtain rfl:i'=i:=by omega
  have hszi:sz x.length y.length i'<=2147483648:=by unfold sz;split <;> omega
  (try dsimp only)
  refine e_ask v_lss .nil (fun h=>?_) (fun h=>?_)
  ·have hi2:i'=0\/i'=1:=by omega
   obtain⟨ai,ni,ci,z,hcell,hni,hsz,hrd,hac⟩:∃(ai:Option Addr) (ni ci:Nat) (z:List Int),(#[.slice a1 x.length c1,.slice a2 y.length c2]:Array Value)[0+i']? =some (.slice ai ni ci)/\ni<=1073741824/\sz x.length y.length i'+ni=sz x.length y.length (i'+1)/\RdB W A ai ni (z.map I)/\ac x y i'++z=ac x y (i'+1):=by
    rcases hi2 with rfl|rfl
    ·exact⟨a1,x.length,c1,x,rfl,b1,by simp[sz],h1,rfl⟩
    ·exact⟨a2,y.length,c2,y,rfl,b2,by simp[sz],h2,rfl⟩
   refine e_condT (o_ (v_ia1 i' (by rfl) (by omega)) ?_)
   refine e_opN (v_ld hcell) (.pick (.there .here) .nil) ?_
   refine e_app (m:=ni) .here (src_rd (e':=3) (by kernel_rfl) (.there (.there .here)) hrd (rd_none hrd) I_one) (by omega) (by omega) fun a' c'=>?_
   rw[hsz,<- List.map_append,hac]
   refine ad_ ?_
   refine e_next2 (m-1) (by omega) (.ex (a',c') (.all ?_))
   refine nr_ ?_
   refine .pu ⟨i'+1,by omega,by norm_cast,rfl⟩ (.ex (i'+1) (.all ?_))
   refine nr_ ?_
   exact .pu (by omega) (.pick .here .refl)
  ·have hi2:i'=2:=by omega
   subst hi2
   refine e_condF (e_slsome .here (by show 0<x.length+y.length;omega) fun gg hgg=>?_)
   subst hgg
   refine e_ret (gg,uc) rfl ?_
   exact .pick .here (.drop .refl)
section spec
variable {α:Type} (key:α->Int)
def mrg:List α->List α->List α
 |[],bs=>bs
 |a::us,bs=>bs.takeWhile (fun b=>decide (key b<key a))++a::mrg us (bs.dropWhile fun b=>decide (key b<key a))
theorem mrg_nil (us:List α):mrg key us []=us:=by
 induction us with
 |nil=>rfl
 |cons a us ih=>simp[mrg,ih]
theorem mrg_lt {a b:α}{us bs:List α}(h:key b<key a):mrg key (a::us) (b::bs)=b::mrg key (a::us) bs:=by simp[mrg,h]
theorem mrg_ge {a b:α}{us bs:List α}(h:¬key b<key a):mrg key (a::us) (b::bs)=a::mrg key us (b::bs):=by simp[mrg,h]
theorem mrg_a {a:α}{us:List α}:mrg key (a::us) []=a::mrg key us []:=by simp[mrg]
theorem mrg_map {β:Type}(k2:β->Int)(f:α->β)(hk:∀x,k2 (f x)=key x):∀us bs:List α,(mrg key us bs).map f=mrg k2 (us.map f) (bs.map f)
 |[],bs=>rfl
 |a::us,bs=>by
  have h1:(bs.takeWhile fun b=>decide (key b<key a)).map f=(bs.map f).takeWhile fun b=>decide (k2 b<k2 (f a)):=by
   rw[List.takeWhile_map];congr 2;funext b;simp[hk]
  have h2:(bs.dropWhile fun b=>decide (key b<key a)).map f=(bs.map f).dropWhile fun b=>decide (k2 b<k2 (f a)):=by
   rw[List.dropWhile_map];congr 2;funext b;simp[hk]
  simp only[mrg,List.map_append,List.map_cons,h1,mrg_map k2 f hk us,h2]
theorem mrg_mem {y:α}:∀us bs:List α,y∈mrg key us bs->y∈us\/y∈bs
 |[],bs,h=> .inr h
 |a::us,bs,h=>by
  simp only[mrg,List.mem_append,List.mem_cons]at h
  rcases h with c|c|c
  ·exact .inr ((List.takeWhile_sublist _).mem c)
  ·exact .inl (by rw[c];exact List.mem_cons_self)
  ·rcases mrg_mem us _ c with d|d
   ·exact .inl (List.mem_cons_of_mem _ d)
   ·exact .inr ((List.dropWhile_sublist _).mem d)
end spec
def RdL (W:World)(A:HP)(a:Option Addr)(xs:List It):Prop:=RdB W A a (xs.length * 2) (xs.flatMap ic)
theorem RdL.tail {W:World}{A:HP}{a:Option Addr}{x:It}{xs:List It}{c:Nat}(h:RdL W A a (x::xs))(hc:xs.length+1<=c):RdL W A (if c=1 then a else a.map (·.add (1 * 2))) xs:=by
 refine⟨ics_len xs,fun hn=>?_⟩
 obtain⟨g,o,rfl,hcell⟩:=h.at_ (by rw[List.length_cons];omega)
 rw[if_neg (by omega)]
 refine⟨g,o+2,by simp[addr_add],fun w L hw j v hv=>?_⟩
 rw[Nat.add_assoc]
 refine hcell w L hw (2+j) v ?_
 rw[List.flatMap_cons,List.getElem?_append_right (by rw[ic_len];omega),ic_len,show 2+j-2=j by omega];exact hv
theorem src_rdS {P:Program}{W:World}{L L':List HP}{A:HP}{s:Nat}{tx e':TypeId}{a:Option Addr}{n cap:Nat}{cs:List Value}(hk:P.underlying tx=some (.slice e'))(hs:0<s)(p:Pick L A L')(H:RdB W A a (n * s) cs)(h1:∀u∈cs,u.oneCell'=true):
  ∀w,sat W L w->Src P s tx (.slice a n cap) n cs w:=fun w hw=>by
 have hl:=H.len
 rcases Nat.eq_zero_or_pos n with h0|hn
 ·subst h0
  have hcs:cs=[]:=List.eq_nil_of_length_eq_zero (by simpa using hl)
  subst hcs
  cases a with
  |none=>exact Src.ofNil w hk cap
  |some ad=>exact Src.ofSlice w hk ad 0 cap [] (by simp) (fun j u hu=>by simp at hu) (by simp)
 ·obtain⟨g,o,rfl,hc⟩:=H.at_ (Nat.mul_pos hn hs)
  exact Src.ofSlice w hk _ _ _ _ (by omega) (fun j u hu=>by rw[addr_add];exact hc w L' (hw.pick p) j u hu) h1
theorem v_ldIt0 {W:World}{A:HP}{g o:Nat}{y:It}{ys:List It}(H:RdL W A (some ⟨g,o,none⟩) (y::ys)):RunV p_ W [A] (sLoad 319 (.pointer (some ⟨g,o+0 * 2,none⟩))) (av y):=v_ldIt H (j:=0) (by simp)
theorem v_ldN0 {W:World}{A:HP}{g o:Nat}{y:It}{ys:List It}(H:RdL W A (some ⟨g,o,none⟩) (y::ys)):RunV p_ W [A] (sLoad 3 (.pointer (some ⟨g,o+0 * 2+0,none⟩))) (.int .i64 y.n):=by
 have:=v_ldRd (P:=p_) (t:=3) (j:=0) H (v:=I y.n) rfl
 exact this
theorem mergeC {W:World}{A B:HP}{xs ys:List It}{va vb:Option Addr}{ca cb:Nat}(ha:RdL W A va xs)(hb:RdL W B vb ys)(hca:xs.length<=ca)(hcb:ys.length<=cb)(n1:xs.length<=1073741824)(n2:ys.length<=1073741824):
    Cn p_ 243 [.slice va xs.length ca,.slice vb ys.length cb] W [A,B] (fun q:Option Addr × Nat=> .slice q.1 (xs.length+ys.length) q.2) (fun q=>[Sl 2 319 q.1 q.2 (xs.length+ys.length) ((mrg It.n xs ys).flatMap ic),A,B]):=by
  (refine Shp.cn (Sg.g_ Tryz.call243 Tryz.func243 (an:={loops:=[(3,[0,1,5])],drs:=[(2,.ofL [(0,2),(1,1),(2,1),(3,1),(6,2),(7,3),(4,0),(5,0),(8,1),(9,1)]),(5,.ofL [(0,1),(1,1),(2,1),(3,1),(4,1),(5,1),(6,1),(7,1),(8,1),(9,1),(10,1),(11,1),(12,1),(13,1),(14,1)]),(6,.ofL [(0,2),(1,1),(2,1),(3,1),(6,2),(7,3),(4,0),(5,0),(8,1),(9,1)])]}) (os:=[(2,[(4,[7]),(5,[7])]),(6,[(4,[7]),(5,[7])])])) fun F=>?_;simp only[ca_,na_])
  refine o_ v_len (o_ v_len (ad_ ?_))
  refine e_mksl0 (xs.length+ys.length) (by norm_cast) (by omega) (by unfold maxLen;omega) fun g0=>?_
  refine e_loop3 (fun m x y z=>[ex fun q:Option Addr × Nat=>ex fun out:List It=>all [pu (∃(us vs:List It) (a1 a2:Option Addr) (c1 c2:Nat),m=us.length+vs.length/\x= .slice a1 us.length c1/\y= .slice a2 vs.length c2/\z= .slice q.1 out.length q.2/\RdL W A a1 us/\RdL W B a2 vs/\us.length<=c1/\vs.length<=c2/\out++mrg It.n us vs=mrg It.n xs ys/\out.length+us.length+vs.length=xs.length+ys.length),Sl 2 319 q.1 q.2 out.length (out.flatMap ic)],A,B]++F) (xs.length+ys.length) ?_ ?_
  · refine .ex (some ⟨g0,0,none⟩,xs.length+ys.length) (.ex [] (.all ?_))
    refine nr_ ?_
    exact .pu ⟨xs,ys,va,vb,ca,cb,rfl,rfl,rfl,rfl,ha,hb,hca,hcb,rfl,by simp⟩ (.pick .here .refl)
  intro m ds x y z
  refine nr_ ?_
  refine e_ex Pick.here fun q=>e_ex Pick.here fun out=>e_all Pick.here ?_
  obtain⟨qa,qc⟩:=q
  refine nr_ ?_
  refine e_pu Pick.here fun hi=>?_
  obtain⟨us,vs,a1,a2,c1,c2,rfl,rfl,rfl,rfl,hu,hv,hc1,hc2,hout,hlen⟩:=hi
  (try dsimp only)
  cases us with
  |nil=>
    refine o_ v_len (o_ v_eql ?_)
    rw[dT_ (by rfl)]
    refine e_condT (e_app (m:=vs.length) .here (src_rdS (e':=319) (by kernel_rfl) (by omega) (.there (.there .here)) hv (ics_one vs)) (by omega) (by omega) fun a' c'=>?_)
    rw[<- List.flatMap_append,show out++vs=mrg It.n xs ys from hout]
    simp only[List.length_nil,Nat.add_zero]at hlen
    rw[hlen]
    refine e_ret (a',c') rfl ?_
    exact im_
  |cons u us=>
    rw[List.length_cons]at hlen hc1
    refine o_ v_len (o_ v_eql ?_)
    rw[dF_ (by rw[List.length_cons];omega)]
    refine e_condF (e_drS (t_ v_len ?_))
    obtain⟨gu,ou,rfl,_⟩:=hu.at_ (by rw[List.length_cons];omega)
    have ldu:=v_ldIt0 hu
    have ldn:=v_ldN0 hu
    have tu:=hu.tail hc1
    have goA:(∀v vs',vs=v::vs'->¬v.n<u.n)->Ent W (Sl 2 319 qa qc out.length (out.flatMap ic)::A::B::F) (stS p_ (sIA 317 (.slice (some ⟨gu,ou,none⟩) (u::us).length c1) (.int .i64 0)) fun x14=>
       stS p_ (sLoad 319 x14) fun x15=>
       stD p_ (sSl 317 (.slice (some ⟨gu,ou,none⟩) (u::us).length c1) (some (.int .i64 1)) none none) fun D7 x19=>
       opN p_ (sBuildSl 317 1 [(0,x15)]) noP fun x16=>
       (fun w=>D7 w/\(opN p_ (sApp #[317,317] 317 [.slice qa out.length qc,x16]) noP fun x17=>
         (fun w=>D7 w/\(next3 (fun m x y z w=>sat W ([ex fun q:Option Addr × Nat=>ex fun out:List It=>all [pu (∃(us vs:List It) (a1 a2:Option Addr) (c1 c2:Nat),m=us.length+vs.length/\x= .slice a1 us.length c1/\y= .slice a2 vs.length c2/\z= .slice q.1 out.length q.2/\RdL W A a1 us/\RdL W B a2 vs/\us.length<=c1/\vs.length<=c2/\out++mrg It.n us vs=mrg It.n xs ys/\out.length+us.length+vs.length=xs.length+ys.length),Sl 2 319 q.1 q.2 out.length (out.flatMap ic)],A,B]++F) w) ((u::us).length+vs.length) x19 (.slice a2 vs.length c2) x17) w)) w)):=by
      intro hge
      refine t_ (v_ia 0 (by rfl) (by rw[List.length_cons];omega)) ?_
      refine e_stS ldu (.pick (.there .here) .nil) ?_
      refine e_stD (v_sll 1 (by rfl) (by rw[List.length_cons];omega)) .nil ?_
      refine e_bslS (s:=2) (vs:=[av u]) rfl (by omega) rfl (by intro v hv;simp at hv;subst hv;rfl) (by omega) fun g=>?_
      refine ob_ ?_
      refine e_app (m:=1) (news:=ic u) (.there .here) (src_pt (s:=2) (e':=319) (by kernel_rfl) .here (by rfl) (ic_one u)) (by omega) (by omega) fun a' c'=>?_
      refine ob_ ?_
      refine e_next3 (us.length+vs.length) (by rw[List.length_cons];omega) (.ex (a',c') (.ex (out++[u]) (.all ?_)))
      refine nr_ ?_
      refine .pu ⟨us,vs,_,a2,_,c2,rfl,by rw[List.length_cons,Nat.add_sub_cancel],rfl,by rw[List.length_append];rfl,tu,hv,by omega,hc2,?_,by simp;omega⟩ ?_
      · rw[<- hout,List.append_assoc]
        congr 1
        cases vs with
        |nil=>rw[mrg_a];rfl
        |cons v vs'=>rw[mrg_ge It.n (hge v vs' rfl)];rfl
      · rw[List.flatMap_append,List.length_append,List.length_singleton,List.flatMap_singleton]
        exact im_
    refine t_ v_gtr ?_
    cases vs with
    |nil=>
      rw[dF_ (by simp)]
      exact e_gdF2 (e_gdF2 (e_gdF2 (e_gdF2 (e_gdF2 (e_gdF2 (e_gdF2 (e_gdF2 (e_gdF2 (t_ v_pickF (e_condF (e_drS (goA (fun v vs' c=>by cases c)))))))))))))
    |cons v vs=>
      rw[List.length_cons]at hlen hc2
      obtain⟨gv,ov,rfl,_⟩:=hv.at_ (by rw[List.length_cons];omega)
      have ldv:=v_ldIt0 hv
      have ldvn:=v_ldN0 hv
      have tv:=hv.tail hc2
      rw[dT_ (by rw[List.length_cons];omega)]
      refine e_gdT (e_gdT (t_ (v_ia 0 (by rfl) (by rw[List.length_cons];omega)) ?_))
      refine e_gdT (t_ v_fa (e_gdT (e_stS ldvn (.pick (.there (.there .here)) .nil) ?_)))
      refine e_gdT (e_gdT (t_ (v_ia 0 (by rfl) (by rw[List.length_cons];omega)) ?_))
      refine e_gdT (t_ v_fa (e_gdT (e_stS ldn (.pick (.there .here) .nil) ?_)))
      refine e_gdT (e_askS v_lss .nil (fun h=>?_) (fun h=>?_))
      · (refine t_ v_pickT ?_);refine e_condT ?_;refine e_drS ?_
        refine t_ (v_ia 0 (by rfl) (by rw[List.length_cons];omega)) ?_
        refine e_stS ldv (.pick (.there (.there .here)) .nil) ?_
        refine e_stD (v_sll 1 (by rfl) (by rw[List.length_cons];omega)) .nil ?_
        refine e_bslS (s:=2) (vs:=[av v]) rfl (by omega) rfl (by intro v hv;simp at hv;subst hv;rfl) (by omega) fun g=>?_
        refine ob_ ?_
        refine e_app (m:=1) (news:=ic v) (.there .here) (src_pt (s:=2) (e':=319) (by kernel_rfl) .here (by rfl) (ic_one v)) (by omega) (by omega) fun a' c'=>?_
        refine ob_ ?_
        refine e_next3 ((u::us).length+vs.length) (by rw[List.length_cons];simp) (.ex (a',c') (.ex (out++[v]) (.all ?_)))
        refine nr_ ?_
        refine .pu ⟨u::us,vs,_,_,c1,_,rfl,rfl,by rw[List.length_cons,Nat.add_sub_cancel],by rw[List.length_append];rfl,hu,tv,by rw[List.length_cons];omega,by omega,?_,by simp;omega⟩ ?_
        · rw[<- hout,List.append_assoc,mrg_lt It.n h];rfl
        · rw[List.flatMap_append,List.length_append,List.length_singleton,List.flatMap_singleton]
          exact im_
      · (refine t_ v_pickT ?_);refine e_condF ?_;refine e_drS ?_
        exact goA (fun v' vs' c=>by injection c with c1 c2;subst c1;exact h)
end Go.Proofs.YtndojgomlkpeaaaGreatDoor.HF
namespace Go.Proofs.YtndojgomlkpeaaaGreatDoor.HF
open Go Go.Proofs Go.RowKit Sh Sl T HM
abbrev E:=Int × List Int
def pairs:List E->List E
 |a::b::r=>(a.1+b.1,a.2++b.2)::pairs r
 |_=>[]
def rows (cs:List E):Nat->List E
 |0=>cs
 |k+1=>mrg Prod.fst cs (pairs (rows cs k))
theorem v_itN {W:World}{A:HP}{g o j:Nat}{ys:List It}(H:RdL W A (some ⟨g,o,none⟩) ys)(hj:j<ys.length):RunV p_ W [A] (sLoad 3 (.pointer (some ⟨g,o+j * 2+0,none⟩))) (.int .i64 ys[j].n):=by
 rw[Nat.add_assoc]
 exact v_ldRd (P:=p_) (t:=3) (j:=j * 2+0) H (v:=I ys[j].n) (by rw[flat_get ic_len ys j 0 hj (by omega)];rfl)
theorem v_itW {W:World}{A:HP}{g o j:Nat}{ys:List It}(H:RdL W A (some ⟨g,o,none⟩) ys)(hj:j<ys.length):RunV p_ W [A] (sLoad 197 (.pointer (some ⟨g,o+j * 2+1,none⟩))) (.slice (some ⟨ys[j].g,0,none⟩) ys[j].w.length ys[j].c):=by
 rw[Nat.add_assoc]
 exact v_ldRd (P:=p_) (t:=197) (j:=j * 2+1) H (v:= .slice (some ⟨ys[j].g,0,none⟩) ys[j].w.length ys[j].c) (by rw[flat_get ic_len ys j 1 hj (by omega)];rfl)
theorem pairs_drop {rw_:List E}{i:Nat}(h:i+1<rw_.length):pairs (rw_.drop i)=(rw_[i].1+rw_[i+1].1,rw_[i].2++rw_[i+1].2)::pairs (rw_.drop (i+2)):=by
 rw[List.drop_eq_getElem_cons (show i<rw_.length by omega),List.drop_eq_getElem_cons h,pairs]
theorem pairs_end {rw_:List E}{i:Nat}(h:¬i+1<rw_.length):pairs (rw_.drop i)=[]:=by
 have hl:(rw_.drop i).length<=1:=by rw[List.length_drop];omega
 match hd:rw_.drop i with
 |[]=>rfl
 |[x]=>rfl
 |x::y::r=>rw[hd]at hl;simp at hl
theorem pairsLoop {W : World} {A : HP} {F : List HP} {ra : Option Addr} {rc : Nat} {rs ar : List It} {K : Value → WP} (hA : RdL W A ra rs) (hm : ∀ y ∈ rs, y ∈ ar) (hl : rs.length ≤ 1073741824)
    (hb : ∀ y ∈ rs, 0 ≤ y.n ∧ y.n ≤ 1152921504606846976 ∧ 0 < y.w.length ∧ y.w.length ≤ 1073741824)
    (hK : ∀ (q : Option Addr × Nat) (ps ar' : List It), ps.map er = pairs (rs.map er) → (∀ y ∈ ps, y ∈ ar') → (∀ y ∈ ar, y ∈ ar') → Ent W (Sl 2 319 q.1 q.2 ps.length (ps.flatMap ic) :: Arena ar' :: A :: F) (K (.slice q.1 ps.length q.2))) :
    Ent W (A :: Arena ar :: F) (loop2 (fun I3 m3 _ y12 y13 =>
          opN p_ (sBin .add 3 y13 (.int .i64 1)) noP fun x80 =>
          opN p_ (sLen #[317] 3 [.slice ra rs.length rc]) noP fun x82 =>
          opN p_ (sBin .lss 3 x80 x82) noP fun x83 =>
          condS x83
          (drS (stD p_ (sIA 317 (.slice ra rs.length rc) y13) fun D3 x89 =>
            stD p_ (sFA 319 x89 0) fun D4 x90 =>
            stD p_ (sLoad 3 x90) fun D5 x91 =>
            stD p_ (sBin .add 3 y13 (.int .i64 1)) fun D8 x94 =>
            stD p_ (sIA 317 (.slice ra rs.length rc) x94) fun D9 x95 =>
            stD p_ (sFA 319 x95 0) fun D10 x96 =>
            stD p_ (sLoad 3 x96) fun D11 x97 =>
            stD p_ (sBin .add 3 x91 x97) fun D12 x98 =>
            stS p_ (sIA 317 (.slice ra rs.length rc) y13) fun x101 =>
            stS p_ (sFA 319 x101 1) fun x102 =>
            stS p_ (sLoad 197 x102) fun x103 =>
            stS p_ (sBin .add 3 y13 (.int .i64 1)) fun x106 =>
            stS p_ (sIA 317 (.slice ra rs.length rc) x106) fun x107 =>
            stS p_ (sFA 319 x107 1) fun x108 =>
            stS p_ (sLoad 197 x108) fun x109 =>
            opN p_ (sBuildSl 331 2 [(0, x103), (1, x109)]) noP fun x110 =>
            (fun w => D12 w ∧ (fun w => D11 w ∧ (fun w => D10 w ∧ (fun w => D9 w ∧ (fun w => D8 w ∧ (fun w => D5 w ∧ (fun w => D4 w ∧ (fun w => D3 w ∧ (opN p_ (sCall (fn 242) [x110]) noP fun x111 =>
                     (fun w => D12 w ∧ (fun w => D11 w ∧ (fun w => D10 w ∧ (fun w => D9 w ∧ (fun w => D8 w ∧ (fun w => D5 w ∧ (fun w => D4 w ∧ (fun w => D3 w ∧ (stS p_ (sBuild 319 [(0, x98), (1, x111)]) fun x112 =>
                      opN p_ (sBuildSl 317 1 [(0, x112)]) noP fun x113 =>
                      opN p_ (sApp #[317, 317] 317 [y12, x113]) noP fun x114 =>
                      opN p_ (sBin .add 3 y13 (.int .i64 2)) noP fun x85 =>
                      next2 I3 m3 x114 x85) w) w) w) w) w) w) w) w)) w) w) w) w) w) w) w) w)))
          (K y12)) (.slice none 0 0) (.int .i64 0)) := by
  refine e_loop2 (fun m x y => [ex fun q : Option Addr × Nat => ex fun ps : List It => ex fun ar' : List It => all [pu (∃ i : Nat, m + i = rs.length ∧ y = .int .i64 (i : Int) ∧ x = .slice q.1 ps.length q.2 ∧ ps.map er ++ pairs ((rs.map er).drop i) = pairs (rs.map er) ∧ (∀ y ∈ ps, y ∈ ar') ∧ (∀ y ∈ ar, y ∈ ar') ∧ ps.length ≤ i), Sl 2 319 q.1 q.2 ps.length (ps.flatMap ic), Arena ar', A]] ++ F) rs.length ?_ ?_
  · refine .ex (none, 0) (.ex [] (.ex ar (.all ?_)))
    refine nr_ ?_
    refine .pu ⟨0, by omega, rfl, rfl, rfl, (fun y hy => (by cases hy)), (fun y hy => hy), Nat.le_refl _⟩ (imp_nil ?_)
    exact im_
  intro m ds x y
  refine nr_ ?_
  refine e_ex Pick.here fun q => e_ex Pick.here fun ps => e_ex Pick.here fun ar' => e_all Pick.here ?_
  obtain ⟨qa, qc⟩ := q
  refine nr_ ?_
  refine e_pu Pick.here fun hi => ?_
  obtain ⟨i, hmi, rfl, rfl, hps, hpa, haa, hpl⟩ := hi
  (try dsimp only)
  refine ad_ ?_; refine o_ v_len (e_ask v_lss .nil (fun h => ?_) (fun h => ?_))
  · have h1 : i + 1 < rs.length := by omega
    have h0 : i < rs.length := by omega
    obtain ⟨g, o, rfl, _⟩ := hA.at_ (by omega)
    obtain ⟨u, hu⟩ : ∃ u, u = rs[i] := ⟨_, rfl⟩
    obtain ⟨v, hv⟩ : ∃ v, v = rs[i + 1] := ⟨_, rfl⟩
    have n0 := v_itN hA h0
    have n1 := v_itN hA h1
    have w0 := v_itW hA h0
    have w1 := v_itW hA h1
    rw [← hu] at n0 w0
    rw [← hv] at n1 w1
    have hum : u ∈ rs := by rw [hu]; exact List.getElem_mem h0
    have hvm : v ∈ rs := by rw [hv]; exact List.getElem_mem h1
    have bu := hb u hum
    have bv := hb v hvm
    have ru := rd_ar (W := W) (haa u (hm u hum))
    have rv := rd_ar (W := W) (haa v (hm v hvm))
    refine e_condT (e_drS (e_stD (v_ia i (by rfl) h0) .nil ?_))
    refine e_stD v_fa .nil ?_
    refine e_stD n0 (.pick (by repeat constructor) .nil) ?_
    (refine e_stD (v_add (by omega) (by omega)) .nil ?_)
    refine e_stD (v_ia (i + 1) (by rfl) h1) .nil ?_
    refine e_stD v_fa .nil ?_
    refine e_stD n1 (.pick (by repeat constructor) .nil) ?_
    (refine e_stD (v_add (by omega) (by omega)) .nil ?_)
    refine t_ (v_ia i (by rfl) h0) ?_
    refine t_ v_fa (p_st w0 ?_)
    (refine t_ (v_add (by omega) (by omega)) ?_)
    refine t_ (v_ia (i + 1) (by rfl) h1) ?_
    refine t_ v_fa (p_st w1 ?_)
    refine e_bslN (vs := [.slice (some ⟨u.g, 0, none⟩) u.w.length u.c, .slice (some ⟨v.g, 0, none⟩) v.w.length v.c]) rfl rfl (by intro z hz; simp at hz; rcases hz with rfl | rfl <;> rfl) (by omega) fun g2 => ?_
    refine ob_ ?_; refine ob_ ?_; refine ob_ ?_; refine ob_ ?_; refine ob_ ?_; refine ob_ ?_; refine ob_ ?_; refine ob_ ?_
    refine c_ (concat ru rv bu.2.2.1 bu.2.2.2 bv.2.2.2) fun _ => ?_
    rename_i q2
    obtain ⟨g3, c3⟩ := q2
    (try dsimp only)
    rw [← List.length_append]
    refine e_ar (x := ⟨u.n + v.n, g3, c3, u.w ++ v.w⟩) rfl .here .here ?_
    refine ob_ ?_; refine ob_ ?_; refine ob_ ?_; refine ob_ ?_; refine ob_ ?_; refine ob_ ?_; refine ob_ ?_; refine ob_ ?_; refine t_ v_rv ?_
    refine e_bslS (s := 2) (vs := [av ⟨u.n + v.n, g3, c3, u.w ++ v.w⟩]) rfl (by omega) rfl (by intro z hz; simp at hz; subst hz; rfl) (by omega) fun g4 => ?_
    refine e_app (m := 1) (news := ic ⟨u.n + v.n, g3, c3, u.w ++ v.w⟩) (by repeat constructor) (src_pt (s := 2) (e' := 319) (by kernel_rfl) .here (by rfl) (ic_one _)) (by omega) (by omega) fun a' c' => ?_
    refine ad_ ?_
    refine e_next2 (m - 2) (by omega) (.ex (a', c') (.ex (ps ++ [⟨u.n + v.n, g3, c3, u.w ++ v.w⟩]) (.ex (⟨u.n + v.n, g3, c3, u.w ++ v.w⟩ :: ar') (.all ?_))))
    refine nr_ ?_
    refine .pu ⟨i + 2, by omega, by norm_cast, by rw [List.length_append]; rfl, ?_, ?_, fun y hy => List.mem_cons_of_mem _ (haa y hy), by simp; omega⟩ ?_
    · rw [← hps, pairs_drop (i := i) (by simpa using h1), List.map_append, List.append_assoc]
      simp [er, hu, hv]
    · intro y hy
      rcases List.mem_append.1 hy with c | c
      · exact List.mem_cons_of_mem _ (hpa y c)
      · rw [List.mem_singleton.1 c]; exact List.mem_cons_self
    · rw [List.flatMap_append, List.length_append, List.length_singleton, List.flatMap_singleton]
      exact im_
  · refine e_condF ?_
    rw [pairs_end (by simp; omega), List.append_nil] at hps
    exact hK (qa, qc) ps ar' hps hpa haa
theorem histLoop {W : World} {A : HP} {F : List HP} {ra : Option Addr} {rc go len k : Nat} {rs ar : List It} {K : WP} (hA : RdL W A ra rs) (hm : ∀ y ∈ rs, y ∈ ar) (hl : 2 * k - 2 ≤ rs.length) (hk : 1 ≤ k ∧ k ≤ 1048576) (hlen : len ≤ 1048576)
    (hb : ∀ y ∈ rs, y.w.length ≤ 1073741824 ∧ ∀ s ∈ y.w, 0 ≤ s ∧ s < len)
    (hK : Ent W (Sl 1 3 (some ⟨go, 0, none⟩) len len (Ln len fun s => (cnt (((rs.map er).take (2 * k - 2)).flatMap fun e => e.2) s : Int)) :: F) K) :
    Ent W (Sl 1 3 (some ⟨go, 0, none⟩) len len (Ln len fun _ => 0) :: A :: Arena ar :: F) (loop1 (fun I4 m4 _ y14 =>
          opN p_ (sBin .mul 3 (.int .i64 2) (.int .i64 (k : Int))) noP fun x121 =>
          opN p_ (sBin .sub 3 x121 (.int .i64 2)) noP fun x122 =>
          opN p_ (sBin .lss 3 y14 x122) noP fun x123 =>
          condS x123
          (opN p_ (sIA 317 (.slice ra rs.length rc) y14) noP fun x128 =>
           opN p_ (sFA 319 x128 1) noP fun x129 =>
           opN p_ (sLoad 197 x129) noP fun x130 =>
           opN p_ (sLen #[197] 3 [x130]) noP fun x131 =>
           loop1 (fun I5 m5 _ y132 =>
            opN p_ (sBin .lss 3 y132 x131) noP fun x133 =>
            condS x133
            (opN p_ (sIA 197 x130 y132) noP fun x134 =>
             opN p_ (sLoad 3 x134) noP fun x135 =>
             opN p_ (sIA 197 (.slice (some ⟨go, 0, none⟩) len len) x135) noP fun x138 =>
             opN p_ (sLoad 3 x138) noP fun x139 =>
             opN p_ (sBin .add 3 x139 (.int .i64 1)) noP fun x140 =>
             opN p_ (sIA 197 (.slice (some ⟨go, 0, none⟩) len len) x135) noP fun x141 =>
             opN p_ (sStore 3 x141 x140) noP fun _ =>
             opN p_ (sBin .add 3 y132 (.int .i64 1)) noP fun x142 =>
             next1 I5 m5 x142)
            (opN p_ (sBin .add 3 y14 (.int .i64 1)) noP fun x125 =>
             next1 I4 m4 x125)) (.int .i64 0))
          K) (.int .i64 0)) := by
  obtain ⟨P, hP⟩ : ∃ P : Nat → List Int, P = fun i => ((rs.map er).take i).flatMap fun e => e.2 := ⟨_, rfl⟩
  have hPb : ∀ i, i ≤ 2097152 → (P i).length ≤ 1073741824 * i := by
    intro i hi
    rw [hP]
    clear hi
    induction i with
    | zero => simp
    | succ i ih =>
      by_cases c : i < rs.length
      · simp only [] at ih ⊢
        rw [List.take_succ_eq_append_getElem (by simpa using c), List.flatMap_append, List.length_append]
        have := (hb rs[i] (List.getElem_mem c)).1
        simp only [List.flatMap_singleton, List.getElem_map, er]
        omega
      · simp only [] at ih ⊢
        rw [List.take_of_length_le (by simp; omega)]
        rw [List.take_of_length_le (by simp; omega)] at ih
        omega
  refine e_loop1 (fun m y => [ex fun i : Nat => all [pu (m + i = 2 * k - 2 ∧ y = .int .i64 (i : Int)), Sl 1 3 (some ⟨go, 0, none⟩) len len (Ln len fun s => (cnt (P i) s : Int)), A, Arena ar]] ++ F) (2 * k - 2) ?_ ?_
  · refine .ex 0 (.all ?_)
    refine nr_ ?_
    refine .pu ⟨by omega, rfl⟩ ?_
    rw [show P 0 = [] by rw [hP]; rfl]
    exact .pick .here im_
  intro m ds y
  refine nr_ ?_
  refine e_ex Pick.here fun i => e_all Pick.here ?_
  refine nr_ ?_
  refine e_pu Pick.here fun hi => ?_
  obtain ⟨hmi, rfl⟩ := hi
  (refine o_ (v_mul (by omega) (by omega)) ?_); refine sb_ ?_
  refine e_ask v_lss .nil (fun h => ?_) (fun h => ?_)
  · have hik : i < rs.length := by omega
    obtain ⟨g, o, rfl, _⟩ := hA.at_ (by omega)
    have hmem : rs[i] ∈ rs := List.getElem_mem hik
    have w0 := v_itW hA hik
    have r0 := rd_ar (W := W) (hm _ hmem)
    have b0 := hb _ hmem
    have hP1 : P (i + 1) = P i ++ rs[i].w := by
      rw [hP]; simp only []
      rw [List.take_succ_eq_append_getElem (by simpa using hik), List.flatMap_append]; simp [er]
    obtain ⟨u, hu⟩ : ∃ u, u = rs[i] := ⟨_, rfl⟩
    rw [← hu] at w0 r0 b0 hP1
    refine e_condT (o_ (v_ia i (by rfl) hik) ?_)
    refine o_ v_fa (p_op w0 ?_)
    refine o_ v_len (e_loop1 (fun m y => [ex fun j : Nat => all [pu (m + j = u.w.length ∧ y = .int .i64 (j : Int)), Sl 1 3 (some ⟨go, 0, none⟩) len len (Ln len fun s => (cnt (P i ++ u.w.take j) s : Int)), A, Arena ar]] ++ F) u.w.length ?_ ?_)
    · refine .ex 0 (.all ?_)
      refine nr_ ?_
      refine .pu ⟨by omega, rfl⟩ ?_
      rw [List.take_zero, List.append_nil]
      exact im_
    intro m2 ds y
    refine nr_ ?_
    refine e_ex Pick.here fun j => e_all Pick.here ?_
    refine nr_ ?_
    refine e_pu Pick.here fun hj => ?_
    obtain ⟨hmj, rfl⟩ := hj
    refine e_ask v_lss .nil (fun h => ?_) (fun h => ?_)
    · have hjl : j < u.w.length := by omega
      obtain ⟨s0, s1⟩ := b0.2 u.w[j] (List.getElem_mem hjl)
      obtain ⟨s, hs⟩ := Int.eq_ofNat_of_zero_le s0
      have hsl : s < len := by omega
      have hc1 := cnt_le s (P i ++ u.w.take j)
      have hc2 := hPb i (by omega)
      rw [List.length_append, List.length_take] at hc1
      refine e_condT (o_ (v_ia1 j (by rfl) hjl) ?_)
      refine p_op (v_ldRd r0 (I_get hjl)) ?_
      refine o_ (v_ia1 s hs hsl) ?_
      refine e_opN (v_ldSl (v := I (cnt (P i ++ u.w.take j) s)) (by rw [Nat.zero_add]; exact Ln_get hsl)) (.pick .here .nil) ?_
      have hi2 : 1073741824 * i ≤ 1073741824 * 2097152 := Nat.mul_le_mul_left _ (by omega)
      refine ad_ ?_
      refine o_ (v_ia1 s hs hsl) ?_
      refine e_stSl .here (by rw [Ln_len]; omega) ?_
      rw [show (Ln len fun s => (cnt (P i ++ u.w.take j) s : Int)).set (0 + s) (.int .i64 ((cnt (P i ++ u.w.take j) s : Int) + 1)) = Ln len (fun s => (cnt (P i ++ u.w.take (j + 1)) s : Int)) from by
        rw [Nat.zero_add]
        refine Ln_set.trans (Ln_congr fun z hz => ?_)
        rw [List.take_succ_eq_append_getElem hjl, ← List.append_assoc, cnt_append (l := P i ++ u.w.take j)]
        by_cases e : z = s
        · subst e; rw [if_pos rfl]; simp [cnt, hs]
        · have hne : ¬ (u.w[j] = (z : Int)) := by omega
          rw [if_neg e]; simp [cnt, hne]]
      refine ad_ ?_
      refine e_next1 (m2 - 1) (by omega) (.ex (j + 1) (.all ?_))
      refine nr_ ?_
      exact .pu ⟨by omega, by norm_cast⟩ .refl
    · have : j = u.w.length := by omega
      subst this
      refine e_condF (ad_ ?_)
      rw [List.take_length, ← hP1]
      refine e_next1 (m - 1) (by omega) (.ex (i + 1) (.all ?_))
      refine nr_ ?_
      exact .pu ⟨by omega, by norm_cast⟩ .refl
  · have hie : i = 2 * k - 2 := by omega
    subst hie
    refine e_condF (e_imp (.pick .here (.drop (.drop .refl))) ?_)
    rw [hP]
    exact hK
def coinsF:Int->List Int->List E
 |_,[]=>[]
 |s,x::l=>if 0<x then(x,[s])::coinsF (s+1) l else coinsF (s+1) l
theorem coinsF_snoc (x:Int):∀(s:Int) (l:List Int),coinsF s (l++[x])=coinsF s l++if 0<x then [(x,[s+l.length])]else []
 |s,[]=>by simp[coinsF]
 |s,y::l=>by
  have ih:=coinsF_snoc x (s+1) l
  have e:s+1+(l.length:Int)=s+((l.length+1:Nat):Int):=by push_cast;omega
  rw[e]at ih
  simp only[List.cons_append,coinsF,ih,List.length_cons]
  split <;> simp
theorem mrg_len {α:Type}(key:α->Int):∀us bs:List α,(mrg key us bs).length=us.length+bs.length
 |[],bs=>by simp[mrg]
 |a::us,bs=>by
  have ih:=mrg_len key us (bs.dropWhile fun b=>decide (key b<key a))
  have h:bs.length=(bs.takeWhile fun b=>decide (key b<key a)).length+(bs.dropWhile fun b=>decide (key b<key a)).length:=by
   rw[<- List.length_append,List.takeWhile_append_dropWhile]
  simp only[mrg,List.length_append,List.length_cons,ih]
  omega
def hist (cs:List E)(L:Nat)(s:Nat):Int:=(cnt (((rows cs (L-1)).take (2 * cs.length-2)).flatMap fun e=>e.2) s:Int)
end Go.Proofs.YtndojgomlkpeaaaGreatDoor.HF
set_option maxRecDepth 4000
namespace Go.Proofs.YtndojgomlkpeaaaGreatDoor.PM
open Go Go.Proofs HM HF
def W (xs:List E)(n:Nat):Int:=((xs.take n).map Prod.fst).sum
def Up (xs:List E):Prop:=xs.Pairwise fun a b=>a.1<=b.1
theorem W_zero (xs:List E):W xs 0=0:=by simp[W]
theorem W_cons (a:E)(xs:List E)(n:Nat):W (a::xs) (n+1)=a.1+W xs n:=by simp[W]
theorem W_nil (n:Nat):W [] n=0:=by simp[W]
theorem W_more {c:Int}:∀ {xs:List E} {n:Nat},(∀x∈xs,c<=x.1)->n<xs.length->W xs n+c<=W xs (n+1)
 |[],_,_,h=>by simp at h
 |x::xs,0,hc,_=>by
  rw[W_cons,W_zero,W_zero]
  have:=hc x (by simp)
  omega
 |x::xs,n+1,hc,h=>by
  rw[W_cons,W_cons]
  have:=W_more (c:=c) (xs:=xs) (n:=n) (fun y hy=>hc y (by simp[hy])) (by simpa using h)
  omega
theorem W_mono {xs:List E}(h0:∀x∈xs,0<=x.1):∀ {n m:Nat},n<=m->W xs n<=W xs m:=by
 intro n m h
 induction m with
 |zero=>rw[Nat.le_zero.1 h];exact Int.le_refl _
 |succ m ih=>
  rcases Nat.lt_or_ge n (m+1)with c|c
  ·have:=ih (by omega)
   rcases Nat.lt_or_ge m xs.length with d|d
   ·have:=W_more (c:=0) (n:=m) h0 d
    omega
   ·have e:W xs (m+1)=W xs m:=by unfold W;rw[List.take_of_length_le (by omega),List.take_of_length_le d]
    omega
  ·rw[show n=m+1 by omega];exact Int.le_refl _
theorem W_sub {A cs:List E}(h:A.Sublist cs)(hs:Up cs):W cs A.length<=(A.map Prod.fst).sum:=by
 induction h with
 |slnil=>simp[W]
 | @cons A cs a h ih=>
  obtain⟨h1,h2⟩:=List.pairwise_cons.1 hs
  have:=ih h2
  cases A with
  |nil=>simp[W]
  |cons b A=>
   rw[List.length_cons,W_cons]
   have hl:=h.length_le
   have:=W_more (c:=a.1) (xs:=cs) (n:=A.length) h1 (by rw[List.length_cons]at hl;omega)
   rw[List.length_cons]at *
   omega
 | @cons_cons A cs a h ih=>
  obtain⟨h1,h2⟩:=List.pairwise_cons.1 hs
  have:=ih h2
  rw[List.length_cons,W_cons,List.map_cons,List.sum_cons]
  omega
theorem W_mrg:∀(n:Nat) (us bs:List E) (p q:Nat),us.length+bs.length=n->Up us->Up bs->p<=us.length->q<=bs.length->W (mrg Prod.fst us bs) (p+q)<=W us p+W bs q:=by
 intro n
 induction n with
 |zero=>
  intro us bs p q h _ _ _ _
  have h1:us=[]:=List.eq_nil_of_length_eq_zero (by omega)
  have h2:bs=[]:=List.eq_nil_of_length_eq_zero (by omega)
  subst h1;subst h2
  simp[mrg,W_nil]
 |succ n ih=>
  intro us bs p q h hu hb hp hq
  cases us with
  |nil=>
   have hp0:p=0:=by simpa using hp
   subst hp0
   simp[mrg,W_zero]
  |cons a us=>
   cases bs with
   |nil=>
    have hq0:q=0:=by simpa using hq
    subst hq0
    simp[mrg_nil,W_zero]
   |cons b bs=>
    obtain⟨hu1,hu2⟩:=List.pairwise_cons.1 hu
    obtain⟨hb1,hb2⟩:=List.pairwise_cons.1 hb
    simp only[List.length_cons]at h hp hq
    by_cases hab:b.1<a.1
    ·rw[mrg_lt Prod.fst hab]
     cases q with
     |succ q=>
      rw[show p+(q+1)=(p+q)+1 by omega,W_cons,W_cons]
      have:=ih (a::us) bs p q (by simp;omega) hu hb2 (by simpa using hp) (by omega)
      omega
     |zero=>
      cases p with
      |zero=>simp[W_zero]
      |succ p=>
       rw[show p+1+0=p+1 by omega,W_cons]
       have:=ih (a::us) bs p 0 (by simp;omega) hu hb2 (by simp;omega) (by omega)
       rw[W_zero]at this ⊢
       have h2:=W_more (c:=a.1) (xs:=a::us) (n:=p) (by
        intro x hx
        rcases List.mem_cons.1 hx with rfl|hx
        ·exact Int.le_refl _
        ·exact hu1 x hx) (by simp;omega)
       rw[Nat.add_zero]at this
       omega
    ·rw[mrg_ge Prod.fst hab]
     cases p with
     |succ p=>
      rw[show p+1+q=(p+q)+1 by omega,W_cons,W_cons]
      have:=ih us (b::bs) p q (by simp;omega) hu2 hb (by omega) (by simpa using hq)
      omega
     |zero=>
      cases q with
      |zero=>simp[W_zero]
      |succ q=>
       rw[show 0+(q+1)=q+1 by omega,W_cons]
       have:=ih us (b::bs) 0 q (by simp;omega) hu2 hb (by omega) (by simp;omega)
       rw[W_zero]at this ⊢
       have h2:=W_more (c:=a.1) (xs:=b::bs) (n:=q) (by
        intro x hx
        rcases List.mem_cons.1 hx with rfl|hx
        ·omega
        ·have:=hb1 x hx;omega) (by simp;omega)
       rw[Nat.zero_add]at this
       omega
theorem mrg_mem' {y:E}:∀us bs:List E,y∈mrg Prod.fst us bs->y∈us\/y∈bs
 |[],bs,h=> .inr h
 |a::us,bs,h=>by
  simp only[mrg,List.mem_append,List.mem_cons]at h
  rcases h with c|c|c
  ·exact .inr ((List.takeWhile_sublist _).mem c)
  ·exact .inl (by rw[c];exact List.mem_cons_self)
  ·rcases mrg_mem' us _ c with d|d
   ·exact .inl (List.mem_cons_of_mem _ d)
   ·exact .inr ((List.dropWhile_sublist _).mem d)
theorem up_mrg:∀(n:Nat) (us bs:List E),us.length+bs.length=n->Up us->Up bs->Up (mrg Prod.fst us bs):=by
 intro n
 induction n with
 |zero=>
  intro us bs h _ _
  have h1:us=[]:=List.eq_nil_of_length_eq_zero (by omega)
  have h2:bs=[]:=List.eq_nil_of_length_eq_zero (by omega)
  subst h1;subst h2
  simp[mrg,Up]
 |succ n ih=>
  intro us bs h hu hb
  cases us with
  |nil=>simpa [mrg]using hb
  |cons a us=>
   cases bs with
   |nil=>simpa [mrg_nil]using hu
   |cons b bs=>
    obtain⟨hu1,hu2⟩:=List.pairwise_cons.1 hu
    obtain⟨hb1,hb2⟩:=List.pairwise_cons.1 hb
    simp only[List.length_cons]at h
    by_cases hab:b.1<a.1
    ·rw[mrg_lt Prod.fst hab]
     refine List.pairwise_cons.2 ⟨fun x hx=>?_,ih (a::us) bs (by simp;omega) hu hb2⟩
     rcases mrg_mem' _ _ hx with c|c
     ·rcases List.mem_cons.1 c with rfl|c
      ·omega
      ·have:=hu1 x c;omega
     ·exact hb1 x c
    ·rw[mrg_ge Prod.fst hab]
     refine List.pairwise_cons.2 ⟨fun x hx=>?_,ih us (b::bs) (by simp;omega) hu2 hb⟩
     rcases mrg_mem' _ _ hx with c|c
     ·exact hu1 x c
     ·rcases List.mem_cons.1 c with rfl|c
      ·omega
      ·have:=hb1 x c;omega
theorem pairs_len:∀xs:List E,(pairs xs).length=xs.length / 2
 |[]=>rfl
 |[_]=>by simp[pairs]
 |a::b::r=>by
  have:=pairs_len r
  simp only[pairs,List.length_cons,this]
  omega
theorem W_pairs:∀(xs:List E) (q:Nat),2 * q<=xs.length->W (pairs xs) q=W xs (2 * q)
 |_,0,_=>by simp[W_zero]
 |[],q+1,h=>by simp at h
 |[_],q+1,h=>by simp at h;omega
 |a::b::r,q+1,h=>by
  have:=W_pairs r q (by simp at h;omega)
  rw[show 2 * (q+1)=2 * q+1+1 by omega,W_cons,W_cons,pairs,W_cons,this]
  omega
theorem pairs_ge {c:Int}:∀ {xs:List E},(∀x∈xs,c<=x.1)->∀y∈pairs xs,c+c<=y.1
 |[],_,y,hy=>by simp[pairs]at hy
 |[_],_,y,hy=>by simp[pairs]at hy
 |a::b::r,h,y,hy=>by
  have h1:=h a (by simp)
  have h2:=h b (by simp)
  rcases List.mem_cons.1 hy with rfl|hy
  ·show c+c<=a.1+b.1
   omega
  ·exact pairs_ge (fun x hx=>h x (by simp[hx])) y hy
theorem up_pairs:∀ {xs:List E},Up xs->Up (pairs xs)
 |[],_=>by simp[pairs,Up]
 |[_],_=>by simp[pairs,Up]
 |a::b::r,h=>by
  obtain⟨h1,h2⟩:=List.pairwise_cons.1 h
  obtain⟨h3,h4⟩:=List.pairwise_cons.1 h2
  refine List.pairwise_cons.2 ⟨fun y hy=>?_,up_pairs h4⟩
  have hab:=h1 b (by simp)
  have:=pairs_ge (c:=b.1) h3 y hy
  show a.1+b.1<=y.1
  omega
theorem up_rows {cs:List E}(h:Up cs):∀j,Up (rows cs j)
 |0=>h
 |j+1=>up_mrg _ _ _ rfl h (up_pairs (up_rows h j))
theorem pos_rows {cs:List E}(h:∀x∈cs,0<x.1):∀j,∀x∈rows cs j,0<x.1
 |0,x,hx=>h x hx
 |j+1,x,hx=>by
  rcases mrg_mem' _ _ hx with c|c
  ·exact h x c
  ·have:=pairs_ge (c:=1) (fun y hy=>by have:=pos_rows h j y hy;omega) x c
   omega
theorem rows_len (cs:List E)(j:Nat):(rows cs (j+1)).length=cs.length+(rows cs j).length / 2:=by
 rw[rows,mrg_len,pairs_len]
theorem rows_most (cs:List E):∀j,(rows cs j).length<=2 * cs.length
 |0=>by simp[rows];omega
 |j+1=>by rw[rows_len];have:=rows_most cs j;omega
theorem rows_deficit {cs:List E}(hk:1<=cs.length):∀j,(rows cs j).length+1<=2 * cs.length/\(2 * cs.length-(rows cs j).length-1) * 2^j<=cs.length-1
 |0=>by simp[rows];omega
 |j+1=>by
  obtain⟨h1,h2⟩:=rows_deficit hk j
  rw[rows_len]
  generalize (rows cs j).length=r at h1 h2 ⊢
  refine⟨by omega,?_⟩
  have:(2 * cs.length-(cs.length+r / 2)-1) * 2<=2 * cs.length-r-1:=by omega
  calc (2 * cs.length-(cs.length+r / 2)-1) * 2^(j+1)=((2 * cs.length-(cs.length+r / 2)-1) * 2) * 2^j:=by rw[Nat.pow_succ,Nat.mul_comm (2^j) 2,Nat.mul_assoc]
   _<=(2 * cs.length-r-1) * 2^j:=Nat.mul_le_mul_right _ this
   _<=_:=h2
theorem rows_enough {cs:List E}{j:Nat}(hk:1<=cs.length)(h:cs.length<=2^(j+1)):2 * cs.length-2<=(rows cs j).length:=by
 obtain⟨h1,h2⟩:=rows_deficit hk j
 rw[Nat.pow_succ]at h
 have:(2 * cs.length-(rows cs j).length-1)<2:=by
  refine Nat.lt_of_mul_lt_mul_right (a:=2^j) ?_
  omega
 omega

def T (L:Nat)(t:List Nat)(j:Nat):List Int:=t.map fun x=>((x+j+1-L:Nat):Int)
def dot:List E->List Int->Int
 |a::us,x::xs=>a.1 * x+dot us xs
 |_,_=>0
def ge (d:Nat):List E->List Nat->List E
 |a::us,x::xs=>if d<=x then a::ge d us xs else ge d us xs
 |_,_=>[]
theorem ge_sub (d:Nat):∀us xs,(ge d us xs).Sublist us
 |a::us,x::xs=>by
  unfold ge
  split
  ·exact(ge_sub d us xs).cons_cons a
  ·exact(ge_sub d us xs).cons a
 |[],_=>by cases ‹List Nat› <;> simp[ge]
 |_::_,[]=>by simp[ge]
theorem dot_step (L j:Nat)(hj:j+1<L):∀(us:List E) (t:List Nat),dot us (T L t (j+1))=dot us (T L t j)+((ge (L-(j+1)) us t).map Prod.fst).sum
 |a::us,x::xs=>by
  have ih:=dot_step L j hj us xs
  simp only[T,List.map_cons,dot,ge]at ih ⊢
  rw[ih]
  split
  ·rename_i h
   rw[List.map_cons,List.sum_cons,show(x+(j+1)+1-L:Nat)=(x+j+1-L)+1 by omega]
   push_cast
   rw[Int.mul_add,Int.mul_one]
   omega
  ·rename_i h
   rw[show(x+(j+1)+1-L:Nat)=(x+j+1-L) by omega]
   omega
 |[],t=>by cases t <;> simp[T,dot,ge]
 |a::us,[]=>by simp[T,dot,ge]
theorem dot_zero (L:Nat)(hL:1<=L):∀(us:List E) (t:List Nat),(∀x∈t,x<=L)->dot us (T L t 0)=((ge L us t).map Prod.fst).sum
 |a::us,x::xs,h=>by
  have ih:=dot_zero L hL us xs fun y hy=>h y (by simp[hy])
  have hx:=h x (by simp)
  simp only[T,List.map_cons,dot,ge]at ih ⊢
  rw[ih]
  split
  ·rename_i h
   rw[List.map_cons,List.sum_cons,show(x+0+1-L:Nat)=1 by omega]
   simp
  ·rename_i h
   rw[show(x+0+1-L:Nat)=0 by omega]
   simp
 |[],t,_=>by cases t <;> simp[T,dot,ge]
 |a::us,[],_=>by simp[T,dot,ge]
def msz (L:Nat)(cs:List E)(t:List Nat):Nat->Nat
 |0=>(ge L cs t).length
 |j+1=>(ge (L-(j+1)) cs t).length+msz L cs t j / 2
theorem lower {L:Nat}{cs:List E}{t:List Nat}(hL:1<=L)(hu:Up cs)(hp:∀x∈cs,0<x.1)(ht:∀x∈t,x<=L):∀j,j<L->msz L cs t j<=(rows cs j).length/\W (rows cs j) (msz L cs t j)<=dot cs (T L t j)
 |0,_=>by
  rw[dot_zero L hL cs t ht]
  exact⟨(ge_sub L cs t).length_le,W_sub (ge_sub L cs t) hu⟩
 |j+1,hj=>by
  obtain⟨h1,h2⟩:=lower hL hu hp ht j (by omega)
  have hs:=ge_sub (L-(j+1)) cs t
  have hw:=W_sub hs hu
  have hl:=hs.length_le
  refine⟨by rw[rows_len,msz];omega,?_⟩
  rw[dot_step L j hj,msz]
  have hm:=W_mrg _ cs (pairs (rows cs j)) (ge (L-(j+1)) cs t).length (msz L cs t j / 2) rfl hu (up_pairs (up_rows hu j)) hl (by rw[pairs_len];omega)
  rw[W_pairs _ _ (by omega)]at hm
  have hmo:=W_mono (xs:=rows cs j) (fun x hx=>Int.le_of_lt (pos_rows hp j x hx)) (show 2 * (msz L cs t j / 2)<=msz L cs t j by omega)
  show W (mrg Prod.fst cs (pairs (rows cs j))) _<=_
  omega
def cz (L:Nat)(j x:Nat):Nat:=if L-j<=x then 2^(j+1)-2^(L-x)else 0
def CZ (L j:Nat):List Nat->Nat
 |[]=>0
 |x::t=>cz L j x+CZ L j t
theorem cz_step {L j x:Nat}(hj:j+1<L)(hx:x<=L):cz L (j+1) x=cz L j x+if L-(j+1)<=x then 2^(j+1)else 0:=by
 unfold cz
 have hp:2^(j+1+1)=2^(j+1)+2^(j+1):=by rw[Nat.pow_succ];omega
 by_cases h1:L-j<=x
 ·have:2^(L-x)<=2^j:=Nat.pow_le_pow_right (by omega) (by omega)
  have h2:2^(j+1)=2^j+2^j:=by rw[Nat.pow_succ];omega
  rw[if_pos (by omega),if_pos h1,if_pos (by omega),hp]
  generalize 2^(j+1)=A at h2 ⊢
  generalize 2^(L-x)=B at this ⊢
  omega
 ·rw[if_neg h1]
  by_cases h2:L-(j+1)<=x
  ·rw[if_pos h2,if_pos h2,show L-x=j+1 by omega,hp,Nat.zero_add,Nat.add_sub_cancel]
  ·rw[if_neg h2,if_neg h2]
theorem CZ_step {L j:Nat}(hj:j+1<L):∀(cs:List E) (t:List Nat),cs.length=t.length->(∀x∈t,x<=L)->CZ L (j+1) t=CZ L j t+(ge (L-(j+1)) cs t).length * 2^(j+1)
 |[],[],_,_=>by simp[CZ,ge]
 |a::us,x::t,h,ht=>by
  have ih:=CZ_step hj us t (by simpa using h) fun y hy=>ht y (by simp[hy])
  simp only[CZ,ge]
  rw[ih,cz_step hj (ht x (by simp))]
  split
  ·rw[List.length_cons,Nat.add_mul];omega
  ·omega
 |[],_::_,h,_=>by simp at h
 |_::_,[],h,_=>by simp at h
theorem CZ_zero {L:Nat}(hL:1<=L):∀(cs:List E) (t:List Nat),cs.length=t.length->(∀x∈t,x<=L)->CZ L 0 t=(ge L cs t).length
 |[],[],_,_=>by simp[CZ,ge]
 |a::us,x::t,h,ht=>by
  have ih:=CZ_zero hL us t (by simpa using h) fun y hy=>ht y (by simp[hy])
  have hx:=ht x (by simp)
  simp only[CZ,ge,cz]
  rw[ih]
  by_cases c:L<=x
  ·rw[if_pos (by omega),if_pos c,List.length_cons,show L-x=0 by omega];omega
  ·rw[if_neg (by omega),if_neg c];omega
 |[],_::_,h,_=>by simp at h
 |_::_,[],h,_=>by simp at h
theorem msz_ge {L:Nat}{cs:List E}{t:List Nat}(hL:1<=L)(hl:cs.length=t.length)(ht:∀x∈t,x<=L):∀j,j<L->CZ L j t<(msz L cs t j+1) * 2^j
 |0,_=>by rw[CZ_zero hL cs t hl ht,msz];omega
 |j+1,hj=>by
  have ih:=msz_ge hL hl ht j (by omega)
  rw[CZ_step hj cs t hl ht,msz]
  have h2:(msz L cs t j+1) * 2^j<=(msz L cs t j / 2+1) * 2^(j+1):=by
   rw[Nat.pow_succ,Nat.mul_comm (2^j) 2,<- Nat.mul_assoc]
   exact Nat.mul_le_mul_right _ (by omega)
  rw[show(ge (L-(j+1)) cs t).length+msz L cs t j / 2+1=(ge (L-(j+1)) cs t).length+(msz L cs t j / 2+1) by omega,Nat.add_mul (ge (L-(j+1)) cs t).length]
  omega
def kra (L:Nat):List Nat->Nat
 |[]=>0
 |x::t=>2^(L-x)+kra L t
theorem CZ_top {L:Nat}(hL:1<=L):∀(t:List Nat),(∀x∈t,1<=x/\x<=L)->CZ L (L-1) t+kra L t=t.length * 2^L
 |[],_=>by simp[CZ,kra]
 |x::t,h=>by
  have ih:=CZ_top hL t fun y hy=>h y (by simp[hy])
  have hx:=h x (by simp)
  simp only[CZ,kra,cz,List.length_cons]
  rw[if_pos (by omega),show L-1+1=L by omega,Nat.add_mul,<- ih]
  have:2^(L-x)<=2^L:=Nat.pow_le_pow_right (by omega) (by omega)
  omega
theorem T_top {L:Nat}(hL:1<=L)(t:List Nat):T L t (L-1)=t.map fun x:Nat=>(x:Int):=by
 unfold T
 apply List.map_congr_left
 intro x _
 rw[show x+(L-1)+1-L=x by omega]
theorem best {L:Nat}{cs:List E}{t:List Nat}(hL:1<=L)(hu:Up cs)(hp:∀x∈cs,0<x.1)(hl:cs.length=t.length)(ht:∀x∈t,1<=x/\x<=L)(hk:kra L t<=2^L):
  W (rows cs (L-1)) (2 * cs.length-2)<=dot cs (t.map fun x:Nat=>(x:Int)):=by
 obtain⟨h1,h2⟩:=lower (t:=t) hL hu hp (fun x hx=>(ht x hx).2) (L-1) (by omega)
 rw[T_top hL]at h2
 have h3:=msz_ge hL hl (fun x hx=>(ht x hx).2) (L-1) (by omega)
 have h4:=CZ_top hL t ht
 have hpw:2^L=2 * 2^(L-1):=by
  conv=>lhs;rw[show L=L-1+1 by omega,Nat.pow_succ]
  omega
 have hm:2 * cs.length-2<msz L cs t (L-1)+1:=by
  refine Nat.lt_of_mul_lt_mul_right (a:=2^(L-1)) ?_
  refine Nat.lt_of_le_of_lt ?_ h3
  have:(2 * cs.length-2) * 2^(L-1)=(t.length-1) * 2^L:=by
   rw[hpw,<- Nat.mul_assoc,hl]
   congr 1
   omega
  rw[this,Nat.sub_mul,Nat.one_mul]
  omega
 exact Int.le_trans (W_mono (fun x hx=>Int.le_of_lt (pos_rows hp _ x hx)) (by omega)) h2

def sy (xs:List E):List Int:=xs.flatMap fun e=>e.2
theorem mrg_take:∀(m:Nat) (us bs:List E) (n:Nat),us.length+bs.length=m->Up us->n<=m->∃p q,p+q=n/\p<=us.length/\q<=bs.length/\W (mrg Prod.fst us bs) n=W us p+W bs q/\
  (∀s,cnt (sy ((mrg Prod.fst us bs).take n)) s=cnt (sy (us.take p)) s+cnt (sy (bs.take q)) s)/\(∀a∈us.drop p,∀b∈bs.take q,b.1<a.1)/\(∀a∈us.take p,a∈(mrg Prod.fst us bs).take n):=by
 intro m
 induction m with
 |zero=>
  intro us bs n h _ hn
  have h1:us=[]:=List.eq_nil_of_length_eq_zero (by omega)
  have h2:bs=[]:=List.eq_nil_of_length_eq_zero (by omega)
  subst h1;subst h2
  exact⟨0,0,by omega,by simp,by simp,by simp[mrg,W_nil],by simp[mrg,sy,cnt],by simp,by simp⟩
 |succ m ih=>
  intro us bs n h hu hn
  cases n with
  |zero=>exact⟨0,0,by omega,by omega,by omega,by simp[W_zero],by simp[sy,cnt],by simp,by simp⟩
  |succ n=>
   cases us with
   |nil=>exact⟨0,n+1,by omega,by simp,by simp at h;omega,by simp[mrg,W_nil],by simp[mrg,sy,cnt],by simp,by simp⟩
   |cons a us=>
    obtain⟨hu1,hu2⟩:=List.pairwise_cons.1 hu
    cases bs with
    |nil=>exact⟨n+1,0,by omega,by simp at h ⊢;omega,by simp,by simp[mrg_nil,W_zero],by simp[mrg_nil,sy,cnt],by simp,by simp[mrg_nil]⟩
    |cons b bs=>
     simp only[List.length_cons]at h
     by_cases hab:b.1<a.1
     ·obtain⟨p,q,h1,h2,h3,h4,h5,h6,h7⟩:=ih (a::us) bs n (by simp;omega) hu (by omega)
      rw[mrg_lt Prod.fst hab]
      refine⟨p,q+1,by omega,h2,by simp;omega,by rw[W_cons,W_cons,h4];omega,fun s=>?_,fun x hx y hy=>?_,fun x hx=>List.mem_cons_of_mem _ (h7 x hx)⟩
      ·have:=h5 s
       simp only[List.take_succ_cons,sy,List.flatMap_cons,cnt_append]at this ⊢
       omega
      ·rcases List.mem_cons.1 (by simpa using hy)with rfl|hy
       ·have hx':=List.mem_of_mem_drop hx
        rcases List.mem_cons.1 hx' with rfl|hx'
        ·exact hab
        ·have:=hu1 x hx';omega
       ·exact h6 x hx y hy
     ·obtain⟨p,q,h1,h2,h3,h4,h5,h6,h7⟩:=ih us (b::bs) n (by simp;omega) hu2 (by omega)
      rw[mrg_ge Prod.fst hab]
      refine⟨p+1,q,by omega,by simp;omega,h3,by rw[W_cons,W_cons,h4];omega,fun s=>?_,fun x hx y hy=>h6 x (by simpa using hx) y hy,fun x hx=>?_⟩
      ·have:=h5 s
       simp only[List.take_succ_cons,sy,List.flatMap_cons,cnt_append]at this ⊢
       omega
      ·rcases List.mem_cons.1 (by simpa using hx)with rfl|hx
       ·exact List.mem_cons_self
       ·exact List.mem_cons_of_mem _ (h7 x hx)
theorem sy_pairs:∀(xs:List E) (q:Nat),2 * q<=xs.length->sy ((pairs xs).take q)=sy (xs.take (2 * q))
 |_,0,_=>by simp[sy,cnt]
 |[],q+1,h=>by simp at h
 |[_],q+1,h=>by simp at h;omega
 |a::b::r,q+1,h=>by
  have:=sy_pairs r q (by simp at h;omega)
  rw[show 2 * (q+1)=2 * q+1+1 by omega]
  simp only[pairs,List.take_succ_cons,sy,List.flatMap_cons]at this ⊢
  rw[this,List.append_assoc]
theorem pair_has:∀(xs:List E) (q:Nat),2 * q<=xs.length->(∀x∈xs,0<x.1)->∀x∈xs.take (2 * q),∃y∈(pairs xs).take q,x.1<y.1
 |_,0,_,_,x,hx=>by simp at hx
 |[],q+1,h,_,_,_=>by simp at h
 |[_],q+1,h,_,_,_=>by simp at h;omega
 |a::b::r,q+1,h,hp,x,hx=>by
  rw[show 2 * (q+1)=2 * q+1+1 by omega]at hx
  simp only[List.take_succ_cons,List.mem_cons]at hx
  have ha:=hp a (by simp)
  have hb:=hp b (by simp)
  rcases hx with rfl|rfl|hx
  ·exact⟨_,List.mem_cons_self,by show x.1<x.1+b.1;omega⟩
  ·exact⟨_,List.mem_cons_self,by show x.1<a.1+x.1;omega⟩
  ·obtain⟨y,hy,h2⟩:=pair_has r q (by simp at h;omega) (fun z hz=>hp z (by simp[hz])) x hx
   exact⟨y,by simp[pairs,hy],h2⟩
def Dec:List Nat->Prop
 |p::q::r=>q<=p/\Dec (q::r)
 |_=>True
def K:List Nat->Nat
 |[]=>0
 |p::ps=>p * 2^ps.length+K ps
def ouF (ps:List Nat)(r:Nat):Nat:=(ps.filter fun p=>decide (r<p)).length
theorem prof {cs:List E}(hu:Up cs)(hp:∀x∈cs,0<x.1):∀(j n:Nat),n<=(rows cs j).length->∃ps:List Nat,ps.length=j+1/\Dec ps/\(∀p∈ps,p<=cs.length)/\K ps=n * 2^j/\
  W (rows cs j) n=(ps.map fun p=>W cs p).sum/\(∀s,cnt (sy ((rows cs j).take n)) s=(ps.map fun p=>cnt (sy (cs.take p)) s).sum)/\(∀p,ps.head? =some p->∀x∈cs.take p,x∈(rows cs j).take n)
 |0,n,h=>⟨[n],rfl,trivial,by intro p hp;rw[List.mem_singleton.1 hp];exact h,by simp[K],by simp[rows],by simp[rows],by
   intro p hp x hx
   cases hp
   exact hx⟩
 |j+1,n,h=>by
  obtain⟨p,q,h1,h2,h3,h4,h5,h6,h7⟩:=mrg_take _ cs (pairs (rows cs j)) n rfl hu (by rw[<- mrg_len Prod.fst];exact h)
  have hq:2 * q<=(rows cs j).length:=by rw[pairs_len]at h3;omega
  obtain⟨ps,g1,g2,g3,g4,g5,g6,g7⟩:=prof hu hp j (2 * q) hq
  cases ps with
  |nil=>simp at g1
  |cons p' ps=>
   have hpp:p'<=p:=by
    rcases Nat.lt_or_ge p p' with c|c
    ·exfalso
     have hl:p<cs.length:=by have:=g3 p' (by simp);omega
     have m1:cs[p]∈cs.take p':=List.mem_take_iff_getElem.2 ⟨p,by omega,rfl⟩
     obtain⟨y,hy,hlt⟩:=pair_has (rows cs j) q hq (pos_rows hp j) _ (g7 p' rfl _ m1)
     have m2:cs[p]∈cs.drop p:=by rw[List.drop_eq_getElem_cons hl];exact List.mem_cons_self
     have:=h6 _ m2 _ hy
     omega
    ·exact c
   refine⟨p::p'::ps,by simpa using g1,⟨hpp,g2⟩,?_,?_,?_,fun s=>?_,?_⟩
   ·intro x hx
    rcases List.mem_cons.1 hx with rfl|hx
    ·exact h2
    ·exact g3 x hx
   ·rw[K,g4,g1,<- h1,Nat.pow_succ,Nat.add_mul,Nat.mul_comm 2 q,Nat.mul_assoc q,Nat.mul_comm 2]
   ·show W (mrg Prod.fst cs (pairs (rows cs j))) n=_
    rw[h4,W_pairs _ _ hq,g5];simp only[List.map_cons,List.sum_cons]
   ·show cnt (sy ((mrg Prod.fst cs (pairs (rows cs j))).take n)) s=_
    rw[h5,sy_pairs _ _ hq,g6];simp only[List.map_cons,List.sum_cons]
   ·intro x hx
    cases hx
    exact h7

def krR (ps:List Nat):Nat->Nat
 |0=>0
 |k+1=>krR ps k+2^(ps.length-ouF ps k)
theorem ou_le (ps:List Nat)(r:Nat):ouF ps r<=ps.length:=List.length_filter_le _ _
theorem dec_tail {p:Nat}{ps:List Nat}(h:Dec (p::ps)):Dec ps:=by
 cases ps with
 |nil=>trivial
 |cons q r=>exact h.2
theorem dec_le {p:Nat}:∀ {ps:List Nat},Dec (p::ps)->∀q∈ps,q<=p
 |[],_,q,hq=>by cases hq
 |x::r,h,q,hq=>by
  rcases List.mem_cons.1 hq with rfl|hq
  ·exact h.1
  ·have:=dec_le h.2 q hq
   have:=h.1
   omega
theorem ou_none {ps:List Nat}{r:Nat}(h:∀q∈ps,q<=r):ouF ps r=0:=by
 unfold ouF
 rw[List.length_eq_zero_iff,List.filter_eq_nil_iff]
 intro q hq c
 have:=h q hq
 have:=of_decide_eq_true c
 omega
theorem krR_step {p:Nat}{ps:List Nat}(h:Dec (p::ps)):∀k,krR (p::ps) k=krR ps k+(k-p) * 2^ps.length
 |0=>by simp[krR]
 |k+1=>by
  rw[krR,krR,krR_step h k]
  have hl:=ou_le ps k
  by_cases hk:k<p
  ·have e:ouF (p::ps) k=ouF ps k+1:=by unfold ouF;rw[List.filter_cons,if_pos (by simpa using hk)];rfl
   rw[e,List.length_cons,show ps.length+1-(ouF ps k+1)=ps.length-ouF ps k by omega,show k-p=0 by omega,show k+1-p=0 by omega]
   omega
  ·have e0:ouF ps k=0:=ou_none fun q hq=>by have:=dec_le h q hq;omega
   have e:ouF (p::ps) k=0:=ou_none fun q hq=>by
    rcases List.mem_cons.1 hq with rfl|hq
    ·omega
    ·have:=dec_le h q hq;omega
   rw[e,e0,List.length_cons,Nat.sub_zero,Nat.sub_zero,show k+1-p=(k-p)+1 by omega,Nat.pow_succ,Nat.add_mul]
   omega
theorem krR_K:∀ {ps:List Nat} {k:Nat},Dec ps->(∀p∈ps,p<=k)->krR ps k+K ps=k * 2^ps.length
 |[],k,_,_=>by
  have:∀k,krR [] k=k:=by
   intro k
   induction k with
   |zero=>rfl
   |succ k ih=>rw[krR,ih];simp
  rw[this];simp[K]
 |p::ps,k,hd,h=>by
  have ih:=krR_K (k:=k) (dec_tail hd) fun q hq=>h q (by simp[hq])
  have hpk:=h p (by simp)
  rw[krR_step hd,K,List.length_cons,Nat.pow_succ]
  have:(k-p) * 2^ps.length+p * 2^ps.length=k * 2^ps.length:=by rw[<- Nat.add_mul];congr 1;omega
  rw[Nat.mul_comm (2^ps.length) 2,Nat.mul_left_comm]
  omega
theorem krR_pos {ps:List Nat}:∀ {k r:Nat},r<k->2^(ps.length-ouF ps r)+(k-1)<=krR ps k
 |0,r,h=>by omega
 |k+1,r,h=>by
  rw[krR]
  by_cases c:r=k
  ·subst c
   have:∀k,k<=krR ps k:=by
    intro k
    induction k with
    |zero=>omega
    |succ k ih=>
     rw[krR]
     have:=Nat.two_pow_pos (ps.length-ouF ps k)
     omega
   have:=this r
   omega
  ·have:=krR_pos (ps:=ps) (show r<k by omega)
   have:=Nat.two_pow_pos (ps.length-ouF ps k)
   omega

theorem perm_insAt {α:Type}(key:α->Int)(acc:List α)(x:α):∀j,(insAt key acc x j).Perm (x::acc)
 |0=> .refl _
 |j+1=>by
  unfold insAt
  split
  ·split
   ·exact perm_insAt key acc x j
   ·have:=List.perm_middle (a:=x) (l₁:=acc.take (j+1)) (l₂:=acc.drop (j+1))
    rwa [List.take_append_drop]at this
  ·have:=List.perm_middle (a:=x) (l₁:=acc) (l₂:=[])
   rwa [List.append_nil]at this
theorem perm_isort {α:Type}(key:α->Int)(xs:List α):(isort key xs).Perm xs:=by
 have:∀(xs acc:List α),(xs.foldl (insR key) acc).Perm (acc++xs):=by
  intro xs
  induction xs with
  |nil=>intro acc;simp
  |cons x xs ih=>
   intro acc
   rw[List.foldl_cons]
   refine(ih _).trans ?_
   have h1:=(perm_insAt key acc x acc.length).append_right xs
   exact h1.trans (List.perm_middle (a:=x) (l₁:=acc) (l₂:=xs)).symm
 exact this xs []
theorem up_insAt (acc:List E)(x:E)(hu:Up acc):∀j,j<=acc.length->(∀y∈acc.drop j,x.1<y.1)->Up (insAt Prod.fst acc x j)
 |0,_,h=>List.pairwise_cons.2 ⟨fun y hy=>Int.le_of_lt (h y (by simpa using hy)),hu⟩
 |j+1,hj,h=>by
  unfold insAt
  rw[List.getElem?_eq_getElem (by omega)]
  simp only
  split
  ·rename_i hlt
   refine up_insAt acc x hu j (by omega) fun y hy=>?_
   rw[List.drop_eq_getElem_cons (by omega)]at hy
   rcases List.mem_cons.1 hy with rfl|hy
   ·exact hlt
   ·exact h y hy
  ·rename_i hge
   have e:acc=acc.take (j+1)++acc.drop (j+1):=(List.take_append_drop _ _).symm
   unfold Up at hu ⊢
   rw[e,List.pairwise_append]at hu
   obtain⟨h1,h2,h3⟩:=hu
   refine List.pairwise_append.2 ⟨h1,List.pairwise_cons.2 ⟨fun y hy=>Int.le_of_lt (h y hy),h2⟩,fun a ha b hb=>?_⟩
   rcases List.mem_cons.1 hb with rfl|hb
   ·rw[List.take_succ_eq_append_getElem (by omega)]at ha h1
    have hx:acc[j].1<=b.1:=by omega
    rcases List.mem_append.1 ha with ha|ha
    ·have:=(List.pairwise_append.1 h1).2.2 a ha acc[j] (by simp)
     omega
    ·rw[List.mem_singleton.1 ha];exact hx
   ·exact h3 a ha b hb
theorem up_isort (xs:List E):Up (isort Prod.fst xs):=by
 have:∀(xs acc:List E),Up acc->Up (xs.foldl (insR Prod.fst) acc):=by
  intro xs
  induction xs with
  |nil=>intro acc h;exact h
  |cons x xs ih=>
   intro acc h
   rw[List.foldl_cons]
   exact ih _ (up_insAt acc x h _ (Nat.le_refl _) (by simp))
 exact this xs [] (by simp[Up])
def cSum (f:E->Int):List E->Int
 |[]=>0
 |e::r=>f e+cSum f r
theorem cSum_perm (f:E->Int){a b:List E}(h:a.Perm b):cSum f a=cSum f b:=by
 induction h with
 |nil=>rfl
 |cons x _ ih=>simp[cSum,ih]
 |swap x y l=>simp[cSum];omega
 |trans _ _ h1 h2=>rw[h1,h2]
theorem cSum_add (f g:E->Int):∀l,cSum (fun e=>f e+g e) l=cSum f l+cSum g l
 |[]=>rfl
 |e::r=>by simp[cSum,cSum_add f g r];omega
def fSum (g:Int->Int->Int):Int->List Int->Int
 |_,[]=>0
 |s,x::l=>(if 0<x then g x s else 0)+fSum g (s+1) l
def one (e:E):Int:=e.2.headD 0
theorem cSum_coins (g:Int->Int->Int):∀(s:Int) (l:List Int),cSum (fun e=>g e.1 (one e)) (coinsF s l)=fSum g s l
 |_,[]=>rfl
 |s,x::l=>by
  unfold coinsF fSum
  split
  ·rw[cSum,cSum_coins g (s+1) l];rfl
  ·rw[cSum_coins g (s+1) l];omega
theorem coins_mem {e:E}:∀ {s:Int} {l:List Int},e∈coinsF s l->0<e.1/\e.2=[one e]/\s<=one e/\one e<s+l.length
 |_,[],h=>by simp[coinsF]at h
 |s,x::l,h=>by
  unfold coinsF at h
  have ih:e∈coinsF (s+1) l->_:=fun h=>coins_mem (s:=s+1) (l:=l) h
  split at h
  ·rename_i hx
   rcases List.mem_cons.1 h with rfl|h
   ·refine⟨hx,rfl,?_,?_⟩ <;> simp[one] <;> omega
   ·obtain⟨h1,h2,h3,h4⟩:=ih h
    exact⟨h1,h2,by omega,by simp;omega⟩
  ·obtain⟨h1,h2,h3,h4⟩:=ih h
   exact⟨h1,h2,by omega,by simp;omega⟩
theorem coins_nodup:∀(s:Int) (l:List Int),((coinsF s l).map one).Nodup
 |_,[]=>by simp[coinsF]
 |s,x::l=>by
  unfold coinsF
  split
  ·rw[List.map_cons,List.nodup_cons]
   refine⟨fun h=>?_,coins_nodup (s+1) l⟩
   obtain⟨e,he,h⟩:=List.mem_map.1 h
   have:=(coins_mem he).2.2.1
   have:one (x,[s])=s:=rfl
   omega
  ·exact coins_nodup (s+1) l
theorem sy_ones {xs:List E}(h:∀e∈xs,e.2=[one e]):sy xs=xs.map one:=by
 induction xs with
 |nil=>rfl
 |cons e r ih=>
  have:=ih fun y hy=>h y (by simp[hy])
  unfold sy at this ⊢
  rw[List.flatMap_cons,this,h e (by simp)];rfl
theorem cnt_mem {j:Nat}:∀ {l:List Int},(j:Int)∉l->cnt l j=0
 |[],_=>rfl
 |x::l,h=>by
  rw[cnt,cnt_mem (l:=l) fun c=>h (by simp[c]),if_neg fun c=>h (by simp[c])]
theorem cnt_nodup {l:List Int}(hn:l.Nodup){r:Nat}(hr:r<l.length){j:Nat}(hj:l[r]=(j:Int))(p:Nat):cnt (l.take p) j=if r<p then 1 else 0:=by
 induction l generalizing r p with
 |nil=>simp at hr
 |cons x l ih=>
  obtain⟨h1,h2⟩:=List.nodup_cons.1 hn
  cases p with
  |zero=>simp[cnt]
  |succ p=>
   rw[List.take_succ_cons,cnt]
   cases r with
   |zero=>
    have hx:x=(j:Int):=hj
    rw[if_pos hx,if_pos (by omega),cnt_mem]
    intro c
    exact h1 (by rw[hx];exact List.mem_of_mem_take c)
   |succ r=>
    have hr':r<l.length:=by simpa using hr
    have hj':l[r]=(j:Int):=by simpa using hj
    rw[ih h2 hr' hj' p,if_neg (show ¬x=(j:Int)from fun c=>h1 (by rw[c,<- hj'];exact List.getElem_mem _))]
    by_cases c:r<p
    ·rw[if_pos c,if_pos (by omega)]
    ·rw[if_neg c,if_neg (by omega)]
theorem cSum_app (f:E->Int):∀a b,cSum f (a++b)=cSum f a+cSum f b
 |[],b=>by simp[cSum]
 |e::r,b=>by simp[cSum,cSum_app f r b];omega
theorem cSum_congr {f g:E->Int}:∀ {l:List E},(∀e∈l,f e=g e)->cSum f l=cSum g l
 |[],_=>rfl
 |e::r,h=>by rw[cSum,cSum,h e (by simp),cSum_congr fun x hx=>h x (by simp[hx])]
theorem cSum_zero:∀l,cSum (fun _=>0) l=0
 |[]=>rfl
 |e::r=>by rw[cSum,cSum_zero r];rfl
theorem cSum_fst:∀l:List E,cSum (fun e=>e.1) l=(l.map Prod.fst).sum
 |[]=>rfl
 |e::r=>by rw[cSum,cSum_fst r];rfl
theorem cSum_sum (f:Nat->E->Int):∀(ps:List Nat) (l:List E),cSum (fun e=>(ps.map fun p=>f p e).sum) l=(ps.map fun p=>cSum (f p) l).sum
 |[],l=>by simp[cSum_zero]
 |p::ps,l=>by
  have:=cSum_sum f ps l
  simp only[List.map_cons,List.sum_cons]
  rw[cSum_add,this]
theorem sum_cast:∀l:List Nat,((l.sum:Nat):Int)=(l.map fun x:Nat=>(x:Int)).sum
 |[]=>rfl
 |x::l=>by simp[sum_cast l]
theorem sum_ou (r:Nat):∀ps:List Nat,(ps.map fun p=>if r<p then 1 else 0).sum=ouF ps r
 |[]=>rfl
 |p::ps=>by
  have:=sum_ou r ps
  unfold ouF at this ⊢
  rw[List.map_cons,List.sum_cons,this,List.filter_cons]
  by_cases c:r<p
  ·rw[if_pos c,if_pos (by simpa using c),List.length_cons];omega
  ·rw[if_neg c,if_neg (by simpa using c)];omega
theorem kra_snoc (L:Nat)(x:Nat):∀t:List Nat,kra L (t++[x])=kra L t+2^(L-x)
 |[]=>by simp[kra]
 |y::t=>by simp[kra,kra_snoc L x t];omega
theorem kra_krR {ps:List Nat}:∀(k:Nat) (t:List Nat),t.length=k->(∀r (h:r<t.length),t[r]=ouF ps r)->kra ps.length t=krR ps k
 |0,t,h,_=>by rw[List.eq_nil_of_length_eq_zero h];rfl
 |k+1,t,h,ht=>by
  have hk:k<t.length:=by omega
  have e:t=t.take k++[t[k]]:=by
   rw[<- List.take_succ_eq_append_getElem hk,List.take_of_length_le (by omega)]
  rw[e,kra_snoc,krR,ht k hk,kra_krR k (t.take k) (by simp;omega) fun r hr=>by
   rw[List.getElem_take]
   exact ht r _]
theorem kra_cSum {L:Nat}(hL:L<=15)(f:E->Nat):∀cs:List E,(∀e∈cs,f e<=L)->cSum (fun e=>2^(15-f e)) cs=((kra L (cs.map f) * 2^(15-L):Nat):Int)
 |[],_=>by simp[cSum,kra]
 |e::r,h=>by
  have ih:=kra_cSum hL f r fun x hx=>h x (by simp[hx])
  have:=h e (by simp)
  rw[cSum,ih,List.map_cons,kra,Nat.add_mul,<- Nat.pow_add,show L-f e+(15-L)=15-f e by omega]
  push_cast
  rfl
def costF:List Int->List Int->Int
 |c::cs,x::xs=>c * x+costF cs xs
 |_,_=>0
def krF:List Int->Int
 |[]=>0
 |x::xs=>(if 0<x then 2^(15-x.toNat)else 0)+krF xs
theorem cost_f (T:Int->Int):∀(s:Int) (l t:List Int),l.length=t.length->(∀x∈l,0<=x)->(∀(i:Nat) (h:i<t.length),t[i]=T (s+i))->costF l t=fSum (fun x j=>x * T j) s l
 |_,[],[],_,_,_=>rfl
 |s,x::l,y::t,h,h0,hT=>by
  have ih:=cost_f T (s+1) l t (by simpa using h) (fun z hz=>h0 z (by simp[hz])) fun i hi=>by
   have:=hT (i+1) (by simp;omega)
   simp only[List.getElem_cons_succ]at this
   rw[this];congr 1;omega
  have hy:=hT 0 (by simp)
  simp only[List.getElem_cons_zero]at hy
  rw[costF,fSum,ih,hy]
  have:=h0 x (by simp)
  by_cases c:0<x
  ·rw[if_pos c];simp
  ·rw[if_neg c,show x=0 by omega];simp
 |_,[],_::_,h,_,_=>by simp at h
 |_,_::_,[],h,_,_=>by simp at h
theorem kr_le (T:Int->Int):∀(s:Int) (l t:List Int),l.length=t.length->(∀(i:Nat) (h:i<t.length) (h':i<l.length),0<l[i]->0<t[i])->(∀(i:Nat) (h:i<t.length),t[i]=T (s+i))->fSum (fun _ j=>2^(15-(T j).toNat)) s l<=krF t
 |_,[],[],_,_,_=>Int.le_refl _
 |s,x::l,y::t,h,h0,hT=>by
  have ih:=kr_le T (s+1) l t (by simpa using h) (fun i hi hi' hp=>h0 (i+1) (by simp;omega) (by simp;omega) hp) fun i hi=>by
   have:=hT (i+1) (by simp;omega)
   simp only[List.getElem_cons_succ]at this
   rw[this];congr 1;omega
  have hy:=hT 0 (by simp)
  simp only[List.getElem_cons_zero]at hy
  have hxy:=h0 0 (by simp) (by simp)
  simp only[List.getElem_cons_zero]at hxy
  rw[fSum,krF,hy]
  have e:s+((0:Nat):Int)=s:=by simp
  rw[e]at hy ⊢
  by_cases c:0<x
  ·rw[if_pos c,if_pos (by rw[<- hy];exact hxy c)];omega
  ·rw[if_neg c]
   have hpos:(0:Int)<2^(15-(T s).toNat):=Int.pow_pos (by omega)
   split <;> omega
 |_,[],_::_,h,_,_=>by simp at h
 |_,_::_,[],h,_,_=>by simp at h
theorem kr_eq (T:Int->Int):∀(s:Int) (l t:List Int),l.length=t.length->(∀(i:Nat) (h:i<t.length) (h':i<l.length),0<l[i]↔0<t[i])->(∀(i:Nat) (h:i<t.length),t[i]=T (s+i))->fSum (fun _ j=>2^(15-(T j).toNat)) s l=krF t
 |_,[],[],_,_,_=>rfl
 |s,x::l,y::t,h,h0,hT=>by
  have ih:=kr_eq T (s+1) l t (by simpa using h) (fun i hi hi'=>h0 (i+1) (by simp;omega) (by simp;omega)) fun i hi=>by
   have:=hT (i+1) (by simp;omega)
   simp only[List.getElem_cons_succ]at this
   rw[this];congr 1;omega
  have hy:=hT 0 (by simp)
  simp only[List.getElem_cons_zero]at hy
  have hxy:=h0 0 (by simp) (by simp)
  simp only[List.getElem_cons_zero]at hxy
  rw[fSum,krF,ih]
  have e:s+((0:Nat):Int)=s:=by simp
  rw[e]at hy
  by_cases c:0<x
  ·rw[if_pos c,if_pos (hxy.1 c),hy]
  ·rw[if_neg c,if_neg fun d=>c (hxy.2 d)]
 |_,[],_::_,h,_,_=>by simp at h
 |_,_::_,[],h,_,_=>by simp at h
theorem coins_has:∀ {l:List Int} {s:Int} {i:Nat} (h:i<l.length),0<l[i]->(l[i],[s+i])∈coinsF s l
 |x::l,s,0,h,hp=>by
  simp only[List.getElem_cons_zero]at hp ⊢
  unfold coinsF
  rw[if_pos hp]
  simp
 |x::l,s,i+1,h,hp=>by
  simp only[List.getElem_cons_succ]at hp ⊢
  have ih:=coins_has (l:=l) (s:=s+1) (i:=i) (by simpa using h) hp
  have e:s+((i+1:Nat):Int)=s+1+i:=by push_cast;omega
  rw[e]
  unfold coinsF
  split
  ·exact List.mem_cons_of_mem _ ih
  ·exact ih
theorem best_said {freq:List Int}{L:Nat}{cs:List E}(h1:1<=L)(h15:L<=15)(hf:∀x∈freq,0<=x)(hcs:cs=isort Prod.fst (coinsF 0 freq))(hk:2<=cs.length)(hkL:cs.length<=2^L):
  (∀s,0<=hist cs L s/\hist cs L s<=L)/\(∀(i:Nat) (h:i<freq.length),0<freq[i]↔0<hist cs L i)/\krF ((List.range freq.length).map (hist cs L))=2^15/\
  ∀t:List Int,t.length=freq.length->(∀x∈t,0<=x/\x<=L)->(∀(i:Nat) (h:i<freq.length) (h':i<t.length),0<freq[i]->0<t[i])->krF t<=2^15->costF freq ((List.range freq.length).map (hist cs L))<=costF freq t:=by
 have hu:Up cs:=by rw[hcs];exact up_isort _
 have hperm:cs.Perm (coinsF 0 freq):=by rw[hcs];exact perm_isort _ _
 have hmem:∀e∈cs,0<e.1/\e.2=[one e]/\0<=one e/\one e<freq.length:=fun e he=>by
  have:=coins_mem (hperm.mem_iff.1 he)
  exact⟨this.1,this.2.1,this.2.2.1,by omega⟩
 have hnd:(cs.map one).Nodup:=(hperm.map one).nodup_iff.2 (coins_nodup 0 freq)
 have hsub:∀p,sy (cs.take p)=(cs.map one).take p:=fun p=>by
  rw[sy_ones fun e he=>(hmem e (List.mem_of_mem_take he)).2.1,List.map_take]
 have hen:=rows_enough (cs:=cs) (j:=L-1) (by omega) (by rw[show L-1+1=L by omega];exact hkL)
 obtain⟨ps,p1,p2,p3,p4,p5,p6,_⟩:=prof hu (fun x hx=>(hmem x hx).1) (L-1) (2 * cs.length-2) hen
 have pl:ps.length=L:=by omega
 have hpw:2^L=2 * 2^(L-1):=by
  conv=>lhs;rw[show L=L-1+1 by omega,Nat.pow_succ]
  omega
 have hkr:=krR_K p2 p3
 have hK:K ps=(cs.length-1) * 2^L:=by
  rw[p4,hpw,<- Nat.mul_assoc];congr 1;omega
 have hkr2:krR ps cs.length=2^L:=by
  rw[hK,pl,Nat.sub_mul,Nat.one_mul]at hkr
  have:1 * 2^L<=cs.length * 2^L:=Nat.mul_le_mul_right _ (by omega)
  omega
 -- a coin's length
 have hh:∀s,hist cs L s=(((ps.map fun p=>cnt (sy (cs.take p)) s).sum:Nat):Int):=fun s=>by
  unfold hist
  rw[show(((rows cs (L-1)).take (2 * cs.length-2)).flatMap fun e=>e.2)=sy ((rows cs (L-1)).take (2 * cs.length-2))from rfl,p6]
 have hof:∀r (hr:r<cs.length),hist cs L (one cs[r]).toNat=ouF ps r:=fun r hr=>by
  rw[hh,<- sum_ou]
  congr 2
  apply List.map_congr_left
  intro p _
  have hz:=(hmem cs[r] (List.getElem_mem hr)).2.2.1
  rw[hsub,cnt_nodup hnd (r:=r) (by simpa using hr) (by rw[List.getElem_map];omega)]
 have hle:∀s,0<=hist cs L s/\hist cs L s<=L:=fun s=>by
  rw[hh,<- pl]
  refine⟨by omega,?_⟩
  have hone:∀p∈ps,cnt (sy (cs.take p)) s<=1:=fun p _=>by
   rw[hsub]
   by_cases c:(s:Int)∈cs.map one
   ·obtain⟨r,hr,he⟩:=List.getElem_of_mem c
    rw[cnt_nodup hnd hr he]
    split <;> omega
   ·rw[cnt_mem fun d=>c (List.mem_of_mem_take d)];omega
  have:∀l:List Nat,(∀p∈l,cnt (sy (cs.take p)) s<=1)->(l.map fun p=>cnt (sy (cs.take p)) s).sum<=l.length:=by
   intro l
   induction l with
   |nil=>intro _;simp
   |cons x l ih=>
    intro h
    have a:=ih fun p hp=>h p (by simp[hp])
    have b:=h x (by simp)
    simp only[List.map_cons,List.sum_cons,List.length_cons]
    omega
  have:=this ps hone
  omega
 have hiff:∀(i:Nat) (h:i<freq.length),0<freq[i]↔0<hist cs L i:=fun i hi=>by
  constructor
  ·intro hp
   have hm:=hperm.mem_iff.2 (coins_has (l:=freq) (s:=0) hi hp)
   obtain⟨r,hr,he⟩:=List.getElem_of_mem hm
   have h2:=hof r hr
   rw[he]at h2
   have e:(one (freq[i],[0+(i:Int)])).toNat=i:=by simp[one]
   rw[e]at h2
   rw[h2]
   have h3:=krR_pos (ps:=ps) hr
   rw[hkr2,pl]at h3
   rcases Nat.eq_zero_or_pos (ouF ps r)with c|c
   ·rw[c,Nat.sub_zero]at h3;omega
   ·omega
  ·intro hp
   rcases Int.lt_or_le 0 freq[i]with c|c
   ·exact c
   ·exfalso
    have hno:((i:Nat):Int)∉cs.map one:=fun d=>by
     obtain⟨e,he,h2⟩:=List.mem_map.1 d
     have hz:=hperm.mem_iff.1 he
     have:∀(l:List Int) (s:Int),e∈coinsF s l->∃(k:Nat) (hk:k<l.length),one e=s+k/\0<l[k]:=by
      intro l
      induction l with
      |nil=>intro s h;simp[coinsF]at h
      |cons x l ih=>
       intro s h
       unfold coinsF at h
       have tl:e∈coinsF (s+1) l->∃(k:Nat) (hk:k<(x::l).length),one e=s+k/\0<(x::l)[k]:=fun h=>by
        obtain⟨k,hk,e1,e2⟩:=ih (s+1) h
        exact⟨k+1,by simp;omega,by rw[e1];push_cast;omega,by simpa using e2⟩
       split at h
       ·rename_i hx
        rcases List.mem_cons.1 h with rfl|h
        ·exact⟨0,by simp,by simp[one],by simpa using hx⟩
        ·exact tl h
       ·exact tl h
     obtain⟨k,hk,e1,e2⟩:=this freq 0 hz
     have:k=i:=by omega
     subst this
     omega
    rw[hh]at hp
    have:∀l:List Nat,(l.map fun p=>cnt (sy (cs.take p)) i).sum=0:=by
     intro l
     induction l with
     |nil=>rfl
     |cons x l ih=>
      rw[List.map_cons,List.sum_cons,ih,hsub,cnt_mem fun d=>hno (List.mem_of_mem_take d)]
    rw[this]at hp
    omega
 have hlen:((List.range freq.length).map (hist cs L)).length=freq.length:=by simp
 have hget:∀(i:Nat) (h:i<((List.range freq.length).map (hist cs L)).length),((List.range freq.length).map (hist cs L))[i]=(fun j:Int=>hist cs L j.toNat) (0+(i:Int)):=fun i h=>by simp
 refine⟨hle,hiff,?_,fun t ht h0 hpos hkt=>?_⟩
 ·rw[<- kr_eq (fun j:Int=>hist cs L j.toNat) 0 freq _ hlen.symm (fun i h h'=>by
   rw[hget];simpa using hiff i h') hget,<- cSum_coins (fun _ j=>2^(15-(hist cs L j.toNat).toNat)) 0 freq,<- cSum_perm _ hperm]
  rw[kra_cSum (L:=L) h15 (fun e=>(hist cs L (one e).toNat).toNat) cs fun e he=>by have:=hle (one e).toNat;omega]
  have hm:kra ps.length (cs.map fun e=>(hist cs L (one e).toNat).toNat)=krR ps cs.length:=kra_krR cs.length _ (by simp) fun r hr=>by
   rw[List.getElem_map,hof r (by simpa using hr)];simp
  rw[pl]at hm
  rw[hm,hkr2,<- Nat.pow_add,show L+(15-L)=15 by omega]
  rfl
 ·have c1:costF freq ((List.range freq.length).map (hist cs L))=W (rows cs (L-1)) (2 * cs.length-2):=by
   rw[cost_f (fun j:Int=>hist cs L j.toNat) 0 freq _ hlen.symm hf hget,<- cSum_coins (fun x j=>x * hist cs L j.toNat) 0 freq,<- cSum_perm _ hperm,p5]
   have:∀e∈cs,e.1 * hist cs L (one e).toNat=(ps.map fun p=>e.1 * (cnt (sy (cs.take p)) (one e).toNat:Int)).sum:=fun e _=>by
    rw[hh,sum_cast,List.map_map]
    have:∀l:List Nat,e.1 * (l.map ((fun x:Nat=>(x:Int)) ∘ fun p=>cnt (sy (cs.take p)) (one e).toNat)).sum=(l.map fun p=>e.1 * (cnt (sy (cs.take p)) (one e).toNat:Int)).sum:=by
     intro l
     induction l with
     |nil=>simp
     |cons x l ih=>simp only[List.map_cons,List.sum_cons,Int.mul_add,ih,Function.comp]
    exact this ps
   rw[cSum_congr this,cSum_sum (fun p e=>e.1 * (cnt (sy (cs.take p)) (one e).toNat:Int))]
   congr 1
   apply List.map_congr_left
   intro p _
   have hat:∀r (hr:r<cs.length),cnt (sy (cs.take p)) (one cs[r]).toNat=if r<p then 1 else 0:=fun r hr=>by
    have hz:=(hmem cs[r] (List.getElem_mem hr)).2.2.1
    rw[hsub,cnt_nodup hnd (r:=r) (by simpa using hr) (by rw[List.getElem_map];omega)]
   conv=>lhs;rw[<- List.take_append_drop p cs]
   rw[cSum_app,List.take_append_drop]
   rw[cSum_congr (l:=cs.take p) (g:=fun e=>e.1) fun e he=>by
    obtain⟨r,hr,rfl⟩:=List.getElem_of_mem he
    rw[List.length_take]at hr
    rw[List.getElem_take,hat r (by omega),if_pos (by omega)];simp]
   rw[cSum_congr (l:=cs.drop p) (g:=fun _=>0) fun e he=>by
    obtain⟨r,hr,rfl⟩:=List.getElem_of_mem he
    rw[List.length_drop]at hr
    rw[List.getElem_drop,hat (p+r) (by omega),if_neg (by omega)];simp]
   rw[cSum_zero,cSum_fst,Int.add_zero]
   rfl
  have tget:∀(i:Nat) (h:i<t.length),t[i]=(fun j:Int=>t.getD j.toNat 0) (0+(i:Int)):=fun i h=>by simp[h]
  have tb:∀e∈cs,1<=(t.getD (one e).toNat 0).toNat/\(t.getD (one e).toNat 0).toNat<=L/\0<t.getD (one e).toNat 0:=fun e he=>by
   obtain⟨m1,m2,m3,m4⟩:=hmem e he
   have hi:(one e).toNat<freq.length:=by omega
   obtain⟨r,hr,hre⟩:=List.getElem_of_mem he
   have hp:0<freq[(one e).toNat]:=by
    refine(hiff _ hi).2 ?_
    have h2:=hof r hr
    rw[hre]at h2
    rw[h2]
    have h3:=krR_pos (ps:=ps) hr
    rw[hkr2,pl]at h3
    rcases Nat.eq_zero_or_pos (ouF ps r)with c|c
    ·rw[c,Nat.sub_zero]at h3;omega
    ·omega
   have h1:=hpos _ hi (by omega) hp
   have h2:=h0 _ (List.getElem_mem (show(one e).toNat<t.length by omega))
   have e1:t.getD (one e).toNat 0=t[(one e).toNat]'(by omega):=by rw[List.getD_eq_getElem?_getD,List.getElem?_eq_getElem (by omega)];rfl
   rw[e1]
   omega
  have c2:costF freq t=dot cs ((cs.map fun e=>(t.getD (one e).toNat 0).toNat).map fun x:Nat=>(x:Int)):=by
   rw[cost_f (fun j:Int=>t.getD j.toNat 0) 0 freq t ht.symm hf tget,<- cSum_coins (fun x j=>x * t.getD j.toNat 0) 0 freq,<- cSum_perm _ hperm]
   have:∀l:List E,(∀e∈l,0<t.getD (one e).toNat 0)->cSum (fun e=>e.1 * t.getD (one e).toNat 0) l=dot l ((l.map fun e=>(t.getD (one e).toNat 0).toNat).map fun x:Nat=>(x:Int)):=by
    intro l
    induction l with
    |nil=>intro _;rfl
    |cons x l ih=>
     intro h
     have hx:=h x (by simp)
     rw[cSum,ih fun e he=>h e (by simp[he])]
     simp only[List.map_cons,dot]
     rw[show(((t.getD (one x).toNat 0).toNat:Nat):Int)=t.getD (one x).toNat 0 by omega]
   exact this cs fun e he=>(tb e he).2.2
  rw[c1,c2]
  refine best h1 hu (fun x hx=>(hmem x hx).1) (by simp) (fun x hx=>?_) ?_
  ·obtain⟨e,he,rfl⟩:=List.mem_map.1 hx
   exact⟨(tb e he).1,(tb e he).2.1⟩
  ·have k1:=kra_cSum (L:=L) h15 (fun e=>(t.getD (one e).toNat 0).toNat) cs fun e he=>(tb e he).2.1
   have k2:=kr_le (fun j:Int=>t.getD j.toNat 0) 0 freq t ht.symm (fun i h h' hp=>hpos i h' h hp) tget
   rw[<- cSum_coins (fun _ j=>2^(15-(t.getD j.toNat 0).toNat)) 0 freq,<- cSum_perm _ hperm,k1]at k2
   have k3:kra L (cs.map fun e=>(t.getD (one e).toNat 0).toNat) * 2^(15-L)<=2^15:=by
    have:(((kra L (cs.map fun e=>(t.getD (one e).toNat 0).toNat) * 2^(15-L):Nat)):Int)<=((2^15:Nat):Int):=Int.le_trans k2 (by simpa using hkt)
    exact Int.ofNat_le.1 this
   rw[show(15:Nat)=L+(15-L) by omega,Nat.pow_add]at k3
   rw[show L+(15-L)-L=15-L by omega]at k3
   exact Nat.le_of_mul_le_mul_right k3 (Nat.two_pow_pos _)
end Go.Proofs.YtndojgomlkpeaaaGreatDoor.PM
