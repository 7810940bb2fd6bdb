/- The document's time of a text. No conditions but those that each names. (10 texts made one; each says below what it is.) -/
import Derived.Test.YthomhkpedghhgaaGreatDoorK5
set_option linter.unusedVariables false
set_option linter.unusedSimpArgs false
set_option linter.unusedSectionVars false
namespace Go.Proofs.YthomhkpedghhgaaGreatDoor.D
open Go Go.Proofs Go.RowKit Sh Sl T
theorem cI_ne {l:List UInt8}{i:Nat}(h:i<cI l):∃hi:i<l.length,l[i]≠44:=by
 have hl:=cI_le l
 refine⟨by omega,fun c=>?_⟩
 have:=List.not_of_lt_findIdx (p:=fun x:UInt8=>x==44) (xs:=l++[44]) h
 rw[List.getElem_append_left (by omega),c]at this
 simp at this
theorem cI_at {l:List UInt8}(h:cI l<l.length):l[cI l]=44:=by
 have hlt:(l++[44]).findIdx (fun x:UInt8=>x==44)<(l++[44]).length:=by
  rw[List.length_append]
  show cI l<_
  omega
 have:=List.findIdx_getElem (p:=fun x:UInt8=>x==44) (xs:=l++[44]) (w:=hlt)
 have e:(l++[44])[(l++[44]).findIdx (fun x:UInt8=>x==44)]=l[cI l]:=List.getElem_append_left h
 rw[e]at this
 simpa using this
def x1R (l:List UInt8):Dt:=rdR l 5 8 17 (dgR l 12 4)
def x2R (l:List UInt8)(now:Int):Dt:=rdR l ((cI l:Int)+2) (cI l+5) ((cI l:Int)+12) (cyR (dgR l ((cI l:Int)+9) 2) now)
def x3R (l:List UInt8):Dt:=if 9<l.length/\l.getD 8 0=32 then {rdR l 8 4 11 (dgR l 20 4)with d:=dgR l 9 1}else rdR l 8 4 11 (dgR l 20 4)
def s2R (l:List UInt8)(now:Int):Option Int:=if 0<=dgR l ((cI l:Int)+9) 2 then smR 2 l (x2R l now)else none
def rpR (now:Int)(l:List UInt8):Option Int:=match smR 1 l (x1R l)with
 |some n=>some n
 |none=>match s2R l now with
  |some n=>some n
  |none=>smR 3 l (x3R l)
theorem rparse {W:World}{l:List UInt8}{now:Int}(hl:l.length<=4611686018427300000):Cn p_ 95 [txt l,.int .i64 now] W [] (fun _:Unit=> .tuple #[.int .i64 ((rpR now l).getD 0),.int .i64 (oE (rpR now l))]) (fun _=>[]):=by
 have hc:=cI_le l
 (refine S.ref09_Parse_s.cn fun F=>?_;unfold S.ref09_Parse;simp only[ca_,na_])
 refine c_ (rdigits (l:=l) (a:=12) 4 (by rfl) (by omega) (by omega)) fun _=>?_
 refine c_ (rread (l:=l) (day:=5) (at_:=17) (year:=dgR l 12 4) 8 (by rfl) (by omega) (by omega) (by omega)) fun _=>?_
 rw[show rdR l 5 8 17 (dgR l 12 4)=x1R l from rfl]
 refine c_ (rsame (l:=l) (x:=x1R l) (f:=1) (.inl rfl)) fun _=>?_
 refine xt_ ?_;refine xt_ ?_
 cases hs1:smR 1 l (x1R l)with
 |some n=>
  have hr:rpR now l=some n:=by unfold rpR;rw[hs1]
  rw[hr]
  refine o_ v_eql ?_
  rw[show decide (oE (some n)=0)=true from rfl]
  refine e_condT (rt_ () ?_)
  exact im_
 |none=>
 refine o_ v_eql ?_
 rw[show decide (oE (none:Option Int)=0)=false from rfl]
 refine e_condF (e_loop1 (fun m y8=>(ex fun i:Nat=>pu (m+i=cI l/\y8= .int .i64 (i:Int)))::F) (cI l) ?_ ?_)
 ·refine .ex 0 (.pu ⟨by omega,rfl⟩ ?_)
  exact im_
 intro m ds y8
 refine nr_ ?_
 refine e_ex Pick.here fun i=>e_pu Pick.here fun hi=>?_
 obtain⟨hmi,rfl⟩:=hi
 refine o_ v_lent ?_
 by_cases hic:i<cI l
 ·obtain⟨hil,hne⟩:=cI_ne hic
  refine o_ v_lss ?_
  rw[dT_ (by omega)]
  refine e_gdT (e_gdT (e_gdT (o_ (v_ixS i (by rfl) hil) ?_)))
  refine e_gdT ?_
  unfold Sl.B
  refine o_ v_neq ?_
  have hne2:((l[i].toNat:Nat):Int)≠44:=fun c=>hne (UInt8.toNat_inj.1 (Int.ofNat.inj c))
  rw[dT_ hne2]
  refine o_ v_pickT (e_condT (ad_ ?_))
  refine e_next1 (m-1) (by omega) (.ex (i+1) (.pu ⟨by omega,rfl⟩ ?_))
  exact im_
 have hie:i=cI l:=by omega
 subst hie
 by_cases hlt:cI l<l.length
 ·have hat:=cI_at hlt
  refine o_ v_lss ?_
  rw[dT_ (by omega)]
  refine e_gdT (e_gdT (e_gdT (o_ (v_ixS (cI l) (by rfl) hlt) ?_)))
  refine e_gdT ?_
  unfold Sl.B
  refine o_ v_neq ?_
  rw[dF_ (p:=((l[cI l].toNat:Nat):Int)≠44) (fun c=>c (by rw[hat];rfl))]
  refine o_ v_pickT (e_condF (ad_ ?_))
  refine c_ (rdigits (l:=l) (a:=(cI l:Int)+9) 2 (by rfl) (by omega) (by omega)) fun _=>?_
  refine e_cut0 (pu (s2R l now=none)::F) ?_ ?_
  rotate_left
  ·refine e_ask v_geq .nil (fun hg=>?_) (fun hg=>?_)
   ·have hs2:s2R l now=smR 2 l (x2R l now):=if_pos hg
    refine e_condT (ad_ ?_);refine ad_ ?_;refine ad_ ?_
    refine c_ (rcentury (two:=dgR l ((cI l:Int)+9) 2) (now:=now)) fun _=>?_
    refine c_ (rread (l:=l) (day:=(cI l:Int)+2) (at_:=(cI l:Int)+12) (year:=cyR (dgR l ((cI l:Int)+9) 2) now) (cI l+5) (by omega) (by omega) (by omega) (by omega)) fun _=>?_
    rw[show rdR l ((cI l:Int)+2) (cI l+5) ((cI l:Int)+12) (cyR (dgR l ((cI l:Int)+9) 2) now)=x2R l now from rfl]
    refine c_ (rsame (l:=l) (x:=x2R l now) (f:=2) (.inr (.inl rfl))) fun _=>?_
    refine xt_ ?_;refine xt_ ?_
    cases hs:smR 2 l (x2R l now)with
    |some n=>
     have hr:rpR now l=some n:=by unfold rpR;rw[hs1,hs2,hs]
     rw[hr]
     refine o_ v_eql ?_
     rw[show decide (oE (some n)=0)=true from rfl]
     refine e_condT (rt_ () ?_)
     exact im_
    |none=>
     refine o_ v_eql ?_
     rw[show decide (oE (none:Option Int)=0)=false from rfl]
     refine e_condF (e_sat (.pu (by rw[hs2,hs]) ?_))
     exact im_
   ·(refine e_condF ?_)
    refine e_sat (.pu (if_neg hg) ?_)
    exact im_
  intro ds2
  refine nr_ ?_
  refine e_pu .here fun hs2=>?_
  have hr:rpR now l=smR 3 l (x3R l):=by unfold rpR;rw[hs1,hs2]
  rw[hr]
  refine c_ (rdigits (l:=l) (a:=20) 4 (by rfl) (by omega) (by omega)) fun _=>?_
  refine c_ (rread (l:=l) (day:=8) (at_:=11) (year:=dgR l 20 4) 4 (by rfl) (by omega) (by omega) (by omega)) fun _=>?_
  have hx3:x3R l=if 9<l.length/\l.getD 8 0=32 then {rdR l 8 4 11 (dgR l 20 4)with d:=dgR l 9 1}else rdR l 8 4 11 (dgR l 20 4):=rfl
  generalize rdR l 8 4 11 (dgR l 20 4)=y3 at hx3 ⊢
  rw[show(Value.agg (dtA y3))= .agg #[.int .i64 y3.y,.int .i64 y3.m,.int .i64 y3.d,.int .i64 y3.h,.int .i64 y3.mi,.int .i64 y3.s,.int .i64 y3.w]from rfl]
  refine e_newA fun g=>?_;refine sg_ ?_
  rename Nat=>b10
  refine e_cut0 (pt b10 (.cells (dtA (x3R l)) 175)::F) ?_ ?_
  rotate_left
  ·refine o_ v_lent (e_ask v_gtr .nil (fun h9=>?_) (fun h9=>?_))
   ·have h8:8<l.length:=by omega
    have hg8:l.getD 8 0=l[8]:=by simp[List.getD_eq_getElem?_getD,h8]
    refine e_gdT (e_gdT (o_ (v_ixS 8 (by rfl) h8) ?_))
    unfold Sl.B
    refine e_gdT (e_ask v_eql .nil (fun h5=>?_) (fun h5=>?_))
    ·have hc8:l[8]=32:=UInt8.toNat_inj.1 (Int.ofNat.inj h5)
     rw[show x3R l={y3 with d:=dgR l 9 1} by rw[hx3];exact if_pos ⟨by omega,by rw[hg8,hc8]⟩]
     refine o_ v_pickT (e_condT (c_ (rdigits (l:=l) (a:=9) 1 (by rfl) (by omega) (by omega)) fun _=>?_))
     refine o_ v_fa0 (sn_ ?_)
     refine e_sat ?_
     unfold dtA
     exact im_
    ·rw[show x3R l=y3 by rw[hx3];exact if_neg fun c=>h5 (by rw[hg8]at c;rw[c.2];rfl)]
     refine o_ v_pickT (e_condF (e_sat ?_))
     unfold dtA
     exact im_
   ·rw[show x3R l=y3 by rw[hx3];exact if_neg fun c=>h9 (by omega)]
    refine e_gdF2 (e_gdF2 (e_gdF2 (o_ v_pickF (e_condF (e_sat ?_)))))
    unfold dtA
    exact im_
  intro ds3
  refine nr_ ?_
  rw[show dtA (x3R l)= #[.int .i64 (x3R l).y,.int .i64 (x3R l).m,.int .i64 (x3R l).d,.int .i64 (x3R l).h,.int .i64 (x3R l).mi,.int .i64 (x3R l).s,.int .i64 (x3R l).w]from rfl]
  refine lg_ ?_
  refine c_ (rsame (l:=l) (x:=x3R l) (f:=3) (.inr (.inr rfl))) fun _=>?_
  refine xt_ ?_;refine xt_ ?_
  refine rt_ () ?_
  exact im_
 ·refine o_ v_lss ?_
  rw[dF_ (by omega)]
  refine e_gdF2 (e_gdF2 (e_gdF2 (e_gdF2 (o_ v_pickF (e_condF (ad_ ?_))))))
  refine c_ (rdigits (l:=l) (a:=(cI l:Int)+9) 2 (by rfl) (by omega) (by omega)) fun _=>?_
  refine e_cut0 (pu (s2R l now=none)::F) ?_ ?_
  rotate_left
  ·refine e_ask v_geq .nil (fun hg=>?_) (fun hg=>?_)
   ·have hs2:s2R l now=smR 2 l (x2R l now):=if_pos hg
    refine e_condT (ad_ ?_);refine ad_ ?_;refine ad_ ?_
    refine c_ (rcentury (two:=dgR l ((cI l:Int)+9) 2) (now:=now)) fun _=>?_
    refine c_ (rread (l:=l) (day:=(cI l:Int)+2) (at_:=(cI l:Int)+12) (year:=cyR (dgR l ((cI l:Int)+9) 2) now) (cI l+5) (by omega) (by omega) (by omega) (by omega)) fun _=>?_
    rw[show rdR l ((cI l:Int)+2) (cI l+5) ((cI l:Int)+12) (cyR (dgR l ((cI l:Int)+9) 2) now)=x2R l now from rfl]
    refine c_ (rsame (l:=l) (x:=x2R l now) (f:=2) (.inr (.inl rfl))) fun _=>?_
    refine xt_ ?_;refine xt_ ?_
    cases hs:smR 2 l (x2R l now)with
    |some n=>
     have hr:rpR now l=some n:=by unfold rpR;rw[hs1,hs2,hs]
     rw[hr]
     refine o_ v_eql ?_
     rw[show decide (oE (some n)=0)=true from rfl]
     refine e_condT (rt_ () ?_)
     exact im_
    |none=>
     refine o_ v_eql ?_
     rw[show decide (oE (none:Option Int)=0)=false from rfl]
     refine e_condF (e_sat (.pu (by rw[hs2,hs]) ?_))
     exact im_
   ·(refine e_condF ?_)
    refine e_sat (.pu (if_neg hg) ?_)
    exact im_
  intro ds2
  refine nr_ ?_
  refine e_pu .here fun hs2=>?_
  have hr:rpR now l=smR 3 l (x3R l):=by unfold rpR;rw[hs1,hs2]
  rw[hr]
  refine c_ (rdigits (l:=l) (a:=20) 4 (by rfl) (by omega) (by omega)) fun _=>?_
  refine c_ (rread (l:=l) (day:=8) (at_:=11) (year:=dgR l 20 4) 4 (by rfl) (by omega) (by omega) (by omega)) fun _=>?_
  have hx3:x3R l=if 9<l.length/\l.getD 8 0=32 then {rdR l 8 4 11 (dgR l 20 4)with d:=dgR l 9 1}else rdR l 8 4 11 (dgR l 20 4):=rfl
  generalize rdR l 8 4 11 (dgR l 20 4)=y3 at hx3 ⊢
  rw[show(Value.agg (dtA y3))= .agg #[.int .i64 y3.y,.int .i64 y3.m,.int .i64 y3.d,.int .i64 y3.h,.int .i64 y3.mi,.int .i64 y3.s,.int .i64 y3.w]from rfl]
  refine e_newA fun g=>?_;refine sg_ ?_
  rename Nat=>b10
  refine e_cut0 (pt b10 (.cells (dtA (x3R l)) 175)::F) ?_ ?_
  rotate_left
  ·refine o_ v_lent (e_ask v_gtr .nil (fun h9=>?_) (fun h9=>?_))
   ·have h8:8<l.length:=by omega
    have hg8:l.getD 8 0=l[8]:=by simp[List.getD_eq_getElem?_getD,h8]
    refine e_gdT (e_gdT (o_ (v_ixS 8 (by rfl) h8) ?_))
    unfold Sl.B
    refine e_gdT (e_ask v_eql .nil (fun h5=>?_) (fun h5=>?_))
    ·have hc8:l[8]=32:=UInt8.toNat_inj.1 (Int.ofNat.inj h5)
     rw[show x3R l={y3 with d:=dgR l 9 1} by rw[hx3];exact if_pos ⟨by omega,by rw[hg8,hc8]⟩]
     refine o_ v_pickT (e_condT (c_ (rdigits (l:=l) (a:=9) 1 (by rfl) (by omega) (by omega)) fun _=>?_))
     refine o_ v_fa0 (sn_ ?_)
     refine e_sat ?_
     unfold dtA
     exact im_
    ·rw[show x3R l=y3 by rw[hx3];exact if_neg fun c=>h5 (by rw[hg8]at c;rw[c.2];rfl)]
     refine o_ v_pickT (e_condF (e_sat ?_))
     unfold dtA
     exact im_
   ·rw[show x3R l=y3 by rw[hx3];exact if_neg fun c=>h9 (by omega)]
    refine e_gdF2 (e_gdF2 (e_gdF2 (o_ v_pickF (e_condF (e_sat ?_)))))
    unfold dtA
    exact im_
  intro ds3
  refine nr_ ?_
  rw[show dtA (x3R l)= #[.int .i64 (x3R l).y,.int .i64 (x3R l).m,.int .i64 (x3R l).d,.int .i64 (x3R l).h,.int .i64 (x3R l).mi,.int .i64 (x3R l).s,.int .i64 (x3R l).w]from rfl]
  refine lg_ ?_
  refine c_ (rsame (l:=l) (x:=x3R l) (f:=3) (.inr (.inr rfl))) fun _=>?_
  refine xt_ ?_;refine xt_ ?_
  refine rt_ () ?_
  exact im_
theorem back_x {x:Dt}(h:okF x):spD (jN x)=⟨x.y,x.m,x.d,x.h,x.mi,x.s,(jN x / 86400+4)%7⟩:=by
 have ok:=jN_ok h
 have hr:=(rOk_iff x).1 h
 have hj:jN x=dayN x.y x.m x.d * 86400+x.h * 3600+x.mi * 60+x.s:=if_pos h
 unfold rOk at hr
 obtain⟨h1,h2,h3,h4,h5,h6⟩:=hr
 have hml:=ml_b x.y x.m
 have hb:=dayN_b (y:=x.y) (m:=x.m) (d:=x.d) h1 h2 (by omega)
 have hN:jN x / 86400=dayN x.y x.m x.d:=by rw[hj];omega
 have hd:=day1 x.y x.m x.d
 obtain⟨e1,e2⟩:=uniq (n:=dayN x.y x.m x.d) (y:=x.y) (m:=x.m) hb.1 h2 (by omega) (by omega)
 obtain⟨_,_,e3,_,_⟩:=day_in hb.1
 rw[e1,e2]at e3
 have e4:cD (dayN x.y x.m x.d)=x.d:=by omega
 rw[sp_eq ok,hN,e1,e2,e4]
 rw[show jN x%86400 / 3600=x.h by rw[hj];omega,show jN x%3600 / 60=x.mi by rw[hj];omega,show jN x%60=x.s by rw[hj];omega]
theorem try_some {k now n:Int}{l:List UInt8}{rd:List UInt8->Option Dt}(h:tryR k now l rd=some n):okT n/\fm k (spD n)=l/\∃x,rd l=some x/\okF x/\n=jN x:=by
 unfold tryR at h
 cases hr:rd l with
 |none=>rw[hr]at h;cases h
 |some x=>
  rw[hr]at h
  simp only at h
  split at h
  ·rename_i hc
   have:=Option.some.inj h
   subst this
   exact⟨jN_ok hc.1,hc.2,x,rfl,hc.1,rfl⟩
  ·cases h
theorem second_y {now:Int}{l:List UInt8}{x:Dt}(h:secondR now l=some x):∃two:Nat,two<100/\x.y=secY now two:=by
 unfold secondR at h
 simp only[Option.bind_eq_some_iff]at h
 obtain⟨a,_,b,_,c,_,d,_,e,_,f,hf,g,_,i,_,hx⟩:=h
 have:=Option.some.inj hx
 subst this
 exact⟨f.1,num_lt hf,rfl⟩
theorem secY_self {now:Int}{two:Nat}(h:two<100)(hy:0<=secY now two):secY now (secY now two%100).toNat=secY now two:=by
 have ht:=yN_b now
 have htop:0<=topY now/\topY now<=9999:=by unfold topY;split <;> omega
 have e:secY now two%100=(two:Int):=by
  unfold secY
  generalize topY now=t at htop ⊢
  omega
 rw[e,Int.toNat_natCast]
theorem try1_some {now n:Int}{l:List UInt8}(h:tryR 1 now l (secondR now)=some n):okT n/\fm 1 (spD n)=l/\secY now ((spD n).y%100).toNat=(spD n).y:=by
 obtain⟨h1,h2,x,h3,h4,rfl⟩:=try_some h
 refine⟨h1,h2,?_⟩
 obtain⟨two,ht,hy⟩:=second_y h3
 have hsy:(spD (jN x)).y=x.y:=by rw[back_x h4]
 have h0:=(ok_sp h1).y
 rw[hsy]at h0 ⊢
 rw[hy]at h0 ⊢
 exact secY_self ht h0.1
def PT (now:Int)(l:List UInt8)(n:Int):Prop:=okT n/\(fm 0 (spD n)=l\/(fm 1 (spD n)=l/\secY now ((spD n).y%100).toNat=(spD n).y)\/fm 2 (spD n)=l)
theorem pt_par {now n:Int}{l:List UInt8}(h:PT now l n):paR now l=some n:=by
 obtain⟨ok,h|⟨h,hs⟩|h⟩:=h
 ·rw[<- h];exact par_first ok
 ·rw[<- h];exact par_second ok hs
 ·rw[<- h];exact par_third ok
theorem par_pt {now n:Int}{l:List UInt8}(h:paR now l=some n):PT now l n:=by
 unfold paR paF at h
 cases h0:tryR ((0:Nat):Int) now l (rdK now 0)with
 |some m=>
  rw[h0]at h
  have:=Option.some.inj h
  subst this
  obtain⟨a,b,_⟩:=try_some h0
  exact⟨a,.inl b⟩
 |none=>
  rw[h0]at h
  simp only at h
  unfold paF at h
  cases h1:tryR ((0+1:Nat):Int) now l (rdK now (0+1))with
  |some m=>
   rw[h1]at h
   have:=Option.some.inj h
   subst this
   obtain⟨a,b,c⟩:=try1_some (show tryR 1 now l (secondR now)=some m from h1)
   exact⟨a,.inr (.inl ⟨b,c⟩)⟩
  |none=>
   rw[h1]at h
   simp only at h
   unfold paF at h
   cases h2:tryR ((0+1+1:Nat):Int) now l (rdK now (0+1+1))with
   |some m=>
    rw[h2]at h
    have:=Option.some.inj h
    subst this
    obtain⟨a,b,_⟩:=try_some h2
    exact⟨a,.inr (.inr b)⟩
   |none=>
    rw[h2]at h
    simp only at h
    unfold paF at h
    cases h
theorem sm_some {f n:Int}{l:List UInt8}{x:Dt}(h:smR f l x=some n):okF x/\n=jN x/\okT n/\fm (f-1) (spD n)=l:=by
 unfold smR at h
 split at h
 ·rename_i hc
  have:=Option.some.inj h
  subst this
  exact⟨hc.1,rfl,jN_ok hc.1,hc.2⟩
 ·cases h
theorem ceN_spec {two:Int}:∀(m:Nat) (t y:Int),ceN two t m=y->0<=y->y<=t/\t-y<100/\y%100=two
 |0,t,y,h,h0=>by
  have:(-1:Int)=y:=h
  omega
 |m+1,t,y,h,h0=>by
  unfold ceN at h
  by_cases c:t%100=two
  ·rw[if_pos c]at h;subst h;omega
  ·rw[if_neg c]at h
   have:=ceN_spec m (t-1) y h h0
   omega
theorem cy_year {now two y:Int}(h:cyR two now=y)(hy:1970<=y):secY now (y%100).toNat=y:=by
 obtain⟨a,b,c⟩:=ceN_spec _ _ _ (show ceN two (topY now) (topY now-1969).toNat=y from h) (by omega)
 unfold secY
 rw[Int.toNat_of_nonneg (by omega)]
 generalize topY now=t at a b ⊢
 omega
theorem rp_pt {now n:Int}{l:List UInt8}(h:rpR now l=some n):PT now l n:=by
 unfold rpR at h
 cases h1:smR 1 l (x1R l)with
 |some m=>
  rw[h1]at h
  have:=Option.some.inj h
  subst this
  obtain⟨_,_,a,b⟩:=sm_some h1
  exact⟨a,.inl b⟩
 |none=>
  rw[h1]at h
  simp only at h
  cases h2:s2R l now with
  |some m=>
   rw[h2]at h
   have:=Option.some.inj h
   subst this
   unfold s2R at h2
   split at h2
   ·obtain⟨c,d,a,b⟩:=sm_some h2
    have hy:cyR (dgR l ((cI l:Int)+9) 2) now=(x2R l now).y:=rfl
    have hsy:(spD m).y=(x2R l now).y:=by rw[d,back_x c]
    have h70:1970<=(x2R l now).y:=by unfold okF at c;exact c.1.1
    exact⟨a,.inr (.inl ⟨b,by rw[hsy];exact cy_year hy h70⟩)⟩
   ·cases h2
  |none=>
   rw[h2]at h
   simp only at h
   obtain⟨_,_,a,b⟩:=sm_some h
   exact⟨a,.inr (.inr b)⟩
theorem n20:∀n:Fin 100,numF 0 (dg n.1 2 48)=some n.1:=by decide
theorem n40 {n:Nat}(h:n<10000):numF 0 (dg n 4 48)=some n:=by
 rw[dg4]
 have b:∀q:Nat,(UInt8.ofNat (48+q%10)).toNat=48+q%10:=fun q=>u8_of _ (by omega)
 rw[numF_c,b,if_neg (by omega),numF_c,b,if_neg (by omega),numF_c,b,if_neg (by omega),numF_c,b,if_neg (by omega)]
 unfold numF
 congr 1
 omega
theorem at_dg {l a b:List UInt8}{n k:Nat}{p:Int}(e:l=a++(dg n k 48++b))(hp:p=(a.length:Int))(h:numF 0 (dg n k 48)=some n):dgR l p k=(n:Int):=by
 subst hp;subst e
 unfold dgR
 rw[if_neg (by simp only[List.length_append,dg_len];omega),Int.toNat_natCast,List.drop_left' rfl,List.take_left' (dg_len _ _ _),h]
theorem at_mo {l a b:List UInt8}{x:Dt}{p:Nat}(e:l=a++(moN x++b))(hp:p=a.length)(hm:1<=x.m/\x.m<=12):moR l p=x.m:=by
 subst hp;subst e
 unfold moR
 have hv:=mv ⟨(x.m-1).toNat,by omega⟩
 have e2:monV (moN x)=some x.m:=by
  unfold moN
  rw[hv]
  congr 1
  simp only
  omega
 rw[if_pos (by simp only[List.length_append,mo_len hm];omega),List.drop_left' rfl,List.take_left' (mo_len hm),e2]
theorem sm_app {k n:Int}(h:okT n):smR (k+1) (fm k (spD n)) (noW (spD n))=some n:=by
 obtain⟨h1,h2⟩:=sp_back h
 unfold smR
 rw[(noW_f _).2,h2,show k+1-1=k by omega,if_pos ⟨(noW_f _).1.2 h1,rfl⟩]
theorem x1_app {x:Dt}(h:okX x):x1R (fm 0 x)=noW x:=by
 have ok:=h
 obtain⟨o1,o2,o3,o4,o5,o6,o7⟩:=h
 obtain⟨w3,_,_⟩:=wd_len o7
 have hm:=mo_len o2
 have e:fm 0 x=(wdN x).take 3++[44,32]++dg x.d.toNat 2 48++[32]++moN x++[32]++dg x.y.toNat 4 48++[32]++(dg x.h.toNat 2 48++[58]++dg x.mi.toNat 2 48++[58]++dg x.s.toNat 2 48)++[32,71,77,84]:=if_pos rfl
 have l3:((wdN x).take 3).length=3:=w3
 have a1:dgR (fm 0 x) 5 2=(x.d.toNat:Int):=at_dg (a:=(wdN x).take 3++[44,32]) (by rw[e];simp only[List.append_assoc];rfl) (by simp only[List.length_append,l3,List.length_cons,List.length_nil];rfl) (n20 ⟨x.d.toNat,by omega⟩)
 have a2:moR (fm 0 x) 8=x.m:=at_mo (a:=(wdN x).take 3++[44,32]++dg x.d.toNat 2 48++[32]) (by rw[e];simp only[List.append_assoc];rfl) (by simp only[List.length_append,l3,dg_len,List.length_cons,List.length_nil]) o2
 have a3:dgR (fm 0 x) 12 4=(x.y.toNat:Int):=at_dg (a:=(wdN x).take 3++[44,32]++dg x.d.toNat 2 48++[32]++moN x++[32]) (by rw[e];simp only[List.append_assoc];rfl) (by simp only[List.length_append,l3,hm,dg_len,List.length_cons,List.length_nil];rfl) (n40 (by omega))
 have a4:dgR (fm 0 x) 17 2=(x.h.toNat:Int):=at_dg (a:=(wdN x).take 3++[44,32]++dg x.d.toNat 2 48++[32]++moN x++[32]++dg x.y.toNat 4 48++[32]) (by rw[e];simp only[List.append_assoc];rfl) (by simp only[List.length_append,l3,hm,dg_len,List.length_cons,List.length_nil];rfl) (n20 ⟨x.h.toNat,by omega⟩)
 have a5:dgR (fm 0 x) (17+3) 2=(x.mi.toNat:Int):=at_dg (a:=(wdN x).take 3++[44,32]++dg x.d.toNat 2 48++[32]++moN x++[32]++dg x.y.toNat 4 48++[32]++(dg x.h.toNat 2 48++[58])) (by rw[e];simp only[List.append_assoc];rfl) (by simp only[List.length_append,l3,hm,dg_len,List.length_cons,List.length_nil];rfl) (n20 ⟨x.mi.toNat,by omega⟩)
 have a6:dgR (fm 0 x) (17+6) 2=(x.s.toNat:Int):=at_dg (a:=(wdN x).take 3++[44,32]++dg x.d.toNat 2 48++[32]++moN x++[32]++dg x.y.toNat 4 48++[32]++(dg x.h.toNat 2 48++[58]++dg x.mi.toNat 2 48++[58])) (by rw[e];simp only[List.append_assoc];rfl) (by simp only[List.length_append,l3,hm,dg_len,List.length_cons,List.length_nil];rfl) (n20 ⟨x.s.toNat,by omega⟩)
 unfold x1R rdR
 rw[a1,a2,a3,a4,a5,a6]
 exact noW_eq ok
theorem cI_fm1 {x:Dt}(h:okX x):cI (fm 1 x)=(wdN x).length:=by
 have e:fm 1 x=wdN x++44::(32::(dg x.d.toNat 2 48++([45]++(moN x++([45]++(dg (x.y%100).toNat 2 48++([32]++(clk x++[32,71,77,84])))))))):=by
  unfold fm
  rw[if_neg (by decide),if_pos rfl]
  simp only[List.append_assoc,ca_,na_]
 unfold cI
 rw[e,List.append_assoc,List.cons_append]
 exact fi_app (wdN x) _ (wd_no h.w)
theorem ce_find {two:Int}:∀(m:Nat) (t y:Int),y<=t->t-y<100->y%100=two->t-y<m->ceN two t m=y
 |0,t,y,h1,h2,h3,h4=>by omega
 |m+1,t,y,h1,h2,h3,h4=>by
  unfold ceN
  by_cases c:t%100=two
  ·rw[if_pos c];omega
  ·rw[if_neg c]
   have:y≠t:=fun e=>c (by rw[<- e];exact h3)
   exact ce_find m (t-1) y (by omega) (by omega) h3 (by omega)
theorem cy_find {now y:Int}(hy:1970<=y)(hs:secY now (y%100).toNat=y):cyR ((y%100).toNat:Int) now=y:=by
 have hb:y<=topY now/\topY now-y<100:=by
  unfold secY at hs
  rw[Int.toNat_of_nonneg (by omega)]at hs
  generalize topY now=t at hs ⊢
  omega
 unfold cyR
 exact ce_find _ _ _ hb.1 hb.2 (by omega) (by omega)
theorem x2_app {x:Dt}{now:Int}(h:okX x)(hy:1970<=x.y)(hs:secY now (x.y%100).toNat=x.y):x2R (fm 1 x) now=noW x/\0<=dgR (fm 1 x) ((cI (fm 1 x):Int)+9) 2:=by
 have ok:=h
 have hc:=cI_fm1 h
 obtain⟨o1,o2,o3,o4,o5,o6,o7⟩:=h
 have hm:=mo_len o2
 have l3:(wdN x).length=(wdN x).length:=rfl
 have e:fm 1 x=wdN x++[44,32]++dg x.d.toNat 2 48++[45]++moN x++[45]++dg (x.y%100).toNat 2 48++[32]++(dg x.h.toNat 2 48++[58]++dg x.mi.toNat 2 48++[58]++dg x.s.toNat 2 48)++[32,71,77,84]:=by
  unfold fm
  rw[if_neg (by decide),if_pos rfl]
  rfl
 have a1:dgR (fm 1 x) (((wdN x).length:Int)+2) 2=(x.d.toNat:Int):=at_dg (a:=wdN x++[44,32]) (by rw[e];simp only[List.append_assoc] <;> rfl) (by simp only[List.length_append,hm,dg_len,List.length_cons,List.length_nil] <;> omega) (n20 ⟨x.d.toNat,by omega⟩)
 have a2:moR (fm 1 x) ((wdN x).length+5)=x.m:=at_mo (a:=wdN x++[44,32]++dg x.d.toNat 2 48++[45]) (by rw[e];simp only[List.append_assoc] <;> rfl) (by simp only[List.length_append,hm,dg_len,List.length_cons,List.length_nil] <;> omega) o2
 have a3:dgR (fm 1 x) (((wdN x).length:Int)+9) 2=((x.y%100).toNat:Int):=at_dg (a:=wdN x++[44,32]++dg x.d.toNat 2 48++[45]++moN x++[45]) (by rw[e];simp only[List.append_assoc] <;> rfl) (by simp only[List.length_append,hm,dg_len,List.length_cons,List.length_nil] <;> omega) (n20 ⟨(x.y%100).toNat,by omega⟩)
 have a4:dgR (fm 1 x) (((wdN x).length:Int)+12) 2=(x.h.toNat:Int):=at_dg (a:=wdN x++[44,32]++dg x.d.toNat 2 48++[45]++moN x++[45]++dg (x.y%100).toNat 2 48++[32]) (by rw[e];simp only[List.append_assoc] <;> rfl) (by simp only[List.length_append,hm,dg_len,List.length_cons,List.length_nil] <;> omega) (n20 ⟨x.h.toNat,by omega⟩)
 have a5:dgR (fm 1 x) (((wdN x).length:Int)+12+3) 2=(x.mi.toNat:Int):=at_dg (a:=wdN x++[44,32]++dg x.d.toNat 2 48++[45]++moN x++[45]++dg (x.y%100).toNat 2 48++[32]++(dg x.h.toNat 2 48++[58])) (by rw[e];simp only[List.append_assoc] <;> rfl) (by simp only[List.length_append,hm,dg_len,List.length_cons,List.length_nil] <;> omega) (n20 ⟨x.mi.toNat,by omega⟩)
 have a6:dgR (fm 1 x) (((wdN x).length:Int)+12+6) 2=(x.s.toNat:Int):=at_dg (a:=wdN x++[44,32]++dg x.d.toNat 2 48++[45]++moN x++[45]++dg (x.y%100).toNat 2 48++[32]++(dg x.h.toNat 2 48++[58]++dg x.mi.toNat 2 48++[58])) (by rw[e];simp only[List.append_assoc] <;> rfl) (by simp only[List.length_append,hm,dg_len,List.length_cons,List.length_nil] <;> omega) (n20 ⟨x.s.toNat,by omega⟩)
 unfold x2R rdR
 rw[hc,a1,a2,a3,a4,a5,a6,cy_find hy hs]
 refine⟨?_,by omega⟩
 unfold noW
 rw[Int.toNat_of_nonneg (by omega:0<=x.d),Int.toNat_of_nonneg o4.1,Int.toNat_of_nonneg o5.1,Int.toNat_of_nonneg o6.1]
theorem n2s:∀n:Fin 100,(if n.1<10 then(dg n.1 2 32).getD 0 0=32/\(dg n.1 2 32).drop 1=dg n.1 1 48/\numF 0 (dg n.1 1 48)=some n.1 else(dg n.1 2 32).getD 0 0≠32/\dg n.1 2 32=dg n.1 2 48):=by decide
theorem x3_app {x:Dt}(h:okX x):x3R (fm 2 x)=noW x:=by
 have ok:=h
 obtain⟨o1,o2,o3,o4,o5,o6,o7⟩:=h
 obtain⟨l3,_,_⟩:=wd_len o7
 have hm:=mo_len o2
 have hlen:=fm2_len ok
 have e:fm 2 x=(wdN x).take 3++[32]++moN x++[32]++dg x.d.toNat 2 32++[32]++(dg x.h.toNat 2 48++[58]++dg x.mi.toNat 2 48++[58]++dg x.s.toNat 2 48)++[32]++(dg x.y.toNat 4 48++[]):=by
  unfold fm
  rw[if_neg (by decide),if_neg (by decide),List.append_nil]
  rfl
 have a2:moR (fm 2 x) 4=x.m:=at_mo (a:=(wdN x).take 3++[32]) (by rw[e];simp only[List.append_assoc] <;> rfl) (by simp only[List.length_append,l3,hm,dg_len,List.length_cons,List.length_nil] <;> rfl) o2
 have a4:dgR (fm 2 x) 11 2=(x.h.toNat:Int):=at_dg (a:=(wdN x).take 3++[32]++moN x++[32]++dg x.d.toNat 2 32++[32]) (by rw[e];simp only[List.append_assoc] <;> rfl) (by simp only[List.length_append,l3,hm,dg_len,List.length_cons,List.length_nil] <;> rfl) (n20 ⟨x.h.toNat,by omega⟩)
 have a5:dgR (fm 2 x) (11+3) 2=(x.mi.toNat:Int):=at_dg (a:=(wdN x).take 3++[32]++moN x++[32]++dg x.d.toNat 2 32++[32]++(dg x.h.toNat 2 48++[58])) (by rw[e];simp only[List.append_assoc] <;> rfl) (by simp only[List.length_append,l3,hm,dg_len,List.length_cons,List.length_nil] <;> rfl) (n20 ⟨x.mi.toNat,by omega⟩)
 have a6:dgR (fm 2 x) (11+6) 2=(x.s.toNat:Int):=at_dg (a:=(wdN x).take 3++[32]++moN x++[32]++dg x.d.toNat 2 32++[32]++(dg x.h.toNat 2 48++[58]++dg x.mi.toNat 2 48++[58])) (by rw[e];simp only[List.append_assoc] <;> rfl) (by simp only[List.length_append,l3,hm,dg_len,List.length_cons,List.length_nil] <;> rfl) (n20 ⟨x.s.toNat,by omega⟩)
 have a3:dgR (fm 2 x) 20 4=(x.y.toNat:Int):=at_dg (a:=(wdN x).take 3++[32]++moN x++[32]++dg x.d.toNat 2 32++[32]++(dg x.h.toNat 2 48++[58]++dg x.mi.toNat 2 48++[58]++dg x.s.toNat 2 48)++[32]) (by rw[e]) (by simp only[List.length_append,l3,hm,dg_len,List.length_cons,List.length_nil] <;> rfl) (n40 (by omega))
 have hn:=n2s ⟨x.d.toNat,by omega⟩
 (try dsimp only at hn)
 have hlB:((wdN x).take 3++[32]++moN x++[32]).length=8:=by simp only[List.length_append,l3,hm,List.length_cons,List.length_nil]
 have g8:(fm 2 x).getD 8 0=(dg x.d.toNat 2 32).getD 0 0:=by
  rw[e,show(wdN x).take 3++[32]++moN x++[32]++dg x.d.toNat 2 32++[32]++(dg x.h.toNat 2 48++[58]++dg x.mi.toNat 2 48++[58]++dg x.s.toNat 2 48)++[32]++(dg x.y.toNat 4 48++[])=((wdN x).take 3++[32]++moN x++[32])++(dg x.d.toNat 2 32++([32]++((dg x.h.toNat 2 48++[58]++dg x.mi.toNat 2 48++[58]++dg x.s.toNat 2 48)++([32]++(dg x.y.toNat 4 48++[]))))) by simp only[List.append_assoc]]
  rw[List.getD_eq_getElem?_getD,List.getElem?_append_right (by omega),hlB,Nat.sub_self,List.getElem?_append_left (by rw[dg_len];omega),<- List.getD_eq_getElem?_getD]
 unfold x3R rdR
 rw[a2,a3,a4,a5,a6,g8]
 by_cases c:x.d.toNat<10
 ·rw[if_pos c]at hn
  obtain⟨q1,q2,q3⟩:=hn
  rw[if_pos ⟨by omega,q1⟩]
  have e2:dg x.d.toNat 2 32=[32]++dg x.d.toNat 1 48:=by
   have hl2:=dg_len x.d.toNat 2 32
   match hdd:dg x.d.toNat 2 32,hl2 with
   |[u,v],_=>
    rw[hdd]at q1 q2
    have q1':u=32:=q1
    have q2':[v]=dg x.d.toNat 1 48:=q2
    rw[q1',<- q2'];rfl
  have a1:dgR (fm 2 x) 9 1=(x.d.toNat:Int):=at_dg (a:=(wdN x).take 3++[32]++moN x++[32]++[32]) (by rw[e,e2];simp only[List.append_assoc] <;> rfl) (by simp only[List.length_append,l3,hm,dg_len,List.length_cons,List.length_nil] <;> rfl) q3
  rw[a1]
  exact noW_eq ok
 ·rw[if_neg c]at hn
  rw[if_neg (fun q=>hn.1 q.2)]
  have a1:dgR (fm 2 x) 8 2=(x.d.toNat:Int):=at_dg (a:=(wdN x).take 3++[32]++moN x++[32]) (by rw[e,hn.2];simp only[List.append_assoc] <;> rfl) (by simp only[List.length_append,l3,hm,dg_len,List.length_cons,List.length_nil] <;> rfl) (n20 ⟨x.d.toNat,by omega⟩)
  rw[a1]
  exact noW_eq ok
theorem sm_none {f:Int}{l:List UInt8}{y:Dt}(h:∀x,okX x->(fm (f-1) x).length≠l.length):smR f l y=none:=by
 unfold smR
 refine if_neg fun c=>?_
 exact h _ (ok_sp (jN_ok c.1)) (by rw[c.2])
theorem pt_rp {now n:Int}{l:List UInt8}(h:PT now l n):rpR now l=some n:=by
 obtain⟨ok,h|⟨h,hs⟩|h⟩:=h
 ·subst h
  have s1:smR 1 (fm 0 (spD n)) (x1R (fm 0 (spD n)))=some n:=by rw[x1_app (ok_sp ok)];exact sm_app (k:=0) ok
  unfold rpR
  rw[s1]
 ·subst h
  have hl:=fm1_len (ok_sp ok)
  have s1:smR 1 (fm 1 (spD n)) (x1R (fm 1 (spD n)))=none:=sm_none fun x hx=>by
   have:=fm0_len hx
   show(fm 0 x).length≠_
   omega
  have h70:1970<=(spD n).y:=by
   have:=(sp_back ok).1
   unfold okF at this
   exact this.1.1
  obtain⟨e2,e3⟩:=x2_app (ok_sp ok) h70 hs
  have s2:s2R (fm 1 (spD n)) now=some n:=by
   unfold s2R
   rw[if_pos e3,e2]
   exact sm_app (k:=1) ok
  unfold rpR
  rw[s1,s2]
 ·subst h
  have hl:=fm2_len (ok_sp ok)
  have s1:smR 1 (fm 2 (spD n)) (x1R (fm 2 (spD n)))=none:=sm_none fun x hx=>by
   have:=fm0_len hx
   show(fm 0 x).length≠_
   omega
  have s2:s2R (fm 2 (spD n)) now=none:=by
   unfold s2R
   split
   ·exact sm_none fun x hx=>by
     have:=fm1_len hx
     show(fm 1 x).length≠_
     omega
   ·rfl
  unfold rpR
  rw[s1,s2,x3_app (ok_sp ok)]
  exact sm_app (k:=2) ok
theorem par_rp (now:Int)(l:List UInt8):paR now l=rpR now l:=by
 cases h:paR now l with
 |some n=>exact(pt_rp (par_pt h)).symm
 |none=>
  cases h2:rpR now l with
  |none=>rfl
  |some n=>rw[pt_par (rp_pt h2)]at h;cases h
end Go.Proofs.YthomhkpedghhgaaGreatDoor.D
namespace Go.Proofs.YthomhkpedghhgaaGreatDoor.FD
open Go Go.Proofs Go.RowKit Sh Sl T
theorem join_snoc {sep:List UInt8}{V:List (List UInt8)}{i:Nat}(h0:0<i)(h:i<V.length):joinF sep (V.take (i+1))=joinF sep (V.take i)++sep++V[i]:=by
 rw[List.take_succ_eq_append_getElem h]
 obtain⟨v,r,hv⟩:∃v r,V.take i=v::r:=by
  cases hx:V.take i with
  |nil=>have:=congrArg List.length hx;rw[List.length_take,List.length_nil]at this;omega
  |cons v r=>exact⟨v,r,rfl⟩
 rw[hv]
 simp only[List.cons_append,joinF,List.flatMap_append]
 simp
theorem rfirst {W:World}{l:List Fd}{n:List UInt8}{a:Option Addr}{c:Nat}{A:HP}(hA:RdF W A a l)(hl:hOK l)(hn:n.length<=4194304):Cn p_ 60 [.slice a l.length c,txt n] W [A] (fun _:Unit=> .tuple #[txt (firstF l n).1,.bool (firstF l n).2])
  (fun r=>[A]):=by
 (refine S.ref11_First_s.cn fun F=>?_;unfold S.ref11_First;simp only[ca_,na_])
 refine e_call (rvalues hA hl hn) (.cons .here .nil) fun r=>?_
 obtain⟨sa,sc⟩:=r
 refine nr_ ?_
 unfold firstF
 generalize valsF l n=V
 refine o_ v_len ?_
 cases V with
 |nil=>
  refine o_ v_eql ?_
  rw[dT_ (by rfl)]
  refine e_condT (rt_ () ?_)
  exact im_
 |cons v r=>
  refine o_ v_eql ?_
  rw[dF_ (by simp;omega)]
  refine e_condF (e_slsome (a:=sa) (.there .here) (by simp) fun g hg=>?_)
  subst hg
  have ld:RunV p_ W [Sl 1 9 (some ⟨g,0,none⟩) sc (v::r).length ((v::r).map txt)] (sLoad 9 (.pointer (some ⟨g,0+0,none⟩))) (txt v):=v_ldSl rfl
  refine o_ (v_ia1 0 rfl (by simp)) ?_
  refine p_op ld ?_
  refine rt_ () ?_
  exact im_
theorem join_le (sep:List UInt8)(V:List (List UInt8))(i:Nat):(joinF sep (V.take i)).length<=zL V+sep.length * V.length:=by
 have h1:=joinF_len sep (V.take i)
 have h2:zL (V.take i)<=zL V:=by
  have:=zL_app (V.take i) (V.drop i)
  rw[List.take_append_drop]at this
  omega
 have h3:(V.take i).length<=V.length:=by rw[List.length_take];omega
 have h4:sep.length * (V.take i).length<=sep.length * V.length:=Nat.mul_le_mul_left _ h3
 omega
theorem rjoined {W:World}{l:List Fd}{n:List UInt8}{a:Option Addr}{c:Nat}{A:HP}(hA:RdF W A a l)(hl:zF l<=1048576)(hn:n.length<=4194304):Cn p_ 93 [.slice a l.length c,txt n] W [A] (fun _:Unit=>txt (allF l n)) (fun _=>[A]):=by
 have hz:=zL_vals l n
 have hvl:=vals_len l n
 have hzl:=z_len l
 (refine S.ref23_joined_s.cn fun F=>?_;unfold S.ref23_joined;simp only[ca_,na_])
 refine e_call (rvalues (n:=n) hA (z_ok (by omega)) hn) (.cons (by repeat constructor) .nil) fun r=>?_
 obtain⟨va,vc⟩:=r
 refine nr_ ?_
 (try dsimp only)
 unfold allF
 generalize valsF l n=V at hz hvl ⊢
 have hsz:=join_le [44] V
 simp only[List.length_cons,List.length_nil]at hsz
 refine e_slfacts (by(repeat constructor):Pick _ (Sl 1 9 va vc V.length (V.map txt)) _) fun _ _ _ hs=>?_
 have hN:RdB W (Sl 1 9 va vc V.length (V.map txt)) va V.length (V.map txt):=rd_sl (by rw[List.length_map]) hs
 refine e_loop2 (fun m x y=>pu (∃i:Nat,m+i=V.length/\x=txt (joinF [44] (V.take i))/\y= .int .i64 (i:Int))::Sl 1 9 va vc V.length (V.map txt)::A::F) V.length ?_ ?_
 ·refine .pu ⟨0,rfl,rfl,rfl⟩ ?_
  exact im_
 intro m ds x y
 refine e_pu .here fun hi=>?_
 obtain⟨i,hmi,rfl,rfl⟩:=hi
 refine o_ v_len (e_ask v_lss .nil (fun h=>?_) (fun h=>?_))
 ·have hin:i<V.length:=by omega
  obtain⟨g,rfl⟩:=hs (by omega)
  have h1:=hsz i
  have h2:=hsz (i+1)
  refine e_condT (e_cut1 (fun z=>pu (z=txt (if 0<i then joinF [44] (V.take i)++[44]else []))::Sl 1 9 (some ⟨g,0,none⟩) vc V.length (V.map txt)::A::F) ?_ ?_)
  rotate_left
  ·refine e_ask v_gtr .nil (fun h=>?_) (fun h=>?_)
   ·have h0:0<i:=by omega
    refine e_condT (o_ (v_cat (b:=[44]) (by simp;omega)) ?_)
    refine e_sat (.pu (by rw[if_pos h0]) ?_)
    exact im_
   ·have h0:i=0:=by omega
    subst h0
    refine e_condF (e_sat (.pu rfl ?_))
    exact im_
  intro ds2 z
  refine e_pu .here fun hz=>?_
  subst hz
  refine o_ (v_ia1 i rfl hin) ?_
  refine p_op (txt_at hN hin) ?_
  have hstep:(if 0<i then joinF [44] (V.take i)++[44]else [])++V[i]=joinF [44] (V.take (i+1)):=by
   rcases Nat.eq_zero_or_pos i with z|z
   ·subst z
    cases V with
    |nil=>cases hin
    |cons v r=>simp[joinF]
   ·rw[if_pos z,join_snoc z hin]
  refine o_ (v_cat (by rw[<- List.length_append,hstep];omega)) ?_
  rw[hstep]
  refine ad_ ?_
  refine e_next2 (m-1) (by omega) (.pu ⟨i+1,by omega,rfl,by norm_cast⟩ ?_)
  exact im_
 ·have:i=V.length:=by omega
  subst this
  rw[List.take_length]
  refine e_condF (e_ret () rfl ?_)
  exact im_
theorem vals_lo {l:List Fd}{n m:List UInt8}(h:lowF n=lowF m):valsF l n=valsF l m:=by
 unfold valsF
 congr 1
 apply List.filter_congr
 intro f _
 exact(eql_low h).symm
theorem all_low {l:List Fd}{n m:List UInt8}(h:lowF n=lowF m):allF l n=allF l m:=by unfold allF;rw[vals_lo h]
theorem rdirs {W:World}{l:List Fd}{a:Option Addr}{c:Nat}{A:HP}(hA:RdF W A a l)(hl:zF l<=1048576):Cn p_ 51 [.slice a l.length c] W [A] (fun r:Option Addr × Nat=> .slice r.1 (dirL l).length r.2) (fun r=>[A,Sl 3 140 r.1 r.2 (dirL l).length ((dirL l).flatMap pDir)]):=by
 obtain⟨h1,h2⟩:=allF_len sCC hl
 have hlow:allF l [99,97,99,104,101,45,99,111,110,116,114,111,108]=allF l sCC:=all_low (by decide)
 (refine S.ref23_directives_s.cn fun F=>?_;unfold S.ref23_directives;simp only[ca_,na_])
 refine e_call (rjoined (n:=[99,97,99,104,101,45,99,111,110,116,114,111,108]) hA hl (by decide)) (.cons (by repeat constructor) .nil) fun _=>?_
 refine nr_ ?_
 rw[hlow]
 refine e_call (rdirectives (l:=allF l sCC) (by omega)) .nil fun r=>?_
 refine nr_ ?_
 refine o_ (v_extN (vs:=[_,_]) .here) ?_
 refine o_ (v_extN (vs:=[_,_]) (.there .here)) ?_
 unfold dirL
 refine rt_ r ?_
 exact im_
theorem rcomes {W:World}{l:List Fd}{n:List UInt8}{a:Option Addr}{c:Nat}{A:HP}(hA:RdF W A a l)(hl:zF l<=1048576)(hn:n.length<=4194304):Cn p_ 53 [.slice a l.length c,txt n] W [A] (fun _:Unit=> .bool (decide (0<(valsF l n).length))) (fun _=>[A]):=by
 (refine S.ref23_comes_s.cn fun F=>?_;unfold S.ref23_comes;simp only[ca_,na_])
 refine e_call (rvalues (n:=n) hA (z_ok (by omega)) hn) (.cons (by repeat constructor) .nil) fun r=>?_
 obtain⟨va,vc⟩:=r
 refine nr_ ?_
 (try dsimp only)
 refine o_ v_len (o_ v_gtr (e_ret () (by congr 1;simp) ?_))
 exact im_
theorem rtime {W:World}{n:Int}:Cn p_ 57 [.int .i64 n] W [] (fun _:Unit=> .int .i64 (cl40 n)) (fun _=>[]):=by
 (refine S.ref23_time_s.cn fun F=>?_;unfold S.ref23_time;simp only[ca_,na_])
 refine o_ v_min (o_ v_max (e_ret () (by congr 1;unfold cl40;split <;> split <;> omega) ?_))
 exact .refl
theorem rdate {W:World}{l:List Fd}{n:List UInt8}{now:Int}{a:Option Addr}{c:Nat}{A:HP}(hA:RdF W A a l)(hl:zF l<=1048576)(hn:n.length<=4194304):Cn p_ 59 [.slice a l.length c,txt n,.int .i64 now] W [A] (fun _:Unit=> .tuple #[.int .i64 (daP l n now).1,.bool (daP l n now).2]) (fun _=>[A]):=by
 have hok:=z_ok (l:=l) (by omega)
 have hfl:(firstF l n).1.length<=4194304:=by
  unfold firstF
  split
  ·simp
  ·rename_i v r hv
   obtain⟨f,hf,rfl⟩:=vals_mem (show v∈valsF l n by rw[hv];exact List.mem_cons_self)
   exact(hok.2 f hf).2
 (refine S.ref23_date_s.cn fun F=>?_;unfold S.ref23_date;simp only[ca_,na_])
 refine e_call (rfirst (n:=n) hA hok hn) (.cons (by repeat constructor) .nil) fun _=>?_
 refine nr_ ?_
 refine o_ (v_extN (vs:=[_,_]) .here) ?_
 refine o_ (v_extN (vs:=[_,_]) (.there .here)) ?_
 refine e_call (D.rparse (l:=(firstF l n).1) (now:=now) (by omega)) .nil fun _=>?_
 refine nr_ ?_
 refine o_ (v_extN (vs:=[_,_]) .here) ?_
 refine o_ (v_extN (vs:=[_,_]) (.there .here)) ?_
 rw[show D.rpR now (firstF l n).1=D.paR now (firstF l n).1 from(D.par_rp now _).symm]
 rw[show D.oE (D.paR now (firstF l n).1)=D.paE now (firstF l n).1 from rfl,show(D.paR now (firstF l n).1).getD 0=D.paN now (firstF l n).1 from rfl]
 unfold daP
 cases h:(firstF l n).2 with
 |true=>
  refine e_gdT (e_gdT (o_ v_eql (o_ v_pickT (e_ret () rfl ?_))))
  exact im_
 |false=>
  refine e_gdF2 (e_gdF2 (o_ v_pickF (e_ret () rfl ?_)))
  exact im_
theorem cut_yes {c:UInt8}:∀ {p r:List UInt8},c∉p->cutA c (p++c::r)=p/\cutB c (p++c::r)=r
 |[],r,_=>by simp[cutA,cutB]
 |x::p,r,h=>by
  rw[List.mem_cons,not_or]at h
  obtain⟨h1,h2⟩:=cut_yes (r:=r) h.2
  simp only[List.cons_append,cutA,cutB,if_neg (Ne.symm h.1),h1,h2]
  exact⟨trivial,trivial⟩
theorem cut_nope {c:UInt8}:∀ {p:List UInt8},c∉p->cutA c p=p/\cutB c p=[]
 |[],_=>⟨rfl,rfl⟩
 |x::p,h=>by
  rw[List.mem_cons,not_or]at h
  obtain⟨h1,h2⟩:=cut_nope h.2
  simp only[cutA,cutB,if_neg (Ne.symm h.1),h1,h2]
  exact⟨trivial,trivial⟩
def tl1 (p:List UInt8):List (List UInt8):=if trimB p=[]then []else [trimB p]
theorem spl_yes {c:UInt8}{p r:List UInt8}(h:c∉p):spl c (p++c::r)=tl1 p++spl c r:=by
 obtain⟨h1,h2⟩:=cut_yes (r:=r) h
 rw[spl_cons c (by simp),h1,h2]
 rfl
theorem spl_nope {c:UInt8}{p:List UInt8}(h:c∉p):spl c p=tl1 p:=by
 cases p with
 |nil=>rfl
 |cons x r=>
  obtain⟨h1,h2⟩:=cut_nope h
  rw[spl_cons c (by simp),h1,h2,spl_nil,List.append_nil]
  rfl
theorem rsays {W:World}{D:List Dir}{n:List UInt8}{a:Option Addr}{c:Nat}(hD:D.length<=4194304):Cn p_ 52 [.slice a D.length c,txt n] W [Sl 3 140 a c D.length (D.flatMap pDir)] (fun _:Unit=> .bool (saysF D [n])) (fun _=>[Sl 3 140 a c D.length (D.flatMap pDir)]):=by
 (refine S.ref23_says_s.cn fun F=>?_;unfold S.ref23_says;simp only[ca_,na_])
 refine e_loop1 (fun m y=>[ex fun i:Nat=>all [pu (m+i=D.length/\y= .int .i64 (i:Int)/\saysF (D.take i) [n]=false),Sl 3 140 a c D.length (D.flatMap pDir)]]++F) D.length ?_ ?_
 ·refine Imp.ex 0 (.all ?_)
  refine nr_ ?_
  exact .pu ⟨rfl,rfl,rfl⟩ .refl
 intro m ds y
 refine nr_ ?_
 refine e_ex Pick.here fun i=>e_all Pick.here ?_
 refine nr_ ?_
 refine e_pu Pick.here fun hi=>?_
 obtain⟨hmi,rfl,hse⟩:=hi
 refine o_ v_len (e_ask v_lss .nil (fun h=>?_) (fun h=>?_))
 ·have hil:i<D.length:=by omega
  have hat:=dir_at hil
  refine e_condT (e_slsome (a:=a) .here (Nat.zero_lt_of_lt hil) fun g hg=>?_)
  subst hg
  have l0:RunV p_ W [Sl 3 140 (some ⟨g,0,none⟩) c D.length (D.flatMap pDir)] (sLoad 9 (.pointer (some ⟨g,0+i * 3+0,none⟩))) (txt D[i].name):=v_ldSl (by rw[Nat.zero_add];exact hat.1)
  refine o_ (v_ia i rfl hil) ?_
  refine o_ v_fa (e_opN l0 (.pick .here .nil) ?_)
  refine o_ v_streq ?_
  by_cases hxn:D[i].name=n
  ·rw[dT_ hxn]
   refine e_condT (e_ret () (by rw[show saysF D [n]=true from List.any_eq_true.2 ⟨D[i],List.getElem_mem hil,by rw[hxn];simp⟩]) ?_)
   exact im_
  ·rw[dF_ hxn]
   refine e_condF (ad_ ?_)
   refine e_next1 (m-1) (by omega) (.ex (i+1) (.all ?_))
   refine nr_ ?_
   refine .pu ⟨by omega,by norm_cast,?_⟩ ?_
   ·unfold saysF at hse ⊢
    rw[List.take_succ_eq_append_getElem hil,List.any_append,hse]
    simp
    exact fun e=>hxn e
   exact im_
 ·have:i=D.length:=by omega
  subst this
  rw[List.take_length]at hse
  refine e_condF (e_ret () (by rw[hse]) ?_)
  exact im_
theorem says_two {D:List Dir}{a b:List UInt8}:saysF D [a,b]=(saysF D [a]||saysF D [b]):=by
 unfold saysF
 rw[Bool.eq_iff_iff,Bool.or_eq_true,List.any_eq_true,List.any_eq_true,List.any_eq_true]
 constructor
 ·rintro⟨x,hx,h⟩
  simp only[List.contains_iff_mem,List.mem_cons,List.not_mem_nil,or_false]at h
  rcases h with h|h
  ·exact .inl ⟨x,hx,by simp[h]⟩
  ·exact .inr ⟨x,hx,by simp[h]⟩
 ·rintro(⟨x,hx,h⟩|⟨x,hx,h⟩) <;> exact⟨x,hx,by simp at h;simp[h]⟩
theorem rsplit {W:World}{l:List UInt8}{c:UInt8}(hl:l.length<=4194304):Cn p_ 94 [txt l,Sl.B c] W [] (fun r:Option Addr × Nat=> .slice r.1 (spl c l).length r.2) (fun r=>[Sl 1 9 r.1 r.2 (spl c l).length ((spl c l).map txt)]):=by
 have hnum:=(spl_num c _ l (Nat.le_refl _)).1
 unfold Sl.B
 (refine S.ref01_Split_s.cn fun F=>?_;unfold S.ref01_Split;simp only[ca_,na_])
 refine e_nil (s:=1) (e:=9) ?_
 refine e_loop3 (fun m x y z=>[ex fun st:(Option Addr × Nat) × (List (List UInt8)) × (List UInt8 × List UInt8)=>all [pu (∃f i:Nat,m+i=l.length+1/\x= .slice st.1.1 st.2.1.length st.1.2/\y= .int .i64 (f:Int)/\z= .int .i64 (i:Int)/\f+st.2.2.1.length=i/\c∉st.2.2.1/\((i<=l.length/\l.drop f=st.2.2.1++st.2.2.2/\spl c l=st.2.1++spl c (st.2.2.1++st.2.2.2))\/(i=l.length+1/\spl c l=st.2.1))),Sl 1 9 st.1.1 st.1.2 st.2.1.length (st.2.1.map txt)]]++F) (l.length+1) ?_ ?_
 ·refine Imp.ex ((none,0),[],[],l) (.all ?_)
  refine nr_ ?_
  refine .pu ⟨0,0,rfl,rfl,rfl,rfl,rfl,by simp,.inl ⟨Nat.zero_le _,rfl,rfl⟩⟩ ?_
  exact im_
 intro m ds x y z
 refine nr_ ?_
 refine e_ex Pick.here fun st=>e_all Pick.here ?_
 obtain⟨⟨sa,sc⟩,out,p,r⟩:=st
 refine nr_ ?_
 refine e_pu Pick.here fun hi=>?_
 (try dsimp only at hi)
 obtain⟨f,i,hmi,rfl,rfl,rfl,hfi,hcp,hcase⟩:=hi
 (try dsimp only)
 refine o_ v_lent (e_ask v_leq .nil (fun h=>?_) (fun h=>?_))
 rotate_left
 ·obtain⟨h1,_⟩|⟨_,hsp⟩:=hcase
  ·omega
  rw[hsp]
  refine e_condF (e_ret (sa,sc) rfl ?_)
  exact im_
 obtain⟨hil,hdr,hsp⟩|⟨h1,_⟩:=hcase
 rotate_left
 ·omega
 have hlen:f+(p++r).length=l.length:=by
  have:=congrArg List.length hdr
  rw[List.length_drop]at this
  omega
 rw[List.length_append]at hlen
 have hol:out.length<=4194304:=by
  have:=congrArg List.length hsp
  rw[List.length_append]at this
  omega
 refine e_condT (o_ v_lent (o_ v_lss ?_))
 by_cases hA:∃h:i<l.length,l[i]≠c
 ·obtain⟨hlt,hne⟩:=hA
  have hr:r=l[i]::l.drop (i+1):=by
   have h1:=congrArg (fun t=>t.drop p.length) hdr
   simp only[List.drop_drop,List.drop_left]at h1
   rw[<- h1,hfi,List.drop_eq_getElem_cons hlt]
  rw[dT_ (by omega)]
  refine e_gdT (e_gdT (e_gdT (o_ (v_ixS i rfl hlt) ?_)))
  refine e_gdT (e_gdT (o_ (B_ne c rfl) ?_))
  refine o_ v_pickT ?_
  rw[dT_ hne]
  refine e_condT (ad_ ?_)
  refine e_next3 (m-1) (by omega) (.ex ((sa,sc),out,p++[l[i]],l.drop (i+1)) (.all ?_))
  refine nr_ ?_
  have hre:p++[l[i]]++l.drop (i+1)=p++r:=by rw[hr,List.append_assoc];rfl
  refine .pu ⟨f,i+1,by omega,rfl,rfl,by norm_cast,by rw[List.length_append,List.length_singleton];omega,?_,.inl ⟨by omega,by rw[hre];exact hdr,by rw[hre];exact hsp⟩⟩ ?_
  ·intro hm
   rcases List.mem_append.1 hm with hm|hm
   ·exact hcp hm
   ·exact hne (List.mem_singleton.1 hm).symm
  exact im_
 have hB:∃r',spl c (p++r)=tl1 p++spl c r'/\((i+1<=l.length/\l.drop (i+1)=r')\/(i=l.length/\r'=[])):=by
  by_cases hlt:i<l.length
  ·have hc:l[i]=c:=Classical.byContradiction fun e=>hA ⟨hlt,e⟩
   have hr:r=c::l.drop (i+1):=by
    have h1:=congrArg (fun t=>t.drop p.length) hdr
    simp only[List.drop_drop,List.drop_left]at h1
    rw[<- h1,hfi,List.drop_eq_getElem_cons hlt,hc]
   exact⟨l.drop (i+1),by rw[hr];exact spl_yes hcp,.inl ⟨by omega,rfl⟩⟩
  ·have hr:r=[]:=List.eq_nil_of_length_eq_zero (by omega)
   exact⟨[],by rw[hr,List.append_nil,spl_nil,List.append_nil];exact spl_nope hcp,.inr ⟨by omega,rfl⟩⟩
 obtain⟨r',hB1,hB2⟩:=hB
 have hpt:sub l f i=p:=by
  unfold sub
  rw[hdr,show i-f=p.length by omega,List.take_left]
 have y1:i<l.length->((i:Int)<(l.length:Int)):=fun h=>by omega
 have y2:¬i<l.length->¬((i:Int)<(l.length:Int)):=fun h=>by omega
 refine' both_ ?_ ?_
 rotate_left
 ·intro main
  by_cases hlt:i<l.length
  ·have hc:l[i]=c:=Classical.byContradiction fun e=>hA ⟨hlt,e⟩
   rw[dT_ (y1 hlt)]
   refine e_gdT (e_gdT (e_gdT (o_ (v_ixS i rfl hlt) ?_)))
   refine e_gdT (e_gdT (o_ (B_ne c rfl) ?_))
   refine o_ v_pickT ?_
   rw[dF_ (fun e=>e hc)]
   exact main
  ·rw[dF_ (y2 hlt)]
   exact e_gdF2 (e_gdF2 (e_gdF2 (e_gdF2 (e_gdF2 (o_ v_pickF main)))))
 refine e_condF (o_ (v_sslh f i rfl rfl (by omega) (by omega)) ?_)
 rw[hpt]
 refine c_ (rtrim (l:=p) (by omega)) fun _=>?_
 refine e_cut1 (fun z=>[ex fun q:Option Addr × Nat=>all [pu (z= .slice q.1 (out++tl1 p).length q.2),Sl 1 9 q.1 q.2 (out++tl1 p).length ((out++tl1 p).map txt)]]++F) ?_ ?_
 rotate_left
 ·refine o_ (v_strne (m:=[])) ?_
  by_cases ht:trimB p=[]
  ·rw[dF_ (fun h=>h ht)]
   refine e_condF ?_
   rw[show out++tl1 p=out by unfold tl1;rw[if_pos ht,List.append_nil]]
   refine e_sat (.ex (sa,sc) (.all ?_))
   refine nr_ ?_
   refine .pu rfl ?_
   exact im_
  ·rw[dT_ ht]
   refine e_condT ?_
   rw[show out++tl1 p=out++[trimB p] by unfold tl1;rw[if_neg ht]]
   refine e_bslN (n:=1) (vs:=[txt (trimB p)]) rfl rfl (by intro v hv;rw[List.mem_singleton.1 hv];rfl) (by omega) fun gb=>?_
   refine e_app (m:=1) (news:=[txt (trimB p)]) (by(repeat constructor):Pick _ (Sl 1 9 sa sc out.length (out.map txt)) _) (src_pt (s:=1) (e':=9) (by kernel_rfl) .here (by rfl) (by intro u hu;rw[List.mem_singleton.1 hu];rfl)) (by omega) (by omega) fun a' c'=>?_
   refine e_sat (.ex (a',c') (.all ?_))
   refine nr_ ?_
   rw[List.length_append,List.map_append]
   refine .pu rfl ?_
   exact im_
 intro ds2 z
 refine nr_ ?_
 refine e_ex Pick.here fun q=>e_all Pick.here ?_
 obtain⟨qa,qc⟩:=q
 refine nr_ ?_
 refine e_pu Pick.here fun hz=>?_
 subst hz
 refine ad_ ?_
 refine ad_ ?_
 refine e_next3 (m-1) (by omega) (.ex ((qa,qc),out++tl1 p,[],r') (.all ?_))
 refine nr_ ?_
 refine .pu ⟨i+1,i+1,by omega,rfl,by norm_cast,by norm_cast,rfl,by simp,?_⟩ ?_
 ·rcases hB2 with ⟨h1,h2⟩|⟨h1,h2⟩
  ·exact .inl ⟨h1,h2,by rw[List.append_assoc,<- hB1];exact hsp⟩
  ·subst h2
   rw[spl_nil,List.append_nil]at hB1
   rw[hB1]at hsp
   exact .inr ⟨by omega,hsp⟩
 exact im_
theorem rvaries {W:World}{l:List Fd}{a:Option Addr}{c:Nat}{A:HP}(hA:RdF W A a l)(hl:zF l<=1048576):Cn p_ 54 [.slice a l.length c] W [A] (fun r:Option Addr × Nat=> .slice r.1 (variesF l).length r.2) (fun r=>[A,Sl 1 9 r.1 r.2 (variesF l).length ((variesF l).map txt)]):=by
 obtain⟨h1,h2⟩:=allF_len sVary hl
 (refine S.ref23_Varies_s.cn fun F=>?_;unfold S.ref23_Varies;simp only[ca_,na_])
 refine e_call (rjoined (n:=[118,97,114,121]) hA hl (by decide)) (.cons (by repeat constructor) .nil) fun _=>?_
 refine nr_ ?_
 rw[show allF l [118,97,114,121]=allF l sVary from all_low (by decide)]
 refine e_call (rsplit (l:=allF l sVary) (c:=44) (by omega)) .nil fun r=>?_
 refine nr_ ?_
 unfold variesF
 refine rt_ r ?_
 exact im_
theorem sec_zero {s:List UInt8}:∀ {D:List Dir},(secF D s).2=false->(secF D s).1=0:=by
 intro D h
 unfold secF at *
 split at h
 ·cases h
 ·rfl
def sExp:List UInt8:=[101,120,112,105,114,101,115]
def sDat:List UInt8:=[100,97,116,101]
theorem da_lo {l:List Fd}{n m:List UInt8}{now:Int}(h:lowF n=lowF m):daP l n now=daP l m now:=by unfold daP firstF;rw[vals_lo h]
theorem da_none {l:List Fd}{n:List UInt8}{now:Int}(h:¬0<(valsF l n).length):(daP l n now).2=false:=by
 have:valsF l n=[]:=List.eq_nil_of_length_eq_zero (by omega)
 unfold daP firstF
 rw[this]
 rfl
theorem rlifetime {W:World}{st now:Int}{X:List Fd}{ax:Option Addr}{cx:Nat}{bd:Value}{B:HP}(hB:RdF W B ax X)(hx:zF X<=1048576)[hbd:OC bd]:
  Cn p_ 18 [.agg #[.int .i64 st,.slice ax X.length cx,bd],.int .i64 now] W [B] (fun _:Unit=> .int .i64 (lifeF X now)) (fun _=>[B]):=by
 obtain⟨he,hd⟩:=dirL_ok hx
 (refine S.ref23_Lifetime_s.cn fun F=>?_;unfold S.ref23_Lifetime;simp only[ca_,na_])
 refine e_boxA fun b2=>?_
 refine c_ (rtime (n:=now)) fun _=>?_
 refine o_ v_fa0 (ln_ ?_)
 refine e_call (rdirs hB hx) (.cons (by repeat constructor) .nil) fun r=>?_
 obtain⟨ea,ec⟩:=r
 refine nr_ ?_
 (try dsimp only)
 have sec:=fun s=>rseconds (W:=W) (xs:=dirL X) (s:=s) (a:=ea) (c:=ec) (by omega) hd
 refine e_call (sec sSmax) (.cons (by repeat constructor) .nil) fun _=>?_
 refine nr_ ?_
 refine o_ (v_extN (vs:=[_,_]) .here) ?_
 refine o_ (v_extN (vs:=[_,_]) (.there .here)) ?_
 obtain⟨q,hq⟩:∃q:Int × Bool,q=if(secF (dirL X) sSmax).2 then secF (dirL X) sSmax else secF (dirL X) sMax_:=⟨_,rfl⟩
 refine e_cut2 (fun x y=>pu (x= .int .i64 q.1/\y= .bool q.2)::B::pt b2 (.cells #[.int .i64 st,.slice ax X.length cx,bd] 34)::F) ?_ ?_
 rotate_left
 ·refine o_ v_not ?_
  cases h1:(secF (dirL X) sSmax).2 with
  |true=>
   rw[h1,if_pos rfl]at hq
   refine e_condF (e_sat (.pu ⟨by rw[hq],by rw[hq,h1]⟩ ?_))
   exact im_
  |false=>
   rw[h1]at hq
   simp only[Bool.false_eq_true,if_false]at hq
   refine e_condT (e_call (sec sMax_) (.cons (by repeat constructor) .nil) fun _=>?_)
   refine nr_ ?_
   refine o_ (v_extN (vs:=[_,_]) .here) ?_
   refine o_ (v_extN (vs:=[_,_]) (.there .here)) ?_
   refine e_sat (.pu ⟨by rw[hq],by rw[hq]⟩ ?_)
   exact im_
 intro ds x y
 refine e_pu .here fun hz=>?_
 obtain⟨rfl,rfl⟩:=hz
 have hlife:lifeF X now=if q.2 then q.1 else if(daP X sExp (cl40 now)).2 then max 0 (wr ((daP X sExp (cl40 now)).1-(if(daP X sDat (cl40 now)).2 then(daP X sDat (cl40 now)).1 else cl40 now)))else 0:=by
  unfold lifeF
  rw[hq,da_lo (n:=sExp) (m:=sExpires) (by decide),da_lo (n:=sDat) (m:=sDate) (by decide)]
  cases h1:(secF (dirL X) sSmax).2 with
  |true=>simp[h1]
  |false=>simp[h1]
 have hq0:q.2=false->q.1=0:=by
  rw[hq]
  split
  ·exact sec_zero
  ·exact sec_zero
 rw[hlife]
 cases h2:q.2 with
 |true=>
  refine e_gdF1 (e_gdF1 (e_gdF1 (e_gdF1 (o_ v_pickT (e_condT (e_ret () rfl ?_))))))
  exact im_
 |false=>
  have hq0:=hq0 h2
  simp only[Bool.false_eq_true,if_false]
  refine e_gdT (o_ v_fa0 (e_gdT (ln_ ?_)));refine e_gdT (e_call (rcomes (n:=sExp) hB hx (by decide)) (.cons (by repeat constructor) .nil) fun _=>?_)
  refine nr_ ?_
  refine e_gdT (o_ v_not (o_ v_pickF ?_))
  by_cases h3:0<(valsF X sExp).length
  rotate_left
  ·rw[dF_ h3,Bool.not_false]
   refine e_condT (e_ret () (by rw[da_none h3,hq0];rfl) ?_)
   exact im_
  rw[dT_ h3,Bool.not_true]
  refine e_condF (o_ v_fa0 (ln_ ?_))
  refine e_call (rdate (n:=sExp) (now:=cl40 now) hB hx (by decide)) (.cons (by repeat constructor) .nil) fun _=>?_
  refine nr_ ?_
  refine o_ (v_extN (vs:=[_,_]) .here) ?_
  refine o_ (v_extN (vs:=[_,_]) (.there .here)) ?_
  refine o_ v_not ?_
  cases h4:(daP X sExp (cl40 now)).2 with
  |false=>
   refine e_condT (e_ret () rfl ?_)
   exact im_
  |true=>
  simp only[if_true]
  refine e_condF (o_ v_fa0 (ln_ ?_))
  refine e_call (rdate (n:=sDat) (now:=cl40 now) hB hx (by decide)) (.cons (by repeat constructor) .nil) fun _=>?_
  refine nr_ ?_
  refine o_ (v_extN (vs:=[_,_]) .here) ?_
  refine o_ (v_extN (vs:=[_,_]) (.there .here)) ?_
  refine o_ v_not ?_
  cases h5:(daP X sDat (cl40 now)).2 with
  |false=>
   refine e_condT (o_ v_subw ?_)
   refine o_ v_max0 ?_
   refine e_ret () rfl ?_
   exact im_
  |true=>
   refine e_condF (o_ v_subw ?_)
   refine o_ v_max0 ?_
   refine e_ret () rfl ?_
   exact im_
theorem dec_odd {s:List UInt8}(h0:(decF s).2≠0)(h1:(decF s).2≠11):(decF s).1=0:=by
 unfold decF at *
 split at h0
 ·split at h0
  ·exact absurd rfl h0
  ·rename_i a b
   rw[if_pos a,if_neg b]at h1
   exact absurd rfl h1
 ·rename_i a
  rw[if_neg a]
def sAg:List UInt8:=[97,103,101]
theorem rage {W:World}{st asked came now:Int}{X:List Fd}{ax:Option Addr}{cx:Nat}{bd:Value}{B:HP}(hB:RdF W B ax X)(hx:zF X<=1048576)[hbd:OC bd]:
  Cn p_ 19 [.agg #[.int .i64 st,.slice ax X.length cx,bd],.int .i64 asked,.int .i64 came,.int .i64 now] W [B] (fun _:Unit=> .int .i64 (ageF X asked came now)) (fun _=>[B]):=by
 have hok:=z_ok (l:=X) (by omega)
 have c1:=cl40_b asked
 have c2:=cl40_b came
 have c3:=cl40_b now
 have hfl:(firstF X sAg).1.length<=4194304:=by
  unfold firstF
  split
  ·simp
  ·rename_i v r hv
   obtain⟨f,hf,rfl⟩:=vals_mem (show v∈valsF X sAg by rw[hv];exact List.mem_cons_self)
   exact(hok.2 f hf).2
 have hdn:=dec_nn' (firstF X sAg).1
 have hfa:firstF X sAge=firstF X sAg:=by unfold firstF;rw[vals_lo (m:=sAg) (by decide)]
 (refine S.ref23_Age_s.cn fun F=>?_;unfold S.ref23_Age;simp only[ca_,na_])
 refine e_boxA fun b4=>?_
 refine c_ (rtime (n:=asked)) fun _=>?_
 refine c_ (rtime (n:=came)) fun _=>?_
 refine c_ (rtime (n:=now)) fun _=>?_
 refine o_ v_fa0 (ln_ ?_)
 refine e_call (rdate (n:=sDat) (now:=cl40 came) hB hx (by decide)) (.cons (by repeat constructor) .nil) fun _=>?_
 refine nr_ ?_
 refine o_ (v_extN (vs:=[_,_]) .here) ?_
 refine o_ (v_extN (vs:=[_,_]) (.there .here)) ?_
 rw[da_lo (n:=sDat) (m:=sDate) (by decide)]
 obtain⟨ap,hap⟩:∃ap,ap=if(daP X sDate (cl40 came)).2 then max 0 (wr (cl40 came-(daP X sDate (cl40 came)).1))else 0:=⟨_,rfl⟩
 refine e_cut1 (fun z=>pu (z= .int .i64 ap)::B::pt b4 (.cells #[.int .i64 st,.slice ax X.length cx,bd] 34)::F) ?_ ?_
 rotate_left
 ·cases h4:(daP X sDate (cl40 came)).2 with
  |true=>
   rw[h4,if_pos rfl]at hap
   refine e_condT (o_ v_subw ?_)
   refine o_ v_max0 ?_
   refine e_sat (.pu (by rw[hap];rfl) ?_)
   exact im_
  |false=>
   rw[h4]at hap
   refine e_condF (e_sat (.pu (by rw[hap];rfl) ?_))
   exact im_
 intro ds z
 refine e_pu .here fun hz=>?_
 subst hz
 refine o_ v_fa0 (ln_ ?_)
 refine e_call (rfirst (n:=sAg) hB hok (by decide)) (.cons (by repeat constructor) .nil) fun _=>?_
 refine nr_ ?_
 refine o_ (v_extN (vs:=[_,_]) .here) ?_
 refine o_ (v_extN (vs:=[_,_]) (.there .here)) ?_
 refine e_call (rdecimal (l:=(firstF X sAg).1) (by omega)) .nil fun _=>?_
 refine nr_ ?_
 refine o_ (v_extN (vs:=[_,_]) .here) ?_
 refine o_ (v_extN (vs:=[_,_]) (.there .here)) ?_
 obtain⟨kk,hkk⟩:∃kk,kk=min (if(decF (firstF X sAg).1).2=11 then 2147483648 else(decF (firstF X sAg).1).1) 2147483648:=⟨_,rfl⟩
 have hkb:0<=kk/\kk<=2147483648:=by rw[hkk];split <;> omega
 refine e_cut1 (fun z=>pu (z= .int .i64 kk)::B::F) ?_ ?_
 rotate_left
 ·refine o_ v_eql ?_
  by_cases h11:(decF (firstF X sAg).1).2=11
  ·rw[if_pos h11]at hkk
   rw[dT_ h11]
   refine e_gdF1 (e_gdF1 (o_ v_pickT (e_condT (e_sat (.pu (by rw[hkk];rfl) ?_)))))
   exact im_
  rw[if_neg h11]at hkk
  rw[dF_ h11]
  refine e_gdT (e_gdT (o_ v_gtr ?_))
  by_cases hbig:2147483648<(decF (firstF X sAg).1).1
  ·rw[dT_ hbig]
   refine o_ v_pickF (e_condT (e_sat (.pu (by rw[hkk];congr 1;omega) ?_)))
   exact im_
  rw[dF_ hbig]
  refine o_ v_pickF (e_condF (o_ v_neq ?_))
  by_cases h0:(decF (firstF X sAg).1).2=0
  ·rw[dF_ (by simpa using h0)]
   refine e_condF (e_sat (.pu (by rw[hkk];congr 1;omega) ?_))
   exact im_
  ·rw[dT_ h0]
   refine e_condT (e_sat (.pu (by rw[hkk,dec_odd h0 h11];rfl) ?_))
   exact im_
 intro ds2 z
 refine e_pu .here fun hz=>?_
 subst hz
 refine sb_ ?_
 refine o_ v_max0 ?_
 refine ad_ ?_
 refine o_ v_max ?_
 rw[show(if ap<kk+max 0 (cl40 came-cl40 asked)then kk+max 0 (cl40 came-cl40 asked)else ap)=max ap (kk+max 0 (cl40 came-cl40 asked)) by split <;> omega]
 refine sb_ ?_
 refine o_ v_max0 ?_
 refine o_ v_addw ?_
 refine e_ret () (by unfold ageF;rw[hfa,<- hap,<- hkk];rfl) ?_
 exact im_
def comF (l:List Fd)(n:List UInt8):Bool:=decide (0<(valsF l n).length)
theorem has_one {l:List Fd}{n m:List UInt8}(h:lowF n=lowF m):hasF l [n]=comF l m:=by
 unfold hasF comF
 simp only[List.any_cons,List.any_nil,Bool.or_false]
 rw[vals_lo h]
theorem has_cons {l:List Fd}{n:List UInt8}{N:List (List UInt8)}:hasF l (n::N)=(hasF l [n]||hasF l N):=by
 unfold hasF
 simp
theorem stor_say {m:List UInt8}{st:Int}{l X:List Fd}(hm:m=sGET)(hs:([200,301,404,410]:List Int).contains st=true):
  storF m st l X=if saysF (dirL l) [sNoStore]||(saysF (dirL X) [sNoStore]||(saysF (dirL X) [sPrivate]||(comF l [97,117,116,104,111,114,105,122,97,116,105,111,110]&&(!saysF (dirL X) [sPublic]&&!saysF (dirL X) [sSmax]))))then false else if(variesF X).contains [42]then false
   else if comF X [99,111,110,116,101,110,116,45,114,97,110,103,101]||comF X [115,101,116,45,99,111,111,107,105,101]then false
   else saysF (dirL X) [sSmax]||(saysF (dirL X) [sMax_]||(comF X [101,120,112,105,114,101,115]||(comF X [101,116,97,103]||comF X [108,97,115,116,45,109,111,100,105,102,105,101,100]))):=by
 unfold storF badF
 rw[if_neg (show ¬(m≠sGET)from fun c=>c hm),hs]
 simp only[Bool.not_true,Bool.false_eq_true,if_false]
 rw[says_two,says_two,says_two,has_one (m:=[97,117,116,104,111,114,105,122,97,116,105,111,110]) (by decide),has_cons (n:=sCRange),has_one (n:=sCRange) (m:=[99,111,110,116,101,110,116,45,114,97,110,103,101]) (by decide),has_one (n:=sSetC) (m:=[115,101,116,45,99,111,111,107,105,101]) (by decide),
  has_cons (n:=sExpires),has_cons (n:=sETag),has_one (n:=sExpires) (m:=[101,120,112,105,114,101,115]) (by decide),has_one (n:=sETag) (m:=[101,116,97,103]) (by decide),has_one (n:=sLastM) (m:=[108,97,115,116,45,109,111,100,105,102,105,101,100]) (by decide)]
 cases saysF (dirL l) [sNoStore] <;> cases saysF (dirL X) [sNoStore] <;> cases saysF (dirL X) [sPrivate] <;> cases comF l [97,117,116,104,111,114,105,122,97,116,105,111,110] <;> cases saysF (dirL X) [sPublic] <;> cases saysF (dirL X) [sSmax] <;> cases (variesF X).contains [42] <;> simp
theorem rcom {W:World}{l:List Fd}{n:List UInt8}{a:Option Addr}{c:Nat}{A:HP}(hA:RdF W A a l)(hl:zF l<=1048576)(hn:n.length<=4194304):Cn p_ 53 [.slice a l.length c,txt n] W [A] (fun _:Unit=> .bool (comF l n)) (fun _=>[A]):=rcomes hA hl hn
set_option maxRecDepth 20000 in
theorem rstorable {W:World}{m tg:List UInt8}{mi st:Int}{l X:List Fd}{a ax:Option Addr}{c cx:Nat}{bd:Value}{A B:HP}(hA:RdF W A a l)(hl:zF l<=1048576)(hB:RdF W B ax X)(hx:zF X<=1048576)[hbd:OC bd]:
  Cn p_ 14 [.agg #[txt m,txt tg,.int .i64 mi,.slice a l.length c],.agg #[.int .i64 st,.slice ax X.length cx,bd]] W [A,B] (fun _:Unit=> .bool (storF m st l X)) (fun _=>[A,B]):=by
 have hd:=(dirL_ok hl).1
 have he:=(dirL_ok hx).1
 have hv:=(varies_ok hx).1
 (refine S.ref23_Storable_s.cn fun F=>?_;unfold S.ref23_Storable;simp only[ca_,na_])
 refine e_boxA fun b2=>?_
 refine e_boxA fun b3=>?_
 refine o_ v_fa0 (ln_ ?_)
 refine e_call (rdirs hA hl) (.cons (by repeat constructor) .nil) fun r=>?_
 obtain⟨da,dc⟩:=r
 refine nr_ ?_
 (try dsimp only)
 refine o_ v_fa0 (ln_ ?_)
 refine e_call (rdirs hB hx) (.cons (by repeat constructor) .nil) fun r=>?_
 obtain⟨ea,ec⟩:=r
 refine nr_ ?_
 (try dsimp only)
 refine o_ v_fa0 (ln_ ?_)
 refine o_ (v_strne (l:=m) (m:=sGET)) ?_
 by_cases hm:m=sGET
 rotate_left
 ·rw[dT_ hm]
  refine e_gdF1 (e_gdF1 (e_gdF1 (e_gdF1 (e_gdU (e_gdU (e_gdU (e_gdF1 (e_gdF1 (e_gdU (e_gdU (e_gdU (e_gdF1 (e_gdF1 (e_gdU (e_gdU (e_gdU (e_gdF1 (o_ v_pickT (e_condT (e_ret () (by rw[show storF m st l X=false by unfold storF badF;rw[if_pos hm];rfl]) ?_))))))))))))))))))))
  exact im_
 rw[dF_ (fun c=>c hm)]
 have rsE:=fun n=>rsays (W:=W) (D:=dirL X) (n:=n) (a:=ea) (c:=ec) (by omega)
 have rsD:=fun n=>rsays (W:=W) (D:=dirL l) (n:=n) (a:=da) (c:=dc) (by omega)
 refine e_gdT (o_ v_fa0 (e_gdT (ln_ ?_)));refine e_gdT ?_
 have e410:∀n:Int,n∈([200,301,404,410]:List Int)->st=n->([200,301,404,410]:List Int).contains st=true:=fun n hn e=>by rw[e];exact List.contains_iff_mem.2 hn
 by_cases hs:([200,301,404,410]:List Int).contains st=true
 rotate_left
 ·refine o_ v_neq ?_
  rw[dT_ (show st≠200 from fun e=>hs (e410 200 (by simp) e))]
  refine e_gdT (e_gdT (o_ v_fa0 (e_gdT (ln_ ?_))));refine e_gdT (o_ v_neq ?_)
  rw[dT_ (show st≠301 from fun e=>hs (e410 301 (by simp) e))]
  refine e_gdT (o_ v_pickT (e_gdT (e_gdT (o_ v_fa0 (e_gdT (ln_ ?_))))));refine e_gdT (o_ v_neq ?_)
  rw[dT_ (show st≠404 from fun e=>hs (e410 404 (by simp) e))]
  refine e_gdT (o_ v_pickT (e_gdT (e_gdT (o_ v_fa0 (e_gdT (ln_ ?_))))));refine e_gdT (o_ v_neq ?_)
  rw[dT_ (show st≠410 from fun e=>hs (e410 410 (by simp) e))]
  refine e_gdT (o_ v_pickT (o_ v_pickF (e_condT (e_ret () (by rw[show storF m st l X=false by unfold storF badF;rw[if_neg (show ¬(m≠sGET)from fun c=>c hm),Bool.eq_false_iff.2 hs];rfl]) ?_))))
  exact im_
 have hs4:st=200\/st=301\/st=404\/st=410:=by simpa using List.contains_iff_mem.1 hs
 refine' both_ ?_ ?_
 rotate_left
 ·intro main
  refine o_ v_neq ?_
  by_cases h2:st=200
  ·rw[dF_ (fun e=>e h2)]
   exact e_gdT (e_gdF2 (e_gdF2 (e_gdF2 (e_gdT (o_ v_pickF (e_gdT (e_gdF2 (e_gdF2 (e_gdF2 (e_gdT (o_ v_pickF (e_gdT (e_gdF2 (e_gdF2 (e_gdF2 (e_gdT (o_ v_pickF (o_ v_pickF (e_condF main)))))))))))))))))))
  rw[dT_ h2]
  refine e_gdT (e_gdT (o_ v_fa0 (e_gdT (ln_ ?_))));refine e_gdT (o_ v_neq ?_)
  by_cases h3:st=301
  ·rw[dF_ (fun e=>e h3)]
   exact e_gdT (o_ v_pickT (e_gdT (e_gdF2 (e_gdF2 (e_gdF2 (e_gdT (o_ v_pickF (e_gdT (e_gdF2 (e_gdF2 (e_gdF2 (e_gdT (o_ v_pickF (o_ v_pickF (e_condF main)))))))))))))))
  rw[dT_ h3]
  refine e_gdT (o_ v_pickT (e_gdT (e_gdT (o_ v_fa0 (e_gdT (ln_ ?_))))));refine e_gdT (o_ v_neq ?_)
  by_cases h4:st=404
  ·rw[dF_ (fun e=>e h4)]
   exact e_gdT (o_ v_pickT (e_gdT (e_gdF2 (e_gdF2 (e_gdF2 (e_gdT (o_ v_pickF (o_ v_pickF (e_condF main)))))))))
  rw[dT_ h4]
  refine e_gdT (o_ v_pickT (e_gdT (e_gdT (o_ v_fa0 (e_gdT (ln_ ?_))))));refine e_gdT (o_ v_neq ?_)
  have h5:st=410:=by
   rcases hs4 with h|h|h|h
   ·exact absurd h h2
   ·exact absurd h h3
   ·exact absurd h h4
   ·exact h
  rw[dF_ (fun e=>e h5)]
  exact e_gdT (o_ v_pickT (o_ v_pickF (e_condF main)))
 rw[stor_say hm hs]
 obtain⟨FIN,hFIN⟩:∃FIN,FIN=(saysF (dirL X) [sSmax]||(saysF (dirL X) [sMax_]||(comF X [101,120,112,105,114,101,115]||(comF X [101,116,97,103]||comF X [108,97,115,116,45,109,111,100,105,102,105,101,100])))):=⟨_,rfl⟩
 rw[<- hFIN]
 have bad:∀(L:List HP) (b:Bool),b=true->Imp W L (A::B::F)->Ent W L (fun w=>∃x:Unit,(.bool false:Value)= .bool (if b=true then false else if(variesF X).contains [42]=true then false
   else if(comF X [99,111,110,116,101,110,116,45,114,97,110,103,101]||comF X [115,101,116,45,99,111,111,107,105,101])=true then false
   else FIN)/\sat W (A::B::F) w):=fun L b hb hi=>by
  refine e_imp hi ?_
  exact e_ret () (by rw[if_pos hb]) .refl
 obtain⟨SB,hSB⟩:∃SB,SB=(saysF (dirL l) [sNoStore]||(saysF (dirL X) [sNoStore]||(saysF (dirL X) [sPrivate]||(comF l [97,117,116,104,111,114,105,122,97,116,105,111,110]&&(!saysF (dirL X) [sPublic]&&!saysF (dirL X) [sSmax]))))):=⟨_,rfl⟩
 rw[<- hSB]
 refine' both_ ?_ ?_
 rotate_left
 ·intro main
  refine e_call (rsD sNoStore) (.cons (by repeat constructor) .nil) fun _=>?_
  refine nr_ ?_
  cases h1:saysF (dirL l) [sNoStore]with
  |true=>
   rw[h1,Bool.true_or]at hSB
   exact e_gdF1 (e_gdF1 (o_ v_pickT (e_gdF1 (e_gdF1 (o_ v_pickT (e_gdF1 (e_gdF1 (e_gdF1 (e_gdF1 (e_gdU (e_gdU (e_gdU (e_gdF1 (e_gdF1 (e_gdU (e_gdU (e_gdU (e_gdF1 (o_ v_pickT (e_condT (bad _ _ hSB im_)))))))))))))))))))))
  |false=>
  rw[h1,Bool.false_or]at hSB
  refine e_gdT (e_gdT (e_call (rsE sNoStore) (.cons (by repeat constructor) .nil) fun _=>?_))
  refine nr_ ?_
  cases h2:saysF (dirL X) [sNoStore]with
  |true=>
   rw[h2,Bool.true_or]at hSB
   exact o_ v_pickF (e_gdF1 (e_gdF1 (o_ v_pickT (e_gdF1 (e_gdF1 (e_gdF1 (e_gdF1 (e_gdU (e_gdU (e_gdU (e_gdF1 (e_gdF1 (e_gdU (e_gdU (e_gdU (e_gdF1 (o_ v_pickT (e_condT (bad _ _ hSB im_)))))))))))))))))))
  |false=>
  rw[h2,Bool.false_or]at hSB
  refine o_ v_pickF (e_gdT (e_gdT (e_call (rsE sPrivate) (.cons (by repeat constructor) .nil) fun _=>?_)))
  refine nr_ ?_
  cases h3:saysF (dirL X) [sPrivate]with
  |true=>
   rw[h3,Bool.true_or]at hSB
   exact o_ v_pickF (e_gdF1 (e_gdF1 (e_gdF1 (e_gdF1 (e_gdU (e_gdU (e_gdU (e_gdF1 (e_gdF1 (e_gdU (e_gdU (e_gdU (e_gdF1 (o_ v_pickT (e_condT (bad _ _ hSB im_))))))))))))))))
  |false=>
  rw[h3,Bool.false_or]at hSB
  refine o_ v_pickF (e_gdT (o_ v_fa0 (e_gdT (ln_ ?_))));refine e_gdT (e_call (rcom (n:=[97,117,116,104,111,114,105,122,97,116,105,111,110]) hA hl (by decide)) (.cons (by repeat constructor) .nil) fun _=>?_)
  refine nr_ ?_
  cases h4:comF l [97,117,116,104,111,114,105,122,97,116,105,111,110]with
  |false=>
   rw[h4,Bool.false_and]at hSB
   refine e_gdT (e_gdF2 (e_gdF2 (e_gdF2 (e_gdT (o_ v_pickF (e_gdT (e_gdF2 (e_gdF2 (e_gdF2 (e_gdT (o_ v_pickF (o_ v_pickF (e_condF (o_ v_fa0 (ln_ ?_)))))))))))))))
   refine e_imp (M:=Sl 3 140 ea ec (dirL X).length ((dirL X).flatMap pDir)::A::B::pt b3 (.cells #[.int .i64 st,.slice ax X.length cx,bd] 34)::F) im_ ?_
   rw[hSB]
   exact main
  |true=>
  rw[h4,Bool.true_and]at hSB
  refine e_gdT (e_gdT (e_gdT (e_call (rsE sPublic) (.cons (by repeat constructor) .nil) fun _=>?_)))
  refine nr_ ?_
  refine e_gdT (o_ v_not (e_gdT (o_ v_pickT (e_gdT ?_))))
  cases h5:saysF (dirL X) [sPublic]with
  |true=>
   rw[h5,Bool.not_true,Bool.false_and]at hSB
   simp only[Bool.not_true]
   refine e_gdF2 (e_gdF2 (e_gdF2 (e_gdT (o_ v_pickF (o_ v_pickF (e_condF (o_ v_fa0 (ln_ ?_))))))))
   refine e_imp (M:=Sl 3 140 ea ec (dirL X).length ((dirL X).flatMap pDir)::A::B::pt b3 (.cells #[.int .i64 st,.slice ax X.length cx,bd] 34)::F) im_ ?_
   rw[hSB]
   exact main
  |false=>
  rw[h5,Bool.not_false,Bool.true_and]at hSB
  simp only[Bool.not_false]
  refine e_gdT (e_gdT (e_call (rsE sSmax) (.cons (by repeat constructor) .nil) fun _=>?_))
  refine nr_ ?_
  refine e_gdT (o_ v_not (e_gdT (o_ v_pickT (o_ v_pickF ?_))))
  cases h6:saysF (dirL X) [sSmax]with
  |true=>
   rw[h6,Bool.not_true]at hSB
   simp only[Bool.not_true]
   refine e_condF (o_ v_fa0 (ln_ ?_))
   refine e_imp (M:=Sl 3 140 ea ec (dirL X).length ((dirL X).flatMap pDir)::A::B::pt b3 (.cells #[.int .i64 st,.slice ax X.length cx,bd] 34)::F) im_ ?_
   rw[hSB]
   exact main
  |false=>
   rw[h6,Bool.not_false]at hSB
   simp only[Bool.not_false]
   exact e_condT (bad _ _ hSB im_)
 clear hSB bad
 simp only[Bool.false_eq_true,if_false]
 refine e_call (rvaries hB hx) (.cons (by repeat constructor) .nil) fun r=>?_
 obtain⟨va,vc⟩:=r
 refine nr_ ?_
 (try dsimp only)
 obtain⟨V,hV⟩:∃V,V=variesF X:=⟨_,rfl⟩
 rw[<- hV]at hv ⊢
 refine e_slfacts (by(repeat constructor):Pick _ (Sl 1 9 va vc V.length (V.map txt)) _) fun _ _ _ hsl=>?_
 have hN:RdB W (Sl 1 9 va vc V.length (V.map txt)) va V.length (V.map txt):=rd_sl (by rw[List.length_map]) hsl
 refine e_loop1 (fun k y=>pu (∃i:Nat,k+i=V.length/\y= .int .i64 (i:Int)/\(V.take i).contains [42]=false)::Sl 1 9 va vc V.length (V.map txt)::Sl 3 140 ea ec (dirL X).length ((dirL X).flatMap pDir)::A::B::pt b3 (.cells #[.int .i64 st,.slice ax X.length cx,bd] 34)::F) V.length ?_ ?_
 ·refine .pu ⟨0,rfl,rfl,rfl⟩ ?_
  exact im_
 intro k ds y
 refine e_pu .here fun hi=>?_
 obtain⟨i,hki,rfl,hno⟩:=hi
 refine o_ v_len (e_ask v_lss .nil (fun h=>?_) (fun h=>?_))
 ·have hin:i<V.length:=by omega
  obtain⟨g,rfl⟩:=hsl (by omega)
  refine e_condT (o_ (v_ia1 i rfl hin) ?_)
  refine p_op (txt_at hN hin) ?_
  refine o_ (v_streq (m:=[42])) ?_
  by_cases hx:V[i]=[42]
  ·rw[dT_ hx]
   have:V.contains [42]=true:=List.contains_iff_mem.2 (by rw[<- hx];exact List.getElem_mem hin)
   refine e_condT (e_ret () (by rw[this];rfl) ?_)
   exact im_
  ·rw[dF_ hx]
   refine e_condF (ad_ ?_)
   refine e_next1 (k-1) (by omega) (.pu ⟨i+1,by omega,by norm_cast,?_⟩ ?_)
   ·rw[List.take_succ_eq_append_getElem hin]
    rw[Bool.eq_false_iff]at hno ⊢
    intro hc
    rcases List.mem_append.1 (List.contains_iff_mem.1 hc)with hc|hc
    ·exact hno (List.contains_iff_mem.2 hc)
    ·exact hx (List.mem_singleton.1 hc).symm
   exact im_
 have hil:i=V.length:=by omega
 subst hil
 rw[List.take_length]at hno
 rw[hno]
 simp only[Bool.false_eq_true,if_false]
 refine e_condF (o_ v_fa0 (ln_ ?_))
 refine e_call (rcom (n:=[99,111,110,116,101,110,116,45,114,97,110,103,101]) hB hx (by decide)) (.cons (by repeat constructor) .nil) fun _=>?_
 refine nr_ ?_
 cases h7:comF X [99,111,110,116,101,110,116,45,114,97,110,103,101]with
 |true=>
  refine e_gdF1 (e_gdF1 (e_gdF1 (o_ v_pickT (e_condT (e_ret () rfl ?_)))))
  exact im_
 |false=>
 refine e_gdT (o_ v_fa0 (e_gdT (ln_ ?_)));refine e_gdT (e_call (rcom (n:=[115,101,116,45,99,111,111,107,105,101]) hB hx (by decide)) (.cons (by repeat constructor) .nil) fun _=>?_)
 refine nr_ ?_
 refine o_ v_pickF ?_
 cases h8:comF X [115,101,116,45,99,111,111,107,105,101]with
 |true=>
  refine e_condT (e_ret () rfl ?_)
  exact im_
 |false=>
 refine e_condF ?_
 simp only[Bool.or_self,Bool.false_eq_true,if_false]
 rw[hFIN]
 refine e_call (rsE sSmax) (.cons (by repeat constructor) .nil) fun _=>?_
 refine nr_ ?_
 cases h9:saysF (dirL X) [sSmax]with
 |true=>
  refine e_gdF1 (e_gdF1 (o_ v_pickT (e_gdF1 (e_gdF1 (e_gdF1 (o_ v_pickT (e_gdF1 (e_gdF1 (e_gdF1 (o_ v_pickT (e_gdF1 (e_gdF1 (e_gdF1 (o_ v_pickT (e_ret () rfl ?_)))))))))))))))
  exact im_
 |false=>
 refine e_gdT (e_gdT (e_call (rsE sMax_) (.cons (by repeat constructor) .nil) fun _=>?_))
 refine nr_ ?_
 cases h10:saysF (dirL X) [sMax_]with
 |true=>
  refine o_ v_pickF (e_gdF1 (e_gdF1 (e_gdF1 (o_ v_pickT (e_gdF1 (e_gdF1 (e_gdF1 (o_ v_pickT (e_gdF1 (e_gdF1 (e_gdF1 (o_ v_pickT (e_ret () rfl ?_)))))))))))))
  exact im_
 |false=>
 refine o_ v_pickF (e_gdT (o_ v_fa0 (e_gdT (ln_ ?_))));refine e_gdT (e_call (rcom (n:=[101,120,112,105,114,101,115]) hB hx (by decide)) (.cons (by repeat constructor) .nil) fun _=>?_)
 refine nr_ ?_
 cases h11:comF X [101,120,112,105,114,101,115]with
 |true=>
  refine o_ v_pickF (e_gdF1 (e_gdF1 (e_gdF1 (o_ v_pickT (e_gdF1 (e_gdF1 (e_gdF1 (o_ v_pickT (e_ret () rfl ?_)))))))))
  exact im_
 |false=>
 refine o_ v_pickF (e_gdT (o_ v_fa0 (e_gdT (ln_ ?_))));refine e_gdT (e_call (rcom (n:=[101,116,97,103]) hB hx (by decide)) (.cons (by repeat constructor) .nil) fun _=>?_)
 refine nr_ ?_
 cases h12:comF X [101,116,97,103]with
 |true=>
  refine o_ v_pickF (e_gdF1 (e_gdF1 (e_gdF1 (o_ v_pickT (e_ret () rfl ?_)))))
  exact im_
 |false=>
 refine o_ v_pickF (e_gdT (o_ v_fa0 (e_gdT (ln_ ?_))));refine e_gdT (e_call (rcom (n:=[108,97,115,116,45,109,111,100,105,102,105,101,100]) hB hx (by decide)) (.cons (by repeat constructor) .nil) fun _=>?_)
 refine nr_ ?_
 refine o_ v_pickF (e_ret () (by simp) ?_)
 exact im_
theorem rwithout {W:World}{l:List Fd}{N:List (List UInt8)}{a b:Option Addr}{c d:Nat}{A B:HP}(hA:RdF W A a l)(hB:RdB W B b N.length (N.map txt))(hl:hOK l)(hN:N.length<=4194304)(hN2:∀n∈N,n.length<=4194304):
  Cn p_ 17 [.slice a l.length c,.slice b N.length d] W [A,B] (fun r:Option Addr × Nat=> .slice r.1 (withF l N).length r.2)
  (fun r=>[A,B,Sl 2 68 r.1 r.2 (withF l N).length ((withF l N).flatMap pFd)]):=by
 (refine S.ref11_Without_s.cn fun F=>?_;unfold S.ref11_Without;simp only[ca_,na_])
 refine e_loop2 (fun m x y=>[ex fun st:(Option Addr × Nat) × Nat=>all [pu (m+st.2=l.length/\x= .slice st.1.1 (withF (l.take st.2) N).length st.1.2/\y= .int .i64 (st.2:Int)),Sl 2 68 st.1.1 st.1.2 (withF (l.take st.2) N).length ((withF (l.take st.2) N).flatMap pFd),A,B]]++F) l.length ?_ ?_
 ·refine Imp.ex ((none,0),0) (.all ?_)
  refine nr_ ?_
  refine .pu ⟨rfl,rfl,rfl⟩ ?_
  exact imp_nil .refl
 intro m ds x y
 refine nr_ ?_
 refine e_ex Pick.here fun st=>e_all Pick.here ?_
 obtain⟨⟨sa,sc⟩,i⟩:=st
 refine nr_ ?_
 refine e_pu Pick.here fun hi=>?_
 (try dsimp only at hi)
 obtain⟨hmi,rfl,rfl⟩:=hi
 refine o_ v_len (e_ask v_lss .nil (fun h=>?_) (fun h=>?_))
 ·have hil:i<l.length:=by omega
  have hb:=hl.2 _ (List.getElem_mem hil)
  have hat:=fd_at hil
  have hv:=with_take (N:=N) hil
  have hvl:=with_len (l.take i) N
  have hl1:=hl.1
  rw[List.length_take]at hvl
  refine e_condT ?_
  obtain⟨g,o,rfl⟩:=rdF_at hA (Nat.zero_lt_of_lt hil)
  have ldw:RunV p_ W [A] (sLoad 68 (.pointer (some ⟨g,o+i * 2,none⟩))) (vFd l[i]):=ld_fdA hA hil
  generalize l[i]=x at hb hv hat ldw ⊢
  have l0:RunV p_ W [A] (sLoad 9 (.pointer (some ⟨g,o+i * 2+0,none⟩))) (txt x.1):=v_ldRd2 hA hat.1
  refine e_loop2 (fun m x' y=>(ex fun k:Nat=>pu (m+k=N.length/\x'= .bool ((N.take k).any fun n=>eqlF x.1 n)/\y= .int .i64 (k:Int)))::Sl 2 68 sa sc (withF (l.take i) N).length ((withF (l.take i) N).flatMap pFd)::A::B::F) N.length ?_ ?_
  ·refine .ex 0 (.pu ⟨rfl,rfl,rfl⟩ ?_)
   exact im_
  intro m2 ds2 x2 y2
  refine e_ex .here fun k=>e_pu .here fun hk=>?_
  obtain⟨hmk,rfl,rfl⟩:=hk
  refine o_ v_len (e_ask v_lss .nil (fun h2=>?_) (fun h2=>?_))
  ·have hkl:k<N.length:=by omega
   have hst:((N.take (k+1)).any fun n=>eqlF x.1 n)=(((N.take k).any fun n=>eqlF x.1 n)||eqlF x.1 N[k]):=by
    rw[List.take_succ_eq_append_getElem hkl,List.any_append]
    simp
   have hnk:=hN2 _ (List.getElem_mem hkl)
   obtain⟨g',o',rfl,_⟩:=hB.at_ (by omega)
   have ln:RunV p_ W [B] (sLoad 9 (.pointer (some ⟨g',o'+k,none⟩))) (txt N[k]):=v_ldRd hB (by rw[List.getElem?_map,List.getElem?_eq_getElem hkl];rfl)
   refine e_condT (e_drS ?_)
   cases hm:((N.take k).any fun n=>eqlF x.1 n)with
   |true=>
    rw[hm,Bool.true_or]at hst
    refine e_gdF1 (e_gdF1 (e_gdF1 (e_gdF1 (e_gdF1 (e_gdF1 (e_gdF1 (e_gdF1 (e_gdF1 (e_gdF1 (t_ v_pickT (ad_ ?_)))))))))))
    refine e_next2 (m2-1) (by omega) (.ex (k+1) (.pu ⟨by omega,by rw[hst],rfl⟩ ?_))
    exact im_
   |false=>
    rw[hm,Bool.false_or]at hst
    refine e_gdT (e_gdT (e_gdT (t_ (v_ia i rfl hil) ?_)))
    refine e_gdT (t_ v_fa (e_gdT (p_st l0 ?_)))
    refine e_gdT (e_gdT (e_gdT (t_ (v_ia1 k rfl hkl) ?_)))
    refine e_gdT (p_st ln ?_)
    refine e_gdT (e_call (requal (a:=x.1) (b:=N[k]) (by omega) (by omega)) .nil fun _=>?_)
    refine nr_ ?_
    refine t_ v_pickF (ad_ ?_)
    refine e_next2 (m2-1) (by omega) (.ex (k+1) (.pu ⟨by omega,by rw[hst],rfl⟩ ?_))
    exact im_
  ·have hke:k=N.length:=by omega
   subst hke
   rw[List.take_length]
   refine e_condF (o_ v_not ?_)
   have hne:(!N.any fun n=>eqlF x.1 n)=noneF N x:=rfl
   rw[hne]
   cases hx:noneF N x with
   |true=>
    rw[hx,if_pos rfl]at hv
    refine e_condT (o_ (v_ia i rfl hil) ?_)
    refine p_op ldw ?_
    refine e_bslS (n:=1) (vs:=[vFd x]) rfl (by decide) rfl (by intro v hv;rw[List.mem_singleton.1 hv];rfl) (by decide) fun gb=>?_
    refine e_app (m:=1) (news:=pFd x) (by repeat constructor) (src_pt (s:=2) (e':=68) (by kernel_rfl) .here (by rfl) (by intro u hu;simp[vFd,Value.cells]at hu;rcases hu with rfl|rfl <;> rfl)) (by omega) (by omega) fun a' c'=>?_
    refine ad_ ?_
    refine e_next2 (m-1) (by omega) (.ex ((a',c'),i+1) (.all ?_))
    refine nr_ ?_
    (try dsimp only)
    rw[hv,List.length_append,List.flatMap_append]
    refine .pu ⟨by omega,rfl,rfl⟩ ?_
    simp only[List.flatMap_cons,List.flatMap_nil,List.append_nil,List.length_cons,List.length_nil,Nat.zero_add]
    exact im_
   |false=>
    rw[hx,if_neg (by decide),List.append_nil]at hv
    refine e_condF (ad_ ?_)
    refine e_next2 (m-1) (by omega) (.ex ((sa,sc),i+1) (.all ?_))
    refine nr_ ?_
    (try dsimp only)
    rw[hv]
    refine .pu ⟨by omega,rfl,rfl⟩ ?_
    exact im_
 ·have:i=l.length:=by omega
  subst this
  rw[List.take_length]
  refine e_condF (rt_ ((sa,sc)) ?_)
  exact im_
def alikF (R1 R2 X:List Fd):Bool:=(variesF X).all fun n=>decide (valsF R1 n=valsF R2 n)
theorem alike_ {W:World}{m1 t1 m2 t2:List UInt8}{i1 i2 st:Int}{R1 R2 X:List Fd}{a1 a2 ax:Option Addr}{c1 c2 cx:Nat}{bd:Value}[OC bd]{A1 A2 B:HP}(h1:RdF W A1 a1 R1)(hz1:zF R1<=1048576)(h2:RdF W A2 a2 R2)(hz2:zF R2<=1048576)(hB:RdF W B ax X)(hx:zF X<=1048576):
  Cn p_ 15 [.agg #[txt m1,txt t1,.int .i64 i1,.slice a1 R1.length c1],.agg #[txt m2,txt t2,.int .i64 i2,.slice a2 R2.length c2],.agg #[.int .i64 st,.slice ax X.length cx,bd]] W [A1,A2,B] (fun _:Unit=> .bool (alikF R1 R2 X)) (fun _=>[A1,A2,B]):=by
 obtain⟨n1,n2⟩:=varies_ok hx
 have hok1:=z_ok (l:=R1) (by omega)
 have hok2:=z_ok (l:=R2) (by omega)
 have hl1:=z_len R1
 (refine S.law23_alike_s.cn fun F=>?_;unfold S.law23_alike;simp only[ca_,na_])
 refine e_boxA fun b3=>?_
 refine e_boxA fun b4=>?_
 refine e_boxA fun b5=>?_
 refine o_ v_fa0 (ln_ ?_)
 refine e_call (rvaries hB hx) (.cons (by repeat constructor) .nil) fun v=>?_
 obtain⟨na,nc⟩:=v
 refine nr_ ?_
 (try dsimp only)
 have hfit:alikF R1 R2 X=(variesF X).all fun n=>decide (valsF R1 n=valsF R2 n):=rfl
 rw[hfit]
 obtain⟨V,hV⟩:∃V,V=variesF X:=⟨_,rfl⟩
 rw[<- hV]at n1 n2 ⊢
 refine e_slfacts (by(repeat constructor):Pick _ (Sl 1 9 na nc V.length (V.map txt)) _) fun _ _ _ hs=>?_
 have hN:RdB W (Sl 1 9 na nc V.length (V.map txt)) na V.length (V.map txt):=rd_sl (by rw[List.length_map]) hs
 refine e_loop1 (fun m y=>pu (∃i:Nat,m+i=V.length/\y= .int .i64 (i:Int)/\(V.take i).all (fun n=>decide (valsF R1 n=valsF R2 n))=true)::A1::A2::B::Sl 1 9 na nc V.length (V.map txt)::pt b3 (.cells #[txt m1,txt t1,.int .i64 i1,.slice a1 R1.length c1] 31)::pt b4 (.cells #[txt m2,txt t2,.int .i64 i2,.slice a2 R2.length c2] 31)::F) V.length ?_ ?_
 ·refine .pu ⟨0,rfl,rfl,rfl⟩ ?_
  exact im_
 intro m ds y
 refine e_pu .here fun hi=>?_
 obtain⟨i,hmi,rfl,hall⟩:=hi
 refine o_ v_len (e_ask v_lss .nil (fun h=>?_) (fun h=>?_))
 rotate_left
 ·have:i=V.length:=by omega
  subst this
  rw[List.take_length]at hall
  refine e_condF (e_ret () (by rw[hall]) ?_)
  exact im_
 have hin:i<V.length:=by omega
 have hta:=List.take_succ_eq_append_getElem hin
 have hvn:=n2 _ (List.getElem_mem hin)
 obtain⟨ng,rfl⟩:=hs (by omega)
 refine e_condT (e_drS (t_ v_fa0 (ls_ ?_)))
 refine t_ (v_ia1 i rfl hin) ?_
 refine p_st (txt_at hN hin) ?_
 refine e_call (rvalues (n:=V[i]) h1 hok1 (by omega)) (.cons (by repeat constructor) .nil) fun r=>?_
 obtain⟨r1,r2⟩:=r
 refine nr_ ?_
 (try dsimp only)
 refine e_drS (t_ v_fa0 (ls_ ?_))
 refine t_ (v_ia1 i rfl hin) ?_
 refine p_st (txt_at hN hin) ?_
 refine e_call (rvalues (n:=V[i]) h2 hok2 (by omega)) (.cons (by repeat constructor) .nil) fun s=>?_
 obtain⟨s1,s2⟩:=s
 refine nr_ ?_
 (try dsimp only)
 have hvl:=vals_len R1 V[i]
 obtain⟨P1,hP1⟩:∃P,P=valsF R1 V[i]:=⟨_,rfl⟩
 obtain⟨P2,hP2⟩:∃P,P=valsF R2 V[i]:=⟨_,rfl⟩
 rw[<- hP1]at hvl
 rw[<- hP1,<- hP2]
 have hne:P1≠P2->(V.all fun n=>decide (valsF R1 n=valsF R2 n))=false:=fun e=>Bool.eq_false_iff.2 fun c=>e (by rw[hP1,hP2];simpa using List.all_eq_true.1 c _ (List.getElem_mem hin))
 refine o_ v_len (o_ v_len (e_ask v_neq .nil (fun hq=>?_) (fun hq=>?_)))
 ·refine e_condT (e_ret () (by rw[hne (fun e=>hq (by rw[e]))]) ?_)
  exact im_
 have hlen:P1.length=P2.length:=by omega
 refine e_condF (e_slfacts (by(repeat constructor):Pick _ (Sl 1 9 r1 r2 P1.length (P1.map txt)) _) fun _ _ _ ha=>?_)
 refine e_slfacts (by(repeat constructor):Pick _ (Sl 1 9 s1 s2 P2.length (P2.map txt)) _) fun _ _ _ hb=>?_
 have hM1:RdB W (Sl 1 9 r1 r2 P1.length (P1.map txt)) r1 P1.length (P1.map txt):=rd_sl (by rw[List.length_map]) ha
 have hM2:RdB W (Sl 1 9 s1 s2 P2.length (P2.map txt)) s1 P2.length (P2.map txt):=rd_sl (by rw[List.length_map]) hb
 refine e_loop1 (fun k y=>pu (∃j:Nat,k+j=P1.length/\y= .int .i64 (j:Int)/\P1.take j=P2.take j)::Sl 1 9 r1 r2 P1.length (P1.map txt)::Sl 1 9 s1 s2 P2.length (P2.map txt)::A1::A2::B::Sl 1 9 (some ⟨ng,0,none⟩) nc V.length (V.map txt)::pt b3 (.cells #[txt m1,txt t1,.int .i64 i1,.slice a1 R1.length c1] 31)::pt b4 (.cells #[txt m2,txt t2,.int .i64 i2,.slice a2 R2.length c2] 31)::F) P1.length ?_ ?_
 ·refine .pu ⟨0,rfl,rfl,rfl⟩ ?_
  exact im_
 intro k ds2 y2
 refine e_pu .here fun hi=>?_
 obtain⟨j,hkj,rfl,heq⟩:=hi
 refine o_ v_len (e_ask v_lss .nil (fun hj=>?_) (fun hj=>?_))
 ·have hjl:j<P1.length:=by omega
  have hjm:j<P2.length:=by omega
  obtain⟨ga,rfl⟩:=ha (by omega)
  obtain⟨gb,rfl⟩:=hb (by omega)
  refine e_condT (e_drS (t_ (v_ia1 j rfl hjl) ?_))
  refine p_st (txt_at hM1 hjl) ?_
  refine t_ (v_ia1 j rfl hjm) ?_
  refine p_st (txt_at hM2 hjm) ?_
  refine t_ v_strne ?_
  by_cases hx2:P1[j]=P2[j]
  ·rw[dF_ (by simp[hx2])]
   refine e_condF (ad_ ?_)
   refine e_next1 (k-1) (by omega) (.pu ⟨j+1,by omega,by norm_cast,by rw[List.take_succ_eq_append_getElem hjl,List.take_succ_eq_append_getElem hjm,heq,hx2]⟩ ?_)
   exact im_
  ·rw[dT_ hx2]
   refine e_condT (e_ret () (by rw[hne (fun e=>hx2 (by simp only[e]))]) ?_)
   exact im_
 have:j=P1.length:=by omega
 subst this
 rw[List.take_length,hlen,List.take_length]at heq
 refine e_condF (ad_ ?_)
 refine e_next1 (m-1) (by omega) (.pu ⟨i+1,by omega,by norm_cast,by rw[hta,List.all_append,hall];simp[<- hP1,<- hP2,heq]⟩ ?_)
 exact im_
theorem eqlF_comm {a b:List UInt8}:eqlF a b=eqlF b a:=by
 unfold eqlF
 congr 1 <;> exact decide_eq_decide.2 eq_comm
theorem vals_pick {R:List Fd}{V:List (List UInt8)}{n:List UInt8}(h:n∈V):valsF (pickF R V) n=valsF R n:=by
 unfold valsF pickF
 rw[List.filter_filter]
 congr 1
 apply List.filter_congr
 intro f _
 cases hf:eqlF f.1 n with
 |false=>rfl
 |true=>
  have:(V.any fun n=>eqlF n f.1)=true:=List.any_eq_true.2 ⟨n,h,by rw[eqlF_comm];exact hf⟩
  rw[this]
  rfl
theorem fits_alik {e:En}{R1 R:List Fd}(hv:e.vf=pickF R1 (variesF e.xf))(h:fitsF e R=true):alikF R1 R e.xf=true:=by
 unfold fitsF at h
 unfold alikF
 refine List.all_eq_true.2 fun n hn=>?_
 have:=List.all_eq_true.1 h n hn
 rw[hv,vals_pick hn]at this
 exact this
def sAgl:List UInt8:=[97,103,101]
theorem without_out {X:List Fd}{d:List UInt8}:withF (withF X [sAge]++[(sAge,d)]) [sAgl]=withF X [sAgl]:=by
 have hn:∀f:Fd,noneF [sAge] f=noneF [sAgl] f:=fun f=>by
  unfold noneF
  simp only[List.all_cons,List.all_nil,List.any_cons,List.any_nil]
  rw[eql_low (a:=f.1) (m:=sAge) (n:=sAgl) (by decide)]
 have hf:withF X [sAge]=withF X [sAgl]:=by
  unfold withF
  exact List.filter_congr fun f _=>hn f
 unfold withF at hf ⊢
 rw[List.filter_append,hf,List.filter_filter]
 have h1:List.filter (noneF [sAgl]) [(sAge,d)]=[]:=by
  have:noneF [sAgl] (sAge,d)=false:=by
   show(![sAgl].any fun n=>eqlF sAge n)=false
   decide
  simp[this]
 rw[h1,List.append_nil]
 exact List.filter_congr fun f _=>by simp
theorem paN_b (now:Int)(l:List UInt8):0<=D.paN now l/\D.paN now l<=253402300799:=by
 unfold D.paN
 cases h:D.paR now l with
 |none=>exact⟨by decide,by decide⟩
 |some n=>
  have:=D.par_pt h
  exact this.1
theorem wr_in {n:Int}(h1: -9223372036854775808<=n)(h2:n<=9223372036854775807):wr n=n:=Sl.w64 h1 h2
theorem ageF_b (X:List Fd)(asked came now:Int):0<=ageF X asked came now/\ageF X asked came now<=9000000000000:=by
 have c1:=cl40_b asked
 have c2:=cl40_b came
 have c3:=cl40_b now
 have hp:=paN_b (cl40 came) (firstF X sDate).1
 have hd:=dec_nn' (firstF X sAge).1
 have hw:wr (cl40 came-(daP X sDate (cl40 came)).1)=cl40 came-(daP X sDate (cl40 came)).1:=wr_in (by unfold daP;(try dsimp only);omega) (by unfold daP;(try dsimp only);omega)
 unfold ageF
 rw[hw]
 have hq:(daP X sDate (cl40 came)).1=D.paN (cl40 came) (firstF X sDate).1:=rfl
 rw[hq]
 generalize D.paN (cl40 came) (firstF X sDate).1=p at hp
 generalize (decF (firstF X sAge).1).1=d at hd ⊢
 generalize (daP X sDate (cl40 came)).2=b
 generalize (decF (firstF X sAge).1).2=d2
 have:∀n:Int,0<=n->n<=9000000000000->0<=wr n/\wr n<=9000000000000:=fun n h1 h2=>by rw[wr_in (by omega) (by omega)];exact⟨h1,h2⟩
 refine this _ ?_ ?_
 ·cases b <;> simp only[Bool.false_eq_true,if_false,if_true] <;> split <;> omega
 ·cases b <;> simp only[Bool.false_eq_true,if_false,if_true] <;> split <;> omega
theorem sec_b (D:List Dir)(s:List UInt8):0<=(secF D s).1/\(secF D s).1<=2147483648:=by
 unfold secF
 split
 ·rename_i d _
  show 0<=secV d/\secV d<=2147483648
  have:=dec_nn' d.value
  unfold secV
  split
  ·omega
  ·split <;> omega
 ·exact⟨by decide,by decide⟩
theorem cl_cl (n:Int):cl40 (cl40 n)=cl40 n:=by unfold cl40;omega
theorem young {e:En}{R:List Fd}{now:Int}(h:staleF e R now=false):ageF e.xf e.asked e.came now<lifeF e.xf e.came:=by
 have ha:=ageF_b e.xf e.asked e.came now
 have hs:=sec_b (dirL R) sMinF
 unfold staleF at h
 split at h
 ·cases h
 split at h
 ·cases h
 split at h
 ·cases h
 split at h
 ·cases h
 rename_i hn
 rw[wr_in (by omega) (by omega)]at hn
 omega
theorem age_cl (X:List Fd)(a c n:Int):ageF X (cl40 a) (cl40 c) n=ageF X a c n:=by unfold ageF;rw[cl_cl,cl_cl]
theorem eqFd (x y:Fd):∀w,(Op.eqFields 9999 (pFd x).toArray (pFd y).toArray (p_.fieldsOf 68).toList).run p_ w= .ok (decide (x.1=y.1)&&(decide (x.2=y.2)&&(true))) w:=fun w=>by
 have hf:(p_.fieldsOf 68).toList=(#[⟨"Name",9,0,false,"","",0⟩,⟨"Value",9,1,false,"","",16⟩]:Array Field).toList:=by kernel_rfl
 rw[hf]
 exact eqS x.1 y.1 (by decide) (by rfl) (by rfl) (by rfl) (eqS x.2 y.2 (by decide) (by rfl) (by rfl) (by rfl) (eqEnd))
theorem v_fdNe {W:World}{ox oy:Operand}(x y:Fd):RunV p_ W [] (sEq .neq 68 ox oy (vFd x) (vFd y)) (.bool (!decide (x=y))):=by
 have h:=v_agNe (W:=W) (t:=68) (ox:=ox) (oy:=oy) (by kernel_rfl) (by kernel_rfl) (by kernel_rfl) (eqFd x y)
 have e:decide (x=y)=(decide (x.1=y.1)&&(decide (x.2=y.2)&&(true))):=by
  rw[Bool.eq_iff_iff]
  simp[Prod.ext_iff]
 rw[e]
 exact h
theorem fields11 {W:World}{l m:List Fd}{a b:Option Addr}{c d:Nat}{A B:HP}(hA:RdF W A a l)(hB:RdF W B b m)(hl:l.length<=1099511627776)(hm:m.length<=1099511627776):Cn p_ 16 [.slice a l.length c,.slice b m.length d] W [A,B] (fun _:Unit=> .bool (decide (l=m))) (fun _=>[A,B]):=by
 (refine S.law11_Fields_s.cn fun F=>?_;unfold S.law11_Fields;simp only[ca_,na_])
 refine o_ v_len (o_ v_len (e_ask v_neq .nil (fun h=>?_) (fun h=>?_)))
 ·refine e_condT (e_ret () (by rw[dF_];intro e;apply h;rw[e]) ?_)
  exact im_
 have hlen:l.length=m.length:=by omega
 refine e_condF (e_loop1 (fun k y=>pu (∃i:Nat,k+i=l.length/\y= .int .i64 (i:Int)/\l.take i=m.take i)::A::B::F) l.length ?_ ?_)
 ·refine .pu ⟨0,rfl,rfl,rfl⟩ ?_
  exact im_
 intro k ds y
 refine e_pu .here fun hi=>?_
 obtain⟨i,hki,rfl,heq⟩:=hi
 refine o_ v_len (e_ask v_lss .nil (fun h=>?_) (fun h=>?_))
 ·have hil:i<l.length:=by omega
  have him:i<m.length:=by omega
  obtain⟨ga,oa,rfl⟩:=rdF_at hA (by omega)
  obtain⟨gb,ob,rfl⟩:=rdF_at hB (by omega)
  refine e_condT (e_drS (t_ (v_ia i rfl hil) ?_))
  refine p_st (ld_fdA hA hil) ?_
  refine t_ (v_ia i rfl him) ?_
  refine p_st (ld_fdA hB him) ?_
  refine t_ (v_fdNe l[i] m[i]) ?_
  by_cases hx:l[i]=m[i]
  ·rw[dT_ hx]
   refine e_condF (ad_ ?_)
   refine e_next1 (k-1) (by omega) (.pu ⟨i+1,by omega,by norm_cast,by rw[List.take_succ_eq_append_getElem hil,List.take_succ_eq_append_getElem him,heq,hx]⟩ ?_)
   exact im_
  ·rw[dF_ hx]
   refine e_condT (e_ret () (by rw[dF_];rintro rfl;exact hx rfl) ?_)
   exact im_
 ·have:i=l.length:=by omega
  subst this
  rw[List.take_length,hlen,List.take_length]at heq
  refine e_condF (e_ret () (by rw[dT_ heq]) ?_)
  exact im_
theorem e_cut3 {W:World}{L:List HP}{body:(Value->Value->Value->WP)->WP}{rest:List Value->Value->Value->Value->WP}(J:Value->Value->Value->List HP)(hr:∀ds x y z,Ent W (J x y z) (rest ds x y z))(hb:Ent W L (body fun x y z w=>sat W (J x y z) w)):Ent W L (cut3 body rest):=fun w hw=>⟨fun x y z w=>sat W (J x y z) w,fun ds x y z w' hw'=>hr ds x y z w' hw',hb w hw⟩
def Src (l:List Op)(i:Nat)(Z:Cs):Prop:=∀g∈Z.ord,∃k o,k<i/\l[k]? =some o/\o.kind=0/\storF o.m o.st o.R o.X=true/\Z.E g=newE o.key o.m o.R o.X o.D o.st o.asked o.came
theorem src_up {l:List Op}{i j:Nat}{Z:Cs}(h:Src l i Z)(hij:i<=j):Src l j Z:=fun g hg=>by
 obtain⟨k,o,h1,h2⟩:=h g hg
 exact⟨k,o,by omega,h2⟩
theorem src_look {l:List Op}{i T:Nat}{Z:Cs}{key:List UInt8}{R:List Fd}{now:Int}(hZ:CsOk T Z)(h:Src l i Z):Src l i (lookF Z key R now).S:=by
 unfold lookF
 cases hf:findF Z key R with
 |none=>exact h
 |some g=>exact fun x hx=>h x ((touch_mem (hZ.fo key g (find_mem hf).1).1).1 hx)
theorem src_store {l:List Op}{i T:Nat}{Z Z':Cs}{o:Op}(hZ:CsOk T Z)(h:Src l i Z)(ho:l[i]? =some o)(hk:o.kind=0)(hr:StR T Z o.key o.m o.R o.X o.D o.st o.asked o.came Z'):Src l (i+1) Z':=by
 obtain⟨_,hr⟩:=hr
 split at hr
 ·rename_i hb
  obtain⟨g,Y,hs,hgY,rfl⟩:=hr
  intro x hx
  rcases List.mem_append.1 hx with hx|hx
  ·have hxo:=hs.ord x hx
   have hxg:x≠g:=by rintro rfl;exact hgY (by rw[hs.al];exact hZ.oa _ hxo)
   obtain⟨k,o',h1,h2,h3,h4,h5⟩:=h x hxo
   refine⟨k,o',by omega,h2,h3,h4,?_⟩
   show(if x=g then _ else Y.E x)=_
   rw[if_neg hxg,hs.E]
   exact h5
  ·rw[List.mem_singleton.1 hx]
   refine⟨i,o,by omega,ho,hk,?_,if_pos rfl⟩
   unfold stoB at hb
   exact(Bool.and_eq_true _ _▸hb).1
 ·rw[hr]
  exact src_up h (by omega)
def bdS (n:Int):Int:=(n.tmod 100000+100000)%100000
set_option maxRecDepth 20000 in
theorem cacheServes {W : World} [hG : Gl W] [hP : Gp W] {n : Int} {l : List Op} {a : Option Addr} {cc : Nat} (hO : ∀ A, RdB W A a (l.length * 11) (l.flatMap pOp)) (hok : ∀ o ∈ l, OpOk W o) (hs : sumO l ≤ 1048576) :
    Cn p_ 3 [.int .i64 n, .slice a l.length cc] W [] (fun _ : Unit => .bool true) (fun _ => []) := by
  have t1 : -100000 < n.tmod 100000 ∧ n.tmod 100000 < 100000 := ⟨Int.lt_tmod_of_pos n (by decide), Int.tmod_lt_of_pos n (by decide)⟩
  have hbd : 0 ≤ bdS n ∧ bdS n < 100000 := by unfold bdS; omega
  have hll : l.length ≤ 1048576 := by
    have : l.length ≤ sumO l := by
      unfold sumO
      clear hO hok hs
      induction l with
      | nil => simp
      | cons o r ih => simp only [List.length_cons, List.map_cons, List.sum_cons]; have : 1 ≤ opM o := by unfold opM; omega
                       omega
    omega
  (refine S.law23_CacheServes_s.cn fun F => ?_; unfold S.law23_CacheServes; simp only [ca_, na_])
  refine o_ (v_remt (by decide)) ?_
  refine ad_ ?_
  refine o_ (v_rem (by omega) (by decide)) ?_
  rw [show (n.tmod 100000 + 100000) % 100000 = bdS n from rfl]
  refine e_call (new (b := bdS n) (by omega) (by omega)) .nil fun c => ?_
  refine nr_ ?_
  refine xt_ ?_; refine xt_ ?_
  refine e_call num_ .nil fun _ => ?_
  refine nr_ ?_
  refine o_ v_neq ?_
  rw [dF_ (by decide)]
  refine e_gdT (e_gdT (o_ v_eqNil1 ?_)); refine o_ v_pickF (e_gdT (c_ knows fun _ => ?_))
  refine e_gdT (o_ v_notT (o_ v_pickF (e_condF (e_imp (M := pu True :: pu True :: IsC c (emptyS (bdS n)) :: F) (.pu trivial (.pu trivial im_)) ?_))))
  refine e_loop1 (fun k y => [ex fun x : Nat × Cs => all [pu (k + x.1 = l.length ∧ y = .int .i64 (x.1 : Int) ∧ CsOk (sumO (l.take x.1)) x.2 ∧ Src l x.1 x.2), IsC c x.2, pu True, pu True]] ++ F) l.length ?_ ?_
  · refine .ex (0, emptyS (bdS n)) (.all ?_)
    refine nr_ ?_
    refine .pu ⟨rfl, rfl, (empty_ok (by omega) (by omega)), fun g hg => by cases hg⟩ ?_
    exact im_
  intro k ds y
  refine nr_ ?_
  refine e_ex Pick.here fun x => e_all Pick.here ?_
  obtain ⟨i, Z⟩ := x
  refine nr_ ?_
  refine e_pu Pick.here fun hi => ?_
  obtain ⟨hki, rfl, hZ, hsrc⟩ := hi
  (try dsimp only at hki hZ hsrc)
  refine o_ v_len (e_ask v_lss .nil (fun h => ?_) (fun h => ?_))
  rotate_left
  · refine e_condF ?_
    refine e_retT () ?_
    exact im_
  have hin : i < l.length := by omega
  have hst := sumO_take hin
  have hle := sumO_le l (i + 1)
  obtain ⟨ga, oa, rfl, _⟩ := (hO (pu True)).at_ (by omega)
  have hoo := hok _ (List.getElem_mem hin)
  have hld := ld_op (hO (pu True)) hin
  obtain ⟨o, ho⟩ : ∃ o, o = l[i] := ⟨_, rfl⟩
  rw [← ho] at hoo hst hld
  obtain ⟨kd, key, m, t, mi, R, ra, rc, st, X, xa, xc, D, da, dc, ak, cm⟩ := o
  obtain ⟨hR, hra, hX, hxa, hD, hda, ha1, ha2⟩ := hoo
  (try dsimp only at hR hra hX hxa hD hda ha1 ha2)
  unfold opM at hst
  (try dsimp only at hst)
  refine e_condT (o_ (v_ia i rfl hin) ?_)
  refine p_op hld ?_
  unfold pOp
  (try dsimp only)
  refine e_newA fun b8 => ?_
  refine e_stAgg (by repeat constructor) (by rfl) (by rfl) (by intro u hu; simp at hu; rcases hu with rfl | rfl | rfl | rfl | rfl | rfl | rfl | rfl | rfl | rfl | rfl <;> rfl) ?_
  have hzR := z_len R
  have hzX := z_len X
  have hZ' : CsOk (sumO (l.take (i + 1))) Z := hZ.up (by omega) (by omega)
  refine o_ v_fa0 (ln_ ?_)
  refine e_ask v_eql .nil (fun hk0 => ?_) (fun hk0 => ?_)
  · refine e_condT ?_
    refine e_drS (e_stD v_fa0 .nil ?_); (((refine' e_stD (v_ldN ?hc) ?hi ?_); (case hi => exact .pick (by repeat constructor) .nil); (case hc => repeat constructor))); refine t_ v_fa0 (p_st ld_opR ?_)
    refine e_stD v_fa0 .nil ?_
    refine e_stD ld_opX (.pick (by repeat constructor) .nil) ?_
    refine e_stD v_fa0 .nil ?_; (((refine' e_stD (v_ldN ?hc) ?hi ?_); (case hi => exact .pick (by repeat constructor) .nil); (case hc => repeat constructor))); refine e_stD v_fa0 .nil ?_; (((refine' e_stD (v_ldN ?hc) ?hi ?_); (case hi => exact .pick (by repeat constructor) .nil); (case hc => repeat constructor)))
    refine e_call (asks (m := txt m) (t := txt t) (mi := .int .i64 mi) (hR (pu True)) hra (by omega)) (.cons (by repeat constructor) .nil) fun q => ?_
    obtain ⟨qa, qc⟩ := q
    refine nr_ ?_
    (try dsimp only)
    refine ob_ ?_; refine ob_ ?_; refine ob_ ?_; refine ob_ ?_; refine ob_ ?_; refine ob_ ?_; refine ob_ ?_; refine ob_ ?_
    refine e_call (copied (st := st) (hX (pu True)) hxa (by omega) (hD (pu True)) hda (by omega)) (.cons (by repeat constructor) (.cons (by repeat constructor) .nil)) fun q => ?_
    obtain ⟨⟨ea, ec⟩, fa, fc⟩ := q
    refine nr_ ?_
    (try dsimp only)
    refine ob_ ?_; refine ob_ ?_; refine ob_ ?_; refine ob_ ?_; refine ob_ ?_; refine ob_ ?_
    refine e_slfacts (by (repeat constructor) : Pick _ (Sl 2 68 qa qc R.length (R.flatMap pFd)) _) fun _ _ _ h1 => ?_
    refine e_slfacts (by (repeat constructor) : Pick _ (Sl 2 68 ea ec X.length (X.flatMap pFd)) _) fun _ _ _ h2 => ?_
    refine e_slfacts (by (repeat constructor) : Pick _ (Sl 1 5 fa fc D.length (D.map Sl.B)) _) fun _ _ _ h3 => ?_
    refine e_call (store (key := key) (m := m) (tg := t) (mi := mi) (R := R) (X := X) (D := D) (st := st) (asked := ak) (came := cm) hZ' (rdF_any (c := qc) h1) (nnS h1) (rdF_any (c := ec) h2) (nnS h2) (rd_sl (e := 5) (a := fa) (cap := fc) (by rw [List.length_map]) h3) (nnS h3) (by omega) (by omega) (by omega) (by omega)) (.cons (by repeat constructor) (.cons (by repeat constructor) (.cons (by repeat constructor) (.cons (by repeat constructor) .nil)))) fun r => ?_
    obtain ⟨Y, hY⟩ := r
    refine nr_ ?_
    (try dsimp only)
    refine ad_ ?_
    refine e_next1 (k - 1) (by omega) (.ex (i + 1, Y) (.all ?_))
    refine nr_ ?_
    refine .pu ⟨by omega, by norm_cast, hY.1, src_store hZ' hsrc (o := ⟨kd, key, m, t, mi, R, ra, rc, st, X, xa, xc, D, da, dc, ak, cm⟩) (by rw [ho, List.getElem?_eq_getElem hin]) hk0 hY⟩ ?_
    exact im_
  refine e_condF ?_
  have hRd := hO
  obtain ⟨O, hO⟩ : ∃ O, O = lookF Z key R cm := ⟨_, rfl⟩
  refine e_cut3 (fun x y z => [ex fun q : (Q2 × Q2) × Nat => all [pu (x = pE q.2 ∧ y = .int .i64 O.age ∧ z = .int .i64 O.state), pt q.2 (.cells #[.int .i64 O.st, .slice q.1.1.1 O.xf.length q.1.1.2, .slice q.1.2.1 O.xb.length q.1.2.2] 34), Sl 2 68 q.1.1.1 q.1.1.2 O.xf.length (O.xf.flatMap pFd), Sl 1 5 q.1.2.1 q.1.2.2 O.xb.length (O.xb.map Sl.B), IsC c O.S, pt b8 (.cells #[.int .i64 kd, txt key, txt m, txt t, .int .i64 mi, .slice ra R.length rc, .int .i64 st, .slice xa X.length xc, .slice da D.length dc, .int .i64 ak, .int .i64 cm] 36), pu True, pu True]] ++ F) ?_ ?_
  rotate_left
  · refine e_drS ?_
    refine e_stD v_fa0 .nil ?_; (((refine' e_stD (v_ldN ?hc) ?hi ?_); (case hi => exact .pick (by repeat constructor) .nil); (case hc => repeat constructor))); refine e_stD v_fa0 .nil ?_
    refine e_stD ld_opR (.pick (by repeat constructor) .nil) ?_
    refine e_stD v_fa0 .nil ?_; (((refine' e_stD (v_ldN ?hc) ?hi ?_); (case hi => exact .pick (by repeat constructor) .nil); (case hc => repeat constructor)))
    refine e_andS ?_ ?_
    · refine e_call (asks (m := txt m) (t := txt t) (mi := .int .i64 mi) (hR (pu True)) hra (by omega)) (.cons (by repeat constructor) .nil) fun q => ?_
      obtain ⟨qa, qc⟩ := q
      refine nr_ ?_
      (try dsimp only)
      refine ob_ ?_; refine ob_ ?_; refine ob_ ?_; refine ob_ ?_
      refine e_slfacts (by (repeat constructor) : Pick _ (Sl 2 68 qa qc R.length (R.flatMap pFd)) _) fun _ _ _ h1 => ?_
      refine e_andS ?_ ?_
      · refine e_call (look (key := key) (m := m) (tg := t) (mi := mi) (R := R) (now := cm) hZ' (rdF_any (c := qc) h1) (by omega)) (.cons (by repeat constructor) (.cons (by repeat constructor) .nil)) fun q => ?_
        rw [← hO]
        obtain ⟨⟨oa, oc⟩, pa, pc⟩ := q
        unfold lkV
        refine nr_ ?_
        (try dsimp only)
        (((refine' e_stD (v_extN ?hc) .nil ?_); (case hc => repeat constructor))); (((refine' e_stD (v_extN ?hc) .nil ?_); (case hc => repeat constructor))); (((refine' e_stD (v_extN ?hc) .nil ?_); (case hc => repeat constructor))); refine e_newA fun g => ?_; refine ob_ ?_; refine ob_ ?_; refine ob_ ?_; refine ob_ ?_; refine ob_ ?_; refine ob_ ?_; refine ob_ ?_; refine ob_ ?_; refine ob_ ?_; refine sg_ ?_; refine ob_ ?_; refine ob_ ?_
        rename Nat => GX
        refine e_sat (.ex (((oa, oc), pa, pc), GX) (.all ?_))
        refine nr_ ?_
        refine .pu ⟨rfl, rfl, rfl⟩ ?_
        exact im_
      · (refine e_newA fun g => ?_); refine ob_ ?_; refine ob_ ?_; refine ob_ ?_; refine ob_ ?_; refine ob_ ?_; refine ob_ ?_
        rename Nat => GX
        refine e_call (look (key := key) (m := m) (tg := t) (mi := mi) (R := R) (now := cm) hZ' (rdF_any (c := qc) h1) (by omega)) (.cons (by repeat constructor) (.cons (by repeat constructor) .nil)) fun q => ?_
        rw [← hO]
        obtain ⟨⟨oa, oc⟩, pa, pc⟩ := q
        unfold lkV
        refine nr_ ?_
        (try dsimp only)
        refine xs_ ?_; (((refine' e_stD (v_extN ?hc) .nil ?_); (case hc => repeat constructor))); (((refine' e_stD (v_extN ?hc) .nil ?_); (case hc => repeat constructor))); refine sg_ ?_; refine ob_ ?_; refine ob_ ?_
        refine e_sat (.ex (((oa, oc), pa, pc), GX) (.all ?_))
        refine nr_ ?_
        refine .pu ⟨rfl, rfl, rfl⟩ ?_
        exact im_
    · (refine e_newA fun g => ?_); refine ob_ ?_; refine ob_ ?_; refine ob_ ?_; refine ob_ ?_; refine ob_ ?_; refine ob_ ?_
      rename Nat => GX
      refine e_call (asks (m := txt m) (t := txt t) (mi := .int .i64 mi) (hR (pu True)) hra (by omega)) (.cons (by repeat constructor) .nil) fun q => ?_
      obtain ⟨qa, qc⟩ := q
      refine nr_ ?_
      (try dsimp only)
      refine ob_ ?_; refine ob_ ?_; refine ob_ ?_; refine ob_ ?_
      refine e_slfacts (by (repeat constructor) : Pick _ (Sl 2 68 qa qc R.length (R.flatMap pFd)) _) fun _ _ _ h1 => ?_
      refine e_call (look (key := key) (m := m) (tg := t) (mi := mi) (R := R) (now := cm) hZ' (rdF_any (c := qc) h1) (by omega)) (.cons (by repeat constructor) (.cons (by repeat constructor) .nil)) fun q => ?_
      rw [← hO]
      obtain ⟨⟨oa, oc⟩, pa, pc⟩ := q
      unfold lkV
      refine nr_ ?_
      (try dsimp only)
      refine xs_ ?_; (((refine' e_stD (v_extN ?hc) .nil ?_); (case hc => repeat constructor))); (((refine' e_stD (v_extN ?hc) .nil ?_); (case hc => repeat constructor))); refine sg_ ?_; refine ob_ ?_; refine ob_ ?_
      refine e_sat (.ex (((oa, oc), pa, pc), GX) (.all ?_))
      refine nr_ ?_
      refine .pu ⟨rfl, rfl, rfl⟩ ?_
      exact im_
  intro ds2 x y z
  refine nr_ ?_
  refine e_ex Pick.here fun q => e_all Pick.here ?_
  obtain ⟨⟨⟨oa, oc⟩, pa, pc⟩, bx⟩ := q
  refine nr_ ?_
  refine e_pu Pick.here fun hi => ?_
  obtain ⟨rfl, rfl, rfl⟩ := hi
  have hO1 := look_ok (key := key) (R := R) (now := cm) hZ'
  have hO2 := src_look (key := key) (R := R) (now := cm) hZ' hsrc
  rw [← hO] at hO1 hO2
  refine o_ v_eql ?_
  cases hf : findF Z key R with
  | none =>
    have e0 : O = ⟨0, [], [], 0, 0, Z⟩ := by rw [hO]; unfold lookF; rw [hf]
    rw [e0] at hO1 hO2 ⊢
    (try dsimp only at hO1 hO2 ⊢)
    rw [dT_ rfl]
    refine e_condT (o_ v_fa0 (ln_ ?_))
    refine o_ v_neq ?_
    rw [dF_ (by decide)]
    refine e_gdT (e_gdT (o_ v_neq ?_))
    rw [dF_ (by decide)]
    refine o_ v_pickF (e_condF (ad_ ?_))
    refine e_next1 (k - 1) (by omega) (.ex (i + 1, Z) (.all ?_))
    refine nr_ ?_
    refine .pu ⟨by omega, by norm_cast, hO1, src_up hO2 (by omega)⟩ ?_
    exact im_
  | some g =>
    obtain ⟨hgm, hfit⟩ := find_mem hf
    obtain ⟨hgo, hgk⟩ := hZ'.fo key g hgm
    obtain ⟨k0, p, hk0i, hp, hpk, hps, hpe⟩ := hsrc g hgo
    have e0 : O = ⟨(Z.E g).st, outF (Z.E g) (ageF (Z.E g).xf (Z.E g).asked (Z.E g).came cm), (Z.E g).xb, ageF (Z.E g).xf (Z.E g).asked (Z.E g).came cm, if staleF (Z.E g) R cm then 2 else 1, touchS Z g⟩ := by rw [hO]; unfold lookF; rw [hf]
    have hOx : hOK O.xf := by
      have hzx := (hZ'.en g (hZ'.oa g hgo)).xf
      have hok1 := z_ok (l := (Z.E g).xf) (by omega)
      have hab := ageF_b (Z.E g).xf (Z.E g).asked (Z.E g).came cm
      have hdl := dig_len (i := ageF (Z.E g).xf (Z.E g).asked (Z.E g).came cm) (by omega) (by omega)
      have hwl := with_len (Z.E g).xf [sAge]
      have hlen1 := z_len (Z.E g).xf
      rw [e0]
      (try dsimp only)
      unfold outF
      refine ⟨by rw [List.length_append]; simp only [List.length_cons, List.length_nil]; omega, fun f hf => ?_⟩
      rcases List.mem_append.1 hf with hf | hf
      · unfold withF at hf
        exact hok1.2 f (List.mem_filter.1 hf).1
      · rw [List.mem_singleton.1 hf]
        exact ⟨show sAge.length ≤ 4194304 by decide, by (try dsimp only); omega⟩
    have hOl := hOx.1
    have hwO := with_len O.xf [sAgl]
    have hst0 : O.state ≠ 0 := by rw [e0]; (try dsimp only); split <;> decide
    rw [dF_ hst0]
    refine e_condF (e_slfacts (by (repeat constructor) : Pick _ (Sl 2 68 oa oc O.xf.length (O.xf.flatMap pFd)) _) fun _ _ _ hxo => ?_)
    refine e_slfacts (by (repeat constructor) : Pick _ (Sl 1 5 pa pc O.xb.length (O.xb.map Sl.B)) _) fun _ _ _ hbo => ?_
    refine e_loop2 (fun q x y => [ex fun u : Nat × Bool => all [pu (q + u.1 = i ∧ x = .bool u.2 ∧ y = .int .i64 (u.1 : Int) ∧ (u.2 = true ∨ u.1 ≤ k0)), pt bx (.cells #[.int .i64 O.st, .slice oa O.xf.length oc, .slice pa O.xb.length pc] 34), Sl 2 68 oa oc O.xf.length (O.xf.flatMap pFd), Sl 1 5 pa pc O.xb.length (O.xb.map Sl.B), IsC c O.S, pt b8 (.cells #[.int .i64 kd, txt key, txt m, txt t, .int .i64 mi, .slice ra R.length rc, .int .i64 st, .slice xa X.length xc, .slice da D.length dc, .int .i64 ak, .int .i64 cm] 36), pu True, pu True]] ++ F) i ?_ ?_
    · refine .ex (0, false) (.all ?_)
      refine nr_ ?_
      refine .pu ⟨rfl, rfl, rfl, .inr (Nat.zero_le _)⟩ ?_
      exact im_
    intro q ds3 x y
    refine nr_ ?_
    refine e_ex Pick.here fun u => e_all Pick.here ?_
    obtain ⟨j, b⟩ := u
    refine nr_ ?_
    refine e_pu Pick.here fun hi => ?_
    obtain ⟨hqj, rfl, rfl, hbj⟩ := hi
    (try dsimp only at hqj hbj)
    refine o_ v_lss ?_
    by_cases hji : (j : Int) < (i : Int)
    rotate_left
    · rw [dF_ hji]
      have hb1 : b = true := by
        rcases hbj with h | h
        · exact h
        · omega
      subst hb1
      refine e_gdF2 (e_gdF2 (o_ v_pickF (e_condF (o_ v_notT (e_condF (ad_ ?_))))))
      refine e_next1 (k - 1) (by omega) (.ex (i + 1, O.S) (.all ?_))
      refine nr_ ?_
      refine .pu ⟨by omega, by norm_cast, hO1, src_up hO2 (by omega)⟩ ?_
      exact im_
    rw [dT_ hji]
    cases b with
    | true =>
      refine e_gdT (e_gdT (o_ v_notT (o_ v_pickT (e_condF (o_ v_notT (e_condF (ad_ ?_)))))))
      refine e_next1 (k - 1) (by omega) (.ex (i + 1, O.S) (.all ?_))
      refine nr_ ?_
      refine .pu ⟨by omega, by norm_cast, hO1, src_up hO2 (by omega)⟩ ?_
      exact im_
    | false =>
    have hjk : j ≤ k0 := by
      rcases hbj with h | h
      · cases h
      · exact h
    have hjl : j < l.length := by omega
    refine e_gdT (e_gdT (o_ v_notF (o_ v_pickT (e_condT (o_ (v_ia j rfl hjl) ?_)))))
    have hldj := ld_op (hRd (pu True)) hjl
    have hst2 := sumO_take hjl
    have hle2 := sumO_le l (j + 1)
    have hok2 := hok _ (List.getElem_mem hjl)
    obtain ⟨o2, ho2⟩ : ∃ o2, o2 = l[j] := ⟨_, rfl⟩
    rw [← ho2] at hok2 hldj hst2
    have hpj : j = k0 → p = o2 := fun e => by
      subst e
      rw [List.getElem?_eq_getElem hjl, ← ho2] at hp
      exact (Option.some.inj hp).symm
    obtain ⟨kd2, key2, m2, t2, mi2, R2, ra2, rc2, st2, X2, xa2, xc2, D2, da2, dc2, ak2, cm2⟩ := o2
    obtain ⟨hR2, hra2, hX2, hxa2, hD2, hda2, hb2, hb3⟩ := hok2
    (try dsimp only at hR2 hra2 hX2 hxa2 hD2 hda2 hb2 hb3)
    unfold opM at hst2
    (try dsimp only at hst2)
    have hwX := with_len X2 [sAgl]
    have hzX2 := z_len X2
    refine p_op hldj ?_
    unfold pOp
    (try dsimp only)
    refine e_newA fun b14 => ?_
    refine e_stAgg (by repeat constructor) (by rfl) (by rfl) (by intro u hu; simp at hu; rcases hu with rfl | rfl | rfl | rfl | rfl | rfl | rfl | rfl | rfl | rfl | rfl <;> rfl) ?_
    refine o_ v_fa0 (ln_ ?_)
    refine o_ v_neq ?_
    by_cases c1 : kd2 = 0
    rotate_left
    · have hne : j ≠ k0 := fun e => c1 (by have := hpj e; subst this; exact hpk)
      rw [dT_ c1]
      refine e_gdF1 (e_gdF1 (e_gdF1 (e_gdF1 (e_gdF1 (o_ v_pickT (e_gdF1 (e_gdF1 (e_gdF1 (e_gdF1 (e_gdF1 (e_gdF1 (o_ v_pickT (e_gdF1 (e_gdF1 (e_gdF1 (e_gdF1 (e_gdF1 (e_gdF1 (e_gdF1 (e_gdF1 (o_ v_pickT (e_gdF1 (e_gdF1 (e_gdF1 (e_gdF1 (e_gdF1 (e_gdF1 (e_gdF1 (e_gdF1 (o_ v_pickT (e_condT (ad_ ?_))))))))))))))))))))))))))))))))
      refine e_next2 (q - 1) (by omega) (.ex (j + 1, false) (.all ?_))
      refine nr_ ?_
      refine .pu ⟨by omega, rfl, by norm_cast, .inr (by omega)⟩ ?_
      exact im_
    rw [dF_ (fun e => e c1)]
    refine e_gdT (o_ v_fa0 (e_gdT (ln_ ?_))); refine e_gdT (o_ v_fa0 (e_gdT (ln_ ?_))); refine e_gdT (o_ v_strne ?_)
    by_cases c2 : key2 = key
    rotate_left
    · have hne : j ≠ k0 := fun e => c2 (by have := hpj e; subst this; rw [← hgk, hpe]; rfl)
      rw [dT_ c2]
      refine o_ v_pickF (e_gdF1 (e_gdF1 (e_gdF1 (e_gdF1 (e_gdF1 (e_gdF1 (o_ v_pickT (e_gdF1 (e_gdF1 (e_gdF1 (e_gdF1 (e_gdF1 (e_gdF1 (e_gdF1 (e_gdF1 (o_ v_pickT (e_gdF1 (e_gdF1 (e_gdF1 (e_gdF1 (e_gdF1 (e_gdF1 (e_gdF1 (e_gdF1 (o_ v_pickT (e_condT (ad_ ?_)))))))))))))))))))))))))))
      refine e_next2 (q - 1) (by omega) (.ex (j + 1, false) (.all ?_))
      refine nr_ ?_
      refine .pu ⟨by omega, rfl, by norm_cast, .inr (by omega)⟩ ?_
      exact im_
    rw [dF_ (fun e => e c2)]
    refine o_ v_pickF (e_gdT (o_ v_fa0 (e_gdT (p_op ld_opR ?_))))
    refine e_gdT (o_ v_fa0 (e_gdT (p_op ld_opX ?_)))
    refine e_gdT (e_call (rstorable (m := m2) (tg := t2) (mi := mi2) (st := st2) (c := rc2) (cx := xc2) (hR2 (pu True)) (by omega) (hX2 (pu True)) (by omega)) (.cons (by repeat constructor) (.cons (by repeat constructor) .nil)) fun _ => ?_)
    refine nr_ ?_
    cases c3 : storF m2 st2 R2 X2 with
    | false =>
      have hne : j ≠ k0 := fun e => by have := hpj e; subst this; rw [c3] at hps; cases hps
      refine e_gdT (o_ v_notF (o_ v_pickF (e_gdF1 (e_gdF1 (e_gdF1 (e_gdF1 (e_gdF1 (e_gdF1 (e_gdF1 (e_gdF1 (o_ v_pickT (e_gdF1 (e_gdF1 (e_gdF1 (e_gdF1 (e_gdF1 (e_gdF1 (e_gdF1 (e_gdF1 (o_ v_pickT (e_condT (ad_ ?_))))))))))))))))))))))
      refine e_next2 (q - 1) (by omega) (.ex (j + 1, false) (.all ?_))
      refine nr_ ?_
      refine .pu ⟨by omega, rfl, by norm_cast, .inr (by omega)⟩ ?_
      exact im_
    | true =>
    refine e_gdT (o_ v_notT (o_ v_pickF (e_gdT (o_ v_fa0 (e_gdT (p_op ld_opR ?_))))))
    refine e_gdT (o_ v_fa0 (e_gdT (p_op ld_opR ?_)))
    refine e_gdT (o_ v_fa0 (e_gdT (p_op ld_opX ?_)))
    refine e_gdT (e_imp (M := pu True :: pu True :: pu True :: _) (.pu trivial .refl) ?_)
    refine e_call (alike_ (c1 := rc2) (c2 := rc) (cx := xc2) (hR2 (pu True)) (by omega) (hR (pu True)) (by omega) (hX2 (pu True)) (by omega)) (.cons (by repeat constructor) (.cons (by repeat constructor) (.cons (by repeat constructor) .nil))) fun _ => ?_
    refine nr_ ?_
    cases c4 : alikF R2 R X2 with
    | false =>
      have hne : j ≠ k0 := fun e => by
        have := hpj e
        subst this
        have h1 := fits_alik (e := Z.E g) (R1 := R2) (R := R) (by rw [hpe]; rfl) hfit
        rw [show (Z.E g).xf = X2 by rw [hpe]; rfl, c4] at h1
        cases h1
      refine e_gdT (o_ v_notF (o_ v_pickF (e_gdF1 (e_gdF1 (e_gdF1 (e_gdF1 (e_gdF1 (e_gdF1 (e_gdF1 (e_gdF1 (o_ v_pickT (e_condT (ad_ ?_)))))))))))))
      refine e_next2 (q - 1) (by omega) (.ex (j + 1, false) (.all ?_))
      refine nr_ ?_
      refine .pu ⟨by omega, rfl, by norm_cast, .inr (by omega)⟩ ?_
      exact im_
    | true =>
    refine e_gdT (o_ v_notT (o_ v_pickF (e_gdT (o_ v_fa0 (e_gdT (o_ v_fa (e_gdT (ln_ ?_)))))))); refine e_gdT (p_op (v_str (l := D2) (hD2 (pu True)) hda2) ?_)
    refine e_gdT (o_ v_fa0 (e_gdT (ln_ ?_))); refine e_gdT (p_op (v_str (l := O.xb) (rd_sl (e := 5) (by rw [List.length_map]) hbo) (fun e => by rw [nnS hbo e]; rfl)) ?_)
    refine e_gdT (o_ v_strne ?_)
    by_cases c5 : D2 = O.xb
    rotate_left
    · have hne : j ≠ k0 := fun e => c5 (by have := hpj e; subst this; rw [e0]; (try dsimp only); rw [hpe]; rfl)
      rw [dT_ c5]
      refine o_ v_pickF (e_condT (ad_ ?_))
      refine e_next2 (q - 1) (by omega) (.ex (j + 1, false) (.all ?_))
      refine nr_ ?_
      refine .pu ⟨by omega, rfl, by norm_cast, .inr (by omega)⟩ ?_
      exact im_
    rw [dF_ (fun e => e c5)]
    refine o_ v_pickF (e_condF ?_)
    obtain ⟨V, hV⟩ : ∃ V, V = (decide (st2 = O.st) && decide (withF X2 [sAgl] = withF O.xf [sAgl])) := ⟨_, rfl⟩
    refine e_cut1 (fun z => pu (z = .bool V) :: pt b14 (.cells #[.int .i64 kd2, txt key2, txt m2, txt t2, .int .i64 mi2, .slice ra2 R2.length rc2, .int .i64 st2, .slice xa2 X2.length xc2, .slice da2 D2.length dc2, .int .i64 ak2, .int .i64 cm2] 36) :: pt bx (.cells #[.int .i64 O.st, .slice oa O.xf.length oc, .slice pa O.xb.length pc] 34) :: Sl 2 68 oa oc O.xf.length (O.xf.flatMap pFd) :: Sl 1 5 pa pc O.xb.length (O.xb.map Sl.B) :: IsC c O.S :: pt b8 (.cells #[.int .i64 kd, txt key, txt m, txt t, .int .i64 mi, .slice ra R.length rc, .int .i64 st, .slice xa X.length xc, .slice da D.length dc, .int .i64 ak, .int .i64 cm] 36) :: pu True :: pu True :: F) ?_ ?_
    rotate_left
    · refine e_drS ?_
      refine t_ v_fa0 (t_ v_fa (ls_ ?_)); refine t_ v_fa0 (ls_ ?_)
      refine t_ v_eql ?_
      by_cases d1 : st2 = O.st
      rotate_left
      · rw [dF_ d1]
        refine e_gdDF2 (e_gdDF2 (e_gdDF2 (e_gdDF2 (e_gdDF2 (e_andS ?_ ?_)))))
        · (refine e_gdF2 ?_); refine e_oblT ?_; refine e_oblT ?_; refine e_oblT ?_; refine e_oblT ?_; refine e_oblT ?_
          refine e_andS ?_ ?_
          · (refine e_gdF2 ?_); refine e_oblT ?_; refine e_oblT ?_; refine e_gdF2 ?_; refine e_oblT ?_; refine e_oblT ?_; refine e_oblT ?_; refine e_oblT ?_; refine e_oblT ?_; refine e_gdF2 ?_; refine e_gdF2 ?_; refine t_ v_pickF ?_
            refine e_sat (.pu (by rw [hV, dF_ d1]; rfl) ?_)
            exact im_
          · (refine e_gdF2 ?_); refine e_oblT ?_; refine e_oblT ?_; refine e_oblT ?_; refine e_oblT ?_; refine e_oblT ?_; refine e_gdF2 ?_; refine e_oblT ?_; refine e_oblT ?_; refine e_gdF2 ?_; refine e_gdF2 ?_; refine t_ v_pickF ?_
            refine e_sat (.pu (by rw [hV, dF_ d1]; rfl) ?_)
            exact im_
        · (refine e_gdF2 ?_); refine e_oblT ?_; refine e_oblT ?_; refine e_oblT ?_; refine e_oblT ?_; refine e_oblT ?_; refine e_gdF2 ?_; refine e_oblT ?_; refine e_oblT ?_; refine e_oblT ?_; refine e_oblT ?_; refine e_oblT ?_; refine e_gdF2 ?_; refine e_oblT ?_; refine e_oblT ?_; refine e_gdF2 ?_; refine e_gdF2 ?_; refine t_ v_pickF ?_
          refine e_sat (.pu (by rw [hV, dF_ d1]; rfl) ?_)
          exact im_
      rw [dT_ d1]
      refine e_gdDT (e_stD v_fa0 .nil ?_); refine e_gdDT (e_stD v_fa .nil ?_); refine e_gdDT ?_; (((refine' e_stD (v_ldN ?hc) ?hi ?_); (case hi => exact .pick (by repeat constructor) .nil); (case hc => repeat constructor))); refine e_gdDT (e_stD v_fa0 .nil ?_); refine e_gdDT ?_; (((refine' e_stD (v_ldN ?hc) ?hi ?_); (case hi => exact .pick (by repeat constructor) .nil); (case hc => repeat constructor)))
      refine e_andS ?_ ?_
      · (refine e_gdT ?_); refine e_bsl1 fun g => ?_; refine ob_ ?_; refine ob_ ?_; refine ob_ ?_; refine ob_ ?_; refine ob_ ?_
        refine e_andS ?_ ?_
        · (refine e_gdT ?_)
          refine e_imp (M := pu True :: _) (.pu trivial .refl) ?_
          refine e_call (rwithout (N := [sAgl]) (l := X2) (c := xc2) (d := 1) (hX2 (pu True)) (rd_pt (cs := [.string ⟨#[97, 103, 101]⟩]) rfl) (z_ok (by omega)) (by decide) (by decide)) (.cons .here (.cons (by repeat constructor) .nil)) fun r => ?_
          obtain ⟨wa, wc⟩ := r
          refine nr_ ?_
          (try dsimp only)
          refine ob_ ?_; refine ob_ ?_; refine e_gdT (e_bsl1 fun g => ?_); refine ob_ ?_; refine ob_ ?_; refine ob_ ?_; refine ob_ ?_; refine ob_ ?_; refine e_gdT (e_call (rwithout (N := [sAgl]) (l := O.xf) (c := oc) (d := 1) (rdF_any hxo) (rd_pt (cs := [.string ⟨#[97, 103, 101]⟩]) rfl) hOx (by decide) (by decide)) (.cons (by repeat constructor) (.cons (by repeat constructor) .nil)) fun r => ?_)
          obtain ⟨ua, uc⟩ := r
          refine nr_ ?_
          (try dsimp only)
          refine e_gdT (e_slfacts (by (repeat constructor) : Pick _ (Sl 2 68 wa wc (withF X2 [sAgl]).length ((withF X2 [sAgl]).flatMap pFd)) _) fun _ _ _ s1 => ?_)
          refine e_slfacts (by (repeat constructor) : Pick _ (Sl 2 68 ua uc (withF O.xf [sAgl]).length ((withF O.xf [sAgl]).flatMap pFd)) _) fun _ _ _ s2 => ?_
          refine e_call (fields11 (c := wc) (d := uc) (rdF_any s1) (rdF_any s2) (by omega) (by omega)) (.cons (by repeat constructor) (.cons (by repeat constructor) .nil)) fun _ => ?_
          refine nr_ ?_
          refine t_ v_pickT (e_sat (.pu (by rw [hV, dT_ d1, Bool.true_and]) ?_))
          exact im_
        · (refine e_gdT ?_); refine e_bsl1 fun g => ?_; refine ob_ ?_; refine ob_ ?_; refine ob_ ?_; refine ob_ ?_; refine ob_ ?_; refine e_gdT ?_
          refine e_imp (M := pu True :: _) (.pu trivial .refl) ?_
          refine e_call (rwithout (N := [sAgl]) (l := X2) (c := xc2) (d := 1) (hX2 (pu True)) (rd_pt (cs := [.string ⟨#[97, 103, 101]⟩]) rfl) (z_ok (by omega)) (by decide) (by decide)) (.cons .here (.cons (by repeat constructor) .nil)) fun r => ?_
          obtain ⟨wa, wc⟩ := r
          refine nr_ ?_
          (try dsimp only)
          refine ob_ ?_; refine ob_ ?_; refine e_gdT (e_call (rwithout (N := [sAgl]) (l := O.xf) (c := oc) (d := 1) (rdF_any hxo) (rd_pt (cs := [.string ⟨#[97, 103, 101]⟩]) rfl) hOx (by decide) (by decide)) (.cons (by repeat constructor) (.cons (by repeat constructor) .nil)) fun r => ?_)
          obtain ⟨ua, uc⟩ := r
          refine nr_ ?_
          (try dsimp only)
          refine e_gdT (e_slfacts (by (repeat constructor) : Pick _ (Sl 2 68 wa wc (withF X2 [sAgl]).length ((withF X2 [sAgl]).flatMap pFd)) _) fun _ _ _ s1 => ?_)
          refine e_slfacts (by (repeat constructor) : Pick _ (Sl 2 68 ua uc (withF O.xf [sAgl]).length ((withF O.xf [sAgl]).flatMap pFd)) _) fun _ _ _ s2 => ?_
          refine e_call (fields11 (c := wc) (d := uc) (rdF_any s1) (rdF_any s2) (by omega) (by omega)) (.cons (by repeat constructor) (.cons (by repeat constructor) .nil)) fun _ => ?_
          refine nr_ ?_
          refine t_ v_pickT (e_sat (.pu (by rw [hV, dT_ d1, Bool.true_and]) ?_))
          exact im_
      · (refine e_gdT ?_); refine e_bsl1 fun g => ?_; refine ob_ ?_; refine ob_ ?_; refine ob_ ?_; refine ob_ ?_; refine ob_ ?_; refine e_gdT ?_; refine e_bsl1 fun g => ?_; refine ob_ ?_; refine ob_ ?_; refine ob_ ?_; refine ob_ ?_; refine ob_ ?_; refine e_gdT ?_
        refine e_imp (M := pu True :: _) (.pu trivial .refl) ?_
        refine e_call (rwithout (N := [sAgl]) (l := X2) (c := xc2) (d := 1) (hX2 (pu True)) (rd_pt (cs := [.string ⟨#[97, 103, 101]⟩]) rfl) (z_ok (by omega)) (by decide) (by decide)) (.cons .here (.cons (by repeat constructor) .nil)) fun r => ?_
        obtain ⟨wa, wc⟩ := r
        refine nr_ ?_
        (try dsimp only)
        refine ob_ ?_; refine ob_ ?_; refine e_gdT (e_call (rwithout (N := [sAgl]) (l := O.xf) (c := oc) (d := 1) (rdF_any hxo) (rd_pt (cs := [.string ⟨#[97, 103, 101]⟩]) rfl) hOx (by decide) (by decide)) (.cons (by repeat constructor) (.cons (by repeat constructor) .nil)) fun r => ?_)
        obtain ⟨ua, uc⟩ := r
        refine nr_ ?_
        (try dsimp only)
        refine e_gdT (e_slfacts (by (repeat constructor) : Pick _ (Sl 2 68 wa wc (withF X2 [sAgl]).length ((withF X2 [sAgl]).flatMap pFd)) _) fun _ _ _ s1 => ?_)
        refine e_slfacts (by (repeat constructor) : Pick _ (Sl 2 68 ua uc (withF O.xf [sAgl]).length ((withF O.xf [sAgl]).flatMap pFd)) _) fun _ _ _ s2 => ?_
        refine e_call (fields11 (c := wc) (d := uc) (rdF_any s1) (rdF_any s2) (by omega) (by omega)) (.cons (by repeat constructor) (.cons (by repeat constructor) .nil)) fun _ => ?_
        refine nr_ ?_
        refine t_ v_pickT (e_sat (.pu (by rw [hV, dT_ d1, Bool.true_and]) ?_))
        exact im_
    intro ds4 z
    refine e_pu Pick.here fun hz => ?_
    subst hz
    refine o_ v_fa0 (ln_ ?_)
    refine o_ v_min (o_ v_max0 ?_)
    rw [show max 0 (if (1099511627776 : Int) < cm2 then 1099511627776 else cm2) = cl40 cm2 by unfold cl40; split <;> omega]
    have hk0 : j = k0 → st2 = O.st ∧ withF X2 [sAgl] = withF O.xf [sAgl] ∧ (O.state = 1 → O.age < lifeF X2 (cl40 cm2) ∧ O.age = ageF X2 ak2 cm2 cm) := fun e => by
      have := hpj e
      subst this
      have hx : (Z.E g).xf = X2 := by rw [hpe]; rfl
      have hst : (Z.E g).st = st2 := by rw [hpe]; rfl
      have hask : (Z.E g).asked = cl40 ak2 := by rw [hpe]; rfl
      have hcame : (Z.E g).came = cl40 cm2 := by rw [hpe]; rfl
      refine ⟨by rw [e0]; exact hst.symm, ?_, ?_⟩
      · rw [e0]
        (try dsimp only)
        unfold outF
        rw [without_out, hx]
      · intro h1
        have hs1 : staleF (Z.E g) R cm = false := by
          rw [e0] at h1
          (try dsimp only at h1)
          cases hh : staleF (Z.E g) R cm with
          | false => rfl
          | true => rw [hh, if_pos rfl] at h1; exact absurd h1 (by decide)
        have hy := young hs1
        rw [hx, hask, hcame, age_cl] at hy
        rw [e0]
        (try dsimp only)
        rw [hx, hask, hcame, age_cl]
        exact ⟨hy, rfl⟩
    cases V with
    | false =>
      have hne : j ≠ k0 := fun e => by
        obtain ⟨q1, q2, _⟩ := hk0 e
        rw [dT_ q1, dT_ q2] at hV
        cases hV
      refine e_gdF2 (e_gdF2 (e_gdF2 (e_gdU (e_gdU (e_gdU (e_gdU (e_gdU (e_gdU (e_gdU (e_gdU (e_gdU (e_gdU (e_gdU (e_gdU (e_gdU (e_gdU (e_gdU (e_gdU (e_gdU (e_gdU (e_gdU (e_gdF2 (o_ v_pickF (ad_ ?_))))))))))))))))))))))))
      refine e_next2 (q - 1) (by omega) (.ex (j + 1, false) (.all ?_))
      refine nr_ ?_
      refine .pu ⟨by omega, rfl, by norm_cast, .inr (by omega)⟩ ?_
      exact im_
    | true =>
    refine e_gdT (e_gdT (o_ v_neq ?_))
    by_cases s1 : O.state = 1
    rotate_left
    · rw [dT_ s1]
      refine e_gdT (e_gdF1 (e_gdF1 (e_gdF1 (e_gdF1 (e_gdF1 (e_gdF1 (e_gdF1 (e_gdU (e_gdU (e_gdU (e_gdU (e_gdU (e_gdU (e_gdU (e_gdU (e_gdU (e_gdU (e_gdU (e_gdF1 (e_gdT (o_ v_pickT (o_ v_pickT (ad_ ?_)))))))))))))))))))))))
      refine e_next2 (q - 1) (by omega) (.ex (j + 1, true) (.all ?_))
      refine nr_ ?_
      refine .pu ⟨by omega, rfl, by norm_cast, .inl rfl⟩ ?_
      exact im_
    rw [dF_ (fun e => e s1)]
    refine e_gdT (e_gdT (e_gdT (o_ v_fa0 (e_gdT (p_op ld_opX ?_)))))
    refine e_gdT (e_gdT (e_call (rlifetime (st := st2) (cx := xc2) (now := cl40 cm2) (hX2 (pu True)) (by omega)) (.cons (by repeat constructor) .nil) fun _ => ?_))
    refine nr_ ?_
    refine e_gdT (o_ v_lss ?_)
    by_cases a1 : O.age < lifeF X2 (cl40 cm2)
    rotate_left
    · have hne : j ≠ k0 := fun e => a1 ((hk0 e).2.2 s1).1
      rw [dF_ a1]
      refine e_gdT (e_gdF2 (e_gdF2 (e_gdF2 (e_gdF2 (e_gdF2 (e_gdF2 (e_gdF2 (e_gdF2 (e_gdF2 (e_gdF2 (e_gdF2 (e_gdT (o_ v_pickF (e_gdT (o_ v_pickF (o_ v_pickT (ad_ ?_)))))))))))))))))
      refine e_next2 (q - 1) (by omega) (.ex (j + 1, false) (.all ?_))
      refine nr_ ?_
      refine .pu ⟨by omega, rfl, by norm_cast, .inr (by omega)⟩ ?_
      exact im_
    rw [dT_ a1]
    refine e_gdT (e_gdT (e_gdT (o_ v_fa0 (e_gdT (p_op ld_opX ?_)))))
    refine e_gdT (o_ v_fa0 (e_gdT (ln_ ?_))); refine e_gdT (o_ v_fa0 (e_gdT (ln_ ?_))); refine e_gdT (o_ v_fa0 (e_gdT (ln_ ?_))); refine e_gdT (e_call (rage (st := st2) (cx := xc2) (asked := ak2) (came := cm2) (now := cm) (hX2 (pu True)) (by omega)) (.cons (by repeat constructor) .nil) fun _ => ?_)
    refine nr_ ?_
    refine e_gdT (o_ v_eql ?_)
    by_cases a2 : O.age = ageF X2 ak2 cm2 cm
    rotate_left
    · have hne : j ≠ k0 := fun e => a2 ((hk0 e).2.2 s1).2
      rw [dF_ a2]
      refine e_gdT (o_ v_pickT (e_gdT (o_ v_pickF (o_ v_pickT (ad_ ?_)))))
      refine e_next2 (q - 1) (by omega) (.ex (j + 1, false) (.all ?_))
      refine nr_ ?_
      refine .pu ⟨by omega, rfl, by norm_cast, .inr (by omega)⟩ ?_
      exact im_
    rw [dT_ a2]
    refine e_gdT (o_ v_pickT (e_gdT (o_ v_pickF (o_ v_pickT (ad_ ?_)))))
    refine e_next2 (q - 1) (by omega) (.ex (j + 1, true) (.all ?_))
    refine nr_ ?_
    refine .pu ⟨by omega, rfl, by norm_cast, .inl rfl⟩ ?_
    exact im_
end Go.Proofs.YthomhkpedghhgaaGreatDoor.FD
