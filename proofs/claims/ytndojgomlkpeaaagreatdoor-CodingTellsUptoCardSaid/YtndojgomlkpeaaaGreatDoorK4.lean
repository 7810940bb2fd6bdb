/- Decoders, the program's and the document's. No conditions but those that each names. (25 texts made one; each says below what it is.) -/
import Derived.Test.YtndojgomlkpeaaaGreatDoorK3
import Derived.Laws.StructEq
import Derived.Lib.AppendZeros
set_option linter.unusedVariables false
set_option linter.unusedSimpArgs false
set_option linter.unusedSectionVars false
namespace Go.Proofs.YtndojgomlkpeaaaGreatDoor
set_option maxRecDepth 9999
namespace HF
open Go Go.Proofs Go.RowKit Sh Sl T HM B M
def uZ (p:Int × Int):Value:= .agg #[.int .i64 p.1,.int .i64 p.2]
theorem Pi:KeyLaw p_ 315 uZ where
 check:=fun b k w=>by
  unfold uZ Instr.checkKey
  simp only[Sem.run_bind,Tryz.runUnderlying315,Result.andThen_ok]
  have hk:∀(v:Int) (w:World),(Instr.checkKey b 9999 3 (.int .i64 v)).run p_ w= .ok () w:=fun v w=>MapKept.run_checkKey (n:=9998) (d:= .int .i64) (by kernel_rfl) (by simp[MapKept.IsKey]) b
  simp[part,Tryz.isAgg3,hk,Result.andThen]
 eq:=fun k k' w=>by
  have hs:p_.stoodInHeld 315=false:=by kernel_rfl
  unfold uZ Op.equal Op.maxDepth Op.equalIn
  have hp:(program).run p_ w= .ok p_ w:=rfl
  simp only[Sem.run_bind,Tryz.runUnderlying315,Result.andThen_ok,hp,hs]
  have he:∀(a b:Int) (w:World),(Op.equalIn 9999 3 (.int .i64 a) (.int .i64 b)).run p_ w= .ok (a==b) w:=fun a b w=>run_equalIn_int w 9998 3 .i64 .i64 a b (by kernel_rfl)
  obtain⟨k1,k2⟩:=k
  obtain⟨l1,l2⟩:=k'
  simp[part,Tryz.isAgg3,he,Result.andThen]
  by_cases h1:k1=l1
  ·subst h1
   by_cases h2:k2=l2
   ·subst h2
    simp[Tryz.isAgg3,he,Result.andThen]
   ·simp[Tryz.isAgg3,he,Result.andThen,h2]
  ·simp[h1,Result.andThen]
 now:=⟨.struct (p_.fieldsOf 315),by kernel_rfl,fun k k'=> .inl rfl⟩
 same:=fun k=>by
  unfold uZ Instr.sameBits
  simp[Instr.sameBits]
def fL (l:List Int)(n c:Int):Nat->Option Nat
 |0=>none
 |k+1=>match fL l n c k with
  |some j=>some j
  |none=>if 0<n/\l[k]? =some n/\(cv l k:Int)=c then some k else none
theorem Jc {l:List Int}{n c:Int}{k j:Nat}(h:fL l n c k=some j):∀m,fL l n c (k+m)=some j
 |0=>h
 |m+1=>by rw[<- Nat.add_assoc,fL,Jc h m]
theorem nn {l:List Int}{n c:Int}:∀ {k j:Nat},fL l n c k=some j->j<k/\0<n/\l[j]? =some n/\(cv l j:Int)=c
 |0,j,h=>by cases h
 |k+1,j,h=>by
  unfold fL at h
  cases hk:fL l n c k with
  |some i=>
   rw[hk]at h
   have:=Option.some.inj h
   subst this
   obtain⟨h1,h2⟩:=nn hk
   exact⟨by omega,h2⟩
  |none=>
   rw[hk]at h
   simp only at h
   by_cases hc:0<n/\l[k]? =some n/\(cv l k:Int)=c
   ·rw[if_pos hc]at h
    have:=Option.some.inj h
    subst this
    exact⟨by omega,hc⟩
   ·rw[if_neg hc]at h;cases h
theorem Ec {l:List Int}(hin:vR l){k:Nat}(hk:k<l.length)(hp:0<l[k]):fL l l[k] (cv l k) k=none:=by
 cases h:fL l l[k] (cv l k) k with
 |none=>rfl
 |some j=>
  obtain⟨h1,h2,h3,h4⟩:=nn h
  obtain⟨n,hn⟩:=Int.eq_ofNat_of_zero_le (show 0<=l[k] by omega)
  have hj:j<l.length:=by omega
  rw[List.getElem?_eq_getElem hj]at h3
  have h3:=Option.some.inj h3
  have:=apart hj hk (by omega) (h3.trans hn) hn (by omega) (Nat.le_refl n)
  rw[Nat.sub_self,Nat.pow_zero,Nat.div_one]at this
  exact absurd (by exact_mod_cast h4.symm) this
def pos (l:List Int):Prop:=∃x∈l,0<x
instance (l:List Int):Decidable (pos l):=by unfold pos;infer_instance
theorem KQ {l:List Int}(h:vR l):0<wk l 15↔pos l:=by
 induction l with
 |nil=>exact⟨fun c=>by simp[wk]at c,fun⟨x,hx,_⟩=>by cases hx⟩
 |cons x l ih=>
  have ih:=ih (fun y hy=>h y (List.mem_cons_of_mem _ hy))
  have hx:=h x List.mem_cons_self
  simp only[wk]
  by_cases c:0<x
  ·rw[if_pos ⟨c,by omega⟩]
   have:=Nat.two_pow_pos (15-x.toNat)
   exact⟨fun _=>⟨x,List.mem_cons_self,c⟩,fun _=>by omega⟩
  ·rw[if_neg (by omega),Nat.zero_add,ih]
   constructor
   ·rintro⟨y,hy,h2⟩;exact⟨y,List.mem_cons_of_mem _ hy,h2⟩
   ·rintro⟨y,hy,h2⟩
    rcases List.mem_cons.1 hy with rfl|hy
    ·exact absurd h2 c
    ·exact⟨y,hy,h2⟩
structure DecOK (l:List Int)(i:Nat)(m:List ((Int × Int) × Value)):Prop where
 get:∀n c,jc (n,c) m=(fL l n c i).map fun j:Nat=>Value.int .i64 (j:Int)
 emp:m=[]↔ ¬ ∃k,k<i/\∃x,l[k]? =some x/\0<x
def ei (p:Nat)(l:List Int):HP:=ex fun g:Nat=>ex fun m:List ((Int × Int) × Value)=>all [pt p (.cells #[.map (some g)] 313),gJ g uZ m,pu (DecOK l l.length m)]
def cW (p:Nat)(l:List Int):HP:=ex fun q:(Option Addr × Nat) × (Option Addr × Nat)=>all [pt p (.cells #[.slice q.1.1 l.length q.1.2,.slice q.2.1 l.length q.2.2,.bool (decide (pos l))] 288),Sl 1 3 q.1.1 q.1.2 l.length (l.map I),Sl 1 3 q.2.1 q.2.2 l.length ((eW l).map I)]
section
variable {W:World} {A:HP} {a:Option Addr} {cap:Nat} {l:List Int}
theorem KR (hr:RdB W A a l.length (l.map I))(hok:okL l):
  Cn p_ 213 [.slice a l.length cap] W [A] (fun p:Nat=> .tuple #[.pointer (some ⟨p,0,none⟩),.int .i64 0]) (fun p=>[ei p l,A]):=by
 (refine Shp.cn (Sg.g_ Tryz.call213 Tryz.func213 (an:={loops:=[(6,[22])],drs:=[(9,.ofL [(0,1),(1,1),(2,1),(3,1),(4,1),(5,1),(6,1),(7,1),(8,1),(9,1),(10,1),(11,0)])]})) fun F=>?_;simp only[ca_,na_])
 have cL:=hok.len
 have hR:xZ l=0:=by simp[xZ,hok]
 have hB:gZ l=eW l:=by simp[gZ,hok]
 have hcl:=fF l
 refine c_ (yR hr (by omega)) fun _=>?_
 rename_i q
 obtain⟨qa,qc⟩:=q
 rw[hR,hB,hcl]
 (try dsimp only)
 refine fP ?_;refine fP ?_
 refine o_ bK ?_
 rw[dF_ (by omega)]
 refine aa (zW uZ fun gm=>?_)
 refine o_ b_ ?_;refine bV fun g=>?_;refine o_ aC (aF (.there (.there .here)) fun f1 f2 f3 f4=>?_)
 refine a_ (fun m y=>[ex fun i:Nat=>ex fun mp:List ((Int × Int) × Value)=>all [pu (m+i=l.length/\y= .int .i64 (i:Int)/\DecOK l i mp),gJ gm uZ mp,pt g (.cells #[.map (some gm)] 313),Sl 1 3 qa qc l.length ((eW l).map I),A]]++F) l.length ?_ ?_
 ·refine .ex 0 (.ex [] (.all ?_))
  refine aq ?_
  refine .pu ⟨by omega,rfl,fun n c=>rfl,⟨fun _ ⟨k,hk,_⟩=>by omega,fun _=>rfl⟩⟩ ?_
  exact .pick (by repeat constructor) (.pick (by repeat constructor) (.pick (by repeat constructor) (.pick (by repeat constructor) .refl)))
 intro m ds y
 refine aq ?_
 refine aH Pick.here fun i=>aH Pick.here fun mp=>ap Pick.here ?_
 refine aq ?_
 refine aG Pick.here fun hi=>?_
 obtain⟨hmi,rfl,hdec⟩:=hi
 refine ay az .nil (fun h=>?_) (fun h=>?_)
 ·have hil:i<l.length:=by omega
  obtain⟨ga,oa,rfl,_⟩:=hr.at_ (by omega)
  obtain⟨gq,rfl⟩:=f4 (by omega)
  refine ab (o_ (bj i (by rfl) hil) ?_)
  refine bt (bP hr (dK hil)) ?_
  have hli:l[i]? =some l[i]:=List.getElem?_eq_getElem hil
  refine ay aV .nil (fun h=>?_) (fun h=>?_)
  ·have hap:=Ec hok.ins hil h
   have gi:((eW l).map I)[0+i]? =some (I (cv l i)):=by rw[Nat.zero_add,List.getElem?_map,eW,List.getElem?_map,List.getElem?_range hil];rfl
   refine ab (bA (t_ au (t_ aj (ew ?_))))
   refine t_ (bj i (by rfl) hil) ?_
   refine eJ (cI gi) ?_
   refine t_ b_ ?_
   refine wq (q:=(l[i],(cv l i:Int))) Pi (by repeat constructor) ?_
   refine bG ?_
   refine aK (m-1) (by omega) (.ex (i+1) (.ex (gK (l[i],(cv l i:Int)) (.int .i64 (i:Int)) mp) (.all ?_)))
   refine aq ?_
   refine .pu ⟨by omega,by norm_cast,fun n c=>?_,⟨fun c=>?_,fun c=>absurd ⟨i,by omega,l[i],hli,h⟩ c⟩⟩ ?_
   ·rw[k5,fL]
    by_cases e:(n,c)=(l[i],(cv l i:Int))
    ·injection e with e1 e2
     subst e1;subst e2
     rw[if_pos rfl,hap]
     simp only
     rw[if_pos ⟨h,hli,by first|trivial|rfl⟩];rfl
    ·rw[if_neg e,hdec.get]
     cases hf:fL l n c i with
     |some j=>rfl
     |none=>
      simp only
      rw[if_neg (fun d=>e (by
       have d2:=d.2.1
       rw[hli]at d2
       rw[<- Option.some.inj d2,<- d.2.2]))]
   ·exfalso
    have:∀m:List ((Int × Int) × Value),gK (l[i],(cv l i:Int)) (.int .i64 (i:Int)) m≠[]:=fun m=>by
     cases m with
     |nil=>simp[gK]
     |cons p m=>unfold gK;split <;> simp
    exact this mp c
   ·exact .pick (by repeat constructor) (.pick (by repeat constructor) (.pick (by repeat constructor) (.pick (by repeat constructor) .refl)))
  ·(refine aa ?_);refine bG ?_
   refine aK (m-1) (by omega) (.ex (i+1) (.ex mp (.all ?_)))
   refine aq ?_
   refine .pu ⟨by omega,by norm_cast,fun n c=>?_,?_⟩ ?_
   ·rw[hdec.get,fL]
    cases hf:fL l n c i with
    |some j=>rfl
    |none=>
     simp only
     rw[if_neg (fun d=>by
      have d2:=d.2.1
      rw[hli]at d2
      have:=Option.some.inj d2
      omega)]
   ·rw[hdec.emp]
    constructor
    ·rintro hn ⟨k,hk,x,hx,hx0⟩
     by_cases c:k=i
     ·subst c
      rw[hli]at hx
      have:=Option.some.inj hx
      omega
     ·exact hn ⟨k,by omega,x,hx,hx0⟩
    ·rintro hn ⟨k,hk,x,hx,hx0⟩
     exact hn ⟨k,by omega,x,hx,hx0⟩
   ·exact .pick (by repeat constructor) (.pick (by repeat constructor) (.pick (by repeat constructor) (.pick (by repeat constructor) .refl)))
 ·have hie:i=l.length:=by omega
  subst hie
  refine aa (aR g rfl ?_)
  refine .ex gm (.ex mp (.all ?_))
  refine aq ?_
  exact .pick (by repeat constructor) (.pick (by repeat constructor) (.pu hdec aw))
theorem G_ (hr:RdB W A a l.length (l.map I))(hl:l.length<=4611686018427387904)(hok:¬okL l):
  Cn p_ 213 [.slice a l.length cap] W [A] (fun _:Unit=> .tuple #[.pointer none,.int .i64 30]) (fun _=>[A]):=by
 (refine Shp.cn (Sg.g_ Tryz.call213 Tryz.func213 (an:={loops:=[(6,[22])],drs:=[(9,.ofL [(0,1),(1,1),(2,1),(3,1),(4,1),(5,1),(6,1),(7,1),(8,1),(9,1),(10,1),(11,0)])]})) fun F=>?_;simp only[ca_,na_])
 have hR:xZ l=30:=by simp[xZ,hok]
 refine c_ (yR hr hl) fun _=>?_
 rename_i q
 obtain⟨qa,qc⟩:=q
 rw[hR]
 (try dsimp only)
 refine fP ?_;refine fP ?_
 refine o_ bK ?_
 rw[dT_ (by omega)]
 refine ab (bq () ?_)
 exact aw
theorem yS (hr:RdB W A a l.length (l.map I))(hok:okL l):
  Cn p_ 188 [.slice a l.length cap] W [A] (fun p:Nat=> .tuple #[.pointer (some ⟨p,0,none⟩),.int .i64 0]) (fun p=>[cW p l,A]):=by
 (refine Shp.cn (Sg.g_ Tryz.call188 Tryz.func188) fun F=>?_;simp only[ca_,na_])
 have cL:=hok.len
 have hR:xZ l=0:=by simp[xZ,hok]
 have hB:gZ l=eW l:=by simp[gZ,hok]
 have hcl:=fF l
 refine c_ (Eb hr (by omega)) fun _=>?_
 rename_i q
 obtain⟨qa,qc⟩:=q
 rw[hR,hB,hcl]
 (try dsimp only)
 refine o_ (bk (v:= .slice qa l.length qc) rfl) ?_
 refine o_ (bk (v:= .int .i64 0) rfl) ?_
 refine o_ bK ?_
 rw[dF_ (by omega)]
 refine aa (c_ (qO hr (by omega)) fun _=>?_)
 refine o_ (bk (v:= .int .i64 (DY l)) rfl) ?_
 refine o_ (bk (v:= .bool (decide (okL l))) rfl) ?_
 refine f_ (vs:=[]) rfl rfl (by simp) (by omega) fun g0=>?_
 refine tj (s:=1) (n:=0) .here (by rfl) (by unfold maxLen;omega) ?_
 refine bO (m:=l.length) (news:=l.map I) .here (dF (A:=A) (e':=3) (by kernel_rfl) (by repeat constructor) hr (fun c=>RdB.none hr c) mO) (by omega) (by omega) fun a' c'=>?_
 rw[Nat.zero_add,List.nil_append]
 refine o_ aV ?_
 rw[show decide (0<DY l)=decide (pos l)from decide_eq_decide.2 (by rw[DY,if_pos hok.ins,<- KQ hok.ins];omega)]
 refine o_ b_ ?_;refine bV fun g=>?_
 refine aR g rfl ?_
 refine .ex ((a',c'),(qa,qc)) (.all ?_)
 refine aq ?_
 exact .pick (by repeat constructor) (.pick (by repeat constructor) (.pick (by repeat constructor) aw))
end
end HF
namespace IF
open Go Go.Proofs Go.RowKit Sh Sl T HM HF B M
abbrev If (φ:Prop):={_u:Unit // φ}
def mh {φ:Prop}(h:φ):If φ:=⟨(),h⟩
def pn (e:Int):List PanicEntry:=pe (.iface 27 (.int .i64 e))
theorem B7 {W:World}{e:Int}:CnP p_ 175 [.int .i64 e] W [] (fun _:If (e=0)=> .tuple #[]) (fun _=>[]) (fun _:If (e≠0)=>pn e) (fun _=>[]):=by
 (refine Shp.cnP (Sg.g_ Tryz.call175 Tryz.func175) fun F=>?_;simp only[ca_,na_,-eq_self])
 refine ay bK .nil (fun h=>?_) (fun h=>?_)
 ·refine ab (o_ lE (jD ?_))
  exact bT (mh (h)) rfl .refl
 ·refine aa (bq (mh (Decidable.not_not.1 h)) ?_)
  exact .refl
theorem gy {W:World}{b:Bool}{e:Int}:CnP p_ 172 [.bool b,.int .i64 e] W [] (fun _:If (b=true)=> .tuple #[]) (fun _=>[]) (fun _:If (b=false)=>pn e) (fun _=>[]):=by
 (refine Shp.cnP (Sg.g_ Tryz.call172 Tryz.func172) fun F=>?_;simp only[ca_,na_,-eq_self])
 cases b with
 |true=>
  refine o_ dJ (aa (bq (mh (rfl)) ?_))
  exact .refl
 |false=>
  refine o_ dh (ab (o_ lE (jD ?_)))
  exact bT (mh (rfl)) rfl .refl
def lz (p:Nat)(b:List UInt8)(at_:Nat)(out:List UInt8)(most:Int):HP:=ex fun q:Nat × (Option Addr × Nat)=>all [pt p (.cells #[.pointer (some ⟨q.1,0,none⟩),.slice q.2.1 out.length q.2.2,.int .i64 most] 184),pN q.1 b at_,Sl 1 5 q.2.1 q.2.2 out.length (out.map Sl.B)]
theorem jX {W:World}{p at_:Nat}{b out:List UInt8}{most k:Int}:CnP p_ 138 [.pointer (some ⟨p,0,none⟩),.int .i64 k] W [lz p b at_ out most]
  (fun _:If (bQ b at_ k=0)=> .int .i64 (bE b at_ k:Int)) (fun _=>[lz p b (aN b at_ k) out most]) (fun _:If (bQ b at_ k≠0)=>pn (bQ b at_ k)) (fun _=>[]):=by
 (refine Shp.cnP (Sg.g_ Tryz.call138 Tryz.func138) fun F=>?_;simp only[ca_,na_,-eq_self])
 refine aH Pick.here fun q=>ap Pick.here ?_
 obtain⟨r,qa,qc⟩:=q
 refine aq ?_
 refine o_ au (o_ aj (bJ ?_))
 refine c_ B.take fun _=>?_
 refine fP ?_;refine fP ?_
 (refine' bf (B7) ?hp (fun _=>?_) (fun _=>?_);(case hp=>(repeat(first|exact Picks.nil|(apply Picks.cons;(focus repeat constructor)))));(all_goals (try simp only[ca_,na_,Bool.not_true,Bool.not_false,-eq_self])))
 ·rename_i x
  refine bq (mh (x.2)) ?_
  refine .ex (r,(qa,qc)) (.all ?_)
  refine aq ?_
  exact .pick (by repeat constructor) (.pick (by repeat constructor) (.pick (by repeat constructor) aw))
 ·rename_i y
  refine bT (mh (y.2)) rfl ?_
  exact aw
theorem room {W:World}{p at_:Nat}{b out:List UInt8}{most n:Int}(h1: -1099511627776<=most/\most<=1099511627776)(h2:out.length<=1099511627776):CnP p_ 173 [.pointer (some ⟨p,0,none⟩),.int .i64 n] W [lz p b at_ out most]
  (fun _:If (n<=most-out.length)=> .tuple #[]) (fun _=>[lz p b at_ out most]) (fun _:If (¬n<=most-out.length)=>pn 6) (fun _=>[]):=by
 (refine Shp.cnP (Sg.g_ Tryz.call173 Tryz.func173 (an:={drs:=[(0,.ofL [(0,1),(1,1),(2,1),(3,1),(4,1),(5,1),(6,1),(7,1),(8,1),(9,1),(10,1),(11,1),(12,0)])]})) fun F=>?_;simp only[ca_,na_,-eq_self])
 refine aH Pick.here fun q=>ap Pick.here ?_
 obtain⟨r,qa,qc⟩:=q
 refine aq ?_
 refine bA (t_ au (t_ aj (ew ?_)));refine t_ au (t_ aj (ew ?_));refine t_ aC ?_;(refine t_ (dv (by omega) (by omega)) ?_)
 refine t_ cZ ?_
 (refine' bf (gy) ?hp (fun _=>?_) (fun _=>?_);(case hp=>(repeat(first|exact Picks.nil|(apply Picks.cons;(focus repeat constructor)))));(all_goals (try simp only[ca_,na_,Bool.not_true,Bool.not_false,-eq_self])))
 ·rename_i x
  refine bq (mh (of_decide_eq_true x.2)) ?_
  refine .ex (r,(qa,qc)) (.all ?_)
  refine aq ?_
  exact .pick (by repeat constructor) (.pick (by repeat constructor) (.pick (by repeat constructor) aw))
 ·rename_i y
  refine bT (mh (of_decide_eq_false y.2)) rfl ?_
  exact aw
end IF
namespace HF
open Go Go.Proofs Go.RowKit Sh Sl T HM B M
theorem u0 {W:World}{L L':List HP}{S:WP}{r at_:Nat}{b:List UInt8}(p:Pick L (pN r b at_) L')(h:at_<=8 * b.length->aZ W L S):aZ W L S:=fun w hw=>by
 obtain⟨f,⟨q,ha⟩,_⟩:=(hw.pick p).fst
 obtain⟨_,_,_,⟨_,_,_,⟨_,_,hp,_⟩,_⟩,_⟩:=ha
 exact h hp.1 w hw
def rh (l:List Int)(b:List UInt8):Nat->Nat->Nat->Nat->Int × Int × Nat
 |0,_,_,at_=>(0,30,at_)
 |f+1,n,c,at_=>if bQ b at_ 1=0 then(match fL l ((n+1:Nat):Int) ((2 * c+bE b at_ 1:Nat):Int) l.length with
  |some i=>((i:Int),0,aN b at_ 1)
  |none=>rh l b f (n+1) (2 * c+bE b at_ 1) (aN b at_ 1))else(0,bQ b at_ 1,aN b at_ 1)
def cM (l:List Int)(b:List UInt8)(at_:Nat):Int × Int × Nat:=if pos l then rh l b 15 0 0 at_ else(0,30,at_)
theorem Ha (l:List Int):(∃k,k<l.length/\∃x,l[k]? =some x/\0<x)↔pos l:=by
 constructor
 ·rintro⟨k,hk,x,hx,h0⟩
  rw[List.getElem?_eq_getElem hk]at hx
  exact⟨x,by rw[<- Option.some.inj hx];exact List.getElem_mem hk,h0⟩
 ·rintro⟨x,hx,h0⟩
  obtain⟨k,hk,rfl⟩:=List.mem_iff_getElem.1 hx
  exact⟨k,hk,_,List.getElem?_eq_getElem hk,h0⟩
theorem Ap (b:List UInt8)(at_:Nat):∃v:Bool,bE b at_ 1=v.toNat:=by
 have h:bE b at_ 1<2:=by
  unfold bE
  split
  ·exact oe _ _ _
  ·omega
 rcases(show bE b at_ 1=0\/bE b at_ 1=1 by omega)with e|e
 ·exact⟨false,e⟩
 ·exact⟨true,e⟩
theorem next {W:World}{p r at_:Nat}{l:List Int}{b:List UInt8}:
  Cn p_ 235 [.pointer (some ⟨p,0,none⟩),.pointer (some ⟨r,0,none⟩)] W [ei p l,pN r b at_] (fun _:Unit=> .tuple #[.int .i64 (cM l b at_).1,.int .i64 (cM l b at_).2.1]) (fun _=>[ei p l,pN r b (cM l b at_).2.2]):=by
 (refine Shp.cn (Sg.g_ Tryz.call235 Tryz.func235 (an:={loops:=[(10,[37])],drs:=[(16,.ofL [(0,1),(1,1),(2,1),(3,1),(4,1),(5,1),(6,1),(7,1),(8,1),(9,1),(10,1)])]})) fun F=>?_;simp only[ca_,na_])
 refine u0 (.there .here) fun hat=>?_
 refine aH Pick.here fun gm=>aH Pick.here fun mp=>ap Pick.here ?_
 refine aq ?_
 refine aG (.there (.there .here)) fun hdec=>?_
 have back:∀ {at2:Nat} (s e:Int) (L:List HP),Imp W L (pt p (.cells #[.map (some gm)] 313)::gJ gm uZ mp::pN r b at2::F)->cM l b at_=(s,e,at2)->aZ W L (fun w=>∃x:Unit,(.tuple #[.int .i64 s,.int .i64 e]:Value)= .tuple #[.int .i64 (cM l b at_).1,.int .i64 (cM l b at_).2.1]/\sat W ([ei p l,pN r b (cM l b at_).2.2]++F) w):=by
  intro at2 s e L hi hn
  rw[hn]
  refine bF hi ?_
  refine aR () rfl ?_
  refine .ex gm (.ex mp (.all ?_))
  refine aq ?_
  exact .pick .here (.pick .here (.pu hdec .refl))
 refine o_ qz ?_;refine ae (ae (o_ au (ae (o_ aj (ae (bJ ?_))))));refine ae (o_ G9 ?_)
 refine o_ ag (aa (c_ take fun _=>?_))
 have h00:bQ b at_ 0=0:=by unfold bQ;rw[if_neg (by omega),if_neg (by omega)]
 rw[h00,show aN b at_ 0=at_ by unfold aN;rw[if_pos h00];simp]
 refine fP ?_;refine fP ?_
 refine o_ bK ?_
 rw[dF_ (by omega)]
 refine aa (o_ au (o_ aj (bJ ?_)))
 refine bt J5 ?_
 have hemp:=hdec.emp
 rw[Ha]at hemp
 refine ay aP .nil (fun h=>?_) (fun h=>?_)
 ·have hm0:mp=[]:=List.eq_nil_of_length_eq_zero (by omega)
  have hnp:=hemp.1 hm0
  exact ab (back 0 30 _ aw (by unfold cM;rw[if_neg hnp]))
 have hp:pos l:=by
  refine Decidable.byContradiction fun c=>h ?_
  rw[hemp.2 c];rfl
 have hn0:cM l b at_=rh l b 15 0 0 at_:=by unfold cM;rw[if_pos hp]
 refine aa (o_ b_ ?_);refine bp fun g=>?_;refine fO ?_
 rename_i gx
 refine a_ (fun m y=>[ex fun n:Nat=>ex fun c:Nat=>ex fun at2:Nat=>all [pu (m+n=15/\y= .int .i64 (n:Int)/\c<2^n/\cM l b at_=rh l b m n c at2),pt g (.cells #[.int .i64 (n:Int),.int .i64 (c:Int)] 315 (0,0)),pt p (.cells #[.map (some gm)] 313),gJ gm uZ mp,pN r b at2]]++F) 15 ?_ ?_
 ·refine .ex 0 (.ex 0 (.ex at_ (.all ?_)))
  refine aq ?_
  refine .pu ⟨by omega,rfl,by omega,hn0⟩ ?_
  exact .pick (by repeat constructor) (.pick (by repeat constructor) (.pick (by repeat constructor) (.pick (by repeat constructor) .refl)))
 intro m ds y
 refine aq ?_
 refine aH Pick.here fun n=>aH Pick.here fun c=>aH Pick.here fun at2=>ap Pick.here ?_
 refine aq ?_
 refine aG Pick.here fun hi=>?_
 obtain⟨hmn,rfl,hc,hd⟩:=hi
 refine ay az .nil (fun h=>?_) (fun h=>?_)
 ·have hn15:n<15:=by omega
  obtain⟨m,rfl⟩:∃m',m=m'+1:=⟨m-1,by omega⟩
  have hc15:=jW (show n<=15 by omega)
  refine ab (c_ take fun _=>?_)
  obtain⟨tb,htb⟩:=Ap b at2
  have htl:=Bool.toNat_le tb
  rw[rh]at hd
  by_cases hR:bQ b at2 1=0
  ·rw[if_pos hR]at hd
   rw[hR,htb]
   rw[htb]at hd
   refine fP ?_;refine fP ?_
   refine o_ bK ?_
   rw[dF_ (by omega)]
   refine aa (o_ aj (bJ ?_));refine bG ?_;refine o_ aj (eE ?_);refine o_ aj (bJ ?_)
   refine o_ (fS (by omega)) ?_
   rw[show(c:Int) * 2^(min ((1:Int)).toNat IntKind.i64.bits)=((c * 2:Nat):Int) by norm_cast,mx (by omega) (by omega)]
   refine o_ sH ?_
   rw[DV (by omega)]
   refine o_ aj (eE ?_);refine bA (t_ au (t_ aj (ew ?_)));(((refine' aT (cg ?hn) ?hi ?_);(case hi=>exact .pick (by repeat constructor) .nil);(case hn=>rfl)))
   refine eJ (wo (q:=(((n:Int)+1),((2 * c+tb.toNat:Nat):Int))) Pi) ?_
   have hg:=hdec.get ((n:Int)+1) ((2 * c+tb.toNat:Nat):Int)
   rw[hg]
   rw[show((n+1:Nat):Int)=(n:Int)+1 by norm_cast]at hd
   cases hf:fL l ((n:Int)+1) ((2 * c+tb.toNat:Nat):Int) l.length with
   |some i=>
    rw[hf]at hd
    (try simp only[Option.map_some,Option.getD_some,Option.isSome_some])
    refine t_ (bk (v:= .int .i64 (i:Int)) rfl) ?_
    refine t_ (bk (v:= .bool true) rfl) ?_
    exact ab (back (i:Int) 0 _ aw hd)
   |none=>
    rw[hf]at hd
    (try simp only[Option.map_none,Option.getD_none,Option.isSome_none])
    refine t_ (bk (v:= .int .i64 0) rfl) ?_
    refine t_ (bk (v:= .bool false) rfl) ?_
    refine aa (bG ?_)
    refine aK m (by omega) (.ex (n+1) (.ex (2 * c+tb.toNat) (.ex (aN b at2 1) (.all ?_))))
    refine aq ?_
    refine .pu ⟨by omega,by norm_cast,by rw[Nat.pow_succ];omega,hd⟩ ?_
    rw[show((n+1:Nat):Int)=(n:Int)+1 by norm_cast]
    exact .pick (by repeat constructor) (.pick (by repeat constructor) (.pick (by repeat constructor) (.pick (by repeat constructor) .refl)))
  ·rw[if_neg hR]at hd
   refine fP ?_;refine fP ?_
   refine o_ bK ?_
   rw[dT_ hR]
   exact ab (back 0 (bQ b at2 1) _ aw hd)
 ·have hm0:m=0:=by omega
  subst hm0
  rw[rh]at hd
  exact aa (back 0 30 _ aw hd)
theorem Hb {W:World}{p r at_:Nat}{l:List Int}{b:List UInt8}(hl:l.length<=1099511627776):
  Cn p_ 219 [.pointer (some ⟨p,0,none⟩),.pointer (some ⟨r,0,none⟩)] W [cW p l,tK r b at_] (fun _:Unit=> .tuple #[.int .i64 (cM l b at_).1,.int .i64 (cM l b at_).2.1]) (fun _=>[cW p l,tK r b (cM l b at_).2.2]):=by
 (refine Shp.cn (Sg.g_ Tryz.call219 Tryz.func219 (an:={loops:=[(5,[6,7]),(12,[10])]})) fun F=>?_;simp only[ca_,na_])
 refine aH Pick.here fun q=>ap Pick.here ?_
 obtain⟨⟨qa,qc⟩,⟨ra,rc⟩⟩:=q
 refine aq ?_
 have back:∀ {at2:Nat} (s e:Int) (L:List HP),Imp W L (pt p (.cells #[.slice qa l.length qc,.slice ra l.length rc,.bool (decide (pos l))] 288)::Sl 1 3 qa qc l.length (l.map I)::Sl 1 3 ra rc l.length ((eW l).map I)::tK r b at2::F)->cM l b at_=(s,e,at2)->aZ W L (fun w=>∃x:Unit,(.tuple #[.int .i64 s,.int .i64 e]:Value)= .tuple #[.int .i64 (cM l b at_).1,.int .i64 (cM l b at_).2.1]/\sat W ([cW p l,tK r b (cM l b at_).2.2]++F) w):=by
  intro at2 s e L hi hn
  rw[hn]
  refine bF hi ?_
  refine aR () rfl ?_
  refine .ex ((qa,qc),(ra,rc)) (.all ?_)
  refine aq ?_
  exact .pick .here (.pick .here (.pick .here .refl))
 refine aF (.there .here) fun f1 f2 f3 f4=>?_
 refine aF (.there (.there .here)) fun g1 g2 g3 g4=>?_
 by_cases hp:¬pos l
 ·rw[dF_ hp]at back ⊢
  refine o_ au (o_ aj (bJ ?_));exact o_ dh (ab (back 0 30 _ aw (by unfold cM;rw[if_neg hp])))
 have hp:=Decidable.not_not.1 hp
 have hn0:cM l b at_=rh l b 15 0 0 at_:=by unfold cM;rw[if_pos hp]
 rw[dT_ hp]at back ⊢
 refine o_ au (o_ aj (bJ ?_));refine o_ dJ (aa (bI (fun m x y=>[ex fun n:Nat=>ex fun c:Nat=>ex fun at2:Nat=>all [pu (m+n=15/\y= .int .i64 ((n+1:Nat):Int)/\x= .int .i64 (c:Int)/\c<2^n/\cM l b at_=rh l b m n c at2),pt p (.cells #[.slice qa l.length qc,.slice ra l.length rc,.bool true] 288),Sl 1 3 qa qc l.length (l.map I),Sl 1 3 ra rc l.length ((eW l).map I),tK r b at2]]++F) 15 ?_ ?_))
 ·refine .ex 0 (.ex 0 (.ex at_ (.all ?_)))
  refine aq ?_
  refine .pu ⟨by omega,rfl,rfl,by omega,hn0⟩ ?_
  exact .pick (by repeat constructor) (.pick (by repeat constructor) (.pick (by repeat constructor) (.pick (by repeat constructor) .refl)))
 intro m ds x y
 refine aq ?_
 refine aH Pick.here fun n=>aH Pick.here fun c=>aH Pick.here fun at2=>ap Pick.here ?_
 refine aq ?_
 refine aG Pick.here fun hi=>?_
 obtain⟨hmn,rfl,rfl,hc,hd⟩:=hi
 refine ay cZ .nil (fun h=>?_) (fun h=>?_)
 ·have hn15:n<15:=by omega
  obtain⟨m,rfl⟩:∃m',m=m'+1:=⟨m-1,by omega⟩
  have hc15:=jW (show n<=15 by omega)
  refine ab (c_ I9 fun _=>?_)
  obtain⟨tb,htb⟩:=Ap b at2
  have htl:=Bool.toNat_le tb
  rw[rh]at hd
  by_cases hR:bQ b at2 1=0
  ·rw[if_pos hR]at hd
   rw[hR,htb]
   rw[htb]at hd
   refine fP ?_;refine fP ?_
   refine o_ bK ?_
   rw[dF_ (by omega)]
   refine aa ?_;(refine o_ (eh (by omega) (by omega)) ?_);refine bG ?_
   rw[show 2 * (c:Int)+(tb.toNat:Int)=((2 * c+tb.toNat:Nat):Int) by norm_cast]
   obtain⟨C,hC⟩:∃C,C=2 * c+tb.toNat:=⟨_,rfl⟩
   rw[<- hC]at hd ⊢
   refine a_ (fun m2 y=>[ex fun i:Nat=>all [pu (m2+i=l.length/\y= .int .i64 (i:Int)/\fL l ((n+1:Nat):Int) (C:Int) i=none),pt p (.cells #[.slice qa l.length qc,.slice ra l.length rc,.bool true] 288),Sl 1 3 qa qc l.length (l.map I),Sl 1 3 ra rc l.length ((eW l).map I),tK r b (aN b at2 1)]]++F) l.length ?_ ?_
   ·refine .ex 0 (.all ?_)
    refine aq ?_
    refine .pu ⟨by omega,rfl,rfl⟩ ?_
    exact .pick (by repeat constructor) (.pick (by repeat constructor) (.pick (by repeat constructor) (.pick (by repeat constructor) .refl)))
   intro m2 ds y
   refine aq ?_
   refine aH Pick.here fun i=>ap Pick.here ?_
   refine aq ?_
   refine aG Pick.here fun hi=>?_
   obtain⟨hmi,rfl,hfn⟩:=hi
   refine o_ au (o_ aj (bJ ?_));refine o_ aC (ay az .nil (fun h=>?_) (fun h=>?_))
   ·have hil:i<l.length:=by omega
    obtain⟨gq,rfl⟩:=f4 (by omega)
    obtain⟨gr,rfl⟩:=g4 (by omega)
    have gi:((eW l).map I)[0+i]? =some (I (cv l i)):=by rw[Nat.zero_add,List.getElem?_map,eW,List.getElem?_map,List.getElem?_range hil];rfl
    have gl:(l.map I)[0+i]? =some (I l[i]):=by rw[Nat.zero_add];exact dK hil
    have hli:l[i]? =some l[i]:=List.getElem?_eq_getElem hil
    have nxt1:¬(l[i]=((n+1:Nat):Int)/\(cv l i:Int)=C)->aZ W (pt p (.cells #[.slice (some ⟨gq,0,none⟩) l.length qc,.slice (some ⟨gr,0,none⟩) l.length rc,.bool true] 288)::Sl 1 3 (some ⟨gq,0,none⟩) qc l.length (l.map I)::Sl 1 3 (some ⟨gr,0,none⟩) rc l.length ((eW l).map I)::tK r b (aN b at2 1)::F) (iD (fun m2 y w=>sat W ([ex fun i:Nat=>all [pu (m2+i=l.length/\y= .int .i64 (i:Int)/\fL l ((n+1:Nat):Int) (C:Int) i=none),pt p (.cells #[.slice (some ⟨gq,0,none⟩) l.length qc,.slice (some ⟨gr,0,none⟩) l.length rc,.bool true] 288),Sl 1 3 (some ⟨gq,0,none⟩) qc l.length (l.map I),Sl 1 3 (some ⟨gr,0,none⟩) rc l.length ((eW l).map I),tK r b (aN b at2 1)]]++F) w) m2 (.int .i64 ((i:Int)+1))):=by
     intro hne
     refine aK (m2-1) (by omega) (.ex (i+1) (.all ?_))
     refine aq ?_
     refine .pu ⟨by omega,by norm_cast,?_⟩ ?_
     ·rw[fL,hfn]
      simp only
      rw[if_neg (fun d=>hne ⟨by have d2:=d.2.1;rw[hli]at d2;exact Option.some.inj d2,d.2.2⟩)]
     ·exact .pick (by repeat constructor) (.pick (by repeat constructor) (.pick (by repeat constructor) (.pick (by repeat constructor) .refl)))
    refine ab (o_ au (o_ aj (bJ ?_)))
    refine o_ (bj i (by rfl) hil) ?_
    refine bt (cI gl) ?_
    refine ay aP .nil (fun h=>?_) (fun h=>?_)
    ·have he1:=h
     refine ae (ae (o_ au (ae (o_ aj (ae (bJ ?_))))));refine ae (ae (o_ (bj i (by rfl) hil) ?_))
     refine ae (bt (cI gi) ?_)
     refine ae (ae (ay aP .nil (fun h=>?_) (fun h=>?_)))
     ·(refine o_ ah ?_);refine ab ?_
      have hfs:fL l ((n+1:Nat):Int) (C:Int) (i+1)=some i:=by
       rw[fL,hfn]
       simp only
       rw[if_pos ⟨by omega,by rw[hli,he1],h⟩]
      have hfe:=Jc hfs (l.length-(i+1))
      rw[show i+1+(l.length-(i+1))=l.length by omega]at hfe
      rw[hfe]at hd
      exact back (i:Int) 0 _ aw hd
     ·(refine o_ ah ?_);refine aa ?_;refine bG ?_
      exact nxt1 (fun c=>h c.2)
    ·(refine af ?_);refine af ?_;refine af ?_;refine af ?_;refine af ?_;refine af ?_;refine af ?_;refine af ?_;refine af ?_;refine o_ ag ?_;refine aa ?_;refine bG ?_
     exact nxt1 (fun c=>h c.1)
   ·have hie:i=l.length:=by omega
    subst hie
    rw[hfn]at hd
    refine aa (bG ?_)
    refine bo m (by omega) (.ex (n+1) (.ex C (.ex (aN b at2 1) (.all ?_))))
    refine aq ?_
    refine .pu ⟨by omega,by norm_cast,rfl,by rw[Nat.pow_succ,hC];omega,hd⟩ ?_
    exact .pick (by repeat constructor) (.pick (by repeat constructor) (.pick (by repeat constructor) (.pick (by repeat constructor) .refl)))
  ·rw[if_neg hR]at hd
   refine fP ?_;refine fP ?_
   refine o_ bK ?_
   rw[dT_ hR]
   exact ab (back 0 (bQ b at2 1) _ aw hd)
 ·have hm0:m=0:=by omega
  subst hm0
  rw[rh]at hd
  exact aa (back 0 30 _ aw hd)
end HF
namespace IF
open Go Go.Proofs Go.RowKit Sh Sl T HM HF B M
abbrev Ok {α:Type}(m:Except Int α):={x:α // m= .ok x}
abbrev Er {α:Type}(m:Except Int α):={e:Int // m= .error e}
def ej (b:List UInt8)(most:Int)(at_:Nat)(out:List UInt8):Except Int (Nat × List UInt8):=
 if bQ b ((at_+7) / 8 * 8) 16≠0 then .error (bQ b ((at_+7) / 8 * 8) 16)else
 if bQ b (aN b ((at_+7) / 8 * 8) 16) 16≠0 then .error (bQ b (aN b ((at_+7) / 8 * 8) 16) 16)else
 if(bE b (aN b ((at_+7) / 8 * 8) 16) 16:Int)≠65535-(bE b ((at_+7) / 8 * 8) 16:Int)then .error 31 else
 if ¬(bE b ((at_+7) / 8 * 8) 16:Int)<=most-out.length then .error 6 else
 if ss b (aN b (aN b ((at_+7) / 8 * 8) 16) 16) (bE b ((at_+7) / 8 * 8) 16:Int)≠0 then .error (ss b (aN b (aN b ((at_+7) / 8 * 8) 16) 16) (bE b ((at_+7) / 8 * 8) 16:Int))else
 .ok (jI b (aN b (aN b ((at_+7) / 8 * 8) 16) 16) (bE b ((at_+7) / 8 * 8) 16:Int),out++jz b (aN b (aN b ((at_+7) / 8 * 8) 16) 16) (bE b ((at_+7) / 8 * 8) 16:Int))
theorem KS {W:World}{p at_:Nat}{b out:List UInt8}{most:Int}(h1: -1099511627776<=most/\most<=1099511627776)(h2:out.length<=1099511627776):
  CnP p_ 134 [.pointer (some ⟨p,0,none⟩)] W [lz p b at_ out most] (fun _:Ok (ej b most at_ out)=> .tuple #[]) (fun x=>[lz p b x.1.1 x.1.2 most]) (fun y:Er (ej b most at_ out)=>pn y.1) (fun _=>[]):=by
 (refine Shp.cnP (Sg.g_ Tryz.call134 Tryz.func134) fun F=>?_;simp only[ca_,na_,-eq_self])
 refine aH Pick.here fun q=>ap Pick.here ?_
 obtain⟨r,qa,qc⟩:=q
 refine aq ?_
 refine o_ au (o_ aj (bJ ?_))
 refine c_ KH fun _=>?_
 refine bF (M:=lz p b ((at_+7) / 8 * 8) out most::F) (.ex (r,(qa,qc)) (.all (.pick (by repeat constructor) (.pick (by repeat constructor) (.pick (by repeat constructor) aw))))) ?_
 obtain⟨a1,ha1⟩:∃a1,a1=(at_+7) / 8 * 8:=⟨_,rfl⟩
 have hM:ej b most at_ out=ej b most at_ out:=rfl
 conv at hM=>rhs;unfold ej
 rw[<- ha1]at hM ⊢
 (refine' bf (jX) ?hp (fun _=>?_) (fun _=>?_);(case hp=>(repeat(first|exact Picks.nil|(apply Picks.cons;(focus repeat constructor)))));(all_goals (try simp only[ca_,na_,Bool.not_true,Bool.not_false,-eq_self])))
 rotate_left
 ·rename_i y
  rw[if_pos y.2]at hM
  refine bT ⟨_,hM⟩ rfl ?_
  exact aw
 rename_i x1
 rw[if_neg (fun c=>c x1.2)]at hM
 obtain⟨n,hn⟩:∃n,n=bE b a1 16:=⟨_,rfl⟩
 obtain⟨a2,ha2⟩:∃a2,a2=aN b a1 16:=⟨_,rfl⟩
 rw[<- hn,<- ha2]at hM
 (try rw[<- hn])
 (try rw[<- ha2])
 (refine' bf (jX) ?hp (fun _=>?_) (fun _=>?_);(case hp=>(repeat(first|exact Picks.nil|(apply Picks.cons;(focus repeat constructor)))));(all_goals (try simp only[ca_,na_,Bool.not_true,Bool.not_false,-eq_self])))
 rotate_left
 ·rename_i y
  rw[if_pos y.2]at hM
  refine bT ⟨_,hM⟩ rfl ?_
  exact aw
 rename_i x2
 rw[if_neg (fun c=>c x2.2)]at hM
 obtain⟨m,hm⟩:∃m,m=bE b a2 16:=⟨_,rfl⟩
 obtain⟨a3,ha3⟩:∃a3,a3=aN b a2 16:=⟨_,rfl⟩
 rw[<- hm,<- ha3]at hM
 (try rw[<- hm])
 (try rw[<- ha3])
 have hn16:n<65536:=by rw[hn];unfold bE;split;exact oe _ _ _;omega
 refine dX ?_
 refine o_ aP ?_
 (refine' bf (gy) ?hp (fun _=>?_) (fun _=>?_);(case hp=>(repeat(first|exact Picks.nil|(apply Picks.cons;(focus repeat constructor)))));(all_goals (try simp only[ca_,na_,Bool.not_true,Bool.not_false,-eq_self])))
 rotate_left
 ·rename_i y
  rw[if_pos (of_decide_eq_false y.2)]at hM
  refine bT ⟨_,hM⟩ rfl ?_
  exact aw
 rename_i x3
 rw[if_neg (fun c=>c (of_decide_eq_true x3.2))]at hM
 (refine' bf (room h1 h2) ?hp (fun _=>?_) (fun _=>?_);(case hp=>(repeat(first|exact Picks.nil|(apply Picks.cons;(focus repeat constructor)))));(all_goals (try simp only[ca_,na_,Bool.not_true,Bool.not_false,-eq_self])))
 rotate_left
 ·rename_i y
  rw[if_pos y.2]at hM
  refine bT ⟨_,hM⟩ rfl ?_
  exact aw
 rename_i x4
 rw[if_neg (fun c=>c x4.2)]at hM
 refine aH Pick.here fun q=>ap Pick.here ?_
 obtain⟨r,qa,qc⟩:=q
 refine aq ?_
 refine o_ au (o_ aj (bJ ?_))
 refine c_ Sv fun _=>?_
 rename_i u
 obtain⟨ua,uc⟩:=u
 (try dsimp only)
 refine o_ (bk (v:= .slice ua (jz b a3 n).length uc) rfl) ?_
 refine o_ (bk (v:= .int .i64 (ss b a3 n)) rfl) ?_
 (refine' bf (B7) ?hp (fun _=>?_) (fun _=>?_);(case hp=>(repeat(first|exact Picks.nil|(apply Picks.cons;(focus repeat constructor)))));(all_goals (try simp only[ca_,na_,Bool.not_true,Bool.not_false,-eq_self])))
 rotate_left
 ·rename_i y
  rw[if_pos y.2]at hM
  refine bT ⟨_,hM⟩ rfl ?_
  exact aw
 rename_i x5
 rw[if_neg (fun c=>c x5.2)]at hM
 refine o_ au (o_ aj (bJ ?_))
 refine aF .here fun f1 f2 f3 f4=>?_
 have hle:=KK b a3 n
 have hbl:(jz b a3 n).length<=65536:=by
  have:(jz b a3 n).length<=n:=by unfold jz;split;(rw[List.length_take];omega);simp
  omega
 refine bO (m:=(jz b a3 n).length) (news:=(jz b a3 n).map Sl.B) (by repeat constructor) (dF (e':=5) (by kernel_rfl) .here (cq (by simp) f4) (fun c=>(by
  rcases Nat.eq_zero_or_pos (jz b a3 n).length with z|z
  ·exact z
  ·obtain⟨_,e⟩:=f4 z;rw[c]at e;cases e)) dY) (by omega) (by omega) fun a' c'=>?_
 refine o_ au (o_ aj (eE ?_))
 refine bq ((⟨_,hM⟩:Ok (ej b most at_ out))) ?_
 refine .ex (r,(a',c')) (.all ?_)
 refine aq ?_
 rw[List.length_append,List.map_append]
 exact .pick (by repeat constructor) (.pick (by repeat constructor) (.pick (by repeat constructor) aw))
theorem nq {W:World}{A:HP}{a:Option Addr}{cap:Nat}{l:List Int}(hr:RdB W A a l.length (l.map I))(hl:l.length<=4611686018427387904):
  CnP p_ 178 [.slice a l.length cap] W [A] (fun x:{p:Nat // okL l}=> .pointer (some ⟨x.1,0,none⟩)) (fun x=>[ei x.1 l,A]) (fun _:If (¬okL l)=>pn 30) (fun _=>[A]):=by
 (refine Shp.cnP (Sg.g_ Tryz.call178 Tryz.func178) fun F=>?_;simp only[ca_,na_,-eq_self])
 by_cases hok:okL l
 ·refine c_ (KR hr hok) fun _=>?_
  rename_i p
  refine o_ (bk (v:= .pointer (some ⟨p,0,none⟩)) rfl) ?_
  refine o_ (bk (v:= .int .i64 0) rfl) ?_
  (refine' bf (B7) ?hp (fun _=>?_) (fun _=>?_);(case hp=>(repeat(first|exact Picks.nil|(apply Picks.cons;(focus repeat constructor)))));(all_goals (try simp only[ca_,na_,Bool.not_true,Bool.not_false,-eq_self])))
  ·refine aR ⟨p,hok⟩ rfl ?_
   exact aw
  ·rename_i y
   exact absurd rfl y.2
 ·refine c_ (G_ hr hl hok) fun _=>?_
  refine fP ?_;refine fP ?_
  (refine' bf (B7) ?hp (fun _=>?_) (fun _=>?_);(case hp=>(repeat(first|exact Picks.nil|(apply Picks.cons;(focus repeat constructor)))));(all_goals (try simp only[ca_,na_,Bool.not_true,Bool.not_false,-eq_self])))
  ·rename_i x
   exact absurd x.2 (by omega)
  ·refine bT (mh hok) rfl ?_
   exact aw
theorem Ed {W:World}{p r at_:Nat}{l:List Int}{b:List UInt8}:
  CnP p_ 210 [.pointer (some ⟨p,0,none⟩),.pointer (some ⟨r,0,none⟩)] W [ei p l,pN r b at_] (fun _:If ((cM l b at_).2.1=0)=> .int .i64 (cM l b at_).1) (fun _=>[ei p l,pN r b (cM l b at_).2.2]) (fun _:If ((cM l b at_).2.1≠0)=>pn (cM l b at_).2.1) (fun _=>[]):=by
 (refine Shp.cnP (Sg.g_ Tryz.call210 Tryz.func210) fun F=>?_;simp only[ca_,na_,-eq_self])
 refine c_ next fun _=>?_
 refine o_ (bk (v:= .int .i64 (cM l b at_).1) rfl) ?_
 refine o_ (bk (v:= .int .i64 (cM l b at_).2.1) rfl) ?_
 (refine' bf (B7) ?hp (fun _=>?_) (fun _=>?_);(case hp=>(repeat(first|exact Picks.nil|(apply Picks.cons;(focus repeat constructor)))));(all_goals (try simp only[ca_,na_,Bool.not_true,Bool.not_false,-eq_self])))
 ·rename_i x
  refine bq (mh x.2) ?_
  exact aw
 ·rename_i y
  refine bT (mh y.2) rfl ?_
  exact aw
def bL (s:Int):Int × Int:=if s-257<0\/28<s-257 then(0,0)else if s-257=28 then(258,0)else if s-257<8 then(s-257+3,0)else(3+(4+(s-257)%4) * ((2^((s-257) / 4-1).toNat:Nat):Int),(s-257) / 4-1)
def bD (s:Int):Int × Int:=if s<0\/29<s then(0,0)else if s<4 then(s+1,0)else(1+(2+s%2) * ((2^(s / 2-1).toNat:Nat):Int),s / 2-1)
theorem ri {W:World}{s:Int}(h1: -1099511627776<=s/\s<=1099511627776):Cn p_ 211 [.int .i64 s] W [] (fun _:Unit=> .tuple #[.int .i64 (bL s).1,.int .i64 (bL s).2]) (fun _=>[]):=by
 (refine Shp.cn (Sg.g_ Tryz.call211 Tryz.func211) fun F=>?_;simp only[ca_,na_])
 refine dX ?_
 refine ay az .nil (fun h=>?_) (fun h=>?_)
 ·(refine ao ?_);refine ao ?_;refine o_ ah ?_;refine ab ?_
  rw[show bL s=(0,0)from if_pos (.inl h)]
  refine bq () ?_
  exact .refl
 have i1:=h
 refine ae (ae (ay aV .nil (fun h=>?_) (fun h=>?_)))
 ·(refine o_ ag ?_);refine ab ?_
  rw[show bL s=(0,0)from if_pos (.inr h)]
  refine bq () ?_
  exact .refl
 have i2:=h
 refine o_ ag (aa (ay aP .nil (fun h=>?_) (fun h=>?_)))
 ·(refine ab ?_)
  rw[show bL s=(258,0) by unfold bL;rw[if_neg (by omega),if_pos h]]
  refine bq () ?_
  exact .refl
 have i3:=h
 refine aa (ay az .nil (fun h=>?_) (fun h=>?_))
 ·(refine ab ?_);refine bG ?_
  rw[show bL s=(s-257+3,0) by unfold bL;rw[if_neg (by omega),if_neg i3,if_pos h]]
  refine bq () ?_
  exact .refl
 have i4:=h
 obtain⟨K,hK⟩:=Int.eq_ofNat_of_zero_le (show 0<=s-257 by omega)
 have hb:bL s=(3+(4+(s-257)%4) * ((2^((s-257) / 4-1).toNat:Nat):Int),(s-257) / 4-1):=by unfold bL;rw[if_neg (by omega),if_neg i3,if_neg i4]
 rw[hb,hK]
 have e1:(K:Int) / 4-1=((K / 4-1:Nat):Int):=by omega
 refine aa ?_;(((refine o_ (hH ?h1 ?h2 ?h3) ?_);(case h1=>omega);(case h2=>omega);(case h3=>omega)));refine dX ?_;(((refine o_ (mH ?h1 ?h2) ?_);(case h1=>omega);(case h2=>omega)));refine bG ?_
 refine o_ br ?_
 rw[d7 (by omega) (by omega),e1]
 refine o_ (fS (by omega)) ?_
 rw[pB (by omega) (by omega) (by omega),Int.toNat_natCast]
 have h5:(2:Nat)^(K / 4-1)<=32768:=jW (by omega)
 obtain⟨E,hE⟩:∃E:Nat,E=2^(K / 4-1):=⟨_,rfl⟩
 rw[<- hE]at h5 ⊢
 have h6:(4+(K:Int)%4) * (E:Int)<=8 * 32768:=Int.mul_le_mul (by omega) (by omega) (by omega) (by omega)
 have h7:0<=(4+(K:Int)%4) * (E:Int):=Int.mul_nonneg (by omega) (by omega)
 refine bG ?_
 refine bq () ?_
 exact .refl
theorem nr {W:World}{s:Int}:Cn p_ 212 [.int .i64 s] W [] (fun _:Unit=> .tuple #[.int .i64 (bD s).1,.int .i64 (bD s).2]) (fun _=>[]):=by
 (refine Shp.cn (Sg.g_ Tryz.call212 Tryz.func212) fun F=>?_;simp only[ca_,na_])
 refine ay az .nil (fun h=>?_) (fun h=>?_)
 ·(refine ao ?_);refine ao ?_;refine o_ ah ?_;refine ab ?_
  rw[show bD s=(0,0)from if_pos (.inl h)]
  refine bq () ?_
  exact .refl
 have i1:=h
 refine ae (ae (ay aV .nil (fun h=>?_) (fun h=>?_)))
 ·(refine o_ ag ?_);refine ab ?_
  rw[show bD s=(0,0)from if_pos (.inr h)]
  refine bq () ?_
  exact .refl
 have i2:=h
 refine o_ ag (aa (ay az .nil (fun h=>?_) (fun h=>?_)))
 ·(refine ab ?_);refine bG ?_
  rw[show bD s=(s+1,0) by unfold bD;rw[if_neg (by omega),if_pos h]]
  refine bq () ?_
  exact .refl
 have i4:=h
 obtain⟨K,rfl⟩:=Int.eq_ofNat_of_zero_le (show 0<=s by omega)
 have hb:bD K=(1+(2+(K:Int)%2) * ((2^((K:Int) / 2-1).toNat:Nat):Int),(K:Int) / 2-1):=by unfold bD;rw[if_neg (by omega),if_neg i4]
 rw[hb]
 have e1:(K:Int) / 2-1=((K / 2-1:Nat):Int):=by omega
 refine aa ?_;(((refine o_ (hH ?h1 ?h2 ?h3) ?_);(case h1=>omega);(case h2=>omega);(case h3=>omega)));refine dX ?_;(((refine o_ (mH ?h1 ?h2) ?_);(case h1=>omega);(case h2=>omega)));refine bG ?_
 refine o_ br ?_
 rw[d7 (by omega) (by omega),e1]
 refine o_ (fS (by omega)) ?_
 rw[pB (by omega) (by omega) (by omega),Int.toNat_natCast]
 have h5:(2:Nat)^(K / 2-1)<=32768:=jW (by omega)
 obtain⟨E,hE⟩:∃E:Nat,E=2^(K / 2-1):=⟨_,rfl⟩
 rw[<- hE]at h5 ⊢
 have h6:(2+(K:Int)%2) * (E:Int)<=8 * 32768:=Int.mul_le_mul (by omega) (by omega) (by omega) (by omega)
 have h7:0<=(2+(K:Int)%2) * (E:Int):=Int.mul_nonneg (by omega) (by omega)
 refine bG ?_
 refine bq () ?_
 exact .refl
theorem fill {W:World}{a:Option Addr}{c k n:Nat}{l:List Int}{v:Int}(hn:l.length=n)(h1:n<=1048576)(h2:k<=1048576):Cn p_ 209 [.slice a n c,.int .i64 (k:Int),.int .i64 v] W [Sl 1 3 a c n (l.map I)]
  (fun q:Option Addr × Nat=> .slice q.1 (n+k) q.2) (fun q=>[Sl 1 3 q.1 q.2 (n+k) ((l++List.replicate k v).map I)]):=by
 (refine Shp.cn (Sg.g_ Tryz.call209 Tryz.func209 (an:={loops:=[(2,[0,8])]})) fun F=>?_;simp only[ca_,na_])
 refine bI (fun m x y=>[ex fun i:Nat=>ex fun q:Option Addr × Nat=>all [pu (m+i=k/\y= .int .i64 (i:Int)/\x= .slice q.1 (n+i) q.2),Sl 1 3 q.1 q.2 (n+i) ((l++List.replicate i v).map I)]]++F) k ?_ ?_
 ·refine .ex 0 (.ex (a,c) (.all ?_))
  refine aq ?_
  refine .pu ⟨by omega,rfl,rfl⟩ ?_
  rw[List.replicate_zero,List.append_nil]
  exact .refl
 intro m ds x y
 refine aq ?_
 refine aH Pick.here fun i=>aH Pick.here fun q=>ap Pick.here ?_
 obtain⟨qa,qc⟩:=q
 refine aq ?_
 refine aG Pick.here fun hi=>?_
 obtain⟨hmi,rfl,rfl⟩:=hi
 (try dsimp only)
 refine ay az .nil (fun h=>?_) (fun h=>?_)
 ·refine ab (eI fun g=>?_)
  refine bO (m:=1) (news:=[I v]) (by repeat constructor) (cA (e':=3) (by kernel_rfl) .here (by rfl) (mO (l:=[v]))) (by omega) (by omega) fun a' c'=>?_
  refine bG ?_
  refine bo (m-1) (by omega) (.ex (i+1) (.ex (a',c') (.all ?_)))
  refine aq ?_
  refine .pu ⟨by omega,congrArg (Value.int .i64) (by omega),by rw[Nat.add_assoc]⟩ ?_
  rw[List.replicate_succ',<- List.append_assoc,List.map_append (l₁:=l++List.replicate i v),<- Nat.add_assoc]
  exact .pick (by repeat constructor) aw
 ·have:i=k:=by omega
  subst this
  refine aa (aR (qa,qc) rfl ?_)
  exact .refl
def eX:List Int:=List.replicate 144 8++List.replicate 112 9++List.replicate 24 7++List.replicate 8 8
def fw:List Int:=List.replicate 32 5
theorem lg:eX.length=0+144+112+24+8:=by simp only[eX,List.length_append,List.length_replicate]
theorem lh:fw.length=0+32:=by simp only[fw,List.length_replicate]
theorem Ee {W:World}:Cn p_ 176 [] W [] (fun q:(Option Addr × Nat) × (Option Addr × Nat)=> .tuple #[.slice q.1.1 eX.length q.1.2,.slice q.2.1 fw.length q.2.2])
  (fun q=>[Sl 1 3 q.1.1 q.1.2 eX.length (eX.map I),Sl 1 3 q.2.1 q.2.2 fw.length (fw.map I)]):=by
 (refine Shp.cn (Sg.g_ Tryz.call176 Tryz.func176) fun F=>?_;simp only[ca_,na_])
 rw[lg,lh]
 refine cU (s:=1) (e:=3) ?_
 refine c_ (fill (l:=[]) (k:=144) (v:=8) rfl (by omega) (by omega)) fun _=>?_
 rename_i q1
 obtain⟨a1,c1⟩:=q1
 (try dsimp only)
 refine c_ (fill (l:=List.replicate 144 8) (n:=0+144) (k:=112) (v:=9) (by rw[List.length_replicate]) (by omega) (by omega)) fun _=>?_
 rename_i q2
 obtain⟨a2,c2⟩:=q2
 (try dsimp only)
 refine c_ (fill (l:=List.replicate 144 8++List.replicate 112 9) (n:=0+144+112) (k:=24) (v:=7) (by rw[List.length_append,List.length_replicate,List.length_replicate]) (by omega) (by omega)) fun _=>?_
 rename_i q3
 obtain⟨a3,c3⟩:=q3
 (try dsimp only)
 refine c_ (fill (l:=List.replicate 144 8++List.replicate 112 9++List.replicate 24 7) (n:=0+144+112+24) (k:=8) (v:=8) (by rw[List.length_append,List.length_append,List.length_replicate,List.length_replicate,List.length_replicate]) (by omega) (by omega)) fun _=>?_
 rename_i q4
 obtain⟨a4,c4⟩:=q4
 (try dsimp only)
 rw[show(List.replicate 144 8++List.replicate 112 9++List.replicate 24 7++List.replicate 8 8:List Int)=eX from rfl]
 refine cU (s:=1) (e:=3) ?_
 refine c_ (fill (l:=[]) (k:=32) (v:=5) rfl (by omega) (by omega)) fun _=>?_
 rename_i q5
 obtain⟨a5,c5⟩:=q5
 rw[show(List.replicate 32 5:List Int)=fw from rfl]
 (try dsimp only)
 refine aR ((a4,c4),(a5,c5)) rfl ?_
 exact .pick (by repeat constructor) (.pick (by repeat constructor) aw)
theorem Ef (l:List Int)(b:List UInt8):∀f n c at_,at_<=(rh l b f n c at_).2.2/\((rh l b f n c at_).2.1=0->at_<(rh l b f n c at_).2.2)
 |0,n,c,at_=>⟨Nat.le_refl _,fun h=>by simp[rh]at h⟩
 |f+1,n,c,at_=>by
  have hA:at_<=aN b at_ 1:=by unfold aN;split <;> omega
  unfold rh
  by_cases hR:bQ b at_ 1=0
  ·rw[if_pos hR]
   have hA1:aN b at_ 1=at_+1:=by unfold aN;rw[if_pos hR];rfl
   cases fL l ((n+1:Nat):Int) ((2 * c+bE b at_ 1:Nat):Int) l.length with
   |some i=>exact⟨hA,fun _=>by simp only;omega⟩
   |none=>
    have ih:=Ef l b f (n+1) (2 * c+bE b at_ 1) (aN b at_ 1)
    simp only
    exact⟨by omega,fun h=>by have:=ih.2 h;omega⟩
  ·rw[if_neg hR]
   exact⟨hA,fun h=>absurd h hR⟩
theorem jL (l:List Int)(b:List UInt8)(at_:Nat):at_<=(cM l b at_).2.2/\((cM l b at_).2.1=0->at_<(cM l b at_).2.2):=by
 unfold cM
 split
 ·exact Ef l b 15 0 0 at_
 ·exact⟨Nat.le_refl _,fun h=>by cases h⟩
theorem cE (b:List UInt8)(at_:Nat)(k:Int):at_<=aN b at_ k:=by unfold aN;split <;> omega
def fW (out:List UInt8)(far:Nat):Nat->List UInt8
 |0=>out
 |k+1=>fW out far k++[(fW out far k).getD ((fW out far k).length-far) 0]
theorem li (out:List UInt8)(far:Nat):∀k,(fW out far k).length=out.length+k
 |0=>rfl
 |k+1=>by rw[fW,List.length_append,li out far k,List.length_singleton];omega
def gz (la lb:List Int)(b:List UInt8)(most:Int)(at_:Nat)(out:List UInt8):Except Int (Bool × Nat × List UInt8):=
 let x:=cM la b at_
 if x.2.1≠0 then .error x.2.1 else
 if x.1=256 then .ok (true,x.2.2,out)else
 if x.1<256 then(if ¬(1:Int)<=most-out.length then .error 6 else .ok (false,x.2.2,out++[UInt8.ofNat x.1.toNat]))else
 if ¬0<(bL x.1).1 then .error 30 else
 if bQ b x.2.2 (bL x.1).2≠0 then .error (bQ b x.2.2 (bL x.1).2)else
 let y:=cM lb b (aN b x.2.2 (bL x.1).2)
 if y.2.1≠0 then .error y.2.1 else
 if ¬0<(bD y.1).1 then .error 30 else
 if bQ b y.2.2 (bD y.1).2≠0 then .error (bQ b y.2.2 (bD y.1).2)else
 if ¬(bD y.1).1+bE b y.2.2 (bD y.1).2<=out.length then .error 31 else
 if ¬(bL x.1).1+bE b x.2.2 (bL x.1).2<=most-out.length then .error 6 else
 .ok (false,aN b y.2.2 (bD y.1).2,fW out ((bD y.1).1+bE b y.2.2 (bD y.1).2).toNat ((bL x.1).1+bE b x.2.2 (bL x.1).2).toNat)
def lK (la lb:List Int)(b:List UInt8)(most:Int):Nat->Nat->List UInt8->Except Int (Nat × List UInt8)
 |0,_,_=> .error 20
 |f+1,at_,out=>match gz la lb b most at_ out with
  | .error e=> .error e
  | .ok (true,a,o)=> .ok (a,o)
  | .ok (false,a,o)=>lK la lb b most f a o
theorem Aq (l:List Int)(b:List UInt8):∀f n c at_,0<=(rh l b f n c at_).1/\(rh l b f n c at_).1<=l.length
 |0,n,c,at_=>by simp[rh]
 |f+1,n,c,at_=>by
  unfold rh
  split
  ·cases h:fL l ((n+1:Nat):Int) ((2 * c+bE b at_ 1:Nat):Int) l.length with
   |some i=>have:=(nn h).1;simp only;omega
   |none=>exact Aq l b f _ _ _
  ·simp
theorem im (l:List Int)(b:List UInt8)(at_:Nat):0<=(cM l b at_).1/\(cM l b at_).1<=l.length:=by
 unfold cM
 split
 ·exact Aq l b 15 0 0 at_
 ·simp
theorem Pj (s:Int)(h:0<=s):0<=(bL s).1/\(bL s).1<=1099511627776/\0<=(bL s).2:=by
 unfold bL
 split
 ·simp
 ·split
  ·simp
  ·split
   ·simp only;omega
   ·rename_i h1 h2 h3
    have e:((2^((s-257) / 4-1).toNat:Nat):Int)<=32768:=by
     have:=jW (show((s-257) / 4-1).toNat<=15 by omega)
     omega
    have e0:(0:Int)<=((2^((s-257) / 4-1).toNat:Nat):Int):=Int.natCast_nonneg _
    obtain⟨E,hE⟩:∃E:Int,E=((2^((s-257) / 4-1).toNat:Nat):Int):=⟨_,rfl⟩
    rw[<- hE]at e e0 ⊢
    have h6:(4+(s-257)%4) * E<=8 * 32768:=Int.mul_le_mul (by omega) (by omega) (by omega) (by omega)
    have h7:0<=(4+(s-257)%4) * E:=Int.mul_nonneg (by omega) (by omega)
    simp only;omega
theorem Pk (s:Int)(h:0<=s):0<=(bD s).1/\(bD s).1<=1099511627776/\0<=(bD s).2:=by
 unfold bD
 split
 ·simp
 ·split
  ·simp only;omega
  ·rename_i h1 h2
   have e:((2^(s / 2-1).toNat:Nat):Int)<=32768:=by
    have:=jW (show(s / 2-1).toNat<=15 by omega)
    omega
   have e0:(0:Int)<=((2^(s / 2-1).toNat:Nat):Int):=Int.natCast_nonneg _
   obtain⟨E,hE⟩:∃E:Int,E=((2^(s / 2-1).toNat:Nat):Int):=⟨_,rfl⟩
   rw[<- hE]at e e0 ⊢
   have h6:(2+s%2) * E<=8 * 32768:=Int.mul_le_mul (by omega) (by omega) (by omega) (by omega)
   have h7:0<=(2+s%2) * E:=Int.mul_nonneg (by omega) (by omega)
   simp only;omega
theorem oo (b:List UInt8)(at_:Nat)(k:Int):bE b at_ k<4294967296:=by
 unfold bE
 split
 ·rename_i h
  have hk:k.toNat<=32:=by
   unfold bQ at h
   split at h
   ·cases h
   ·omega
  exact Nat.lt_of_lt_of_le (oe _ _ _) (Nat.le_trans (Nat.pow_le_pow_right (by omega) hk) (by decide))
 ·omega
theorem aQ {α:Type}{c:Prop}[Decidable c]{e:Int}{x:Except Int α}{v:α}(h:(if c then .error e else x)= .ok v):¬c/\x= .ok v:=by
 by_cases hc:c
 ·rw[if_pos hc]at h;cases h
 ·rw[if_neg hc]at h;exact⟨hc,h⟩
theorem oq {la lb:List Int}{b:List UInt8}{most:Int}{at_:Nat}{out:List UInt8}{t:Bool}{a:Nat}{o:List UInt8}(h:gz la lb b most at_ out= .ok (t,a,o))(h0:(out.length:Int)<=most):(o.length:Int)<=most:=by
 have ho:∀ {t':Bool} {a':Nat} {o':List UInt8},(Except.ok (t',a',o'):Except Int (Bool × Nat × List UInt8))= .ok (t,a,o)->o'=o:=fun e=>(Prod.mk.inj (Prod.mk.inj (Except.ok.inj e)).2).2
 unfold gz at h
 simp only at h
 obtain⟨_,h⟩:=aQ h
 by_cases c1:(cM la b at_).1=256
 ·rw[if_pos c1]at h
  rw[<- ho h];exact h0
 rw[if_neg c1]at h
 by_cases c2:(cM la b at_).1<256
 ·rw[if_pos c2]at h
  obtain⟨c3,h⟩:=aQ h
  rw[<- ho h,List.length_append,List.length_singleton];omega
 rw[if_neg c2]at h
 obtain⟨_,h⟩:=aQ h
 obtain⟨_,h⟩:=aQ h
 obtain⟨_,h⟩:=aQ h
 obtain⟨_,h⟩:=aQ h
 obtain⟨_,h⟩:=aQ h
 obtain⟨_,h⟩:=aQ h
 obtain⟨c3,h⟩:=aQ h
 rw[<- ho h,li]
 generalize (bL (cM la b at_).1).1+(bE b (cM la b at_).2.2 (bL (cM la b at_).1).2:Int)=E at c3 ⊢
 omega
theorem rj {la lb:List Int}{b:List UInt8}{most:Int}:∀(f:Nat) {at_:Nat} {out:List UInt8} {a:Nat} {o:List UInt8},lK la lb b most f at_ out= .ok (a,o)->(out.length:Int)<=most->(o.length:Int)<=most
 |0,_,_,_,_,h,_=>by cases h
 |f+1,at_,out,a,o,h,h0=>by
  rw[lK]at h
  split at h
  ·cases h
  ·rename_i hr
   cases h
   exact oq hr h0
  ·rename_i hr
   exact rj f h (oq hr h0)
def mS (la lb:List Int)(b:List UInt8)(most:Int)(at_:Nat)(out:List UInt8):Except Int (Nat × List UInt8):=lK la lb b most (8 * b.length+1-at_) at_ out
theorem Ar {W:World}{p pa pb at_:Nat}{la lb:List Int}{b out:List UInt8}{most:Int}(hla:la.length<=320)(hlb:lb.length<=320)(h1:0<=most/\most<=1048576)(h2:(out.length:Int)<=most):
  CnP p_ 177 [.pointer (some ⟨p,0,none⟩),.pointer (some ⟨pa,0,none⟩),.pointer (some ⟨pb,0,none⟩)] W [lz p b at_ out most,ei pa la,ei pb lb]
   (fun _:Ok (mS la lb b most at_ out)=> .tuple #[]) (fun x=>[lz p b x.1.1 x.1.2 most]) (fun y:Er (mS la lb b most at_ out)=>pn y.1) (fun _=>[]):=by
 (refine Shp.cnP (Sg.g_ Tryz.call177 Tryz.func177 (an:={loops:=[(0,[]),(14,[79])],drs:=[(15,.ofL [(0,2),(1,2),(2,3),(3,3),(4,3),(5,1),(6,1),(7,1),(8,1),(9,1),(10,1),(11,1),(12,1),(13,1),(14,1),(15,1),(16,1),(17,1),(18,0),(19,0),(20,1),(21,1),(22,0)])]}) (os:=[(15,[(18,[4,3,2])])])) fun F=>?_;simp only[ca_,na_,-eq_self])
 obtain⟨R,hR⟩:∃R,R=mS la lb b most at_ out:=⟨_,rfl⟩
 rw[<- hR]
 refine mG (fun m=>[ex fun at1:Nat=>ex fun o1:List UInt8=>all [pu (8 * b.length+1<=m+at1/\R=lK la lb b most m at1 o1/\(o1.length:Int)<=most),lz p b at1 o1 most,ei pa la,ei pb lb]]++F) (8 * b.length+1-at_) ?_ ?_
 ·refine .ex at_ (.ex out (.all ?_))
  refine aq ?_
  refine .pu ⟨by omega,hR,h2⟩ ?_
  exact .pick (by repeat constructor) (.pick (by repeat constructor) (.pick (by repeat constructor) .refl))
 clear hR h2
 intro m ds
 refine aq ?_
 refine aH Pick.here fun at1=>aH Pick.here fun o1=>ap Pick.here ?_
 refine aq ?_
 refine aG Pick.here fun hi=>?_
 obtain⟨hm,hR,h2⟩:=hi
 refine aH Pick.here fun q=>ap Pick.here ?_
 obtain⟨r,qa,qc⟩:=q
 refine aq ?_
 refine u0 (.there .here) fun hat=>?_
 obtain⟨m,rfl⟩:∃m',m=m'+1:=⟨m-1,by omega⟩
 rw[lK]at hR
 have hM:gz la lb b most at1 o1=gz la lb b most at1 o1:=rfl
 conv at hM=>rhs;unfold gz
 simp only at hM
 refine o_ au (o_ aj (bJ ?_))
 (refine' bf (Ed) ?hp (fun _=>?_) (fun _=>?_);(case hp=>(repeat(first|exact Picks.nil|(apply Picks.cons;(focus repeat constructor)))));(all_goals (try simp only[ca_,na_,Bool.not_true,Bool.not_false,-eq_self])))
 rotate_left
 ·rename_i y
  rw[if_pos y.2]at hM
  rw[hM]at hR
  refine bT ⟨_,hR⟩ rfl ?_
  exact aw
 rename_i x1
 rw[if_neg (fun c=>c x1.2)]at hM
 have hv:=im la b at1
 have hlt:=(jL la b at1).2 x1.2
 obtain⟨x,hx⟩:∃x,x=(cM la b at1).1:=⟨_,rfl⟩
 obtain⟨a2,ha2⟩:∃a2,a2=(cM la b at1).2.2:=⟨_,rfl⟩
 rw[<- hx]at hv
 rw[<- ha2]at hlt
 rw[<- hx,<- ha2]at hM ⊢
 refine bF (M:=lz p b a2 o1 most::ei pa la::ei pb lb::F) (.ex (r,(qa,qc)) (.all (.pick (by repeat constructor) (.pick (by repeat constructor) (.pick (by repeat constructor) aw))))) ?_
 refine ay aP .nil (fun h=>?_) (fun h=>?_)
 ·rw[if_pos h]at hM
  rw[hM]at hR
  refine ab (bq ((⟨_,hR⟩:Ok R)) ?_)
  exact aw
 rw[if_neg h]at hM
 refine aa (ay az .nil (fun h=>?_) (fun h=>?_))
 ·rw[if_pos h]at hM
  refine ab ?_
  (refine' bf (room (most:=most) (out:=o1) (by omega) (by omega)) ?hp (fun _=>?_) (fun _=>?_);(case hp=>(repeat(first|exact Picks.nil|(apply Picks.cons;(focus repeat constructor)))));(all_goals (try simp only[ca_,na_,Bool.not_true,Bool.not_false,-eq_self])))
  rotate_left
  ·rename_i y
   rw[if_pos y.2]at hM
   rw[hM]at hR
   refine bT ⟨_,hR⟩ rfl ?_
   exact aw
  rename_i x2
  have h3:=x2.2
  rw[if_neg (fun c=>c x2.2)]at hM
  rw[hM]at hR
  simp only at hR
  refine aH Pick.here fun q=>ap Pick.here ?_
  obtain⟨r,qa,qc⟩:=q
  refine aq ?_
  obtain⟨X,rfl⟩:=Int.eq_ofNat_of_zero_le hv.1
  refine o_ au (o_ aj (bJ ?_))
  refine o_ br ?_
  rw[Ah (by omega),<- eZ (by omega)]
  refine eI fun g=>?_
  refine bO (m:=1) (news:=[Sl.B (UInt8.ofNat X)]) (by repeat constructor) (cA (e':=5) (by kernel_rfl) .here (by rfl) (dY (l:=[UInt8.ofNat X]))) (by omega) (by omega) fun a' c'=>?_
  refine o_ au (o_ aj (eE ?_))
  refine iX m (by omega) (.ex a2 (.ex (o1++[UInt8.ofNat X]) (.all ?_)))
  refine aq ?_
  refine .pu ⟨by omega,hR,by rw[List.length_append,List.length_singleton];omega⟩ ?_
  refine .ex (r,(a',c')) (.all ?_)
  refine aq ?_
  rw[List.length_append,List.map_append,List.length_singleton]
  exact .pick (by repeat constructor) (.pick (by repeat constructor) (.pick (by repeat constructor) (.pick (by repeat constructor) (.pick (by repeat constructor) aw))))
 rw[if_neg h]at hM
 refine aa ?_
 have hbl:=Pj x (by omega)
 refine c_ (ri (by omega)) fun _=>?_
 obtain⟨base,hbase⟩:∃base,base=(bL x).1:=⟨_,rfl⟩
 obtain⟨n,hn⟩:∃n,n=(bL x).2:=⟨_,rfl⟩
 rw[<- hbase,<- hn]at hM hbl ⊢
 refine o_ (bk (v:= .int .i64 base) rfl) ?_
 refine o_ (bk (v:= .int .i64 n) rfl) ?_
 refine o_ aV ?_
 (refine' bf (gy) ?hp (fun _=>?_) (fun _=>?_);(case hp=>(repeat(first|exact Picks.nil|(apply Picks.cons;(focus repeat constructor)))));(all_goals (try simp only[ca_,na_,Bool.not_true,Bool.not_false,-eq_self])))
 rotate_left
 ·rename_i y
  rw[if_pos (of_decide_eq_false y.2)]at hM
  rw[hM]at hR
  refine bT ⟨_,hR⟩ rfl ?_
  exact aw
 rename_i x3
 rw[if_neg (fun c=>c (of_decide_eq_true x3.2))]at hM
 (refine' bf (jX) ?hp (fun _=>?_) (fun _=>?_);(case hp=>(repeat(first|exact Picks.nil|(apply Picks.cons;(focus repeat constructor)))));(all_goals (try simp only[ca_,na_,Bool.not_true,Bool.not_false,-eq_self])))
 rotate_left
 ·rename_i y
  rw[if_pos y.2]at hM
  rw[hM]at hR
  refine bT ⟨_,hR⟩ rfl ?_
  exact aw
 rename_i x4
 rw[if_neg (fun c=>c x4.2)]at hM
 have ht1:=oo b a2 n
 obtain⟨t1,ht⟩:∃t1,t1=bE b a2 n:=⟨_,rfl⟩
 have hlt3:=cE b a2 n
 obtain⟨a3,ha3⟩:∃a3,a3=aN b a2 n:=⟨_,rfl⟩
 rw[<- ht]at ht1
 rw[<- ha3]at hlt3
 rw[<- ht,<- ha3]at hM ⊢
 refine bG ?_;refine o_ au (o_ aj (aH Pick.here fun q=>ap Pick.here ?_))
 obtain⟨r,qa,qc⟩:=q
 refine aq ?_
 refine bJ ?_
 (refine' bf (Ed) ?hp (fun _=>?_) (fun _=>?_);(case hp=>(repeat(first|exact Picks.nil|(apply Picks.cons;(focus repeat constructor)))));(all_goals (try simp only[ca_,na_,Bool.not_true,Bool.not_false,-eq_self])))
 rotate_left
 ·rename_i y
  rw[if_pos y.2]at hM
  rw[hM]at hR
  refine bT ⟨_,hR⟩ rfl ?_
  exact aw
 rename_i x5
 rw[if_neg (fun c=>c x5.2)]at hM
 have hv5:=im lb b a3
 have hlt5:=(jL lb b a3).2 x5.2
 obtain⟨y1,hy1⟩:∃x,x=(cM lb b a3).1:=⟨_,rfl⟩
 obtain⟨a4,ha4⟩:∃a2,a2=(cM lb b a3).2.2:=⟨_,rfl⟩
 rw[<- hy1]at hv5
 rw[<- ha4]at hlt5
 rw[<- hy1,<- ha4]at hM ⊢
 refine bF (M:=lz p b a4 o1 most::ei pa la::ei pb lb::F) (.ex (r,(qa,qc)) (.all (.pick (by repeat constructor) (.pick (by repeat constructor) (.pick (by repeat constructor) aw))))) ?_
 have hbd:=Pk y1 (by omega)
 refine c_ nr fun _=>?_
 obtain⟨dist,hdist⟩:∃base,base=(bD y1).1:=⟨_,rfl⟩
 obtain⟨k,hk⟩:∃n,n=(bD y1).2:=⟨_,rfl⟩
 rw[<- hdist,<- hk]at hM hbd ⊢
 refine o_ (bk (v:= .int .i64 dist) rfl) ?_
 refine o_ (bk (v:= .int .i64 k) rfl) ?_
 refine o_ aV ?_
 (refine' bf (gy) ?hp (fun _=>?_) (fun _=>?_);(case hp=>(repeat(first|exact Picks.nil|(apply Picks.cons;(focus repeat constructor)))));(all_goals (try simp only[ca_,na_,Bool.not_true,Bool.not_false,-eq_self])))
 rotate_left
 ·rename_i y
  rw[if_pos (of_decide_eq_false y.2)]at hM
  rw[hM]at hR
  refine bT ⟨_,hR⟩ rfl ?_
  exact aw
 rename_i x6
 have hd0:=of_decide_eq_true x6.2
 rw[if_neg (fun c=>c (of_decide_eq_true x6.2))]at hM
 (refine' bf (jX) ?hp (fun _=>?_) (fun _=>?_);(case hp=>(repeat(first|exact Picks.nil|(apply Picks.cons;(focus repeat constructor)))));(all_goals (try simp only[ca_,na_,Bool.not_true,Bool.not_false,-eq_self])))
 rotate_left
 ·rename_i y
  rw[if_pos y.2]at hM
  rw[hM]at hR
  refine bT ⟨_,hR⟩ rfl ?_
  exact aw
 rename_i x7
 rw[if_neg (fun c=>c x7.2)]at hM
 have ht7:=oo b a4 k
 obtain⟨t2,htt⟩:∃t1,t1=bE b a4 k:=⟨_,rfl⟩
 have hlt7:=cE b a4 k
 obtain⟨a5,ha5⟩:∃a3,a3=aN b a4 k:=⟨_,rfl⟩
 rw[<- htt]at ht7
 rw[<- ha5]at hlt7
 rw[<- htt,<- ha5]at hM ⊢
 refine bG ?_;refine o_ au (o_ aj (aH Pick.here fun q=>ap Pick.here ?_))
 obtain⟨r,qa,qc⟩:=q
 refine aq ?_
 refine bJ ?_;refine o_ aC (o_ cZ ?_)
 (refine' bf (gy) ?hp (fun _=>?_) (fun _=>?_);(case hp=>(repeat(first|exact Picks.nil|(apply Picks.cons;(focus repeat constructor)))));(all_goals (try simp only[ca_,na_,Bool.not_true,Bool.not_false,-eq_self])))
 rotate_left
 ·rename_i y
  rw[if_pos (of_decide_eq_false y.2)]at hM
  rw[hM]at hR
  refine bT ⟨_,hR⟩ rfl ?_
  exact aw
 rename_i x8
 have hfar:=of_decide_eq_true x8.2
 rw[if_neg (fun c=>c (of_decide_eq_true x8.2))]at hM
 refine bF (M:=lz p b a5 o1 most::ei pa la::ei pb lb::F) (.ex (r,(qa,qc)) (.all (.pick (by repeat constructor) (.pick (by repeat constructor) (.pick (by repeat constructor) aw))))) ?_
 (refine' bf (room (most:=most) (out:=o1) (by omega) (by omega)) ?hp (fun _=>?_) (fun _=>?_);(case hp=>(repeat(first|exact Picks.nil|(apply Picks.cons;(focus repeat constructor)))));(all_goals (try simp only[ca_,na_,Bool.not_true,Bool.not_false,-eq_self])))
 rotate_left
 ·rename_i y
  rw[if_pos y.2]at hM
  rw[hM]at hR
  refine bT ⟨_,hR⟩ rfl ?_
  exact aw
 rename_i x9
 have hroom:=x9.2
 rw[if_neg (fun c=>c x9.2)]at hM
 rw[hM]at hR
 simp only at hR
 obtain⟨far,hfarE⟩:∃far:Nat,far=(dist+(t2:Int)).toNat:=⟨_,rfl⟩
 obtain⟨len,hlenE⟩:∃len:Nat,len=(base+(t1:Int)).toNat:=⟨_,rfl⟩
 rw[<- hfarE,<- hlenE]at hR
 rw[show dist+(t2:Int)=(far:Int) by omega,show base+(t1:Int)=(len:Int) by omega]
 refine a_ (fun m2 y=>[ex fun i:Nat=>all [pu (m2+i=len/\y= .int .i64 (i:Int)),lz p b a5 (fW o1 far i) most,ei pa la,ei pb lb]]++F) len ?_ ?_
 ·refine .ex 0 (.all ?_)
  refine aq ?_
  refine .pu ⟨by omega,rfl⟩ ?_
  exact .pick (by repeat constructor) (.pick (by repeat constructor) (.pick (by repeat constructor) .refl))
 intro m2 ds y
 refine aq ?_
 refine aH Pick.here fun i=>ap Pick.here ?_
 refine aq ?_
 refine aG Pick.here fun hi=>?_
 obtain⟨hmi,rfl⟩:=hi
 have hcl:=li o1 far i
 refine ay az .nil (fun h=>?_) (fun h=>?_)
 ·refine ab (aH Pick.here fun q=>ap Pick.here ?_)
  obtain⟨r,qa,qc⟩:=q
  refine aq ?_
  refine aF (.there (.there .here)) fun f1 f2 f3 f4=>?_
  obtain⟨C,hC⟩:∃C,C=fW o1 far i:=⟨_,rfl⟩
  rw[<- hC]at hcl f4 ⊢
  obtain⟨gq,rfl⟩:=f4 (by omega)
  have hj:C.length-far<C.length:=by omega
  refine bA (bh au .nil ?_);refine bh aj .nil ?_;(((refine' bh (bC ?hc) ?hi ?_);(case hi=>exact .pick (by repeat constructor) .nil);(case hc=>repeat constructor)));refine t_ au (t_ aj (ew ?_));refine t_ au (t_ aj (ew ?_));refine t_ aC ?_;(refine t_ (dv (by omega) (by omega)) ?_)
  refine t_ (bj (C.length-far) (by omega) hj) ?_
  refine eJ (cI (v:=Sl.B C[C.length-far]) (by rw[Nat.zero_add];exact wi hj)) ?_
  refine eI fun g=>?_
  refine cf ?_;refine cf ?_;refine cf ?_
  refine bO (m:=1) (news:=[Sl.B C[C.length-far]]) (by repeat constructor) (cA (e':=5) (by kernel_rfl) .here (by rfl) (dY (l:=[C[C.length-far]]))) (by omega) (by omega) fun a' c'=>?_
  refine t_ au (t_ aj (eE ?_));refine bG ?_
  refine aK (m2-1) (by omega) (.ex (i+1) (.all ?_))
  refine aq ?_
  refine .pu ⟨by omega,congrArg (Value.int .i64) (by omega)⟩ ?_
  refine .ex (r,(a',c')) (.all ?_)
  refine aq ?_
  rw[show fW o1 far (i+1)=C++[C[C.length-far]] by rw[fW,<- hC,List.getD_eq_getElem?_getD,List.getElem?_eq_getElem hj];rfl]
  rw[List.length_append,List.map_append,List.length_singleton]
  exact .pick (by repeat constructor) (.pick (by repeat constructor) (.pick (by repeat constructor) (.pick (by repeat constructor) (.pick (by repeat constructor) aw))))
 ·have:i=len:=by omega
  subst this
  refine aa (iX m (by omega) (.ex a5 (.ex (fW o1 far i) (.all ?_))))
  refine aq ?_
  refine .pu ⟨by omega,hR,by omega⟩ ?_
  exact .pick (by repeat constructor) (.pick (by repeat constructor) (.pick (by repeat constructor) .refl))
end IF
namespace HF
open Go Go.Proofs Go.RowKit Sh Sl T HM B M
def sym (cs ls:List Int)(s:Int):Option (Int × Nat):=
 if s<0 then none else match cs[s.toNat]?,ls[s.toNat]? with
 |some c,some n=>if 1<=n/\n<=15/\0<=c/\c<2^n.toNat then some (c,n.toNat)else none
 |_,_=>none
def Ro (cs ls:List Int)(s:Int)(L:List Bool):Int:=match sym cs ls s with
 |some p=>q9 L (rv p.1 p.2) p.2
 |none=>1
def M9 (cs ls:List Int)(s:Int)(L:List Bool):List Bool:=match sym cs ls s with
 |some p=>q_ L (rv p.1 p.2) p.2
 |none=>L
theorem KU {cs ls:List Int}{N:Nat}(h1:N<cs.length)(h2:N<ls.length):sym cs ls N=if 1<=ls[N]/\ls[N]<=15/\0<=cs[N]/\cs[N]<2^ls[N].toNat then some (cs[N],ls[N].toNat)else none:=by
 unfold sym
 rw[if_neg (by omega),Int.toNat_natCast,List.getElem?_eq_getElem h1,List.getElem?_eq_getElem h2]
theorem As {cs ls:List Int}{s:Int}(h:s<0\/(cs.length:Int)<=s\/(ls.length:Int)<=s):sym cs ls s=none:=by
 unfold sym
 by_cases h0:s<0
 ·rw[if_pos h0]
 ·rw[if_neg h0]
  rcases h with h|h|h
  ·exact absurd h h0
  ·rw[List.getElem?_eq_none (by omega)]
  ·rw[List.getElem?_eq_none (l:=ls) (by omega)]
   cases cs[s.toNat]? <;> rfl
theorem Hc {n:Nat}(h:n<=15):lim (n:Int)=n:=by unfold lim;rw[if_neg (by omega)];simp
section
variable {W:World} {A A2:HP} {a1 a2:Option Addr} {c1 c2:Nat} {cs ls:List Int} {s:Int}
theorem Eg {p:Nat}{L:List Bool}(h1:RdB W A a1 cs.length (cs.map I))(h2:RdB W A2 a2 ls.length (ls.map I)):
  Cn p_ 228 [.pointer (some ⟨p,0,none⟩),.slice a1 cs.length c1,.slice a2 ls.length c2,.int .i64 s] W [iu p L,A,A2] (fun _:Unit=> .int .i64 (Ro cs ls s L)) (fun _=>[iu p (M9 cs ls s L),A,A2]):=by
 (refine Shp.cn (Sg.g_ Tryz.call228 Tryz.func228 (an:={drs:=[(3,.ofL [(0,1),(1,1),(2,1),(3,1),(4,1),(5,1),(6,1),(7,1),(8,1),(9,1)])]})) fun F=>?_;simp only[ca_,na_])
 have bad:sym cs ls s=none->aZ W (iu p L::A::A2::F) (fun w=>∃x:Unit,(Value.int .i64 1)= .int .i64 (Ro cs ls s L)/\sat W ([iu p (M9 cs ls s L),A,A2]++F) w):=fun hn=>by
  refine aR () (by unfold Ro;rw[hn]) ?_
  unfold M9
  rw[hn]
  exact .refl
 refine ay az .nil (fun h=>?_) (fun h=>?_)
 ·(refine ao ?_);refine ao ?_;refine ao ?_;refine ao ?_;refine ao ?_;refine ao ?_;refine ao ?_;refine o_ ah ?_;refine ab ?_
  exact bad (As (.inl h))
 have h0:=h
 refine ae (ae (ae (o_ aC (ae (ae (o_ aC (ae (o_ qx (ae (ay cH .nil (fun h=>?_) (fun h=>?_)))))))))))
 ·(refine o_ ag ?_);refine ab ?_
  exact bad (As (by split at h <;> omega))
 obtain⟨N,rfl⟩:=Int.eq_ofNat_of_zero_le (show 0<=s by omega)
 have hN1:N<cs.length:=by split at h <;> omega
 have hN2:N<ls.length:=by split at h <;> omega
 have hsym:=KU hN1 hN2
 obtain⟨g1,o1,rfl,_⟩:=h1.at_ (by omega)
 obtain⟨g2,o2,rfl,_⟩:=h2.at_ (by omega)
 obtain⟨c,hc⟩:∃c,c=cs[N]:=⟨_,rfl⟩
 obtain⟨n,hn⟩:∃n,n=ls[N]:=⟨_,rfl⟩
 have g1':=dK hN1
 have g2':=dK hN2
 rw[<- hc]at hsym g1'
 rw[<- hn]at hsym g2'
 refine o_ ag (aa (bA (t_ (bj N (by rfl) hN1) ?_)))
 refine eJ (bP h1 g1') ?_
 refine t_ (bj N (by rfl) hN2) ?_
 refine eJ (bP h2 g2') ?_
 refine ay az .nil (fun h=>?_) (fun h=>?_)
 ·(refine ao ?_);refine ao ?_;refine o_ ah ?_;refine ao ?_;refine ao ?_;refine o_ ah ?_;refine ao ?_;refine ao ?_;refine ao ?_;refine ao ?_;refine ao ?_;refine o_ ah ?_;refine ab ?_
  exact bad (by rw[hsym,if_neg (by omega)])
 have i1:=h
 refine ae (ae (ay aV .nil (fun h=>?_) (fun h=>?_)))
 ·(refine o_ ag ?_);refine ao ?_;refine ao ?_;refine o_ ah ?_;refine ao ?_;refine ao ?_;refine ao ?_;refine ao ?_;refine ao ?_;refine o_ ah ?_;refine ab ?_
  exact bad (by rw[hsym,if_neg (by omega)])
 have i2:=h
 refine o_ ag (ae (ae (ay az .nil (fun h=>?_) (fun h=>?_))))
 ·(refine o_ ag ?_);refine ao ?_;refine ao ?_;refine ao ?_;refine ao ?_;refine ao ?_;refine o_ ah ?_;refine ab ?_
  exact bad (by rw[hsym,if_neg (by omega)])
 have i3:=h
 obtain⟨m,rfl⟩:=Int.eq_ofNat_of_zero_le (show 0<=n by omega)
 rw[Int.toNat_natCast]at hsym
 refine o_ ag (ae (ae (ae (o_ br ?_))))
 rw[d7 (by omega) (by omega)]
 refine ae (o_ (fS (by omega)) ?_)
 rw[pB (by omega) (by omega) (by omega),Int.one_mul]
 have e2:((2^m:Nat):Int)=(2:Int)^m:=Int.natCast_pow 2 m
 rw[e2]
 refine ae (ay cH .nil (fun h=>?_) (fun h=>?_))
 ·(refine o_ ag ?_);refine ab ?_
  exact bad (by rw[hsym,if_neg (fun c=>by have:=c.2.2.2;omega)])
 have hs:sym cs ls N=some (c,m):=by rw[hsym,if_pos ⟨by omega,by omega,by omega,by omega⟩]
 refine o_ ag (aa (c_ reverse fun _=>?_))
 rw[Hc (show m<=15 by omega)]
 refine c_ put fun _=>?_
 refine aR () (by unfold Ro;rw[hs]) ?_
 unfold M9
 rw[hs]
 exact aw
end
end HF
namespace IF
open Go Go.Proofs Go.RowKit HM HF B M
def jY (base:Int->Int × Int)(n:Int)(first:Int):Nat->Int × Int × Int
 |0=>(-1,0,0)
 |k+1=>if(base (first+k)).1<=n then(first+k,(base (first+k)).2,n-(base (first+k)).1)else jY base n first k
def jp (n:Int):Int × Int × Int:=if 258<n then(-1,0,0)else jY bL n 257 29
def iT (n:Int):Int × Int × Int:=if 32768<n then(-1,0,0)else jY bD n 0 30
theorem rk {base:Int->Int × Int}{n first:Int}:∀(k:Nat),(∃j:Nat,j<k/\(base (first+j)).1<=n)->∃j:Nat,j<k/\jY base n first k=(first+j,(base (first+j)).2,n-(base (first+j)).1)/\(base (first+j)).1<=n/\(j+1<k->n<(base (first+(j+1:Nat))).1)
 |0,h=>by obtain⟨j,hj,_⟩:=h;omega
 |k+1,h=>by
  unfold jY
  by_cases c:(base (first+k)).1<=n
  ·rw[if_pos c]
   exact⟨k,by omega,rfl,c,fun h=>by omega⟩
  ·rw[if_neg c]
   obtain⟨j,hj,hb⟩:=h
   have hjk:j<k:=by
    rcases Nat.lt_or_ge j k with d|d
    ·exact d
    ·exact absurd (by rw[show k=j by omega];exact hb) c
   obtain⟨i,h1,h2,h3,h4⟩:=rk k ⟨j,hjk,hb⟩
   refine⟨i,by omega,h2,h3,fun h=>?_⟩
   by_cases d:i+1<k
   ·exact h4 d
   ·rw[show i+1=k by omega];omega
theorem Eh:∀j:Fin 28,(bL (257+(j.1:Nat))).1+((2^(bL (257+(j.1:Nat))).2.toNat:Nat):Int) ≥ (bL (257+((j.1+1:Nat):Int))).1/\0<=(bL (257+(j.1:Nat))).2/\(bL (257+(j.1:Nat))).2<=5/\0<(bL (257+(j.1:Nat))).1:=by decide
theorem Ei:∀j:Fin 29,(bD (0+(j.1:Nat))).1+((2^(bD (0+(j.1:Nat))).2.toNat:Nat):Int) ≥ (bD (0+((j.1+1:Nat):Int))).1/\0<=(bD (0+(j.1:Nat))).2/\(bD (0+(j.1:Nat))).2<=13/\0<(bD (0+(j.1:Nat))).1:=by decide
theorem At {n:Int}(h1:3<=n)(h2:n<=258):∃(s:Nat) (e k:Nat),jp n=((s:Int),(k:Int),(e:Int))/\257<=s/\s<=285/\(bL s).1+e=n/\(bL s).2=k/\e<2^k/\k<=5/\0<(bL s).1:=by
 unfold jp
 rw[if_neg (by omega)]
 obtain⟨j,hj,e1,e2,e3⟩:=rk (base:=bL) (n:=n) (first:=257) 29 ⟨0,by omega,by rw[show bL (257+((0:Nat):Int))=(3,0)from rfl];exact h1⟩
 rw[e1]
 have es:(257:Int)+(j:Int)=((257+j:Nat):Int):=by omega
 rcases Nat.lt_or_ge j 28 with c|c
 ·obtain⟨s1,s2,s3,s4⟩:=Eh ⟨j,c⟩
  have e4:=e3 (by omega)
  simp only at s1 s2 s3 s4
  obtain⟨k,hk⟩:=Int.eq_ofNat_of_zero_le s2
  obtain⟨e,he⟩:=Int.eq_ofNat_of_zero_le (show 0<=n-(bL (257+(j:Int))).1 by omega)
  rw[hk,Int.toNat_natCast]at s1
  refine⟨257+j,e,k,by rw[he,hk,es],by omega,by omega,by rw[<- es];omega,by rw[<- es,hk],?_,by omega,by rw[<- es];exact s4⟩
  have:(e:Int)<((2^k:Nat):Int):=by omega
  exact Int.ofNat_lt.1 this
 ·have hj8:j=28:=by omega
  subst hj8
  have hb:bL (257+((28:Nat):Int))=(258,0):=rfl
  rw[hb]at e2 ⊢
  refine⟨285,0,0,?_,by omega,by omega,?_,rfl,by decide,by omega,by decide⟩
  ·simp only at e2;rw[show n-258=0 by omega];rfl
  ·show(258:Int)+0=n
   simp only at e2;omega
theorem Au {n:Int}(h1:1<=n)(h2:n<=32768):∃(s:Nat) (e k:Nat),iT n=((s:Int),(k:Int),(e:Int))/\s<=29/\(bD s).1+e=n/\(bD s).2=k/\e<2^k/\k<=13/\0<(bD s).1:=by
 unfold iT
 rw[if_neg (by omega)]
 obtain⟨j,hj,e1,e2,e3⟩:=rk (base:=bD) (n:=n) (first:=0) 30 ⟨0,by omega,by rw[show bD (0+((0:Nat):Int))=(1,0)from rfl];exact h1⟩
 rw[e1]
 have es:(0:Int)+(j:Int)=((j:Nat):Int):=by omega
 rcases Nat.lt_or_ge j 29 with c|c
 ·obtain⟨s1,s2,s3,s4⟩:=Ei ⟨j,c⟩
  have e4:=e3 (by omega)
  simp only at s1 s2 s3 s4
  obtain⟨k,hk⟩:=Int.eq_ofNat_of_zero_le s2
  obtain⟨e,he⟩:=Int.eq_ofNat_of_zero_le (show 0<=n-(bD (0+(j:Int))).1 by omega)
  rw[hk,Int.toNat_natCast]at s1
  refine⟨j,e,k,by rw[he,hk,es],by omega,by rw[<- es];omega,by rw[<- es,hk],?_,by omega,by rw[<- es];exact s4⟩
  have:(e:Int)<((2^k:Nat):Int):=by omega
  exact Int.ofNat_lt.1 this
 ·have hj8:j=29:=by omega
  subst hj8
  have hb:bD (0+((29:Nat):Int))=(24577,13):=rfl
  rw[hb]at e2 ⊢
  simp only at e2
  obtain⟨e,he⟩:=Int.eq_ofNat_of_zero_le (show 0<=n-24577 by omega)
  refine⟨29,e,13,by rw[he];rfl,by omega,?_,rfl,?_,by omega,by decide⟩
  ·show(24577:Int)+e=n
   omega
  ·have:(2:Nat)^13=8192:=rfl
   omega
theorem Av {cs ls:List Int}{s:Int}{p:Int × Nat}(h:sym cs ls s=some p):1<=p.2/\p.2<=15:=by
 unfold sym at h
 split at h
 ·cases h
 ·split at h
  ·rename_i c n _ _
   by_cases hc:1<=n/\n<=15/\0<=c/\c<2^n.toNat
   ·rw[if_pos hc]at h
    have hp:=Option.some.inj h
    rw[<- hp]
    simp only
    omega
   ·rw[if_neg hc]at h;cases h
  ·cases h
end IF
namespace IF
open Go Go.Proofs Go.RowKit Sh Sl T HM HF B M
theorem Jd {W:World} {f:FuncId} {base:Int->Int × Int} {n first:Int} {N:Nat} (hf:∀s:Int,first<=s->s<first+N->Cn p_ f [.int .i64 s] W [] (fun _:Unit=> .tuple #[.int .i64 (base s).1,.int .i64 (base s).2]) (fun _=>[]))
  (h1: -1000000<=first/\first<=1000000) (hN:0<N/\N<=1000) (hn: -9223372036854000000<=n/\n<=9223372036854000000) (hb:∀s:Int,first<=s->s<first+N->0<=(base s).1/\(base s).1<=100000):
  Cn p_ 237 [.int .i64 n,.int .i64 first,.int .i64 (first+N-1),fn f] W [] (fun _:Unit=> .tuple #[.int .i64 (jY base n first N).1,.int .i64 (jY base n first N).2.1,.int .i64 (jY base n first N).2.2]) (fun _=>[]):=by
 (refine Shp.cn (Sg.g_ Tryz.call237 Tryz.func237 (an:={loops:=[(2,[11])]})) fun F=>?_;simp only[ca_,na_])
 refine a_ (fun m y=>(ex fun k:Nat=>pu (m=k/\k<=N/\y= .int .i64 (first+k-1)/\jY base n first N=jY base n first k))::F) N ?_ ?_
 ·exact .ex N (.pu ⟨rfl,Nat.le_refl _,rfl,rfl⟩ .refl)
 intro m ds y
 refine aH .here fun k=>aG .here fun hk=>?_
 obtain⟨rfl,hkN,rfl,hl⟩:=hk
 refine ay cH .nil (fun h=>?_) (fun h=>?_)
 ·obtain⟨j,rfl⟩:∃j,m=j+1:=⟨m-1,by omega⟩
  have hs:first+((j+1:Nat):Int)-1=first+(j:Int):=by push_cast;omega
  have hbb:=hb (first+j) (by omega) (by omega)
  rw[hs]
  refine ab (aB (hf (first+j) (by omega) (by omega)) .nil fun _=>?_)
  refine aq ?_
  refine o_ (bM (vs:=[_,_]) .here) ?_
  refine o_ (bM (vs:=[_,_]) (.there .here)) ?_
  refine ay cZ .nil (fun h2=>?_) (fun h2=>?_)
  ·rw[hl,jY,if_pos h2]
   refine ab (dX ?_)
   refine bq () ?_
   exact .refl
  ·refine aa (dX ?_)
   refine aK j (by omega) (.ex j (.pu ⟨rfl,by omega,rfl,by rw[hl,jY,if_neg h2]⟩ ?_))
   exact .refl
 ·have hm0:m=0:=by omega
  subst hm0
  rw[hl]
  refine aa (bq () ?_)
  exact .refl
theorem Sy:∀j:Fin 29,0<=(bL (257+(j.1:Nat))).1/\(bL (257+(j.1:Nat))).1<=100000:=by decide
theorem Sz:∀j:Fin 30,0<=(bD (0+(j.1:Nat))).1/\(bD (0+(j.1:Nat))).1<=100000:=by decide
theorem Ej {W:World}{n:Int}(hn: -9223372036854000000<=n):Cn p_ 224 [.int .i64 n] W [] (fun _:Unit=> .tuple #[.int .i64 (jp n).1,.int .i64 (jp n).2.1,.int .i64 (jp n).2.2]) (fun _=>[]):=by
 unfold jp
 (refine Shp.cn (Sg.g_ Tryz.call224 Tryz.func224) fun F=>?_;simp only[ca_,na_])
 refine ay aV .nil (fun h=>?_) (fun h=>?_)
 ·rw[if_pos h]
  refine ab (bq () ?_)
  exact .refl
 ·rw[if_neg h]
  refine aa ?_
  refine aB (Jd (base:=bL) (n:=n) (first:=257) (N:=29) (fun s h1 h2=>ri (by omega)) (by omega) (by omega) (by omega) (fun s h1 h2=>by
   obtain⟨j,hj⟩:=Int.eq_ofNat_of_zero_le (show 0<=s-257 by omega)
   have:=Sy ⟨j,by omega⟩
   simp only at this
   rw[show s=257+(j:Int) by omega]
   exact this)) .nil fun _=>?_
  refine aq ?_
  refine o_ (bM (vs:=[_,_,_]) .here) ?_
  refine o_ (bM (vs:=[_,_,_]) (.there .here)) ?_
  refine o_ (bM (vs:=[_,_,_]) (.there (.there .here))) ?_
  refine bq () ?_
  exact .refl
theorem yT {W:World}{n:Int}(hn: -9223372036854000000<=n):Cn p_ 225 [.int .i64 n] W [] (fun _:Unit=> .tuple #[.int .i64 (iT n).1,.int .i64 (iT n).2.1,.int .i64 (iT n).2.2]) (fun _=>[]):=by
 unfold iT
 (refine Shp.cn (Sg.g_ Tryz.call225 Tryz.func225) fun F=>?_;simp only[ca_,na_])
 refine ay aV .nil (fun h=>?_) (fun h=>?_)
 ·rw[if_pos h]
  refine ab (bq () ?_)
  exact .refl
 ·rw[if_neg h]
  refine aa ?_
  refine aB (Jd (base:=bD) (n:=n) (first:=0) (N:=30) (fun s h1 h2=>nr) (by omega) (by omega) (by omega) (fun s h1 h2=>by
   obtain⟨j,hj⟩:=Int.eq_ofNat_of_zero_le (show 0<=s by omega)
   have:=Sz ⟨j,by omega⟩
   simp only at this
   rw[show s=0+(j:Int) by omega]
   exact this)) .nil fun _=>?_
  refine aq ?_
  refine o_ (bM (vs:=[_,_,_]) .here) ?_
  refine o_ (bM (vs:=[_,_,_]) (.there .here)) ?_
  refine o_ (bM (vs:=[_,_,_]) (.there (.there .here))) ?_
  refine bq () ?_
  exact .refl
structure Pz where
 len:Int
 dist:Int
 c:UInt8
def Je (p:Pz):Value:= .agg #[I p.len,I p.dist,Sl.B p.c]
def mi (p:Pz):List Value:=[I p.len,I p.dist,Sl.B p.c]
theorem Ek {l:List Pz}{i:Nat}(h:i<l.length):∀j,j<3->(l.flatMap mi)[i * 3+j]? =(mi l[i])[j]? :=fun j hj=>et (f:=mi) (s:=3) (fun _=>rfl) l i j h hj
end IF
namespace IF
open Go Go.Proofs Go.RowKit HM HF B M
def B8 (b:List UInt8)(i j:Nat):Nat->Nat->Nat
 |0,n=>n
 |f+1,n=>if n<258/\j+n<b.length/\b[i+n]? =b[j+n]? then B8 b i j f (n+1)else n
def dQ (b:List UInt8)(i j:Nat):Nat:=B8 b i j 259 0
theorem wN (b:List UInt8)(i j:Nat):∀f n,n+f=259->(∀k,k<n->j+k<b.length/\b[i+k]? =b[j+k]?)->n<=258->n<=B8 b i j f n/\B8 b i j f n<=258/\(∀k,k<B8 b i j f n->j+k<b.length/\b[i+k]? =b[j+k]?)
  /\¬(B8 b i j f n<258/\j+B8 b i j f n<b.length/\b[i+B8 b i j f n]? =b[j+B8 b i j f n]?)
 |0,n,h,_,h3=>by omega
 |f+1,n,h,h2,h3=>by
  unfold B8
  by_cases c:n<258/\j+n<b.length/\b[i+n]? =b[j+n]?
  ·rw[if_pos c]
   obtain⟨e1,e2,e3,e4⟩:=wN b i j f (n+1) (by omega) (fun k hk=>by
    rcases Nat.lt_or_ge k n with d|d
    ·exact h2 k d
    ·rw[show k=n by omega];exact c.2) (by omega)
   exact⟨by omega,e2,e3,e4⟩
  ·rw[if_neg c]
   exact⟨Nat.le_refl _,h3,h2,c⟩
theorem jM (b:List UInt8)(i j:Nat):dQ b i j<=258/\(∀k,k<dQ b i j->j+k<b.length/\b[i+k]? =b[j+k]?)/\¬(dQ b i j<258/\j+dQ b i j<b.length/\b[i+dQ b i j]? =b[j+dQ b i j]?):=by
 have:=wN b i j 259 0 rfl (fun k hk=>by omega) (by omega)
 exact⟨this.2.1,this.2.2.1,this.2.2.2⟩
def my (b:List UInt8)(i:Nat):UInt8 × UInt8 × UInt8:=(b.getD i 0,b.getD (i+1) 0,b.getD (i+2) 0)
theorem u5 {b:List UInt8}{i:Nat}(h:i+3<=b.length):my b i=(b[i],b[i+1],b[i+2]):=by
 unfold my
 simp only[List.getD_eq_getElem?_getD]
 rw[List.getElem?_eq_getElem (by omega),List.getElem?_eq_getElem (by omega),List.getElem?_eq_getElem (by omega)];rfl
theorem El {b:List UInt8}{i j:Nat}(hij:i<j)(hj:j+3<=b.length):3<=dQ b i j↔my b i=my b j:=by
 obtain⟨e1,e2,e3⟩:=jM b i j
 rw[u5 (by omega),u5 hj]
 constructor
 ·intro h
  have a0:=(e2 0 (by omega)).2
  have a1:=(e2 1 (by omega)).2
  have a2:=(e2 2 (by omega)).2
  rw[List.getElem?_eq_getElem (by omega),List.getElem?_eq_getElem (by omega)]at a0 a1 a2
  have b0:=Option.some.inj a0
  have b1:=Option.some.inj a1
  have b2:=Option.some.inj a2
  simp only[Nat.add_zero]at b0
  rw[b0,b1,b2]
 ·intro h
  have h1:=congrArg Prod.fst h
  have h2:=congrArg (fun x=>x.2.1) h
  have h3:=congrArg (fun x=>x.2.2) h
  simp only at h1 h2 h3
  rcases Nat.lt_or_ge (dQ b i j) 3 with c|c
  ·exfalso
   refine e3 ⟨by omega,by omega,?_⟩
   rw[List.getElem?_eq_getElem (by omega),List.getElem?_eq_getElem (by omega)]
   congr 1
   rcases(show dQ b i j=0\/dQ b i j=1\/dQ b i j=2 by omega)with d|d|d <;> simp only[d,Nat.add_zero] <;> assumption
  ·exact c
theorem wO {b:List UInt8}{i j:Nat}(hj:b.length<j+3):dQ b i j<3:=by
 obtain⟨e1,e2,e3⟩:=jM b i j
 rcases Nat.lt_or_ge (dQ b i j) 3 with c|c
 ·exact c
 ·have:=(e2 2 (by omega)).1;omega
def Jf (j i n:Nat)(p:Pz):Pz:=if p.len<(n:Int)then⟨n,(j:Int)-i,0⟩else p
def F9 (b:List UInt8)(j w:Nat):Nat->Nat->Pz->Pz
 |0,_,p=>p
 |i+1,d,p=>if w<j-i\/d=0 then p else if dQ b i j<3 then F9 b j w i d p else F9 b j w i (d-1) (Jf j i (dQ b i j) p)
def e9 (b:List UInt8)(w d j:Nat):Pz:=F9 b j w j d ⟨0,0,b.getD j 0⟩
def su (w j:Nat):List Nat->Nat->List Nat
 |[],_=>[]
 |_::_,0=>[]
 |i::r,d+1=>if w<j-i then []else i::su w j r d
def rn (b:List UInt8)(m:Nat)(k:UInt8 × UInt8 × UInt8):List Nat:=(List.range m).filter fun i=>decide (my b i=k)
theorem kD (b:List UInt8)(m:Nat)(k:UInt8 × UInt8 × UInt8):rn b (m+1) k=if my b m=k then rn b m k++[m]else rn b m k:=by
 unfold rn
 rw[List.range_succ,List.filter_append]
 by_cases c:my b m=k
 ·rw[if_pos c];simp[c]
 ·rw[if_neg c];simp[c]
theorem u6 {b:List UInt8}{m:Nat}{k:UInt8 × UInt8 × UInt8}{i:Nat}(h:i∈rn b m k):i<m:=by
 unfold rn at h
 exact List.mem_range.1 (List.mem_filter.1 h).1
theorem Aw (b:List UInt8)(m:Nat)(k:UInt8 × UInt8 × UInt8):(rn b m k).length<=m:=by
 unfold rn
 exact Nat.le_trans (List.length_filter_le _ _) (by simp)
theorem He {w j:Nat}:∀ {l:List Nat} {d:Nat},(∀i∈l,w<j-i)->su w j l d=[]
 |[],_,_=>by simp[su]
 |i::r,0,_=>by simp[su]
 |i::r,d+1,h=>by rw[su,if_pos (h i (by simp))]
theorem En {w j:Nat}:∀ {l:List Nat},su w j l 0=[]
 |[]=>by simp[su]
 |i::r=>by simp[su]
theorem u7 {b:List UInt8}{j w:Nat}(hj:j+3<=b.length):∀(m d:Nat) (p:Pz),m<=j->F9 b j w m d p=(su w j (rn b m (my b j)).reverse d).foldl (fun p i=>Jf j i (dQ b i j) p) p
 |0,d,p,_=>by simp[F9,rn,su]
 |m+1,d,p,hm=>by
  rw[F9,kD]
  by_cases c:w<j-m\/d=0
  ·rw[if_pos c]
   rcases c with c|c
   ·rw[He]
    ·rfl
    ·intro i hi
     rw[List.mem_reverse]at hi
     split at hi
     ·rcases List.mem_append.1 hi with h|h
      ·have:=u6 h;omega
      ·rw[List.mem_singleton.1 h];exact c
     ·have:=u6 hi;omega
   ·rw[c,En];rfl
  ·rw[if_neg c]
   by_cases t:my b m=my b j
   ·have h3:=(El (i:=m) (by omega) hj).2 t
    rw[if_neg (by omega),if_pos t,List.reverse_append]
    obtain⟨d,rfl⟩:∃d',d=d'+1:=⟨d-1,by omega⟩
    simp only[List.reverse_cons,List.reverse_nil,List.nil_append,List.singleton_append]
    rw[su,if_neg (fun h=>c (.inl h)),List.foldl_cons,Nat.add_sub_cancel]
    exact u7 hj m d _ (by omega)
   ·have h3:¬3<=dQ b m j:=fun h=>t ((El (i:=m) (by omega) hj).1 h)
    rw[if_pos (by omega),if_neg t]
    exact u7 hj m d p (by omega)
theorem tL {b:List UInt8}{j w:Nat}(hj:b.length<j+3):∀(m d:Nat) (p:Pz),F9 b j w m d p=p
 |0,d,p=>rfl
 |m+1,d,p=>by
  rw[F9,if_pos (wO hj)]
  split
  ·rfl
  ·exact tL hj m d p
def gP (b:List UInt8)(j:Nat)(p:Pz):Prop:=(p.len=0/\p.dist=0/\p.c=b.getD j 0)\/∃n d:Nat,p.len=n/\p.dist=d/\p.c=0/\3<=n/\n<=258/\1<=d/\d<=32768/\d<=j/\∀k,k<n->j+k<b.length/\b[j-d+k]? =b[j+k]?
theorem KV {b:List UInt8}{j i w:Nat}{p:Pz}(hw:w<=32768)(hi:i<j)(hiw:¬w<j-i)(h3:¬dQ b i j<3)(h:gP b j p):gP b j (Jf j i (dQ b i j) p):=by
 unfold Jf
 by_cases c:p.len<(dQ b i j:Int)
 ·rw[if_pos c]
  obtain⟨e1,e2,e3⟩:=jM b i j
  refine .inr ⟨dQ b i j,j-i,rfl,by simp only;omega,rfl,by omega,e1,by omega,by omega,by omega,fun k hk=>?_⟩
  rw[show j-(j-i)=i by omega]
  exact e2 k hk
 ·rw[if_neg c];exact h
theorem yU {b:List UInt8}{j w:Nat}(hw:w<=32768):∀(m d:Nat) (p:Pz),m<=j->gP b j p->gP b j (F9 b j w m d p)
 |0,d,p,_,h=>h
 |m+1,d,p,hm,h=>by
  rw[F9]
  split
  ·exact h
  ·rename_i c
   split
   ·exact yU hw m d p (by omega) h
   ·rename_i c3
    exact yU hw m _ _ (by omega) (KV hw (by omega) (fun x=>c (.inl x)) c3 h)
theorem rp {b:List UInt8}{j w d:Nat}(hw:w<=32768):gP b j (e9 b w d j):=yU hw j d _ (Nat.le_refl _) (.inl ⟨rfl,rfl,rfl⟩)
def gF (p:Pz):Nat:=max 1 p.len.toNat
theorem ns (p:Pz):1<=gF p:=by unfold gF;omega
theorem rr {b:List UInt8}{j:Nat}{p:Pz}(h:gP b j p)(hj:j<b.length):j+gF p<=b.length/\gF p<=258/\(gF p:Int)=(if p.len<1 then 1 else p.len):=by
 unfold gF
 rcases h with ⟨h1,_⟩|⟨n,d,h1,_,_,h3,h4,_,_,_,h5⟩
 ·rw[h1];simp;omega
 ·rw[h1,Int.toNat_natCast]
  have:=(h5 (n-1) (by omega)).1
  refine⟨by omega,by omega,?_⟩
  split <;> omega
def Hf (b:List UInt8)(w d:Nat):Nat->Nat->List Pz
 |0,_=>[]
 |f+1,j=>if j<b.length then e9 b w d j::Hf b w d f (j+gF (e9 b w d j))else []
def lj (b:List UInt8)(w d:Nat):List Pz:=Hf b w d (b.length+1) 0
theorem Hg {b:List UInt8}{w d:Nat}{f j:Nat}(h:b.length<=j):Hf b w d f j=[]:=by
 cases f with
 |zero=>rfl
 |succ f=>rw[Hf,if_neg (by omega)]
end IF
namespace IF
open Go Go.Proofs Go.RowKit Sh Sl T HM HF B M
def dL:List Int->Int
 |[]=>0
 |x::l=>(if 0<x then 1 else 0)+dL l
def gM:List Int->Int
 |[]=>0
 |x::l=>(if 0<x then x else 0)+gM l
theorem gN:∀l m:List Int,dL (l++m)=dL l+dL m
 |[],m=>by simp[dL]
 |x::l,m=>by simp only[List.cons_append,dL,gN l m];omega
theorem kE:∀l m:List Int,gM (l++m)=gM l+gM m
 |[],m=>by simp[gM]
 |x::l,m=>by simp only[List.cons_append,gM,kE l m];omega
theorem yV:∀l:List Int,0<=dL l/\dL l<=l.length
 |[]=>by simp[dL]
 |x::l=>by
  have:=yV l
  simp only[dL,List.length_cons]
  split <;> omega
theorem Eo {B:Int}:∀l:List Int,(∀x∈l,x<=B)->0<=B->0<=gM l/\gM l<=B * l.length
 |[],_,_=>by simp[gM]
 |x::l,h,hB=>by
  have:=Eo l (fun y hy=>h y (.tail _ hy)) hB
  have hx:=h x (.head _)
  simp only[gM,List.length_cons]
  have e:B * ((l.length+1:Nat):Int)=B * l.length+B:=by rw[Int.natCast_add,Int.mul_add];simp
  rw[e]
  generalize B * (l.length:Int)=E at this ⊢
  split <;> omega
def bY (l:List Int):Bool:=decide (dL l=0)||(decide (dL l=1)&&decide (gM l=1))||fq l
theorem Ep {W:World}{a:Option Addr}{cap:Nat}{l:List Int}{A:HP}(hr:RdB W A a l.length (l.map I))(hl:l.length<=1048576)(hb:∀x∈l,x<=1048576):
  Cn p_ 181 [.slice a l.length cap] W [A] (fun _:Unit=> .bool (bY l)) (fun _=>[A]):=by
 (refine Shp.cn (Sg.g_ Tryz.call181 Tryz.func181 (an:={loops:=[(3,[3,4,9])]})) fun F=>?_;simp only[ca_,na_])
 refine o_ aC (gD (fun m x y z=>[ex fun i:Nat=>pu (m+i=l.length/\x= .int .i64 (dL (l.take i))/\y= .int .i64 (gM (l.take i))/\z= .int .i64 (i:Int)),A]++F) l.length ?_ ?_)
 ·refine .ex 0 ?_
  exact .pu ⟨by omega,rfl,rfl,rfl⟩ .refl
 intro m ds x y z
 refine aq ?_
 refine aH Pick.here fun i=>aG Pick.here fun hi=>?_
 obtain⟨hmi,rfl,rfl,rfl⟩:=hi
 have c1:=yV (l.take i)
 have c2:=Eo (B:=1048576) (l.take i) (fun x hx=>hb x (List.mem_of_mem_take hx)) (by omega)
 rw[List.length_take]at c1 c2
 refine ay az .nil (fun h=>?_) (fun h=>?_)
 ·have hil:i<l.length:=by omega
  obtain⟨g,o,rfl,_⟩:=hr.at_ (by omega)
  have hx:=hb l[i] (List.getElem_mem hil)
  have t1:l.take (i+1)=l.take i++[l[i]]:=by rw[List.take_add_one,List.getElem?_eq_getElem hil];rfl
  refine ab (o_ (bj i (by rfl) hil) ?_)
  refine bt (bP hr (v:=I l[i]) (dK hil)) ?_
  unfold I
  refine ay aV .nil (fun h=>?_) (fun h=>?_)
  ·have s1:dL (l.take (i+1))=dL (l.take i)+1:=by rw[t1,gN];simp only[dL];rw[if_pos (by omega)];omega
   have s2:gM (l.take (i+1))=gM (l.take i)+l[i]:=by rw[t1,kE];simp only[gM];rw[if_pos (by omega)];omega
   refine ab (bG ?_);refine bG ?_;refine bG ?_
   refine cr (m-1) (by omega) (.ex (i+1) (.pu ⟨by omega,by rw[s1],by rw[s2],rfl⟩ ?_))
   exact .refl
  ·have s1:dL (l.take (i+1))=dL (l.take i):=by rw[t1,gN];simp only[dL];rw[if_neg (by omega)];omega
   have s2:gM (l.take (i+1))=gM (l.take i):=by rw[t1,kE];simp only[gM];rw[if_neg (by omega)];omega
   refine aa (bG ?_)
   refine cr (m-1) (by omega) (.ex (i+1) (.pu ⟨by omega,by rw[s1],by rw[s2],rfl⟩ ?_))
   exact .refl
 ·have:i=l.length:=by omega
  subst this
  rw[List.take_length]
  refine aa ?_
  have fin:∀v:Bool,v=bY l->aZ W (A::F) (fun w=>∃x:Unit,(.bool v:Value)= .bool (bY l)/\sat W ([A]++F) w):=by
   intro v hv
   rw[hv]
   refine aR () rfl ?_
   exact .refl
  refine ay aP .nil (fun h=>?_) (fun h=>?_)
  ·(refine ao ?_);refine ao ?_;refine ao ?_;refine dg ?_;refine dg ?_;refine ao ?_;refine o_ ah ?_;refine ao ?_;refine ao ?_;refine o_ ah ?_
   exact fin true (by simp[bY,h])
  ·have h0:=h
   refine ae (ae (ay aP .nil (fun h=>?_) (fun h=>?_)))
   ·have h1:=h
    refine ae (ae (ae (ay aP .nil (fun h=>?_) (fun h=>?_))))
    ·(refine ae ?_);refine o_ ah ?_;refine o_ ag ?_;refine ao ?_;refine ao ?_;refine o_ ah ?_
     exact fin true (by simp[bY,h1,h])
    ·(refine ae ?_);refine o_ ah ?_;refine o_ ag ?_;refine ae ?_;refine ae ?_
     refine c_ (KM hr (by omega)) fun _=>?_
     exact o_ ag (fin _ (by simp[bY,h0,h]))
   ·(refine ae ?_);refine af ?_;refine af ?_;refine ae ?_;refine o_ ag ?_;refine o_ ag ?_;refine ae ?_;refine ae ?_
    refine c_ (KM hr (by omega)) fun _=>?_
    exact o_ ag (fin _ (by simp[bY,h0,h]))
theorem Eq:okL eX:=by
 have:decide (okL eX)=true:=by decide+kernel
 exact of_decide_eq_true this
theorem Es:okL fw:=by
 have:decide (okL fw)=true:=by decide+kernel
 exact of_decide_eq_true this
theorem Pl {W:World}{p at_:Nat}{b out:List UInt8}{most:Int}(h1:0<=most/\most<=1048576)(h2:(out.length:Int)<=most):
  CnP p_ 135 [.pointer (some ⟨p,0,none⟩)] W [lz p b at_ out most] (fun _:Ok (mS eX fw b most at_ out)=> .tuple #[]) (fun x=>[lz p b x.1.1 x.1.2 most]) (fun y:Er (mS eX fw b most at_ out)=>pn y.1) (fun _=>[]):=by
 (refine Shp.cnP (Sg.g_ Tryz.call135 Tryz.func135) fun F=>?_;simp only[ca_,na_,-eq_self])
 refine c_ Ee fun _=>?_
 rename_i q
 obtain⟨⟨la,lc⟩,⟨da,dc⟩⟩:=q
 (try dsimp only)
 refine aF (.here) fun f1 f2 f3 f4=>?_
 refine aF (.there .here) fun g1 g2 g3 g4=>?_
 refine o_ (bk (v:= .slice la eX.length lc) rfl) ?_
 refine o_ (bk (v:= .slice da fw.length dc) rfl) ?_
 (refine' bf (nq (cq (by rw[List.length_map]) f4) (by rw[lg];omega)) ?hp (fun _=>?_) (fun _=>?_);(case hp=>(repeat(first|exact Picks.nil|(apply Picks.cons;(focus repeat constructor)))));(all_goals (try simp only[ca_,na_,Bool.not_true,Bool.not_false,-eq_self])))
 rotate_left
 ·rename_i y
  exact absurd Eq y.2
 rename_i x1
 (refine' bf (nq (cq (by rw[List.length_map]) g4) (by rw[lh];omega)) ?hp (fun _=>?_) (fun _=>?_);(case hp=>(repeat(first|exact Picks.nil|(apply Picks.cons;(focus repeat constructor)))));(all_goals (try simp only[ca_,na_,Bool.not_true,Bool.not_false,-eq_self])))
 rotate_left
 ·rename_i y
  exact absurd Es y.2
 rename_i x2
 (refine' bf (Ar (by rw[lg];omega) (by rw[lh];omega) h1 h2) ?hp (fun _=>?_) (fun _=>?_);(case hp=>(repeat(first|exact Picks.nil|(apply Picks.cons;(focus repeat constructor)))));(all_goals (try simp only[ca_,na_,Bool.not_true,Bool.not_false,-eq_self])))
 ·rename_i x
  refine bq x ?_
  exact aw
 ·rename_i y
  refine bT y rfl ?_
  exact aw
theorem rx {W:World}{L L':List HP}{S:WP}{p at_:Nat}{b out:List UInt8}{most:Int}(q:Pick L (lz p b at_ out most) L')(h:at_<=8 * b.length->aZ W L S):aZ W L S:=fun w hw=>by
 have e:aZ W L (fun _=>at_<=8 * b.length):=aH q fun r=>ap .here (u0 (.there .here) fun hat=>fun _ _=>hat)
 exact h (e w hw) w hw
def iU (l:List Int)(b:List UInt8)(at_:Nat)(acc:List Int):Except Int (Int × Int × Nat):=
 let x:=cM l b at_
 if x.2.1≠0 then .error x.2.1 else
 if x.1=16 then(if bQ b x.2.2 2≠0 then .error (bQ b x.2.2 2)else if ¬0<acc.length then .error 30 else .ok (acc.getD (acc.length-1) 0,3+(bE b x.2.2 2:Int),aN b x.2.2 2))else
 if x.1=17 then(if bQ b x.2.2 3≠0 then .error (bQ b x.2.2 3)else .ok (0,3+(bE b x.2.2 3:Int),aN b x.2.2 3))else
 if x.1=18 then(if bQ b x.2.2 7≠0 then .error (bQ b x.2.2 7)else .ok (0,11+(bE b x.2.2 7:Int),aN b x.2.2 7))else
 .ok (x.1,1,x.2.2)
def pO (l:List Int)(b:List UInt8)(n:Nat):Nat->Nat->List Int->Except Int (Nat × List Int)
 |0,_,_=> .error 20
 |f+1,at_,acc=>if acc.length<n then(match iU l b at_ acc with
  | .error e=> .error e
  | .ok (v,t,a)=>if ¬t<=(n:Int)-acc.length then .error 30 else pO l b n f a (acc++List.replicate t.toNat v))else .ok (at_,acc)
theorem u_ {l:List Int}{b:List UInt8}{at_:Nat}{acc:List Int}{v t:Int}{a:Nat}{B:Int}(h:iU l b at_ acc= .ok (v,t,a))(h0:∀x∈acc,0<=x/\x<=B)(hl:(l.length:Int)<=B):0<=v/\v<=B/\1<=t/\at_<a:=by
 have ho:∀ {v' t':Int} {a':Nat},(Except.ok (v',t',a'):Except Int (Int × Int × Nat))= .ok (v,t,a)->v'=v/\t'=t/\a'=a:=fun e=>by
  have:=Prod.mk.inj (Except.ok.inj e)
  have h2:=Prod.mk.inj this.2
  exact⟨this.1,h2.1,h2.2⟩
 unfold iU at h
 simp only at h
 obtain⟨c0,h⟩:=aQ h
 have hlt:=(jL l b at_).2 (Decidable.not_not.1 c0)
 have hv:=im l b at_
 by_cases c1:(cM l b at_).1=16
 ·rw[if_pos c1]at h
  obtain⟨_,h⟩:=aQ h
  obtain⟨c2,h⟩:=aQ h
  obtain⟨rfl,rfl,rfl⟩:=ho h
  have c3:acc.length-1<acc.length:=by omega
  have hm:=h0 _ (List.getElem_mem c3)
  have hle:=cE b (cM l b at_).2.2 2
  rw[List.getD_eq_getElem?_getD,List.getElem?_eq_getElem c3]
  exact⟨hm.1,hm.2,by omega,by omega⟩
 rw[if_neg c1]at h
 by_cases c2:(cM l b at_).1=17
 ·rw[if_pos c2]at h
  obtain⟨_,h⟩:=aQ h
  obtain⟨rfl,rfl,rfl⟩:=ho h
  have hle:=cE b (cM l b at_).2.2 3
  exact⟨by omega,by omega,by omega,by omega⟩
 rw[if_neg c2]at h
 by_cases c3:(cM l b at_).1=18
 ·rw[if_pos c3]at h
  obtain⟨_,h⟩:=aQ h
  obtain⟨rfl,rfl,rfl⟩:=ho h
  have hle:=cE b (cM l b at_).2.2 7
  exact⟨by omega,by omega,by omega,by omega⟩
 rw[if_neg c3]at h
 obtain⟨rfl,rfl,rfl⟩:=ho h
 exact⟨by omega,by omega,by omega,by omega⟩
theorem qd {acc:List Int}{v:Int}{k:Nat}{B:Int}(h0:∀x∈acc,0<=x/\x<=B)(hv:0<=v/\v<=B):∀x∈acc++List.replicate k v,0<=x/\x<=B:=by
 intro x hx
 rcases List.mem_append.1 hx with h|h
 ·exact h0 x h
 ·rw[(List.mem_replicate.1 h).2];exact hv
theorem Ax {l:List Int}{b:List UInt8}{n:Nat}{B:Int}(hl:(l.length:Int)<=B):∀(f:Nat) {at_:Nat} {acc:List Int} {a:Nat} {r:List Int},pO l b n f at_ acc= .ok (a,r)->acc.length<=n->(∀x∈acc,0<=x/\x<=B)->r.length=n/\(∀x∈r,0<=x/\x<=B)
 |0,_,_,_,_,h,_,_=>by cases h
 |f+1,at_,acc,a,r,h,h1,h0=>by
  rw[pO]at h
  by_cases c:acc.length<n
  ·rw[if_pos c]at h
   cases hr:iU l b at_ acc with
   |error e=>rw[hr]at h;cases h
   |ok q=>
    obtain⟨v,t,a1⟩:=q
    rw[hr]at h
    simp only at h
    obtain⟨c1,h⟩:=aQ h
    have ho:=u_ hr h0 hl
    refine Ax hl f h ?_ (qd h0 ⟨ho.1,ho.2.1⟩)
    rw[List.length_append,List.length_replicate];omega
  ·rw[if_neg c]at h
   have:=Prod.mk.inj (Except.ok.inj h)
   rw[<- this.2]
   exact⟨by omega,h0⟩
def KW (l:List Int)(b:List UInt8)(n at_:Nat):Except Int (Nat × List Int):=pO l b n (8 * b.length+1-at_) at_ []
theorem row {W:World}{p pd at_ n:Nat}{l:List Int}{b out:List UInt8}{most:Int}(hl:l.length<=320)(hn:n<=1048576)(ho:out.length<=1048576):
  CnP p_ 180 [.pointer (some ⟨p,0,none⟩),.pointer (some ⟨pd,0,none⟩),.int .i64 (n:Int)] W [lz p b at_ out most,ei pd l]
   (fun x:Ok (KW l b n at_) × Option Addr × Nat=> .slice x.2.1 n x.2.2) (fun x=>[lz p b x.1.1.1 out most,Sl 1 3 x.2.1 x.2.2 n (x.1.1.2.map I)]) (fun y:Er (KW l b n at_)=>pn y.1) (fun _=>[]):=by
 (refine Shp.cnP (Sg.g_ Tryz.call180 Tryz.func180 (an:={cuts:=[(14,[8,9])],loops:=[(2,[7]),(16,[7,54])]})) fun F=>?_;simp only[ca_,na_,-eq_self])
 obtain⟨R,hR⟩:∃R,R=KW l b n at_:=⟨_,rfl⟩
 rw[<- hR]
 refine cU (s:=1) (e:=3) ?_
 refine rx (.there .here) fun hat0=>?_
 refine a_ (fun m y=>[ex fun at1:Nat=>ex fun acc:List Int=>ex fun q:Option Addr × Nat=>all [pu (8 * b.length+1<=m+at1/\at1<=8 * b.length/\R=pO l b n m at1 acc/\acc.length<=n/\(∀x∈acc,0<=x/\x<=320)/\y= .slice q.1 acc.length q.2),Sl 1 3 q.1 q.2 acc.length (acc.map I),lz p b at1 out most,ei pd l]]++F) (8 * b.length+1-at_) ?_ ?_
 ·refine .ex at_ (.ex [] (.ex (none,0) (.all ?_)))
  refine aq ?_
  refine .pu ⟨by omega,hat0,hR,by simp,by simp,rfl⟩ ?_
  exact .pick (by repeat constructor) (.pick (by repeat constructor) (.pick (by repeat constructor) .refl))
 clear hR hat0
 intro m ds y
 refine aq ?_
 refine aH Pick.here fun at1=>aH Pick.here fun acc=>aH Pick.here fun q=>ap Pick.here ?_
 obtain⟨qa,qc⟩:=q
 refine aq ?_
 refine aG Pick.here fun hi=>?_
 obtain⟨hm,hat,hR,h2,h3,rfl⟩:=hi
 obtain⟨m,rfl⟩:∃m',m=m'+1:=⟨m-1,by omega⟩
 rw[pO]at hR
 refine aF .here fun f1 f2 f3 f4=>?_
 refine o_ aC (ay az .nil (fun h=>?_) (fun h=>?_))
 rotate_left
 ·rw[if_neg (by omega)]at hR
  have:acc.length=n:=by omega
  subst this
  refine aa (aR ((⟨_,hR⟩:Ok R),(qa,qc)) rfl ?_)
  exact aw
 rw[if_pos (by omega)]at hR
 refine ab ?_
 have hM:iU l b at1 acc=iU l b at1 acc:=rfl
 conv at hM=>rhs;unfold iU
 simp only at hM
 refine aH (.there .here) fun q=>ap Pick.here ?_
 obtain⟨r,sa,sc⟩:=q
 refine aq ?_
 refine o_ au (o_ aj (bJ ?_))
 (refine' bf (Ed) ?hp (fun _=>?_) (fun _=>?_);(case hp=>(repeat(first|exact Picks.nil|(apply Picks.cons;(focus repeat constructor)))));(all_goals (try simp only[ca_,na_,Bool.not_true,Bool.not_false,-eq_self])))
 rotate_left
 ·rename_i y
  rw[if_pos y.2]at hM
  rw[hM]at hR
  refine bT ⟨_,hR⟩ rfl ?_
  exact aw
 rename_i x1
 rw[if_neg (fun c=>c x1.2)]at hM
 have hv:=im l b at1
 have hlt:=(jL l b at1).2 x1.2
 obtain⟨x,hx⟩:∃x,x=(cM l b at1).1:=⟨_,rfl⟩
 obtain⟨a2,ha2⟩:∃a2,a2=(cM l b at1).2.2:=⟨_,rfl⟩
 rw[<- hx]at hv
 rw[<- ha2]at hlt
 rw[<- hx,<- ha2]at hM ⊢
 refine bF (M:=Sl 1 3 qa qc acc.length (acc.map I)::lz p b a2 out most::ei pd l::F) (.pick (by repeat constructor) (.ex (r,(sa,sc)) (.all (.pick (by repeat constructor) (.pick (by repeat constructor) (.pick (by repeat constructor) aw)))))) ?_
 refine ja (fun z8 z9=>[ex fun v:Int=>ex fun t:Int=>ex fun a3:Nat=>all [pu (iU l b at1 acc= .ok (v,t,a3)/\z8= .int .i64 v/\z9= .int .i64 t/\t<=1099511627776),Sl 1 3 qa qc acc.length (acc.map I),lz p b a3 out most,ei pd l]]++F) ?_ ?_
 rotate_left
 ·(refine ay aP .nil (fun h=>?_) (fun h=>?_))
  ·rw[if_pos h]at hM
   refine ab ?_
   (refine' bf (jX) ?hp (fun _=>?_) (fun _=>?_);(case hp=>(repeat(first|exact Picks.nil|(apply Picks.cons;(focus repeat constructor)))));(all_goals (try simp only[ca_,na_,Bool.not_true,Bool.not_false,-eq_self])))
   rotate_left
   ·rename_i y
    rw[if_pos y.2]at hM
    rw[hM]at hR
    refine bT ⟨_,hR⟩ rfl ?_
    exact aw
   rename_i x4
   rw[if_neg (fun c=>c x4.2)]at hM
   have ht1:=oo b a2 2
   refine bG ?_;refine o_ aC (o_ aV ?_)
   (refine' bf (gy) ?hp (fun _=>?_) (fun _=>?_);(case hp=>(repeat(first|exact Picks.nil|(apply Picks.cons;(focus repeat constructor)))));(all_goals (try simp only[ca_,na_,Bool.not_true,Bool.not_false,-eq_self])))
   rotate_left
   ·rename_i y
    rw[if_pos (by have:=of_decide_eq_false y.2;omega)]at hM
    rw[hM]at hR
    refine bT ⟨_,hR⟩ rfl ?_
    exact aw
   rename_i x5
   have h0:=of_decide_eq_true x5.2
   rw[if_neg (by omega)]at hM
   obtain⟨gq,rfl⟩:=f4 (by omega)
   have hj:acc.length-1<acc.length:=by omega
   refine o_ aC (dX ?_)
   refine o_ (bj (acc.length-1) (by omega) hj) ?_
   refine bt (cI (v:=I acc[acc.length-1]) (by rw[Nat.zero_add];exact dK hj)) ?_
   rw[List.getD_eq_getElem?_getD,List.getElem?_eq_getElem hj]at hM
   refine aD (.ex (acc[acc.length-1]) (.ex (3+(bE b a2 2:Int)) (.ex (aN b a2 2) (.all ?_))))
   refine aq ?_
   refine .pu ⟨hM,rfl,rfl,by omega⟩ ?_
   exact .pick (by repeat constructor) (.pick (by repeat constructor) (.pick (by repeat constructor) .refl))
  rw[if_neg h]at hM
  refine aa (ay aP .nil (fun h=>?_) (fun h=>?_))
  ·rw[if_pos h]at hM
   refine ab ?_
   (refine' bf (jX) ?hp (fun _=>?_) (fun _=>?_);(case hp=>(repeat(first|exact Picks.nil|(apply Picks.cons;(focus repeat constructor)))));(all_goals (try simp only[ca_,na_,Bool.not_true,Bool.not_false,-eq_self])))
   rotate_left
   ·rename_i y
    rw[if_pos y.2]at hM
    rw[hM]at hR
    refine bT ⟨_,hR⟩ rfl ?_
    exact aw
   rename_i x4
   rw[if_neg (fun c=>c x4.2)]at hM
   have ht1:=oo b a2 3
   refine bG ?_
   refine aD (.ex 0 (.ex (3+(bE b a2 3:Int)) (.ex (aN b a2 3) (.all ?_))))
   refine aq ?_
   refine .pu ⟨hM,rfl,rfl,by omega⟩ ?_
   exact .pick (by repeat constructor) (.pick (by repeat constructor) (.pick (by repeat constructor) .refl))
  rw[if_neg h]at hM
  refine aa (ay aP .nil (fun h=>?_) (fun h=>?_))
  ·rw[if_pos h]at hM
   refine ab ?_
   (refine' bf (jX) ?hp (fun _=>?_) (fun _=>?_);(case hp=>(repeat(first|exact Picks.nil|(apply Picks.cons;(focus repeat constructor)))));(all_goals (try simp only[ca_,na_,Bool.not_true,Bool.not_false,-eq_self])))
   rotate_left
   ·rename_i y
    rw[if_pos y.2]at hM
    rw[hM]at hR
    refine bT ⟨_,hR⟩ rfl ?_
    exact aw
   rename_i x4
   rw[if_neg (fun c=>c x4.2)]at hM
   have ht1:=oo b a2 7
   refine bG ?_
   refine aD (.ex 0 (.ex (11+(bE b a2 7:Int)) (.ex (aN b a2 7) (.all ?_))))
   refine aq ?_
   refine .pu ⟨hM,rfl,rfl,by omega⟩ ?_
   exact .pick (by repeat constructor) (.pick (by repeat constructor) (.pick (by repeat constructor) .refl))
  rw[if_neg h]at hM
  refine aa (aD (.ex x (.ex 1 (.ex a2 (.all ?_)))))
  refine aq ?_
  refine .pu ⟨hM,rfl,rfl,by omega⟩ ?_
  exact .pick (by repeat constructor) (.pick (by repeat constructor) (.pick (by repeat constructor) .refl))
 clear hM hx ha2 hlt hv x1
 intro ds2 z8 z9
 refine aq ?_
 refine aH Pick.here fun v=>aH Pick.here fun t=>aH Pick.here fun a3=>ap Pick.here ?_
 refine aq ?_
 refine aG Pick.here fun hi=>?_
 obtain⟨hM,rfl,rfl,ht⟩:=hi
 obtain⟨v0,v1,t1,hlt⟩:=u_ (B:=320) hM h3 (by omega)
 rw[hM]at hR
 simp only at hR
 refine o_ aC (dX ?_)
 refine o_ cZ ?_
 (refine' bf (gy) ?hp (fun _=>?_) (fun _=>?_);(case hp=>(repeat(first|exact Picks.nil|(apply Picks.cons;(focus repeat constructor)))));(all_goals (try simp only[ca_,na_,Bool.not_true,Bool.not_false,-eq_self])))
 rotate_left
 ·rename_i y
  rw[if_pos (of_decide_eq_false y.2)]at hR
  refine bT ⟨_,hR⟩ rfl ?_
  exact aw
 rename_i x5
 have h0:=of_decide_eq_true x5.2
 rw[if_neg (fun c=>c h0)]at hR
 obtain⟨k,rfl⟩:=Int.eq_ofNat_of_zero_le (show 0<=t by omega)
 rw[Int.toNat_natCast]at hR
 refine rx (.there .here) fun hat3=>?_
 refine bI (fun m2 x y=>[ex fun i:Nat=>ex fun q:Option Addr × Nat=>all [pu (m2+i=k/\y= .int .i64 (i:Int)/\x= .slice q.1 (acc.length+i) q.2),Sl 1 3 q.1 q.2 (acc.length+i) ((acc++List.replicate i v).map I),lz p b a3 out most,ei pd l]]++F) k ?_ ?_
 ·refine .ex 0 (.ex (qa,qc) (.all ?_))
  refine aq ?_
  refine .pu ⟨by omega,rfl,rfl⟩ ?_
  rw[List.replicate_zero,List.append_nil]
  exact .pick (by repeat constructor) (.pick (by repeat constructor) (.pick (by repeat constructor) .refl))
 intro m2 ds3 x y
 refine aq ?_
 refine aH Pick.here fun i=>aH Pick.here fun q=>ap Pick.here ?_
 obtain⟨qa2,qc2⟩:=q
 refine aq ?_
 refine aG Pick.here fun hi=>?_
 obtain⟨hmi,rfl,rfl⟩:=hi
 (try dsimp only)
 refine ay az .nil (fun h=>?_) (fun h=>?_)
 ·refine ab (eI fun g=>?_)
  refine bO (m:=1) (news:=[I v]) (by repeat constructor) (cA (e':=3) (by kernel_rfl) .here (by rfl) (mO (l:=[v]))) (by omega) (by omega) fun a' c'=>?_
  refine bG ?_
  refine bo (m2-1) (by omega) (.ex (i+1) (.ex (a',c') (.all ?_)))
  refine aq ?_
  refine .pu ⟨by omega,congrArg (Value.int .i64) (by omega),by rw[Nat.add_assoc]⟩ ?_
  rw[List.replicate_succ',<- List.append_assoc,List.map_append (l₁:=acc++List.replicate i v),<- Nat.add_assoc]
  exact .pick (by repeat constructor) (.pick (by repeat constructor) (.pick (by repeat constructor) aw))
 ·have:i=k:=by omega
  subst this
  refine aa (aK m (by omega) (.ex a3 (.ex (acc++List.replicate i v) (.ex (qa2,qc2) (.all ?_)))))
  refine aq ?_
  have hle:(acc++List.replicate i v).length=acc.length+i:=by rw[List.length_append,List.length_replicate]
  rw[hle]
  refine .pu ⟨by omega,hat3,hR,by omega,qd h3 ⟨v0,v1⟩,rfl⟩ ?_
  exact .pick (by repeat constructor) (.pick (by repeat constructor) (.pick (by repeat constructor) .refl))
end IF
namespace Sl
open Go Go.Proofs Go.RowKit Sh
theorem KX {P:Program}{W:World}{t e:TypeId}{s len:Nat}{g:Nat}{q:IntKind}{j:Int}(h:Nat)[ht:ArrT P t len e s](hj:j=(h:Int))(hl:h<=len)(h0:0<len):bg P W [] (ly t (.pointer (some ⟨g,0,none⟩)) none (some (.int q j)) none) (.slice (some ⟨g,0,none⟩) h len):=fun w _=>by
 have hne:len≠0:=by omega
 simp[ly,Instr.sliceAt,Instr.sliceBounds,ht.ut,ht.size,eC h hj hl,Instr.sureAddr,hne,Addr.add]
end Sl
namespace IF
open Go Go.Proofs Go.RowKit Sh Sl T HM HF B M
def gO:List Nat:=[16,17,18,0,8,7,9,6,10,5,11,4,12,3,13,2,14,1,15]
def B9 (b:List UInt8):List Nat->Nat->List Int->Except Int (Nat × List Int)
 |[],at_,l=> .ok (at_,l)
 |k::ks,at_,l=>if bQ b at_ 3≠0 then .error (bQ b at_ 3)else B9 b ks (aN b at_ 3) (l.set k (bE b at_ 3:Int))
def tM (b:List UInt8)(most:Int)(h n:Nat)(l:List Int)(at_:Nat)(out:List UInt8):Except Int (Nat × List UInt8):=
 match KW l b n at_ with
 | .error e=> .error e
 | .ok (a5,r)=>
  if ¬(0<r.getD 256 0/\bY (r.take h)=true/\bY (r.drop h)=true)then .error 30 else
  if ¬okL (r.take h)then .error 30 else
  if ¬okL (r.drop h)then .error 30 else mS (r.take h) (r.drop h) b most a5 out
def pP (b:List UInt8)(most:Int)(at_:Nat)(out:List UInt8):Except Int (Nat × List UInt8):=
 if bQ b at_ 5≠0 then .error (bQ b at_ 5)else
 if bQ b (aN b at_ 5) 5≠0 then .error (bQ b (aN b at_ 5) 5)else
 if bQ b (aN b (aN b at_ 5) 5) 4≠0 then .error (bQ b (aN b (aN b at_ 5) 5) 4)else
 if ¬(bE b at_ 5<=29/\bE b (aN b at_ 5) 5<=29)then .error 31 else
 match B9 b (gO.take (bE b (aN b (aN b at_ 5) 5) 4+4)) (aN b (aN b (aN b at_ 5) 5) 4) (List.replicate 19 0)with
 | .error e=> .error e
 | .ok (a4,l)=>if ¬fq l=true then .error 30 else tM b most (bE b at_ 5+257) (bE b at_ 5+257+bE b (aN b at_ 5) 5+1) l a4 out
theorem jN {b:List UInt8}{at_:Nat}{k:Nat}:bE b at_ k<2^k:=by
 unfold bE
 split
 ·have:=oe (ub b) at_ ((k:Int)).toNat
  rwa [Int.toNat_natCast]at this
 ·exact Nat.pow_pos (by omega)
theorem Hh {W:World}{p at_:Nat}{b out:List UInt8}{most:Int}(h1:0<=most/\most<=1048576)(h2:(out.length:Int)<=most):
  CnP p_ 136 [.pointer (some ⟨p,0,none⟩)] W [lz p b at_ out most] (fun _:Ok (pP b most at_ out)=> .tuple #[]) (fun x=>[lz p b x.1.1 x.1.2 most]) (fun y:Er (pP b most at_ out)=>pn y.1) (fun _=>[]):=by
 (refine Shp.cnP (Sg.g_ Tryz.call136 Tryz.func136 (an:={loops:=[(5,[31])],drs:=[(11,.ofL [(0,1),(1,1),(2,1),(3,1),(4,1),(5,1),(6,1),(7,1),(8,1),(9,1)])]})) fun F=>?_;simp only[ca_,na_,-eq_self])
 obtain⟨R,hR⟩:∃R,R=pP b most at_ out:=⟨_,rfl⟩
 rw[<- hR]
 unfold pP at hR
 (refine' bf (jX) ?hp (fun _=>?_) (fun _=>?_);(case hp=>(repeat(first|exact Picks.nil|(apply Picks.cons;(focus repeat constructor)))));(all_goals (try simp only[ca_,na_,Bool.not_true,Bool.not_false,-eq_self])))
 rotate_left
 ·rename_i y
  rw[if_pos y.2]at hR
  refine bT ⟨_,hR⟩ rfl ?_
  exact aw
 rename_i x1
 rw[if_neg (fun c=>c x1.2)]at hR
 have hh:=jN (b:=b) (at_:=at_) (k:=5)
 obtain⟨nh,hhE⟩:∃h,h=bE b at_ 5:=⟨_,rfl⟩
 obtain⟨a1,ha1⟩:∃a,a=aN b at_ 5:=⟨_,rfl⟩
 rw[<- hhE,<- ha1]at hR
 rw[show(bE b at_ 5)=nh from hhE.symm,<- ha1]
 rw[show bE b at_ ((5:Nat):Int)=nh from hhE.symm]at hh
 (refine' bf (jX) ?hp (fun _=>?_) (fun _=>?_);(case hp=>(repeat(first|exact Picks.nil|(apply Picks.cons;(focus repeat constructor)))));(all_goals (try simp only[ca_,na_,Bool.not_true,Bool.not_false,-eq_self])))
 rotate_left
 ·rename_i y
  rw[if_pos y.2]at hR
  refine bT ⟨_,hR⟩ rfl ?_
  exact aw
 rename_i x2
 rw[if_neg (fun c=>c x2.2)]at hR
 have hd:=jN (b:=b) (at_:=a1) (k:=5)
 obtain⟨nd,hdE⟩:∃h,h=bE b a1 5:=⟨_,rfl⟩
 obtain⟨a2,ha2⟩:∃a,a=aN b a1 5:=⟨_,rfl⟩
 rw[<- hdE,<- ha2]at hR
 rw[show(bE b a1 5)=nd from hdE.symm,<- ha2]
 rw[show bE b a1 ((5:Nat):Int)=nd from hdE.symm]at hd
 (refine' bf (jX) ?hp (fun _=>?_) (fun _=>?_);(case hp=>(repeat(first|exact Picks.nil|(apply Picks.cons;(focus repeat constructor)))));(all_goals (try simp only[ca_,na_,Bool.not_true,Bool.not_false,-eq_self])))
 rotate_left
 ·rename_i y
  rw[if_pos y.2]at hR
  refine bT ⟨_,hR⟩ rfl ?_
  exact aw
 rename_i x3
 rw[if_neg (fun c=>c x3.2)]at hR
 have hc:=jN (b:=b) (at_:=a2) (k:=4)
 obtain⟨c,hcE⟩:∃h,h=bE b a2 4:=⟨_,rfl⟩
 obtain⟨a3,ha3⟩:∃a,a=aN b a2 4:=⟨_,rfl⟩
 rw[<- hcE,<- ha3]at hR
 rw[show(bE b a2 4)=c from hcE.symm,<- ha3]
 rw[show bE b a2 ((4:Nat):Int)=c from hcE.symm]at hc
 have hop:(out.length:Int)<=1048576:=by omega
 refine o_ cZ ?_
 by_cases hq:nh<=29/\nd<=29
 rotate_left
 ·rw[if_pos hq]at hR
  by_cases hq1:nh<=29
  ·rw[dT_ (by omega)]
   refine ae (ae (o_ cZ ?_))
   rw[dF_ (by omega)]
   refine o_ ah ?_
   (refine' bf (gy) ?hp (fun _=>?_) (fun _=>?_);(case hp=>(repeat(first|exact Picks.nil|(apply Picks.cons;(focus repeat constructor)))));(all_goals (try simp only[ca_,na_,Bool.not_true,Bool.not_false,-eq_self])))
   ·rename_i x
    exact absurd x.2 (by decide)
   ·refine bT ⟨_,hR⟩ rfl ?_
    exact aw
  ·rw[dF_ (by omega)]
   refine af (af (o_ ag ?_))
   (refine' bf (gy) ?hp (fun _=>?_) (fun _=>?_);(case hp=>(repeat(first|exact Picks.nil|(apply Picks.cons;(focus repeat constructor)))));(all_goals (try simp only[ca_,na_,Bool.not_true,Bool.not_false,-eq_self])))
   ·rename_i x
    exact absurd x.2 (by decide)
   ·refine bT ⟨_,hR⟩ rfl ?_
    exact aw
 rw[if_neg (fun c=>c hq)]at hR
 obtain⟨hq1,hq2⟩:=hq
 rw[dT_ (by omega)]
 refine ae (ae (o_ cZ ?_))
 rw[dT_ (by omega)]
 refine o_ ah ?_
 (refine' bf (gy) ?hp (fun _=>?_) (fun _=>?_);(case hp=>(repeat(first|exact Picks.nil|(apply Picks.cons;(focus repeat constructor)))));(all_goals (try simp only[ca_,na_,Bool.not_true,Bool.not_false,-eq_self])))
 rotate_left
 ·rename_i y
  exact absurd y.2 (by decide)
 refine ep 19 19 (by rfl) (by rfl) (by omega) (by omega) (by decide) fun gl=>?_
 refine o_ b_ ?_;refine bp fun g=>?_;refine fO ?_;refine bG ?_
 refine o_ (KX (c+4) (by omega) (by omega) (by omega)) ?_
 obtain⟨K,hK⟩:∃K,K=c+4:=⟨_,rfl⟩
 rw[<- hK]at hR ⊢
 have hK19:K<=19:=by omega
 obtain⟨M,hM⟩:∃M,M=B9 b (gO.take K) a3 (List.replicate 19 0):=⟨_,rfl⟩
 rw[<- hM]at hR
 refine o_ aC (a_ (fun m y=>[ex fun i:Nat=>ex fun at1:Nat=>ex fun l:List Int=>all [pu (m+i=K/\y= .int .i64 (i:Int)/\M=B9 b ((gO.take K).drop i) at1 l/\l.length=19),pt g (.cells #[(.int .i64 16),(.int .i64 17),(.int .i64 18),(.int .i64 0),(.int .i64 8),(.int .i64 7),(.int .i64 9),(.int .i64 6),(.int .i64 10),(.int .i64 5),(.int .i64 11),(.int .i64 4),(.int .i64 12),(.int .i64 3),(.int .i64 13),(.int .i64 2),(.int .i64 14),(.int .i64 1),(.int .i64 15)] 236 (0,0)),Sl 1 3 (some ⟨gl,0,none⟩) 19 19 (l.map I),lz p b at1 out most]]++F) K ?_ ?_)
 ·refine .ex 0 (.ex a3 (.ex (List.replicate 19 0) (.all ?_)))
  refine aq ?_
  refine .pu ⟨by omega,rfl,hM,by simp⟩ ?_
  rw[List.map_replicate]
  exact .pick (by repeat constructor) (.pick (by repeat constructor) (.pick (by repeat constructor) .refl))
 clear hM
 intro m ds y
 refine aq ?_
 refine aH Pick.here fun i=>aH Pick.here fun at1=>aH Pick.here fun l=>ap Pick.here ?_
 refine aq ?_
 refine aG Pick.here fun hi=>?_
 obtain⟨hmi,rfl,hM,hl19⟩:=hi
 refine ay az .nil (fun h=>?_) (fun h=>?_)
 ·have hiK:i<K:=by omega
  have hog:(gO.take K).drop i=gO.getD i 0::(gO.take K).drop (i+1):=by
   have cL:i<(gO.take K).length:=by rw[List.length_take,show gO.length=19 from rfl];omega
   rw[List.drop_eq_getElem_cons cL,List.getElem_take,List.getD_eq_getElem?_getD,List.getElem?_eq_getElem]
   rfl
  rw[hog,B9]at hM
  obtain⟨o,ho⟩:∃o,o=gO.getD i 0:=⟨_,rfl⟩
  rw[<- ho]at hM
  have hov:(#[(.int .i64 16),(.int .i64 17),(.int .i64 18),(.int .i64 0),(.int .i64 8),(.int .i64 7),(.int .i64 9),(.int .i64 6),(.int .i64 10),(.int .i64 5),(.int .i64 11),(.int .i64 4),(.int .i64 12),(.int .i64 3),(.int .i64 13),(.int .i64 2),(.int .i64 14),(.int .i64 1),(.int .i64 15)]:Array Value)[0+i]? =some (.int .i64 (o:Int))/\o<19:=by
   rw[ho]
   have:i=0\/i=1\/i=2\/i=3\/i=4\/i=5\/i=6\/i=7\/i=8\/i=9\/i=10\/i=11\/i=12\/i=13\/i=14\/i=15\/i=16\/i=17\/i=18:=by omega
   rcases this with rfl|rfl|rfl|rfl|rfl|rfl|rfl|rfl|rfl|rfl|rfl|rfl|rfl|rfl|rfl|rfl|rfl|rfl|rfl <;> exact⟨rfl,by decide⟩
  refine ab (o_ (bj i (by rfl) hiK) ?_)
  refine bt (e_ hov.1) ?_
  (refine' bf (jX) ?hp (fun _=>?_) (fun _=>?_);(case hp=>(repeat(first|exact Picks.nil|(apply Picks.cons;(focus repeat constructor)))));(all_goals (try simp only[ca_,na_,Bool.not_true,Bool.not_false,-eq_self])))
  rotate_left
  ·rename_i y
   rw[if_pos y.2]at hM
   rw[hM]at hR
   refine bT ⟨_,hR⟩ rfl ?_
   exact aw
  rename_i x4
  rw[if_neg (fun c=>c x4.2)]at hM
  refine o_ (bj o (by rfl) (by omega)) ?_
  rw[Nat.zero_add]
  refine fZ (by repeat constructor) (by rw[List.length_map];omega) ?_
  refine bG ?_
  refine aK (m-1) (by omega) (.ex (i+1) (.ex (aN b at1 3) (.ex (l.set o (bE b at1 3:Int)) (.all ?_))))
  refine aq ?_
  refine .pu ⟨by omega,rfl,hM,by rw[List.length_set];omega⟩ ?_
  rw[List.map_set]
  exact .pick (by repeat constructor) (.pick (by repeat constructor) (.pick (by repeat constructor) .refl))
 have hiK:i=K:=by omega
 subst hiK
 rw[List.drop_eq_nil_of_le (by rw[List.length_take];omega),B9]at hM
 rw[hM]at hR
 simp only at hR
 refine aa ?_
 have hsl:RdB W (Sl 1 3 (some ⟨gl,0,none⟩) 19 19 (l.map I)) (some ⟨gl,0,none⟩) l.length (l.map I):=by
  rw[hl19];exact cq (by rw[List.length_map,hl19]) (fun _=>⟨gl,rfl⟩)
 rw[show(Value.slice (some ⟨gl,0,none⟩) 19 19)= .slice (some ⟨gl,0,none⟩) l.length 19 by rw[hl19]]
 refine c_ (KM hsl (by omega)) fun _=>?_
 (refine' bf (gy) ?hp (fun _=>?_) (fun _=>?_);(case hp=>(repeat(first|exact Picks.nil|(apply Picks.cons;(focus repeat constructor)))));(all_goals (try simp only[ca_,na_,Bool.not_true,Bool.not_false,-eq_self])))
 rotate_left
 ·rename_i y
  rw[if_pos (by rw[y.2];decide)]at hR
  refine bT ⟨_,hR⟩ rfl ?_
  exact aw
 rename_i x5
 rw[if_neg (fun c=>c x5.2)]at hR
 (refine' bf (nq hsl (by omega)) ?hp (fun _=>?_) (fun _=>?_);(case hp=>(repeat(first|exact Picks.nil|(apply Picks.cons;(focus repeat constructor)))));(all_goals (try simp only[ca_,na_,Bool.not_true,Bool.not_false,-eq_self])))
 rotate_left
 ·rename_i y
  have hf:=x5.2
  unfold fq at hf
  exact absurd (of_decide_eq_true (Bool.and_eq_true _ _▸hf).1) y.2
 rename_i x6
 refine bG ?_;refine bG ?_;refine bG ?_
 rw[show(nh:Int)+257+nd+1=((nh+257+nd+1:Nat):Int) by omega]
 unfold tM at hR
 (refine' bf (row (l:=l) (out:=out) (by omega) (by omega) (by omega)) ?hp (fun _=>?_) (fun _=>?_);(case hp=>(repeat(first|exact Picks.nil|(apply Picks.cons;(focus repeat constructor)))));(all_goals (try simp only[ca_,na_,Bool.not_true,Bool.not_false,-eq_self])))
 rotate_left
 ·rename_i y
  rw[y.2]at hR
  refine bT ⟨_,hR⟩ rfl ?_
  exact aw
 rename_i q
 obtain⟨⟨⟨a5,r⟩,hrow⟩,ra,rc⟩:=q
 rw[hrow]at hR
 simp only at hR
 (try dsimp only)
 obtain⟨hrl,hrb⟩:=Ax (B:=320) (by omega) _ hrow (by simp) (by simp)
 obtain⟨n,hn⟩:∃n,n=nh+257+nd+1:=⟨_,rfl⟩
 obtain⟨k,hk⟩:∃n,n=nh+257:=⟨_,rfl⟩
 rw[<- hk]at hR
 rw[<- hn]at hrl ⊢
 refine aF (.there .here) fun f1 f2 f3 f4=>?_
 obtain⟨gr,rfl⟩:=f4 (by omega)
 have f4:0<n->∃g',some (⟨gr,0,none⟩:Addr)=some ⟨g',0,none⟩:=fun _=>⟨gr,rfl⟩
 have hrd:=cq (W:=W) (e:=3) (cap:=rc) (cs:=r.map I) (n:=n) (by rw[List.length_map,hrl]) f4
 have hA0:Option.map (fun x:Addr=>x.add (0 * 1)) (some ⟨gr,0,none⟩)=some ⟨gr,0,none⟩:=by simp[cp]
 have hAk:Option.map (fun x:Addr=>x.add (k * 1)) (some ⟨gr,0,none⟩)=some ⟨gr,k,none⟩:=by simp[cp]
 have hla:(r.take k).length=k:=by rw[List.length_take];omega
 have hlb:(r.drop k).length=n-k:=by rw[List.length_drop,hrl]
 have hRa:=hrd.cut (l:=0) (h:=k) (cap:=rc) (by omega) (by omega) f2
 rw[if_neg (by omega),hA0,List.drop_zero,<- List.map_take,Nat.sub_zero]at hRa
 have hRb:=hrd.cut (l:=k) (h:=n) (cap:=rc) (by omega) (by omega) f2
 rw[if_neg (by omega),hAk,List.take_of_length_le (by rw[List.length_drop,List.length_map];omega),<- List.map_drop]at hRb
 have hba:∀x∈r.take k,x<=1048576:=fun x hx=>by have:=(hrb x (List.mem_of_mem_take hx)).2;omega
 have hbb:∀x∈r.drop k,x<=1048576:=fun x hx=>by have:=(hrb x (List.mem_of_mem_drop hx)).2;omega
 refine bA ?_;(refine t_ (bU (by omega) (by omega)) ?_)
 rw[show(nh:Int)+257=(k:Int) by omega]
 refine t_ (qB k (by rfl) (by omega)) ?_
 rw[if_neg (by omega),hA0]
 (refine t_ (bU (by omega) (by omega)) ?_)
 rw[show(nh:Int)+257=(k:Int) by omega]
 refine t_ (ph k (by rfl) (by omega)) ?_
 rw[if_neg (by omega),hAk]
 have h256:256<r.length:=by omega
 refine o_ (bj 256 (by rfl) (by omega)) ?_
 refine bt (cI (v:=I r[256]) (by rw[Nat.zero_add];exact dK h256)) ?_
 refine o_ aV ?_
 have hg:r.getD 256 0=r[256]:=by rw[List.getD_eq_getElem?_getD,List.getElem?_eq_getElem h256];rfl
 rw[hg]at hR
 rw[<- hlb]at hRb
 have hlbn:=hlb
 rw[<- hlb]
 obtain⟨la,hlaE⟩:∃la,la=r.take k:=⟨_,rfl⟩
 obtain⟨lb,hlbE⟩:∃lb,lb=r.drop k:=⟨_,rfl⟩
 rw[<- hlaE]at hR hRa hba hla
 rw[<- hlbE]at hR hRb hbb hlbn ⊢
 rw[<- hla]at hRa hRb ⊢
 have fin0:∀(L:List HP) (kk:Value->WP),Imp W L F->¬((0:Int)<r[256]/\bY la=true/\bY lb=true)->aZ W L (opN p_ (bN (fn 172) [.bool false,.int .i64 30]) (fun ch w=>∃y:Er R,ch=pn y.1/\sat W F w) kk):=by
  intro L kk hi hn
  rw[if_pos hn]at hR
  refine bF hi ?_
  refine bf (A:=[]) (F:=F) gy .nil (fun x=>?_) (fun y=>?_)
  ·exact absurd x.2 (by decide)
  ·refine bT ⟨_,hR⟩ rfl ?_
   exact .refl
 by_cases hc1:0<r[256]
 rotate_left
 ·rw[dF_ (by omega)]
  exact af (af (o_ ag (af (af (o_ ag (fin0 _ _ aw (fun c=>hc1 c.1)))))))
 rw[dT_ (by omega)]
 refine ae (ae (c_ (Ep hRa (by omega) hba) fun _=>?_))
 by_cases hc2:bY la=true
 rotate_left
 ·rw[show bY la=false by simpa using hc2]
  exact o_ ah (af (af (o_ ag (fin0 _ _ aw (fun c=>hc2 c.2.1)))))
 rw[hc2]
 refine o_ ah (ae (ae (c_ (Ep hRb (by omega) hbb) fun _=>?_)))
 by_cases hc3:bY lb=true
 rotate_left
 ·rw[show bY lb=false by simpa using hc3]
  exact o_ ah (fin0 _ _ aw (fun c=>hc3 c.2.2))
 rw[hc3]
 refine o_ ah ?_
 (refine' bf (gy) ?hp (fun _=>?_) (fun _=>?_);(case hp=>(repeat(first|exact Picks.nil|(apply Picks.cons;(focus repeat constructor)))));(all_goals (try simp only[ca_,na_,Bool.not_true,Bool.not_false,-eq_self])))
 rotate_left
 ·rename_i y
  exact absurd y.2 (by decide)
 rw[if_neg (fun c=>c ⟨hc1,hc2,hc3⟩)]at hR
 (refine' bf (nq hRa (by omega)) ?hp (fun _=>?_) (fun _=>?_);(case hp=>(repeat(first|exact Picks.nil|(apply Picks.cons;(focus repeat constructor)))));(all_goals (try simp only[ca_,na_,Bool.not_true,Bool.not_false,-eq_self])))
 rotate_left
 ·rename_i y
  rw[if_pos y.2]at hR
  refine bT ⟨_,hR⟩ rfl ?_
  exact aw
 rename_i x8
 rw[if_neg (fun c=>c x8.2)]at hR
 (refine' bf (nq hRb (by omega)) ?hp (fun _=>?_) (fun _=>?_);(case hp=>(repeat(first|exact Picks.nil|(apply Picks.cons;(focus repeat constructor)))));(all_goals (try simp only[ca_,na_,Bool.not_true,Bool.not_false,-eq_self])))
 rotate_left
 ·rename_i y
  rw[if_pos y.2]at hR
  refine bT ⟨_,hR⟩ rfl ?_
  exact aw
 rename_i x9
 rw[if_neg (fun c=>c x9.2)]at hR
 rw[hR]
 (refine' bf (Ar (by have:=x8.2.len;omega) (by have:=x9.2.len;omega) h1 h2) ?hp (fun _=>?_) (fun _=>?_);(case hp=>(repeat(first|exact Picks.nil|(apply Picks.cons;(focus repeat constructor)))));(all_goals (try simp only[ca_,na_,Bool.not_true,Bool.not_false,-eq_self])))
 ·rename_i x
  refine bq x ?_
  exact aw
 ·rename_i y
  refine bT y rfl ?_
  exact aw
end IF
namespace IF
open Go Go.Proofs Go.RowKit Sh Sl T HM HF B M
def gQ (k:Nat)(b:List UInt8)(most:Int)(at_:Nat)(out:List UInt8):Except Int (Nat × List UInt8):=
 if k=0 then ej b most at_ out else if k=1 then mS eX fw b most at_ out else if k=2 then pP b most at_ out else .error 31
theorem Pm {W:World}{p at_:Nat}{b out:List UInt8}{most:Int}:CnP p_ 137 [.pointer (some ⟨p,0,none⟩)] W [lz p b at_ out most] (fun _:Ok (gQ 3 b most at_ out)=> .tuple #[]) (fun x=>[lz p b x.1.1 x.1.2 most]) (fun y:Er (gQ 3 b most at_ out)=>pn y.1) (fun _=>[]):=by
 (refine Shp.cnP (Sg.g_ Tryz.call137 Tryz.func137) fun F=>?_;simp only[ca_,na_,-eq_self])
 refine o_ lE (jD ?_)
 refine bT ⟨31,rfl⟩ rfl ?_
 exact aw
def kF (b:List UInt8)(most:Int):Nat->Nat->List UInt8->List (Int × Int)->Except Int (Nat × List UInt8 × List (Int × Int))
 |0,_,_,_=> .error 20
 |f+1,at_,out,l=>
  if bQ b at_ 1≠0 then .error (bQ b at_ 1)else
  if bQ b (aN b at_ 1) 2≠0 then .error (bQ b (aN b at_ 1) 2)else
  match gQ (bE b (aN b at_ 1) 2) b most (aN b (aN b at_ 1) 2) out with
  | .error e=> .error e
  | .ok (a,o)=>if bE b at_ 1=0 then kF b most f a o (l++[((bE b (aN b at_ 1) 2:Int),(o.length:Int)-(out.length:Int))])else .ok (a,o,l++[((bE b (aN b at_ 1) 2:Int),(o.length:Int)-(out.length:Int))])
def sO (b:List UInt8)(most:Int):Except Int (Nat × List UInt8 × List (Int × Int)):=
 if most<0\/1048576<most then .error 1 else if 1048576<b.length then .error 6 else kF b most (8 * b.length+1) 0 [] []
def aO (b:List UInt8)(most:Int):List UInt8:=match sO b most with
 | .ok x=>x.2.1
 | .error _=>[]
def aL (b:List UInt8)(most:Int):List (Int × Int):=match sO b most with
 | .ok x=>x.2.2
 | .error _=>[]
def aU (b:List UInt8)(most:Int):Int:=match sO b most with
 | .ok x=>(b.length:Int)-(8 * (b.length:Int)-x.1) / 8
 | .error _=>0
def aE (b:List UInt8)(most:Int):Int:=match sO b most with
 | .ok _=>0
 | .error e=>e
def blk (x:Int × Int):List Value:=[I x.1,I x.2]
theorem yW {b:List UInt8}{most:Int}{at_:Nat}{out:List UInt8}{a:Nat}{o:List UInt8}(h:ej b most at_ out= .ok (a,o))(h0:(out.length:Int)<=most):(o.length:Int)<=most:=by
 unfold ej at h
 obtain⟨_,h⟩:=aQ h
 obtain⟨_,h⟩:=aQ h
 obtain⟨_,h⟩:=aQ h
 obtain⟨c,h⟩:=aQ h
 obtain⟨_,h⟩:=aQ h
 have:=(Prod.mk.inj (Except.ok.inj h)).2
 rw[<- this,List.length_append]
 have hle:(jz b (aN b (aN b ((at_+7) / 8 * 8) 16) 16) (bE b ((at_+7) / 8 * 8) 16:Int)).length<=bE b ((at_+7) / 8 * 8) 16:=by unfold jz;split;(rw[List.length_take];omega);simp
 omega
theorem Hi {b:List UInt8}{most:Int}{at_:Nat}{out:List UInt8}{a:Nat}{o:List UInt8}(h:pP b most at_ out= .ok (a,o))(h0:(out.length:Int)<=most):(o.length:Int)<=most:=by
 unfold pP at h
 obtain⟨_,h⟩:=aQ h
 obtain⟨_,h⟩:=aQ h
 obtain⟨_,h⟩:=aQ h
 obtain⟨_,h⟩:=aQ h
 split at h
 ·cases h
 ·obtain⟨_,h⟩:=aQ h
  unfold tM at h
  split at h
  ·cases h
  ·obtain⟨_,h⟩:=aQ h
   obtain⟨_,h⟩:=aQ h
   obtain⟨_,h⟩:=aQ h
   exact rj _ h h0
theorem ry {k:Nat}{b:List UInt8}{most:Int}{at_:Nat}{out:List UInt8}{a:Nat}{o:List UInt8}(h:gQ k b most at_ out= .ok (a,o))(h0:(out.length:Int)<=most):(o.length:Int)<=most:=by
 unfold gQ at h
 split at h
 ·exact yW h h0
 split at h
 ·exact rj _ h h0
 split at h
 ·exact Hi h h0
 ·cases h
theorem Hj (b:List UInt8)(at_:Nat)(k:Int):at_<=jI b at_ k:=by unfold jI;split <;> omega
theorem yX {b:List UInt8}{most:Int}{at_:Nat}{out:List UInt8}{a:Nat}{o:List UInt8}(h:ej b most at_ out= .ok (a,o)):at_<=a:=by
 unfold ej at h
 obtain⟨_,h⟩:=aQ h
 obtain⟨_,h⟩:=aQ h
 obtain⟨_,h⟩:=aQ h
 obtain⟨c,h⟩:=aQ h
 obtain⟨_,h⟩:=aQ h
 have:=(Prod.mk.inj (Except.ok.inj h)).1
 have l1:=cE b ((at_+7) / 8 * 8) 16
 have l2:=cE b (aN b ((at_+7) / 8 * 8) 16) 16
 have l3:=Hj b (aN b (aN b ((at_+7) / 8 * 8) 16) 16) (bE b ((at_+7) / 8 * 8) 16:Int)
 omega
theorem tN {la lb:List Int}{b:List UInt8}{most:Int}{at_:Nat}{out:List UInt8}{t:Bool}{a:Nat}{o:List UInt8}(h:gz la lb b most at_ out= .ok (t,a,o)):at_<=a:=by
 have ho:∀ {t':Bool} {a':Nat} {o':List UInt8},(Except.ok (t',a',o'):Except Int (Bool × Nat × List UInt8))= .ok (t,a,o)->a'=a:=fun e=>(Prod.mk.inj (Prod.mk.inj (Except.ok.inj e)).2).1
 have n1:=(jL la b at_).1
 unfold gz at h
 simp only at h
 obtain⟨_,h⟩:=aQ h
 by_cases c1:(cM la b at_).1=256
 ·rw[if_pos c1]at h
  rw[<- ho h];exact n1
 rw[if_neg c1]at h
 by_cases c2:(cM la b at_).1<256
 ·rw[if_pos c2]at h
  obtain⟨c3,h⟩:=aQ h
  rw[<- ho h];exact n1
 rw[if_neg c2]at h
 obtain⟨_,h⟩:=aQ h
 obtain⟨_,h⟩:=aQ h
 obtain⟨_,h⟩:=aQ h
 obtain⟨_,h⟩:=aQ h
 obtain⟨_,h⟩:=aQ h
 obtain⟨_,h⟩:=aQ h
 obtain⟨c3,h⟩:=aQ h
 rw[<- ho h]
 have l1:=cE b (cM la b at_).2.2 (bL (cM la b at_).1).2
 have l2:=(jL lb b (aN b (cM la b at_).2.2 (bL (cM la b at_).1).2)).1
 have l3:=cE b (cM lb b (aN b (cM la b at_).2.2 (bL (cM la b at_).1).2)).2.2 (bD (cM lb b (aN b (cM la b at_).2.2 (bL (cM la b at_).1).2)).1).2
 exact Nat.le_trans n1 (Nat.le_trans l1 (Nat.le_trans l2 l3))
theorem rz {la lb:List Int}{b:List UInt8}{most:Int}:∀(f:Nat) {at_:Nat} {out:List UInt8} {a:Nat} {o:List UInt8},lK la lb b most f at_ out= .ok (a,o)->at_<=a
 |0,_,_,_,_,h=>by cases h
 |f+1,at_,out,a,o,h=>by
  rw[lK]at h
  split at h
  ·cases h
  ·rename_i hr
   cases h
   exact tN hr
  ·rename_i hr
   exact Nat.le_trans (tN hr) (rz f h)
theorem Et (b:List UInt8):∀(ks:List Nat) {at_ a:Nat} {l r:List Int},B9 b ks at_ l= .ok (a,r)->at_<=a
 |[],at_,a,l,r,h=>by
  have:=Prod.mk.inj (Except.ok.inj h)
  omega
 |k::ks,at_,a,l,r,h=>by
  rw[B9]at h
  exact Nat.le_trans (cE b at_ 3) (Et b ks (aQ h).2)
theorem Hk {l:List Int}{b:List UInt8}{at_:Nat}{acc:List Int}{v t:Int}{a:Nat}(h:iU l b at_ acc= .ok (v,t,a)):at_<=a:=by
 have ho:∀ {v' t':Int} {a':Nat},(Except.ok (v',t',a'):Except Int (Int × Int × Nat))= .ok (v,t,a)->a'=a:=fun e=>(Prod.mk.inj (Prod.mk.inj (Except.ok.inj e)).2).2
 have n1:=(jL l b at_).1
 unfold iU at h
 simp only at h
 obtain⟨c0,h⟩:=aQ h
 by_cases c1:(cM l b at_).1=16
 ·rw[if_pos c1]at h
  obtain⟨_,h⟩:=aQ h
  obtain⟨c2,h⟩:=aQ h
  have hle:=cE b (cM l b at_).2.2 2
  rw[<- ho h];omega
 rw[if_neg c1]at h
 by_cases c2:(cM l b at_).1=17
 ·rw[if_pos c2]at h
  obtain⟨_,h⟩:=aQ h
  have hle:=cE b (cM l b at_).2.2 3
  rw[<- ho h];omega
 rw[if_neg c2]at h
 by_cases c3:(cM l b at_).1=18
 ·rw[if_pos c3]at h
  obtain⟨_,h⟩:=aQ h
  have hle:=cE b (cM l b at_).2.2 7
  rw[<- ho h];omega
 rw[if_neg c3]at h
 rw[<- ho h];omega
theorem Ay {l:List Int}{b:List UInt8}{n:Nat}:∀(f:Nat) {at_:Nat} {acc:List Int} {a:Nat} {r:List Int},pO l b n f at_ acc= .ok (a,r)->at_<=a
 |0,_,_,_,_,h=>by cases h
 |f+1,at_,acc,a,r,h=>by
  rw[pO]at h
  by_cases c:acc.length<n
  ·rw[if_pos c]at h
   cases hr:iU l b at_ acc with
   |error e=>rw[hr]at h;cases h
   |ok q=>
    obtain⟨v,t,a1⟩:=q
    rw[hr]at h
    simp only at h
    obtain⟨c1,h⟩:=aQ h
    exact Nat.le_trans (Hk hr) (Ay f h)
  ·rw[if_neg c]at h
   have:=Prod.mk.inj (Except.ok.inj h)
   omega
theorem Hl {b:List UInt8}{most:Int}{at_:Nat}{out:List UInt8}{a:Nat}{o:List UInt8}(h:pP b most at_ out= .ok (a,o)):at_<=a:=by
 have l1:=cE b at_ 5
 have l2:=cE b (aN b at_ 5) 5
 have l3:=cE b (aN b (aN b at_ 5) 5) 4
 unfold pP at h
 obtain⟨_,h⟩:=aQ h
 obtain⟨_,h⟩:=aQ h
 obtain⟨_,h⟩:=aQ h
 obtain⟨_,h⟩:=aQ h
 split at h
 ·cases h
 ·rename_i hc
  have l4:=Et b _ hc
  obtain⟨_,h⟩:=aQ h
  unfold tM at h
  split at h
  ·cases h
  ·rename_i hr
   have l5:=Ay _ hr
   obtain⟨_,h⟩:=aQ h
   obtain⟨_,h⟩:=aQ h
   obtain⟨_,h⟩:=aQ h
   have l6:=rz _ h
   omega
theorem wP {k:Nat}{b:List UInt8}{most:Int}{at_:Nat}{out:List UInt8}{a:Nat}{o:List UInt8}(h:gQ k b most at_ out= .ok (a,o)):at_<=a:=by
 unfold gQ at h
 split at h
 ·exact yX h
 split at h
 ·exact rz _ h
 split at h
 ·exact Hl h
 ·cases h
def kf (k:Nat):FuncId:=if k=0 then 134 else if k=1 then 135 else if k=2 then 136 else 137
theorem kind {W:World}{p at_ k:Nat}{b out:List UInt8}{most:Int}(hk:k<4)(h1:0<=most/\most<=1048576)(h2:(out.length:Int)<=most):
  CnP p_ (kf k) [.pointer (some ⟨p,0,none⟩)] W [lz p b at_ out most] (fun _:Ok (gQ k b most at_ out)=> .tuple #[]) (fun x=>[lz p b x.1.1 x.1.2 most]) (fun y:Er (gQ k b most at_ out)=>pn y.1) (fun _=>[]):=by
 have:k=0\/k=1\/k=2\/k=3:=by omega
 rcases this with rfl|rfl|rfl|rfl
 ·exact KS (by omega) (by omega)
 ·exact Pl h1 h2
 ·exact Hh h1 h2
 ·exact Pm
theorem Pn {W:World} {F:List HP} {g4 g5 g6 g7:Nat} {v4 v5 v6 v7:Value} {e:Int} {K:Value->WP} {Kq:PK}
  (h:aZ W (pt g4 (.cells #[.slice none 0 0] 23)::pt g5 (.cells #[.slice none 0 0] 146)::pt g6 (.cells #[.int .i64 0] 3)::pt g7 (.cells #[.int .i64 e] 27)::F) (K (.tuple #[.slice none 0 0,.slice none 0 0,.int .i64 0,.int .i64 e]))):
  aZ W (pt g4 (.cells #[v4] 23)::pt g5 (.cells #[v5] 146)::pt g6 (.cells #[v6] 3)::pt g7 (.cells #[v7] 27)::F)
   (fy p_ {target:= .fn (.func 132) ([.pointer (some ⟨g4,0,none⟩),.pointer (some ⟨g5,0,none⟩),.pointer (some ⟨g6,0,none⟩),.pointer (some ⟨g7,0,none⟩)]:List Value).toArray,args:=([]:List Value).toArray} (S.aW (.pointer (some ⟨g4,0,none⟩)) (.pointer (some ⟨g5,0,none⟩)) (.pointer (some ⟨g6,0,none⟩)) (.pointer (some ⟨g7,0,none⟩)) K) Kq (pn e)):=by
 unfold fy
 refine zO (f:=132) (A:=[.pointer (some ⟨g4,0,none⟩),.pointer (some ⟨g5,0,none⟩),.pointer (some ⟨g6,0,none⟩),.pointer (some ⟨g7,0,none⟩)]) (shape:=fun rv=>S.ed (.pointer (some ⟨g4,0,none⟩)) (.pointer (some ⟨g5,0,none⟩)) (.pointer (some ⟨g6,0,none⟩)) (.pointer (some ⟨g7,0,none⟩)) rv) (fun c=>by cases c) ⟨_,_,rfl⟩ (iY (cs:=[.pointer (some ⟨g4,0,none⟩),.pointer (some ⟨g5,0,none⟩),.pointer (some ⟨g6,0,none⟩),.pointer (some ⟨g7,0,none⟩)]) (bs:=[]) Tryz.call132) (fun h=>S.jS h) ?_
 unfold S.ed pn
 rw[zQ,C1]
 refine o_ (uJ (by kernel_rfl)) ?_
 refine ab (bA (bh (OV (k:= .i64) (by kernel_rfl)) .nil ?_))
 refine eE ?_;refine cf ?_;refine eE ?_;refine cf ?_;refine eE ?_;refine cf ?_;refine eE ?_
 unfold S.aW
 (((refine' aT (cB ?hc) ?hi ?_);(case hi=>exact aw);(case hc=>repeat constructor)));(((refine' aT (cB ?hc) ?hi ?_);(case hi=>exact aw);(case hc=>repeat constructor)));(((refine' aT (cB ?hc) ?hi ?_);(case hi=>exact aw);(case hc=>repeat constructor)));(((refine' aT (cB ?hc) ?hi ?_);(case hi=>exact aw);(case hc=>repeat constructor)))
 exact bF aw h
theorem KY {W:World}{p r at_:Nat}{b:List UInt8}{v:Value}{most k:Int}:CnP p_ 138 [.pointer (some ⟨p,0,none⟩),.int .i64 k] W [pt p (.cells #[.pointer (some ⟨r,0,none⟩),v,.int .i64 most] 184),pN r b at_]
  (fun _:If (bQ b at_ k=0)=> .int .i64 (bE b at_ k:Int)) (fun _=>[pt p (.cells #[.pointer (some ⟨r,0,none⟩),v,.int .i64 most] 184),pN r b (aN b at_ k)]) (fun _:If (bQ b at_ k≠0)=>pn (bQ b at_ k)) (fun _=>[]):=by
 (refine Shp.cnP (Sg.g_ Tryz.call138 Tryz.func138) fun F=>?_;simp only[ca_,na_,-eq_self])
 refine o_ au (o_ aj (bJ ?_))
 refine c_ B.take fun _=>?_
 refine fP ?_;refine fP ?_
 (refine' bf (B7) ?hp (fun _=>?_) (fun _=>?_);(case hp=>(repeat(first|exact Picks.nil|(apply Picks.cons;(focus repeat constructor)))));(all_goals (try simp only[ca_,na_,Bool.not_true,Bool.not_false,-eq_self])))
 ·rename_i x
  refine bq (mh (x.2)) ?_
  exact aw
 ·rename_i y
  refine bT (mh (y.2)) rfl ?_
  exact aw
theorem Ap (b:List UInt8)(at_:Nat):bE b at_ 1=0\/bE b at_ 1=1:=by
 have:=jN (b:=b) (at_:=at_) (k:=1)
 have e:bE b at_ ((1:Nat):Int)=bE b at_ 1:=rfl
 rw[e]at this
 omega
theorem KZ {k:Nat}(hk:k<4):(#[fn 134,fn 135,fn 136,fn 137]:Array Value)[k]? =some (fn (kf k)):=by
 have:k=0\/k=1\/k=2\/k=3:=by omega
 rcases this with rfl|rfl|rfl|rfl <;> rfl
theorem Hm (l:List (Int × Int))(x:Int × Int):(l++[x]).flatMap blk=l.flatMap blk++[I x.1,I x.2]:=by simp[blk]
theorem Kc {W:World}{a:Option Addr}{cap:Nat}{b:List UInt8}{A:HP}{most:Int}(hr:RdB W A a b.length (b.map B))(ha:a=none->b.length=0)(hb:b.length<=140737488355328):
  Cn p_ 103 [.slice a b.length cap,.int .i64 most] W [A]
   (fun q:(Option Addr × Nat) × (Option Addr × Nat)=> .tuple #[.slice q.1.1 (aO b most).length q.1.2,.slice q.2.1 (aL b most).length q.2.2,.int .i64 (aU b most),.int .i64 (aE b most)])
   (fun q=>[Sl 1 5 q.1.1 q.1.2 (aO b most).length ((aO b most).map B),Sl 2 188 q.2.1 q.2.2 (aL b most).length ((aL b most).flatMap blk),A]):=by
 (refine S.sM.cn fun F=>?_;unfold S.po;simp only[ca_,na_])
 refine dx fun g4=>?_
 refine dx fun g5=>?_
 refine dx fun g6=>?_
 refine dx fun g7=>?_
 obtain⟨T,hT⟩:∃T,T=sO b most:=⟨_,rfl⟩
 have bad:∀e:Int,T= .error e->aO b most=[]/\aL b most=[]/\aU b most=0/\aE b most=e:=by
  intro e he
  rw[hT]at he
  simp[aO,aL,aU,aE,he]
 have good:∀(a1:Nat) (o1:List UInt8) (l1:List (Int × Int)),T= .ok (a1,o1,l1)->aO b most=o1/\aL b most=l1/\aU b most=(b.length:Int)-(8 * (b.length:Int)-a1) / 8/\aE b most=0:=by
  intro a1 o1 l1 he
  rw[hT]at he
  simp[aO,aL,aU,aE,he]
 have fin:∀(e:Int) (L:List HP),T= .error e->Imp W L (A::F)->aZ W L (fun w=>∃q:(Option Addr × Nat) × (Option Addr × Nat),(.tuple #[.slice none 0 0,.slice none 0 0,.int .i64 0,.int .i64 e]:Value)= .tuple #[.slice q.1.1 (aO b most).length q.1.2,.slice q.2.1 (aL b most).length q.2.2,.int .i64 (aU b most),.int .i64 (aE b most)]/\sat W ([Sl 1 5 q.1.1 q.1.2 (aO b most).length ((aO b most).map B),Sl 2 188 q.2.1 q.2.2 (aL b most).length ((aL b most).flatMap blk),A]++F) w):=by
  intro e L he hi
  obtain⟨h1,h2,h3,h4⟩:=bad e he
  rw[h1,h2,h3,h4]
  refine bF hi ?_
  refine cU (s:=1) (e:=5) ?_
  refine cU (s:=2) (e:=188) ?_
  refine aR ((none,0),(none,0)) rfl ?_
  exact aw
 unfold sO at hT
 refine dD (fun z=>[pu (z= .bool (decide (most<0\/1048576<most))),pt g4 (.cells #[.slice none 0 0] 23),pt g5 (.cells #[.slice none 0 0] 146),pt g6 (.cells #[.int .i64 0] 3),pt g7 (.cells #[.int .i64 0] 27),A]++F) ?_ ?_
 rotate_left
 ·(refine ay az .nil (fun h=>?_) (fun h=>?_))
  ·refine ab (aD (.pu (by rw[dT_ (.inl h)]) ?_))
   exact aw
  ·refine aa (ay aV .nil (fun h=>?_) (fun h=>?_))
   ·refine aD (.pu (by rw[dT_ (.inr h)]) ?_)
    exact aw
   ·refine aD (.pu (by rw[dF_ (by omega)]) ?_)
    exact aw
 intro ds z
 refine aq ?_
 refine aG Pick.here fun hz=>?_
 subst hz
 by_cases hm:most<0\/1048576<most
 ·rw[if_pos hm]at hT
  rw[dT_ hm]
  refine ab (eE ?_);refine eE ?_;refine eE ?_;refine eE ?_;(((refine' aT (cB ?hc) ?hi ?_);(case hi=>exact aw);(case hc=>repeat constructor)));(((refine' aT (cB ?hc) ?hi ?_);(case hi=>exact aw);(case hc=>repeat constructor)));(((refine' aT (cB ?hc) ?hi ?_);(case hi=>exact aw);(case hc=>repeat constructor)));(((refine' aT (cB ?hc) ?hi ?_);(case hi=>exact aw);(case hc=>repeat constructor)))
  exact fin 1 _ hT aw
 rw[if_neg hm]at hT
 rw[dF_ hm]
 refine aa (o_ aC (ay aV .nil (fun h=>?_) (fun h=>?_)))
 ·rw[if_pos (by omega)]at hT
  refine ab (eE ?_);refine eE ?_;refine eE ?_;refine eE ?_;(((refine' aT (cB ?hc) ?hi ?_);(case hi=>exact aw);(case hc=>repeat constructor)));(((refine' aT (cB ?hc) ?hi ?_);(case hi=>exact aw);(case hc=>repeat constructor)));(((refine' aT (cB ?hc) ?hi ?_);(case hi=>exact aw);(case hc=>repeat constructor)));(((refine' aT (cB ?hc) ?hi ?_);(case hi=>exact aw);(case hc=>repeat constructor)))
  exact fin 6 _ hT aw
 rw[if_neg (by omega)]at hT
 refine aa (o_ gI (CY ?_))
 simp only[List.nil_append,Array.append_empty,List.append_toArray]
 refine c_ (B3 hr ha hb) fun _=>?_
 rename_i pr
 refine o_ b_ ?_
 refine bV fun gs=>?_
 refine o_ b_ ?_
 refine bp fun gk=>?_
 refine' bS ?hp ?hn ?hv ?h1 ?_
 case hp=>(repeat constructor)
 case hn=>rfl
 case hv=>rfl
 case h1=>simp[fn,Value.oneCell']
 have bad2:∀(e:Int) (L:List HP) (q:Option Addr × Nat) (n:Nat),T= .error e->Imp W L ([pt g4 (.cells #[.slice none 0 0] 23),pt g5 (.cells #[.slice q.1 n q.2] 146),pt g6 (.cells #[.int .i64 0] 3),pt g7 (.cells #[.int .i64 0] 27),A]++F)->aZ W L (fy p_ {target:= .fn (.func 132) ([.pointer (some ⟨g4,0,none⟩),.pointer (some ⟨g5,0,none⟩),.pointer (some ⟨g6,0,none⟩),.pointer (some ⟨g7,0,none⟩)]:List Value).toArray,args:=([]:List Value).toArray} (S.aW (.pointer (some ⟨g4,0,none⟩)) (.pointer (some ⟨g5,0,none⟩)) (.pointer (some ⟨g6,0,none⟩)) (.pointer (some ⟨g7,0,none⟩)) (fun v w=>∃q:(Option Addr × Nat) × (Option Addr × Nat),v= .tuple #[.slice q.1.1 (aO b most).length q.1.2,.slice q.2.1 (aL b most).length q.2.2,.int .i64 (aU b most),.int .i64 (aE b most)]/\sat W ([Sl 1 5 q.1.1 q.1.2 (aO b most).length ((aO b most).map B),Sl 2 188 q.2.1 q.2.2 (aL b most).length ((aL b most).flatMap blk),A]++F) w)) gH (pn e)):=by
  intro e L q n he hi
  refine bF hi ?_
  refine aq ?_
  refine Pn ?_
  exact fin e _ he aw
 refine cU (s:=2) (e:=188) ?_
 refine cU (s:=1) (e:=5) ?_
 refine bF (M:=lz gs b 0 [] most::Sl 2 188 none 0 0 []::pt gk (.cells #[fn 134,fn 135,fn 136,fn 137] 186)::pt g4 (.cells #[.slice none 0 0] 23)::pt g5 (.cells #[.slice none 0 0] 146)::pt g6 (.cells #[.int .i64 0] 3)::pt g7 (.cells #[.int .i64 0] 27)::A::F) (.ex (pr,(none,0)) (.all (.pick (by repeat constructor) (.pick (by repeat constructor) (.pick (by repeat constructor) aw))))) ?_
 have hm0:0<=most/\most<=1048576:=by omega
 refine a_ (fun m y=>[ex fun at1:Nat=>ex fun out:List UInt8=>ex fun l:List (Int × Int)=>ex fun q:Option Addr × Nat=>all [pu (((y= .int .i64 0/\8 * b.length+1<=m+at1/\T=kF b most m at1 out l)\/(y= .int .i64 1/\T= .ok (at1,out,l)))/\(out.length:Int)<=most/\l.length<=at1),lz gs b at1 out most,Sl 2 188 q.1 q.2 l.length (l.flatMap blk),pt gk (.cells #[fn 134,fn 135,fn 136,fn 137] 186),pt g4 (.cells #[.slice none 0 0] 23),pt g5 (.cells #[.slice q.1 l.length q.2] 146),pt g6 (.cells #[.int .i64 0] 3),pt g7 (.cells #[.int .i64 0] 27),A]]++F) (8 * b.length+1) ?_ ?_
 ·refine .ex 0 (.ex [] (.ex [] (.ex (none,0) (.all ?_))))
  refine aq ?_
  refine .pu ⟨.inl ⟨rfl,by omega,hT⟩,by simpa using hm0.1,by simp⟩ ?_
  exact aw
 clear hT
 intro m ds y
 refine aq ?_
 refine aH Pick.here fun at1=>aH Pick.here fun out=>aH Pick.here fun l=>aH Pick.here fun q=>ap Pick.here ?_
 obtain⟨qa,qc⟩:=q
 refine aq ?_
 refine aG Pick.here fun hi=>?_
 obtain⟨hi,ho,hll⟩:=hi
 refine rx .here fun hat=>?_
 rcases hi with ⟨rfl,hm,hT⟩|⟨rfl,hT⟩
 ·refine o_ aP ?_
  rw[dT_ rfl]
  refine ab ?_
  obtain⟨m,rfl⟩:∃m',m=m'+1:=⟨m-1,by omega⟩
  rw[kF]at hT
  (refine' bf (jX) ?hp (fun _=>?_) (fun _=>?_);(case hp=>(repeat(first|exact Picks.nil|(apply Picks.cons;(focus repeat constructor)))));(all_goals (try simp only[ca_,na_,Bool.not_true,Bool.not_false,-eq_self])))
  rotate_left
  ·rename_i y
   rw[if_pos y.2]at hT
   exact bad2 _ _ (qa,qc) l.length hT aw
  rename_i x1
  rw[if_neg (fun c=>c x1.2)]at hT
  have ha1:aN b at1 1=at1+1:=by unfold aN;rw[if_pos x1.2];rfl
  have hl1:=Ap b at1
  obtain⟨last,hlast⟩:∃l,l=bE b at1 1:=⟨_,rfl⟩
  rw[<- hlast]at hl1
  rw[<- hlast,ha1]at hT ⊢
  refine bA (aH Pick.here fun q=>ap Pick.here ?_)
  obtain⟨r,sa,sc⟩:=q
  refine aq ?_
  refine bh au .nil ?_;refine bh aj .nil ?_;(((refine' bh (bC ?hc) ?hi ?_);(case hi=>exact .pick (by repeat constructor) .nil);(case hc=>repeat constructor)));refine bh aC .nil ?_
  (refine' bf (KY) ?hp (fun _=>?_) (fun _=>?_);(case hp=>(repeat(first|exact Picks.nil|(apply Picks.cons;(focus repeat constructor)))));(all_goals (try simp only[ca_,na_,Bool.not_true,Bool.not_false,-eq_self])))
  rotate_left
  ·rename_i y
   rw[if_pos y.2]at hT
   exact bad2 _ _ (qa,qc) l.length hT aw
  rename_i x2
  rw[if_neg (fun c=>c x2.2)]at hT
  have hk4:=jN (b:=b) (at_:=at1+1) (k:=2)
  have hkE:bE b (at1+1) ((2:Nat):Int)=bE b (at1+1) 2:=rfl
  rw[hkE]at hk4
  have hlt2:=cE b (at1+1) 2
  obtain⟨kk,hkk⟩:∃k,k=bE b (at1+1) 2:=⟨_,rfl⟩
  obtain⟨a2,ha2⟩:∃a,a=aN b (at1+1) 2:=⟨_,rfl⟩
  rw[<- hkk]at hk4
  rw[<- ha2]at hlt2
  rw[<- hkk,<- ha2]at hT ⊢
  have hk4:kk<4:=hk4
  refine cf ?_;refine cf ?_;refine cf ?_;refine cf ?_
  refine o_ (dm kk (by rfl) hk4) ?_
  refine bt (e_ (v:=fn (kf kk)) (by rw[Nat.zero_add,Nat.mul_one];exact KZ hk4)) ?_
  refine bF (M:=lz gs b a2 out most::Sl 2 188 qa qc l.length (l.flatMap blk)::pt gk (.cells #[fn 134,fn 135,fn 136,fn 137] 186)::pt g4 (.cells #[.slice none 0 0] 23)::pt g5 (.cells #[.slice qa l.length qc] 146)::pt g6 (.cells #[.int .i64 0] 3)::pt g7 (.cells #[.int .i64 0] 27)::A::F) (.ex (r,(sa,sc)) (.all (.pick (by repeat constructor) (.pick (by repeat constructor) (.pick (by repeat constructor) aw))))) ?_
  (refine' bf (kind hk4 hm0 ho) ?hp (fun _=>?_) (fun _=>?_);(case hp=>(repeat(first|exact Picks.nil|(apply Picks.cons;(focus repeat constructor)))));(all_goals (try simp only[ca_,na_,Bool.not_true,Bool.not_false,-eq_self])))
  rotate_left
  ·rename_i y
   have hy:=y.2
   rw[hy]at hT
   exact bad2 _ _ (qa,qc) l.length hT aw
  rename_i x3
  obtain⟨⟨a3,o3⟩,hx3⟩:=x3
  rw[hx3]at hT
  simp only at hT
  have ho3:=ry hx3 ho
  have ha3:=wP hx3
  (try dsimp only)
  refine bA (aH Pick.here fun q=>ap Pick.here ?_)
  obtain⟨r3,sa3,sc3⟩:=q
  refine aq ?_
  (((refine' bh (bC ?hc) ?hi ?_);(case hi=>exact .pick (by repeat constructor) .nil);(case hc=>repeat constructor)));refine t_ au ?_;refine t_ aj ?_;refine ew ?_;refine t_ aC ?_;(refine t_ (dv (by omega) (by omega)) ?_);refine t_ b_ ?_
  refine eL (n:=1) (vs:=[.agg #[.int .i64 (kk:Int),.int .i64 ((o3.length:Int)-(out.length:Int))]]) rfl (by omega) rfl (by intro v hv;rw[List.mem_singleton.1 hv];rfl) (by omega) fun gb=>?_
  refine cf ?_
  refine bO (m:=1) (news:=[I (kk:Int),I ((o3.length:Int)-(out.length:Int))]) (by repeat constructor) (cA (e':=188) (by kernel_rfl) .here (by rfl) (by simp[Value.cells,I,Value.oneCell'])) (by omega) (by omega) fun a' c'=>?_
  refine eE ?_
  have hT':(last=0/\T=kF b most m a3 o3 (l++[((kk:Int),(o3.length:Int)-(out.length:Int))]))\/(last=1/\T= .ok (a3,o3,l++[((kk:Int),(o3.length:Int)-(out.length:Int))])):=by
   rcases hl1 with h|h
   ·exact .inl ⟨h,by rw[hT,if_pos h]⟩
   ·exact .inr ⟨h,by rw[hT,if_neg (by omega)]⟩
  refine aK m (by omega) (.ex a3 (.ex o3 (.ex (l++[((kk:Int),(o3.length:Int)-(out.length:Int))]) (.ex (a',c') (.all ?_)))))
  refine aq ?_
  refine .pu ⟨?_,ho3,by rw[List.length_append,List.length_singleton];omega⟩ ?_
  ·rcases hT' with ⟨h,e⟩|⟨h,e⟩
   ·subst h;exact .inl ⟨rfl,by omega,e⟩
   ·subst h;exact .inr ⟨rfl,e⟩
  refine .ex (r3,(sa3,sc3)) (.all ?_)
  refine aq ?_
  rw[List.length_append,Hm,List.length_singleton]
  exact .pick (by repeat constructor) (.pick (by repeat constructor) (.pick (by repeat constructor) (.pick (by repeat constructor) (.pick (by repeat constructor) (.pick (by repeat constructor) (.pick (by repeat constructor) (.pick (by repeat constructor) (.pick (by repeat constructor) (.pick (by repeat constructor) aw)))))))))
 ·refine o_ aP ?_
  rw[dF_ (by omega)]
  refine aa (bA (aH Pick.here fun q=>ap Pick.here ?_))
  obtain⟨r,sa,sc⟩:=q
  refine aq ?_
  refine bh au .nil ?_;refine bh aj .nil ?_;(((refine' bh (bC ?hc) ?hi ?_);(case hi=>exact .pick (by repeat constructor) .nil);(case hc=>repeat constructor)));(((refine' bh (bC ?hc) ?hi ?_);(case hi=>exact .pick (by repeat constructor) .nil);(case hc=>repeat constructor)));refine bh aC .nil ?_;refine t_ au (t_ aj (ew ?_))
  refine c_ left fun _=>?_
  refine cf ?_;refine cf ?_;refine cf ?_;refine cf ?_;refine cf ?_;(((refine bh (hH ?h1 ?h2 ?h3) .nil ?_);(case h1=>omega);(case h2=>omega);(case h3=>omega)));(refine bh (dv (by omega) (by omega)) .nil ?_);refine eE ?_;refine cf ?_;refine cf ?_;refine cf ?_;refine cf ?_;refine eE ?_;refine cf ?_;refine cf ?_;refine cf ?_;refine eE ?_;refine eE ?_
  obtain⟨g1,g2,g3,g4'⟩:=good _ _ _ hT
  rw[g1,g2,g3,g4']
  refine zO (f:=132) (A:=[.pointer (some ⟨g4,0,none⟩),.pointer (some ⟨g5,0,none⟩),.pointer (some ⟨g6,0,none⟩),.pointer (some ⟨g7,0,none⟩)]) (shape:=fun rv=>S.ed (.pointer (some ⟨g4,0,none⟩)) (.pointer (some ⟨g5,0,none⟩)) (.pointer (some ⟨g6,0,none⟩)) (.pointer (some ⟨g7,0,none⟩)) rv) (fun c=>by cases c) ⟨_,_,rfl⟩ (iY (cs:=[.pointer (some ⟨g4,0,none⟩),.pointer (some ⟨g5,0,none⟩),.pointer (some ⟨g6,0,none⟩),.pointer (some ⟨g7,0,none⟩)]) (bs:=[]) Tryz.call132) (fun h=>S.jS h) ?_
  unfold S.ed
  rw[zP,C0]
  refine o_ (p7 (by kernel_rfl)) ?_
  refine aa ?_
  unfold S.aW
  (((refine' aT (cB ?hc) ?hi ?_);(case hi=>exact aw);(case hc=>repeat constructor)));(((refine' aT (cB ?hc) ?hi ?_);(case hi=>exact aw);(case hc=>repeat constructor)));(((refine' aT (cB ?hc) ?hi ?_);(case hi=>exact aw);(case hc=>repeat constructor)));(((refine' aT (cB ?hc) ?hi ?_);(case hi=>exact aw);(case hc=>repeat constructor)))
  refine aR ((sa,sc),(qa,qc)) rfl ?_
  refine aq ?_
  exact .pick (by repeat constructor) (.pick (by repeat constructor) (.pick (by repeat constructor) aw))
theorem Hn {W:World}{a:Option Addr}{cap:Nat}{b:List UInt8}{A:HP}{most:Int}(hr:RdB W A a b.length (b.map B))(ha:a=none->b.length=0)(hb:b.length<=140737488355328):
  Cn p_ 67 [.slice a b.length cap,.int .i64 most] W [A] (fun q:Option Addr × Nat=> .tuple #[.slice q.1 (aO b most).length q.2,.int .i64 (aU b most),.int .i64 (aE b most)]) (fun q=>[Sl 1 5 q.1 q.2 (aO b most).length ((aO b most).map B),A]):=by
 (refine Shp.cn (Sg.g_ Tryz.call67 Tryz.func67) fun F=>?_;simp only[ca_,na_])
 refine c_ (Kc hr ha hb) fun _=>?_
 rename_i q
 obtain⟨⟨oa,oc⟩,⟨la,lc⟩⟩:=q
 (try dsimp only)
 refine o_ (bk (v:= .slice oa (aO b most).length oc) rfl) ?_
 refine o_ (bk (v:= .slice la (aL b most).length lc) rfl) ?_
 refine o_ (bk (v:= .int .i64 (aU b most)) rfl) ?_
 refine o_ (bk (v:= .int .i64 (aE b most)) rfl) ?_
 refine bq ((oa,oc)) ?_
 exact aw
end IF
namespace IF
open Go Go.Proofs Go.RowKit HM HF B M
def x_ (b:List UInt8):Nat->List Pz->Prop
 |_,[]=>True
 |j,p::r=>j<b.length/\gP b j p/\x_ b (j+gF p) r
def eM:Nat->List Pz->Nat
 |j,[]=>j
 |j,p::r=>eM (j+gF p) r
theorem kG:∀(l m:List Pz) (j:Nat),eM j (l++m)=eM (eM j l) m
 |[],m,j=>rfl
 |p::l,m,j=>kG l m _
theorem mj {b:List UInt8}:∀ {l m:List Pz} {j:Nat},x_ b j (l++m)↔x_ b j l/\x_ b (eM j l) m
 |[],m,j=>by simp[x_,eM]
 |p::l,m,j=>by
  rw[List.cons_append]
  simp only[x_,eM]
  rw[mj (l:=l)]
  exact⟨fun⟨a,c,d,e⟩=>⟨⟨a,c,d⟩,e⟩,fun⟨⟨a,c,d⟩,e⟩=>⟨a,c,d,e⟩⟩
theorem vd {b:List UInt8}:∀ {l:List Pz} {j:Nat},x_ b j l->j<=b.length->eM j l<=b.length
 |[],j,_,h=>h
 |p::l,j,h,hj=>vd (l:=l) h.2.2 (rr h.2.1 h.1).1
theorem nt:∀(l:List Pz) (j:Nat),j+l.length<=eM j l
 |[],j=>by simp[eM]
 |p::l,j=>by
  have:=nt l (j+gF p)
  have:=ns p
  simp only[eM,List.length_cons];omega
theorem Az {b:List UInt8}{w d:Nat}(hw:w<=32768):∀(f j:Nat),b.length+1<=f+j->j<=b.length->x_ b j (Hf b w d f j)/\eM j (Hf b w d f j)=b.length
 |0,j,h1,h2=>by omega
 |f+1,j,h1,h2=>by
  rw[Hf]
  by_cases c:j<b.length
  ·rw[if_pos c]
   have hg:gP b j (e9 b w d j):=rp hw
   have he:=rr hg c
   have:=ns (e9 b w d j)
   obtain⟨e1,e2⟩:=Az (b:=b) (w:=w) (d:=d) hw f (j+gF (e9 b w d j)) (by omega) he.1
   exact⟨⟨c,hg,e1⟩,e2⟩
  ·rw[if_neg c]
   exact⟨trivial,by simp[eM];omega⟩
def ot (b:List UInt8):List Pz:=b.map fun c=>⟨0,0,c⟩
def iK (b:List UInt8)(level:Int):List Pz:=if 0<level then lj b 32768 (2 * 2^level.toNat)else ot b
theorem wQ {b:List UInt8}:∀(r:List UInt8) (j:Nat),b.drop j=r->x_ b j (ot r)/\eM j (ot r)=j+r.length
 |[],j,h=>⟨trivial,rfl⟩
 |c::r,j,h=>by
  have hj:j<b.length:=by
   rcases Nat.lt_or_ge j b.length with d|d
   ·exact d
   ·rw[List.drop_of_length_le d]at h;cases h
  rw[List.drop_eq_getElem_cons hj]at h
  obtain⟨h1,h2⟩:=List.cons.inj h
  obtain⟨e1,e2⟩:=wQ (b:=b) r (j+1) h2
  refine⟨⟨hj,.inl ⟨rfl,rfl,?_⟩,e1⟩,?_⟩
  ·rw[List.getD_eq_getElem?_getD,List.getElem?_eq_getElem hj];exact h1.symm
  ·show eM (j+1) (ot r)=_
   rw[e2,List.length_cons];omega
theorem rA (b:List UInt8)(level:Int):x_ b 0 (iK b level)/\eM 0 (iK b level)=b.length:=by
 unfold iK
 split
 ·exact Az (Nat.le_refl _) _ _ (by omega) (by omega)
 ·have:=wQ (b:=b) b 0 (by simp)
  rw[Nat.zero_add]at this
  exact this
theorem Eu (b:List UInt8)(level:Int):(iK b level).length<=b.length:=by
 have h:=rA b level
 have:=nt (iK b level) 0
 omega
end IF
namespace HF
open Go Go.Proofs Go.RowKit Sh Sl T HM
section rules
variable {P:Program} {W:World} {L L':List HP} {Kp:PK} {k:Value->WP} {A:HP}
theorem Jg {t e ty:TypeId}{s b:Nat}{a:Option Addr}{n cap:Nat}[ht:SlT P t e s b]:bg P W [] (wb #[t] ty [.slice a n cap]) (.int .i64 (cap:Int)):=fun w _=>by
 simp[wb,Builtin.cap_,run_underlying ht.ut,goInt]
theorem Ho {t:TypeId}{n m g o j:Nat}{cs vs:List Value}[ht:AggT P t n](H:RdB W A (some ⟨g,o,none⟩) m cs)(hn:vs.length=n)(hc:∀i,i<n->cs[j+i]? =vs[i]?):bg P W [A] (aI t (.pointer (some ⟨g,o+j,none⟩))) (.agg vs.toArray):=fun w hw=>by
 have h:(loadCells ⟨g,o+j,none⟩ n).run P w= .ok vs.toArray w:=by
  subst hn
  refine run_loadCells_list (P:=P) w ⟨g,o+j,none⟩ vs (fun i v hv=>?_)
  have hi:i<vs.length:=by
   rcases Nat.lt_or_ge i vs.length with c|c
   ·exact c
   ·rw[List.getElem?_eq_none c]at hv;cases hv
  have hcv:=hc i hi
  rw[hv]at hcv
  have hl:=H.len
  have hlt:j+i<cs.length:=by
   rcases Nat.lt_or_ge (j+i) cs.length with c|c
   ·exact c
   ·rw[List.getElem?_eq_none c]at hcv;cases hcv
  obtain⟨g',o',e,hcell⟩:=H.at_ (by omega)
  injection e with e;injection e with e1 e2;subst e1;subst e2
  rw[cp,Nat.add_assoc]
  exact hcell w [] hw (j+i) v hcv
 simp[aI,Instr.loadAt,Instr.sureAddr,loadVar,ht.agg,ht.size,h]
theorem Hp {cs rest vs:List Value}{o n j:Nat}(hn:vs.length=n)(ho:o+n<=cs.length):(cs.take o++vs++cs.drop (o+n)++rest)[j]? =if o<=j/\j<o+n then vs[j-o]? else(cs++rest)[j]? :=by
 simp only[List.getElem?_append,List.length_append,List.length_take,List.length_drop,hn,Nat.min_eq_left (show o<=cs.length by omega),List.getElem?_take,List.getElem?_drop]
 repeat' split
 all_goals first|rfl|omega|(congr 1;omega)
theorem ve {t e:TypeId} {s n g o cap m:Nat} {cs:List Value} {vs:Array Value} [ht:AggT P t n] (p:Pick L (Sl s e (some ⟨g,0,none⟩) cap m cs) L') (hv:vs.size=n) (ho:o+n<=cs.length) (h1:∀u∈vs.toList,u.oneCell'=true)
  (h:aZ W (Sl s e (some ⟨g,0,none⟩) cap m (cs.take o++vs.toList++cs.drop (o+n))::L') (k undef)):aZ W L (opN P (aJ t (.pointer (some ⟨g,o,none⟩)) (.agg vs)) Kp k):=fun w hw=>by
 obtain⟨rest,r1,r2,r3,r4,hp⟩:=jb (hw.pick p)
 have hst:=run_storeCells_cells (P:=P) g o vs.toList 0 w (fun j hj=>by
  rw[hp.cell,Array.getElem?_eq_getElem (by simp at hj ⊢;omega)];rfl) (fun j _=>hp.free) h1
 obtain⟨cs',c1,c2,c3⟩:=iE g (o+0) vs.toList w _ _ hp
 refine⟨?_⟩
 have hvl:vs.toList.length=n:=by simp[hv]
 have:(aJ t (.pointer (some ⟨g,o,none⟩)) (.agg vs)).run P w= .ok .skip (w.setCells g (o+0) vs.toList):=by
  simp[aJ,Instr.storeAt,Instr.sureAddr,storeVar,ht.size,Value.cells,hv,hst]
 rw[this]
 refine h _ (kY r1 (by simp[hv];omega) r3 r4 ?_)
 have he:cs'=(cs.take o++vs.toList++cs.drop (o+n)++rest).toArray:=by
  apply Array.ext_getElem?
  intro j
  rw[c3]
  simp only[Nat.add_zero,List.size_toArray,List.length_append,List.getElem?_toArray,hvl]
  rw[Hp hvl ho]
  by_cases hj:o<=j/\j<o+n
  ·rw[if_pos hj,if_pos ⟨hj.1,hj.2,by omega⟩]
  ·rw[if_neg hj,if_neg (fun c=>hj ⟨c.1,c.2.1⟩)]
 rwa [he]at c1
theorem K1 {t tn ty e:TypeId} {s b n:Nat} [ht:SlT P t e s b] (htn:P.underlying tn=some (.int .i64)) (h0:0<n) (hs:0<s) (h1:n * b<=140737488355328) (h2:n<=4611686018427387904)
  (h:∀g cap,n<=cap->aZ W (Sl s e (some ⟨g,0,none⟩) cap 0 []::L) (k (.slice (some ⟨g,0,none⟩) n cap))):aZ W L (opN P (iS #[t,tn] ty [.slice none 0 0,.int .i64 (n:Int)]) Kp k):=fun w hw=>by
 obtain⟨i,z,hi,hz,hs',hb,hzs⟩:=ht.info
 subst hs';subst hb
 refine⟨?_⟩
 have hr:=Lib.run_append_nil_zeros (P:=P) w t tn ty e i z .i64 .i64 ht.ut htn hi hz n h0 hs (by omega) (by omega)
 have:(iS #[t,tn] ty [.slice none 0 0,.int .i64 (n:Int)]).run P w= .ok (.value (.slice (some ⟨w.heap.size,0,none⟩) n (grownCap w n 0 e))) (w.drew.alloc (.cells (Builtin.zeroCells z.cells n++Builtin.zeroCells z.cells (grownCap w n 0 e-n)) e)):=by simp[iS,hr]
 rw[this]
 have hge:=grownCap_ge w n 0 e
 have hle:=grownCap_le_maxLen w n 0 e (by unfold maxLen;omega)
 refine h _ _ hge _ ?_
 have ha:=(hw.drew).alloc (.cells (Builtin.zeroCells z.cells n++Builtin.zeroCells z.cells (grownCap w n 0 e-n)) e)
 have he:(Builtin.zeroCells z.cells n++Builtin.zeroCells z.cells (grownCap w n 0 e-n))=([]++(Builtin.zeroCells z.cells n++Builtin.zeroCells z.cells (grownCap w n 0 e-n)).toList).toArray:=by simp
 rw[he]at ha ⊢
 refine kY (g:=w.heap.size) ?_ (by simp) (by omega) hle ha
 simp only[Array.toList_append,List.length_append,Array.length_toList,size_zeroCells,hzs,Nat.sub_zero]
 rw[<- Nat.add_mul];congr 1;omega
end rules
structure It where
 n:Int
 g:Nat
 c:Nat
 w:List Int
def ic (x:It):List Value:=[I x.n,.slice (some ⟨x.g,0,none⟩) x.w.length x.c]
theorem ow (x:It):(ic x).length=2:=rfl
def er (x:It):Int × List Int:=(x.n,x.w)
def av (x:It):Value:= .agg #[I x.n,.slice (some ⟨x.g,0,none⟩) x.w.length x.c]
theorem kH (x:It):∀u∈ic x,u.oneCell'=true:=by
 intro u hu;simp[ic]at hu;rcases hu with rfl|rfl <;> rfl
theorem Hq (xs:List It):∀u∈xs.flatMap ic,u.oneCell'=true:=by
 intro u hu
 obtain⟨x,_,hx⟩:=List.mem_flatMap.1 hu
 exact kH x u hx
theorem fG (xs:List It):(xs.flatMap ic).length=xs.length * 2:=dp ow xs
theorem vf (xs:List It)(j:Nat)(y:It)(h:j<xs.length):(xs.flatMap ic).take (j * 2)++ic y++(xs.flatMap ic).drop (j * 2+2)=(xs.set j y).flatMap ic:=by
 induction xs generalizing j with
 |nil=>simp at h
 |cons x xs ih=>
  cases j with
  |zero=>simp[ic]
  |succ j=>
   have:=ih j (by simpa using h)
   rw[List.set_cons_succ,List.flatMap_cons,List.flatMap_cons,<- this,show(j+1) * 2=j * 2+1+1 by omega,show j * 2+1+1+2=(j * 2+2)+1+1 by omega]
   simp[ic]
theorem K2 {W:World}{a b:Int}:Cn p_ 241 [.int .i64 a,.int .i64 b] W [] (fun _:Unit=> .int .i64 (if a<b then-1 else if b<a then 1 else 0)) (fun _=>[]):=by
 have nan:∀x:Int,Cn p_ 252 [.int .i64 x] W [] (fun _:Unit=> .bool false) (fun _=>[]):=fun x=>by
  (refine Shp.cn (Sg.g_ Tryz.call252 Tryz.func252) fun F=>?_;simp only[ca_,na_])
  refine o_ bK ?_
  rw[dF_ (by simp)]
  refine bq () ?_
  exact .refl
 (refine Shp.cn (Sg.g_ Tryz.call241 Tryz.func241) fun F=>?_;simp only[ca_,na_])
 refine c_ (nan a) fun _=>?_
 refine c_ (nan b) fun _=>?_
 refine aa (aa (ay az .nil (fun h=>?_) (fun h=>?_)))
 ·rw[if_pos h]
  refine ab (bq () ?_)
  exact .refl
 rw[if_neg h]
 refine aa (ay aV .nil (fun h=>?_) (fun h=>?_))
 ·rw[if_pos h]
  refine ab (bq () ?_)
  exact .refl
 ·rw[if_neg h]
  refine aa (bq () ?_)
  exact .refl
theorem wR {W:World}{x y:It}:Cn p_ 240 [av x,av y] W [] (fun _:Unit=> .int .i64 (if x.n<y.n then-1 else if y.n<x.n then 1 else 0)) (fun _=>[]):=by
 (refine Shp.cn (Sg.g_ Tryz.call240 Tryz.func240) fun F=>?_;simp only[ca_,na_])
 unfold av I
 refine bV fun g=>?_;refine bV fun g=>?_;refine o_ aj (bJ ?_);refine o_ aj (bJ ?_)
 refine c_ K2 fun _=>?_
 refine bq () ?_
 exact aw
end HF
namespace HF
open Go Go.Proofs Go.RowKit Sh Sl T HM
theorem mm {P:Program}{W:World}{s:Nat}{e:TypeId}{a:Option Addr}{cap n:Nat}{cs:List Value}(hl:cs.length=n * s)(ha:0<n->∃g,a=some ⟨g,0,none⟩):RdB W (Sl s e a cap n cs) a (n * s) cs:=⟨hl,fun hn=>by
 have hn0:0<n:=Nat.pos_of_mul_pos_right hn
 obtain⟨g,rfl⟩:=ha hn0
 refine⟨g,0,rfl,fun w L hw j v hv=>?_⟩
 obtain⟨rest,r1,r2,r3,r4,hp⟩:=jb hw
 rw[Nat.zero_add,hp.cell]
 have hj:j<cs.length:=by
  rcases Nat.lt_or_ge j cs.length with c|c
  ·exact c
  ·rw[List.getElem?_eq_none c]at hv;cases hv
 simpa [List.getElem?_append_left hj]using hv⟩
theorem vg {W:World}{A:HP}{g o j:Nat}{ys:List It}(H:RdB W A (some ⟨g,o,none⟩) (ys.length * 2) (ys.flatMap ic))(hj:j<ys.length):bg p_ W [A] (aI 319 (.pointer (some ⟨g,o+j * 2,none⟩))) (av ys[j]):=
 Ho (vs:=ic ys[j]) H (by rfl) fun i hi=>et ow ys j i hj hi
section spec
variable {α:Type} (key:α->Int)
def d8 (acc:List α)(x:α):Nat->List α
 |0=>x::acc
 |j+1=>match acc[j]? with
  |some y=>if key x<key y then d8 acc x j else acc.take (j+1)++x::acc.drop (j+1)
  |none=>acc++[x]
def j_ (acc:List α)(x:α):List α:=d8 key acc x acc.length
def bH (xs:List α):List α:=xs.foldl (j_ key) []
theorem nu (acc:List α)(x:α):∀j,(d8 key acc x j).length=acc.length+1
 |0=>by simp[d8]
 |j+1=>by
  unfold d8
  split
  ·split
   ·exact nu acc x j
   ·simp;omega
  ·simp
theorem gA (xs:List α)(x:α):bH key (xs++[x])=j_ key (bH key xs) x:=by simp[bH]
theorem cJ (xs:List α):(bH key xs).length=xs.length:=by
 have:∀n,∀xs:List α,xs.length=n->(bH key xs).length=n:=by
  intro n
  induction n with
  |zero=>intro xs h;rw[List.eq_nil_of_length_eq_zero h];rfl
  |succ n ih=>
   intro xs h
   have e:=List.take_append_drop n xs
   obtain⟨x,hx⟩:∃x,xs.drop n=[x]:=List.length_eq_one_iff.1 (by simp;omega)
   rw[hx]at e
   rw[<- e,gA,j_,nu,ih _ (by simp;omega)]
 exact this _ xs rfl
theorem tO {β:Type}(k2:β->Int)(f:α->β)(hk:∀x,k2 (f x)=key x)(acc:List α)(x:α):∀j,(d8 key acc x j).map f=d8 k2 (acc.map f) (f x) j
 |0=>by simp[d8]
 |j+1=>by
  unfold d8
  rw[List.getElem?_map]
  cases h:acc[j]? with
  |none=>simp
  |some y=>
   simp only[Option.map_some,hk]
   split
   ·exact tO k2 f hk acc x j
   ·simp[List.map_take,List.map_drop]
theorem B_ {β:Type}(k2:β->Int)(f:α->β)(hk:∀x,k2 (f x)=key x)(xs:List α):(bH key xs).map f=bH k2 (xs.map f):=by
 have:∀(xs acc:List α),(xs.foldl (j_ key) acc).map f=(xs.map f).foldl (j_ k2) (acc.map f):=by
  intro xs
  induction xs with
  |nil=>intro acc;rfl
  |cons x xs ih=>
   intro acc
   rw[List.foldl_cons,ih,List.map_cons,List.foldl_cons]
   congr 1
   unfold j_
   rw[tO key k2 f hk,List.length_map]
 exact this xs []
theorem tP (acc:List α)(x y:α):∀j,y∈d8 key acc x j->y=x\/y∈acc
 |0,h=>by simpa [d8]using h
 |j+1,h=>by
  unfold d8 at h
  split at h
  ·split at h
   ·exact tP acc x y j h
   ·rcases List.mem_append.1 h with c|c
    ·exact .inr (List.mem_of_mem_take c)
    ·rcases List.mem_cons.1 c with c|c
     ·exact .inl c
     ·exact .inr (List.mem_of_mem_drop c)
  ·rcases List.mem_append.1 h with c|c
   ·exact .inr c
   ·exact .inl (by simpa using c)
theorem oz (xs:List α)(y:α)(h:y∈bH key xs):y∈xs:=by
 have:∀(xs acc:List α),y∈xs.foldl (j_ key) acc->y∈xs\/y∈acc:=by
  intro xs
  induction xs with
  |nil=>intro acc h;exact .inr h
  |cons x xs ih=>
   intro acc h
   rw[List.foldl_cons]at h
   rcases ih _ h with c|c
   ·exact .inl (List.mem_cons_of_mem _ c)
   ·rcases tP key acc x y _ c with d|d
    ·exact .inl (by rw[d];exact List.mem_cons_self)
    ·exact .inr d
 rcases this xs [] h with c|c
 ·exact c
 ·cases c
end spec
theorem Ev {α:Type}(p q:List α)(y x:α):((p++y::x::q).set (p.length+1) y).set p.length x=p++x::y::q:=by
 rw[List.set_append_right _ _ (by omega),List.set_append_right _ _ (by omega),show p.length+1-p.length=1 by omega,Nat.sub_self];rfl
theorem Ca {W:World}{a:Option Addr}{cap c:Nat}{xs:List It}(hx:xs.length<=1099511627776):
  Cn p_ 256 [.slice a xs.length c,.int .i64 0,.int .i64 (xs.length:Int),fn 240] W [Sl 2 319 a cap xs.length (xs.flatMap ic)] (fun _:Unit=> .tuple #[]) (fun _=>[Sl 2 319 a cap xs.length ((bH It.n xs).flatMap ic)]):=by
 (refine Shp.cn (Sg.g_ Tryz.call256 Tryz.func256 (an:={loops:=[(1,[8]),(4,[9])],drs:=[(4,.ofL [(0,1),(1,1),(2,1),(3,1),(4,1),(5,1),(6,1),(7,1),(8,1),(9,1),(10,1),(11,1),(12,1),(13,1),(14,0),(15,1),(16,1)]),(6,.ofL [(0,1),(1,1),(2,2),(3,2),(4,3),(5,1),(6,1),(7,1),(8,1),(9,1),(10,1),(11,1),(12,1),(13,1),(14,1),(15,0),(16,1),(17,0)])]}) (os:=[(6,[(15,[4])])])) fun F=>?_;simp only[ca_,na_])
 refine bG ?_
 refine aF .here fun f1 f2 f3 f4=>?_
 refine a_ (fun m y=>[ex fun i:Nat=>all [pu (m+i=xs.length+1/\1<=i/\y= .int .i64 (i:Int)),Sl 2 319 a cap xs.length ((bH It.n (xs.take i)++xs.drop i).flatMap ic)]]++F) xs.length ?_ ?_
 ·refine Imp.ex 1 (.all ?_)
  refine aq ?_
  refine .pu ⟨by omega,by omega,by rfl⟩ ?_
  have e:bH It.n (xs.take 1)++xs.drop 1=xs:=by
   cases xs with
   |nil=>rfl
   |cons x xs=>rfl
  rw[e]
  exact aw
 intro m ds y
 refine aq ?_
 refine aH Pick.here fun i=>ap Pick.here ?_
 refine aq ?_
 refine aG Pick.here fun hi=>?_
 obtain⟨hmi,hi1,rfl⟩:=hi
 refine ay az .nil (fun h=>?_) (fun h=>?_)
 ·have hil:i<xs.length:=by omega
  obtain⟨g,rfl⟩:=f4 (by omega)
  obtain⟨acc,hacc⟩:∃acc,acc=bH It.n (xs.take i):=⟨_,rfl⟩
  have hal:acc.length=i:=by rw[hacc,cJ,List.length_take];omega
  have hdrop:xs.drop i=xs[i]::xs.drop (i+1):=List.drop_eq_getElem_cons hil
  have hnext:bH It.n (xs.take (i+1))=j_ It.n acc xs[i]:=by rw[List.take_succ_eq_append_getElem hil,gA,hacc]
  rw[<- hacc,hdrop]
  refine ab (a_ (fun m y=>[ex fun j:Nat=>all [pu (m=j/\j<=i/\y= .int .i64 (j:Int)/\j_ It.n acc xs[i]=d8 It.n acc xs[i] j),Sl 2 319 (some ⟨g,0,none⟩) cap xs.length ((acc.take j++xs[i]::(acc.drop j++xs.drop (i+1))).flatMap ic)]]++F) i ?_ ?_)
  ·refine Imp.ex i (.all ?_)
   refine aq ?_
   refine .pu ⟨rfl,by omega,rfl,by unfold j_;rw[hal]⟩ ?_
   rw[List.take_of_length_le (by omega),List.drop_eq_nil_of_le (show acc.length<=i by omega),List.nil_append]
   exact aw
  intro m2 ds y
  refine aq ?_
  refine aH Pick.here fun j=>ap Pick.here ?_
  refine aq ?_
  refine aG Pick.here fun hj=>?_
  obtain⟨rfl,hji,rfl,hins⟩:=hj
  have done:j_ It.n acc xs[i]=acc.take m2++xs[i]::acc.drop m2->aZ W (Sl 2 319 (some ⟨g,0,none⟩) cap xs.length ((acc.take m2++xs[i]::(acc.drop m2++xs.drop (i+1))).flatMap ic)::F) (iD (fun m y w=>sat W ([ex fun i:Nat=>all [pu (m+i=xs.length+1/\1<=i/\y= .int .i64 (i:Int)),Sl 2 319 (some ⟨g,0,none⟩) cap xs.length ((bH It.n (xs.take i)++xs.drop i).flatMap ic)]]++F) w) m (.int .i64 ((i:Int)+1))):=by
   intro he
   refine aK (m-1) (by omega) (.ex (i+1) (.all ?_))
   refine aq ?_
   refine .pu ⟨by omega,by omega,by norm_cast⟩ ?_
   rw[hnext,he,List.append_assoc,List.cons_append]
   exact aw
  refine bA (qy aV .nil (fun h=>?_) (fun h=>?_))
  ·obtain⟨j,rfl⟩:∃j,m2=j+1:=⟨m2-1,by omega⟩
   have hja:j<acc.length:=by omega
   obtain⟨p,hp⟩:∃p,p=acc.take j:=⟨_,rfl⟩
   obtain⟨q,hq⟩:∃q,q=acc.drop (j+1)++xs.drop (i+1):=⟨_,rfl⟩
   have hpl:p.length=j:=by rw[hp,List.length_take];omega
   have htk:acc.take (j+1)=p++[acc[j]]:=by rw[hp,List.take_succ_eq_append_getElem hja]
   have hys:acc.take (j+1)++xs[i]::(acc.drop (j+1)++xs.drop (i+1))=p++acc[j]::xs[i]::q:=by rw[htk,hq];simp
   rw[hys]at done
   rw[hys]
   have hyl:(p++acc[j]::xs[i]::q).length=xs.length:=by
    rw[<- hys];simp;omega
   have hrd:RdB W (Sl 2 319 (some ⟨g,0,none⟩) cap xs.length ((p++acc[j]::xs[i]::q).flatMap ic)) (some ⟨g,0,none⟩) ((p++acc[j]::xs[i]::q).length * 2) ((p++acc[j]::xs[i]::q).flatMap ic):=by
    rw[hyl];exact mm (P:=p_) (by rw[fG,hyl]) (fun _=>⟨g,rfl⟩)
   have g1:(p++acc[j]::xs[i]::q)[j+1]'(by omega)=xs[i]:=by
    rw[List.getElem_append_right (by omega)];simp[hpl]
   have g0:(p++acc[j]::xs[i]::q)[j]'(by omega)=acc[j]:=by
    rw[List.getElem_append_right (by omega)];simp[hpl]
   have ld1:=vg hrd (j:=j+1) (by omega)
   have ld0:=vg hrd (j:=j) (by omega)
   rw[g1]at ld1
   rw[g0]at ld0
   refine ae (ae (ae (ae (t_ (cR (j+1) (by rfl) (by omega)) ?_))))
   refine ae (aT ld1 (.pick .here .nil) ?_)
   refine ae (ae (ae ?_));(refine t_ (dv (by omega) (by omega)) ?_);refine ae (t_ (cR j (by omega) (by omega)) ?_)
   refine ae (aT ld0 (.pick .here .nil) ?_)
   refine ae (c_ wR fun _=>?_)
   refine ae (qy az .nil (fun h2=>?_) (fun h2=>?_))
   ·have hlt:xs[i].n<acc[j].n:=by
     by_cases c:xs[i].n<acc[j].n
     ·exact c
     ·rw[if_neg c]at h2;split at h2 <;> omega
    refine t_ ah (ab (bA ?_));(refine bh (dv (by omega) (by omega)) .nil ?_);(refine t_ (dv (by omega) (by omega)) ?_)
    refine t_ (cR j (by omega) (by omega)) ?_
    refine aT ld0 (.pick .here .nil) ?_
    refine t_ (cR (j+1) (by rfl) (by omega)) ?_
    refine aT ld1 (.pick .here .nil) ?_
    refine t_ (cR (j+1) (by rfl) (by omega)) ?_
    rw[Nat.zero_add]
    refine ve .here (by rfl) (by rw[fG];omega) (kH acc[j]) ?_
    rw[show((p++acc[j]::xs[i]::q).flatMap ic).take ((j+1) * 2)++(#[I acc[j].n,Value.slice (some ⟨acc[j].g,0,none⟩) acc[j].w.length acc[j].c]:Array Value).toList++((p++acc[j]::xs[i]::q).flatMap ic).drop ((j+1) * 2+2)=((p++acc[j]::xs[i]::q).set (j+1) acc[j]).flatMap ic from vf _ (j+1) acc[j] (by omega)]
    refine cf ?_
    refine t_ (cR j (by omega) (by omega)) ?_
    rw[Nat.zero_add]
    refine ve .here (by rfl) (by rw[fG,List.length_set];omega) (kH xs[i]) ?_
    rw[show(((p++acc[j]::xs[i]::q).set (j+1) acc[j]).flatMap ic).take (j * 2)++(#[I xs[i].n,Value.slice (some ⟨xs[i].g,0,none⟩) xs[i].w.length xs[i].c]:Array Value).toList++(((p++acc[j]::xs[i]::q).set (j+1) acc[j]).flatMap ic).drop (j * 2+2)=(((p++acc[j]::xs[i]::q).set (j+1) acc[j]).set j xs[i]).flatMap ic from vf _ j xs[i] (by rw[List.length_set];omega)]
    have hsw:=Ev p q acc[j] xs[i]
    rw[hpl]at hsw
    rw[hsw]
    refine dX ?_
    refine aK j (by omega) (.ex j (.all ?_))
    refine aq ?_
    refine .pu ⟨rfl,by omega,by congr 1;omega,?_⟩ ?_
    ·rw[hins]
     conv=>lhs;unfold d8
     rw[List.getElem?_eq_getElem hja]
     simp only
     rw[if_pos hlt]
    ·rw[show acc.take j++xs[i]::(acc.drop j++xs.drop (i+1))=p++xs[i]::acc[j]::q by rw[hp,hq,List.drop_eq_getElem_cons hja];rfl]
     exact aw
   ·have hge:¬xs[i].n<acc[j].n:=fun c=>h2 (by rw[if_pos c];omega)
    refine t_ ah (aa (bG ?_))
    refine done ?_
    rw[hins]
    conv=>lhs;unfold d8
    rw[List.getElem?_eq_getElem hja]
    simp only
    rw[if_neg hge]
  ·have:m2=0:=by omega
   subst this
   refine af (af (af (af (af (af (af (af (af (af (af (af (t_ ag (aa (bG ?_))))))))))))))
   exact done (by rw[hins];rfl)
 ·refine aa ?_
  rw[List.take_of_length_le (by omega),List.drop_eq_nil_of_le (by omega),List.append_nil]
  refine bq () ?_
  exact aw
theorem K4 {W:World}{a:Option Addr}{cap c:Nat}{xs:List It}(hx:xs.length<20):
  Cn p_ 239 [.slice a xs.length c,fn 240] W [Sl 2 319 a cap xs.length (xs.flatMap ic)] (fun _:Unit=> .tuple #[]) (fun _=>[Sl 2 319 a cap xs.length ((bH It.n xs).flatMap ic)]):=by
 have inner:Cn p_ 251 [.slice a xs.length c,.int .i64 (xs.length:Int),fn 240] W [Sl 2 319 a cap xs.length (xs.flatMap ic)] (fun _:Unit=> .tuple #[]) (fun _=>[Sl 2 319 a cap xs.length ((bH It.n xs).flatMap ic)]):=by
  (refine Shp.cn (Sg.g_ Tryz.call251 Tryz.func251 (an:={loops:=[(2,[7,8]),(7,[6]),(9,[7,8])]})) fun F=>?_;simp only[ca_,na_])
  refine bI (fun m x y=>[pu (x= .int .i64 0/\y= .int .i64 20),Sl 2 319 a cap xs.length (xs.flatMap ic)]++F) 1 ?_ ?_
  ·refine aq ?_
   exact .pu ⟨rfl,rfl⟩ .refl
  intro m ds x y
  refine aq ?_
  refine aG Pick.here fun hxy=>?_
  obtain⟨rfl,rfl⟩:=hxy
  refine o_ cZ ?_
  rw[dF_ (by omega)]
  refine aa (c_ (Ca (by omega)) fun _=>?_)
  refine a_ (fun m y=>[pu (y= .int .i64 20),Sl 2 319 a cap xs.length ((bH It.n xs).flatMap ic)]++F) 1 ?_ ?_
  ·refine aq ?_
   exact .pu rfl .refl
  intro m ds y
  refine aq ?_
  refine aG Pick.here fun hy=>?_
  subst hy
  refine o_ az ?_
  rw[dF_ (by omega)]
  refine aa (bq () ?_)
  exact aw
 (refine Shp.cn (Sg.g_ Tryz.call239 Tryz.func239) fun F=>?_;simp only[ca_,na_])
 refine o_ aC (c_ inner fun _=>?_)
 refine bq () ?_
 exact aw
end HF
namespace HF
open Go Go.Proofs Go.RowKit Sh Sl T HM
section rules
variable {P:Program} {W:World} {L L' L'':List HP} {Kp:PK} {k:Value->WP} {A:HP}
theorem Hr {a:Option Addr}{n:Nat}{cs:List Value}(h:RdB W A a n cs)(c:a=none):n=0:=by
 rcases Nat.eq_zero_or_pos n with z|z
 ·exact z
 ·obtain⟨_,_,e,_⟩:=h.at_ z
  rw[c]at e;cases e
theorem Hs {t e:TypeId} {s b:Nat} {q r:IntKind} {c:Int} (m:Nat) [ht:SlT P t e s b] (hcm:c=(m:Int)) (h2:b * m<=281474976710656) (h3:m<=maxLen)
  (h:∀g,aZ W (Sl s e (some ⟨g,0,none⟩) m 0 []::L) (k (.slice (some ⟨g,0,none⟩) 0 m))):aZ W L (opN P (o8 t (.int q 0) (.int r c)) Kp k):=fun w hw=>by
 refine⟨?_⟩
 obtain⟨i,z,hi,hz,hs,hb,hzs⟩:=ht.info
 subst hcm
 have hbm:(i.bytes:Int) * (m:Int)<=281474976710656:=by
  rw[hb]
  obtain⟨X,hX⟩:∃X,X=b * m:=⟨_,rfl⟩
  have h4:(X:Int)<=281474976710656:=by omega
  rw[hX,Int.natCast_mul]at h4
  exact h4
 have hr:=run_make (P:=P) (w:=w) t e i z ht.ut hi hz q r 0 m (by omega) (by omega) hbm (by unfold maxLen at h3;omega)
 simp only[Int.toNat_natCast,hs]at hr
 have:(o8 t (.int q 0) (.int r m)).run P w= .ok (.value (.slice (some ⟨w.heap.size,0,none⟩) 0 m)) (w.alloc (.cells (madeCells z.cells (m * s)) e)):=by
  simp[o8,hr]
 rw[this]
 refine h _ _ ?_
 have ha:=hw.alloc (.cells (madeCells z.cells (m * s)) e)
 have he:madeCells z.cells (m * s)=([]++(madeCells z.cells (m * s)).toList).toArray:=by simp
 rw[he]at ha ⊢
 exact kY (by simp[madeCells]) (by simp) (by omega) h3 ha
end rules
def fH (xs:List It):HP:=fun _ h=>∀x∈xs,∃rest:List Value,h x.g=some (.cells (x.w.map I++rest).toArray 3 (0,0))
theorem AA {W:World}{xs:List It}{x:It}(hx:x∈xs):RdB W (fH xs) (some ⟨x.g,0,none⟩) x.w.length (x.w.map I):=⟨by simp,fun hn=>⟨x.g,0,rfl,fun w L hw j v hv=>by
 obtain⟨f,⟨h1,h2,ha,hl,d,s1,s2⟩,b⟩:=hw.heap
 obtain⟨rest,hr⟩:=ha x hx
 have hg:=(b x.g _ (s1 x.g _ hr)).2
 rw[Nat.zero_add]
 have hj:j<(x.w.map I).length:=by
  rcases Nat.lt_or_ge j (x.w.map I).length with c|c
  ·exact c
  ·rw[List.getElem?_eq_none c]at hv;cases hv
 have hv2:(x.w.map I++rest)[j]? =some v:=by rw[List.getElem?_append_left hj];exact hv
 simp[World.cell?,hg,hv2]⟩⟩
theorem Po {W:World}{L L' L'':List HP}{S:WP}{g cap n:Nat}{xs:List It}{x:It}(hx:x.g=g)(p:Pick L (Sl 1 3 (some ⟨g,0,none⟩) cap n (x.w.map I)) L')(p':Pick L' (fH xs) L'')(h:aZ W (fH (x::xs)::L'') S):aZ W L S:=fun w hw=>by
 have h1:=hw.pick p
 refine h w (sat.map (L:=Sl 1 3 (some ⟨g,0,none⟩) cap n (x.w.map I)::L') (fun f hf=>?_) h1)
 have h2:=pf (eA (fun _=>p'.all) hf)
 obtain⟨f1,f2,⟨u1,u2,ha,hb,hd,t1,t2⟩,r⟩:=h2
 refine⟨f1,f2,fun y hy=>?_,r⟩
 rcases List.mem_cons.1 hy with rfl|hy
 ·obtain⟨q1,q2,q3,q4⟩:=ha
  rcases q4 with ⟨c,_⟩|⟨g',rest,c,e1,e2⟩
  ·cases c
  ·injection c with c;injection c with c;subst c
   exact⟨rest,by rw[hx];exact t1 _ _ e2⟩
 ·obtain⟨rest,hr⟩:=hb y hy
  exact⟨rest,t2 _ _ hr⟩
theorem Ht {W:World}{L M:List HP}(h:Imp W L M):Imp W L (fH []::M):= .conv (B:=pu True) (fun f _ x hx=>by cases hx) (.pu trivial h)
theorem grow {W:World}{n:Nat}(h0:0<n)(hn:n<=1099511627776):
  Cn p_ 253 [.slice none 0 0,.int .i64 (n:Int)] W [] (fun q:Nat × Nat=> .slice (some ⟨q.1,0,none⟩) 0 q.2) (fun q=>[Sl 1 3 (some ⟨q.1,0,none⟩) q.2 0 []]):=by
 (refine Shp.cn (Sg.g_ Tryz.call253 Tryz.func253 (an:={cuts:=[(3,[])]})) fun F=>?_;simp only[ca_,na_])
 refine cP F ?_ ?_
 ·intro ds
  refine o_ Jg ?_
  refine o_ aC (dX ?_);refine dX ?_
  refine o_ aV ?_
  rw[dT_ (by omega)]
  refine ab (o_ Jg ?_)
  refine o_ (qB 0 (by rfl) (by omega)) ?_
  rw[if_pos rfl,show(n:Int)-(((0:Nat):Int)-((0:Nat):Int))=(n:Int) by omega]
  refine K1 (by kernel_rfl) h0 (by omega) (by omega) (by omega) fun g cap hc=>?_
  refine o_ aC (o_ (qB 0 (by rfl) (by omega)) ?_)
  rw[if_neg (by omega),show(Option.map (fun x:Addr=>x.add (0 * 1)) (some ⟨g,0,none⟩))=some ⟨g,0,none⟩ by simp[cp]]
  refine aR (g,cap) rfl ?_
  exact aw
 ·(refine ay az .nil (fun h=>?_) (fun h=>?_))
  ·omega
  refine aa (aD ?_)
  exact aw
def sz (m n:Nat):Nat->Nat
 |0=>0
 |1=>m
 |_=>m+n
def ac (x y:List Int):Nat->List Int
 |0=>[]
 |1=>x
 |_=>x++y
theorem K5 {W:World}{A:HP}{g c1 c2:Nat}{a1 a2:Option Addr}{x y:List Int}{T:TypeId}(h1:RdB W A a1 x.length (x.map I))(h2:RdB W A a2 y.length (y.map I))(hx:0<x.length)(b1:x.length<=1073741824)(b2:y.length<=1073741824):
  Cn p_ 242 [.slice (some ⟨g,0,none⟩) 2 2] W [pt g (.cells #[.slice a1 x.length c1,.slice a2 y.length c2] T (0,0)),A] (fun q:Nat × Nat=> .slice (some ⟨q.1,0,none⟩) (x.length+y.length) q.2) (fun q=>[Sl 1 3 (some ⟨q.1,0,none⟩) q.2 (x.length+y.length) ((x++y).map I),A]):=by
 (refine Shp.cn (Sg.g_ Tryz.call242 Tryz.func242 (an:={loops:=[(3,[3,11]),(11,[6,27])]})) fun F=>?_;simp only[ca_,na_])
 refine o_ aC (bI (fun m u v=>[pu (∃i:Nat,m+i=2/\v= .int .i64 (i:Int)/\u= .int .i64 (sz x.length y.length i:Int)),pt g (.cells #[.slice a1 x.length c1,.slice a2 y.length c2] T (0,0)),A]++F) 2 ?_ ?_)
 ·refine aq ?_
  exact .pu ⟨0,by omega,rfl,rfl⟩ .refl
 intro m ds u v
 refine aq ?_
 refine aG Pick.here fun hi=>?_
 obtain⟨i,hmi,rfl,rfl⟩:=hi
 have hszi:sz x.length y.length i<=2147483648:=by unfold sz;split <;> omega
 refine ay az .nil (fun h=>?_) (fun h=>?_)
 ·have hi2:i=0\/i=1:=by omega
  obtain⟨ai,ni,ci,hcell,hni,hsz⟩:∃(ai:Option Addr) (ni ci:Nat),(#[.slice a1 x.length c1,.slice a2 y.length c2]:Array Value)[0+i]? =some (.slice ai ni ci)/\ni<=1073741824/\sz x.length y.length i+ni=sz x.length y.length (i+1):=by
   rcases hi2 with rfl|rfl
   ·exact⟨a1,x.length,c1,rfl,b1,by simp[sz]⟩
   ·exact⟨a2,y.length,c2,rfl,b2,by simp[sz]⟩
  refine ab (o_ (bj i (by rfl) (by omega)) ?_)
  refine am (e_ hcell) (.pick .here .nil) ?_
  refine o_ aC (bG ?_)
  refine ay az .nil (fun h=>?_) (fun h=>?_)
  ·omega
  refine aa (bG ?_)
  refine bo (m-1) (by omega) ?_
  refine aq ?_
  exact .pu ⟨i+1,by omega,by norm_cast,by rw[<- hsz];norm_cast⟩ .refl
 ·have hi2:i=2:=by omega
  subst hi2
  refine aa (c_ (grow (n:=x.length+y.length) (by omega) (by omega)) fun _=>?_)
  rename_i q
  obtain⟨qg,qc⟩:=q
  refine o_ aC (bI (fun m u v=>[ex fun q:Option Addr × Nat=>all [pu (∃i:Nat,m+i=2/\v= .int .i64 (i:Int)/\u= .slice q.1 (sz x.length y.length i) q.2),ex fun i:Nat=>all [pu (m+i=2),Sl 1 3 q.1 q.2 (sz x.length y.length i) ((ac x y i).map I)]],pt g (.cells #[.slice a1 x.length c1,.slice a2 y.length c2] T (0,0)),A]++F) 2 ?_ ?_)
  ·refine .ex (some ⟨qg,0,none⟩,qc) (.all ?_)
   refine aq ?_
   refine .pu ⟨0,by omega,rfl,rfl⟩ (.ex 0 (.all ?_))
   refine aq ?_
   exact .pu (by omega) (.pick .here .refl)
  intro m ds u v
  refine aq ?_
  refine aH Pick.here fun q=>ap Pick.here ?_
  obtain⟨ua,uc⟩:=q
  refine aq ?_
  refine aG Pick.here fun hi=>?_
  obtain⟨i,hmi,rfl,rfl⟩:=hi
  refine aH Pick.here fun i'=>ap Pick.here ?_
  refine aq ?_
  refine aG Pick.here fun hi'=>?_
  obtain rfl:i'=i:=by omega
  have hszi:sz x.length y.length i'<=2147483648:=by unfold sz;split <;> omega
  (try dsimp only)
  refine ay az .nil (fun h=>?_) (fun h=>?_)
  ·have hi2:i'=0\/i'=1:=by omega
   obtain⟨ai,ni,ci,z,hcell,hni,hsz,hrd,hac⟩:∃(ai:Option Addr) (ni ci:Nat) (z:List Int),(#[.slice a1 x.length c1,.slice a2 y.length c2]:Array Value)[0+i']? =some (.slice ai ni ci)/\ni<=1073741824/\sz x.length y.length i'+ni=sz x.length y.length (i'+1)/\RdB W A ai ni (z.map I)/\ac x y i'++z=ac x y (i'+1):=by
    rcases hi2 with rfl|rfl
    ·exact⟨a1,x.length,c1,x,rfl,b1,by simp[sz],h1,rfl⟩
    ·exact⟨a2,y.length,c2,y,rfl,b2,by simp[sz],h2,rfl⟩
   refine ab (o_ (bj i' (by rfl) (by omega)) ?_)
   refine am (e_ hcell) (.pick (.there .here) .nil) ?_
   refine bO (m:=ni) .here (dF (e':=3) (by kernel_rfl) (.there (.there .here)) hrd (Hr hrd) mO) (by omega) (by omega) fun a' c'=>?_
   rw[hsz,<- List.map_append,hac]
   refine bG ?_
   refine bo (m-1) (by omega) (.ex (a',c') (.all ?_))
   refine aq ?_
   refine .pu ⟨i'+1,by omega,by norm_cast,rfl⟩ (.ex (i'+1) (.all ?_))
   refine aq ?_
   exact .pu (by omega) (.pick .here .refl)
  ·have hi2:i'=2:=by omega
   subst hi2
   refine aa (dA .here (by show 0<x.length+y.length;omega) fun gg hgg=>?_)
   subst hgg
   refine aR (gg,uc) rfl ?_
   exact .pick .here (.drop .refl)
section spec
variable {α:Type} (key:α->Int)
def dt:List α->List α->List α
 |[],bs=>bs
 |a::us,bs=>bs.takeWhile (fun b=>decide (key b<key a))++a::dt us (bs.dropWhile fun b=>decide (key b<key a))
theorem dB (us:List α):dt key us []=us:=by
 induction us with
 |nil=>rfl
 |cons a us ih=>simp[dt,ih]
theorem dM {a b:α}{us bs:List α}(h:key b<key a):dt key (a::us) (b::bs)=b::dt key (a::us) bs:=by simp[dt,h]
theorem ef {a b:α}{us bs:List α}(h:¬key b<key a):dt key (a::us) (b::bs)=a::dt key us (b::bs):=by simp[dt,h]
theorem Pp {a:α}{us:List α}:dt key (a::us) []=a::dt key us []:=by simp[dt]
theorem AC {β:Type}(k2:β->Int)(f:α->β)(hk:∀x,k2 (f x)=key x):∀us bs:List α,(dt key us bs).map f=dt k2 (us.map f) (bs.map f)
 |[],bs=>rfl
 |a::us,bs=>by
  have h1:(bs.takeWhile fun b=>decide (key b<key a)).map f=(bs.map f).takeWhile fun b=>decide (k2 b<k2 (f a)):=by
   rw[List.takeWhile_map];congr 2;funext b;simp[hk]
  have h2:(bs.dropWhile fun b=>decide (key b<key a)).map f=(bs.map f).dropWhile fun b=>decide (k2 b<k2 (f a)):=by
   rw[List.dropWhile_map];congr 2;funext b;simp[hk]
  simp only[dt,List.map_append,List.map_cons,h1,AC k2 f hk us,h2]
theorem vh {y:α}:∀us bs:List α,y∈dt key us bs->y∈us\/y∈bs
 |[],bs,h=> .inr h
 |a::us,bs,h=>by
  simp only[dt,List.mem_append,List.mem_cons]at h
  rcases h with c|c|c
  ·exact .inr ((List.takeWhile_sublist _).mem c)
  ·exact .inl (by rw[c];exact List.mem_cons_self)
  ·rcases vh us _ c with d|d
   ·exact .inl (List.mem_cons_of_mem _ d)
   ·exact .inr ((List.dropWhile_sublist _).mem d)
end spec
def sP (W:World)(A:HP)(a:Option Addr)(xs:List It):Prop:=RdB W A a (xs.length * 2) (xs.flatMap ic)
theorem sP.tail {W:World}{A:HP}{a:Option Addr}{x:It}{xs:List It}{c:Nat}(h:sP W A a (x::xs))(hc:xs.length+1<=c):sP W A (if c=1 then a else a.map (·.add (1 * 2))) xs:=by
 refine⟨fG xs,fun hn=>?_⟩
 obtain⟨g,o,rfl,hcell⟩:=h.at_ (by rw[List.length_cons];omega)
 rw[if_neg (by omega)]
 refine⟨g,o+2,by simp[cp],fun w L hw j v hv=>?_⟩
 rw[Nat.add_assoc]
 refine hcell w L hw (2+j) v ?_
 rw[List.flatMap_cons,List.getElem?_append_right (by rw[ow];omega),ow,show 2+j-2=j by omega];exact hv
theorem Hu {P:Program}{W:World}{L L':List HP}{A:HP}{s:Nat}{tx e':TypeId}{a:Option Addr}{n cap:Nat}{cs:List Value}(hk:P.underlying tx=some (.slice e'))(hs:0<s)(p:Pick L A L')(H:RdB W A a (n * s) cs)(h1:∀u∈cs,u.oneCell'=true):
  ∀w,sat W L w->Src P s tx (.slice a n cap) n cs w:=fun w hw=>by
 have hl:=H.len
 rcases Nat.eq_zero_or_pos n with h0|hn
 ·subst h0
  have hcs:cs=[]:=List.eq_nil_of_length_eq_zero (by simpa using hl)
  subst hcs
  cases a with
  |none=>exact Src.ofNil w hk cap
  |some ad=>exact Src.ofSlice w hk ad 0 cap [] (by simp) (fun j u hu=>by simp at hu) (by simp)
 ·obtain⟨g,o,rfl,hc⟩:=H.at_ (Nat.mul_pos hn hs)
  exact Src.ofSlice w hk _ _ _ _ (by omega) (fun j u hu=>by rw[cp];exact hc w L' (hw.pick p) j u hu) h1
theorem AE {W:World}{A:HP}{g o:Nat}{y:It}{ys:List It}(H:sP W A (some ⟨g,o,none⟩) (y::ys)):bg p_ W [A] (aI 319 (.pointer (some ⟨g,o+0 * 2,none⟩))) (av y):=vg H (j:=0) (by simp)
theorem Ew {W:World}{A:HP}{g o:Nat}{y:It}{ys:List It}(H:sP W A (some ⟨g,o,none⟩) (y::ys)):bg p_ W [A] (aI 3 (.pointer (some ⟨g,o+0 * 2+0,none⟩))) (.int .i64 y.n):=by
 have:=bP (P:=p_) (t:=3) (j:=0) H (v:=I y.n) rfl
 exact this
theorem K6 {W:World}{A B:HP}{xs ys:List It}{va vb:Option Addr}{ca cb:Nat}(ha:sP W A va xs)(hb:sP W B vb ys)(hca:xs.length<=ca)(hcb:ys.length<=cb)(n1:xs.length<=1073741824)(n2:ys.length<=1073741824):
    Cn p_ 243 [.slice va xs.length ca,.slice vb ys.length cb] W [A,B] (fun q:Option Addr × Nat=> .slice q.1 (xs.length+ys.length) q.2) (fun q=>[Sl 2 319 q.1 q.2 (xs.length+ys.length) ((dt It.n xs ys).flatMap ic),A,B]):=by
  (refine Shp.cn (Sg.g_ Tryz.call243 Tryz.func243 (an:={loops:=[(3,[0,1,5])],drs:=[(2,.ofL [(0,2),(1,1),(2,1),(3,1),(6,2),(7,3),(4,0),(5,0),(8,1),(9,1)]),(5,.ofL [(0,1),(1,1),(2,1),(3,1),(4,1),(5,1),(6,1),(7,1),(8,1),(9,1),(10,1),(11,1),(12,1),(13,1),(14,1)]),(6,.ofL [(0,2),(1,1),(2,1),(3,1),(6,2),(7,3),(4,0),(5,0),(8,1),(9,1)])]}) (os:=[(2,[(4,[7]),(5,[7])]),(6,[(4,[7]),(5,[7])])])) fun F=>?_;simp only[ca_,na_])
  refine o_ aC (o_ aC (bG ?_))
  refine Hs (xs.length+ys.length) (by norm_cast) (by omega) (by unfold maxLen;omega) fun g0=>?_
  refine gD (fun m x y z=>[ex fun q:Option Addr × Nat=>ex fun out:List It=>all [pu (∃(us vs:List It) (a1 a2:Option Addr) (c1 c2:Nat),m=us.length+vs.length/\x= .slice a1 us.length c1/\y= .slice a2 vs.length c2/\z= .slice q.1 out.length q.2/\sP W A a1 us/\sP W B a2 vs/\us.length<=c1/\vs.length<=c2/\out++dt It.n us vs=dt It.n xs ys/\out.length+us.length+vs.length=xs.length+ys.length),Sl 2 319 q.1 q.2 out.length (out.flatMap ic)],A,B]++F) (xs.length+ys.length) ?_ ?_
  · refine .ex (some ⟨g0,0,none⟩,xs.length+ys.length) (.ex [] (.all ?_))
    refine aq ?_
    exact .pu ⟨xs,ys,va,vb,ca,cb,rfl,rfl,rfl,rfl,ha,hb,hca,hcb,rfl,by simp⟩ (.pick .here .refl)
  intro m ds x y z
  refine aq ?_
  refine aH Pick.here fun q=>aH Pick.here fun out=>ap Pick.here ?_
  obtain⟨qa,qc⟩:=q
  refine aq ?_
  refine aG Pick.here fun hi=>?_
  obtain⟨us,vs,a1,a2,c1,c2,rfl,rfl,rfl,rfl,hu,hv,hc1,hc2,hout,cL⟩:=hi
  (try dsimp only)
  cases us with
  |nil=>
    refine o_ aC (o_ aP ?_)
    rw[dT_ (by rfl)]
    refine ab (bO (m:=vs.length) .here (Hu (e':=319) (by kernel_rfl) (by omega) (.there (.there .here)) hv (Hq vs)) (by omega) (by omega) fun a' c'=>?_)
    rw[<- List.flatMap_append,show out++vs=dt It.n xs ys from hout]
    simp only[List.length_nil,Nat.add_zero]at cL
    rw[cL]
    refine aR (a',c') rfl ?_
    exact aw
  |cons u us=>
    rw[List.length_cons]at cL hc1
    refine o_ aC (o_ aP ?_)
    rw[dF_ (by rw[List.length_cons];omega)]
    refine aa (bA (t_ aC ?_))
    obtain⟨gu,ou,rfl,_⟩:=hu.at_ (by rw[List.length_cons];omega)
    have ldu:=AE hu
    have ldn:=Ew hu
    have tu:=hu.tail hc1
    have goA:(∀v vs',vs=v::vs'->¬v.n<u.n)->aZ W (Sl 2 319 qa qc out.length (out.flatMap ic)::A::B::F) (stS p_ (iR 317 (.slice (some ⟨gu,ou,none⟩) (u::us).length c1) (.int .i64 0)) fun x14=>
       stS p_ (aI 319 x14) fun x15=>
       stD p_ (ly 317 (.slice (some ⟨gu,ou,none⟩) (u::us).length c1) (some (.int .i64 1)) none none) fun D7 x19=>
       opN p_ (cm 317 1 [(0,x15)]) gH fun x16=>
       (fun w=>D7 w/\(opN p_ (iS #[317,317] 317 [.slice qa out.length qc,x16]) gH fun x17=>
         (fun w=>D7 w/\(zJ (fun m x y z w=>sat W ([ex fun q:Option Addr × Nat=>ex fun out:List It=>all [pu (∃(us vs:List It) (a1 a2:Option Addr) (c1 c2:Nat),m=us.length+vs.length/\x= .slice a1 us.length c1/\y= .slice a2 vs.length c2/\z= .slice q.1 out.length q.2/\sP W A a1 us/\sP W B a2 vs/\us.length<=c1/\vs.length<=c2/\out++dt It.n us vs=dt It.n xs ys/\out.length+us.length+vs.length=xs.length+ys.length),Sl 2 319 q.1 q.2 out.length (out.flatMap ic)],A,B]++F) w) ((u::us).length+vs.length) x19 (.slice a2 vs.length c2) x17) w)) w)):=by
      intro hge
      refine t_ (cR 0 (by rfl) (by rw[List.length_cons];omega)) ?_
      refine aT ldu (.pick (.there .here) .nil) ?_
      refine bh (ph 1 (by rfl) (by rw[List.length_cons];omega)) .nil ?_
      refine eL (s:=2) (vs:=[av u]) rfl (by omega) rfl (by intro v hv;simp at hv;subst hv;rfl) (by omega) fun g=>?_
      refine cf ?_
      refine bO (m:=1) (news:=ic u) (.there .here) (cA (s:=2) (e':=319) (by kernel_rfl) .here (by rfl) (kH u)) (by omega) (by omega) fun a' c'=>?_
      refine cf ?_
      refine cr (us.length+vs.length) (by rw[List.length_cons];omega) (.ex (a',c') (.ex (out++[u]) (.all ?_)))
      refine aq ?_
      refine .pu ⟨us,vs,_,a2,_,c2,rfl,by rw[List.length_cons,Nat.add_sub_cancel],rfl,by rw[List.length_append];rfl,tu,hv,by omega,hc2,?_,by simp;omega⟩ ?_
      · rw[<- hout,List.append_assoc]
        congr 1
        cases vs with
        |nil=>rw[Pp];rfl
        |cons v vs'=>rw[ef It.n (hge v vs' rfl)];rfl
      · rw[List.flatMap_append,List.length_append,List.length_singleton,List.flatMap_singleton]
        exact aw
    refine t_ aV ?_
    cases vs with
    |nil=>
      rw[dF_ (by simp)]
      exact af (af (af (af (af (af (af (af (af (t_ ag (aa (bA (goA (fun v vs' c=>by cases c)))))))))))))
    |cons v vs=>
      rw[List.length_cons]at cL hc2
      obtain⟨gv,ov,rfl,_⟩:=hv.at_ (by rw[List.length_cons];omega)
      have ldv:=AE hv
      have ldvn:=Ew hv
      have tv:=hv.tail hc2
      rw[dT_ (by rw[List.length_cons];omega)]
      refine ae (ae (t_ (cR 0 (by rfl) (by rw[List.length_cons];omega)) ?_))
      refine ae (t_ cT (ae (aT ldvn (.pick (.there (.there .here)) .nil) ?_)))
      refine ae (ae (t_ (cR 0 (by rfl) (by rw[List.length_cons];omega)) ?_))
      refine ae (t_ cT (ae (aT ldn (.pick (.there .here) .nil) ?_)))
      refine ae (qy az .nil (fun h=>?_) (fun h=>?_))
      · (refine t_ ah ?_);refine ab ?_;refine bA ?_
        refine t_ (cR 0 (by rfl) (by rw[List.length_cons];omega)) ?_
        refine aT ldv (.pick (.there (.there .here)) .nil) ?_
        refine bh (ph 1 (by rfl) (by rw[List.length_cons];omega)) .nil ?_
        refine eL (s:=2) (vs:=[av v]) rfl (by omega) rfl (by intro v hv;simp at hv;subst hv;rfl) (by omega) fun g=>?_
        refine cf ?_
        refine bO (m:=1) (news:=ic v) (.there .here) (cA (s:=2) (e':=319) (by kernel_rfl) .here (by rfl) (kH v)) (by omega) (by omega) fun a' c'=>?_
        refine cf ?_
        refine cr ((u::us).length+vs.length) (by rw[List.length_cons];simp) (.ex (a',c') (.ex (out++[v]) (.all ?_)))
        refine aq ?_
        refine .pu ⟨u::us,vs,_,_,c1,_,rfl,rfl,by rw[List.length_cons,Nat.add_sub_cancel],by rw[List.length_append];rfl,hu,tv,by rw[List.length_cons];omega,by omega,?_,by simp;omega⟩ ?_
        · rw[<- hout,List.append_assoc,dM It.n h];rfl
        · rw[List.flatMap_append,List.length_append,List.length_singleton,List.flatMap_singleton]
          exact aw
      · (refine t_ ah ?_);refine aa ?_;refine bA ?_
        exact goA (fun v' vs' c=>by injection c with c1 c2;subst c1;exact h)
end HF
namespace HF
open Go Go.Proofs Go.RowKit Sh Sl T HM
abbrev E:=Int × List Int
def cK:List E->List E
 |a::b::r=>(a.1+b.1,a.2++b.2)::cK r
 |_=>[]
def dz (cs:List E):Nat->List E
 |0=>cs
 |k+1=>dt Prod.fst cs (cK (dz cs k))
theorem Jh {W:World}{A:HP}{g o j:Nat}{ys:List It}(H:sP W A (some ⟨g,o,none⟩) ys)(hj:j<ys.length):bg p_ W [A] (aI 3 (.pointer (some ⟨g,o+j * 2+0,none⟩))) (.int .i64 ys[j].n):=by
 rw[Nat.add_assoc]
 exact bP (P:=p_) (t:=3) (j:=j * 2+0) H (v:=I ys[j].n) (by rw[et ow ys j 0 hj (by omega)];rfl)
theorem AF {W:World}{A:HP}{g o j:Nat}{ys:List It}(H:sP W A (some ⟨g,o,none⟩) ys)(hj:j<ys.length):bg p_ W [A] (aI 197 (.pointer (some ⟨g,o+j * 2+1,none⟩))) (.slice (some ⟨ys[j].g,0,none⟩) ys[j].w.length ys[j].c):=by
 rw[Nat.add_assoc]
 exact bP (P:=p_) (t:=197) (j:=j * 2+1) H (v:= .slice (some ⟨ys[j].g,0,none⟩) ys[j].w.length ys[j].c) (by rw[et ow ys j 1 hj (by omega)];rfl)
theorem yY {pW:List E}{i:Nat}(h:i+1<pW.length):cK (pW.drop i)=(pW[i].1+pW[i+1].1,pW[i].2++pW[i+1].2)::cK (pW.drop (i+2)):=by
 rw[List.drop_eq_getElem_cons (show i<pW.length by omega),List.drop_eq_getElem_cons h,cK]
theorem Cb {pW:List E}{i:Nat}(h:¬i+1<pW.length):cK (pW.drop i)=[]:=by
 have hl:(pW.drop i).length<=1:=by rw[List.length_drop];omega
 match hd:pW.drop i with
 |[]=>rfl
 |[x]=>rfl
 |x::y::r=>rw[hd]at hl;simp at hl
theorem tQ {W : World} {A : HP} {F : List HP} {ra : Option Addr} {rc : Nat} {rs ar : List It} {K : Value → WP} (hA : sP W A ra rs) (hm : ∀ y ∈ rs, y ∈ ar) (hl : rs.length ≤ 1073741824)
    (hb : ∀ y ∈ rs, 0 ≤ y.n ∧ y.n ≤ 1152921504606846976 ∧ 0 < y.w.length ∧ y.w.length ≤ 1073741824)
    (hK : ∀ (q : Option Addr × Nat) (ps ar' : List It), ps.map er = cK (rs.map er) → (∀ y ∈ ps, y ∈ ar') → (∀ y ∈ ar, y ∈ ar') → aZ W (Sl 2 319 q.1 q.2 ps.length (ps.flatMap ic) :: fH ar' :: A :: F) (K (.slice q.1 ps.length q.2))) :
    aZ W (A :: fH ar :: F) (th (fun I3 m3 _ y12 y13 =>
          opN p_ (aY .add 3 y13 (.int .i64 1)) gH fun x80 =>
          opN p_ (ii #[317] 3 [.slice ra rs.length rc]) gH fun x82 =>
          opN p_ (aY .lss 3 x80 x82) gH fun x83 =>
          condS x83
          (oW (stD p_ (iR 317 (.slice ra rs.length rc) y13) fun D3 x89 =>
            stD p_ (jf 319 x89 0) fun D4 x90 =>
            stD p_ (aI 3 x90) fun D5 x91 =>
            stD p_ (aY .add 3 y13 (.int .i64 1)) fun D8 x94 =>
            stD p_ (iR 317 (.slice ra rs.length rc) x94) fun D9 x95 =>
            stD p_ (jf 319 x95 0) fun D10 x96 =>
            stD p_ (aI 3 x96) fun D11 x97 =>
            stD p_ (aY .add 3 x91 x97) fun D12 x98 =>
            stS p_ (iR 317 (.slice ra rs.length rc) y13) fun x101 =>
            stS p_ (jf 319 x101 1) fun x102 =>
            stS p_ (aI 197 x102) fun x103 =>
            stS p_ (aY .add 3 y13 (.int .i64 1)) fun x106 =>
            stS p_ (iR 317 (.slice ra rs.length rc) x106) fun x107 =>
            stS p_ (jf 319 x107 1) fun x108 =>
            stS p_ (aI 197 x108) fun x109 =>
            opN p_ (cm 331 2 [(0, x103), (1, x109)]) gH fun x110 =>
            (fun w => D12 w ∧ (fun w => D11 w ∧ (fun w => D10 w ∧ (fun w => D9 w ∧ (fun w => D8 w ∧ (fun w => D5 w ∧ (fun w => D4 w ∧ (fun w => D3 w ∧ (opN p_ (bN (fn 242) [x110]) gH fun x111 =>
                     (fun w => D12 w ∧ (fun w => D11 w ∧ (fun w => D10 w ∧ (fun w => D9 w ∧ (fun w => D8 w ∧ (fun w => D5 w ∧ (fun w => D4 w ∧ (fun w => D3 w ∧ (stS p_ (aM 319 [(0, x98), (1, x111)]) fun x112 =>
                      opN p_ (cm 317 1 [(0, x112)]) gH fun x113 =>
                      opN p_ (iS #[317, 317] 317 [y12, x113]) gH fun x114 =>
                      opN p_ (aY .add 3 y13 (.int .i64 2)) gH fun x85 =>
                      qw I3 m3 x114 x85) w) w) w) w) w) w) w) w)) w) w) w) w) w) w) w) w)))
          (K y12)) (.slice none 0 0) (.int .i64 0)) := by
  refine bI (fun m x y => [ex fun q : Option Addr × Nat => ex fun ps : List It => ex fun ar' : List It => all [pu (∃ i : Nat, m + i = rs.length ∧ y = .int .i64 (i : Int) ∧ x = .slice q.1 ps.length q.2 ∧ ps.map er ++ cK ((rs.map er).drop i) = cK (rs.map er) ∧ (∀ y ∈ ps, y ∈ ar') ∧ (∀ y ∈ ar, y ∈ ar') ∧ ps.length ≤ i), Sl 2 319 q.1 q.2 ps.length (ps.flatMap ic), fH ar', A]] ++ F) rs.length ?_ ?_
  · refine .ex (none, 0) (.ex [] (.ex ar (.all ?_)))
    refine aq ?_
    refine .pu ⟨0, by omega, rfl, rfl, rfl, (fun y hy => (by cases hy)), (fun y hy => hy), Nat.le_refl _⟩ (bR ?_)
    exact aw
  intro m ds x y
  refine aq ?_
  refine aH Pick.here fun q => aH Pick.here fun ps => aH Pick.here fun ar' => ap Pick.here ?_
  obtain ⟨qa, qc⟩ := q
  refine aq ?_
  refine aG Pick.here fun hi => ?_
  obtain ⟨i, hmi, rfl, rfl, hps, hpa, haa, hpl⟩ := hi
  (try dsimp only)
  refine bG ?_; refine o_ aC (ay az .nil (fun h => ?_) (fun h => ?_))
  · have h1 : i + 1 < rs.length := by omega
    have h0 : i < rs.length := by omega
    obtain ⟨g, o, rfl, _⟩ := hA.at_ (by omega)
    obtain ⟨u, hu⟩ : ∃ u, u = rs[i] := ⟨_, rfl⟩
    obtain ⟨v, hv⟩ : ∃ v, v = rs[i + 1] := ⟨_, rfl⟩
    have n0 := Jh hA h0
    have n1 := Jh hA h1
    have w0 := AF hA h0
    have w1 := AF hA h1
    rw [← hu] at n0 w0
    rw [← hv] at n1 w1
    have hum : u ∈ rs := by rw [hu]; exact List.getElem_mem h0
    have hvm : v ∈ rs := by rw [hv]; exact List.getElem_mem h1
    have bu := hb u hum
    have bv := hb v hvm
    have ru := AA (W := W) (haa u (hm u hum))
    have rv := AA (W := W) (haa v (hm v hvm))
    refine ab (bA (bh (cR i (by rfl) h0) .nil ?_))
    refine bh cT .nil ?_
    refine bh n0 (.pick (by repeat constructor) .nil) ?_
    (refine bh (bU (by omega) (by omega)) .nil ?_)
    refine bh (cR (i + 1) (by rfl) h1) .nil ?_
    refine bh cT .nil ?_
    refine bh n1 (.pick (by repeat constructor) .nil) ?_
    (refine bh (bU (by omega) (by omega)) .nil ?_)
    refine t_ (cR i (by rfl) h0) ?_
    refine t_ cT (eJ w0 ?_)
    (refine t_ (bU (by omega) (by omega)) ?_)
    refine t_ (cR (i + 1) (by rfl) h1) ?_
    refine t_ cT (eJ w1 ?_)
    refine f_ (vs := [.slice (some ⟨u.g, 0, none⟩) u.w.length u.c, .slice (some ⟨v.g, 0, none⟩) v.w.length v.c]) rfl rfl (by intro z hz; simp at hz; rcases hz with rfl | rfl <;> rfl) (by omega) fun g2 => ?_
    refine cf ?_; refine cf ?_; refine cf ?_; refine cf ?_; refine cf ?_; refine cf ?_; refine cf ?_; refine cf ?_
    refine c_ (K5 ru rv bu.2.2.1 bu.2.2.2 bv.2.2.2) fun _ => ?_
    rename_i q2
    obtain ⟨g3, c3⟩ := q2
    (try dsimp only)
    rw [← List.length_append]
    refine Po (x := ⟨u.n + v.n, g3, c3, u.w ++ v.w⟩) rfl .here .here ?_
    refine cf ?_; refine cf ?_; refine cf ?_; refine cf ?_; refine cf ?_; refine cf ?_; refine cf ?_; refine cf ?_; refine t_ b_ ?_
    refine eL (s := 2) (vs := [av ⟨u.n + v.n, g3, c3, u.w ++ v.w⟩]) rfl (by omega) rfl (by intro z hz; simp at hz; subst hz; rfl) (by omega) fun g4 => ?_
    refine bO (m := 1) (news := ic ⟨u.n + v.n, g3, c3, u.w ++ v.w⟩) (by repeat constructor) (cA (s := 2) (e' := 319) (by kernel_rfl) .here (by rfl) (kH _)) (by omega) (by omega) fun a' c' => ?_
    refine bG ?_
    refine bo (m - 2) (by omega) (.ex (a', c') (.ex (ps ++ [⟨u.n + v.n, g3, c3, u.w ++ v.w⟩]) (.ex (⟨u.n + v.n, g3, c3, u.w ++ v.w⟩ :: ar') (.all ?_))))
    refine aq ?_
    refine .pu ⟨i + 2, by omega, by norm_cast, by rw [List.length_append]; rfl, ?_, ?_, fun y hy => List.mem_cons_of_mem _ (haa y hy), by simp; omega⟩ ?_
    · rw [← hps, yY (i := i) (by simpa using h1), List.map_append, List.append_assoc]
      simp [er, hu, hv]
    · intro y hy
      rcases List.mem_append.1 hy with c | c
      · exact List.mem_cons_of_mem _ (hpa y c)
      · rw [List.mem_singleton.1 c]; exact List.mem_cons_self
    · rw [List.flatMap_append, List.length_append, List.length_singleton, List.flatMap_singleton]
      exact aw
  · refine aa ?_
    rw [Cb (by simp; omega), List.append_nil] at hps
    exact hK (qa, qc) ps ar' hps hpa haa
theorem wS {W : World} {A : HP} {F : List HP} {ra : Option Addr} {rc go len k : Nat} {rs ar : List It} {K : WP} (hA : sP W A ra rs) (hm : ∀ y ∈ rs, y ∈ ar) (hl : 2 * k - 2 ≤ rs.length) (hk : 1 ≤ k ∧ k ≤ 1048576) (cL : len ≤ 1048576)
    (hb : ∀ y ∈ rs, y.w.length ≤ 1073741824 ∧ ∀ s ∈ y.w, 0 ≤ s ∧ s < len)
    (hK : aZ W (Sl 1 3 (some ⟨go, 0, none⟩) len len (Ln len fun s => (cV (((rs.map er).take (2 * k - 2)).flatMap fun e => e.2) s : Int)) :: F) K) :
    aZ W (Sl 1 3 (some ⟨go, 0, none⟩) len len (Ln len fun _ => 0) :: A :: fH ar :: F) (o9 (fun I4 m4 _ y14 =>
          opN p_ (aY .mul 3 (.int .i64 2) (.int .i64 (k : Int))) gH fun x121 =>
          opN p_ (aY .sub 3 x121 (.int .i64 2)) gH fun x122 =>
          opN p_ (aY .lss 3 y14 x122) gH fun x123 =>
          condS x123
          (opN p_ (iR 317 (.slice ra rs.length rc) y14) gH fun x128 =>
           opN p_ (jf 319 x128 1) gH fun x129 =>
           opN p_ (aI 197 x129) gH fun x130 =>
           opN p_ (ii #[197] 3 [x130]) gH fun x131 =>
           o9 (fun I5 m5 _ y132 =>
            opN p_ (aY .lss 3 y132 x131) gH fun x133 =>
            condS x133
            (opN p_ (iR 197 x130 y132) gH fun x134 =>
             opN p_ (aI 3 x134) gH fun x135 =>
             opN p_ (iR 197 (.slice (some ⟨go, 0, none⟩) len len) x135) gH fun x138 =>
             opN p_ (aI 3 x138) gH fun x139 =>
             opN p_ (aY .add 3 x139 (.int .i64 1)) gH fun x140 =>
             opN p_ (iR 197 (.slice (some ⟨go, 0, none⟩) len len) x135) gH fun x141 =>
             opN p_ (aJ 3 x141 x140) gH fun _ =>
             opN p_ (aY .add 3 y132 (.int .i64 1)) gH fun x142 =>
             iD I5 m5 x142)
            (opN p_ (aY .add 3 y14 (.int .i64 1)) gH fun x125 =>
             iD I4 m4 x125)) (.int .i64 0))
          K) (.int .i64 0)) := by
  obtain ⟨P, hP⟩ : ∃ P : Nat → List Int, P = fun i => ((rs.map er).take i).flatMap fun e => e.2 := ⟨_, rfl⟩
  have hPb : ∀ i, i ≤ 2097152 → (P i).length ≤ 1073741824 * i := by
    intro i hi
    rw [hP]
    clear hi
    induction i with
    | zero => simp
    | succ i ih =>
      by_cases c : i < rs.length
      · simp only [] at ih ⊢
        rw [List.take_succ_eq_append_getElem (by simpa using c), List.flatMap_append, List.length_append]
        have := (hb rs[i] (List.getElem_mem c)).1
        simp only [List.flatMap_singleton, List.getElem_map, er]
        omega
      · simp only [] at ih ⊢
        rw [List.take_of_length_le (by simp; omega)]
        rw [List.take_of_length_le (by simp; omega)] at ih
        omega
  refine a_ (fun m y => [ex fun i : Nat => all [pu (m + i = 2 * k - 2 ∧ y = .int .i64 (i : Int)), Sl 1 3 (some ⟨go, 0, none⟩) len len (Ln len fun s => (cV (P i) s : Int)), A, fH ar]] ++ F) (2 * k - 2) ?_ ?_
  · refine .ex 0 (.all ?_)
    refine aq ?_
    refine .pu ⟨by omega, rfl⟩ ?_
    rw [show P 0 = [] by rw [hP]; rfl]
    exact .pick .here aw
  intro m ds y
  refine aq ?_
  refine aH Pick.here fun i => ap Pick.here ?_
  refine aq ?_
  refine aG Pick.here fun hi => ?_
  obtain ⟨hmi, rfl⟩ := hi
  (refine o_ (eh (by omega) (by omega)) ?_); refine dX ?_
  refine ay az .nil (fun h => ?_) (fun h => ?_)
  · have hik : i < rs.length := by omega
    obtain ⟨g, o, rfl, _⟩ := hA.at_ (by omega)
    have hmem : rs[i] ∈ rs := List.getElem_mem hik
    have w0 := AF hA hik
    have r0 := AA (W := W) (hm _ hmem)
    have b0 := hb _ hmem
    have hP1 : P (i + 1) = P i ++ rs[i].w := by
      rw [hP]; simp only []
      rw [List.take_succ_eq_append_getElem (by simpa using hik), List.flatMap_append]; simp [er]
    obtain ⟨u, hu⟩ : ∃ u, u = rs[i] := ⟨_, rfl⟩
    rw [← hu] at w0 r0 b0 hP1
    refine ab (o_ (cR i (by rfl) hik) ?_)
    refine o_ cT (bt w0 ?_)
    refine o_ aC (a_ (fun m y => [ex fun j : Nat => all [pu (m + j = u.w.length ∧ y = .int .i64 (j : Int)), Sl 1 3 (some ⟨go, 0, none⟩) len len (Ln len fun s => (cV (P i ++ u.w.take j) s : Int)), A, fH ar]] ++ F) u.w.length ?_ ?_)
    · refine .ex 0 (.all ?_)
      refine aq ?_
      refine .pu ⟨by omega, rfl⟩ ?_
      rw [List.take_zero, List.append_nil]
      exact aw
    intro m2 ds y
    refine aq ?_
    refine aH Pick.here fun j => ap Pick.here ?_
    refine aq ?_
    refine aG Pick.here fun hj => ?_
    obtain ⟨hmj, rfl⟩ := hj
    refine ay az .nil (fun h => ?_) (fun h => ?_)
    · have hjl : j < u.w.length := by omega
      obtain ⟨s0, s1⟩ := b0.2 u.w[j] (List.getElem_mem hjl)
      obtain ⟨s, hs⟩ := Int.eq_ofNat_of_zero_le s0
      have hsl : s < len := by omega
      have hc1 := uS s (P i ++ u.w.take j)
      have hc2 := hPb i (by omega)
      rw [List.length_append, List.length_take] at hc1
      refine ab (o_ (bj j (by rfl) hjl) ?_)
      refine bt (bP r0 (dK hjl)) ?_
      refine o_ (bj s hs hsl) ?_
      refine am (cI (v := I (cV (P i ++ u.w.take j) s)) (by rw [Nat.zero_add]; exact kC hsl)) (.pick .here .nil) ?_
      have hi2 : 1073741824 * i ≤ 1073741824 * 2097152 := Nat.mul_le_mul_left _ (by omega)
      refine bG ?_
      refine o_ (bj s hs hsl) ?_
      refine fZ .here (by rw [iJ]; omega) ?_
      rw [show (Ln len fun s => (cV (P i ++ u.w.take j) s : Int)).set (0 + s) (.int .i64 ((cV (P i ++ u.w.take j) s : Int) + 1)) = Ln len (fun s => (cV (P i ++ u.w.take (j + 1)) s : Int)) from by
        rw [Nat.zero_add]
        refine oh.trans (d4 fun z hz => ?_)
        rw [List.take_succ_eq_append_getElem hjl, ← List.append_assoc, fe (l := P i ++ u.w.take j)]
        by_cases e : z = s
        · subst e; rw [if_pos rfl]; simp [cV, hs]
        · have hne : ¬ (u.w[j] = (z : Int)) := by omega
          rw [if_neg e]; simp [cV, hne]]
      refine bG ?_
      refine aK (m2 - 1) (by omega) (.ex (j + 1) (.all ?_))
      refine aq ?_
      exact .pu ⟨by omega, by norm_cast⟩ .refl
    · have : j = u.w.length := by omega
      subst this
      refine aa (bG ?_)
      rw [List.take_length, ← hP1]
      refine aK (m - 1) (by omega) (.ex (i + 1) (.all ?_))
      refine aq ?_
      exact .pu ⟨by omega, by norm_cast⟩ .refl
  · have hie : i = 2 * k - 2 := by omega
    subst hie
    refine aa (bF (.pick .here (.drop (.drop .refl))) ?_)
    rw [hP]
    exact hK
def bW:Int->List Int->List E
 |_,[]=>[]
 |s,x::l=>if 0<x then(x,[s])::bW (s+1) l else bW (s+1) l
theorem pC (x:Int):∀(s:Int) (l:List Int),bW s (l++[x])=bW s l++if 0<x then [(x,[s+l.length])]else []
 |s,[]=>by simp[bW]
 |s,y::l=>by
  have ih:=pC x (s+1) l
  have e:s+1+(l.length:Int)=s+((l.length+1:Nat):Int):=by push_cast;omega
  rw[e]at ih
  simp only[List.cons_append,bW,ih,List.length_cons]
  split <;> simp
theorem nv {α:Type}(key:α->Int):∀us bs:List α,(dt key us bs).length=us.length+bs.length
 |[],bs=>by simp[dt]
 |a::us,bs=>by
  have ih:=nv key us (bs.dropWhile fun b=>decide (key b<key a))
  have h:bs.length=(bs.takeWhile fun b=>decide (key b<key a)).length+(bs.dropWhile fun b=>decide (key b<key a)).length:=by
   rw[<- List.length_append,List.takeWhile_append_dropWhile]
  simp only[dt,List.length_append,List.length_cons,ih]
  omega
def eN (cs:List E)(L:Nat)(s:Nat):Int:=(cV (((dz cs (L-1)).take (2 * cs.length-2)).flatMap fun e=>e.2) s:Int)
end HF
end Go.Proofs.YtndojgomlkpeaaaGreatDoor
