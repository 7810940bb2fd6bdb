/- Values of fields: what the document says of them, as plain functions over bytes. No conditions but those that each names. (25 texts made one; each says below what it is.) -/
import Derived.Test.YtndojgomlkpeaaaGreatDoorK1
import Derived.MapKept
import Derived.Test.YtndojgomlkpeaaaGreatDoorChecked
import Derived.KernelRfl
import Derived.ChangeArms
import Derived.Test.YtndojgomlkpeaaaGreatDoorRows
import Derived.Laws.Externs
import Derived.Lib.Strings
import Derived.Lib.Walk
import Derived.Lib.BufferWrite
import Derived.Lib.UnsafeStr
import Derived.Laws.MakeOwn
import Derived.WalkKit
import Derived.Lib.Slices
import Derived.Lib.Builder
import Derived.Lib.MakeNoZero
import Derived.Laws.IdiomCopy
import Derived.Laws.BitsLemmas
import Derived.Shelf.RegionOpenPlain
import Derived.Lib.IfaceEq
import Derived.Laws.StructEq
set_option linter.unusedVariables false
set_option linter.unusedSimpArgs false
set_option linter.unusedSectionVars false
namespace Go.Proofs.YtndojgomlkpeaaaGreatDoor
set_option maxRecDepth 9999
namespace FD
def ko (c:UInt8):Bool:=c==32||c==9
def lI (l:List UInt8):List UInt8:=l.dropWhile ko
def i5 (l:List UInt8):List UInt8:=(l.reverse.dropWhile ko).reverse
def bX (l:List UInt8):List UInt8:=lI (i5 l)
theorem Gz {l:List UInt8}{n:Nat}(h:l.length=n+1)(hb:ko (l[n]'(by omega))=true):i5 l=i5 (l.take n):=by
 have e:l=l.take n++[l[n]'(by omega)]:=by
  rw[List.take_append_getElem (by omega:n<l.length)]
  exact(List.take_of_length_le (by omega)).symm
 unfold i5
 conv=>lhs;rw[e]
 rw[List.reverse_append]
 simp[List.dropWhile_cons,hb]
theorem GA {l:List UInt8}{n:Nat}(h:l.length=n+1)(hb:ko (l[n]'(by omega))=false):i5 l=l:=by
 have e:l=l.take n++[l[n]'(by omega)]:=by
  rw[List.take_append_getElem (by omega:n<l.length)]
  exact(List.take_of_length_le (by omega)).symm
 unfold i5
 conv=>lhs;rw[e]
 rw[List.reverse_append]
 simp[List.dropWhile_cons,hb]
 exact List.take_of_length_le (by omega)
theorem GB {l:List UInt8}(h:0<l.length)(hb:ko l[0]=true):lI l=lI (l.drop 1):=by
 cases l with
 |nil=>simp at h
 |cons c r=>simp[lI,List.dropWhile_cons,show ko c=true from hb]
theorem GC {l:List UInt8}(h:0<l.length)(hb:ko l[0]=false):lI l=l:=by
 cases l with
 |nil=>simp at h
 |cons c r=>simp[lI,List.dropWhile_cons,show ko c=false from hb]
def sub (l:List UInt8)(a b:Nat):List UInt8:=(l.drop a).take (b-a)
theorem kp {l:List UInt8}{a b:Nat}(h1:a<=b)(h2:b<l.length):sub l a b++[l[b]]=sub l a (b+1):=by
 unfold sub
 have h3:b-a<(l.drop a).length:=by rw[List.length_drop];omega
 have:=List.take_append_getElem h3
 rw[List.getElem_drop]at this
 have e:a+(b-a)=b:=by omega
 simp only[e]at this
 rw[show b+1-a=b-a+1 by omega,this]
theorem sub_self {l:List UInt8}{a:Nat}:sub l a a=[]:=by simp[sub]
theorem uA {l:List UInt8}{a b:Nat}(h:l.length<=b):sub l a b=l.drop a:=by
 unfold sub
 exact List.take_of_length_le (by rw[List.length_drop];omega)
def xX (q e:Bool):Bool->List UInt8->List UInt8->List (List UInt8)
 |_,e8,[]=>[e8]
 |inn,e8,c::r=>
  if c=92/\inn=true/\e=true then match r with
   |[]=>[e8++[c]]
   |d::r'=>xX q e inn (e8++[c,d]) r'
  else if c=34/\q=true then xX q e (!inn) (e8++[c]) r
  else if c=44/\inn=false then e8::xX q e false [] r
  else xX q e inn (e8++[c]) r
theorem jk {q e inn:Bool}{e8:List UInt8}{c:UInt8}{r:List UInt8}:xX q e inn e8 (c::r)=if c=92/\inn=true/\e=true then(match r with
   |[]=>[e8++[c]]
   |d::r'=>xX q e inn (e8++[c,d]) r')
  else if c=34/\q=true then xX q e (!inn) (e8++[c]) r
  else if c=44/\inn=false then e8::xX q e false [] r
  else xX q e inn (e8++[c]) r:=by
 cases r <;> rfl
def uB (l:List UInt8)(q e inn:Bool)(a i:Nat):List (List UInt8):=xX q e inn (sub l a i) (l.drop i)
variable {l:List UInt8} {q e inn:Bool} {a i:Nat}
theorem zU (h:l.length<=i):uB l q e inn a i=[l.drop a]:=by
 unfold uB
 rw[List.drop_of_length_le h,uA h,xX]
theorem dr (h:i<l.length):l.drop i=l[i]::l.drop (i+1):=List.drop_eq_getElem_cons h
theorem zV (h:i<l.length)(ha:a<=i)(hc:l[i]=92)(h1:inn=true)(h2:e=true):uB l q e inn a i=uB l q e inn a (i+2):=by
 unfold uB
 rw[dr h,jk,if_pos ⟨hc,h1,h2⟩]
 by_cases h3:i+1<l.length
 ·rw[dr h3]
  simp only
  have e1:sub l a i++[l[i],l[i+1]]=sub l a (i+2):=by
   rw[<- kp (by omega) h3,<- kp ha h];simp
  rw[e1]
 ·rw[List.drop_of_length_le (show l.length<=i+1 by omega),List.drop_of_length_le (show l.length<=i+2 by omega)]
  simp only[xX]
  rw[kp ha h,uA (show l.length<=i+1 by omega),uA (show l.length<=i+2 by omega)]
theorem IK (h:i<l.length)(ha:a<=i)(hn:¬(l[i]=92/\inn=true/\e=true))(hc:l[i]=34)(h1:q=true):uB l q e inn a i=uB l q e (!inn) a (i+1):=by
 unfold uB
 rw[dr h,jk,if_neg hn,if_pos ⟨hc,h1⟩,kp ha h]
theorem IL (h:i<l.length)(ha:a<=i)(hc:l[i]=44)(h1:inn=false):uB l q e inn a i=sub l a i::uB l q e false (i+1) (i+1):=by
 unfold uB
 rw[dr h,jk,if_neg (by rw[h1];simp),if_neg (by rw[hc];rintro⟨hx,_⟩;exact absurd hx (by decide)),if_pos ⟨hc,h1⟩,sub_self]
theorem IM (h:i<l.length)(ha:a<=i)(hn:¬(l[i]=92/\inn=true/\e=true))(h2:¬(l[i]=34/\q=true))(h3:¬(l[i]=44/\inn=false)):uB l q e inn a i=uB l q e inn a (i+1):=by
 unfold uB
 rw[dr h,jk,if_neg hn,if_neg h2,if_neg h3,kp ha h]
def nb (x:List UInt8):Bool:=!x.isEmpty
def pK (x:List (List UInt8)):List (List UInt8):=(x.map bX).filter nb
def bB (q e:Bool)(l:List UInt8):List (List UInt8):=pK (uB l q e false 0 0)
theorem kZ {x:List UInt8}{r:List (List UInt8)}:pK (x::r)=if bX x=[]then pK r else bX x::pK r:=by
 unfold pK
 by_cases h:bX x=[]
 ·simp[h,nb]
 ·have:nb (bX x)=true:=by cases hx:bX x with
   |nil=>exact absurd hx h
   |cons _ _=>rfl
  simp[h,this]
theorem wl:pK []=[]:=rfl
theorem kq (l:List UInt8):(bX l).length<=l.length:=by
 have h1:=(List.dropWhile_sublist (p:=ko) (l:=i5 l)).length_le
 have h2:=(List.dropWhile_sublist (p:=ko) (l:=l.reverse)).length_le
 unfold bX lI
 have h3:(i5 l).length=(l.reverse.dropWhile ko).length:=by unfold i5;simp
 rw[List.length_reverse]at h2
 omega
theorem Dc (x:List (List UInt8)):(pK x).length<=x.length:=by
 unfold pK
 have:=(List.filter_sublist (p:=nb) (l:=x.map bX)).length_le
 simpa using this
theorem Dd {x:List (List UInt8)}{w:List UInt8}(h:w∈pK x):w≠[]/\∃v∈x,w=bX v:=by
 unfold pK at h
 rw[List.mem_filter,List.mem_map]at h
 obtain⟨⟨v,hv,rfl⟩,h2⟩:=h
 exact⟨fun hx=>(by rw[hx]at h2;cases h2),v,hv,rfl⟩
def fk {α:Type}(one:List UInt8->α × Bool)(ws:List (List UInt8)):Option (List α):=if ws.all (fun w=>(one w).2)then some (ws.map fun w=>(one w).1)else none
def cu (c:UInt8):List UInt8->List UInt8
 |[]=>[]
 |x::r=>if x=c then []else x::cu c r
def cD (c:UInt8):List UInt8->List UInt8
 |[]=>[]
 |x::r=>if x=c then r else cD c r
def nY (c:UInt8):List UInt8->Bool
 |[]=>false
 |x::r=>if x=c then true else nY c r
def dU (c:UInt8):UInt8:=if 65<=c/\c<=90 then c+32 else c
def De (c:UInt8):Bool:=decide (97<=c/\c<=122\/65<=c/\c<=90\/48<=c/\c<=57)
def yz:List UInt8:=[33,35,36,37,38,39,42,43,45,46,94,95,96,124,126]
def wm (c:UInt8):Bool:=De c||yz.contains c
def mJ (l:List UInt8):Bool:=nb l&&l.all wm
def cC (l:List UInt8):List UInt8:=l.map dU
def nZ (c:UInt8):Bool:=decide (48<=c/\c<=57)
def eK (l:List UInt8):Nat:=l.foldl (fun n c=>n * 10+(c.toNat-48)) 0
def j9 (l:List UInt8):Int × Int:=if nb l&&l.all nZ then(if eK l<=1000000000000000000 then((eK l:Int),0)else(0,11))else(0,21)
def yA (c:UInt8):Bool:=decide (c<=32\/c=34\/c=127)
def jQ (s:List UInt8):Bool:=s.take 2==[87,47]
def tr (v:List UInt8):List UInt8:=sub v 1 (v.length-1)
def lJ (v:List UInt8):Bool:=decide (2<=v.length/\v[0]? =some 34/\v[v.length-1]? =some 34)&&!(tr v).any yA
def l9 (s:List UInt8):List UInt8:=if jQ s then s.drop 2 else s
def jF (s:List UInt8):(Bool × List UInt8) × Bool:=if lJ (l9 s)then((jQ s,tr (l9 s)),true)else((false,[]),false)
def Bx (t:Bool × List UInt8):List UInt8:=(if t.1 then [87,47]else [])++34::t.2++[34]
def gE (s:List UInt8):Int × Bool:=
 if(cu 46 s≠[48]/\cu 46 s≠[49])\/3<(cD 46 s).length then(0,false)
 else((j9 (cu 46 s++(cD 46 s++[48,48,48]).take 3)).1,decide ((j9 (cu 46 s++(cD 46 s++[48,48,48]).take 3)).2=0)&&decide ((j9 (cu 46 s++(cD 46 s++[48,48,48]).take 3)).1<=1000))
def ik (s:List UInt8):(List UInt8 × Int) × Bool:=
 if nY 59 s then
  if(bX (cD 59 s)).length<2\/cC ((bX (cD 59 s)).take 2)≠[113,61]then(([],0),false)
  else((cC (bX (cu 59 s)),(gE ((bX (cD 59 s)).drop 2)).1),mJ (cC (bX (cu 59 s)))&&(gE ((bX (cD 59 s)).drop 2)).2)
 else((cC (bX (cu 59 s)),1000),mJ (cC (bX (cu 59 s))))
def wn (c:UInt8):Bool:=decide (c<32/\c≠9\/c=127)
def mK:List UInt8->List UInt8->List UInt8 × Bool
 |_,[]=>([],false)
 |acc,c::r=>
  if c=34 then(acc,r.isEmpty)
  else if c=92 then match r with
   |[]=>([],false)
   |d::r'=>if wn d then([],false)else mK (acc++[d]) r'
  else if wn c then([],false)else mK (acc++[c]) r
theorem By {acc:List UInt8}{c:UInt8}{r:List UInt8}:mK acc (c::r)=if c=34 then(acc,r.isEmpty)
  else if c=92 then(match r with
   |[]=>([],false)
   |d::r'=>if wn d then([],false)else mK (acc++[d]) r')
  else if wn c then([],false)else mK (acc++[c]) r:=by
 cases r <;> rfl
def sI:List UInt8->List UInt8 × Bool
 |[]=>([],false)
 |c::r=>if c=34 then mK [] r else([],false)
structure Dir where
 name:List UInt8
 value:List UInt8
 has:Bool
def uC (s:List UInt8):Dir × Bool:=
 if nY 61 s&&!mJ (cD 61 s)then(⟨cC (cu 61 s),(sI (cD 61 s)).1,true⟩,mJ (cu 61 s)&&(sI (cD 61 s)).2)
 else(⟨cC (cu 61 s),cD 61 s,nY 61 s⟩,mJ (cu 61 s))
def fC (s:List UInt8):Option (List (List UInt8 × Int)):=fk ik (bB false false s)
def qF (s:List UInt8):Option (List Dir):=fk uC (bB true true s)
def nR {α:Type}(o:Option (List α)):List α × Int:=match o with
 |none=>([],42)
 |some l=>(l,0)
end FD
namespace FD
theorem N5 {c:UInt8}(h:nZ c=true):48<=c.toNat/\c.toNat<=57:=by
 unfold nZ at h
 have:=of_decide_eq_true h
 exact⟨UInt8.le_iff_toNat_le.1 this.1,UInt8.le_iff_toNat_le.1 this.2⟩
theorem mL {c:UInt8}:∀s:List UInt8,(cu c s).length<=s.length
 |[]=>by simp[cu]
 |x::r=>by
  have:=mL (c:=c) r
  unfold cu
  split <;> simp <;> omega
theorem Df {p:UInt8->Prop}(h:∀n:Fin 256,p ⟨⟨n⟩⟩)(c:UInt8):p c:=h c.toBitVec.toFin
end FD
namespace Sl
open Go Go.RowKit Sh
variable {P:Program} {W:World} {L L':List HP} {Kp:PK} {k:Value->WP}
structure KeyLaw (P:Program)(t:TypeId){κ:Type}[DecidableEq κ](enc:κ->Value):Prop where
 check:∀(b:Bool) (k:κ) (w:World),(Instr.checkKey b 10000 t (enc k)).run P w= .ok () w
 eq:∀(k k':κ) (w:World),(Op.equal t (enc k) (enc k')).run P w= .ok (decide (k=k')) w
 now:∃d,P.underlying t=some d/\∀k k',Instr.sameNow d (enc k) (enc k')=none\/Instr.sameNow d (enc k) (enc k')=some (decide (k=k'))
 same:∀k,Instr.sameBits 10000 (enc k) (enc k)=true
variable {κ:Type} [DecidableEq κ] {enc:κ->Value} {t kt:TypeId}
def pL (k:κ):List (κ × Value)->Nat->Option (Nat × Value)
 |[],_=>none
 |p::m,i=>if k=p.1 then some (i,p.2)else pL k m (i+1)
def jc (k:κ)(m:List (κ × Value)):Option Value:=(pL k m 0).map (·.2)
def kv (e:MapEntry):Value × Value:=(e.key,e.val)
def Dg (enc:κ->Value)(p:κ × Value):Value × Value:=(enc p.1,p.2)
theorem kr (K:KeyLaw P kt enc)(k:κ)(w:World):∀(es:List MapEntry) (m:List (κ × Value)) (i:Nat),es.map kv=m.map (Dg enc)->(Instr.findAsking kt (enc k) es i).run P w= .ok (pL k m i) w
 |[],[],i,_=>rfl
 |[],p::m,i,h=>by simp at h
 |e::es,[],i,h=>by simp at h
 |e::es,p::m,i,h=>by
  simp only[List.map_cons,List.cons.injEq,kv,Dg,Prod.mk.injEq]at h
  obtain⟨⟨h1,h2⟩,h3⟩:=h
  have ih:=kr K k w es m (i+1) h3
  unfold Instr.findAsking pL
  rw[h1]
  simp only[Sem.run_bind,K.eq,Result.andThen_ok]
  by_cases c:k=p.1
  ·simp[c,h2]
  ·simp[c,ih]
theorem pi (d:TypeDesc)(hd:∀k k',Instr.sameNow d (enc k) (enc k')=none\/Instr.sameNow d (enc k) (enc k')=some (decide (k=k')))(k:κ):∀(es:List MapEntry) (m:List (κ × Value)) (i:Nat),es.map kv=m.map (Dg enc)->Instr.findNow d (enc k) es i=none\/Instr.findNow d (enc k) es i=some (pL k m i)
 |[],[],i,_=> .inr rfl
 |[],p::m,i,h=>by simp at h
 |e::es,[],i,h=>by simp at h
 |e::es,p::m,i,h=>by
  simp only[List.map_cons,List.cons.injEq,kv,Dg,Prod.mk.injEq]at h
  obtain⟨⟨h1,h2⟩,h3⟩:=h
  have ih:=pi d hd k es m (i+1) h3
  unfold Instr.findNow pL
  rw[h1]
  rcases hd k p.1 with c|c
  ·rw[c];exact .inl rfl
  ·rw[c]
   by_cases e1:k=p.1
   ·simp[e1,h2]
   ·simp[e1,ih]
theorem i6 (K:KeyLaw P kt enc)(k:κ)(w:World){es:List MapEntry}{m:List (κ × Value)}(h:es.map kv=m.map (Dg enc)):(Instr.findKey kt (enc k) es).run P w= .ok (pL k m 0) w:=by
 obtain⟨d,hd,hs⟩:=K.now
 unfold Instr.findKey
 simp only[Sem.run_bind,run_underlying hd,Result.andThen_ok]
 rcases pi d hs k es m 0 h with c|c
 ·rw[c];exact kr K k w es m 0 h
 ·rw[c];rfl
structure Ents (enc:κ->Value)(es:Array MapEntry)(c:Nat)(m:List (κ × Value)):Prop where
 kvs:es.toList.map kv=m.map (Dg enc)
 born:∀e∈es.toList,e.born<c
 nodup:(es.toList.map (·.born)).Nodup
def gJ (g:Nat)(enc:κ->Value)(m:List (κ × Value)):HP:=fun _ h=>∃es c,h g=some (.map es c)/\Ents enc es c m
theorem mM {g:Nat}{m:List (κ × Value)}{w:World}(H:sat W (gJ g enc m::L) w):∃es c,Ents enc es c m/\sat W (pt g (.map es c)::L) w:=by
 obtain⟨f,⟨h1,h2,⟨es,c,ha,he⟩,r⟩,b⟩:=H.heap
 exact⟨es,c,he,H.base,f,⟨h1,h2,ha,r⟩,b⟩
theorem mN {g:Nat}{m:List (κ × Value)}{w:World}{es:Array MapEntry}{c:Nat}(he:Ents enc es c m)(H:sat W (pt g (.map es c)::L) w):sat W (gJ g enc m::L) w:=by
 obtain⟨f,⟨h1,h2,ha,r⟩,b⟩:=H.heap
 exact⟨H.base,f,⟨h1,h2,⟨es,c,ha,he⟩,r⟩,b⟩
class MapT (P:Program)(t:TypeId)(kt e:outParam TypeId):Prop where
 ut:P.underlying t=some (.map kt e)
theorem wo {e:TypeId}{z:Value}{g:Nat}{m:List (κ × Value)}{q:κ}[ht:MapT P t kt e][hz:ZeroT P e z](K:KeyLaw P kt enc):bg P W [gJ g enc m] (o7 t (.map (some g)) (enc q) true) (.tuple #[(jc q m).getD z,.bool (jc q m).isSome]):=fun w hw=>by
 obtain⟨es,c,he,hp⟩:=mM hw
 have hg:=hp.pt_.1
 have hf:=i6 K q w he.kvs
 unfold jc
 cases hq:pL q m 0 with
 |none=>simp[o7,Instr.lookup,run_underlying ht.ut,MapKept.run_getObj_map hg,K.check,hf,hq,hz.run,Result.andThen]
 |some p=>simp[o7,Instr.lookup,run_underlying ht.ut,MapKept.run_getObj_map hg,K.check,hf,hq,Result.andThen]
theorem J4 {e:TypeId}{z:Value}{g:Nat}{m:List (κ × Value)}{q:κ}[ht:MapT P t kt e][hz:ZeroT P e z](K:KeyLaw P kt enc):bg P W [gJ g enc m] (o7 t (.map (some g)) (enc q) false) ((jc q m).getD z):=fun w hw=>by
 obtain⟨es,c,he,hp⟩:=mM hw
 have hg:=hp.pt_.1
 have hf:=i6 K q w he.kvs
 unfold jc
 cases hq:pL q m 0 with
 |none=>simp[o7,Instr.lookup,run_underlying ht.ut,MapKept.run_getObj_map hg,K.check,hf,hq,hz.run,Result.andThen]
 |some p=>simp[o7,Instr.lookup,run_underlying ht.ut,MapKept.run_getObj_map hg,K.check,hf,hq,Result.andThen]
theorem J5 {e ty:TypeId}{g:Nat}{m:List (κ × Value)}[ht:MapT P t kt e]:bg P W [gJ g enc m] (ii #[t] ty [.map (some g)]) (.int .i64 (m.length:Int)):=fun w hw=>by
 obtain⟨es,c,he,hp⟩:=mM hw
 have hl:=congrArg List.length he.kvs
 simp at hl
 simp[ii,Builtin.len_,run_underlying ht.ut,MapKept.run_getObj_map hp.pt_.1,goInt,hl,Result.andThen]
theorem zW {e:TypeId}(enc:κ->Value)[ht:MapT P t kt e](h:∀g,aZ W (gJ g enc []::L) (k (.map (some g)))):aZ W L (opN P (qt t none) Kp k):=fun w hw=>by
 refine⟨?_⟩
 have:(qt t none).run P w= .ok (.value (.map (some w.heap.size))) (w.alloc (.map #[] 0)):=by
  simp[qt,Instr.makeMap]
 rw[this]
 exact h _ _ (mN ⟨rfl,fun e he=>by simp at he,by simp⟩ (hw.alloc _))
def gK (q:κ)(v:Value):List (κ × Value)->List (κ × Value)
 |[]=>[(q,v)]
 |p::m=>if q=p.1 then(p.1,v)::m else p::gK q v m
theorem n5 (q:κ)(v:Value):∀(m:List (κ × Value)) (i:Nat),pL q m i=none->gK q v m=m++[(q,v)]
 |[],i,_=>rfl
 |p::m,i,h=>by
  unfold pL at h
  by_cases c:q=p.1
  ·simp[c]at h
  ·rw[if_neg c]at h
   simp[gK,c,n5 q v m (i+1) h]
theorem n6 (q:κ)(v:Value):∀(m:List (κ × Value)) (i j:Nat) (u:Value),pL q m i=some (j,u)->i<=j/\j-i<m.length/\gK q v m=m.set (j-i) (q,v)/\m[j-i]? =some (q,u)
 |[],i,j,u,h=>by simp[pL]at h
 |p::m,i,j,u,h=>by
  unfold pL at h
  by_cases c:q=p.1
  ·rw[if_pos c]at h
   simp at h
   obtain⟨rfl,rfl⟩:=h
   simp[gK,c]
  ·rw[if_neg c]at h
   obtain⟨h1,h2,h3,h4⟩:=n6 q v m (i+1) j u h
   refine⟨by omega,by rw[List.length_cons];omega,?_,?_⟩
   ·rw[gK,if_neg c,h3,show j-i=(j-(i+1))+1 by omega];rfl
   ·rw[show j-i=(j-(i+1))+1 by omega];simpa using h4
theorem k5 (q q':κ)(v:Value):∀(m:List (κ × Value)),jc q' (gK q v m)=if q'=q then some v else jc q' m:=by
 have key:∀(m:List (κ × Value)) (i j:Nat),(pL q' (gK q v m) i).map (·.2)=if q'=q then some v else(pL q' m j).map (·.2):=by
  intro m
  induction m with
  |nil=>intro i j;by_cases c:q'=q <;> simp[gK,pL,c]
  |cons p m ih=>
   intro i j
   unfold gK
   by_cases c:q=p.1
   ·rw[if_pos c]
    unfold pL
    by_cases d:q'=p.1
    ·simp[d,c]
    ·have hd:q'≠q:=by rw[c];exact d
     simp only[if_neg d,if_neg hd]
     have gen:∀(m:List (κ × Value)) (i j:Nat),(pL q' m i).map (·.2)=(pL q' m j).map (·.2):=by
      intro m
      induction m with
      |nil=>intro i j;rfl
      |cons p m ih=>intro i j;unfold pL;split <;> simp[ih (i+1) (j+1)]
     exact gen m _ _
   ·rw[if_neg c]
    unfold pL
    by_cases d:q'=p.1
    ·have hd:q'≠q:=by rw[d];exact fun e=>c e.symm
     simp[if_pos d,if_neg hd]
    ·simp only[if_neg d];exact ih _ _
 exact fun m=>key m 0 0
theorem sat.putObj {w:World}{g:Nat}{o:Obj}(o':Obj)(H:sat W (pt g o::L) w):sat W (pt g o'::L) {w with heap:=w.heap.setIfInBounds g o'}:=by
 have hg:=H.pt_.1
 have hlt:=(Array.getElem?_eq_some_iff.1 hg).1
 exact H.turn rfl rfl rfl (by simp) (by simp[hlt]) (fun i hi=>by simp[Array.getElem?_setIfInBounds_ne (Ne.symm hi)])
theorem pX {es:Array MapEntry}{m:List (κ × Value)}(h:es.toList.map kv=m.map (Dg enc)){i:Nat}{p:κ × Value}(hp:m[i]? =some p):∃e,es[i]? =some e/\e.key=enc p.1/\e.val=p.2:=by
 have h1:(es.toList.map kv)[i]? =some (Dg enc p):=by rw[h,List.getElem?_map,hp];rfl
 rw[List.getElem?_map,Array.getElem?_toList]at h1
 cases he:es[i]? with
 |none=>rw[he]at h1;cases h1
 |some e=>
  rw[he]at h1
  simp[kv,Dg]at h1
  exact⟨e,rfl,h1.1,h1.2⟩
theorem Ents.put {es:Array MapEntry}{c i:Nat}{m:List (κ × Value)}{q:κ}{u v:Value}(h:Ents enc es c m)(hi:m[i]? =some (q,u)):Ents enc (es.modify i fun e=>{e with key:=enc q,val:=v}) c (m.set i (q,v)):=by
 obtain⟨e,he,h1,h2⟩:=pX h.kvs hi
 have hlt:=(Array.getElem?_eq_some_iff.1 he).1
 refine⟨?_,?_,?_⟩
 ·apply List.ext_getElem?
  intro j
  rw[List.getElem?_map,Array.getElem?_toList,Array.getElem?_modify,List.getElem?_map,List.getElem?_set]
  have hj:(es[j]?).map kv=(m[j]?).map (Dg enc):=by
   have:=congrArg (fun l=>l[j]?) h.kvs
   simpa using this
  by_cases c:i=j
  ·subst c
   have hml:=(List.getElem?_eq_some_iff.1 hi).1
   rw[if_pos rfl,if_pos rfl,if_pos hml,he];rfl
  ·rw[if_neg c,if_neg c];exact hj
 ·intro e' he'
  obtain⟨j,hj⟩:=List.mem_iff_getElem?.1 he'
  rw[Array.getElem?_toList,Array.getElem?_modify]at hj
  split at hj
  ·cases hx:es[j]? with
   |none=>rw[hx]at hj;cases hj
   |some x=>
    rw[hx]at hj
    have:=Option.some.inj hj
    rw[<- this]
    exact h.born x (List.mem_iff_getElem?.2 ⟨j,by rw[Array.getElem?_toList];exact hx⟩)
  ·exact h.born e' (List.mem_iff_getElem?.2 ⟨j,by rw[Array.getElem?_toList];exact hj⟩)
 ·have e0:(es.modify i fun e=>{e with key:=enc q,val:=v}).toList.map (·.born)=es.toList.map (·.born):=by
   apply List.ext_getElem?
   intro j
   rw[List.getElem?_map,Array.getElem?_toList,Array.getElem?_modify,List.getElem?_map,Array.getElem?_toList]
   split
   ·cases es[j]? <;> rfl
   ·rfl
  rw[e0];exact h.nodup
theorem Ents.push {es:Array MapEntry}{c:Nat}{m:List (κ × Value)}{q:κ}{v:Value}(h:Ents enc es c m):Ents enc (es.push {key:=enc q,val:=v,born:=c}) (c+1) (m++[(q,v)]):=by
 refine⟨by simp[h.kvs,kv,Dg],fun e he=>?_,?_⟩
 ·simp at he
  rcases he with he|rfl
  ·have:=h.born e (by simpa using he);omega
  ·simp
 ·simp only[Array.toList_push,List.map_append,List.map_cons,List.map_nil]
  refine List.nodup_append.2 ⟨h.nodup,by simp,?_⟩
  intro a ha b hb
  obtain⟨e,he,rfl⟩:=List.mem_map.1 ha
  simp at hb;subst hb
  have:=h.born e he;omega
theorem wq {e:TypeId}{g:Nat}{m:List (κ × Value)}{q:κ}{v:Value}[ht:MapT P t kt e](K:KeyLaw P kt enc)(p:Pick L (gJ g enc m) L')(h:aZ W (gJ g enc (gK q v m)::L') (k undef)):aZ W L (opN P (iW t (.map (some g)) (enc q) v) Kp k):=fun w hw=>by
 obtain⟨es,c,he,hp⟩:=mM (hw.pick p)
 have hg:=hp.pt_.1
 have hf:=i6 K q w he.kvs
 refine⟨?_⟩
 cases hq:pL q m 0 with
 |none=>
  have:(iW t (.map (some g)) (enc q) v).run P w= .ok .skip {w with heap:=w.heap.setIfInBounds g (.map (es.push {key:=enc q,val:=v,born:=c}) (c+1))}:=by
   simp[iW,Instr.mapUpdate,run_underlying ht.ut,MapKept.run_getObj_map hg,K.check,hf,hq,Result.andThen,MapKept.run_setObj_map _ hg]
  rw[this]
  refine h _ (mN ?_ (hp.putObj _))
  rw[n5 q v m 0 hq];exact he.push
 |some r=>
  obtain⟨i,u⟩:=r
  obtain⟨_,h2,h3,h4⟩:=n6 q v m 0 i u hq
  rw[Nat.sub_zero]at h2 h3 h4
  obtain⟨en,hen,e1,e2⟩:=pX he.kvs h4
  have hk:(Instr.keyThatStays (((es[i]?).map (·.key)).getD (enc q)) (enc q)).run P w= .ok (enc q) w:=by
   rw[hen]
   simp only[Option.map_some,Option.getD_some,e1]
   unfold Instr.keyThatStays
   rw[if_pos (K.same q)];rfl
  have:(iW t (.map (some g)) (enc q) v).run P w= .ok .skip {w with heap:=w.heap.setIfInBounds g (.map (es.modify i fun e=>{e with key:=enc q,val:=v}) c)}:=by
   simp[iW,Instr.mapUpdate,run_underlying ht.ut,MapKept.run_getObj_map hg,K.check,hf,hq,Result.andThen,hk,MapKept.run_setObj_map _ hg]
  rw[this]
  refine h _ (mN ?_ (hp.putObj _))
  rw[h3];exact he.put h4
end Sl
namespace T
open Go Go.Proofs Sh Sl
theorem eS {P : Program} {t : TypeId} {fs : Array Field} {f ft o n : Nat} (hu : ∀ w, (underlying t).run P w = .ok (.struct fs) w) (hf : (fs[f]?).map (fun x => (x.type, x.offset)) = some (ft, o)) (hs : ∀ w, (sizeOf ft).run P w = .ok (n + 1) w) : FldT P t f o :=
 ⟨fun g b w => by
  cases h : fs[f]? with
  | none => rw [h] at hf; cases hf
  | some fl =>
   rw [h] at hf
   simp only [Option.map_some, Option.some.injEq, Prod.mk.injEq] at hf
   obtain ⟨rfl, rfl⟩ := hf
   simp only [Instr.fieldAt, Sem.run_bind, hu, Result.andThen_ok, h, Instr.sureAddr, fieldPlace, hs, Sem.run_pure]
   by_cases h0 : fl.offset = 0 <;> simp [Addr.add, h0]⟩
theorem Bz {P:Program}{t e:TypeId}{i:TypeInfo}{z:Value}{s b:Nat}(hu:P.underlying t=some (.slice e))(hi:P.info? e=some i)(hz:i.zero=some z)(hs:i.size=s)(hb:i.bytes=b)(hzs:z.cells.size=s):SlT P t e s b:=⟨hu,i,z,hi,hz,hs,hb,hzs⟩
instance S1:OneT p_ 1:=⟨Tryz.isAgg1,Tryz.sizeOf1⟩
instance S2:IntT p_ 2 .i64:=⟨Tryz.runUnderlying2⟩
instance S3:OneT p_ 3:=⟨Tryz.isAgg3,Tryz.sizeOf3⟩
instance RN:ZeroT p_ 3 (.int .i64 0):=⟨Tryz.zeroValue3⟩
instance S4:IntT p_ 3 .i64:=⟨Tryz.runUnderlying3⟩
instance S5:OneT p_ 4:=⟨Tryz.isAgg4,Tryz.sizeOf4⟩
instance RP:ZeroT p_ 4 (.bool false):=⟨Tryz.zeroValue4⟩
instance S6:OneT p_ 5:=⟨Tryz.isAgg5,Tryz.sizeOf5⟩
instance RQ:ZeroT p_ 5 (.int .u8 0):=⟨Tryz.zeroValue5⟩
instance S7:IntT p_ 5 .u8:=⟨Tryz.runUnderlying5⟩
instance S8:OneT p_ 9:=⟨Tryz.isAgg9,Tryz.sizeOf9⟩
instance S9:StrT p_ 9:=⟨Tryz.underlying9⟩
instance RR:OneT p_ 22:=⟨Tryz.isAgg22,Tryz.sizeOf22⟩
instance S_:SlT p_ 22 52 2 32:=Bz (z:=(.agg #[(.string ⟨#[]⟩),(.string ⟨#[]⟩)])) Tryz.underlying22 (i:=Tryz.t52) (by kernel_rfl) (by kernel_rfl) (by kernel_rfl) (by kernel_rfl) (by kernel_rfl)
instance RS:OneT p_ 23:=⟨Tryz.isAgg23,Tryz.sizeOf23⟩
instance Qb:ZeroT p_ 23 (.slice none 0 0):=⟨Tryz.zeroValue23⟩
instance N6:BytesT p_ 23:=⟨_,Tryz.underlying23,Tryz.underlying5⟩
instance Ta:SlT p_ 23 5 1 1:=Bz (z:=(.int .u8 0)) Tryz.underlying23 (i:=Tryz.t5) (by kernel_rfl) (by kernel_rfl) (by kernel_rfl) (by kernel_rfl) (by kernel_rfl)
instance Qc:ZeroT p_ 25 (.agg #[(.int .i64 0),(.slice none 0 0),(.slice none 0 0)]):=⟨Tryz.zeroValue25⟩
instance RT:AggT p_ 25 3:=⟨Tryz.isAgg25,Tryz.sizeOf25⟩
instance N7:FldT p_ 25 0 0:=eS Tryz.runUnderlying25 (ft:=3) (by kernel_rfl) Tryz.sizeOf3
instance N8:FldT p_ 25 1 1:=eS Tryz.runUnderlying25 (ft:=22) (by kernel_rfl) Tryz.sizeOf22
instance N9:FldT p_ 25 2 2:=eS Tryz.runUnderlying25 (ft:=23) (by kernel_rfl) Tryz.sizeOf23
instance RU:OneT p_ 27:=⟨Tryz.isAgg27,Tryz.sizeOf27⟩
instance Qd:ZeroT p_ 27 (.int .i64 0):=⟨Tryz.zeroValue27⟩
instance RW:IntT p_ 27 .i64:=⟨Tryz.runUnderlying27⟩
instance RX:OneT p_ 34:=⟨Tryz.isAgg34,Tryz.sizeOf34⟩
instance Tb:SlT p_ 36 9 1 16:=Bz (z:=(.string ⟨#[]⟩)) Tryz.underlying36 (i:=Tryz.t9) (by kernel_rfl) (by kernel_rfl) (by kernel_rfl) (by kernel_rfl) (by kernel_rfl)
instance Qe:ZeroT p_ 48 (.agg #[(.bool false),(.string ⟨#[]⟩)]):=⟨Tryz.zeroValue48⟩
instance RY:AggT p_ 48 2:=⟨Tryz.isAgg48,Tryz.sizeOf48⟩
instance N_:FldT p_ 48 0 0:=eS Tryz.runUnderlying48 (ft:=4) (by kernel_rfl) Tryz.sizeOf4
instance Oa:FldT p_ 48 1 1:=eS Tryz.runUnderlying48 (ft:=9) (by kernel_rfl) Tryz.sizeOf9
instance Qf:ZeroT p_ 52 (.agg #[(.string ⟨#[]⟩),(.string ⟨#[]⟩)]):=⟨Tryz.zeroValue52⟩
instance RZ:AggT p_ 52 2:=⟨Tryz.isAgg52,Tryz.sizeOf52⟩
instance Ob:FldT p_ 52 0 0:=eS Tryz.runUnderlying52 (ft:=9) (by kernel_rfl) Tryz.sizeOf9
instance Oc:FldT p_ 52 1 1:=eS Tryz.runUnderlying52 (ft:=9) (by kernel_rfl) Tryz.sizeOf9
instance Qg:ZeroT p_ 61 (.agg #[.nilFunc,.nilFunc,.nilFunc,.nilFunc]):=⟨Tryz.zeroValue61⟩
instance R0:AggT p_ 61 4:=⟨Tryz.isAgg61,Tryz.sizeOf61⟩
instance R1:ArrT p_ 61 4 34 1:=⟨Tryz.runUnderlying61,Tryz.sizeOf34⟩
instance R2:OneT p_ 62:=⟨Tryz.isAgg62,Tryz.sizeOf62⟩
instance Qh:ZeroT p_ 62 (.slice none 0 0):=⟨Tryz.zeroValue62⟩
instance Tc:SlT p_ 62 67 2 24:=Bz (z:=(.agg #[(.string ⟨#[]⟩),(.int .i64 0)])) Tryz.underlying62 (i:=Tryz.t67) (by kernel_rfl) (by kernel_rfl) (by kernel_rfl) (by kernel_rfl) (by kernel_rfl)
instance R3:OneT p_ 65:=⟨Tryz.isAgg65,Tryz.sizeOf65⟩
instance Qi:ZeroT p_ 65 (.map none):=⟨Tryz.zeroValue65⟩
instance R4:MapT p_ 65 9 3:=⟨Tryz.underlying65⟩
instance Qj:ZeroT p_ 67 (.agg #[(.string ⟨#[]⟩),(.int .i64 0)]):=⟨Tryz.zeroValue67⟩
instance R5:AggT p_ 67 2:=⟨Tryz.isAgg67,Tryz.sizeOf67⟩
instance Od:FldT p_ 67 0 0:=eS Tryz.runUnderlying67 (ft:=9) (by kernel_rfl) Tryz.sizeOf9
instance Oe:FldT p_ 67 1 1:=eS Tryz.runUnderlying67 (ft:=3) (by kernel_rfl) Tryz.sizeOf3
instance R6:ArrT p_ 69 2 9 1:=⟨Tryz.runUnderlying69,Tryz.sizeOf9⟩
instance R7:OneT p_ 74:=⟨Tryz.isAgg74,Tryz.sizeOf74⟩
instance Qk:ZeroT p_ 74 (.slice none 0 0):=⟨Tryz.zeroValue74⟩
instance Te:SlT p_ 74 78 3 40:=Bz (z:=(.agg #[(.string ⟨#[]⟩),(.string ⟨#[]⟩),(.bool false)])) Tryz.underlying74 (i:=Tryz.t78) (by kernel_rfl) (by kernel_rfl) (by kernel_rfl) (by kernel_rfl) (by kernel_rfl)
instance Ql:ZeroT p_ 78 (.agg #[(.string ⟨#[]⟩),(.string ⟨#[]⟩),(.bool false)]):=⟨Tryz.zeroValue78⟩
instance R8:AggT p_ 78 3:=⟨Tryz.isAgg78,Tryz.sizeOf78⟩
instance Of:FldT p_ 78 0 0:=eS Tryz.runUnderlying78 (ft:=9) (by kernel_rfl) Tryz.sizeOf9
instance Og:FldT p_ 78 1 1:=eS Tryz.runUnderlying78 (ft:=9) (by kernel_rfl) Tryz.sizeOf9
instance Oh:FldT p_ 78 2 2:=eS Tryz.runUnderlying78 (ft:=4) (by kernel_rfl) Tryz.sizeOf4
instance R9:OneT p_ 94:=⟨Tryz.isAgg94,Tryz.sizeOf94⟩
instance R_:AggT p_ 96 3:=⟨Tryz.isAgg96,Tryz.sizeOf96⟩
instance Oi:FldT p_ 96 0 0:=eS Tryz.runUnderlying96 (ft:=4) (by kernel_rfl) Tryz.sizeOf4
instance Oj:FldT p_ 96 1 1:=eS Tryz.runUnderlying96 (ft:=4) (by kernel_rfl) Tryz.sizeOf4
instance Ol:FldT p_ 96 2 2:=eS Tryz.runUnderlying96 (ft:=94) (by kernel_rfl) Tryz.sizeOf94
instance Sa:AggT p_ 97 256:=⟨Tryz.isAgg97,Tryz.sizeOf97⟩
instance Sb:ArrT p_ 97 256 3 1:=⟨Tryz.runUnderlying97,Tryz.sizeOf3⟩
instance Qn:OneT p_ 101:=⟨Tryz.isAgg101,Tryz.sizeOf101⟩
instance Qo:AggT p_ 103 3:=⟨Tryz.isAgg103,Tryz.sizeOf103⟩
instance Ma:FldT p_ 103 0 0:=eS Tryz.runUnderlying103 (ft:=4) (by kernel_rfl) Tryz.sizeOf4
instance Mb:FldT p_ 103 1 1:=eS Tryz.runUnderlying103 (ft:=4) (by kernel_rfl) Tryz.sizeOf4
instance Mc:FldT p_ 103 2 2:=eS Tryz.runUnderlying103 (ft:=101) (by kernel_rfl) Tryz.sizeOf101
instance Qp:OneT p_ 105:=⟨Tryz.isAgg105,Tryz.sizeOf105⟩
instance Md:FldT p_ 107 0 0:=eS Tryz.runUnderlying107 (ft:=23) (by kernel_rfl) Tryz.sizeOf23
instance Qq:OneT p_ 112:=⟨Tryz.isAgg112,Tryz.sizeOf112⟩
instance Qr:IntT p_ 112 .u32:=⟨Tryz.runUnderlying112⟩
instance Me:FldT p_ 116 0 0:=eS Tryz.runUnderlying116 (ft:=23) (by kernel_rfl) Tryz.sizeOf23
instance Mf:FldT p_ 116 1 1:=eS Tryz.runUnderlying116 (ft:=3) (by kernel_rfl) Tryz.sizeOf3
instance Mg:FldT p_ 116 2 2:=eS Tryz.runUnderlying116 (ft:=3) (by kernel_rfl) Tryz.sizeOf3
instance Om:ZeroT p_ 121 (.agg #[(.pointer none),(.slice none 0 0)]):=⟨Tryz.zeroValue121⟩
instance Mh:FldT p_ 121 1 1:=eS Tryz.runUnderlying121 (ft:=23) (by kernel_rfl) Tryz.sizeOf23
instance Qt:OneT p_ 124:=⟨Tryz.isAgg124,Tryz.sizeOf124⟩
instance Qu:AggT p_ 135 256:=⟨Tryz.isAgg135,Tryz.sizeOf135⟩
instance Qv:ArrT p_ 135 256 4 1:=⟨Tryz.runUnderlying135,Tryz.sizeOf4⟩
instance On:ZeroT p_ 142 (.agg #[(.int .u8 0),(.int .u8 0),(.int .u8 0)]):=⟨Tryz.zeroValue142⟩
instance Qw:AggT p_ 142 3:=⟨Tryz.isAgg142,Tryz.sizeOf142⟩
instance Qx:ArrT p_ 142 3 5 1:=⟨Tryz.runUnderlying142,Tryz.sizeOf5⟩
instance Oo:ZeroT p_ 144 (.agg #[(.int .i64 0),.nilFunc]):=⟨Tryz.zeroValue144⟩
instance Qy:AggT p_ 144 2:=⟨Tryz.isAgg144,Tryz.sizeOf144⟩
instance Mi:FldT p_ 144 0 0:=eS Tryz.runUnderlying144 (ft:=3) (by kernel_rfl) Tryz.sizeOf3
instance Mj:FldT p_ 144 1 1:=eS Tryz.runUnderlying144 (ft:=1) (by kernel_rfl) Tryz.sizeOf1
instance Oq:ZeroT p_ 145 (.agg #[(.int .i64 0),.nilFunc,(.int .i64 0),.nilFunc,(.int .i64 0),.nilFunc]):=⟨Tryz.zeroValue145⟩
instance Qz:AggT p_ 145 6:=⟨Tryz.isAgg145,Tryz.sizeOf145⟩
instance QA:ArrT p_ 145 3 144 2:=⟨Tryz.runUnderlying145,Tryz.sizeOf144⟩
instance QB:OneT p_ 146:=⟨Tryz.isAgg146,Tryz.sizeOf146⟩
instance Ot:ZeroT p_ 146 (.slice none 0 0):=⟨Tryz.zeroValue146⟩
instance Sc:SlT p_ 146 188 2 16:=Bz (z:=(.agg #[(.int .i64 0),(.int .i64 0)])) Tryz.underlying146 (i:=Tryz.t188) (by kernel_rfl) (by kernel_rfl) (by kernel_rfl) (by kernel_rfl) (by kernel_rfl)
instance QC:IntT p_ 149 .u64:=⟨Tryz.runUnderlying149⟩
instance Sd:SlT p_ 151 201 2 16:=Bz (z:=(.agg #[(.int .i64 0),(.int .i64 0)])) Tryz.underlying151 (i:=Tryz.t201) (by kernel_rfl) (by kernel_rfl) (by kernel_rfl) (by kernel_rfl) (by kernel_rfl)
instance QD:OneT p_ 156:=⟨Tryz.isAgg156,Tryz.sizeOf156⟩
instance QE:PtrT p_ 156:=⟨by kernel_rfl⟩
instance QF:OneT p_ 158:=⟨Tryz.isAgg158,Tryz.sizeOf158⟩
instance Ou:ZeroT p_ 158 (.slice none 0 0):=⟨Tryz.zeroValue158⟩
instance Se:SlT p_ 158 162 3 56:=Bz (z:=(.agg #[(.slice none 0 0),(.slice none 0 0),(.int .i64 0)])) Tryz.underlying158 (i:=Tryz.t162) (by kernel_rfl) (by kernel_rfl) (by kernel_rfl) (by kernel_rfl) (by kernel_rfl)
instance QG:OneT p_ 160:=⟨Tryz.isAgg160,Tryz.sizeOf160⟩
instance Ov:ZeroT p_ 160 (.slice none 0 0):=⟨Tryz.zeroValue160⟩
instance Sf:SlT p_ 160 209 3 24:=Bz (z:=(.agg #[(.int .i64 0),(.int .i64 0),(.int .u8 0)])) Tryz.underlying160 (i:=Tryz.t209) (by kernel_rfl) (by kernel_rfl) (by kernel_rfl) (by kernel_rfl) (by kernel_rfl)
instance Ow:ZeroT p_ 162 (.agg #[(.slice none 0 0),(.slice none 0 0),(.int .i64 0)]):=⟨Tryz.zeroValue162⟩
instance QH:AggT p_ 162 3:=⟨Tryz.isAgg162,Tryz.sizeOf162⟩
instance Ml:FldT p_ 162 0 0:=eS Tryz.runUnderlying162 (ft:=160) (by kernel_rfl) Tryz.sizeOf160
instance Mm:FldT p_ 162 1 1:=eS Tryz.runUnderlying162 (ft:=23) (by kernel_rfl) Tryz.sizeOf23
instance Mn:FldT p_ 162 2 2:=eS Tryz.runUnderlying162 (ft:=3) (by kernel_rfl) Tryz.sizeOf3
instance Ox:ZeroT p_ 169 (.agg #[(.int .u8 0),(.int .u8 0),(.int .u8 0),(.int .u8 0),(.int .u8 0),(.int .u8 0),(.int .u8 0),(.int .u8 0),(.int .u8 0),(.int .u8 0),(.int .u8 0),(.int .u8 0),(.int .u8 0),(.int .u8 0),(.int .u8 0),(.int .u8 0),(.int .u8 0),(.int .u8 0),(.int .u8 0),(.int .u8 0),(.int .u8 0),(.int .u8 0),(.int .u8 0),(.int .u8 0)]):=⟨Tryz.zeroValue169⟩
instance QI:ArrT p_ 169 24 5 1:=⟨Tryz.runUnderlying169,Tryz.sizeOf5⟩
instance QJ:OneT p_ 170:=⟨Tryz.isAgg170,Tryz.sizeOf170⟩
instance QK:IntT p_ 170 .u64:=⟨Tryz.runUnderlying170⟩
instance QL:OneT p_ 181:=⟨Tryz.isAgg181,Tryz.sizeOf181⟩
instance QM:PtrT p_ 181:=⟨by kernel_rfl⟩
instance Mo:FldT p_ 184 0 0:=eS Tryz.runUnderlying184 (ft:=181) (by kernel_rfl) Tryz.sizeOf181
instance Mp:FldT p_ 184 1 1:=eS Tryz.runUnderlying184 (ft:=23) (by kernel_rfl) Tryz.sizeOf23
instance Mq:FldT p_ 184 2 2:=eS Tryz.runUnderlying184 (ft:=3) (by kernel_rfl) Tryz.sizeOf3
instance QN:OneT p_ 185:=⟨Tryz.isAgg185,Tryz.sizeOf185⟩
instance Oy:ZeroT p_ 186 (.agg #[.nilFunc,.nilFunc,.nilFunc,.nilFunc]):=⟨Tryz.zeroValue186⟩
instance QO:AggT p_ 186 4:=⟨Tryz.isAgg186,Tryz.sizeOf186⟩
instance QP:ArrT p_ 186 4 185 1:=⟨Tryz.runUnderlying186,Tryz.sizeOf185⟩
instance QQ:AggT p_ 190 256:=⟨Tryz.isAgg190,Tryz.sizeOf190⟩
instance QR:ArrT p_ 190 256 112 1:=⟨Tryz.runUnderlying190,Tryz.sizeOf112⟩
instance QS:OneT p_ 193:=⟨Tryz.isAgg193,Tryz.sizeOf193⟩
instance Mr:FldT p_ 196 0 0:=eS Tryz.runUnderlying196 (ft:=193) (by kernel_rfl) Tryz.sizeOf193
instance Ms:FldT p_ 196 1 1:=eS Tryz.runUnderlying196 (ft:=23) (by kernel_rfl) Tryz.sizeOf23
instance Mt:FldT p_ 196 2 2:=eS Tryz.runUnderlying196 (ft:=3) (by kernel_rfl) Tryz.sizeOf3
instance Mu:FldT p_ 196 3 3:=eS Tryz.runUnderlying196 (ft:=3) (by kernel_rfl) Tryz.sizeOf3
instance QT:OneT p_ 197:=⟨Tryz.isAgg197,Tryz.sizeOf197⟩
instance Oz:ZeroT p_ 197 (.slice none 0 0):=⟨Tryz.zeroValue197⟩
instance Si:SlT p_ 197 3 1 8:=Bz (z:=(.int .i64 0)) Tryz.underlying197 (i:=Tryz.t3) (by kernel_rfl) (by kernel_rfl) (by kernel_rfl) (by kernel_rfl) (by kernel_rfl)
instance Mv:FldT p_ 203 0 0:=eS Tryz.runUnderlying203 (ft:=23) (by kernel_rfl) Tryz.sizeOf23
instance Mw:FldT p_ 203 1 1:=eS Tryz.runUnderlying203 (ft:=3) (by kernel_rfl) Tryz.sizeOf3
instance Mx:FldT p_ 205 0 0:=eS Tryz.runUnderlying205 (ft:=23) (by kernel_rfl) Tryz.sizeOf23
instance My:FldT p_ 205 1 1:=eS Tryz.runUnderlying205 (ft:=3) (by kernel_rfl) Tryz.sizeOf3
instance Mz:FldT p_ 205 2 2:=eS Tryz.runUnderlying205 (ft:=4) (by kernel_rfl) Tryz.sizeOf4
instance OA:ZeroT p_ 209 (.agg #[(.int .i64 0),(.int .i64 0),(.int .u8 0)]):=⟨Tryz.zeroValue209⟩
instance QU:AggT p_ 209 3:=⟨Tryz.isAgg209,Tryz.sizeOf209⟩
instance MA:FldT p_ 209 0 0:=eS Tryz.runUnderlying209 (ft:=3) (by kernel_rfl) Tryz.sizeOf3
instance MB:FldT p_ 209 1 1:=eS Tryz.runUnderlying209 (ft:=3) (by kernel_rfl) Tryz.sizeOf3
instance MC:FldT p_ 209 2 2:=eS Tryz.runUnderlying209 (ft:=5) (by kernel_rfl) Tryz.sizeOf5
instance QV:OneT p_ 210:=⟨Tryz.isAgg210,Tryz.sizeOf210⟩
instance OB:ZeroT p_ 212 (.agg #[.nilFunc,.nilFunc,.nilFunc]):=⟨Tryz.zeroValue212⟩
instance QW:AggT p_ 212 3:=⟨Tryz.isAgg212,Tryz.sizeOf212⟩
instance QX:ArrT p_ 212 3 210 1:=⟨Tryz.runUnderlying212,Tryz.sizeOf210⟩
instance Sj:SlT p_ 214 210 1 8:=Bz (z:= .nilFunc) Tryz.underlying214 (i:=Tryz.t210) (by kernel_rfl) (by kernel_rfl) (by kernel_rfl) (by kernel_rfl) (by kernel_rfl)
instance QY:ArrT p_ 220 20 170 1:=⟨Tryz.runUnderlying220,Tryz.sizeOf170⟩
instance MD:FldT p_ 227 0 0:=eS Tryz.runUnderlying227 (ft:=23) (by kernel_rfl) Tryz.sizeOf23
instance ME:FldT p_ 227 1 1:=eS Tryz.runUnderlying227 (ft:=3) (by kernel_rfl) Tryz.sizeOf3
instance MF:FldT p_ 229 0 0:=eS Tryz.runUnderlying229 (ft:=227) (by kernel_rfl) Tryz.sizeOf227
instance MG:FldT p_ 229 1 2:=eS Tryz.runUnderlying229 (ft:=4) (by kernel_rfl) Tryz.sizeOf4
instance QZ:PtrT p_ 234:=⟨by kernel_rfl⟩
instance OD:ZeroT p_ 236 (.agg #[(.int .i64 0),(.int .i64 0),(.int .i64 0),(.int .i64 0),(.int .i64 0),(.int .i64 0),(.int .i64 0),(.int .i64 0),(.int .i64 0),(.int .i64 0),(.int .i64 0),(.int .i64 0),(.int .i64 0),(.int .i64 0),(.int .i64 0),(.int .i64 0),(.int .i64 0),(.int .i64 0),(.int .i64 0)]):=⟨Tryz.zeroValue236⟩
instance Q0:AggT p_ 236 19:=⟨Tryz.isAgg236,Tryz.sizeOf236⟩
instance Q1:ArrT p_ 236 19 3 1:=⟨Tryz.runUnderlying236,Tryz.sizeOf3⟩
instance Q2:OneT p_ 250:=⟨Tryz.isAgg250,Tryz.sizeOf250⟩
instance Q3:OneT p_ 251:=⟨Tryz.isAgg251,Tryz.sizeOf251⟩
instance Q4:MapT p_ 251 142 197:=⟨Tryz.underlying251⟩
instance MH:FldT p_ 253 0 0:=eS Tryz.runUnderlying253 (ft:=23) (by kernel_rfl) Tryz.sizeOf23
instance MI:FldT p_ 253 1 1:=eS Tryz.runUnderlying253 (ft:=251) (by kernel_rfl) Tryz.sizeOf251
instance MJ:FldT p_ 253 2 2:=eS Tryz.runUnderlying253 (ft:=3) (by kernel_rfl) Tryz.sizeOf3
instance MK:FldT p_ 253 3 3:=eS Tryz.runUnderlying253 (ft:=3) (by kernel_rfl) Tryz.sizeOf3
instance ML:FldT p_ 253 4 4:=eS Tryz.runUnderlying253 (ft:=3) (by kernel_rfl) Tryz.sizeOf3
instance OE:ZeroT p_ 258 (.agg #[(.slice none 0 0),(.slice none 0 0)]):=⟨Tryz.zeroValue258⟩
instance Q5:AggT p_ 258 2:=⟨Tryz.isAgg258,Tryz.sizeOf258⟩
instance MM:FldT p_ 258 0 0:=eS Tryz.runUnderlying258 (ft:=197) (by kernel_rfl) Tryz.sizeOf197
instance MN:FldT p_ 258 1 1:=eS Tryz.runUnderlying258 (ft:=197) (by kernel_rfl) Tryz.sizeOf197
instance OF:ZeroT p_ 266 (.agg #[(.int .u8 0),(.int .u8 0),(.int .u8 0),(.int .u8 0),(.int .u8 0),(.int .u8 0),(.int .u8 0),(.int .u8 0)]):=⟨Tryz.zeroValue266⟩
instance Q6:AggT p_ 266 8:=⟨Tryz.isAgg266,Tryz.sizeOf266⟩
instance Q7:ArrT p_ 266 8 5 1:=⟨Tryz.runUnderlying266,Tryz.sizeOf5⟩
instance OG:ZeroT p_ 280 (.agg #[(.int .i64 0),(.int .i64 0),(.int .i64 0),(.int .i64 0),(.int .i64 0),(.int .i64 0),(.int .i64 0),(.int .i64 0),(.int .i64 0),(.int .i64 0),(.int .i64 0),(.int .i64 0),(.int .i64 0),(.int .i64 0),(.int .i64 0),(.int .i64 0)]):=⟨Tryz.zeroValue280⟩
instance Q8:AggT p_ 280 16:=⟨Tryz.isAgg280,Tryz.sizeOf280⟩
instance Q9:ArrT p_ 280 16 3 1:=⟨Tryz.runUnderlying280,Tryz.sizeOf3⟩
instance MO:FldT p_ 288 0 0:=eS Tryz.runUnderlying288 (ft:=197) (by kernel_rfl) Tryz.sizeOf197
instance MP:FldT p_ 288 1 1:=eS Tryz.runUnderlying288 (ft:=197) (by kernel_rfl) Tryz.sizeOf197
instance MQ:FldT p_ 288 2 2:=eS Tryz.runUnderlying288 (ft:=4) (by kernel_rfl) Tryz.sizeOf4
instance OH:ZeroT p_ 299 (.agg #[(.slice none 0 0),(.slice none 0 0)]):=⟨Tryz.zeroValue299⟩
instance Q_:AggT p_ 299 2:=⟨Tryz.isAgg299,Tryz.sizeOf299⟩
instance Ra:ArrT p_ 299 2 197 1:=⟨Tryz.runUnderlying299,Tryz.sizeOf197⟩
instance OI:ZeroT p_ 306 (.agg #[(.int .i64 0),(.int .i64 0),(.int .i64 0)]):=⟨Tryz.zeroValue306⟩
instance Rb:AggT p_ 306 3:=⟨Tryz.isAgg306,Tryz.sizeOf306⟩
instance MR:FldT p_ 306 0 0:=eS Tryz.runUnderlying306 (ft:=3) (by kernel_rfl) Tryz.sizeOf3
instance MS:FldT p_ 306 1 1:=eS Tryz.runUnderlying306 (ft:=3) (by kernel_rfl) Tryz.sizeOf3
instance MT:FldT p_ 306 2 2:=eS Tryz.runUnderlying306 (ft:=3) (by kernel_rfl) Tryz.sizeOf3
instance Rc:OneT p_ 311:=⟨Tryz.isAgg311,Tryz.sizeOf311⟩
instance Rd:MapT p_ 311 315 3:=⟨Tryz.underlying311⟩
instance MU:FldT p_ 313 0 0:=eS Tryz.runUnderlying313 (ft:=311) (by kernel_rfl) Tryz.sizeOf311
instance OJ:ZeroT p_ 315 (.agg #[(.int .i64 0),(.int .i64 0)]):=⟨Tryz.zeroValue315⟩
instance Re:AggT p_ 315 2:=⟨Tryz.isAgg315,Tryz.sizeOf315⟩
instance MV:FldT p_ 315 0 0:=eS Tryz.runUnderlying315 (ft:=3) (by kernel_rfl) Tryz.sizeOf3
instance MW:FldT p_ 315 1 1:=eS Tryz.runUnderlying315 (ft:=3) (by kernel_rfl) Tryz.sizeOf3
instance Sk:SlT p_ 317 319 2 32:=Bz (z:=(.agg #[(.int .i64 0),(.slice none 0 0)])) Tryz.underlying317 (i:=Tryz.t319) (by kernel_rfl) (by kernel_rfl) (by kernel_rfl) (by kernel_rfl) (by kernel_rfl)
instance Rf:AggT p_ 319 2:=⟨Tryz.isAgg319,Tryz.sizeOf319⟩
instance MX:FldT p_ 319 0 0:=eS Tryz.runUnderlying319 (ft:=3) (by kernel_rfl) Tryz.sizeOf3
instance MY:FldT p_ 319 1 1:=eS Tryz.runUnderlying319 (ft:=197) (by kernel_rfl) Tryz.sizeOf197
instance Rg:IntT p_ 325 .i64:=⟨Tryz.runUnderlying325⟩
instance Sm:SlT p_ 331 197 1 24:=Bz (z:=(.slice none 0 0)) Tryz.underlying331 (i:=Tryz.t197) (by kernel_rfl) (by kernel_rfl) (by kernel_rfl) (by kernel_rfl) (by kernel_rfl)
instance J6 {a0 a1:Value}[h0:OC a0][h1:OC a1]:RV p_ (aM 52 [(0,a0),(1,a1)]) (.agg #[a0,a1]):=⟨fun W w _=>by
 have c0:=ak h0.one;have c1:=ak h1.one;simp[aM,Instr.build,Tryz.zeroValue52,Tryz.runUnderlying52,Tryz.sizeOf9,bb,Instr.fill,c0,c1]⟩
instance GD {a0 a1 a2:Value}[h0:OC a0][h1:OC a1][h2:OC a2]:RV p_ (aM 25 [(0,a0),(1,a1),(2,a2)]) (.agg #[a0,a1,a2]):=⟨fun W w _=>by
 have c0:=ak h0.one;have c1:=ak h1.one;have c2:=ak h2.one;simp[aM,Instr.build,Tryz.zeroValue25,Tryz.runUnderlying25,Tryz.sizeOf3,Tryz.sizeOf22,Tryz.sizeOf23,bb,Instr.fill,c0,c1,c2]⟩
instance Dh {a0 a1 a2 a3:Value}[h0:OC a0][h1:OC a1][h2:OC a2][h3:OC a3]:RV p_ (aM 61 [(0,a0),(1,a1),(2,a2),(3,a3)]) (.agg #[a0,a1,a2,a3]):=⟨fun W w _=>by
 have c0:=ak h0.one;have c1:=ak h1.one;have c2:=ak h2.one;have c3:=ak h3.one;simp[aM,Instr.build,Tryz.zeroValue61,Tryz.runUnderlying61,Tryz.sizeOf34,bb,Instr.fill,c0,c1,c2,c3]⟩
instance J7 {a0 a1:Value}[h0:OC a0][h1:OC a1]:RV p_ (aM 69 [(0,a0),(1,a1)]) (.agg #[a0,a1]):=⟨fun W w _=>by
 have c0:=ak h0.one;have c1:=ak h1.one;simp[aM,Instr.build,Tryz.zeroValue69,Tryz.runUnderlying69,Tryz.sizeOf9,bb,Instr.fill,c0,c1]⟩
instance Rh  :RV p_ (aM 48 []) (.agg #[(.bool false),(.string ⟨#[]⟩)]):=⟨fun W w _=>by
   simp[aM,Instr.build,Tryz.zeroValue48,Tryz.runUnderlying48,Tryz.sizeOf4,Tryz.sizeOf9,bb,Instr.fill]⟩
instance OK {a0:Value}[h0:OC a0]:RV p_ (aM 96 [(2,a0)]) (.agg #[(.bool false),(.bool false),a0]):=⟨fun W w _=>by
 have c0:=ak h0.one;simp[aM,Instr.build,Tryz.zeroValue96,Tryz.runUnderlying96,Tryz.sizeOf4,Tryz.sizeOf94,bb,Instr.fill,c0]⟩
instance FY {a0 a1 a2:Value}[h0:OC a0][h1:OC a1][h2:OC a2]:RV p_ (aM 103 [(0,a0),(1,a1),(2,a2)]) (.agg #[a0,a1,a2]):=⟨fun W w _=>by
 have c0:=ak h0.one;have c1:=ak h1.one;have c2:=ak h2.one;simp[aM,Instr.build,Tryz.zeroValue103,Tryz.runUnderlying103,Tryz.sizeOf4,Tryz.sizeOf101,bb,Instr.fill,c0,c1,c2]⟩
instance J8 {a0 a1:Value}[h0:OC a0][h1:OC a1]:RV p_ (aM 48 [(0,a0),(1,a1)]) (.agg #[a0,a1]):=⟨fun W w _=>by
 have c0:=ak h0.one;have c1:=ak h1.one;simp[aM,Instr.build,Tryz.zeroValue48,Tryz.runUnderlying48,Tryz.sizeOf4,Tryz.sizeOf9,bb,Instr.fill,c0,c1]⟩
instance MZ {a0:Value}[h0:OC a0]:RV p_ (aM 107 [(0,a0)]) (.agg #[a0]):=⟨fun W w _=>by
 have c0:=ak h0.one;simp[aM,Instr.build,Tryz.zeroValue107,Tryz.runUnderlying107,Tryz.sizeOf23,bb,Instr.fill,c0]⟩
instance M2 {a0:Value}[h0:OC a0]:RV p_ (aM 116 [(0,a0)]) (.agg #[a0,(.int .i64 0),(.int .i64 0)]):=⟨fun W w _=>by
 have c0:=ak h0.one;simp[aM,Instr.build,Tryz.zeroValue116,Tryz.runUnderlying116,Tryz.sizeOf3,Tryz.sizeOf23,bb,Instr.fill,c0]⟩
instance J9 {a0 a1:Value}[h0:OC a0][h1:OC a1]:RV p_ (aM 67 [(0,a0),(1,a1)]) (.agg #[a0,a1]):=⟨fun W w _=>by
 have c0:=ak h0.one;have c1:=ak h1.one;simp[aM,Instr.build,Tryz.zeroValue67,Tryz.runUnderlying67,Tryz.sizeOf3,Tryz.sizeOf9,bb,Instr.fill,c0,c1]⟩
instance Ri  :RV p_ (aM 67 []) (.agg #[(.string ⟨#[]⟩),(.int .i64 0)]):=⟨fun W w _=>by
   simp[aM,Instr.build,Tryz.zeroValue67,Tryz.runUnderlying67,Tryz.sizeOf3,Tryz.sizeOf9,bb,Instr.fill]⟩
instance FZ {a0 a1 a2:Value}[h0:OC a0][h1:OC a1][h2:OC a2]:RV p_ (aM 142 [(0,a0),(1,a1),(2,a2)]) (.agg #[a0,a1,a2]):=⟨fun W w _=>by
 have c0:=ak h0.one;have c1:=ak h1.one;have c2:=ak h2.one;simp[aM,Instr.build,Tryz.zeroValue142,Tryz.runUnderlying142,Tryz.sizeOf5,bb,Instr.fill,c0,c1,c2]⟩
instance IN {a0 a1:Value}[h0:OC a0][h1:OC a1]:RV p_ (aM 144 [(0,a0),(1,a1)]) (.agg #[a0,a1]):=⟨fun W w _=>by
 have c0:=ak h0.one;have c1:=ak h1.one;simp[aM,Instr.build,Tryz.zeroValue144,Tryz.runUnderlying144,Tryz.sizeOf1,Tryz.sizeOf3,bb,Instr.fill,c0,c1]⟩
instance F0 {a0_0 a0_1 a1_0 a1_1 a2_0 a2_1:Value}  :RV p_ (aM 145 [(0,.agg #[a0_0,a0_1]),(1,.agg #[a1_0,a1_1]),(2,.agg #[a2_0,a2_1])]) (.agg #[a0_0,a0_1,a1_0,a1_1,a2_0,a2_1]):=⟨fun W w _=>by
   simp[aM,Instr.build,Tryz.zeroValue145,Tryz.runUnderlying145,Tryz.sizeOf144,bb,Instr.fill]⟩
instance IP {a0 a1:Value}[h0:OC a0][h1:OC a1]:RV p_ (aM 184 [(0,a0),(2,a1)]) (.agg #[a0,(.slice none 0 0),a1]):=⟨fun W w _=>by
 have c0:=ak h0.one;have c1:=ak h1.one;simp[aM,Instr.build,Tryz.zeroValue184,Tryz.runUnderlying184,Tryz.sizeOf3,Tryz.sizeOf23,Tryz.sizeOf181,bb,Instr.fill,c0,c1]⟩
instance CI {a0 a1 a2 a3:Value}[h0:OC a0][h1:OC a1][h2:OC a2][h3:OC a3]:RV p_ (aM 186 [(0,a0),(1,a1),(2,a2),(3,a3)]) (.agg #[a0,a1,a2,a3]):=⟨fun W w _=>by
 have c0:=ak h0.one;have c1:=ak h1.one;have c2:=ak h2.one;have c3:=ak h3.one;simp[aM,Instr.build,Tryz.zeroValue186,Tryz.runUnderlying186,Tryz.sizeOf185,bb,Instr.fill,c0,c1,c2,c3]⟩
instance IQ {a0 a1:Value}[h0:OC a0][h1:OC a1]:RV p_ (aM 188 [(0,a0),(1,a1)]) (.agg #[a0,a1]):=⟨fun W w _=>by
 have c0:=ak h0.one;have c1:=ak h1.one;simp[aM,Instr.build,Tryz.zeroValue188,Tryz.runUnderlying188,Tryz.sizeOf3,bb,Instr.fill,c0,c1]⟩
instance IR {a0 a1:Value}[h0:OC a0][h1:OC a1]:RV p_ (aM 196 [(0,a0),(2,a1)]) (.agg #[a0,(.slice none 0 0),a1,(.int .i64 0)]):=⟨fun W w _=>by
 have c0:=ak h0.one;have c1:=ak h1.one;simp[aM,Instr.build,Tryz.zeroValue196,Tryz.runUnderlying196,Tryz.sizeOf3,Tryz.sizeOf23,Tryz.sizeOf193,bb,Instr.fill,c0,c1]⟩
instance IS {a0 a1:Value}[h0:OC a0][h1:OC a1]:RV p_ (aM 201 [(0,a0),(1,a1)]) (.agg #[a0,a1]):=⟨fun W w _=>by
 have c0:=ak h0.one;have c1:=ak h1.one;simp[aM,Instr.build,Tryz.zeroValue201,Tryz.runUnderlying201,Tryz.sizeOf3,bb,Instr.fill,c0,c1]⟩
instance M3 {a0:Value}[h0:OC a0]:RV p_ (aM 205 [(2,a0)]) (.agg #[(.slice none 0 0),(.int .i64 0),a0]):=⟨fun W w _=>by
 have c0:=ak h0.one;simp[aM,Instr.build,Tryz.zeroValue205,Tryz.runUnderlying205,Tryz.sizeOf3,Tryz.sizeOf4,Tryz.sizeOf23,bb,Instr.fill,c0]⟩
instance M4 {a0:Value}[h0:OC a0]:RV p_ (aM 209 [(2,a0)]) (.agg #[(.int .i64 0),(.int .i64 0),a0]):=⟨fun W w _=>by
 have c0:=ak h0.one;simp[aM,Instr.build,Tryz.zeroValue209,Tryz.runUnderlying209,Tryz.sizeOf3,Tryz.sizeOf5,bb,Instr.fill,c0]⟩
instance F1 {a0 a1 a2:Value}[h0:OC a0][h1:OC a1][h2:OC a2]:RV p_ (aM 212 [(0,a0),(1,a1),(2,a2)]) (.agg #[a0,a1,a2]):=⟨fun W w _=>by
 have c0:=ak h0.one;have c1:=ak h1.one;have c2:=ak h2.one;simp[aM,Instr.build,Tryz.zeroValue212,Tryz.runUnderlying212,Tryz.sizeOf210,bb,Instr.fill,c0,c1,c2]⟩
instance IT {a0 a1:Value}[h0:OC a0][h1:OC a1]:RV p_ (aM 227 [(0,a0),(1,a1)]) (.agg #[a0,a1]):=⟨fun W w _=>by
 have c0:=ak h0.one;have c1:=ak h1.one;simp[aM,Instr.build,Tryz.zeroValue227,Tryz.runUnderlying227,Tryz.sizeOf3,Tryz.sizeOf23,bb,Instr.fill,c0,c1]⟩
instance IU {a0_0 a0_1 a1:Value}[h1:OC a1]:RV p_ (aM 229 [(0,.agg #[a0_0,a0_1]),(1,a1)]) (.agg #[a0_0,a0_1,a1]):=⟨fun W w _=>by
 have c1:=ak h1.one;simp[aM,Instr.build,Tryz.zeroValue229,Tryz.runUnderlying229,Tryz.sizeOf4,Tryz.sizeOf227,bb,Instr.fill,c1]⟩
instance gX {a0 a1 a2 a3 a4 a5 a6 a7 a8 a9 a10 a11 a12 a13 a14 a15 a16 a17 a18:Value}[h0:OC a0][h1:OC a1][h2:OC a2][h3:OC a3][h4:OC a4][h5:OC a5][h6:OC a6][h7:OC a7][h8:OC a8][h9:OC a9][h10:OC a10][h11:OC a11][h12:OC a12][h13:OC a13][h14:OC a14][h15:OC a15][h16:OC a16][h17:OC a17][h18:OC a18]:RV p_ (aM 236 [(0,a0),(1,a1),(2,a2),(3,a3),(4,a4),(5,a5),(6,a6),(7,a7),(8,a8),(9,a9),(10,a10),(11,a11),(12,a12),(13,a13),(14,a14),(15,a15),(16,a16),(17,a17),(18,a18)]) (.agg #[a0,a1,a2,a3,a4,a5,a6,a7,a8,a9,a10,a11,a12,a13,a14,a15,a16,a17,a18]):=⟨fun W w _=>by
 have c0:=ak h0.one;have c1:=ak h1.one;have c2:=ak h2.one;have c3:=ak h3.one;have c4:=ak h4.one;have c5:=ak h5.one;have c6:=ak h6.one;have c7:=ak h7.one;have c8:=ak h8.one;have c9:=ak h9.one;have c10:=ak h10.one;have c11:=ak h11.one;have c12:=ak h12.one;have c13:=ak h13.one;have c14:=ak h14.one;have c15:=ak h15.one;have c16:=ak h16.one;have c17:=ak h17.one;have c18:=ak h18.one;simp[aM,Instr.build,Tryz.zeroValue236,Tryz.runUnderlying236,Tryz.sizeOf3,bb,Instr.fill,c0,c1,c2,c3,c4,c5,c6,c7,c8,c9,c10,c11,c12,c13,c14,c15,c16,c17,c18]⟩
instance M5 {a0:Value}[h0:OC a0]:RV p_ (aM 203 [(0,a0)]) (.agg #[a0,(.int .i64 0)]):=⟨fun W w _=>by
 have c0:=ak h0.one;simp[aM,Instr.build,Tryz.zeroValue203,Tryz.runUnderlying203,Tryz.sizeOf3,Tryz.sizeOf23,bb,Instr.fill,c0]⟩
instance CJ {a0 a1 a2 a3:Value}[h0:OC a0][h1:OC a1][h2:OC a2][h3:OC a3]:RV p_ (aM 253 [(0,a0),(1,a1),(3,a2),(4,a3)]) (.agg #[a0,a1,(.int .i64 0),a2,a3]):=⟨fun W w _=>by
 have c0:=ak h0.one;have c1:=ak h1.one;have c2:=ak h2.one;have c3:=ak h3.one;simp[aM,Instr.build,Tryz.zeroValue253,Tryz.runUnderlying253,Tryz.sizeOf3,Tryz.sizeOf23,Tryz.sizeOf251,bb,Instr.fill,c0,c1,c2,c3]⟩
instance F3 {a0 a1 a2:Value}[h0:OC a0][h1:OC a1][h2:OC a2]:RV p_ (aM 162 [(0,a0),(1,a1),(2,a2)]) (.agg #[a0,a1,a2]):=⟨fun W w _=>by
 have c0:=ak h0.one;have c1:=ak h1.one;have c2:=ak h2.one;simp[aM,Instr.build,Tryz.zeroValue162,Tryz.runUnderlying162,Tryz.sizeOf3,Tryz.sizeOf23,Tryz.sizeOf160,bb,Instr.fill,c0,c1,c2]⟩
instance F4 {a0 a1 a2:Value}[h0:OC a0][h1:OC a1][h2:OC a2]:RV p_ (aM 288 [(0,a0),(1,a1),(2,a2)]) (.agg #[a0,a1,a2]):=⟨fun W w _=>by
 have c0:=ak h0.one;have c1:=ak h1.one;have c2:=ak h2.one;simp[aM,Instr.build,Tryz.zeroValue288,Tryz.runUnderlying288,Tryz.sizeOf4,Tryz.sizeOf197,bb,Instr.fill,c0,c1,c2]⟩
instance IV {a0 a1:Value}[h0:OC a0][h1:OC a1]:RV p_ (aM 209 [(0,a0),(1,a1)]) (.agg #[a0,a1,(.int .u8 0)]):=⟨fun W w _=>by
 have c0:=ak h0.one;have c1:=ak h1.one;simp[aM,Instr.build,Tryz.zeroValue209,Tryz.runUnderlying209,Tryz.sizeOf3,Tryz.sizeOf5,bb,Instr.fill,c0,c1]⟩
instance IW {a0 a1:Value}[h0:OC a0][h1:OC a1]:RV p_ (aM 258 [(0,a0),(1,a1)]) (.agg #[a0,a1]):=⟨fun W w _=>by
 have c0:=ak h0.one;have c1:=ak h1.one;simp[aM,Instr.build,Tryz.zeroValue258,Tryz.runUnderlying258,Tryz.sizeOf197,bb,Instr.fill,c0,c1]⟩
instance IX {a0 a1:Value}[h0:OC a0][h1:OC a1]:RV p_ (aM 299 [(0,a0),(1,a1)]) (.agg #[a0,a1]):=⟨fun W w _=>by
 have c0:=ak h0.one;have c1:=ak h1.one;simp[aM,Instr.build,Tryz.zeroValue299,Tryz.runUnderlying299,Tryz.sizeOf197,bb,Instr.fill,c0,c1]⟩
instance M6 {a0:Value}[h0:OC a0]:RV p_ (aM 258 [(0,a0)]) (.agg #[a0,(.slice none 0 0)]):=⟨fun W w _=>by
 have c0:=ak h0.one;simp[aM,Instr.build,Tryz.zeroValue258,Tryz.runUnderlying258,Tryz.sizeOf197,bb,Instr.fill,c0]⟩
instance tz {a0 a1 a2 a3 a4 a5 a6 a7:Value}[h0:OC a0][h1:OC a1][h2:OC a2][h3:OC a3][h4:OC a4][h5:OC a5][h6:OC a6][h7:OC a7]:RV p_ (aM 266 [(0,a0),(1,a1),(2,a2),(3,a3),(4,a4),(5,a5),(6,a6),(7,a7)]) (.agg #[a0,a1,a2,a3,a4,a5,a6,a7]):=⟨fun W w _=>by
 have c0:=ak h0.one;have c1:=ak h1.one;have c2:=ak h2.one;have c3:=ak h3.one;have c4:=ak h4.one;have c5:=ak h5.one;have c6:=ak h6.one;have c7:=ak h7.one;simp[aM,Instr.build,Tryz.zeroValue266,Tryz.runUnderlying266,Tryz.sizeOf5,bb,Instr.fill,c0,c1,c2,c3,c4,c5,c6,c7]⟩
instance M7 {a0:Value}[h0:OC a0]:RV p_ (aM 313 [(0,a0)]) (.agg #[a0]):=⟨fun W w _=>by
 have c0:=ak h0.one;simp[aM,Instr.build,Tryz.zeroValue313,Tryz.runUnderlying313,Tryz.sizeOf311,bb,Instr.fill,c0]⟩
instance IY {a0 a1:Value}[h0:OC a0][h1:OC a1]:RV p_ (aM 315 [(0,a0),(1,a1)]) (.agg #[a0,a1]):=⟨fun W w _=>by
 have c0:=ak h0.one;have c1:=ak h1.one;simp[aM,Instr.build,Tryz.zeroValue315,Tryz.runUnderlying315,Tryz.sizeOf3,bb,Instr.fill,c0,c1]⟩
instance IZ {a0 a1:Value}[h0:OC a0][h1:OC a1]:RV p_ (aM 319 [(0,a0),(1,a1)]) (.agg #[a0,a1]):=⟨fun W w _=>by
 have c0:=ak h0.one;have c1:=ak h1.one;simp[aM,Instr.build,Tryz.zeroValue319,Tryz.runUnderlying319,Tryz.sizeOf3,Tryz.sizeOf197,bb,Instr.fill,c0,c1]⟩
instance OL  :RV p_ (aM 315 []) (.agg #[(.int .i64 0),(.int .i64 0)]):=⟨fun W w _=>by
   simp[aM,Instr.build,Tryz.zeroValue315,Tryz.runUnderlying315,Tryz.sizeOf3,bb,Instr.fill]⟩
instance M8 {a0:Value}[h0:OC a0]:RV p_ (aM 306 [(0,a0)]) (.agg #[a0,(.int .i64 0),(.int .i64 0)]):=⟨fun W w _=>by
 have c0:=ak h0.one;simp[aM,Instr.build,Tryz.zeroValue306,Tryz.runUnderlying306,Tryz.sizeOf3,bb,Instr.fill,c0]⟩
instance F5 {a0 a1 a2:Value}[h0:OC a0][h1:OC a1][h2:OC a2]:RV p_ (aM 306 [(0,a0),(1,a1),(2,a2)]) (.agg #[a0,a1,a2]):=⟨fun W w _=>by
 have c0:=ak h0.one;have c1:=ak h1.one;have c2:=ak h2.one;simp[aM,Instr.build,Tryz.zeroValue306,Tryz.runUnderlying306,Tryz.sizeOf3,bb,Instr.fill,c0,c1,c2]⟩
instance F6 {a0 a1 a2:Value}[h0:OC a0][h1:OC a1][h2:OC a2]:RV p_ (aM 334 [(0,a0),(1,a1),(2,a2)]) (.agg #[a0,a1,a2]):=⟨fun W w _=>by
 have c0:=ak h0.one;have c1:=ak h1.one;have c2:=ak h2.one;simp[aM,Instr.build,Tryz.zeroValue334,Tryz.runUnderlying334,Tryz.sizeOf9,Tryz.sizeOf124,bb,Instr.fill,c0,c1,c2]⟩
end T
namespace Sl
open Go Sh
variable {P:Program} {W:World} {L L':List HP} {Kp:PK} {k:Value->WP}
theorem wt:∀(vs pre zs:List Value),zs.length=vs.length->(∀v∈vs,v.cells= #[v])->
  Instr.fill (fun i=>some (i * 1,1)) (pre++zs).toArray ((vs.zipIdx pre.length).map fun x=>(x.2,x.1))=some (pre++vs).toArray
 |[],pre,zs,hz,_=>by
  have:zs=[]:=List.eq_nil_of_length_eq_zero (by simpa using hz)
  subst this;simp[Instr.fill]
 |v::vs,pre,[],hz,_=>by simp at hz
 |v::vs,pre,z::zs,hz,ho=>by
  have hv:=ho v (by simp)
  have ih:=wt vs (pre++[v]) zs (by simpa using hz) (fun u hu=>ho u (by simp[hu]))
  simp only[List.zipIdx_cons,List.map_cons,Instr.fill,hv]
  rw[if_neg (by simp)]
  have h2:Array.foldl (fun cs (x:Value × Nat)=>cs.setIfInBounds (pre.length * 1+x.2) x.1) (pre++z::zs).toArray (#[v]:Array Value).zipIdx=(pre++[v]++zs).toArray:=by
   simp
  have h3:(pre++[v]).length=pre.length+1:=by simp
  rw[h3]at ih
  rw[h2,ih];simp
theorem f_ {t e:TypeId} {b n:Nat} {parts:List (Nat × Value)} {vs:List Value} [ht:SlT P t e 1 b] (hn:vs.length=n) (hp:parts=vs.zipIdx.map fun x=>(x.2,x.1)) (ho:∀v∈vs,v.cells= #[v]) (hm:n<=16777216)
  (h:∀g,aZ W (pt g (.cells vs.toArray e)::L) (k (.slice (some ⟨g,0,none⟩) n n))):aZ W L (opN P (cm t n parts) Kp k):=fun w hw=>by
 refine⟨?_⟩
 obtain⟨i,z,hi,hz,hs,hb,hzs⟩:=ht.info
 have:(cm t n parts).run P w= .ok (.value (.slice (some ⟨w.heap.size,0,none⟩) n n)) (w.alloc (.cells vs.toArray e)):=by
  have hm':¬(2^24<n):=by omega
  have hf:∀zs:List Value,zs.length=vs.length->Instr.fill (fun i=>some (i * 1,1)) zs.toArray parts=some vs.toArray:=fun zs hz=>by
   have:=wt vs [] zs hz ho
   simpa [hp]using this
  by_cases h0:n=0
  ·have:vs=[]:=List.eq_nil_of_length_eq_zero (by omega)
   subst this;subst h0
   simp[cm,Instr.buildSlice,run_underlying ht.ut,di hi,hs,hp,newRow,Instr.fill]
   have e0:(Array.range 0).map (fun _=>(default:Value))= #[]:=Array.eq_empty_of_size_eq_zero (by simp)
   rw[e0]
  ·have hf':=hf ((List.range n).map fun j=>z.cells[j%z.cells.size]!) (by simp[hn])
   have e1:((Array.range n).map fun j=>z.cells[j%z.cells.size]!)=((List.range n).map fun j=>z.cells[j%z.cells.size]!).toArray:=by
    apply Array.ext'
    simp[Array.toList_range]
   rw[<- e1]at hf'
   simp only[Nat.mul_one]at hf'
   simp[cm,Instr.buildSlice,run_underlying ht.ut,di hi,hs,h0,hm',zeroValue,typeInfo,hi,hz,newRow,hf']
 rw[this]
 exact h _ _ (hw.alloc _)
theorem ep {t e:TypeId} {b:Nat} {z:Value} {q r:IntKind} {l c:Int} (n m:Nat) [ht:SlT P t e 1 b] [hz:ZeroT P e z] [hc:OC z] (hl:l=(n:Int)) (hcm:c=(m:Int)) (h1:n<=m) (h2:b * m<=281474976710656) (h3:m<=maxLen)
  (h:∀g,aZ W (Sl 1 e (some ⟨g,0,none⟩) m n (List.replicate n z)::L) (k (.slice (some ⟨g,0,none⟩) n m))):aZ W L (opN P (o8 t (.int q l) (.int r c)) Kp k):=fun w hw=>by
 refine⟨?_⟩
 obtain⟨i,z',hi,hz',hs,hb,hzs⟩:=ht.info
 have e0:z'=z:=by
  have:=hz.run w
  simp[zeroValue,typeInfo,hi,hz']at this
  exact this
 subst e0
 subst hl;subst hcm
 have hcz:z'.cells= #[z']:=ak hc.one
 have hbm:(i.bytes:Int) * (m:Int)<=281474976710656:=by
  rw[hb]
  obtain⟨X,hX⟩:∃X,X=b * m:=⟨_,rfl⟩
  have h4:(X:Int)<=281474976710656:=by omega
  rw[hX,Int.natCast_mul]at h4
  exact h4
 have hr:=run_make (P:=P) (w:=w) t e i z' ht.ut hi hz' q r n m (by omega) (by omega) hbm (by unfold maxLen at h3;omega)
 simp only[Int.toNat_natCast,hs,Nat.mul_one]at hr
 have e1:madeCells z'.cells m=(List.replicate n z'++List.replicate (m-n) z').toArray:=by
  rw[hcz,List.replicate_append_replicate]
  apply Array.ext'
  simp[madeCells,Array.toList_range,Nat.mod_one]
  rw[show n+(m-n)=m by omega]
  apply List.ext_getElem <;> simp
 have:(o8 t (.int q n) (.int r m)).run P w= .ok (.value (.slice (some ⟨w.heap.size,0,none⟩) n m)) (w.alloc (.cells (List.replicate n z'++List.replicate (m-n) z').toArray e)):=by
  simp[o8,hr,e1]
 rw[this]
 refine h _ _ ?_
 have:=hw.alloc (.cells (List.replicate n z'++List.replicate (m-n) z').toArray e)
 refine Imp.sat (L:=pt w.heap.size (.cells (List.replicate n z'++List.replicate (m-n) z').toArray e)::L) ?_ this
 exact .conv (B:=pt w.heap.size (.cells (List.replicate n z'++List.replicate (m-n) z').toArray e)) (fun f hf=>⟨by simp,h1,h3,.inr ⟨_,List.replicate (m-n) z',rfl,by simp,hf⟩⟩) (.pick .here .refl)
end Sl
namespace Sl
open Go Go.RowKit Sh
variable {P:Program} {W:World} {L L':List HP} {Kp:PK} {k:Value->WP} {H:Type} {enc:TypeId × Value->H}
theorem BA {w:World}{a:Addr}{v:Value}(h:w.cell? a=some v):a.spot=none/\a.block<w.heap.size:=by
 unfold World.cell? at h
 split at h
 ·rename_i c _ _ e
  refine⟨?_,(Array.getElem?_eq_some_iff.1 e).1⟩
  cases hs:a.spot with
  |none=>rfl
  |some x=>rw[hs]at h;simp at h
 ·cases h
structure Old {α:Type}(W:World)(s:Nat)(rd:α->List Value->Prop)(a:Option Addr)(n:Nat)(xs:List α):Prop where
 len:xs.length=n
 at_:0<n->∃g o,a=some ⟨g,o,none⟩/\g<W.heap.size/\∀(i:Nat) (h:i<xs.length),∃cs:List Value,cs.length=s/\rd xs[i] cs/\∀(j:Nat) (v:Value),cs[j]? =some v->W.cell? ⟨g,o+(i * s+j),none⟩=some v
theorem zX {t:TypeId}{g o:Nat}{v:Value}[ht:OneT P t](hg:g<W.heap.size)(hv:W.cell? ⟨g,o,none⟩=some v):bg P W [] (aI t (.pointer (some ⟨g,o,none⟩))) v:=by
 have H:RdB W (pu True) (some ⟨g,o,none⟩) 1 [v]:=JU rfl hg (fun j u hu=>by
  match j,hu with
  |0,hu=>simp at hu;subst hu;exact hv)
 have:=bP (P:=P) (t:=t) (j:=0) H rfl
 exact fun w hw=>this w (Imp.sat (.pu trivial .refl) hw)
theorem wu {α:Type}{n:Nat}{R:Nat->α->Prop}(h:∀i,i<n->∃a,R i a):∃xs:List α,xs.length=n/\∀(i:Nat) (hi:i<xs.length),R i xs[i]:=by
 induction n with
 |zero=>exact⟨[],rfl,fun i hi=>by simp at hi⟩
 |succ n ih=>
  obtain⟨xs,h1,h2⟩:=ih fun i hi=>h i (by omega)
  obtain⟨a,ha⟩:=h n (by omega)
  refine⟨xs++[a],by simp[h1],fun i hi=>?_⟩
  by_cases c:i<xs.length
  ·rw[List.getElem_append_left c];exact h2 i c
  ·have:i=n:=by simp at hi;omega
   subst this
   rw[List.getElem_append_right (by omega)]
   simpa [h1]using ha
theorem tC (d:DataW H)(r:List (DataW H)):Rows.uptoBulkAll (d::r)=Rows.uptoBulk d+Rows.uptoBulkAll r:=by simp[Rows.uptoBulkAll]
theorem wv {α:Type}{m:α->Nat}:∀(xs:List α) (ds:List (DataW H)),xs.length=ds.length->(∀(i:Nat) (h1:i<xs.length) (h2:i<ds.length),m xs[i]<=Rows.uptoBulk ds[i])->(xs.map m).sum<=Rows.uptoBulkAll ds
 |[],[],_,_=>by simp
 |x::xs,d::ds,hl,h=>by
  have h0:=h 0 (by simp) (by simp)
  have ih:=wv xs ds (by simpa using hl) (fun i h1 h2=>h (i+1) (by simp;omega) (by simp;omega))
  rw[tC,List.map_cons,List.sum_cons]
  simp only[List.getElem_cons_zero]at h0
  omega
theorem ww {α:Type} {rd:α->List Value->Prop} {m:α->Nat} {t e:TypeId} {s fuel:Nat} {sp:Nat->Bool} {held:Bool} {cs:List Value} {x:DataW H × List MemPlace} (ht:P.underlying t=some (.slice e)) (hc:P.cellsOf e=s) (hs:0<s)
  (op:∀(n:Nat) (cs:List Value) (x:DataW H × List MemPlace),DataW.trod enc P W 0 sp held n e cs=some x->∃a,rd a cs/\m a<=Rows.uptoBulk x.1) (h:DataW.trod enc P W 0 sp held fuel t cs=some x):
  ∃(a:Option Addr) (n cap:Nat) (xs:List α),cs=[.slice a n cap]/\n<=cap/\cap<=maxLen/\(a=none->n=0/\cap=0)/\Old W s rd a n xs/\(xs.map m).sum+1<=Rows.uptoBulk x.1:=by
 rcases DataW.trod_slice ht h with ⟨rfl,rfl⟩|⟨a,len,cap,elems,rest,n,rfl,rfl,rfl,hb,hl,hm,he,hel,_,_⟩
 ·exact⟨none,0,0,[],rfl,Nat.le_refl _,by unfold maxLen;omega,fun _=>⟨rfl,rfl⟩,⟨rfl,fun c=>by omega⟩,by simp[Rows.uptoBulk]⟩
 ·have cell0:∀i,i<len->∃ds:List Value,ds.length=s/\(∃y,rd y ds/\∀h:i<elems.length,m y<=Rows.uptoBulk elems[i].1)/\∀j,j<s->W.cell? ((a.add (i * s)).add j)=ds[j]? :=fun i hi=>by
   have h1:=hel i hi
   rw[List.getElem?_eq_getElem (by omega),Option.bind_eq_some_iff]at h1
   obtain⟨ds,h2,h3⟩:=h1
   unfold World.cells? at h2
   rw[if_pos (Nat.zero_le _),hc]at h2
   obtain⟨y,hy,hm2⟩:=op _ _ _ h3
   exact⟨ds,by simpa using mapM_some_length h2,⟨y,hy,fun _=>hm2⟩,fun j hj=>mapM_some_get h2 j j (by simp[hj])⟩
  by_cases hz:len=0
  ·subst hz
   exact⟨some a,0,cap,[],rfl,hl,hm,(fun c=>by cases c),⟨rfl,fun c=>by omega⟩,by simp[Rows.uptoBulk]⟩
  obtain⟨d0,hd0,_,hg0⟩:=cell0 0 (by omega)
  have h0:=hg0 0 hs
  have ea:(a.add (0 * s)).add 0=a:=by unfold Addr.add;simp
  rw[ea,List.getElem?_eq_getElem (by omega)]at h0
  obtain⟨s1,s2⟩:=BA h0
  obtain⟨g,o,sp'⟩:=a
  obtain rfl:sp'=none:=s1
  have key:∀i,i<len->∃y:α,(∀h:i<elems.length,m y<=Rows.uptoBulk elems[i].1)/\∃ds:List Value,ds.length=s/\rd y ds/\∀(j:Nat) (v:Value),ds[j]? =some v->W.cell? ⟨g,o+(i * s+j),none⟩=some v:=fun i hi=>by
   obtain⟨ds,cL,⟨y,hy,hyb⟩,hget⟩:=cell0 i hi
   refine⟨y,hyb,ds,cL,hy,fun j v hv=>?_⟩
   have hj:j<s:=by
    rcases Nat.lt_or_ge j ds.length with c|c
    ·omega
    ·rw[List.getElem?_eq_none c]at hv;cases hv
   have:=hget j hj
   rw[cp,cp,hv,Nat.add_assoc]at this
   exact this
  obtain⟨xs,h1,h2⟩:=wu key
  refine⟨some ⟨g,o,none⟩,len,cap,xs,rfl,hl,hm,(fun c=>by cases c),⟨h1,fun hn=>⟨g,o,rfl,s2,fun i hi=>(h2 i hi).2⟩⟩,?_⟩
  have:=wv (m:=m) xs (elems.map (·.1)) (by simp;omega) (fun i e1 e2=>by simpa using (h2 i e1).1 (by simpa using e2))
  simp only[Rows.uptoBulk]
  omega
theorem wx {α:Type}:∀l:List α,(l.map fun _=>1).sum=l.length
 |[]=>rfl
 |x::l=>by simp[wx l];omega
def Sn (c:UInt8)(cs:List Value):Prop:=cs=[B c]
theorem Old.bytes {a:Option Addr}{n:Nat}{b:List UInt8}{A:HP}(h:Old W 1 Sn a n b):RdB W A a n (b.map B):=by
 refine⟨by rw[List.length_map];exact h.len,fun hn=>?_⟩
 obtain⟨g,o,rfl,hg,hc⟩:=h.at_ hn
 refine⟨g,o,rfl,fun w L hw j v hv=>?_⟩
 rw[List.getElem?_map]at hv
 have hj:j<b.length:=by
  rcases Nat.lt_or_ge j b.length with c|c
  ·exact c
  ·rw[List.getElem?_eq_none c]at hv;cases hv
 obtain⟨cs,h1,h2,h3⟩:=hc j hj
 rw[h2]at h3
 have:=h3 0 (B b[j]) rfl
 rw[List.getElem?_eq_getElem hj]at hv
 have hv':B b[j]=v:=Option.some.inj hv
 rw[hw.base.cell (p:=⟨g,o+j,none⟩) hg,<- hv']
 simpa using this
theorem GE {e:TypeId}{sp:Nat->Bool}{held:Bool}(he:P.underlying e=some (.int .u8)):∀(n:Nat) (cs:List Value) (x:DataW H × List MemPlace),DataW.trod enc P W 0 sp held n e cs=some x->∃a,Sn a cs/\1<=Rows.uptoBulk x.1:=fun n cs x h=>by
 obtain⟨m,rfl,rfl,hw⟩:=DataW.trod_int he h
 have hm:0<=m/\m<=255:=by simpa [Lit.wf,IntKind.min,IntKind.max,IntKind.signed,IntKind.bits]using hw
 refine⟨UInt8.ofNat m.toNat,?_,by simp[Rows.uptoBulk]⟩
 unfold Sn B
 rw[UInt8.toNat_ofNat',Nat.mod_eq_of_lt (by omega),Int.toNat_of_nonneg hm.1]
theorem yB {t e:TypeId}{fuel:Nat}{sp:Nat->Bool}{held:Bool}{cs:List Value}{x:DataW H × List MemPlace}(ht:P.underlying t=some (.slice e))(hc:P.cellsOf e=1)(he:P.underlying e=some (.int .u8))(h:DataW.trod enc P W 0 sp held fuel t cs=some x):
  ∃(a:Option Addr) (cap:Nat) (b:List UInt8),cs=[.slice a b.length cap]/\b.length<=cap/\cap<=maxLen/\(a=none->b.length=0)/\(∀A,RdB W A a b.length (b.map B))/\b.length+1<=Rows.uptoBulk x.1:=by
 obtain⟨a,n,cap,b,rfl,h1,h2,h3,h4,h5⟩:=ww (m:=fun _=>1) ht hc (by omega) (GE (enc:=enc) he) h
 have hl:=h4.len
 subst hl
 exact⟨a,cap,b,rfl,h1,h2,fun c=>(h3 c).1,fun A=>h4.bytes,by rwa [wx]at h5⟩
end Sl
namespace Sl
open Go Sh
variable {P:Program} {W:World} {L L':List HP} {Kp:PK} {k:Value->WP}
theorem wy (o:Nat):∀(us pre zs:List Value) (m:Nat),pre.length=o+m->us.length<=zs.length->
  (us.zipIdx m).foldl (fun(cs:Array Value) (x:Value × Nat)=>cs.setIfInBounds (o+x.2) x.1) (pre++zs).toArray=(pre++us++zs.drop us.length).toArray
 |[],pre,zs,m,_,_=>by simp
 |u::us,pre,[],m,_,h=>by simp at h
 |u::us,pre,z::zs,m,hp,h=>by
  have ih:=wy o us (pre++[u]) zs (m+1) (by simp;omega) (by simpa using h)
  have e:((pre++z::zs).toArray).setIfInBounds (o+m) u=(pre++[u]++zs).toArray:=by
   rw[<- hp];simp
  rw[List.zipIdx_cons,List.foldl_cons]
  simp only
  rw[e,ih];simp
theorem tD (s:Nat):∀(vs pre zs:List Value) (m:Nat),pre.length=m * s->zs.length=vs.length * s->(∀v∈vs,v.cells.size=s)->
  Instr.fill (fun i=>some (i * s,s)) (pre++zs).toArray ((vs.zipIdx m).map fun x=>(x.2,x.1))=some (pre++vs.flatMap fun v=>v.cells.toList).toArray
 |[],pre,zs,m,_,hz,_=>by
  have:zs=[]:=List.eq_nil_of_length_eq_zero (by simpa using hz)
  subst this;simp[Instr.fill]
 |v::vs,pre,zs,m,hp,hz,ho=>by
  have hv:=ho v (by simp)
  have hz':zs.length=vs.length * s+s:=by rw[hz,List.length_cons,Nat.add_mul,Nat.one_mul]
  have ih:=tD s vs (pre++v.cells.toList) (zs.drop s) (m+1) (by rw[List.length_append,hp,Array.length_toList,hv,Nat.add_mul,Nat.one_mul]) (by rw[List.length_drop,hz'];omega) (fun u hu=>ho u (by simp[hu]))
  simp only[List.zipIdx_cons,List.map_cons,Instr.fill,hv]
  rw[if_neg (by simp[hp,hz'])]
  have h2:Array.foldl (fun cs (x:Value × Nat)=>cs.setIfInBounds (m * s+x.2) x.1) (pre++zs).toArray v.cells.zipIdx=(pre++v.cells.toList++zs.drop s).toArray:=by
   have:=wy (m * s) v.cells.toList pre zs 0 (by simpa using hp) (by rw[Array.length_toList,hv];omega)
   rw[Array.length_toList,hv]at this
   rw[<- this]
   have e2:v.cells.zipIdx.toList=v.cells.toList.zipIdx:=by simp
   rw[<- e2,Array.foldl_toList]
  rw[h2,ih];simp
theorem eL {t e:TypeId} {s b n:Nat} {parts:List (Nat × Value)} {vs:List Value} [ht:SlT P t e s b] (hn:vs.length=n) (h1:0<n) (hp:parts=vs.zipIdx.map fun x=>(x.2,x.1)) (ho:∀v∈vs,v.cells.size=s) (hm:n * s<=16777216)
  (h:∀g,aZ W (pt g (.cells (vs.flatMap fun v=>v.cells.toList).toArray e)::L) (k (.slice (some ⟨g,0,none⟩) n n))):aZ W L (opN P (cm t n parts) Kp k):=fun w hw=>by
 refine⟨?_⟩
 obtain⟨i,z,hi,hz,hs,hb,hzs⟩:=ht.info
 have:(cm t n parts).run P w= .ok (.value (.slice (some ⟨w.heap.size,0,none⟩) n n)) (w.alloc (.cells (vs.flatMap fun v=>v.cells.toList).toArray e)):=by
  have hm':¬(2^24<n * s):=by omega
  have hf:∀zs:Array Value,zs.size=n * s->Instr.fill (fun i=>some (i * s,s)) zs parts=some (vs.flatMap fun v=>v.cells.toList).toArray:=fun zs hz=>by
   have:=tD s vs [] zs.toList 0 (by simp) (by simp[hz,hn]) ho
   simpa [hp]using this
  by_cases h0:n * s=0
  ·simp[cm,Instr.buildSlice,run_underlying ht.ut,di hi,hs,zeroValue,typeInfo,hi,hz,newRow,h0]
   have:=hf ((Array.range 0).map fun _=>(default:Value)) (by simp[h0])
   rw[this]
   simp
  ·simp[cm,Instr.buildSlice,run_underlying ht.ut,di hi,hs,hm',zeroValue,typeInfo,hi,hz,newRow,h0]
   have:=hf ((Array.range (n * s)).map fun j=>z.cells[j%z.cells.size]!) (by simp)
   rw[this]
   simp
 rw[this]
 exact h _ _ (hw.alloc _)
theorem dp {α:Type}{f:α->List Value}{s:Nat}(hf:∀x,(f x).length=s):∀l:List α,(l.flatMap f).length=l.length * s
 |[]=>by simp
 |x::l=>by rw[List.flatMap_cons,List.length_append,hf,dp hf l,List.length_cons,Nat.add_mul,Nat.one_mul,Nat.add_comm]
theorem et {α:Type}{f:α->List Value}{s:Nat}(hf:∀x,(f x).length=s):∀(l:List α) (i j:Nat) (hi:i<l.length) (hj:j<s),(l.flatMap f)[i * s+j]? =(f l[i])[j]?
 |x::l,0,j,_,hj=>by
  rw[List.flatMap_cons,Nat.zero_mul,Nat.zero_add,List.getElem?_append_left (by rw[hf];exact hj)];rfl
 |x::l,i+1,j,hi,hj=>by
  rw[List.flatMap_cons,List.getElem?_append_right (by rw[hf,Nat.add_mul];omega),hf,show(i+1) * s+j-s=i * s+j by rw[Nat.add_mul];omega,et hf l i j (by simpa using hi) hj];rfl
end Sl
namespace Sl
open Go Go.RowKit Sh
variable {P:Program} {W:World} {L L':List HP} {Kp:PK} {k:Value->WP} {H:Type} {enc:TypeId × Value->H}
def I (n:Int):Value:= .int .i64 n
instance {n:Int}:OC (I n):=⟨rfl⟩
theorem mO {l:List Int}:∀u∈l.map I,u.oneCell'=true:=by
 intro u hu;obtain⟨c,_,rfl⟩:=List.mem_map.1 hu;rfl
theorem dK {l:List Int}{j:Nat}(h:j<l.length):(l.map I)[j]? =some (I l[j]):=by simp[h]
def An (n:Nat)(f:Nat->Int):Array Value:=((List.range n).map fun j=>I (f j)).toArray
theorem cF (n:Nat)(f:Nat->Int):(An n f).size=n:=by simp[An]
theorem iG {n j:Nat}{f:Nat->Int}(h:j<n):(An n f)[j]? =some (I (f j)):=by simp[An,h]
theorem eu {n:Nat}{f g:Nat->Int}(h:∀j,j<n->f j=g j):An n f=An n g:=by
 unfold An
 congr 1
 exact List.map_congr_left fun j hj=>by rw[h j (List.mem_range.1 hj)]
theorem qG {n j:Nat}{f:Nat->Int}{v:Int}:(An n f).setIfInBounds j (I v)=An n fun i=>if i=j then v else f i:=by
 apply Array.ext_getElem?
 intro i
 rw[Array.getElem?_setIfInBounds,cF]
 by_cases c:j=i
 ·subst c
  rw[if_pos rfl]
  by_cases h:j<n
  ·rw[if_pos h,iG h];simp
  ·rw[if_neg h,Array.getElem?_eq_none (by rw[cF];omega)]
 ·rw[if_neg c]
  by_cases h:i<n
  ·rw[iG h,iG h,if_neg (fun e=>c e.symm)]
  ·rw[Array.getElem?_eq_none (by rw[cF];omega),Array.getElem?_eq_none (by rw[cF];omega)]
theorem Di {t e:TypeId}{s len:Nat}{g l:Nat}{q:IntKind}{i:Int}[ht:ArrT P t len e s](hi:i=(l:Int))(hl:l<len):bg P W [] (ly t (.pointer (some ⟨g,0,none⟩)) (some (.int q i)) none none) (.slice (some ⟨g,l * s,none⟩) (len-l) (len-l)):=fun w _=>by
 have hne:len≠l:=by omega
 simp[ly,Instr.sliceAt,Instr.sliceBounds,ht.ut,ht.size,eC l hi (Nat.le_of_lt hl),Instr.sureAddr,hne,Addr.add]
 intro h;exact h.symm
theorem Dj {A:HP}{g m n l:Nat}{f:Nat->Int}(h:RdB W A (some ⟨g,0,none⟩) n ((List.range n).map fun j=>I (f j)))(hl:l+m=n):RdB W A (some ⟨g,l * 1,none⟩) m ((List.range m).map fun j=>I (f (l+j))):=by
 have:=h.cut (cap:=n+1) (l:=l) (h:=n) (by omega) (by omega) (by omega)
 rw[if_neg (by omega)]at this
 have e:(Option.map (fun x:Addr=>x.add (l * 1)) (some ⟨g,0,none⟩))=some ⟨g,l * 1,none⟩:=by simp[cp]
 rw[e,show n-l=m by omega]at this
 have e2:List.take m (List.drop l ((List.range n).map fun j=>I (f j)))=(List.range m).map fun j=>I (f (l+j)):=by
  apply List.ext_getElem?
  intro j
  rw[List.getElem?_take]
  by_cases c:j<m
  ·rw[if_pos c,List.getElem?_drop,List.getElem?_map,List.getElem?_map,List.getElem?_range (by omega),List.getElem?_range c];rfl
  ·rw[if_neg c,List.getElem?_eq_none (by simp;omega)]
 rw[e2]at this
 exact this
end Sl
namespace S
open Go Sh Sl
theorem wide:p_.follows .mixedOrders=true:=by kernel_rfl
theorem Rj {f:FuncId}{fn:Func}{an:Ann}{args:List Value}{sh:PK->(Value->WP)->WP}(hc:∀(a:Array Value) (w:World),(callFunc f a).run p_ w= .ok (.enter f a) w)(hf:p_.funcs[f]? =some fn)(he:∀Kp K,CP p_ an fn args Kp K=sh Kp K):Shp p_ f args sh:=SZ wide hc hf he
theorem OM {f:FuncId}{fn:Func}{an:Ann}{args:List Value}{sh:PK->(Value->WP)->WP}(hc:∀(a:Array Value) (w:World),(callFunc f a).run p_ w= .ok (.enter f a) w)(hf:p_.funcs[f]? =some fn)(he:∀Kp K,zE p_ an fn args Kp K=sh Kp K):Shp p_ f args sh:=Ru wide hc hf he
theorem Dk {f:FuncId}{fn:Func}{an:Ann}{args:List Value}{sh:PK->(Value->WP)->WP}(hc:∀(a:Array Value) (w:World),(callFunc f a).run p_ w= .ok (.enter f a) w)(hf:p_.funcs[f]? =some fn)(he:∀Kp K,zG p_ an fn args Kp K=sh Kp K):Shp p_ f args sh:=Rv wide hc hf he
def gf:List UInt8:=[48,48,48,49,48,50,48,51,48,52,48,53,48,54,48,55,48,56,48,57,49,48,49,49,49,50,49,51,49,52,49,53,49,54,49,55,49,56,49,57,50,48,50,49,50,50,50,51,50,52,50,53,50,54,50,55,50,56,50,57,51,48,51,49,51,50,51,51,51,52,51,53,51,54,51,55,51,56,51,57,52,48,52,49,52,50,52,51,52,52,52,53,52,54,52,55,52,56,52,57,53,48,53,49,53,50,53,51,53,52,53,53,53,54,53,55,53,56,53,57,54,48,54,49,54,50,54,51,54,52,54,53,54,54,54,55,54,56,54,57,55,48,55,49,55,50,55,51,55,52,55,53,55,54,55,55,55,56,55,57,56,48,56,49,56,50,56,51,56,52,56,53,56,54,56,55,56,56,56,57,57,48,57,49,57,50,57,51,57,52,57,53,57,54,57,55,57,56,57,57]
def qH:List UInt8:=[0,1,2,2,3,3,3,3,4,4,4,4,4,4,4,4,5,5,5,5,5,5,5,5,5,5,5,5,5,5,5,5,6,6,6,6,6,6,6,6,6,6,6,6,6,6,6,6,6,6,6,6,6,6,6,6,6,6,6,6,6,6,6,6,7,7,7,7,7,7,7,7,7,7,7,7,7,7,7,7,7,7,7,7,7,7,7,7,7,7,7,7,7,7,7,7,7,7,7,7,7,7,7,7,7,7,7,7,7,7,7,7,7,7,7,7,7,7,7,7,7,7,7,7,7,7,7,7,8,8,8,8,8,8,8,8,8,8,8,8,8,8,8,8,8,8,8,8,8,8,8,8,8,8,8,8,8,8,8,8,8,8,8,8,8,8,8,8,8,8,8,8,8,8,8,8,8,8,8,8,8,8,8,8,8,8,8,8,8,8,8,8,8,8,8,8,8,8,8,8,8,8,8,8,8,8,8,8,8,8,8,8,8,8,8,8,8,8,8,8,8,8,8,8,8,8,8,8,8,8,8,8,8,8,8,8,8,8,8,8,8,8,8,8,8,8,8,8,8,8,8,8,8,8,8,8]
def mP (v0 v1 v2:Value)(Kp:PK)(K:Value→WP):WP:=
 opN p_ (j7 22 v0) Kp fun x3=>
 opN p_ (j7 25 v1) Kp fun x4=>
 opN p_ (j7 3 v2) Kp fun x5=>
 opN p_ (ck 25) Kp fun x6=>
 uu (fun J1=>
 oW (stD p_ (jf 25 x4 0) fun D0 x11=>
 stD p_ (aI 3 x11) fun D1 x12=>
 stD p_ (jf 25 x4 1) fun D2 x13=>
 stD p_ (aI 22 x13) fun D3 x14=>
 stD p_ (jf 25 x4 2) fun D5 x16=>
 stD p_ (aI 23 x16) fun D6 x17=>
 yi (opN p_ (iS #[22,22] 22 [(.slice none 0 0),x14]) Kp fun x15=>
 (fun w=>D6 w∧(fun w=>D5 w∧(fun w=>D1 w∧(fun w=>D0 w∧(yi (opN p_ (iS #[23,23] 23 [(.slice none 0 0),x17]) Kp fun x18=>
 (fun w=>D1 w∧(fun w=>D0 w∧(stD p_ (aM 25 [(0,x12),(1,x15),(2,x18)]) fun D8 x19=>
 opN p_ (ck 25) Kp fun x7=>
 (fun w=>D8 w∧(fun w=>D6 w∧(fun w=>D5 w∧(fun w=>D3 w∧(fun w=>D2 w∧(fun w=>D1 w∧(fun w=>D0 w∧(opN p_ (aJ 25 x7 x19) Kp fun _=>
 J1 x7) w) w) w) w) w) w) w)) w) w))
 (opN p_ (ck 25) Kp fun x7=>
 (fun w=>D6 w∧(fun w=>D5 w∧(fun w=>D3 w∧(fun w=>D2 w∧(fun w=>D1 w∧(fun w=>D0 w∧(opN p_ (iS #[23,23] 23 [(.slice none 0 0),x17]) Kp fun x18=>
 (fun w=>D1 w∧(fun w=>D0 w∧(stS p_ (aM 25 [(0,x12),(1,x15),(2,x18)]) fun x19=>
 opN p_ (aJ 25 x7 x19) Kp fun _=>
 J1 x7) w) w)) w) w) w) w) w) w))) w) w) w) w))
 (opN p_ (ck 25) Kp fun x7=>
 (fun w=>D6 w∧(fun w=>D5 w∧(fun w=>D3 w∧(fun w=>D2 w∧(fun w=>D1 w∧(fun w=>D0 w∧(opN p_ (iS #[22,22] 22 [(.slice none 0 0),x14]) Kp fun x15=>
 (fun w=>D6 w∧(fun w=>D5 w∧(fun w=>D1 w∧(fun w=>D0 w∧(opN p_ (iS #[23,23] 23 [(.slice none 0 0),x17]) Kp fun x18=>
 (fun w=>D1 w∧(fun w=>D0 w∧(stS p_ (aM 25 [(0,x12),(1,x15),(2,x18)]) fun x19=>
 opN p_ (aJ 25 x7 x19) Kp fun _=>
 J1 x7) w) w)) w) w) w) w)) w) w) w) w) w) w)))) fun _ z7=>
 opN p_ (ur (.func 28) [] [x5,x4]) Kp fun x20=>
 opN p_ (ur (.func 29) [] [z7]) Kp fun x21=>
 opN p_ (ur (.func 31) [] [x3]) Kp fun x22=>
 opN p_ (ur (.func 32) [] [z7,x5]) Kp fun x23=>
 opN p_ (aM 61 [(0,x20),(1,x21),(2,x22),(3,x23)]) Kp fun x24=>
 opN p_ (ck 61) Kp fun x8=>
 opN p_ (aJ 61 x8 x24) Kp fun _=>
 opN p_ (aI 61 x8) Kp fun x25=>
 o9 (fun I1 m1 _ y26=>
 opN p_ (aY .lss 3 y26 (.int .i64 4)) Kp fun x27=>
 condS x27
 (opN p_ (nQ 61 x25 y26) Kp fun x28=>
 opN p_ (bN x28 []) Kp fun x30=>
 opN p_ (Bu .not x30) Kp fun x31=>
 condS x31
 (opN p_ (aI 25 z7) Kp fun x33=>
 opN p_ (aJ 25 x6 x33) Kp fun _=>
 (stS p_ (dG 25 x6) fun r0=>K r0))
 (opN p_ (aY .add 3 y26 (.int .i64 1)) Kp fun x32=>
 iD I1 m1 x32))
 (opN p_ (aI 25 z7) Kp fun x33=>
 opN p_ (aJ 25 x6 x33) Kp fun _=>
 (stS p_ (dG 25 x6) fun r0=>K r0))) (.int .i64 0)
theorem qI {v0 v1 v2:Value}:Shp p_ 14 [v0,v1,v2] (mP v0 v1 v2):=Rj Tryz.call14 Tryz.func14 (an:={loops:=[(4,[26])],drs:=[(1,(.op 0 3 (.op 1 3 (.op 2 3 (.op 3 3 (.op 5 3 (.op 6 3 (.alt ((.op 4 0 (.alt (.ofL [(7,0),(8,3),(9,0),(10,0)]) (.ofL [(9,0),(7,0),(8,1),(10,0)])))) (.ofL [(9,0),(4,0),(7,0),(8,1),(10,0)])))))))))],rcuts:=[(2,[7])]}) fun _ _=>by kernel_rfl
def pj (v0:Value)(Kp:PK)(K:Value→WP):WP:=
 opN p_ (ck 4) Kp fun x2=>
 opN p_ (j8 v0) Kp fun x5=>
 opN p_ (jf 25 x5 1) Kp fun x6=>
 opN p_ (aI 22 x6) Kp fun x7=>
 opN p_ (bN (fn 49) [x7]) Kp fun x8=>
 rfS p_ x8 1 (fun u9 B1 N1 J1r=>
 B1 (opN p_ (kj .eql 9 (.tmp 10) (.const (.string ⟨#[42]⟩)) u9 (.string ⟨#[42]⟩)) dI fun x11=>
 gdK x11 false (fun k=>k u9) fun x13=>
 gdK x11 false (opN p_ (bN (fn 20) [x13,(.string ⟨#[65,99,99,101,112,116,45,69,110,99,111,100,105,110,103]⟩)]) dI) fun x14=>
 opN p_ (iV x11 (.bool true) x14) dI fun x15=>
 condS x15
 (opN p_ (aJ 4 x2 (.bool true)) dI fun _=>
 J1r)
 (N1))) (fun d1=>
 opN p_ (j8 v0) (ez [d1] Kp) fun x18=>
 opN p_ (jf 25 x18 1) (ez [d1] Kp) fun x19=>
 opN p_ (aI 22 x19) (ez [d1] Kp) fun x20=>
 opN p_ (aM 52 [(0,(.string ⟨#[86,97,114,121]⟩)),(1,(.string ⟨#[65,99,99,101,112,116,45,69,110,99,111,100,105,110,103]⟩))]) (ez [d1] Kp) fun x21=>
 opN p_ (cm 22 1 [(0,x21)]) (ez [d1] Kp) fun x22=>
 opN p_ (iS #[22,22] 22 [x20,x22]) (ez [d1] Kp) fun x23=>
 opN p_ (j8 v0) (ez [d1] Kp) fun x24=>
 opN p_ (jf 25 x24 1) (ez [d1] Kp) fun x25=>
 opN p_ (aJ 22 x25 x23) (ez [d1] Kp) fun _=>
 opN p_ (aJ 4 x2 (.bool true)) (ez [d1] Kp) fun _=>
 (tkS d1 ((stS p_ (dG 4 x2) fun r0=>K r0)))) (fun d1=>(tkS d1 ((stS p_ (dG 4 x2) fun r0=>K r0)))) (fun d1 ch=>(tkS d1 (Kp ch)))
theorem sJ {v0:Value}:Shp p_ 30 [v0] (pj v0):=Dk Tryz.call30 Tryz.func30 (an:={}) fun _ _=>by kernel_rfl
def aA (p0 p1 p2:Value)(K:Value->WP):WP:=
 (stS p_ (dG 23 p0) fun r0=>(stS p_ (dG 3 p1) fun r1=>(stS p_ (dG 27 p2) fun r2=>K (.tuple #[r0,r1,r2]))))
def pm (v0 v1:Value)(Kp:PK)(K:Value→WP):WP:=
 opN p_ (ck 23) Kp fun x4=>
 opN p_ (ck 3) Kp fun x5=>
 opN p_ (ck 27) Kp fun x6=>
 uu (fun J1=>
 opN p_ (aY .lss 3 v1 (.int .i64 0)) Kp fun x14=>
 condS x14
 (J1 x14)
 (opN p_ (aY .gtr 3 v1 (.int .i64 1048576)) Kp fun x16=>
 J1 x16)) fun _ z12=>
 condS z12
 (opN p_ (aJ 23 x4 (.slice none 0 0)) Kp fun _=>
 opN p_ (aJ 3 x5 (.int .i64 0)) Kp fun _=>
 opN p_ (aJ 27 x6 (.int .i64 1)) Kp fun _=>
 (stS p_ (dG 23 x4) fun r0=>(stS p_ (dG 3 x5) fun r1=>(stS p_ (dG 27 x6) fun r2=>K (.tuple #[r0,r1,r2])))))
 (opN p_ (ii #[23] 3 [v0]) Kp fun x19=>
 opN p_ (aY .gtr 3 x19 (.int .i64 1048576)) Kp fun x20=>
 condS x20
 (opN p_ (aJ 23 x4 (.slice none 0 0)) Kp fun _=>
 opN p_ (aJ 3 x5 (.int .i64 0)) Kp fun _=>
 opN p_ (aJ 27 x6 (.int .i64 6)) Kp fun _=>
 (stS p_ (dG 23 x4) fun r0=>(stS p_ (dG 3 x5) fun r1=>(stS p_ (dG 27 x6) fun r2=>K (.tuple #[r0,r1,r2])))))
 (opN p_ (ur (.func 65) [] [x4,x5,x6]) Kp fun x21=>
 opDf x21 [] fun d1=>
 opN p_ (aM 107 [(0,v0)]) (fy p_ d1 (aA x4 x5 x6 K) Kp) fun x23=>
 opN p_ (j7 107 x23) (fy p_ d1 (aA x4 x5 x6 K) Kp) fun x24=>
 zH (fun I1 m1 _  =>
 opN p_ (aI 3 x5) (fy p_ d1 (aA x4 x5 x6 K) Kp) fun x25=>
 opN p_ (kj .eql 3 (.tmp 25) (.const (.int .i64 0)) x25 (.int .i64 0)) (fy p_ d1 (aA x4 x5 x6 K) Kp) fun x26=>
 gdK x26 false (fun k=>k x24) fun x28=>
 gdK x26 false (opN p_ (j8 x28) (fy p_ d1 (aA x4 x5 x6 K) Kp)) fun x29=>
 gdK x26 false (opN p_ (jf 107 x29 0) (fy p_ d1 (aA x4 x5 x6 K) Kp)) fun x30=>
 gdK x26 false (opN p_ (aI 23 x30) (fy p_ d1 (aA x4 x5 x6 K) Kp)) fun x31=>
 gdK x26 false (opN p_ (ii #[23] 3 [x31]) (fy p_ d1 (aA x4 x5 x6 K) Kp)) fun x32=>
 gdK x26 false (opN p_ (aY .gtr 3 x32 (.int .i64 0)) (fy p_ d1 (aA x4 x5 x6 K) Kp)) fun x33=>
 opN p_ (iV x26 (.bool true) x33) (fy p_ d1 (aA x4 x5 x6 K) Kp) fun x34=>
 condS x34
 (opN p_ (bN (fn 66) [x24]) (fy p_ d1 (aA x4 x5 x6 K) Kp) fun x36=>
 oW (stS p_ (j8 x24) fun x39=>
 stS p_ (jf 107 x39 0) fun x40=>
 stS p_ (aI 23 x40) fun x41=>
 stS p_ (aI 23 x4) fun x43=>
 stS p_ (ii #[23] 3 [x43]) fun x44=>
 stS p_ (aY .sub 3 v1 x44) fun x45=>
 opN p_ (bN (fn 67) [x41,x45]) (fy p_ d1 (aA x4 x5 x6 K) Kp) fun x46=>
 stS p_ (l7 x46 0) fun x47=>
 stS p_ (l7 x46 1) fun x48=>
 stS p_ (l7 x46 2) fun x49=>
 yu (fun J2=>
 opN p_ (kj .neq 27 (.tmp 50) (.const (.int .i64 0)) x49 (.int .i64 0)) (fy p_ d1 (aA x4 x5 x6 K) Kp) fun x51=>
 condS x51
 (opN p_ (yt 27 x49) (fy p_ d1 (aA x4 x5 x6 K) Kp) fun x53=>
 opN p_ (qv x53) (fy p_ d1 (aA x4 x5 x6 K) Kp) fun _=>
 J2)
 (J2)) fun _=>
 opN p_ (bN (fn 68) [x24,x48]) (fy p_ d1 (aA x4 x5 x6 K) Kp) fun x56=>
 opN p_ (bN (fn 68) [x24,(.int .i64 8)]) (fy p_ d1 (aA x4 x5 x6 K) Kp) fun x58=>
 opN p_ (bN (fn 72) [x47]) (fy p_ d1 (aA x4 x5 x6 K) Kp) fun x61=>
 opN p_ (bN (fn 71) [(.slice none 0 0),x61]) (fy p_ d1 (aA x4 x5 x6 K) Kp) fun x62=>
 opN p_ (ii #[23] 3 [x47]) (fy p_ d1 (aA x4 x5 x6 K) Kp) fun x64=>
 opN p_ (fR 3 112 x64) (fy p_ d1 (aA x4 x5 x6 K) Kp) fun x65=>
 opN p_ (bN (fn 71) [x62,x65]) (fy p_ d1 (aA x4 x5 x6 K) Kp) fun x66=>
 opN p_ (bN (fn 70) [x58,x66]) (fy p_ d1 (aA x4 x5 x6 K) Kp) fun x67=>
 opN p_ (bN (fn 69) [x67]) (fy p_ d1 (aA x4 x5 x6 K) Kp) fun x68=>
 opN p_ (aI 23 x4) (fy p_ d1 (aA x4 x5 x6 K) Kp) fun x69=>
 opN p_ (iS #[23,23] 23 [x69,x47]) (fy p_ d1 (aA x4 x5 x6 K) Kp) fun x71=>
 opN p_ (aJ 23 x4 x71) (fy p_ d1 (aA x4 x5 x6 K) Kp) fun _=>
 opN p_ (aI 3 x5) (fy p_ d1 (aA x4 x5 x6 K) Kp) fun x72=>
 opN p_ (aY .add 3 x72 (.int .i64 1)) (fy p_ d1 (aA x4 x5 x6 K) Kp) fun x73=>
 opN p_ (aJ 3 x5 x73) (fy p_ d1 (aA x4 x5 x6 K) Kp) fun _=>
 zI I1 m1))
 (oW (stS p_ (aI 23 x4) fun x74=>
 stD p_ (aI 3 x5) fun D1 x75=>
 opN p_ (aJ 23 x4 x74) (fy p_ d1 (aA x4 x5 x6 K) Kp) fun _=>
 (fun w=>D1 w∧(opN p_ (aJ 3 x5 x75) (fy p_ d1 (aA x4 x5 x6 K) Kp) fun _=>
 opN p_ (aJ 27 x6 (.int .i64 0)) (fy p_ d1 (aA x4 x5 x6 K) Kp) fun _=>
 dfS p_ d1 .returning (aA x4 x5 x6 K) Kp) w))))))
theorem sL {v0 v1:Value}:Shp p_ 46 [v0,v1] (pm v0 v1):=OM Tryz.call46 Tryz.func46 (an:={cuts:=[(3,[12]),(13,[])],loops:=[(8,[])],drs:=[(10,.ofL [(0,1),(1,1),(2,1),(3,1),(4,1),(5,1),(6,1),(7,1),(8,0),(9,1),(10,1),(11,1),(12,1),(13,1),(14,1),(15,1)]),(18,.ofL [(0,1),(1,3),(2,0),(3,0),(4,0)])]}) fun _ _=>by kernel_rfl
def eF (v0 v1:Value)(Kp:PK)(K:Value→WP):WP:=
 opN p_ (j7 96 v1) Kp fun x3=>
 opN p_ (ck 62) Kp fun x4=>
 opN p_ (ck 27) Kp fun x5=>
 opN p_ (ck 62) Kp fun x6=>
 opN p_ (aI 96 x3) Kp fun x10=>
 opN p_ (bN (fn 84) [x10,v0]) Kp fun x12=>
 rfS p_ x12 1 (fun u13 B1 N1 J1r=>
 B1 (opN p_ (jf 96 x3 2) dI fun x15=>
 opN p_ (aI 94 x15) dI fun x16=>
 opN p_ (bN x16 [u13]) dI fun x18=>
 opN p_ (l7 x18 0) dI fun x19=>
 opN p_ (l7 x18 1) dI fun x20=>
 opN p_ (ck 67) dI fun x8=>
 opN p_ (aJ 67 x8 x19) dI fun _=>
 opN p_ (Bu .not x20) dI fun x22=>
 condS x22
 (opN p_ (aJ 62 x4 (.slice none 0 0)) dI fun _=>
 opN p_ (aJ 27 x5 (.int .i64 42)) dI fun _=>
 J1r)
 (opN p_ (aI 62 x6) dI fun x23=>
 opN p_ (aI 67 x8) dI fun x24=>
 opN p_ (cm 62 1 [(0,x24)]) dI fun x25=>
 opN p_ (iS #[62,62] 62 [x23,x25]) dI fun x26=>
 opN p_ (aJ 62 x6 x26) dI fun _=>
 N1))) (fun d1=>
 opN p_ (aI 62 x6) (ez [d1] Kp) fun x27=>
 opN p_ (aJ 62 x4 x27) (ez [d1] Kp) fun _=>
 opN p_ (aJ 27 x5 (.int .i64 0)) (ez [d1] Kp) fun _=>
 (tkS d1 ((stS p_ (dG 62 x4) fun r0=>(stS p_ (dG 27 x5) fun r1=>K (.tuple #[r0,r1])))))) (fun d1=>(tkS d1 ((stS p_ (dG 62 x4) fun r0=>(stS p_ (dG 27 x5) fun r1=>K (.tuple #[r0,r1])))))) (fun d1 ch=>(tkS d1 (Kp ch)))
theorem il {v0 v1:Value}:Shp p_ 54 [v0,v1] (eF v0 v1):=Dk Tryz.call54 Tryz.func54 (an:={}) fun _ _=>by kernel_rfl
def dZ (v0 v1:Value)(Kp:PK)(K:Value→WP):WP:=
 opN p_ (j7 103 v1) Kp fun x3=>
 opN p_ (ck 74) Kp fun x4=>
 opN p_ (ck 27) Kp fun x5=>
 opN p_ (ck 74) Kp fun x6=>
 opN p_ (aI 103 x3) Kp fun x10=>
 opN p_ (bN (fn 96) [x10,v0]) Kp fun x12=>
 rfS p_ x12 1 (fun u13 B1 N1 J1r=>
 B1 (opN p_ (jf 103 x3 2) dI fun x15=>
 opN p_ (aI 101 x15) dI fun x16=>
 opN p_ (bN x16 [u13]) dI fun x18=>
 opN p_ (l7 x18 0) dI fun x19=>
 opN p_ (l7 x18 1) dI fun x20=>
 opN p_ (ck 78) dI fun x8=>
 opN p_ (aJ 78 x8 x19) dI fun _=>
 opN p_ (Bu .not x20) dI fun x22=>
 condS x22
 (opN p_ (aJ 74 x4 (.slice none 0 0)) dI fun _=>
 opN p_ (aJ 27 x5 (.int .i64 42)) dI fun _=>
 J1r)
 (opN p_ (aI 74 x6) dI fun x23=>
 opN p_ (aI 78 x8) dI fun x24=>
 opN p_ (cm 74 1 [(0,x24)]) dI fun x25=>
 opN p_ (iS #[74,74] 74 [x23,x25]) dI fun x26=>
 opN p_ (aJ 74 x6 x26) dI fun _=>
 N1))) (fun d1=>
 opN p_ (aI 74 x6) (ez [d1] Kp) fun x27=>
 opN p_ (aJ 74 x4 x27) (ez [d1] Kp) fun _=>
 opN p_ (aJ 27 x5 (.int .i64 0)) (ez [d1] Kp) fun _=>
 (tkS d1 ((stS p_ (dG 74 x4) fun r0=>(stS p_ (dG 27 x5) fun r1=>K (.tuple #[r0,r1])))))) (fun d1=>(tkS d1 ((stS p_ (dG 74 x4) fun r0=>(stS p_ (dG 27 x5) fun r1=>K (.tuple #[r0,r1])))))) (fun d1 ch=>(tkS d1 (Kp ch)))
theorem gh {v0 v1:Value}:Shp p_ 61 [v0,v1] (dZ v0 v1):=Dk Tryz.call61 Tryz.func61 (an:={}) fun _ _=>by kernel_rfl
def ec (v0 v1 v2:Value)(rv:Value)(Kp:PK)(K:Value→WP):WP:=
 opN p_ (kj .neq 20 (.tmp 5) (.const .nilIface) rv .nilIface) Kp fun x6=>
 condS x6
 (oW (stD p_ (Nl rv 20 27 false) fun D1 x8=>
 opN p_ (aJ 23 v0 (.slice none 0 0)) Kp fun _=>
 (fun w=>D1 w∧(opN p_ (aJ 3 v1 (.int .i64 0)) Kp fun _=>
 (fun w=>D1 w∧(opN p_ (aJ 27 v2 x8) Kp fun _=>
 K (.tuple #[])) w)) w)))
 (K (.tuple #[]))
def jl:Ann:={drs:=[(2,.ofL [(0,2),(1,3),(2,0),(3,0),(4,0)])]}
theorem n7 (v0 v1 v2:Value)(rv:Value)(Kp:PK)(K:Value->WP):Gm p_ jl Tryz.f65 [v0,v1,v2] rv Kp K=ec v0 v1 v2 rv Kp K:=by kernel_rfl
theorem jR {v0 v1 v2:Value}{u:FrameMode}{Kp:PK}{K:Value->WP}{w:World}(h:ec v0 v1 v2 (eP u).1 Kp K w):CallsD p_ 65 ([v0,v1,v2]:List Value).toArray u w fun
   | .returned v,u',w'=>u'=(eP u).2/\K v w'
   | .panicked ch,u',w'=>u'=(eP u).2/\Kp ch w'
   | .outgrown,_,_=>False:=
 kh wide Tryz.func65 (an:=jl) (args:=[v0,v1,v2]) (cast (congrFun (n7 v0 v1 v2 _ Kp K) w).symm h)
def aW (p0 p1 p2 p3:Value)(K:Value->WP):WP:=
 (stS p_ (dG 23 p0) fun r0=>(stS p_ (dG 146 p1) fun r1=>(stS p_ (dG 3 p2) fun r2=>(stS p_ (dG 27 p3) fun r3=>K (.tuple #[r0,r1,r2,r3])))))
def po (v0 v1:Value)(Kp:PK)(K:Value→WP):WP:=
 opN p_ (ck 23) Kp fun x4=>
 opN p_ (ck 146) Kp fun x5=>
 opN p_ (ck 3) Kp fun x6=>
 opN p_ (ck 27) Kp fun x7=>
 uu (fun J1=>
 opN p_ (aY .lss 3 v1 (.int .i64 0)) Kp fun x15=>
 condS x15
 (J1 x15)
 (opN p_ (aY .gtr 3 v1 (.int .i64 1048576)) Kp fun x17=>
 J1 x17)) fun _ z13=>
 condS z13
 (opN p_ (aJ 23 x4 (.slice none 0 0)) Kp fun _=>
 opN p_ (aJ 146 x5 (.slice none 0 0)) Kp fun _=>
 opN p_ (aJ 3 x6 (.int .i64 0)) Kp fun _=>
 opN p_ (aJ 27 x7 (.int .i64 1)) Kp fun _=>
 (stS p_ (dG 23 x4) fun r0=>(stS p_ (dG 146 x5) fun r1=>(stS p_ (dG 3 x6) fun r2=>(stS p_ (dG 27 x7) fun r3=>K (.tuple #[r0,r1,r2,r3]))))))
 (opN p_ (ii #[23] 3 [v0]) Kp fun x20=>
 opN p_ (aY .gtr 3 x20 (.int .i64 1048576)) Kp fun x21=>
 condS x21
 (opN p_ (aJ 23 x4 (.slice none 0 0)) Kp fun _=>
 opN p_ (aJ 146 x5 (.slice none 0 0)) Kp fun _=>
 opN p_ (aJ 3 x6 (.int .i64 0)) Kp fun _=>
 opN p_ (aJ 27 x7 (.int .i64 6)) Kp fun _=>
 (stS p_ (dG 23 x4) fun r0=>(stS p_ (dG 146 x5) fun r1=>(stS p_ (dG 3 x6) fun r2=>(stS p_ (dG 27 x7) fun r3=>K (.tuple #[r0,r1,r2,r3]))))))
 (opN p_ (ur (.func 132) [] [x4,x5,x6,x7]) Kp fun x22=>
 opDf x22 [] fun d1=>
 opN p_ (bN (fn 133) [v0]) (fy p_ d1 (aW x4 x5 x6 x7 K) Kp) fun x24=>
 opN p_ (aM 184 [(0,x24),(2,v1)]) (fy p_ d1 (aW x4 x5 x6 x7 K) Kp) fun x26=>
 opN p_ (j7 184 x26) (fy p_ d1 (aW x4 x5 x6 x7 K) Kp) fun x27=>
 opN p_ (aM 186 [(0,(fn 134)),(1,(fn 135)),(2,(fn 136)),(3,(fn 137))]) (fy p_ d1 (aW x4 x5 x6 x7 K) Kp) fun x28=>
 opN p_ (ck 186) (fy p_ d1 (aW x4 x5 x6 x7 K) Kp) fun x9=>
 opN p_ (aJ 186 x9 x28) (fy p_ d1 (aW x4 x5 x6 x7 K) Kp) fun _=>
 o9 (fun I1 m1 _ y10=>
 opN p_ (kj .eql 3 (.tmp 29) (.const (.int .i64 0)) y10 (.int .i64 0)) (fy p_ d1 (aW x4 x5 x6 x7 K) Kp) fun x30=>
 condS x30
 (opN p_ (bN (fn 138) [x27,(.int .i64 1)]) (fy p_ d1 (aW x4 x5 x6 x7 K) Kp) fun x32=>
 oW (stD p_ (j8 x27) fun D3 x36=>
 stD p_ (jf 184 x36 1) fun D4 x37=>
 stD p_ (aI 23 x37) fun D5 x38=>
 stD p_ (ii #[23] 3 [x38]) fun D6 x39=>
 opN p_ (bN (fn 138) [x27,(.int .i64 2)]) (fy p_ d1 (aW x4 x5 x6 x7 K) Kp) fun x34=>
 (fun w=>D6 w∧(fun w=>D5 w∧(fun w=>D4 w∧(fun w=>D3 w∧(opN p_ (iR 186 x9 x34) (fy p_ d1 (aW x4 x5 x6 x7 K) Kp) fun x41=>
 opN p_ (aI 185 x41) (fy p_ d1 (aW x4 x5 x6 x7 K) Kp) fun x42=>
 opN p_ (bN x42 [x27]) (fy p_ d1 (aW x4 x5 x6 x7 K) Kp) fun x44=>
 oW (stD p_ (aI 146 x5) fun D0 x45=>
 stS p_ (j8 x27) fun x48=>
 stS p_ (jf 184 x48 1) fun x49=>
 stS p_ (aI 23 x49) fun x50=>
 stS p_ (ii #[23] 3 [x50]) fun x51=>
 stS p_ (aY .sub 3 x51 x39) fun x53=>
 stS p_ (aM 188 [(0,x34),(1,x53)]) fun x54=>
 opN p_ (cm 146 1 [(0,x54)]) (fy p_ d1 (aW x4 x5 x6 x7 K) Kp) fun x55=>
 (fun w=>D0 w∧(opN p_ (iS #[146,146] 146 [x45,x55]) (fy p_ d1 (aW x4 x5 x6 x7 K) Kp) fun x56=>
 opN p_ (aJ 146 x5 x56) (fy p_ d1 (aW x4 x5 x6 x7 K) Kp) fun _=>
 iD I1 m1 x32) w))) w) w) w) w)))
 (oW (stD p_ (j8 x27) fun D1 x58=>
 stD p_ (jf 184 x58 1) fun D2 x59=>
 stD p_ (aI 23 x59) fun D3 x60=>
 stD p_ (aI 146 x5) fun D4 x61=>
 stD p_ (ii #[23] 3 [v0]) fun D6 x63=>
 stS p_ (j8 x27) fun x65=>
 stS p_ (jf 184 x65 0) fun x66=>
 stS p_ (aI 181 x66) fun x67=>
 opN p_ (bN (fn 139) [x67]) (fy p_ d1 (aW x4 x5 x6 x7 K) Kp) fun x68=>
 (fun w=>D6 w∧(fun w=>D4 w∧(fun w=>D3 w∧(fun w=>D2 w∧(fun w=>D1 w∧(stD p_ (aY .quo 3 x68 (.int .i64 8)) fun D12 x69=>
 stD p_ (aY .sub 3 x63 x69) fun D13 x70=>
 opN p_ (aJ 23 x4 x60) (fy p_ d1 (aW x4 x5 x6 x7 K) Kp) fun _=>
 (fun w=>D13 w∧(fun w=>D12 w∧(fun w=>D6 w∧(fun w=>D4 w∧(opN p_ (aJ 146 x5 x61) (fy p_ d1 (aW x4 x5 x6 x7 K) Kp) fun _=>
 (fun w=>D13 w∧(fun w=>D12 w∧(fun w=>D6 w∧(opN p_ (aJ 3 x6 x70) (fy p_ d1 (aW x4 x5 x6 x7 K) Kp) fun _=>
 opN p_ (aJ 27 x7 (.int .i64 0)) (fy p_ d1 (aW x4 x5 x6 x7 K) Kp) fun _=>
 dfS p_ d1 .returning (aW x4 x5 x6 x7 K) Kp) w) w) w)) w) w) w) w)) w) w) w) w) w)))) (.int .i64 0)))
theorem sM {v0 v1:Value}:Shp p_ 103 [v0,v1] (po v0 v1):=OM Tryz.call103 Tryz.func103 (an:={cuts:=[(3,[13])],loops:=[(10,[10])],drs:=[(12,.ofL [(0,1),(2,2),(3,3),(4,3),(5,3),(6,3),(1,0),(7,1),(8,1)]),(14,.ofL [(0,3),(1,1),(2,1),(3,1),(4,1),(5,1),(6,1),(7,1),(8,1),(9,1),(10,0),(11,0),(12,0)]),(15,.ofL [(0,2),(1,3),(2,3),(3,3),(4,3),(5,2),(6,3),(7,1),(8,1),(9,1),(10,1),(11,0),(12,3),(13,3),(14,0),(15,0),(16,0),(17,0)])]}) fun _ _=>by kernel_rfl
def ku (v0:Value)(Kp:PK)(K:Value→WP):WP:=
 opN p_ (aY .lss 3 v0 (.int .i64 10)) Kp fun x4=>
 condS x4
 (opN p_ (aY .add 3 v0 (.int .i64 1)) Kp fun x7=>
 opN p_ (ly 9 (.string ⟨#[48,49,50,51,52,53,54,55,56,57,97,98,99,100,101,102,103,104,105,106,107,108,109,110,111,112,113,114,115,116,117,118,119,120,121,122]⟩) (some v0) (some x7) none) Kp fun x8=>
 K x8)
 (opN p_ (aY .mul 3 v0 (.int .i64 2)) Kp fun x10=>
 opN p_ (aY .mul 3 v0 (.int .i64 2)) Kp fun x12=>
 opN p_ (aY .add 3 x12 (.int .i64 2)) Kp fun x13=>
 opN p_ (ly 9 (bm gf) (some x10) (some x13) none) Kp fun x14=>
 K x14)
theorem n8 {v0:Value}:Shp p_ 119 [v0] (ku v0):=Rj Tryz.call119 Tryz.func119 (an:={}) fun _ _=>by kernel_rfl
def fV (v0 v1:Value)(Kp:PK)(K:Value→WP):WP:=
 opN p_ (ii #[23] 3 [v0]) Kp fun x18=>
 th (fun I1 m1 _ y1 y4=>
 opN p_ (aY .geq 3 y4 (.int .i64 8)) Kp fun x20=>
 condS x20
 (opN p_ (aY .rem 170 y1 (.int .u64 100000000)) Kp fun x22=>
 opN p_ (fR 170 112 x22) Kp fun x23=>
 opN p_ (aY .quo 170 y1 (.int .u64 100000000)) Kp fun x25=>
 opN p_ (aY .quo 112 x23 (.int .u32 10000)) Kp fun x27=>
 opN p_ (aY .rem 112 x23 (.int .u32 10000)) Kp fun x29=>
 opN p_ (aY .quo 112 x29 (.int .u32 100)) Kp fun x31=>
 opN p_ (aY .mul 112 x31 (.int .u32 2)) Kp fun x32=>
 opN p_ (aY .rem 112 x29 (.int .u32 100)) Kp fun x34=>
 opN p_ (aY .mul 112 x34 (.int .u32 2)) Kp fun x35=>
 opN p_ (aY .quo 112 x27 (.int .u32 100)) Kp fun x37=>
 opN p_ (aY .mul 112 x37 (.int .u32 2)) Kp fun x38=>
 opN p_ (aY .rem 112 x27 (.int .u32 100)) Kp fun x40=>
 opN p_ (aY .mul 112 x40 (.int .u32 2)) Kp fun x41=>
 oW (stS p_ (aY .sub 3 y4 (.int .i64 1)) fun x44=>
 stD p_ (aY .sub 3 y4 (.int .i64 2)) fun D5 x47=>
 stS p_ (aY .add 112 x35 (.int .u32 1)) fun x49=>
 stS p_ (nQ 9 (bm gf) x49) fun x50=>
 stD p_ (nQ 9 (bm gf) x35) fun D10 x52=>
 stS p_ (iR 23 v0 x44) fun x53=>
 opN p_ (aJ 5 x53 x50) Kp fun _=>
 (fun w=>D10 w∧(fun w=>D5 w∧(stS p_ (iR 23 v0 x47) fun x54=>
 opN p_ (aJ 5 x54 x52) Kp fun _=>
 oW (stS p_ (aY .sub 3 y4 (.int .i64 3)) fun x57=>
 stD p_ (aY .sub 3 y4 (.int .i64 4)) fun D5 x60=>
 stS p_ (aY .add 112 x32 (.int .u32 1)) fun x62=>
 stS p_ (nQ 9 (bm gf) x62) fun x63=>
 stD p_ (nQ 9 (bm gf) x32) fun D10 x65=>
 stS p_ (iR 23 v0 x57) fun x66=>
 opN p_ (aJ 5 x66 x63) Kp fun _=>
 (fun w=>D10 w∧(fun w=>D5 w∧(stS p_ (iR 23 v0 x60) fun x67=>
 opN p_ (aJ 5 x67 x65) Kp fun _=>
 oW (stS p_ (aY .sub 3 y4 (.int .i64 5)) fun x70=>
 stD p_ (aY .sub 3 y4 (.int .i64 6)) fun D5 x73=>
 stS p_ (aY .add 112 x41 (.int .u32 1)) fun x75=>
 stS p_ (nQ 9 (bm gf) x75) fun x76=>
 stD p_ (nQ 9 (bm gf) x41) fun D10 x78=>
 stS p_ (iR 23 v0 x70) fun x79=>
 opN p_ (aJ 5 x79 x76) Kp fun _=>
 (fun w=>D10 w∧(fun w=>D5 w∧(stS p_ (iR 23 v0 x73) fun x80=>
 opN p_ (aJ 5 x80 x78) Kp fun _=>
 oW (stS p_ (aY .sub 3 y4 (.int .i64 7)) fun x83=>
 stD p_ (aY .sub 3 y4 (.int .i64 8)) fun D5 x86=>
 stS p_ (aY .add 112 x38 (.int .u32 1)) fun x88=>
 stS p_ (nQ 9 (bm gf) x88) fun x89=>
 stD p_ (nQ 9 (bm gf) x38) fun D10 x91=>
 stS p_ (iR 23 v0 x83) fun x92=>
 opN p_ (aJ 5 x92 x89) Kp fun _=>
 (fun w=>D10 w∧(fun w=>D5 w∧(stS p_ (iR 23 v0 x86) fun x93=>
 opN p_ (aJ 5 x93 x91) Kp fun _=>
 opN p_ (aY .sub 3 y4 (.int .i64 8)) Kp fun x95=>
 qw I1 m1 x25 x95) w) w))) w) w))) w) w))) w) w)))
 (opN p_ (fR 170 112 y1) Kp fun x97=>
 sG (fun J1=>
 opN p_ (aY .geq 3 y4 (.int .i64 4)) Kp fun x99=>
 condS x99
 (opN p_ (aY .rem 112 x97 (.int .u32 10000)) Kp fun x101=>
 opN p_ (aY .quo 112 x97 (.int .u32 10000)) Kp fun x103=>
 opN p_ (aY .quo 112 x101 (.int .u32 100)) Kp fun x105=>
 opN p_ (aY .mul 112 x105 (.int .u32 2)) Kp fun x106=>
 opN p_ (aY .rem 112 x101 (.int .u32 100)) Kp fun x108=>
 opN p_ (aY .mul 112 x108 (.int .u32 2)) Kp fun x109=>
 oW (stS p_ (aY .sub 3 y4 (.int .i64 1)) fun x112=>
 stD p_ (aY .sub 3 y4 (.int .i64 2)) fun D5 x115=>
 stS p_ (aY .add 112 x109 (.int .u32 1)) fun x117=>
 stS p_ (nQ 9 (bm gf) x117) fun x118=>
 stD p_ (nQ 9 (bm gf) x109) fun D10 x120=>
 stS p_ (iR 23 v0 x112) fun x121=>
 opN p_ (aJ 5 x121 x118) Kp fun _=>
 (fun w=>D10 w∧(fun w=>D5 w∧(stS p_ (iR 23 v0 x115) fun x122=>
 opN p_ (aJ 5 x122 x120) Kp fun _=>
 oW (stS p_ (aY .sub 3 y4 (.int .i64 3)) fun x125=>
 stD p_ (aY .sub 3 y4 (.int .i64 4)) fun D5 x128=>
 stS p_ (aY .add 112 x106 (.int .u32 1)) fun x130=>
 stS p_ (nQ 9 (bm gf) x130) fun x131=>
 stD p_ (nQ 9 (bm gf) x106) fun D10 x133=>
 stS p_ (iR 23 v0 x125) fun x134=>
 opN p_ (aJ 5 x134 x131) Kp fun _=>
 (fun w=>D10 w∧(fun w=>D5 w∧(stS p_ (iR 23 v0 x128) fun x135=>
 opN p_ (aJ 5 x135 x133) Kp fun _=>
 opN p_ (aY .sub 3 y4 (.int .i64 4)) Kp fun x137=>
 J1 x137 x103) w) w))) w) w)))
 (J1 y4 x97)) fun _ z4 z12=>
 sG (fun J2=>
 opN p_ (aY .geq 3 z4 (.int .i64 2)) Kp fun x139=>
 condS x139
 (opN p_ (aY .rem 112 z12 (.int .u32 100)) Kp fun x141=>
 opN p_ (aY .mul 112 x141 (.int .u32 2)) Kp fun x142=>
 opN p_ (aY .quo 112 z12 (.int .u32 100)) Kp fun x144=>
 oW (stS p_ (aY .sub 3 z4 (.int .i64 1)) fun x147=>
 stD p_ (aY .sub 3 z4 (.int .i64 2)) fun D5 x150=>
 stS p_ (aY .add 112 x142 (.int .u32 1)) fun x152=>
 stS p_ (nQ 9 (bm gf) x152) fun x153=>
 stD p_ (nQ 9 (bm gf) x142) fun D10 x155=>
 stS p_ (iR 23 v0 x147) fun x156=>
 opN p_ (aJ 5 x156 x153) Kp fun _=>
 (fun w=>D10 w∧(fun w=>D5 w∧(stS p_ (iR 23 v0 x150) fun x157=>
 opN p_ (aJ 5 x157 x155) Kp fun _=>
 opN p_ (aY .sub 3 z4 (.int .i64 2)) Kp fun x159=>
 J2 x159 x144) w) w)))
 (J2 z4 z12)) fun _ z4 z12=>
 opN p_ (aY .gtr 3 z4 (.int .i64 0)) Kp fun x161=>
 condS x161
 (opN p_ (aY .add 112 (.int .u32 48) z12) Kp fun x164=>
 opN p_ (fR 112 5 x164) Kp fun x165=>
 opN p_ (iR 23 v0 (.int .i64 0)) Kp fun x166=>
 opN p_ (aJ 5 x166 x165) Kp fun _=>
 K (.tuple #[]))
 (K (.tuple #[])))) v1 x18
theorem jm {v0 v1:Value}:Shp p_ 121 [v0,v1] (fV v0 v1):=Rj Tryz.call121 Tryz.func121 (an:={cuts:=[(20,[4,12]),(25,[4,12])],loops:=[(1,[1,4])],drs:=[(7,.ofL [(0,1),(1,1),(2,1),(3,2),(4,2),(5,3),(6,1),(7,1),(8,1),(9,2),(10,3),(11,1),(12,0),(13,1),(14,0)]),(8,.ofL [(0,1),(1,1),(2,1),(3,2),(4,2),(5,3),(6,1),(7,1),(8,1),(9,2),(10,3),(11,1),(12,0),(13,1),(14,0)]),(9,.ofL [(0,1),(1,1),(2,1),(3,2),(4,2),(5,3),(6,1),(7,1),(8,1),(9,2),(10,3),(11,1),(12,0),(13,1),(14,0)]),(10,.ofL [(0,1),(1,1),(2,1),(3,2),(4,2),(5,3),(6,1),(7,1),(8,1),(9,2),(10,3),(11,1),(12,0),(13,1),(14,0)]),(17,.ofL [(0,1),(1,1),(2,1),(3,2),(4,2),(5,3),(6,1),(7,1),(8,1),(9,2),(10,3),(11,1),(12,0),(13,1),(14,0)]),(18,.ofL [(0,1),(1,1),(2,1),(3,2),(4,2),(5,3),(6,1),(7,1),(8,1),(9,2),(10,3),(11,1),(12,0),(13,1),(14,0)]),(23,.ofL [(0,1),(1,1),(2,1),(3,2),(4,2),(5,3),(6,1),(7,1),(8,1),(9,2),(10,3),(11,1),(12,0),(13,1),(14,0)])]}) fun _ _=>by kernel_rfl
def ed (v0 v1 v2 v3:Value)(rv:Value)(Kp:PK)(K:Value→WP):WP:=
 opN p_ (kj .neq 20 (.tmp 6) (.const .nilIface) rv .nilIface) Kp fun x7=>
 condS x7
 (oW (stD p_ (Nl rv 20 27 false) fun D1 x9=>
 opN p_ (aJ 23 v0 (.slice none 0 0)) Kp fun _=>
 (fun w=>D1 w∧(opN p_ (aJ 146 v1 (.slice none 0 0)) Kp fun _=>
 (fun w=>D1 w∧(opN p_ (aJ 3 v2 (.int .i64 0)) Kp fun _=>
 (fun w=>D1 w∧(opN p_ (aJ 27 v3 x9) Kp fun _=>
 K (.tuple #[])) w)) w)) w)))
 (K (.tuple #[]))
def jn:Ann:={drs:=[(2,.ofL [(0,2),(1,3),(2,0),(3,0),(4,0),(5,0)])]}
theorem n9 (v0 v1 v2 v3:Value)(rv:Value)(Kp:PK)(K:Value->WP):Gm p_ jn Tryz.f132 [v0,v1,v2,v3] rv Kp K=ed v0 v1 v2 v3 rv Kp K:=by kernel_rfl
theorem jS {v0 v1 v2 v3:Value}{u:FrameMode}{Kp:PK}{K:Value->WP}{w:World}(h:ed v0 v1 v2 v3 (eP u).1 Kp K w):CallsD p_ 132 ([v0,v1,v2,v3]:List Value).toArray u w fun
   | .returned v,u',w'=>u'=(eP u).2/\K v w'
   | .panicked ch,u',w'=>u'=(eP u).2/\Kp ch w'
   | .outgrown,_,_=>False:=
 kh wide Tryz.func132 (an:=jn) (args:=[v0,v1,v2,v3]) (cast (congrFun (n9 v0 v1 v2 v3 _ Kp K) w).symm h)
def jT (v0:Value)(Kp:PK)(K:Value→WP):WP:=
 sG (fun J1=>
 opN p_ (aY .geq 170 v0 (.int .u64 4294967296)) Kp fun x4=>
 condS x4
 (opN p_ (aY .shr 170 v0 (.int .u64 32)) Kp fun x6=>
 J1 x6 (.int .i64 32))
 (J1 v0 (.int .i64 0))) fun _ z0 z2=>
 sG (fun J2=>
 opN p_ (aY .geq 170 z0 (.int .u64 65536)) Kp fun x8=>
 condS x8
 (opN p_ (aY .shr 170 z0 (.int .u64 16)) Kp fun x10=>
 opN p_ (aY .add 3 z2 (.int .i64 16)) Kp fun x12=>
 J2 x10 x12)
 (J2 z0 z2)) fun _ z0 z2=>
 sG (fun J3=>
 opN p_ (aY .geq 170 z0 (.int .u64 256)) Kp fun x14=>
 condS x14
 (opN p_ (aY .shr 170 z0 (.int .u64 8)) Kp fun x16=>
 opN p_ (aY .add 3 z2 (.int .i64 8)) Kp fun x18=>
 J3 x16 x18)
 (J3 z0 z2)) fun _ z0 z2=>
 opN p_ (fR 170 5 z0) Kp fun x21=>
 opN p_ (nQ 9 (bm qH) x21) Kp fun x22=>
 opN p_ (fR 5 3 x22) Kp fun x23=>
 opN p_ (aY .add 3 z2 x23) Kp fun x24=>
 K x24
theorem mQ {v0:Value}:Shp p_ 162 [v0] (jT v0):=Rj Tryz.call162 Tryz.func162 (an:={cuts:=[(4,[0,2]),(7,[0,2]),(10,[0,2])]}) fun _ _=>by kernel_rfl
def jU (v0 v1:Value)(Kp:PK)(K:Value→WP):WP:=
 opN p_ (j7 250 v0) Kp fun x2=>
 opN p_ (j7 3 v1) Kp fun x3=>
 opN p_ (ck 209) Kp fun x4=>
 oW (stD p_ (aI 250 x2) fun D0 x8=>
 stD p_ (j8 x8) fun D1 x9=>
 stD p_ (jf 253 x9 0) fun D2 x10=>
 stD p_ (aI 23 x10) fun D3 x11=>
 stD p_ (aI 3 x3) fun D4 x12=>
 stD p_ (iR 23 x11 x12) fun D5 x13=>
 stD p_ (aI 5 x13) fun D6 x14=>
 stD p_ (aM 209 [(2,x14)]) fun D7 x15=>
 opN p_ (ck 209) Kp fun x5=>
 (fun w=>D7 w∧(fun w=>D6 w∧(fun w=>D5 w∧(fun w=>D4 w∧(fun w=>D3 w∧(fun w=>D2 w∧(fun w=>D1 w∧(fun w=>D0 w∧(opN p_ (aJ 209 x5 x15) Kp fun _=>
 opN p_ (aI 250 x2) Kp fun x16=>
 opN p_ (aI 3 x3) Kp fun x17=>
 opN p_ (bN (fn 222) [x16,x17]) Kp fun x18=>
 rfS p_ x18 1 (fun u19 B1 N1 J1r=>
 B1 (opN p_ (aI 250 x2) dI fun x20=>
 opN p_ (aI 3 x3) dI fun x22=>
 opN p_ (bN (fn 223) [x20,u19,x22]) dI fun x23=>
 opN p_ (jf 209 x5 0) dI fun x25=>
 opN p_ (aI 3 x25) dI fun x26=>
 opN p_ (aY .gtr 3 x23 x26) dI fun x27=>
 condS x27
 (opN p_ (aI 3 x3) dI fun x29=>
 opN p_ (aY .sub 3 x29 u19) dI fun x31=>
 opN p_ (aM 209 [(0,x23),(1,x31)]) dI fun x32=>
 opN p_ (aJ 209 x5 x32) dI fun _=>
 N1)
 (N1))) (fun d1=>
 opN p_ (aI 209 x5) (ez [d1] Kp) fun x33=>
 opN p_ (aJ 209 x4 x33) (ez [d1] Kp) fun _=>
 (tkS d1 ((stS p_ (dG 209 x4) fun r0=>K r0)))) (fun d1=>(tkS d1 ((stS p_ (dG 209 x4) fun r0=>K r0)))) (fun d1 ch=>(tkS d1 (Kp ch)))) w) w) w) w) w) w) w) w))
theorem mR {v0 v1:Value}:Shp p_ 196 [v0,v1] (jU v0 v1):=Dk Tryz.call196 Tryz.func196 (an:={drs:=[(1,.ofL [(0,3),(1,3),(2,3),(3,3),(4,3),(5,3),(6,3),(7,3),(8,0),(9,0)])]}) fun _ _=>by kernel_rfl
def mT (v0 v1 v2:Value)(Kp:PK)(K:Value→WP):WP:=
 opN p_ (j7 156 v0) Kp fun x3=>
 opN p_ (j7 258 v1) Kp fun x4=>
 opN p_ (j7 258 v2) Kp fun x5=>
 oW (stS p_ (jf 258 x4 0) fun x23=>
 stS p_ (aI 197 x23) fun x24=>
 stD p_ (jf 258 x5 0) fun D3 x26=>
 stD p_ (aI 197 x26) fun D4 x27=>
 opN p_ (bN (fn 231) [x24,(.int .i64 257)]) Kp fun x25=>
 (fun w=>D4 w∧(fun w=>D3 w∧(opN p_ (bN (fn 231) [x27,(.int .i64 1)]) Kp fun x28=>
 oW (stS p_ (jf 258 x4 0) fun x29=>
 stS p_ (aI 197 x29) fun x30=>
 stS p_ (ly 197 x30 none (some x25) none) fun x32=>
 stD p_ (jf 258 x5 0) fun D5 x34=>
 stD p_ (aI 197 x34) fun D6 x35=>
 stD p_ (ly 197 x35 none (some x28) none) fun D8 x37=>
 opN p_ (iS #[197,197] 197 [(.slice none 0 0),x32]) Kp fun x33=>
 (fun w=>D8 w∧(fun w=>D6 w∧(fun w=>D5 w∧(opN p_ (iS #[197,197] 197 [x33,x37]) Kp fun x38=>
 opN p_ (o8 197 (.int .i64 19) (.int .i64 19)) Kp fun x39=>
 opN p_ (ck 197) Kp fun x9=>
 opN p_ (aJ 197 x9 x39) Kp fun _=>
 opN p_ (ck 3) Kp fun x10=>
 opN p_ (aJ 3 x10 (.int .i64 0)) Kp fun _=>
 opN p_ (bN (fn 232) [x38]) Kp fun x41=>
 rfS p_ x41 1 (fun u42 B1 N1 J1r=>
 opN p_ (ck 306) dI fun x11=>
 opN p_ (aJ 306 x11 u42) dI fun _=>
 B1 (opN p_ (aI 197 x9) dI fun x43=>
 opN p_ (jf 306 x11 0) dI fun x44=>
 opN p_ (aI 3 x44) dI fun x45=>
 opN p_ (iR 197 x43 x45) dI fun x46=>
 opN p_ (aI 3 x46) dI fun x47=>
 opN p_ (aY .add 3 x47 (.int .i64 1)) dI fun x48=>
 opN p_ (iR 197 x43 x45) dI fun x49=>
 opN p_ (aJ 3 x49 x48) dI fun _=>
 opN p_ (aI 197 x9) dI fun x50=>
 opN p_ (jf 306 x11 0) dI fun x51=>
 opN p_ (aI 3 x51) dI fun x52=>
 opN p_ (iR 197 x50 x52) dI fun x53=>
 opN p_ (aI 3 x53) dI fun x54=>
 opN p_ (kj .eql 3 (.tmp 54) (.const (.int .i64 1)) x54 (.int .i64 1)) dI fun x55=>
 condS x55
 (opN p_ (aI 3 x10) dI fun x56=>
 opN p_ (aY .add 3 x56 (.int .i64 1)) dI fun x57=>
 opN p_ (aJ 3 x10 x57) dI fun _=>
 N1)
 (N1))) (fun d1=>
 yu (fun J1=>
 opN p_ (aI 3 x10) (ez [d1] Kp) fun x58=>
 opN p_ (kj .eql 3 (.tmp 58) (.const (.int .i64 1)) x58 (.int .i64 1)) (ez [d1] Kp) fun x59=>
 condS x59
 (uu (fun J2=>
 opN p_ (aI 197 x9) (ez [d1] Kp) fun x60=>
 opN p_ (iR 197 x60 (.int .i64 0)) (ez [d1] Kp) fun x61=>
 opN p_ (aI 3 x61) (ez [d1] Kp) fun x62=>
 opN p_ (aY .gtr 3 x62 (.int .i64 0)) (ez [d1] Kp) fun x63=>
 condS x63
 (J2 (.int .i64 1))
 (J2 (.int .i64 0))) fun _ z12=>
 opN p_ (aI 197 x9) (ez [d1] Kp) fun x64=>
 opN p_ (iR 197 x64 z12) (ez [d1] Kp) fun x66=>
 opN p_ (aI 3 x66) (ez [d1] Kp) fun x67=>
 opN p_ (aY .add 3 x67 (.int .i64 1)) (ez [d1] Kp) fun x68=>
 opN p_ (iR 197 x64 z12) (ez [d1] Kp) fun x69=>
 opN p_ (aJ 3 x69 x68) (ez [d1] Kp) fun _=>
 J1)
 (J1)) fun _=>
 opN p_ (aI 197 x9) (ez [d1] Kp) fun x71=>
 opN p_ (bN (fn 230) [x71,(.int .i64 7)]) (ez [d1] Kp) fun x72=>
 opN p_ (l7 x72 0) (ez [d1] Kp) fun x73=>
 opN p_ (l7 x72 1) (ez [d1] Kp) fun x74=>
 opN p_ (bN (fn 200) [x73]) (ez [d1] Kp) fun x76=>
 opN p_ (ck 258) (ez [d1] Kp) fun x15=>
 opN p_ (aJ 258 x15 x76) (ez [d1] Kp) fun _=>
 opN p_ (aM 236 [(0,(.int .i64 16)),(1,(.int .i64 17)),(2,(.int .i64 18)),(3,(.int .i64 0)),(4,(.int .i64 8)),(5,(.int .i64 7)),(6,(.int .i64 9)),(7,(.int .i64 6)),(8,(.int .i64 10)),(9,(.int .i64 5)),(10,(.int .i64 11)),(11,(.int .i64 4)),(12,(.int .i64 12)),(13,(.int .i64 3)),(14,(.int .i64 13)),(15,(.int .i64 2)),(16,(.int .i64 14)),(17,(.int .i64 1)),(18,(.int .i64 15))]) (ez [d1] Kp) fun x77=>
 th (fun I1 m1 _ y16 y78=>
 opN p_ (aY .lss 3 y78 (.int .i64 19)) (ez [d1] Kp) fun x79=>
 condS x79
 (opN p_ (nQ 236 x77 y78) (ez [d1] Kp) fun x80=>
 opN p_ (iR 197 x73 x80) (ez [d1] Kp) fun x84=>
 opN p_ (aI 3 x84) (ez [d1] Kp) fun x85=>
 opN p_ (cm 197 1 [(0,x85)]) (ez [d1] Kp) fun x86=>
 opN p_ (iS #[197,197] 197 [y16,x86]) (ez [d1] Kp) fun x87=>
 opN p_ (aY .add 3 y78 (.int .i64 1)) (ez [d1] Kp) fun x88=>
 qw I1 m1 x87 x88)
 (opN p_ (bN (fn 231) [y16,(.int .i64 4)]) (ez [d1] Kp) fun x90=>
 opN p_ (aI 156 x3) (ez [d1] Kp) fun x91=>
 opN p_ (aY .sub 3 x25 (.int .i64 257)) (ez [d1] Kp) fun x93=>
 opN p_ (bN (fn 156) [x91,x93,(.int .i64 5)]) (ez [d1] Kp) fun x94=>
 opN p_ (aI 156 x3) (ez [d1] Kp) fun x95=>
 opN p_ (aY .sub 3 x28 (.int .i64 1)) (ez [d1] Kp) fun x97=>
 opN p_ (bN (fn 156) [x95,x97,(.int .i64 5)]) (ez [d1] Kp) fun x98=>
 opN p_ (aI 156 x3) (ez [d1] Kp) fun x99=>
 opN p_ (aY .sub 3 x90 (.int .i64 4)) (ez [d1] Kp) fun x101=>
 opN p_ (bN (fn 156) [x99,x101,(.int .i64 4)]) (ez [d1] Kp) fun x102=>
 opN p_ (ly 197 y16 none (some x90) none) (ez [d1] Kp) fun x105=>
 opN p_ (ii #[197] 3 [x105]) (ez [d1] Kp) fun x106=>
 o9 (fun I2 m2 _ y107=>
 opN p_ (aY .lss 3 y107 x106) (ez [d1] Kp) fun x108=>
 condS x108
 (opN p_ (iR 197 x105 y107) (ez [d1] Kp) fun x109=>
 opN p_ (aI 3 x109) (ez [d1] Kp) fun x110=>
 opN p_ (aI 156 x3) (ez [d1] Kp) fun x111=>
 opN p_ (bN (fn 156) [x111,x110,(.int .i64 3)]) (ez [d1] Kp) fun x113=>
 opN p_ (aY .add 3 y107 (.int .i64 1)) (ez [d1] Kp) fun x114=>
 iD I2 m2 x114)
 (opN p_ (bN (fn 232) [x38]) (ez [d1] Kp) fun x116=>
 rfS p_ x116 1 (fun u117 B2 N2 J2r=>
 opN p_ (ck 306) dI fun x22=>
 opN p_ (aJ 306 x22 u117) dI fun _=>
 B2 (opN p_ (aI 156 x3) dI fun x118=>
 opN p_ (jf 258 x15 1) dI fun x119=>
 opN p_ (aI 197 x119) dI fun x120=>
 opN p_ (jf 258 x15 0) dI fun x121=>
 opN p_ (aI 197 x121) dI fun x122=>
 opN p_ (jf 306 x22 0) dI fun x123=>
 opN p_ (aI 3 x123) dI fun x124=>
 opN p_ (bN (fn 228) [x118,x120,x122,x124]) dI fun x125=>
 opN p_ (aI 156 x3) dI fun x126=>
 opN p_ (jf 306 x22 2) dI fun x127=>
 opN p_ (aI 3 x127) dI fun x128=>
 opN p_ (jf 306 x22 1) dI fun x129=>
 opN p_ (aI 3 x129) dI fun x130=>
 opN p_ (bN (fn 156) [x126,x128,x130]) dI fun x131=>
 N2)) (fun d2=>
 (tkS d2 (tkS d1 (K (.tuple #[]))))) (fun d2=>(tkS d2 (tkS d1 (K (.tuple #[]))))) (fun d2 ch=>(tkS d2 (tkS d1 (Kp ch)))))) (.int .i64 0))) (.slice none 0 0) (.int .i64 0)) (fun d1=>(tkS d1 (K (.tuple #[])))) (fun d1 ch=>(tkS d1 (Kp ch)))) w) w) w))) w) w))
theorem qJ {v0 v1 v2:Value}:Shp p_ 203 [v0,v1,v2] (mT v0 v1 v2):=Dk Tryz.call203 Tryz.func203 (an:={cuts:=[(14,[12]),(15,[])],loops:=[(19,[16,78]),(28,[107])],drs:=[(1,.ofL [(0,1),(1,1),(3,3),(4,3),(2,0),(5,0),(6,1),(7,1)]),(2,.ofL [(0,1),(1,1),(2,1),(3,1),(5,3),(6,3),(7,2),(8,3),(4,0),(9,0),(10,1)])]}) fun _ _=>by kernel_rfl
end S
namespace FD
open Go Go.Proofs Go.RowKit Sh Sl T
section
variable {P:Program} {W:World} {L L':List HP} {Kp:PK} {k:Value->WP}
theorem qK {a b:Bool}{y:Value}{s:Value->Sem Next}(h2:a=true->bg P W [] (s y) (.bool b))(h:aZ W L (k (.bool (a&&b)))):
  aZ W L (gdK (.bool a) true (fun k=>k y) fun x=>gdK (.bool a) true (opN P (s x) Kp) fun x2=>opN P (iV (.bool a) x2 (.bool false)) Kp k):=by
 cases a with
 |true=>
  refine ae (ae (o_ (h2 rfl) ?_))
  refine o_ ah ?_
  simpa using h
 |false=>
  refine af (af (o_ ag ?_))
  simpa using h
theorem uD {a b c:Bool}{y:Value}{s1 s2:Value->Sem Next}(h1:a=false->bg P W [] (s1 y) (.bool b))(h2:a=false->b=true->bg P W [] (s2 y) (.bool c))(h:aZ W L (k (.bool (a||(b&&c))))):
  aZ W L (gdK (.bool a) false (fun k=>k y) fun x14=>gdK (.bool a) false (opN P (s1 x14) Kp) fun x15=>gdK (.bool a) false (fun k=>k x15) fun x16=>gdK x16 true (fun k=>k y) fun x17=>gdK x16 true (opN P (s2 x17) Kp) fun x18=>
   gdK (.bool a) false (opN P (iV x16 x18 (.bool false)) Kp) fun x19=>opN P (iV (.bool a) (.bool true) x19) Kp k):=by
 cases a with
 |true=>
  refine ao (ao (ao (dg (dg (ao (o_ ah ?_))))))
  simpa using h
 |false=>
  refine ae (ae (o_ (h1 rfl) ?_))
  refine ae ?_
  cases b with
  |true=>
   refine ae (ae (o_ (h2 rfl rfl) ?_))
   refine ae (o_ ah (o_ ag ?_))
   simpa using h
  |false=>
   refine af (af (ae (o_ ag (o_ ag ?_))))
   simpa using h
theorem I0 {t:TypeId} {g o:Nat} {cs:Array Value} {T:TypeId} {fz:Nat × Nat} {v:Value} [ht:OneT P t] [hv:OC v] (p:Pick L (pt g (.cells cs T fz)) L') (ho:o<cs.size) (hfz:¬(fz.1<=o/\o<fz.2))
  (h:aZ W (pt g (.cells (cs.setIfInBounds o v) T fz)::L') (k undef)):aZ W L (opN P (aJ t (.pointer (some ⟨g,o,none⟩)) v) Kp k):=fun w hw=>by
 have hw':=hw.pick p
 have hc:w.cell? ⟨g,o,none⟩=some cs[o]:=by rw[hw'.cell,Array.getElem?_eq_getElem ho]
 have hf:w.frozen? ⟨g,o,none⟩=false:=by
  simp only[World.frozen?,hw'.pt_.1]
  simp
  intro h1
  by_cases c:o<fz.2
  ·exact absurd ⟨h1,c⟩ hfz
  ·omega
 have hcells:v.cells= #[v]:=by exact ak hv.one
 refine⟨?_⟩
 have hr:(aJ t (.pointer (some ⟨g,o,none⟩)) v).run P w= .ok .skip (w.setCell ⟨g,o,none⟩ v):=by
  simp[aJ,Instr.storeAt,Instr.sureAddr,storeVar,ht.size,hcells,storeCells,Addr.add,run_store,hv.one,hc,hf]
 rw[hr]
 exact h _ (hw'.setCell v)
theorem k6 {s t e:TypeId} {l:List UInt8} [hs:StrT P s] (ht:P.underlying t=some (.slice e)) (he:P.underlying e=some (.int .u8))
  (h:∀g c (rest:List Value),aZ W (pt g (.cells (l.map B++rest).toArray e (l.length+rest.length,l.length+rest.length+1))::L) (k (.slice (some ⟨g,0,none⟩) l.length c))):aZ W L (opN P (fR s t (bm l)) Kp k):=fun w hw=>by
 refine⟨?_⟩
 have hr:=run_bytes_of_string (P:=P) w s t e ⟨l.toArray⟩ hs.ut ht he
 have hb:bytesRow ⟨l.toArray⟩ (grownCap w l.length 0 e)=(l.map B++(Array.replicate (grownCap w l.length 0 e-l.length) (Value.int .u8 0)).toList).toArray:=by
  apply Array.ext'
  simp[bytesRow,B,ByteArray.size]
 have:(fR s t (bm l)).run P w= .ok (.value (.slice (some ⟨w.heap.size,0,none⟩) l.length (grownCap w l.length 0 e))) (w.drew.alloc (.cells (bytesRow ⟨l.toArray⟩ (grownCap w l.length 0 e)) e ((bytesRow ⟨l.toArray⟩ (grownCap w l.length 0 e)).size,(bytesRow ⟨l.toArray⟩ (grownCap w l.length 0 e)).size+1))):=by
  simp[fR,bm,hr,ByteArray.size]
 rw[this]
 have h2:=(hw.drew).alloc (.cells (bytesRow ⟨l.toArray⟩ (grownCap w l.length 0 e)) e ((bytesRow ⟨l.toArray⟩ (grownCap w l.length 0 e)).size,(bytesRow ⟨l.toArray⟩ (grownCap w l.length 0 e)).size+1))
 rw[hb]at h2 ⊢
 have hz:((l.map B++(Array.replicate (grownCap w l.length 0 e-l.length) (Value.int .u8 0)).toList).toArray).size=l.length+((Array.replicate (grownCap w l.length 0 e-l.length) (Value.int .u8 0)).toList).length:=by simp
 rw[hz]at h2 ⊢
 exact h _ _ _ _ h2
end
def sr (l:List UInt8)(c:UInt8):Int:=if c∈l then((l.findIdx (· ==c):Nat):Int)else-1
theorem pq {l:List UInt8}{c:UInt8}:firstIdx ⟨l.toArray⟩ c=sr l c:=by
 have e:∀i,i<l.length->((⟨l.toArray⟩:ByteArray)[i]! ==c)=(l.getD i 0==c):=fun i hi=>by
  have h2:i<(⟨l.toArray⟩:ByteArray).size:=hi
  rw[getElem!_pos _ i h2]
  simp[ByteArray.getElem_eq_getElem_data,List.getD_eq_getElem?_getD,hi]
 unfold sr
 by_cases h:c∈l
 ·rw[if_pos h]
  have hlt:l.findIdx (· ==c)<l.length:=List.findIdx_lt_length_of_exists ⟨c,h,by simp⟩
  have hf:(List.range (⟨l.toArray⟩:ByteArray).size).find? (fun i=>(⟨l.toArray⟩:ByteArray)[i]! ==c)=some (l.findIdx (· ==c)):=by
   rw[List.find?_eq_some_iff_getElem]
   refine⟨?_,l.findIdx (· ==c),by simpa [ByteArray.size]using hlt,by simp,fun j hj=>?_⟩
   ·rw[e _ hlt]
    have:=List.findIdx_getElem (w:=hlt)
    simpa [List.getD_eq_getElem?_getD,hlt]using this
   ·have hjl:j<l.length:=by omega
    simp only[List.getElem_range]
    rw[e _ hjl]
    have:=List.not_of_lt_findIdx hj
    simpa [List.getD_eq_getElem?_getD,hjl]using this
  unfold firstIdx
  rw[hf]
 ·rw[if_neg h]
  have hf:(List.range (⟨l.toArray⟩:ByteArray).size).find? (fun i=>(⟨l.toArray⟩:ByteArray)[i]! ==c)=none:=by
   rw[List.find?_eq_none]
   intro i hi
   have hil:i<l.length:=by simpa [ByteArray.size]using hi
   rw[e i hil]
   simp[List.getD_eq_getElem?_getD,hil]
   rintro rfl
   exact h (List.getElem_mem hil)
  unfold firstIdx
  rw[hf]
theorem n_ {l:List UInt8}{c:UInt8}:(0<=sr l c)↔c∈l:=by
 unfold sr
 by_cases h:c∈l
 ·rw[if_pos h];simp[h]
 ·rw[if_neg h];simp[h]
theorem qL {W:World}{l:List UInt8}{c:UInt8}:Cn p_ 63 [bm l,Sl.B c] W [] (fun _:Unit=> .int .i64 (sr l c)) (fun _=>[]):=by
 have ext:bg p_ W [] (bN (fn 98) [bm l,Sl.B c]) (.int .i64 (sr l c)):=fun w _=>by
  have hr:(callFunc 98 #[bm l,Sl.B c]).run p_ w= .ok (.value (.int .i64 (sr l c))) w:=by
   rw[run_callFunc_extern Tryz.func98 (by kernel_rfl) (by kernel_rfl) (by kernel_rfl) (e:=Extern.BytealgIndexByte.indexByte) (by kernel_rfl)]
   have:=run_indexByte_string (P:=p_) ⟨l.toArray⟩ (c.toNat:Int) w
   unfold bm Sl.B
   rw[this]
   simp only[Result.andThen_ok]
   rw[show(↑c.toNat:Int).toNat.toUInt8=c by simp,pq]
  simp[bN,Deferred.ofValue,invoke,fn,hr]
 (refine Shp.cn (Sg.g_ Tryz.call63 Tryz.func63) fun F=>?_;simp only[ca_,na_])
 refine o_ ext ?_
 refine bq () ?_
 exact aw
theorem indexByte {W:World}{l:List UInt8}{c:UInt8}:Cn p_ 44 [bm l,Sl.B c] W [] (fun _:Unit=> .int .i64 (sr l c)) (fun _=>[]):=by
 (refine Shp.cn (Sg.g_ Tryz.call44 Tryz.func44) fun F=>?_;simp only[ca_,na_])
 refine c_ qL fun _=>?_
 refine bq () ?_
 exact aw
end FD
namespace FD
open Go Go.Proofs Go.RowKit Sh Sl T
theorem ON:(p_.info? 5).map (fun i=>(i.zero,i.size,i.bytes))=some (some (.int .u8 0),1,1):=by kernel_rfl
set_option maxHeartbeats 4000000 in
set_option maxRecDepth 100000 in
theorem J_ (s:ByteArray)(w:World)(hlim:s.size<=281474976710656):
  Calls p_ 254 #[.string s] w fun e w'=>e= .returned (.string s)/\Below w.heap.size w w':=by
 by_cases h0:s.size=0
 ·have hs:s=⟨#[]⟩:=by
   apply ByteArray.ext
   exact Array.eq_empty_of_size_eq_zero h0
  subst hs
  go_enter Tryz.func254,Tryz.ntmps254
  go_wp2
  go_ret
  exact⟨rfl,Below.refl _ _⟩
 ·obtain⟨i0,hi,hz0,hz1,hz2⟩:=info_parts ON
  have hinfo:(p_.info? 5).map (·.size)=some 1:=by rw[hi];simp[hz1]
  have hco:p_.cellsOf 5=1:=by simp[Program.cellsOf,hi,hz1]
  obtain⟨M,hM⟩:∃M,M=madeCells (Value.int .u8 0).cells (((s.size:Nat):Int).toNat * i0.size):=⟨_,rfl⟩
  have hMs:M.size=s.size:=by rw[hM,size_madeCells,hz1];simp
  have hmk:∀W:World,(Instr.makeSlice 23 (.int .i64 (s.size:Int)) (.int .i64 (s.size:Int))).run p_ W= .ok (.slice (some ⟨W.heap.size,0,none⟩) s.size s.size) (W.alloc (.cells M 5)):=fun W=>by
   have h:=run_make (P:=p_) W 23 5 i0 (.int .u8 0) Tryz.underlying23 hi hz0 .i64 .i64 (s.size:Int) (s.size:Int) (by omega) (by omega) (by rw[hz2];omega) (by omega)
   rw[<- hM]at h
   simpa using h
  clear hM
  have hcp:=Lib.run_copy_row_string (P:=p_) (w.alloc (.cells M 5)) 23 9 3 5 w.heap.size 0 s.size s.size s M 5 Tryz.underlying23 hinfo (heap_alloc_new w _) (Nat.le_refl _) (by omega)
  obtain⟨Y,hY⟩:∃Y,Y=(M.toList.take 0++Lib.byteCells s.data.toList++M.toList.drop (0+s.size)).toArray:=⟨_,rfl⟩
  rw[<- hY]at hcp
  have hYl:Y.toList=Lib.byteCells s.data.toList:=by
   rw[hY,List.toList_toArray,List.take_zero,List.nil_append,List.drop_of_length_le (by rw[Array.length_toList];omega),List.append_nil]
  have hYs:Y.size=s.size:=by rw[<- Array.length_toList,hYl,Lib.byteCells_length,<- Lib.size_eq]
  have hgY:((w.alloc (.cells M 5)).setRow w.heap.size Y).heap[w.heap.size]? =some (.cells Y 5 (0,0)):=setRow_heap _ _ M _ 5 (0,0) (heap_alloc_new w _)
  have hne:s.data.toList≠[]:=fun e=>h0 (by rw[Lib.size_eq,e];rfl)
  have hUS:=Lib.run_unsafeString_row (P:=p_) ((w.alloc (.cells M 5)).setRow w.heap.size Y) 165 3 9 5 Tryz.underlying165 hco w.heap.size Y.size (by unfold World.shape?;rw[hgY]) s.data.toList hne (by rw[<- Lib.size_eq];omega) (by rw[<- Lib.size_eq];omega)
   (fun j x hx=>Lib.cells_of_row hgY Y.size j _ (by rw[List.take_of_length_le (by rw[Array.length_toList];exact Nat.le_refl _),hYl];simp[Lib.byteCells,hx]))
  rw[<- Lib.size_eq]at hUS
  clear hY
  go_enter Tryz.func254,Tryz.ntmps254
  go_wp2
  go_ret
  have hb1:Below w.heap.size w (w.alloc (.cells M 5)):=(Below.refl _ w).alloc (Nat.le_refl _) _
  have hb2:Below w.heap.size (w.alloc (.cells M 5)) ((w.alloc (.cells M 5)).setRow w.heap.size Y):=⟨rfl,rfl,rfl,by simp,fun k hk=>setRow_other _ _ _ _ (by omega)⟩
  exact⟨rfl,Lib.below_freeze (hb1.trans hb2) (p:=⟨w.heap.size,0,none⟩) (Nat.le_refl _) _⟩
theorem BB {W w w':World}{L:List HP}(H:sat W L w)(hb:Below w.heap.size w w'):sat W L w':=by
 obtain⟨h,hl,hh⟩:=H.heap
 refine⟨⟨hb.os.trans H.base.os,hb.tape.trans H.base.tape,hb.output.trans H.base.output,Nat.le_trans H.base.size hb.size,fun k hk=>(hb.block k (Nat.lt_of_lt_of_le hk H.base.size)).trans (H.base.block k hk)⟩,h,hl,fun i o c=>?_⟩
 obtain⟨h1,h2⟩:=hh i o c
 have hlt:i<w.heap.size:=(Array.getElem?_eq_some_iff.1 h2).1
 exact⟨h1,by rw[hb.block i hlt,h2]⟩
theorem OO {W:World}{l:List UInt8}(hl:l.length<=281474976710656):Cn p_ 254 [bm l] W [] (fun _:Unit=>bm l) (fun _=>[]):=
 ⟨Tryz.call254,fun F w hw=>(J_ ⟨l.toArray⟩ w hl).mono fun e w' ⟨he,hb⟩=>⟨(),he,BB hw hb⟩⟩
instance uE:ZeroT p_ 97 (.agg (An 256 fun _=>0)):=⟨fun w=>(Tryz.zeroValue97 w).trans (by
 have:Tryz.zeroCells97=An 256 fun _=>0:=by kernel_rfl
 rw[this])⟩
def u8 (i:Nat):UInt8:=UInt8.ofNat i
theorem yC {i:Nat}(h:i<256):(u8 i).toNat=i:=by
 unfold u8
 rw[UInt8.toNat_ofNat']
 omega
def zY (i:Nat):Int:=if wm (u8 i)then 1 else 0
def BC (i:Nat):Int:=zY i+(if i=9\/(32<=i/\i≠127)then 2 else 0)
def xY (i:Nat):Int:=BC i+(if 65<=i/\i<=90 then 4 else 0)
theorem OP {i:Nat}(h:i<256):((decide ((97:Int)<=(i:Int))&&decide ((i:Int)<=122))||(decide ((65:Int)<=(i:Int))&&decide ((i:Int)<=90))||(decide ((48:Int)<=(i:Int))&&decide ((i:Int)<=57)))=De (u8 i):=by
 unfold De
 have e:=yC h
 simp only[UInt8.le_iff_toNat_le,e]
 rw[<- Bool.decide_and,<- Bool.decide_and,<- Bool.decide_and,<- Bool.decide_or,<- Bool.decide_or,decide_eq_decide]
 simp only[show(97:UInt8).toNat=97 from rfl,show(122:UInt8).toNat=122 from rfl,show(65:UInt8).toNat=65 from rfl,show(90:UInt8).toNat=90 from rfl,show(48:UInt8).toNat=48 from rfl,show(57:UInt8).toNat=57 from rfl]
 omega
theorem Ka (c:UInt8):yz.contains c=true->32<c.toNat/\c.toNat<127:=by
 refine Df (p:=fun c=>yz.contains c=true->32<c.toNat/\c.toNat<127) ?_ c
 decide+kernel
def pY (i:Nat)(x:Int):Nat->Int:=fun j=>if j<i then xY j else if j=i then x else 0
theorem uF {i:Nat}{x y:Int}:(An 256 (pY i x)).setIfInBounds i (.int .i64 y)=An 256 (pY i y):=by
 refine qG.trans (eu fun j _=>?_)
 unfold pY
 by_cases h:j=i
 ·subst h;simp
 ·simp[h]
theorem yD {i:Nat}{x:Int}(h:i<256):(An 256 (pY i x))[i]? =some (.int .i64 x):=by
 rw[iG h];simp[pY,I]
theorem Dl {i:Nat}:An 256 (pY i (xY i))=An 256 (pY (i+1) 0):=eu fun j _=>by
 unfold pY
 by_cases h:j<i
 ·rw[if_pos h,if_pos (by omega)]
 ·by_cases h2:j=i
  ·subst h2;simp
  ·rw[if_neg h,if_neg h2,if_neg (by omega)];simp
theorem yE {n:Nat}{f:Nat->Int}:∀u∈(An n f).toList,u.oneCell'=true:=by
 intro u hu
 simp only[An]at hu
 obtain⟨j,_,rfl⟩:=List.mem_map.1 hu
 rfl
theorem Tn:co .or .i64 0 1=1:=by rfl
theorem To {x:Int}(h:x=0\/x=1):co .or .i64 x 2=x+2:=by rcases h with rfl|rfl <;> rfl
theorem Tp {x:Int}(h:x=0\/x=1\/x=2\/x=3):co .or .i64 x 4=x+4:=by rcases h with rfl|rfl|rfl|rfl <;> rfl
theorem I6 (i:Nat):zY i=0\/zY i=1:=by unfold zY;split <;> simp
theorem OQ (i:Nat):BC i=0\/BC i=1\/BC i=2\/BC i=3:=by
 have:=I6 i
 unfold BC
 split <;> omega
theorem zZ {W : World} : Cn p_ 58 [] W [] (fun _ : Unit => .agg (An 256 xY)) (fun _ => []) := by
 (refine Shp.cn (Sg.g_ Tryz.call58 Tryz.func58 (an := { cuts := [(8, []), (10, [])], loops := [(3, [4])] })) fun F => ?_; simp only [ca_, na_])
 refine bp fun b0 => ?_
 refine bp fun b1 => ?_
 refine a_ (fun m y => [ex fun i : Nat => all [pu (m + i = 256 ∧ y = .int .i64 (i : Int)), pt b1 (.cells (An 256 (pY i 0)) 97 (0, 0)), pt b0 (.cells (An 256 fun _ => 0) 97 (0, 0))]] ++ F) 256 ?_ ?_
 ·refine Imp.ex 0 (.all ?_)
  refine aq ?_
  have e : An 256 (pY 0 0) = An 256 fun _ => 0 := eu fun j _ => by unfold pY; simp
  rw [e]
  exact .pu ⟨by omega, rfl⟩ .refl
 intro m ds y
 refine aq ?_
 refine aH Pick.here fun i => ap Pick.here ?_
 refine aq ?_
 refine aG Pick.here fun hi => ?_
 obtain ⟨hmi, rfl⟩ := hi
 refine ay az .nil (fun h => ?_) (fun h => ?_)
 ·have hil : i < 256 := by omega
  refine ab (o_ cH (qK (fun _ => cZ) ?_))
  refine uD (fun _ => cH) (fun _ _ => cZ) ?_
  refine uD (fun _ => cH) (fun _ _ => cZ) ?_
  rw [OP hil]
  refine cP (pt b1 (.cells (An 256 (pY i (zY i))) 97 (0, 0)) :: pt b0 (.cells (An 256 fun _ => 0) 97 (0, 0)) :: F) ?_ ?_
  ·intro ds1
   refine cP (pt b1 (.cells (An 256 (pY i (BC i))) 97 (0, 0)) :: pt b0 (.cells (An 256 fun _ => 0) 97 (0, 0)) :: F) ?_ ?_
   ·intro ds2
    have fin : ∀ x, x = xY i → aZ W (pt b1 (.cells (An 256 (pY i x)) 97 (0, 0)) :: pt b0 (.cells (An 256 fun _ => 0) 97 (0, 0)) :: F) (iD (fun m y w => sat W ([ex fun i : Nat => all [pu (m + i = 256 ∧ y = .int .i64 (i : Int)), pt b1 (.cells (An 256 (pY i 0)) 97 (0, 0)), pt b0 (.cells (An 256 fun _ => 0) 97 (0, 0))]] ++ F) w) m (.int .i64 ((i : Int) + 1))) := by
     intro x hx
     subst hx
     rw [Dl]
     refine aK (m - 1) (by omega) (.ex (i + 1) (.all ?_))
     refine aq ?_
     exact .pu ⟨by omega, rfl⟩ .refl
    refine o_ cH (qK (fun _ => cZ) ?_)
    rw [← Bool.decide_and]
    by_cases h4 : (65 : Int) ≤ (i : Int) ∧ (i : Int) ≤ 90
    ·rw [dT_ h4]
     refine ab (o_ (dm i rfl hil) ?_)
     rw [Nat.zero_add, Nat.mul_one]
     refine am (e_ (yD hil)) (.pick .here .nil) ?_
     refine o_ sH (o_ (dm i rfl hil) ?_)
     rw [Nat.zero_add, Nat.mul_one]
     refine l8 .here (by rw [cF]; exact hil) ?_
     rw [uF, Tp (OQ i)]
     refine bG ?_
     exact fin _ (by unfold xY; rw [if_pos (by omega)])
    ·rw [dF_ h4]
     refine aa (bG ?_)
     exact fin _ (by unfold xY; rw [if_neg (by omega), Int.add_zero])
   ·have fin : ∀ b : Bool, b = decide (i = 9 ∨ (32 ≤ i ∧ i ≠ 127)) → aZ W (pt b1 (.cells (An 256 (pY i (zY i))) 97 (0, 0)) :: pt b0 (.cells (An 256 fun _ => 0) 97 (0, 0)) :: F) (condS (.bool b)
      (opN p_ (iR 97 (.pointer (some ⟨b1, 0, none⟩)) (.int .i64 (i : Int))) gH fun x60 =>
       opN p_ (aI 3 x60) gH fun x61 =>
       opN p_ (aY .or 3 x61 (.int .i64 2)) gH fun x62 =>
       opN p_ (iR 97 (.pointer (some ⟨b1, 0, none⟩)) (.int .i64 (i : Int))) gH fun x63 =>
       opN p_ (aJ 3 x63 x62) gH fun _ => fun w => sat W (pt b1 (.cells (An 256 (pY i (BC i))) 97 (0, 0)) :: pt b0 (.cells (An 256 fun _ => 0) 97 (0, 0)) :: F) w)
      (fun w => sat W (pt b1 (.cells (An 256 (pY i (BC i))) 97 (0, 0)) :: pt b0 (.cells (An 256 fun _ => 0) 97 (0, 0)) :: F) w)) := by
     intro b hb
     by_cases h2 : i = 9 ∨ (32 ≤ i ∧ i ≠ 127)
     ·rw [hb, dT_ h2]
      refine ab (o_ (dm i rfl hil) ?_)
      rw [Nat.zero_add, Nat.mul_one]
      refine am (e_ (yD hil)) (.pick .here .nil) ?_
      refine o_ sH (o_ (dm i rfl hil) ?_)
      rw [Nat.zero_add, Nat.mul_one]
      refine l8 .here (by rw [cF]; exact hil) ?_
      rw [uF, To (I6 i), show zY i + 2 = BC i by unfold BC; rw [if_pos h2]]
      exact aD .refl
     ·rw [hb, dF_ h2]
      refine aa ?_
      rw [show zY i = BC i by unfold BC; rw [if_neg h2, Int.add_zero]]
      exact aD .refl
    refine o_ aP (uD (fun _ => cH) (fun _ _ => bK) ?_)
    refine fin _ ?_
    rw [← Bool.decide_and, ← Bool.decide_or, decide_eq_decide]
    omega
  ·have finT : wm (u8 i) = true → aZ W (pt b1 (.cells (An 256 (pY i 0)) 97 (0, 0)) :: pt b0 (.cells (An 256 fun _ => 0) 97 (0, 0)) :: F)
      (opN p_ (iR 97 (.pointer (some ⟨b1, 0, none⟩)) (.int .i64 (i : Int))) gH fun x60 =>
       opN p_ (aI 3 x60) gH fun x61 =>
       opN p_ (aY .or 3 x61 (.int .i64 1)) gH fun x62 =>
       opN p_ (iR 97 (.pointer (some ⟨b1, 0, none⟩)) (.int .i64 (i : Int))) gH fun x63 =>
       opN p_ (aJ 3 x63 x62) gH fun _ => fun w => sat W (pt b1 (.cells (An 256 (pY i (zY i))) 97 (0, 0)) :: pt b0 (.cells (An 256 fun _ => 0) 97 (0, 0)) :: F) w) := by
    intro hb
    refine o_ (dm i rfl hil) ?_
    rw [Nat.zero_add, Nat.mul_one]
    refine am (e_ (yD hil)) (.pick .here .nil) ?_
    refine o_ sH (o_ (dm i rfl hil) ?_)
    rw [Nat.zero_add, Nat.mul_one]
    refine l8 .here (by rw [cF]; exact hil) ?_
    rw [uF, Tn, show (1 : Int) = zY i by unfold zY; rw [hb]; rfl]
    exact aD .refl
   have xW : wm (u8 i) = false → aZ W (pt b1 (.cells (An 256 (pY i 0)) 97 (0, 0)) :: pt b0 (.cells (An 256 fun _ => 0) 97 (0, 0)) :: F)
      (fun w => sat W (pt b1 (.cells (An 256 (pY i (zY i))) 97 (0, 0)) :: pt b0 (.cells (An 256 fun _ => 0) 97 (0, 0)) :: F) w) := by
    intro hb
    rw [show zY i = 0 by unfold zY; rw [hb]; rfl]
    exact aD .refl
   have htk : wm (u8 i) = (De (u8 i) || yz.contains (u8 i)) := rfl
   cases ha : De (u8 i) with
   | true =>
    rw [ha] at htk
    exact ao (ao (ao (dg (dg (ao (ao (dg (dg (dg (dg (ao (o_ ah (ab (finT (by rw [htk]; rfl)))))))))))))))
   | false =>
    rw [ha, Bool.false_or] at htk
    have hcb := Ka (u8 i)
    rw [yC hil] at hcb
    refine ae (ae (ay aV .nil (fun h => ?_) (fun h => ?_)))
    ·(refine ae ?_); refine ae ?_; refine ae ?_
     refine ay az .nil (fun h => ?_) (fun h => ?_)
     ·(refine ae ?_); refine o_ ah ?_; refine ae ?_; refine ae ?_; refine ae ?_
      refine o_ br ?_
      rw [show (IntKind.u8.wrap (i : Int)) = ((u8 i).toNat : Int) by rw [yC hil]; simp [IntKind.wrap, IntKind.signed, IntKind.bits]; omega]
      refine ae (aB (indexByte (l := yz) (c := u8 i)) .nil fun _ => ?_)
      refine aq ?_
      refine ae (ay cH .nil (fun h => ?_) (fun h => ?_))
      ·(refine ae ?_); refine o_ ah ?_; refine o_ ag ?_; refine ab ?_
       exact finT (by rw [htk]; simpa using n_.1 h)
      ·(refine ae ?_); refine o_ ah ?_; refine o_ ag ?_; refine aa ?_
       exact xW (by rw [htk]; simpa using fun c => h (n_.2 c))
     ·(refine ae ?_); refine o_ ah ?_; refine ae ?_; refine af ?_; refine af ?_; refine af ?_; refine af ?_; refine ae ?_; refine o_ ag ?_; refine o_ ag ?_; refine aa ?_
      exact xW (by rw [htk]; cases hx : yz.contains (u8 i) with
       | true => have := hcb hx; omega
       | false => rfl)
    ·(refine ae ?_); refine af ?_; refine af ?_; refine ae ?_; refine o_ ag ?_; refine ae ?_; refine af ?_; refine af ?_; refine af ?_; refine af ?_; refine ae ?_; refine o_ ag ?_; refine o_ ag ?_; refine aa ?_
     exact xW (by rw [htk]; cases hx : yz.contains (u8 i) with
      | true => have := hcb hx; omega
      | false => rfl)
 ·have h256 : i = 256 := by omega
  subst h256
  refine aa ?_
  have e : An 256 (pY 256 0) = An 256 xY := eu fun j hj => by unfold pY; rw [if_pos hj]
  rw [e]
  refine am (cg (cF 256 xY)) (.pick .here .nil) ?_
  refine bS (.there .here) (cF 256 _) (cF 256 _) yE ?_
  refine aT (cG (cF 256 xY)) (.pick .here .nil) ?_
  refine bq () ?_
  exact aw
theorem Kb (c:UInt8):co .and .i64 (xY c.toNat) 1=0↔wm c=false:=by
 refine Df (p:=fun c=>co .and .i64 (xY c.toNat) 1=0↔wm c=false) ?_ c
 decide+kernel
theorem OR (c:UInt8):co .and .i64 (xY c.toNat) 4≠0↔(65<=c/\c<=90):=by
 refine Df (p:=fun c=>co .and .i64 (xY c.toNat) 4≠0↔(65<=c/\c<=90)) ?_ c
 decide+kernel
theorem Kc {W:World}{l:List UInt8}{bit:Int}{p:UInt8->Bool}(hb:∀c:UInt8,co .and .i64 (xY c.toNat) bit=0↔p c=false)(hl:l.length<=4611686018427387904):
  Cn p_ 117 [bm l,.int .i64 bit] W [] (fun _:Unit=> .bool (l.all p)) (fun _=>[]):=by
 (refine Shp.cn (Sg.g_ Tryz.call117 Tryz.func117 (an:={loops:=[(3,[10])]})) fun F=>?_;simp only[ca_,na_])
 refine c_ zZ fun _=>?_
 refine bp fun b1=>?_
 refine bS .here (cF 256 _) (cF 256 _) yE ?_
 refine o_ ce (a_ (fun m y=>[ex fun i:Nat=>all [pu (m+i=l.length/\y= .int .i64 (i:Int)/\l.all p=(l.drop i).all p),pt b1 (.cells (An 256 xY) 97 (0,0))]]++F) l.length ?_ ?_)
 ·refine Imp.ex 0 (.all ?_)
  refine aq ?_
  exact .pu ⟨by omega,rfl,rfl⟩ .refl
 intro m ds y
 refine aq ?_
 refine aH Pick.here fun i=>ap Pick.here ?_
 refine aq ?_
 refine aG Pick.here fun hi=>?_
 obtain⟨hmi,rfl,hall⟩:=hi
 refine ay az .nil (fun h=>?_) (fun h=>?_)
 ·have hil:i<l.length:=by omega
  refine ab (o_ (h_ i rfl hil) ?_)
  have hc:=(l[i]).toNat_lt
  refine o_ (dm (l[i]).toNat rfl hc) ?_
  rw[Nat.zero_add,Nat.mul_one]
  refine am (e_ (iG hc)) (.pick .here .nil) ?_
  refine o_ fT ?_
  rw[dr hil,List.all_cons]at hall
  refine ay aP .nil (fun h=>?_) (fun h=>?_)
  ·refine ab ?_
   rw[(hb _).1 h,Bool.false_and]at hall
   rw[hall]
   refine bq () ?_
   exact aw
  ·refine aa ?_
   have hp:p l[i]=true:=by
    cases hx:p l[i]with
    |true=>rfl
    |false=>exact absurd ((hb _).2 hx) h
   rw[hp,Bool.true_and]at hall
   refine bG ?_
   refine aK (m-1) (by omega) (.ex (i+1) (.all ?_))
   refine aq ?_
   exact .pu ⟨by omega,rfl,hall⟩ .refl
 ·refine aa ?_
  rw[List.drop_of_length_le (by omega),List.all_nil]at hall
  rw[hall]
  refine bq () ?_
  exact aw
theorem Dm {W:World}{l:List UInt8}(hl:l.length<=4611686018427387904):Cn p_ 85 [bm l] W [] (fun _:Unit=> .bool (mJ l)) (fun _=>[]):=by
 (refine Shp.cn (Sg.g_ Tryz.call85 Tryz.func85) fun F=>?_;simp only[ca_,na_])
 have e0:(Value.string ⟨#[]⟩)=bm []:=rfl
 rw[e0]
 refine ay ij .nil (fun h=>?_) (fun h=>?_)
 ·refine ae (ae (c_ (Kc Kb hl) fun _=>?_))
  refine o_ ah ?_
  have:mJ l=l.all wm:=by unfold mJ;cases l with
   |nil=>exact absurd rfl h
   |cons _ _=>rfl
  rw[this]
  refine bq () ?_
  exact aw
 ·have h:l=[]:=Decidable.not_not.1 h
  subst h
  refine af (af (o_ ag (bq () ?_)))
  exact aw
theorem mU {W:World}{l:List UInt8}(hl:l.length<=4611686018427387904):Cn p_ 40 [bm l] W [] (fun _:Unit=>bm (cC l)) (fun _=>[]):=by
 (refine Shp.cn (Sg.g_ Tryz.call40 Tryz.func40 (an:={loops:=[(4,[12])]})) fun F=>?_;simp only[ca_,na_])
 refine c_ zZ fun _=>?_
 refine bp fun b1=>?_
 refine bS .here (cF 256 _) (cF 256 _) yE ?_
 refine k6 Tryz.underlying23 Tryz.underlying5 fun g c rest=>?_
 refine o_ aC (a_ (fun m y=>[ex fun i:Nat=>all [pu (m+i=l.length/\y= .int .i64 (i:Int)),pt g (.cells (((l.take i).map dU++l.drop i).map B++rest).toArray 5 (l.length+rest.length,l.length+rest.length+1)),pt b1 (.cells (An 256 xY) 97 (0,0))]]++F) l.length ?_ ?_)
 ·refine Imp.ex 0 (.all ?_)
  refine aq ?_
  rw[List.take_zero,List.drop_zero,List.map_nil,List.nil_append]
  exact .pu ⟨by omega,rfl⟩ .refl
 intro m ds y
 refine aq ?_
 refine aH Pick.here fun i=>ap Pick.here ?_
 refine aq ?_
 refine aG Pick.here fun hi=>?_
 obtain⟨hmi,rfl⟩:=hi
 refine ay az .nil (fun h=>?_) (fun h=>?_)
 ·have hil:i<l.length:=by omega
  refine ab ?_
  have hcl:((l.take i).map dU++l.drop i).length=l.length:=by simp;omega
  have hget:((((l.take i).map dU++l.drop i).map B++rest).toArray)[i]? =some (B l[i]):=by
   simp[List.getElem?_append,hil,Nat.min_eq_left (Nat.le_of_lt hil)]
   intro h0;omega
  refine o_ (bj i rfl hil) ?_
  rw[Nat.zero_add]
  refine am (e_ hget) (.pick .here .nil) ?_
  have hc:=(l[i]).toNat_lt
  refine o_ (dm (l[i]).toNat rfl hc) ?_
  rw[Nat.zero_add,Nat.mul_one]
  refine am (e_ (iG hc)) (.pick (.there .here) .nil) ?_
  refine o_ fT ?_
  have step:∀x,x=dU l[i]->(((l.take i).map dU++l.drop i).map B++rest).toArray.setIfInBounds i (B x)=(((l.take (i+1)).map dU++l.drop (i+1)).map B++rest).toArray:=by
   intro x hx
   subst hx
   rw[List.setIfInBounds_toArray]
   congr 1
   rw[dr hil,List.take_succ_eq_append_getElem hil]
   rw[List.map_append,List.map_append,List.map_append,List.map_append]
   have hk:(List.map B (List.map dU (List.take i l))).length=i:=by simp;omega
   rw[List.append_assoc,List.append_assoc,List.append_assoc,List.set_append,if_neg (by rw[hk];omega),hk,Nat.sub_self]
   rfl
  refine ay bK .nil (fun h=>?_) (fun h=>?_)
  ·have h65:=(OR l[i]).1 h
   have hlo:dU l[i]=l[i]+32:=if_pos h65
   have hn:(dU l[i]).toNat=(l[i]).toNat+32:=by
    rw[hlo,UInt8.toNat_add]
    have:=UInt8.le_iff_toNat_le.1 h65.2
    simp only[show(90:UInt8).toNat=90 from rfl]at this
    simp only[show(32:UInt8).toNat=32 from rfl]
    omega
   refine ab (o_ uv ?_)
   rw[show IntKind.u8.wrap ((l[i].toNat:Int)+32)=((dU l[i]).toNat:Int) by
    rw[hn]
    have:=UInt8.le_iff_toNat_le.1 h65.2
    simp only[show(90:UInt8).toNat=90 from rfl]at this
    simp[IntKind.wrap,IntKind.signed,IntKind.bits];omega]
   refine o_ (bj i rfl hil) ?_
   rw[Nat.zero_add]
   refine I0 (v:=B (dU l[i])) .here (by simp;omega) (by simp;omega) ?_
   rw[step _ rfl]
   refine bG ?_
   refine aK (m-1) (by omega) (.ex (i+1) (.all ?_))
   refine aq ?_
   exact .pu ⟨by omega,rfl⟩ .refl
  ·have hlo:dU l[i]=l[i]:=if_neg (fun c=>h ((OR l[i]).2 c))
   refine aa ?_
   have e2:(((l.take i).map dU++l.drop i).map B++rest).toArray=(((l.take (i+1)).map dU++l.drop (i+1)).map B++rest).toArray:=by
    rw[<- step _ hlo.symm]
    refine Array.ext_getElem? fun j=>?_
    rw[Array.getElem?_setIfInBounds]
    by_cases hj:i=j
    ·subst hj
     rw[if_pos rfl,hget,if_pos (by simp;omega)]
    ·rw[if_neg hj]
   rw[e2]
   refine bG ?_
   refine aK (m-1) (by omega) (.ex (i+1) (.all ?_))
   refine aq ?_
   exact .pu ⟨by omega,rfl⟩ .refl
 ·have hie:i=l.length:=by omega
  subst hie
  refine aa ?_
  rw[List.take_length,List.drop_length,List.append_nil]
  have hrd:=Db (W:=W) (g:=g) (e:=5) (fz:=(l.length+rest.length,l.length+rest.length+1)) (cs:=(cC l).map B) (rest:=rest)
  have e1:((cC l).map B).length=l.length:=by simp[cC]
  rw[e1]at hrd
  refine am (iF (l:=cC l) hrd (by intro h;cases h)) (.pick .here .nil) ?_
  refine bq () ?_
  exact aw
def Bn (n:Nat)(f:Nat->Bool):Array Value:=((List.range n).map fun j=>Value.bool (f j)).toArray
theorem fD (n:Nat)(f:Nat->Bool):(Bn n f).size=n:=by simp[Bn]
theorem uG {n j:Nat}{f:Nat->Bool}(h:j<n):(Bn n f)[j]? =some (.bool (f j)):=by simp[Bn,h]
theorem qM {n:Nat}{f g:Nat->Bool}(h:∀j,j<n->f j=g j):Bn n f=Bn n g:=by
 unfold Bn
 congr 1
 exact List.map_congr_left fun j hj=>by rw[h j (List.mem_range.1 hj)]
theorem Kd {n j:Nat}{f:Nat->Bool}{v:Bool}:(Bn n f).setIfInBounds j (.bool v)=Bn n fun i=>if i=j then v else f i:=by
 apply Array.ext_getElem?
 intro i
 rw[Array.getElem?_setIfInBounds,fD]
 by_cases c:j=i
 ·subst c
  rw[if_pos rfl]
  by_cases h:j<n
  ·rw[if_pos h,uG h];simp
  ·rw[if_neg h,Array.getElem?_eq_none (by rw[fD];omega)]
 ·rw[if_neg c]
  by_cases h:i<n
  ·rw[uG h,uG h,if_neg (fun e=>c e.symm)]
  ·rw[Array.getElem?_eq_none (by rw[fD];omega),Array.getElem?_eq_none (by rw[fD];omega)]
theorem Do {n:Nat}{f:Nat->Bool}:∀u∈(Bn n f).toList,u.oneCell'=true:=by
 intro u hu
 simp only[Bn]at hu
 obtain⟨j,_,rfl⟩:=List.mem_map.1 hu
 rfl
instance Rk:ZeroT p_ 135 (.agg (Bn 256 fun _=>false)):=⟨fun w=>(Tryz.zeroValue135 w).trans (by
 have:Tryz.zeroCells135=Bn 256 fun _=>false:=by kernel_rfl
 rw[this])⟩
def BD (j:Nat):Bool:=decide (j=32\/j=9)
theorem OS (c:UInt8):BD c.toNat=ko c:=by
 refine Df (p:=fun c=>BD c.toNat=ko c) ?_ c
 decide+kernel
theorem GF {W:World}:Cn p_ 91 [bm [32,9]] W [] (fun _:Unit=> .tuple #[.agg (Bn 256 BD),.bool true]) (fun _=>[]):=by
 (refine Shp.cn (Sg.g_ Tryz.call91 Tryz.func91 (an:={loops:=[(2,[4])]})) fun F=>?_;simp only[ca_,na_])
 refine bp fun b=>?_
 refine a_ (fun m y=>[ex fun i:Nat=>all [pu (m+i=2/\y= .int .i64 (i:Int)),pt b (.cells (Bn 256 fun j=>decide ((j=32/\0<i)\/(j=9/\1<i))) 135 (0,0))]]++F) 2 ?_ ?_
 ·refine Imp.ex 0 (.all ?_)
  refine aq ?_
  refine .pu ⟨by omega,rfl⟩ ?_
  have e:(Bn 256 fun j=>decide ((j=32/\0<0)\/(j=9/\1<0)))=Bn 256 fun _=>false:=qM fun j _=>by simp
  rw[e]
  exact .refl
 intro m ds y
 refine aq ?_
 refine aH Pick.here fun i=>ap Pick.here ?_
 refine aq ?_
 refine aG Pick.here fun hi=>?_
 obtain⟨hmi,rfl⟩:=hi
 refine o_ ce (ay az .nil (fun h=>?_) (fun h=>?_))
 ·have hil:i<([32,9]:List UInt8).length:=Int.ofNat_lt.1 h
  have hi2:i<2:=hil
  refine ab ?_
  have step:∀(c:UInt8),([32,9]:List UInt8)[i]? =some c->c.toNat<128->(Bn 256 fun j=>if j=c.toNat then true else decide ((j=32/\0<i)\/(j=9/\1<i)))=(Bn 256 fun j=>decide ((j=32/\0<i+1)\/(j=9/\1<i+1))):=by
   intro c hc _
   refine qM fun j _=>?_
   have:i=0\/i=1:=by omega
   rcases this with rfl|rfl
   ·have:c=32:=by simpa using hc.symm
    subst this
    by_cases h1:j=32 <;> simp[h1]
   ·have:c=9:=by simpa using hc.symm
    subst this
    by_cases h1:j=9 <;> simp[h1]
  have hc:([32,9]:List UInt8)[i].toNat<128:=by
   have:i=0\/i=1:=by omega
   rcases this with rfl|rfl
   ·show(32:UInt8).toNat<128
    decide
   ·show(9:UInt8).toNat<128
    decide
  refine o_ (h_ (l:=[32,9]) i rfl hil) ?_
  have hstep:=step _ (List.getElem?_eq_getElem hil) hc
  obtain⟨c,hce⟩:∃c,c=([32,9]:List UInt8)[i]:=⟨_,rfl⟩
  rw[<- hce]at hstep hc ⊢
  refine o_ (cH (q:= .u8) (a:=(c.toNat:Int)) (b:=128)) ?_
  rw[dF_ (by omega)]
  refine aa (o_ (dm c.toNat rfl (by omega)) ?_)
  rw[Nat.zero_add,Nat.mul_one]
  refine l8 .here (by rw[fD];omega) ?_
  rw[Kd,hstep]
  refine bG ?_
  refine aK (m-1) (by omega) (.ex (i+1) (.all ?_))
  refine aq ?_
  exact .pu ⟨by omega,rfl⟩ .refl
 ·have hi2:i=2:=by simp at h;omega
  subst hi2
  refine aa ?_
  have e:(Bn 256 fun j=>decide ((j=32/\0<2)\/(j=9/\1<2)))=Bn 256 BD:=qM fun j _=>by simp[BD]
  rw[e]
  refine am (cg (fD 256 _)) (.pick .here .nil) ?_
  refine bS .here (fD 256 _) (fD 256 _) Do ?_
  refine aT (cG (fD 256 _)) (.pick .here .nil) ?_
  refine bq () ?_
  exact aw
theorem contains {W:World}{g:Nat}{c:UInt8}:Cn p_ 126 [.pointer (some ⟨g,0,none⟩),Sl.B c] W [pt g (.cells (Bn 256 BD) 135 (0,0))] (fun _:Unit=> .bool (ko c)) (fun _=>[pt g (.cells (Bn 256 BD) 135 (0,0))]):=by
 (refine Shp.cn (Sg.g_ Tryz.call126 Tryz.func126) fun F=>?_;simp only[ca_,na_])
 refine o_ au ?_
 have hc:=c.toNat_lt
 refine o_ (dm c.toNat rfl hc) ?_
 rw[Nat.zero_add,Nat.mul_one]
 refine am (e_ (uG hc)) (.pick .here .nil) ?_
 rw[OS]
 refine bq () ?_
 exact aw
theorem Dp {W:World}{g:Nat}{l:List UInt8}(hl:l.length<=4611686018427387904):Cn p_ 92 [bm l,.pointer (some ⟨g,0,none⟩)] W [pt g (.cells (Bn 256 BD) 135 (0,0))] (fun _:Unit=>bm (lI l)) (fun _=>[pt g (.cells (Bn 256 BD) 135 (0,0))]):=by
 (refine Shp.cn (Sg.g_ Tryz.call92 Tryz.func92 (an:={loops:=[(1,[0])]})) fun F=>?_;simp only[ca_,na_])
 refine a_ (fun m y=>[ex fun u:List UInt8=>all [pu (m=u.length/\y=bm u/\lI u=lI l/\u.length<=l.length),pt g (.cells (Bn 256 BD) 135 (0,0))]]++F) l.length ?_ ?_
 ·refine Imp.ex l (.all ?_)
  refine aq ?_
  exact .pu ⟨rfl,rfl,rfl,Nat.le_refl _⟩ .refl
 intro m ds y
 refine aq ?_
 refine aH Pick.here fun u=>ap Pick.here ?_
 refine aq ?_
 refine aG Pick.here fun hi=>?_
 obtain⟨hmi,rfl,htr,hul⟩:=hi
 refine o_ ce (ay aV .nil (fun h=>?_) (fun h=>?_))
 ·have h0:0<u.length:=by omega
  refine ab (o_ (h_ 0 rfl h0) ?_)
  refine c_ contains fun _=>?_
  refine o_ fU ?_
  cases hb:ko u[0]with
  |true=>
   refine aa (o_ (qE 1 rfl (by omega)) ?_)
   refine aK (m-1) (by omega) (.ex (u.drop 1) (.all ?_))
   refine aq ?_
   refine .pu ⟨by rw[List.length_drop];omega,rfl,(GB h0 hb).symm.trans htr,by rw[List.length_drop];omega⟩ ?_
   exact aw
  |false=>
   refine ab ?_
   rw[<- htr,GC h0 hb]
   refine bq () ?_
   exact aw
 ·have h0:u=[]:=List.eq_nil_of_length_eq_zero (by omega)
  subst h0
  refine aa ?_
  rw[<- htr]
  refine bq () ?_
  exact aw
theorem BE {W:World}{g:Nat}{l:List UInt8}(hl:l.length<=4611686018427387904):Cn p_ 93 [bm l,.pointer (some ⟨g,0,none⟩)] W [pt g (.cells (Bn 256 BD) 135 (0,0))] (fun _:Unit=>bm (i5 l)) (fun _=>[pt g (.cells (Bn 256 BD) 135 (0,0))]):=by
 (refine Shp.cn (Sg.g_ Tryz.call93 Tryz.func93 (an:={loops:=[(1,[0])]})) fun F=>?_;simp only[ca_,na_])
 refine a_ (fun m y=>[ex fun u:List UInt8=>all [pu (m=u.length/\y=bm u/\i5 u=i5 l/\u.length<=l.length),pt g (.cells (Bn 256 BD) 135 (0,0))]]++F) l.length ?_ ?_
 ·refine Imp.ex l (.all ?_)
  refine aq ?_
  exact .pu ⟨rfl,rfl,rfl,Nat.le_refl _⟩ .refl
 intro m ds y
 refine aq ?_
 refine aH Pick.here fun u=>ap Pick.here ?_
 refine aq ?_
 refine aG Pick.here fun hi=>?_
 obtain⟨hmi,rfl,htr,hul⟩:=hi
 refine o_ ce (ay aV .nil (fun h=>?_) (fun h=>?_))
 ·obtain⟨n,hn⟩:∃n,u.length=n+1:=⟨u.length-1,by omega⟩
  refine ab (o_ ce (dX ?_))
  refine o_ (h_ n (by omega) (by omega)) ?_
  refine c_ contains fun _=>?_
  refine o_ fU ?_
  cases hb:ko (u[n]'(by omega))with
  |true=>
   refine aa (o_ ce (dX ?_))
   refine o_ (qC n (by omega) (by omega)) ?_
   refine aK (m-1) (by omega) (.ex (u.take n) (.all ?_))
   refine aq ?_
   refine .pu ⟨by rw[List.length_take];omega,rfl,(Gz hn hb).symm.trans htr,by rw[List.length_take];omega⟩ ?_
   exact aw
  |false=>
   refine ab ?_
   rw[<- htr,GA hn hb]
   refine bq () ?_
   exact aw
 ·have h0:u=[]:=List.eq_nil_of_length_eq_zero (by omega)
  subst h0
  refine aa ?_
  rw[<- htr]
  refine bq () ?_
  exact aw
theorem BF (l:List UInt8):(i5 l).length<=l.length:=by
 have h2:=(List.dropWhile_sublist (p:=ko) (l:=l.reverse)).length_le
 unfold i5
 rw[List.length_reverse]at h2 ⊢
 exact h2
theorem OT {W:World}{l:List UInt8}(hl:l.length<=4611686018427387904):Cn p_ 59 [bm l,bm [32,9]] W [] (fun _:Unit=>bm (bX l)) (fun _=>[]):=by
 (refine Shp.cn (Sg.g_ Tryz.call59 Tryz.func59 (an:={drs:=[(4,.ofL [(0,1),(1,1),(2,1),(4,2),(5,3),(3,0),(6,0),(7,1)])]}) (os:=[(4,[(3,[5])])])) fun F=>?_;simp only[ca_,na_])
 have e0:(Value.string ⟨#[]⟩)=bm []:=rfl
 rw[e0]
 refine ay cS .nil (fun h=>?_) (fun h=>?_)
 ·subst h
  refine ao (ao (o_ ah (ab (bq () ?_))))
  exact aw
 ·(refine ae ?_);refine ae ?_
  refine o_ cS ?_
  rw[dF_ (by decide)]
  refine o_ ag (aa (o_ ce (o_ aP ?_)))
  rw[dF_ (by decide)]
  refine af (af (af (o_ ag (aa (c_ GF fun _=>?_)))))
  refine o_ (bM (vs:=[_,_]) .here) ?_
  refine o_ (bM (vs:=[_,_]) (.there .here)) ?_
  refine bp fun b=>?_
  refine bS .here (fD 256 _) (fD 256 _) Do ?_
  refine ab (c_ (BE hl) fun _=>?_)
  refine c_ (Dp (Nat.le_trans (BF l) hl)) fun _=>?_
  refine bq () ?_
  exact aw
theorem wz {W:World}{l:List UInt8}(hl:l.length<=4611686018427387904):Cn p_ 41 [bm l] W [] (fun _:Unit=>bm (bX l)) (fun _=>[]):=by
 (refine Shp.cn (Sg.g_ Tryz.call41 Tryz.func41) fun F=>?_;simp only[ca_,na_])
 have e0:(Value.string ⟨#[32,9]⟩)=bm [32,9]:=rfl
 rw[e0]
 refine c_ (OT hl) fun _=>?_
 refine bq () ?_
 exact aw
theorem yF {c:UInt8}:∀ {l:List UInt8},(c∈l->nY c l=true/\l.take (l.findIdx (· ==c))=cu c l/\l.drop (l.findIdx (· ==c)+1)=cD c l)/\(c∉l->nY c l=false/\cu c l=l/\cD c l=[])
 |[]=>⟨fun h=>(by cases h),fun _=>⟨rfl,rfl,rfl⟩⟩
 |x::r=>by
  have ih:=yF (c:=c) (l:=r)
  by_cases hx:x=c
  ·subst hx
   refine⟨fun _=>?_,fun h=>absurd (List.mem_cons_self) h⟩
   simp[nY,cu,cD,List.findIdx_cons]
  ·have hb:(x==c)=false:=by simpa using hx
   refine⟨fun h=>?_,fun h=>?_⟩
   ·have hr:c∈r:=by
     rcases List.mem_cons.1 h with h|h
     ·exact absurd h.symm hx
     ·exact h
    obtain⟨i1,i2,i3⟩:=ih.1 hr
    simp[nY,cu,cD,List.findIdx_cons,hx,hb,i1,i2,i3]
   ·obtain⟨i1,i2,i3⟩:=ih.2 (fun c=>h (List.mem_cons_of_mem _ c))
    simp[nY,cu,cD,hx,i1,i2,i3]
theorem Ke {W:World}{l:List UInt8}{c:UInt8}(hl:l.length<=4611686018427387904):Cn p_ 88 [bm l,bm [c]] W [] (fun _:Unit=> .int .i64 (sr l c)) (fun _=>[]):=by
 (refine Shp.cn (Sg.g_ Tryz.call88 Tryz.func88 (an:={cuts:=[(21,[8])],loops:=[(15,[8,10])]})) fun F=>?_;simp only[ca_,na_])
 refine o_ ce (o_ aP ?_)
 rw[dF_ (by simp)]
 refine ae (ae (ae (ay cS .nil (fun h=>?_) (fun h=>?_))))
 ·subst h
  refine o_ ag (ab ?_)
  have:sr [c] c=0:=by simp[sr]
  rw[this]
  refine bq () ?_
  exact aw
 ·(refine o_ ag ?_);refine aa ?_
  refine o_ aP ?_
  rw[dT_ (by simp)]
  refine ab (o_ (h_ (l:=[c]) 0 rfl (by simp)) ?_)
  rw[show([c]:List UInt8)[0]'(by simp)=c from rfl]
  refine c_ qL fun _=>?_
  refine bq () ?_
  exact aw
theorem OU {W:World}{l:List UInt8}{c:UInt8}(hl:l.length<=4611686018427387904):Cn p_ 57 [bm l,bm [c]] W [] (fun _:Unit=> .tuple #[bm (cu c l),bm (cD c l),.bool (nY c l)]) (fun _=>[]):=by
 (refine Shp.cn (Sg.g_ Tryz.call57 Tryz.func57 (an:={drs:=[(3,.ofL [(0,1),(1,1),(2,1),(3,1),(4,1),(5,1),(6,1),(7,1),(8,1),(9,1),(10,1),(11,1)])]})) fun F=>?_;simp only[ca_,na_])
 refine c_ (Ke hl) fun _=>?_
 have hcx:=yF (c:=c) (l:=l)
 refine ay cH .nil (fun h=>?_) (fun h=>?_)
 ·have hm:=n_.1 h
  obtain⟨h1,h2,h3⟩:=hcx.1 hm
  have hlt:l.findIdx (· ==c)<l.length:=List.findIdx_lt_length_of_exists ⟨c,hm,by simp⟩
  rw[show sr l c=((l.findIdx (· ==c):Nat):Int)from if_pos hm]
  refine ab (bA (t_ (qC (l.findIdx (· ==c)) rfl (by omega)) ?_))
  refine t_ ce (t_ (bU (by simp;omega) (by simp;omega)) ?_)
  refine t_ (qE (l.findIdx (· ==c)+1) (by simp) (by omega)) ?_
  rw[h2,h3,h1]
  refine bq () ?_
  exact aw
 ·obtain⟨h1,h2,h3⟩:=hcx.2 (fun c=>h (n_.2 c))
  refine aa ?_
  rw[h1,h2,h3]
  have e0:(Value.string ⟨#[]⟩)=bm []:=rfl
  rw[e0]
  refine bq () ?_
  exact aw
theorem GG {W:World}{l:List UInt8}{c:UInt8}(hl:l.length<=4611686018427387904):Cn p_ 39 [bm l,bm [c]] W [] (fun _:Unit=> .tuple #[bm (cu c l),bm (cD c l),.bool (nY c l)]) (fun _=>[]):=by
 (refine Shp.cn (Sg.g_ Tryz.call39 Tryz.func39) fun F=>?_;simp only[ca_,na_])
 refine c_ (OU hl) fun _=>?_
 refine fP ?_;refine fP ?_;refine fP ?_
 refine bq () ?_
 exact aw
def dy (a b:List UInt8):Bool:=decide (a.length=b.length)&&decide (cC a=cC b)
theorem equal {W:World}{a b:List UInt8}(ha:a.length<=4611686018427387904)(hb:b.length<=4611686018427387904):Cn p_ 20 [bm a,bm b] W [] (fun _:Unit=> .bool (dy a b)) (fun _=>[]):=by
 (refine Shp.cn (Sg.g_ Tryz.call20 Tryz.func20) fun F=>?_;simp only[ca_,na_])
 refine o_ ce (o_ ce (ay aP .nil (fun h=>?_) (fun h=>?_)))
 ·have e:dy a b=decide (cC a=cC b):=by unfold dy;rw[dT_ (by omega)];rfl
  rw[e]
  refine ae (ae (c_ (mU ha) fun _=>?_))
  refine ae (ae (c_ (mU hb) fun _=>?_))
  refine ae (o_ cS (o_ ah (bq () ?_)))
  exact aw
 ·have e:dy a b=false:=by unfold dy;rw[dF_ (by omega)];rfl
  rw[e]
  refine af (af (af (af (af (o_ ag (bq () ?_))))))
  exact aw
theorem Kf {W:World}{l:List UInt8}(hl:l.length<=4611686018427387904):Cn p_ 60 [bm l,bm [87,47]] W [] (fun _:Unit=> .bool (jQ l)) (fun _=>[]):=by
 (refine Shp.cn (Sg.g_ Tryz.call60 Tryz.func60) fun F=>?_;simp only[ca_,na_])
 refine o_ ce (o_ ce (ay cH .nil (fun h=>?_) (fun h=>?_)))
 ·have h2:2<=l.length:=Int.ofNat_le.1 h
  refine ae (ae (ae (o_ ce (ae (o_ (qC 2 rfl h2) ?_)))))
  refine ae (ae (o_ cS ?_))
  have e:decide (l.take 2=[87,47])=jQ l:=by
   unfold jQ
   rw[Bool.eq_iff_iff];simp
  rw[e]
  refine o_ ah (bq () ?_)
  exact aw
 ·have h2:l.length<2:=by simp at h;omega
  refine af (af (af (af (af (af (o_ ag ?_))))))
  have e:jQ l=false:=by
   unfold jQ
   cases hx:(l.take 2==[87,47])with
   |false=>rfl
   |true=>
    have:=congrArg List.length (by simpa using hx:l.take 2=[87,47])
    simp at this;omega
  rw[e]
  refine bq () ?_
  exact aw
theorem GH {W:World}{l:List UInt8}(hl:l.length<=4611686018427387904):Cn p_ 99 [bm l,bm [87,47]] W [] (fun _:Unit=> .tuple #[bm (l9 l),.bool (jQ l)]) (fun _=>[]):=by
 (refine Shp.cn (Sg.g_ Tryz.call99 Tryz.func99) fun F=>?_;simp only[ca_,na_])
 refine c_ (Kf hl) fun _=>?_
 refine o_ fU ?_
 cases h:jQ l with
 |true=>
  have h2:2<=l.length:=by
   unfold jQ at h
   have:=congrArg List.length (by simpa using h:l.take 2=[87,47])
   simp at this;omega
  refine aa (o_ ce (o_ (qE 2 rfl h2) ?_))
  rw[show l9 l=l.drop 2 by unfold l9;rw[if_pos h]]
  refine bq () ?_
  exact aw
 |false=>
  refine ab ?_
  rw[show l9 l=l by unfold l9;rw[h];rfl]
  refine bq () ?_
  exact aw
theorem Kg {W:World}{l:List UInt8}(hl:l.length<=4611686018427387904):Cn p_ 64 [bm l,bm [87,47]] W [] (fun _:Unit=> .tuple #[bm (l9 l),.bool (jQ l)]) (fun _=>[]):=by
 (refine Shp.cn (Sg.g_ Tryz.call64 Tryz.func64) fun F=>?_;simp only[ca_,na_])
 refine c_ (GH hl) fun _=>?_
 refine fP ?_;refine fP ?_
 refine bq () ?_
 exact aw
section
variable {P:Program} {W:World} {L L':List HP} {Kp:PK} {k:Value->WP}
theorem uH {a b:Bool}(h:aZ W L (k (.bool (a&&b)))):aZ W L (gdK (.bool a) true (fun k=>k (.bool b)) fun x2=>opN P (iV (.bool a) x2 (.bool false)) Kp k):=by
 cases a with
 |true=>
  refine ae (o_ ah ?_)
  simpa using h
 |false=>
  refine af (o_ ag ?_)
  simpa using h
theorem uI {a b:Bool}{A:List HP}{s1:Sem Next}{v1:Value}{s2:Value->Sem Next}(h1:bg P W [] s1 v1)(h2:bg P W A (s2 v1) (.bool b))(i:Imp W L A)(h:aZ W L (k (.bool (a&&b)))):
  aZ W L (gdK (.bool a) true (opN P s1 Kp) fun x=>gdK (.bool a) true (opN P (s2 x) Kp) fun x2=>opN P (iV (.bool a) x2 (.bool false)) Kp k):=by
 cases a with
 |true=>
  refine ae (o_ h1 ?_)
  refine ae (am h2 i ?_)
  refine o_ ah ?_
  simpa using h
 |false=>
  refine af (af (o_ ag ?_))
  simpa using h
theorem l_ {φ:Prop}[Decidable φ]{b:Bool}{X Y:WP}(hb:b=decide φ)(ht:φ->aZ W L X)(hf:¬φ->aZ W L Y):aZ W L (condS (.bool b) X Y):=by
 subst hb
 by_cases h:φ
 ·rw[dT_ h];exact ab (ht h)
 ·rw[dF_ h];exact aa (hf h)
theorem yG {t:TypeId}{l:List UInt8}{q r:IntKind}{i j:Int}(a b:Nat)[ht:StrT P t](hi:i=(a:Int))(hj:j=(b:Int))(hab:a<=b)(hb:b<=l.length):bg P W [] (ly t (bm l) (some (.int q i)) (some (.int r j)) none) (bm (sub l a b)):=fun w _=>by
 have e:(⟨l.toArray⟩:ByteArray).size=l.length:=rfl
 have e2:(⟨l.toArray⟩:ByteArray).extract a b=⟨(sub l a b).toArray⟩:=by
  apply ByteArray.ext
  rw[ByteArray.data_extract]
  simp[sub]
 simp[ly,Instr.sliceAt,Instr.slice,Instr.sliceBounds,run_underlying ht.ut,bm,e,nX b hj hb,nX a hi hab,e2]
theorem qN {t:TypeId}{ox oy:Operand}{c:UInt8}{n:Int}(d:UInt8)(hn:n=(d.toNat:Int)):bg P W [] (kj .eql t ox oy (Sl.B c) (.int .u8 n)) (.bool (decide (c=d))):=by
 have e:decide (c=d)=decide ((c.toNat:Int)=n):=by
  rw[decide_eq_decide,hn]
  constructor
  ·rintro rfl;rfl
  ·intro h
   exact UInt8.toNat_inj.1 (by omega)
 rw[e]
 exact aP
theorem GI {t:TypeId}{ox oy:Operand}{c:UInt8}{n:Int}(d:UInt8)(hn:n=(d.toNat:Int)):bg P W [] (kj .neq t ox oy (Sl.B c) (.int .u8 n)) (.bool (decide (c≠d))):=by
 have e:decide (c≠d)=decide ((c.toNat:Int)≠n):=by
  rw[decide_eq_decide,hn]
  constructor
  ·intro h1 h2
   exact h1 (UInt8.toNat_inj.1 (by omega))
  ·rintro h rfl
   exact h rfl
 rw[e]
 exact bK
end
theorem mV (q e:Bool):∀(n:Nat) (l:List UInt8),l.length<=n->∀(inn:Bool) (e8 p:List UInt8),p∈xX q e inn e8 l->p.length<=e8.length+l.length
 |_,[],_,inn,e8,p,h=>by
  have:p=e8:=by simpa [xX]using h
  subst this;simp
 |n+1,c::r,hn,inn,e8,p,h=>by
  have hr:r.length<=n:=by simpa using hn
  rw[jk]at h
  split at h
  ·cases r with
   |nil=>
    have:p=e8++[c]:=by simpa using h
    subst this;simp
   |cons d r'=>
    have:=mV q e n r' (by simp at hr;omega) _ _ _ h
    simp at this ⊢;omega
  ·split at h
   ·have:=mV q e n r hr _ _ _ h
    simp at this ⊢;omega
   ·split at h
    ·rcases List.mem_cons.1 h with h|h
     ·subst h;simp
     ·have:=mV q e n r hr _ _ _ h
      simp at this ⊢;omega
    ·have:=mV q e n r hr _ _ _ h
     simp at this ⊢;omega
theorem tE {q e:Bool}{l w:List UInt8}(h:w∈bB q e l):w.length<=l.length:=by
 obtain⟨_,v,hv,rfl⟩:=Dd h
 have:=mV q e _ _ (Nat.le_refl _) _ _ _ hv
 have h2:=kq v
 simp[sub]at this
 omega
theorem mW (q e:Bool):∀(n:Nat) (l:List UInt8),l.length<=n->∀(inn:Bool) (e8:List UInt8),(xX q e inn e8 l).length<=l.length+1
 |_,[],_,inn,e8=>by simp[xX]
 |n+1,c::r,hn,inn,e8=>by
  have hr:r.length<=n:=by simpa using hn
  rw[jk]
  split
  ·cases r with
   |nil=>simp
   |cons d r'=>
    have:=mW q e n r' (by simp at hr;omega) inn (e8++[c,d])
    simp;omega
  ·split
   ·have:=mW q e n r hr (!inn) (e8++[c])
    simp;omega
   ·split
    ·have:=mW q e n r hr false []
     simp;omega
    ·have:=mW q e n r hr inn (e8++[c])
     simp;omega
theorem k7 {q e:Bool}{l:List UInt8}:(bB q e l).length<=l.length+1:=by
 have h1:=Dc (uB l q e false 0 0)
 have h2:=mW q e _ (l.drop 0) (Nat.le_refl _) false (sub l 0 0)
 rw[List.length_drop]at h2
 unfold bB
 unfold uB at h1 ⊢
 omega
theorem pZ {α:Type}{xs r:List α}{k:Nat}{x:α}(h:xs.drop k=x::r):xs[k]? =some x/\xs.drop (k+1)=r/\k<xs.length:=by
 have hk:k<xs.length:=by
  rcases Nat.lt_or_ge k xs.length with c|c
  ·exact c
  ·rw[List.drop_of_length_le c]at h;cases h
 rw[List.drop_eq_getElem_cons hk]at h
 injection h with h1 h2
 exact⟨by rw[List.getElem?_eq_getElem hk,h1],h2,hk⟩
def F7 (q e:Bool)(l:List UInt8):List (List Value):=(bB q e l).map fun w=>[bm w]
theorem od {q e:Bool}{l w:List UInt8}{k:Nat}(h:(bB q e l)[k]? =some w):(F7 q e l)[k]? =some [bm w]:=by simp[F7,h]
theorem k8 {q e:Bool}{l:List UInt8}:(F7 q e l).length=(bB q e l).length:=by simp[F7]
end FD
namespace FD
open Go Go.Proofs Go.RowKit Sh Sl T
theorem Dq:(p_.info? 121).map (·.size)=some 2:=by kernel_rfl
theorem Kh:liesAt p_ p_.depth 121 (2 / p_.cellsOf 121) 0 121 1=true:=by kernel_rfl
set_option maxHeartbeats 1000000 in
set_option maxRecDepth 100000 in
theorem GJ (b:Nat)(w:World)(h0:w.cell? ⟨b,0,none⟩=some (.pointer (some ⟨b,0,none⟩))):
  Calls p_ 114 #[.pointer (some ⟨b,0,none⟩)] w fun e w'=>e= .returned (.tuple #[])/\w'=w:=by
 obtain⟨j,hj,_⟩:=Option.map_eq_some_iff.1 Dq
 go_enter Tryz.func114,Tryz.ntmps114
 go_wp2
 rw[Lib.run_neq_ptr_same w _ Tryz.underlying119 hj]
 go_wp2
 go_end0
 exact⟨rfl,rfl⟩
set_option maxHeartbeats 1000000 in
set_option maxRecDepth 100000 in
theorem Dr (b:Nat)(w:World)(h0:w.cell? ⟨b,0,none⟩=some (.pointer none))(hsh:w.shape? b=some (121,2))(hfz:w.frozen? ⟨b,0,none⟩=false):
  Calls p_ 114 #[.pointer (some ⟨b,0,none⟩)] w fun e w'=>e= .returned (.tuple #[])/\w'=w.setCell ⟨b,0,none⟩ (.pointer (some ⟨b,0,none⟩)):=by
 obtain⟨j,hj,hjs⟩:=Option.map_eq_some_iff.1 Dq
 go_enter Tryz.func114,Tryz.ntmps114
 go_wp2
 rw[Lib.run_to_unsafe w ⟨b,0,none⟩ Tryz.underlying119 Tryz.underlying216 hj (by rw[hjs];decide) hsh (Nat.zero_lt_succ 1)]
 simp only[Result.andThen]
 rw[Oper.upon_value]
 go_wp2
 rw[run_callFunc_extern Tryz.func158 (by kernel_rfl) (by kernel_rfl) (by kernel_rfl) (e:=Extern.AbiNoEscape.same) (by kernel_rfl)]
 rw[Lib.run_noEscape]
 simp only[Result.andThen]
 rw[Oper.upon_value]
 go_wp2
 rw[Lib.run_from_unsafe w ⟨b,0,none⟩ Tryz.underlying216 Tryz.underlying119 hj hsh Kh]
 simp only[Result.andThen]
 rw[Oper.upon_value]
 go_wp2
 go_end0
 exact⟨rfl,rfl⟩
def bd (b:Nat)(r:Option Addr × Nat)(l:List UInt8):HP:=all [pt b (.cells #[.pointer (some ⟨b,0,none⟩),.slice r.1 l.length r.2] 121 (0,0)),Sl 1 5 r.1 r.2 l.length (l.map B)]
theorem Ki {W : World} {b : Nat} {v : Value} : Cn p_ 114 [.pointer (some ⟨b, 0, none⟩)] W [pt b (.cells #[.pointer none, v] 121 (0, 0))] (fun _ : Unit => .tuple #[]) (fun _ => [pt b (.cells #[.pointer (some ⟨b, 0, none⟩), v] 121 (0, 0))]) :=
 ⟨Tryz.call114, fun F w hw => (Dr b w (by rw [(show sat W (pt b _ :: F) w from hw).cell]; rfl) (by rw [World.shape?, (show sat W (pt b _ :: F) w from hw).pt_.1]; rfl) (show sat W (pt b _ :: F) w from hw).free).mono fun e w' ⟨he, hb⟩ => ⟨(), he, by
  rw [hb]
  exact (show sat W (pt b _ :: F) w from hw).setCell (o := 0) (.pointer (some ⟨b, 0, none⟩))⟩⟩
theorem Kk {W:World}{b:Nat}{v:Value}:Cn p_ 114 [.pointer (some ⟨b,0,none⟩)] W [pt b (.cells #[.pointer (some ⟨b,0,none⟩),v] 121 (0,0))] (fun _:Unit=> .tuple #[]) (fun _=>[pt b (.cells #[.pointer (some ⟨b,0,none⟩),v] 121 (0,0))]):=
 ⟨Tryz.call114,fun F w hw=>(GJ b w (by rw[(show sat W (pt b _::F) w from hw).cell];rfl)).mono fun e w' ⟨he,hb⟩=>⟨(),he,by rw[hb];exact hw⟩⟩
set_option maxHeartbeats 2000000 in
set_option maxRecDepth 100000 in
theorem GK (b g cap:Nat) (e8:Array Value) (l:List UInt8) (w:World) (hb:w.cell? ⟨b,1,none⟩=some (.slice (some ⟨g,0,none⟩) l.length cap)) (hg:w.heap[g]? =some (.cells e8 5 (0,0))) (h0:l≠[]) (hc:l.length<=cap) (hcs:cap<=e8.size) (hcm:cap<=maxLen)
  (hcell:∀j x,l[j]? =some x->w.cell? ⟨g,j,none⟩=some (B x)):
  Calls p_ 83 #[.pointer (some ⟨b,0,none⟩)] w fun e w'=>e= .returned (.string ⟨l.toArray⟩)/\w'=w.drew.freeze ⟨g,0,none⟩ l.length:=by
 have hl0:l.length≠0:=by simpa using h0
 have c1:w.drew.cell? ⟨b,1,none⟩=some (.slice (some ⟨g,0,none⟩) l.length cap):=hb
 have hSD:(Builtin.unsafeSliceData_ #[23] 165 #[.slice (some ⟨g,0,none⟩) l.length cap]).run p_ w.drew= .ok (.pointer (some ⟨g,0,none⟩)) w.drew:=
  Lib.run_unsafeSliceData_row _ _ _ _ _ _ (by omega)
 have hUS:(Builtin.unsafeString_ #[165,3] 9 #[.pointer (some ⟨g,0,none⟩),.int .i64 l.length]).run p_ w.drew= .ok (.string ⟨l.toArray⟩) (w.drew.freeze ⟨g,0,none⟩ l.length):=by
  refine Lib.run_unsafeString_row w.drew 165 3 9 5 Tryz.underlying165 (by kernel_rfl) g e8.size (by have hg':w.drew.heap[g]? =some (.cells e8 5 (0,0)):=hg;simp[World.shape?,hg']) l h0 (by omega) (by unfold maxLen at hcm;omega) ?_
  intro j x hx
  rw[cp,Nat.zero_add]
  exact hcell j x hx
 have mixed:=S.wide
 go_enter Tryz.func83,Tryz.ntmps83
 go_wp2
 go_region_o
 all_goals (go_wp2;go_ret;exact⟨rfl,rfl⟩)
theorem Ds {W : World} {b : Nat} {r : Option Addr × Nat} {l : List UInt8} (h0 : l ≠ []) : Cn p_ 83 [.pointer (some ⟨b, 0, none⟩)] W [bd b r l] (fun _ : Unit => bm l) (fun _ => []) :=
 ⟨Tryz.call83, fun F w hw => by
  have hl0 : 0 < l.length := List.length_pos_iff.2 h0
  obtain ⟨ra, rc⟩ := r
  have h1 : sat W ([pt b (.cells #[.pointer (some ⟨b, 0, none⟩), .slice ra l.length rc] 121 (0, 0)), Sl 1 5 ra rc l.length (l.map B)] ++ F) w :=
   sat.map (L := all [pt b (.cells #[.pointer (some ⟨b, 0, none⟩), .slice ra l.length rc] 121 (0, 0)), Sl 1 5 ra rc l.length (l.map B)] :: F) (fun _ H => cy H) hw
  simp only [ca_, na_] at h1
  have h2 := h1.pick (.there .here)
  obtain ⟨g, hg⟩ : ∃ g, ra = some ⟨g, 0, none⟩ := by
   obtain ⟨f, ⟨l1, l2, l3, hd⟩, _⟩ := h2.fst
   rcases hd with ⟨_, hc0⟩ | ⟨g, rest, hr, _, _⟩
   ·omega
   ·exact ⟨g, hr⟩
  subst hg
  obtain ⟨rest, r1, r2, r3, r4, hp⟩ := jb h2
  have hcur : (l.map B ++ rest).length = rc := by rw [List.length_append, r1]; simp; omega
  refine (GK b g rc (l.map B ++ rest).toArray l w (by rw [h1.cell]; rfl) hp.pt_.1 h0 r3 (by simpa using Nat.le_of_eq hcur.symm) r4 (fun j x hx => ?_)).mono fun e w' ⟨he, hb⟩ => ⟨(), he, ?_⟩
  ·rw [hp.cell]
   have hj : j < l.length := by
    rcases Nat.lt_or_ge j l.length with c | c
    ·exact c
    ·rw [List.getElem?_eq_none c] at hx; cases hx
   rw [List.getElem?_toArray, List.getElem?_append_left (by simpa using hj), List.getElem?_map, hx]; rfl
  ·subst hb
   have h3 := hp.drew
   have h4 : sat W (pt g (.cells (l.map B ++ rest).toArray 5 (0, l.length)) :: _) (w.drew.freeze ⟨g, 0, none⟩ l.length) := h3.turn (by simp [World.freeze]; split <;> rfl) (by simp [World.freeze]; split <;> rfl) (by simp [World.freeze]; split <;> rfl) (by simp [World.freeze]; split <;> simp) (by
    rw [World.freeze, if_neg (by omega)]
    simp only [Array.getElem?_modify, if_pos, h3.pt_.1]
    simp) (fun i hi => by
    rw [World.freeze, if_neg (by omega)]
    simp only [Array.getElem?_modify]
    rw [if_neg (fun c => hi c.symm)])
   exact h4.drop.drop⟩
end FD
namespace Sl
open Go Sh
variable {P:Program} {W:World}
instance {f:FuncId}:OC (fn f):=⟨rfl⟩
theorem uJ {t u:TypeId}{ox oy:Operand}{x:Value}(h:P.underlying t=some (.interface (P.methodsAt t))):bg P W [] (kj .neq t ox oy (.iface u x) .nilIface) (.bool true):=fun w _=>by
 simp[kj,sv,eqGuard,run_neq_held_nil w t u x h]
theorem p7 {t:TypeId}{ox:Operand}{c:Value}(h:P.underlying t=some (.interface (P.methodsAt t))):bg P W [] (kj .neq t ox (.const c) .nilIface .nilIface) (.bool false):=fun w _=>by
 simp[kj,sv,eqGuard,run_neq_nil_nil w t h]
theorem OV {t a:TypeId}{k:IntKind}{v:Value}(h:P.underlying a=some (.int k)):bg P W [] (Nl (.iface a v) t a false) v:=fun w _=>by
 simp[Nl,Instr.typeAssert,run_underlying h]
end Sl
namespace FD
open Go Go.Proofs Go.RowKit Sh Sl T
class Gl (W:World):Prop where
 lt:7<W.heap.size
 rd:∃t v,W.cell? ⟨7,0,none⟩=some (.iface t v)
theorem Rl:p_.underlying 124=some (.interface (p_.methodsAt 124)):=by kernel_rfl
theorem OW {W:World}{t u:TypeId}{a:Option Addr}(h:p_.underlying t=some (.pointer u)):bg p_ W [] (yt t (.pointer a)) (.iface t (.pointer a)):=fun w _=>by
 simp[yt,Instr.makeInterface,run_underlying h]
theorem z3 {W:World}{ox oy:Operand}{a b:Int}:bg p_ W [] (kj .eql 124 ox oy (.iface 325 (.int .i64 a)) (.iface 325 (.int .i64 b))) (.bool (a==b)):=fun w _=>by
 have:=Lib.run_eql_iface_int (P:=p_) w (t:=124) (tx:=325) (k:= .i64) (q:= .i64) a b Tryz.underlying124 (by kernel_rfl) Tryz.underlying325
 simp[kj,sv,eqGuard,this]
theorem yH {W:World}[hG:Gl W]{a l:List UInt8}(hl:l.length<=281474976710656):Cn p_ 248 [bm a,bm l] W [] (fun g:Nat=> .pointer (some ⟨g,0,none⟩)) (fun _=>[]):=by
 obtain⟨t,v,hv⟩:=hG.rd
 (refine Shp.cn (Sg.g_ Tryz.call248 Tryz.func248 (an:={drs:=[(1,.ofL [(0,2),(1,1),(3,3),(2,0),(4,1),(5,0),(6,1)])]}) (os:=[(1,[(2,[3])])])) fun F=>?_;simp only[ca_,na_])
 refine bA (bh (zX hG.lt hv) .nil ?_)
 refine c_ (OO hl) fun _=>?_
 refine bZ .nil ?_
 refine t_ b_ ?_
 refine bV fun b=>?_
 refine bq b ?_
 exact aw
theorem GL {W:World}[hG:Gl W]{a l:List UInt8}{x y:Int}(hl:l.length<=281474976710656):Cn p_ 234 [bm a,bm l,.int .i64 x,.int .i64 y,.iface 325 (.int .i64 1)] W [] (fun g:Nat=> .iface 327 (.pointer (some ⟨g,0,none⟩))) (fun _=>[]):=by
 (refine Shp.cn (Sg.g_ Tryz.call234 Tryz.func234) fun F=>?_;simp only[ca_,na_])
 refine o_ lE (o_ z3 ?_)
 rw[show((1:Int)==2)=false from rfl]
 refine aa (o_ lE (o_ z3 ?_))
 rw[show((1:Int)==1)=true from rfl]
 refine ab (aB (yH hl) .nil fun g=>?_)
 refine aq ?_
 refine o_ (OW Tryz.underlying327) ?_
 refine bq g ?_
 exact aw
theorem tF (l:List UInt8)(c:UInt8):eK (l++[c])=eK l * 10+(c.toNat-48):=by simp[eK]
theorem BG (l r:List UInt8):eK l<=eK (l++r):=by
 induction r generalizing l with
 |nil=>simp
 |cons c r ih=>
  have h1:=ih (l++[c])
  rw[tF]at h1
  have e:l++c::r=l++[c]++r:=by simp
  rw[e];omega
theorem BI {l:List UInt8}{i:Nat}(h:i<l.length):eK (l.take (i+1))=eK (l.take i) * 10+(l[i].toNat-48):=by
 rw[List.take_succ_eq_append_getElem h,tF]
theorem GM {l:List UInt8}(i:Nat):eK (l.take i)<=eK l:=by
 have:=BG (l.take i) (l.drop i)
 rwa [List.take_append_drop]at this
def OX (l:List UInt8):Value:=if eK l<=9223372036854775807 then .tuple #[.int .u64 (eK l:Int),.nilIface]else .tuple #[.int .u64 9223372036854775807,.iface 325 (.int .i64 1)]
theorem Kl {W:World}{l:List UInt8}(hn:l≠[])(hd:l.all nZ=true)(hl:l.length<=4611686018427387904):Cn p_ 233 [bm l,.int .i64 10,.int .i64 63] W [] (fun _:Unit=>OX l) (fun _=>[]):=by
 (refine Shp.cn (Sg.g_ Tryz.call233 Tryz.func233 (an:={cuts:=[(21,[0,1]),(25,[2]),(32,[10]),(46,[12,16])],loops:=[(36,[12,13,101])]})) fun F=>?_;simp only[ca_,na_])
 have e0:(Value.string ⟨#[]⟩)=bm []:=rfl
 rw[e0]
 refine o_ cS ?_
 rw[dF_ hn]
 refine aa (o_ aP ?_)
 rw[dF_ (by decide)]
 refine zM ?_
 refine o_ cZ ?_
 rw[dT_ (by decide)]
 refine ae (ae (o_ cZ ?_))
 rw[dT_ (by decide)]
 refine o_ ah (ab (fB fun ds1=>?_))
 refine pV ?_
 refine o_ aP ?_
 rw[dF_ (by decide)]
 refine aa (o_ az ?_)
 rw[dF_ (by decide)]
 refine ae (ae (o_ aV ?_))
 rw[dF_ (by decide)]
 refine o_ ag (aa (fB fun ds2=>?_))
 refine pV ?_
 refine o_ aP ?_
 rw[dT_ (by decide)]
 refine ab (fB fun ds3=>?_)
 refine o_ br (o_ (fS (by decide)) ?_)
 refine o_ CW ?_
 rw[show IntKind.u64.wrap (IntKind.u64.wrap (1 * 2^(min (IntKind.u64.wrap 63).toNat IntKind.u64.bits))-1)=9223372036854775807 by rfl]
 refine k6 Tryz.underlying23 Tryz.underlying5 fun g c rest=>?_
 refine o_ aC (gD (fun m x y z=>[ex fun i:Nat=>all [pu (m+i=l.length/\x= .bool false/\y= .int .u64 (eK (l.take i):Int)/\z= .int .i64 (i:Int)/\eK (l.take i)<=9223372036854775807),pt g (.cells (l.map B++rest).toArray 5 (l.length+rest.length,l.length+rest.length+1))]]++F) l.length ?_ ?_)
 ·refine Imp.ex 0 (.all ?_)
  refine aq ?_
  exact .pu ⟨by omega,rfl,rfl,rfl,by simp[eK]⟩ .refl
 intro m ds x y z
 refine aq ?_
 refine aH Pick.here fun i=>ap Pick.here ?_
 refine aq ?_
 refine aG Pick.here fun hi=>?_
 obtain⟨hmi,rfl,rfl,rfl,hv⟩:=hi
 refine ay az .nil (fun h=>?_) (fun h=>?_)
 ·have hil:i<l.length:=by omega
  have hdi:=N5 (List.all_eq_true.1 hd _ (List.getElem_mem hil))
  have hvt:=BI hil
  have hvl:=GM (l:=l) (i+1)
  refine ab (o_ (bj i rfl hil) ?_)
  rw[Nat.zero_add]
  refine am (e_ (v:=B l[i]) (by simp[List.getElem?_append,hil])) (.pick .here .nil) ?_
  obtain⟨d,hde⟩:∃d,d=l[i].toNat:=⟨_,rfl⟩
  have eB:B l[i]= .int .u8 (d:Int):=by rw[hde];rfl
  rw[eB]
  rw[<- hde]at hdi hvt
  refine zM ?_
  refine o_ aP ?_
  rw[dF_ (by omega)]
  refine af (o_ ag (aa (o_ cZ ?_)))
  rw[dT_ (by omega)]
  refine ae (ae (o_ cZ ?_))
  rw[dT_ (by omega)]
  refine o_ ah (ab (o_ CW ?_))
  refine fB fun ds4=>?_
  rw[show IntKind.u8.wrap ((d:Int)-48)=(d:Int)-48 by simp[IntKind.wrap,IntKind.signed,IntKind.bits];omega]
  refine o_ br (o_ cH ?_)
  rw[show IntKind.u8.wrap 10=10 by rfl,dF_ (by omega)]
  refine aa ?_
  have big:9223372036854775807<eK l->aZ W (pt g (.cells (l.map B++rest).toArray 5 (l.length+rest.length,l.length+rest.length+1))::F) (opN p_ (yt 325 (.int .i64 1)) gH fun x143=>fun w=>∃x:Unit,(.tuple #[.int .u64 9223372036854775807,x143]:Value)=OX l/\sat W ([]++F) w):=by
   intro hb
   refine o_ lE (aR () (by unfold OX;rw[if_neg (by omega)]) ?_)
   exact aw
  refine ay cH .nil (fun h1=>?_) (fun h1=>?_)
  ·exact ab (big (by omega))
  ·refine aa (o_ br (o_ CX ?_))
   rw[show IntKind.u64.wrap 10=10 by rfl,show IntKind.u64.wrap ((eK (l.take i):Int) * 10)=(eK (l.take i):Int) * 10 by simp[IntKind.wrap,IntKind.signed,IntKind.bits];omega]
   refine o_ br ?_
   rw[show IntKind.u64.wrap ((d:Int)-48)=(d:Int)-48 by simp[IntKind.wrap,IntKind.signed,IntKind.bits];omega]
   refine o_ uv ?_
   by_cases h2:(eK (l.take i):Int) * 10+((d:Int)-48)<18446744073709551616
   ·rw[show IntKind.u64.wrap ((eK (l.take i):Int) * 10+((d:Int)-48))=(eK (l.take i):Int) * 10+((d:Int)-48) by simp[IntKind.wrap,IntKind.signed,IntKind.bits];omega]
    refine o_ az ?_
    rw[dF_ (by omega)]
    refine ae (ae (ae (ay aV .nil (fun h3=>?_) (fun h3=>?_))))
    ·(refine o_ ag ?_);refine ab ?_
     exact big (by omega)
    ·(refine o_ ag ?_);refine aa ?_;refine bG ?_
     have he:((eK (l.take i):Int) * 10+((d:Int)-48))=(eK (l.take (i+1)):Int):=by omega
     rw[he]
     refine cr (m-1) (by omega) (.ex (i+1) (.all ?_))
     refine aq ?_
     exact .pu ⟨by omega,rfl,rfl,rfl,by omega⟩ .refl
   ·rw[show IntKind.u64.wrap ((eK (l.take i):Int) * 10+((d:Int)-48))=(eK (l.take i):Int) * 10+((d:Int)-48)-18446744073709551616 by simp[IntKind.wrap,IntKind.signed,IntKind.bits];omega]
    refine o_ az ?_
    rw[dT_ (by omega)]
    exact ao (ao (ao (o_ ah (ab (big (by omega))))))
 ·have hie:i=l.length:=by omega
  subst hie
  rw[List.take_length]at hv ⊢
  refine aa (af (af (af (o_ ag (aa (aR () (by unfold OX;rw[if_pos hv]) ?_))))))
  exact aw
def Rm (l:List UInt8)(g:Nat):Value:=if eK l<=9223372036854775807 then .tuple #[.int .u64 (eK l:Int),.nilIface]else .tuple #[.int .u64 9223372036854775807,.iface 327 (.pointer (some ⟨g,0,none⟩))]
theorem Km {W:World}[hG:Gl W]{l:List UInt8}(hn:l≠[])(hd:l.all nZ=true)(hl:l.length<=281474976710656):Cn p_ 205 [bm l,.int .i64 10,.int .i64 63] W [] (fun g:Nat=>Rm l g) (fun _=>[]):=by
 (refine Shp.cn (Sg.g_ Tryz.call205 Tryz.func205) fun F=>?_;simp only[ca_,na_])
 refine c_ (Kl hn hd (by omega)) fun _=>?_
 unfold OX
 by_cases h:eK l<=9223372036854775807
 ·rw[if_pos h]
  refine fP ?_;refine fP ?_
  refine o_ (p7 Rl) ?_
  refine aa (aR 0 (by unfold Rm;rw[if_pos h]) ?_)
  exact aw
 ·rw[if_neg h]
  refine fP ?_;refine fP ?_
  refine o_ (uJ Rl) ?_
  refine ab (aB (GL (a:=[80,97,114,115,101,85,105,110,116]) hl) .nil fun g=>?_)
  refine aq ?_
  refine aR g (by unfold Rm;rw[if_neg h]) ?_
  exact aw
def OY:List UInt8:=[48,49,50,51,52,53,54,55,56,57,97,98,99,100,101,102]
theorem OZ (c:UInt8):(sr OY (dU c)<0\/10<=sr OY (dU c))↔nZ c=false:=by
 refine Df (p:=fun c=>(sr OY (dU c)<0\/10<=sr OY (dU c))↔nZ c=false) ?_ c
 decide+kernel
theorem Ko {l:List UInt8}(h:l.all nZ=true):cC l=l:=by
 unfold cC
 conv=>rhs;rw[<- List.map_id l]
 refine List.map_congr_left fun c hc=>?_
 have:=N5 (List.all_eq_true.1 h c hc)
 unfold dU
 rw[if_neg]
 ·rfl
 ·rintro⟨h1,_⟩
  have:=UInt8.le_iff_toNat_le.1 h1
  simp only[show(65:UInt8).toNat=65 from rfl]at this
  omega
theorem Kr {W:World}[hG:Gl W]{l:List UInt8}(hl:l.length<=281474976710656):Cn p_ 160 [bm l,.int .i64 10,.int .i64 1000000000000000000] W [] (fun _:Unit=> .tuple #[.int .i64 (j9 l).1,.int .i64 (j9 l).2]) (fun _=>[]):=by
 (refine Shp.cn (Sg.g_ Tryz.call160 Tryz.func160 (an:={loops:=[(3,[17])]})) fun F=>?_;simp only[ca_,na_])
 refine c_ (mU (l:=l) (by omega)) fun _=>?_
 have cL:(cC l).length=l.length:=by simp[cC]
 refine o_ ce ?_
 rw[cL]
 refine a_ (fun m y=>(ex fun i:Nat=>pu (m+i=l.length/\y= .int .i64 (i:Int)/\l.all nZ=(l.drop i).all nZ))::F) l.length ?_ ?_
 ·refine .ex 0 (.pu ⟨by omega,rfl,rfl⟩ ?_)
  exact aw
 intro m ds y
 refine aq ?_
 refine aH Pick.here fun i=>aG Pick.here fun hi=>?_
 obtain⟨hmi,rfl,hall⟩:=hi
 refine ay az .nil (fun h=>?_) (fun h=>?_)
 ·have hil:i<l.length:=by omega
  refine ab (o_ (h_ i rfl (by rw[cL];exact hil)) ?_)
  have hg:(cC l)[i]'(by rw[cL];exact hil)=dU l[i]:=by simp[cC]
  rw[hg]
  refine aB (indexByte (l:=OY) (c:=dU l[i])) .nil fun _=>?_
  refine aq ?_
  have hdx:=OZ l[i]
  rw[dr hil,List.all_cons]at hall
  have bad:nZ l[i]=false->j9 l=(0,21):=fun h=>by
   rw[h,Bool.false_and]at hall
   unfold j9
   rw[hall,Bool.and_false];rfl
  refine ay az .nil (fun h1=>?_) (fun h1=>?_)
  ·(refine ao ?_);refine ao ?_;refine ao ?_;refine o_ ah ?_;refine ab ?_
   rw[bad (hdx.1 (.inl h1))]
   refine bq () ?_
   exact aw
  ·(refine ae ?_);refine ae ?_;refine ae ?_
   refine ay cH .nil (fun h2=>?_) (fun h2=>?_)
   ·(refine o_ ag ?_);refine ab ?_
    rw[bad (hdx.1 (.inr h2))]
    refine bq () ?_
    exact aw
   ·(refine o_ ag ?_);refine aa ?_;refine bG ?_
    have hg:nZ l[i]=true:=by
     cases hx:nZ l[i]with
     |true=>rfl
     |false=>have:=hdx.2 hx;omega
    rw[hg,Bool.true_and]at hall
    refine aK (m-1) (by omega) (.ex (i+1) (.pu ⟨by omega,rfl,hall⟩ ?_))
    exact aw
 ·rw[List.drop_of_length_le (by omega),List.all_nil]at hall
  refine aa ?_
  have e0:(Value.string ⟨#[]⟩)=bm []:=rfl
  rw[e0,Ko hall]
  refine ay cS .nil (fun h1=>?_) (fun h1=>?_)
  ·subst h1
   refine ab (bq () ?_)
   exact aw
  ·refine aa ?_
   have hnb:nb l=true:=by cases l with
    |nil=>exact absurd rfl h1
    |cons _ _=>rfl
   refine aB (Km h1 hall hl) .nil fun g=>?_
   refine aq ?_
   unfold Rm
   by_cases h:eK l<=9223372036854775807
   ·rw[if_pos h]
    refine fP ?_;refine fP ?_
    refine o_ (p7 Rl) ?_
    refine ae (ae (ae (o_ br ?_)))
    rw[show IntKind.u64.wrap 1000000000000000000=1000000000000000000 by rfl]
    refine ae (ay aV .nil (fun h2=>?_) (fun h2=>?_))
    ·(refine o_ ag ?_);refine ab ?_
     have:j9 l=(0,11):=by
      unfold j9
      rw[hnb,hall,if_pos (by rfl),if_neg (by omega)]
     rw[this]
     refine bq () ?_
     exact aw
    ·(refine o_ ag ?_);refine aa ?_
     refine o_ br ?_
     have:j9 l=((eK l:Int),0):=by
      unfold j9
      rw[hnb,hall,if_pos (by rfl),if_pos (by omega)]
     rw[this,show IntKind.i64.wrap (eK l:Int)=(eK l:Int) by simp[IntKind.wrap,IntKind.signed,IntKind.bits];omega]
     refine bq () ?_
     exact aw
   ·rw[if_neg h]
    refine fP ?_;refine fP ?_
    refine o_ (uJ Rl) ?_
    refine ao (ao (ao (ao (o_ ah (ab ?_)))))
    have:j9 l=(0,11):=by
     unfold j9
     rw[hnb,hall,if_pos (by rfl),if_neg (by omega)]
    rw[this]
    refine bq () ?_
    exact aw
theorem GN {W:World}[hG:Gl W]{l:List UInt8}(hl:l.length<=281474976710656):Cn p_ 118 [bm l] W [] (fun _:Unit=> .tuple #[.int .i64 (j9 l).1,.int .i64 (j9 l).2]) (fun _=>[]):=by
 (refine Shp.cn (Sg.g_ Tryz.call118 Tryz.func118) fun F=>?_;simp only[ca_,na_])
 refine c_ (Kr hl) fun _=>?_
 refine fP ?_;refine fP ?_
 refine bq () ?_
 exact aw
theorem yI {W:World}{l:List UInt8}{q e:Bool}{fv:Value}:Cn p_ 84 [.agg #[.bool q,.bool e,fv],bm l] W [] (fun c:Nat × Nat=> .func (.func 116) #[] [.pointer (some ⟨c.1,0,none⟩),.pointer (some ⟨c.2,0,none⟩)].toArray) (fun c=>[pt c.1 (.cells #[bm l] 9 (0,0)),pt c.2 (.cells #[.bool q,.bool e,fv] 96 (0,0))]):=by
 (refine Shp.cn (Sg.g_ Tryz.call84 Tryz.func84) fun F=>?_;simp only[ca_,na_])
 refine bV fun gk=>?_
 refine fb fun gs=>?_
 refine o_ gI (bq ((gs,gk)) ?_)
 exact .refl
theorem wA {W:World} {l:List UInt8} {q e:Bool} {fv:Value} {gs gk lp:Nat} {G:Nat->HP} {Gx T T':HP} (hl:l.length<=4611686018427387904)
  (hy:kl p_ lp (F7 q e l) (fun k=>all [T,all [pt gs (.cells #[bm l] 9 (0,0)),pt gk (.cells #[.bool q,.bool e,fv] 96 (0,0)),G k]]) (all [T',Gx]) W):
  Cn p_ 116 [yv lp,.pointer (some ⟨gs,0,none⟩),.pointer (some ⟨gk,0,none⟩)] W [all [T,all [pt gs (.cells #[bm l] 9 (0,0)),pt gk (.cells #[.bool q,.bool e,fv] 96 (0,0)),G 0]]] (fun _:Bool=> .tuple #[]) (fun b=>[if b then all [T,all [pt gs (.cells #[bm l] 9 (0,0)),pt gk (.cells #[.bool q,.bool e,fv] 96 (0,0)),G (bB q e l).length]]else all [T',Gx]]):=by
 (refine Shp.cn (Sg.g_ Tryz.call116 Tryz.func116 (an:={loops:=[(2,[4,5,6])]})) fun F=>?_;simp only[ca_,na_])
 refine ap .here ?_
 refine aq ?_
 refine ap (.there .here) ?_
 refine aq ?_
 refine gD (fun m x y z=>[ex fun st:Bool × Nat × Nat × Nat=>all [pu (m+st.2.2.1=l.length+1/\x= .bool st.1/\y= .int .i64 (st.2.1:Int)/\z= .int .i64 (st.2.2.1:Int)/\st.2.1<=st.2.2.1/\st.2.1<=l.length/\(bB q e l).drop st.2.2.2=pK (uB l q e st.1 st.2.1 st.2.2.1)/\st.2.2.2<=(bB q e l).length),
   T,pt gs (.cells #[bm l] 9 (0,0)),pt gk (.cells #[.bool q,.bool e,fv] 96 (0,0)),G st.2.2.2]]++F) (l.length+1) ?_ ?_
 ·refine Imp.ex (false,0,0,0) (.all ?_)
  refine aq ?_
  refine .pu ⟨by simp,rfl,rfl,rfl,Nat.le_refl _,Nat.zero_le _,rfl,Nat.zero_le _⟩ ?_
  exact aw
 intro m ds x y z
 refine aq ?_
 refine aH Pick.here fun st=>ap Pick.here ?_
 obtain⟨inn,a,i,k⟩:=st
 refine aq ?_
 refine aG Pick.here fun hi=>?_
 (try dsimp only at hi)
 obtain⟨hmi,rfl,rfl,rfl,hai,hal,hdr,hkl⟩:=hi
 refine bt (bC .here) ?_
 refine o_ ce (ay az .nil (fun h=>?_) (fun h=>?_))
 ·have hil:i<l.length:=by omega
  refine ab (bt (bC .here) ?_)
  refine o_ (h_ i rfl hil) ?_
  refine o_ (qN 92 rfl) ?_
  refine uH ?_
  refine uI aj (bC (.there .here)) (.pick (by repeat constructor) .nil) ?_
  refine l_ (φ:=l[i]=92/\inn=true/\e=true) (by cases inn <;> cases e <;> simp) (fun h1=>?_) (fun h1=>?_)
  ·refine bG ?_
   refine bG ?_
   rw[zV hil hai h1.1 h1.2.1 h1.2.2]at hdr
   refine cr (m-2) (by omega) (.ex (inn,a,i+2,k) (.all ?_))
   refine aq ?_
   refine .pu ⟨by(try dsimp only);omega,rfl,rfl,by(try dsimp only);rw[Int.add_assoc];rfl,by(try dsimp only);omega,hal,hdr,hkl⟩ ?_
   exact aw
  ·refine o_ (qN 34 rfl) ?_
   refine uI aj (bC .here) (.pick (by repeat constructor) .nil) ?_
   refine l_ (φ:=l[i]=34/\q=true) (by cases q <;> simp) (fun h2=>?_) (fun h2=>?_)
   ·refine o_ fU (bG ?_)
    rw[IK hil hai h1 h2.1 h2.2]at hdr
    refine cr (m-1) (by omega) (.ex (!inn,a,i+1,k) (.all ?_))
    refine aq ?_
    refine .pu ⟨by(try dsimp only);omega,rfl,rfl,rfl,by(try dsimp only);omega,hal,hdr,hkl⟩ ?_
    exact aw
   ·refine o_ (qN 44 rfl) ?_
    refine qK (fun _=>fU) ?_
    refine l_ (φ:=l[i]=44/\inn=false) (by cases inn <;> simp) (fun h3=>?_) (fun h3=>?_)
    ·refine bt (bC .here) ?_
     refine o_ (yG a i rfl rfl hai (by omega)) ?_
     refine aB (wz (by simp[sub];omega)) .nil fun _=>?_
     refine aq ?_
     have e0:(Value.string ⟨#[]⟩)=bm []:=rfl
     rw[IL hil hai h3.1 h3.2,kZ]at hdr
     rw[e0]
     refine o_ ij ?_
     by_cases h4:bX (sub l a i)=[]
     ·rw[if_pos h4]at hdr
      rw[dF_ (fun c=>c h4)]
      refine af (af (af (af (o_ ag (aa (bG ?_))))));refine bG ?_
      refine cr (m-1) (by omega) (.ex (inn,i+1,i+1,k) (.all ?_))
      refine aq ?_
      refine .pu ⟨by(try dsimp only);omega,rfl,rfl,rfl,Nat.le_refl _,by(try dsimp only);omega,by rw[h3.2];exact hdr,hkl⟩ ?_
      exact aw
     ·rw[if_neg h4]at hdr
      obtain⟨hg,hd2,hk2⟩:=pZ hdr
      rw[dT_ h4]
      refine ae (ae (ae (bF (M:=all [T,all [pt gs (.cells #[bm l] 9 (0,0)),pt gk (.cells #[.bool q,.bool e,fv] 96 (0,0)),G k]]::F) ?_ ?_)))
      ·refine .all ?_
       refine aq ?_
       refine .pick (by repeat constructor) (.all ?_)
       refine aq ?_
       exact aw
      refine iZ hy k (od hg) .here ?_ ?_
      ·(refine ae ?_);refine o_ dJ ?_;refine o_ ah ?_;refine aa ?_;refine bG ?_;refine bG ?_
       refine ap .here ?_
       refine aq ?_
       refine ap (.there .here) ?_
       refine aq ?_
       refine cr (m-1) (by omega) (.ex (inn,i+1,i+1,k+1) (.all ?_))
       refine aq ?_
       refine .pu ⟨by(try dsimp only);omega,rfl,rfl,rfl,Nat.le_refl _,by(try dsimp only);omega,by rw[h3.2];exact hd2,by(try dsimp only);omega⟩ ?_
       exact aw
      ·(refine ae ?_);refine o_ dh ?_;refine o_ ah ?_;refine ab ?_
       refine bq false ?_
       exact .refl
    ·refine bG ?_
     rw[IM hil hai h1 h2 h3]at hdr
     refine cr (m-1) (by omega) (.ex (inn,a,i+1,k) (.all ?_))
     refine aq ?_
     refine .pu ⟨by(try dsimp only);omega,rfl,rfl,rfl,by(try dsimp only);omega,hal,hdr,hkl⟩ ?_
     exact aw
 ·refine aa (bt (bC .here) ?_)
  refine o_ (qE a rfl hal) ?_
  refine aB (wz (by simp;omega)) .nil fun _=>?_
  refine aq ?_
  have e0:(Value.string ⟨#[]⟩)=bm []:=rfl
  rw[e0]
  rw[zU (by omega),kZ,wl]at hdr
  refine o_ ij ?_
  by_cases h4:bX (l.drop a)=[]
  ·rw[if_pos h4]at hdr
   rw[dF_ (fun c=>c h4)]
   have hkn:k=(bB q e l).length:=by
    have:=congrArg List.length hdr
    rw[List.length_drop,List.length_nil]at this;omega
   subst hkn
   refine aa (bq true ?_)
   refine .all ?_
   refine aq ?_
   refine .pick (by repeat constructor) (.all ?_)
   refine aq ?_
   exact aw
  ·rw[if_neg h4]at hdr
   obtain⟨hg,hd2,hk2⟩:=pZ hdr
   rw[dT_ h4]
   refine ab (bF (M:=all [T,all [pt gs (.cells #[bm l] 9 (0,0)),pt gk (.cells #[.bool q,.bool e,fv] 96 (0,0)),G k]]::F) ?_ ?_)
   ·refine .all ?_
    refine aq ?_
    refine .pick (by repeat constructor) (.all ?_)
    refine aq ?_
    exact aw
   have hkn:k+1=(bB q e l).length:=by
    have:=congrArg List.length hd2
    rw[List.length_drop,List.length_nil]at this;omega
   refine iZ hy k (od hg) .here ?_ ?_
   ·rw[hkn]
    refine bq true ?_
    exact .refl
   ·refine bq false ?_
    exact .refl
theorem GO {W:World}{l:List UInt8}{q e:Bool}{fv:Value}:Cn p_ 96 [.agg #[.bool q,.bool e,fv],bm l] W [] (fun c:Nat × Nat=> .func (.func 130) #[] [.pointer (some ⟨c.1,0,none⟩),.pointer (some ⟨c.2,0,none⟩)].toArray) (fun c=>[pt c.1 (.cells #[bm l] 9 (0,0)),pt c.2 (.cells #[.bool q,.bool e,fv] 103 (0,0))]):=by
 (refine Shp.cn (Sg.g_ Tryz.call96 Tryz.func96) fun F=>?_;simp only[ca_,na_])
 refine bV fun gk=>?_
 refine fb fun gs=>?_
 refine o_ gI (bq ((gs,gk)) ?_)
 exact .refl
theorem Dt {W:World} {l:List UInt8} {q e:Bool} {fv:Value} {gs gk lp:Nat} {G:Nat->HP} {Gx T T':HP} (hl:l.length<=4611686018427387904)
  (hy:kl p_ lp (F7 q e l) (fun k=>all [T,all [pt gs (.cells #[bm l] 9 (0,0)),pt gk (.cells #[.bool q,.bool e,fv] 103 (0,0)),G k]]) (all [T',Gx]) W):
  Cn p_ 130 [yv lp,.pointer (some ⟨gs,0,none⟩),.pointer (some ⟨gk,0,none⟩)] W [all [T,all [pt gs (.cells #[bm l] 9 (0,0)),pt gk (.cells #[.bool q,.bool e,fv] 103 (0,0)),G 0]]] (fun _:Bool=> .tuple #[]) (fun b=>[if b then all [T,all [pt gs (.cells #[bm l] 9 (0,0)),pt gk (.cells #[.bool q,.bool e,fv] 103 (0,0)),G (bB q e l).length]]else all [T',Gx]]):=by
 (refine Shp.cn (Sg.g_ Tryz.call130 Tryz.func130 (an:={loops:=[(2,[4,5,6])]})) fun F=>?_;simp only[ca_,na_])
 refine ap .here ?_
 refine aq ?_
 refine ap (.there .here) ?_
 refine aq ?_
 refine gD (fun m x y z=>[ex fun st:Bool × Nat × Nat × Nat=>all [pu (m+st.2.2.1=l.length+1/\x= .bool st.1/\y= .int .i64 (st.2.1:Int)/\z= .int .i64 (st.2.2.1:Int)/\st.2.1<=st.2.2.1/\st.2.1<=l.length/\(bB q e l).drop st.2.2.2=pK (uB l q e st.1 st.2.1 st.2.2.1)/\st.2.2.2<=(bB q e l).length),
   T,pt gs (.cells #[bm l] 9 (0,0)),pt gk (.cells #[.bool q,.bool e,fv] 103 (0,0)),G st.2.2.2]]++F) (l.length+1) ?_ ?_
 ·refine Imp.ex (false,0,0,0) (.all ?_)
  refine aq ?_
  refine .pu ⟨by simp,rfl,rfl,rfl,Nat.le_refl _,Nat.zero_le _,rfl,Nat.zero_le _⟩ ?_
  exact aw
 intro m ds x y z
 refine aq ?_
 refine aH Pick.here fun st=>ap Pick.here ?_
 obtain⟨inn,a,i,k⟩:=st
 refine aq ?_
 refine aG Pick.here fun hi=>?_
 (try dsimp only at hi)
 obtain⟨hmi,rfl,rfl,rfl,hai,hal,hdr,hkl⟩:=hi
 refine bt (bC .here) ?_
 refine o_ ce (ay az .nil (fun h=>?_) (fun h=>?_))
 ·have hil:i<l.length:=by omega
  refine ab (bt (bC .here) ?_)
  refine o_ (h_ i rfl hil) ?_
  refine o_ (qN 92 rfl) ?_
  refine uH ?_
  refine uI aj (bC (.there .here)) (.pick (by repeat constructor) .nil) ?_
  refine l_ (φ:=l[i]=92/\inn=true/\e=true) (by cases inn <;> cases e <;> simp) (fun h1=>?_) (fun h1=>?_)
  ·refine bG ?_
   refine bG ?_
   rw[zV hil hai h1.1 h1.2.1 h1.2.2]at hdr
   refine cr (m-2) (by omega) (.ex (inn,a,i+2,k) (.all ?_))
   refine aq ?_
   refine .pu ⟨by(try dsimp only);omega,rfl,rfl,by(try dsimp only);rw[Int.add_assoc];rfl,by(try dsimp only);omega,hal,hdr,hkl⟩ ?_
   exact aw
  ·refine o_ (qN 34 rfl) ?_
   refine uI aj (bC .here) (.pick (by repeat constructor) .nil) ?_
   refine l_ (φ:=l[i]=34/\q=true) (by cases q <;> simp) (fun h2=>?_) (fun h2=>?_)
   ·refine o_ fU (bG ?_)
    rw[IK hil hai h1 h2.1 h2.2]at hdr
    refine cr (m-1) (by omega) (.ex (!inn,a,i+1,k) (.all ?_))
    refine aq ?_
    refine .pu ⟨by(try dsimp only);omega,rfl,rfl,rfl,by(try dsimp only);omega,hal,hdr,hkl⟩ ?_
    exact aw
   ·refine o_ (qN 44 rfl) ?_
    refine qK (fun _=>fU) ?_
    refine l_ (φ:=l[i]=44/\inn=false) (by cases inn <;> simp) (fun h3=>?_) (fun h3=>?_)
    ·refine bt (bC .here) ?_
     refine o_ (yG a i rfl rfl hai (by omega)) ?_
     refine aB (wz (by simp[sub];omega)) .nil fun _=>?_
     refine aq ?_
     have e0:(Value.string ⟨#[]⟩)=bm []:=rfl
     rw[IL hil hai h3.1 h3.2,kZ]at hdr
     rw[e0]
     refine o_ ij ?_
     by_cases h4:bX (sub l a i)=[]
     ·rw[if_pos h4]at hdr
      rw[dF_ (fun c=>c h4)]
      refine af (af (af (af (o_ ag (aa (bG ?_))))));refine bG ?_
      refine cr (m-1) (by omega) (.ex (inn,i+1,i+1,k) (.all ?_))
      refine aq ?_
      refine .pu ⟨by(try dsimp only);omega,rfl,rfl,rfl,Nat.le_refl _,by(try dsimp only);omega,by rw[h3.2];exact hdr,hkl⟩ ?_
      exact aw
     ·rw[if_neg h4]at hdr
      obtain⟨hg,hd2,hk2⟩:=pZ hdr
      rw[dT_ h4]
      refine ae (ae (ae (bF (M:=all [T,all [pt gs (.cells #[bm l] 9 (0,0)),pt gk (.cells #[.bool q,.bool e,fv] 103 (0,0)),G k]]::F) ?_ ?_)))
      ·refine .all ?_
       refine aq ?_
       refine .pick (by repeat constructor) (.all ?_)
       refine aq ?_
       exact aw
      refine iZ hy k (od hg) .here ?_ ?_
      ·(refine ae ?_);refine o_ dJ ?_;refine o_ ah ?_;refine aa ?_;refine bG ?_;refine bG ?_
       refine ap .here ?_
       refine aq ?_
       refine ap (.there .here) ?_
       refine aq ?_
       refine cr (m-1) (by omega) (.ex (inn,i+1,i+1,k+1) (.all ?_))
       refine aq ?_
       refine .pu ⟨by(try dsimp only);omega,rfl,rfl,rfl,Nat.le_refl _,by(try dsimp only);omega,by rw[h3.2];exact hd2,by(try dsimp only);omega⟩ ?_
       exact aw
      ·(refine ae ?_);refine o_ dh ?_;refine o_ ah ?_;refine ab ?_
       refine bq false ?_
       exact .refl
    ·refine bG ?_
     rw[IM hil hai h1 h2 h3]at hdr
     refine cr (m-1) (by omega) (.ex (inn,a,i+1,k) (.all ?_))
     refine aq ?_
     refine .pu ⟨by(try dsimp only);omega,rfl,rfl,rfl,by(try dsimp only);omega,hal,hdr,hkl⟩ ?_
     exact aw
 ·refine aa (bt (bC .here) ?_)
  refine o_ (qE a rfl hal) ?_
  refine aB (wz (by simp;omega)) .nil fun _=>?_
  refine aq ?_
  have e0:(Value.string ⟨#[]⟩)=bm []:=rfl
  rw[e0]
  rw[zU (by omega),kZ,wl]at hdr
  refine o_ ij ?_
  by_cases h4:bX (l.drop a)=[]
  ·rw[if_pos h4]at hdr
   rw[dF_ (fun c=>c h4)]
   have hkn:k=(bB q e l).length:=by
    have:=congrArg List.length hdr
    rw[List.length_drop,List.length_nil]at this;omega
   subst hkn
   refine aa (bq true ?_)
   refine .all ?_
   refine aq ?_
   refine .pick (by repeat constructor) (.all ?_)
   refine aq ?_
   exact aw
  ·rw[if_neg h4]at hdr
   obtain⟨hg,hd2,hk2⟩:=pZ hdr
   rw[dT_ h4]
   refine ab (bF (M:=all [T,all [pt gs (.cells #[bm l] 9 (0,0)),pt gk (.cells #[.bool q,.bool e,fv] 103 (0,0)),G k]]::F) ?_ ?_)
   ·refine .all ?_
    refine aq ?_
    refine .pick (by repeat constructor) (.all ?_)
    refine aq ?_
    exact aw
   have hkn:k+1=(bB q e l).length:=by
    have:=congrArg List.length hd2
    rw[List.length_drop,List.length_nil]at this;omega
   refine iZ hy k (od hg) .here ?_ ?_
   ·rw[hkn]
    refine bq true ?_
    exact .refl
   ·refine bq false ?_
    exact .refl
def jG (x:List UInt8 × Int):Value:= .agg #[bm x.1,.int .i64 x.2]
def dV (x:List UInt8 × Int):List Value:=[bm x.1,.int .i64 x.2]
theorem wB {W : World} {l : List UInt8} {q e : Bool} {f : FuncId} {one : List UInt8 → (List UInt8 × Int) × Bool} (hl : l.length ≤ 2097152)
  (hone : ∀ w : List UInt8, w.length ≤ l.length → Cn p_ f [bm w] W [] (fun _ : Unit => .tuple #[jG (one w).1, .bool (one w).2]) (fun _ => [])) :
  Cn p_ 54 [bm l, .agg #[.bool q, .bool e, fn f]] W [] (fun r : Option Addr × Nat => .tuple #[.slice r.1 (nR (fk one (bB q e l))).1.length r.2, .int .i64 (nR (fk one (bB q e l))).2])
   (fun r => [Sl 2 67 r.1 r.2 (nR (fk one (bB q e l))).1.length ((nR (fk one (bB q e l))).1.flatMap dV)]) := by
 have hnum := k7 (q := q) (e := e) (l := l)
 (refine S.il.cn fun F => ?_; unfold S.eF; simp only [ca_, na_])
 refine bV fun b3 => ?_
 refine dx fun b4 => ?_
 refine dx fun b5 => ?_
 refine dx fun b6 => ?_
 refine bt (cg (cs := #[.bool q, .bool e, fn f]) rfl) ?_
 refine aB yI .nil fun c => ?_
 obtain ⟨gs, gk⟩ := c
 refine aq ?_
 refine Bw (f := 116) (cap := [.pointer (some ⟨gs, 0, none⟩), .pointer (some ⟨gk, 0, none⟩)]) (F7 q e l)
  (fun k => all [pt gs (.cells #[bm l] 9 (0, 0)), pt gk (.cells #[.bool q, .bool e, fn f] 96 (0, 0)), all [pu (((bB q e l).take k).all (fun w => (one w).2) = true ∧ k ≤ (bB q e l).length), pt b3 (.cells #[.bool q, .bool e, fn f] 96 (0, 0)), pt b4 (.cells #[.slice none 0 0] 62 (0, 0)), pt b5 (.cells #[.int .i64 0] 27 (0, 0)),
   ex fun r : Option Addr × Nat => all [pt b6 (.cells #[.slice r.1 k r.2] 62 (0, 0)), Sl 2 67 r.1 r.2 k (((bB q e l).take k).flatMap fun w => dV (one w).1)], all F]])
  (all [pu ((bB q e l).all (fun w => (one w).2) = false), pt b4 (.cells #[.slice none 0 0] 62 (0, 0)), pt b5 (.cells #[.int .i64 42] 27 (0, 0)), all F]) rfl ?_ ?_ ?_ ?_ ?_ ?_
 ·intro x hx
  obtain ⟨w, _, rfl⟩ := List.mem_map.1 hx
  rfl
 ·refine .all ?_
  refine aq ?_
  refine .pick (by repeat constructor) (.pick (by repeat constructor) (.all ?_))
  refine aq ?_
  refine .pu ⟨rfl, Nat.zero_le _⟩ ?_
  refine .pick (by repeat constructor) (.pick (by repeat constructor) (.pick (by repeat constructor) (.ex (none, 0) (.all ?_))))
  refine aq ?_
  refine .pick (by repeat constructor) (bR (.all ?_))
  rw [List.append_nil]
  exact .refl
 ·intro lp T T' hy
  rw [k8]
  exact wA (by omega) hy
 ·intro k hk F2 T0 T1 B N J hB hN hJ
  rw [k8] at hk
  obtain ⟨w, hwe⟩ : ∃ w, w = (bB q e l)[k] := ⟨_, rfl⟩
  have hwl : w.length ≤ l.length := tE (by rw [hwe]; exact List.getElem_mem hk)
  have hat : (bB q e l)[k]? = some w := by rw [hwe, List.getElem?_eq_getElem hk]
  have e0 : ∀ h, (F7 q e l)[k]'h = [bm w] := fun h => by
   have := od hat
   rw [List.getElem?_eq_getElem h] at this
   exact Option.some.inj this
  rw [e0]
  simp only [jh, List.headD_cons, List.tail_cons]
  refine ap (.there .here) ?_
  refine aq ?_
  refine ap (.there (.there .here)) ?_
  refine aq ?_
  refine aG .here fun hp => ?_
  obtain ⟨hp, hkn⟩ := hp
  have htk : (bB q e l).take (k + 1) = (bB q e l).take k ++ [w] := by rw [List.take_succ_eq_append_getElem hk, hwe]
  refine hB _ _ _ (by repeat constructor) ?_
  refine aH (A := fun r : Option Addr × Nat => all [pt b6 (.cells #[.slice r.1 k r.2] 62 (0, 0)), Sl 2 67 r.1 r.2 k (((bB q e l).take k).flatMap fun w => dV (one w).1)]) (by repeat constructor) fun r => ap Pick.here ?_
  obtain ⟨a, c⟩ := r
  refine aq ?_
  refine o_ aj (bt (bC (.there (.there .here))) ?_)
  refine aB (hone w hwl) .nil fun _ => ?_
  refine aq ?_
  unfold jG
  refine o_ (bM (vs := [_, _]) .here) ?_
  refine o_ (bM (vs := [_, _]) (.there .here)) ?_
  refine bp fun b8 => ?_
  refine bS .here (by rfl) (by rfl) (by intro u hu; simp [jG] at hu; rcases hu with rfl | rfl <;> rfl) ?_
  refine o_ fU ?_
  cases hok : (one w).2 with
  | false =>
   refine ab (eR (by repeat constructor) .here ?_)
   refine eR (by repeat constructor) .here ?_
   refine hJ _ ?_
   refine .pick (by repeat constructor) (.all ?_)
   refine aq ?_
   refine .pu ?_ ?_
   ·rw [Bool.eq_false_iff]
    intro hall
    have := List.all_eq_true.1 hall w (by rw [hwe]; exact List.getElem_mem hk)
    rw [hok] at this; cases this
   refine .pick (by repeat constructor) (.pick (by repeat constructor) ?_)
   exact aw
  | true =>
   refine aa (bt (bC .here) ?_)
   refine bt (cg (cs := #[bm (one w).1.1, .int .i64 (one w).1.2]) rfl) ?_
   refine eL (n := 1) (vs := [jG (one w).1]) rfl (by omega) rfl (by intro v hv; rw [List.mem_singleton.1 hv]; rfl) (by omega) fun gb => ?_
   refine bO (m := 1) (news := dV (one w).1) (by repeat constructor) (cA (s := 2) (e' := 67) (by kernel_rfl) .here (by rfl) (by intro u hu; simp [dV] at hu; rcases hu with rfl | rfl <;> rfl)) (by omega) (by omega) fun a' c' => ?_
   refine eR (by repeat constructor) .here ?_
   refine hN _ ?_
   refine .pick (by repeat constructor) (.all ?_)
   refine aq ?_
   refine .pick (by repeat constructor) (.pick (by repeat constructor) (.all ?_))
   refine aq ?_
   refine .pu ⟨?_, by omega⟩ ?_
   ·rw [htk, List.all_append, hp]
    simp [hok]
   refine .pick (by repeat constructor) (.pick (by repeat constructor) (.pick (by repeat constructor) (.ex (a', c') (.all ?_))))
   refine aq ?_
   rw [htk, List.flatMap_append, List.flatMap_singleton]
   refine .pick (by repeat constructor) (.pick (by repeat constructor) ?_)
   exact aw
 ·intro d
  rw [k8]
  refine ap (.there .here) ?_
  refine aq ?_
  refine ap (.there (.there .here)) ?_
  refine aq ?_
  refine aG .here fun hp => ?_
  obtain ⟨hp, _⟩ := hp
  rw [List.take_length] at hp ⊢
  refine aH (A := fun r : Option Addr × Nat => all [pt b6 (.cells #[.slice r.1 (bB q e l).length r.2] 62 (0, 0)), Sl 2 67 r.1 r.2 (bB q e l).length ((bB q e l).flatMap fun w => dV (one w).1)]) (by repeat constructor) fun r => ap Pick.here ?_
  obtain ⟨a, c⟩ := r
  refine aq ?_
  refine bt (bC .here) ?_
  refine eR (by repeat constructor) .here ?_
  refine eR (by repeat constructor) .here ?_
  refine uw (by repeat constructor) ?_
  refine eJ (cB .here) ?_
  refine eJ (cB .here) ?_
  have e1 : nR (fk one (bB q e l)) = ((bB q e l).map fun w => (one w).1, 0) := by
   unfold fk
   rw [if_pos hp]; rfl
  rw [e1]
  refine km (M := [Sl 2 67 a c (bB q e l).length ((bB q e l).flatMap fun w => dV (one w).1)]) (F := F) aw ?_
  refine aq ?_
  refine aR (a, c) (by simp) ?_
  simp only [List.length_map, List.flatMap_map]
  exact .refl
 ·intro d
  refine ap (.there .here) ?_
  refine aq ?_
  refine aG .here fun hp => ?_
  refine uw (by repeat constructor) ?_
  refine eJ (cB .here) ?_
  refine eJ (cB .here) ?_
  have e1 : nR (fk one (bB q e l)) = ([], 42) := by
   unfold fk
   rw [if_neg (by rw [hp]; simp)]; rfl
  rw [e1]
  refine km (M := []) (F := F) aw ?_
  refine aq ?_
  refine aR (none, 0) rfl ?_
  exact bR .refl
def yJ (x:Dir):Value:= .agg #[bm x.name,bm x.value,.bool x.has]
def mX (x:Dir):List Value:=[bm x.name,bm x.value,.bool x.has]
theorem Du {W : World} {l : List UInt8} {q e : Bool} {f : FuncId} {one : List UInt8 → (Dir) × Bool} (hl : l.length ≤ 2097152)
  (hone : ∀ w : List UInt8, w.length ≤ l.length → Cn p_ f [bm w] W [] (fun _ : Unit => .tuple #[yJ (one w).1, .bool (one w).2]) (fun _ => [])) :
  Cn p_ 61 [bm l, .agg #[.bool q, .bool e, fn f]] W [] (fun r : Option Addr × Nat => .tuple #[.slice r.1 (nR (fk one (bB q e l))).1.length r.2, .int .i64 (nR (fk one (bB q e l))).2])
   (fun r => [Sl 3 78 r.1 r.2 (nR (fk one (bB q e l))).1.length ((nR (fk one (bB q e l))).1.flatMap mX)]) := by
 have hnum := k7 (q := q) (e := e) (l := l)
 (refine S.gh.cn fun F => ?_; unfold S.dZ; simp only [ca_, na_])
 refine bV fun b3 => ?_
 refine dx fun b4 => ?_
 refine dx fun b5 => ?_
 refine dx fun b6 => ?_
 refine bt (cg (cs := #[.bool q, .bool e, fn f]) rfl) ?_
 refine aB GO .nil fun c => ?_
 obtain ⟨gs, gk⟩ := c
 refine aq ?_
 refine Bw (f := 130) (cap := [.pointer (some ⟨gs, 0, none⟩), .pointer (some ⟨gk, 0, none⟩)]) (F7 q e l)
  (fun k => all [pt gs (.cells #[bm l] 9 (0, 0)), pt gk (.cells #[.bool q, .bool e, fn f] 103 (0, 0)), all [pu (((bB q e l).take k).all (fun w => (one w).2) = true ∧ k ≤ (bB q e l).length), pt b3 (.cells #[.bool q, .bool e, fn f] 103 (0, 0)), pt b4 (.cells #[.slice none 0 0] 74 (0, 0)), pt b5 (.cells #[.int .i64 0] 27 (0, 0)),
   ex fun r : Option Addr × Nat => all [pt b6 (.cells #[.slice r.1 k r.2] 74 (0, 0)), Sl 3 78 r.1 r.2 k (((bB q e l).take k).flatMap fun w => mX (one w).1)], all F]])
  (all [pu ((bB q e l).all (fun w => (one w).2) = false), pt b4 (.cells #[.slice none 0 0] 74 (0, 0)), pt b5 (.cells #[.int .i64 42] 27 (0, 0)), all F]) rfl ?_ ?_ ?_ ?_ ?_ ?_
 ·intro x hx
  obtain ⟨w, _, rfl⟩ := List.mem_map.1 hx
  rfl
 ·refine .all ?_
  refine aq ?_
  refine .pick (by repeat constructor) (.pick (by repeat constructor) (.all ?_))
  refine aq ?_
  refine .pu ⟨rfl, Nat.zero_le _⟩ ?_
  refine .pick (by repeat constructor) (.pick (by repeat constructor) (.pick (by repeat constructor) (.ex (none, 0) (.all ?_))))
  refine aq ?_
  refine .pick (by repeat constructor) (bR (.all ?_))
  rw [List.append_nil]
  exact .refl
 ·intro lp T T' hy
  rw [k8]
  exact Dt (by omega) hy
 ·intro k hk F2 T0 T1 B N J hB hN hJ
  rw [k8] at hk
  obtain ⟨w, hwe⟩ : ∃ w, w = (bB q e l)[k] := ⟨_, rfl⟩
  have hwl : w.length ≤ l.length := tE (by rw [hwe]; exact List.getElem_mem hk)
  have hat : (bB q e l)[k]? = some w := by rw [hwe, List.getElem?_eq_getElem hk]
  have e0 : ∀ h, (F7 q e l)[k]'h = [bm w] := fun h => by
   have := od hat
   rw [List.getElem?_eq_getElem h] at this
   exact Option.some.inj this
  rw [e0]
  simp only [jh, List.headD_cons, List.tail_cons]
  refine ap (.there .here) ?_
  refine aq ?_
  refine ap (.there (.there .here)) ?_
  refine aq ?_
  refine aG .here fun hp => ?_
  obtain ⟨hp, hkn⟩ := hp
  have htk : (bB q e l).take (k + 1) = (bB q e l).take k ++ [w] := by rw [List.take_succ_eq_append_getElem hk, hwe]
  refine hB _ _ _ (by repeat constructor) ?_
  refine aH (A := fun r : Option Addr × Nat => all [pt b6 (.cells #[.slice r.1 k r.2] 74 (0, 0)), Sl 3 78 r.1 r.2 k (((bB q e l).take k).flatMap fun w => mX (one w).1)]) (by repeat constructor) fun r => ap Pick.here ?_
  obtain ⟨a, c⟩ := r
  refine aq ?_
  refine o_ aj (bt (bC (.there (.there .here))) ?_)
  refine aB (hone w hwl) .nil fun _ => ?_
  refine aq ?_
  unfold yJ
  refine o_ (bM (vs := [_, _]) .here) ?_
  refine o_ (bM (vs := [_, _]) (.there .here)) ?_
  refine bp fun b8 => ?_
  refine bS .here (by rfl) (by rfl) (by intro u hu; simp [yJ] at hu; rcases hu with rfl | rfl | rfl <;> rfl) ?_
  refine o_ fU ?_
  cases hok : (one w).2 with
  | false =>
   refine ab (eR (by repeat constructor) .here ?_)
   refine eR (by repeat constructor) .here ?_
   refine hJ _ ?_
   refine .pick (by repeat constructor) (.all ?_)
   refine aq ?_
   refine .pu ?_ ?_
   ·rw [Bool.eq_false_iff]
    intro hall
    have := List.all_eq_true.1 hall w (by rw [hwe]; exact List.getElem_mem hk)
    rw [hok] at this; cases this
   refine .pick (by repeat constructor) (.pick (by repeat constructor) ?_)
   exact aw
  | true =>
   refine aa (bt (bC .here) ?_)
   refine bt (cg (cs := #[bm (one w).1.name, bm (one w).1.value, .bool (one w).1.has]) rfl) ?_
   refine eL (n := 1) (vs := [yJ (one w).1]) rfl (by omega) rfl (by intro v hv; rw [List.mem_singleton.1 hv]; rfl) (by omega) fun gb => ?_
   refine bO (m := 1) (news := mX (one w).1) (by repeat constructor) (cA (s := 3) (e' := 78) (by kernel_rfl) .here (by rfl) (by intro u hu; simp [mX] at hu; rcases hu with rfl | rfl | rfl <;> rfl)) (by omega) (by omega) fun a' c' => ?_
   refine eR (by repeat constructor) .here ?_
   refine hN _ ?_
   refine .pick (by repeat constructor) (.all ?_)
   refine aq ?_
   refine .pick (by repeat constructor) (.pick (by repeat constructor) (.all ?_))
   refine aq ?_
   refine .pu ⟨?_, by omega⟩ ?_
   ·rw [htk, List.all_append, hp]
    simp [hok]
   refine .pick (by repeat constructor) (.pick (by repeat constructor) (.pick (by repeat constructor) (.ex (a', c') (.all ?_))))
   refine aq ?_
   rw [htk, List.flatMap_append, List.flatMap_singleton]
   refine .pick (by repeat constructor) (.pick (by repeat constructor) ?_)
   exact aw
 ·intro d
  rw [k8]
  refine ap (.there .here) ?_
  refine aq ?_
  refine ap (.there (.there .here)) ?_
  refine aq ?_
  refine aG .here fun hp => ?_
  obtain ⟨hp, _⟩ := hp
  rw [List.take_length] at hp ⊢
  refine aH (A := fun r : Option Addr × Nat => all [pt b6 (.cells #[.slice r.1 (bB q e l).length r.2] 74 (0, 0)), Sl 3 78 r.1 r.2 (bB q e l).length ((bB q e l).flatMap fun w => mX (one w).1)]) (by repeat constructor) fun r => ap Pick.here ?_
  obtain ⟨a, c⟩ := r
  refine aq ?_
  refine bt (bC .here) ?_
  refine eR (by repeat constructor) .here ?_
  refine eR (by repeat constructor) .here ?_
  refine uw (by repeat constructor) ?_
  refine eJ (cB .here) ?_
  refine eJ (cB .here) ?_
  have e1 : nR (fk one (bB q e l)) = ((bB q e l).map fun w => (one w).1, 0) := by
   unfold fk
   rw [if_pos hp]; rfl
  rw [e1]
  refine km (M := [Sl 3 78 a c (bB q e l).length ((bB q e l).flatMap fun w => mX (one w).1)]) (F := F) aw ?_
  refine aq ?_
  refine aR (a, c) (by simp) ?_
  simp only [List.length_map, List.flatMap_map]
  exact .refl
 ·intro d
  refine ap (.there .here) ?_
  refine aq ?_
  refine aG .here fun hp => ?_
  refine uw (by repeat constructor) ?_
  refine eJ (cB .here) ?_
  refine eJ (cB .here) ?_
  have e1 : nR (fk one (bB q e l)) = ([], 42) := by
   unfold fk
   rw [if_neg (by rw [hp]; simp)]; rfl
  rw [e1]
  refine km (M := []) (F := F) aw ?_
  refine aq ?_
  refine aR (none, 0) rfl ?_
  exact bR .refl
def yK (x:Bool × List UInt8):Value:= .agg #[.bool x.1,bm x.2]
theorem GP (a b:List UInt8):((⟨a.toArray⟩:ByteArray).toList==(⟨b.toArray⟩:ByteArray).toList)=decide (a=b):=by
 rw[ByteArray.toList_eq,ByteArray.toList_eq]
 show(a==b)=decide (a=b)
 by_cases h:a=b <;> simp[h]
theorem So {w:World}{d:Nat}{a b:List UInt8}:(Op.equalIn (d+1) 9 (bm a) (bm b)).run p_ w= .ok (decide (a=b)) w:=by
 unfold bm
 rw[run_equalIn_string w d 9 _ _ Tryz.underlying9,GP]
theorem Tf {w:World}{t:TypeId}{cs:Array Value}{o:Nat}{v:Value}[h:OneT p_ t](hv:cs[o]? =some v):(part t cs o).run p_ w= .ok v w:=by
 simp[part,h.agg,hv]
theorem Ks {w:World} {d:Nat} {f:Field} {fs:List Field} {xs ys:Array Value} {a b:Value} {φ:Bool} (hn:f.name≠ "_") (h1:(part f.type xs f.offset).run p_ w= .ok a w) (h2:(part f.type ys f.offset).run p_ w= .ok b w)
  (h3:(Op.equalIn d f.type a b).run p_ w= .ok φ w):(Op.eqFields d xs ys (f::fs)).run p_ w=if φ then(Op.eqFields d xs ys fs).run p_ w else .ok false w:=by
 rw[Op.eqFields,if_pos hn]
 simp only[Sem.run_bind,h1,h2,h3,Result.andThen_ok]
 cases φ <;> simp
theorem O0 {w:World}{d:Nat}{xs ys:Array Value}:(Op.eqFields d xs ys []).run p_ w= .ok true w:=by simp[Op.eqFields]
theorem Tg {w:World} {f:Field} {fs:List Field} {xs ys:Array Value} {φ:Bool} (a b:List UInt8) (hn:f.name≠ "_") (ht:f.type=9) (h1:xs[f.offset]? =some (bm a)) (h2:ys[f.offset]? =some (bm b))
  (hr:(Op.eqFields 9999 xs ys fs).run p_ w= .ok φ w):(Op.eqFields 9999 xs ys (f::fs)).run p_ w= .ok (decide (a=b)&&φ) w:=by
 rw[Ks hn (by rw[ht];exact Tf h1) (by rw[ht];exact Tf h2) (by rw[ht];exact So (d:=9998)),hr]
 by_cases h:a=b <;> simp[h]
theorem Kt {W:World} {t:TypeId} {ox oy:Operand} {xs ys:Array Value} {φ:Bool} (ht:p_.underlying t=some (.struct (p_.fieldsOf t))) (hp:p_.stoodInHeld t=false) (hm:p_.eqGuardType p_.depth t=false)
  (h:∀w,(Op.eqFields 9999 xs ys (p_.fieldsOf t).toList).run p_ w= .ok φ w):bg p_ W [] (kj .neq t ox oy (.agg xs) (.agg ys)) (.bool (!φ)):=fun w _=>by
 have e:=run_equalIn_agg (P:=p_) w 9999 t xs ys ht hp
 rw[h w]at e
 have h1:=run_neq_struct (P:=p_) w t xs ys
 rw[show(10000:Nat)=9999+1 from rfl,e]at h1
 have h2:=run_eqGuard_agg (P:=p_) w .neq t ox oy xs ys hm
 simp[kj,sv,h2,h1]
end FD
end Go.Proofs.YtndojgomlkpeaaaGreatDoor
