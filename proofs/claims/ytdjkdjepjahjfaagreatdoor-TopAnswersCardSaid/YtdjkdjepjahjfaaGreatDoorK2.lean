/- Strings: joined, cut, asked by place; their bytes as a new row; arrays as values. No conditions but those that each names. (19 texts made one; each says below what it is.) -/
import Derived.Test.YtdjkdjepjahjfaaGreatDoorK1
import Derived.Laws.IdiomStrings
import Derived.MapKept
import Derived.Test.YtdjkdjepjahjfaaGreatDoorChecked
import Derived.KernelRfl
import Derived.ChangeArms
import Derived.Test.YtdjkdjepjahjfaaGreatDoorRows
import Derived.Laws.Externs
import Derived.Lib.Strings
import Derived.Lib.Walk
import Derived.Lib.BufferWrite
import Derived.Lib.UnsafeStr
import Derived.Laws.MakeOwn
import Derived.WalkKit
import Derived.Lib.IfaceEq
set_option linter.unusedVariables false
set_option linter.unusedSimpArgs false
set_option linter.unusedSectionVars false
set_option maxRecDepth 9999
namespace Go.Proofs.YtdjkdjepjahjfaaGreatDoor.Sl
open Go Go.RowKit Sh
variable {P:Program} {W:World} {L L':List HP} {Kp:PK} {k:Value->WP}
theorem cA {t:TypeId}{a b:List UInt8}(h:a.length+b.length<=9223372036854775807):aQ P W [] (a_ .add t (ay a) (ay b)) (ay (a++b)):=fun w _=>by
 have hm:¬(((a.length+b.length:Nat):Int) > IntKind.i64.max):=by
  have:IntKind.i64.max=9223372036854775807:=by decide
  rw[this];omega
 have e:(⟨a.toArray⟩:ByteArray)++⟨b.toArray⟩=⟨(a++b).toArray⟩:=by
  apply ByteArray.ext
  simp
 simp[a_,sv,eqGuard,ay,binOp_string_add,Op.stringOp,e,ByteArray.size]
 omega
theorem mE {q:IntKind}{w:World}{i:Int}{y:Nat}{c:BoundsCode}(h:Nat)(hi:i=(h:Int))(hy:h<=y):(Instr.sliceBound (.int q i) y c).run P w= .ok h w:=by
 subst hi
 simp[Instr.sliceBound,asIntOf,hy]
theorem Ag {l:List UInt8}{h:Nat}(hh:h<=l.length):(⟨l.toArray⟩:ByteArray).extract 0 h=⟨(l.take h).toArray⟩:=by
 apply ByteArray.ext
 rw[ByteArray.data_extract]
 simp
theorem Ah {l:List UInt8}{h:Nat}:(⟨l.toArray⟩:ByteArray).extract h l.length=⟨(l.drop h).toArray⟩:=by
 apply ByteArray.ext
 rw[ByteArray.data_extract]
 simp
 exact List.take_of_length_le (by rw[List.length_drop];omega)
theorem ny {t:TypeId}{l:List UInt8}{q:IntKind}{i:Int}(h:Nat)[ht:StrT P t](hi:i=(h:Int))(hh:h<=l.length):aQ P W [] (n8 t (ay l) none (some (.int q i)) none) (ay (l.take h)):=fun w _=>by
 have e:(⟨l.toArray⟩:ByteArray).size=l.length:=rfl
 simp[n8,Instr.sliceAt,Instr.slice,Instr.sliceBounds,run_underlying ht.ut,ay,e,mE h hi hh,Ag hh]
theorem jn {t:TypeId}{l:List UInt8}{q:IntKind}{i:Int}(h:Nat)[ht:StrT P t](hi:i=(h:Int))(hh:h<=l.length):aQ P W [] (n8 t (ay l) (some (.int q i)) none none) (ay (l.drop h)):=fun w _=>by
 have e:(⟨l.toArray⟩:ByteArray).size=l.length:=rfl
 simp[n8,Instr.sliceAt,Instr.slice,Instr.sliceBounds,run_underlying ht.ut,ay,e,mE h hi hh,Ah]
theorem ew {t:TypeId}{l:List UInt8}{q:IntKind}{i:Int}(j:Nat)[ht:StrT P t](hi:i=(j:Int))(hh:j<l.length):aQ P W [] (mB t (ay l) (.int q i)) (B l[j]):=fun w _=>by
 subst hi
 have h2:j<(⟨l.toArray⟩:ByteArray).size:=hh
 have e:(⟨l.toArray⟩:ByteArray)[j]=l[j]:=by simp[ByteArray.getElem_eq_getElem_data]
 have:=run_index_string (P:=P) w t ⟨l.toArray⟩ q (j:Int) ht.ut
 rw[dif_pos ⟨by omega,by simpa using h2⟩]at this
 simp[mB,ay,this,B]
 exact congrArg (fun c:UInt8=>(c.toNat:Int)) e
theorem nz {t e:TypeId}{n:Nat}{cs:Array Value}{v:Value}{q:IntKind}{i:Int}(j:Nat)[ht:ArrT P t n e 1][ho:OneT P e](hi:i=(j:Int))(hj:j<n)(hv:cs[j]? =some v):aQ P W [] (mB t (.agg cs) (.int q i)) v:=fun w _=>by
 subst hi
 simp[mB,Instr.index,asIntOf,ht.ut,ht.size,hj,part,ho.agg,hv]
theorem o3 {s t e:TypeId} {l:List UInt8} [hs:StrT P s] (ht:P.underlying t=some (.slice e)) (he:P.underlying e=some (.int .u8))
  (h:∀g c (rest:List Value) fz,aJ W (pt g (.cells (l.map B++rest).toArray e fz)::L) (k (.slice (some ⟨g,0,none⟩) l.length c))):aJ W L (opN P (ei s t (ay l)) Kp k):=fun w hw=>by
 refine⟨?_⟩
 have hr:=run_bytes_of_string (P:=P) w s t e ⟨l.toArray⟩ hs.ut ht he
 have hb:bytesRow ⟨l.toArray⟩ (grownCap w l.length 0 e)=(l.map B++(Array.replicate (grownCap w l.length 0 e-l.length) (Value.int .u8 0)).toList).toArray:=by
  apply Array.ext'
  simp[bytesRow,B,ByteArray.size]
 have:(ei s t (ay l)).run P w= .ok (.value (.slice (some ⟨w.heap.size,0,none⟩) l.length (grownCap w l.length 0 e))) (w.drew.alloc (.cells (bytesRow ⟨l.toArray⟩ (grownCap w l.length 0 e)) e ((bytesRow ⟨l.toArray⟩ (grownCap w l.length 0 e)).size,(bytesRow ⟨l.toArray⟩ (grownCap w l.length 0 e)).size+1))):=by
  simp[ei,ay,hr,ByteArray.size]
 rw[this]
 have h2:=(hw.drew).alloc (.cells (bytesRow ⟨l.toArray⟩ (grownCap w l.length 0 e)) e ((bytesRow ⟨l.toArray⟩ (grownCap w l.length 0 e)).size,(bytesRow ⟨l.toArray⟩ (grownCap w l.length 0 e)).size+1))
 rw[hb]at h2 ⊢
 exact h _ _ _ _ _ h2
theorem vt {g : Nat} {e : TypeId} {fz : Nat × Nat} {cs rest : List Value} : RdB W (pt g (.cells (cs ++ rest).toArray e fz)) (some ⟨g, 0, none⟩) cs.length cs :=
 ⟨rfl, fun _ => ⟨g, 0, rfl, fun w L hw j v hv => by
  rw [Nat.zero_add, hw.cell]
  have hj : j < cs.length := by
   rcases Nat.lt_or_ge j cs.length with c | c
   ·exact c
   ·rw [List.getElem?_eq_none c] at hv; cases hv
  simpa [List.getElem?_append_left hj] using hv⟩⟩
end Go.Proofs.YtdjkdjepjahjfaaGreatDoor.Sl
namespace Go.Proofs.YtdjkdjepjahjfaaGreatDoor.FD
def jM (c:UInt8):Bool:=c==32||c==9
def kN (l:List UInt8):List UInt8:=l.dropWhile jM
def ic (l:List UInt8):List UInt8:=(l.reverse.dropWhile jM).reverse
def cK (l:List UInt8):List UInt8:=kN (ic l)
theorem DC {l:List UInt8}{n:Nat}(h:l.length=n+1)(hb:jM (l[n]'(by omega))=true):ic l=ic (l.take n):=by
 have e:l=l.take n++[l[n]'(by omega)]:=by
  rw[List.take_append_getElem (by omega:n<l.length)]
  exact(List.take_of_length_le (by omega)).symm
 unfold ic
 conv=>lhs;rw[e]
 rw[List.reverse_append]
 simp[List.dropWhile_cons,hb]
theorem DD {l:List UInt8}{n:Nat}(h:l.length=n+1)(hb:jM (l[n]'(by omega))=false):ic l=l:=by
 have e:l=l.take n++[l[n]'(by omega)]:=by
  rw[List.take_append_getElem (by omega:n<l.length)]
  exact(List.take_of_length_le (by omega)).symm
 unfold ic
 conv=>lhs;rw[e]
 rw[List.reverse_append]
 simp[List.dropWhile_cons,hb]
 exact List.take_of_length_le (by omega)
theorem DE {l:List UInt8}(h:0<l.length)(hb:jM l[0]=true):kN l=kN (l.drop 1):=by
 cases l with
 |nil=>simp at h
 |cons c r=>simp[kN,List.dropWhile_cons,show jM c=true from hb]
theorem DF {l:List UInt8}(h:0<l.length)(hb:jM l[0]=false):kN l=l:=by
 cases l with
 |nil=>simp at h
 |cons c r=>simp[kN,List.dropWhile_cons,show jM c=false from hb]
def sub (l:List UInt8)(a b:Nat):List UInt8:=(l.drop a).take (b-a)
theorem jN {l:List UInt8}{a b:Nat}(h1:a<=b)(h2:b<l.length):sub l a b++[l[b]]=sub l a (b+1):=by
 unfold sub
 have h3:b-a<(l.drop a).length:=by rw[List.length_drop];omega
 have:=List.take_append_getElem h3
 rw[List.getElem_drop]at this
 have e:a+(b-a)=b:=by omega
 simp only[e]at this
 rw[show b+1-a=b-a+1 by omega,this]
theorem sub_self {l:List UInt8}{a:Nat}:sub l a a=[]:=by simp[sub]
theorem r5 {l:List UInt8}{a b:Nat}(h:l.length<=b):sub l a b=l.drop a:=by
 unfold sub
 exact List.take_of_length_le (by rw[List.length_drop];omega)
def uW (q e:Bool):Bool->List UInt8->List UInt8->List (List UInt8)
 |_,cur,[]=>[cur]
 |inn,cur,c::r=>
  if c=92/\inn=true/\e=true then match r with
   |[]=>[cur++[c]]
   |d::r'=>uW q e inn (cur++[c,d]) r'
  else if c=34/\q=true then uW q e (!inn) (cur++[c]) r
  else if c=44/\inn=false then cur::uW q e false [] r
  else uW q e inn (cur++[c]) r
theorem iL {q e inn:Bool}{cur:List UInt8}{c:UInt8}{r:List UInt8}:uW q e inn cur (c::r)=if c=92/\inn=true/\e=true then(match r with
   |[]=>[cur++[c]]
   |d::r'=>uW q e inn (cur++[c,d]) r')
  else if c=34/\q=true then uW q e (!inn) (cur++[c]) r
  else if c=44/\inn=false then cur::uW q e false [] r
  else uW q e inn (cur++[c]) r:=by
 cases r <;> rfl
def r6 (l:List UInt8)(q e inn:Bool)(a i:Nat):List (List UInt8):=uW q e inn (sub l a i) (l.drop i)
variable {l:List UInt8} {q e inn:Bool} {a i:Nat}
theorem wM (h:l.length<=i):r6 l q e inn a i=[l.drop a]:=by
 unfold r6
 rw[List.drop_of_length_le h,r5 h,uW]
theorem dr (h:i<l.length):l.drop i=l[i]::l.drop (i+1):=List.drop_eq_getElem_cons h
theorem wN (h:i<l.length)(ha:a<=i)(hc:l[i]=92)(h1:inn=true)(h2:e=true):r6 l q e inn a i=r6 l q e inn a (i+2):=by
 unfold r6
 rw[dr h,iL,if_pos ⟨hc,h1,h2⟩]
 by_cases h3:i+1<l.length
 ·rw[dr h3]
  simp only
  have e1:sub l a i++[l[i],l[i+1]]=sub l a (i+2):=by
   rw[<- jN (by omega) h3,<- jN ha h];simp
  rw[e1]
 ·rw[List.drop_of_length_le (show l.length<=i+1 by omega),List.drop_of_length_le (show l.length<=i+2 by omega)]
  simp only[uW]
  rw[jN ha h,r5 (show l.length<=i+1 by omega),r5 (show l.length<=i+2 by omega)]
theorem FV (h:i<l.length)(ha:a<=i)(hn:¬(l[i]=92/\inn=true/\e=true))(hc:l[i]=34)(h1:q=true):r6 l q e inn a i=r6 l q e (!inn) a (i+1):=by
 unfold r6
 rw[dr h,iL,if_neg hn,if_pos ⟨hc,h1⟩,jN ha h]
theorem FX (h:i<l.length)(ha:a<=i)(hc:l[i]=44)(h1:inn=false):r6 l q e inn a i=sub l a i::r6 l q e false (i+1) (i+1):=by
 unfold r6
 rw[dr h,iL,if_neg (by rw[h1];simp),if_neg (by rw[hc];rintro⟨hx,_⟩;exact absurd hx (by decide)),if_pos ⟨hc,h1⟩,sub_self]
theorem FY (h:i<l.length)(ha:a<=i)(hn:¬(l[i]=92/\inn=true/\e=true))(h2:¬(l[i]=34/\q=true))(h3:¬(l[i]=44/\inn=false)):r6 l q e inn a i=r6 l q e inn a (i+1):=by
 unfold r6
 rw[dr h,iL,if_neg hn,if_neg h2,if_neg h3,jN ha h]
def nb (x:List UInt8):Bool:=!x.isEmpty
def nO (x:List (List UInt8)):List (List UInt8):=(x.map cK).filter nb
def br (q e:Bool)(l:List UInt8):List (List UInt8):=nO (r6 l q e false 0 0)
theorem ko {x:List UInt8}{r:List (List UInt8)}:nO (x::r)=if cK x=[]then nO r else cK x::nO r:=by
 unfold nO
 by_cases h:cK x=[]
 ·simp[h,nb]
 ·have:nb (cK x)=true:=by cases hx:cK x with
   |nil=>exact absurd hx h
   |cons _ _=>rfl
  simp[h,this]
theorem tC:nO []=[]:=rfl
theorem o4 (l:List UInt8):(cK l).length<=l.length:=by
 have h1:=(List.dropWhile_sublist (p:=jM) (l:=ic l)).length_le
 have h2:=(List.dropWhile_sublist (p:=jM) (l:=l.reverse)).length_le
 unfold cK kN
 have h3:(ic l).length=(l.reverse.dropWhile jM).length:=by unfold ic;simp
 rw[List.length_reverse]at h2
 omega
theorem Ai (x:List (List UInt8)):(nO x).length<=x.length:=by
 unfold nO
 have:=(List.filter_sublist (p:=nb) (l:=x.map cK)).length_le
 simpa using this
theorem Aj {x:List (List UInt8)}{w:List UInt8}(h:w∈nO x):w≠[]/\∃v∈x,w=cK v:=by
 unfold nO at h
 rw[List.mem_filter,List.mem_map]at h
 obtain⟨⟨v,hv,rfl⟩,h2⟩:=h
 exact⟨fun hx=>(by rw[hx]at h2;cases h2),v,hv,rfl⟩
def ey {α:Type}(one:List UInt8->α × Bool)(ws:List (List UInt8)):Option (List α):=if ws.all (fun w=>(one w).2)then some (ws.map fun w=>(one w).1)else none
def cu (c:UInt8):List UInt8->List UInt8
 |[]=>[]
 |x::r=>if x=c then []else x::cu c r
def bS (c:UInt8):List UInt8->List UInt8
 |[]=>[]
 |x::r=>if x=c then r else bS c r
def fZ (c:UInt8):List UInt8->Bool
 |[]=>false
 |x::r=>if x=c then true else fZ c r
def gQ (c:UInt8):UInt8:=if 65<=c/\c<=90 then c+32 else c
def r7 (c:UInt8):Bool:=decide (97<=c/\c<=122\/65<=c/\c<=90\/48<=c/\c<=57)
def vu:List UInt8:=[33,35,36,37,38,39,42,43,45,46,94,95,96,124,126]
def tD (c:UInt8):Bool:=r7 c||vu.contains c
def kF (l:List UInt8):Bool:=nb l&&l.all tD
def fK (l:List UInt8):List UInt8:=l.map gQ
def kG (c:UInt8):Bool:=decide (48<=c/\c<=57)
def eD (l:List UInt8):Nat:=l.foldl (fun n c=>n * 10+(c.toNat-48)) 0
def dh (l:List UInt8):Int × Int:=if nb l&&l.all kG then(if eD l<=1000000000000000000 then((eD l:Int),0)else(0,11))else(0,21)
def tE (c:UInt8):Bool:=decide (c<32/\c≠9\/c=127)
def jO:List UInt8->List UInt8->List UInt8 × Bool
 |_,[]=>([],false)
 |acc,c::r=>
  if c=34 then(acc,r.isEmpty)
  else if c=92 then match r with
   |[]=>([],false)
   |d::r'=>if tE d then([],false)else jO (acc++[d]) r'
  else if tE c then([],false)else jO (acc++[c]) r
theorem qI {acc:List UInt8}{c:UInt8}{r:List UInt8}:jO acc (c::r)=if c=34 then(acc,r.isEmpty)
  else if c=92 then(match r with
   |[]=>([],false)
   |d::r'=>if tE d then([],false)else jO (acc++[d]) r')
  else if tE c then([],false)else jO (acc++[c]) r:=by
 cases r <;> rfl
def mF:List UInt8->List UInt8 × Bool
 |[]=>([],false)
 |c::r=>if c=34 then jO [] r else([],false)
structure Dir where
 name:List UInt8
 value:List UInt8
 has:Bool
def mG (s:List UInt8):Dir × Bool:=
 if fZ 61 s&&!kF (bS 61 s)then(⟨fK (cu 61 s),(mF (bS 61 s)).1,true⟩,kF (cu 61 s)&&(mF (bS 61 s)).2)
 else(⟨fK (cu 61 s),bS 61 s,fZ 61 s⟩,kF (cu 61 s))
def o5 (s:List UInt8):List UInt8 × Bool:=(fK s,kF s)
def DG (s:List UInt8):Option (List (List UInt8)):=ey o5 (br false false s)
def kO (s:List UInt8):Option (List Dir):=ey mG (br true true s)
def mu {α:Type}(o:Option (List α)):List α × Int:=match o with
 |none=>([],42)
 |some l=>(l,0)
end Go.Proofs.YtdjkdjepjahjfaaGreatDoor.FD
namespace Go.Proofs.YtdjkdjepjahjfaaGreatDoor.FD
theorem ND {c:UInt8}(h:kG c=true):48<=c.toNat/\c.toNat<=57:=by
 unfold kG at h
 have:=of_decide_eq_true h
 exact⟨UInt8.le_iff_toNat_le.1 this.1,UInt8.le_iff_toNat_le.1 this.2⟩
theorem gR {c:UInt8}:∀s:List UInt8,(cu c s).length<=s.length
 |[]=>by simp[cu]
 |x::r=>by
  have:=gR (c:=c) r
  unfold cu
  split <;> simp <;> omega
theorem Ak {p:UInt8->Prop}(h:∀n:Fin 256,p ⟨⟨n⟩⟩)(c:UInt8):p c:=h c.toBitVec.toFin
theorem qJ {c:UInt8}:∀ {s:List UInt8},fZ c s=false->bS c s=[]
 |[],_=>rfl
 |x::r,h=>by
  unfold fZ at h
  unfold bS
  split at h
  ·cases h
  ·rename_i hx
   rw[if_neg hx];exact qJ h
theorem DH {s:List UInt8}(h:(mG s).1.has=false):(mG s).1.value=[]:=by
 unfold mG at h ⊢
 split at h
 ·cases h
 ·rename_i hn
  rw[if_neg hn]
  exact qJ h
end Go.Proofs.YtdjkdjepjahjfaaGreatDoor.FD
namespace Go.Proofs.YtdjkdjepjahjfaaGreatDoor.Sl
open Go Go.RowKit Sh
variable {P:Program} {W:World} {L L':List HP} {Kp:PK} {k:Value->WP}
structure KeyLaw (P:Program)(t:TypeId){κ:Type}[DecidableEq κ](enc:κ->Value):Prop where
 check:∀(b:Bool) (k:κ) (w:World),(Instr.checkKey b 10000 t (enc k)).run P w= .ok () w
 eq:∀(k k':κ) (w:World),(Op.equal t (enc k) (enc k')).run P w= .ok (decide (k=k')) w
 now:∃d,P.underlying t=some d/\∀k k',Instr.sameNow d (enc k) (enc k')=none\/Instr.sameNow d (enc k) (enc k')=some (decide (k=k'))
 same:∀k,Instr.sameBits 10000 (enc k) (enc k)=true
variable {κ:Type} [DecidableEq κ] {enc:κ->Value} {t kt:TypeId}
def gW (k:κ):List (κ × Value)->Nat->Option (Nat × Value)
 |[],_=>none
 |p::m,i=>if k=p.1 then some (i,p.2)else gW k m (i+1)
def i_ (k:κ)(m:List (κ × Value)):Option Value:=(gW k m 0).map (·.2)
def kv (e:MapEntry):Value × Value:=(e.key,e.val)
def Al (enc:κ->Value)(p:κ × Value):Value × Value:=(enc p.1,p.2)
theorem jP (K:KeyLaw P kt enc)(k:κ)(w:World):∀(es:List MapEntry) (m:List (κ × Value)) (i:Nat),es.map kv=m.map (Al enc)->(Instr.findAsking kt (enc k) es i).run P w= .ok (gW k m i) w
 |[],[],i,_=>rfl
 |[],p::m,i,h=>by simp at h
 |e::es,[],i,h=>by simp at h
 |e::es,p::m,i,h=>by
  simp only[List.map_cons,List.cons.injEq,kv,Al,Prod.mk.injEq]at h
  obtain⟨⟨h1,h2⟩,h3⟩:=h
  have ih:=jP K k w es m (i+1) h3
  unfold Instr.findAsking gW
  rw[h1]
  simp only[Sem.run_bind,K.eq,Result.andThen_ok]
  by_cases c:k=p.1
  ·simp[c,h2]
  ·simp[c,ih]
theorem nA (d:TypeDesc)(hd:∀k k',Instr.sameNow d (enc k) (enc k')=none\/Instr.sameNow d (enc k) (enc k')=some (decide (k=k')))(k:κ):∀(es:List MapEntry) (m:List (κ × Value)) (i:Nat),es.map kv=m.map (Al enc)->Instr.findNow d (enc k) es i=none\/Instr.findNow d (enc k) es i=some (gW k m i)
 |[],[],i,_=> .inr rfl
 |[],p::m,i,h=>by simp at h
 |e::es,[],i,h=>by simp at h
 |e::es,p::m,i,h=>by
  simp only[List.map_cons,List.cons.injEq,kv,Al,Prod.mk.injEq]at h
  obtain⟨⟨h1,h2⟩,h3⟩:=h
  have ih:=nA d hd k es m (i+1) h3
  unfold Instr.findNow gW
  rw[h1]
  rcases hd k p.1 with c|c
  ·rw[c];exact .inl rfl
  ·rw[c]
   by_cases e1:k=p.1
   ·simp[e1,h2]
   ·simp[e1,ih]
theorem ie (K:KeyLaw P kt enc)(k:κ)(w:World){es:List MapEntry}{m:List (κ × Value)}(h:es.map kv=m.map (Al enc)):(Instr.findKey kt (enc k) es).run P w= .ok (gW k m 0) w:=by
 obtain⟨d,hd,hs⟩:=K.now
 unfold Instr.findKey
 simp only[Sem.run_bind,run_underlying hd,Result.andThen_ok]
 rcases nA d hs k es m 0 h with c|c
 ·rw[c];exact jP K k w es m 0 h
 ·rw[c];rfl
structure Ents (enc:κ->Value)(es:Array MapEntry)(c:Nat)(m:List (κ × Value)):Prop where
 kvs:es.toList.map kv=m.map (Al enc)
 born:∀e∈es.toList,e.born<c
 nodup:(es.toList.map (·.born)).Nodup
def jo (g:Nat)(enc:κ->Value)(m:List (κ × Value)):HP:=fun _ h=>∃es c,h g=some (.map es c)/\Ents enc es c m
theorem oq {g:Nat}{m:List (κ × Value)}{w:World}(H:sat W (jo g enc m::L) w):∃es c,Ents enc es c m/\sat W (pt g (.map es c)::L) w:=by
 obtain⟨f,⟨h1,h2,⟨es,c,ha,he⟩,r⟩,b⟩:=H.heap
 exact⟨es,c,he,H.base,f,⟨h1,h2,ha,r⟩,b⟩
theorem jQ {g:Nat}{m:List (κ × Value)}{w:World}{es:Array MapEntry}{c:Nat}(he:Ents enc es c m)(H:sat W (pt g (.map es c)::L) w):sat W (jo g enc m::L) w:=by
 obtain⟨f,⟨h1,h2,ha,r⟩,b⟩:=H.heap
 exact⟨H.base,f,⟨h1,h2,⟨es,c,ha,he⟩,r⟩,b⟩
class MapT (P:Program)(t:TypeId)(kt e:outParam TypeId):Prop where
 ut:P.underlying t=some (.map kt e)
theorem Am {e:TypeId}{z:Value}{g:Nat}{m:List (κ × Value)}{q:κ}[ht:MapT P t kt e][hz:ZeroT P e z](K:KeyLaw P kt enc):aQ P W [jo g enc m] (iE t (.map (some g)) (enc q) true) (.tuple #[(i_ q m).getD z,.bool (i_ q m).isSome]):=fun w hw=>by
 obtain⟨es,c,he,hp⟩:=oq hw
 have hg:=hp.pt_.1
 have hf:=ie K q w he.kvs
 unfold i_
 cases hq:gW q m 0 with
 |none=>simp[iE,Instr.lookup,run_underlying ht.ut,MapKept.run_getObj_map hg,K.check,hf,hq,hz.run,Result.andThen]
 |some p=>simp[iE,Instr.lookup,run_underlying ht.ut,MapKept.run_getObj_map hg,K.check,hf,hq,Result.andThen]
theorem vv {e:TypeId}{z:Value}{g:Nat}{m:List (κ × Value)}{q:κ}[ht:MapT P t kt e][hz:ZeroT P e z](K:KeyLaw P kt enc):aQ P W [jo g enc m] (iE t (.map (some g)) (enc q) false) ((i_ q m).getD z):=fun w hw=>by
 obtain⟨es,c,he,hp⟩:=oq hw
 have hg:=hp.pt_.1
 have hf:=ie K q w he.kvs
 unfold i_
 cases hq:gW q m 0 with
 |none=>simp[iE,Instr.lookup,run_underlying ht.ut,MapKept.run_getObj_map hg,K.check,hf,hq,hz.run,Result.andThen]
 |some p=>simp[iE,Instr.lookup,run_underlying ht.ut,MapKept.run_getObj_map hg,K.check,hf,hq,Result.andThen]
theorem DI {e:TypeId}(enc:κ->Value)[ht:MapT P t kt e](h:∀g,aJ W (jo g enc []::L) (k (.map (some g)))):aJ W L (opN P (oR t none) Kp k):=fun w hw=>by
 refine⟨?_⟩
 have:(oR t none).run P w= .ok (.value (.map (some w.heap.size))) (w.alloc (.map #[] 0)):=by
  simp[oR,Instr.makeMap]
 rw[this]
 exact h _ _ (jQ ⟨rfl,fun e he=>by simp at he,by simp⟩ (hw.alloc _))
def k9 (q:κ)(v:Value):List (κ × Value)->List (κ × Value)
 |[]=>[(q,v)]
 |p::m=>if q=p.1 then(p.1,v)::m else p::k9 q v m
theorem qK (q:κ)(v:Value):∀(m:List (κ × Value)) (i:Nat),gW q m i=none->k9 q v m=m++[(q,v)]
 |[],i,_=>rfl
 |p::m,i,h=>by
  unfold gW at h
  by_cases c:q=p.1
  ·simp[c]at h
  ·rw[if_neg c]at h
   simp[k9,c,qK q v m (i+1) h]
theorem qL (q:κ)(v:Value):∀(m:List (κ × Value)) (i j:Nat) (u:Value),gW q m i=some (j,u)->i<=j/\j-i<m.length/\k9 q v m=m.set (j-i) (q,v)/\m[j-i]? =some (q,u)
 |[],i,j,u,h=>by simp[gW]at h
 |p::m,i,j,u,h=>by
  unfold gW at h
  by_cases c:q=p.1
  ·rw[if_pos c]at h
   simp at h
   obtain⟨rfl,rfl⟩:=h
   simp[k9,c]
  ·rw[if_neg c]at h
   obtain⟨h1,h2,h3,h4⟩:=qL q v m (i+1) j u h
   refine⟨by omega,by rw[List.length_cons];omega,?_,?_⟩
   ·rw[k9,if_neg c,h3,show j-i=(j-(i+1))+1 by omega];rfl
   ·rw[show j-i=(j-(i+1))+1 by omega];simpa using h4
theorem yk (q q':κ)(v:Value):∀(m:List (κ × Value)),i_ q' (k9 q v m)=if q'=q then some v else i_ q' m:=by
 have key:∀(m:List (κ × Value)) (i j:Nat),(gW q' (k9 q v m) i).map (·.2)=if q'=q then some v else(gW q' m j).map (·.2):=by
  intro m
  induction m with
  |nil=>intro i j;by_cases c:q'=q <;> simp[k9,gW,c]
  |cons p m ih=>
   intro i j
   unfold k9
   by_cases c:q=p.1
   ·rw[if_pos c]
    unfold gW
    by_cases d:q'=p.1
    ·simp[d,c]
    ·have hd:q'≠q:=by rw[c];exact d
     simp only[if_neg d,if_neg hd]
     have gen:∀(m:List (κ × Value)) (i j:Nat),(gW q' m i).map (·.2)=(gW q' m j).map (·.2):=by
      intro m
      induction m with
      |nil=>intro i j;rfl
      |cons p m ih=>intro i j;unfold gW;split <;> simp[ih (i+1) (j+1)]
     exact gen m _ _
   ·rw[if_neg c]
    unfold gW
    by_cases d:q'=p.1
    ·have hd:q'≠q:=by rw[d];exact fun e=>c e.symm
     simp[if_pos d,if_neg hd]
    ·simp only[if_neg d];exact ih _ _
 exact fun m=>key m 0 0
theorem sat.putObj {w:World}{g:Nat}{o:Obj}(o':Obj)(H:sat W (pt g o::L) w):sat W (pt g o'::L) {w with heap:=w.heap.setIfInBounds g o'}:=by
 have hg:=H.pt_.1
 have hlt:=(Array.getElem?_eq_some_iff.1 hg).1
 exact H.turn rfl rfl rfl (by simp) (by simp[hlt]) (fun i hi=>by simp[Array.getElem?_setIfInBounds_ne (Ne.symm hi)])
theorem wO {es:Array MapEntry}{m:List (κ × Value)}(h:es.toList.map kv=m.map (Al enc)){i:Nat}{p:κ × Value}(hp:m[i]? =some p):∃e,es[i]? =some e/\e.key=enc p.1/\e.val=p.2:=by
 have h1:(es.toList.map kv)[i]? =some (Al enc p):=by rw[h,List.getElem?_map,hp];rfl
 rw[List.getElem?_map,Array.getElem?_toList]at h1
 cases he:es[i]? with
 |none=>rw[he]at h1;cases h1
 |some e=>
  rw[he]at h1
  simp[kv,Al]at h1
  exact⟨e,rfl,h1.1,h1.2⟩
theorem Ents.put {es:Array MapEntry}{c i:Nat}{m:List (κ × Value)}{q:κ}{u v:Value}(h:Ents enc es c m)(hi:m[i]? =some (q,u)):Ents enc (es.modify i fun e=>{e with key:=enc q,val:=v}) c (m.set i (q,v)):=by
 obtain⟨e,he,h1,h2⟩:=wO h.kvs hi
 have hlt:=(Array.getElem?_eq_some_iff.1 he).1
 refine⟨?_,?_,?_⟩
 ·apply List.ext_getElem?
  intro j
  rw[List.getElem?_map,Array.getElem?_toList,Array.getElem?_modify,List.getElem?_map,List.getElem?_set]
  have hj:(es[j]?).map kv=(m[j]?).map (Al enc):=by
   have:=congrArg (fun l=>l[j]?) h.kvs
   simpa using this
  by_cases c:i=j
  ·subst c
   have hml:=(List.getElem?_eq_some_iff.1 hi).1
   rw[if_pos rfl,if_pos rfl,if_pos hml,he];rfl
  ·rw[if_neg c,if_neg c];exact hj
 ·intro e' he'
  obtain⟨j,hj⟩:=List.mem_iff_getElem?.1 he'
  rw[Array.getElem?_toList,Array.getElem?_modify]at hj
  split at hj
  ·cases hx:es[j]? with
   |none=>rw[hx]at hj;cases hj
   |some x=>
    rw[hx]at hj
    have:=Option.some.inj hj
    rw[<- this]
    exact h.born x (List.mem_iff_getElem?.2 ⟨j,by rw[Array.getElem?_toList];exact hx⟩)
  ·exact h.born e' (List.mem_iff_getElem?.2 ⟨j,by rw[Array.getElem?_toList];exact hj⟩)
 ·have e0:(es.modify i fun e=>{e with key:=enc q,val:=v}).toList.map (·.born)=es.toList.map (·.born):=by
   apply List.ext_getElem?
   intro j
   rw[List.getElem?_map,Array.getElem?_toList,Array.getElem?_modify,List.getElem?_map,Array.getElem?_toList]
   split
   ·cases es[j]? <;> rfl
   ·rfl
  rw[e0];exact h.nodup
theorem Ents.push {es:Array MapEntry}{c:Nat}{m:List (κ × Value)}{q:κ}{v:Value}(h:Ents enc es c m):Ents enc (es.push {key:=enc q,val:=v,born:=c}) (c+1) (m++[(q,v)]):=by
 refine⟨by simp[h.kvs,kv,Al],fun e he=>?_,?_⟩
 ·simp at he
  rcases he with he|rfl
  ·have:=h.born e (by simpa using he);omega
  ·simp
 ·simp only[Array.toList_push,List.map_append,List.map_cons,List.map_nil]
  refine List.nodup_append.2 ⟨h.nodup,by simp,?_⟩
  intro a ha b hb
  obtain⟨e,he,rfl⟩:=List.mem_map.1 ha
  simp at hb;subst hb
  have:=h.born e he;omega
theorem Ao {e:TypeId}{g:Nat}{m:List (κ × Value)}{q:κ}{v:Value}[ht:MapT P t kt e](K:KeyLaw P kt enc)(p:Pick L (jo g enc m) L')(h:aJ W (jo g enc (k9 q v m)::L') (k undef)):aJ W L (opN P (gA t (.map (some g)) (enc q) v) Kp k):=fun w hw=>by
 obtain⟨es,c,he,hp⟩:=oq (hw.pick p)
 have hg:=hp.pt_.1
 have hf:=ie K q w he.kvs
 refine⟨?_⟩
 cases hq:gW q m 0 with
 |none=>
  have:(gA t (.map (some g)) (enc q) v).run P w= .ok .skip {w with heap:=w.heap.setIfInBounds g (.map (es.push {key:=enc q,val:=v,born:=c}) (c+1))}:=by
   simp[gA,Instr.mapUpdate,run_underlying ht.ut,MapKept.run_getObj_map hg,K.check,hf,hq,Result.andThen,MapKept.run_setObj_map _ hg]
  rw[this]
  refine h _ (jQ ?_ (hp.putObj _))
  rw[qK q v m 0 hq];exact he.push
 |some r=>
  obtain⟨i,u⟩:=r
  obtain⟨_,h2,h3,h4⟩:=qL q v m 0 i u hq
  rw[Nat.sub_zero]at h2 h3 h4
  obtain⟨en,hen,e1,e2⟩:=wO he.kvs h4
  have hk:(Instr.keyThatStays (((es[i]?).map (·.key)).getD (enc q)) (enc q)).run P w= .ok (enc q) w:=by
   rw[hen]
   simp only[Option.map_some,Option.getD_some,e1]
   unfold Instr.keyThatStays
   rw[if_pos (K.same q)];rfl
  have:(gA t (.map (some g)) (enc q) v).run P w= .ok .skip {w with heap:=w.heap.setIfInBounds g (.map (es.modify i fun e=>{e with key:=enc q,val:=v}) c)}:=by
   simp[gA,Instr.mapUpdate,run_underlying ht.ut,MapKept.run_getObj_map hg,K.check,hf,hq,Result.andThen,hk,MapKept.run_setObj_map _ hg]
  rw[this]
  refine h _ (jQ ?_ (hp.putObj _))
  rw[h3];exact he.put h4
end Go.Proofs.YtdjkdjepjahjfaaGreatDoor.Sl
namespace Go.Proofs.YtdjkdjepjahjfaaGreatDoor.T
open Go Go.Proofs Sh Sl
theorem fld {P : Program} {t : TypeId} {fs : Array Field} {f ft o n : Nat} (hu : ∀ w, (underlying t).run P w = .ok (.struct fs) w) (hf : (fs[f]?).map (fun x => (x.type, x.offset)) = some (ft, o)) (hs : ∀ w, (sizeOf ft).run P w = .ok (n + 1) w) : FldT P t f o :=
 ⟨fun g b w => by
  cases h : fs[f]? with
  | none => rw [h] at hf; cases hf
  | some fl =>
   rw [h] at hf
   simp only [Option.map_some, Option.some.injEq, Prod.mk.injEq] at hf
   obtain ⟨rfl, rfl⟩ := hf
   simp only [Instr.fieldAt, Sem.run_bind, hu, Result.andThen_ok, h, Instr.sureAddr, fieldPlace, hs, Sem.run_pure]
   by_cases h0 : fl.offset = 0 <;> simp [Addr.add, h0]⟩
theorem p9 {P:Program}{t e:TypeId}{i:TypeInfo}{z:Value}{s b:Nat}(hu:P.underlying t=some (.slice e))(hi:P.info? e=some i)(hz:i.zero=some z)(hs:i.size=s)(hb:i.bytes=b)(hzs:z.cells.size=s):SlT P t e s b:=⟨hu,i,z,hi,hz,hs,hb,hzs⟩
instance U_:IntT p_ 2 .i64:=⟨Tryz.runUnderlying2⟩
instance Va:OneT p_ 3:=⟨Tryz.isAgg3,Tryz.sizeOf3⟩
instance Tl:ZeroT p_ 3 (.int .i64 0):=⟨Tryz.zeroValue3⟩
instance Vb:IntT p_ 3 .i64:=⟨Tryz.runUnderlying3⟩
instance Vc:OneT p_ 4:=⟨Tryz.isAgg4,Tryz.sizeOf4⟩
instance Tm:ZeroT p_ 4 (.bool false):=⟨Tryz.zeroValue4⟩
instance Vd:OneT p_ 5:=⟨Tryz.isAgg5,Tryz.sizeOf5⟩
instance Ve:IntT p_ 5 .u8:=⟨Tryz.runUnderlying5⟩
instance Vf:OneT p_ 9:=⟨Tryz.isAgg9,Tryz.sizeOf9⟩
instance Tn:ZeroT p_ 9 (.string ⟨#[]⟩):=⟨Tryz.zeroValue9⟩
instance Vg:StrT p_ 9:=⟨Tryz.underlying9⟩
instance To:IntT p_ 21 .i32:=⟨Tryz.runUnderlying21⟩
instance Tp:OneT p_ 22:=⟨Tryz.isAgg22,Tryz.sizeOf22⟩
instance Vh:SlT p_ 22 3 1 8:=p9 (z:=(.int .i64 0)) Tryz.underlying22 (i:=Tryz.t3) (by kernel_rfl) (by kernel_rfl) (by kernel_rfl) (by kernel_rfl) (by kernel_rfl)
instance Tq:OneT p_ 23:=⟨Tryz.isAgg23,Tryz.sizeOf23⟩
instance Tr:PtrT p_ 23:=⟨by kernel_rfl⟩
instance Ts:OneT p_ 24:=⟨Tryz.isAgg24,Tryz.sizeOf24⟩
instance Tt:PtrT p_ 24:=⟨by kernel_rfl⟩
instance Tu:OneT p_ 28:=⟨Tryz.isAgg28,Tryz.sizeOf28⟩
instance Tv:OneT p_ 29:=⟨Tryz.isAgg29,Tryz.sizeOf29⟩
instance Q4:ZeroT p_ 29 (.int .i64 0):=⟨Tryz.zeroValue29⟩
instance Tw:IntT p_ 29 .i64:=⟨Tryz.runUnderlying29⟩
instance Tx:OneT p_ 33:=⟨Tryz.isAgg33,Tryz.sizeOf33⟩
instance Q5:ZeroT p_ 33 (.slice none 0 0):=⟨Tryz.zeroValue33⟩
instance Vi:SlT p_ 33 9 1 16:=p9 (z:=(.string ⟨#[]⟩)) Tryz.underlying33 (i:=Tryz.t9) (by kernel_rfl) (by kernel_rfl) (by kernel_rfl) (by kernel_rfl) (by kernel_rfl)
instance Ty:OneT p_ 35:=⟨Tryz.isAgg35,Tryz.sizeOf35⟩
instance Q6:ZeroT p_ 35 (.slice none 0 0):=⟨Tryz.zeroValue35⟩
instance NE:BytesT p_ 35:=⟨_,Tryz.underlying35,Tryz.underlying5⟩
instance Vj:SlT p_ 35 5 1 1:=p9 (z:=(.int .u8 0)) Tryz.underlying35 (i:=Tryz.t5) (by kernel_rfl) (by kernel_rfl) (by kernel_rfl) (by kernel_rfl) (by kernel_rfl)
instance Tz:OneT p_ 39:=⟨Tryz.isAgg39,Tryz.sizeOf39⟩
instance Vk:SlT p_ 39 42 4 48:=p9 (z:=(.agg #[(.int .i64 0),(.int .i64 0),(.bool false),(.slice none 0 0)])) Tryz.underlying39 (i:=Tryz.t42) (by kernel_rfl) (by kernel_rfl) (by kernel_rfl) (by kernel_rfl) (by kernel_rfl)
instance NF:FldT p_ 42 0 0:=fld Tryz.runUnderlying42 (ft:=3) (by kernel_rfl) Tryz.sizeOf3
instance TA:OneT p_ 46:=⟨Tryz.isAgg46,Tryz.sizeOf46⟩
instance Vl:SlT p_ 46 192 2 32:=p9 (z:=(.agg #[(.string ⟨#[]⟩),(.string ⟨#[]⟩)])) Tryz.underlying46 (i:=Tryz.t192) (by kernel_rfl) (by kernel_rfl) (by kernel_rfl) (by kernel_rfl) (by kernel_rfl)
instance Q7:ZeroT p_ 48 (.agg #[(.int .i64 0),(.slice none 0 0),(.slice none 0 0)]):=⟨Tryz.zeroValue48⟩
instance TB:AggT p_ 48 3:=⟨Tryz.isAgg48,Tryz.sizeOf48⟩
instance NG:FldT p_ 48 0 0:=fld Tryz.runUnderlying48 (ft:=3) (by kernel_rfl) Tryz.sizeOf3
instance NH:FldT p_ 48 1 1:=fld Tryz.runUnderlying48 (ft:=46) (by kernel_rfl) Tryz.sizeOf46
instance NI:FldT p_ 48 2 2:=fld Tryz.runUnderlying48 (ft:=35) (by kernel_rfl) Tryz.sizeOf35
instance Vm:SlT p_ 58 155 4 56:=p9 (z:=(.agg #[(.int .i64 0),(.int .i64 0),(.string ⟨#[]⟩),(.slice none 0 0)])) Tryz.underlying58 (i:=Tryz.t155) (by kernel_rfl) (by kernel_rfl) (by kernel_rfl) (by kernel_rfl) (by kernel_rfl)
instance TD:PtrT p_ 59:=⟨by kernel_rfl⟩
instance TE:OneT p_ 64:=⟨Tryz.isAgg64,Tryz.sizeOf64⟩
instance TG:OneT p_ 65:=⟨Tryz.isAgg65,Tryz.sizeOf65⟩
instance Vn:SlT p_ 65 64 1 8:=p9 (z:=(.pointer none)) Tryz.underlying65 (i:=Tryz.t64) (by kernel_rfl) (by kernel_rfl) (by kernel_rfl) (by kernel_rfl) (by kernel_rfl)
instance TH:OneT p_ 66:=⟨Tryz.isAgg66,Tryz.sizeOf66⟩
instance Vo:SlT p_ 66 72 1 8:=p9 (z:=(.pointer none)) Tryz.underlying66 (i:=Tryz.t72) (by kernel_rfl) (by kernel_rfl) (by kernel_rfl) (by kernel_rfl) (by kernel_rfl)
instance TI:OneT p_ 67:=⟨Tryz.isAgg67,Tryz.sizeOf67⟩
instance Vp:SlT p_ 67 115 1 8:=p9 (z:=(.pointer none)) Tryz.underlying67 (i:=Tryz.t115) (by kernel_rfl) (by kernel_rfl) (by kernel_rfl) (by kernel_rfl) (by kernel_rfl)
instance TJ:OneT p_ 68:=⟨Tryz.isAgg68,Tryz.sizeOf68⟩
instance TK:PtrT p_ 68:=⟨by kernel_rfl⟩
instance TL:OneT p_ 69:=⟨Tryz.isAgg69,Tryz.sizeOf69⟩
instance TM:PtrT p_ 69:=⟨by kernel_rfl⟩
instance NJ:FldT p_ 71 0 0:=fld Tryz.runUnderlying71 (ft:=24) (by kernel_rfl) Tryz.sizeOf24
instance NK:FldT p_ 71 1 1:=fld Tryz.runUnderlying71 (ft:=64) (by kernel_rfl) Tryz.sizeOf64
instance NL:FldT p_ 71 2 2:=fld Tryz.runUnderlying71 (ft:=65) (by kernel_rfl) Tryz.sizeOf65
instance NM:FldT p_ 71 3 3:=fld Tryz.runUnderlying71 (ft:=66) (by kernel_rfl) Tryz.sizeOf66
instance NN:FldT p_ 71 4 4:=fld Tryz.runUnderlying71 (ft:=67) (by kernel_rfl) Tryz.sizeOf67
instance NO:FldT p_ 71 5 5:=fld Tryz.runUnderlying71 (ft:=3) (by kernel_rfl) Tryz.sizeOf3
instance NP:FldT p_ 71 6 6:=fld Tryz.runUnderlying71 (ft:=68) (by kernel_rfl) Tryz.sizeOf68
instance NQ:FldT p_ 71 7 7:=fld Tryz.runUnderlying71 (ft:=69) (by kernel_rfl) Tryz.sizeOf69
instance NR:FldT p_ 71 8 8:=fld Tryz.runUnderlying71 (ft:=39) (by kernel_rfl) Tryz.sizeOf39
instance TN:OneT p_ 72:=⟨Tryz.isAgg72,Tryz.sizeOf72⟩
instance TO:OneT p_ 73:=⟨Tryz.isAgg73,Tryz.sizeOf73⟩
instance TQ:PtrT p_ 73:=⟨by kernel_rfl⟩
instance TT:OneT p_ 74:=⟨Tryz.isAgg74,Tryz.sizeOf74⟩
instance Vq:SlT p_ 74 97 1 8:=p9 (z:=(.pointer none)) Tryz.underlying74 (i:=Tryz.t97) (by kernel_rfl) (by kernel_rfl) (by kernel_rfl) (by kernel_rfl) (by kernel_rfl)
instance NS:FldT p_ 76 0 0:=fld Tryz.runUnderlying76 (ft:=9) (by kernel_rfl) Tryz.sizeOf9
instance NT:FldT p_ 76 1 1:=fld Tryz.runUnderlying76 (ft:=73) (by kernel_rfl) Tryz.sizeOf73
instance NU:FldT p_ 76 2 2:=fld Tryz.runUnderlying76 (ft:=74) (by kernel_rfl) Tryz.sizeOf74
instance TU:OneT p_ 77:=⟨Tryz.isAgg77,Tryz.sizeOf77⟩
instance Vr:SlT p_ 77 145 4 56:=p9 (z:=(.agg #[(.string ⟨#[]⟩),(.slice none 0 0),(.int .i64 0),(.int .i64 0)])) Tryz.underlying77 (i:=Tryz.t145) (by kernel_rfl) (by kernel_rfl) (by kernel_rfl) (by kernel_rfl) (by kernel_rfl)
instance TV:OneT p_ 78:=⟨Tryz.isAgg78,Tryz.sizeOf78⟩
instance Vs:SlT p_ 78 200 3 56:=p9 (z:=(.agg #[(.slice none 0 0),(.bool false),(.slice none 0 0)])) Tryz.underlying78 (i:=Tryz.t200) (by kernel_rfl) (by kernel_rfl) (by kernel_rfl) (by kernel_rfl) (by kernel_rfl)
instance Q8:ZeroT p_ 80 (.agg #[(.int .i64 0),(.int .i64 0),(.int .i64 0),(.int .i64 0),(.slice none 0 0),(.slice none 0 0)]):=⟨Tryz.zeroValue80⟩
instance TW:AggT p_ 80 6:=⟨Tryz.isAgg80,Tryz.sizeOf80⟩
instance NV:FldT p_ 80 0 0:=fld Tryz.runUnderlying80 (ft:=3) (by kernel_rfl) Tryz.sizeOf3
instance NW:FldT p_ 80 1 1:=fld Tryz.runUnderlying80 (ft:=3) (by kernel_rfl) Tryz.sizeOf3
instance NX:FldT p_ 80 2 2:=fld Tryz.runUnderlying80 (ft:=3) (by kernel_rfl) Tryz.sizeOf3
instance NY:FldT p_ 80 3 3:=fld Tryz.runUnderlying80 (ft:=3) (by kernel_rfl) Tryz.sizeOf3
instance NZ:FldT p_ 80 4 4:=fld Tryz.runUnderlying80 (ft:=77) (by kernel_rfl) Tryz.sizeOf77
instance N0:FldT p_ 80 5 5:=fld Tryz.runUnderlying80 (ft:=78) (by kernel_rfl) Tryz.sizeOf78
instance TX:OneT p_ 81:=⟨Tryz.isAgg81,Tryz.sizeOf81⟩
instance Vt:SlT p_ 81 216 1 8:=p9 (z:=(.pointer none)) Tryz.underlying81 (i:=Tryz.t216) (by kernel_rfl) (by kernel_rfl) (by kernel_rfl) (by kernel_rfl) (by kernel_rfl)
instance TY:MapT p_ 82 203 295:=⟨Tryz.underlying82⟩
instance N2:FldT p_ 84 0 0:=fld Tryz.runUnderlying84 (ft:=80) (by kernel_rfl) Tryz.sizeOf80
instance N3:FldT p_ 84 1 6:=fld Tryz.runUnderlying84 (ft:=81) (by kernel_rfl) Tryz.sizeOf81
instance N4:FldT p_ 84 3 8:=fld Tryz.runUnderlying84 (ft:=3) (by kernel_rfl) Tryz.sizeOf3
instance TZ:AggT p_ 88 2:=⟨Tryz.isAgg88,Tryz.sizeOf88⟩
instance N5:FldT p_ 88 0 0:=fld Tryz.runUnderlying88 (ft:=3) (by kernel_rfl) Tryz.sizeOf3
instance N6:FldT p_ 88 1 1:=fld Tryz.runUnderlying88 (ft:=3) (by kernel_rfl) Tryz.sizeOf3
instance T2:OneT p_ 91:=⟨Tryz.isAgg91,Tryz.sizeOf91⟩
instance Vu:SlT p_ 91 96 6 96:=p9 (z:=(.agg #[(.int .i64 0),(.string ⟨#[]⟩),(.string ⟨#[]⟩),(.int .i64 0),(.slice none 0 0),(.slice none 0 0)])) Tryz.underlying91 (i:=Tryz.t96) (by kernel_rfl) (by kernel_rfl) (by kernel_rfl) (by kernel_rfl) (by kernel_rfl)
instance Q9:ZeroT p_ 94 (.agg #[(.string ⟨#[]⟩),(.string ⟨#[]⟩),(.int .i64 0),(.slice none 0 0)]):=⟨Tryz.zeroValue94⟩
instance T3:AggT p_ 94 4:=⟨Tryz.isAgg94,Tryz.sizeOf94⟩
instance N7:FldT p_ 94 0 0:=fld Tryz.runUnderlying94 (ft:=9) (by kernel_rfl) Tryz.sizeOf9
instance N8:FldT p_ 94 1 1:=fld Tryz.runUnderlying94 (ft:=9) (by kernel_rfl) Tryz.sizeOf9
instance N9:FldT p_ 94 2 2:=fld Tryz.runUnderlying94 (ft:=3) (by kernel_rfl) Tryz.sizeOf3
instance N_:FldT p_ 94 3 3:=fld Tryz.runUnderlying94 (ft:=46) (by kernel_rfl) Tryz.sizeOf46
instance Q_:ZeroT p_ 96 (.agg #[(.int .i64 0),(.string ⟨#[]⟩),(.string ⟨#[]⟩),(.int .i64 0),(.slice none 0 0),(.slice none 0 0)]):=⟨Tryz.zeroValue96⟩
instance T4:AggT p_ 96 6:=⟨Tryz.isAgg96,Tryz.sizeOf96⟩
instance Oa:FldT p_ 96 0 0:=fld Tryz.runUnderlying96 (ft:=3) (by kernel_rfl) Tryz.sizeOf3
instance Ob:FldT p_ 96 1 1:=fld Tryz.runUnderlying96 (ft:=94) (by kernel_rfl) Tryz.sizeOf94
instance Oc:FldT p_ 96 2 5:=fld Tryz.runUnderlying96 (ft:=35) (by kernel_rfl) Tryz.sizeOf35
instance T5:OneT p_ 97:=⟨Tryz.isAgg97,Tryz.sizeOf97⟩
instance T6:PtrT p_ 97:=⟨by kernel_rfl⟩
instance Ra:ZeroT p_ 99 (.agg #[(.int .i64 0),(.string ⟨#[]⟩),(.int .i64 0),(.string ⟨#[]⟩),(.string ⟨#[]⟩),(.bool false)]):=⟨Tryz.zeroValue99⟩
instance T7:AggT p_ 99 6:=⟨Tryz.isAgg99,Tryz.sizeOf99⟩
instance Od:FldT p_ 99 0 0:=fld Tryz.runUnderlying99 (ft:=3) (by kernel_rfl) Tryz.sizeOf3
instance Oe:FldT p_ 99 1 1:=fld Tryz.runUnderlying99 (ft:=9) (by kernel_rfl) Tryz.sizeOf9
instance Of:FldT p_ 99 2 2:=fld Tryz.runUnderlying99 (ft:=3) (by kernel_rfl) Tryz.sizeOf3
instance Og:FldT p_ 99 3 3:=fld Tryz.runUnderlying99 (ft:=9) (by kernel_rfl) Tryz.sizeOf9
instance Oh:FldT p_ 99 4 4:=fld Tryz.runUnderlying99 (ft:=9) (by kernel_rfl) Tryz.sizeOf9
instance Oi:FldT p_ 99 5 5:=fld Tryz.runUnderlying99 (ft:=4) (by kernel_rfl) Tryz.sizeOf4
instance Oj:ZeroT p_ 101 (.agg #[(.string ⟨#[]⟩),(.int .i64 0),(.string ⟨#[]⟩),(.string ⟨#[]⟩),(.int .i64 0),(.int .i64 0),(.string ⟨#[]⟩),(.bool false),(.int .i64 0),(.int .i64 0),(.int .i64 0),(.string ⟨#[]⟩)]):=⟨Tryz.zeroValue101⟩
instance Rb:AggT p_ 101 12:=⟨Tryz.isAgg101,Tryz.sizeOf101⟩
instance Kc:FldT p_ 101 0 0:=fld Tryz.runUnderlying101 (ft:=9) (by kernel_rfl) Tryz.sizeOf9
instance Kd:FldT p_ 101 1 1:=fld Tryz.runUnderlying101 (ft:=3) (by kernel_rfl) Tryz.sizeOf3
instance Ke:FldT p_ 101 4 4:=fld Tryz.runUnderlying101 (ft:=3) (by kernel_rfl) Tryz.sizeOf3
instance Kf:FldT p_ 101 6 6:=fld Tryz.runUnderlying101 (ft:=9) (by kernel_rfl) Tryz.sizeOf9
instance Kg:FldT p_ 101 7 7:=fld Tryz.runUnderlying101 (ft:=4) (by kernel_rfl) Tryz.sizeOf4
instance Kh:FldT p_ 101 8 8:=fld Tryz.runUnderlying101 (ft:=3) (by kernel_rfl) Tryz.sizeOf3
instance Ki:FldT p_ 101 9 9:=fld Tryz.runUnderlying101 (ft:=3) (by kernel_rfl) Tryz.sizeOf3
instance Hs:FldT p_ 101 10 10:=fld Tryz.runUnderlying101 (ft:=3) (by kernel_rfl) Tryz.sizeOf3
instance Ht:FldT p_ 101 11 11:=fld Tryz.runUnderlying101 (ft:=9) (by kernel_rfl) Tryz.sizeOf9
instance Kk:FldT p_ 103 0 0:=fld Tryz.runUnderlying103 (ft:=72) (by kernel_rfl) Tryz.sizeOf72
instance Kl:FldT p_ 103 1 1:=fld Tryz.runUnderlying103 (ft:=96) (by kernel_rfl) Tryz.sizeOf96
instance Km:FldT p_ 103 2 7:=fld Tryz.runUnderlying103 (ft:=64) (by kernel_rfl) Tryz.sizeOf64
instance Ko:FldT p_ 103 3 8:=fld Tryz.runUnderlying103 (ft:=99) (by kernel_rfl) Tryz.sizeOf99
instance Kr:FldT p_ 103 4 14:=fld Tryz.runUnderlying103 (ft:=9) (by kernel_rfl) Tryz.sizeOf9
instance Ks:FldT p_ 103 5 15:=fld Tryz.runUnderlying103 (ft:=9) (by kernel_rfl) Tryz.sizeOf9
instance Kt:FldT p_ 103 6 16:=fld Tryz.runUnderlying103 (ft:=9) (by kernel_rfl) Tryz.sizeOf9
instance Ku:FldT p_ 103 7 17:=fld Tryz.runUnderlying103 (ft:=101) (by kernel_rfl) Tryz.sizeOf101
instance Kv:FldT p_ 103 8 29:=fld Tryz.runUnderlying103 (ft:=94) (by kernel_rfl) Tryz.sizeOf94
instance Kw:FldT p_ 103 9 33:=fld Tryz.runUnderlying103 (ft:=4) (by kernel_rfl) Tryz.sizeOf4
instance Hu:FldT p_ 103 10 34:=fld Tryz.runUnderlying103 (ft:=3) (by kernel_rfl) Tryz.sizeOf3
instance Ok:ZeroT p_ 111 .nilIface:=⟨Tryz.zeroValue111⟩
instance Rc:MapT p_ 112 3 111:=⟨Tryz.underlying112⟩
instance Rd:OneT p_ 115:=⟨Tryz.isAgg115,Tryz.sizeOf115⟩
instance Ol:ZeroT p_ 115 (.pointer none):=⟨Tryz.zeroValue115⟩
instance Re:PtrT p_ 115:=⟨by kernel_rfl⟩
instance Om:ZeroT p_ 118 (.agg #[(.int .i64 0),(.int .i64 0)]):=⟨Tryz.zeroValue118⟩
instance Rf:AggT p_ 118 2:=⟨Tryz.isAgg118,Tryz.sizeOf118⟩
instance Kx:FldT p_ 118 0 0:=fld Tryz.runUnderlying118 (ft:=3) (by kernel_rfl) Tryz.sizeOf3
instance Ky:FldT p_ 118 1 1:=fld Tryz.runUnderlying118 (ft:=3) (by kernel_rfl) Tryz.sizeOf3
instance Rg:OneT p_ 119:=⟨Tryz.isAgg119,Tryz.sizeOf119⟩
instance Rh:PtrT p_ 119:=⟨by kernel_rfl⟩
instance Ri:OneT p_ 120:=⟨Tryz.isAgg120,Tryz.sizeOf120⟩
instance Rj:PtrT p_ 120:=⟨by kernel_rfl⟩
instance Oo:ZeroT p_ 122 (.agg #[(.int .i64 0),(.int .i64 0)]):=⟨Tryz.zeroValue122⟩
instance Rk:AggT p_ 122 2:=⟨Tryz.isAgg122,Tryz.sizeOf122⟩
instance Kz:FldT p_ 122 0 0:=fld Tryz.runUnderlying122 (ft:=3) (by kernel_rfl) Tryz.sizeOf3
instance KA:FldT p_ 122 1 1:=fld Tryz.runUnderlying122 (ft:=3) (by kernel_rfl) Tryz.sizeOf3
instance KB:FldT p_ 124 0 0:=fld Tryz.runUnderlying124 (ft:=3) (by kernel_rfl) Tryz.sizeOf3
instance KC:FldT p_ 124 1 1:=fld Tryz.runUnderlying124 (ft:=3) (by kernel_rfl) Tryz.sizeOf3
instance KD:FldT p_ 124 2 2:=fld Tryz.runUnderlying124 (ft:=64) (by kernel_rfl) Tryz.sizeOf64
instance KE:FldT p_ 124 3 3:=fld Tryz.runUnderlying124 (ft:=118) (by kernel_rfl) Tryz.sizeOf118
instance KF:FldT p_ 124 4 5:=fld Tryz.runUnderlying124 (ft:=97) (by kernel_rfl) Tryz.sizeOf97
instance KG:FldT p_ 124 5 6:=fld Tryz.runUnderlying124 (ft:=3) (by kernel_rfl) Tryz.sizeOf3
instance KH:FldT p_ 124 6 7:=fld Tryz.runUnderlying124 (ft:=4) (by kernel_rfl) Tryz.sizeOf4
instance KI:FldT p_ 124 7 8:=fld Tryz.runUnderlying124 (ft:=119) (by kernel_rfl) Tryz.sizeOf119
instance KJ:FldT p_ 124 8 9:=fld Tryz.runUnderlying124 (ft:=120) (by kernel_rfl) Tryz.sizeOf120
instance KL:FldT p_ 124 9 10:=fld Tryz.runUnderlying124 (ft:=122) (by kernel_rfl) Tryz.sizeOf122
instance Hv:FldT p_ 124 10 12:=fld Tryz.runUnderlying124 (ft:=35) (by kernel_rfl) Tryz.sizeOf35
instance Rl:OneT p_ 143:=⟨Tryz.isAgg143,Tryz.sizeOf143⟩
instance T8:SlT p_ 143 315 2 16:=p9 (z:=(.agg #[(.int .i64 0),(.int .i64 0)])) Tryz.underlying143 (i:=Tryz.t315) (by kernel_rfl) (by kernel_rfl) (by kernel_rfl) (by kernel_rfl) (by kernel_rfl)
instance Oq:ZeroT p_ 145 (.agg #[(.string ⟨#[]⟩),(.slice none 0 0),(.int .i64 0),(.int .i64 0)]):=⟨Tryz.zeroValue145⟩
instance Rm:AggT p_ 145 4:=⟨Tryz.isAgg145,Tryz.sizeOf145⟩
instance KM:FldT p_ 145 0 0:=fld Tryz.runUnderlying145 (ft:=9) (by kernel_rfl) Tryz.sizeOf9
instance KN:FldT p_ 145 1 1:=fld Tryz.runUnderlying145 (ft:=143) (by kernel_rfl) Tryz.sizeOf143
instance KO:FldT p_ 145 2 2:=fld Tryz.runUnderlying145 (ft:=3) (by kernel_rfl) Tryz.sizeOf3
instance KP:FldT p_ 145 3 3:=fld Tryz.runUnderlying145 (ft:=3) (by kernel_rfl) Tryz.sizeOf3
instance Ot:ZeroT p_ 162 (.agg #[(.string ⟨#[]⟩),(.slice none 0 0),(.int .i64 0)]):=⟨Tryz.zeroValue162⟩
instance Rn:AggT p_ 162 3:=⟨Tryz.isAgg162,Tryz.sizeOf162⟩
instance Ro:OneT p_ 172:=⟨Tryz.isAgg172,Tryz.sizeOf172⟩
instance Rp:OneT p_ 173:=⟨Tryz.isAgg173,Tryz.sizeOf173⟩
instance T9:SlT p_ 173 279 1 16:=p9 (z:= .nilIface) Tryz.underlying173 (i:=Tryz.t279) (by kernel_rfl) (by kernel_rfl) (by kernel_rfl) (by kernel_rfl) (by kernel_rfl)
instance KQ:FldT p_ 175 0 0:=fld Tryz.runUnderlying175 (ft:=88) (by kernel_rfl) Tryz.sizeOf88
instance KR:FldT p_ 175 1 2:=fld Tryz.runUnderlying175 (ft:=3) (by kernel_rfl) Tryz.sizeOf3
instance KS:FldT p_ 175 2 3:=fld Tryz.runUnderlying175 (ft:=3) (by kernel_rfl) Tryz.sizeOf3
instance KU:FldT p_ 175 3 4:=fld Tryz.runUnderlying175 (ft:=4) (by kernel_rfl) Tryz.sizeOf4
instance KV:FldT p_ 175 4 5:=fld Tryz.runUnderlying175 (ft:=4) (by kernel_rfl) Tryz.sizeOf4
instance KW:FldT p_ 175 5 6:=fld Tryz.runUnderlying175 (ft:=172) (by kernel_rfl) Tryz.sizeOf172
instance KX:FldT p_ 175 6 7:=fld Tryz.runUnderlying175 (ft:=119) (by kernel_rfl) Tryz.sizeOf119
instance KY:FldT p_ 175 7 8:=fld Tryz.runUnderlying175 (ft:=120) (by kernel_rfl) Tryz.sizeOf120
instance KZ:FldT p_ 175 8 9:=fld Tryz.runUnderlying175 (ft:=3) (by kernel_rfl) Tryz.sizeOf3
instance K1:FldT p_ 175 9 10:=fld Tryz.runUnderlying175 (ft:=94) (by kernel_rfl) Tryz.sizeOf94
instance Hw:FldT p_ 175 10 14:=fld Tryz.runUnderlying175 (ft:=35) (by kernel_rfl) Tryz.sizeOf35
instance Hx:FldT p_ 175 11 15:=fld Tryz.runUnderlying175 (ft:=91) (by kernel_rfl) Tryz.sizeOf91
instance Hy:FldT p_ 175 12 16:=fld Tryz.runUnderlying175 (ft:=173) (by kernel_rfl) Tryz.sizeOf173
instance Hz:FldT p_ 175 13 17:=fld Tryz.runUnderlying175 (ft:=3) (by kernel_rfl) Tryz.sizeOf3
instance HA:FldT p_ 175 14 18:=fld Tryz.runUnderlying175 (ft:=35) (by kernel_rfl) Tryz.sizeOf35
instance Rr:OneT p_ 176:=⟨Tryz.isAgg176,Tryz.sizeOf176⟩
instance Rs:MapT p_ 176 9 256:=⟨Tryz.underlying176⟩
instance K2:FldT p_ 178 0 0:=fld Tryz.runUnderlying178 (ft:=176) (by kernel_rfl) Tryz.sizeOf176
instance K3:FldT p_ 178 1 1:=fld Tryz.runUnderlying178 (ft:=3) (by kernel_rfl) Tryz.sizeOf3
instance Ou:ZeroT p_ 192 (.agg #[(.string ⟨#[]⟩),(.string ⟨#[]⟩)]):=⟨Tryz.zeroValue192⟩
instance Rt:AggT p_ 192 2:=⟨Tryz.isAgg192,Tryz.sizeOf192⟩
instance K4:FldT p_ 192 0 0:=fld Tryz.runUnderlying192 (ft:=9) (by kernel_rfl) Tryz.sizeOf9
instance K5:FldT p_ 192 1 1:=fld Tryz.runUnderlying192 (ft:=9) (by kernel_rfl) Tryz.sizeOf9
instance Ru:OneT p_ 198:=⟨Tryz.isAgg198,Tryz.sizeOf198⟩
instance Ua:SlT p_ 198 101 12 136:=p9 (z:=(.agg #[(.string ⟨#[]⟩),(.int .i64 0),(.string ⟨#[]⟩),(.string ⟨#[]⟩),(.int .i64 0),(.int .i64 0),(.string ⟨#[]⟩),(.bool false),(.int .i64 0),(.int .i64 0),(.int .i64 0),(.string ⟨#[]⟩)])) Tryz.underlying198 (i:=Tryz.t101) (by kernel_rfl) (by kernel_rfl) (by kernel_rfl) (by kernel_rfl) (by kernel_rfl)
instance Ov:ZeroT p_ 200 (.agg #[(.slice none 0 0),(.bool false),(.slice none 0 0)]):=⟨Tryz.zeroValue200⟩
instance Rv:AggT p_ 200 3:=⟨Tryz.isAgg200,Tryz.sizeOf200⟩
instance K6:FldT p_ 200 0 0:=fld Tryz.runUnderlying200 (ft:=33) (by kernel_rfl) Tryz.sizeOf33
instance K7:FldT p_ 200 1 1:=fld Tryz.runUnderlying200 (ft:=4) (by kernel_rfl) Tryz.sizeOf4
instance K8:FldT p_ 200 2 2:=fld Tryz.runUnderlying200 (ft:=198) (by kernel_rfl) Tryz.sizeOf198
instance Rw:AggT p_ 207 8:=⟨Tryz.isAgg207,Tryz.sizeOf207⟩
instance K9:FldT p_ 207 0 0:=fld Tryz.runUnderlying207 (ft:=3) (by kernel_rfl) Tryz.sizeOf3
instance K_:FldT p_ 207 1 1:=fld Tryz.runUnderlying207 (ft:=9) (by kernel_rfl) Tryz.sizeOf9
instance La:FldT p_ 207 2 2:=fld Tryz.runUnderlying207 (ft:=9) (by kernel_rfl) Tryz.sizeOf9
instance Lb:FldT p_ 207 3 3:=fld Tryz.runUnderlying207 (ft:=9) (by kernel_rfl) Tryz.sizeOf9
instance Lc:FldT p_ 207 4 4:=fld Tryz.runUnderlying207 (ft:=9) (by kernel_rfl) Tryz.sizeOf9
instance Ld:FldT p_ 207 5 5:=fld Tryz.runUnderlying207 (ft:=3) (by kernel_rfl) Tryz.sizeOf3
instance Le:FldT p_ 207 6 6:=fld Tryz.runUnderlying207 (ft:=3) (by kernel_rfl) Tryz.sizeOf3
instance Lf:FldT p_ 207 7 7:=fld Tryz.runUnderlying207 (ft:=9) (by kernel_rfl) Tryz.sizeOf9
instance Rx:OneT p_ 216:=⟨Tryz.isAgg216,Tryz.sizeOf216⟩
instance Ry:PtrT p_ 216:=⟨by kernel_rfl⟩
instance Rz:OneT p_ 228:=⟨Tryz.isAgg228,Tryz.sizeOf228⟩
instance Lg:FldT p_ 230 0 0:=fld Tryz.runUnderlying230 (ft:=4) (by kernel_rfl) Tryz.sizeOf4
instance Lh:FldT p_ 230 1 1:=fld Tryz.runUnderlying230 (ft:=4) (by kernel_rfl) Tryz.sizeOf4
instance Li:FldT p_ 230 2 2:=fld Tryz.runUnderlying230 (ft:=35) (by kernel_rfl) Tryz.sizeOf35
instance Lj:FldT p_ 230 3 3:=fld Tryz.runUnderlying230 (ft:=4) (by kernel_rfl) Tryz.sizeOf4
instance Lk:FldT p_ 230 4 4:=fld Tryz.runUnderlying230 (ft:=4) (by kernel_rfl) Tryz.sizeOf4
instance Ll:FldT p_ 230 5 5:=fld Tryz.runUnderlying230 (ft:=3) (by kernel_rfl) Tryz.sizeOf3
instance Lm:FldT p_ 230 6 6:=fld Tryz.runUnderlying230 (ft:=3) (by kernel_rfl) Tryz.sizeOf3
instance Lo:FldT p_ 230 7 7:=fld Tryz.runUnderlying230 (ft:=29) (by kernel_rfl) Tryz.sizeOf29
instance Lp:FldT p_ 230 8 8:=fld Tryz.runUnderlying230 (ft:=228) (by kernel_rfl) Tryz.sizeOf228
instance Lq:FldT p_ 230 9 9:=fld Tryz.runUnderlying230 (ft:=94) (by kernel_rfl) Tryz.sizeOf94
instance HB:FldT p_ 230 10 13:=fld Tryz.runUnderlying230 (ft:=3) (by kernel_rfl) Tryz.sizeOf3
instance HC:FldT p_ 230 11 14:=fld Tryz.runUnderlying230 (ft:=9) (by kernel_rfl) Tryz.sizeOf9
instance HD:FldT p_ 230 12 15:=fld Tryz.runUnderlying230 (ft:=46) (by kernel_rfl) Tryz.sizeOf46
instance RA:OneT p_ 231:=⟨Tryz.isAgg231,Tryz.sizeOf231⟩
instance Lr:FldT p_ 234 0 0:=fld Tryz.runUnderlying234 (ft:=122) (by kernel_rfl) Tryz.sizeOf122
instance Ls:FldT p_ 234 1 2:=fld Tryz.runUnderlying234 (ft:=3) (by kernel_rfl) Tryz.sizeOf3
instance Lt:FldT p_ 234 2 3:=fld Tryz.runUnderlying234 (ft:=3) (by kernel_rfl) Tryz.sizeOf3
instance Lu:FldT p_ 234 3 4:=fld Tryz.runUnderlying234 (ft:=3) (by kernel_rfl) Tryz.sizeOf3
instance Lv:FldT p_ 234 8 9:=fld Tryz.runUnderlying234 (ft:=4) (by kernel_rfl) Tryz.sizeOf4
instance Lw:FldT p_ 234 9 10:=fld Tryz.runUnderlying234 (ft:=4) (by kernel_rfl) Tryz.sizeOf4
instance HE:FldT p_ 234 10 11:=fld Tryz.runUnderlying234 (ft:=29) (by kernel_rfl) Tryz.sizeOf29
instance HF:FldT p_ 234 11 12:=fld Tryz.runUnderlying234 (ft:=35) (by kernel_rfl) Tryz.sizeOf35
instance RC:OneT p_ 236:=⟨Tryz.isAgg236,Tryz.sizeOf236⟩
instance Ow:ZeroT p_ 236 (.slice none 0 0):=⟨Tryz.zeroValue236⟩
instance Ub:SlT p_ 236 437 1 8:=p9 (z:=(.pointer none)) Tryz.underlying236 (i:=Tryz.t437) (by kernel_rfl) (by kernel_rfl) (by kernel_rfl) (by kernel_rfl) (by kernel_rfl)
instance Lx:FldT p_ 238 0 0:=fld Tryz.runUnderlying238 (ft:=236) (by kernel_rfl) Tryz.sizeOf236
instance RD:OneT p_ 239:=⟨Tryz.isAgg239,Tryz.sizeOf239⟩
instance RE:MapT p_ 239 9 236:=⟨Tryz.underlying239⟩
instance Ly:FldT p_ 241 0 0:=fld Tryz.runUnderlying241 (ft:=238) (by kernel_rfl) Tryz.sizeOf238
instance Lz:FldT p_ 241 1 1:=fld Tryz.runUnderlying241 (ft:=239) (by kernel_rfl) Tryz.sizeOf239
instance LA:FldT p_ 241 2 2:=fld Tryz.runUnderlying241 (ft:=3) (by kernel_rfl) Tryz.sizeOf3
instance LB:FldT p_ 241 3 3:=fld Tryz.runUnderlying241 (ft:=3) (by kernel_rfl) Tryz.sizeOf3
instance Ox:ZeroT p_ 242 (.int .i64 0):=⟨Tryz.zeroValue242⟩
instance RG:OneT p_ 245:=⟨Tryz.isAgg245,Tryz.sizeOf245⟩
instance Oy:ZeroT p_ 256 (.agg #[(.string ⟨#[]⟩),(.slice none 0 0),(.int .i64 0),(.int .i64 0)]):=⟨Tryz.zeroValue256⟩
instance RH:AggT p_ 256 4:=⟨Tryz.isAgg256,Tryz.sizeOf256⟩
instance LC:FldT p_ 263 0 0:=fld Tryz.runUnderlying263 (ft:=80) (by kernel_rfl) Tryz.sizeOf80
instance LD:FldT p_ 263 1 6:=fld Tryz.runUnderlying263 (ft:=3) (by kernel_rfl) Tryz.sizeOf3
instance RI:OneT p_ 265:=⟨Tryz.isAgg265,Tryz.sizeOf265⟩
instance Oz:ZeroT p_ 265 (.map none):=⟨Tryz.zeroValue265⟩
instance RJ:MapT p_ 265 9 346:=⟨Tryz.underlying265⟩
instance RK:OneT p_ 267:=⟨Tryz.isAgg267,Tryz.sizeOf267⟩
instance Uc:SlT p_ 267 270 1 8:=p9 (z:=(.pointer none)) Tryz.underlying267 (i:=Tryz.t270) (by kernel_rfl) (by kernel_rfl) (by kernel_rfl) (by kernel_rfl) (by kernel_rfl)
instance LE:FldT p_ 269 0 0:=fld Tryz.runUnderlying269 (ft:=33) (by kernel_rfl) Tryz.sizeOf33
instance LF:FldT p_ 269 1 1:=fld Tryz.runUnderlying269 (ft:=3) (by kernel_rfl) Tryz.sizeOf3
instance LG:FldT p_ 269 2 2:=fld Tryz.runUnderlying269 (ft:=4) (by kernel_rfl) Tryz.sizeOf4
instance LH:FldT p_ 269 3 3:=fld Tryz.runUnderlying269 (ft:=267) (by kernel_rfl) Tryz.sizeOf267
instance RL:OneT p_ 270:=⟨Tryz.isAgg270,Tryz.sizeOf270⟩
instance RM:PtrT p_ 270:=⟨by kernel_rfl⟩
instance LI:FldT p_ 276 0 0:=fld Tryz.runUnderlying276 (ft:=33) (by kernel_rfl) Tryz.sizeOf33
instance LJ:FldT p_ 276 1 1:=fld Tryz.runUnderlying276 (ft:=3) (by kernel_rfl) Tryz.sizeOf3
instance LK:FldT p_ 276 2 2:=fld Tryz.runUnderlying276 (ft:=3) (by kernel_rfl) Tryz.sizeOf3
instance RN:OneT p_ 279:=⟨Tryz.isAgg279,Tryz.sizeOf279⟩
instance RP:PtrT p_ 281:=⟨by kernel_rfl⟩
instance RQ:AggT p_ 289 256:=⟨Tryz.isAgg289,Tryz.sizeOf289⟩
instance RR:ArrT p_ 289 256 4 1:=⟨Tryz.runUnderlying289,Tryz.sizeOf4⟩
instance RS:OneT p_ 300:=⟨Tryz.isAgg300,Tryz.sizeOf300⟩
instance RT:PtrT p_ 300:=⟨by kernel_rfl⟩
instance LM:FldT p_ 302 0 0:=fld Tryz.runUnderlying302 (ft:=3) (by kernel_rfl) Tryz.sizeOf3
instance LN:FldT p_ 302 1 1:=fld Tryz.runUnderlying302 (ft:=94) (by kernel_rfl) Tryz.sizeOf94
instance LP:FldT p_ 302 2 5:=fld Tryz.runUnderlying302 (ft:=4) (by kernel_rfl) Tryz.sizeOf4
instance LQ:FldT p_ 302 3 6:=fld Tryz.runUnderlying302 (ft:=300) (by kernel_rfl) Tryz.sizeOf300
instance RU:OneT p_ 308:=⟨Tryz.isAgg308,Tryz.sizeOf308⟩
instance OA:ZeroT p_ 308 (.pointer none):=⟨Tryz.zeroValue308⟩
instance RW:PtrT p_ 308:=⟨by kernel_rfl⟩
instance RX:OneT p_ 309:=⟨Tryz.isAgg309,Tryz.sizeOf309⟩
instance Ud:SlT p_ 309 308 1 8:=p9 (z:=(.pointer none)) Tryz.underlying309 (i:=Tryz.t308) (by kernel_rfl) (by kernel_rfl) (by kernel_rfl) (by kernel_rfl) (by kernel_rfl)
instance RY:OneT p_ 310:=⟨Tryz.isAgg310,Tryz.sizeOf310⟩
instance RZ:MapT p_ 310 3 308:=⟨Tryz.underlying310⟩
instance LR:FldT p_ 312 0 0:=fld Tryz.runUnderlying312 (ft:=309) (by kernel_rfl) Tryz.sizeOf309
instance LS:FldT p_ 312 1 1:=fld Tryz.runUnderlying312 (ft:=310) (by kernel_rfl) Tryz.sizeOf310
instance LT:FldT p_ 312 2 2:=fld Tryz.runUnderlying312 (ft:=310) (by kernel_rfl) Tryz.sizeOf310
instance LU:FldT p_ 312 3 3:=fld Tryz.runUnderlying312 (ft:=3) (by kernel_rfl) Tryz.sizeOf3
instance LV:FldT p_ 312 4 4:=fld Tryz.runUnderlying312 (ft:=3) (by kernel_rfl) Tryz.sizeOf3
instance LW:FldT p_ 312 5 5:=fld Tryz.runUnderlying312 (ft:=3) (by kernel_rfl) Tryz.sizeOf3
instance OB:ZeroT p_ 315 (.agg #[(.int .i64 0),(.int .i64 0)]):=⟨Tryz.zeroValue315⟩
instance R0:AggT p_ 315 2:=⟨Tryz.isAgg315,Tryz.sizeOf315⟩
instance LX:FldT p_ 315 0 0:=fld Tryz.runUnderlying315 (ft:=3) (by kernel_rfl) Tryz.sizeOf3
instance LY:FldT p_ 315 1 1:=fld Tryz.runUnderlying315 (ft:=3) (by kernel_rfl) Tryz.sizeOf3
instance LZ:FldT p_ 317 0 0:=fld Tryz.runUnderlying317 (ft:=315) (by kernel_rfl) Tryz.sizeOf315
instance L0:FldT p_ 317 1 2:=fld Tryz.runUnderlying317 (ft:=22) (by kernel_rfl) Tryz.sizeOf22
instance L5:FldT p_ 317 2 3:=fld Tryz.runUnderlying317 (ft:=3) (by kernel_rfl) Tryz.sizeOf3
instance L6:FldT p_ 317 3 4:=fld Tryz.runUnderlying317 (ft:=3) (by kernel_rfl) Tryz.sizeOf3
instance R1:OneT p_ 320:=⟨Tryz.isAgg320,Tryz.sizeOf320⟩
instance R2:AggT p_ 322 3:=⟨Tryz.isAgg322,Tryz.sizeOf322⟩
instance L7:FldT p_ 322 0 0:=fld Tryz.runUnderlying322 (ft:=4) (by kernel_rfl) Tryz.sizeOf4
instance L8:FldT p_ 322 1 1:=fld Tryz.runUnderlying322 (ft:=4) (by kernel_rfl) Tryz.sizeOf4
instance L9:FldT p_ 322 2 2:=fld Tryz.runUnderlying322 (ft:=320) (by kernel_rfl) Tryz.sizeOf320
instance OD:ZeroT p_ 332 (.agg #[.nilFunc,.nilFunc,.nilFunc,.nilFunc,.nilFunc]):=⟨Tryz.zeroValue332⟩
instance R3:AggT p_ 332 5:=⟨Tryz.isAgg332,Tryz.sizeOf332⟩
instance R4:ArrT p_ 332 5 231 1:=⟨Tryz.runUnderlying332,Tryz.sizeOf231⟩
instance R5:MapT p_ 343 9 4:=⟨Tryz.underlying343⟩
instance R6:OneT p_ 344:=⟨Tryz.isAgg344,Tryz.sizeOf344⟩
instance OE:ZeroT p_ 346 (.agg #[(.string ⟨#[]⟩),(.int .i64 0),(.int .i64 0),(.bool false),(.bool false),.nilFunc]):=⟨Tryz.zeroValue346⟩
instance R7:AggT p_ 346 6:=⟨Tryz.isAgg346,Tryz.sizeOf346⟩
instance L_:FldT p_ 346 0 0:=fld Tryz.runUnderlying346 (ft:=9) (by kernel_rfl) Tryz.sizeOf9
instance Ma:FldT p_ 346 1 1:=fld Tryz.runUnderlying346 (ft:=3) (by kernel_rfl) Tryz.sizeOf3
instance Mb:FldT p_ 346 2 2:=fld Tryz.runUnderlying346 (ft:=3) (by kernel_rfl) Tryz.sizeOf3
instance Mc:FldT p_ 346 3 3:=fld Tryz.runUnderlying346 (ft:=4) (by kernel_rfl) Tryz.sizeOf4
instance Md:FldT p_ 346 4 4:=fld Tryz.runUnderlying346 (ft:=4) (by kernel_rfl) Tryz.sizeOf4
instance Me:FldT p_ 346 5 5:=fld Tryz.runUnderlying346 (ft:=344) (by kernel_rfl) Tryz.sizeOf344
instance R8:OneT p_ 354:=⟨Tryz.isAgg354,Tryz.sizeOf354⟩
instance R9:OneT p_ 355:=⟨Tryz.isAgg355,Tryz.sizeOf355⟩
instance Ue:SlT p_ 356 360 3 32:=p9 (z:=(.agg #[(.int .u8 0),(.string ⟨#[]⟩),(.int .i64 0)])) Tryz.underlying356 (i:=Tryz.t360) (by kernel_rfl) (by kernel_rfl) (by kernel_rfl) (by kernel_rfl) (by kernel_rfl)
instance OF:ZeroT p_ 360 (.agg #[(.int .u8 0),(.string ⟨#[]⟩),(.int .i64 0)]):=⟨Tryz.zeroValue360⟩
instance R_:AggT p_ 360 3:=⟨Tryz.isAgg360,Tryz.sizeOf360⟩
instance Mf:FldT p_ 360 0 0:=fld Tryz.runUnderlying360 (ft:=5) (by kernel_rfl) Tryz.sizeOf5
instance Mg:FldT p_ 360 1 1:=fld Tryz.runUnderlying360 (ft:=9) (by kernel_rfl) Tryz.sizeOf9
instance Mh:FldT p_ 360 2 2:=fld Tryz.runUnderlying360 (ft:=3) (by kernel_rfl) Tryz.sizeOf3
instance Sb:OneT p_ 367:=⟨Tryz.isAgg367,Tryz.sizeOf367⟩
instance OG:ZeroT p_ 373 (.agg #[(.int .u8 0),(.int .u8 0),(.int .u8 0),(.int .u8 0),(.int .u8 0),(.int .u8 0),(.int .u8 0),(.int .u8 0),(.int .u8 0),(.int .u8 0),(.int .u8 0),(.int .u8 0),(.int .u8 0),(.int .u8 0),(.int .u8 0),(.int .u8 0),(.int .u8 0),(.int .u8 0),(.int .u8 0),(.int .u8 0),(.int .u8 0),(.int .u8 0),(.int .u8 0),(.int .u8 0)]):=⟨Tryz.zeroValue373⟩
instance Sc:ArrT p_ 373 24 5 1:=⟨Tryz.runUnderlying373,Tryz.sizeOf5⟩
instance Sd:OneT p_ 374:=⟨Tryz.isAgg374,Tryz.sizeOf374⟩
instance Se:IntT p_ 374 .u64:=⟨Tryz.runUnderlying374⟩
instance Sf:AggT p_ 380 256:=⟨Tryz.isAgg380,Tryz.sizeOf380⟩
instance Si:ArrT p_ 380 256 3 1:=⟨Tryz.runUnderlying380,Tryz.sizeOf3⟩
instance Sj:IntT p_ 383 .u64:=⟨Tryz.runUnderlying383⟩
instance Sk:OneT p_ 386:=⟨Tryz.isAgg386,Tryz.sizeOf386⟩
instance OH:ZeroT p_ 387 (.agg #[.nilFunc,.nilFunc]):=⟨Tryz.zeroValue387⟩
instance Sm:AggT p_ 387 2:=⟨Tryz.isAgg387,Tryz.sizeOf387⟩
instance Sn:ArrT p_ 387 2 386 1:=⟨Tryz.runUnderlying387,Tryz.sizeOf386⟩
instance OI:ZeroT p_ 401 (.agg #[(.pointer none),(.pointer none),(.pointer none)]):=⟨Tryz.zeroValue401⟩
instance So:AggT p_ 401 3:=⟨Tryz.isAgg401,Tryz.sizeOf401⟩
instance Sp:ArrT p_ 401 3 354 1:=⟨Tryz.runUnderlying401,Tryz.sizeOf354⟩
instance Sq:OneT p_ 406:=⟨Tryz.isAgg406,Tryz.sizeOf406⟩
instance OJ:ZeroT p_ 407 (.agg #[.nilFunc,.nilFunc,.nilFunc,.nilFunc,.nilFunc,.nilFunc,.nilFunc,.nilFunc]):=⟨Tryz.zeroValue407⟩
instance Sr:AggT p_ 407 8:=⟨Tryz.isAgg407,Tryz.sizeOf407⟩
instance Ss:ArrT p_ 407 8 320 1:=⟨Tryz.runUnderlying407,Tryz.sizeOf320⟩
instance OK:ZeroT p_ 432 (.agg #[.nilFunc,.nilFunc,.nilFunc,.nilFunc]):=⟨Tryz.zeroValue432⟩
instance St:AggT p_ 432 4:=⟨Tryz.isAgg432,Tryz.sizeOf432⟩
instance Su:ArrT p_ 432 4 28 1:=⟨Tryz.runUnderlying432,Tryz.sizeOf28⟩
instance Sv:OneT p_ 437:=⟨Tryz.isAgg437,Tryz.sizeOf437⟩
instance OL:ZeroT p_ 437 (.pointer none):=⟨Tryz.zeroValue437⟩
instance Sw:PtrT p_ 437:=⟨by kernel_rfl⟩
instance Mi:FldT p_ 444 0 0:=fld Tryz.runUnderlying444 (ft:=9) (by kernel_rfl) Tryz.sizeOf9
instance Mj:FldT p_ 444 3 3:=fld Tryz.runUnderlying444 (ft:=46) (by kernel_rfl) Tryz.sizeOf46
instance Mk:FldT p_ 444 4 4:=fld Tryz.runUnderlying444 (ft:=48) (by kernel_rfl) Tryz.sizeOf48
instance Ml:FldT p_ 444 7 9:=fld Tryz.runUnderlying444 (ft:=3) (by kernel_rfl) Tryz.sizeOf3
instance OM:ZeroT p_ 460 (.agg #[(.pointer none),(.slice none 0 0)]):=⟨Tryz.zeroValue460⟩
instance Mm:FldT p_ 460 1 1:=fld Tryz.runUnderlying460 (ft:=35) (by kernel_rfl) Tryz.sizeOf35
instance Sx:OneT p_ 462:=⟨Tryz.isAgg462,Tryz.sizeOf462⟩
instance Sy:OneT p_ 474:=⟨Tryz.isAgg474,Tryz.sizeOf474⟩
instance Sz:MapT p_ 477 9 3:=⟨Tryz.underlying477⟩
instance SA:OneT p_ 479:=⟨Tryz.isAgg479,Tryz.sizeOf479⟩
instance SB:ArrT p_ 483 20 374 1:=⟨Tryz.runUnderlying483,Tryz.sizeOf374⟩
instance SC:IntT p_ 484 .u32:=⟨Tryz.runUnderlying484⟩
instance SD:OneT p_ 490:=⟨Tryz.isAgg490,Tryz.sizeOf490⟩
instance SE:ArrT p_ 492 5 406 1:=⟨Tryz.runUnderlying492,Tryz.sizeOf406⟩
instance SF:OneT p_ 520:=⟨Tryz.isAgg520,Tryz.sizeOf520⟩
instance ON:ZeroT p_ 520 (.slice none 0 0):=⟨Tryz.zeroValue520⟩
instance Uf:SlT p_ 520 524 3 40:=p9 (z:=(.agg #[(.string ⟨#[]⟩),(.string ⟨#[]⟩),(.bool false)])) Tryz.underlying520 (i:=Tryz.t524) (by kernel_rfl) (by kernel_rfl) (by kernel_rfl) (by kernel_rfl) (by kernel_rfl)
instance OP:ZeroT p_ 524 (.agg #[(.string ⟨#[]⟩),(.string ⟨#[]⟩),(.bool false)]):=⟨Tryz.zeroValue524⟩
instance SG:AggT p_ 524 3:=⟨Tryz.isAgg524,Tryz.sizeOf524⟩
instance Mn:FldT p_ 524 0 0:=fld Tryz.runUnderlying524 (ft:=9) (by kernel_rfl) Tryz.sizeOf9
instance Mo:FldT p_ 524 1 1:=fld Tryz.runUnderlying524 (ft:=9) (by kernel_rfl) Tryz.sizeOf9
instance Mp:FldT p_ 524 2 2:=fld Tryz.runUnderlying524 (ft:=4) (by kernel_rfl) Tryz.sizeOf4
instance SH:OneT p_ 535:=⟨Tryz.isAgg535,Tryz.sizeOf535⟩
instance SI:MapT p_ 547 3 3:=⟨Tryz.underlying547⟩
instance SJ:OneT p_ 578:=⟨Tryz.isAgg578,Tryz.sizeOf578⟩
instance SK:AggT p_ 580 3:=⟨Tryz.isAgg580,Tryz.sizeOf580⟩
instance Mq:FldT p_ 580 0 0:=fld Tryz.runUnderlying580 (ft:=4) (by kernel_rfl) Tryz.sizeOf4
instance Mr:FldT p_ 580 1 1:=fld Tryz.runUnderlying580 (ft:=4) (by kernel_rfl) Tryz.sizeOf4
instance Ms:FldT p_ 580 2 2:=fld Tryz.runUnderlying580 (ft:=578) (by kernel_rfl) Tryz.sizeOf578
instance SL:IntT p_ 603 .i64:=⟨Tryz.runUnderlying603⟩
instance HG {a0 a1:Value}[h0:OC a0][h1:OC a1]:RV p_ (aD 88 [(0,a0),(1,a1)]) (.agg #[a0,a1]):=⟨fun W w _=>by
 have c0:=ao h0.one;have c1:=ao h1.one;simp[aD,Instr.build,Tryz.zeroValue88,Tryz.runUnderlying88,Tryz.sizeOf3,aL,Instr.fill,c0,c1]⟩
instance HH {a0 a1:Value}[h0:OC a0][h1:OC a1]:RV p_ (aD 76 [(0,a0),(1,a1)]) (.agg #[a0,a1,(.slice none 0 0)]):=⟨fun W w _=>by
 have c0:=ao h0.one;have c1:=ao h1.one;simp[aD,Instr.build,Tryz.zeroValue76,Tryz.runUnderlying76,Tryz.sizeOf9,Tryz.sizeOf73,Tryz.sizeOf74,aL,Instr.fill,c0,c1]⟩
instance Da {a0 a1_0 a1_1 a1_2 a1_3 a1_4 a1_5 a2:Value}[h0:OC a0][h2:OC a2]:RV p_ (aD 103 [(0,a0),(1,.agg #[a1_0,a1_1,a1_2,a1_3,a1_4,a1_5]),(2,a2)]) (.agg #[a0,a1_0,a1_1,a1_2,a1_3,a1_4,a1_5,a2,(.int .i64 0),(.string ⟨#[]⟩),(.int .i64 0),(.string ⟨#[]⟩),(.string ⟨#[]⟩),(.bool false),(.string ⟨#[]⟩),(.string ⟨#[]⟩),(.string ⟨#[]⟩),(.string ⟨#[]⟩),(.int .i64 0),(.string ⟨#[]⟩),(.string ⟨#[]⟩),(.int .i64 0),(.int .i64 0),(.string ⟨#[]⟩),(.bool false),(.int .i64 0),(.int .i64 0),(.int .i64 0),(.string ⟨#[]⟩),(.string ⟨#[]⟩),(.string ⟨#[]⟩),(.int .i64 0),(.slice none 0 0),(.bool false),(.int .i64 0)]):=⟨fun W w _=>by
 have c0:=ao h0.one;have c2:=ao h2.one;simp[aD,Instr.build,Tryz.zeroValue103,Tryz.runUnderlying103,Tryz.sizeOf3,Tryz.sizeOf4,Tryz.sizeOf9,Tryz.sizeOf64,Tryz.sizeOf72,Tryz.sizeOf94,Tryz.sizeOf96,Tryz.sizeOf99,Tryz.sizeOf101,aL,Instr.fill,c0,c2]⟩
instance SM  :RV p_ (aD 48 []) (.agg #[(.int .i64 0),(.slice none 0 0),(.slice none 0 0)]):=⟨fun W w _=>by
   simp[aD,Instr.build,Tryz.zeroValue48,Tryz.runUnderlying48,Tryz.sizeOf3,Tryz.sizeOf35,Tryz.sizeOf46,aL,Instr.fill]⟩
instance DJ {a0 a1 a2:Value}[h0:OC a0][h1:OC a1][h2:OC a2]:RV p_ (aD 48 [(0,a0),(1,a1),(2,a2)]) (.agg #[a0,a1,a2]):=⟨fun W w _=>by
 have c0:=ao h0.one;have c1:=ao h1.one;have c2:=ao h2.one;simp[aD,Instr.build,Tryz.zeroValue48,Tryz.runUnderlying48,Tryz.sizeOf3,Tryz.sizeOf35,Tryz.sizeOf46,aL,Instr.fill,c0,c1,c2]⟩
instance HI {a0 a1:Value}[h0:OC a0][h1:OC a1]:RV p_ (aD 71 [(0,a0),(1,a1)]) (.agg #[a0,a1,(.slice none 0 0),(.slice none 0 0),(.slice none 0 0),(.int .i64 0),(.pointer none),(.pointer none),(.slice none 0 0)]):=⟨fun W w _=>by
 have c0:=ao h0.one;have c1:=ao h1.one;simp[aD,Instr.build,Tryz.zeroValue71,Tryz.runUnderlying71,Tryz.sizeOf3,Tryz.sizeOf24,Tryz.sizeOf39,Tryz.sizeOf64,Tryz.sizeOf65,Tryz.sizeOf66,Tryz.sizeOf67,Tryz.sizeOf68,Tryz.sizeOf69,aL,Instr.fill,c0,c1]⟩
instance Db {a0_0 a0_1 a1 a2:Value}[h1:OC a1][h2:OC a2]:RV p_ (aD 175 [(0,.agg #[a0_0,a0_1]),(3,a1),(6,a2)]) (.agg #[a0_0,a0_1,(.int .i64 0),(.int .i64 0),a1,(.bool false),.nilFunc,a2,(.pointer none),(.int .i64 0),(.string ⟨#[]⟩),(.string ⟨#[]⟩),(.int .i64 0),(.slice none 0 0),(.slice none 0 0),(.slice none 0 0),(.slice none 0 0),(.int .i64 0),(.slice none 0 0)]):=⟨fun W w _=>by
 have c1:=ao h1.one;have c2:=ao h2.one;simp[aD,Instr.build,Tryz.zeroValue175,Tryz.runUnderlying175,Tryz.sizeOf3,Tryz.sizeOf4,Tryz.sizeOf35,Tryz.sizeOf88,Tryz.sizeOf91,Tryz.sizeOf94,Tryz.sizeOf119,Tryz.sizeOf120,Tryz.sizeOf172,Tryz.sizeOf173,aL,Instr.fill,c1,c2]⟩
instance SN  :RV p_ (aD 99 []) (.agg #[(.int .i64 0),(.string ⟨#[]⟩),(.int .i64 0),(.string ⟨#[]⟩),(.string ⟨#[]⟩),(.bool false)]):=⟨fun W w _=>by
   simp[aD,Instr.build,Tryz.zeroValue99,Tryz.runUnderlying99,Tryz.sizeOf3,Tryz.sizeOf4,Tryz.sizeOf9,aL,Instr.fill]⟩
instance HJ {a0 a1:Value}[h0:OC a0][h1:OC a1]:RV p_ (aD 99 [(0,a0),(2,a1)]) (.agg #[a0,(.string ⟨#[]⟩),a1,(.string ⟨#[]⟩),(.string ⟨#[]⟩),(.bool false)]):=⟨fun W w _=>by
 have c0:=ao h0.one;have c1:=ao h1.one;simp[aD,Instr.build,Tryz.zeroValue99,Tryz.runUnderlying99,Tryz.sizeOf3,Tryz.sizeOf4,Tryz.sizeOf9,aL,Instr.fill,c0,c1]⟩
instance FZ {a0 a1:Value}[h0:OC a0][h1:OC a1]:RV p_ (aD 192 [(0,a0),(1,a1)]) (.agg #[a0,a1]):=⟨fun W w _=>by
 have c0:=ao h0.one;have c1:=ao h1.one;simp[aD,Instr.build,Tryz.zeroValue192,Tryz.runUnderlying192,Tryz.sizeOf9,aL,Instr.fill,c0,c1]⟩
instance F0 {a0 a1:Value}[h0:OC a0][h1:OC a1]:RV p_ (aD 203 [(0,a0),(1,a1)]) (.agg #[a0,a1]):=⟨fun W w _=>by
 have c0:=ao h0.one;have c1:=ao h1.one;simp[aD,Instr.build,Tryz.zeroValue203,Tryz.runUnderlying203,Tryz.sizeOf3,aL,Instr.fill,c0,c1]⟩
instance qM {a0 a1 a2 a3 a4 a5 a6 a7:Value}[h0:OC a0][h1:OC a1][h2:OC a2][h3:OC a3][h4:OC a4][h5:OC a5][h6:OC a6][h7:OC a7]:RV p_ (aD 207 [(0,a0),(1,a1),(2,a2),(3,a3),(4,a4),(5,a5),(6,a6),(7,a7)]) (.agg #[a0,a1,a2,a3,a4,a5,a6,a7]):=⟨fun W w _=>by
 have c0:=ao h0.one;have c1:=ao h1.one;have c2:=ao h2.one;have c3:=ao h3.one;have c4:=ao h4.one;have c5:=ao h5.one;have c6:=ao h6.one;have c7:=ao h7.one;simp[aD,Instr.build,Tryz.zeroValue207,Tryz.runUnderlying207,Tryz.sizeOf3,Tryz.sizeOf9,aL,Instr.fill,c0,c1,c2,c3,c4,c5,c6,c7]⟩
instance OQ  :RV p_ (aD 211 []) (.agg #[]):=⟨fun W w _=>by
   simp[aD,Instr.build,Tryz.zeroValue211,Tryz.runUnderlying211,aL,Instr.fill]⟩
instance F1 {a0 a1:Value}[h0:OC a0][h1:OC a1]:RV p_ (aD 230 [(0,a0),(1,a1)]) (.agg #[a0,a1,(.slice none 0 0),(.bool false),(.bool false),(.int .i64 0),(.int .i64 0),(.int .i64 0),.nilFunc,(.string ⟨#[]⟩),(.string ⟨#[]⟩),(.int .i64 0),(.slice none 0 0),(.int .i64 0),(.string ⟨#[]⟩),(.slice none 0 0)]):=⟨fun W w _=>by
 have c0:=ao h0.one;have c1:=ao h1.one;simp[aD,Instr.build,Tryz.zeroValue230,Tryz.runUnderlying230,Tryz.sizeOf3,Tryz.sizeOf4,Tryz.sizeOf9,Tryz.sizeOf29,Tryz.sizeOf35,Tryz.sizeOf46,Tryz.sizeOf94,Tryz.sizeOf228,aL,Instr.fill,c0,c1]⟩
instance OR  :RV p_ (aD 122 []) (.agg #[(.int .i64 0),(.int .i64 0)]):=⟨fun W w _=>by
   simp[aD,Instr.build,Tryz.zeroValue122,Tryz.runUnderlying122,Tryz.sizeOf3,aL,Instr.fill]⟩
instance HK {a0 a1:Value}[h0:OC a0][h1:OC a1]:RV p_ (aD 94 [(2,a0),(3,a1)]) (.agg #[(.string ⟨#[]⟩),(.string ⟨#[]⟩),a0,a1]):=⟨fun W w _=>by
 have c0:=ao h0.one;have c1:=ao h1.one;simp[aD,Instr.build,Tryz.zeroValue94,Tryz.runUnderlying94,Tryz.sizeOf3,Tryz.sizeOf9,Tryz.sizeOf46,aL,Instr.fill,c0,c1]⟩
instance Dc {a0_0 a0_1 a1 a2:Value}[h1:OC a1][h2:OC a2]:RV p_ (aD 234 [(0,.agg #[a0_0,a0_1]),(1,a1),(8,a2)]) (.agg #[a0_0,a0_1,a1,(.int .i64 0),(.int .i64 0),(.int .i64 0),(.slice none 0 0),(.bool false),(.slice none 0 0),a2,(.bool false),(.int .i64 0),(.slice none 0 0)]):=⟨fun W w _=>by
 have c1:=ao h1.one;have c2:=ao h2.one;simp[aD,Instr.build,Tryz.zeroValue234,Tryz.runUnderlying234,Tryz.sizeOf3,Tryz.sizeOf4,Tryz.sizeOf29,Tryz.sizeOf35,Tryz.sizeOf46,Tryz.sizeOf122,aL,Instr.fill,c1,c2]⟩
instance zw {a0 a1 a2 a3_0 a3_1:Value}[h0:OC a0][h1:OC a1][h2:OC a2]:RV p_ (aD 124 [(0,a0),(1,a1),(2,a2),(3,.agg #[a3_0,a3_1])]) (.agg #[a0,a1,a2,a3_0,a3_1,(.pointer none),(.int .i64 0),(.bool false),(.pointer none),(.pointer none),(.int .i64 0),(.int .i64 0),(.slice none 0 0)]):=⟨fun W w _=>by
 have c0:=ao h0.one;have c1:=ao h1.one;have c2:=ao h2.one;simp[aD,Instr.build,Tryz.zeroValue124,Tryz.runUnderlying124,Tryz.sizeOf3,Tryz.sizeOf4,Tryz.sizeOf35,Tryz.sizeOf64,Tryz.sizeOf97,Tryz.sizeOf118,Tryz.sizeOf119,Tryz.sizeOf120,Tryz.sizeOf122,aL,Instr.fill,c0,c1,c2]⟩
instance Ap {a0 a1 a2 a3:Value}[h0:OC a0][h1:OC a1][h2:OC a2][h3:OC a3]:RV p_ (aD 42 [(0,a0),(1,a1),(2,a2),(3,a3)]) (.agg #[a0,a1,a2,a3]):=⟨fun W w _=>by
 have c0:=ao h0.one;have c1:=ao h1.one;have c2:=ao h2.one;have c3:=ao h3.one;simp[aD,Instr.build,Tryz.zeroValue42,Tryz.runUnderlying42,Tryz.sizeOf3,Tryz.sizeOf4,Tryz.sizeOf35,aL,Instr.fill,c0,c1,c2,c3]⟩
instance F3 {a0 a1:Value}[h0:OC a0][h1:OC a1]:RV p_ (aD 178 [(0,a0),(1,a1)]) (.agg #[a0,a1,(.int .i64 0)]):=⟨fun W w _=>by
 have c0:=ao h0.one;have c1:=ao h1.one;simp[aD,Instr.build,Tryz.zeroValue178,Tryz.runUnderlying178,Tryz.sizeOf3,Tryz.sizeOf176,aL,Instr.fill,c0,c1]⟩
instance Mt {a0:Value}[h0:OC a0]:RV p_ (aD 254 [(2,a0)]) (.agg #[(.slice none 0 0),(.slice none 0 0),a0,(.int .i64 0)]):=⟨fun W w _=>by
 have c0:=ao h0.one;simp[aD,Instr.build,Tryz.zeroValue254,Tryz.runUnderlying254,Tryz.sizeOf3,Tryz.sizeOf22,Tryz.sizeOf252,aL,Instr.fill,c0]⟩
instance OS  :RV p_ (aD 162 []) (.agg #[(.string ⟨#[]⟩),(.slice none 0 0),(.int .i64 0)]):=⟨fun W w _=>by
   simp[aD,Instr.build,Tryz.zeroValue162,Tryz.runUnderlying162,Tryz.sizeOf3,Tryz.sizeOf9,Tryz.sizeOf35,aL,Instr.fill]⟩
instance DK {a0 a1 a2:Value}[h0:OC a0][h1:OC a1][h2:OC a2]:RV p_ (aD 80 [(0,a0),(1,a1),(3,a2)]) (.agg #[a0,a1,(.int .i64 0),a2,(.slice none 0 0),(.slice none 0 0)]):=⟨fun W w _=>by
 have c0:=ao h0.one;have c1:=ao h1.one;have c2:=ao h2.one;simp[aD,Instr.build,Tryz.zeroValue80,Tryz.runUnderlying80,Tryz.sizeOf3,Tryz.sizeOf77,Tryz.sizeOf78,aL,Instr.fill,c0,c1,c2]⟩
instance Mu {a0_0 a0_1 a0_2 a0_3 a0_4 a0_5:Value}  :RV p_ (aD 263 [(0,.agg #[a0_0,a0_1,a0_2,a0_3,a0_4,a0_5])]) (.agg #[a0_0,a0_1,a0_2,a0_3,a0_4,a0_5,(.int .i64 0)]):=⟨fun W w _=>by
   simp[aD,Instr.build,Tryz.zeroValue263,Tryz.runUnderlying263,Tryz.sizeOf3,Tryz.sizeOf80,aL,Instr.fill]⟩
instance HL {a0_0 a0_1 a0_2 a0_3 a0_4 a0_5 a1:Value}[h1:OC a1]:RV p_ (aD 84 [(0,.agg #[a0_0,a0_1,a0_2,a0_3,a0_4,a0_5]),(2,a1)]) (.agg #[a0_0,a0_1,a0_2,a0_3,a0_4,a0_5,(.slice none 0 0),a1,(.int .i64 0)]):=⟨fun W w _=>by
 have c1:=ao h1.one;simp[aD,Instr.build,Tryz.zeroValue84,Tryz.runUnderlying84,Tryz.sizeOf3,Tryz.sizeOf80,Tryz.sizeOf81,Tryz.sizeOf82,aL,Instr.fill,c1]⟩
instance F4 {a0 a1:Value}[h0:OC a0][h1:OC a1]:RV p_ (aD 241 [(1,a0),(2,a1)]) (.agg #[(.slice none 0 0),a0,a1,(.int .i64 0)]):=⟨fun W w _=>by
 have c0:=ao h0.one;have c1:=ao h1.one;simp[aD,Instr.build,Tryz.zeroValue241,Tryz.runUnderlying241,Tryz.sizeOf3,Tryz.sizeOf238,Tryz.sizeOf239,aL,Instr.fill,c0,c1]⟩
instance Mv {a0:Value}[h0:OC a0]:RV p_ (aD 276 [(2,a0)]) (.agg #[(.slice none 0 0),(.int .i64 0),a0,(.int .i64 0)]):=⟨fun W w _=>by
 have c0:=ao h0.one;simp[aD,Instr.build,Tryz.zeroValue276,Tryz.runUnderlying276,Tryz.sizeOf3,Tryz.sizeOf33,aL,Instr.fill,c0]⟩
instance Mw {a0:Value}[h0:OC a0]:RV p_ (aD 322 [(2,a0)]) (.agg #[(.bool false),(.bool false),a0]):=⟨fun W w _=>by
 have c0:=ao h0.one;simp[aD,Instr.build,Tryz.zeroValue322,Tryz.runUnderlying322,Tryz.sizeOf4,Tryz.sizeOf320,aL,Instr.fill,c0]⟩
instance DL {a0 a1 a2:Value}[h0:OC a0][h1:OC a1][h2:OC a2]:RV p_ (aD 94 [(0,a0),(1,a1),(2,a2)]) (.agg #[a0,a1,a2,(.slice none 0 0)]):=⟨fun W w _=>by
 have c0:=ao h0.one;have c1:=ao h1.one;have c2:=ao h2.one;simp[aD,Instr.build,Tryz.zeroValue94,Tryz.runUnderlying94,Tryz.sizeOf3,Tryz.sizeOf9,Tryz.sizeOf46,aL,Instr.fill,c0,c1,c2]⟩
instance F5 {a0 a1:Value}[h0:OC a0][h1:OC a1]:RV p_ (aD 122 [(0,a0),(1,a1)]) (.agg #[a0,a1]):=⟨fun W w _=>by
 have c0:=ao h0.one;have c1:=ao h1.one;simp[aD,Instr.build,Tryz.zeroValue122,Tryz.runUnderlying122,Tryz.sizeOf3,aL,Instr.fill,c0,c1]⟩
instance wP {a0 a1 a2 a3 a4:Value}[h0:OC a0][h1:OC a1][h2:OC a2][h3:OC a3][h4:OC a4]:RV p_ (aD 332 [(0,a0),(1,a1),(2,a2),(3,a3),(4,a4)]) (.agg #[a0,a1,a2,a3,a4]):=⟨fun W w _=>by
 have c0:=ao h0.one;have c1:=ao h1.one;have c2:=ao h2.one;have c3:=ao h3.one;have c4:=ao h4.one;simp[aD,Instr.build,Tryz.zeroValue332,Tryz.runUnderlying332,Tryz.sizeOf231,aL,Instr.fill,c0,c1,c2,c3,c4]⟩
instance OT  :RV p_ (aD 118 []) (.agg #[(.int .i64 0),(.int .i64 0)]):=⟨fun W w _=>by
   simp[aD,Instr.build,Tryz.zeroValue118,Tryz.runUnderlying118,Tryz.sizeOf3,aL,Instr.fill]⟩
instance F6 {a0 a1:Value}[h0:OC a0][h1:OC a1]:RV p_ (aD 118 [(0,a0),(1,a1)]) (.agg #[a0,a1]):=⟨fun W w _=>by
 have c0:=ao h0.one;have c1:=ao h1.one;simp[aD,Instr.build,Tryz.zeroValue118,Tryz.runUnderlying118,Tryz.sizeOf3,aL,Instr.fill,c0,c1]⟩
instance OU  :RV p_ (aD 269 []) (.agg #[(.slice none 0 0),(.int .i64 0),(.bool false),(.slice none 0 0)]):=⟨fun W w _=>by
   simp[aD,Instr.build,Tryz.zeroValue269,Tryz.runUnderlying269,Tryz.sizeOf3,Tryz.sizeOf4,Tryz.sizeOf33,Tryz.sizeOf267,aL,Instr.fill]⟩
instance Mx {a0:Value}[h0:OC a0]:RV p_ (aD 269 [(1,a0)]) (.agg #[(.slice none 0 0),a0,(.bool false),(.slice none 0 0)]):=⟨fun W w _=>by
 have c0:=ao h0.one;simp[aD,Instr.build,Tryz.zeroValue269,Tryz.runUnderlying269,Tryz.sizeOf3,Tryz.sizeOf4,Tryz.sizeOf33,Tryz.sizeOf267,aL,Instr.fill,c0]⟩
instance Dd {a0 a1 a2:Value}[h0:OC a0][h1:OC a1][h2:OC a2]:RV p_ (aD 312 [(1,a0),(2,a1),(5,a2)]) (.agg #[(.slice none 0 0),a0,a1,(.int .i64 0),(.int .i64 0),a2]):=⟨fun W w _=>by
 have c0:=ao h0.one;have c1:=ao h1.one;have c2:=ao h2.one;simp[aD,Instr.build,Tryz.zeroValue312,Tryz.runUnderlying312,Tryz.sizeOf3,Tryz.sizeOf309,Tryz.sizeOf310,aL,Instr.fill,c0,c1,c2]⟩
instance F7 {a0_0 a0_1 a1:Value}[h1:OC a1]:RV p_ (aD 317 [(0,.agg #[a0_0,a0_1]),(3,a1)]) (.agg #[a0_0,a0_1,(.slice none 0 0),(.int .i64 0),a1]):=⟨fun W w _=>by
 have c1:=ao h1.one;simp[aD,Instr.build,Tryz.zeroValue317,Tryz.runUnderlying317,Tryz.sizeOf3,Tryz.sizeOf22,Tryz.sizeOf315,aL,Instr.fill,c1]⟩
instance F8 {a0 a1:Value}[h0:OC a0][h1:OC a1]:RV p_ (aD 387 [(0,a0),(1,a1)]) (.agg #[a0,a1]):=⟨fun W w _=>by
 have c0:=ao h0.one;have c1:=ao h1.one;simp[aD,Instr.build,Tryz.zeroValue387,Tryz.runUnderlying387,Tryz.sizeOf386,aL,Instr.fill,c0,c1]⟩
instance zy {a0 a1 a2 a3:Value}[h0:OC a0][h1:OC a1][h2:OC a2][h3:OC a3]:RV p_ (aD 432 [(0,a0),(1,a1),(2,a2),(3,a3)]) (.agg #[a0,a1,a2,a3]):=⟨fun W w _=>by
 have c0:=ao h0.one;have c1:=ao h1.one;have c2:=ao h2.one;have c3:=ao h3.one;simp[aD,Instr.build,Tryz.zeroValue432,Tryz.runUnderlying432,Tryz.sizeOf28,aL,Instr.fill,c0,c1,c2,c3]⟩
instance s5 {a0 a1 a2 a3 a4_0 a4_1 a4_2 a5 a6:Value}[h0:OC a0][h1:OC a1][h2:OC a2][h3:OC a3][h5:OC a5][h6:OC a6]:RV p_ (aD 444 [(0,a0),(1,a1),(2,a2),(3,a3),(4,.agg #[a4_0,a4_1,a4_2]),(5,a5),(6,a6)]) (.agg #[a0,a1,a2,a3,a4_0,a4_1,a4_2,a5,a6,(.int .i64 0)]):=⟨fun W w _=>by
 have c0:=ao h0.one;have c1:=ao h1.one;have c2:=ao h2.one;have c3:=ao h3.one;have c5:=ao h5.one;have c6:=ao h6.one;simp[aD,Instr.build,Tryz.zeroValue444,Tryz.runUnderlying444,Tryz.sizeOf3,Tryz.sizeOf9,Tryz.sizeOf46,Tryz.sizeOf48,aL,Instr.fill,c0,c1,c2,c3,c5,c6]⟩
instance De {a0 a1 a2:Value}[h0:OC a0][h1:OC a1][h2:OC a2]:RV p_ (aD 346 [(2,a0),(1,a1),(5,a2)]) (.agg #[(.string ⟨#[]⟩),a1,a0,(.bool false),(.bool false),a2]):=⟨fun W w _=>by
 have c0:=ao h0.one;have c1:=ao h1.one;have c2:=ao h2.one;simp[aD,Instr.build,Tryz.zeroValue346,Tryz.runUnderlying346,Tryz.sizeOf3,Tryz.sizeOf4,Tryz.sizeOf9,Tryz.sizeOf344,aL,Instr.fill,c0,c1,c2]⟩
instance wQ {a0 a1 a2 a3 a4:Value}[h0:OC a0][h1:OC a1][h2:OC a2][h3:OC a3][h4:OC a4]:RV p_ (aD 346 [(1,a0),(2,a1),(3,a2),(4,a3),(5,a4)]) (.agg #[(.string ⟨#[]⟩),a0,a1,a2,a3,a4]):=⟨fun W w _=>by
 have c0:=ao h0.one;have c1:=ao h1.one;have c2:=ao h2.one;have c3:=ao h3.one;have c4:=ao h4.one;simp[aD,Instr.build,Tryz.zeroValue346,Tryz.runUnderlying346,Tryz.sizeOf3,Tryz.sizeOf4,Tryz.sizeOf9,Tryz.sizeOf344,aL,Instr.fill,c0,c1,c2,c3,c4]⟩
instance wR {a0 a1 a2 a3 a4:Value}[h0:OC a0][h1:OC a1][h2:OC a2][h3:OC a3][h4:OC a4]:RV p_ (aD 346 [(0,a0),(1,a1),(2,a2),(4,a3),(5,a4)]) (.agg #[a0,a1,a2,(.bool false),a3,a4]):=⟨fun W w _=>by
 have c0:=ao h0.one;have c1:=ao h1.one;have c2:=ao h2.one;have c3:=ao h3.one;have c4:=ao h4.one;simp[aD,Instr.build,Tryz.zeroValue346,Tryz.runUnderlying346,Tryz.sizeOf3,Tryz.sizeOf4,Tryz.sizeOf9,Tryz.sizeOf344,aL,Instr.fill,c0,c1,c2,c3,c4]⟩
instance zA {a0 a1 a2 a3:Value}[h0:OC a0][h1:OC a1][h2:OC a2][h3:OC a3]:RV p_ (aD 346 [(0,a0),(1,a1),(2,a2),(5,a3)]) (.agg #[a0,a1,a2,(.bool false),(.bool false),a3]):=⟨fun W w _=>by
 have c0:=ao h0.one;have c1:=ao h1.one;have c2:=ao h2.one;have c3:=ao h3.one;simp[aD,Instr.build,Tryz.zeroValue346,Tryz.runUnderlying346,Tryz.sizeOf3,Tryz.sizeOf4,Tryz.sizeOf9,Tryz.sizeOf344,aL,Instr.fill,c0,c1,c2,c3]⟩
instance Df {a0 a1 a2:Value}[h0:OC a0][h1:OC a1][h2:OC a2]:RV p_ (aD 346 [(3,a0),(4,a1),(5,a2)]) (.agg #[(.string ⟨#[]⟩),(.int .i64 0),(.int .i64 0),a0,a1,a2]):=⟨fun W w _=>by
 have c0:=ao h0.one;have c1:=ao h1.one;have c2:=ao h2.one;simp[aD,Instr.build,Tryz.zeroValue346,Tryz.runUnderlying346,Tryz.sizeOf3,Tryz.sizeOf4,Tryz.sizeOf9,Tryz.sizeOf344,aL,Instr.fill,c0,c1,c2]⟩
instance F9 {a0 a1:Value}[h0:OC a0][h1:OC a1]:RV p_ (aD 346 [(0,a0),(5,a1)]) (.agg #[a0,(.int .i64 0),(.int .i64 0),(.bool false),(.bool false),a1]):=⟨fun W w _=>by
 have c0:=ao h0.one;have c1:=ao h1.one;simp[aD,Instr.build,Tryz.zeroValue346,Tryz.runUnderlying346,Tryz.sizeOf3,Tryz.sizeOf4,Tryz.sizeOf9,Tryz.sizeOf344,aL,Instr.fill,c0,c1]⟩
instance uX {a0 a1 a2 a3 a4 a5:Value}[h0:OC a0][h1:OC a1][h2:OC a2][h3:OC a3][h4:OC a4][h5:OC a5]:RV p_ (aD 346 [(0,a0),(1,a1),(2,a2),(3,a3),(4,a4),(5,a5)]) (.agg #[a0,a1,a2,a3,a4,a5]):=⟨fun W w _=>by
 have c0:=ao h0.one;have c1:=ao h1.one;have c2:=ao h2.one;have c3:=ao h3.one;have c4:=ao h4.one;have c5:=ao h5.one;simp[aD,Instr.build,Tryz.zeroValue346,Tryz.runUnderlying346,Tryz.sizeOf3,Tryz.sizeOf4,Tryz.sizeOf9,Tryz.sizeOf344,aL,Instr.fill,c0,c1,c2,c3,c4,c5]⟩
instance F_ {a0 a1:Value}[h0:OC a0][h1:OC a1]:RV p_ (aD 360 [(0,a0),(2,a1)]) (.agg #[a0,(.string ⟨#[]⟩),a1]):=⟨fun W w _=>by
 have c0:=ao h0.one;have c1:=ao h1.one;simp[aD,Instr.build,Tryz.zeroValue360,Tryz.runUnderlying360,Tryz.sizeOf3,Tryz.sizeOf5,Tryz.sizeOf9,aL,Instr.fill,c0,c1]⟩
instance Ga {a0 a1:Value}[h0:OC a0][h1:OC a1]:RV p_ (aD 360 [(1,a0),(2,a1)]) (.agg #[(.int .u8 0),a0,a1]):=⟨fun W w _=>by
 have c0:=ao h0.one;have c1:=ao h1.one;simp[aD,Instr.build,Tryz.zeroValue360,Tryz.runUnderlying360,Tryz.sizeOf3,Tryz.sizeOf5,Tryz.sizeOf9,aL,Instr.fill,c0,c1]⟩
instance Dg {a0 a1 a2:Value}[h0:OC a0][h1:OC a1][h2:OC a2]:RV p_ (aD 401 [(0,a0),(1,a1),(2,a2)]) (.agg #[a0,a1,a2]):=⟨fun W w _=>by
 have c0:=ao h0.one;have c1:=ao h1.one;have c2:=ao h2.one;simp[aD,Instr.build,Tryz.zeroValue401,Tryz.runUnderlying401,Tryz.sizeOf354,aL,Instr.fill,c0,c1,c2]⟩
instance qN {a0 a1 a2 a3 a4 a5 a6 a7:Value}[h0:OC a0][h1:OC a1][h2:OC a2][h3:OC a3][h4:OC a4][h5:OC a5][h6:OC a6][h7:OC a7]:RV p_ (aD 407 [(0,a0),(1,a1),(2,a2),(3,a3),(4,a4),(5,a5),(6,a6),(7,a7)]) (.agg #[a0,a1,a2,a3,a4,a5,a6,a7]):=⟨fun W w _=>by
 have c0:=ao h0.one;have c1:=ao h1.one;have c2:=ao h2.one;have c3:=ao h3.one;have c4:=ao h4.one;have c5:=ao h5.one;have c6:=ao h6.one;have c7:=ao h7.one;simp[aD,Instr.build,Tryz.zeroValue407,Tryz.runUnderlying407,Tryz.sizeOf320,aL,Instr.fill,c0,c1,c2,c3,c4,c5,c6,c7]⟩
instance Dh {a0 a1 a2:Value}[h0:OC a0][h1:OC a1][h2:OC a2]:RV p_ (aD 145 [(0,a0),(2,a1),(3,a2)]) (.agg #[a0,(.slice none 0 0),a1,a2]):=⟨fun W w _=>by
 have c0:=ao h0.one;have c1:=ao h1.one;have c2:=ao h2.one;simp[aD,Instr.build,Tryz.zeroValue145,Tryz.runUnderlying145,Tryz.sizeOf3,Tryz.sizeOf9,Tryz.sizeOf143,aL,Instr.fill,c0,c1,c2]⟩
instance Gb {a0 a1:Value}[h0:OC a0][h1:OC a1]:RV p_ (aD 315 [(0,a0),(1,a1)]) (.agg #[a0,a1]):=⟨fun W w _=>by
 have c0:=ao h0.one;have c1:=ao h1.one;simp[aD,Instr.build,Tryz.zeroValue315,Tryz.runUnderlying315,Tryz.sizeOf3,aL,Instr.fill,c0,c1]⟩
instance OV  :RV p_ (aD 200 []) (.agg #[(.slice none 0 0),(.bool false),(.slice none 0 0)]):=⟨fun W w _=>by
   simp[aD,Instr.build,Tryz.zeroValue200,Tryz.runUnderlying200,Tryz.sizeOf4,Tryz.sizeOf33,Tryz.sizeOf198,aL,Instr.fill]⟩
instance My {a0:Value}[h0:OC a0]:RV p_ (aD 101 [(0,a0)]) (.agg #[a0,(.int .i64 0),(.string ⟨#[]⟩),(.string ⟨#[]⟩),(.int .i64 0),(.int .i64 0),(.string ⟨#[]⟩),(.bool false),(.int .i64 0),(.int .i64 0),(.int .i64 0),(.string ⟨#[]⟩)]):=⟨fun W w _=>by
 have c0:=ao h0.one;simp[aD,Instr.build,Tryz.zeroValue101,Tryz.runUnderlying101,Tryz.sizeOf3,Tryz.sizeOf4,Tryz.sizeOf9,aL,Instr.fill,c0]⟩
instance OW  :RV p_ (aD 101 []) (.agg #[(.string ⟨#[]⟩),(.int .i64 0),(.string ⟨#[]⟩),(.string ⟨#[]⟩),(.int .i64 0),(.int .i64 0),(.string ⟨#[]⟩),(.bool false),(.int .i64 0),(.int .i64 0),(.int .i64 0),(.string ⟨#[]⟩)]):=⟨fun W w _=>by
   simp[aD,Instr.build,Tryz.zeroValue101,Tryz.runUnderlying101,Tryz.sizeOf3,Tryz.sizeOf4,Tryz.sizeOf9,aL,Instr.fill]⟩
instance DM {a0 a1_0 a1_1 a1_2 a1_3 a2:Value}[h0:OC a0][h2:OC a2]:RV p_ (aD 96 [(0,a0),(1,.agg #[a1_0,a1_1,a1_2,a1_3]),(2,a2)]) (.agg #[a0,a1_0,a1_1,a1_2,a1_3,a2]):=⟨fun W w _=>by
 have c0:=ao h0.one;have c2:=ao h2.one;simp[aD,Instr.build,Tryz.zeroValue96,Tryz.runUnderlying96,Tryz.sizeOf3,Tryz.sizeOf35,Tryz.sizeOf94,aL,Instr.fill,c0,c2]⟩
instance Di {a0 a1_0 a1_1 a1_2 a1_3 a2:Value}[h0:OC a0][h2:OC a2]:RV p_ (aD 302 [(0,a0),(1,.agg #[a1_0,a1_1,a1_2,a1_3]),(2,a2)]) (.agg #[a0,a1_0,a1_1,a1_2,a1_3,a2,(.pointer none)]):=⟨fun W w _=>by
 have c0:=ao h0.one;have c2:=ao h2.one;simp[aD,Instr.build,Tryz.zeroValue302,Tryz.runUnderlying302,Tryz.sizeOf3,Tryz.sizeOf4,Tryz.sizeOf94,Tryz.sizeOf300,aL,Instr.fill,c0,c2]⟩
instance wS {a0 a1 a2 a3 a4:Value}[h0:OC a0][h1:OC a1][h2:OC a2][h3:OC a3][h4:OC a4]:RV p_ (aD 492 [(0,a0),(1,a1),(2,a2),(3,a3),(4,a4)]) (.agg #[a0,a1,a2,a3,a4]):=⟨fun W w _=>by
 have c0:=ao h0.one;have c1:=ao h1.one;have c2:=ao h2.one;have c3:=ao h3.one;have c4:=ao h4.one;simp[aD,Instr.build,Tryz.zeroValue492,Tryz.runUnderlying492,Tryz.sizeOf406,aL,Instr.fill,c0,c1,c2,c3,c4]⟩
instance Dj {a0 a1 a2:Value}[h0:OC a0][h1:OC a1][h2:OC a2]:RV p_ (aD 580 [(0,a0),(1,a1),(2,a2)]) (.agg #[a0,a1,a2]):=⟨fun W w _=>by
 have c0:=ao h0.one;have c1:=ao h1.one;have c2:=ao h2.one;simp[aD,Instr.build,Tryz.zeroValue580,Tryz.runUnderlying580,Tryz.sizeOf4,Tryz.sizeOf578,aL,Instr.fill,c0,c1,c2]⟩
instance Dk {a0 a1 a2:Value}[h0:OC a0][h1:OC a1][h2:OC a2]:RV p_ (aD 642 [(0,a0),(1,a1),(2,a2)]) (.agg #[a0,a1,a2]):=⟨fun W w _=>by
 have c0:=ao h0.one;have c1:=ao h1.one;have c2:=ao h2.one;simp[aD,Instr.build,Tryz.zeroValue642,Tryz.runUnderlying642,Tryz.sizeOf9,Tryz.sizeOf462,aL,Instr.fill,c0,c1,c2]⟩
end Go.Proofs.YtdjkdjepjahjfaaGreatDoor.T
namespace Go.Proofs.YtdjkdjepjahjfaaGreatDoor.Sl
open Go Sh
variable {P:Program} {W:World} {L L':List HP} {Kp:PK} {k:Value->WP}
theorem tF:∀(vs pre zs:List Value),zs.length=vs.length->(∀v∈vs,v.cells= #[v])->
  Instr.fill (fun i=>some (i * 1,1)) (pre++zs).toArray ((vs.zipIdx pre.length).map fun x=>(x.2,x.1))=some (pre++vs).toArray
 |[],pre,zs,hz,_=>by
  have:zs=[]:=List.eq_nil_of_length_eq_zero (by simpa using hz)
  subst this;simp[Instr.fill]
 |v::vs,pre,[],hz,_=>by simp at hz
 |v::vs,pre,z::zs,hz,ho=>by
  have hv:=ho v (by simp)
  have ih:=tF vs (pre++[v]) zs (by simpa using hz) (fun u hu=>ho u (by simp[hu]))
  simp only[List.zipIdx_cons,List.map_cons,Instr.fill,hv]
  rw[if_neg (by simp)]
  have h2:Array.foldl (fun cs (x:Value × Nat)=>cs.setIfInBounds (pre.length * 1+x.2) x.1) (pre++z::zs).toArray (#[v]:Array Value).zipIdx=(pre++[v]++zs).toArray:=by
   simp
  have h3:(pre++[v]).length=pre.length+1:=by simp
  rw[h3]at ih
  rw[h2,ih];simp
theorem ej {t e:TypeId} {b n:Nat} {parts:List (Nat × Value)} {vs:List Value} [ht:SlT P t e 1 b] (hn:vs.length=n) (hp:parts=vs.zipIdx.map fun x=>(x.2,x.1)) (ho:∀v∈vs,v.cells= #[v]) (hm:n<=16777216)
  (h:∀g,aJ W (pt g (.cells vs.toArray e)::L) (k (.slice (some ⟨g,0,none⟩) n n))):aJ W L (opN P (co t n parts) Kp k):=fun w hw=>by
 refine⟨?_⟩
 obtain⟨i,z,hi,hz,hs,hb,hzs⟩:=ht.info
 have:(co t n parts).run P w= .ok (.value (.slice (some ⟨w.heap.size,0,none⟩) n n)) (w.alloc (.cells vs.toArray e)):=by
  have hm':¬(2^24<n):=by omega
  have hf:∀zs:List Value,zs.length=vs.length->Instr.fill (fun i=>some (i * 1,1)) zs.toArray parts=some vs.toArray:=fun zs hz=>by
   have:=tF vs [] zs hz ho
   simpa [hp]using this
  by_cases h0:n=0
  ·have:vs=[]:=List.eq_nil_of_length_eq_zero (by omega)
   subst this;subst h0
   simp[co,Instr.buildSlice,run_underlying ht.ut,dQ hi,hs,hp,newRow,Instr.fill]
   have e0:(Array.range 0).map (fun _=>(default:Value))= #[]:=Array.eq_empty_of_size_eq_zero (by simp)
   rw[e0]
  ·have hf':=hf ((List.range n).map fun j=>z.cells[j%z.cells.size]!) (by simp[hn])
   have e1:((Array.range n).map fun j=>z.cells[j%z.cells.size]!)=((List.range n).map fun j=>z.cells[j%z.cells.size]!).toArray:=by
    apply Array.ext'
    simp[Array.toList_range]
   rw[<- e1]at hf'
   simp only[Nat.mul_one]at hf'
   simp[co,Instr.buildSlice,run_underlying ht.ut,dQ hi,hs,h0,hm',zeroValue,typeInfo,hi,hz,newRow,hf']
 rw[this]
 exact h _ _ (hw.alloc _)
theorem HM {t e:TypeId} {b:Nat} {z:Value} {q r:IntKind} {l c:Int} (n m:Nat) [ht:SlT P t e 1 b] [hz:ZeroT P e z] [hc:OC z] (hl:l=(n:Int)) (hcm:c=(m:Int)) (h1:n<=m) (h2:b * m<=281474976710656) (h3:m<=maxLen)
  (h:∀g,aJ W (Sl 1 e (some ⟨g,0,none⟩) m n (List.replicate n z)::L) (k (.slice (some ⟨g,0,none⟩) n m))):aJ W L (opN P (wB t (.int q l) (.int r c)) Kp k):=fun w hw=>by
 refine⟨?_⟩
 obtain⟨i,z',hi,hz',hs,hb,hzs⟩:=ht.info
 have e0:z'=z:=by
  have:=hz.run w
  simp[zeroValue,typeInfo,hi,hz']at this
  exact this
 subst e0
 subst hl;subst hcm
 have hcz:z'.cells= #[z']:=ao hc.one
 have hbm:(i.bytes:Int) * (m:Int)<=281474976710656:=by
  rw[hb]
  obtain⟨X,hX⟩:∃X,X=b * m:=⟨_,rfl⟩
  have h4:(X:Int)<=281474976710656:=by omega
  rw[hX,Int.natCast_mul]at h4
  exact h4
 have hr:=run_make (P:=P) (w:=w) t e i z' ht.ut hi hz' q r n m (by omega) (by omega) hbm (by unfold maxLen at h3;omega)
 simp only[Int.toNat_natCast,hs,Nat.mul_one]at hr
 have e1:madeCells z'.cells m=(List.replicate n z'++List.replicate (m-n) z').toArray:=by
  rw[hcz,List.replicate_append_replicate]
  apply Array.ext'
  simp[madeCells,Array.toList_range,Nat.mod_one]
  rw[show n+(m-n)=m by omega]
  apply List.ext_getElem <;> simp
 have:(wB t (.int q n) (.int r m)).run P w= .ok (.value (.slice (some ⟨w.heap.size,0,none⟩) n m)) (w.alloc (.cells (List.replicate n z'++List.replicate (m-n) z').toArray e)):=by
  simp[wB,hr,e1]
 rw[this]
 refine h _ _ ?_
 have:=hw.alloc (.cells (List.replicate n z'++List.replicate (m-n) z').toArray e)
 refine Imp.sat (L:=pt w.heap.size (.cells (List.replicate n z'++List.replicate (m-n) z').toArray e)::L) ?_ this
 exact .conv (B:=pt w.heap.size (.cells (List.replicate n z'++List.replicate (m-n) z').toArray e)) (fun f hf=>⟨by simp,h1,h3,.inr ⟨_,List.replicate (m-n) z',rfl,by simp,hf⟩⟩) (.pick .here .refl)
end Go.Proofs.YtdjkdjepjahjfaaGreatDoor.Sl
namespace Go.Proofs.YtdjkdjepjahjfaaGreatDoor.Sl
open Go Go.RowKit Sh
variable {P:Program} {W:World} {L L':List HP} {Kp:PK} {k:Value->WP} {H:Type} {enc:TypeId × Value->H}
theorem yl {w:World}{a:Addr}{v:Value}(h:w.cell? a=some v):a.spot=none/\a.block<w.heap.size:=by
 unfold World.cell? at h
 split at h
 ·rename_i c _ _ e
  refine⟨?_,(Array.getElem?_eq_some_iff.1 e).1⟩
  cases hs:a.spot with
  |none=>rfl
  |some x=>rw[hs]at h;simp at h
 ·cases h
structure Old {α:Type}(W:World)(s:Nat)(rd:α->List Value->Prop)(a:Option Addr)(n:Nat)(xs:List α):Prop where
 len:xs.length=n
 at_:0<n->∃g o,a=some ⟨g,o,none⟩/\g<W.heap.size/\∀(i:Nat) (h:i<xs.length),∃cs:List Value,cs.length=s/\rd xs[i] cs/\∀(j:Nat) (v:Value),cs[j]? =some v->W.cell? ⟨g,o+(i * s+j),none⟩=some v
theorem wT {t:TypeId}{g o:Nat}{v:Value}[ht:OneT P t](hg:g<W.heap.size)(hv:W.cell? ⟨g,o,none⟩=some v):aQ P W [] (aG t (.pointer (some ⟨g,o,none⟩))) v:=by
 have H:RdB W (pu True) (some ⟨g,o,none⟩) 1 [v]:=Hl rfl hg (fun j u hu=>by
  match j,hu with
  |0,hu=>simp at hu;subst hu;exact hv)
 have:=dv (P:=P) (t:=t) (j:=0) H rfl
 exact fun w hw=>this w (Imp.sat (.pu trivial .refl) hw)
theorem tG {α:Type}{n:Nat}{R:Nat->α->Prop}(h:∀i,i<n->∃a,R i a):∃xs:List α,xs.length=n/\∀(i:Nat) (hi:i<xs.length),R i xs[i]:=by
 induction n with
 |zero=>exact⟨[],rfl,fun i hi=>by simp at hi⟩
 |succ n ih=>
  obtain⟨xs,h1,h2⟩:=ih fun i hi=>h i (by omega)
  obtain⟨a,ha⟩:=h n (by omega)
  refine⟨xs++[a],by simp[h1],fun i hi=>?_⟩
  by_cases c:i<xs.length
  ·rw[List.getElem_append_left c];exact h2 i c
  ·have:i=n:=by simp at hi;omega
   subst this
   rw[List.getElem_append_right (by omega)]
   simpa [h1]using ha
theorem ym (d:DataW H)(r:List (DataW H)):Rows.uptoBulkAll (d::r)=Rows.uptoBulk d+Rows.uptoBulkAll r:=by simp[Rows.uptoBulkAll]
theorem tH {α:Type}{m:α->Nat}:∀(xs:List α) (ds:List (DataW H)),xs.length=ds.length->(∀(i:Nat) (h1:i<xs.length) (h2:i<ds.length),m xs[i]<=Rows.uptoBulk ds[i])->(xs.map m).sum<=Rows.uptoBulkAll ds
 |[],[],_,_=>by simp
 |x::xs,d::ds,hl,h=>by
  have h0:=h 0 (by simp) (by simp)
  have ih:=tH xs ds (by simpa using hl) (fun i h1 h2=>h (i+1) (by simp;omega) (by simp;omega))
  rw[ym,List.map_cons,List.sum_cons]
  simp only[List.getElem_cons_zero]at h0
  omega
theorem Aq {α:Type} {rd:α->List Value->Prop} {m:α->Nat} {t e:TypeId} {s fuel:Nat} {sp:Nat->Bool} {held:Bool} {cs:List Value} {x:DataW H × List MemPlace} (ht:P.underlying t=some (.slice e)) (hc:P.cellsOf e=s) (hs:0<s)
  (op:∀(n:Nat) (cs:List Value) (x:DataW H × List MemPlace),DataW.trod enc P W 0 sp held n e cs=some x->∃a,rd a cs/\m a<=Rows.uptoBulk x.1) (h:DataW.trod enc P W 0 sp held fuel t cs=some x):
  ∃(a:Option Addr) (n cap:Nat) (xs:List α),cs=[.slice a n cap]/\n<=cap/\cap<=maxLen/\(a=none->n=0/\cap=0)/\Old W s rd a n xs/\(xs.map m).sum+1<=Rows.uptoBulk x.1:=by
 rcases DataW.trod_slice ht h with ⟨rfl,rfl⟩|⟨a,len,cap,elems,rest,n,rfl,rfl,rfl,hb,hl,hm,he,hel,_,_⟩
 ·exact⟨none,0,0,[],rfl,Nat.le_refl _,by unfold maxLen;omega,fun _=>⟨rfl,rfl⟩,⟨rfl,fun c=>by omega⟩,by simp[Rows.uptoBulk]⟩
 ·have cell0:∀i,i<len->∃ds:List Value,ds.length=s/\(∃y,rd y ds/\∀h:i<elems.length,m y<=Rows.uptoBulk elems[i].1)/\∀j,j<s->W.cell? ((a.add (i * s)).add j)=ds[j]? :=fun i hi=>by
   have h1:=hel i hi
   rw[List.getElem?_eq_getElem (by omega),Option.bind_eq_some_iff]at h1
   obtain⟨ds,h2,h3⟩:=h1
   unfold World.cells? at h2
   rw[if_pos (Nat.zero_le _),hc]at h2
   obtain⟨y,hy,hm2⟩:=op _ _ _ h3
   exact⟨ds,by simpa using mapM_some_length h2,⟨y,hy,fun _=>hm2⟩,fun j hj=>mapM_some_get h2 j j (by simp[hj])⟩
  by_cases hz:len=0
  ·subst hz
   exact⟨some a,0,cap,[],rfl,hl,hm,(fun c=>by cases c),⟨rfl,fun c=>by omega⟩,by simp[Rows.uptoBulk]⟩
  obtain⟨d0,hd0,_,hg0⟩:=cell0 0 (by omega)
  have h0:=hg0 0 hs
  have ea:(a.add (0 * s)).add 0=a:=by unfold Addr.add;simp
  rw[ea,List.getElem?_eq_getElem (by omega)]at h0
  obtain⟨s1,s2⟩:=yl h0
  obtain⟨g,o,sp'⟩:=a
  obtain rfl:sp'=none:=s1
  have key:∀i,i<len->∃y:α,(∀h:i<elems.length,m y<=Rows.uptoBulk elems[i].1)/\∃ds:List Value,ds.length=s/\rd y ds/\∀(j:Nat) (v:Value),ds[j]? =some v->W.cell? ⟨g,o+(i * s+j),none⟩=some v:=fun i hi=>by
   obtain⟨ds,hlen,⟨y,hy,hyb⟩,hget⟩:=cell0 i hi
   refine⟨y,hyb,ds,hlen,hy,fun j v hv=>?_⟩
   have hj:j<s:=by
    rcases Nat.lt_or_ge j ds.length with c|c
    ·omega
    ·rw[List.getElem?_eq_none c]at hv;cases hv
   have:=hget j hj
   rw[du,du,hv,Nat.add_assoc]at this
   exact this
  obtain⟨xs,h1,h2⟩:=tG key
  refine⟨some ⟨g,o,none⟩,len,cap,xs,rfl,hl,hm,(fun c=>by cases c),⟨h1,fun hn=>⟨g,o,rfl,s2,fun i hi=>(h2 i hi).2⟩⟩,?_⟩
  have:=tH (m:=m) xs (elems.map (·.1)) (by simp;omega) (fun i e1 e2=>by simpa using (h2 i e1).1 (by simpa using e2))
  simp only[Rows.uptoBulk]
  omega
theorem tI {α:Type}:∀l:List α,(l.map fun _=>1).sum=l.length
 |[]=>rfl
 |x::l=>by simp[tI l];omega
theorem vw {t e:TypeId}{v:Value}{d:DataW H}{ps:List MemPlace}{r:Reach}{b0:Nat}{sp:Nat->Bool}{held:Bool}(ht:P.underlying t=some (.slice e))(hval:Value.okWide P W r b0 t v)(hd:DataW.Trod enc P W 0 sp held t v d ps):
  ∃fuel,DataW.trod enc P W 0 sp held fuel t [v]=some (d,ps):=by
 obtain⟨a,n,c,rfl⟩:=WideShapes.okWide_slice ht hval
 obtain⟨fuel,hf⟩:=hd
 exact⟨fuel,hf⟩
end Go.Proofs.YtdjkdjepjahjfaaGreatDoor.Sl
namespace Go.Proofs.YtdjkdjepjahjfaaGreatDoor.Sl
open Go Sh
variable {P:Program} {W:World} {L L':List HP} {Kp:PK} {k:Value->WP}
theorem tJ (o:Nat):∀(us pre zs:List Value) (m:Nat),pre.length=o+m->us.length<=zs.length->
  (us.zipIdx m).foldl (fun(cs:Array Value) (x:Value × Nat)=>cs.setIfInBounds (o+x.2) x.1) (pre++zs).toArray=(pre++us++zs.drop us.length).toArray
 |[],pre,zs,m,_,_=>by simp
 |u::us,pre,[],m,_,h=>by simp at h
 |u::us,pre,z::zs,m,hp,h=>by
  have ih:=tJ o us (pre++[u]) zs (m+1) (by simp;omega) (by simpa using h)
  have e:((pre++z::zs).toArray).setIfInBounds (o+m) u=(pre++[u]++zs).toArray:=by
   rw[<- hp];simp
  rw[List.zipIdx_cons,List.foldl_cons]
  simp only
  rw[e,ih];simp
theorem qO (s:Nat):∀(vs pre zs:List Value) (m:Nat),pre.length=m * s->zs.length=vs.length * s->(∀v∈vs,v.cells.size=s)->
  Instr.fill (fun i=>some (i * s,s)) (pre++zs).toArray ((vs.zipIdx m).map fun x=>(x.2,x.1))=some (pre++vs.flatMap fun v=>v.cells.toList).toArray
 |[],pre,zs,m,_,hz,_=>by
  have:zs=[]:=List.eq_nil_of_length_eq_zero (by simpa using hz)
  subst this;simp[Instr.fill]
 |v::vs,pre,zs,m,hp,hz,ho=>by
  have hv:=ho v (by simp)
  have hz':zs.length=vs.length * s+s:=by rw[hz,List.length_cons,Nat.add_mul,Nat.one_mul]
  have ih:=qO s vs (pre++v.cells.toList) (zs.drop s) (m+1) (by rw[List.length_append,hp,Array.length_toList,hv,Nat.add_mul,Nat.one_mul]) (by rw[List.length_drop,hz'];omega) (fun u hu=>ho u (by simp[hu]))
  simp only[List.zipIdx_cons,List.map_cons,Instr.fill,hv]
  rw[if_neg (by simp[hp,hz'])]
  have h2:Array.foldl (fun cs (x:Value × Nat)=>cs.setIfInBounds (m * s+x.2) x.1) (pre++zs).toArray v.cells.zipIdx=(pre++v.cells.toList++zs.drop s).toArray:=by
   have:=tJ (m * s) v.cells.toList pre zs 0 (by simpa using hp) (by rw[Array.length_toList,hv];omega)
   rw[Array.length_toList,hv]at this
   rw[<- this]
   have e2:v.cells.zipIdx.toList=v.cells.toList.zipIdx:=by simp
   rw[<- e2,Array.foldl_toList]
  rw[h2,ih];simp
theorem dS {t e:TypeId} {s b n:Nat} {parts:List (Nat × Value)} {vs:List Value} [ht:SlT P t e s b] (hn:vs.length=n) (h1:0<n) (hp:parts=vs.zipIdx.map fun x=>(x.2,x.1)) (ho:∀v∈vs,v.cells.size=s) (hm:n * s<=16777216)
  (h:∀g,aJ W (pt g (.cells (vs.flatMap fun v=>v.cells.toList).toArray e)::L) (k (.slice (some ⟨g,0,none⟩) n n))):aJ W L (opN P (co t n parts) Kp k):=fun w hw=>by
 refine⟨?_⟩
 obtain⟨i,z,hi,hz,hs,hb,hzs⟩:=ht.info
 have:(co t n parts).run P w= .ok (.value (.slice (some ⟨w.heap.size,0,none⟩) n n)) (w.alloc (.cells (vs.flatMap fun v=>v.cells.toList).toArray e)):=by
  have hm':¬(2^24<n * s):=by omega
  have hf:∀zs:Array Value,zs.size=n * s->Instr.fill (fun i=>some (i * s,s)) zs parts=some (vs.flatMap fun v=>v.cells.toList).toArray:=fun zs hz=>by
   have:=qO s vs [] zs.toList 0 (by simp) (by simp[hz,hn]) ho
   simpa [hp]using this
  by_cases h0:n * s=0
  ·simp[co,Instr.buildSlice,run_underlying ht.ut,dQ hi,hs,zeroValue,typeInfo,hi,hz,newRow,h0]
   have:=hf ((Array.range 0).map fun _=>(default:Value)) (by simp[h0])
   rw[this]
   simp
  ·simp[co,Instr.buildSlice,run_underlying ht.ut,dQ hi,hs,hm',zeroValue,typeInfo,hi,hz,newRow,h0]
   have:=hf ((Array.range (n * s)).map fun j=>z.cells[j%z.cells.size]!) (by simp)
   rw[this]
   simp
 rw[this]
 exact h _ _ (hw.alloc _)
theorem lL {α:Type}{f:α->List Value}{s:Nat}(hf:∀x,(f x).length=s):∀l:List α,(l.flatMap f).length=l.length * s
 |[]=>by simp
 |x::l=>by rw[List.flatMap_cons,List.length_append,hf,lL hf l,List.length_cons,Nat.add_mul,Nat.one_mul,Nat.add_comm]
theorem jR {α:Type}{f:α->List Value}{s:Nat}(hf:∀x,(f x).length=s):∀(l:List α) (i j:Nat) (hi:i<l.length) (hj:j<s),(l.flatMap f)[i * s+j]? =(f l[i])[j]?
 |x::l,0,j,_,hj=>by
  rw[List.flatMap_cons,Nat.zero_mul,Nat.zero_add,List.getElem?_append_left (by rw[hf];exact hj)];rfl
 |x::l,i+1,j,hi,hj=>by
  rw[List.flatMap_cons,List.getElem?_append_right (by rw[hf,Nat.add_mul];omega),hf,show(i+1) * s+j-s=i * s+j by rw[Nat.add_mul];omega,jR hf l i j (by simpa using hi) hj];rfl
end Go.Proofs.YtdjkdjepjahjfaaGreatDoor.Sl
namespace Go.Proofs.YtdjkdjepjahjfaaGreatDoor.Sl
open Go Go.RowKit Sh
variable {P:Program} {W:World} {L L':List HP} {Kp:PK} {k:Value->WP} {H:Type} {enc:TypeId × Value->H}
def I (n:Int):Value:= .int .i64 n
theorem OX {l:List Int}:∀u∈l.map I,u.oneCell'=true:=by
 intro u hu;obtain⟨c,_,rfl⟩:=List.mem_map.1 hu;rfl
theorem Ar {l:List Int}{j:Nat}(h:j<l.length):(l.map I)[j]? =some (I l[j]):=by simp[h]
def An (n:Nat)(f:Nat->Int):Array Value:=((List.range n).map fun j=>I (f j)).toArray
theorem dU (n:Nat)(f:Nat->Int):(An n f).size=n:=by simp[An]
theorem mH {n j:Nat}{f:Nat->Int}(h:j<n):(An n f)[j]? =some (I (f j)):=by simp[An,h]
theorem lM {n:Nat}{f g:Nat->Int}(h:∀j,j<n->f j=g j):An n f=An n g:=by
 unfold An
 congr 1
 exact List.map_congr_left fun j hj=>by rw[h j (List.mem_range.1 hj)]
theorem HN {n j:Nat}{f:Nat->Int}{v:Int}:(An n f).setIfInBounds j (I v)=An n fun i=>if i=j then v else f i:=by
 apply Array.ext_getElem?
 intro i
 rw[Array.getElem?_setIfInBounds,dU]
 by_cases c:j=i
 ·subst c
  rw[if_pos rfl]
  by_cases h:j<n
  ·rw[if_pos h,mH h];simp
  ·rw[if_neg h,Array.getElem?_eq_none (by rw[dU];omega)]
 ·rw[if_neg c]
  by_cases h:i<n
  ·rw[mH h,mH h,if_neg (fun e=>c e.symm)]
  ·rw[Array.getElem?_eq_none (by rw[dU];omega),Array.getElem?_eq_none (by rw[dU];omega)]
def SO (c:Int)(cs:List Value):Prop:=cs=[I c]
theorem Old.ints {a:Option Addr}{n:Nat}{b:List Int}{A:HP}(h:Old W 1 SO a n b):RdB W A a n (b.map I):=by
 refine⟨by rw[List.length_map];exact h.len,fun hn=>?_⟩
 obtain⟨g,o,rfl,hg,hc⟩:=h.at_ hn
 refine⟨g,o,rfl,fun w L hw j v hv=>?_⟩
 rw[List.getElem?_map]at hv
 have hj:j<b.length:=by
  rcases Nat.lt_or_ge j b.length with c|c
  ·exact c
  ·rw[List.getElem?_eq_none c]at hv;cases hv
 obtain⟨cs,h1,h2,h3⟩:=hc j hj
 rw[h2]at h3
 have:=h3 0 (I b[j]) rfl
 rw[List.getElem?_eq_getElem hj]at hv
 have hv':I b[j]=v:=Option.some.inj hv
 rw[hw.base.cell (p:=⟨g,o+j,none⟩) hg,<- hv']
 simpa using this
theorem As {e:TypeId}{sp:Nat->Bool}{held:Bool}(he:P.underlying e=some (.int .i64)):∀(n:Nat) (cs:List Value) (x:DataW H × List MemPlace),DataW.trod enc P W 0 sp held n e cs=some x->∃a,(SO a cs/\ -9223372036854775808<=a/\a<=9223372036854775807)/\1<=Rows.uptoBulk x.1:=fun n cs x h=>by
 obtain⟨m,rfl,rfl,hw⟩:=DataW.trod_int he h
 have hm: -9223372036854775808<=m/\m<=9223372036854775807:=by simpa [Lit.wf,IntKind.min,IntKind.max,IntKind.signed,IntKind.bits]using hw
 exact⟨m,⟨rfl,hm⟩,by simp[Rows.uptoBulk]⟩
theorem yn {t e:TypeId}{v:Value}{d:DataW H}{ps:List MemPlace}{r:Reach}{b0:Nat}{sp:Nat->Bool}{held:Bool}(ht:P.underlying t=some (.slice e))(hc:P.cellsOf e=1)(he:P.underlying e=some (.int .i64))(hval:Value.okWide P W r b0 t v)(hd:DataW.Trod enc P W 0 sp held t v d ps):
  ∃(a:Option Addr) (cap:Nat) (b:List Int),v= .slice a b.length cap/\(a=none->b.length=0)/\(∀A,RdB W A a b.length (b.map I))/\(∀x∈b,-9223372036854775808<=x/\x<=9223372036854775807)/\b.length<=Rows.uptoBulk d:=by
 obtain⟨fuel,hf⟩:=vw (e:=e) ht hval hd
 obtain⟨a,n,cap,b,e1,h1,h2,h3,h4,h5⟩:=Aq (rd:=fun(x:Int) cs=>SO x cs/\ -9223372036854775808<=x/\x<=9223372036854775807) (m:=fun _=>1) ht hc (by omega) (As (enc:=enc) he) hf
 have hl:=h4.len
 subst hl
 have h6:Old W 1 SO a b.length b:=⟨rfl,fun c=>let ⟨g,o,q1,q2,q3⟩:=h4.at_ c;⟨g,o,q1,q2,fun i hi=>let ⟨cs,z1,z2,z3⟩:=q3 i hi;⟨cs,z1,z2.1,z3⟩⟩⟩
 refine⟨a,cap,b,by injection e1,fun c=>(h3 c).1,fun A=>h6.ints,fun x hx=>?_,by rw[tI]at h5;simp at h5;omega⟩
 obtain⟨i,hi,rfl⟩:=List.mem_iff_getElem.1 hx
 obtain⟨g,o,q1,q2,q3⟩:=h4.at_ (by omega)
 obtain⟨cs,z1,z2,z3⟩:=q3 i hi
 exact z2.2
end Go.Proofs.YtdjkdjepjahjfaaGreatDoor.Sl
namespace Go.Proofs.YtdjkdjepjahjfaaGreatDoor.S
open Go Sh Sl
theorem wide:p_.follows .mixedOrders=true:=by kernel_rfl
theorem Ug {f:FuncId}{fn:Func}{an:Ann}{args:List Value}{sh:PK->(Value->WP)->WP}(hc:∀(a:Array Value) (w:World),(callFunc f a).run p_ w= .ok (.enter f a) w)(hf:p_.funcs[f]? =some fn)(he:∀Kp K,zK p_ an fn args Kp K=sh Kp K):Shp p_ f args sh:=U8 wide hc hf he
theorem DN {f:FuncId}{fn:Func}{an:Ann}{args:List Value}{sh:PK->(Value->WP)->WP}(hc:∀(a:Array Value) (w:World),(callFunc f a).run p_ w= .ok (.enter f a) w)(hf:p_.funcs[f]? =some fn)(he:∀Kp K,wz p_ an fn args Kp K=sh Kp K):Shp p_ f args sh:=S2 wide hc hf he
theorem At {f:FuncId}{fn:Func}{an:Ann}{args:List Value}{sh:PK->(Value->WP)->WP}(hc:∀(a:Array Value) (w:World),(callFunc f a).run p_ w= .ok (.enter f a) w)(hf:p_.funcs[f]? =some fn)(he:∀Kp K,wA p_ an fn args Kp K=sh Kp K):Shp p_ f args sh:=S3 wide hc hf he
def fL:List UInt8:=[48,48,48,49,48,50,48,51,48,52,48,53,48,54,48,55,48,56,48,57,49,48,49,49,49,50,49,51,49,52,49,53,49,54,49,55,49,56,49,57,50,48,50,49,50,50,50,51,50,52,50,53,50,54,50,55,50,56,50,57,51,48,51,49,51,50,51,51,51,52,51,53,51,54,51,55,51,56,51,57,52,48,52,49,52,50,52,51,52,52,52,53,52,54,52,55,52,56,52,57,53,48,53,49,53,50,53,51,53,52,53,53,53,54,53,55,53,56,53,57,54,48,54,49,54,50,54,51,54,52,54,53,54,54,54,55,54,56,54,57,55,48,55,49,55,50,55,51,55,52,55,53,55,54,55,55,55,56,55,57,56,48,56,49,56,50,56,51,56,52,56,53,56,54,56,55,56,56,56,57,57,48,57,49,57,50,57,51,57,52,57,53,57,54,57,55,57,56,57,57]
def o6:List UInt8:=[0,1,2,2,3,3,3,3,4,4,4,4,4,4,4,4,5,5,5,5,5,5,5,5,5,5,5,5,5,5,5,5,6,6,6,6,6,6,6,6,6,6,6,6,6,6,6,6,6,6,6,6,6,6,6,6,6,6,6,6,6,6,6,6,7,7,7,7,7,7,7,7,7,7,7,7,7,7,7,7,7,7,7,7,7,7,7,7,7,7,7,7,7,7,7,7,7,7,7,7,7,7,7,7,7,7,7,7,7,7,7,7,7,7,7,7,7,7,7,7,7,7,7,7,7,7,7,7,8,8,8,8,8,8,8,8,8,8,8,8,8,8,8,8,8,8,8,8,8,8,8,8,8,8,8,8,8,8,8,8,8,8,8,8,8,8,8,8,8,8,8,8,8,8,8,8,8,8,8,8,8,8,8,8,8,8,8,8,8,8,8,8,8,8,8,8,8,8,8,8,8,8,8,8,8,8,8,8,8,8,8,8,8,8,8,8,8,8,8,8,8,8,8,8,8,8,8,8,8,8,8,8,8,8,8,8,8,8,8,8,8,8,8,8,8,8,8,8,8,8,8,8,8,8,8,8]
def dD (p0 p1 p2:Value)(K:Value->WP):WP:=
 (stS p_ (cZ 4 p1) fun r1=>(stS p_ (cZ 29 p2) fun r2=>K (.tuple #[p0,r1,r2])))
def bk (d:Deferred)(p1 p2:Value)(K:Value->WP)(Kp:PK):PK:=fun ch w=>∀p0:Value,dfS p_ d (.panicking ch) (dD p0 p1 p2 K) Kp w
def fM (v0 v1:Value)(Kp:PK)(K:Value→WP):WP:=
 opN p_ (kX 119 v0) Kp fun x2=>
 opN p_ (cF 4) Kp fun x5=>
 opN p_ (cF 29) Kp fun x6=>
 opN p_ (aG 119 x2) Kp fun x9=>
 opN p_ (dY .eql 119 (.tmp 9) (.const (.pointer none)) x9 (.pointer none)) Kp fun x10=>
 gdK x10 false (opN p_ (aG 119 x2) Kp) fun x12=>
 gdK x10 false (opN p_ (cT x12) Kp) fun x13=>
 gdK x10 false (opN p_ (fI 230 x13 0) Kp) fun x14=>
 gdK x10 false (opN p_ (aG 4 x14) Kp) fun x15=>
 gdK x10 false (opN p_ (zu .not x15) Kp) fun x16=>
 opN p_ (d_ x10 (.bool true) x16) Kp fun x17=>
 condS x17
 (opN p_ (aM 4 x5 (.bool false)) Kp fun _=>
 opN p_ (aM 29 x6 (.int .i64 1)) Kp fun _=>
 (stS p_ (cZ 4 x5) fun r1=>(stS p_ (cZ 29 x6) fun r2=>K (.tuple #[(.int .i64 0),r1,r2]))))
 (opN p_ (aG 119 x2) Kp fun x18=>
 opN p_ (cT x18) Kp fun x19=>
 opN p_ (fI 230 x19 4) Kp fun x20=>
 opN p_ (aG 4 x20) Kp fun x21=>
 gdK x21 false (opN p_ (aG 119 x2) Kp) fun x23=>
 gdK x21 false (opN p_ (cT x23) Kp) fun x24=>
 gdK x21 false (opN p_ (fI 230 x24 7) Kp) fun x25=>
 gdK x21 false (opN p_ (aG 29 x25) Kp) fun x26=>
 gdK x21 false (opN p_ (dY .neq 29 (.tmp 26) (.const (.int .i64 0)) x26 (.int .i64 0)) Kp) fun x27=>
 opN p_ (d_ x21 (.bool true) x27) Kp fun x28=>
 condS x28
 (n5 (stS p_ (aG 119 x2) fun x29=>
 stS p_ (cT x29) fun x30=>
 stS p_ (fI 230 x30 4) fun x31=>
 stS p_ (aG 4 x31) fun x32=>
 stD p_ (aG 119 x2) fun D4 x33=>
 stD p_ (cT x33) fun D5 x34=>
 stD p_ (fI 230 x34 7) fun D6 x35=>
 stD p_ (aG 29 x35) fun D7 x36=>
 opN p_ (aM 4 x5 x32) Kp fun _=>
 (fun w=>D7 w∧(fun w=>D6 w∧(fun w=>D5 w∧(fun w=>D4 w∧(opN p_ (aM 29 x6 x36) Kp fun _=>
 (stS p_ (cZ 4 x5) fun r1=>(stS p_ (cZ 29 x6) fun r2=>K (.tuple #[(.int .i64 0),r1,r2])))) w) w) w) w)))
 (opN p_ (nN (.func 115) [] [x2,x5,x6]) Kp fun x37=>
 opDf x37 [] fun d1=>
 rQ (fun J1=>
 opN p_ (gB #[35] 3 [v1]) (bk d1 x5 x6 K Kp) fun x39=>
 oU (fun I1 m1 _ y4 y40=>
 opN p_ (a_ .lss 3 y40 x39) (bk d1 x5 x6 K Kp) fun x41=>
 condS x41
 (opN p_ (kL 35 v1 y40) (bk d1 x5 x6 K Kp) fun x42=>
 opN p_ (aG 5 x42) (bk d1 x5 x6 K Kp) fun x43=>
 opN p_ (a_ .add 3 y4 (.int .i64 1)) (bk d1 x5 x6 K Kp) fun x45=>
 opN p_ (aG 119 x2) (bk d1 x5 x6 K Kp) fun x46=>
 opN p_ (bG (fn 116) [x46,x43]) (bk d1 x5 x6 K Kp) fun x48=>
 opN p_ (aG 119 x2) (bk d1 x5 x6 K Kp) fun x49=>
 opN p_ (cT x49) (bk d1 x5 x6 K Kp) fun x50=>
 opN p_ (fI 230 x50 4) (bk d1 x5 x6 K Kp) fun x51=>
 opN p_ (aG 4 x51) (bk d1 x5 x6 K Kp) fun x52=>
 condS x52
 (J1 x45)
 (opN p_ (a_ .add 3 y40 (.int .i64 1)) (bk d1 x5 x6 K Kp) fun x53=>
 oV I1 m1 x45 x53))
 (J1 y4)) (.int .i64 0) (.int .i64 0)) fun _ z4=>
 n5 (stS p_ (aG 119 x2) fun x55=>
 stS p_ (cT x55) fun x56=>
 stS p_ (fI 230 x56 4) fun x57=>
 stS p_ (aG 4 x57) fun x58=>
 opN p_ (aM 4 x5 x58) (bk d1 x5 x6 K Kp) fun _=>
 opN p_ (aM 29 x6 (.int .i64 0)) (bk d1 x5 x6 K Kp) fun _=>
 dfS p_ d1 .returning (dD z4 x5 x6 K) Kp)))
theorem gS {v0 v1:Value}:Shp p_ 48 [v0,v1] (fM v0 v1):=DN Tryz.call48 Tryz.func48 (an:={cuts:=[(13,[4])],loops:=[(7,[4,40])],drs:=[(4,.ofL [(0,1),(1,1),(2,1),(3,1),(4,3),(5,3),(6,3),(7,3),(8,1),(9,0),(10,0)]),(13,.ofL [(0,1),(1,1),(2,1),(3,1),(4,1),(5,1),(6,0),(7,0)])]}) fun _ _=>by kernel_rfl
def aV (p0 p1 p2:Value)(K:Value->WP):WP:=
 (stS p_ (cZ 80 p0) fun r0=>(stS p_ (cZ 3 p1) fun r1=>(stS p_ (cZ 29 p2) fun r2=>K (.tuple #[r0,r1,r2]))))
def lN (v0:Value)(Kp:PK)(K:Value→WP):WP:=
 opN p_ (cF 80) Kp fun x2=>
 opN p_ (cF 3) Kp fun x3=>
 opN p_ (cF 29) Kp fun x4=>
 opN p_ (gB #[9] 3 [v0]) Kp fun x7=>
 opN p_ (a_ .gtr 3 x7 (.int .i64 65536)) Kp fun x8=>
 condS x8
 (opN p_ (aD 80 []) Kp fun x9=>
 opN p_ (aM 80 x2 x9) Kp fun _=>
 opN p_ (aM 3 x3 (.int .i64 0)) Kp fun _=>
 opN p_ (aM 29 x4 (.int .i64 6)) Kp fun _=>
 (stS p_ (cZ 80 x2) fun r0=>(stS p_ (cZ 3 x3) fun r1=>(stS p_ (cZ 29 x4) fun r2=>K (.tuple #[r0,r1,r2])))))
 (opN p_ (nN (.func 135) [] [x2,x3,x4]) Kp fun x10=>
 opDf x10 [] fun d1=>
 opN p_ (aD 80 [(0,(.int .i64 75)),(1,(.int .i64 65536)),(3,(.int .i64 1000))]) (gI p_ d1 (aV x2 x3 x4 K) Kp) fun x11=>
 opN p_ (aD 263 [(0,x11)]) (gI p_ d1 (aV x2 x3 x4 K) Kp) fun x12=>
 opN p_ (kX 263 x12) (gI p_ d1 (aV x2 x3 x4 K) Kp) fun x13=>
 opN p_ (bG (fn 137) []) (gI p_ d1 (aV x2 x3 x4 K) Kp) fun x15=>
 opN p_ (bG (fn 138) [v0]) (gI p_ d1 (aV x2 x3 x4 K) Kp) fun x17=>
 opN p_ (cT x17) (gI p_ d1 (aV x2 x3 x4 K) Kp) fun x18=>
 opN p_ (fI 269 x18 3) (gI p_ d1 (aV x2 x3 x4 K) Kp) fun x19=>
 opN p_ (aG 267 x19) (gI p_ d1 (aV x2 x3 x4 K) Kp) fun x20=>
 opN p_ (bG (fn 136) [x13,x15,(.string ⟨#[]⟩),x20]) (gI p_ d1 (aV x2 x3 x4 K) Kp) fun x21=>
 vj (fun J1=>
 opN p_ (cT x13) (gI p_ d1 (aV x2 x3 x4 K) Kp) fun x23=>
 opN p_ (fI 263 x23 0) (gI p_ d1 (aV x2 x3 x4 K) Kp) fun x24=>
 opN p_ (aG 80 x24) (gI p_ d1 (aV x2 x3 x4 K) Kp) fun x25=>
 opN p_ (bG (fn 139) [x25]) (gI p_ d1 (aV x2 x3 x4 K) Kp) fun x26=>
 opN p_ (dY .neq 29 (.tmp 26) (.const (.int .i64 0)) x26 (.int .i64 0)) (gI p_ d1 (aV x2 x3 x4 K) Kp) fun x27=>
 condS x27
 (opN p_ (nM 260 (.int .i64 0)) (gI p_ d1 (aV x2 x3 x4 K) Kp) fun x28=>
 opN p_ (oS x28) (gI p_ d1 (aV x2 x3 x4 K) Kp) fun _=>
 J1)
 (J1)) fun _=>
 opN p_ (cT x13) (gI p_ d1 (aV x2 x3 x4 K) Kp) fun x30=>
 opN p_ (fI 263 x30 0) (gI p_ d1 (aV x2 x3 x4 K) Kp) fun x31=>
 opN p_ (aG 80 x31) (gI p_ d1 (aV x2 x3 x4 K) Kp) fun x32=>
 opN p_ (aM 80 x2 x32) (gI p_ d1 (aV x2 x3 x4 K) Kp) fun _=>
 opN p_ (aM 3 x3 (.int .i64 0)) (gI p_ d1 (aV x2 x3 x4 K) Kp) fun _=>
 opN p_ (aM 29 x4 (.int .i64 0)) (gI p_ d1 (aV x2 x3 x4 K) Kp) fun _=>
 dfS p_ d1 .returning (aV x2 x3 x4 K) Kp)
theorem o7 {v0:Value}:Shp p_ 70 [v0] (lN v0):=DN Tryz.call70 Tryz.func70 (an:={cuts:=[(8,[])]}) fun _ _=>by kernel_rfl
def aF (p0:Value)(K:Value->WP):WP:=
 (stS p_ (cZ 35 p0) fun r0=>K r0)
def jS (v0 v1:Value)(Kp:PK)(K:Value→WP):WP:=
 opN p_ (kX 73 v0) Kp fun x2=>
 opN p_ (cF 35) Kp fun x4=>
 opN p_ (nN (.func 144) [] [x2,x4]) Kp fun x6=>
 opDf x6 [] fun d1=>
 opN p_ (aG 73 x2) (gI p_ d1 (aF x4 K) Kp) fun x7=>
 opN p_ (cT x7) (gI p_ d1 (aF x4 K) Kp) fun x8=>
 opN p_ (fI 175 x8 7) (gI p_ d1 (aF x4 K) Kp) fun x9=>
 opN p_ (aG 120 x9) (gI p_ d1 (aF x4 K) Kp) fun x10=>
 opN p_ (aG 73 x2) (gI p_ d1 (aF x4 K) Kp) fun x11=>
 opN p_ (cT x11) (gI p_ d1 (aF x4 K) Kp) fun x12=>
 opN p_ (fI 175 x12 5) (gI p_ d1 (aF x4 K) Kp) fun x13=>
 opN p_ (aG 172 x13) (gI p_ d1 (aF x4 K) Kp) fun x14=>
 opN p_ (bG x14 [v1]) (gI p_ d1 (aF x4 K) Kp) fun x16=>
 opN p_ (aM 35 x4 x16) (gI p_ d1 (aF x4 K) Kp) fun _=>
 opN p_ (aG 73 x2) (gI p_ d1 (aF x4 K) Kp) fun x17=>
 opN p_ (cT x17) (gI p_ d1 (aF x4 K) Kp) fun x18=>
 opN p_ (fI 175 x18 7) (gI p_ d1 (aF x4 K) Kp) fun x19=>
 opN p_ (aG 120 x19) (gI p_ d1 (aF x4 K) Kp) fun x20=>
 opN p_ (dY .neq 120 (.tmp 20) (.tmp 21) x20 x10) (gI p_ d1 (aF x4 K) Kp) fun x22=>
 gdK x22 true (opN p_ (aG 73 x2) (gI p_ d1 (aF x4 K) Kp)) fun x24=>
 gdK x22 true (opN p_ (cT x24) (gI p_ d1 (aF x4 K) Kp)) fun x25=>
 gdK x22 true (opN p_ (fI 175 x25 3) (gI p_ d1 (aF x4 K) Kp)) fun x26=>
 gdK x22 true (opN p_ (aG 4 x26) (gI p_ d1 (aF x4 K) Kp)) fun x27=>
 opN p_ (d_ x22 x27 (.bool false)) (gI p_ d1 (aF x4 K) Kp) fun x28=>
 condS x28
 (n5 (stS p_ (aG 73 x2) fun x29=>
 stS p_ (cT x29) fun x30=>
 stS p_ (fI 175 x30 5) fun x31=>
 stS p_ (aG 172 x31) fun x32=>
 stS p_ (aG 35 x4) fun x33=>
 opN p_ (bG x32 [x33]) (gI p_ d1 (aF x4 K) Kp) fun x34=>
 opN p_ (aM 35 x4 x34) (gI p_ d1 (aF x4 K) Kp) fun _=>
 opN p_ (aG 35 x4) (gI p_ d1 (aF x4 K) Kp) fun x35=>
 opN p_ (aM 35 x4 x35) (gI p_ d1 (aF x4 K) Kp) fun _=>
 dfS p_ d1 .returning (aF x4 K) Kp))
 (opN p_ (aG 35 x4) (gI p_ d1 (aF x4 K) Kp) fun x35=>
 opN p_ (aM 35 x4 x35) (gI p_ d1 (aF x4 K) Kp) fun _=>
 dfS p_ d1 .returning (aF x4 K) Kp)
theorem mI {v0 v1:Value}:Shp p_ 78 [v0,v1] (jS v0 v1):=DN Tryz.call78 Tryz.func78 (an:={drs:=[(5,.ofL [(0,1),(1,1),(2,1),(3,1),(4,1),(5,0),(6,0)])]}) fun _ _=>by kernel_rfl
def cM (v0 v1 v2:Value)(rv:Value)(Kp:PK)(K:Value→WP):WP:=
 opN p_ (dY .neq 20 (.tmp 5) (.const .nilIface) rv .nilIface) Kp fun x6=>
 condS x6
 (n5 (stS p_ (aG 119 v0) fun x7=>
 stS p_ (zO rv 20 29 false) fun x9=>
 stS p_ (cT x7) fun x10=>
 stS p_ (fI 230 x10 7) fun x11=>
 opN p_ (aM 29 x11 x9) Kp fun _=>
 opN p_ (aG 119 v0) Kp fun x12=>
 opN p_ (cT x12) Kp fun x13=>
 opN p_ (fI 230 x13 7) Kp fun x14=>
 opN p_ (aG 29 x14) Kp fun x15=>
 opN p_ (aM 4 v1 (.bool false)) Kp fun _=>
 opN p_ (aM 29 v2 x15) Kp fun _=>
 K (.tuple #[])))
 (K (.tuple #[]))
def fy:Ann:={drs:=[(2,.ofL [(0,1),(1,1),(2,1),(3,1),(4,1),(5,0)])]}
theorem jv (v0 v1 v2:Value)(rv:Value)(Kp:PK)(K:Value->WP):yh p_ fy Tryz.f115 [v0,v1,v2] rv Kp K=cM v0 v1 v2 rv Kp K:=by kernel_rfl
theorem f5 {v0 v1 v2:Value}{u:FrameMode}{Kp:PK}{K:Value->WP}{w:World}(h:cM v0 v1 v2 (dZ u).1 Kp K w):CallsD p_ 115 ([v0,v1,v2]:List Value).toArray u w fun
   | .returned v,u',w'=>u'=(dZ u).2/\K v w'
   | .panicked ch,u',w'=>u'=(dZ u).2/\Kp ch w'
   | .outgrown,_,_=>False:=
 e5 wide Tryz.func115 (an:=fy) (args:=[v0,v1,v2]) (cast (congrFun (jv v0 v1 v2 _ Kp K) w).symm h)
def bV (p0:Value)(K:Value->WP):WP:=
 K p0
def aA (d:Deferred)(K:Value->WP)(Kp:PK):PK:=fun ch w=>∀p0:Value,dfS p_ d (.panicking ch) (bV p0 K) Kp w
def dJ (v0 v1:Value)(Kp:PK)(K:Value→WP):WP:=
 opN p_ (kX 120 v0) Kp fun x2=>
 opN p_ (aG 120 x2) Kp fun x8=>
 opN p_ (cT x8) Kp fun x9=>
 opN p_ (fI 234 x9 9) Kp fun x10=>
 opN p_ (aG 4 x10) Kp fun x11=>
 gdK x11 false (opN p_ (aG 120 x2) Kp) fun x13=>
 gdK x11 false (opN p_ (cT x13) Kp) fun x14=>
 gdK x11 false (opN p_ (fI 234 x14 10) Kp) fun x15=>
 gdK x11 false (opN p_ (aG 29 x15) Kp) fun x16=>
 gdK x11 false (opN p_ (dY .neq 29 (.tmp 16) (.const (.int .i64 0)) x16 (.int .i64 0)) Kp) fun x17=>
 opN p_ (d_ x11 (.bool true) x17) Kp fun x18=>
 condS x18
 (K (.int .i64 0))
 (opN p_ (nN (.func 194) [] [x2]) Kp fun x19=>
 opDf x19 [] fun d1=>
 opN p_ (aG 120 x2) (aA d1 K Kp) fun x20=>
 opN p_ (bG (fn 195) [x20]) (aA d1 K Kp) fun x21=>
 opN p_ (aG 120 x2) (aA d1 K Kp) fun x22=>
 opN p_ (nN (.func 196) [x22] []) (aA d1 K Kp) fun x23=>
 opN p_ (aG 120 x2) (aA d1 K Kp) fun x24=>
 opN p_ (nN (.func 197) [x24] []) (aA d1 K Kp) fun x25=>
 opN p_ (aG 120 x2) (aA d1 K Kp) fun x26=>
 opN p_ (nN (.func 198) [x26] []) (aA d1 K Kp) fun x27=>
 opN p_ (aG 120 x2) (aA d1 K Kp) fun x28=>
 opN p_ (nN (.func 199) [x28] []) (aA d1 K Kp) fun x29=>
 opN p_ (aG 120 x2) (aA d1 K Kp) fun x30=>
 opN p_ (nN (.func 200) [x30] []) (aA d1 K Kp) fun x31=>
 opN p_ (aD 332 [(0,x23),(1,x25),(2,x27),(3,x29),(4,x31)]) (aA d1 K Kp) fun x32=>
 opN p_ (cF 332) (aA d1 K Kp) fun x5=>
 opN p_ (aM 332 x5 x32) (aA d1 K Kp) fun _=>
 opN p_ (gB #[35] 3 [v1]) (aA d1 K Kp) fun x34=>
 oU (fun I1 m1 _ y4 y35=>
 opN p_ (a_ .lss 3 y35 x34) (aA d1 K Kp) fun x36=>
 condS x36
 (opN p_ (kL 35 v1 y35) (aA d1 K Kp) fun x37=>
 opN p_ (aG 5 x37) (aA d1 K Kp) fun x38=>
 opN p_ (aG 120 x2) (aA d1 K Kp) fun x39=>
 opN p_ (cT x39) (aA d1 K Kp) fun x40=>
 opN p_ (fI 234 x40 9) (aA d1 K Kp) fun x41=>
 opN p_ (aG 4 x41) (aA d1 K Kp) fun x42=>
 condS x42
 (dfS p_ d1 .returning (bV y4 K) Kp)
 (opN p_ (a_ .add 3 y4 (.int .i64 1)) (aA d1 K Kp) fun x44=>
 opN p_ (aG 120 x2) (aA d1 K Kp) fun x45=>
 opN p_ (cT x45) (aA d1 K Kp) fun x46=>
 opN p_ (fI 234 x46 3) (aA d1 K Kp) fun x47=>
 opN p_ (aG 3 x47) (aA d1 K Kp) fun x48=>
 opN p_ (kL 332 x5 x48) (aA d1 K Kp) fun x49=>
 opN p_ (aG 231 x49) (aA d1 K Kp) fun x50=>
 opN p_ (bG x50 [x38]) (aA d1 K Kp) fun x52=>
 opN p_ (a_ .add 3 y35 (.int .i64 1)) (aA d1 K Kp) fun x53=>
 oV I1 m1 x44 x53))
 (dfS p_ d1 .returning (bV y4 K) Kp)) (.int .i64 0) (.int .i64 0))
theorem d9 {v0 v1:Value}:Shp p_ 119 [v0,v1] (dJ v0 v1):=DN Tryz.call119 Tryz.func119 (an:={loops:=[(7,[4,35])]}) fun _ _=>by kernel_rfl
def jT (v0 v1:Value)(Kp:PK)(K:Value→WP):WP:=
 opN p_ (kX 216 v0) Kp fun x2=>
 opN p_ (kX 3 v1) Kp fun x3=>
 opN p_ (cF 118) Kp fun x4=>
 opN p_ (cF 4) Kp fun x5=>
 opN p_ (cF 29) Kp fun x6=>
 opN p_ (aG 216 x2) Kp fun x11=>
 opN p_ (bG (fn 173) [x11]) Kp fun x12=>
 condS x12
 (opN p_ (aD 118 []) Kp fun x13=>
 opN p_ (aM 118 x4 x13) Kp fun _=>
 opN p_ (aM 4 x5 (.bool false)) Kp fun _=>
 opN p_ (aM 29 x6 (.int .i64 1)) Kp fun _=>
 (stS p_ (cZ 118 x4) fun r0=>(stS p_ (cZ 4 x5) fun r1=>(stS p_ (cZ 29 x6) fun r2=>K (.tuple #[r0,r1,r2])))))
 (opN p_ (aM 29 x6 (.int .i64 3)) Kp fun _=>
 opN p_ (aG 216 x2) Kp fun x14=>
 opN p_ (bG (fn 202) [x14]) Kp fun x15=>
 rfS p_ x15 2 (fun u16 u17 B1 N1 J1r=>
 B1 (n5 (stS p_ (aG 3 x3) fun x18=>
 stD p_ (cT u17) fun D3 x21=>
 stD p_ (fI 317 x21 3) fun D4 x22=>
 stD p_ (aG 3 x22) fun D5 x23=>
 opN p_ (bG (fn 201) [x18]) cN fun x19=>
 (fun w=>D5 w∧(fun w=>D4 w∧(fun w=>D3 w∧(stS p_ (a_ .lss 3 x19 x23) fun x24=>
 condS x24
 (N1)
 (opN p_ (aM 29 x6 (.int .i64 63)) cN fun _=>
 opN p_ (aG 216 x2) cN fun x25=>
 opN p_ (cT x25) cN fun x26=>
 opN p_ (fI 312 x26 4) cN fun x27=>
 opN p_ (aG 3 x27) cN fun x28=>
 opN p_ (cT u17) cN fun x30=>
 opN p_ (fI 317 x30 1) cN fun x31=>
 opN p_ (aG 22 x31) cN fun x32=>
 opN p_ (gB #[22] 3 [x32]) cN fun x33=>
 rQ (fun J1=>
 opN p_ (a_ .gtr 3 x33 (.int .i64 0)) cN fun x36=>
 condS x36
 (n5 (stS p_ (cT u17) fun x39=>
 stS p_ (fI 317 x39 1) fun x40=>
 stS p_ (aG 22 x40) fun x41=>
 stS p_ (a_ .sub 3 x33 (.int .i64 1)) fun x43=>
 stS p_ (kL 22 x41 x43) fun x44=>
 stS p_ (aG 3 x44) fun x45=>
 stS p_ (cT u17) fun x47=>
 stS p_ (fI 317 x47 1) fun x48=>
 stS p_ (aG 22 x48) fun x49=>
 stS p_ (a_ .sub 3 x33 (.int .i64 1)) fun x51=>
 stS p_ (n8 22 x49 none (some x51) none) fun x52=>
 stS p_ (cT u17) fun x53=>
 stS p_ (fI 317 x53 1) fun x54=>
 opN p_ (aM 22 x54 x52) cN fun _=>
 opN p_ (aG 216 x2) cN fun x55=>
 opN p_ (cT x55) cN fun x56=>
 opN p_ (fI 312 x56 2) cN fun x57=>
 opN p_ (aG 310 x57) cN fun x58=>
 opN p_ (tj #[310,3] 0 [x58,x45]) cN fun _=>
 J1 x45))
 (n5 (stS p_ (cT u17) fun x62=>
 stS p_ (fI 317 x62 2) fun x63=>
 stS p_ (aG 3 x63) fun x64=>
 stS p_ (cT u17) fun x66=>
 stS p_ (fI 317 x66 0) fun x67=>
 stS p_ (fI 315 x67 1) fun x68=>
 stS p_ (aG 3 x68) fun x69=>
 stS p_ (a_ .lss 3 x64 x69) fun x70=>
 condS x70
 (opN p_ (aG 216 x2) cN fun x71=>
 opN p_ (cT x71) cN fun x72=>
 opN p_ (fI 312 x72 4) cN fun x73=>
 opN p_ (aG 3 x73) cN fun x74=>
 opN p_ (a_ .add 3 x74 (.int .i64 1)) cN fun x75=>
 opN p_ (cT x71) cN fun x76=>
 opN p_ (fI 312 x76 4) cN fun x77=>
 opN p_ (aM 3 x77 x75) cN fun _=>
 J1 x28)
 (N1)))) fun _ z9=>
 opN p_ (cT u17) cN fun x79=>
 opN p_ (fI 317 x79 2) cN fun x80=>
 opN p_ (aG 3 x80) cN fun x81=>
 opN p_ (a_ .add 3 x81 (.int .i64 1)) cN fun x82=>
 opN p_ (cT u17) cN fun x83=>
 opN p_ (fI 317 x83 2) cN fun x84=>
 opN p_ (aM 3 x84 x82) cN fun _=>
 opN p_ (aG 216 x2) cN fun x85=>
 opN p_ (cT x85) cN fun x86=>
 opN p_ (fI 312 x86 1) cN fun x87=>
 opN p_ (aG 310 x87) cN fun x88=>
 opN p_ (gA 310 x88 z9 u17) cN fun _=>
 n5 (stS p_ (aG 216 x2) fun x91=>
 stS p_ (a_ .add 3 u16 (.int .i64 1)) fun x93=>
 stS p_ (aG 216 x2) fun x94=>
 stS p_ (cT x94) fun x95=>
 stS p_ (fI 312 x95 0) fun x96=>
 stS p_ (aG 309 x96) fun x97=>
 stS p_ (gB #[309] 3 [x97]) fun x98=>
 stS p_ (a_ .rem 3 x93 x98) fun x99=>
 stS p_ (cT x91) fun x100=>
 stS p_ (fI 312 x100 3) fun x101=>
 opN p_ (aM 3 x101 x99) cN fun _=>
 opN p_ (cT u17) cN fun x103=>
 opN p_ (fI 317 x103 0) cN fun x104=>
 opN p_ (fI 315 x104 0) cN fun x105=>
 opN p_ (aG 3 x105) cN fun x106=>
 opN p_ (aD 118 [(0,x106),(1,z9)]) cN fun x108=>
 opN p_ (dY .eql 3 (.tmp 109) (.const (.int .i64 0)) x33 (.int .i64 0)) cN fun x110=>
 opN p_ (aM 118 x4 x108) cN fun _=>
 opN p_ (aM 4 x5 x110) cN fun _=>
 opN p_ (aM 29 x6 (.int .i64 0)) cN fun _=>
 J1r))) w) w) w)))) (fun d1=>
 n5 (stS p_ (aD 118 []) fun x111=>
 stD p_ (aG 29 x6) fun D1 x112=>
 opN p_ (aM 118 x4 x111) (i5 [d1] Kp) fun _=>
 (fun w=>D1 w∧(opN p_ (aM 4 x5 (.bool false)) (i5 [d1] Kp) fun _=>
 (fun w=>D1 w∧(opN p_ (aM 29 x6 x112) (i5 [d1] Kp) fun _=>
 (tkS d1 ((stS p_ (cZ 118 x4) fun r0=>(stS p_ (cZ 4 x5) fun r1=>(stS p_ (cZ 29 x6) fun r2=>K (.tuple #[r0,r1,r2]))))))) w)) w))) (fun d1=>(tkS d1 ((stS p_ (cZ 118 x4) fun r0=>(stS p_ (cZ 4 x5) fun r1=>(stS p_ (cZ 29 x6) fun r2=>K (.tuple #[r0,r1,r2]))))))) (fun d1 ch=>(tkS d1 (Kp ch))))
theorem mJ {v0 v1:Value}:Shp p_ 125 [v0,v1] (jT v0 v1):=At Tryz.call125 Tryz.func125 (an:={cuts:=[(16,[9])],drs:=[(7,.ofL [(0,1),(2,2),(3,3),(4,3),(5,3),(1,0),(6,1)]),(12,.ofL [(0,1),(1,1),(2,1),(3,1),(4,1),(5,1),(6,1),(7,1),(8,1),(9,1),(10,1),(11,1),(12,1),(13,1),(14,1),(15,1),(16,1),(17,1),(18,1),(19,0)]),(14,.ofL [(0,1),(1,1),(2,1),(3,1),(4,1),(5,1),(6,1),(7,1),(8,1),(9,1),(10,1)]),(18,.ofL [(0,1),(1,1),(2,1),(3,1),(4,1),(5,1),(6,1),(7,1),(8,1),(9,1),(10,1),(11,0)]),(20,.ofL [(0,1),(1,3),(2,0),(3,0),(4,0)])]}) fun _ _=>by kernel_rfl
def qP (v0:Value)(Kp:PK)(K:Value→WP):WP:=
 opN p_ (cF 9) Kp fun x2=>
 opN p_ (cF 29) Kp fun x3=>
 opN p_ (bG (fn 148) [v0,(.string ⟨#[47]⟩)]) Kp fun x12=>
 opN p_ (zu .not x12) Kp fun x13=>
 gdK x13 false (fun k=>k v0) fun x15=>
 gdK x13 false (opN p_ (gB #[9] 3 [x15]) Kp) fun x16=>
 gdK x13 false (opN p_ (a_ .gtr 3 x16 (.int .i64 4096)) Kp) fun x17=>
 opN p_ (d_ x13 (.bool true) x17) Kp fun x18=>
 gdK x18 false (fun k=>k v0) fun x20=>
 gdK x18 false (opN p_ (bG (fn 150) [x20,(.int .u8 0)]) Kp) fun x21=>
 gdK x18 false (opN p_ (a_ .geq 3 x21 (.int .i64 0)) Kp) fun x22=>
 opN p_ (d_ x18 (.bool true) x22) Kp fun x23=>
 condS x23
 (opN p_ (aM 9 x2 (.string ⟨#[]⟩)) Kp fun _=>
 opN p_ (aM 29 x3 (.int .i64 40)) Kp fun _=>
 (stS p_ (cZ 9 x2) fun r0=>(stS p_ (cZ 29 x3) fun r1=>K (.tuple #[r0,r1]))))
 (opN p_ (cF 33) Kp fun x4=>
 opN p_ (cF 4) Kp fun x5=>
 opN p_ (aM 4 x5 (.bool false)) Kp fun _=>
 opN p_ (bG (fn 206) [v0]) Kp fun x25=>
 rfS p_ x25 2 (fun u26 u27 B1 N1 J1r=>
 B1 (opN p_ (dY .eql 9 (.tmp 28) (.const (.string ⟨#[]⟩)) u26 (.string ⟨#[]⟩)) cN fun x29=>
 gdK x29 false (fun k=>k u26) fun x31=>
 gdK x29 false (opN p_ (dY .eql 9 (.tmp 31) (.const (.string ⟨#[46]⟩)) x31 (.string ⟨#[46]⟩)) cN) fun x32=>
 opN p_ (d_ x29 (.bool true) x32) cN fun x33=>
 opN p_ (dY .eql 9 (.tmp 34) (.const (.string ⟨#[46,46]⟩)) u26 (.string ⟨#[46,46]⟩)) cN fun x35=>
 vj (fun J1=>
 gdK x35 true (opN p_ (aG 33 x4) cN) fun x39=>
 gdK x35 true (opN p_ (gB #[33] 3 [x39]) cN) fun x40=>
 gdK x35 true (opN p_ (dY .eql 3 (.tmp 40) (.const (.int .i64 0)) x40 (.int .i64 0)) cN) fun x41=>
 opN p_ (d_ x35 x41 (.bool false)) cN fun x42=>
 condS x42
 (opN p_ (aM 9 x2 (.string ⟨#[]⟩)) cN fun _=>
 opN p_ (aM 29 x3 (.int .i64 40)) cN fun _=>
 J1r)
 (condS x35
 (opN p_ (aG 33 x4) cN fun x45=>
 opN p_ (aG 33 x4) cN fun x46=>
 opN p_ (gB #[33] 3 [x46]) cN fun x47=>
 opN p_ (a_ .sub 3 x47 (.int .i64 1)) cN fun x48=>
 opN p_ (n8 33 x45 none (some x48) none) cN fun x49=>
 opN p_ (aM 33 x4 x49) cN fun _=>
 J1)
 (opN p_ (zu .not x33) cN fun x52=>
 condS x52
 (opN p_ (aG 33 x4) cN fun x53=>
 opN p_ (co 33 1 [(0,u26)]) cN fun x55=>
 opN p_ (ju #[33,33] 33 [x53,x55]) cN fun x56=>
 opN p_ (aM 33 x4 x56) cN fun _=>
 J1)
 (J1)))) fun _=>
 gdK u27 true (fun k=>k x33) fun x59=>
 gdK u27 true (fun k=>k x59) fun x60=>
 gdK x60 false (fun k=>k x35) fun x61=>
 gdK u27 true (opN p_ (d_ x60 (.bool true) x61) cN) fun x62=>
 opN p_ (d_ u27 x62 (.bool false)) cN fun x63=>
 opN p_ (aM 4 x5 x63) cN fun _=>
 N1)) (fun d1=>
 opN p_ (aG 33 x4) (i5 [d1] Kp) fun x64=>
 opN p_ (bG (fn 205) [x64,(.string ⟨#[47]⟩)]) (i5 [d1] Kp) fun x65=>
 opN p_ (a_ .add 9 (.string ⟨#[47]⟩) x65) (i5 [d1] Kp) fun x66=>
 opN p_ (aG 4 x5) (i5 [d1] Kp) fun x67=>
 gdK x67 true (opN p_ (aG 33 x4) (i5 [d1] Kp)) fun x69=>
 gdK x67 true (opN p_ (gB #[33] 3 [x69]) (i5 [d1] Kp)) fun x70=>
 gdK x67 true (opN p_ (a_ .gtr 3 x70 (.int .i64 0)) (i5 [d1] Kp)) fun x71=>
 opN p_ (d_ x67 x71 (.bool false)) (i5 [d1] Kp) fun x72=>
 condS x72
 (opN p_ (a_ .add 9 x66 (.string ⟨#[47]⟩)) (i5 [d1] Kp) fun x74=>
 opN p_ (aM 9 x2 x74) (i5 [d1] Kp) fun _=>
 opN p_ (aM 29 x3 (.int .i64 0)) (i5 [d1] Kp) fun _=>
 (tkS d1 ((stS p_ (cZ 9 x2) fun r0=>(stS p_ (cZ 29 x3) fun r1=>K (.tuple #[r0,r1]))))))
 (opN p_ (aM 9 x2 x66) (i5 [d1] Kp) fun _=>
 opN p_ (aM 29 x3 (.int .i64 0)) (i5 [d1] Kp) fun _=>
 (tkS d1 ((stS p_ (cZ 9 x2) fun r0=>(stS p_ (cZ 29 x3) fun r1=>K (.tuple #[r0,r1]))))))) (fun d1=>(tkS d1 ((stS p_ (cZ 9 x2) fun r0=>(stS p_ (cZ 29 x3) fun r1=>K (.tuple #[r0,r1])))))) (fun d1 ch=>(tkS d1 (Kp ch))))
theorem tL {v0:Value}:Shp p_ 130 [v0] (qP v0):=At Tryz.call130 Tryz.func130 (an:={cuts:=[(16,[])]}) fun _ _=>by kernel_rfl
def fe (v0 v1 v2:Value)(rv:Value)(Kp:PK)(K:Value→WP):WP:=
 opN p_ (dY .neq 20 (.tmp 5) (.const .nilIface) rv .nilIface) Kp fun x6=>
 condS x6
 (n5 (stS p_ (aD 80 []) fun x7=>
 stD p_ (zO rv 20 260 false) fun D2 x9=>
 opN p_ (aM 80 v0 x7) Kp fun _=>
 (fun w=>D2 w∧(opN p_ (aM 3 v1 x9) Kp fun _=>
 opN p_ (aM 29 v2 (.int .i64 60)) Kp fun _=>
 K (.tuple #[])) w)))
 (K (.tuple #[]))
def ig:Ann:={drs:=[(2,.ofL [(0,1),(1,2),(2,3),(3,0),(4,0),(5,0)])]}
theorem lO (v0 v1 v2:Value)(rv:Value)(Kp:PK)(K:Value->WP):yh p_ ig Tryz.f135 [v0,v1,v2] rv Kp K=fe v0 v1 v2 rv Kp K:=by kernel_rfl
theorem mK {v0 v1 v2:Value}{u:FrameMode}{Kp:PK}{K:Value->WP}{w:World}(h:fe v0 v1 v2 (dZ u).1 Kp K w):CallsD p_ 135 ([v0,v1,v2]:List Value).toArray u w fun
   | .returned v,u',w'=>u'=(dZ u).2/\K v w'
   | .panicked ch,u',w'=>u'=(dZ u).2/\Kp ch w'
   | .outgrown,_,_=>False:=
 e5 wide Tryz.func135 (an:=ig) (args:=[v0,v1,v2]) (cast (congrFun (lO v0 v1 v2 _ Kp K) w).symm h)
def er (v0 v1:Value)(rv:Value)(Kp:PK)(K:Value→WP):WP:=
 opN p_ (dY .neq 20 (.tmp 4) (.const .nilIface) rv .nilIface) Kp fun x5=>
 condS x5
 (n5 (stD p_ (aG 73 v0) fun D0 x6=>
 stD p_ (aG 73 v0) fun D1 x7=>
 stD p_ (cT x7) fun D2 x8=>
 stD p_ (fI 175 x8 12) fun D3 x9=>
 stD p_ (aG 173 x9) fun D4 x10=>
 stS p_ (zO rv 20 242 false) fun x12=>
 stS p_ (nM 242 x12) fun x13=>
 opN p_ (co 173 1 [(0,x13)]) Kp fun x14=>
 (fun w=>D4 w∧(fun w=>D3 w∧(fun w=>D2 w∧(fun w=>D1 w∧(fun w=>D0 w∧(opN p_ (ju #[173,173] 173 [x10,x14]) Kp fun x15=>
 (fun w=>D0 w∧(stS p_ (cT x6) fun x16=>
 stS p_ (fI 175 x16 12) fun x17=>
 opN p_ (aM 173 x17 x15) Kp fun _=>
 opN p_ (aG 73 v0) Kp fun x18=>
 opN p_ (cT x18) Kp fun x19=>
 opN p_ (fI 175 x19 3) Kp fun x20=>
 opN p_ (aM 4 x20 (.bool false)) Kp fun _=>
 opN p_ (aM 35 v1 (.slice none 0 0)) Kp fun _=>
 K (.tuple #[])) w)) w) w) w) w) w)))
 (K (.tuple #[]))
def gh:Ann:={drs:=[(2,.ofL [(0,3),(1,3),(2,3),(3,3),(4,3),(5,1),(6,1),(7,1),(8,0),(9,0),(10,1),(11,1),(12,0)])]}
theorem kH (v0 v1:Value)(rv:Value)(Kp:PK)(K:Value->WP):yh p_ gh Tryz.f144 [v0,v1] rv Kp K=er v0 v1 rv Kp K:=by kernel_rfl
theorem k_ {v0 v1:Value}{u:FrameMode}{Kp:PK}{K:Value->WP}{w:World}(h:er v0 v1 (dZ u).1 Kp K w):CallsD p_ 144 ([v0,v1]:List Value).toArray u w fun
   | .returned v,u',w'=>u'=(dZ u).2/\K v w'
   | .panicked ch,u',w'=>u'=(dZ u).2/\Kp ch w'
   | .outgrown,_,_=>False:=
 e5 wide Tryz.func144 (an:=gh) (args:=[v0,v1]) (cast (congrFun (kH v0 v1 _ Kp K) w).symm h)
def nB (v0:Value)(Kp:PK)(K:Value→WP):WP:=
 opN p_ (kX 207 v0) Kp fun x1=>
 opN p_ (cF 9) Kp fun x2=>
 opN p_ (cF 29) Kp fun x3=>
 opN p_ (bG (fn 265) [x1]) Kp fun x12=>
 qF (fun I1 m1 _ y13=>
 opN p_ (a_ .lss 3 y13 (.int .i64 3)) Kp fun x14=>
 condS x14
 (opN p_ (mB 401 x12 y13) Kp fun x15=>
 opN p_ (cT x15) Kp fun x17=>
 opN p_ (aG 3 x17) Kp fun x18=>
 opN p_ (a_ .lss 3 x18 (.int .i64 0)) Kp fun x19=>
 gdK x19 false (fun k=>k x15) fun x21=>
 gdK x19 false (opN p_ (cT x21) Kp) fun x22=>
 gdK x19 false (opN p_ (aG 3 x22) Kp) fun x23=>
 gdK x19 false (opN p_ (a_ .gtr 3 x23 (.int .i64 1000000000000000000)) Kp) fun x24=>
 opN p_ (d_ x19 (.bool true) x24) Kp fun x25=>
 condS x25
 (opN p_ (aM 9 x2 (.string ⟨#[]⟩)) Kp fun _=>
 opN p_ (aM 29 x3 (.int .i64 1)) Kp fun _=>
 (stS p_ (cZ 9 x2) fun r0=>(stS p_ (cZ 29 x3) fun r1=>K (.tuple #[r0,r1]))))
 (opN p_ (a_ .add 3 y13 (.int .i64 1)) Kp fun x26=>
 lI I1 m1 x26))
 (opN p_ (bG (fn 266) [x1]) Kp fun x27=>
 rfS p_ x27 1 (fun u28 B1 N1 J1r=>
 B1 (opN p_ (cT u28) cN fun x30=>
 opN p_ (aG 9 x30) cN fun x31=>
 opN p_ (gB #[9] 3 [x31]) cN fun x32=>
 opN p_ (a_ .gtr 3 x32 (.int .i64 8192)) cN fun x33=>
 condS x33
 (opN p_ (aM 9 x2 (.string ⟨#[]⟩)) cN fun _=>
 opN p_ (aM 29 x3 (.int .i64 6)) cN fun _=>
 J1r)
 (N1))) (fun d1=>
 opN p_ (bG (fn 267) [x1]) (i5 [d1] Kp) fun x34=>
 oU (fun I2 m2 _ y7 y35=>
 opN p_ (a_ .lss 3 y35 (.int .i64 8)) (i5 [d1] Kp) fun x36=>
 condS x36
 (opN p_ (mB 407 x34 y35) (i5 [d1] Kp) fun x37=>
 opN p_ (bG x37 [(.string ⟨#[]⟩)]) (i5 [d1] Kp) fun x40=>
 opN p_ (kY x40 0) (i5 [d1] Kp) fun x41=>
 opN p_ (kY x40 1) (i5 [d1] Kp) fun x42=>
 opN p_ (co 33 1 [(0,x41)]) (i5 [d1] Kp) fun x45=>
 opN p_ (ju #[33,33] 33 [y7,x45]) (i5 [d1] Kp) fun x46=>
 opN p_ (a_ .add 3 y35 (.int .i64 1)) (i5 [d1] Kp) fun x47=>
 oV I2 m2 x46 x47)
 (opN p_ (bG (fn 205) [y7,(.string ⟨#[32]⟩)]) (i5 [d1] Kp) fun x49=>
 opN p_ (aM 9 x2 x49) (i5 [d1] Kp) fun _=>
 opN p_ (aM 29 x3 (.int .i64 0)) (i5 [d1] Kp) fun _=>
 (tkS d1 ((stS p_ (cZ 9 x2) fun r0=>(stS p_ (cZ 29 x3) fun r1=>K (.tuple #[r0,r1]))))))) (.slice none 0 0) (.int .i64 0)) (fun d1=>(tkS d1 ((stS p_ (cZ 9 x2) fun r0=>(stS p_ (cZ 29 x3) fun r1=>K (.tuple #[r0,r1])))))) (fun d1 ch=>(tkS d1 (Kp ch))))) (.int .i64 0)
theorem qk {v0:Value}:Shp p_ 169 [v0] (nB v0):=At Tryz.call169 Tryz.func169 (an:={loops:=[(2,[13]),(13,[7,35])]}) fun _ _=>by kernel_rfl
def gT (v0 v1:Value)(Kp:PK)(K:Value→WP):WP:=
 opN p_ (kX 322 v1) Kp fun x3=>
 opN p_ (cF 33) Kp fun x4=>
 opN p_ (cF 29) Kp fun x5=>
 opN p_ (cF 33) Kp fun x6=>
 opN p_ (aG 322 x3) Kp fun x10=>
 opN p_ (bG (fn 287) [x10,v0]) Kp fun x12=>
 rfS p_ x12 1 (fun u13 B1 N1 J1r=>
 B1 (opN p_ (fI 322 x3 2) cN fun x15=>
 opN p_ (aG 320 x15) cN fun x16=>
 opN p_ (bG x16 [u13]) cN fun x18=>
 opN p_ (kY x18 0) cN fun x19=>
 opN p_ (kY x18 1) cN fun x20=>
 opN p_ (zu .not x20) cN fun x22=>
 condS x22
 (opN p_ (aM 33 x4 (.slice none 0 0)) cN fun _=>
 opN p_ (aM 29 x5 (.int .i64 42)) cN fun _=>
 J1r)
 (opN p_ (aG 33 x6) cN fun x23=>
 opN p_ (co 33 1 [(0,x19)]) cN fun x25=>
 opN p_ (ju #[33,33] 33 [x23,x25]) cN fun x26=>
 opN p_ (aM 33 x6 x26) cN fun _=>
 N1))) (fun d1=>
 opN p_ (aG 33 x6) (i5 [d1] Kp) fun x27=>
 opN p_ (aM 33 x4 x27) (i5 [d1] Kp) fun _=>
 opN p_ (aM 29 x5 (.int .i64 0)) (i5 [d1] Kp) fun _=>
 (tkS d1 ((stS p_ (cZ 33 x4) fun r0=>(stS p_ (cZ 29 x5) fun r1=>K (.tuple #[r0,r1])))))) (fun d1=>(tkS d1 ((stS p_ (cZ 33 x4) fun r0=>(stS p_ (cZ 29 x5) fun r1=>K (.tuple #[r0,r1])))))) (fun d1 ch=>(tkS d1 (Kp ch)))
theorem jU {v0 v1:Value}:Shp p_ 178 [v0,v1] (gT v0 v1):=At Tryz.call178 Tryz.func178 (an:={}) fun _ _=>by kernel_rfl
def dz (v0:Value)(rv:Value)(Kp:PK)(K:Value→WP):WP:=
 opN p_ (dY .neq 20 (.tmp 3) (.const .nilIface) rv .nilIface) Kp fun x4=>
 condS x4
 (n5 (stS p_ (aG 120 v0) fun x5=>
 stS p_ (zO rv 20 29 false) fun x7=>
 stS p_ (cT x5) fun x8=>
 stS p_ (fI 234 x8 10) fun x9=>
 opN p_ (aM 29 x9 x7) Kp fun _=>
 K (.tuple #[])))
 (K (.tuple #[]))
def eH:Ann:={drs:=[(2,.ofL [(0,1),(1,1),(2,1),(3,1),(4,1),(5,0)])]}
theorem ir (v0:Value)(rv:Value)(Kp:PK)(K:Value->WP):yh p_ eH Tryz.f194 [v0] rv Kp K=dz v0 rv Kp K:=by kernel_rfl
theorem iM {v0:Value}{u:FrameMode}{Kp:PK}{K:Value->WP}{w:World}(h:dz v0 (dZ u).1 Kp K w):CallsD p_ 194 ([v0]:List Value).toArray u w fun
   | .returned v,u',w'=>u'=(dZ u).2/\K v w'
   | .panicked ch,u',w'=>u'=(dZ u).2/\Kp ch w'
   | .outgrown,_,_=>False:=
 e5 wide Tryz.func194 (an:=eH) (args:=[v0]) (cast (congrFun (ir v0 _ Kp K) w).symm h)
def jV (v0:Value)(Kp:PK)(K:Value→WP):WP:=
 opN p_ (a_ .lss 3 v0 (.int .i64 10)) Kp fun x4=>
 condS x4
 (opN p_ (a_ .add 3 v0 (.int .i64 1)) Kp fun x7=>
 opN p_ (n8 9 (.string ⟨#[48,49,50,51,52,53,54,55,56,57,97,98,99,100,101,102,103,104,105,106,107,108,109,110,111,112,113,114,115,116,117,118,119,120,121,122]⟩) (some v0) (some x7) none) Kp fun x8=>
 K x8)
 (opN p_ (a_ .mul 3 v0 (.int .i64 2)) Kp fun x10=>
 opN p_ (a_ .mul 3 v0 (.int .i64 2)) Kp fun x12=>
 opN p_ (a_ .add 3 x12 (.int .i64 2)) Kp fun x13=>
 opN p_ (n8 9 (ay fL) (some x10) (some x13) none) Kp fun x14=>
 K x14)
theorem mL {v0:Value}:Shp p_ 239 [v0] (jV v0):=Ug Tryz.call239 Tryz.func239 (an:={}) fun _ _=>by kernel_rfl
def fA (v0 v1:Value)(Kp:PK)(K:Value→WP):WP:=
 opN p_ (gB #[35] 3 [v0]) Kp fun x18=>
 oU (fun I1 m1 _ y1 y4=>
 opN p_ (a_ .geq 3 y4 (.int .i64 8)) Kp fun x20=>
 condS x20
 (opN p_ (a_ .rem 374 y1 (.int .u64 100000000)) Kp fun x22=>
 opN p_ (ei 374 484 x22) Kp fun x23=>
 opN p_ (a_ .quo 374 y1 (.int .u64 100000000)) Kp fun x25=>
 opN p_ (a_ .quo 484 x23 (.int .u32 10000)) Kp fun x27=>
 opN p_ (a_ .rem 484 x23 (.int .u32 10000)) Kp fun x29=>
 opN p_ (a_ .quo 484 x29 (.int .u32 100)) Kp fun x31=>
 opN p_ (a_ .mul 484 x31 (.int .u32 2)) Kp fun x32=>
 opN p_ (a_ .rem 484 x29 (.int .u32 100)) Kp fun x34=>
 opN p_ (a_ .mul 484 x34 (.int .u32 2)) Kp fun x35=>
 opN p_ (a_ .quo 484 x27 (.int .u32 100)) Kp fun x37=>
 opN p_ (a_ .mul 484 x37 (.int .u32 2)) Kp fun x38=>
 opN p_ (a_ .rem 484 x27 (.int .u32 100)) Kp fun x40=>
 opN p_ (a_ .mul 484 x40 (.int .u32 2)) Kp fun x41=>
 n5 (stS p_ (a_ .sub 3 y4 (.int .i64 1)) fun x44=>
 stD p_ (a_ .sub 3 y4 (.int .i64 2)) fun D5 x47=>
 stS p_ (a_ .add 484 x35 (.int .u32 1)) fun x49=>
 stS p_ (mB 9 (ay fL) x49) fun x50=>
 stD p_ (mB 9 (ay fL) x35) fun D10 x52=>
 stS p_ (kL 35 v0 x44) fun x53=>
 opN p_ (aM 5 x53 x50) Kp fun _=>
 (fun w=>D10 w∧(fun w=>D5 w∧(stS p_ (kL 35 v0 x47) fun x54=>
 opN p_ (aM 5 x54 x52) Kp fun _=>
 n5 (stS p_ (a_ .sub 3 y4 (.int .i64 3)) fun x57=>
 stD p_ (a_ .sub 3 y4 (.int .i64 4)) fun D5 x60=>
 stS p_ (a_ .add 484 x32 (.int .u32 1)) fun x62=>
 stS p_ (mB 9 (ay fL) x62) fun x63=>
 stD p_ (mB 9 (ay fL) x32) fun D10 x65=>
 stS p_ (kL 35 v0 x57) fun x66=>
 opN p_ (aM 5 x66 x63) Kp fun _=>
 (fun w=>D10 w∧(fun w=>D5 w∧(stS p_ (kL 35 v0 x60) fun x67=>
 opN p_ (aM 5 x67 x65) Kp fun _=>
 n5 (stS p_ (a_ .sub 3 y4 (.int .i64 5)) fun x70=>
 stD p_ (a_ .sub 3 y4 (.int .i64 6)) fun D5 x73=>
 stS p_ (a_ .add 484 x41 (.int .u32 1)) fun x75=>
 stS p_ (mB 9 (ay fL) x75) fun x76=>
 stD p_ (mB 9 (ay fL) x41) fun D10 x78=>
 stS p_ (kL 35 v0 x70) fun x79=>
 opN p_ (aM 5 x79 x76) Kp fun _=>
 (fun w=>D10 w∧(fun w=>D5 w∧(stS p_ (kL 35 v0 x73) fun x80=>
 opN p_ (aM 5 x80 x78) Kp fun _=>
 n5 (stS p_ (a_ .sub 3 y4 (.int .i64 7)) fun x83=>
 stD p_ (a_ .sub 3 y4 (.int .i64 8)) fun D5 x86=>
 stS p_ (a_ .add 484 x38 (.int .u32 1)) fun x88=>
 stS p_ (mB 9 (ay fL) x88) fun x89=>
 stD p_ (mB 9 (ay fL) x38) fun D10 x91=>
 stS p_ (kL 35 v0 x83) fun x92=>
 opN p_ (aM 5 x92 x89) Kp fun _=>
 (fun w=>D10 w∧(fun w=>D5 w∧(stS p_ (kL 35 v0 x86) fun x93=>
 opN p_ (aM 5 x93 x91) Kp fun _=>
 opN p_ (a_ .sub 3 y4 (.int .i64 8)) Kp fun x95=>
 oV I1 m1 x25 x95) w) w))) w) w))) w) w))) w) w)))
 (opN p_ (ei 374 484 y1) Kp fun x97=>
 oT (fun J1=>
 opN p_ (a_ .geq 3 y4 (.int .i64 4)) Kp fun x99=>
 condS x99
 (opN p_ (a_ .rem 484 x97 (.int .u32 10000)) Kp fun x101=>
 opN p_ (a_ .quo 484 x97 (.int .u32 10000)) Kp fun x103=>
 opN p_ (a_ .quo 484 x101 (.int .u32 100)) Kp fun x105=>
 opN p_ (a_ .mul 484 x105 (.int .u32 2)) Kp fun x106=>
 opN p_ (a_ .rem 484 x101 (.int .u32 100)) Kp fun x108=>
 opN p_ (a_ .mul 484 x108 (.int .u32 2)) Kp fun x109=>
 n5 (stS p_ (a_ .sub 3 y4 (.int .i64 1)) fun x112=>
 stD p_ (a_ .sub 3 y4 (.int .i64 2)) fun D5 x115=>
 stS p_ (a_ .add 484 x109 (.int .u32 1)) fun x117=>
 stS p_ (mB 9 (ay fL) x117) fun x118=>
 stD p_ (mB 9 (ay fL) x109) fun D10 x120=>
 stS p_ (kL 35 v0 x112) fun x121=>
 opN p_ (aM 5 x121 x118) Kp fun _=>
 (fun w=>D10 w∧(fun w=>D5 w∧(stS p_ (kL 35 v0 x115) fun x122=>
 opN p_ (aM 5 x122 x120) Kp fun _=>
 n5 (stS p_ (a_ .sub 3 y4 (.int .i64 3)) fun x125=>
 stD p_ (a_ .sub 3 y4 (.int .i64 4)) fun D5 x128=>
 stS p_ (a_ .add 484 x106 (.int .u32 1)) fun x130=>
 stS p_ (mB 9 (ay fL) x130) fun x131=>
 stD p_ (mB 9 (ay fL) x106) fun D10 x133=>
 stS p_ (kL 35 v0 x125) fun x134=>
 opN p_ (aM 5 x134 x131) Kp fun _=>
 (fun w=>D10 w∧(fun w=>D5 w∧(stS p_ (kL 35 v0 x128) fun x135=>
 opN p_ (aM 5 x135 x133) Kp fun _=>
 opN p_ (a_ .sub 3 y4 (.int .i64 4)) Kp fun x137=>
 J1 x137 x103) w) w))) w) w)))
 (J1 y4 x97)) fun _ z4 z12=>
 oT (fun J2=>
 opN p_ (a_ .geq 3 z4 (.int .i64 2)) Kp fun x139=>
 condS x139
 (opN p_ (a_ .rem 484 z12 (.int .u32 100)) Kp fun x141=>
 opN p_ (a_ .mul 484 x141 (.int .u32 2)) Kp fun x142=>
 opN p_ (a_ .quo 484 z12 (.int .u32 100)) Kp fun x144=>
 n5 (stS p_ (a_ .sub 3 z4 (.int .i64 1)) fun x147=>
 stD p_ (a_ .sub 3 z4 (.int .i64 2)) fun D5 x150=>
 stS p_ (a_ .add 484 x142 (.int .u32 1)) fun x152=>
 stS p_ (mB 9 (ay fL) x152) fun x153=>
 stD p_ (mB 9 (ay fL) x142) fun D10 x155=>
 stS p_ (kL 35 v0 x147) fun x156=>
 opN p_ (aM 5 x156 x153) Kp fun _=>
 (fun w=>D10 w∧(fun w=>D5 w∧(stS p_ (kL 35 v0 x150) fun x157=>
 opN p_ (aM 5 x157 x155) Kp fun _=>
 opN p_ (a_ .sub 3 z4 (.int .i64 2)) Kp fun x159=>
 J2 x159 x144) w) w)))
 (J2 z4 z12)) fun _ z4 z12=>
 opN p_ (a_ .gtr 3 z4 (.int .i64 0)) Kp fun x161=>
 condS x161
 (opN p_ (a_ .add 484 (.int .u32 48) z12) Kp fun x164=>
 opN p_ (ei 484 5 x164) Kp fun x165=>
 opN p_ (kL 35 v0 (.int .i64 0)) Kp fun x166=>
 opN p_ (aM 5 x166 x165) Kp fun _=>
 K (.tuple #[]))
 (K (.tuple #[])))) v1 x18
theorem iN {v0 v1:Value}:Shp p_ 241 [v0,v1] (fA v0 v1):=Ug Tryz.call241 Tryz.func241 (an:={cuts:=[(20,[4,12]),(25,[4,12])],loops:=[(1,[1,4])],drs:=[(7,.ofL [(0,1),(1,1),(2,1),(3,2),(4,2),(5,3),(6,1),(7,1),(8,1),(9,2),(10,3),(11,1),(12,0),(13,1),(14,0)]),(8,.ofL [(0,1),(1,1),(2,1),(3,2),(4,2),(5,3),(6,1),(7,1),(8,1),(9,2),(10,3),(11,1),(12,0),(13,1),(14,0)]),(9,.ofL [(0,1),(1,1),(2,1),(3,2),(4,2),(5,3),(6,1),(7,1),(8,1),(9,2),(10,3),(11,1),(12,0),(13,1),(14,0)]),(10,.ofL [(0,1),(1,1),(2,1),(3,2),(4,2),(5,3),(6,1),(7,1),(8,1),(9,2),(10,3),(11,1),(12,0),(13,1),(14,0)]),(17,.ofL [(0,1),(1,1),(2,1),(3,2),(4,2),(5,3),(6,1),(7,1),(8,1),(9,2),(10,3),(11,1),(12,0),(13,1),(14,0)]),(18,.ofL [(0,1),(1,1),(2,1),(3,2),(4,2),(5,3),(6,1),(7,1),(8,1),(9,2),(10,3),(11,1),(12,0),(13,1),(14,0)]),(23,.ofL [(0,1),(1,1),(2,1),(3,2),(4,2),(5,3),(6,1),(7,1),(8,1),(9,2),(10,3),(11,1),(12,0),(13,1),(14,0)])]}) fun _ _=>by kernel_rfl
def jp (v0:Value)(Kp:PK)(K:Value→WP):WP:=
 oT (fun J1=>
 opN p_ (a_ .geq 374 v0 (.int .u64 4294967296)) Kp fun x4=>
 condS x4
 (opN p_ (a_ .shr 374 v0 (.int .u64 32)) Kp fun x6=>
 J1 x6 (.int .i64 32))
 (J1 v0 (.int .i64 0))) fun _ z0 z2=>
 oT (fun J2=>
 opN p_ (a_ .geq 374 z0 (.int .u64 65536)) Kp fun x8=>
 condS x8
 (opN p_ (a_ .shr 374 z0 (.int .u64 16)) Kp fun x10=>
 opN p_ (a_ .add 3 z2 (.int .i64 16)) Kp fun x12=>
 J2 x10 x12)
 (J2 z0 z2)) fun _ z0 z2=>
 oT (fun J3=>
 opN p_ (a_ .geq 374 z0 (.int .u64 256)) Kp fun x14=>
 condS x14
 (opN p_ (a_ .shr 374 z0 (.int .u64 8)) Kp fun x16=>
 opN p_ (a_ .add 3 z2 (.int .i64 8)) Kp fun x18=>
 J3 x16 x18)
 (J3 z0 z2)) fun _ z0 z2=>
 opN p_ (ei 374 5 z0) Kp fun x21=>
 opN p_ (mB 9 (ay o6) x21) Kp fun x22=>
 opN p_ (ei 5 3 x22) Kp fun x23=>
 opN p_ (a_ .add 3 z2 x23) Kp fun x24=>
 K x24
theorem lP {v0:Value}:Shp p_ 349 [v0] (jp v0):=Ug Tryz.call349 Tryz.func349 (an:={cuts:=[(4,[0,2]),(7,[0,2]),(10,[0,2])]}) fun _ _=>by kernel_rfl
def d4 (v0 v1:Value)(Kp:PK)(K:Value→WP):WP:=
 opN p_ (kX 580 v1) Kp fun x3=>
 opN p_ (cF 520) Kp fun x4=>
 opN p_ (cF 29) Kp fun x5=>
 opN p_ (cF 520) Kp fun x6=>
 opN p_ (aG 580 x3) Kp fun x10=>
 opN p_ (bG (fn 496) [x10,v0]) Kp fun x12=>
 rfS p_ x12 1 (fun u13 B1 N1 J1r=>
 B1 (opN p_ (fI 580 x3 2) cN fun x15=>
 opN p_ (aG 578 x15) cN fun x16=>
 opN p_ (bG x16 [u13]) cN fun x18=>
 opN p_ (kY x18 0) cN fun x19=>
 opN p_ (kY x18 1) cN fun x20=>
 opN p_ (cF 524) cN fun x8=>
 opN p_ (aM 524 x8 x19) cN fun _=>
 opN p_ (zu .not x20) cN fun x22=>
 condS x22
 (opN p_ (aM 520 x4 (.slice none 0 0)) cN fun _=>
 opN p_ (aM 29 x5 (.int .i64 42)) cN fun _=>
 J1r)
 (opN p_ (aG 520 x6) cN fun x23=>
 opN p_ (aG 524 x8) cN fun x24=>
 opN p_ (co 520 1 [(0,x24)]) cN fun x25=>
 opN p_ (ju #[520,520] 520 [x23,x25]) cN fun x26=>
 opN p_ (aM 520 x6 x26) cN fun _=>
 N1))) (fun d1=>
 opN p_ (aG 520 x6) (i5 [d1] Kp) fun x27=>
 opN p_ (aM 520 x4 x27) (i5 [d1] Kp) fun _=>
 opN p_ (aM 29 x5 (.int .i64 0)) (i5 [d1] Kp) fun _=>
 (tkS d1 ((stS p_ (cZ 520 x4) fun r0=>(stS p_ (cZ 29 x5) fun r1=>K (.tuple #[r0,r1])))))) (fun d1=>(tkS d1 ((stS p_ (cZ 520 x4) fun r0=>(stS p_ (cZ 29 x5) fun r1=>K (.tuple #[r0,r1])))))) (fun d1 ch=>(tkS d1 (Kp ch)))
theorem fN {v0 v1:Value}:Shp p_ 442 [v0,v1] (d4 v0 v1):=At Tryz.call442 Tryz.func442 (an:={}) fun _ _=>by kernel_rfl
end Go.Proofs.YtdjkdjepjahjfaaGreatDoor.S
namespace Go.Proofs.YtdjkdjepjahjfaaGreatDoor.FD
open Go Go.Proofs Go.RowKit Sh Sl T
section
variable {P:Program} {W:World} {L L':List HP} {Kp:PK} {k:Value->WP}
theorem tM {a b:Bool}{y:Value}{s:Value->Sem Next}(h2:a=true->aQ P W [] (s y) (.bool b))(h:aJ W L (k (.bool (a&&b)))):
  aJ W L (gdK (.bool a) true (fun k=>k y) fun x=>gdK (.bool a) true (opN P (s x) Kp) fun x2=>opN P (d_ (.bool a) x2 (.bool false)) Kp k):=by
 cases a with
 |true=>
  refine ab (ab (o_ (h2 rfl) ?_))
  refine o_ av ?_
  simpa using h
 |false=>
  refine aj (aj (o_ ak ?_))
  simpa using h
theorem r8 {a b c:Bool}{y:Value}{s1 s2:Value->Sem Next}(h1:a=false->aQ P W [] (s1 y) (.bool b))(h2:a=false->b=true->aQ P W [] (s2 y) (.bool c))(h:aJ W L (k (.bool (a||(b&&c))))):
  aJ W L (gdK (.bool a) false (fun k=>k y) fun x14=>gdK (.bool a) false (opN P (s1 x14) Kp) fun x15=>gdK (.bool a) false (fun k=>k x15) fun x16=>gdK x16 true (fun k=>k y) fun x17=>gdK x16 true (opN P (s2 x17) Kp) fun x18=>
   gdK (.bool a) false (opN P (d_ x16 x18 (.bool false)) Kp) fun x19=>opN P (d_ (.bool a) (.bool true) x19) Kp k):=by
 cases a with
 |true=>
  refine aC (aC (aC (bT (bT (aC (o_ av ?_))))))
  simpa using h
 |false=>
  refine ab (ab (o_ (h1 rfl) ?_))
  refine ab ?_
  cases b with
  |true=>
   refine ab (ab (o_ (h2 rfl rfl) ?_))
   refine ab (o_ av (o_ ak ?_))
   simpa using h
  |false=>
   refine aj (aj (ab (o_ ak (o_ ak ?_))))
   simpa using h
theorem OY {t:TypeId} {g o:Nat} {cs:Array Value} {T:TypeId} {fz:Nat × Nat} {v:Value} [ht:OneT P t] [hv:OC v] (p:Pick L (pt g (.cells cs T fz)) L') (ho:o<cs.size) (hfz:¬(fz.1<=o/\o<fz.2))
  (h:aJ W (pt g (.cells (cs.setIfInBounds o v) T fz)::L') (k undef)):aJ W L (opN P (aM t (.pointer (some ⟨g,o,none⟩)) v) Kp k):=fun w hw=>by
 have hw':=hw.pick p
 have hc:w.cell? ⟨g,o,none⟩=some cs[o]:=by rw[hw'.cell,Array.getElem?_eq_getElem ho]
 have hf:w.frozen? ⟨g,o,none⟩=false:=by
  simp only[World.frozen?,hw'.pt_.1]
  simp
  intro h1
  by_cases c:o<fz.2
  ·exact absurd ⟨h1,c⟩ hfz
  ·omega
 have hcells:v.cells= #[v]:=by exact ao hv.one
 refine⟨?_⟩
 have hr:(aM t (.pointer (some ⟨g,o,none⟩)) v).run P w= .ok .skip (w.setCell ⟨g,o,none⟩ v):=by
  simp[aM,Instr.storeAt,Instr.sureAddr,storeVar,ht.size,hcells,storeCells,Addr.add,run_store,hv.one,hc,hf]
 rw[hr]
 exact h _ (hw'.setCell v)
theorem qQ {s t e:TypeId} {l:List UInt8} [hs:StrT P s] (ht:P.underlying t=some (.slice e)) (he:P.underlying e=some (.int .u8))
  (h:∀g c (rest:List Value),aJ W (pt g (.cells (l.map B++rest).toArray e (l.length+rest.length,l.length+rest.length+1))::L) (k (.slice (some ⟨g,0,none⟩) l.length c))):aJ W L (opN P (ei s t (ay l)) Kp k):=fun w hw=>by
 refine⟨?_⟩
 have hr:=run_bytes_of_string (P:=P) w s t e ⟨l.toArray⟩ hs.ut ht he
 have hb:bytesRow ⟨l.toArray⟩ (grownCap w l.length 0 e)=(l.map B++(Array.replicate (grownCap w l.length 0 e-l.length) (Value.int .u8 0)).toList).toArray:=by
  apply Array.ext'
  simp[bytesRow,B,ByteArray.size]
 have:(ei s t (ay l)).run P w= .ok (.value (.slice (some ⟨w.heap.size,0,none⟩) l.length (grownCap w l.length 0 e))) (w.drew.alloc (.cells (bytesRow ⟨l.toArray⟩ (grownCap w l.length 0 e)) e ((bytesRow ⟨l.toArray⟩ (grownCap w l.length 0 e)).size,(bytesRow ⟨l.toArray⟩ (grownCap w l.length 0 e)).size+1))):=by
  simp[ei,ay,hr,ByteArray.size]
 rw[this]
 have h2:=(hw.drew).alloc (.cells (bytesRow ⟨l.toArray⟩ (grownCap w l.length 0 e)) e ((bytesRow ⟨l.toArray⟩ (grownCap w l.length 0 e)).size,(bytesRow ⟨l.toArray⟩ (grownCap w l.length 0 e)).size+1))
 rw[hb]at h2 ⊢
 have hz:((l.map B++(Array.replicate (grownCap w l.length 0 e-l.length) (Value.int .u8 0)).toList).toArray).size=l.length+((Array.replicate (grownCap w l.length 0 e-l.length) (Value.int .u8 0)).toList).length:=by simp
 rw[hz]at h2 ⊢
 exact h _ _ _ _ h2
end
def lB (l:List UInt8)(c:UInt8):Int:=if c∈l then((l.findIdx (· ==c):Nat):Int)else-1
theorem tN {l:List UInt8}{c:UInt8}:firstIdx ⟨l.toArray⟩ c=lB l c:=by
 have e:∀i,i<l.length->((⟨l.toArray⟩:ByteArray)[i]! ==c)=(l.getD i 0==c):=fun i hi=>by
  have h2:i<(⟨l.toArray⟩:ByteArray).size:=hi
  rw[getElem!_pos _ i h2]
  simp[ByteArray.getElem_eq_getElem_data,List.getD_eq_getElem?_getD,hi]
 unfold lB
 by_cases h:c∈l
 ·rw[if_pos h]
  have hlt:l.findIdx (· ==c)<l.length:=List.findIdx_lt_length_of_exists ⟨c,h,by simp⟩
  have hf:(List.range (⟨l.toArray⟩:ByteArray).size).find? (fun i=>(⟨l.toArray⟩:ByteArray)[i]! ==c)=some (l.findIdx (· ==c)):=by
   rw[List.find?_eq_some_iff_getElem]
   refine⟨?_,l.findIdx (· ==c),by simpa [ByteArray.size]using hlt,by simp,fun j hj=>?_⟩
   ·rw[e _ hlt]
    have:=List.findIdx_getElem (w:=hlt)
    simpa [List.getD_eq_getElem?_getD,hlt]using this
   ·have hjl:j<l.length:=by omega
    simp only[List.getElem_range]
    rw[e _ hjl]
    have:=List.not_of_lt_findIdx hj
    simpa [List.getD_eq_getElem?_getD,hjl]using this
  unfold firstIdx
  rw[hf]
 ·rw[if_neg h]
  have hf:(List.range (⟨l.toArray⟩:ByteArray).size).find? (fun i=>(⟨l.toArray⟩:ByteArray)[i]! ==c)=none:=by
   rw[List.find?_eq_none]
   intro i hi
   have hil:i<l.length:=by simpa [ByteArray.size]using hi
   rw[e i hil]
   simp[List.getD_eq_getElem?_getD,hil]
   rintro rfl
   exact h (List.getElem_mem hil)
  unfold firstIdx
  rw[hf]
theorem eO {l:List UInt8}{c:UInt8}:(0<=lB l c)↔c∈l:=by
 unfold lB
 by_cases h:c∈l
 ·rw[if_pos h];simp[h]
 ·rw[if_neg h];simp[h]
theorem o9 {W:World}{l:List UInt8}{c:UInt8}:Cn p_ 244 [ay l,Sl.B c] W [] (fun _:Unit=> .int .i64 (lB l c)) (fun _=>[]):=by
 have ext:aQ p_ W [] (bG (fn 353) [ay l,Sl.B c]) (.int .i64 (lB l c)):=fun w _=>by
  have hr:(callFunc 353 #[ay l,Sl.B c]).run p_ w= .ok (.value (.int .i64 (lB l c))) w:=by
   rw[run_callFunc_extern Tryz.func353 (by kernel_rfl) (by kernel_rfl) (by kernel_rfl) (e:=Extern.BytealgIndexByte.indexByte) (by kernel_rfl)]
   have:=run_indexByte_string (P:=p_) ⟨l.toArray⟩ (c.toNat:Int) w
   unfold ay Sl.B
   rw[this]
   simp only[Result.andThen_ok]
   rw[show(↑c.toNat:Int).toNat.toUInt8=c by simp,tN]
  simp[bG,Deferred.ofValue,invoke,fn,hr]
 (refine Shp.cn (Sg.g_ Tryz.call244 Tryz.func244) fun F=>?_;simp only[ca_,na_])
 refine o_ ext ?_
 refine aR () ?_
 exact az
theorem indexByte {W:World}{l:List UInt8}{c:UInt8}:Cn p_ 150 [ay l,Sl.B c] W [] (fun _:Unit=> .int .i64 (lB l c)) (fun _=>[]):=by
 (refine Shp.cn (Sg.g_ Tryz.call150 Tryz.func150) fun F=>?_;simp only[ca_,na_])
 refine c_ o9 fun _=>?_
 refine aR () ?_
 exact az
end Go.Proofs.YtdjkdjepjahjfaaGreatDoor.FD
namespace Go.Proofs.YtdjkdjepjahjfaaGreatDoor.FD
open Go Go.Proofs Go.RowKit Sh Sl T
instance SP:ZeroT p_ 380 (.agg (An 256 fun _=>0)):=⟨fun w=>(Tryz.zeroValue380 w).trans (by
 have:Tryz.zeroCells380=An 256 fun _=>0:=by kernel_rfl
 rw[this])⟩
def u8 (i:Nat):UInt8:=UInt8.ofNat i
theorem vx {i:Nat}(h:i<256):(u8 i).toNat=i:=by
 unfold u8
 rw[UInt8.toNat_ofNat']
 omega
def wU (i:Nat):Int:=if tD (u8 i)then 1 else 0
def yo (i:Nat):Int:=wU i+(if i=9\/(32<=i/\i≠127)then 2 else 0)
def s6 (i:Nat):Int:=yo i+(if 65<=i/\i<=90 then 4 else 0)
theorem OZ {i:Nat}(h:i<256):((decide ((97:Int)<=(i:Int))&&decide ((i:Int)<=122))||(decide ((65:Int)<=(i:Int))&&decide ((i:Int)<=90))||(decide ((48:Int)<=(i:Int))&&decide ((i:Int)<=57)))=r7 (u8 i):=by
 unfold r7
 have e:=vx h
 simp only[UInt8.le_iff_toNat_le,e]
 rw[<- Bool.decide_and,<- Bool.decide_and,<- Bool.decide_and,<- Bool.decide_or,<- Bool.decide_or,decide_eq_decide]
 simp only[show(97:UInt8).toNat=97 from rfl,show(122:UInt8).toNat=122 from rfl,show(65:UInt8).toNat=65 from rfl,show(90:UInt8).toNat=90 from rfl,show(48:UInt8).toNat=48 from rfl,show(57:UInt8).toNat=57 from rfl]
 omega
theorem HO (c:UInt8):vu.contains c=true->32<c.toNat/\c.toNat<127:=by
 refine Ak (p:=fun c=>vu.contains c=true->32<c.toNat/\c.toNat<127) ?_ c
 decide+kernel
def ot (i:Nat)(x:Int):Nat->Int:=fun j=>if j<i then s6 j else if j=i then x else 0
theorem r9 {i:Nat}{x y:Int}:(An 256 (ot i x)).setIfInBounds i (.int .i64 y)=An 256 (ot i y):=by
 refine HN.trans (lM fun j _=>?_)
 unfold ot
 by_cases h:j=i
 ·subst h;simp
 ·simp[h]
theorem vy {i:Nat}{x:Int}(h:i<256):(An 256 (ot i x))[i]? =some (.int .i64 x):=by
 rw[mH h];simp[ot,I]
theorem Au {i:Nat}:An 256 (ot i (s6 i))=An 256 (ot (i+1) 0):=lM fun j _=>by
 unfold ot
 by_cases h:j<i
 ·rw[if_pos h,if_pos (by omega)]
 ·by_cases h2:j=i
  ·subst h2;simp
  ·rw[if_neg h,if_neg h2,if_neg (by omega)];simp
theorem vz {n:Nat}{f:Nat->Int}:∀u∈(An n f).toList,u.oneCell'=true:=by
 intro u hu
 simp only[An]at hu
 obtain⟨j,_,rfl⟩:=List.mem_map.1 hu
 rfl
theorem VK:h_ .or .i64 0 1=1:=by rfl
theorem VL {x:Int}(h:x=0\/x=1):h_ .or .i64 x 2=x+2:=by rcases h with rfl|rfl <;> rfl
theorem VM {x:Int}(h:x=0\/x=1\/x=2\/x=3):h_ .or .i64 x 4=x+4:=by rcases h with rfl|rfl|rfl|rfl <;> rfl
theorem Gc (i:Nat):wU i=0\/wU i=1:=by unfold wU;split <;> simp
theorem O0 (i:Nat):yo i=0\/yo i=1\/yo i=2\/yo i=3:=by
 have:=Gc i
 unfold yo
 split <;> omega
theorem wV {W : World} : Cn p_ 247 [] W [] (fun _ : Unit => .agg (An 256 s6)) (fun _ => []) := by
 (refine Shp.cn (Sg.g_ Tryz.call247 Tryz.func247 (an := { cuts := [(8, []), (10, [])], loops := [(3, [4])] })) fun F => ?_; simp only [ca_, na_])
 refine aU fun b0 => ?_
 refine aU fun b1 => ?_
 refine aY (fun m y => [ex fun i : Nat => all [pu (m + i = 256 ∧ y = .int .i64 (i : Int)), pt b1 (.cells (An 256 (ot i 0)) 380 (0, 0)), pt b0 (.cells (An 256 fun _ => 0) 380 (0, 0))]] ++ F) 256 ?_ ?_
 ·refine Imp.ex 0 (.all ?_)
  refine am ?_
  have e : An 256 (ot 0 0) = An 256 fun _ => 0 := lM fun j _ => by unfold ot; simp
  rw [e]
  exact .pu ⟨by omega, rfl⟩ .refl
 intro m ds y
 refine am ?_
 refine a8 Pick.here fun i => aB Pick.here ?_
 refine am ?_
 refine aT Pick.here fun hi => ?_
 obtain ⟨hmi, rfl⟩ := hi
 refine bz bD .nil (fun h => ?_) (fun h => ?_)
 ·have hil : i < 256 := by omega
  refine ai (o_ dt (tM (fun _ => iF) ?_))
  refine r8 (fun _ => dt) (fun _ _ => iF) ?_
  refine r8 (fun _ => dt) (fun _ _ => iF) ?_
  rw [OZ hil]
  refine rR (pt b1 (.cells (An 256 (ot i (wU i))) 380 (0, 0)) :: pt b0 (.cells (An 256 fun _ => 0) 380 (0, 0)) :: F) ?_ ?_
  ·intro ds1
   refine rR (pt b1 (.cells (An 256 (ot i (yo i))) 380 (0, 0)) :: pt b0 (.cells (An 256 fun _ => 0) 380 (0, 0)) :: F) ?_ ?_
   ·intro ds2
    have fin : ∀ x, x = s6 i → aJ W (pt b1 (.cells (An 256 (ot i x)) 380 (0, 0)) :: pt b0 (.cells (An 256 fun _ => 0) 380 (0, 0)) :: F) (lI (fun m y w => sat W ([ex fun i : Nat => all [pu (m + i = 256 ∧ y = .int .i64 (i : Int)), pt b1 (.cells (An 256 (ot i 0)) 380 (0, 0)), pt b0 (.cells (An 256 fun _ => 0) 380 (0, 0))]] ++ F) w) m (.int .i64 ((i : Int) + 1))) := by
     intro x hx
     subst hx
     rw [Au]
     refine aZ (m - 1) (by omega) (.ex (i + 1) (.all ?_))
     refine am ?_
     exact .pu ⟨by omega, rfl⟩ .refl
    refine o_ dt (tM (fun _ => iF) ?_)
    rw [← Bool.decide_and]
    by_cases h4 : (65 : Int) ≤ (i : Int) ∧ (i : Int) ≤ 90
    ·rw [dT_ h4]
     refine ai (o_ (ib i rfl hil) ?_)
     rw [Nat.zero_add, Nat.mul_one]
     refine aE (iI (vy hil)) (.pick .here .nil) ?_
     refine o_ Hi (o_ (ib i rfl hil) ?_)
     rw [Nat.zero_add, Nat.mul_one]
     refine qj .here (by rw [dU]; exact hil) ?_
     rw [r9, VM (O0 i)]
     refine bP ?_
     exact fin _ (by unfold s6; rw [if_pos (by omega)])
    ·rw [dF_ h4]
     refine af (bP ?_)
     exact fin _ (by unfold s6; rw [if_neg (by omega), Int.add_zero])
   ·have fin : ∀ b : Bool, b = decide (i = 9 ∨ (32 ≤ i ∧ i ≠ 127)) → aJ W (pt b1 (.cells (An 256 (ot i (wU i))) 380 (0, 0)) :: pt b0 (.cells (An 256 fun _ => 0) 380 (0, 0)) :: F) (condS (.bool b)
      (opN p_ (kL 380 (.pointer (some ⟨b1, 0, none⟩)) (.int .i64 (i : Int))) wD fun x60 =>
       opN p_ (aG 3 x60) wD fun x61 =>
       opN p_ (a_ .or 3 x61 (.int .i64 2)) wD fun x62 =>
       opN p_ (kL 380 (.pointer (some ⟨b1, 0, none⟩)) (.int .i64 (i : Int))) wD fun x63 =>
       opN p_ (aM 3 x63 x62) wD fun _ => fun w => sat W (pt b1 (.cells (An 256 (ot i (yo i))) 380 (0, 0)) :: pt b0 (.cells (An 256 fun _ => 0) 380 (0, 0)) :: F) w)
      (fun w => sat W (pt b1 (.cells (An 256 (ot i (yo i))) 380 (0, 0)) :: pt b0 (.cells (An 256 fun _ => 0) 380 (0, 0)) :: F) w)) := by
     intro b hb
     by_cases h2 : i = 9 ∨ (32 ≤ i ∧ i ≠ 127)
     ·rw [hb, dT_ h2]
      refine ai (o_ (ib i rfl hil) ?_)
      rw [Nat.zero_add, Nat.mul_one]
      refine aE (iI (vy hil)) (.pick .here .nil) ?_
      refine o_ Hi (o_ (ib i rfl hil) ?_)
      rw [Nat.zero_add, Nat.mul_one]
      refine qj .here (by rw [dU]; exact hil) ?_
      rw [r9, VL (Gc i), show wU i + 2 = yo i by unfold yo; rw [if_pos h2]]
      exact aN .refl
     ·rw [hb, dF_ h2]
      refine af ?_
      rw [show wU i = yo i by unfold yo; rw [if_neg h2, Int.add_zero]]
      exact aN .refl
    refine o_ cH (r8 (fun _ => dt) (fun _ _ => oX) ?_)
    refine fin _ ?_
    rw [← Bool.decide_and, ← Bool.decide_or, decide_eq_decide]
    omega
  ·have finT : tD (u8 i) = true → aJ W (pt b1 (.cells (An 256 (ot i 0)) 380 (0, 0)) :: pt b0 (.cells (An 256 fun _ => 0) 380 (0, 0)) :: F)
      (opN p_ (kL 380 (.pointer (some ⟨b1, 0, none⟩)) (.int .i64 (i : Int))) wD fun x60 =>
       opN p_ (aG 3 x60) wD fun x61 =>
       opN p_ (a_ .or 3 x61 (.int .i64 1)) wD fun x62 =>
       opN p_ (kL 380 (.pointer (some ⟨b1, 0, none⟩)) (.int .i64 (i : Int))) wD fun x63 =>
       opN p_ (aM 3 x63 x62) wD fun _ => fun w => sat W (pt b1 (.cells (An 256 (ot i (wU i))) 380 (0, 0)) :: pt b0 (.cells (An 256 fun _ => 0) 380 (0, 0)) :: F) w) := by
    intro hb
    refine o_ (ib i rfl hil) ?_
    rw [Nat.zero_add, Nat.mul_one]
    refine aE (iI (vy hil)) (.pick .here .nil) ?_
    refine o_ Hi (o_ (ib i rfl hil) ?_)
    rw [Nat.zero_add, Nat.mul_one]
    refine qj .here (by rw [dU]; exact hil) ?_
    rw [r9, VK, show (1 : Int) = wU i by unfold wU; rw [hb]; rfl]
    exact aN .refl
   have finF : tD (u8 i) = false → aJ W (pt b1 (.cells (An 256 (ot i 0)) 380 (0, 0)) :: pt b0 (.cells (An 256 fun _ => 0) 380 (0, 0)) :: F)
      (fun w => sat W (pt b1 (.cells (An 256 (ot i (wU i))) 380 (0, 0)) :: pt b0 (.cells (An 256 fun _ => 0) 380 (0, 0)) :: F) w) := by
    intro hb
    rw [show wU i = 0 by unfold wU; rw [hb]; rfl]
    exact aN .refl
   have htk : tD (u8 i) = (r7 (u8 i) || vu.contains (u8 i)) := rfl
   cases ha : r7 (u8 i) with
   | true =>
    rw [ha] at htk
    exact aC (aC (aC (bT (bT (aC (aC (bT (bT (bT (bT (aC (o_ av (ai (finT (by rw [htk]; rfl)))))))))))))))
   | false =>
    rw [ha, Bool.false_or] at htk
    have hcb := HO (u8 i)
    rw [vx hil] at hcb
    refine ab (ab (bz eu .nil (fun h => ?_) (fun h => ?_)))
    ·(refine ab ?_); refine ab ?_; refine ab ?_
     refine bz bD .nil (fun h => ?_) (fun h => ?_)
     ·(refine ab ?_); refine o_ av ?_; refine ab ?_; refine ab ?_; refine ab ?_
      refine o_ eN ?_
      rw [show (IntKind.u8.wrap (i : Int)) = ((u8 i).toNat : Int) by rw [vx hil]; simp [IntKind.wrap, IntKind.signed, IntKind.bits]; omega]
      refine ab (ah (indexByte (l := vu) (c := u8 i)) .nil fun _ => ?_)
      refine am ?_
      refine ab (bz dt .nil (fun h => ?_) (fun h => ?_))
      ·(refine ab ?_); refine o_ av ?_; refine o_ ak ?_; refine ai ?_
       exact finT (by rw [htk]; simpa using eO.1 h)
      ·(refine ab ?_); refine o_ av ?_; refine o_ ak ?_; refine af ?_
       exact finF (by rw [htk]; simpa using fun c => h (eO.2 c))
     ·(refine ab ?_); refine o_ av ?_; refine ab ?_; refine aj ?_; refine aj ?_; refine aj ?_; refine aj ?_; refine ab ?_; refine o_ ak ?_; refine o_ ak ?_; refine af ?_
      exact finF (by rw [htk]; cases hx : vu.contains (u8 i) with
       | true => have := hcb hx; omega
       | false => rfl)
    ·(refine ab ?_); refine aj ?_; refine aj ?_; refine ab ?_; refine o_ ak ?_; refine ab ?_; refine aj ?_; refine aj ?_; refine aj ?_; refine aj ?_; refine ab ?_; refine o_ ak ?_; refine o_ ak ?_; refine af ?_
     exact finF (by rw [htk]; cases hx : vu.contains (u8 i) with
      | true => have := hcb hx; omega
      | false => rfl)
 ·have h256 : i = 256 := by omega
  subst h256
  refine af ?_
  have e : An 256 (ot 256 0) = An 256 s6 := lM fun j hj => by unfold ot; rw [if_pos hj]
  rw [e]
  refine aE (bN (dU 256 s6)) (.pick .here .nil) ?_
  refine aK (.there .here) (dU 256 _) (dU 256 _) vz ?_
  refine be (cQ (dU 256 s6)) (.pick .here .nil) ?_
  refine aR () ?_
  exact az
theorem Uh (c:UInt8):h_ .and .i64 (s6 c.toNat) 1=0↔tD c=false:=by
 refine Ak (p:=fun c=>h_ .and .i64 (s6 c.toNat) 1=0↔tD c=false) ?_ c
 decide+kernel
theorem O1 (c:UInt8):h_ .and .i64 (s6 c.toNat) 4≠0↔(65<=c/\c<=90):=by
 refine Ak (p:=fun c=>h_ .and .i64 (s6 c.toNat) 4≠0↔(65<=c/\c<=90)) ?_ c
 decide+kernel
theorem yp {W:World}{l:List UInt8}{bit:Int}{p:UInt8->Bool}(hb:∀c:UInt8,h_ .and .i64 (s6 c.toNat) bit=0↔p c=false)(hl:l.length<=4611686018427387904):
  Cn p_ 288 [ay l,.int .i64 bit] W [] (fun _:Unit=> .bool (l.all p)) (fun _=>[]):=by
 (refine Shp.cn (Sg.g_ Tryz.call288 Tryz.func288 (an:={loops:=[(3,[10])]})) fun F=>?_;simp only[ca_,na_])
 refine c_ wV fun _=>?_
 refine aU fun b1=>?_
 refine aK .here (dU 256 _) (dU 256 _) vz ?_
 refine o_ bu (aY (fun m y=>[ex fun i:Nat=>all [pu (m+i=l.length/\y= .int .i64 (i:Int)/\l.all p=(l.drop i).all p),pt b1 (.cells (An 256 s6) 380 (0,0))]]++F) l.length ?_ ?_)
 ·refine Imp.ex 0 (.all ?_)
  refine am ?_
  exact .pu ⟨by omega,rfl,rfl⟩ .refl
 intro m ds y
 refine am ?_
 refine a8 Pick.here fun i=>aB Pick.here ?_
 refine am ?_
 refine aT Pick.here fun hi=>?_
 obtain⟨hmi,rfl,hall⟩:=hi
 refine bz bD .nil (fun h=>?_) (fun h=>?_)
 ·have hil:i<l.length:=by omega
  refine ai (o_ (ew i rfl hil) ?_)
  have hc:=(l[i]).toNat_lt
  refine o_ (ib (l[i]).toNat rfl hc) ?_
  rw[Nat.zero_add,Nat.mul_one]
  refine aE (iI (mH hc)) (.pick .here .nil) ?_
  refine o_ FQ ?_
  rw[dr hil,List.all_cons]at hall
  refine bz cH .nil (fun h=>?_) (fun h=>?_)
  ·refine ai ?_
   rw[(hb _).1 h,Bool.false_and]at hall
   rw[hall]
   refine aR () ?_
   exact az
  ·refine af ?_
   have hp:p l[i]=true:=by
    cases hx:p l[i]with
    |true=>rfl
    |false=>exact absurd ((hb _).2 hx) h
   rw[hp,Bool.true_and]at hall
   refine bP ?_
   refine aZ (m-1) (by omega) (.ex (i+1) (.all ?_))
   refine am ?_
   exact .pu ⟨by omega,rfl,hall⟩ .refl
 ·refine af ?_
  rw[List.drop_of_length_le (by omega),List.all_nil]at hall
  rw[hall]
  refine aR () ?_
  exact az
theorem nC {W:World}{l:List UInt8}(hl:l.length<=4611686018427387904):Cn p_ 180 [ay l] W [] (fun _:Unit=> .bool (kF l)) (fun _=>[]):=by
 (refine Shp.cn (Sg.g_ Tryz.call180 Tryz.func180) fun F=>?_;simp only[ca_,na_])
 have e0:(Value.string ⟨#[]⟩)=ay []:=rfl
 rw[e0]
 refine bz ep .nil (fun h=>?_) (fun h=>?_)
 ·refine ab (ab (c_ (yp Uh hl) fun _=>?_))
  refine o_ av ?_
  have:kF l=l.all tD:=by unfold kF;cases l with
   |nil=>exact absurd rfl h
   |cons _ _=>rfl
  rw[this]
  refine aR () ?_
  exact az
 ·have h:l=[]:=Decidable.not_not.1 h
  subst h
  refine aj (aj (o_ ak (aR () ?_)))
  exact az
theorem pb {W:World}{l:List UInt8}(hl:l.length<=4611686018427387904):Cn p_ 154 [ay l] W [] (fun _:Unit=>ay (fK l)) (fun _=>[]):=by
 (refine Shp.cn (Sg.g_ Tryz.call154 Tryz.func154 (an:={loops:=[(4,[12])]})) fun F=>?_;simp only[ca_,na_])
 refine c_ wV fun _=>?_
 refine aU fun b1=>?_
 refine aK .here (dU 256 _) (dU 256 _) vz ?_
 refine qQ Tryz.underlying35 Tryz.underlying5 fun g c rest=>?_
 refine o_ aI (aY (fun m y=>[ex fun i:Nat=>all [pu (m+i=l.length/\y= .int .i64 (i:Int)),pt g (.cells (((l.take i).map gQ++l.drop i).map B++rest).toArray 5 (l.length+rest.length,l.length+rest.length+1)),pt b1 (.cells (An 256 s6) 380 (0,0))]]++F) l.length ?_ ?_)
 ·refine Imp.ex 0 (.all ?_)
  refine am ?_
  rw[List.take_zero,List.drop_zero,List.map_nil,List.nil_append]
  exact .pu ⟨by omega,rfl⟩ .refl
 intro m ds y
 refine am ?_
 refine a8 Pick.here fun i=>aB Pick.here ?_
 refine am ?_
 refine aT Pick.here fun hi=>?_
 obtain⟨hmi,rfl⟩:=hi
 refine bz bD .nil (fun h=>?_) (fun h=>?_)
 ·have hil:i<l.length:=by omega
  refine ai ?_
  have hcl:((l.take i).map gQ++l.drop i).length=l.length:=by simp;omega
  have hget:((((l.take i).map gQ++l.drop i).map B++rest).toArray)[i]? =some (B l[i]):=by
   simp[List.getElem?_append,hil,Nat.min_eq_left (Nat.le_of_lt hil)]
   intro h0;omega
  refine o_ (bq i rfl hil) ?_
  rw[Nat.zero_add]
  refine aE (iI hget) (.pick .here .nil) ?_
  have hc:=(l[i]).toNat_lt
  refine o_ (ib (l[i]).toNat rfl hc) ?_
  rw[Nat.zero_add,Nat.mul_one]
  refine aE (iI (mH hc)) (.pick (.there .here) .nil) ?_
  refine o_ FQ ?_
  have step:∀x,x=gQ l[i]->(((l.take i).map gQ++l.drop i).map B++rest).toArray.setIfInBounds i (B x)=(((l.take (i+1)).map gQ++l.drop (i+1)).map B++rest).toArray:=by
   intro x hx
   subst hx
   rw[List.setIfInBounds_toArray]
   congr 1
   rw[dr hil,List.take_succ_eq_append_getElem hil]
   rw[List.map_append,List.map_append,List.map_append,List.map_append]
   have hk:(List.map B (List.map gQ (List.take i l))).length=i:=by simp;omega
   rw[List.append_assoc,List.append_assoc,List.append_assoc,List.set_append,if_neg (by rw[hk];omega),hk,Nat.sub_self]
   rfl
  refine bz oX .nil (fun h=>?_) (fun h=>?_)
  ·have h65:=(O1 l[i]).1 h
   have hlo:gQ l[i]=l[i]+32:=if_pos h65
   have hn:(gQ l[i]).toNat=(l[i]).toNat+32:=by
    rw[hlo,UInt8.toNat_add]
    have:=UInt8.le_iff_toNat_le.1 h65.2
    simp only[show(90:UInt8).toNat=90 from rfl]at this
    simp only[show(32:UInt8).toNat=32 from rfl]
    omega
   refine ai (o_ vk ?_)
   rw[show IntKind.u8.wrap ((l[i].toNat:Int)+32)=((gQ l[i]).toNat:Int) by
    rw[hn]
    have:=UInt8.le_iff_toNat_le.1 h65.2
    simp only[show(90:UInt8).toNat=90 from rfl]at this
    simp[IntKind.wrap,IntKind.signed,IntKind.bits];omega]
   refine o_ (bq i rfl hil) ?_
   rw[Nat.zero_add]
   refine OY (v:=B (gQ l[i])) .here (by simp;omega) (by simp;omega) ?_
   rw[step _ rfl]
   refine bP ?_
   refine aZ (m-1) (by omega) (.ex (i+1) (.all ?_))
   refine am ?_
   exact .pu ⟨by omega,rfl⟩ .refl
  ·have hlo:gQ l[i]=l[i]:=if_neg (fun c=>h ((O1 l[i]).2 c))
   refine af ?_
   have e2:(((l.take i).map gQ++l.drop i).map B++rest).toArray=(((l.take (i+1)).map gQ++l.drop (i+1)).map B++rest).toArray:=by
    rw[<- step _ hlo.symm]
    refine Array.ext_getElem? fun j=>?_
    rw[Array.getElem?_setIfInBounds]
    by_cases hj:i=j
    ·subst hj
     rw[if_pos rfl,hget,if_pos (by simp;omega)]
    ·rw[if_neg hj]
   rw[e2]
   refine bP ?_
   refine aZ (m-1) (by omega) (.ex (i+1) (.all ?_))
   refine am ?_
   exact .pu ⟨by omega,rfl⟩ .refl
 ·have hie:i=l.length:=by omega
  subst hie
  refine af ?_
  rw[List.take_length,List.drop_length,List.append_nil]
  have hrd:=vt (W:=W) (g:=g) (e:=5) (fz:=(l.length+rest.length,l.length+rest.length+1)) (cs:=(fK l).map B) (rest:=rest)
  have e1:((fK l).map B).length=l.length:=by simp[fK]
  rw[e1]at hrd
  refine aE (tA (l:=fK l) hrd (by intro h;cases h)) (.pick .here .nil) ?_
  refine aR () ?_
  exact az
def Bn (n:Nat)(f:Nat->Bool):Array Value:=((List.range n).map fun j=>Value.bool (f j)).toArray
theorem ff (n:Nat)(f:Nat->Bool):(Bn n f).size=n:=by simp[Bn]
theorem r_ {n j:Nat}{f:Nat->Bool}(h:j<n):(Bn n f)[j]? =some (.bool (f j)):=by simp[Bn,h]
theorem pd {n:Nat}{f g:Nat->Bool}(h:∀j,j<n->f j=g j):Bn n f=Bn n g:=by
 unfold Bn
 congr 1
 exact List.map_congr_left fun j hj=>by rw[h j (List.mem_range.1 hj)]
theorem HQ {n j:Nat}{f:Nat->Bool}{v:Bool}:(Bn n f).setIfInBounds j (.bool v)=Bn n fun i=>if i=j then v else f i:=by
 apply Array.ext_getElem?
 intro i
 rw[Array.getElem?_setIfInBounds,ff]
 by_cases c:j=i
 ·subst c
  rw[if_pos rfl]
  by_cases h:j<n
  ·rw[if_pos h,r_ h];simp
  ·rw[if_neg h,Array.getElem?_eq_none (by rw[ff];omega)]
 ·rw[if_neg c]
  by_cases h:i<n
  ·rw[r_ h,r_ h,if_neg (fun e=>c e.symm)]
  ·rw[Array.getElem?_eq_none (by rw[ff];omega),Array.getElem?_eq_none (by rw[ff];omega)]
theorem Av {n:Nat}{f:Nat->Bool}:∀u∈(Bn n f).toList,u.oneCell'=true:=by
 intro u hu
 simp only[Bn]at hu
 obtain⟨j,_,rfl⟩:=List.mem_map.1 hu
 rfl
instance SQ:ZeroT p_ 289 (.agg (Bn 256 fun _=>false)):=⟨fun w=>(Tryz.zeroValue289 w).trans (by
 have:Tryz.zeroCells289=Bn 256 fun _=>false:=by kernel_rfl
 rw[this])⟩
def yq (j:Nat):Bool:=decide (j=32\/j=9)
theorem O2 (c:UInt8):yq c.toNat=jM c:=by
 refine Ak (p:=fun c=>yq c.toNat=jM c) ?_ c
 decide+kernel
theorem DP {W:World}:Cn p_ 157 [ay [32,9]] W [] (fun _:Unit=> .tuple #[.agg (Bn 256 yq),.bool true]) (fun _=>[]):=by
 (refine Shp.cn (Sg.g_ Tryz.call157 Tryz.func157 (an:={loops:=[(2,[4])]})) fun F=>?_;simp only[ca_,na_])
 refine aU fun b=>?_
 refine aY (fun m y=>[ex fun i:Nat=>all [pu (m+i=2/\y= .int .i64 (i:Int)),pt b (.cells (Bn 256 fun j=>decide ((j=32/\0<i)\/(j=9/\1<i))) 289 (0,0))]]++F) 2 ?_ ?_
 ·refine Imp.ex 0 (.all ?_)
  refine am ?_
  refine .pu ⟨by omega,rfl⟩ ?_
  have e:(Bn 256 fun j=>decide ((j=32/\0<0)\/(j=9/\1<0)))=Bn 256 fun _=>false:=pd fun j _=>by simp
  rw[e]
  exact .refl
 intro m ds y
 refine am ?_
 refine a8 Pick.here fun i=>aB Pick.here ?_
 refine am ?_
 refine aT Pick.here fun hi=>?_
 obtain⟨hmi,rfl⟩:=hi
 refine o_ bu (bz bD .nil (fun h=>?_) (fun h=>?_))
 ·have hil:i<([32,9]:List UInt8).length:=Int.ofNat_lt.1 h
  have hi2:i<2:=hil
  refine ai ?_
  have step:∀(c:UInt8),([32,9]:List UInt8)[i]? =some c->c.toNat<128->(Bn 256 fun j=>if j=c.toNat then true else decide ((j=32/\0<i)\/(j=9/\1<i)))=(Bn 256 fun j=>decide ((j=32/\0<i+1)\/(j=9/\1<i+1))):=by
   intro c hc _
   refine pd fun j _=>?_
   have:i=0\/i=1:=by omega
   rcases this with rfl|rfl
   ·have:c=32:=by simpa using hc.symm
    subst this
    by_cases h1:j=32 <;> simp[h1]
   ·have:c=9:=by simpa using hc.symm
    subst this
    by_cases h1:j=9 <;> simp[h1]
  have hc:([32,9]:List UInt8)[i].toNat<128:=by
   have:i=0\/i=1:=by omega
   rcases this with rfl|rfl
   ·show(32:UInt8).toNat<128
    decide
   ·show(9:UInt8).toNat<128
    decide
  refine o_ (ew (l:=[32,9]) i rfl hil) ?_
  have hstep:=step _ (List.getElem?_eq_getElem hil) hc
  obtain⟨c,hce⟩:∃c,c=([32,9]:List UInt8)[i]:=⟨_,rfl⟩
  rw[<- hce]at hstep hc ⊢
  refine o_ (dt (q:= .u8) (a:=(c.toNat:Int)) (b:=128)) ?_
  rw[dF_ (by omega)]
  refine af (o_ (ib c.toNat rfl (by omega)) ?_)
  rw[Nat.zero_add,Nat.mul_one]
  refine qj .here (by rw[ff];omega) ?_
  rw[HQ,hstep]
  refine bP ?_
  refine aZ (m-1) (by omega) (.ex (i+1) (.all ?_))
  refine am ?_
  exact .pu ⟨by omega,rfl⟩ .refl
 ·have hi2:i=2:=by simp at h;omega
  subst hi2
  refine af ?_
  have e:(Bn 256 fun j=>decide ((j=32/\0<2)\/(j=9/\1<2)))=Bn 256 yq:=pd fun j _=>by simp[yq]
  rw[e]
  refine aE (bN (ff 256 _)) (.pick .here .nil) ?_
  refine aK .here (ff 256 _) (ff 256 _) Av ?_
  refine be (cQ (ff 256 _)) (.pick .here .nil) ?_
  refine aR () ?_
  exact az
theorem contains {W:World}{g:Nat}{c:UInt8}:Cn p_ 158 [.pointer (some ⟨g,0,none⟩),Sl.B c] W [pt g (.cells (Bn 256 yq) 289 (0,0))] (fun _:Unit=> .bool (jM c)) (fun _=>[pt g (.cells (Bn 256 yq) 289 (0,0))]):=by
 (refine Shp.cn (Sg.g_ Tryz.call158 Tryz.func158) fun F=>?_;simp only[ca_,na_])
 refine o_ ag ?_
 have hc:=c.toNat_lt
 refine o_ (ib c.toNat rfl hc) ?_
 rw[Nat.zero_add,Nat.mul_one]
 refine aE (iI (r_ hc)) (.pick .here .nil) ?_
 rw[O2]
 refine aR () ?_
 exact az
theorem Aw {W:World}{g:Nat}{l:List UInt8}(hl:l.length<=4611686018427387904):Cn p_ 461 [ay l,.pointer (some ⟨g,0,none⟩)] W [pt g (.cells (Bn 256 yq) 289 (0,0))] (fun _:Unit=>ay (kN l)) (fun _=>[pt g (.cells (Bn 256 yq) 289 (0,0))]):=by
 (refine Shp.cn (Sg.g_ Tryz.call461 Tryz.func461 (an:={loops:=[(1,[0])]})) fun F=>?_;simp only[ca_,na_])
 refine aY (fun m y=>[ex fun u:List UInt8=>all [pu (m=u.length/\y=ay u/\kN u=kN l/\u.length<=l.length),pt g (.cells (Bn 256 yq) 289 (0,0))]]++F) l.length ?_ ?_
 ·refine Imp.ex l (.all ?_)
  refine am ?_
  exact .pu ⟨rfl,rfl,rfl,Nat.le_refl _⟩ .refl
 intro m ds y
 refine am ?_
 refine a8 Pick.here fun u=>aB Pick.here ?_
 refine am ?_
 refine aT Pick.here fun hi=>?_
 obtain⟨hmi,rfl,htr,hul⟩:=hi
 refine o_ bu (bz eu .nil (fun h=>?_) (fun h=>?_))
 ·have h0:0<u.length:=by omega
  refine ai (o_ (ew 0 rfl h0) ?_)
  refine c_ contains fun _=>?_
  refine o_ fx ?_
  cases hb:jM u[0]with
  |true=>
   refine af (o_ (jn 1 rfl (by omega)) ?_)
   refine aZ (m-1) (by omega) (.ex (u.drop 1) (.all ?_))
   refine am ?_
   refine .pu ⟨by rw[List.length_drop];omega,rfl,(DE h0 hb).symm.trans htr,by rw[List.length_drop];omega⟩ ?_
   exact az
  |false=>
   refine ai ?_
   rw[<- htr,DF h0 hb]
   refine aR () ?_
   exact az
 ·have h0:u=[]:=List.eq_nil_of_length_eq_zero (by omega)
  subst h0
  refine af ?_
  rw[<- htr]
  refine aR () ?_
  exact az
theorem yr {W:World}{g:Nat}{l:List UInt8}(hl:l.length<=4611686018427387904):Cn p_ 462 [ay l,.pointer (some ⟨g,0,none⟩)] W [pt g (.cells (Bn 256 yq) 289 (0,0))] (fun _:Unit=>ay (ic l)) (fun _=>[pt g (.cells (Bn 256 yq) 289 (0,0))]):=by
 (refine Shp.cn (Sg.g_ Tryz.call462 Tryz.func462 (an:={loops:=[(1,[0])]})) fun F=>?_;simp only[ca_,na_])
 refine aY (fun m y=>[ex fun u:List UInt8=>all [pu (m=u.length/\y=ay u/\ic u=ic l/\u.length<=l.length),pt g (.cells (Bn 256 yq) 289 (0,0))]]++F) l.length ?_ ?_
 ·refine Imp.ex l (.all ?_)
  refine am ?_
  exact .pu ⟨rfl,rfl,rfl,Nat.le_refl _⟩ .refl
 intro m ds y
 refine am ?_
 refine a8 Pick.here fun u=>aB Pick.here ?_
 refine am ?_
 refine aT Pick.here fun hi=>?_
 obtain⟨hmi,rfl,htr,hul⟩:=hi
 refine o_ bu (bz eu .nil (fun h=>?_) (fun h=>?_))
 ·obtain⟨n,hn⟩:∃n,u.length=n+1:=⟨u.length-1,by omega⟩
  refine ai (o_ bu (rZ ?_))
  refine o_ (ew n (by omega) (by omega)) ?_
  refine c_ contains fun _=>?_
  refine o_ fx ?_
  cases hb:jM (u[n]'(by omega))with
  |true=>
   refine af (o_ bu (rZ ?_))
   refine o_ (ny n (by omega) (by omega)) ?_
   refine aZ (m-1) (by omega) (.ex (u.take n) (.all ?_))
   refine am ?_
   refine .pu ⟨by rw[List.length_take];omega,rfl,(DC hn hb).symm.trans htr,by rw[List.length_take];omega⟩ ?_
   exact az
  |false=>
   refine ai ?_
   rw[<- htr,DD hn hb]
   refine aR () ?_
   exact az
 ·have h0:u=[]:=List.eq_nil_of_length_eq_zero (by omega)
  subst h0
  refine af ?_
  rw[<- htr]
  refine aR () ?_
  exact az
theorem yt (l:List UInt8):(ic l).length<=l.length:=by
 have h2:=(List.dropWhile_sublist (p:=jM) (l:=l.reverse)).length_le
 unfold ic
 rw[List.length_reverse]at h2 ⊢
 exact h2
theorem O3 {W:World}{l:List UInt8}(hl:l.length<=4611686018427387904):Cn p_ 398 [ay l,ay [32,9]] W [] (fun _:Unit=>ay (cK l)) (fun _=>[]):=by
 (refine Shp.cn (Sg.g_ Tryz.call398 Tryz.func398 (an:={drs:=[(4,.ofL [(0,1),(1,1),(2,1),(4,2),(5,3),(3,0),(6,0),(7,1)])]}) (os:=[(4,[(3,[5])])])) fun F=>?_;simp only[ca_,na_])
 have e0:(Value.string ⟨#[]⟩)=ay []:=rfl
 rw[e0]
 refine bz eo .nil (fun h=>?_) (fun h=>?_)
 ·subst h
  refine aC (aC (o_ av (ai (aR () ?_))))
  exact az
 ·(refine ab ?_);refine ab ?_
  refine o_ eo ?_
  rw[dF_ (by decide)]
  refine o_ ak (af (o_ bu (o_ cH ?_)))
  rw[dF_ (by decide)]
  refine aj (aj (aj (o_ ak (af (c_ DP fun _=>?_)))))
  refine o_ (bU (vs:=[_,_]) .here) ?_
  refine o_ (bU (vs:=[_,_]) (.there .here)) ?_
  refine aU fun b=>?_
  refine aK .here (ff 256 _) (ff 256 _) Av ?_
  refine ai (c_ (yr hl) fun _=>?_)
  refine c_ (Aw (Nat.le_trans (yt l) hl)) fun _=>?_
  refine aR () ?_
  exact az
theorem tO {W:World}{l:List UInt8}(hl:l.length<=4611686018427387904):Cn p_ 302 [ay l] W [] (fun _:Unit=>ay (cK l)) (fun _=>[]):=by
 (refine Shp.cn (Sg.g_ Tryz.call302 Tryz.func302) fun F=>?_;simp only[ca_,na_])
 have e0:(Value.string ⟨#[32,9]⟩)=ay [32,9]:=rfl
 rw[e0]
 refine c_ (O3 hl) fun _=>?_
 refine aR () ?_
 exact az
theorem jd {c:UInt8}:∀ {l:List UInt8},(c∈l->fZ c l=true/\l.take (l.findIdx (· ==c))=cu c l/\l.drop (l.findIdx (· ==c)+1)=bS c l)/\(c∉l->fZ c l=false/\cu c l=l/\bS c l=[])
 |[]=>⟨fun h=>(by cases h),fun _=>⟨rfl,rfl,rfl⟩⟩
 |x::r=>by
  have ih:=jd (c:=c) (l:=r)
  by_cases hx:x=c
  ·subst hx
   refine⟨fun _=>?_,fun h=>absurd (List.mem_cons_self) h⟩
   simp[fZ,cu,bS,List.findIdx_cons]
  ·have hb:(x==c)=false:=by simpa using hx
   refine⟨fun h=>?_,fun h=>?_⟩
   ·have hr:c∈r:=by
     rcases List.mem_cons.1 h with h|h
     ·exact absurd h.symm hx
     ·exact h
    obtain⟨i1,i2,i3⟩:=ih.1 hr
    simp[fZ,cu,bS,List.findIdx_cons,hx,hb,i1,i2,i3]
   ·obtain⟨i1,i2,i3⟩:=ih.2 (fun c=>h (List.mem_cons_of_mem _ c))
    simp[fZ,cu,bS,hx,i1,i2,i3]
theorem Ax {W:World}{l:List UInt8}{c:UInt8}(hl:l.length<=4611686018427387904):Cn p_ 251 [ay l,ay [c]] W [] (fun _:Unit=> .int .i64 (lB l c)) (fun _=>[]):=by
 (refine Shp.cn (Sg.g_ Tryz.call251 Tryz.func251 (an:={cuts:=[(21,[8])],loops:=[(15,[8,10])]})) fun F=>?_;simp only[ca_,na_])
 refine o_ bu (o_ cH ?_)
 rw[dF_ (by simp)]
 refine ab (ab (ab (bz eo .nil (fun h=>?_) (fun h=>?_))))
 ·subst h
  refine o_ ak (ai ?_)
  have:lB [c] c=0:=by simp[lB]
  rw[this]
  refine aR () ?_
  exact az
 ·(refine o_ ak ?_);refine af ?_
  refine o_ cH ?_
  rw[dT_ (by simp)]
  refine ai (o_ (ew (l:=[c]) 0 rfl (by simp)) ?_)
  rw[show([c]:List UInt8)[0]'(by simp)=c from rfl]
  refine c_ o9 fun _=>?_
  refine aR () ?_
  exact az
theorem O4 {W:World}{l:List UInt8}{c:UInt8}(hl:l.length<=4611686018427387904):Cn p_ 159 [ay l,ay [c]] W [] (fun _:Unit=> .tuple #[ay (cu c l),ay (bS c l),.bool (fZ c l)]) (fun _=>[]):=by
 (refine Shp.cn (Sg.g_ Tryz.call159 Tryz.func159 (an:={drs:=[(3,.ofL [(0,1),(1,1),(2,1),(3,1),(4,1),(5,1),(6,1),(7,1),(8,1),(9,1),(10,1),(11,1)])]})) fun F=>?_;simp only[ca_,na_])
 refine c_ (Ax hl) fun _=>?_
 have hcx:=jd (c:=c) (l:=l)
 refine bz dt .nil (fun h=>?_) (fun h=>?_)
 ·have hm:=eO.1 h
  obtain⟨h1,h2,h3⟩:=hcx.1 hm
  have hlt:l.findIdx (· ==c)<l.length:=List.findIdx_lt_length_of_exists ⟨c,hm,by simp⟩
  rw[show lB l c=((l.findIdx (· ==c):Nat):Int)from if_pos hm]
  refine ai (aW (t_ (ny (l.findIdx (· ==c)) rfl (by omega)) ?_))
  refine t_ bu (t_ (g9 (by simp;omega) (by simp;omega)) ?_)
  refine t_ (jn (l.findIdx (· ==c)+1) (by simp) (by omega)) ?_
  rw[h2,h3,h1]
  refine aR () ?_
  exact az
 ·obtain⟨h1,h2,h3⟩:=hcx.2 (fun c=>h (eO.2 c))
  refine af ?_
  rw[h1,h2,h3]
  have e0:(Value.string ⟨#[]⟩)=ay []:=rfl
  rw[e0]
  refine aR () ?_
  exact az
theorem Ay {W:World}{l:List UInt8}{c:UInt8}(hl:l.length<=4611686018427387904):Cn p_ 84 [ay l,ay [c]] W [] (fun _:Unit=> .tuple #[ay (cu c l),ay (bS c l),.bool (fZ c l)]) (fun _=>[]):=by
 (refine Shp.cn (Sg.g_ Tryz.call84 Tryz.func84) fun F=>?_;simp only[ca_,na_])
 refine c_ (O4 hl) fun _=>?_
 refine bE ?_;refine bE ?_;refine bE ?_
 refine aR () ?_
 exact az
def gD (a b:List UInt8):Bool:=decide (a.length=b.length)&&decide (fK a=fK b)
theorem equal {W:World}{a b:List UInt8}(ha:a.length<=4611686018427387904)(hb:b.length<=4611686018427387904):Cn p_ 82 [ay a,ay b] W [] (fun _:Unit=> .bool (gD a b)) (fun _=>[]):=by
 (refine Shp.cn (Sg.g_ Tryz.call82 Tryz.func82) fun F=>?_;simp only[ca_,na_])
 refine o_ bu (o_ bu (bz cH .nil (fun h=>?_) (fun h=>?_)))
 ·have e:gD a b=decide (fK a=fK b):=by unfold gD;rw[dT_ (by omega)];rfl
  rw[e]
  refine ab (ab (c_ (pb ha) fun _=>?_))
  refine ab (ab (c_ (pb hb) fun _=>?_))
  refine ab (o_ eo (o_ av (aR () ?_)))
  exact az
 ·have e:gD a b=false:=by unfold gD;rw[dF_ (by omega)];rfl
  rw[e]
  refine aj (aj (aj (aj (aj (o_ ak (aR () ?_))))))
  exact az
section
variable {P:Program} {W:World} {L L':List HP} {Kp:PK} {k:Value->WP}
theorem vA {a b:Bool}(h:aJ W L (k (.bool (a&&b)))):aJ W L (gdK (.bool a) true (fun k=>k (.bool b)) fun x2=>opN P (d_ (.bool a) x2 (.bool false)) Kp k):=by
 cases a with
 |true=>
  refine ab (o_ av ?_)
  simpa using h
 |false=>
  refine aj (o_ ak ?_)
  simpa using h
theorem ek {a b:Bool}{A:List HP}{s1:Sem Next}{v1:Value}{s2:Value->Sem Next}(h1:aQ P W [] s1 v1)(h2:aQ P W A (s2 v1) (.bool b))(i:Imp W L A)(h:aJ W L (k (.bool (a&&b)))):
  aJ W L (gdK (.bool a) true (opN P s1 Kp) fun x=>gdK (.bool a) true (opN P (s2 x) Kp) fun x2=>opN P (d_ (.bool a) x2 (.bool false)) Kp k):=by
 cases a with
 |true=>
  refine ab (o_ h1 ?_)
  refine ab (aE h2 i ?_)
  refine o_ av ?_
  simpa using h
 |false=>
  refine aj (aj (o_ ak ?_))
  simpa using h
theorem mM {φ:Prop}[Decidable φ]{b:Bool}{X Y:WP}(hb:b=decide φ)(ht:φ->aJ W L X)(hf:¬φ->aJ W L Y):aJ W L (condS (.bool b) X Y):=by
 subst hb
 by_cases h:φ
 ·rw[dT_ h];exact ai (ht h)
 ·rw[dF_ h];exact af (hf h)
theorem Az {t:TypeId}{l:List UInt8}{q r:IntKind}{i j:Int}(a b:Nat)[ht:StrT P t](hi:i=(a:Int))(hj:j=(b:Int))(hab:a<=b)(hb:b<=l.length):aQ P W [] (n8 t (ay l) (some (.int q i)) (some (.int r j)) none) (ay (sub l a b)):=fun w _=>by
 have e:(⟨l.toArray⟩:ByteArray).size=l.length:=rfl
 have e2:(⟨l.toArray⟩:ByteArray).extract a b=⟨(sub l a b).toArray⟩:=by
  apply ByteArray.ext
  rw[ByteArray.data_extract]
  simp[sub]
 simp[n8,Instr.sliceAt,Instr.slice,Instr.sliceBounds,run_underlying ht.ut,ay,e,mE b hj hb,mE a hi hab,e2]
theorem sf {t:TypeId}{ox oy:Operand}{c:UInt8}{n:Int}(d:UInt8)(hn:n=(d.toNat:Int)):aQ P W [] (dY .eql t ox oy (Sl.B c) (.int .u8 n)) (.bool (decide (c=d))):=by
 have e:decide (c=d)=decide ((c.toNat:Int)=n):=by
  rw[decide_eq_decide,hn]
  constructor
  ·rintro rfl;rfl
  ·intro h
   exact UInt8.toNat_inj.1 (by omega)
 rw[e]
 exact cH
theorem O5 {t:TypeId}{ox oy:Operand}{c:UInt8}{n:Int}(d:UInt8)(hn:n=(d.toNat:Int)):aQ P W [] (dY .neq t ox oy (Sl.B c) (.int .u8 n)) (.bool (decide (c≠d))):=by
 have e:decide (c≠d)=decide ((c.toNat:Int)≠n):=by
  rw[decide_eq_decide,hn]
  constructor
  ·intro h1 h2
   exact h1 (UInt8.toNat_inj.1 (by omega))
  ·rintro h rfl
   exact h rfl
 rw[e]
 exact oX
end
theorem lQ (q e:Bool):∀(n:Nat) (l:List UInt8),l.length<=n->∀(inn:Bool) (cur p:List UInt8),p∈uW q e inn cur l->p.length<=cur.length+l.length
 |_,[],_,inn,cur,p,h=>by
  have:p=cur:=by simpa [uW]using h
  subst this;simp
 |n+1,c::r,hn,inn,cur,p,h=>by
  have hr:r.length<=n:=by simpa using hn
  rw[iL]at h
  split at h
  ·cases r with
   |nil=>
    have:p=cur++[c]:=by simpa using h
    subst this;simp
   |cons d r'=>
    have:=lQ q e n r' (by simp at hr;omega) _ _ _ h
    simp at this ⊢;omega
  ·split at h
   ·have:=lQ q e n r hr _ _ _ h
    simp at this ⊢;omega
   ·split at h
    ·rcases List.mem_cons.1 h with h|h
     ·subst h;simp
     ·have:=lQ q e n r hr _ _ _ h
      simp at this ⊢;omega
    ·have:=lQ q e n r hr _ _ _ h
     simp at this ⊢;omega
theorem kp {q e:Bool}{l w:List UInt8}(h:w∈br q e l):w.length<=l.length:=by
 obtain⟨_,v,hv,rfl⟩:=Aj h
 have:=lQ q e _ _ (Nat.le_refl _) _ _ _ hv
 have h2:=o4 v
 simp[sub]at this
 omega
theorem lR (q e:Bool):∀(n:Nat) (l:List UInt8),l.length<=n->∀(inn:Bool) (cur:List UInt8),(uW q e inn cur l).length<=l.length+1
 |_,[],_,inn,cur=>by simp[uW]
 |n+1,c::r,hn,inn,cur=>by
  have hr:r.length<=n:=by simpa using hn
  rw[iL]
  split
  ·cases r with
   |nil=>simp
   |cons d r'=>
    have:=lR q e n r' (by simp at hr;omega) inn (cur++[c,d])
    simp;omega
  ·split
   ·have:=lR q e n r hr (!inn) (cur++[c])
    simp;omega
   ·split
    ·have:=lR q e n r hr false []
     simp;omega
    ·have:=lR q e n r hr inn (cur++[c])
     simp;omega
theorem kq {q e:Bool}{l:List UInt8}:(br q e l).length<=l.length+1:=by
 have h1:=Ai (r6 l q e false 0 0)
 have h2:=lR q e _ (l.drop 0) (Nat.le_refl _) false (sub l 0 0)
 rw[List.length_drop]at h2
 unfold br
 unfold r6 at h1 ⊢
 omega
theorem ou {α:Type}{xs r:List α}{k:Nat}{x:α}(h:xs.drop k=x::r):xs[k]? =some x/\xs.drop (k+1)=r/\k<xs.length:=by
 have hk:k<xs.length:=by
  rcases Nat.lt_or_ge k xs.length with c|c
  ·exact c
  ·rw[List.drop_of_length_le c]at h;cases h
 rw[List.drop_eq_getElem_cons hk]at h
 injection h with h1 h2
 exact⟨by rw[List.getElem?_eq_getElem hk,h1],h2,hk⟩
def Dl (q e:Bool)(l:List UInt8):List (List Value):=(br q e l).map fun w=>[ay w]
theorem mN {q e:Bool}{l w:List UInt8}{k:Nat}(h:(br q e l)[k]? =some w):(Dl q e l)[k]? =some [ay w]:=by simp[Dl,h]
theorem kr {q e:Bool}{l:List UInt8}:(Dl q e l).length=(br q e l).length:=by simp[Dl]
end Go.Proofs.YtdjkdjepjahjfaaGreatDoor.FD
namespace Go.Proofs.YtdjkdjepjahjfaaGreatDoor.FD
open Go Go.Proofs Go.RowKit Sh Sl T
theorem O6:(p_.info? 5).map (fun i=>(i.zero,i.size,i.bytes))=some (some (.int .u8 0),1,1):=by kernel_rfl
set_option maxHeartbeats 4000000 in
set_option maxRecDepth 100000 in
theorem HR (s:ByteArray)(w:World)(hlim:s.size<=281474976710656):
  Calls p_ 510 #[.string s] w fun e w'=>e= .returned (.string s)/\Below w.heap.size w w':=by
 by_cases h0:s.size=0
 ·have hs:s=⟨#[]⟩:=by
   apply ByteArray.ext
   exact Array.eq_empty_of_size_eq_zero h0
  subst hs
  go_enter Tryz.func510,Tryz.ntmps510
  go_wp2
  go_ret
  exact⟨rfl,Below.refl _ _⟩
 ·obtain⟨i0,hi,hz0,hz1,hz2⟩:=info_parts O6
  have hinfo:(p_.info? 5).map (·.size)=some 1:=by rw[hi];simp[hz1]
  have hco:p_.cellsOf 5=1:=by simp[Program.cellsOf,hi,hz1]
  obtain⟨M,hM⟩:∃M,M=madeCells (Value.int .u8 0).cells (((s.size:Nat):Int).toNat * i0.size):=⟨_,rfl⟩
  have hMs:M.size=s.size:=by rw[hM,size_madeCells,hz1];simp
  have hmk:∀W:World,(Instr.makeSlice 35 (.int .i64 (s.size:Int)) (.int .i64 (s.size:Int))).run p_ W= .ok (.slice (some ⟨W.heap.size,0,none⟩) s.size s.size) (W.alloc (.cells M 5)):=fun W=>by
   have h:=run_make (P:=p_) W 35 5 i0 (.int .u8 0) Tryz.underlying35 hi hz0 .i64 .i64 (s.size:Int) (s.size:Int) (by omega) (by omega) (by rw[hz2];omega) (by omega)
   rw[<- hM]at h
   simpa using h
  clear hM
  have hcp:=Lib.run_copy_row_string (P:=p_) (w.alloc (.cells M 5)) 35 9 3 5 w.heap.size 0 s.size s.size s M 5 Tryz.underlying35 hinfo (heap_alloc_new w _) (Nat.le_refl _) (by omega)
  obtain⟨Y,hY⟩:∃Y,Y=(M.toList.take 0++Lib.byteCells s.data.toList++M.toList.drop (0+s.size)).toArray:=⟨_,rfl⟩
  rw[<- hY]at hcp
  have hYl:Y.toList=Lib.byteCells s.data.toList:=by
   rw[hY,List.toList_toArray,List.take_zero,List.nil_append,List.drop_of_length_le (by rw[Array.length_toList];omega),List.append_nil]
  have hYs:Y.size=s.size:=by rw[<- Array.length_toList,hYl,Lib.byteCells_length,<- Lib.size_eq]
  have hgY:((w.alloc (.cells M 5)).setRow w.heap.size Y).heap[w.heap.size]? =some (.cells Y 5 (0,0)):=setRow_heap _ _ M _ 5 (0,0) (heap_alloc_new w _)
  have hne:s.data.toList≠[]:=fun e=>h0 (by rw[Lib.size_eq,e];rfl)
  have hUS:=Lib.run_unsafeString_row (P:=p_) ((w.alloc (.cells M 5)).setRow w.heap.size Y) 544 3 9 5 Tryz.underlying544 hco w.heap.size Y.size (by unfold World.shape?;rw[hgY]) s.data.toList hne (by rw[<- Lib.size_eq];omega) (by rw[<- Lib.size_eq];omega)
   (fun j x hx=>Lib.cells_of_row hgY Y.size j _ (by rw[List.take_of_length_le (by rw[Array.length_toList];exact Nat.le_refl _),hYl];simp[Lib.byteCells,hx]))
  rw[<- Lib.size_eq]at hUS
  clear hY
  go_enter Tryz.func510,Tryz.ntmps510
  go_wp2
  go_ret
  have hb1:Below w.heap.size w (w.alloc (.cells M 5)):=(Below.refl _ w).alloc (Nat.le_refl _) _
  have hb2:Below w.heap.size (w.alloc (.cells M 5)) ((w.alloc (.cells M 5)).setRow w.heap.size Y):=⟨rfl,rfl,rfl,by simp,fun k hk=>setRow_other _ _ _ _ (by omega)⟩
  exact⟨rfl,Lib.below_freeze (hb1.trans hb2) (p:=⟨w.heap.size,0,none⟩) (Nat.le_refl _) _⟩
theorem yu {W w w':World}{L:List HP}(H:sat W L w)(hb:Below w.heap.size w w'):sat W L w':=by
 obtain⟨h,hl,hh⟩:=H.heap
 refine⟨⟨hb.os.trans H.base.os,hb.tape.trans H.base.tape,hb.output.trans H.base.output,Nat.le_trans H.base.size hb.size,fun k hk=>(hb.block k (Nat.lt_of_lt_of_le hk H.base.size)).trans (H.base.block k hk)⟩,h,hl,fun i o c=>?_⟩
 obtain⟨h1,h2⟩:=hh i o c
 have hlt:i<w.heap.size:=(Array.getElem?_eq_some_iff.1 h2).1
 exact⟨h1,by rw[hb.block i hlt,h2]⟩
theorem O7 {W:World}{l:List UInt8}(hl:l.length<=281474976710656):Cn p_ 510 [ay l] W [] (fun _:Unit=>ay l) (fun _=>[]):=
 ⟨Tryz.call510,fun F w hw=>(HR ⟨l.toArray⟩ w hl).mono fun e w' ⟨he,hb⟩=>⟨(),he,yu hw hb⟩⟩
end Go.Proofs.YtdjkdjepjahjfaaGreatDoor.FD
namespace Go.Proofs.YtdjkdjepjahjfaaGreatDoor.Sl
open Go Sh
variable {P:Program} {W:World}
instance {f:FuncId}:OC (fn f):=⟨rfl⟩
theorem vB {t u:TypeId}{ox oy:Operand}{x:Value}(h:P.underlying t=some (.interface (P.methodsAt t))):aQ P W [] (dY .neq t ox oy (.iface u x) .nilIface) (.bool true):=fun w _=>by
 simp[dY,sv,eqGuard,run_neq_held_nil w t u x h]
theorem ku {t:TypeId}{ox:Operand}{c:Value}(h:P.underlying t=some (.interface (P.methodsAt t))):aQ P W [] (dY .neq t ox (.const c) .nilIface .nilIface) (.bool false):=fun w _=>by
 simp[dY,sv,eqGuard,run_neq_nil_nil w t h]
theorem Ui {t a:TypeId}{k:IntKind}{v:Value}(h:P.underlying a=some (.int k)):aQ P W [] (zO (.iface a v) t a false) v:=fun w _=>by
 simp[zO,Instr.typeAssert,run_underlying h]
end Go.Proofs.YtdjkdjepjahjfaaGreatDoor.Sl
namespace Go.Proofs.YtdjkdjepjahjfaaGreatDoor.FD
open Go Go.Proofs Go.RowKit Sh Sl T
class Gl (W:World):Prop where
 lt:5<W.heap.size
 rd:∃t v,W.cell? ⟨5,0,none⟩=some (.iface t v)
theorem SR:p_.underlying 462=some (.interface (p_.methodsAt 462)):=by kernel_rfl
theorem AA {W:World}{t u:TypeId}{a:Option Addr}(h:p_.underlying t=some (.pointer u)):aQ p_ W [] (nM t (.pointer a)) (.iface t (.pointer a)):=fun w _=>by
 simp[nM,Instr.makeInterface,run_underlying h]
theorem wW {W:World}{ox oy:Operand}{a b:Int}:aQ p_ W [] (dY .eql 462 ox oy (.iface 603 (.int .i64 a)) (.iface 603 (.int .i64 b))) (.bool (a==b)):=fun w _=>by
 have:=Lib.run_eql_iface_int (P:=p_) w (t:=462) (tx:=603) (k:= .i64) (q:= .i64) a b Tryz.underlying462 (by kernel_rfl) Tryz.underlying603
 simp[dY,sv,eqGuard,this]
theorem vC {W:World}[hG:Gl W]{a l:List UInt8}(hl:l.length<=281474976710656):Cn p_ 477 [ay a,ay l] W [] (fun g:Nat=> .pointer (some ⟨g,0,none⟩)) (fun _=>[]):=by
 obtain⟨t,v,hv⟩:=hG.rd
 (refine Shp.cn (Sg.g_ Tryz.call477 Tryz.func477 (an:={drs:=[(1,.ofL [(0,2),(1,1),(3,3),(2,0),(4,1),(5,0),(6,1)])]}) (os:=[(1,[(2,[3])])])) fun F=>?_;simp only[ca_,na_])
 refine aW (aq (wT hG.lt hv) .nil ?_)
 refine c_ (O7 hl) fun _=>?_
 refine nw .nil ?_
 refine t_ bO ?_
 refine aX fun b=>?_
 refine aR b ?_
 exact az
theorem DQ {W:World}[hG:Gl W]{a l:List UInt8}{x y:Int}(hl:l.length<=281474976710656):Cn p_ 421 [ay a,ay l,.int .i64 x,.int .i64 y,.iface 603 (.int .i64 1)] W [] (fun g:Nat=> .iface 605 (.pointer (some ⟨g,0,none⟩))) (fun _=>[]):=by
 (refine Shp.cn (Sg.g_ Tryz.call421 Tryz.func421) fun F=>?_;simp only[ca_,na_])
 refine o_ wG (o_ wW ?_)
 rw[show((1:Int)==2)=false from rfl]
 refine af (o_ wG (o_ wW ?_))
 rw[show((1:Int)==1)=true from rfl]
 refine ai (ah (vC hl) .nil fun g=>?_)
 refine am ?_
 refine o_ (AA Tryz.underlying605) ?_
 refine aR g ?_
 exact az
theorem qR (l:List UInt8)(c:UInt8):eD (l++[c])=eD l * 10+(c.toNat-48):=by simp[eD]
theorem yw (l r:List UInt8):eD l<=eD (l++r):=by
 induction r generalizing l with
 |nil=>simp
 |cons c r ih=>
  have h1:=ih (l++[c])
  rw[qR]at h1
  have e:l++c::r=l++[c]++r:=by simp
  rw[e];omega
theorem yx {l:List UInt8}{i:Nat}(h:i<l.length):eD (l.take (i+1))=eD (l.take i) * 10+(l[i].toNat-48):=by
 rw[List.take_succ_eq_append_getElem h,qR]
theorem DR {l:List UInt8}(i:Nat):eD (l.take i)<=eD l:=by
 have:=yw (l.take i) (l.drop i)
 rwa [List.take_append_drop]at this
def O8 (l:List UInt8):Value:=if eD l<=9223372036854775807 then .tuple #[.int .u64 (eD l:Int),.nilIface]else .tuple #[.int .u64 9223372036854775807,.iface 603 (.int .i64 1)]
theorem HS {W:World}{l:List UInt8}(hn:l≠[])(hd:l.all kG=true)(hl:l.length<=4611686018427387904):Cn p_ 420 [ay l,.int .i64 10,.int .i64 63] W [] (fun _:Unit=>O8 l) (fun _=>[]):=by
 (refine Shp.cn (Sg.g_ Tryz.call420 Tryz.func420 (an:={cuts:=[(21,[0,1]),(25,[2]),(32,[10]),(46,[12,16])],loops:=[(36,[12,13,101])]})) fun F=>?_;simp only[ca_,na_])
 have e0:(Value.string ⟨#[]⟩)=ay []:=rfl
 rw[e0]
 refine o_ eo ?_
 rw[dF_ hn]
 refine af (o_ cH ?_)
 rw[dF_ (by decide)]
 refine n_ ?_
 refine o_ iF ?_
 rw[dT_ (by decide)]
 refine ab (ab (o_ iF ?_))
 rw[dT_ (by decide)]
 refine o_ av (ai (i6 fun ds1=>?_))
 refine fS ?_
 refine o_ cH ?_
 rw[dF_ (by decide)]
 refine af (o_ bD ?_)
 rw[dF_ (by decide)]
 refine ab (ab (o_ eu ?_))
 rw[dF_ (by decide)]
 refine o_ ak (af (i6 fun ds2=>?_))
 refine fS ?_
 refine o_ cH ?_
 rw[dT_ (by decide)]
 refine ai (i6 fun ds3=>?_)
 refine o_ eN (o_ (MT (by decide)) ?_)
 refine o_ vm ?_
 rw[show IntKind.u64.wrap (IntKind.u64.wrap (1 * 2^(min (IntKind.u64.wrap 63).toNat IntKind.u64.bits))-1)=9223372036854775807 by rfl]
 refine qQ Tryz.underlying35 Tryz.underlying5 fun g c rest=>?_
 refine o_ aI (gC (fun m x y z=>[ex fun i:Nat=>all [pu (m+i=l.length/\x= .bool false/\y= .int .u64 (eD (l.take i):Int)/\z= .int .i64 (i:Int)/\eD (l.take i)<=9223372036854775807),pt g (.cells (l.map B++rest).toArray 5 (l.length+rest.length,l.length+rest.length+1))]]++F) l.length ?_ ?_)
 ·refine Imp.ex 0 (.all ?_)
  refine am ?_
  exact .pu ⟨by omega,rfl,rfl,rfl,by simp[eD]⟩ .refl
 intro m ds x y z
 refine am ?_
 refine a8 Pick.here fun i=>aB Pick.here ?_
 refine am ?_
 refine aT Pick.here fun hi=>?_
 obtain⟨hmi,rfl,rfl,rfl,hv⟩:=hi
 refine bz bD .nil (fun h=>?_) (fun h=>?_)
 ·have hil:i<l.length:=by omega
  have hdi:=ND (List.all_eq_true.1 hd _ (List.getElem_mem hil))
  have hvt:=yx hil
  have hvl:=DR (l:=l) (i+1)
  refine ai (o_ (bq i rfl hil) ?_)
  rw[Nat.zero_add]
  refine aE (iI (v:=B l[i]) (by simp[List.getElem?_append,hil])) (.pick .here .nil) ?_
  obtain⟨d,hde⟩:∃d,d=l[i].toNat:=⟨_,rfl⟩
  have eB:B l[i]= .int .u8 (d:Int):=by rw[hde];rfl
  rw[eB]
  rw[<- hde]at hdi hvt
  refine n_ ?_
  refine o_ cH ?_
  rw[dF_ (by omega)]
  refine aj (o_ ak (af (o_ iF ?_)))
  rw[dT_ (by omega)]
  refine ab (ab (o_ iF ?_))
  rw[dT_ (by omega)]
  refine o_ av (ai (o_ vm ?_))
  refine i6 fun ds4=>?_
  rw[show IntKind.u8.wrap ((d:Int)-48)=(d:Int)-48 by simp[IntKind.wrap,IntKind.signed,IntKind.bits];omega]
  refine o_ eN (o_ dt ?_)
  rw[show IntKind.u8.wrap 10=10 by rfl,dF_ (by omega)]
  refine af ?_
  have big:9223372036854775807<eD l->aJ W (pt g (.cells (l.map B++rest).toArray 5 (l.length+rest.length,l.length+rest.length+1))::F) (opN p_ (nM 603 (.int .i64 1)) wD fun x143=>fun w=>∃x:Unit,(.tuple #[.int .u64 9223372036854775807,x143]:Value)=O8 l/\sat W ([]++F) w):=by
   intro hb
   refine o_ wG (bK () (by unfold O8;rw[if_neg (by omega)]) ?_)
   exact az
  refine bz dt .nil (fun h1=>?_) (fun h1=>?_)
  ·exact ai (big (by omega))
  ·refine af (o_ eN (o_ zY ?_))
   rw[show IntKind.u64.wrap 10=10 by rfl,show IntKind.u64.wrap ((eD (l.take i):Int) * 10)=(eD (l.take i):Int) * 10 by simp[IntKind.wrap,IntKind.signed,IntKind.bits];omega]
   refine o_ eN ?_
   rw[show IntKind.u64.wrap ((d:Int)-48)=(d:Int)-48 by simp[IntKind.wrap,IntKind.signed,IntKind.bits];omega]
   refine o_ vk ?_
   by_cases h2:(eD (l.take i):Int) * 10+((d:Int)-48)<18446744073709551616
   ·rw[show IntKind.u64.wrap ((eD (l.take i):Int) * 10+((d:Int)-48))=(eD (l.take i):Int) * 10+((d:Int)-48) by simp[IntKind.wrap,IntKind.signed,IntKind.bits];omega]
    refine o_ bD ?_
    rw[dF_ (by omega)]
    refine ab (ab (ab (bz eu .nil (fun h3=>?_) (fun h3=>?_))))
    ·(refine o_ ak ?_);refine ai ?_
     exact big (by omega)
    ·(refine o_ ak ?_);refine af ?_;refine bP ?_
     have he:((eD (l.take i):Int) * 10+((d:Int)-48))=(eD (l.take (i+1)):Int):=by omega
     rw[he]
     refine cC (m-1) (by omega) (.ex (i+1) (.all ?_))
     refine am ?_
     exact .pu ⟨by omega,rfl,rfl,rfl,by omega⟩ .refl
   ·rw[show IntKind.u64.wrap ((eD (l.take i):Int) * 10+((d:Int)-48))=(eD (l.take i):Int) * 10+((d:Int)-48)-18446744073709551616 by simp[IntKind.wrap,IntKind.signed,IntKind.bits];omega]
    refine o_ bD ?_
    rw[dT_ (by omega)]
    exact aC (aC (aC (o_ av (ai (big (by omega))))))
 ·have hie:i=l.length:=by omega
  subst hie
  rw[List.take_length]at hv ⊢
  refine af (aj (aj (aj (o_ ak (af (bK () (by unfold O8;rw[if_pos hv]) ?_))))))
  exact az
def SS (l:List UInt8)(g:Nat):Value:=if eD l<=9223372036854775807 then .tuple #[.int .u64 (eD l:Int),.nilIface]else .tuple #[.int .u64 9223372036854775807,.iface 605 (.pointer (some ⟨g,0,none⟩))]
theorem HT {W:World}[hG:Gl W]{l:List UInt8}(hn:l≠[])(hd:l.all kG=true)(hl:l.length<=281474976710656):Cn p_ 354 [ay l,.int .i64 10,.int .i64 63] W [] (fun g:Nat=>SS l g) (fun _=>[]):=by
 (refine Shp.cn (Sg.g_ Tryz.call354 Tryz.func354) fun F=>?_;simp only[ca_,na_])
 refine c_ (HS hn hd (by omega)) fun _=>?_
 unfold O8
 by_cases h:eD l<=9223372036854775807
 ·rw[if_pos h]
  refine bE ?_;refine bE ?_
  refine o_ (ku SR) ?_
  refine af (bK 0 (by unfold SS;rw[if_pos h]) ?_)
  exact az
 ·rw[if_neg h]
  refine bE ?_;refine bE ?_
  refine o_ (vB SR) ?_
  refine ai (ah (DQ (a:=[80,97,114,115,101,85,105,110,116]) hl) .nil fun g=>?_)
  refine am ?_
  refine bK g (by unfold SS;rw[if_neg h]) ?_
  exact az
def O9:List UInt8:=[48,49,50,51,52,53,54,55,56,57,97,98,99,100,101,102]
theorem O_ (c:UInt8):(lB O9 (gQ c)<0\/10<=lB O9 (gQ c))↔kG c=false:=by
 refine Ak (p:=fun c=>(lB O9 (gQ c)<0\/10<=lB O9 (gQ c))↔kG c=false) ?_ c
 decide+kernel
theorem HU {l:List UInt8}(h:l.all kG=true):fK l=l:=by
 unfold fK
 conv=>rhs;rw[<- List.map_id l]
 refine List.map_congr_left fun c hc=>?_
 have:=ND (List.all_eq_true.1 h c hc)
 unfold gQ
 rw[if_neg]
 ·rfl
 ·rintro⟨h1,_⟩
  have:=UInt8.le_iff_toNat_le.1 h1
  simp only[show(65:UInt8).toNat=65 from rfl]at this
  omega
theorem HV {W:World}[hG:Gl W]{l:List UInt8}(hl:l.length<=281474976710656):Cn p_ 246 [ay l,.int .i64 10,.int .i64 1000000000000000000] W [] (fun _:Unit=> .tuple #[.int .i64 (dh l).1,.int .i64 (dh l).2]) (fun _=>[]):=by
 (refine Shp.cn (Sg.g_ Tryz.call246 Tryz.func246 (an:={loops:=[(3,[17])]})) fun F=>?_;simp only[ca_,na_])
 refine c_ (pb (l:=l) (by omega)) fun _=>?_
 have hlen:(fK l).length=l.length:=by simp[fK]
 refine o_ bu ?_
 rw[hlen]
 refine aY (fun m y=>(ex fun i:Nat=>pu (m+i=l.length/\y= .int .i64 (i:Int)/\l.all kG=(l.drop i).all kG))::F) l.length ?_ ?_
 ·refine .ex 0 (.pu ⟨by omega,rfl,rfl⟩ ?_)
  exact az
 intro m ds y
 refine am ?_
 refine a8 Pick.here fun i=>aT Pick.here fun hi=>?_
 obtain⟨hmi,rfl,hall⟩:=hi
 refine bz bD .nil (fun h=>?_) (fun h=>?_)
 ·have hil:i<l.length:=by omega
  refine ai (o_ (ew i rfl (by rw[hlen];exact hil)) ?_)
  have hg:(fK l)[i]'(by rw[hlen];exact hil)=gQ l[i]:=by simp[fK]
  rw[hg]
  refine ah (indexByte (l:=O9) (c:=gQ l[i])) .nil fun _=>?_
  refine am ?_
  have hdx:=O_ l[i]
  rw[dr hil,List.all_cons]at hall
  have bad:kG l[i]=false->dh l=(0,21):=fun h=>by
   rw[h,Bool.false_and]at hall
   unfold dh
   rw[hall,Bool.and_false];rfl
  refine bz bD .nil (fun h1=>?_) (fun h1=>?_)
  ·(refine aC ?_);refine aC ?_;refine aC ?_;refine o_ av ?_;refine ai ?_
   rw[bad (hdx.1 (.inl h1))]
   refine aR () ?_
   exact az
  ·(refine ab ?_);refine ab ?_;refine ab ?_
   refine bz dt .nil (fun h2=>?_) (fun h2=>?_)
   ·(refine o_ ak ?_);refine ai ?_
    rw[bad (hdx.1 (.inr h2))]
    refine aR () ?_
    exact az
   ·(refine o_ ak ?_);refine af ?_;refine bP ?_
    have hg:kG l[i]=true:=by
     cases hx:kG l[i]with
     |true=>rfl
     |false=>have:=hdx.2 hx;omega
    rw[hg,Bool.true_and]at hall
    refine aZ (m-1) (by omega) (.ex (i+1) (.pu ⟨by omega,rfl,hall⟩ ?_))
    exact az
 ·rw[List.drop_of_length_le (by omega),List.all_nil]at hall
  refine af ?_
  have e0:(Value.string ⟨#[]⟩)=ay []:=rfl
  rw[e0,HU hall]
  refine bz eo .nil (fun h1=>?_) (fun h1=>?_)
  ·subst h1
   refine ai (aR () ?_)
   exact az
  ·refine af ?_
   have hnb:nb l=true:=by cases l with
    |nil=>exact absurd rfl h1
    |cons _ _=>rfl
   refine ah (HT h1 hall hl) .nil fun g=>?_
   refine am ?_
   unfold SS
   by_cases h:eD l<=9223372036854775807
   ·rw[if_pos h]
    refine bE ?_;refine bE ?_
    refine o_ (ku SR) ?_
    refine ab (ab (ab (o_ eN ?_)))
    rw[show IntKind.u64.wrap 1000000000000000000=1000000000000000000 by rfl]
    refine ab (bz eu .nil (fun h2=>?_) (fun h2=>?_))
    ·(refine o_ ak ?_);refine ai ?_
     have:dh l=(0,11):=by
      unfold dh
      rw[hnb,hall,if_pos (by rfl),if_neg (by omega)]
     rw[this]
     refine aR () ?_
     exact az
    ·(refine o_ ak ?_);refine af ?_
     refine o_ eN ?_
     have:dh l=((eD l:Int),0):=by
      unfold dh
      rw[hnb,hall,if_pos (by rfl),if_pos (by omega)]
     rw[this,show IntKind.i64.wrap (eD l:Int)=(eD l:Int) by simp[IntKind.wrap,IntKind.signed,IntKind.bits];omega]
     refine aR () ?_
     exact az
   ·rw[if_neg h]
    refine bE ?_;refine bE ?_
    refine o_ (vB SR) ?_
    refine aC (aC (aC (aC (o_ av (ai ?_)))))
    have:dh l=(0,11):=by
     unfold dh
     rw[hnb,hall,if_pos (by rfl),if_neg (by omega)]
    rw[this]
    refine aR () ?_
    exact az
theorem lS {W:World}[hG:Gl W]{l:List UInt8}(hl:l.length<=281474976710656):Cn p_ 153 [ay l] W [] (fun _:Unit=> .tuple #[.int .i64 (dh l).1,.int .i64 (dh l).2]) (fun _=>[]):=by
 (refine Shp.cn (Sg.g_ Tryz.call153 Tryz.func153) fun F=>?_;simp only[ca_,na_])
 refine c_ (HV hl) fun _=>?_
 refine bE ?_;refine bE ?_
 refine aR () ?_
 exact az
end Go.Proofs.YtdjkdjepjahjfaaGreatDoor.FD
