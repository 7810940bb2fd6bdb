/- Elements of lists: tokens, weights, choices, spans. The library's own error can be read ('Gl'); a text of at most 4194304 bytes. (32 texts made one; each says below what it is.) -/
import Derived.Test.YtndojgomlkpeaaaGreatDoorK2
import Derived.Laws.StructEq
set_option linter.unusedVariables false
set_option linter.unusedSimpArgs false
set_option linter.unusedSectionVars false
set_option maxRecDepth 9999
namespace Go.Proofs.YtndojgomlkpeaaaGreatDoor.FD
open Go Go.Proofs Go.RowKit Sh Sl T
section
variable {P:Program} {W:World} {L L':List HP} {Kp:PK} {k:Value->WP}
theorem e_or1 {a b:Bool}{y:Value}{s1:Value->Sem Next}(h1:a=false->RunV P W [] (s1 y) (.bool b))(h:Ent W L (k (.bool (a||b)))):
  Ent W L (gdK (.bool a) false (fun k=>k y) fun x1=>gdK (.bool a) false (opN P (s1 x1) Kp) fun x2=>opN P (sPick (.bool a) (.bool true) x2) Kp k):=by
 cases a with
 |true=>
  refine e_gdF1 (e_gdF1 (o_ v_pickT ?_))
  simpa using h
 |false=>
  refine e_gdT (e_gdT (o_ (h1 rfl) ?_))
  refine o_ v_pickF ?_
  simpa using h
theorem e_or2 {a b:Bool}{y v1:Value}{s1 s2:Value->Sem Next}(h1:a=false->RunV P W [] (s1 y) v1)(h2:a=false->RunV P W [] (s2 v1) (.bool b))(h:Ent W L (k (.bool (a||b)))):
  Ent W L (gdK (.bool a) false (fun k=>k y) fun x1=>gdK (.bool a) false (opN P (s1 x1) Kp) fun x2=>gdK (.bool a) false (opN P (s2 x2) Kp) fun x3=>opN P (sPick (.bool a) (.bool true) x3) Kp k):=by
 cases a with
 |true=>
  refine e_gdF1 (e_gdF1 (e_gdF1 (o_ v_pickT ?_)))
  simpa using h
 |false=>
  refine e_gdT (e_gdT (o_ (h1 rfl) ?_))
  refine e_gdT (o_ (h2 rfl) ?_)
  refine o_ v_pickF ?_
  simpa using h
end
theorem cutB_len {c:UInt8}:∀s:List UInt8,(cutB c s).length<=s.length
 |[]=>by simp[cutB]
 |x::r=>by
  have:=cutB_len (c:=c) r
  unfold cutB
  split <;> simp <;> omega
theorem lowF_len (l:List UInt8):(lowF l).length=l.length:=by simp[lowF]
theorem weight {W:World}[hG:Gl W]{l:List UInt8}(hl:l.length<=4194304):Cn p_ 86 [txt l] W [] (fun _:Unit=> .tuple #[.int .i64 (weightF l).1,.bool (weightF l).2]) (fun _=>[]):=by
 have hA:=cutA_len (c:=46) l
 have hB:=cutB_len (c:=46) l
 (refine Shp.cn (Sg.g_ Tryz.call86 Tryz.func86) fun F=>?_;simp only[ca_,na_])
 refine c_ (cut_ (c:=46) (l:=l) (by omega)) fun _=>?_
 refine o_ (v_extN (vs:=[_,_,_]) .here) ?_
 refine o_ (v_extN (vs:=[_,_,_]) (.there .here)) ?_
 refine o_ (v_extN (vs:=[_,_,_]) (.there (.there .here))) ?_
 refine o_ (v_strne (m:=[48])) ?_
 refine e_and (fun _=>v_strne (m:=[49])) ?_
 refine e_or2 (fun _=>v_lent) (fun _=>v_gtr) ?_
 refine e_cond (φ:=(cutA 46 l≠[48]/\cutA 46 l≠[49])\/3<(cutB 46 l).length) (by rw[<- Bool.decide_and,<- Bool.decide_or,decide_eq_decide];exact or_congr_right (by omega)) (fun h=>?_) (fun h=>?_)
 ·have e:weightF l=(0,false):=by unfold weightF;rw[if_pos h]
  rw[e]
  refine rt_ () ?_
  exact im_
 ·have e:weightF l=((decF (cutA 46 l++(cutB 46 l++[48,48,48]).take 3)).1,decide ((decF (cutA 46 l++(cutB 46 l++[48,48,48]).take 3)).2=0)&&decide ((decF (cutA 46 l++(cutB 46 l++[48,48,48]).take 3)).1<=1000)):=by
   unfold weightF;rw[if_neg h]
  rw[e]
  refine o_ (v_cat (b:=[48,48,48]) (by simp;omega)) ?_
  refine o_ (v_ssh 3 rfl (by simp)) ?_
  refine o_ (v_cat (by simp;omega)) ?_
  refine e_call (decimal (l:=cutA 46 l++(cutB 46 l++[48,48,48]).take 3) (by simp;omega)) .nil fun _=>?_
  refine nr_ ?_
  refine o_ (v_extN (vs:=[_,_]) .here) ?_
  refine o_ (v_extN (vs:=[_,_]) (.there .here)) ?_
  refine o_ v_eql (e_and (fun _=>v_leq) ?_)
  refine rt_ () ?_
  exact im_
theorem low_q1 {w:List UInt8}(h:2<=w.length):eqlF (w.take 2) [113,61]=decide (lowF (w.take 2)=[113,61]):=by
 unfold eqlF
 rw[dT_ (by simp;omega),Bool.true_and]
 rfl
theorem choice {W:World}[hG:Gl W]{l:List UInt8}(hl:l.length<=4194304):Cn p_ 55 [txt l] W [] (fun _:Unit=> .tuple #[vChoice (choiceF l).1,.bool (choiceF l).2]) (fun _=>[]):=by
 have hA:=cutA_len (c:=59) l
 have hB:=cutB_len (c:=59) l
 have tA:=trim_len (cutA 59 l)
 have tB:=trim_len (cutB 59 l)
 (refine Shp.cn (Sg.g_ Tryz.call55 Tryz.func55) fun F=>?_;simp only[ca_,na_])
 refine e_newA fun b2=>?_
 refine c_ (cut_ (c:=59) (l:=l) (by omega)) fun _=>?_
 refine o_ (v_extN (vs:=[_,_,_]) .here) ?_
 refine o_ (v_extN (vs:=[_,_,_]) (.there .here)) ?_
 refine o_ (v_extN (vs:=[_,_,_]) (.there (.there .here))) ?_
 refine c_ (trim (l:=cutA 59 l) (by omega)) fun _=>?_
 refine c_ (lower (l:=trimB (cutA 59 l)) (by omega)) fun _=>?_
 refine o_ v_rv ?_;refine e_newA fun g=>?_;refine sg_ ?_;refine o_ v_fa0 (ln_ ?_)
 refine c_ (token (l:=lowF (trimB (cutA 59 l))) (by rw[lowF_len];omega)) fun _=>?_
 cases hs:cutS 59 l with
 |false=>
  have e:choiceF l=((lowF (trimB (cutA 59 l)),1000),tokF (lowF (trimB (cutA 59 l)))):=by unfold choiceF;rw[hs];rfl
  rw[e]
  refine e_condF (lg_ ?_);refine sg_ ?_;(((refine' e_stS (v_resA ?hn) ?hi ?_);(case hi=>exact im_);(case hn=>rfl)))
  refine rt_ () ?_
  exact im_
 |true=>
  refine e_condT (c_ (trim (l:=cutB 59 l) (by omega)) fun _=>?_)
  refine o_ v_lent ?_
  have bad:((trimB (cutB 59 l)).length<2\/lowF ((trimB (cutB 59 l)).take 2)≠[113,61])->choiceF l=(([],0),false):=fun h=>by
   unfold choiceF;rw[if_pos hs,if_pos h]
  refine e_ask v_lss .nil (fun h=>?_) (fun h=>?_)
  ·rw[bad (.inl (by omega))]
   refine e_gdF1 (e_gdF1 (e_gdF1 (e_gdF1 (o_ v_pickT (e_condT (o_ v_rv ?_))))));refine sg_ ?_;(((refine' e_stS (v_resA ?hn) ?hi ?_);(case hi=>exact im_);(case hn=>rfl)))
   refine rt_ () ?_
   exact im_
  ·have h2:2<=(trimB (cutB 59 l)).length:=by omega
   refine e_gdT (e_gdT (o_ (v_ssh 2 rfl h2) ?_))
   refine e_gdT (e_call (equal (a:=(trimB (cutB 59 l)).take 2) (b:=[113,61]) (by simp;omega) (by simp)) .nil fun _=>?_)
   refine nr_ ?_
   rw[low_q1 h2]
   refine e_gdT (o_ v_not (o_ v_pickF ?_))
   by_cases hq:lowF ((trimB (cutB 59 l)).take 2)=[113,61]
   ·have e:choiceF l=((lowF (trimB (cutA 59 l)),(weightF ((trimB (cutB 59 l)).drop 2)).1),tokF (lowF (trimB (cutA 59 l)))&&(weightF ((trimB (cutB 59 l)).drop 2)).2):=by
     unfold choiceF;rw[if_pos hs,if_neg (by rintro(h3|h3);omega;exact h3 hq)]
    rw[e,dT_ hq]
    refine e_condF (o_ (v_ssl 2 rfl h2) ?_)
    refine e_call (weight (l:=(trimB (cutB 59 l)).drop 2) (by rw[List.length_drop];omega)) .nil fun _=>?_
    refine nr_ ?_
    refine xt_ ?_;refine xt_ ?_;refine o_ v_fa0 (sn_ ?_)
    refine e_and0 ?_
    refine lg_ ?_;refine sg_ ?_;(((refine' e_stS (v_resA ?hn) ?hi ?_);(case hi=>exact im_);(case hn=>rfl)))
    refine rt_ () ?_
    exact im_
   ·rw[bad (.inr hq),dF_ hq,show(!false)=true from rfl]
    refine e_condT (o_ v_rv ?_);refine sg_ ?_;(((refine' e_stS (v_resA ?hn) ?hi ?_);(case hi=>exact im_);(case hn=>rfl)))
    refine rt_ () ?_
    exact im_
end Go.Proofs.YtndojgomlkpeaaaGreatDoor.FD
namespace Go.Proofs.YtndojgomlkpeaaaGreatDoor.FD
open Go Go.Proofs Go.RowKit Sh Sl T
theorem rlower {W:World}{l:List UInt8}(hl:l.length<=4611686018427387904):Cn p_ 47 [txt l] W [] (fun _:Unit=>txt (lowF l)) (fun _=>[]):=by
 (refine Shp.cn (Sg.g_ Tryz.call47 Tryz.func47 (an:={loops:=[(3,[4])]})) fun F=>?_;simp only[ca_,na_])
 refine e_sbytesF Tryz.underlying23 Tryz.underlying5 fun g c rest=>?_
 refine e_loop1 (fun m y=>[ex fun i:Nat=>all [pu (m+i=l.length/\y= .int .i64 (i:Int)),pt g (.cells (((l.take i).map lowB++l.drop i).map B++rest).toArray 5 (l.length+rest.length,l.length+rest.length+1))]]++F) l.length ?_ ?_
 ·refine Imp.ex 0 (.all ?_)
  refine nr_ ?_
  rw[List.take_zero,List.drop_zero,List.map_nil,List.nil_append]
  exact .pu ⟨by omega,rfl⟩ .refl
 intro m ds y
 refine nr_ ?_
 refine e_ex Pick.here fun i=>e_all Pick.here ?_
 refine nr_ ?_
 refine e_pu Pick.here fun hi=>?_
 obtain⟨hmi,rfl⟩:=hi
 refine o_ v_len (e_ask v_lss .nil (fun h=>?_) (fun h=>?_))
 ·have hil:i<l.length:=by omega
  refine e_condT ?_
  have hcl:((l.take i).map lowB++l.drop i).length=l.length:=by simp;omega
  have hget:((((l.take i).map lowB++l.drop i).map B++rest).toArray)[i]? =some (B l[i]):=by
   simp[List.getElem?_append,hil,Nat.min_eq_left (Nat.le_of_lt hil)]
   intro h0;omega
  have ld:RunV p_ W [pt g (.cells (((l.take i).map lowB++l.drop i).map B++rest).toArray 5 (l.length+rest.length,l.length+rest.length+1))] (sLoad 5 (.pointer (some ⟨g,i,none⟩))) (B l[i]):=v_ld hget
  refine o_ (v_ia1 i rfl hil) ?_
  rw[Nat.zero_add]
  refine e_opN ld (.pick .here .nil) ?_
  have step:∀x,x=lowB l[i]->(((l.take i).map lowB++l.drop i).map B++rest).toArray.setIfInBounds i (B x)=(((l.take (i+1)).map lowB++l.drop (i+1)).map B++rest).toArray:=by
   intro x hx
   subst hx
   rw[List.setIfInBounds_toArray]
   congr 1
   rw[dr hil,List.take_succ_eq_append_getElem hil]
   rw[List.map_append,List.map_append,List.map_append,List.map_append]
   have hk:(List.map B (List.map lowB (List.take i l))).length=i:=by simp;omega
   rw[List.append_assoc,List.append_assoc,List.append_assoc,List.set_append,if_neg (by rw[hk];omega),hk,Nat.sub_self]
   rfl
  have h65:((65:Int)<=(l[i].toNat:Int)/\(l[i].toNat:Int)<=90)↔(65<=l[i]/\l[i]<=90):=by
   rw[UInt8.le_iff_toNat_le,UInt8.le_iff_toNat_le]
   simp only[show(65:UInt8).toNat=65 from rfl,show(90:UInt8).toNat=90 from rfl]
   omega
  have no:¬(65<=l[i]/\l[i]<=90)->Ent W (pt g (.cells (((l.take i).map lowB++l.drop i).map B++rest).toArray 5 (l.length+rest.length,l.length+rest.length+1))::F) (opN p_ (sBin .add 3 (.int .i64 (i:Int)) (.int .i64 1)) noP fun x12=>next1 (fun m y w=>sat W ([ex fun i:Nat=>all [pu (m+i=l.length/\y= .int .i64 (i:Int)),pt g (.cells (((l.take i).map lowB++l.drop i).map B++rest).toArray 5 (l.length+rest.length,l.length+rest.length+1))]]++F) w) m x12):=by
   intro hno
   have hlo:lowB l[i]=l[i]:=if_neg hno
   have e2:(((l.take i).map lowB++l.drop i).map B++rest).toArray=(((l.take (i+1)).map lowB++l.drop (i+1)).map B++rest).toArray:=by
    rw[<- step _ hlo.symm]
    refine Array.ext_getElem? fun j=>?_
    rw[Array.getElem?_setIfInBounds]
    by_cases hj:i=j
    ·subst hj
     rw[if_pos rfl,hget,if_pos (by simp;omega)]
    ·rw[if_neg hj]
   rw[e2]
   refine ad_ ?_
   refine e_next1 (m-1) (by omega) (.ex (i+1) (.all ?_))
   refine nr_ ?_
   exact .pu ⟨by omega,rfl⟩ .refl
  refine o_ (v_geq (q:= .u8) (a:=(l[i].toNat:Int)) (b:=65)) ?_
  by_cases h1:(65:Int)<=(l[i].toNat:Int)
  ·rw[dT_ h1]
   refine e_gdT (e_gdT (e_gdT (o_ (v_ia1 i rfl hil) ?_)))
   rw[Nat.zero_add]
   refine e_gdT (e_opN ld (.pick .here .nil) ?_)
   refine e_gdT (o_ (v_leq (q:= .u8) (a:=(l[i].toNat:Int)) (b:=90)) ?_)
   refine o_ v_pickT ?_
   by_cases h2:(l[i].toNat:Int)<=90
   ·rw[dT_ h2]
    refine e_condT ?_
    have hlo:lowB l[i]=l[i]+32:=if_pos (h65.1 ⟨h1,h2⟩)
    have hn:(lowB l[i]).toNat=(l[i]).toNat+32:=by
     rw[hlo,UInt8.toNat_add]
     simp only[show(32:UInt8).toNat=32 from rfl]
     omega
    refine o_ (v_ia1 i rfl hil) ?_
    rw[Nat.zero_add]
    refine e_opN ld (.pick .here .nil) ?_
    refine o_ (v_addw (q:= .u8) (a:=(l[i].toNat:Int)) (b:=32)) ?_
    rw[show IntKind.u8.wrap ((l[i].toNat:Int)+32)=((lowB l[i]).toNat:Int) by
     rw[hn]
     simp[IntKind.wrap,IntKind.signed,IntKind.bits];omega]
    refine o_ (v_ia1 i rfl hil) ?_
    rw[Nat.zero_add]
    refine e_stF (v:=B (lowB l[i])) .here (by simp;omega) (by simp;omega) ?_
    rw[step _ rfl]
    refine ad_ ?_
    refine e_next1 (m-1) (by omega) (.ex (i+1) (.all ?_))
    refine nr_ ?_
    exact .pu ⟨by omega,rfl⟩ .refl
   ·rw[dF_ h2]
    exact e_condF (no (fun c=>h2 (h65.2 c).2))
  ·rw[dF_ h1]
   exact e_gdF2 (e_gdF2 (e_gdF2 (e_gdF2 (e_gdF2 (o_ v_pickF (e_condF (no (fun c=>h1 (h65.2 c).1))))))))
 ·have hie:i=l.length:=by omega
  subst hie
  refine e_condF ?_
  rw[List.take_length,List.drop_length,List.append_nil]
  have hrd:=rd_row (W:=W) (g:=g) (e:=5) (fz:=(l.length+rest.length,l.length+rest.length+1)) (cs:=(lowF l).map B) (rest:=rest)
  have e1:((lowF l).map B).length=l.length:=by simp[lowF]
  rw[e1]at hrd
  refine e_opN (v_str (l:=lowF l) hrd (by intro h;cases h)) (.pick .here .nil) ?_
  refine rt_ () ?_
  exact im_
abbrev Fd:=List UInt8 × List UInt8
def vFd (x:Fd):Value:= .agg #[txt x.1,txt x.2]
def pFd (x:Fd):List Value:=[txt x.1,txt x.2]
theorem pFd_len (x:Fd):(pFd x).length=2:=rfl
theorem fd_at {xs:List Fd}{i:Nat}(h:i<xs.length):(xs.flatMap pFd)[i * 2+0]? =some (txt xs[i].1)/\(xs.flatMap pFd)[i * 2+1]? =some (txt xs[i].2):=
 ⟨flat_get (f:=pFd) (s:=2) pFd_len xs i 0 h (by omega),flat_get (f:=pFd) (s:=2) pFd_len xs i 1 h (by omega)⟩
def RdF (W:World)(A:HP)(a:Option Addr)(l:List Fd):Prop:=RdB W A a (l.length * 2) (l.flatMap pFd)
theorem rdF_at {W:World}{A:HP}{a:Option Addr}{l:List Fd}(h:RdF W A a l)(hl:0<l.length):∃g o,a=some ⟨g,o,none⟩:=by
 obtain⟨g,o,e,_⟩:=h.at_ (by omega)
 exact⟨g,o,e⟩
theorem rdF_sl {W:World}{g c:Nat}{l:List Fd}:RdF W (Sl 2 52 (some ⟨g,0,none⟩) c l.length (l.flatMap pFd)) (some ⟨g,0,none⟩) l:=rd_slG (flat_len (f:=pFd) (s:=2) (fun _=>rfl) l) (fun _=>⟨g,rfl⟩)
theorem ld_fdA {W:World}{A:HP}{l:List Fd}{i g o:Nat}(hA:RdF W A (some ⟨g,o,none⟩) l)(h:i<l.length):RunV p_ W [A] (sLoad 52 (.pointer (some ⟨g,o+i * 2,none⟩))) (vFd l[i]):=
 v_ldRdG (vs:=pFd l[i]) hA rfl (fun j hj=>flat_get (f:=pFd) (s:=2) (fun _=>rfl) l i j h hj)
def hOK (l:List Fd):Prop:=l.length<=4194304/\∀f∈l,f.1.length<=4194304/\f.2.length<=4194304
def valsF (l:List Fd)(n:List UInt8):List (List UInt8):=(l.filter fun f=>eqlF f.1 n).map (·.2)
def firstF (l:List Fd)(n:List UInt8):List UInt8 × Bool:=match valsF l n with
 |[]=>([],false)
 |v::_=>(v,true)
theorem vals_take {l:List Fd}{n:List UInt8}{i:Nat}(h:i<l.length):valsF (l.take (i+1)) n=valsF (l.take i) n++(if eqlF l[i].1 n then [l[i].2]else []):=by
 unfold valsF
 rw[List.take_succ_eq_append_getElem h,List.filter_append,List.map_append]
 congr 1
 cases he:eqlF l[i].1 n <;> simp[he]
theorem vals_len (l:List Fd)(n:List UInt8):(valsF l n).length<=l.length:=by
 unfold valsF
 rw[List.length_map]
 exact List.length_filter_le _ _
theorem vals_mem {l:List Fd}{n v:List UInt8}(h:v∈valsF l n):∃f∈l,v=f.2:=by
 unfold valsF at h
 obtain⟨f,hf,rfl⟩:=List.mem_map.1 h
 exact⟨f,(List.mem_filter.1 hf).1,rfl⟩
theorem values {W:World}{l:List Fd}{n:List UInt8}{a:Option Addr}{c:Nat}{A:HP}(hA:RdF W A a l)(hl:hOK l)(hn:n.length<=4194304):Cn p_ 22 [.slice a l.length c,txt n] W [A] (fun r:Option Addr × Nat=> .slice r.1 (valsF l n).length r.2)
  (fun r=>[A,Sl 1 9 r.1 r.2 (valsF l n).length ((valsF l n).map txt)]):=by
 (refine Shp.cn (Sg.g_ Tryz.call22 Tryz.func22 (an:={loops:=[(3,[5,10])]})) fun F=>?_;simp only[ca_,na_])
 refine o_ v_len (e_loop2 (fun m x y=>[ex fun st:(Option Addr × Nat) × Nat=>all [pu (m+st.2=l.length/\x= .slice st.1.1 (valsF (l.take st.2) n).length st.1.2/\y= .int .i64 (st.2:Int)),Sl 1 9 st.1.1 st.1.2 (valsF (l.take st.2) n).length ((valsF (l.take st.2) n).map txt),A]]++F) l.length ?_ ?_)
 ·refine Imp.ex ((none,0),0) (.all ?_)
  refine nr_ ?_
  refine .pu ⟨rfl,rfl,rfl⟩ ?_
  exact imp_nil .refl
 intro m ds x y
 refine nr_ ?_
 refine e_ex Pick.here fun st=>e_all Pick.here ?_
 obtain⟨⟨sa,sc⟩,i⟩:=st
 refine nr_ ?_
 refine e_pu Pick.here fun hi=>?_
 (try dsimp only at hi)
 obtain⟨hmi,rfl,rfl⟩:=hi
 refine e_ask v_lss .nil (fun h=>?_) (fun h=>?_)
 ·have hil:i<l.length:=by omega
  have hb:=hl.2 _ (List.getElem_mem hil)
  have hv:=vals_take (n:=n) hil
  have hvl:=vals_len (l.take i) n
  have hl1:=hl.1
  rw[List.length_take]at hvl
  refine e_condT ?_
  obtain⟨g,o,rfl⟩:=rdF_at hA (Nat.zero_lt_of_lt hil)
  refine o_ (v_ia i rfl hil) ?_
  refine p_op (ld_fdA hA hil) ?_
  generalize l[i]=x at hb hv ⊢
  unfold vFd
  refine e_newA fun b7=>?_
  refine e_stAgg .here (by rfl) (by rfl) (by intro u hu;simp at hu;rcases hu with rfl|rfl <;> rfl) ?_
  refine o_ v_fa0 (ln_ ?_)
  refine e_call (equal (a:=x.1) (b:=n) (by omega) (by omega)) .nil fun _=>?_
  refine nr_ ?_
  cases he:eqlF x.1 n with
  |true=>
   rw[he,if_pos rfl]at hv
   refine e_condT (o_ v_fa0 (ln_ ?_));refine e_bsl1 fun g=>?_
   refine e_app (m:=1) (news:=[txt x.2]) (by repeat constructor) (src_pt (e':=9) (by kernel_rfl) .here (by rfl) (by intro u hu;rw[List.mem_singleton.1 hu];rfl)) (by omega) (by omega) fun a' c'=>?_
   refine ad_ ?_
   refine e_next2 (m-1) (by omega) (.ex ((a',c'),i+1) (.all ?_))
   refine nr_ ?_
   (try dsimp only)
   rw[hv,List.length_append,List.map_append]
   refine .pu ⟨by omega,rfl,rfl⟩ ?_
   refine .pick .here ?_
   exact im_
  |false=>
   rw[he,if_neg (by decide),List.append_nil]at hv
   refine e_condF (ad_ ?_)
   refine e_next2 (m-1) (by omega) (.ex ((sa,sc),i+1) (.all ?_))
   refine nr_ ?_
   (try dsimp only)
   rw[hv]
   refine .pu ⟨by omega,rfl,rfl⟩ ?_
   exact im_
 ·have:i=l.length:=by omega
  subst this
  rw[List.take_length]
  refine e_condF (rt_ ((sa,sc)) ?_)
  exact im_
theorem requal {W:World}{a b:List UInt8}(ha:a.length<=4611686018427387904)(hb:b.length<=4611686018427387904):Cn p_ 24 [txt a,txt b] W [] (fun _:Unit=> .bool (eqlF a b)) (fun _=>[]):=by
 (refine Shp.cn (Sg.g_ Tryz.call24 Tryz.func24) fun F=>?_;simp only[ca_,na_])
 refine e_call (rlower (l:=a) ha) .nil fun _=>?_
 refine nr_ ?_
 refine e_call (rlower (l:=b) hb) .nil fun _=>?_
 refine nr_ ?_
 refine o_ v_streq ?_
 have e:decide (lowF a=lowF b)=eqlF a b:=by
  unfold eqlF
  by_cases h:lowF a=lowF b
  ·have hl:a.length=b.length:=by have:=congrArg List.length h;simpa [lowF]using this
   simp[h,hl]
  ·simp[h]
 rw[e]
 refine rt_ () ?_
 exact im_
theorem rvalues {W:World}{l:List Fd}{n:List UInt8}{a:Option Addr}{c:Nat}{A:HP}(hA:RdF W A a l)(hl:hOK l)(hn:n.length<=4194304):Cn p_ 13 [.slice a l.length c,txt n] W [A] (fun r:Option Addr × Nat=> .slice r.1 (valsF l n).length r.2)
  (fun r=>[A,Sl 1 9 r.1 r.2 (valsF l n).length ((valsF l n).map txt)]):=by
 (refine Shp.cn (Sg.g_ Tryz.call13 Tryz.func13 (an:={loops:=[(3,[5,6])]})) fun F=>?_;simp only[ca_,na_])
 refine e_loop2 (fun m x y=>[ex fun st:(Option Addr × Nat) × Nat=>all [pu (m+st.2=l.length/\x= .slice st.1.1 (valsF (l.take st.2) n).length st.1.2/\y= .int .i64 (st.2:Int)),Sl 1 9 st.1.1 st.1.2 (valsF (l.take st.2) n).length ((valsF (l.take st.2) n).map txt),A]]++F) l.length ?_ ?_
 ·refine Imp.ex ((none,0),0) (.all ?_)
  refine nr_ ?_
  refine .pu ⟨rfl,rfl,rfl⟩ ?_
  exact imp_nil .refl
 intro m ds x y
 refine nr_ ?_
 refine e_ex Pick.here fun st=>e_all Pick.here ?_
 obtain⟨⟨sa,sc⟩,i⟩:=st
 refine nr_ ?_
 refine e_pu Pick.here fun hi=>?_
 (try dsimp only at hi)
 obtain⟨hmi,rfl,rfl⟩:=hi
 refine o_ v_len (e_ask v_lss .nil (fun h=>?_) (fun h=>?_))
 ·have hil:i<l.length:=by omega
  have hb:=hl.2 _ (List.getElem_mem hil)
  have hat:=fd_at hil
  have hv:=vals_take (n:=n) hil
  have hvl:=vals_len (l.take i) n
  have hl1:=hl.1
  rw[List.length_take]at hvl
  refine e_condT ?_
  obtain⟨g,o,rfl⟩:=rdF_at hA (Nat.zero_lt_of_lt hil)
  generalize l[i]=x at hb hv hat ⊢
  have l0:RunV p_ W [A] (sLoad 9 (.pointer (some ⟨g,o+i * 2+0,none⟩))) (txt x.1):=v_ldRd2 hA hat.1
  have l1:RunV p_ W [A] (sLoad 9 (.pointer (some ⟨g,o+i * 2+1,none⟩))) (txt x.2):=v_ldRd2 hA hat.2
  refine o_ (v_ia i rfl hil) ?_
  refine o_ v_fa (p_op l0 ?_)
  refine e_call (requal (a:=x.1) (b:=n) (by omega) (by omega)) .nil fun _=>?_
  refine nr_ ?_
  cases he:eqlF x.1 n with
  |true=>
   rw[he,if_pos rfl]at hv
   refine e_condT (o_ (v_ia i rfl hil) ?_)
   refine o_ v_fa (p_op l1 ?_)
   refine e_bsl1 fun gb=>?_
   refine e_app (m:=1) (news:=[txt x.2]) (by repeat constructor) (src_pt (e':=9) (by kernel_rfl) .here (by rfl) (by intro u hu;rw[List.mem_singleton.1 hu];rfl)) (by omega) (by omega) fun a' c'=>?_
   refine ad_ ?_
   refine e_next2 (m-1) (by omega) (.ex ((a',c'),i+1) (.all ?_))
   refine nr_ ?_
   (try dsimp only)
   rw[hv,List.length_append,List.map_append]
   refine .pu ⟨by omega,rfl,rfl⟩ ?_
   refine .pick .here ?_
   exact im_
  |false=>
   rw[he,if_neg (by decide),List.append_nil]at hv
   refine e_condF (ad_ ?_)
   refine e_next2 (m-1) (by omega) (.ex ((sa,sc),i+1) (.all ?_))
   refine nr_ ?_
   (try dsimp only)
   rw[hv]
   refine .pu ⟨by omega,rfl,rfl⟩ ?_
   exact im_
 ·have:i=l.length:=by omega
  subst this
  rw[List.take_length]
  refine e_condF (rt_ ((sa,sc)) ?_)
  exact im_
theorem first {W:World}{l:List Fd}{n:List UInt8}{a:Option Addr}{c:Nat}{A:HP}(hA:RdF W A a l)(hl:hOK l)(hn:n.length<=4194304):Cn p_ 38 [.slice a l.length c,txt n] W [A] (fun _:Unit=> .tuple #[txt (firstF l n).1,.bool (firstF l n).2])
  (fun r=>[A]):=by
 (refine Shp.cn (Sg.g_ Tryz.call38 Tryz.func38 (an:={loops:=[(2,[12])]})) fun F=>?_;simp only[ca_,na_])
 refine e_call (values hA hl hn) (.cons .here .nil) fun r=>?_
 obtain⟨sa,sc⟩:=r
 refine nr_ ?_
 unfold firstF
 generalize valsF l n=V
 refine o_ v_len (e_loop1 (fun m y=>pu (y= .int .i64 0)::A::Sl 1 9 sa sc V.length (V.map txt)::F) 0 ?_ ?_)
 ·exact .pu rfl .refl
 intro m ds y
 refine e_pu .here fun hy=>?_
 subst hy
 cases V with
 |nil=>
  refine o_ (v_lss (a:=0) (b:=0)) ?_
  refine e_condF (rt_ () ?_)
  exact im_
 |cons v r=>
  refine o_ v_lss ?_
  rw[dT_ (by simp)]
  refine e_condT (e_slsome (a:=sa) (.there .here) (by simp) fun g hg=>?_)
  subst hg
  have ld:RunV p_ W [Sl 1 9 (some ⟨g,0,none⟩) sc (v::r).length ((v::r).map txt)] (sLoad 9 (.pointer (some ⟨g,0+0,none⟩))) (txt v):=v_ldSl rfl
  refine o_ (v_ia1 0 rfl (by simp)) ?_
  refine p_op ld ?_
  refine rt_ () ?_
  exact im_
section
variable {P:Program} {W:World} {L L':List HP} {Kp:PK} {k:Value->WP}
theorem e_own0 {s:Nat}{e:TypeId}{g:Nat}{cs:List Value}{n:Nat}{S:WP}(p:Pick L (pt g (.cells cs.toArray e (0,0))) L')(hn:cs.length=n * s)(hm:n<=maxLen)(h:Ent W (Sl s e (some ⟨g,0,none⟩) n 0 []::L') S):Ent W L S:=
 e_conv p (fun h hh=>⟨by simp,Nat.zero_le _,hm,.inr ⟨g,cs,rfl,by simpa using hn,hh⟩⟩) h
theorem v_copy0 {dT sT ty e:TypeId}{b:Nat}{d a:Option Addr}{dLen dCap sLen sCap:Nat}[ht:SlT P dT e 1 b](hn:Nat.min sLen dLen=0):RunV P W [] (sCopy #[dT,sT] ty [.slice d dLen dCap,.slice a sLen sCap]) (.int .i64 0):=fun w _=>by
 obtain⟨i,z,hi,hz,hsz,hb,hzs⟩:=ht.info
 have hr:=run_copy_none (P:=P) w dT sT ty e d a dLen dCap sLen sCap ht.ut (by rw[hi];simp[hsz]) hn
 simp[sCopy,hr,goInt]
theorem src_str {tx:TypeId}{l:List UInt8}(hk:P.underlying tx=some .string):∀w,sat W L w->Src P 1 tx (txt l) l.length (l.map B) w:=fun w _=>Src.ofString w hk ⟨l.toArray⟩
end
theorem e_mnz {W:World}{L:List HP}{Kp:PK}{k:Value->WP}{n:Nat}(hn:n<=281474976710656)(h:∀g (cs:List Value),n<=cs.length->cs.length<=maxLen->Ent W (pt g (.cells cs.toArray 5 (0,0))::L) (k (.slice (some ⟨g,0,none⟩) n cs.length))):
  Ent W L (opN p_ (sCall (fn 159) [.int .i64 (n:Int)]) Kp k):=fun w hw=>by
 obtain⟨cs,hrun,hle,hmx⟩:=Lib.run_makeNoZero (P:=p_) w #[3] 23 5 Tryz.underlying23 n hn
 have hr:(callFunc 159 #[.int .i64 (n:Int)]).run p_ w= .ok (.value (.slice (some ⟨w.heap.size,0,none⟩) n cs.size)) (w.drew.drew.alloc (.cells cs 5)):=by
  rw[run_callFunc_extern Tryz.func159 (by kernel_rfl) (by kernel_rfl) (by kernel_rfl) (e:=Extern.BytealgMakeNoZero.makeNoZero #[3] #[23]) (by kernel_rfl),hrun]
  rfl
 refine⟨?_⟩
 rw[show(sCall (fn 159) [.int .i64 (n:Int)]).run p_ w= .ok (.value (.slice (some ⟨w.heap.size,0,none⟩) n cs.size)) (w.drew.drew.alloc (.cells cs 5)) by simp[sCall,Deferred.ofValue,invoke,fn,hr]]
 have:=h w.heap.size cs.toList (by simpa using hle) (by simpa using hmx (by unfold maxLen;omega))
 simp only[Array.toArray_toList,Array.length_toList]at this
 exact this _ ((hw.drew.drew).alloc (.cells cs 5))
theorem grow0 {W:World}{b n:Nat}{p:Value}(hn:n<=4194304):Cn p_ 115 [.pointer (some ⟨b,0,none⟩),.int .i64 (n:Int)] W [pt b (.cells #[p,.slice none 0 0] 121 (0,0))] (fun _:Nat × Nat=> .tuple #[])
  (fun r=>[pt b (.cells #[p,.slice (some ⟨r.1,0,none⟩) 0 r.2] 121 (0,0)),Sl 1 5 (some ⟨r.1,0,none⟩) r.2 0 []]):=by
 (refine Shp.cn (Sg.g_ Tryz.call115 Tryz.func115 (an:={drs:=[(0,.ofL [(0,1),(1,1),(2,1),(3,1),(4,1),(5,1),(6,1),(7,1),(9,2),(10,3),(11,3),(12,3),(13,3),(8,0),(14,1),(15,1)])]}) (os:=[(0,[(8,[13,12,11,10])])])) fun F=>?_;simp only[ca_,na_])
 refine e_drS (t_ v_nil (t_ v_fa0 (e_stS (v_ldN (.there .here)) (.pick .here .nil) ?_)))
 refine t_ v_capG ?_
 refine t_ (v_mul (by decide) (by decide)) ?_
 refine t_ (v_add (by omega) (by omega)) ?_
 refine e_stD v_nil .nil ?_
 refine e_stD v_fa0 .nil ?_
 refine e_stD (v_ldN (.there .here)) (.pick .here .nil) ?_
 refine e_stD v_len .nil ?_
 rw[show(2 * ((0:Nat):Int)+(n:Int))=((n:Nat):Int) by omega]
 refine e_mnz (by omega) fun g cs h1 h2=>?_
 refine e_obl im_ ?_
 refine e_obl im_ ?_
 refine e_obl im_ ?_
 refine e_obl im_ ?_
 refine t_ (v_slh0 0 rfl (Nat.zero_le _)) ?_
 refine o_ v_nil (o_ v_fa0 (p_op (v_ldN (.there .here)) ?_))
 refine o_ (v_copy0 rfl) ?_
 refine o_ v_nil (o_ v_fa0 (e_stN (.there .here) (.there .here) ?_))
 refine e_own0 (s:=1) (n:=cs.length) (.there .here) (by omega) h2 ?_
 refine rt_ ((g,cs.length)) ?_
 refine .pick (by repeat constructor) ?_
 exact im_
theorem grow1 {W:World}{b n:Nat}(hn:0<n)(hm:n<=4194304):Cn p_ 81 [.pointer (some ⟨b,0,none⟩),.int .i64 (n:Int)] W [pt b (.cells #[.pointer none,.slice none 0 0] 121 (0,0))] (fun _:Nat × Nat=> .tuple #[])
  (fun r=>[bd b (some ⟨r.1,0,none⟩,r.2) []]):=by
 (refine Shp.cn (Sg.g_ Tryz.call81 Tryz.func81 (an:={cuts:=[(3,[])],drs:=[(3,.ofL [(0,1),(1,1),(2,1),(3,1),(4,1),(5,1),(6,1),(7,1),(8,1),(9,1),(10,1),(11,1),(12,1)])]})) fun F=>?_;simp only[ca_,na_])
 refine e_call check0 (.cons .here .nil) fun _=>?_
 refine nr_ ?_
 refine e_cut0d ?_
 refine o_ v_lss ?_
 rw[dF_ (by omega)]
 refine e_condF (e_allds fun ds=>?_)
 refine e_drS (t_ v_nil (t_ v_fa0 (e_stS (v_ldN (.there .here)) (.pick .here .nil) ?_)))
 refine t_ v_capG ?_
 refine t_ v_nil (t_ v_fa0 (e_stS (v_ldN (.there .here)) (.pick .here .nil) ?_))
 refine t_ v_len (t_ (v_sub (by decide) (by decide)) ?_)
 refine t_ v_lss ?_
 rw[dT_ (by omega)]
 refine e_condT (e_call (grow0 hm) (.cons .here .nil) fun r=>?_)
 refine nr_ ?_
 refine e_retT r ?_
 unfold bd
 refine .all ?_
 refine nr_ ?_
 exact .refl
theorem writeStr {W:World}{b:Nat}{r:Option Addr × Nat}{l m:List UInt8}(hl:l.length+m.length<=16777216):Cn p_ 82 [.pointer (some ⟨b,0,none⟩),txt m] W [bd b r l] (fun _:Option Addr × Nat=> .tuple #[.int .i64 (m.length:Int),.nilIface]) (fun r'=>[bd b r' (l++m)]):=by
 (refine Shp.cn (Sg.g_ Tryz.call82 Tryz.func82) fun F=>?_;simp only[ca_,na_])
 unfold bd
 refine e_all .here ?_
 refine nr_ ?_
 refine e_call check1 (.cons .here .nil) fun _=>?_
 refine nr_ ?_
 refine o_ v_nil (o_ v_fa0 (e_opN (v_ldN (.there .here)) (.pick .here .nil) ?_))
 refine e_app (m:=m.length) (news:=m.map B) (by repeat constructor) (src_str (by kernel_rfl)) (by omega) (by omega) fun a' c'=>?_
 refine o_ v_nil (o_ v_fa0 (e_stN (.there .here) (.there .here) ?_))
 refine o_ v_lent (rt_ ((a',c')) ?_)
 refine .all ?_
 refine nr_ ?_
 rw[List.length_append,List.map_append]
 refine .pick (by repeat constructor) ?_
 exact im_
end Go.Proofs.YtndojgomlkpeaaaGreatDoor.FD
namespace Go.Proofs.YtndojgomlkpeaaaGreatDoor.FD
open Go Go.Proofs Go.RowKit Sh Sl T
def joinF (sep:List UInt8):List (List UInt8)->List UInt8
 |[]=>[]
 |v::r=>v++r.flatMap (fun w=>sep++w)
def sumL:List (List UInt8)->Nat
 |[]=>0
 |v::r=>v.length+sumL r
theorem sum_app (a b:List (List UInt8)):sumL (a++b)=sumL a+sumL b:=by
 induction a with
 |nil=>simp[sumL]
 |cons v r ih=>simp[sumL,ih];omega
theorem flat_sum (sep:List UInt8)(r:List (List UInt8)):(r.flatMap (fun w=>sep++w)).length=sumL r+sep.length * r.length:=by
 induction r with
 |nil=>simp[sumL]
 |cons v r ih=>
  rw[List.flatMap_cons,List.length_append,ih,sumL,List.length_append,List.length_cons,Nat.mul_add,Nat.mul_one]
  omega
theorem sum_take {V:List (List UInt8)}{i:Nat}(h:i<V.length):sumL (V.take (i+1))=sumL (V.take i)+V[i].length:=by
 rw[List.take_succ_eq_append_getElem h,sum_app]
 simp[sumL]
theorem sum_take_le (V:List (List UInt8))(i:Nat):sumL (V.take i)<=sumL V:=by
 have:=sum_app (V.take i) (V.drop i)
 rw[List.take_append_drop]at this;omega
theorem quo_big {k:Nat}(h1:1<=k)(h2:k<=4194304):16<9223372036854775807 / k:=by
 have:=Nat.div_le_div_left (a:=9223372036854775807) h2 (by omega)
 have e:9223372036854775807 / 4194304=2199023255551:=rfl
 omega
theorem join {W:World}{sep:List UInt8}{V:List (List UInt8)}{a:Option Addr}{c:Nat}(hs:0<sep.length)(hs2:sep.length<=16)(hV:(joinF sep V).length<=4194304)(hn:V.length<=4194304):
  Cn p_ 53 [.slice a V.length c,txt sep] W [Sl 1 9 a c V.length (V.map txt)] (fun _:Unit=>txt (joinF sep V)) (fun _=>[]):=by
 (refine Shp.cn (Sg.g_ Tryz.call53 Tryz.func53 (an:={cuts:=[(10,[]),(11,[5]),(16,[])],loops:=[(12,[5,41]),(22,[65])]})) fun F=>?_;simp only[ca_,na_])
 match V,hV,hn with
 |[],_,_=>
  refine o_ v_len (o_ v_eql ?_)
  rw[dT_ (by rfl)]
  refine e_condT (rt_ () ?_)
  exact im_
 |[v],_,_=>
  refine o_ v_len (o_ v_eql ?_)
  rw[dF_ (by simp)]
  refine e_condF (o_ v_eql ?_)
  rw[dT_ (by rfl)]
  refine e_condT (e_slsome (a:=a) .here (by simp) fun g hg=>?_)
  subst hg
  have ld:RunV p_ W [Sl 1 9 (some ⟨g,0,none⟩) c [v].length ([v].map txt)] (sLoad 9 (.pointer (some ⟨g,0+0,none⟩))) (txt v):=v_ldSl rfl
  refine o_ (v_ia1 0 rfl (by simp)) ?_
  refine p_op ld ?_
  refine e_ret () (by simp[joinF]) ?_
  exact im_
 |v::u::r,hV,hn=>
  have hjl:(joinF sep (v::u::r)).length=sumL (v::u::r)+sep.length * ((v::u::r).length-1):=by
   unfold joinF
   rw[List.length_append,flat_sum]
   simp only[sumL,List.length_cons,Nat.add_sub_cancel]
   omega
  obtain⟨V,hVe⟩:∃V,V=v::u::r:=⟨_,rfl⟩
  have h2:2<=V.length:=by rw[hVe];simp
  have hv0:V[0]? =some v:=by rw[hVe];rfl
  have hj0:joinF sep V=v++(V.drop 1).flatMap (fun w=>sep++w):=by rw[hVe];rfl
  rw[<- hVe]at hV hn hjl ⊢
  clear hVe
  have hq:=quo_big (k:=V.length-1) (by omega) (by omega)
  refine o_ v_len (o_ v_eql ?_)
  rw[dF_ (by omega)]
  refine e_condF (o_ v_eql ?_)
  rw[dF_ (by omega)]
  refine e_condF (e_slsome (a:=a) .here (by omega) fun g hg=>?_)
  subst hg
  refine e_slfacts .here fun f1 f2 f3 f4=>?_
  have ld:∀i (h:i<V.length),RunV p_ W [Sl 1 9 (some ⟨g,0,none⟩) c V.length (V.map txt)] (sLoad 9 (.pointer (some ⟨g,i,none⟩))) (txt V[i]):=fun i h=>v_ldSl (by rw[List.getElem?_map,List.getElem?_eq_getElem h];rfl)
  have hml:sep.length * (V.length-1)<=4194304:=by omega
  refine e_cut1 (fun z=>pu (z= .int .i64 ((sep.length * (V.length-1):Nat):Int))::Sl 1 9 (some ⟨g,0,none⟩) c V.length (V.map txt)::F) ?_ ?_
  rotate_left
  ·refine o_ v_lent (o_ v_gtr ?_)
   rw[dT_ (by omega)]
   refine e_condT (e_cut0d ?_)
   refine o_ v_lent (o_ v_len (sb_ ?_))
   rw[show((V.length:Nat):Int)-1=((V.length-1:Nat):Int) by omega]
   refine o_ (v_quo (by omega) (by omega) (by omega)) ?_
   refine o_ v_geq ?_
   rw[dF_ (by
    have e:(9223372036854775807:Int) / ((V.length-1:Nat):Int)=((9223372036854775807 / (V.length-1):Nat):Int):=rfl
    rw[e]
    omega)]
   refine e_condF (e_allds fun ds=>?_)
   refine o_ v_lent (o_ v_len (sb_ ?_))
   rw[show((V.length:Nat):Int)-1=((V.length-1:Nat):Int) by omega]
   have hm:((sep.length:Nat):Int) * ((V.length-1:Nat):Int)=((sep.length * (V.length-1):Nat):Int):=by push_cast;rfl
   refine o_ (v_mul (by rw[hm];omega) (by rw[hm];omega)) ?_
   rw[hm]
   refine ad_ ?_
   refine e_sat (.pu (by congr 1;push_cast;omega) ?_)
   exact .refl
  ·intro ds z
   refine e_pu .here fun hz=>?_
   subst hz
   refine o_ v_len ?_
   have hsum:sumL V+sep.length * (V.length-1)<=4194304:=by omega
   generalize hM:sep.length * (V.length-1)=M at hml hsum hjl ⊢
   have hMp:0<M:=by
    rw[<- hM]
    exact Nat.mul_pos hs (by omega)
   refine e_loop2 (fun m x y=>(ex fun i:Nat=>pu (m+i=V.length/\x= .int .i64 ((M+sumL (V.take i):Nat):Int)/\y= .int .i64 (i:Int)))::Sl 1 9 (some ⟨g,0,none⟩) c V.length (V.map txt)::F) V.length ?_ ?_
   ·exact .ex 0 (.pu ⟨rfl,rfl,rfl⟩ .refl)
   intro m ds2 x y
   refine e_ex .here fun i=>e_pu .here fun hi=>?_
   obtain⟨hmi,rfl,rfl⟩:=hi
   have hst:=sum_take_le V i
   refine e_ask v_lss .nil (fun h=>?_) (fun h=>?_)
   ·have hil:i<V.length:=by omega
    have hsu:=sum_take hil
    have hst2:=sum_take_le V (i+1)
    refine e_condT (o_ (v_ia1 i rfl hil) ?_)
    rw[Nat.zero_add]
    refine e_opN (ld i hil) (.pick .here .nil) ?_
    refine e_cut0d ?_
    refine o_ v_lent (sb_ ?_)
    refine o_ v_gtr ?_
    rw[dF_ (by omega)]
    refine e_condF (e_allds fun ds3=>?_)
    refine o_ v_lent (ad_ ?_)
    refine ad_ ?_
    exact e_next2 (m-1) (by omega) (.ex (i+1) (.pu ⟨by omega,by rw[hsu];congr 1;omega,rfl⟩ .refl))
   ·have hie:i=V.length:=by omega
    subst hie
    rw[List.take_length]
    refine e_condF (e_newA fun b=>?_)
    refine e_call (grow1 (n:=M+sumL V) (by omega) (by omega)) (.cons .here .nil) fun r=>?_
    refine nr_ ?_
    obtain⟨v',hv'⟩:∃v',v'=v:=⟨_,rfl⟩
    have hV0:V[0]'(by omega)=v:=by
     rw[List.getElem?_eq_getElem (by omega)]at hv0
     exact Option.some.inj hv0
    have hvl:v.length<=4194304:=by
     rw[hj0,List.length_append]at hV
     omega
    refine o_ (v_ia1 0 rfl (by omega)) ?_
    have ld0:=ld 0 (by omega)
    rw[hV0]at ld0
    refine p_op ld0 ?_
    refine e_call (writeStr (l:=[]) (m:=v) (by simp;omega)) (.cons .here .nil) fun r=>?_
    refine nr_ ?_
    refine o_ (v_sll 1 rfl (by omega)) ?_
    rw[if_neg (by omega),show(some (⟨g,0,none⟩:Addr)).map (·.add (1 * 1))=some ⟨g,1,none⟩ by simp[addr_add]]
    refine o_ v_len (e_loop1 (fun m y=>(ex fun st:Nat × Option Addr × Nat=>all [pu (m+st.1=V.length-1/\y= .int .i64 (st.1:Int)),bd b st.2 (v++((V.drop 1).take st.1).flatMap (fun w=>sep++w))])::Sl 1 9 (some ⟨g,0,none⟩) c V.length (V.map txt)::F) (V.length-1) ?_ ?_)
    ·refine .ex (0,r) (.all ?_)
     refine nr_ ?_
     refine .pu ⟨rfl,rfl⟩ ?_
     simp only[List.take_zero,List.flatMap_nil,List.append_nil]
     exact .refl
    intro m ds4 y
    refine e_ex .here fun st=>e_all .here ?_
    obtain⟨i,r⟩:=st
    refine nr_ ?_
    refine e_pu .here fun hi=>?_
    (try dsimp only at hi)
    obtain⟨hmi,rfl⟩:=hi
    have hfl:=flat_sum sep ((V.drop 1).take i)
    have hle:(v++((V.drop 1).take i).flatMap (fun w=>sep++w)).length<=4194304:=by
     have e:(V.drop 1).flatMap (fun w=>sep++w)=((V.drop 1).take i).flatMap (fun w=>sep++w)++((V.drop 1).drop i).flatMap (fun w=>sep++w):=by
      rw[<- List.flatMap_append,List.take_append_drop]
     rw[hj0,e,List.length_append,List.length_append]at hV
     rw[List.length_append]
     omega
    refine e_ask v_lss .nil (fun h=>?_) (fun h=>?_)
    ·have hil:i<V.length-1:=by omega
     have hwl:V[1+i]'(by omega)∈V:=List.getElem_mem _
     have htk:(V.drop 1).take (i+1)=(V.drop 1).take i++[V[1+i]'(by omega)]:=by
      rw[List.take_succ_eq_append_getElem (by rw[List.length_drop];omega),List.getElem_drop]
     have hle2:(v++((V.drop 1).take (i+1)).flatMap (fun w=>sep++w)).length<=4194304:=by
      have e:(V.drop 1).flatMap (fun w=>sep++w)=((V.drop 1).take (i+1)).flatMap (fun w=>sep++w)++((V.drop 1).drop (i+1)).flatMap (fun w=>sep++w):=by
       rw[<- List.flatMap_append,List.take_append_drop]
      rw[hj0,e,List.length_append,List.length_append]at hV
      rw[List.length_append]
      omega
     have hstep:v++((V.drop 1).take (i+1)).flatMap (fun w=>sep++w)=((v++((V.drop 1).take i).flatMap (fun w=>sep++w))++sep)++V[1+i]'(by omega):=by
      rw[htk,List.flatMap_append]
      simp
     rw[hstep,List.length_append,List.length_append]at hle2
     refine e_condT (o_ (v_ia1 i rfl hil) ?_)
     refine p_op (ld (1+i) (by omega)) ?_
     refine e_call (writeStr (by omega)) (.cons .here .nil) fun r1=>?_
     refine nr_ ?_
     refine e_call (writeStr (by rw[List.length_append];omega)) (.cons .here .nil) fun r2=>?_
     refine nr_ ?_
     refine ad_ ?_
     refine e_next1 (m-1) (by omega) (.ex (i+1,r2) (.all ?_))
     refine nr_ ?_
     refine .pu ⟨by(try dsimp only);omega,rfl⟩ ?_
     (try dsimp only)
     rw[hstep]
     exact .refl
    ·have hie:i=V.length-1:=by omega
     have ht:(V.drop 1).take i=V.drop 1:=List.take_of_length_le (by rw[List.length_drop];omega)
     rw[ht,<- hj0]
     refine e_condF ?_
     refine e_call (bdString (by
      intro e
      rw[e]at hjl
      simp at hjl
      omega)) (.cons .here .nil) fun _=>?_
     refine nr_ ?_
     refine rt_ () ?_
     exact im_
def noneF (names:List (List UInt8))(f:Fd):Bool:=!names.any (fun n=>eqlF f.1 n)
def withF (l:List Fd)(names:List (List UInt8)):List Fd:=l.filter (noneF names)
theorem with_take {l:List Fd}{N:List (List UInt8)}{i:Nat}(h:i<l.length):withF (l.take (i+1)) N=withF (l.take i) N++(if noneF N l[i]then [l[i]]else []):=by
 unfold withF
 rw[List.take_succ_eq_append_getElem h,List.filter_append]
 congr 1
 cases he:noneF N l[i] <;> simp[he]
theorem with_len (l:List Fd)(N:List (List UInt8)):(withF l N).length<=l.length:=List.length_filter_le _ _
end Go.Proofs.YtndojgomlkpeaaaGreatDoor.FD
namespace Go.Proofs.YtndojgomlkpeaaaGreatDoor.FD
open Go Go.Proofs Go.RowKit
theorem vals_app (a b:List Fd)(n:List UInt8):valsF (a++b) n=valsF a n++valsF b n:=by unfold valsF;rw[List.filter_append,List.map_append]
theorem vals_cons (f:Fd)(l:List Fd)(n:List UInt8):valsF (f::l) n=if eqlF f.1 n then f.2::valsF l n else valsF l n:=by
 unfold valsF
 rw[List.filter_cons]
 split <;> simp
theorem vals_none {l:List Fd}{n:List UInt8}(h:∀f∈l,eqlF f.1 n=false):valsF l n=[]:=by
 unfold valsF
 rw[List.filter_eq_nil_iff.2 (fun f hf=>by rw[h f hf];decide)];rfl
theorem eql_low {a m n:List UInt8}(h:lowF m=lowF n):eqlF a n=eqlF a m:=by
 have hl:m.length=n.length:=by have:=congrArg List.length h;simpa [lowF]using this
 unfold eqlF
 rw[h,hl]
theorem vals_with {l:List Fd}{N:List (List UInt8)}{m n:List UInt8}(hm:m∈N)(h:lowF m=lowF n):valsF (withF l N) n=[]:=vals_none fun f hf=>by
 have h2:=(List.mem_filter.1 hf).2
 rw[eql_low h]
 unfold noneF at h2
 cases he:eqlF f.1 m with
 |false=>rfl
 |true=>
  have:N.any (fun n=>eqlF f.1 n)=true:=List.any_eq_true.2 ⟨m,hm,he⟩
  rw[this]at h2;cases h2
def zF:List Fd->Nat
 |[]=>0
 |f::r=>f.1.length+f.2.length+3+zF r
theorem zF_cons (f:Fd)(r:List Fd):zF (f::r)=f.1.length+f.2.length+3+zF r:=rfl
theorem z_mem {l:List Fd}{f:Fd}(h:f∈l):f.1.length+f.2.length+3<=zF l:=by
 induction l with
 |nil=>cases h
 |cons g r ih=>
  unfold zF
  rcases List.mem_cons.1 h with rfl|h
  ·omega
  ·have:=ih h;omega
theorem z_len (l:List Fd):3 * l.length<=zF l:=by
 induction l with
 |nil=>simp[zF]
 |cons g r ih=>unfold zF;rw[List.length_cons];omega
theorem z_ok {l:List Fd}(h:zF l<=2097152):hOK l:=⟨by have:=z_len l;omega,fun f hf=>by have:=z_mem hf;omega⟩
theorem z_filter (p:Fd->Bool)(l:List Fd):zF (l.filter p)<=zF l:=by
 induction l with
 |nil=>simp[zF]
 |cons g r ih=>
  rw[List.filter_cons,zF_cons]
  split
  ·rw[zF_cons];omega
  ·omega
def zL:List (List UInt8)->Nat
 |[]=>0
 |v::r=>v.length+1+zL r
theorem zL_cons (v:List UInt8)(r:List (List UInt8)):zL (v::r)=v.length+1+zL r:=rfl
theorem zL_mem {l:List (List UInt8)}{v:List UInt8}(h:v∈l):v.length+1<=zL l:=by
 induction l with
 |nil=>cases h
 |cons g r ih=>
  unfold zL
  rcases List.mem_cons.1 h with rfl|h
  ·omega
  ·have:=ih h;omega
theorem zL_vals (l:List Fd)(n:List UInt8):zL (valsF l n)<=zF l:=by
 induction l with
 |nil=>simp[valsF,zL,zF]
 |cons g r ih=>
  rw[vals_cons,zF_cons]
  split
  ·rw[zL_cons];omega
  ·omega
end Go.Proofs.YtndojgomlkpeaaaGreatDoor.FD
namespace Go.Proofs.YtndojgomlkpeaaaGreatDoor.FD
open Go Go.Proofs Go.RowKit Sh Sl T
theorem none_take {N:List (List UInt8)}{f:Fd}{j:Nat}(h:j<N.length):noneF (N.take (j+1)) f=(noneF (N.take j) f&&!eqlF f.1 N[j]):=by
 unfold noneF
 rw[List.take_succ_eq_append_getElem h,List.any_append]
 simp
theorem txt_at {W:World}{A:HP}{g o n j:Nat}{N:List (List UInt8)}(hN:RdB W A (some ⟨g,o,none⟩) n (N.map txt))(h:j<N.length):RunV p_ W [A] (sLoad 9 (.pointer (some ⟨g,o+j,none⟩))) (txt N[j]):=
 v_ldRd hN (by rw[List.getElem?_map,List.getElem?_eq_getElem h];rfl)
theorem without {W:World}{l:List Fd}{N:List (List UInt8)}{a na:Option Addr}{c nc:Nat}{A NA:HP}(hA:RdF W A a l)(hl:hOK l)(hN:RdB W NA na N.length (N.map txt))(hn:∀n∈N,n.length<=4194304)(hNl:N.length<=1099511627776):
  Cn p_ 51 [.slice a l.length c,.slice na N.length nc] W [A,NA] (fun r:Option Addr × Nat=> .slice r.1 (withF l N).length r.2)
  (fun r=>[A,NA,Sl 2 52 r.1 r.2 (withF l N).length ((withF l N).flatMap pFd)]):=by
 (refine Shp.cn (Sg.g_ Tryz.call51 Tryz.func51 (an:={loops:=[(3,[5,12]),(6,[18])]})) fun F=>?_;simp only[ca_,na_])
 refine o_ v_len (e_loop2 (fun m x y=>[ex fun st:(Option Addr × Nat) × Nat=>all [pu (m+st.2=l.length/\x= .slice st.1.1 (withF (l.take st.2) N).length st.1.2/\y= .int .i64 (st.2:Int)),Sl 2 52 st.1.1 st.1.2 (withF (l.take st.2) N).length ((withF (l.take st.2) N).flatMap pFd),A,NA]]++F) l.length ?_ ?_)
 ·refine Imp.ex ((none,0),0) (.all ?_)
  refine nr_ ?_
  refine .pu ⟨rfl,rfl,rfl⟩ ?_
  exact imp_nil .refl
 intro m ds x y
 refine nr_ ?_
 refine e_ex Pick.here fun st=>e_all Pick.here ?_
 obtain⟨⟨sa,sc⟩,i⟩:=st
 refine nr_ ?_
 refine e_pu Pick.here fun hi=>?_
 (try dsimp only at hi)
 obtain⟨hmi,rfl,rfl⟩:=hi
 refine e_ask v_lss .nil (fun h=>?_) (fun h=>?_)
 ·have hil:i<l.length:=by omega
  have hb:=hl.2 _ (List.getElem_mem hil)
  have hv:=with_take (N:=N) hil
  have hvl:=with_len (l.take i) N
  have hl1:=hl.1
  rw[List.length_take]at hvl
  refine e_condT ?_
  obtain⟨g,o,rfl⟩:=rdF_at hA (Nat.zero_lt_of_lt hil)
  refine o_ (v_ia i rfl hil) ?_
  refine p_op (ld_fdA hA hil) ?_
  generalize l[i]=f at hb hv ⊢
  unfold vFd
  refine e_newA fun b7=>?_
  refine e_stAgg .here (by rfl) (by rfl) (by intro u hu;simp at hu;rcases hu with rfl|rfl <;> rfl) ?_
  refine o_ v_len (e_loop1 (fun k y=>pu (∃j:Nat,k+j=N.length/\y= .int .i64 (j:Int)/\noneF (N.take j) f=true)::pt b7 (.cells #[txt f.1,txt f.2] 52)::Sl 2 52 sa sc (withF (l.take i) N).length ((withF (l.take i) N).flatMap pFd)::A::NA::F) N.length ?_ ?_)
  ·refine .pu ⟨0,rfl,rfl,by simp[noneF]⟩ ?_
   exact im_
  intro k ds2 y
  refine e_pu .here fun hj=>?_
  obtain⟨j,hkj,rfl,hno⟩:=hj
  refine e_ask v_lss .nil (fun h2=>?_) (fun h2=>?_)
  ·have hjl:j<N.length:=by omega
   have hnl:=hn _ (List.getElem_mem hjl)
   have hnt:=none_take (f:=f) hjl
   refine e_condT ?_
   obtain⟨ng,no,rfl,_⟩:=hN.at_ (by omega)
   refine o_ (v_ia1 j rfl hjl) ?_
   refine p_op (txt_at hN hjl) ?_
   refine o_ v_fa0 (ln_ ?_)
   refine e_call (equal (a:=f.1) (b:=N[j]) (by omega) (by omega)) .nil fun _=>?_
   refine nr_ ?_
   cases he:eqlF f.1 N[j]with
   |true=>
    refine e_condT (ad_ ?_)
    have hbad:noneF N f=false:=by
     unfold noneF
     rw[List.any_eq_true.2 ⟨_,List.getElem_mem hjl,he⟩];rfl
    rw[hbad,if_neg (by decide),List.append_nil]at hv
    refine e_next2 (m-1) (by omega) (.ex ((sa,sc),i+1) (.all ?_))
    refine nr_ ?_
    (try dsimp only)
    rw[hv]
    refine .pu ⟨by omega,rfl,by norm_cast⟩ ?_
    exact im_
   |false=>
    refine e_condF (ad_ ?_)
    refine e_next1 (k-1) (by omega) (.pu ⟨j+1,by omega,by norm_cast,by rw[hnt,hno,he];rfl⟩ ?_)
    exact im_
  ·have hjl:j=N.length:=by omega
   subst hjl
   rw[List.take_length]at hno
   rw[hno,if_pos rfl]at hv
   refine e_condF (lg_ ?_)
   refine e_bslS (n:=1) (vs:=[vFd f]) rfl (by omega) rfl (by intro v hv;rw[List.mem_singleton.1 hv];rfl) (by omega) fun gb=>?_
   refine e_app (m:=1) (news:=pFd f) (by(repeat constructor):Pick _ (Sl 2 52 sa sc (withF (l.take i) N).length ((withF (l.take i) N).flatMap pFd)) _) (src_pt (s:=2) (e':=52) (by kernel_rfl) .here (by rfl) (by intro u hu;simp[vFd,Value.cells]at hu;rcases hu with rfl|rfl <;> rfl)) (by omega) (by omega) fun a' c'=>?_
   refine ad_ ?_
   refine e_next2 (m-1) (by omega) (.ex ((a',c'),i+1) (.all ?_))
   refine nr_ ?_
   (try dsimp only)
   rw[hv,List.length_append,List.flatMap_append,List.length_singleton,List.flatMap_cons,List.flatMap_nil,List.append_nil]
   refine .pu ⟨by omega,rfl,by norm_cast⟩ ?_
   exact im_
 ·have:i=l.length:=by omega
  subst this
  rw[List.take_length]
  refine e_condF (rt_ ((sa,sc)) ?_)
  exact im_
end Go.Proofs.YtndojgomlkpeaaaGreatDoor.FD
namespace Go.Proofs.YtndojgomlkpeaaaGreatDoor.FD
theorem mid_q (s:List UInt8):mid (34::s++[34])=s:=by
 unfold mid sub
 simp
theorem tag_back (weak:Bool)(s:List UInt8):tagF (tagT (weak,s))=if s.any badT then((false,[]),false)else((weak,s),true):=by
 have hv:tagV (tagT (weak,s))=34::s++[34]:=by cases weak <;> simp[tagV,tagT,weakF]
 have hw:weakF (tagT (weak,s))=weak:=by
  cases weak
  ·cases s <;> simp[tagT,weakF]
  ·rfl
 unfold tagF
 rw[hv,hw,mid_q]
 have ho:tagOk (34::s++[34])= !s.any badT:=by
  unfold tagOk
  rw[mid_q]
  have:(2<=(34::s++[34]).length/\(34::s++[34])[0]? =some (34:UInt8)/\(34::s++[34])[(34::s++[34]).length-1]? =some (34:UInt8)):=by
   refine⟨by simp,by simp,?_⟩
   simp[List.getElem?_append]
  simp[this]
 rw[ho]
 cases s.any badT <;> simp
end Go.Proofs.YtndojgomlkpeaaaGreatDoor.FD
namespace Go.Proofs.YtndojgomlkpeaaaGreatDoor.FD
open Go Go.Proofs Go.RowKit Sh Sl T
theorem badT_i (c:UInt8):badT c=(decide ((c.toNat:Int)<=32)||decide (c=34)||decide (c=127)):=by
 have e:decide ((c.toNat:Int)<=32)=decide (c<=32):=by
  rw[decide_eq_decide,UInt8.le_iff_toNat_le]
  simp only[show(32:UInt8).toNat=32 from rfl]
  omega
 rw[e]
 unfold badT
 by_cases h1:c<=32 <;> by_cases h2:c=34 <;> by_cases h3:c=127 <;> simp[h1,h2,h3]
theorem tagV_len (l:List UInt8):(tagV l).length<=l.length:=by
 unfold tagV
 split
 ·simp
 ·exact Nat.le_refl _
theorem tag {W:World}{l:List UInt8}(hl:l.length<=4611686018427387904):Cn p_ 45 [txt l] W [] (fun _:Unit=> .tuple #[vTag (tagF l).1,.bool (tagF l).2]) (fun _=>[]):=by
 have hvl:=tagV_len l
 have bad:tagOk (tagV l)=false->tagF l=((false,[]),false):=fun h=>by unfold tagF;rw[h];rfl
 (refine Shp.cn (Sg.g_ Tryz.call45 Tryz.func45 (an:={loops:=[(6,[38])]})) fun F=>?_;simp only[ca_,na_])
 refine e_newA fun b2=>?_
 refine c_ (cutPre hl) fun _=>?_
 refine o_ (v_extN (vs:=[_,_]) .here) ?_
 refine o_ (v_extN (vs:=[_,_]) (.there .here)) ?_
 obtain⟨v,hv⟩:∃v,v=tagV l:=⟨_,rfl⟩
 rw[<- hv]at hvl bad ⊢
 refine o_ v_lent (o_ v_lss ?_)
 by_cases h2:v.length<2
 ·have hno:tagOk v=false:=by
   unfold tagOk
   rw[dF_ (fun c=>by omega)];rfl
  rw[bad hno,dT_ (by omega)]
  refine e_gdF1 (e_gdF1 (e_gdF1 (o_ v_pickT (e_gdF1 (e_gdF1 (e_gdF1 (e_gdF1 (e_gdF1 (e_gdF1 (o_ v_pickT (e_condT (o_ v_rv ?_))))))))))));refine sg_ ?_;(((refine' e_stS (v_resA ?hn) ?hi ?_);(case hi=>exact im_);(case hn=>rfl)))
  refine rt_ () ?_
  exact im_
 ·rw[dF_ (by omega)]
  refine e_or2 (fun _=>v_ixS (l:=v) 0 rfl (by omega)) (fun _=>B_ne 34 rfl) ?_
  rw[Bool.false_or]
  by_cases h3:v[0]'(by omega)=34
  ·rw[dF_ (fun c=>c h3)]
   refine e_gdT (e_gdT (e_gdT (o_ v_lent (e_gdT (sb_ ?_)))));refine e_gdT (o_ (v_ixS (v.length-1) (by omega) (by omega)) ?_)
   refine e_gdT (o_ (B_ne 34 rfl) ?_)
   refine o_ v_pickF ?_
   by_cases h4:v[v.length-1]'(by omega)=34
   ·rw[dF_ (fun c=>c h4)]
    have hok:tagOk v= !(mid v).any badT:=by
     unfold tagOk
     rw[dT_ ⟨by omega,by rw[List.getElem?_eq_getElem (by omega),h3],by rw[List.getElem?_eq_getElem (by omega),h4]⟩,Bool.true_and]
    refine e_condF (o_ v_lent (sb_ ?_))
    refine o_ (v_sslh 1 (v.length-1) rfl (by omega) (by omega) (by omega)) ?_
    rw[show sub v 1 (v.length-1)=mid v from rfl]
    have hml:(mid v).length<=v.length:=by simp[mid,sub];omega
    refine e_sbytesF Tryz.underlying23 Tryz.underlying5 fun g c rest=>?_
    refine o_ v_len (e_loop1 (fun m y=>[ex fun i:Nat=>all [pu (m+i=(mid v).length/\y= .int .i64 (i:Int)/\(mid v).any badT=((mid v).drop i).any badT),pt g (.cells ((mid v).map B++rest).toArray 5 ((mid v).length+rest.length,(mid v).length+rest.length+1)),pt b2 (.cells #[.bool false,.string ⟨#[]⟩] 48 (0,0))]]++F) (mid v).length ?_ ?_)
    ·refine Imp.ex 0 (.all ?_)
     refine nr_ ?_
     exact .pu ⟨by omega,rfl,rfl⟩ .refl
    intro m ds y
    refine nr_ ?_
    refine e_ex Pick.here fun i=>e_all Pick.here ?_
    refine nr_ ?_
    refine e_pu Pick.here fun hi=>?_
    obtain⟨hmi,rfl,hany⟩:=hi
    refine e_ask v_lss .nil (fun h=>?_) (fun h=>?_)
    ·have hil:i<(mid v).length:=by omega
     rw[dr hil,List.any_cons]at hany
     refine e_condT (o_ (v_ia1 i rfl hil) ?_)
     rw[Nat.zero_add]
     refine e_opN (v_ld (v:=B (mid v)[i]) (by simp[List.getElem?_append,hil])) (.pick .here .nil) ?_
     refine o_ (v_leq (q:= .u8) (a:=((mid v)[i].toNat:Int)) (b:=32)) ?_
     refine e_or1 (fun _=>B_eq 34 rfl) ?_
     refine e_or1 (fun _=>B_eq 127 rfl) ?_
     rw[<- badT_i]
     cases hb:badT (mid v)[i]with
     |true=>
      rw[hb,Bool.true_or]at hany
      rw[hany]at hok
      rw[bad hok]
      refine e_condT (o_ v_rv ?_);refine sg_ ?_;(((refine' e_stS (v_resA ?hn) ?hi ?_);(case hi=>exact im_);(case hn=>rfl)))
      refine rt_ () ?_
      exact im_
     |false=>
      rw[hb,Bool.false_or]at hany
      refine e_condF (ad_ ?_)
      refine e_next1 (m-1) (by omega) (.ex (i+1) (.all ?_))
      refine nr_ ?_
      exact .pu ⟨by omega,rfl,hany⟩ .refl
    ·rw[List.drop_of_length_le (by omega),List.any_nil]at hany
     rw[hany]at hok
     have e:tagF l=((weakF l,mid v),true):=by
      unfold tagF
      rw[<- hv,hok];rfl
     rw[e]
     refine e_condF (o_ v_rv ?_);refine sg_ ?_;(((refine' e_stS (v_resA ?hn) ?hi ?_);(case hi=>exact im_);(case hn=>rfl)))
     refine rt_ () ?_
     exact im_
   ·have hno:tagOk v=false:=by
     unfold tagOk
     rw[dF_ (fun c=>h4 (by have:=c.2.2;rw[List.getElem?_eq_getElem (by omega)]at this;exact Option.some.inj this))];rfl
    rw[bad hno,dT_ h4]
    refine e_condT (o_ v_rv ?_);refine sg_ ?_;(((refine' e_stS (v_resA ?hn) ?hi ?_);(case hi=>exact im_);(case hn=>rfl)))
    refine rt_ () ?_
    exact im_
  ·have hno:tagOk v=false:=by
    unfold tagOk
    rw[dF_ (fun c=>h3 (by have:=c.2.1;rw[List.getElem?_eq_getElem (by omega)]at this;exact Option.some.inj this))];rfl
   rw[bad hno,dT_ h3]
   refine e_gdF1 (e_gdF1 (e_gdF1 (e_gdF1 (e_gdF1 (e_gdF1 (o_ v_pickT (e_condT (o_ v_rv ?_))))))));refine sg_ ?_;(((refine' e_stS (v_resA ?hn) ?hi ?_);(case hi=>exact im_);(case hn=>rfl)))
   refine rt_ () ?_
   exact im_
theorem parseTag {W:World}{l:List UInt8}(hl:l.length<=4611686018427387904):Cn p_ 21 [txt l] W [] (fun _:Unit=> .tuple #[vTag (tagF l).1,.int .i64 (if(tagF l).2 then 0 else 42)]) (fun _=>[]):=by
 have hbad:(tagF l).2=false->(tagF l).1=(false,[]):=by
  unfold tagF
  split
  ·intro h;cases h
  ·intro _;rfl
 (refine Shp.cn (Sg.g_ Tryz.call21 Tryz.func21) fun F=>?_;simp only[ca_,na_])
 refine e_newA fun b2=>?_
 refine c_ (tag hl) fun _=>?_
 refine o_ (v_extN (vs:=[_,_]) .here) ?_
 refine o_ (v_extN (vs:=[_,_]) (.there .here)) ?_
 refine e_newA fun b4=>?_
 unfold vTag
 cases h:(tagF l).2 with
 |true=>
  refine sg_ ?_;refine o_ v_notT (e_condF (lg_ ?_));refine sg_ ?_;(((refine' e_stS (v_resA ?hn) ?hi ?_);(case hi=>exact im_);(case hn=>rfl)))
  refine rt_ () ?_
  exact im_
 |false=>
  rw[hbad h]
  refine sg_ ?_;refine o_ v_notF (e_condT (o_ v_rv ?_));refine sg_ ?_;(((refine' e_stS (v_resA ?hn) ?hi ?_);(case hi=>exact im_);(case hn=>rfl)))
  refine rt_ () ?_
  exact im_
theorem tagText {W:World}{x:Bool × List UInt8}(hl:x.2.length<=4611686018427387904):Cn p_ 52 [vTag x] W [] (fun _:Unit=>txt (tagT x)) (fun _=>[]):=by
 (refine Shp.cn (Sg.g_ Tryz.call52 Tryz.func52 (an:={cuts:=[(4,[3])]})) fun F=>?_;simp only[ca_,na_])
 unfold vTag
 refine e_boxA fun b1=>?_
 refine e_cut1 (fun z=>pu (z=txt (if x.1 then [87,47]else []))::pt b1 (.cells #[.bool x.1,txt x.2] 48 (0,0))::F) ?_ ?_
 ·intro ds z
  refine e_pu .here fun hz=>?_
  subst hz
  have hw:((if x.1 then [87,47]else []):List UInt8).length<=2:=by cases x.1 <;> simp
  refine o_ (v_cat (b:=[34]) (by simp;omega)) ?_
  refine o_ v_fa0 (ln_ ?_)
  refine o_ (v_cat (by simp;omega)) ?_
  refine o_ (v_cat (b:=[34]) (by simp;omega)) ?_
  refine e_ret () (by unfold tagT;simp) ?_
  exact im_
 ·(refine o_ v_fa0 ?_);refine ln_ ?_
  cases hx:x.1 with
  |true=>
   refine e_condT (e_sat (.pu rfl ?_))
   exact .refl
  |false=>
   refine e_condF (e_sat (.pu rfl ?_))
   exact .refl
theorem badQ_i (c:UInt8):badQ c=((decide ((c.toNat:Int)<32)&&decide (c≠9))||decide (c=127)):=by
 have e:decide ((c.toNat:Int)<32)=decide (c<32):=by
  rw[decide_eq_decide,UInt8.lt_iff_toNat_lt]
  simp only[show(32:UInt8).toNat=32 from rfl]
  omega
 rw[e]
 unfold badQ
 by_cases h1:c<32 <;> by_cases h2:c=9 <;> by_cases h3:c=127 <;> simp[h1,h2,h3]
theorem nn_none {a:Option Addr}{n:Nat}(h:0<n->∃g,a=some ⟨g,0,none⟩):a=none->n=0:=fun e=>by
 rcases Nat.eq_zero_or_pos n with c|c
 ·exact c
 ·obtain⟨g,hg⟩:=h c
  rw[e]at hg;cases hg
theorem unqF_at {l:List UInt8}(h:0<l.length):unqF l=if l[0]=34 then unqL [] (l.drop 1)else([],false):=by
 cases l with
 |nil=>simp at h
 |cons c r=>rfl
theorem unquote {W:World}{l:List UInt8}(hl:l.length<=4194304):Cn p_ 97 [txt l] W [] (fun _:Unit=> .tuple #[txt (unqF l).1,.bool (unqF l).2]) (fun _=>[]):=by
 (refine Shp.cn (Sg.g_ Tryz.call97 Tryz.func97 (an:={cuts:=[(15,[5,6])],loops:=[(5,[4,5])]})) fun F=>?_;simp only[ca_,na_])
 refine o_ v_lent (o_ v_lss ?_)
 have e0:(Value.string ⟨#[]⟩)=txt []:=rfl
 rw[e0]
 by_cases h2:l.length<2
 ·have hno:unqF l=([],false):=by
   match l,h2 with
   |[],_=>rfl
   |[c],_=>
    show(if c=34 then unqL [] []else([],false))=([],false)
    split <;> rfl
   |_::_::_,h=>exact absurd h (by simp)
  rw[hno,dT_ (by omega)]
  refine e_gdF1 (e_gdF1 (e_gdF1 (o_ v_pickT (e_condT (rt_ () ?_)))))
  exact im_
 ·rw[dF_ (by omega)]
  refine e_or2 (fun _=>v_ixS (l:=l) 0 rfl (by omega)) (fun _=>B_ne 34 rfl) ?_
  rw[Bool.false_or]
  by_cases h3:l[0]'(by omega)=34
  ·rw[dF_ (fun c=>c h3)]
   have hu:unqF l=unqL [] (l.drop 1):=by rw[unqF_at (by omega),if_pos h3]
   rw[hu]
   refine e_condF (e_loop2 (fun m x y=>[ex fun st:(List UInt8 × Option Addr × Nat) × Nat=>all [pu (m+st.2=l.length+1/\st.2<=l.length/\x= .slice st.1.2.1 st.1.1.length st.1.2.2/\y= .int .i64 (st.2:Int)/\st.1.1.length<=st.2/\unqL [] (l.drop 1)=unqL st.1.1 (l.drop st.2)),Sl 1 5 st.1.2.1 st.1.2.2 st.1.1.length (st.1.1.map B)]]++F) l.length ?_ ?_)
   ·refine Imp.ex (([],none,0),1) (.all ?_)
    refine nr_ ?_
    refine .pu ⟨rfl,by(try dsimp only);omega,rfl,rfl,by simp,rfl⟩ ?_
    exact imp_nil .refl
   intro m ds x y
   refine nr_ ?_
   refine e_ex Pick.here fun st=>e_all Pick.here ?_
   obtain⟨⟨acc,sa,sc⟩,i⟩:=st
   refine nr_ ?_
   refine e_pu Pick.here fun hi=>?_
   (try dsimp only at hi)
   obtain⟨hmi,hil,rfl,rfl,hac,hun⟩:=hi
   refine o_ v_lent (e_ask v_lss .nil (fun h=>?_) (fun h=>?_))
   rotate_left
   ·have hie:i=l.length:=by omega
    rw[show l.drop i=[]from List.drop_of_length_le (by omega)]at hun
    have hun:unqL [] (l.drop 1)=([],false):=by rw[hun];rfl
    rw[hun]
    refine e_condF (rt_ () ?_)
    exact im_
   have hlt:i<l.length:=by omega
   rw[dr hlt,unqL_cons]at hun
   refine e_condT (o_ (v_ixS i rfl hlt) ?_)
   refine e_cut2 (fun z5 z6=>(ex fun st:Nat × UInt8=>pu (z5= .int .i64 (st.1:Int)/\z6=B st.2/\i<=st.1/\st.1<l.length/\unqL [] (l.drop 1)=if badQ st.2 then([],false)else unqL (acc++[st.2]) (l.drop (st.1+1))))::Sl 1 5 sa sc acc.length (acc.map B)::F) ?_ ?_
   ·intro ds2 z5 z6
    refine e_ex .here fun st=>e_pu .here fun hz=>?_
    obtain⟨j,d⟩:=st
    (try dsimp only at hz)
    obtain⟨rfl,rfl,hij,hjl,hun2⟩:=hz
    refine o_ (v_lss (q:= .u8) (a:=(d.toNat:Int)) (b:=32)) ?_
    refine e_and (fun _=>B_ne 9 rfl) ?_
    refine e_or1 (fun _=>B_eq 127 rfl) ?_
    rw[<- badQ_i]
    cases hb:badQ d with
    |true=>
     rw[hb,if_pos rfl]at hun2
     rw[hun2]
     refine e_condT (rt_ () ?_)
     exact im_
    |false=>
     rw[hb,if_neg (by decide)]at hun2
     refine e_condF (e_bsl1 fun gb=>?_)
     refine e_app (m:=1) (news:=[B d]) (by repeat constructor) (src_pt (e':=5) (by kernel_rfl) .here (by rfl) (by intro u hu;rw[List.mem_singleton.1 hu];rfl)) (by omega) (by omega) fun a' c'=>?_
     refine ad_ ?_
     refine e_next2 (m-(j+1-i)) (by omega) (.ex ((acc++[d],a',c'),j+1) (.all ?_))
     refine nr_ ?_
     refine .pu ⟨by(try dsimp only);omega,by(try dsimp only);omega,by simp,rfl,by simp;omega,hun2⟩ ?_
     rw[List.length_append,List.map_append]
     simp only[List.length_singleton,List.map_cons,List.map_nil]
     exact im_
   ·refine o_ (B_eq 34 rfl) ?_
    by_cases h34:l[i]=34
    ·rw[dT_ h34]
     rw[if_pos h34]at hun
     rw[hun]
     refine e_condT (e_slfacts .here fun f1 f2 f3 f4=>?_)
     refine e_opN (v_str (l:=acc) (rd_sl (by simp) f4) (nn_none f4)) (.pick .here .nil) ?_
     refine ad_ ?_
     refine o_ v_lent (o_ v_eql ?_)
     have e:decide ((i:Int)+1=(l.length:Int))=(l.drop (i+1)).isEmpty:=by
      rw[Bool.eq_iff_iff]
      simp only[decide_eq_true_iff,List.isEmpty_iff,List.drop_eq_nil_iff]
      omega
     rw[e]
     refine rt_ () ?_
     exact im_
    ·rw[dF_ h34]
     rw[if_neg h34]at hun
     refine e_condF (o_ (B_eq 92 rfl) ?_)
     by_cases h92:l[i]=92
     ·rw[dT_ h92]
      rw[if_pos h92]at hun
      refine e_condT (ad_ ?_)
      refine o_ v_lent (e_ask v_eql .nil (fun h5=>?_) (fun h5=>?_))
      ·rw[show l.drop (i+1)=[]from List.drop_of_length_le (by omega)]at hun
       simp only at hun
       rw[hun]
       refine e_condT (rt_ () ?_)
       exact im_
      ·have hi1:i+1<l.length:=by omega
       rw[dr hi1]at hun
       simp only at hun
       refine e_condF (o_ (v_ixS (i+1) rfl hi1) ?_)
       refine e_sat (.ex (i+1,l[i+1]) (.pu ⟨rfl,rfl,by(try dsimp only);omega,hi1,hun⟩ .refl))
     ·rw[dF_ h92]
      rw[if_neg h92]at hun
      refine e_condF (e_sat (.ex (i,l[i]) (.pu ⟨rfl,rfl,Nat.le_refl _,hlt,hun⟩ .refl)))
  ·rw[dT_ h3]
   have hno:unqF l=([],false):=by rw[unqF_at (by omega),if_neg h3]
   rw[hno]
   refine e_condT (rt_ () ?_)
   exact im_
theorem choices {W:World}[hG:Gl W]{l:List UInt8}(hl:l.length<=2097152):Cn p_ 35 [txt l] W [] (fun r:Option Addr × Nat=> .tuple #[.slice r.1 (lsF (choicesF l)).1.length r.2,.int .i64 (lsF (choicesF l)).2])
  (fun r=>[Sl 2 67 r.1 r.2 (lsF (choicesF l)).1.length ((lsF (choicesF l)).1.flatMap pChoice)]):=by
 (refine Shp.cn (Sg.g_ Tryz.call35 Tryz.func35) fun F=>?_;simp only[ca_,na_])
 refine o_ v_rv ?_
 refine e_call (list_Choice hl fun w hw=>choice (by omega)) .nil fun r=>?_
 refine nr_ ?_
 refine o_ (v_extN (vs:=[_,_]) .here) ?_
 refine o_ (v_extN (vs:=[_,_]) (.there .here)) ?_
 refine rt_ r ?_
 exact .refl
theorem directive {W:World}{l:List UInt8}(hl:l.length<=4194304):Cn p_ 62 [txt l] W [] (fun _:Unit=> .tuple #[vDir (dirF l).1,.bool (dirF l).2]) (fun _=>[]):=by
 have hA:=cutA_len (c:=61) l
 have hB:=cutB_len (c:=61) l
 (refine Shp.cn (Sg.g_ Tryz.call62 Tryz.func62) fun F=>?_;simp only[ca_,na_])
 refine e_newA fun b2=>?_
 refine c_ (cut_ (c:=61) (l:=l) (by omega)) fun _=>?_
 refine o_ (v_extN (vs:=[_,_,_]) .here) ?_
 refine o_ (v_extN (vs:=[_,_,_]) (.there .here)) ?_
 refine o_ (v_extN (vs:=[_,_,_]) (.there (.there .here))) ?_
 refine o_ v_fa0 (sn_ ?_);refine o_ v_fa0 (sn_ ?_);refine o_ v_fa0 (sn_ ?_);refine o_ v_fa0 (ln_ ?_)
 refine c_ (token (l:=cutA 61 l) (by omega)) fun _=>?_
 refine o_ v_fa0 (ln_ ?_)
 refine c_ (lower (l:=cutA 61 l) (by omega)) fun _=>?_
 refine o_ v_fa0 (sn_ ?_);refine o_ v_fa0 (ln_ ?_)
 cases hs:cutS 61 l with
 |false=>
  have e:dirF l=(⟨lowF (cutA 61 l),cutB 61 l,false⟩,tokF (cutA 61 l)):=by unfold dirF;rw[hs];rfl
  rw[e]
  refine e_gdF2 (e_gdF2 (e_gdF2 (e_gdF2 (o_ v_pickF (e_condF (lg_ ?_))))));refine sg_ ?_;(((refine' e_stS (v_resA ?hn) ?hi ?_);(case hi=>exact im_);(case hn=>rfl)))
  refine rt_ () ?_
  exact im_
 |true=>
  refine e_gdT (o_ v_fa0 (e_gdT (ln_ ?_)));refine e_gdT (c_ (token (l:=cutB 61 l) (by omega)) fun _=>?_)
  refine e_gdT (o_ v_not (o_ v_pickT ?_))
  cases ht:tokF (cutB 61 l)with
  |true=>
   have e:dirF l=(⟨lowF (cutA 61 l),cutB 61 l,true⟩,tokF (cutA 61 l)):=by unfold dirF;rw[hs,ht];rfl
   rw[e,show(!true)=false from rfl]
   refine e_condF (lg_ ?_);refine sg_ ?_;(((refine' e_stS (v_resA ?hn) ?hi ?_);(case hi=>exact im_);(case hn=>rfl)))
   refine rt_ () ?_
   exact im_
  |false=>
   have e:dirF l=(⟨lowF (cutA 61 l),(unqF (cutB 61 l)).1,true⟩,tokF (cutA 61 l)&&(unqF (cutB 61 l)).2):=by unfold dirF;rw[hs,ht];rfl
   rw[e,show(!false)=true from rfl]
   refine e_condT (o_ v_fa0 (ln_ ?_))
   refine c_ (unquote (l:=cutB 61 l) (by omega)) fun _=>?_
   refine xt_ ?_;refine xt_ ?_;refine o_ v_fa0 (sn_ ?_)
   refine e_and0 ?_
   refine lg_ ?_;refine sg_ ?_;(((refine' e_stS (v_resA ?hn) ?hi ?_);(case hi=>exact im_);(case hn=>rfl)))
   refine rt_ () ?_
   exact im_
theorem directives {W:World}{l:List UInt8}(hl:l.length<=2097152):Cn p_ 43 [txt l] W [] (fun r:Option Addr × Nat=> .tuple #[.slice r.1 (lsF (dirsF l)).1.length r.2,.int .i64 (lsF (dirsF l)).2])
  (fun r=>[Sl 3 78 r.1 r.2 (lsF (dirsF l)).1.length ((lsF (dirsF l)).1.flatMap pDir)]):=by
 (refine Shp.cn (Sg.g_ Tryz.call43 Tryz.func43) fun F=>?_;simp only[ca_,na_])
 refine o_ v_rv ?_
 refine e_call (list_Dir hl fun w hw=>directive (by omega)) .nil fun r=>?_
 refine nr_ ?_
 refine o_ (v_extN (vs:=[_,_]) .here) ?_
 refine o_ (v_extN (vs:=[_,_]) (.there .here)) ?_
 refine rt_ r ?_
 exact .refl
theorem ld_choice {W:World}{xs:List (List UInt8 × Int)}{i n g c:Nat}(h:i<xs.length)(hn:n=xs.length):RunV p_ W [Sl 2 67 (some ⟨g,0,none⟩) c n (xs.flatMap pChoice)] (sLoad 67 (.pointer (some ⟨g,0+i * 2,none⟩))) (vChoice xs[i]):=by
 subst hn
 exact v_ldRdG (vs:=pChoice xs[i]) (rd_slG (flat_len (f:=pChoice) (s:=2) (fun _=>rfl) xs) (fun _=>⟨g,rfl⟩)) rfl (fun j hj=>flat_get (f:=pChoice) (s:=2) (fun _=>rfl) xs i j h hj)
theorem ld_dir {W:World}{xs:List Dir}{i n g c:Nat}(h:i<xs.length)(hn:n=xs.length):RunV p_ W [Sl 3 78 (some ⟨g,0,none⟩) c n (xs.flatMap pDir)] (sLoad 78 (.pointer (some ⟨g,0+i * 3,none⟩))) (vDir xs[i]):=by
 subst hn
 exact v_ldRdG (vs:=pDir xs[i]) (rd_slG (flat_len (f:=pDir) (s:=3) (fun _=>rfl) xs) (fun _=>⟨g,rfl⟩)) rfl (fun j hj=>flat_get (f:=pDir) (s:=3) (fun _=>rfl) xs i j h hj)
def splF (c:UInt8):Nat->List UInt8->List (List UInt8)
 |0,_=>[]
 |f+1,l=>if l=[]then []else if trimB (cutA c l)=[]then splF c f (cutB c l)else trimB (cutA c l)::splF c f (cutB c l)
def spl (c:UInt8)(l:List UInt8):List (List UInt8):=splF c (l.length+1) l
theorem cutAB_len (c:UInt8):∀l:List UInt8,(cutA c l).length<=l.length/\(l≠[]->(cutB c l).length<l.length)
 |[]=>⟨Nat.le_refl _,fun h=>absurd rfl h⟩
 |x::l=>by
  obtain⟨h1,h2⟩:=cutAB_len c l
  constructor
  ·unfold cutA;split <;> simp;omega
  ·intro _
   unfold cutB
   split
   ·simp
   ·by_cases hl:l=[]
    ·subst hl;simp[cutB]
    ·have:=h2 hl;simp;omega
theorem spl_step (c:UInt8){l:List UInt8}(h:l≠[]):∀f,l.length<f->splF c f l=if trimB (cutA c l)=[]then splF c (f-1) (cutB c l)else trimB (cutA c l)::splF c (f-1) (cutB c l)
 |0,hf=>by omega
 |f+1,hf=>by rw[splF,if_neg h,Nat.add_sub_cancel]
theorem spl_fuel (c:UInt8):∀(n:Nat) (l:List UInt8),l.length<=n->∀f g,l.length<f->l.length<g->splF c f l=splF c g l
 |n,l,hn,0,g,hf,hg=>by omega
 |n,l,hn,f+1,0,hf,hg=>by omega
 |n,l,hn,f+1,g+1,hf,hg=>by
  rw[splF,splF]
  by_cases h:l=[]
  ·rw[if_pos h,if_pos h]
  ·rw[if_neg h,if_neg h]
   have hl:=(cutAB_len c l).2 h
   cases n with
   |zero=>have:l=[]:=List.eq_nil_of_length_eq_zero (by omega);exact absurd this h
   |succ n=>rw[spl_fuel c n (cutB c l) (by omega) f g (by omega) (by omega)]
theorem spl_nil (c:UInt8):spl c []=[]:=rfl
theorem spl_cons (c:UInt8){l:List UInt8}(h:l≠[]):spl c l=(if trimB (cutA c l)=[]then []else [trimB (cutA c l)])++spl c (cutB c l):=by
 have hl:=(cutAB_len c l).2 h
 unfold spl
 rw[spl_step c h _ (by omega),Nat.add_sub_cancel,spl_fuel c _ (cutB c l) (Nat.le_refl _) l.length ((cutB c l).length+1) hl (by omega)]
 split <;> rfl
theorem spl_num (c:UInt8):∀(n:Nat) (l:List UInt8),l.length<=n->(spl c l).length<=l.length/\∀w∈spl c l,w.length<=l.length
 |0,l,h=>by
  have:l=[]:=List.eq_nil_of_length_eq_zero (by omega)
  subst this
  exact⟨Nat.le_refl _,fun w hw=>by simp[spl_nil]at hw⟩
 |n+1,l,h=>by
  by_cases hl:l=[]
  ·subst hl;exact⟨Nat.le_refl _,fun w hw=>by simp[spl_nil]at hw⟩
  ·have h1:=(cutAB_len c l).2 hl
   obtain⟨i1,i2⟩:=spl_num c n (cutB c l) (by omega)
   rw[spl_cons c hl]
   constructor
   ·rw[List.length_append]
    split <;> simp <;> omega
   ·intro w hw
    rcases List.mem_append.1 hw with hw|hw
    ·split at hw
     ·cases hw
     ·rw[List.mem_singleton.1 hw]
      exact Nat.le_trans (trim_len _) (cutAB_len c l).1
    ·exact Nat.le_trans (i2 w hw) (by omega)
theorem split {W:World}{l:List UInt8}{c:UInt8}(hl:l.length<=4194304):Cn p_ 19 [txt l,Sl.B c] W [] (fun r:Option Addr × Nat=> .slice r.1 (spl c l).length r.2) (fun r=>[Sl 1 9 r.1 r.2 (spl c l).length ((spl c l).map txt)]):=by
 have hnum:=(spl_num c _ l (Nat.le_refl _)).1
 (refine Shp.cn (Sg.g_ Tryz.call19 Tryz.func19 (an:={cuts:=[(8,[0,6])],loops:=[(2,[0,5])],drs:=[(6,.ofL [(0,1),(1,1),(2,1),(3,1),(4,1),(5,1),(6,1),(7,1),(8,1)])]})) fun F=>?_;simp only[ca_,na_])
 refine e_loop2 (fun m x y=>(ex fun st:(Option Addr × Nat) × (List UInt8 × List (List UInt8))=>all [pu (m=st.2.1.length/\x=txt st.2.1/\y= .slice st.1.1 st.2.2.length st.1.2/\spl c l=st.2.2++spl c st.2.1/\st.2.1.length<=l.length),Sl 1 9 st.1.1 st.1.2 st.2.2.length (st.2.2.map txt)])::F) l.length ?_ ?_
 ·refine .ex ((none,0),(l,[])) (.all ?_)
  refine nr_ ?_
  refine .pu ⟨rfl,rfl,rfl,rfl,Nat.le_refl _⟩ ?_
  exact imp_nil .refl
 intro m ds x y
 refine e_ex .here fun st=>e_all .here ?_
 obtain⟨⟨sa,sc⟩,⟨r,out⟩⟩:=st
 refine nr_ ?_
 refine e_pu .here fun hi=>?_
 (try dsimp only at hi)
 obtain⟨rfl,rfl,rfl,hsp,hrl⟩:=hi
 (try dsimp only)
 have hol:=congrArg List.length hsp
 rw[List.length_append]at hol
 refine o_ v_lent (o_ v_gtr ?_)
 by_cases hr:r=[]
 ·subst hr
  rw[dF_ (by decide)]
  refine e_condF ?_
  rw[spl_nil,List.append_nil]at hsp
  rw[hsp]
  refine rt_ ((sa,sc)) ?_
  exact im_
 have hr0:0<r.length:=List.length_pos_iff.2 hr
 rw[dT_ (by omega)]
 refine e_condT (e_cut2 (fun x y=>pu (x=txt (cutB c r)/\y=txt (cutA c r))::Sl 1 9 sa sc out.length (out.map txt)::F) ?_ ?_)
 rotate_left
 ·refine c_ (indexByte (l:=r) (c:=c)) fun _=>?_
  obtain⟨k1,k2⟩:=cut_ix (c:=c) (l:=r)
  refine e_ask v_geq .nil (fun h=>?_) (fun h=>?_)
  ·have hm:=ixF_nn.1 h
   obtain⟨_,q1,q2⟩:=k1 hm
   have hix:ixF r c=((r.findIdx (· ==c):Nat):Int):=by unfold ixF;rw[if_pos hm]
   have hfl:r.findIdx (· ==c)<r.length:=List.findIdx_lt_length_of_exists ⟨c,hm,by simp⟩
   rw[hix]
   refine e_condT (e_drS (t_ (v_ssh (r.findIdx (· ==c)) rfl (by omega)) ?_))
   refine t_ (v_add (by omega) (by omega)) ?_
   refine t_ (v_ssl (r.findIdx (· ==c)+1) (by norm_cast) (by omega)) ?_
   rw[q1,q2]
   refine e_sat (.pu ⟨rfl,rfl⟩ ?_)
   exact im_
  ·have hm:c∉r:=fun d=>h (ixF_nn.2 d)
   obtain⟨_,q1,q2⟩:=k2 hm
   refine e_condF ?_
   rw[q1,q2]
   refine e_sat (.pu ⟨rfl,rfl⟩ ?_)
   exact im_
 intro ds2 x y
 refine e_pu .here fun hi=>?_
 obtain⟨rfl,rfl⟩:=hi
 obtain⟨l1,l2⟩:=cutAB_len c r
 have l2:=l2 hr
 have hst:=spl_cons c hr
 refine c_ (trim (l:=cutA c r) (by omega)) fun _=>?_
 refine o_ (v_strne (m:=[])) ?_
 by_cases ht:trimB (cutA c r)=[]
 ·rw[dF_ (fun h=>h ht)]
  rw[if_pos ht,List.nil_append]at hst
  refine e_condF (e_next2 (cutB c r).length l2 (.ex ((sa,sc),(cutB c r,out)) (.all ?_)))
  refine nr_ ?_
  refine .pu ⟨rfl,rfl,rfl,by rw[hsp,hst],by(try dsimp only);omega⟩ ?_
  exact im_
 ·rw[dT_ ht]
  rw[if_neg ht]at hst
  refine e_condT (e_bslN (n:=1) (vs:=[txt (trimB (cutA c r))]) rfl rfl (by intro v hv;rw[List.mem_singleton.1 hv];rfl) (by omega) fun gb=>?_)
  refine e_app (m:=1) (news:=[txt (trimB (cutA c r))]) (by(repeat constructor):Pick _ (Sl 1 9 sa sc out.length (out.map txt)) _) (src_pt (s:=1) (e':=9) (by kernel_rfl) .here (by rfl) (by intro u hu;rw[List.mem_singleton.1 hu];rfl)) (by omega) (by omega) fun a' c'=>?_
  refine e_next2 (cutB c r).length l2 (.ex ((a',c'),(cutB c r,out++[trimB (cutA c r)])) (.all ?_))
  refine nr_ ?_
  rw[List.length_append,List.map_append]
  refine .pu ⟨rfl,rfl,rfl,by rw[hsp,hst,List.append_assoc],by(try dsimp only);omega⟩ ?_
  exact im_
end Go.Proofs.YtndojgomlkpeaaaGreatDoor.FD
namespace Go.Proofs.YtndojgomlkpeaaaGreatDoor.Sl
open Go Go.RowKit Sh
theorem wrU64 {n:Nat}(h:n<18446744073709551616):IntKind.u64.wrap (n:Int)=n:=by
 simp only[IntKind.wrap,IntKind.bits,IntKind.signed]
 simp;omega
theorem wrU32 {n:Nat}(h:n<4294967296):IntKind.u32.wrap (n:Int)=n:=by
 simp only[IntKind.wrap,IntKind.bits,IntKind.signed]
 simp;omega
theorem wrU8 {n:Nat}(h:n<256):IntKind.u8.wrap (n:Int)=n:=by
 simp only[IntKind.wrap,IntKind.bits,IntKind.signed]
 simp;omega
theorem v_quoU {P:Program}{W:World}{t:TypeId}{q:IntKind}{a b:Nat}(hb:0<b)(hw:q.wrap ((a / b:Nat):Int)=((a / b:Nat):Int)):RunV P W [] (sBin .quo t (.int q (a:Int)) (.int q (b:Int))) (.int q ((a / b:Nat):Int)):=fun w _=>by
 have h0:¬(b:Int)=0:=by omega
 have hw':q.wrap ((a:Int) / (b:Int))=(a:Int) / (b:Int):=by rw[show(a:Int) / (b:Int)=((a / b:Nat):Int) by norm_cast,hw]
 simp[sBin,sv,eqGuard,binOp,Op.intDiv,h0,show ¬b=0 by omega,hw']
theorem v_remU {P:Program}{W:World}{t:TypeId}{q:IntKind}{a b:Nat}(hb:0<b):RunV P W [] (sBin .rem t (.int q (a:Int)) (.int q (b:Int))) (.int q ((a%b:Nat):Int)):=by
 have:=v_rem (P:=P) (W:=W) (t:=t) (q:=q) (a:=(a:Int)) (b:=(b:Int)) (by omega) (by omega)
 rw[show(a:Int)%(b:Int)=((a%b:Nat):Int) by norm_cast]at this
 exact this
theorem v_mulU {P:Program}{W:World}{t:TypeId}{q:IntKind}{a b:Nat}(hw:q.wrap ((a * b:Nat):Int)=((a * b:Nat):Int)):RunV P W [] (sBin .mul t (.int q (a:Int)) (.int q (b:Int))) (.int q ((a * b:Nat):Int)):=by
 have:=v_mulw (P:=P) (W:=W) (t:=t) (q:=q) (a:=(a:Int)) (b:=(b:Int))
 rw[show(a:Int) * (b:Int)=((a * b:Nat):Int) by norm_cast,hw]at this
 exact this
theorem v_addU {P:Program}{W:World}{t:TypeId}{q:IntKind}{a b:Nat}(hw:q.wrap ((a+b:Nat):Int)=((a+b:Nat):Int)):RunV P W [] (sBin .add t (.int q (a:Int)) (.int q (b:Int))) (.int q ((a+b:Nat):Int)):=by
 have:=v_addw (P:=P) (W:=W) (t:=t) (q:=q) (a:=(a:Int)) (b:=(b:Int))
 rw[show(a:Int)+(b:Int)=((a+b:Nat):Int) by norm_cast,hw]at this
 exact this
theorem v_shrU {P:Program}{W:World}{t:TypeId}{r:IntKind}{a k:Nat}(hk:k<=64):RunV P W [] (sBin .shr t (.int .u64 (a:Int)) (.int r (k:Int))) (.int .u64 ((a / 2^k:Nat):Int)):=by
 have:=v_shr (P:=P) (W:=W) (t:=t) (q:= .u64) (r:=r) (a:=(a:Int)) (b:=(k:Int)) (by omega)
 rw[show min ((k:Int)).toNat IntKind.u64.bits=k by simp only[IntKind.bits,Int.toNat_natCast];omega,Int.fdiv_eq_ediv_of_nonneg _ (Int.le_of_lt (Int.pow_pos (by decide))),show(a:Int) / 2^k=((a / 2^k:Nat):Int) by norm_cast]at this
 exact this
theorem v_neg {P:Program}{W:World}{q:IntKind}{a:Int}:RunV P W [] (sUn .neg (.int q a)) (.int q (q.wrap (-a))):=fun w _=>by
 simp[sUn,Op.unary,Op.intArith]
theorem v_slAB {P:Program}{W:World}{t e:TypeId}{s len:Nat}{g l:Nat}{q r:IntKind}{i j:Int}(h:Nat)[ht:ArrT P t len e s](hi:i=(l:Int))(hj:j=(h:Int))(hlh:l<=h)(hl:h<=len)(h0:l<len):RunV P W [] (sSl t (.pointer (some ⟨g,0,none⟩)) (some (.int q i)) (some (.int r j)) none) (.slice (some ⟨g,l * s,none⟩) (h-l) (len-l)):=fun w _=>by
 have hne:¬len=l:=by omega
 simp[sSl,Instr.sliceAt,Instr.sliceBounds,ht.ut,ht.size,run_bound h hj hl,run_bound l hi hlh,Instr.sureAddr,hne,Addr.add]
 exact fun h=>h.symm
theorem v_slAh0 {P:Program}{W:World}{t e:TypeId}{s len:Nat}{g:Nat}{q:IntKind}{j:Int}(h:Nat)[ht:ArrT P t len e s](hj:j=(h:Int))(hl:h<=len)(h0:0<len):RunV P W [] (sSl t (.pointer (some ⟨g,0,none⟩)) none (some (.int q j)) none) (.slice (some ⟨g,0,none⟩) h len):=fun w _=>by
 have hne:len≠0:=by omega
 simp[sSl,Instr.sliceAt,Instr.sliceBounds,ht.ut,ht.size,run_bound h hj hl,Instr.sureAddr,hne,Addr.add]
theorem v_ssb {P:Program}{W:World}{t:TypeId}{l:List UInt8}{q r:IntKind}{i j:Int}(a b:Nat)[ht:StrT P t](hi:i=(a:Int))(hj:j=(b:Int))(hab:a<=b)(hb:b<=l.length):RunV P W [] (sSl t (txt l) (some (.int q i)) (some (.int r j)) none) (txt ((l.take b).drop a)):=fun w _=>by
 have e:(⟨l.toArray⟩:ByteArray).extract a b=⟨((l.take b).drop a).toArray⟩:=by
  apply ByteArray.ext
  apply Array.ext'
  rw[ByteArray.data_extract]
  simp[List.extract_eq_take_drop,List.drop_take]
 have h1:=run_sb (P:=P) (q:=q) (w:=w) (i:=i) (y:=b) (c:= .sliceB) a hi hab
 have h2:=run_sb (P:=P) (q:=r) (w:=w) (i:=j) (y:=l.length) (c:= .sliceAlen) b hj hb
 have e0:(⟨l.toArray⟩:ByteArray).size=l.length:=rfl
 simp[sSl,Instr.sliceAt,Instr.slice,Instr.sliceBounds,run_underlying ht.ut,txt,e0,h1,h2,e]
theorem rd_off {W:World}{g o n:Nat}{cs:Array Value}{ds:List Value}{T:TypeId}{fz:Nat × Nat}(hl:ds.length=n)(h:∀(j:Nat) (v:Value),ds[j]? =some v->cs[o+j]? =some v):RdB W (pt g (.cells cs T fz)) (some ⟨g,o,none⟩) n ds:=⟨hl,fun _=>⟨g,o,rfl,fun w L hw j v hv=>by rw[hw.cell];exact h j v hv⟩⟩
end Go.Proofs.YtndojgomlkpeaaaGreatDoor.Sl
namespace Go.Proofs.YtndojgomlkpeaaaGreatDoor.FD
open Go Go.Proofs Go.RowKit Sh Sl T
class Gp (W:World):Prop where
 lt:1<W.heap.size
 at_:∀j,j<20->W.cell? ⟨1,j,none⟩=some (.int .u64 ((10^j:Nat):Int))
def IsLen (u n:Nat):Prop:=u<2^n/\(n=0\/2^(n-1)<=u)
theorem isLen_shift {u k n:Nat}(h:IsLen (u / 2^k) n)(hk:2^k<=u):IsLen u (n+k):=by
 obtain⟨h1,h2⟩:=h
 have h0:0<u / 2^k:=Nat.div_pos hk (Nat.pow_pos (by decide))
 refine⟨?_,.inr ?_⟩
 ·rw[Nat.pow_add];exact(Nat.div_lt_iff_lt_mul (Nat.pow_pos (by decide))).1 h1
 ·rcases h2 with h2|h2
  ·subst h2;simp at h1;omega
  ·have hn:n≠0:=fun c=>by subst c;simp at h1;omega
   rw[show n+k-1=(n-1)+k by omega,Nat.pow_add]
   exact(Nat.le_div_iff_mul_le (Nat.pow_pos (by decide))).1 h2
theorem len8:∀x,x<256->∃n,S.lit1[x]? =some (UInt8.ofNat n)/\n<=8/\IsLen x n:=by
 have:∀x,x<256->((S.lit1[x]?.map UInt8.toNat).getD 9<=8/\x<2^((S.lit1[x]?.map UInt8.toNat).getD 9)/\((S.lit1[x]?.map UInt8.toNat).getD 9=0\/2^((S.lit1[x]?.map UInt8.toNat).getD 9-1)<=x)):=by decide+kernel
 intro x hx
 obtain⟨h1,h2,h3⟩:=this x hx
 have hl:x<S.lit1.length:=by rw[show S.lit1.length=256 by decide+kernel];exact hx
 refine⟨S.lit1[x].toNat,?_,?_,?_,?_⟩
 ·rw[List.getElem?_eq_getElem hl,UInt8.ofNat_toNat]
 all_goals rw[List.getElem?_eq_getElem hl]at h1 h2 h3
 ·exact h1
 ·exact h2
 ·exact h3
theorem len64 {W:World}{u:Nat}(hu:u<18446744073709551616):Cn p_ 162 [.int .u64 (u:Int)] W [] (fun n:{n:Nat // n<=64/\IsLen u n}=> .int .i64 (n.1:Int)) (fun _=>[]):=by
 (refine S.math_bits_Len64_s.cn fun F=>?_;unfold S.math_bits_Len64;simp only[ca_,na_])
 refine e_cut2 (fun x y=>pu (∃v s:Nat,x= .int .u64 (v:Int)/\y= .int .i64 (s:Int)/\v<4294967296/\s<=32/\∀n,IsLen v n->IsLen u (n+s))::F) ?_ ?_
 rotate_left
 ·refine e_ask v_geq .nil (fun h=>?_) (fun h=>?_)
  ·refine e_condT (o_ (v_shrU (k:=32) (by decide)) ?_)
   refine e_sat (.pu ⟨_,32,rfl,rfl,by omega,by omega,fun n hn=>isLen_shift hn (by omega)⟩ .refl)
  ·refine e_condF (e_sat (.pu ⟨u,0,rfl,rfl,by omega,by omega,fun n hn=>hn⟩ .refl))
 intro ds x y
 refine e_pu .here fun hi=>?_
 obtain⟨v,s,rfl,rfl,hv,hs,hL⟩:=hi
 refine e_cut2 (fun x y=>pu (∃v s:Nat,x= .int .u64 (v:Int)/\y= .int .i64 (s:Int)/\v<65536/\s<=48/\∀n,IsLen v n->IsLen u (n+s))::F) ?_ ?_
 rotate_left
 ·refine e_ask v_geq .nil (fun h=>?_) (fun h=>?_)
  ·refine e_condT (o_ (v_shrU (k:=16) (by decide)) ?_)
   refine ad_ ?_
   refine e_sat (.pu ⟨_,s+16,rfl,by norm_cast,by omega,by omega,fun n hn=>by rw[show n+(s+16)=(n+16)+s by omega];exact hL _ (isLen_shift hn (by omega))⟩ .refl)
  ·refine e_condF (e_sat (.pu ⟨v,s,rfl,rfl,by omega,by omega,hL⟩ .refl))
 intro ds2 x y
 refine e_pu .here fun hi=>?_
 obtain⟨v2,s2,rfl,rfl,hv2,hs2,hL2⟩:=hi
 refine e_cut2 (fun x y=>pu (∃v s:Nat,x= .int .u64 (v:Int)/\y= .int .i64 (s:Int)/\v<256/\s<=56/\∀n,IsLen v n->IsLen u (n+s))::F) ?_ ?_
 rotate_left
 ·refine e_ask v_geq .nil (fun h=>?_) (fun h=>?_)
  ·refine e_condT (o_ (v_shrU (k:=8) (by decide)) ?_)
   refine ad_ ?_
   refine e_sat (.pu ⟨_,s2+8,rfl,by norm_cast,by omega,by omega,fun n hn=>by rw[show n+(s2+8)=(n+8)+s2 by omega];exact hL2 _ (isLen_shift hn (by omega))⟩ .refl)
  ·refine e_condF (e_sat (.pu ⟨v2,s2,rfl,rfl,by omega,by omega,hL2⟩ .refl))
 intro ds3 x y
 refine e_pu .here fun hi=>?_
 obtain⟨v3,s3,rfl,rfl,hv3,hs3,hL3⟩:=hi
 refine o_ (v_conv (q:= .u8)) ?_
 rw[wrU8 hv3]
 obtain⟨n,h1,h2,h3⟩:=len8 v3 hv3
 have hl:v3<S.lit1.length:=by rw[show S.lit1.length=256 by decide+kernel];exact hv3
 rw[List.getElem?_eq_getElem hl]at h1
 have h1:=Option.some.inj h1
 refine o_ (v_ixS v3 rfl hl) ?_
 rw[h1,show Sl.B (UInt8.ofNat n)= .int .u8 (n:Int) by unfold Sl.B;rw[UInt8.toNat_ofNat'];rw[Nat.mod_eq_of_lt (by omega)]]
 refine o_ (v_conv (q:= .i64)) ?_
 rw[w64 (by omega) (by omega)]
 refine ad_ ?_
 refine e_ret ⟨n+s3,by omega,hL3 n h3⟩ (by(try dsimp only);congr 1;omega) ?_
 exact .refl
def IsNd (u n:Nat):Prop:=1<=n/\n<=20/\10^(n-1)<=u/\u<10^n
theorem nd_tab:∀b,b<=64->b * 78913 / 262144<=19/\2^b<=10^(b * 78913 / 262144+1)/\(b * 78913 / 262144≠0->10^(b * 78913 / 262144-1)<=2^(b-1)):=by decide+kernel
theorem nd_of {u b:Nat}(hu:u≠0)(hb:b<=64)(h:IsLen u b):IsNd u (b * 78913 / 262144+(if 10^(b * 78913 / 262144)<=u then 1 else 0)):=by
 obtain⟨h1,h2⟩:=h
 obtain⟨t1,t2,t3⟩:=nd_tab b hb
 generalize b * 78913 / 262144=k at t1 t2 t3 ⊢
 by_cases c:10^k<=u
 ·rw[if_pos c]
  exact⟨by omega,by omega,by rw[Nat.add_sub_cancel];exact c,by omega⟩
 ·rw[if_neg c]
  have hk:k≠0:=fun e=>c (by subst e;simp;omega)
  have hb0:b≠0:=fun e=>by subst e;simp at h1;omega
  exact⟨by omega,by omega,by have:=t3 hk;rw[Nat.add_zero];omega,by rw[Nat.add_zero];omega⟩
theorem numDigits {W:World}[hG:Gp W]{u:Nat}(hu:u<18446744073709551616)(h0:u≠0):Cn p_ 120 [.int .u64 (u:Int)] W [] (fun n:{n:Nat // IsNd u n}=> .int .i64 (n.1:Int)) (fun _=>[]):=by
 have hlog:∀b:Nat,b<=64->Cn p_ 161 [.int .i64 (b:Int)] W [] (fun _:Unit=> .int .i64 ((b * 78913 / 262144:Nat):Int)) (fun _=>[]):=fun b hb=>by
  (refine Shp.cn (Sg.g_ Tryz.call161 Tryz.func161) fun F=>?_;simp only[ca_,na_])
  refine o_ (v_mul (by omega) (by omega)) ?_
  refine o_ (v_shr (by decide)) ?_
  rw[show min (18:Int).toNat IntKind.i64.bits=18 from rfl,Int.fdiv_eq_ediv_of_nonneg _ (by decide),show((b:Int) * 78913) / 2^18=((b * 78913 / 262144:Nat):Int) by omega]
  refine rt_ () ?_
  exact .refl
 have hbool:∀b:Bool,Cn p_ 163 [.bool b] W [] (fun _:Unit=> .int .i64 (if b then 1 else 0)) (fun _=>[]):=fun b=>by
  (refine Shp.cn (Sg.g_ Tryz.call163 Tryz.func163) fun F=>?_;simp only[ca_,na_])
  cases b with
  |true=>
   refine e_condT (rt_ () ?_)
   exact .refl
  |false=>
   refine e_condF (rt_ () ?_)
   exact .refl
 (refine Shp.cn (Sg.g_ Tryz.call120 Tryz.func120) fun F=>?_;simp only[ca_,na_])
 refine c_ (len64 hu) fun _=>?_
 rename_i b
 obtain⟨b,hb,hL⟩:=b
 (try dsimp only)
 refine c_ (hlog b hb) fun _=>?_
 have hnd:=nd_of h0 hb hL
 have hk:=(nd_tab b hb).1
 generalize b * 78913 / 262144=k at hk hnd ⊢
 refine o_ (v_iaA k rfl (by omega)) ?_
 rw[Nat.zero_add,Nat.mul_one]
 refine o_ (v_ldOld hG.lt (hG.at_ k (by omega))) ?_
 refine o_ v_geq (c_ (hbool _) fun _=>?_)
 refine o_ (v_add (by split <;> omega) (by split <;> omega)) ?_
 refine e_ret ⟨_,hnd⟩ ?_ .refl
 (try dsimp only)
 congr 1
 by_cases c:10^k<=u
 ·rw[if_pos c,if_pos (dT_ (by norm_cast))];norm_cast
 ·rw[if_neg c,if_neg (fun d=>c (by have:=of_decide_eq_true d;norm_cast at this))];norm_cast
end Go.Proofs.YtndojgomlkpeaaaGreatDoor.FD
namespace Go.Proofs.YtndojgomlkpeaaaGreatDoor.FD
open Go Go.Proofs Go.RowKit Sh Sl T
def Dn (f:Nat->Nat):Array Value:=((List.range 24).map fun j=>Value.int .u8 (f j:Int)).toArray
theorem Dn_size (f:Nat->Nat):(Dn f).size=24:=by simp[Dn]
theorem Dn_get {j:Nat}{f:Nat->Nat}(h:j<24):(Dn f)[j]? =some (.int .u8 (f j:Int)):=by simp[Dn,h]
def updN (f:Nat->Nat)(j v:Nat):Nat->Nat:=fun i=>if i=j then v else f i
theorem Dn_set {j:Nat}{f:Nat->Nat}{v:Nat}:(Dn f).setIfInBounds j (.int .u8 (v:Int))=Dn (updN f j v):=by
 apply Array.ext_getElem?
 intro i
 rw[Array.getElem?_setIfInBounds]
 by_cases h:i<24
 ·rw[Dn_get h,Dn_get h]
  unfold updN
  by_cases c:j=i
  ·subst c;rw[if_pos rfl,if_pos (by rw[Dn_size];exact h),if_pos rfl]
  ·rw[if_neg c,if_neg (fun e=>c e.symm)]
 ·rw[Array.getElem?_eq_none (xs:=Dn f) (by rw[Dn_size];omega),Array.getElem?_eq_none (xs:=Dn (updN f j v)) (by rw[Dn_size];omega)]
  by_cases c:j=i
  ·subst c;rw[if_pos rfl,if_neg (by rw[Dn_size];exact h)]
  ·rw[if_neg c]
def partW (u n k:Nat)(f:Nat->Nat):Nat->Nat:=fun j=>if k<j/\j<=n then 48+u / 10^(n-j)%10 else f j
theorem part_all (u n:Nat)(f:Nat->Nat):partW u n n f=f:=by
 funext j
 unfold partW
 rw[if_neg (by omega)]
theorem pow_s (u a b:Nat):u / 10^(a+b)=u / 10^a / 10^b:=by rw[Nat.pow_add,Nat.div_div_eq_div_mul]
theorem part_one {u n k:Nat}{f:Nat->Nat}(h1:1<=k)(h2:k<=n):updN (partW u n k f) k (48+u / 10^(n-k)%10)=partW u n (k-1) f:=by
 funext j
 unfold updN partW
 by_cases c:j=k
 ·subst c;rw[if_pos rfl,if_pos (by omega)]
 ·rw[if_neg c]
  by_cases d:k<j/\j<=n
  ·rw[if_pos d,if_pos (by omega)]
  ·rw[if_neg d,if_neg (by omega)]
theorem part_pair {u n k y:Nat}{f:Nat->Nat}(h1:2<=k)(h2:k<=n)(hy:y=u / 10^(n-k)%100):updN (updN (partW u n k f) k (48+y%10)) (k-1) (48+y / 10)=partW u n (k-2) f:=by
 have e1:48+y%10=48+u / 10^(n-k)%10:=by omega
 have e2:48+y / 10=48+u / 10^(n-(k-1))%10:=by
  rw[show n-(k-1)=(n-k)+1 by omega,pow_s,Nat.pow_one];omega
 rw[e1,e2,part_one (by omega) h2,part_one (by omega) (by omega)]
 rfl
theorem sm_tab:∀y,y<100->S.lit0[y * 2]? =some (UInt8.ofNat (48+y / 10))/\S.lit0[y * 2+1]? =some (UInt8.ofNat (48+y%10)):=by decide+kernel
theorem lit0_len:S.lit0.length=200:=by decide+kernel
theorem B_nat {n:Nat}(h:n<256):Sl.B (UInt8.ofNat n)= .int .u8 (n:Int):=by unfold Sl.B;rw[UInt8.toNat_ofNat'];rw[Nat.mod_eq_of_lt h]
theorem ix_lo {W:World}{y:Nat}(hy:y<100):RunV p_ W [] (sIx 9 (txt S.lit0) (.int .u32 ((y * 2:Nat):Int))) (.int .u8 ((48+y / 10:Nat):Int)):=by
 have hl:y * 2<S.lit0.length:=by rw[lit0_len];omega
 have h:=(sm_tab y hy).1
 rw[List.getElem?_eq_getElem hl]at h
 have:=v_ixS (P:=p_) (W:=W) (t:=9) (l:=S.lit0) (q:= .u32) (i:=((y * 2:Nat):Int)) (y * 2) rfl hl
 rw[Option.some.inj h,B_nat (by omega)]at this
 exact this
theorem ix_hi {W:World}{y:Nat}(hy:y<100):RunV p_ W [] (sIx 9 (txt S.lit0) (.int .u32 ((y * 2+1:Nat):Int))) (.int .u8 ((48+y%10:Nat):Int)):=by
 have hl:y * 2+1<S.lit0.length:=by rw[lit0_len];omega
 have h:=(sm_tab y hy).2
 rw[List.getElem?_eq_getElem hl]at h
 have:=v_ixS (P:=p_) (W:=W) (t:=9) (l:=S.lit0) (q:= .u32) (i:=((y * 2+1:Nat):Int)) (y * 2+1) rfl hl
 rw[Option.some.inj h,B_nat (by omega)]at this
 exact this
theorem e_pair {W:World} {L:List HP} {Kp:PK} {REST:WP} {g n c k u y:Nat} {K c1 c2:Int} {f:Nat->Nat} {T:TypeId} (hK1:K-c1=((k-1:Nat):Int)) (hK2:K-c2=((k-2:Nat):Int)) (h1:2<=k) (h2:k<=n) (h3:n<=20) (hy:y=u / 10^(n-k)%100)
    (h:Ent W (pt g (.cells (Dn (partW u n (k-2) f)) T (0,0))::L) REST):
    Ent W (pt g (.cells (Dn (partW u n k f)) T (0,0))::L) (drS (stS p_ (sBin .sub 3 (.int .i64 K) (.int .i64 c1)) fun x44=>
     stD p_ (sBin .sub 3 (.int .i64 K) (.int .i64 c2)) fun D5 x47=>
     stS p_ (sBin .add 112 (.int .u32 ((y * 2:Nat):Int)) (.int .u32 1)) fun x49=>
     stS p_ (sIx 9 (txt S.lit0) x49) fun x50=>
     stD p_ (sIx 9 (txt S.lit0) (.int .u32 ((y * 2:Nat):Int))) fun D10 x52=>
     stS p_ (sIA 23 (.slice (some ⟨g,1,none⟩) n c) x44) fun x53=>
     opN p_ (sStore 5 x53 x50) Kp fun _=>
     (fun w=>D10 w/\(fun w=>D5 w/\(stS p_ (sIA 23 (.slice (some ⟨g,1,none⟩) n c) x47) fun x54=>
        opN p_ (sStore 5 x54 x52) Kp fun _=>REST) w) w))):=by
  have hy100:y<100:=by omega
  refine e_drS (t_ (v_sub (by omega) (by omega)) ?_)
  refine e_stD (v_sub (by omega) (by omega)) .nil ?_
  refine t_ (v_addU (a:=y * 2) (b:=1) (wrU32 (by omega))) ?_
  refine t_ (ix_hi hy100) ?_
  refine e_stD (ix_lo hy100) .nil ?_
  refine t_ (v_ia1 (k-1) hK1 (by omega)) ?_
  refine e_st .here (by rw[Dn_size];omega) ?_
  refine e_obl Imp.nil (e_obl .nil ?_)
  refine t_ (v_ia1 (k-2) hK2 (by omega)) ?_
  refine e_st .here (by rw[Array.size_setIfInBounds,Dn_size];omega) ?_
  rw[Dn_set,Dn_set,show 1+(k-1)=k by omega,show 1+(k-2)=k-1 by omega,part_pair h1 h2 hy]
  exact h
theorem u32conv {W:World}{n:Nat}(h:n<4294967296):RunV p_ W [] (sConv 170 112 (.int .u64 (n:Int))) (.int .u32 (n:Int)):=by
 have:=v_conv (P:=p_) (W:=W) (s:=170) (t:=112) (p:= .u64) (q:= .u32) (r:= .u64) (n:=(n:Int))
 rw[wrU32 h]at this
 exact this
theorem format10 {W:World}{g n c u:Nat}{f:Nat->Nat}{T:TypeId}(h1:1<=n)(h3:n<=20)(hu:u<10^n)(hu64:u<18446744073709551616):
  Cn p_ 121 [.slice (some ⟨g,1,none⟩) n c,.int .u64 (u:Int)] W [pt g (.cells (Dn f) T (0,0))] (fun _:Unit=> .tuple #[]) (fun _=>[pt g (.cells (Dn (partW u n 0 f)) T (0,0))]):=by
 (refine S.istrconv_formatBase10_s.cn fun F=>?_;unfold S.istrconv_formatBase10;simp only[ca_,na_])
 refine o_ v_len (e_loop2 (fun m x y=>(ex fun k:Nat=>all [pu (m=k/\y= .int .i64 (k:Int)/\x= .int .u64 ((u / 10^(n-k):Nat):Int)/\k<=n),pt g (.cells (Dn (partW u n k f)) T (0,0))])::F) n ?_ ?_)
 ·refine .ex n (.all ?_)
  refine nr_ ?_
  refine .pu ⟨rfl,rfl,by rw[Nat.sub_self];simp,Nat.le_refl _⟩ ?_
  rw[part_all]
  exact im_
 intro m ds x y
 refine e_ex .here fun k=>e_all .here ?_
 refine nr_ ?_
 refine e_pu .here fun hi=>?_
 obtain⟨rfl,rfl,rfl,hk⟩:=hi
 obtain⟨v,hv⟩:∃v,v=u / 10^(n-m):=⟨_,rfl⟩
 have hvu:v<18446744073709551616:=Nat.lt_of_le_of_lt (by rw[hv];exact Nat.div_le_self _ _) hu64
 have hvk:v<10^m:=by
  rw[hv,Nat.div_lt_iff_lt_mul (Nat.pow_pos (by decide)),<- Nat.pow_add,show m+(n-m)=n by omega];exact hu
 rw[<- hv]
 refine e_ask v_geq .nil (fun h=>?_) (fun h=>?_)
 ·have h8:8<=m:=by omega
  have hs:∀i,i<=m->u / 10^(n-(m-i))=v / 10^i:=fun i hi=>by rw[show n-(m-i)=(n-m)+i by omega,pow_s,<- hv]
  refine e_condT (o_ (v_remU (b:=100000000) (by decide)) ?_)
  refine o_ (u32conv (by omega)) ?_
  refine o_ (v_quoU (b:=100000000) (by decide) (wrU64 (by omega))) ?_
  refine o_ (v_quoU (b:=10000) (by decide) (wrU32 (by omega))) ?_
  refine o_ (v_remU (b:=10000) (by decide)) ?_
  refine o_ (v_quoU (b:=100) (by decide) (wrU32 (by omega))) ?_
  refine o_ (v_mulU (b:=2) (wrU32 (by omega))) ?_
  refine o_ (v_remU (b:=100) (by decide)) ?_
  refine o_ (v_mulU (b:=2) (wrU32 (by omega))) ?_
  refine o_ (v_quoU (b:=100) (by decide) (wrU32 (by omega))) ?_
  refine o_ (v_mulU (b:=2) (wrU32 (by omega))) ?_
  refine o_ (v_remU (b:=100) (by decide)) ?_
  refine o_ (v_mulU (b:=2) (wrU32 (by omega))) ?_
  refine e_pair (u:=u) (n:=n) (k:=m) (by omega) (by omega) (by omega) hk h3 (by rw[<- hv];omega) ?_
  refine e_pair (u:=u) (n:=n) (k:=m-2) (by omega) (by omega) (by omega) (by omega) h3 (by rw[hs 2 (by omega)];omega) ?_
  refine e_pair (u:=u) (n:=n) (k:=m-2-2) (by omega) (by omega) (by omega) (by omega) h3 (by rw[show m-2-2=m-4 by omega,hs 4 (by omega)];omega) ?_
  refine e_pair (u:=u) (n:=n) (k:=m-2-2-2) (by omega) (by omega) (by omega) (by omega) h3 (by rw[show m-2-2-2=m-6 by omega,hs 6 (by omega)];omega) ?_
  refine sb_ ?_
  refine e_next2 (m-8) (by omega) (.ex (m-8) (.all ?_))
  refine nr_ ?_
  refine .pu ⟨rfl,by congr 1;omega,by rw[hs 8 h8],by omega⟩ ?_
  rw[show m-2-2-2-2=m-8 by omega]
  exact im_
 ·have h8:m<8:=by omega
  have hv8:v<100000000:=Nat.lt_of_lt_of_le hvk (Nat.pow_le_pow_right (by decide) (show m<=8 by omega))
  refine e_condF (o_ (u32conv (by omega)) ?_)
  refine e_cut2 (fun x y=>(ex fun k:Nat=>all [pu (x= .int .i64 (k:Int)/\y= .int .u32 ((u / 10^(n-k):Nat):Int)/\k<=n/\k<4/\u / 10^(n-k)<10^k),pt g (.cells (Dn (partW u n k f)) T (0,0))])::F) ?_ ?_
  rotate_left
  ·refine e_ask v_geq .nil (fun h=>?_) (fun h=>?_)
   ·have h4:4<=m:=by omega
    have hs:∀i,i<=m->u / 10^(n-(m-i))=v / 10^i:=fun i hi=>by rw[show n-(m-i)=(n-m)+i by omega,pow_s,<- hv]
    refine e_condT (o_ (v_remU (b:=10000) (by decide)) ?_)
    refine o_ (v_quoU (b:=10000) (by decide) (wrU32 (by omega))) ?_
    refine o_ (v_quoU (b:=100) (by decide) (wrU32 (by omega))) ?_
    refine o_ (v_mulU (b:=2) (wrU32 (by omega))) ?_
    refine o_ (v_remU (b:=100) (by decide)) ?_
    refine o_ (v_mulU (b:=2) (wrU32 (by omega))) ?_
    refine e_pair (u:=u) (n:=n) (k:=m) (by omega) (by omega) (by omega) hk h3 (by rw[<- hv];omega) ?_
    refine e_pair (u:=u) (n:=n) (k:=m-2) (by omega) (by omega) (by omega) (by omega) h3 (by rw[hs 2 (by omega)];omega) ?_
    refine sb_ ?_
    refine e_sat (.ex (m-4) (.all ?_))
    refine nr_ ?_
    rw[hs 4 h4]
    refine .pu ⟨by congr 1;omega,rfl,by omega,by omega,?_⟩ ?_
    ·rw[Nat.div_lt_iff_lt_mul (Nat.pow_pos (by decide)),<- Nat.pow_add,show m-4+4=m by omega];exact hvk
    rw[show m-2-2=m-4 by omega]
    exact im_
   ·refine e_condF (e_sat (.ex m (.all ?_)))
    refine nr_ ?_
    rw[<- hv]
    refine .pu ⟨rfl,rfl,hk,by omega,hvk⟩ ?_
    exact im_
  clear hvk hv8 hvu hv h8 hk
  clear v
  intro ds2 x y
  refine e_ex .here fun k=>e_all .here ?_
  refine nr_ ?_
  refine e_pu .here fun hi=>?_
  obtain⟨rfl,rfl,hk,hk4,hvk⟩:=hi
  obtain⟨v,hv⟩:∃v,v=u / 10^(n-k):=⟨_,rfl⟩
  rw[<- hv]at hvk ⊢
  have hv4:v<10000:=Nat.lt_of_lt_of_le hvk (Nat.pow_le_pow_right (by decide) (show k<=4 by omega))
  refine e_cut2 (fun x y=>(ex fun k:Nat=>all [pu (x= .int .i64 (k:Int)/\y= .int .u32 ((u / 10^(n-k):Nat):Int)/\k<=n/\k<2/\u / 10^(n-k)<10^k),pt g (.cells (Dn (partW u n k f)) T (0,0))])::F) ?_ ?_
  rotate_left
  ·refine e_ask v_geq .nil (fun h=>?_) (fun h=>?_)
   ·have h2:2<=k:=by omega
    have hs:∀i,i<=k->u / 10^(n-(k-i))=v / 10^i:=fun i hi=>by rw[show n-(k-i)=(n-k)+i by omega,pow_s,<- hv]
    refine e_condT (o_ (v_remU (b:=100) (by decide)) ?_)
    refine o_ (v_mulU (b:=2) (wrU32 (by omega))) ?_
    refine o_ (v_quoU (b:=100) (by decide) (wrU32 (by omega))) ?_
    refine e_pair (u:=u) (n:=n) (k:=k) (by omega) (by omega) (by omega) hk h3 (by rw[<- hv]) ?_
    refine sb_ ?_
    refine e_sat (.ex (k-2) (.all ?_))
    refine nr_ ?_
    rw[hs 2 h2]
    refine .pu ⟨by congr 1;omega,rfl,by omega,by omega,?_⟩ ?_
    ·rw[Nat.div_lt_iff_lt_mul (Nat.pow_pos (by decide)),<- Nat.pow_add,show k-2+2=k by omega];exact hvk
    exact im_
   ·refine e_condF (e_sat (.ex k (.all ?_)))
    refine nr_ ?_
    rw[<- hv]
    refine .pu ⟨rfl,rfl,hk,by omega,hvk⟩ ?_
    exact im_
  clear hvk hv4 hv hk hk4
  clear v k
  intro ds3 x y
  refine e_ex .here fun k=>e_all .here ?_
  refine nr_ ?_
  refine e_pu .here fun hi=>?_
  obtain⟨rfl,rfl,hk,hk2,hvk⟩:=hi
  refine e_ask v_gtr .nil (fun h=>?_) (fun h=>?_)
  ·obtain rfl:k=1:=by omega
   have hv1:u / 10^(n-1)<10:=by simpa using hvk
   refine e_condT (o_ (v_addU (a:=48) (wrU32 (by omega))) ?_)
   refine o_ (v_conv (q:= .u8)) ?_
   rw[wrU8 (by omega)]
   refine o_ (v_ia1 0 rfl (by omega)) ?_
   refine e_st .here (by rw[Dn_size];omega) ?_
   rw[Dn_set,Nat.add_zero,show 48+u / 10^(n-1)=48+u / 10^(n-1)%10 by rw[Nat.mod_eq_of_lt hv1],part_one (by omega) h1]
   refine rt_ () ?_
   exact im_
  ·obtain rfl:k=0:=by omega
   refine e_condF (rt_ () ?_)
   exact im_
def decW (u n:Nat):List UInt8:=(List.range n).map fun j=>UInt8.ofNat (48+u / 10^(n-1-j)%10)
def ndF (u:Nat):Nat:=((List.range 21).find? fun n=>decide (u<10^n)).getD 20
theorem ndF_of {u n:Nat}(h:IsNd u n):ndF u=n:=by
 obtain⟨h1,h2,h3,h4⟩:=h
 have:(List.range 21).find? (fun n=>decide (u<10^n))=some n:=by
  rw[List.find?_range_eq_some]
  refine⟨by simpa using h4,by simp;omega,fun j hj=>?_⟩
  have:10^j<=10^(n-1):=Nat.pow_le_pow_right (by decide) (by omega)
  simp;omega
 unfold ndF
 rw[this];rfl
def dig (i:Int):List UInt8:=
 if 0<=i/\i<100 then(if i<10 then [UInt8.ofNat (48+i.toNat)]else [UInt8.ofNat (48+i.toNat / 10),UInt8.ofNat (48+i.toNat%10)])
 else if i<0 then 45::decW i.natAbs (ndF i.natAbs)else decW i.natAbs (ndF i.natAbs)
theorem decW_len (u n:Nat):(decW u n).length=n:=by simp[decW]
theorem dig_len {i:Int}(h: -9223372036854775808<=i)(h2:i<=9223372036854775807):(dig i).length<=21:=by
 have hn:ndF i.natAbs<=20:=by
  unfold ndF
  cases hf:(List.range 21).find? fun n=>decide (i.natAbs<10^n)with
  |none=>exact Nat.le_refl _
  |some n=>
   have:=List.mem_range.1 (List.mem_of_find?_eq_some hf)
   simp only[Option.getD_some];omega
 unfold dig
 split
 ·split <;> simp
 ·split
  ·rw[List.length_cons,decW_len];omega
  ·rw[decW_len];omega
theorem rd_dig {W:World}{g u n:Nat}{f:Nat->Nat}{T:TypeId}(h3:n<=20):RdB W (pt g (.cells (Dn (partW u n 0 f)) T (0,0))) (some ⟨g,1,none⟩) n ((decW u n).map Sl.B):=by
 refine rd_off (by rw[List.length_map,decW_len]) fun j v hv=>?_
 have hj:j<n:=by
  rcases Nat.lt_or_ge j n with c|c
  ·exact c
  ·rw[List.getElem?_eq_none (by rw[List.length_map,decW_len];exact c)]at hv;cases hv
 rw[List.getElem?_map]at hv
 unfold decW at hv
 rw[List.getElem?_map,List.getElem?_range hj]at hv
 simp only[Option.map_some]at hv
 rw[B_nat (by omega)]at hv
 rw[Dn_get (by omega),<- hv]
 unfold partW
 rw[if_pos (by omega),show n-(1+j)=n-1-j by omega]
theorem both_ {G H:Prop}(k:G->H)(m:G):H:=k m
theorem small {W:World}{n:Nat}(h:n<100):Cn p_ 119 [.int .i64 (n:Int)] W [] (fun _:Unit=>txt (dig n)) (fun _=>[]):=by
 have hd:dig (n:Int)=if n<10 then [UInt8.ofNat (48+n)]else [UInt8.ofNat (48+n / 10),UInt8.ofNat (48+n%10)]:=by
  unfold dig
  rw[if_pos (by omega),Int.toNat_natCast]
  by_cases c:n<10
  ·rw[if_pos (by omega),if_pos c]
  ·rw[if_neg (by omega),if_neg c]
 (refine S.istrconv_small_s.cn fun F=>?_;unfold S.istrconv_small;simp only[ca_,na_])
 refine e_ask v_lss .nil (fun h=>?_) (fun h=>?_)
 ·have h10:n<10:=by omega
  rw[hd,if_pos h10]
  refine e_condT (ad_ ?_)
  refine o_ (v_ssb (l:=[48,49,50,51,52,53,54,55,56,57,97,98,99,100,101,102,103,104,105,106,107,108,109,110,111,112,113,114,115,116,117,118,119,120,121,122]) n (n+1) rfl (by omega) (by omega) (by simp;omega)) ?_
  have:∀n,n<10->((([48,49,50,51,52,53,54,55,56,57,97,98,99,100,101,102,103,104,105,106,107,108,109,110,111,112,113,114,115,116,117,118,119,120,121,122]:List UInt8).take (n+1)).drop n)=[UInt8.ofNat (48+n)]:=by decide+kernel
  rw[this n h10]
  refine rt_ () ?_
  exact .refl
 ·have h10:¬n<10:=by omega
  rw[hd,if_neg h10]
  refine e_condF (o_ (v_mul (by omega) (by omega)) ?_)
  refine o_ (v_mul (by omega) (by omega)) ?_
  refine ad_ ?_
  refine o_ (v_ssb (n * 2) (n * 2+2) (by omega) (by omega) (by omega) (by rw[lit0_len];omega)) ?_
  have:∀n,n<100->((S.lit0.take (n * 2+2)).drop (n * 2))=[UInt8.ofNat (48+n / 10),UInt8.ofNat (48+n%10)]:=by decide+kernel
  rw[this n (by omega)]
  refine rt_ () ?_
  exact .refl
theorem formatInt {W:World}[hG:Gp W]{i:Int}(h1: -9223372036854775808<=i)(h2:i<=9223372036854775807):Cn p_ 87 [.int .i64 i,.int .i64 10] W [] (fun _:Unit=>txt (dig i)) (fun _=>[]):=by
 (refine Shp.cn (Sg.g_ Tryz.call87 Tryz.func87 (an:={cuts:=[(8,[6])]})) fun F=>?_;simp only[ca_,na_])
 refine o_ v_eql ?_
 rw[dT_ rfl]
 refine e_condT ?_
 by_cases hs:0<=i/\i<100
 ·obtain⟨n,rfl⟩:=Int.eq_ofNat_of_zero_le hs.1
  refine o_ v_leq ?_
  rw[dT_ hs.1]
  refine e_gdT (e_gdT (o_ v_lss ?_))
  rw[dT_ hs.2]
  refine o_ v_pickT (e_condT (c_ (small (n:=n) (by omega)) fun _=>?_))
  refine rt_ () ?_
  exact .refl
 have hu:i.natAbs<18446744073709551616:=by omega
 have hu0:i.natAbs≠0:=by omega
 have d1:i<0->decide (0<=i)=false:=fun h=>dF_ (by omega)
 have d2:¬i<0->decide (0<=i)=true:=fun h=>dT_ (by omega)
 have d3:¬i<0->decide (i<100)=false:=fun h=>dF_ (by omega)
 refine' both_ ?_ ?_
 rotate_left
 ·intro main
  by_cases h0:i<0
  ·refine o_ v_leq ?_
   rw[d1 h0]
   exact e_gdF2 (e_gdF2 (o_ v_pickF main))
  ·refine o_ v_leq ?_
   rw[d2 h0]
   refine e_gdT (e_gdT (o_ v_lss ?_))
   rw[d3 h0]
   exact o_ v_pickT main
 refine e_condF (e_newA fun g=>?_)
 refine e_imp (M:=pt g (.cells (Dn fun _=>0) 169 (0,0))::F) .refl ?_
 refine o_ (v_conv (q:= .u64)) ?_
 refine e_cut1 (fun x=>pu (x= .int .u64 (i.natAbs:Int))::pt g (.cells (Dn fun _=>0) 169 (0,0))::F) ?_ ?_
 rotate_left
 ·refine e_ask v_lss .nil (fun h=>?_) (fun h=>?_)
  ·refine e_condT (o_ v_neg ?_)
   refine e_sat (.pu ?_ .refl)
   congr 1
   simp only[IntKind.wrap,IntKind.bits,IntKind.signed]
   simp;omega
  ·refine e_condF (e_sat (.pu ?_ .refl))
   congr 1
   simp only[IntKind.wrap,IntKind.bits,IntKind.signed]
   simp;omega
 intro ds x
 refine e_pu .here fun hx=>?_
 subst hx
 refine c_ (numDigits hu hu0) fun _=>?_
 rename_i n
 obtain⟨n,hn⟩:=n
 have hnd:=ndF_of hn
 obtain⟨n1,n2,n3,n4⟩:=hn
 (try dsimp only)
 refine ad_ ?_
 refine o_ (v_slAB (l:=1) (1+n) rfl (by norm_cast) (by omega) (by omega) (by omega)) ?_
 rw[Nat.one_mul,Nat.add_sub_cancel_left]
 refine c_ (format10 (f:=fun _=>0) n1 n2 n4 hu) fun _=>?_
 have hrd:=rd_dig (W:=W) (g:=g) (u:=i.natAbs) (n:=n) (f:=fun _=>0) (T:=169) n2
 have hdg:dig i=if i<0 then 45::decW i.natAbs n else decW i.natAbs n:=by
  unfold dig
  rw[if_neg hs,hnd]
 by_cases h0:i<0
 ·rw[if_pos h0]at hdg
  refine o_ v_lss ?_
  rw[dT_ h0]
  refine e_condT (o_ (v_iaA 0 rfl (by decide)) ?_)
  refine e_st .here (by rw[Dn_size];decide) ?_
  rw[show(Value.int .u8 45)= .int .u8 ((45:Nat):Int)from rfl,Dn_set]
  refine ad_ ?_
  refine o_ (v_slAh0 (1+n) (by norm_cast) (by omega) (by decide)) ?_
  have hr2:RdB W (pt g (.cells (Dn (updN (partW i.natAbs n 0 fun _=>0) (0+0 * 1) 45)) 169 (0,0))) (some ⟨g,0,none⟩) (1+n) ((dig i).map Sl.B):=by
   rw[hdg]
   refine rd_off (by rw[List.length_map,List.length_cons,decW_len];omega) fun j v hv=>?_
   cases j with
   |zero=>
    rw[<- hv,Dn_get (by omega)]
    rfl
   |succ j=>
    obtain⟨_,_,he,hc⟩:=hrd.at_ (by omega)
    have hj:j<n:=by
     rcases Nat.lt_or_ge j n with c|c
     ·exact c
     ·rw[List.getElem?_eq_none (by rw[List.length_map,List.length_cons,decW_len];omega)]at hv;cases hv
    rw[List.map_cons,List.getElem?_cons_succ,List.getElem?_map]at hv
    unfold decW at hv
    rw[List.getElem?_map,List.getElem?_range hj]at hv
    simp only[Option.map_some]at hv
    rw[B_nat (by omega)]at hv
    rw[Dn_get (by omega),<- hv]
    unfold updN partW
    rw[if_neg (by omega),if_pos (by omega),show n-(0+(j+1))=n-1-j by omega]
  refine p_op (v_str hr2 (fun c=>by cases c)) ?_
  refine rt_ () ?_
  exact im_
 ·rw[if_neg h0]at hdg
  refine o_ v_lss ?_
  rw[dF_ h0]
  refine e_condF (ad_ ?_)
  refine o_ (v_slAB (l:=1) (1+n) rfl (by norm_cast) (by omega) (by omega) (by omega)) ?_
  rw[Nat.one_mul,Nat.add_sub_cancel_left]
  rw[<- hdg]at hrd
  refine p_op (v_str hrd (fun c=>by cases c)) ?_
  refine rt_ () ?_
  exact im_
theorem digits {W:World}[hG:Gp W]{i:Int}(h1: -9223372036854775808<=i)(h2:i<=9223372036854775807):Cn p_ 17 [.int .i64 i] W [] (fun _:Unit=>txt (dig i)) (fun _=>[]):=by
 have a1:Cn p_ 56 [.int .i64 i] W [] (fun _:Unit=>txt (dig i)) (fun _=>[]):=by
  (refine Shp.cn (Sg.g_ Tryz.call56 Tryz.func56) fun F=>?_;simp only[ca_,na_])
  refine c_ (formatInt h1 h2) fun _=>?_
  refine rt_ () ?_
  exact im_
 have a2:Cn p_ 37 [.int .i64 i] W [] (fun _:Unit=>txt (dig i)) (fun _=>[]):=by
  (refine Shp.cn (Sg.g_ Tryz.call37 Tryz.func37) fun F=>?_;simp only[ca_,na_])
  refine c_ a1 fun _=>?_
  refine rt_ () ?_
  exact im_
 (refine Shp.cn (Sg.g_ Tryz.call17 Tryz.func17) fun F=>?_;simp only[ca_,na_])
 refine c_ a2 fun _=>?_
 refine rt_ () ?_
 exact im_
theorem pFd_one {L:List Fd}:∀u∈L.flatMap pFd,u.oneCell'=true:=fun u hu=>by
 obtain⟨f,_,hf⟩:=List.mem_flatMap.1 hu
 simp[pFd]at hf
 rcases hf with rfl|rfl <;> rfl
theorem rdF_any {W:World}{a:Option Addr}{c:Nat}{l:List Fd}(h:0<l.length->∃g,a=some ⟨g,0,none⟩):RdF W (Sl 2 52 a c l.length (l.flatMap pFd)) a l:=rd_slG (flat_len (f:=pFd) (s:=2) (fun _=>rfl) l) h
theorem e_andS {W:World}{L:List HP}{A B:WP}(h1:Ent W L A)(h2:Ent W L B):Ent W L (andS A B):=fun w hw=>⟨h1 w hw,h2 w hw⟩
theorem joinF_len (sep:List UInt8):∀V:List (List UInt8),(joinF sep V).length<=zL V+sep.length * V.length
 |[]=>Nat.zero_le _
 |v::r=>by
  have h:=flat_sum sep r
  have h2:sumL r<=zL r:=by
   clear h
   induction r with
   |nil=>exact Nat.le_refl _
   |cons w r ih=>rw[zL_cons];unfold sumL;omega
  unfold joinF
  rw[List.length_append,h,zL_cons,List.length_cons,Nat.mul_add,Nat.mul_one]
  omega
end Go.Proofs.YtndojgomlkpeaaaGreatDoor.FD
namespace Go.Proofs.YtndojgomlkpeaaaGreatDoor.M
open Go Sl
def val:List Bool->Nat
 |[]=>0
 |b::l=>b.toNat+2 * val l
theorem val_lt:∀l:List Bool,val l<2^l.length
 |[]=>by simp[val]
 |b::l=>by have:=val_lt l;cases b <;> simp[val,Nat.pow_succ] <;> omega
theorem val_append (m:List Bool):∀l:List Bool,val (l++m)=val l+2^l.length * val m
 |[]=>by simp[val]
 |b::l=>by
  simp only[List.cons_append,val,val_append m l,List.length_cons,Nat.pow_succ]
  rw[Nat.mul_add,Nat.mul_comm (2^l.length) 2,Nat.mul_assoc];omega
def byteAt (L:List Bool)(i:Nat):Nat:=val ((L.drop (8 * i)).take 8)
theorem byteAt_lt (L:List Bool)(i:Nat):byteAt L i<256:=by
 have h:=val_lt ((L.drop (8 * i)).take 8)
 have hl:((L.drop (8 * i)).take 8).length<=8:=List.length_take_le _ _
 exact Nat.lt_of_lt_of_le h (Nat.pow_le_pow_right (by omega) hl)
def pkn (L:List Bool)(m:Nat):List UInt8:=(List.range m).map fun i=>UInt8.ofNat (byteAt L i)
def pk (L:List Bool):List UInt8:=pkn L ((L.length+7) / 8)
def pkx (L:List Bool):List UInt8:=pkn L (L.length / 8+1)
theorem length_pk (L:List Bool):(pk L).length=(L.length+7) / 8:=by simp[pk,pkn]
theorem length_pkx (L:List Bool):(pkx L).length=L.length / 8+1:=by simp[pkx,pkn]
theorem pkx0 {L:List Bool}(h:L.length%8=0):pkx L=pk L++[0]:=by
 unfold pkx pk pkn
 rw[show(L.length+7) / 8=L.length / 8 by omega,List.range_succ,List.map_append]
 congr 1
 have:L.drop (8 * (L.length / 8))=[]:=List.drop_eq_nil_of_le (by omega)
 simp[byteAt,this,val]
theorem pkx1 {L:List Bool}(h:¬L.length%8=0):pkx L=pk L:=by
 unfold pkx pk
 rw[show(L.length+7) / 8=L.length / 8+1 by omega]
theorem byteAt_snoc_lt {L:List Bool}{b:Bool}{i:Nat}(h:i<L.length / 8):byteAt (L++[b]) i=byteAt L i:=by
 unfold byteAt
 rw[List.drop_append_of_le_length (by omega),List.take_append_of_le_length (by simp;omega)]
theorem byteAt_snoc_eq {L:List Bool}{b:Bool}:byteAt (L++[b]) (L.length / 8)=byteAt L (L.length / 8)+2^(L.length%8) * b.toNat:=by
 unfold byteAt
 rw[List.drop_append_of_le_length (by omega),List.take_of_length_le (by simp;omega),List.take_of_length_le (by simp;omega),val_append]
 have:(L.drop (8 * (L.length / 8))).length=L.length%8:=by simp;omega
 rw[this];simp[val]
theorem byteAt_last (L:List Bool):byteAt L (L.length / 8)<2^(L.length%8):=by
 unfold byteAt
 refine Nat.lt_of_lt_of_le (val_lt _) (Nat.pow_le_pow_right (by omega) ?_)
 rw[List.length_take,List.length_drop];omega
theorem pk_snoc_f (L:List Bool):pk (L++[false])=pkx L:=by
 unfold pk pkx pkn
 simp only[List.length_append,List.length_singleton]
 rw[show(L.length+1+7) / 8=L.length / 8+1 by omega]
 refine List.map_congr_left fun i hi=>?_
 rw[List.mem_range]at hi
 by_cases h:i<L.length / 8
 ·rw[byteAt_snoc_lt h]
 ·rw[show i=L.length / 8 by omega,byteAt_snoc_eq];simp
theorem pk_snoc_t (L:List Bool):pk (L++[true])=(pkx L).set (L.length / 8) (UInt8.ofNat (byteAt L (L.length / 8)+2^(L.length%8))):=by
 apply List.ext_getElem?
 intro i
 unfold pk pkx pkn
 simp only[List.length_append,List.length_singleton]
 rw[show(L.length+1+7) / 8=L.length / 8+1 by omega,List.getElem?_set]
 simp only[List.length_map,List.length_range,List.getElem?_map]
 by_cases h:L.length / 8=i
 ·subst h
  simp[byteAt_snoc_eq]
 ·rw[if_neg h]
  by_cases h2:i<L.length / 8
  ·rw[List.getElem?_range (by omega)];simp[byteAt_snoc_lt h2]
  ·rw[List.getElem?_eq_none (by simp;omega)];rfl
theorem pkx_last (L:List Bool):(pkx L)[L.length / 8]? =some (UInt8.ofNat (byteAt L (L.length / 8))):=by
 simp[pkx,pkn]
def bitsOf (n k:Nat):List Bool:=(List.range k).map n.testBit
theorem bitsOf_succ (n k:Nat):bitsOf n (k+1)=bitsOf n k++[n.testBit k]:=by simp[bitsOf,List.range_succ]
theorem length_bitsOf (n k:Nat):(bitsOf n k).length=k:=by simp[bitsOf]

theorem wrap8 {n:Nat}(h:n<256):IntKind.u8.wrap (n:Int)=n:=by
 simp only[IntKind.wrap,IntKind.bits,IntKind.signed]
 simp;omega
theorem wrapu64 {n:Nat}(h:n<18446744073709551616):IntKind.u64.wrap (n:Int)=n:=by
 simp only[IntKind.wrap,IntKind.bits,IntKind.signed]
 simp;omega
theorem and1 {a:Nat}(h:a<9223372036854775808):bitOp .and .i64 (a:Int) 1=((a%2:Nat):Int):=by
 unfold bitOp
 have h1:(BitVec.ofInt IntKind.i64.bits (a:Int)).toNat=a:=by
  rw[BitVec.ofInt_natCast,BitVec.toNat_ofNat];exact Nat.mod_eq_of_lt (by simp only[IntKind.bits];omega)
 have h2:(BitVec.ofInt IntKind.i64.bits 1).toNat=1:=by decide
 simp only[BitVec.toNat_and,h1,h2,Nat.and_one_is_mod]
 exact w64 (by omega) (by omega)
theorem or8 {a r:Nat}(hr:r<8)(h:a<2^r):bitOp .or .u8 (a:Int) ((2^r:Nat):Int)=((a+2^r:Nat):Int):=by
 have hp:2^r<=128:=by
  have:2^r<=2^7:=Nat.pow_le_pow_right (by omega) (by omega)
  simpa using this
 unfold bitOp
 have h1:(BitVec.ofInt IntKind.u8.bits (a:Int)).toNat=a:=by
  rw[BitVec.ofInt_natCast,BitVec.toNat_ofNat];exact Nat.mod_eq_of_lt (by simp only[IntKind.bits];omega)
 have h2:(BitVec.ofInt IntKind.u8.bits ((2^r:Nat):Int)).toNat=2^r:=by
  rw[BitVec.ofInt_natCast,BitVec.toNat_ofNat];exact Nat.mod_eq_of_lt (by simp only[IntKind.bits];omega)
 have h3:a ||| 2^r=a+2^r:=by
  have:=Nat.two_pow_add_eq_or_of_lt h 1
  rw[Nat.mul_one]at this
  rw[Nat.or_comm,<- this];omega
 simp only[BitVec.toNat_or,h1,h2,h3]
 exact wrap8 (by omega)
theorem shr_nat {n k:Nat}(hk:k<64):((n:Int).fdiv (2^(min ((k:Int)).toNat IntKind.i64.bits)))=((n / 2^k:Nat):Int):=by
 have:min ((k:Int)).toNat IntKind.i64.bits=k:=by simp only[IntKind.bits,Int.toNat_natCast];omega
 rw[this,Int.fdiv_eq_ediv_of_nonneg _ (Int.le_of_lt (Int.pow_pos (by decide)))]
 norm_cast
theorem testBit_mod (n k:Nat):n / 2^k%2=(n.testBit k).toNat:=by
 rw[Nat.testBit_eq_decide_div_mod_eq]
 rcases Nat.mod_two_eq_zero_or_one (n / 2^k)with h|h <;> simp[h]
theorem B_ofNat {x:Nat}(h:x<256):B (UInt8.ofNat x)= .int .u8 (x:Int):=by
 unfold B;rw[UInt8.toNat_ofNat'];rw[Nat.mod_eq_of_lt h]
theorem mask_at {r:Nat}(h:r<8):(#[.int .u8 1,.int .u8 2,.int .u8 4,.int .u8 8,.int .u8 16,.int .u8 32,.int .u8 64,.int .u8 128]:Array Value)[r]? =some (.int .u8 ((2^r:Nat):Int)):=by
 have:r=0\/r=1\/r=2\/r=3\/r=4\/r=5\/r=6\/r=7:=by omega
 rcases this with rfl|rfl|rfl|rfl|rfl|rfl|rfl|rfl <;> rfl

def bits8 (c:UInt8):List Bool:=bitsOf c.toNat 8
def ub (l:List UInt8):List Bool:=l.flatMap bits8
theorem length_bits8 (c:UInt8):(bits8 c).length=8:=length_bitsOf _ _
theorem length_ub:∀l:List UInt8,(ub l).length=8 * l.length
 |[]=>rfl
 |c::l=>by
  have:=length_ub l
  unfold ub at *
  rw[List.flatMap_cons,List.length_append,this,length_bits8,List.length_cons];omega
theorem val_bitsOf (n:Nat):∀k,val (bitsOf n k)=n%2^k
 |0=>by simp[bitsOf,val,Nat.mod_one]
 |k+1=>by
  rw[bitsOf_succ,val_append,length_bitsOf,val_bitsOf n k,Nat.mod_pow_succ,testBit_mod]
  simp[val]
theorem val_bits8 (c:UInt8):val (bits8 c)=c.toNat:=by
 unfold bits8;rw[val_bitsOf];exact Nat.mod_eq_of_lt c.toNat_lt
theorem byteAt_ub_lt {l:List UInt8}{i:Nat}(h:i<l.length)(m:List Bool):byteAt (ub l++m) i=l[i].toNat:=by
 unfold byteAt
 have e:ub l=ub (l.take i)++(bits8 l[i]++ub (l.drop (i+1))):=by
  unfold ub
  rw[<- List.flatMap_cons,<- List.flatMap_append,<- List.drop_eq_getElem_cons h,List.take_append_drop]
 have hl:(ub (l.take i)).length=8 * i:=by rw[length_ub,List.length_take];omega
 rw[e,List.append_assoc,List.append_assoc,<- hl,List.drop_left]
 have h8:=length_bits8 l[i]
 rw[show(8:Nat)=(bits8 l[i]).length from h8.symm,List.take_left,val_bits8]
def padTo8 (L:List Bool):List Bool:=L++List.replicate ((8-L.length%8)%8) false
theorem length_pad (L:List Bool):(padTo8 L).length=8 * ((L.length+7) / 8):=by
 unfold padTo8;simp;omega
theorem val_false:∀n,val (List.replicate n false)=0
 |0=>rfl
 |n+1=>by simp[List.replicate_succ,val,val_false n]
theorem byteAt_pad (L:List Bool)(n i:Nat):byteAt (L++List.replicate n false) i=byteAt L i:=by
 unfold byteAt
 rw[List.drop_append,List.take_append,val_append,List.drop_replicate,List.take_replicate,val_false]
 simp
theorem pk_pad (L:List Bool):pk (padTo8 L)=pk L:=by
 unfold pk
 rw[length_pad,show(8 * ((L.length+7) / 8)+7) / 8=(L.length+7) / 8 by omega]
 unfold pkn padTo8
 refine List.map_congr_left fun i _=>?_
 rw[byteAt_pad]
theorem pk_append {L:List Bool}(h:L.length%8=0)(l:List UInt8):pk (L++ub l)=pk L++l:=by
 unfold pk pkn
 rw[List.length_append,length_ub]
 rw[show(L.length+8 * l.length+7) / 8=L.length / 8+l.length by omega,show(L.length+7) / 8=L.length / 8 by omega]
 rw[List.range_add,List.map_append]
 congr 1
 ·refine List.map_congr_left fun i hi=>?_
  rw[List.mem_range]at hi
  unfold byteAt
  rw[List.drop_append_of_le_length (by omega),List.take_append_of_le_length (by simp;omega)]
 ·rw[List.map_map]
  apply List.ext_getElem
  ·simp
  ·intro i h1 h2
   simp only[List.getElem_map,List.getElem_range,Function.comp_apply]
   have:byteAt (L++ub l) (L.length / 8+i)=byteAt (ub l) i:=by
    unfold byteAt
    rw[List.drop_append,List.drop_eq_nil_of_le (by omega),List.nil_append]
    congr 3;omega
   have h3:=byteAt_ub_lt h2 []
   rw[List.append_nil]at h3
   rw[this,h3];simp
theorem shr8 {n k:Nat}(hk:k<8):((n:Int).fdiv (2^(min ((k:Int)).toNat IntKind.u8.bits)))=((n / 2^k:Nat):Int):=by
 have:min ((k:Int)).toNat IntKind.u8.bits=k:=by simp only[IntKind.bits,Int.toNat_natCast];omega
 rw[this,Int.fdiv_eq_ediv_of_nonneg _ (Int.le_of_lt (Int.pow_pos (by decide)))]
 norm_cast
theorem and1_8 {a:Nat}(h:a<256):bitOp .and .u8 (a:Int) 1=((a%2:Nat):Int):=by
 unfold bitOp
 have h1:(BitVec.ofInt IntKind.u8.bits (a:Int)).toNat=a:=by
  rw[BitVec.ofInt_natCast,BitVec.toNat_ofNat];exact Nat.mod_eq_of_lt (by simp only[IntKind.bits];omega)
 have h2:(BitVec.ofInt IntKind.u8.bits 1).toNat=1:=by decide
 simp only[BitVec.toNat_and,h1,h2,Nat.and_one_is_mod]
 exact wrap8 (by omega)
theorem ub_get:∀ {l:List UInt8} {i:Nat} (h:i / 8<l.length),(ub l)[i]? =some (l[i / 8].toNat.testBit (i%8))
 |c::l,i,h=>by
  have e:ub (c::l)=bits8 c++ub l:=by unfold ub;rw[List.flatMap_cons]
  rw[e]
  by_cases hi:i<8
  ·rw[List.getElem?_append_left (by rw[length_bits8];exact hi)]
   have h0:i / 8=0:=by omega
   have h1:i%8=i:=by omega
   simp only[h0,h1,List.getElem_cons_zero,bits8,bitsOf]
   simp[hi]
  ·rw[List.getElem?_append_right (by rw[length_bits8];omega),length_bits8]
   have h0:i / 8=(i-8) / 8+1:=by omega
   have h1:i%8=(i-8)%8:=by omega
   rw[ub_get (l:=l) (i:=i-8) (by rw[h0]at h;simpa using h)]
   simp only[h0,h1,List.getElem_cons_succ]
def tak (L:List Bool)(at_ k:Nat):Nat:=val ((L.drop at_).take k)
theorem tak_lt (L:List Bool)(at_ k:Nat):tak L at_ k<2^k:=by
 refine Nat.lt_of_lt_of_le (val_lt _) (Nat.pow_le_pow_right (by omega) (List.length_take_le _ _))
theorem tak_succ {L:List Bool}{at_ k:Nat}{b:Bool}(h:L[at_+k]? =some b):tak L at_ (k+1)=tak L at_ k+2^k * b.toNat:=by
 have hl:at_+k<L.length:=by
  rcases Nat.lt_or_ge (at_+k) L.length with c|c
  ·exact c
  ·rw[List.getElem?_eq_none c]at h;cases h
 unfold tak
 have hd:(L.drop at_)[k]? =some b:=by rw[List.getElem?_drop];exact h
 have hk:k<(L.drop at_).length:=by rw[List.length_drop];omega
 rw[List.take_succ_eq_append_getElem hk,val_append,List.length_take,Nat.min_eq_left (by omega)]
 have:(L.drop at_)[k]=b:=by rw[List.getElem?_eq_getElem hk]at hd;exact Option.some.inj hd
 rw[this];simp[val]
theorem tak_zero (L:List Bool)(at_:Nat):tak L at_ 0=0:=by simp[tak,val]
theorem or_shl {a k:Nat}{b:Bool}(hk:k<33)(h:a<2^k):bitOp .or .i64 (a:Int) (((b.toNat * 2^k:Nat)):Int)=((a+2^k * b.toNat:Nat):Int):=by
 have hp:2^k<=4294967296:=by
  have:2^k<=2^32:=Nat.pow_le_pow_right (by omega) (by omega)
  simpa using this
 have hb:b.toNat * 2^k<=4294967296:=by cases b <;> simp <;> omega
 unfold bitOp
 have h1:(BitVec.ofInt IntKind.i64.bits (a:Int)).toNat=a:=by
  rw[BitVec.ofInt_natCast,BitVec.toNat_ofNat];exact Nat.mod_eq_of_lt (by simp only[IntKind.bits];omega)
 have h2:(BitVec.ofInt IntKind.i64.bits ((b.toNat * 2^k:Nat):Int)).toNat=b.toNat * 2^k:=by
  rw[BitVec.ofInt_natCast,BitVec.toNat_ofNat];exact Nat.mod_eq_of_lt (by simp only[IntKind.bits];omega)
 have h3:a ||| b.toNat * 2^k=a+2^k * b.toNat:=by
  have:=Nat.two_pow_add_eq_or_of_lt h b.toNat
  rw[Nat.or_comm,Nat.mul_comm b.toNat,<- this];omega
 simp only[BitVec.toNat_or,h1,h2,h3]
 have:2^k * b.toNat<=4294967296:=by rw[Nat.mul_comm];exact hb
 exact w64 (by omega) (by omega)

def bitI (n:Int)(i:Nat):Bool:=decide (n / 2^i%2=1)
def bl (n:Int)(i:Nat):List Bool:=(List.range i).map (bitI n)
theorem bl_succ (n:Int)(i:Nat):bl n (i+1)=bl n i++[bitI n i]:=by simp[bl,List.range_succ]
theorem length_bl (n:Int)(i:Nat):(bl n i).length=i:=by simp[bl]
def rv (n:Int)(i:Nat):Nat:=val (bl n i).reverse
theorem rv_succ (n:Int)(i:Nat):rv n (i+1)=2 * rv n i+(bitI n i).toNat:=by
 unfold rv;rw[bl_succ,List.reverse_append];simp[val];omega
theorem rv_lt (n:Int)(i:Nat):rv n i<2^i:=by
 have:=val_lt (bl n i).reverse
 rwa [List.length_reverse,length_bl]at this
theorem bit_toNat (n:Int)(i:Nat):((bitI n i).toNat:Int)=n / 2^i%2:=by
 unfold bitI
 rcases Int.emod_two_eq (n / 2^i)with h|h <;> simp[h]
theorem and1I (a:Int):bitOp .and .i64 a 1=a%2:=by
 unfold bitOp
 have h2:(BitVec.ofInt IntKind.i64.bits 1).toNat=1:=by decide
 simp only[BitVec.toNat_and,h2,Nat.and_one_is_mod,BitVec.toNat_ofInt]
 rw[w64 (by omega) (by omega)]
 simp only[IntKind.bits]
 omega
theorem shrI {n:Int}{k:Nat}(hk:k<64):n.fdiv (2^(min ((k:Int)).toNat IntKind.i64.bits))=n / 2^k:=by
 have:min ((k:Int)).toNat IntKind.i64.bits=k:=by simp only[IntKind.bits,Int.toNat_natCast];omega
 rw[this,Int.fdiv_eq_ediv_of_nonneg _ (Int.le_of_lt (Int.pow_pos (by decide)))]
theorem or_two {a:Nat}{b:Bool}(h:a<4294967296):bitOp .or .i64 (((a * 2:Nat)):Int) (b.toNat:Int)=((2 * a+b.toNat:Nat):Int):=by
 have hb:b.toNat<=1:=Bool.toNat_le b
 unfold bitOp
 have h1:(BitVec.ofInt IntKind.i64.bits ((a * 2:Nat):Int)).toNat=a * 2:=by
  rw[BitVec.ofInt_natCast,BitVec.toNat_ofNat];exact Nat.mod_eq_of_lt (by simp only[IntKind.bits];omega)
 have h2:(BitVec.ofInt IntKind.i64.bits (b.toNat:Int)).toNat=b.toNat:=by
  rw[BitVec.ofInt_natCast,BitVec.toNat_ofNat];exact Nat.mod_eq_of_lt (by simp only[IntKind.bits];omega)
 have h3:a * 2 ||| b.toNat=2 * a+b.toNat:=by
  have:=Nat.two_pow_add_eq_or_of_lt (i:=1) (b:=b.toNat) (by omega) a
  rw[Nat.pow_one]at this
  rw[Nat.mul_comm a 2,<- this]
 simp only[BitVec.toNat_or,h1,h2,h3]
 exact w64 (by omega) (by omega)
end Go.Proofs.YtndojgomlkpeaaaGreatDoor.M
namespace Go.Proofs.YtndojgomlkpeaaaGreatDoor.B
open Go Go.Proofs Sh Sl T M
theorem none_some {W:World}{p:Nat}{a b:Value}{m:Bool}:Cn p_ 157 [.pointer (some ⟨p,0,none⟩)] W [pt p (.cells #[a,b,.bool m] 205)] (fun _:Unit=> .bool (!m)) (fun _=>[pt p (.cells #[a,b,.bool m] 205)]):=by
 (refine Shp.cn (Sg.g_ Tryz.call157 Tryz.func157) fun F=>?_;simp only[ca_,na_])
 refine o_ v_eqNil1 ?_;refine e_gdT (e_gdT (o_ v_nil (e_gdT (o_ v_fa0 (e_gdT (ln_ ?_))))));refine e_gdT (o_ v_not (o_ v_pickF ?_))
 (refine e_ret Unit.unit (by rfl) ?_;(repeat(first|exact .refl|exact .nil|(apply Imp.pick;(focus ((repeat constructor);done)))|refine .drop ?_)))
def IsW (p:Nat)(l:List Bool):HP:=ex fun q:Option Addr × Nat=>all [pt p (.cells #[.slice q.1 (pk l).length q.2,.int .i64 (l.length:Int),.bool true] 205),Sl 1 5 q.1 q.2 (pk l).length ((pk l).map B),pu (l.length<=8388608)]
def badP (n k:Int):Prop:=k<0\/32<k\/n<0\/2^k.toNat<=n
instance (n k:Int):Decidable (badP n k):=by unfold badP;infer_instance
def putR (l:List Bool)(n k:Int):Int:=if badP n k then 1 else if 8388608-(l.length:Int)<k then 6 else 0
def putL (l:List Bool)(n k:Int):List Bool:=if putR l n k=0 then l++bitsOf n.toNat k.toNat else l
theorem masks {W:World}:Cn p_ 204 [] W [] (fun _:Unit=> .agg #[.int .u8 1,.int .u8 2,.int .u8 4,.int .u8 8,.int .u8 16,.int .u8 32,.int .u8 64,.int .u8 128]) (fun _=>[]):=by
 (refine Shp.cn (Sg.g_ Tryz.call204 Tryz.func204) fun F=>?_;simp only[ca_,na_])
 refine e_newA fun g=>?_;refine o_ v_rv ?_;refine sg_ ?_;(((refine' e_stS (v_resA ?hn) ?hi ?_);(case hi=>exact im_);(case hn=>rfl)))
 (refine e_ret Unit.unit (by rfl) ?_;(repeat(first|exact .refl|exact .nil|(apply Imp.pick;(focus ((repeat constructor);done)))|refine .drop ?_)))
def IsWx (p:Nat)(l:List Bool):HP:=ex fun q:Option Addr × Nat=>all [pt p (.cells #[.slice q.1 (pkx l).length q.2,.int .i64 (l.length:Int),.bool true] 205),Sl 1 5 q.1 q.2 (pkx l).length ((pkx l).map B)]
theorem put {W : World} {p : Nat} {l : List Bool} {n k : Int} : Cn p_ 156 [.pointer (some ⟨p, 0, none⟩), .int .i64 n, .int .i64 k] W [IsW p l] (fun _ : Unit => .int .i64 (putR l n k)) (fun _ => [IsW p (putL l n k)]) := by
 (refine Shp.cn (Sg.g_ Tryz.call156 Tryz.func156 (an := { cuts := [(6, [9]), (15, []), (17, [])], loops := [(11, [35])], drs := [(16, .ofL [(0, 1), (1, 1), (2, 1), (3, 1), (4, 1), (5, 1), (6, 1), (7, 1), (8, 1), (9, 1), (10, 1), (11, 1), (12, 1), (13, 1), (14, 1), (15, 1), (16, 1), (17, 1), (18, 1), (19, 1), (20, 0)])] })) fun F => ?_; simp only [ca_, na_])
 refine e_ex Pick.here fun q => ?_
 obtain ⟨qa, qc⟩ := q
 refine e_all Pick.here ?_
 (try simp only [ca_, na_])
 refine e_pu (.there (.there .here)) fun hL => ?_
 refine e_cut1 (fun z => pt p (.cells #[.slice qa (pk l).length qc, .int .i64 (l.length : Int), .bool true] 205) :: Sl 1 5 qa qc (pk l).length ((pk l).map B) :: pu (z = .bool (decide (badP n k))) :: F) ?_ ?_
 ·intro ds z
  refine e_pu (.there (.there .here)) fun hz => ?_
  subst hz
  by_cases hb : badP n k
  ·rw [dT_ hb]
   refine e_condT ?_
   refine e_ret () (by simp [putR, hb]) ?_
   rw [show putL l n k = l by simp [putL, putR, hb]]
   refine Imp.ex (qa, qc) (.all ?_)
   (try simp only [ca_, na_])
   refine .pick .here (.pick .here (.pu hL .refl))
  ·rw [dF_ hb]
   refine e_condF ?_; refine e_opN v_nil .nil ?_; refine e_opN v_fa0 .nil ?_; (((refine' e_opN (v_ldN ?hc) ?hi ?_); (case hi => exact .pick (by repeat constructor) .nil); (case hc => repeat constructor))); (refine e_opN (v_sub (by omega) (by omega)) .nil ?_)
   refine e_ask v_gtr .nil (fun h => ?_) (fun h => ?_)
   ·(refine e_condT ?_)
    refine e_ret () (by simp [putR, hb, h]) ?_
    rw [show putL l n k = l by simp [putL, putR, hb, h]]
    refine Imp.ex (qa, qc) (.all ?_)
    (try simp only [ca_, na_])
    refine .pick .here (.pick .here (.pu hL .refl))
   ·(refine e_condF ?_)
    (refine' e_call (masks) ?hp fun _ => ?_; (case hp => (repeat (first | exact Picks.nil | (apply Picks.cons; (focus repeat constructor))))); (try simp only [ca_, na_, Bool.not_true, Bool.not_false]))
    refine e_newA fun g => ?_; (((refine' e_stAgg ?hp ?hn ?hv ?h1 ?_); (case hp => (repeat constructor)); (case hn => rfl); (case hv => rfl); (case h1 => simp [Value.oneCell'])))
    rename_i g
    have hR : putR l n k = 0 := by simp [putR, hb, h]
    have hb' : 0 <= k /\ k <= 32 /\ 0 <= n /\ n < 2 ^ k.toNat := by unfold badP at hb; omega
    have hPL : putL l n k = l ++ bitsOf n.toNat k.toNat := by simp [putL, hR]
    rw [hR, hPL]
    obtain ⟨h1, h2, h3, h4⟩ := hb'
    obtain ⟨K, rfl⟩ := Int.eq_ofNat_of_zero_le h1
    obtain ⟨N, rfl⟩ := Int.eq_ofNat_of_zero_le h3
    rw [Int.toNat_natCast] at h4
    rw [Int.toNat_natCast, Int.toNat_natCast]
    have hN : N < 4294967296 := by
     have : (2 : Int) ^ K = ((2 ^ K : Nat) : Int) := by norm_cast
     have h32 : 2 ^ K <= 2 ^ 32 := Nat.pow_le_pow_right (by omega) (by omega)
     omega
    clear hR hPL hb h4
    refine e_loop1 (fun m y => [ex fun i : Nat => all [pu (m + i = K /\ y = .int .i64 (i : Int)), pt g (.cells #[.int .u8 1, .int .u8 2, .int .u8 4, .int .u8 8, .int .u8 16, .int .u8 32, .int .u8 64, .int .u8 128] 266), IsW p (l ++ bitsOf N i)]] ++ F) K ?_ ?_
    ·refine Imp.ex 0 (.all ?_)
     (try simp only [ca_, na_])
     refine .pu ⟨by omega, rfl⟩ (.pick .here (.ex (qa, qc) (.all ?_)))
     (try simp only [ca_, na_])
     rw [show l ++ bitsOf N 0 = l by simp [bitsOf]]
     exact .pick .here (.pick .here (.pu hL .refl))
    ·intro m ds y
     (try simp only [ca_, na_])
     refine e_ex Pick.here fun i => e_all Pick.here ?_
     (try simp only [ca_, na_])
     refine e_pu Pick.here fun hi => ?_
     obtain ⟨hm, rfl⟩ := hi
     obtain ⟨L, hLe⟩ : ∃ L, L = l ++ bitsOf N i := ⟨_, rfl⟩
     have hLl : L.length = l.length + i := by rw [hLe, List.length_append, length_bitsOf]
     rw [<- hLe]
     refine e_ask v_lss .nil (fun h => ?_) (fun h => ?_)
     ·have hik : i < K := by omega
      refine e_condT ?_
      refine e_cut0 ([pt g (.cells #[.int .u8 1, .int .u8 2, .int .u8 4, .int .u8 8, .int .u8 16, .int .u8 32, .int .u8 64, .int .u8 128] 266), IsWx p L] ++ F) ?_ ?_
      ·intro ds2
       (try simp only [ca_, na_])
       refine e_ex (.there .here) fun q2 => ?_
       obtain ⟨xa, xc⟩ := q2
       refine e_all Pick.here ?_
       (try simp only [ca_, na_])
       refine e_cut0 ([pt g (.cells #[.int .u8 1, .int .u8 2, .int .u8 4, .int .u8 8, .int .u8 16, .int .u8 32, .int .u8 64, .int .u8 128] 266), pt p (.cells #[.slice xa (pkx L).length xc, .int .i64 (L.length : Int), .bool true] 205), Sl 1 5 xa xc (pkx L).length ((pk (L ++ [N.testBit i])).map B)] ++ F) ?_ ?_
       ·intro ds3
        (try simp only [ca_, na_])
        refine e_opN v_nil .nil ?_; refine e_opN v_fa0 .nil ?_; (((refine' e_opN (v_ldN ?hc) ?hi ?_); (case hi => exact .pick (by repeat constructor) .nil); (case hc => repeat constructor))); (refine e_opN (v_add (by omega) (by omega)) .nil ?_); refine e_opN v_nil .nil ?_; refine e_opN v_fa0 .nil ?_; (((refine' e_stN ?hp ?ho ?_); (case hp => (repeat constructor)); (case ho => repeat constructor))); (refine e_opN (v_add (by omega) (by omega)) .nil ?_)
        refine e_next1 (m - 1) (by omega) (.ex (i + 1) (.all ?_))
        (try simp only [ca_, na_])
        refine .pu ⟨by omega, by norm_cast⟩ (.pick (.there .here) (.ex (xa, xc) (.all ?_)))
        (try simp only [ca_, na_])
        have e1 : l ++ bitsOf N (i + 1) = L ++ [N.testBit i] := by rw [hLe, bitsOf_succ, List.append_assoc]
        have e2 : (pk (L ++ [N.testBit i])).length = (pkx L).length := by rw [length_pk, length_pkx]; simp; omega
        rw [e1, e2]
        have e3 : ((L ++ [N.testBit i]).length : Int) = (L.length : Int) + 1 := by simp
        rw [e3]
        exact .pick .here (.pick (.here) (.pu (by simp; omega) .refl))
       ·refine e_opN v_conv .nil ?_
        rw [wrapu64 (by omega)]
        refine e_opN (v_shr (by omega)) .nil ?_
        rw [shr_nat (by omega)]
        refine e_opN v_and .nil ?_
        have hdiv : N / 2 ^ i <= N := Nat.div_le_self _ _
        rw [and1 (by omega), testBit_mod]
        refine e_ask v_eql .nil (fun h => ?_) (fun h => ?_)
        ·have hbit : N.testBit i = true := by
          cases hh : N.testBit i with
          | true => rfl
          | false => rw [hh] at h; simp at h
         have hpx := length_pkx L
         refine e_slsome (.there .here) (by omega) fun g1 hg1 => ?_
         subst hg1
         refine e_condT ?_; refine e_drS ?_; refine e_stS v_nil .nil ?_; refine e_stS v_fa0 .nil ?_; (((refine' e_stS (v_ldN ?hc) ?hi ?_); (case hi => exact .pick (by repeat constructor) .nil); (case hc => repeat constructor))); refine e_stS v_nil .nil ?_; refine e_stS v_fa0 .nil ?_; (((refine' e_stS (v_ldN ?hc) ?hi ?_); (case hi => exact .pick (by repeat constructor) .nil); (case hc => repeat constructor))); (((refine e_stS (v_quo ?h1 ?h2 ?h3) .nil ?_); (case h1 => omega); (case h2 => omega); (case h3 => omega)))
         refine e_stS (v_ia1 (L.length / 8) (by norm_cast) (by omega)) .nil ?_
         refine e_stS (v_ldSl (v := B (UInt8.ofNat (byteAt L (L.length / 8)))) (by rw [Nat.zero_add, List.getElem?_map, pkx_last]; rfl)) (.pick (.there .here) .nil) ?_
         refine e_stS v_nil .nil ?_; refine e_stS v_fa0 .nil ?_; (((refine' e_stS (v_ldN ?hc) ?hi ?_); (case hi => exact .pick (by repeat constructor) .nil); (case hc => repeat constructor))); (((refine e_stS (v_rem ?h1 ?h2) .nil ?_); (case h1 => omega); (case h2 => omega)))
         refine e_stS (v_iaA (L.length % 8) (by norm_cast) (by omega)) .nil ?_
         refine e_stS (v_ld (by rw [Nat.zero_add, Nat.mul_one]; exact mask_at (by omega))) (.pick (.there (.there .here)) .nil) ?_
         rw [B_ofNat (byteAt_lt _ _)]
         refine e_stS v_or .nil ?_
         rw [or8 (by omega) (byteAt_last L)]
         refine e_stS (v_ia1 (L.length / 8) (by norm_cast) (by omega)) .nil ?_
         refine e_stSl (.there .here) (by simp; omega) ?_
         refine e_sat ?_
         have e4 : byteAt L (L.length / 8) + 2 ^ (L.length % 8) < 256 := by
          have := byteAt_lt (L ++ [true]) (L.length / 8)
          rw [byteAt_snoc_eq] at this; simpa using this
         rw [hbit, pk_snoc_t, Nat.zero_add, List.map_set, B_ofNat e4]
         (try simp only [ca_, na_])
         (repeat (first | exact .refl | exact .nil | (apply Imp.pick; (focus ((repeat constructor); done))) | refine .drop ?_))
        ·have hbit : N.testBit i = false := by
          cases hh : N.testBit i with
          | false => rfl
          | true => rw [hh] at h; simp at h
         refine e_condF ?_
         refine e_sat ?_
         rw [hbit, pk_snoc_f]
         (try simp only [ca_, na_])
         (repeat (first | exact .refl | exact .nil | (apply Imp.pick; (focus ((repeat constructor); done))) | refine .drop ?_))
      ·refine e_ex (.there .here) fun q2 => ?_
       obtain ⟨xa, xc⟩ := q2
       refine e_all Pick.here ?_
       (try simp only [ca_, na_])
       refine e_pu (.there (.there .here)) fun hL2 => ?_
       refine e_opN v_nil .nil ?_; refine e_opN v_fa0 .nil ?_; (((refine' e_opN (v_ldN ?hc) ?hi ?_); (case hi => exact .pick (by repeat constructor) .nil); (case hc => repeat constructor))); (((refine e_opN (v_rem ?h1 ?h2) .nil ?_); (case h1 => omega); (case h2 => omega)))
       have hpk := length_pk L
       refine e_ask v_eql .nil (fun h => ?_) (fun h => ?_)
       ·(refine e_condT ?_); refine e_opN v_nil .nil ?_; refine e_opN v_fa0 .nil ?_; (((refine' e_opN (v_ldN ?hc) ?hi ?_); (case hi => exact .pick (by repeat constructor) .nil); (case hc => repeat constructor))); refine e_bsl1 fun g => ?_
        refine e_app (m := 1) (news := [B 0]) (.there (.there .here)) (src_pt (e' := 5) (by kernel_rfl) .here (by rfl) (B_one (l := [0]))) (by omega) (by omega) fun a' c' => ?_
        refine e_opN v_nil .nil ?_; refine e_opN v_fa0 .nil ?_; (((refine' e_stN ?hp ?ho ?_); (case hp => (repeat constructor)); (case ho => repeat constructor)))
        refine e_sat ?_
        (try simp only [ca_, na_])
        refine .pick (.there (.there (.there .here))) (.ex (a', c') (.all ?_))
        (try simp only [ca_, na_])
        have h8 : L.length % 8 = 0 := by omega
        rw [pkx0 h8]
        simp only [List.length_append, List.length_singleton, List.map_append, List.map_cons, List.map_nil]
        (repeat (first | exact .refl | exact .nil | (apply Imp.pick; (focus ((repeat constructor); done))) | refine .drop ?_))
       ·(refine e_condF ?_)
        refine e_sat ?_
        (try simp only [ca_, na_])
        refine .pick (.there (.there .here)) (.ex (xa, xc) (.all ?_))
        (try simp only [ca_, na_])
        rw [pkx1 (by omega)]
        (repeat (first | exact .refl | exact .nil | (apply Imp.pick; (focus ((repeat constructor); done))) | refine .drop ?_))
     ·have : i = K := by omega
      subst this
      refine e_condF ?_
      refine e_retT () ?_
      rw [<- hLe]
      exact .pick (.there .here) (.drop .refl)
 ·(refine' e_call (none_some) ?hp fun _ => ?_; (case hp => (repeat (first | exact Picks.nil | (apply Picks.cons; (focus repeat constructor))))); (try simp only [ca_, na_, Bool.not_true, Bool.not_false]))
  refine e_condF ?_
  have fin : ∀ z : Value, z = .bool (decide (badP n k)) -> Ent W (pt p (.cells #[.slice qa (pk l).length qc, .int .i64 (l.length : Int), .bool true] 205) :: Sl 1 5 qa qc (pk l).length ((pk l).map B) :: F) (fun w => sat W (pt p (.cells #[.slice qa (pk l).length qc, .int .i64 (l.length : Int), .bool true] 205) :: Sl 1 5 qa qc (pk l).length ((pk l).map B) :: pu (z = .bool (decide (badP n k))) :: F) w) := fun z hz => e_sat (.pick .here (.pick .here (.pu hz .refl)))
  refine e_ask v_lss .nil (fun h => ?_) (fun h => ?_)
  ·(refine e_condT ?_)
   exact fin _ (by rw [dT_ (show badP n k from .inl h)])
  ·(refine e_condF ?_)
   refine e_ask v_gtr .nil (fun h => ?_) (fun h => ?_)
   ·(refine e_condT ?_)
    exact fin _ (by rw [dT_ (show badP n k from .inr (.inl ‹_›))])
   ·(refine e_condF ?_)
    refine e_ask v_lss .nil (fun h => ?_) (fun h => ?_)
    ·(refine e_condT ?_)
     exact fin _ (by rw [dT_ (show badP n k from .inr (.inr (.inl ‹_›)))])
    ·(refine e_condF ?_)
     refine e_opN v_min .nil ?_
     rw [if_neg (by omega)]
     refine e_opN v_max .nil ?_
     rw [show (if (0 : Int) < k then k else 0) = k by split <;> omega]
     obtain ⟨K, rfl⟩ := Int.eq_ofNat_of_zero_le (show 0 <= k by omega)
     refine e_opN v_conv .nil ?_
     rw [wrapu64 (by omega)]
     refine e_opN (v_shl (by omega)) .nil ?_
     have hm : min ((K : Int)).toNat IntKind.i64.bits = K := by simp only [IntKind.bits, Int.toNat_natCast]; omega
     have h32 : 2 ^ K <= 2 ^ 32 := Nat.pow_le_pow_right (by omega) (by omega)
     have hc : (2 : Int) ^ K = ((2 ^ K : Nat) : Int) := by norm_cast
     obtain ⟨E, hE⟩ : ∃ E, E = 2 ^ K := ⟨_, rfl⟩
     rw [<- hE] at hc h32
     rw [hm, Int.one_mul, hc, w64 (by omega) (by omega)]
     refine e_opN v_geq .nil ?_
     refine fin _ ?_
     have : ((E : Int) <= n) ↔ badP n K := by
      unfold badP
      rw [Int.toNat_natCast, hc]
      constructor
      ·exact fun h => .inr (.inr (.inr h))
      ·rintro (h | h | h | h)
       ·omega
       ·omega
       ·omega
       ·exact h
     rw [decide_eq_decide.2 this]
theorem newWriter {W:World}:Cn p_ 110 [] W [] (fun p:Nat=> .pointer (some ⟨p,0,none⟩)) (fun p=>[IsW p []]):=by
 (refine Shp.cn (Sg.g_ Tryz.call110 Tryz.func110) fun F=>?_;simp only[ca_,na_])
 refine o_ v_rv ?_;refine e_boxA fun g=>?_
 refine e_ret g rfl ?_
 refine .ex (none,0) (.all ?_)
 refine nr_ ?_
 refine .pick .here ?_
 rw[show(pk []).length=0 from rfl,show List.map B (pk [])=[]from rfl]
 exact imp_nil (.pu (by simp) .refl)
theorem bits {W:World}{p:Nat}{l:List Bool}:Cn p_ 155 [.pointer (some ⟨p,0,none⟩)] W [IsW p l] (fun _:Unit=> .int .i64 (l.length:Int)) (fun _=>[IsW p l]):=by
 (refine Shp.cn (Sg.g_ Tryz.call155 Tryz.func155) fun F=>?_;simp only[ca_,na_])
 refine e_ex Pick.here fun q=>?_
 obtain⟨qa,qc⟩:=q
 refine e_all Pick.here ?_
 refine nr_ ?_
 refine e_pu (.there (.there .here)) fun hL=>?_
 refine c_ none_some fun _=>?_
 refine e_condF (o_ v_nil (o_ v_fa0 (ln_ ?_)))
 refine e_ret () rfl ?_
 refine .ex (qa,qc) (.all ?_)
 refine nr_ ?_
 exact .pick .here (.pick .here (.pu hL .refl))
theorem align0 {W:World}{p n qc:Nat}{qa:Option Addr}{m:Int}(hn:n<=4611686018427387904 / 8):Cn p_ 197 [.pointer (some ⟨p,0,none⟩)] W [pt p (.cells #[.slice qa n qc,.int .i64 m,.bool true] 205)] (fun _:Unit=> .tuple #[]) (fun _=>[pt p (.cells #[.slice qa n qc,.int .i64 (8 * (n:Int)),.bool true] 205)]):=by
 (refine Shp.cn (Sg.g_ Tryz.call197 Tryz.func197) fun F=>?_;simp only[ca_,na_])
 refine c_ none_some fun _=>?_
 refine o_ v_notF (e_condT (o_ v_nil (o_ v_fa0 (ln_ ?_))));refine o_ v_len ?_;(refine o_ (v_mul (by omega) (by omega)) ?_);refine o_ v_nil (o_ v_fa0 (sn_ ?_))
 refine e_retT () ?_
 exact .pick .here .refl
theorem align {W:World}{p:Nat}{l:List Bool}:Cn p_ 197 [.pointer (some ⟨p,0,none⟩)] W [IsW p l] (fun _:Unit=> .tuple #[]) (fun _=>[IsW p (padTo8 l)]):=by
 (refine Shp.cn (Sg.g_ Tryz.call197 Tryz.func197) fun F=>?_;simp only[ca_,na_])
 refine e_ex Pick.here fun q=>?_
 obtain⟨qa,qc⟩:=q
 refine e_all Pick.here ?_
 refine nr_ ?_
 refine e_pu (.there (.there .here)) fun hL=>?_
 have hpk:=length_pk l
 refine c_ none_some fun _=>?_
 refine o_ v_notF (e_condT (o_ v_nil (o_ v_fa0 (ln_ ?_))));refine o_ v_len ?_;(refine o_ (v_mul (by omega) (by omega)) ?_);refine o_ v_nil (o_ v_fa0 (sn_ ?_))
 refine e_retT () ?_
 refine .ex (qa,qc) (.all ?_)
 refine nr_ ?_
 rw[pk_pad,show((padTo8 l).length:Int)=8 * ((pk l).length:Int) by rw[length_pad,hpk];norm_cast]
 exact .pick .here (.pick .here (.pu (by rw[length_pad];omega) .refl))
theorem bytes {W:World}{p:Nat}{l:List Bool}:Cn p_ 113 [.pointer (some ⟨p,0,none⟩)] W [IsW p l] (fun q:Option Addr × Nat=> .slice q.1 (pk l).length q.2) (fun q=>[Sl 1 5 q.1 q.2 (pk l).length ((pk l).map B),IsW p l]):=by
 (refine Shp.cn (Sg.g_ Tryz.call113 Tryz.func113) fun F=>?_;simp only[ca_,na_])
 refine e_ex Pick.here fun q=>?_
 obtain⟨qa,qc⟩:=q
 refine e_all Pick.here ?_
 refine nr_ ?_
 refine e_pu (.there (.there .here)) fun hL=>?_
 have hpk:=length_pk l
 refine c_ none_some fun _=>?_
 refine e_condF (o_ v_nil (o_ v_fa0 (ln_ ?_)))
 refine e_nil (s:=1) (e:=5) ?_
 refine e_app (m:=(pk l).length) (news:=(pk l).map B) .here (src_sl (e':=5) (by kernel_rfl) (.there (.there .here)) B_one) (by omega) (by omega) fun a' c'=>?_
 rw[Nat.zero_add,List.nil_append]
 refine e_ret (a',c') rfl ?_
 refine .pick .here (.ex (qa,qc) (.all ?_))
 refine nr_ ?_
 exact .pick .here (.pick .here (.pu hL .refl))
def rawR (l:List Bool)(b:List UInt8):Int:=if 1048576<(pk l).length+b.length then 6 else 0
def rawL (l:List Bool)(b:List UInt8):List Bool:=if rawR l b=0 then padTo8 l++ub b else l
theorem raw {W : World} {p : Nat} {l : List Bool} {a : Option Addr} {cap : Nat} {b : List UInt8} {A : HP} (hr : RdB W A a b.length (b.map B)) (ha : a = none -> b.length = 0) (hb : b.length <= 4611686018427387904) :
  Cn p_ 198 [.pointer (some ⟨p, 0, none⟩), .slice a b.length cap] W [IsW p l, A] (fun _ : Unit => .int .i64 (rawR l b)) (fun _ => [IsW p (rawL l b), A]) := by
 (refine Shp.cn (Sg.g_ Tryz.call198 Tryz.func198) fun F => ?_; simp only [ca_, na_])
 refine e_ex Pick.here fun q => ?_
 obtain ⟨qa, qc⟩ := q
 refine e_all Pick.here ?_
 (try simp only [ca_, na_])
 refine e_pu (.there (.there .here)) fun hL => ?_
 have hpk := length_pk l
 (refine' e_call (none_some) ?hp fun _ => ?_; (case hp => (repeat (first | exact Picks.nil | (apply Picks.cons; (focus repeat constructor))))); (try simp only [ca_, na_, Bool.not_true, Bool.not_false]))
 refine e_condF ?_; refine e_opN v_len .nil ?_; refine e_opN v_nil .nil ?_; refine e_opN v_fa0 .nil ?_; (((refine' e_opN (v_ldN ?hc) ?hi ?_); (case hi => exact .pick (by repeat constructor) .nil); (case hc => repeat constructor))); refine e_opN v_len .nil ?_; (refine e_opN (v_sub (by omega) (by omega)) .nil ?_)
 refine e_ask v_gtr .nil (fun h => ?_) (fun h => ?_)
 ·(refine e_condT ?_)
  have hR : rawR l b = 6 := by unfold rawR; rw [if_pos (by omega)]
  rw [hR]
  refine e_ret () rfl ?_
  rw [show rawL l b = l by simp [rawL, hR]]
  refine .ex (qa, qc) (.all ?_)
  (try simp only [ca_, na_])
  exact .pick .here (.pick .here (.pu hL .refl))
 ·have hR : rawR l b = 0 := by unfold rawR; rw [if_neg (by omega)]
  rw [hR, show rawL l b = padTo8 l ++ ub b by simp [rawL, hR]]
  refine e_condF ?_; refine e_opN v_nil .nil ?_; refine e_opN v_fa0 .nil ?_; (((refine' e_opN (v_ldN ?hc) ?hi ?_); (case hi => exact .pick (by repeat constructor) .nil); (case hc => repeat constructor)))
  refine e_app (m := b.length) (news := b.map B) (.there .here) (src_rd (A := A) (e' := 5) (by kernel_rfl) (.there (.there .here)) hr ha B_one) (by omega) (by omega) fun a' c' => ?_
  refine e_opN v_nil .nil ?_; refine e_opN v_fa0 .nil ?_; (((refine' e_stN ?hp ?ho ?_); (case hp => (repeat constructor)); (case ho => repeat constructor)))
  (refine' e_call (align0 (n := (pk l).length + b.length) (by omega)) ?hp fun _ => ?_; (case hp => (repeat (first | exact Picks.nil | (apply Picks.cons; (focus repeat constructor))))); (try simp only [ca_, na_, Bool.not_true, Bool.not_false]))
  refine e_retT () ?_
  refine .ex (a', c') (.all ?_)
  (try simp only [ca_, na_])
  have hp8 : (padTo8 l).length % 8 = 0 := by rw [length_pad]; omega
  have hlen : (padTo8 l ++ ub b).length = 8 * ((pk l).length + b.length) := by rw [List.length_append, length_pad, length_ub]; omega
  rw [pk_append hp8, pk_pad, hlen, List.length_append, List.map_append, show ((8 * ((pk l).length + b.length) : Nat) : Int) = 8 * (((pk l).length + b.length : Nat) : Int) by norm_cast]
  exact .pick .here (.pick .here (.pu (by omega) (.pick .here .refl)))
def IsR (p:Nat)(b:List UInt8)(at_:Nat):HP:=ex fun q:Option Addr × Nat=>all [pt p (.cells #[.slice q.1 b.length q.2,.int .i64 (at_:Int),.bool true] 229),Sl 1 5 q.1 q.2 b.length (b.map B),pu (at_<=8 * b.length/\b.length<=140737488355328)]
theorem rnone_some {W:World}{p:Nat}{a b:Value}{m:Bool}:Cn p_ 183 [.pointer (some ⟨p,0,none⟩)] W [pt p (.cells #[a,b,.bool m] 229)] (fun _:Unit=> .bool (!m)) (fun _=>[pt p (.cells #[a,b,.bool m] 229)]):=by
 (refine Shp.cn (Sg.g_ Tryz.call183 Tryz.func183) fun F=>?_;simp only[ca_,na_])
 refine o_ v_eqNil1 ?_;refine e_gdT (e_gdT (o_ v_nil (e_gdT (o_ v_fa0 (e_gdT (ln_ ?_))))));refine e_gdT (o_ v_not (o_ v_pickF ?_))
 (refine e_ret Unit.unit (by rfl) ?_;(repeat(first|exact .refl|exact .nil|(apply Imp.pick;(focus ((repeat constructor);done)))|refine .drop ?_)))
theorem srcLeft {W:World}{p n c at_:Nat}{a:Option Addr}{m:Value}(hn:n<=140737488355328)(ha:at_<=8 * n):Cn p_ 184 [.pointer (some ⟨p,0,none⟩)] W [pt p (.cells #[.slice a n c,.int .i64 (at_:Int),m] 229)] (fun _:Unit=> .int .i64 (8 * (n:Int)-at_)) (fun _=>[pt p (.cells #[.slice a n c,.int .i64 (at_:Int),m] 229)]):=by
 (refine Shp.cn (Sg.g_ Tryz.call184 Tryz.func184 (an:={drs:=[(1,.ofL [(0,1),(1,1),(2,1),(3,1),(4,1),(5,1),(6,1),(7,1),(8,1),(9,1),(10,1),(11,1)])]})) fun F=>?_;simp only[ca_,na_])
 refine e_drS (t_ v_nil (t_ v_fa0 (ls_ ?_)));refine t_ v_len ?_;(refine t_ (v_mul (by omega) (by omega)) ?_);refine t_ v_nil (t_ v_fa0 (ls_ ?_));(refine t_ (v_sub (by omega) (by omega)) ?_)
 (refine e_ret Unit.unit (by rfl) ?_;(repeat(first|exact .refl|exact .nil|(apply Imp.pick;(focus ((repeat constructor);done)))|refine .drop ?_)))
theorem srcBit {W:World}{p at_:Nat}{b:List UInt8}{v:Bool}(hv:(ub b)[at_]? =some v):Cn p_ 215 [.pointer (some ⟨p,0,none⟩)] W [IsR p b at_] (fun _:Unit=> .int .i64 (v.toNat:Int)) (fun _=>[IsR p b (at_+1)]):=by
 (refine Shp.cn (Sg.g_ Tryz.call215 Tryz.func215 (an:={drs:=[(1,.ofL [(0,1),(1,1),(2,1),(3,1),(4,1),(5,1),(6,1),(7,1),(8,1),(9,1),(10,1),(11,1),(12,1),(13,1),(14,1),(15,1),(16,1),(17,1),(18,1),(19,1),(20,1)])]})) fun F=>?_;simp only[ca_,na_])
 refine e_ex Pick.here fun q=>?_
 obtain⟨qa,qc⟩:=q
 refine e_all Pick.here ?_
 refine nr_ ?_
 refine e_pu (.there (.there .here)) fun hL=>?_
 have hlt:at_<8 * b.length:=by
  rw[<- length_ub]
  rcases Nat.lt_or_ge at_ (ub b).length with h|h
  ·exact h
  ·rw[List.getElem?_eq_none h]at hv;cases hv
 have h8:at_ / 8<b.length:=by omega
 rw[ub_get h8]at hv
 have hv':=Option.some.inj hv
 refine e_slsome (.there .here) (by omega) fun g hg=>?_
 subst hg
 refine e_drS (t_ v_nil (t_ v_fa0 (ls_ ?_)));refine t_ v_nil (t_ v_fa0 (ls_ ?_));(((refine t_ (v_quo ?h1 ?h2 ?h3) ?_);(case h1=>omega);(case h2=>omega);(case h3=>omega)))
 refine t_ (v_ia1 (at_ / 8) (by norm_cast) (by omega)) ?_
 refine e_stS (v_ldSl (v:=B b[at_ / 8]) (by rw[Nat.zero_add];exact B_get h8)) (.pick (.there .here) .nil) ?_
 refine t_ v_nil (t_ v_fa0 (ls_ ?_));(((refine t_ (v_rem ?h1 ?h2) ?_);(case h1=>omega);(case h2=>omega)))
 have hb:=b[at_ / 8].toNat_lt
 refine t_ v_conv ?_
 rw[show((at_:Int)%8)=((at_%8:Nat):Int) by norm_cast,wrapu64 (by omega)]
 refine t_ (v_shr (by omega)) ?_
 rw[shr8 (by omega)]
 refine t_ v_and ?_
 have hdiv:b[at_ / 8].toNat / 2^(at_%8)<=b[at_ / 8].toNat:=Nat.div_le_self _ _
 rw[and1_8 (by omega),testBit_mod,hv']
 refine t_ v_conv ?_
 rw[w64 (by omega) (by cases v <;> simp)]
 refine o_ v_nil (o_ v_fa0 (ln_ ?_));refine ad_ ?_;refine o_ v_nil (o_ v_fa0 (sn_ ?_))
 refine e_ret () rfl ?_
 refine .ex (some ⟨g,0,none⟩,qc) (.all ?_)
 refine nr_ ?_
 rw[show((at_+1:Nat):Int)=(at_:Int)+1 by norm_cast]
 exact .pick .here (.pick .here (.pu ⟨by omega,hL.2⟩ .refl))
theorem newReader {W:World}{a:Option Addr}{cap:Nat}{b:List UInt8}{A:HP}(hr:RdB W A a b.length (b.map B))(ha:a=none->b.length=0)(hb:b.length<=140737488355328):
  Cn p_ 133 [.slice a b.length cap] W [A] (fun p:Nat=> .pointer (some ⟨p,0,none⟩)) (fun p=>[IsR p b 0,A]):=by
 (refine Shp.cn (Sg.g_ Tryz.call133 Tryz.func133) fun F=>?_;simp only[ca_,na_])
 refine e_nil (s:=1) (e:=5) ?_
 refine e_app (m:=b.length) (news:=b.map B) .here (src_rd (A:=A) (e':=5) (by kernel_rfl) (.there .here) hr ha B_one) (by omega) (by omega) fun a' c'=>?_
 rw[Nat.zero_add,List.nil_append]
 refine o_ v_rv ?_;refine o_ v_rv ?_;refine e_boxA fun g=>?_
 refine e_ret g rfl ?_
 refine .ex (a',c') (.all ?_)
 refine nr_ ?_
 exact .pick .here (.pick .here (.pu ⟨by omega,hb⟩ (.pick .here .refl)))
theorem left {W:World}{p at_:Nat}{b:List UInt8}:Cn p_ 139 [.pointer (some ⟨p,0,none⟩)] W [IsR p b at_] (fun _:Unit=> .int .i64 (8 * (b.length:Int)-at_)) (fun _=>[IsR p b at_]):=by
 (refine Shp.cn (Sg.g_ Tryz.call139 Tryz.func139) fun F=>?_;simp only[ca_,na_])
 refine e_ex Pick.here fun q=>?_
 obtain⟨qa,qc⟩:=q
 refine e_all Pick.here ?_
 refine nr_ ?_
 refine e_pu (.there (.there .here)) fun hL=>?_
 refine c_ rnone_some fun _=>?_
 refine e_condF (o_ v_nil (o_ v_fa0 (c_ (srcLeft hL.2 hL.1) fun _=>?_)))
 refine rt_ () ?_
 refine .ex (qa,qc) (.all ?_)
 refine nr_ ?_
 exact .pick .here (.pick .here (.pu hL .refl))
def takR (b:List UInt8)(at_:Nat)(k:Int):Int:=if k<0\/32<k then 1 else if 8 * (b.length:Int)-at_<k then 20 else 0
def takN (b:List UInt8)(at_:Nat)(k:Int):Nat:=if takR b at_ k=0 then tak (ub b) at_ k.toNat else 0
def takAt (b:List UInt8)(at_:Nat)(k:Int):Nat:=if takR b at_ k=0 then at_+k.toNat else at_
theorem take {W:World}{p at_:Nat}{b:List UInt8}{k:Int}:Cn p_ 182 [.pointer (some ⟨p,0,none⟩),.int .i64 k] W [IsR p b at_] (fun _:Unit=> .tuple #[.int .i64 (takN b at_ k:Int),.int .i64 (takR b at_ k)]) (fun _=>[IsR p b (takAt b at_ k)]):=by
 (refine Shp.cn (Sg.g_ Tryz.call182 Tryz.func182 (an:={cuts:=[(4,[8])],loops:=[(9,[6,23])]})) fun F=>?_;simp only[ca_,na_])
 refine e_cut1 (fun z=>IsR p b at_::pu (z= .bool (decide (k<0\/32<k)))::F) ?_ ?_
 ·intro ds z
  refine e_pu (.there .here) fun hz=>?_
  subst hz
  by_cases hb:k<0\/32<k
  ·rw[dT_ hb]
   have hR:takR b at_ k=1:=by simp[takR,hb]
   rw[hR,show takN b at_ k=0 by simp[takN,hR],show takAt b at_ k=at_ by simp[takAt,hR]]
   refine e_condT (rt_ () ?_)
   exact im_
  ·rw[dF_ hb]
   refine e_ex Pick.here fun q=>?_
   obtain⟨qa,qc⟩:=q
   refine e_all Pick.here ?_
   refine nr_ ?_
   refine e_pu (.there (.there .here)) fun hL=>?_
   refine e_condF (o_ v_nil (o_ v_fa0 (c_ (srcLeft hL.2 hL.1) fun _=>?_)))
   refine e_ask v_gtr .nil (fun h=>?_) (fun h=>?_)
   ·(refine e_condT ?_)
    have hR:takR b at_ k=20:=by simp[takR,hb,h]
    rw[hR,show takN b at_ k=0 by simp[takN,hR],show takAt b at_ k=at_ by simp[takAt,hR]]
    refine rt_ () ?_
    refine .ex (qa,qc) (.all ?_)
    refine nr_ ?_
    exact .pick .here (.pick .here (.pu hL .refl))
   ·(refine e_condF ?_)
    have hR:takR b at_ k=0:=by simp[takR,hb,h]
    rw[hR,show takN b at_ k=tak (ub b) at_ k.toNat by simp[takN,hR],show takAt b at_ k=at_+k.toNat by simp[takAt,hR]]
    obtain⟨K,rfl⟩:=Int.eq_ofNat_of_zero_le (show 0<=k by omega)
    rw[Int.toNat_natCast]
    refine e_loop2 (fun m x y=>[ex fun i:Nat=>all [pu (m+i=K/\y= .int .i64 (i:Int)/\x= .int .i64 (tak (ub b) at_ i:Int)),IsR p b (at_+i)]]++F) K ?_ ?_
    ·refine Imp.ex 0 (.all ?_)
     refine nr_ ?_
     refine .pu ⟨by omega,rfl,by rw[tak_zero];rfl⟩ (.ex (qa,qc) (.all ?_))
     refine nr_ ?_
     exact .pick .here (.pick .here (.pu hL .refl))
    ·intro m ds x y
     refine nr_ ?_
     refine e_ex Pick.here fun i=>e_all Pick.here ?_
     refine nr_ ?_
     refine e_pu Pick.here fun hi=>?_
     obtain⟨hm,rfl,rfl⟩:=hi
     refine e_ask v_lss .nil (fun h=>?_) (fun h=>?_)
     ·have hik:i<K:=by omega
      obtain⟨v,hv⟩:∃v,(ub b)[at_+i]? =some v:=⟨_,List.getElem?_eq_getElem (by rw[length_ub];omega)⟩
      refine e_condT (o_ v_nil (o_ v_fa0 (c_ (srcBit hv) fun _=>?_)))
      refine o_ v_conv ?_
      rw[wrapu64 (by omega)]
      refine o_ (v_shl (by omega)) ?_
      have hmin:min ((i:Int)).toNat IntKind.i64.bits=i:=by simp only[IntKind.bits,Int.toNat_natCast];omega
      have hp:2^i<=2^32:=Nat.pow_le_pow_right (by omega) (by omega)
      have hc:(v.toNat:Int) * 2^i=((v.toNat * 2^i:Nat):Int):=by norm_cast
      have hle:v.toNat * 2^i<=2^i:=by cases v <;> simp
      obtain⟨E,hE⟩:∃E,E=v.toNat * 2^i:=⟨_,rfl⟩
      rw[hmin,hc,<- hE,w64 (by omega) (by omega)]
      refine o_ v_or ?_
      rw[hE,or_shl (by omega) (tak_lt _ _ _),<- tak_succ hv]
      refine ad_ ?_
      refine e_next2 (m-1) (by omega) (.ex (i+1) (.all ?_))
      refine nr_ ?_
      refine .pu (by refine⟨by omega,?_⟩;first|trivial|exact⟨by norm_cast,trivial⟩|norm_cast) ?_
      rw[<- Nat.add_assoc]
      exact im_
     ·have:i=K:=by omega
      subst this
      refine e_condF (rt_ () ?_)
      exact im_
 ·refine e_ex Pick.here fun q=>?_
  obtain⟨qa,qc⟩:=q
  refine e_all Pick.here ?_
  refine nr_ ?_
  refine e_pu (.there (.there .here)) fun hL=>?_
  refine c_ rnone_some fun _=>?_
  refine e_condF ?_
  have fin:∀z:Value,z= .bool (decide (k<0\/32<k))->Ent W (pt p (.cells #[.slice qa b.length qc,.int .i64 (at_:Int),.bool true] 229)::Sl 1 5 qa qc b.length (b.map B)::F) (fun w=>sat W (IsR p b at_::pu (z= .bool (decide (k<0\/32<k)))::F) w):=fun z hz=>e_sat (.ex (qa,qc) (.all (.pick .here (.pick .here (.pu hL (.pu hz .refl))))))
  refine e_ask v_lss .nil (fun h=>?_) (fun h=>?_)
  ·(refine e_condT ?_)
   exact fin _ (by rw[dT_ (.inl h)])
  ·(refine e_condF ?_)
   refine o_ v_gtr (fin _ ?_)
   congr 1
   exact decide_eq_decide.2 ⟨fun h=> .inr h,fun h'=>h'.resolve_left h⟩
theorem ralign {W:World}{p at_:Nat}{b:List UInt8}:Cn p_ 171 [.pointer (some ⟨p,0,none⟩)] W [IsR p b at_] (fun _:Unit=> .tuple #[]) (fun _=>[IsR p b ((at_+7) / 8 * 8)]):=by
 (refine Shp.cn (Sg.g_ Tryz.call171 Tryz.func171) fun F=>?_;simp only[ca_,na_])
 refine e_ex Pick.here fun q=>?_
 obtain⟨qa,qc⟩:=q
 refine e_all Pick.here ?_
 refine nr_ ?_
 refine e_pu (.there (.there .here)) fun hL=>?_
 refine c_ rnone_some fun _=>?_
 refine o_ v_notF (e_condT (o_ v_nil (o_ v_fa0 (o_ v_fa0 (ln_ ?_)))));refine ad_ ?_;(((refine o_ (v_quo ?h1 ?h2 ?h3) ?_);(case h1=>omega);(case h2=>omega);(case h3=>omega)));(refine o_ (v_mul (by omega) (by omega)) ?_);refine o_ v_nil (o_ v_fa0 (o_ v_fa0 (sn_ ?_)))
 refine rt_ () ?_
 refine .ex (qa,qc) (.all ?_)
 refine nr_ ?_
 rw[show(((at_+7) / 8 * 8:Nat):Int)=((at_:Int)+7) / 8 * 8 by norm_cast]
 exact .pick .here (.pick .here (.pu ⟨by omega,hL.2⟩ .refl))
def lim (k:Int):Nat:=(if 32<k then 32 else k).toNat
theorem lim_le (k:Int):lim k<=32:=by unfold lim;split <;> omega
theorem lim_eq (k:Int):(if(0:Int)<(if(32:Int)<k then 32 else k)then(if(32:Int)<k then 32 else k)else 0)=(lim k:Int):=by
 unfold lim;repeat' split <;> omega
theorem reverse {W:World}{n k:Int}:Cn p_ 238 [.int .i64 n,.int .i64 k] W [] (fun _:Unit=> .int .i64 (rv n (lim k):Int)) (fun _=>[]):=by
 (refine Shp.cn (Sg.g_ Tryz.call238 Tryz.func238 (an:={loops:=[(3,[5,10])]})) fun F=>?_;simp only[ca_,na_])
 have hK:=lim_le k
 refine o_ v_min (o_ v_max ?_)
 rw[lim_eq]
 obtain⟨K,hKe⟩:∃K,K=lim k:=⟨_,rfl⟩
 rw[<- hKe]at hK
 rw[<- hKe]
 refine e_loop2 (fun m x y=>[ex fun i:Nat=>pu (m+i=K/\y= .int .i64 (i:Int)/\x= .int .i64 (rv n i:Int))]++F) K ?_ ?_
 ·exact Imp.ex 0 (.pu ⟨by omega,rfl,rfl⟩ .refl)
 ·intro m ds x y
  refine nr_ ?_
  refine e_ex Pick.here fun i=>e_pu Pick.here fun hi=>?_
  obtain⟨hm,rfl,rfl⟩:=hi
  refine e_ask v_lss .nil (fun h=>?_) (fun h=>?_)
  ·have hik:i<K:=by omega
   have hr:=rv_lt n i
   have hp:2^i<=2^31:=Nat.pow_le_pow_right (by omega) (by omega)
   refine e_condT (o_ (v_shl (by omega)) ?_)
   rw[show(rv n i:Int) * 2^(min ((1:Int)).toNat IntKind.i64.bits)=((rv n i * 2:Nat):Int) by norm_cast,w64 (by omega) (by omega)]
   refine o_ v_conv ?_
   rw[wrapu64 (by omega)]
   refine o_ (v_shr (by omega)) ?_
   rw[shrI (by omega)]
   refine o_ v_and ?_
   rw[and1I,<- bit_toNat]
   refine o_ v_or ?_
   rw[or_two (by omega),<- rv_succ]
   refine ad_ ?_
   exact e_next2 (m-1) (by omega) (.ex (i+1) (.pu (by refine⟨by omega,?_⟩;first|trivial|norm_cast) .refl))
  ·have:i=K:=by omega
   subst this
   refine e_condF (rt_ () ?_)
   exact .refl
theorem RdB.none {W:World}{A:HP}{a:Option Addr}{n:Nat}{cs:List Value}(h:RdB W A a n cs)(c:a=none):n=0:=by
 rcases Nat.eq_zero_or_pos n with z|z
 ·exact z
 ·obtain⟨_,_,e,_⟩:=h.at_ z
  rw[c]at e;cases e
def rrR (b:List UInt8)(at_:Nat)(n:Int):Int:=if n<0 then 1 else if(b.length:Int)-((at_+7) / 8:Nat)<n then 20 else 0
def rrB (b:List UInt8)(at_:Nat)(n:Int):List UInt8:=if rrR b at_ n=0 then(b.drop ((at_+7) / 8)).take n.toNat else []
def rrAt (b:List UInt8)(at_:Nat)(n:Int):Nat:=if rrR b at_ n=0 then 8 * ((at_+7) / 8+n.toNat)else at_
theorem rraw {W:World}{p at_:Nat}{b:List UInt8}{n:Int}:Cn p_ 174 [.pointer (some ⟨p,0,none⟩),.int .i64 n] W [IsR p b at_] (fun q:Option Addr × Nat=> .tuple #[.slice q.1 (rrB b at_ n).length q.2,.int .i64 (rrR b at_ n)]) (fun q=>[Sl 1 5 q.1 q.2 (rrB b at_ n).length ((rrB b at_ n).map B),IsR p b (rrAt b at_ n)]):=by
 (refine Shp.cn (Sg.g_ Tryz.call174 Tryz.func174) fun F=>?_;simp only[ca_,na_])
 refine e_ex Pick.here fun q=>?_
 obtain⟨qa,qc⟩:=q
 refine e_all Pick.here ?_
 refine nr_ ?_
 refine e_pu (.there (.there .here)) fun hL=>?_
 refine c_ rnone_some fun _=>?_
 refine e_gdT (e_gdT (e_ask v_lss .nil (fun h=>?_) (fun h=>?_)))
 ·have hR:rrR b at_ n=1:=by simp[rrR,h]
  have hB:rrB b at_ n=[]:=by simp[rrB,hR]
  have hA:rrAt b at_ n=at_:=by simp[rrAt,hR]
  rw[hR,hB,hA]
  refine o_ v_pickF (e_condT (rt_ ((none,0)) ?_))
  refine imp_nil (.ex (qa,qc) (.all ?_))
  refine nr_ ?_
  exact .pick .here (.pick .here (.pu hL .refl))
 ·(refine o_ v_pickF ?_);refine e_condF ?_;refine o_ v_nil ?_;refine o_ v_fa0 ?_;refine o_ v_fa0 ?_;refine ln_ ?_;refine ad_ ?_;(((refine o_ (v_quo ?h1 ?h2 ?h3) ?_);(case h1=>omega);(case h2=>omega);(case h3=>omega)));refine o_ v_nil ?_;refine o_ v_fa0 ?_;refine o_ v_fa0 ?_;refine ln_ ?_;refine o_ v_len ?_;refine sb_ ?_
  have h0:=h
  refine e_ask v_gtr .nil (fun h=>?_) (fun h=>?_)
  ·have hR:rrR b at_ n=20:=by rw[rrR,if_neg h0,if_pos (by push_cast;omega)]
   have hB:rrB b at_ n=[]:=by simp[rrB,hR]
   have hA:rrAt b at_ n=at_:=by simp[rrAt,hR]
   rw[hR,hB,hA]
   refine e_condT (rt_ ((none,0)) ?_)
   refine imp_nil (.ex (qa,qc) (.all ?_))
   refine nr_ ?_
   exact .pick .here (.pick .here (.pu hL .refl))
  ·have hR:rrR b at_ n=0:=by rw[rrR,if_neg h0,if_neg (by push_cast;omega)]
   obtain⟨N,rfl⟩:=Int.eq_ofNat_of_zero_le (show 0<=n by omega)
   have hB:rrB b at_ N=(b.drop ((at_+7) / 8)).take N:=by simp[rrB,hR]
   have hA:rrAt b at_ N=8 * ((at_+7) / 8+N):=by simp[rrAt,hR]
   have hN:(at_+7) / 8+N<=b.length:=by omega
   have hBl:(rrB b at_ N).length=N:=by rw[hB,List.length_take,List.length_drop];omega
   rw[hR,hA]
   refine e_slfacts (.there .here) fun f1 f2 f3 f4=>?_
   refine e_condF (ad_ ?_);(refine o_ (v_mul (by omega) (by omega)) ?_);refine o_ v_nil (o_ v_fa0 (o_ v_fa0 (sn_ ?_)));refine o_ v_nil (o_ v_fa0 (o_ v_fa0 (ln_ ?_)));refine ad_ ?_
   refine o_ (v_sl2 ((at_+7) / 8) ((at_+7) / 8+N) (by norm_cast) (by norm_cast) (by omega) (by omega)) ?_
   have hcut:=(rd_sl (W:=W) (e:=5) (cap:=qc) (cs:=b.map B) (by simp) f4).cut (cap:=qc) (l:=(at_+7) / 8) (h:=(at_+7) / 8+N) (by omega) (by omega) (by omega)
   refine e_nil (s:=1) (e:=5) ?_
   refine e_app (m:=(at_+7) / 8+N-(at_+7) / 8) .here (src_rd (e':=5) (by kernel_rfl) (.there (.there .here)) hcut (RdB.none hcut) (fun u hu=>B_one u (List.mem_of_mem_drop (List.mem_of_mem_take hu)))) (by omega) (by omega) fun a' c'=>?_
   rw[List.nil_append,Nat.zero_add,Nat.add_sub_cancel_left,<- List.map_drop,<- List.map_take,<- hB]
   refine e_ret (a',c') (by rw[hBl]) ?_
   rw[hBl]
   refine .pick (by repeat constructor) (.ex (qa,qc) (.all ?_))
   refine nr_ ?_
   rw[show((8 * ((at_+7) / 8+N):Nat):Int)=8 * (((at_:Int)+7) / 8+N) by norm_cast]
   exact .pick (by repeat constructor) (.pick (by repeat constructor) (.pu (by omega) .refl))
theorem rrB_le (b:List UInt8)(t:Nat)(n:Int):(rrB b t n).length<=b.length:=by
 unfold rrB;split <;> simp <;> omega
end Go.Proofs.YtndojgomlkpeaaaGreatDoor.B
namespace Go.Proofs.YtndojgomlkpeaaaGreatDoor.HM
def cnt:List Int->Nat->Nat
 |[],_=>0
 |x::l,j=>(if x=(j:Int)then 1 else 0)+cnt l j
theorem cnt_append (j:Nat):∀l m:List Int,cnt (l++m) j=cnt l j+cnt m j
 |[],m=>by simp[cnt]
 |x::l,m=>by simp[cnt,cnt_append j l m];omega
theorem cnt_le (j:Nat):∀l:List Int,cnt l j<=l.length
 |[]=>by simp[cnt]
 |x::l=>by have:=cnt_le j l;simp[cnt];split <;> omega
theorem cnt_take_succ {l:List Int}{i:Nat}(h:i<l.length)(j:Nat):cnt (l.take (i+1)) j=cnt (l.take i) j+if l[i]=(j:Int)then 1 else 0:=by
 rw[List.take_succ_eq_append_getElem h,cnt_append];simp[cnt]
theorem cnt_take_le {l:List Int}{j:Nat}:∀ {a b:Nat},a<=b->cnt (l.take a) j<=cnt (l.take b) j:=fun {a b} h=>by
 have e:l.take b=l.take a++(l.take b).drop a:=by
  have:=(List.take_append_drop a (l.take b)).symm
  rwa [List.take_take,Nat.min_eq_left h]at this
 rw[e,cnt_append];omega
theorem cnt_take_all (l:List Int)(i j:Nat):cnt (l.take i) j<=cnt l j:=by
 have e:=(List.take_append_drop i l).symm
 have:cnt l j=cnt (l.take i) j+cnt (l.drop i) j:=by rw[<- cnt_append,<- e]
 omega
def room (l:List Int):Nat->Int
 |0=>1
 |k+1=>2 * room l k-cnt l (k+1)
def nx (l:List Int):Nat->Nat
 |0=>0
 |1=>0
 |k+2=>2 * (nx l (k+1)+cnt l (k+1))
def inL (l:List Int):Prop:=∀x∈l,0<=x/\x<=15
structure okL (l:List Int):Prop where
 len:l.length<=320
 ins:inL l
 room:0<=room l 15
instance (l:List Int):Decidable (inL l):=by unfold inL;infer_instance
instance (l:List Int):Decidable (okL l):=decidable_of_iff (l.length<=320/\inL l/\0<=HM.room l 15) ⟨fun⟨a,b,c⟩=>⟨a,b,c⟩,fun⟨a,b,c⟩=>⟨a,b,c⟩⟩
theorem nx_room (l:List Int):∀k,((nx l (k+1)+cnt l (k+1):Nat):Int)=2^(k+1)-room l (k+1)
 |0=>by simp[nx,room];omega
 |k+1=>by
  have ih:=nx_room l k
  have e:(2:Int)^(k+1+1)=2 * 2^(k+1):=by rw[Int.pow_succ];omega
  rw[e]
  simp only[nx,room]at *
  push_cast at *
  omega
theorem room_neg {l:List Int}{k:Nat}(h:room l k<0):∀m,room l (k+m)<0
 |0=>h
 |m+1=>by have:=room_neg h m;rw[<- Nat.add_assoc];simp only[room];omega
theorem room_nonneg {l:List Int}{n k:Nat}(h:0<=room l n)(hk:k<=n):0<=room l k:=by
 rcases Int.lt_or_le (room l k) 0 with c|c
 ·have:=room_neg c (n-k)
  rw[show k+(n-k)=n by omega]at this;omega
 ·exact c
theorem room_le (l : List Int) : ∀ k, room l k ≤ 2 ^ k
  | 0 => by simp [room]
  | k + 1 => by have := room_le l k; have e : (2 : Int) ^ (k + 1) = 2 * 2 ^ k := by rw [Int.pow_succ]; omega
                simp only [room]; omega
theorem okL.fit {l:List Int}(h:okL l){k:Nat}(hk:k+1<=15):nx l (k+1)+cnt l (k+1)<=2^(k+1):=by
 have h1:=nx_room l k
 have h2:=room_nonneg h.room hk
 have h3:((nx l (k+1)+cnt l (k+1):Nat):Int)<=((2^(k+1):Nat):Int):=by push_cast at *;omega
 exact Int.ofNat_le.1 h3
theorem nx_step (l:List Int){n:Nat}(h:1<=n):nx l (n+1)=2 * (nx l n+cnt l n):=by
 obtain⟨k,rfl⟩:∃k,n=k+1:=⟨n-1,by omega⟩
 rfl
def cur (l:List Int)(n i:Nat):Nat:=nx l n+cnt (l.take i) n
theorem cur_succ {l:List Int}{n i:Nat}(h:i<l.length):cur l n (i+1)=cur l n i+if l[i]=(n:Int)then 1 else 0:=by
 unfold cur;rw[cnt_take_succ h];omega
theorem okL.cur_lt {l:List Int}(h:okL l){n i:Nat}(h1:1<=n)(h2:n<=15):cur l n i<=2^n:=by
 obtain⟨k,rfl⟩:∃k,n=k+1:=⟨n-1,by omega⟩
 have:=h.fit h2
 have:=cnt_take_all l i (k+1)
 unfold cur;omega
theorem okL.cur_lt' {l:List Int}(h:okL l){n i:Nat}(hi:i<l.length)(hn:l[i]=(n:Int))(h1:1<=n)(h2:n<=15):cur l n i<2^n:=by
 have:=h.cur_lt (i:=i+1) h1 h2
 rw[cur_succ hi,if_pos hn]at this;omega
def codeAt (l:List Int)(i:Nat):Nat:=match l[i]? with
 |some x=>if 0<x then cur l x.toNat i else 0
 |none=>0
def codes (l:List Int):List Int:=(List.range l.length).map fun i=>(codeAt l i:Int)
theorem length_codes (l:List Int):(codes l).length=l.length:=by simp[codes]
theorem codeAt_pos {l:List Int}{i n:Nat}(h:i<l.length)(hn:l[i]=(n:Int))(h1:1<=n):codeAt l i=cur l n i:=by
 unfold codeAt
 rw[List.getElem?_eq_getElem h]
 simp only
 rw[if_pos (by omega),hn,Int.toNat_natCast]
theorem codeAt_zero {l:List Int}{i:Nat}(h:i<l.length)(hn:l[i]<=0):codeAt l i=0:=by
 unfold codeAt
 rw[List.getElem?_eq_getElem h]
 simp only
 rw[if_neg (by omega)]
def wk:List Int->Nat->Nat
 |[],_=>0
 |x::l,k=>(if 0<x/\x<=k then 2^(k-x.toNat)else 0)+wk l k
theorem wk_succ (k:Nat):∀l:List Int,wk l (k+1)=2 * wk l k+cnt l (k+1)
 |[]=>by simp[wk,cnt]
 |x::l=>by
  have ih:=wk_succ k l
  simp only[wk,cnt,ih]
  by_cases h:0<x/\x<=k
  ·rw[if_pos h,if_pos ⟨h.1,by omega⟩,if_neg (by omega),show k+1-x.toNat=(k-x.toNat)+1 by omega,Nat.pow_succ];omega
  ·rw[if_neg h]
   by_cases h2:x=((k+1:Nat):Int)
   ·rw[if_pos (by omega),if_pos h2,show k+1-x.toNat=0 by omega];omega
   ·rw[if_neg (by omega),if_neg h2];omega
theorem wk_zero:∀l:List Int,wk l 0=0
 |[]=>rfl
 |x::l=>by simp only[wk,wk_zero l];rw[if_neg (by omega)]
theorem room_wk (l:List Int):∀k,room l k=2^k-wk l k
 |0=>by simp[room,wk_zero]
 |k+1=>by
  have ih:=room_wk l k
  have e:(2:Int)^(k+1)=2 * 2^k:=by rw[Int.pow_succ];omega
  rw[wk_succ,room,ih,e];push_cast;omega
theorem okL_iff {l:List Int}:okL l↔l.length<=320/\inL l/\wk l 15<=32768:=by
 have:=room_wk l 15
 have e:(2:Int)^15=32768:=by decide
 rw[e]at this
 exact⟨fun h=>⟨h.len,h.ins,by have:=h.room;omega⟩,fun⟨a,b,c⟩=>⟨a,b,by omega⟩⟩
theorem room0_iff {l:List Int}:room l 15=0↔wk l 15=32768:=by
 have:=room_wk l 15
 have e:(2:Int)^15=32768:=by decide
 rw[e]at this
 omega

theorem nx_up {l:List Int}{a:Nat}(ha:1<=a):∀d,(nx l a+cnt l a) * 2^(d+1)<=nx l (a+(d+1))
 |0=>by rw[nx_step l ha];omega
 |d+1=>by
  have ih:=nx_up (l:=l) ha d
  rw[show a+(d+1+1)=(a+(d+1))+1 by omega,nx_step l (by omega),Nat.pow_succ]
  have:(nx l a+cnt l a) * (2^(d+1) * 2)=2 * ((nx l a+cnt l a) * 2^(d+1)):=by rw[<- Nat.mul_assoc,Nat.mul_comm]
  rw[this];omega
theorem apart {l:List Int}{i k a b:Nat}(hi:i<l.length)(hk:k<l.length)(hne:i≠k)(ha:l[i]=(a:Int))(hb:l[k]=(b:Int))(h1:1<=a)(hab:a<=b):codeAt l k / 2^(b-a)≠codeAt l i:=by
 rw[codeAt_pos hi ha h1,codeAt_pos hk hb (by omega)]
 have c1:cur l a i<nx l a+cnt l a:=by
  have:=cnt_take_all l (i+1) a
  rw[cnt_take_succ hi,if_pos ha]at this
  unfold cur;omega
 rcases Nat.lt_or_ge a b with h|h
 ·obtain⟨d,rfl⟩:∃d,b=a+(d+1):=⟨b-a-1,by omega⟩
  have:=nx_up (l:=l) h1 d
  rw[show a+(d+1)-a=d+1 by omega]
  have c2:nx l a+cnt l a<=cur l (a+(d+1)) k / 2^(d+1):=(Nat.le_div_iff_mul_le (Nat.two_pow_pos _)).2 (Nat.le_trans this (by unfold cur;omega))
  omega
 ·obtain rfl:a=b:=by omega
  rw[Nat.sub_self,Nat.pow_zero,Nat.div_one]
  unfold cur
  rcases Nat.lt_or_gt_of_ne hne with c|c
  ·have:=cnt_take_le (l:=l) (j:=a) (show i+1<=k by omega)
   rw[cnt_take_succ hi,if_pos ha]at this;omega
  ·have:=cnt_take_le (l:=l) (j:=a) (show k+1<=i by omega)
   rw[cnt_take_succ hk,if_pos hb]at this;omega
end Go.Proofs.YtndojgomlkpeaaaGreatDoor.HM
namespace Go.Proofs.YtndojgomlkpeaaaGreatDoor.HF
open Go Go.Proofs Sh Sl T HM
def A16 (f:Nat->Int):Array Value:=An 16 f
theorem z16:(#[.int .i64 0,.int .i64 0,.int .i64 0,.int .i64 0,.int .i64 0,.int .i64 0,.int .i64 0,.int .i64 0,.int .i64 0,.int .i64 0,.int .i64 0,.int .i64 0,.int .i64 0,.int .i64 0,.int .i64 0,.int .i64 0]:Array Value)=A16 fun _=>0:=by rfl
theorem one16 {f:Nat->Int}:∀u∈(A16 f).toList,u.oneCell'=true:=by
 intro u hu
 simp only[A16,An]at hu
 obtain⟨j,_,rfl⟩:=List.mem_map.1 hu
 rfl
theorem counts {W:World}{a:Option Addr}{cap:Nat}{l:List Int}{A:HP}(hr:RdB W A a l.length (l.map I))(hl:l.length<=4611686018427387904):
  Cn p_ 214 [.slice a l.length cap] W [A] (fun f:Nat->Int=> .tuple #[.agg (A16 f),.bool (decide (okL l))]) (fun f=>[pu ((okL l->∀j,j<16->f j=cnt l j)/\∀j,0<=f j/\f j<=320),A]):=by
 (refine Shp.cn (Sg.g_ Tryz.call214 Tryz.func214 (an:={loops:=[(4,[15]),(12,[6,34])]})) fun F=>?_;simp only[ca_,na_])
 refine e_newA fun g=>?_;refine o_ v_len ?_
 rw[z16]
 have fin:∀(f:Nat->Int) (b:Bool),b=decide (okL l)->(okL l->∀j,j<16->f j=cnt l j)->(∀j,0<=f j/\f j<=320)->Ent W (pt g (.cells (A16 f) 280 (0,0))::A::F) (opN p_ (sStore 280 (.pointer (some ⟨g,0,none⟩)) (.agg (A16 f))) noP fun _=>
   (stS p_ (sRes 280 (.pointer (some ⟨g,0,none⟩))) fun r0=>fun w=>∃x:Nat->Int,(.tuple #[r0,(.bool b)]:Value)= .tuple #[.agg (A16 x),.bool (decide (okL l))]/\sat W ([pu ((okL l->∀j,j<16->x j=cnt l j)/\∀j,0<=x j/\x j<=320),A]++F) w)):=by
  intro f b hb h1 h2
  refine e_stAgg .here (An_size 16 f) (An_size 16 f) one16 ?_
  refine e_stS (v_resA (An_size 16 f)) (.pick .here .nil) ?_
  subst hb
  refine e_ret f rfl ?_
  exact .pu ⟨h1,h2⟩ (.drop .refl)
 refine e_ask v_gtr .nil (fun h=>?_) (fun h=>?_)
 ·(refine e_condT ?_);refine lg_ ?_
  refine fin _ _ (by rw[dF_ (fun c=>by have:=c.len;omega)]) (fun c=>by have:=c.len;omega) (fun j=>by omega)
 refine e_condF (o_ v_len ?_)
 have hlen:l.length<=320:=by omega
 refine e_loop1 (fun m y=>[ex fun i:Nat=>all [pu (m+i=l.length/\y= .int .i64 (i:Int)/\∀k (hk:k<l.length),k<i->0<=l[k]/\l[k]<=15),pt g (.cells (A16 fun j=>(cnt (l.take i) j:Int)) 280 (0,0)),A]]++F) l.length ?_ ?_
 ·refine Imp.ex 0 (.all ?_)
  refine nr_ ?_
  exact .pu ⟨by omega,rfl,fun k hk h=>by omega⟩ .refl
 intro m ds y
 refine nr_ ?_
 refine e_ex Pick.here fun i=>e_all Pick.here ?_
 refine nr_ ?_
 refine e_pu Pick.here fun hi=>?_
 obtain⟨hmi,rfl,hin⟩:=hi
 have hb320:∀j,(0:Int)<=(cnt (l.take i) j:Int)/\(cnt (l.take i) j:Int)<=320:=fun j=>by
  have:=cnt_le j (l.take i)
  rw[List.length_take]at this;omega
 refine e_ask v_lss .nil (fun h=>?_) (fun h=>?_)
 ·have hil:i<l.length:=by omega
  obtain⟨ga,oa,rfl,_⟩:=hr.at_ (by omega)
  refine e_condT (o_ (v_ia1 i (by rfl) hil) ?_)
  refine e_opN (v_ldRd hr (I_get hil)) (.pick (.there .here) .nil) ?_
  refine e_ask v_lss .nil (fun h=>?_) (fun h=>?_)
  ·(refine e_gdF1 ?_);refine e_gdF1 ?_;refine o_ v_pickT ?_;refine e_condT ?_;refine lg_ ?_
   exact fin _ _ (by rw[dF_ (fun c=>by have:=c.ins l[i] (List.getElem_mem hil);omega)]) (fun c=>by have:=c.ins l[i] (List.getElem_mem hil);omega) hb320
  have h0:=h
  refine e_gdT (e_gdT (e_ask v_gtr .nil (fun h=>?_) (fun h=>?_)))
  ·(refine o_ v_pickF ?_);refine e_condT ?_;refine lg_ ?_
   exact fin _ _ (by rw[dF_ (fun c=>by have:=c.ins l[i] (List.getElem_mem hil);omega)]) (fun c=>by have:=c.ins l[i] (List.getElem_mem hil);omega) hb320
  have h1:=h
  obtain⟨x,hx⟩:=Int.eq_ofNat_of_zero_le (show 0<=l[i] by omega)
  have hx15:x<16:=by omega
  refine o_ v_pickF (e_condF (o_ (v_iaA x hx hx15) ?_))
  rw[Nat.zero_add,Nat.mul_one]
  refine e_opN (v_ld (An_get hx15)) (.pick .here .nil) ?_
  refine o_ (v_add (by have:=hb320 x;omega) (by have:=hb320 x;omega)) ?_
  refine o_ (v_iaA x hx hx15) ?_
  rw[Nat.zero_add,Nat.mul_one]
  refine e_st .here (by rw[A16,An_size];exact hx15) ?_
  refine ad_ ?_
  refine e_next1 (m-1) (by omega) (.ex (i+1) (.all ?_))
  refine nr_ ?_
  refine .pu ⟨by omega,by norm_cast,fun k hk hki=>?_⟩ ?_
  ·by_cases c:k=i
   ·subst c;omega
   ·exact hin k hk (by omega)
  ·have e:(A16 fun j=>(cnt (l.take i) j:Int)).setIfInBounds x (.int .i64 ((cnt (l.take i) x:Int)+1))=A16 fun j=>(cnt (l.take (i+1)) j:Int):=by
    refine An_set.trans (An_congr fun j hj=>?_)
    rw[cnt_take_succ hil]
    by_cases c:j=x
    ·subst c;rw[if_pos rfl,if_pos hx];push_cast;rfl
    ·rw[if_neg c,if_neg (by omega)];simp
   rw[e]
   exact im_
 ·have hie:i=l.length:=by omega
  subst hie
  rw[List.take_length]
  rw[List.take_length]at hb320
  have hins:inL l:=fun x hx=>by
   obtain⟨k,hk,rfl⟩:=List.mem_iff_getElem.1 hx
   exact hin k hk (by omega)
  refine e_condF (o_ (v_slA (l:=1) (by rfl) (by omega)) ?_)
  refine o_ v_len ?_
  have hrd:RdB W (pt g (.cells (A16 fun j=>(cnt l j:Int)) 280 (0,0))) (some ⟨g,1 * 1,none⟩) 15 ((List.range 15).map fun j=>I (cnt l (1+j))):=rd_cut (n:=16) (f:=fun j=>(cnt l j:Int)) (rd_pt (by simp)) (by omega)
  refine e_loop2 (fun m x y=>[all [pu (∃i:Nat,m+i=15/\i<=15/\y= .int .i64 (i:Int)/\x= .int .i64 (room l i)/\∀k,k<=i->0<=room l k),pt g (.cells (A16 fun j=>(cnt l j:Int)) 280 (0,0)),A]]++F) 15 ?_ ?_
  ·refine Imp.all ?_
   refine nr_ ?_
   exact .pu ⟨0,by omega,by omega,rfl,rfl,fun k hk=>by rw[show k=0 by omega];simp[room]⟩ .refl
  intro m ds x y
  refine nr_ ?_
  refine e_all Pick.here ?_
  refine nr_ ?_
  refine e_pu Pick.here fun hi=>?_
  obtain⟨i,hmi,hi15,rfl,rfl,hrm⟩:=hi
  have hr0:=hrm i (Nat.le_refl _)
  have hr1:=room_le l i
  have h2i:(2:Int)^i<=32768:=by
   have h1:(2:Nat)^i<=32768:=Nat.le_trans (Nat.pow_le_pow_right (by omega) hi15) (by decide)
   have h2:((2^i:Nat):Int)=2^i:=Int.natCast_pow 2 i
   omega
  refine e_ask v_lss .nil (fun h=>?_) (fun h=>?_)
  ·have hi14:i<15:=by omega
   refine e_condT (o_ (v_ia1 i (by rfl) (by omega)) ?_)
   refine e_opN (v_ldRd hrd (v:=I (cnt l (1+i))) (by rw[List.getElem?_map,List.getElem?_range hi14];rfl)) (.pick .here .nil) ?_
   have hc:=hb320 (1+i)
   (refine o_ (v_mul (by omega) (by omega)) ?_);refine sb_ ?_
   have hroom:2 * room l i-(cnt l (1+i):Int)=room l (i+1):=by rw[room,Nat.add_comm 1 i]
   rw[hroom]
   refine e_ask v_lss .nil (fun h=>?_) (fun h=>?_)
   ·(refine e_condT ?_);refine lg_ ?_
    exact fin _ _ (by rw[dF_ (fun c=>by have:=room_nonneg c.room (show i+1<=15 by omega);omega)]) (fun _ j _=>rfl) hb320
   ·refine e_condF (ad_ ?_)
    refine e_next2 (m-1) (by omega) (.all ?_)
    refine nr_ ?_
    refine .pu ⟨i+1,by omega,by omega,by norm_cast,rfl,fun k hk=>?_⟩ .refl
    by_cases c:k=i+1
    ·subst c;omega
    ·exact hrm k (by omega)
  ·have hie:i=15:=by omega
   subst hie
   refine e_condF (lg_ ?_)
   exact fin _ _ (by rw[dT_ ⟨hlen,hins,hr0⟩]) (fun _ j _=>rfl) hb320
def Ln (n:Nat)(f:Nat->Int):List Value:=(List.range n).map fun j=>I (f j)
theorem Ln_len (n:Nat)(f:Nat->Int):(Ln n f).length=n:=by simp[Ln]
theorem Ln_get {n j:Nat}{f:Nat->Int}(h:j<n):(Ln n f)[j]? =some (I (f j)):=by simp[Ln,h]
theorem Ln_ext {n:Nat}{f:Nat->Int}{m:List Value}(hm:m.length=n)(h:∀j,j<n->m[j]? =some (I (f j))):Ln n f=m:=by
 apply List.ext_getElem?
 intro j
 by_cases c:j<n
 ·rw[Ln_get c,h j c]
 ·rw[List.getElem?_eq_none (by rw[Ln_len];omega),List.getElem?_eq_none (by omega)]
theorem Ln_congr {n:Nat}{f g:Nat->Int}(h:∀j,j<n->f j=g j):Ln n f=Ln n g:=Ln_ext (Ln_len n g) fun j hj=>by rw[Ln_get hj,h j hj]
theorem Ln_set {n j:Nat}{f:Nat->Int}{v:Int}:(Ln n f).set j (I v)=Ln n fun i=>if i=j then v else f i:=by
 refine(Ln_ext (by simp[Ln_len]) fun i hi=>?_).symm
 rw[List.getElem?_set,Ln_len]
 by_cases c:j=i
 ·subst c;simp[hi]
 ·rw[if_neg c,Ln_get hi,if_neg (fun e=>c e.symm)]
theorem Ln_zero (n:Nat):List.replicate n (.int .i64 0)=Ln n fun _=>0:=(Ln_ext (by simp) fun j hj=>by rw[List.getElem?_replicate,if_pos hj];rfl).symm
def cdR (l:List Int):Int:=if okL l then 0 else 30
def cdL (l:List Int):List Int:=if okL l then codes l else []
theorem Ln_codes (l:List Int):Ln l.length (fun k=>if k<l.length then(codeAt l k:Int)else 0)=(codes l).map I:=Ln_ext (by rw[List.length_map,length_codes]) fun j hj=>by
 rw[if_pos hj,List.getElem?_map,codes,List.getElem?_map,List.getElem?_range hj];rfl
theorem pow15 {i:Nat}(h:i<=15):(2:Nat)^i<=32768:=Nat.le_trans (Nat.pow_le_pow_right (by omega) h) (by decide)
theorem nx_small {l:List Int}(h:okL l){k:Nat}(hk:k<=15):nx l k<=32768:=by
 match k,hk with
 |0,_=>simp[nx]
 |k+1,hk=>have:=h.fit hk;have:=pow15 hk;omega
theorem codes_ {W:World}{a:Option Addr}{cap:Nat}{l:List Int}{A:HP}(hr:RdB W A a l.length (l.map I))(hl:l.length<=4611686018427387904):
  Cn p_ 226 [.slice a l.length cap] W [A] (fun q:Option Addr × Nat=> .tuple #[.slice q.1 (cdL l).length q.2,.int .i64 (cdR l)]) (fun q=>[Sl 1 3 q.1 q.2 (cdL l).length ((cdL l).map I),A]):=by
 (refine Shp.cn (Sg.g_ Tryz.call226 Tryz.func226 (an:={loops:=[(7,[7]),(12,[40])],drs:=[(9,.ofL [(0,1),(1,1),(2,1),(3,1),(4,1),(5,1),(6,1),(7,1),(8,1),(9,1),(10,1),(11,1),(12,0)])]})) fun F=>?_;simp only[ca_,na_])
 refine c_ (counts hr hl) fun _=>?_
 rename_i f
 refine e_pu Pick.here fun hf=>?_
 obtain⟨hf1,hf2⟩:=hf
 refine o_ (v_ext (v:= .agg (A16 f)) rfl) ?_
 refine o_ (v_ext (v:= .bool (decide (okL l))) rfl) ?_
 refine e_newA fun g=>?_
 refine e_stAgg .here (by rfl) (An_size 16 f) one16 ?_
 by_cases hok:¬okL l
 ·rw[dF_ hok]
  have hR:cdR l=30:=by simp[cdR,hok]
  have hB:cdL l=[]:=by simp[cdL,hok]
  rw[hR,hB]
  refine o_ v_notF (e_condT (rt_ ((none,0)) ?_))
  refine imp_nil ?_
  exact im_
 have hok:=Decidable.not_not.1 hok
 rw[dT_ hok]
 have hR:cdR l=0:=by simp[cdR,hok]
 have hB:cdL l=codes l:=by simp[cdL,hok]
 have hlen:=hok.len
 have hcl:=length_codes l
 rw[hR,hB]
 have hf:=hf1 hok
 refine o_ v_not (e_condF (o_ (v_iaA 0 (by rfl) (by omega)) ?_))
 refine e_st .here (by rw[A16,An_size];omega) ?_
 rw[show(A16 f).setIfInBounds (0+0 * 1) (.int .i64 0)=A16 (fun j=>if j=0 then 0 else(cnt l j:Int))from An_set.trans (An_congr fun j hj=>by
  by_cases c:j=0
  ·rw[if_pos c,if_pos c]
  ·rw[if_neg c,if_neg c,hf j hj])]
 refine e_newA fun g2=>?_
 rw[z16]
 refine e_loop1 (fun m y=>[ex fun i:Nat=>all [pu (m+i=16/\1<=i/\y= .int .i64 (i:Int)),pt g2 (.cells (A16 fun j=>if j<i then(nx l j:Int)else 0) 280 (0,0)),pt g (.cells (A16 fun j=>if j=0 then 0 else(cnt l j:Int)) 280 (0,0)),A]]++F) 15 ?_ ?_
 ·refine Imp.ex 1 (.all ?_)
  refine nr_ ?_
  refine .pu ⟨by omega,by omega,rfl⟩ ?_
  rw[show A16 (fun j=>if j<1 then(nx l j:Int)else 0)=A16 (fun _=>0)from An_congr fun j hj=>by
   by_cases c:j<1
   ·rw[if_pos c,show j=0 by omega];simp[nx]
   ·rw[if_neg c]]
  exact im_
 ·intro m ds y
  refine nr_ ?_
  refine e_ex Pick.here fun i=>e_all Pick.here ?_
  refine nr_ ?_
  refine e_pu Pick.here fun hi=>?_
  obtain⟨hmi,hi1,rfl⟩:=hi
  refine e_ask v_leq .nil (fun h=>?_) (fun h=>?_)
  ·have hi15:i<=15:=by omega
   obtain⟨k,rfl⟩:∃k,i=k+1:=⟨i-1,by omega⟩
   have hk1:=nx_small hok (show k<=15 by omega)
   have hk2:=nx_small hok hi15
   have hk3:=cnt_le k l
   refine e_condT (e_drS ?_);(refine t_ (v_sub (by omega) (by omega)) ?_)
   refine t_ (v_iaA k (by omega) (by omega)) ?_
   refine e_stS (v_ld (v:=I (nx l k)) (by rw[Nat.zero_add,Nat.mul_one,A16,An_get (by omega),if_pos (by omega)])) (.pick .here .nil) ?_
   (refine t_ (v_sub (by omega) (by omega)) ?_)
   refine t_ (v_iaA k (by omega) (by omega)) ?_
   refine e_stS (v_ld (v:=I (if k=0 then 0 else(cnt l k:Int))) (by rw[Nat.zero_add,Nat.mul_one,A16,An_get (by omega)])) (.pick (.there .here) .nil) ?_
   have hs:((nx l k:Int)+(if k=0 then 0 else(cnt l k:Int))) * 2=(nx l (k+1):Int):=by
    match k with
    |0=>simp[nx]
    |k+1=>rw[if_neg (by omega),nx];push_cast;omega
   obtain⟨c,hc⟩:∃c,c=(if k=0 then 0 else(cnt l k:Int)):=⟨_,rfl⟩
   rw[<- hc]at hs ⊢
   refine t_ (v_add (by omega) (by omega)) ?_
   refine t_ (v_shl (by omega)) ?_
   rw[show((nx l k:Int)+c) * 2^(min ((1:Int)).toNat IntKind.i64.bits)=(nx l (k+1):Int) by rw[<- hs];rfl,w64 (by omega) (by omega)]
   refine t_ (v_iaA (k+1) (by norm_cast) (by omega)) ?_
   refine e_st .here (by rw[A16,An_size];omega) ?_
   rw[show(A16 fun j=>if j<k+1 then(nx l j:Int)else 0).setIfInBounds (0+(k+1) * 1) (.int .i64 (nx l (k+1):Int))=A16 (fun j=>if j<k+1+1 then(nx l j:Int)else 0)from by
    rw[Nat.zero_add,Nat.mul_one]
    refine An_set.trans (An_congr fun j hj=>?_)
    by_cases e:j=k+1
    ·subst e;rw[if_pos rfl,if_pos (by omega)]
    ·rw[if_neg e]
     by_cases e2:j<k+1
     ·rw[if_pos e2,if_pos (by omega)]
     ·rw[if_neg e2,if_neg (by omega)]]
   refine ad_ ?_
   refine e_next1 (m-1) (by omega) (.ex (k+1+1) (.all ?_))
   refine nr_ ?_
   exact .pu ⟨by omega,by omega,by norm_cast⟩ .refl
  ·have:i=16:=by omega
   subst this
   refine e_condF (o_ v_len (e_mksl l.length l.length (by rfl) (by rfl) (by omega) (by omega) (by unfold maxLen;omega) fun g3=>?_))
   rw[Ln_zero]
   refine o_ v_len (e_loop1 (fun m y=>[ex fun i:Nat=>all [pu (m+i=l.length/\y= .int .i64 (i:Int)),Sl 1 3 (some ⟨g3,0,none⟩) l.length l.length (Ln l.length fun k=>if k<i then(codeAt l k:Int)else 0),pt g2 (.cells (A16 fun j=>if j=0 then 0 else(cur l j i:Int)) 280 (0,0)),A]]++F) l.length ?_ ?_)
   ·refine Imp.ex 0 (.all ?_)
    refine nr_ ?_
    refine .pu ⟨by omega,rfl⟩ ?_
    rw[show A16 (fun j=>if j=0 then 0 else(cur l j 0:Int))=A16 (fun j=>if j<16 then(nx l j:Int)else 0)from An_congr fun j hj=>by
     rw[if_pos hj]
     by_cases c:j=0
     ·rw[if_pos c,c];simp[nx]
     ·rw[if_neg c];simp[cur,cnt]]
    exact im_
   ·intro m ds y
    refine nr_ ?_
    refine e_ex Pick.here fun i=>e_all Pick.here ?_
    refine nr_ ?_
    refine e_pu Pick.here fun hi=>?_
    obtain⟨hmi,rfl⟩:=hi
    refine e_ask v_lss .nil (fun h=>?_) (fun h=>?_)
    ·have hil:i<l.length:=by omega
     obtain⟨ga,oa,rfl,_⟩:=hr.at_ (by omega)
     refine e_condT (o_ (v_ia1 i (by rfl) hil) ?_)
     refine e_opN (v_ldRd hr (I_get hil)) (.pick (.there (.there .here)) .nil) ?_
     have hin:=hok.ins l[i] (List.getElem_mem hil)
     refine e_ask v_gtr .nil (fun h=>?_) (fun h=>?_)
     ·obtain⟨x,hx⟩:=Int.eq_ofNat_of_zero_le (show 0<=l[i] by omega)
      have hx15:x<16:=by omega
      have hcu:=hok.cur_lt' hil hx (by omega) (by omega)
      have h15:=pow15 (show x<=15 by omega)
      refine e_condT (o_ (v_iaA x hx hx15) ?_)
      refine e_opN (v_ld (v:=I (cur l x i)) (by rw[Nat.zero_add,Nat.mul_one,A16,An_get hx15,if_neg (by omega)])) (.pick (.there .here) .nil) ?_
      refine o_ (v_ia1 i (by rfl) hil) ?_
      refine e_stSl .here (by rw[Ln_len];omega) ?_
      rw[show(Ln l.length fun k=>if k<i then(codeAt l k:Int)else 0).set (0+i) (I (cur l x i))=Ln l.length (fun k=>if k<i+1 then(codeAt l k:Int)else 0)from by
       rw[Nat.zero_add]
       refine Ln_set.trans (Ln_congr fun j hj=>?_)
       by_cases e:j=i
       ·subst e;rw[if_pos rfl,if_pos (by omega),codeAt_pos hil hx (by omega)]
       ·rw[if_neg e]
        by_cases e2:j<i
        ·rw[if_pos e2,if_pos (by omega)]
        ·rw[if_neg e2,if_neg (by omega)]]
      refine o_ (v_iaA x hx hx15) ?_
      refine e_opN (v_ld (v:=I (cur l x i)) (by rw[Nat.zero_add,Nat.mul_one,A16,An_get hx15,if_neg (by omega)])) (.pick (.there .here) .nil) ?_
      refine ad_ ?_
      refine o_ (v_iaA x hx hx15) ?_
      refine e_st (.there .here) (by rw[A16,An_size];omega) ?_
      rw[show(A16 fun j=>if j=0 then 0 else(cur l j i:Int)).setIfInBounds (0+x * 1) (.int .i64 ((cur l x i:Int)+1))=A16 (fun j=>if j=0 then 0 else(cur l j (i+1):Int))from by
       rw[Nat.zero_add,Nat.mul_one]
       refine An_set.trans (An_congr fun j hj=>?_)
       rw[cur_succ hil]
       by_cases e:j=x
       ·subst e;rw[if_pos rfl,if_neg (by omega),if_pos hx];push_cast;rfl
       ·rw[if_neg e,if_neg (show ¬l[i]=(j:Int) by omega)];simp]
      refine ad_ ?_
      refine e_next1 (m-1) (by omega) (.ex (i+1) (.all ?_))
      refine nr_ ?_
      refine .pu ⟨by omega,by norm_cast⟩ ?_
      exact im_
     ·(refine e_condF ?_);refine ad_ ?_
      refine e_next1 (m-1) (by omega) (.ex (i+1) (.all ?_))
      refine nr_ ?_
      refine .pu ⟨by omega,by norm_cast⟩ ?_
      rw[show(Ln l.length fun k=>if k<i+1 then(codeAt l k:Int)else 0)=Ln l.length (fun k=>if k<i then(codeAt l k:Int)else 0)from Ln_congr fun j hj=>by
       by_cases e:j=i
       ·subst e;rw[if_pos (by omega),if_neg (by omega),codeAt_zero hil (by omega)];rfl
       ·by_cases e2:j<i
        ·rw[if_pos e2,if_pos (by omega)]
        ·rw[if_neg e2,if_neg (by omega)]]
      rw[show A16 (fun j=>if j=0 then 0 else(cur l j (i+1):Int))=A16 (fun j=>if j=0 then 0 else(cur l j i:Int))from An_congr fun j hj=>by
       by_cases e:j=0
       ·rw[if_pos e,if_pos e]
       ·rw[if_neg e,if_neg e,cur_succ hil,if_neg (by omega)];simp]
      exact im_
    ·have:i=l.length:=by omega
     subst this
     refine e_condF ?_
     rw[Ln_codes]
     refine e_ret (some ⟨g3,0,none⟩,l.length) (by rw[hcl]) ?_
     rw[hcl]
     exact im_
def rm (f:Nat->Int):Nat->Int
 |0=>1
 |k+1=>2 * rm f k-f (k+1)
theorem rm_room {l:List Int}{f:Nat->Int}(h:∀j,j<16->f j=cnt l j):∀k,k<=15->rm f k=room l k
 |0,_=>rfl
 |k+1,hk=>by rw[rm,room,rm_room h k (by omega),h (k+1) (by omega)]
theorem rm_bound {f:Nat->Int}(h:∀j,0<=f j/\f j<=320):∀k,rm f k<=(2^k:Nat)/\ -(320 * ((2^k:Nat):Int))<=rm f k-320
 |0=>by simp[rm]
 |k+1=>by
  have ih:=rm_bound h k
  have hf:=h (k+1)
  have e:(2:Nat)^(k+1)=2 * 2^k:=by rw[Nat.pow_succ];omega
  rw[e,rm]
  push_cast
  push_cast at ih
  omega
def fullB (l:List Int):Bool:=decide (okL l)&&decide (wk l 15=32768)
theorem full {W:World}{a:Option Addr}{cap:Nat}{l:List Int}{A:HP}(hr:RdB W A a l.length (l.map I))(hl:l.length<=4611686018427387904):
  Cn p_ 179 [.slice a l.length cap] W [A] (fun _:Unit=> .bool (fullB l)) (fun _=>[A]):=by
 (refine Shp.cn (Sg.g_ Tryz.call179 Tryz.func179 (an:={loops:=[(4,[5,15])]})) fun F=>?_;simp only[ca_,na_])
 refine c_ (counts hr hl) fun _=>?_
 rename_i f
 refine e_pu Pick.here fun hf=>?_
 obtain⟨hf1,hf2⟩:=hf
 refine o_ (v_ext (v:= .agg (A16 f)) rfl) ?_
 refine o_ (v_ext (v:= .bool (decide (okL l))) rfl) ?_
 refine e_newA fun g=>?_
 refine e_stAgg .here (by rfl) (An_size 16 f) one16 ?_
 refine o_ (v_slA (l:=1) (by rfl) (by omega)) ?_
 refine o_ v_len ?_
 have hrd:RdB W (pt g (.cells (A16 f) 280 (0,0))) (some ⟨g,1 * 1,none⟩) 15 ((List.range 15).map fun j=>I (f (1+j))):=rd_cut (n:=16) (f:=f) (rd_pt (by simp)) (by omega)
 refine e_loop2 (fun m x y=>[all [pu (∃i:Nat,m+i=15/\i<=15/\y= .int .i64 (i:Int)/\x= .int .i64 (rm f i)),pt g (.cells (A16 f) 280 (0,0)),A]]++F) 15 ?_ ?_
 ·refine Imp.all ?_
  refine nr_ ?_
  exact .pu ⟨0,by omega,by omega,rfl,rfl⟩ .refl
 intro m ds x y
 refine nr_ ?_
 refine e_all Pick.here ?_
 refine nr_ ?_
 refine e_pu Pick.here fun hi=>?_
 obtain⟨i,hmi,hi15,rfl,rfl⟩:=hi
 have hb:=rm_bound hf2 i
 have h15:=pow15 hi15
 refine e_ask v_lss .nil (fun h=>?_) (fun h=>?_)
 ·have hi14:i<15:=by omega
  refine e_condT (o_ (v_ia1 i (by rfl) (by omega)) ?_)
  refine e_opN (v_ldRd hrd (v:=I (f (1+i))) (by rw[List.getElem?_map,List.getElem?_range hi14];rfl)) (.pick .here .nil) ?_
  have hc:=hf2 (1+i)
  (refine o_ (v_mul (by omega) (by omega)) ?_);refine sb_ ?_;refine ad_ ?_
  refine e_next2 (m-1) (by omega) (.all ?_)
  refine nr_ ?_
  exact .pu ⟨i+1,by omega,by omega,by norm_cast,by rw[rm,Nat.add_comm 1 i]⟩ .refl
 ·have hie:i=15:=by omega
  subst hie
  refine e_condF ?_
  by_cases hok:okL l
  ·have hrr:=rm_room (hf1 hok) 15 (by omega)
   rw[dT_ hok]
   refine e_gdT (e_gdT (o_ v_eql ?_))
   rw[show decide (rm f 15=0)=fullB l by unfold fullB;rw[dT_ hok,Bool.true_and];exact decide_eq_decide.2 (by rw[hrr];exact room0_iff)]
   refine o_ v_pickT (rt_ () ?_)
   exact im_
  ·rw[dF_ hok]
   refine e_gdF2 (e_gdF2 (o_ v_pickF ?_))
   rw[show fullB l=false by unfold fullB;rw[dF_ hok,Bool.false_and]]
   refine rt_ () ?_
   exact im_
theorem wrapu64' {n:Int}(h0:0<=n)(h:n<18446744073709551616):IntKind.u64.wrap n=n:=by
 obtain⟨N,rfl⟩:=Int.eq_ofNat_of_zero_le h0
 simp only[IntKind.wrap,IntKind.bits,IntKind.signed]
 simp;omega
theorem shl64 {a:Int}{k:Nat}(hk:k<=32)(h0:0<=a)(h:a<=65536):IntKind.i64.wrap (a * 2^(min ((k:Int)).toNat IntKind.i64.bits))=a * ((2^k:Nat):Int):=by
 have h2:(2:Nat)^k<=2^32:=Nat.pow_le_pow_right (by omega) hk
 have e:(2:Nat)^32=4294967296:=by decide
 rw[show min ((k:Int)).toNat IntKind.i64.bits=k by simp only[IntKind.bits,Int.toNat_natCast];omega,show(2:Int)^k=((2^k:Nat):Int)from(Int.natCast_pow 2 k).symm]
 obtain⟨E,hE⟩:∃E:Nat,E=2^k:=⟨_,rfl⟩
 rw[<- hE]at h2 ⊢
 have h3:a * (E:Int)<=65536 * 4294967296:=Int.mul_le_mul h (by omega) (by omega) (by omega)
 have h4:0<=a * (E:Int):=Int.mul_nonneg h0 (by omega)
 exact w64 (by omega) (by omega)
end Go.Proofs.YtndojgomlkpeaaaGreatDoor.HF
namespace Go.Proofs.YtndojgomlkpeaaaGreatDoor.Sl
open Go Go.RowKit Sh
variable {P:Program} {W:World} {L L':List HP} {Kp:PK} {k:Value->WP}
variable {κ:Type} [DecidableEq κ] {enc:κ->Value} {t kt:TypeId}
theorem setM_keys (q:κ)(v:Value):∀m:List (κ × Value),(m.map (·.1)).Nodup->((setM q v m).map (·.1)).Nodup/\∀x,x∈(setM q v m).map (·.1)->x=q\/x∈m.map (·.1)
 |[],_=>by simp[setM]
 |p::m,h=>by
  rw[List.map_cons,List.nodup_cons]at h
  have ih:=setM_keys q v m h.2
  unfold setM
  by_cases c:q=p.1
  ·rw[if_pos c]
   refine⟨by rw[List.map_cons,List.nodup_cons];exact h,fun x hx=> .inr hx⟩
  ·rw[if_neg c]
   refine⟨?_,fun x hx=>?_⟩
   ·rw[List.map_cons,List.nodup_cons]
    refine⟨fun hx=>?_,ih.1⟩
    rcases ih.2 _ hx with e|e
    ·exact c e.symm
    ·exact h.1 e
   ·rw[List.map_cons,List.mem_cons]at hx
    rcases hx with e|e
    ·exact .inr (by rw[List.map_cons,e];exact List.mem_cons_self ..)
    ·rcases ih.2 _ e with e|e
     ·exact .inl e
     ·exact .inr (by rw[List.map_cons];exact List.mem_cons_of_mem _ e)
def MapFn (g:Nat)(enc:κ->Value)(f:κ->Option Value):HP:=ex fun m=>all [pu ((m.map (·.1)).Nodup/\∀q,getM q m=f q),MapIs g enc m]
def updM (f:κ->Option Value)(q:κ)(v:Option Value):κ->Option Value:=fun x=>if x=q then v else f x
theorem e_mf {g:Nat}{f:κ->Option Value}{S:WP}(p:Pick L (MapFn g enc f) L')(h:∀m,(m.map (·.1)).Nodup->(∀q,getM q m=f q)->Ent W (MapIs g enc m::L') S):Ent W L S:=by
 refine e_ex p fun m=>e_all .here ?_
 refine e_pu .here fun hm=>h m hm.1 hm.2
theorem imp_mf {g:Nat}{f:κ->Option Value}{M:List HP}{m:List (κ × Value)}(p:Pick L (MapIs g enc m) L')(h1:(m.map (·.1)).Nodup)(h2:∀q,getM q m=f q)(h:Imp W L' M):Imp W L (MapFn g enc f::M):=
 .ex m (.all (.pu ⟨h1,h2⟩ (.pick p h)))
theorem e_lookFOk {e:TypeId}{z:Value}{g:Nat}{f:κ->Option Value}{q:κ}[ht:MapT P t kt e][hz:ZeroT P e z](K:KeyLaw P kt enc)(p:Pick L (MapFn g enc f) L')(h:Ent W (MapFn g enc f::L') (k (.tuple #[(f q).getD z,.bool (f q).isSome]))):Ent W L (opN P (sLook t (.map (some g)) (enc q) true) Kp k):=
 e_mf p fun m h1 h2=>e_opN (v_lookOk K) (.pick .here .nil) (e_imp (imp_mf .here h1 h2 .refl) (by rw[h2];exact h))
theorem e_setF {e:TypeId}{g:Nat}{f:κ->Option Value}{q:κ}{v:Value}[ht:MapT P t kt e](K:KeyLaw P kt enc)(p:Pick L (MapFn g enc f) L')(h:Ent W (MapFn g enc (updM f q (some v))::L') (k undef)):Ent W L (opN P (sMapSet t (.map (some g)) (enc q) v) Kp k):=
 e_mf p fun m h1 h2=>e_mapset K .here (e_imp (imp_mf .here (setM_keys q v m h1).1 (fun x=>by rw[getM_setM,h2];rfl) .refl) h)
theorem e_mkF {e:TypeId}(enc:κ->Value)[ht:MapT P t kt e](h:∀g,Ent W (MapFn g enc (fun _=>none)::L) (k (.map (some g)))):Ent W L (opN P (sMkMap t none) Kp k):=
 e_mkmap enc fun g=>e_imp (imp_mf .here (by simp) (fun q=>by simp[getM,fnd]) .refl) (h g)
theorem v_eqMap {P:Program}{W:World}{t kt e:TypeId}{ox oy:Operand}{g:Nat}[ht:MapT P t kt e]:RunV P W [] (sEq .eql t ox oy (.map (some g)) (.map none)) (.bool false):=fun w _=>by
 have h:(Op.equal t (.map (some g)) (.map none)).run P w= .ok false w:=by
  unfold Op.equal Op.maxDepth Op.equalIn
  simp only[Sem.run_bind,run_underlying ht.ut,Result.andThen_ok]
  rfl
 simp[sEq,sv,eqGuard,binOp,h,Result.andThen]
end Go.Proofs.YtndojgomlkpeaaaGreatDoor.Sl
namespace Go.Proofs.YtndojgomlkpeaaaGreatDoor.HF
open Go Go.Proofs Go.RowKit Sh Sl T HM B M
def encC (p:Int × Int):Value:= .agg #[.int .i64 p.1,.int .i64 p.2]
theorem keyC:KeyLaw p_ 315 encC where
 check:=fun b k w=>by
  unfold encC Instr.checkKey
  simp only[Sem.run_bind,Tryz.runUnderlying315,Result.andThen_ok]
  have hk:∀(v:Int) (w:World),(Instr.checkKey b 9999 3 (.int .i64 v)).run p_ w= .ok () w:=fun v w=>MapKept.run_checkKey (n:=9998) (d:= .int .i64) (by kernel_rfl) (by simp[MapKept.IsKey]) b
  simp[part,Tryz.isAgg3,hk,Result.andThen]
 eq:=fun k k' w=>by
  have hs:p_.stoodInHeld 315=false:=by kernel_rfl
  unfold encC Op.equal Op.maxDepth Op.equalIn
  have hp:(program).run p_ w= .ok p_ w:=rfl
  simp only[Sem.run_bind,Tryz.runUnderlying315,Result.andThen_ok,hp,hs]
  have he:∀(a b:Int) (w:World),(Op.equalIn 9999 3 (.int .i64 a) (.int .i64 b)).run p_ w= .ok (a==b) w:=fun a b w=>run_equalIn_int w 9998 3 .i64 .i64 a b (by kernel_rfl)
  obtain⟨k1,k2⟩:=k
  obtain⟨l1,l2⟩:=k'
  simp[part,Tryz.isAgg3,he,Result.andThen]
  by_cases h1:k1=l1
  ·subst h1
   by_cases h2:k2=l2
   ·subst h2
    simp[Tryz.isAgg3,he,Result.andThen]
   ·simp[Tryz.isAgg3,he,Result.andThen,h2]
  ·simp[h1,Result.andThen]
 now:=⟨.struct (p_.fieldsOf 315),by kernel_rfl,fun k k'=> .inl rfl⟩
 same:=fun k=>by
  unfold encC Instr.sameBits
  simp[Instr.sameBits]
def fL (l:List Int)(n c:Int):Nat->Option Nat
 |0=>none
 |k+1=>match fL l n c k with
  |some j=>some j
  |none=>if 0<n/\l[k]? =some n/\(codeAt l k:Int)=c then some k else none
theorem fL_sound {l:List Int}{n c:Int}:∀ {k j:Nat},fL l n c k=some j->j<k/\0<n/\l[j]? =some n/\(codeAt l j:Int)=c
 |0,j,h=>by cases h
 |k+1,j,h=>by
  unfold fL at h
  cases hk:fL l n c k with
  |some i=>
   rw[hk]at h
   have:=Option.some.inj h
   subst this
   obtain⟨h1,h2⟩:=fL_sound hk
   exact⟨by omega,h2⟩
  |none=>
   rw[hk]at h
   simp only at h
   by_cases hc:0<n/\l[k]? =some n/\(codeAt l k:Int)=c
   ·rw[if_pos hc]at h
    have:=Option.some.inj h
    subst this
    exact⟨by omega,hc⟩
   ·rw[if_neg hc]at h;cases h
theorem fL_apart {l:List Int}(hin:inL l){k:Nat}(hk:k<l.length)(hp:0<l[k]):fL l l[k] (codeAt l k) k=none:=by
 cases h:fL l l[k] (codeAt l k) k with
 |none=>rfl
 |some j=>
  obtain⟨h1,h2,h3,h4⟩:=fL_sound h
  obtain⟨n,hn⟩:=Int.eq_ofNat_of_zero_le (show 0<=l[k] by omega)
  have hj:j<l.length:=by omega
  rw[List.getElem?_eq_getElem hj]at h3
  have h3:=Option.some.inj h3
  have:=apart hj hk (by omega) (h3.trans hn) hn (by omega) (Nat.le_refl n)
  rw[Nat.sub_self,Nat.pow_zero,Nat.div_one]at this
  exact absurd (by exact_mod_cast h4.symm) this
def pos (l:List Int):Prop:=∃x∈l,0<x
instance (l:List Int):Decidable (pos l):=by unfold pos;infer_instance
structure DecOK (l:List Int)(i:Nat)(m:List ((Int × Int) × Value)):Prop where
 get:∀n c,getM (n,c) m=(fL l n c i).map fun j:Nat=>Value.int .i64 (j:Int)
 emp:m=[]↔ ¬ ∃k,k<i/\∃x,l[k]? =some x/\0<x
def IsDec (p:Nat)(l:List Int):HP:=ex fun g:Nat=>ex fun m:List ((Int × Int) × Value)=>all [pt p (.cells #[.map (some g)] 313),MapIs g encC m,pu (DecOK l l.length m)]
section
variable {W:World} {A:HP} {a:Option Addr} {cap:Nat} {l:List Int}
theorem newDec (hr:RdB W A a l.length (l.map I))(hok:okL l):
  Cn p_ 213 [.slice a l.length cap] W [A] (fun p:Nat=> .tuple #[.pointer (some ⟨p,0,none⟩),.int .i64 0]) (fun p=>[IsDec p l,A]):=by
 (refine Shp.cn (Sg.g_ Tryz.call213 Tryz.func213 (an:={loops:=[(6,[22])],drs:=[(9,.ofL [(0,1),(1,1),(2,1),(3,1),(4,1),(5,1),(6,1),(7,1),(8,1),(9,1),(10,1),(11,0)])]})) fun F=>?_;simp only[ca_,na_])
 have hlen:=hok.len
 have hR:cdR l=0:=by simp[cdR,hok]
 have hB:cdL l=codes l:=by simp[cdL,hok]
 have hcl:=length_codes l
 refine c_ (codes_ hr (by omega)) fun _=>?_
 rename_i q
 obtain⟨qa,qc⟩:=q
 rw[hR,hB,hcl]
 (try dsimp only)
 refine xt_ ?_;refine xt_ ?_
 refine o_ v_neq ?_
 rw[dF_ (by omega)]
 refine e_condF (e_mkmap encC fun gm=>?_)
 refine o_ v_rv ?_;refine e_boxA fun g=>?_;refine o_ v_len (e_slfacts (.there (.there .here)) fun f1 f2 f3 f4=>?_)
 refine e_loop1 (fun m y=>[ex fun i:Nat=>ex fun mp:List ((Int × Int) × Value)=>all [pu (m+i=l.length/\y= .int .i64 (i:Int)/\DecOK l i mp),MapIs gm encC mp,pt g (.cells #[.map (some gm)] 313),Sl 1 3 qa qc l.length ((codes l).map I),A]]++F) l.length ?_ ?_
 ·refine .ex 0 (.ex [] (.all ?_))
  refine nr_ ?_
  refine .pu ⟨by omega,rfl,fun n c=>rfl,⟨fun _ ⟨k,hk,_⟩=>by omega,fun _=>rfl⟩⟩ ?_
  exact .pick (by repeat constructor) (.pick (by repeat constructor) (.pick (by repeat constructor) (.pick (by repeat constructor) .refl)))
 intro m ds y
 refine nr_ ?_
 refine e_ex Pick.here fun i=>e_ex Pick.here fun mp=>e_all Pick.here ?_
 refine nr_ ?_
 refine e_pu Pick.here fun hi=>?_
 obtain⟨hmi,rfl,hdec⟩:=hi
 refine e_ask v_lss .nil (fun h=>?_) (fun h=>?_)
 ·have hil:i<l.length:=by omega
  obtain⟨ga,oa,rfl,_⟩:=hr.at_ (by omega)
  obtain⟨gq,rfl⟩:=f4 (by omega)
  refine e_condT (o_ (v_ia1 i (by rfl) hil) ?_)
  refine p_op (v_ldRd hr (I_get hil)) ?_
  have hli:l[i]? =some l[i]:=List.getElem?_eq_getElem hil
  refine e_ask v_gtr .nil (fun h=>?_) (fun h=>?_)
  ·have hap:=fL_apart hok.ins hil h
   have gi:((codes l).map I)[0+i]? =some (I (codeAt l i)):=by rw[Nat.zero_add,List.getElem?_map,codes,List.getElem?_map,List.getElem?_range hil];rfl
   refine e_condT (e_drS (t_ v_nil (t_ v_fa0 (ls_ ?_))))
   refine t_ (v_ia1 i (by rfl) hil) ?_
   refine p_st (v_ldSl gi) ?_
   refine t_ v_rv ?_
   refine e_mapset (q:=(l[i],(codeAt l i:Int))) keyC (by repeat constructor) ?_
   refine ad_ ?_
   refine e_next1 (m-1) (by omega) (.ex (i+1) (.ex (setM (l[i],(codeAt l i:Int)) (.int .i64 (i:Int)) mp) (.all ?_)))
   refine nr_ ?_
   refine .pu ⟨by omega,by norm_cast,fun n c=>?_,⟨fun c=>?_,fun c=>absurd ⟨i,by omega,l[i],hli,h⟩ c⟩⟩ ?_
   ·rw[getM_setM,fL]
    by_cases e:(n,c)=(l[i],(codeAt l i:Int))
    ·injection e with e1 e2
     subst e1;subst e2
     rw[if_pos rfl,hap]
     simp only
     rw[if_pos ⟨h,hli,by first|trivial|rfl⟩];rfl
    ·rw[if_neg e,hdec.get]
     cases hf:fL l n c i with
     |some j=>rfl
     |none=>
      simp only
      rw[if_neg (fun d=>e (by
       have d2:=d.2.1
       rw[hli]at d2
       rw[<- Option.some.inj d2,<- d.2.2]))]
   ·exfalso
    have:∀m:List ((Int × Int) × Value),setM (l[i],(codeAt l i:Int)) (.int .i64 (i:Int)) m≠[]:=fun m=>by
     cases m with
     |nil=>simp[setM]
     |cons p m=>unfold setM;split <;> simp
    exact this mp c
   ·exact .pick (by repeat constructor) (.pick (by repeat constructor) (.pick (by repeat constructor) (.pick (by repeat constructor) .refl)))
  ·(refine e_condF ?_);refine ad_ ?_
   refine e_next1 (m-1) (by omega) (.ex (i+1) (.ex mp (.all ?_)))
   refine nr_ ?_
   refine .pu ⟨by omega,by norm_cast,fun n c=>?_,?_⟩ ?_
   ·rw[hdec.get,fL]
    cases hf:fL l n c i with
    |some j=>rfl
    |none=>
     simp only
     rw[if_neg (fun d=>by
      have d2:=d.2.1
      rw[hli]at d2
      have:=Option.some.inj d2
      omega)]
   ·rw[hdec.emp]
    constructor
    ·rintro hn ⟨k,hk,x,hx,hx0⟩
     by_cases c:k=i
     ·subst c
      rw[hli]at hx
      have:=Option.some.inj hx
      omega
     ·exact hn ⟨k,by omega,x,hx,hx0⟩
    ·rintro hn ⟨k,hk,x,hx,hx0⟩
     exact hn ⟨k,by omega,x,hx,hx0⟩
   ·exact .pick (by repeat constructor) (.pick (by repeat constructor) (.pick (by repeat constructor) (.pick (by repeat constructor) .refl)))
 ·have hie:i=l.length:=by omega
  subst hie
  refine e_condF (e_ret g rfl ?_)
  refine .ex gm (.ex mp (.all ?_))
  refine nr_ ?_
  exact .pick (by repeat constructor) (.pick (by repeat constructor) (.pu hdec im_))
theorem newDec0 (hr:RdB W A a l.length (l.map I))(hl:l.length<=4611686018427387904)(hok:¬okL l):
  Cn p_ 213 [.slice a l.length cap] W [A] (fun _:Unit=> .tuple #[.pointer none,.int .i64 30]) (fun _=>[A]):=by
 (refine Shp.cn (Sg.g_ Tryz.call213 Tryz.func213 (an:={loops:=[(6,[22])],drs:=[(9,.ofL [(0,1),(1,1),(2,1),(3,1),(4,1),(5,1),(6,1),(7,1),(8,1),(9,1),(10,1),(11,0)])]})) fun F=>?_;simp only[ca_,na_])
 have hR:cdR l=30:=by simp[cdR,hok]
 refine c_ (codes_ hr hl) fun _=>?_
 rename_i q
 obtain⟨qa,qc⟩:=q
 rw[hR]
 (try dsimp only)
 refine xt_ ?_;refine xt_ ?_
 refine o_ v_neq ?_
 rw[dT_ (by omega)]
 refine e_condT (rt_ () ?_)
 exact im_
end
end Go.Proofs.YtndojgomlkpeaaaGreatDoor.HF
namespace Go.Proofs.YtndojgomlkpeaaaGreatDoor.IF
open Go Go.Proofs Go.RowKit Sh Sl T HM HF B M
abbrev If (φ:Prop):={_u:Unit // φ}
def yes {φ:Prop}(h:φ):If φ:=⟨(),h⟩
def pn (e:Int):List PanicEntry:=pe (.iface 27 (.int .i64 e))
theorem must {W:World}{e:Int}:CnP p_ 175 [.int .i64 e] W [] (fun _:If (e=0)=> .tuple #[]) (fun _=>[]) (fun _:If (e≠0)=>pn e) (fun _=>[]):=by
 (refine Shp.cnP (Sg.g_ Tryz.call175 Tryz.func175) fun F=>?_;simp only[ca_,na_,-eq_self])
 refine e_ask v_neq .nil (fun h=>?_) (fun h=>?_)
 ·refine e_condT (o_ v_mkI (e_panic ?_))
  exact e_pan (yes (h)) rfl .refl
 ·refine e_condF (rt_ (yes (Decidable.not_not.1 h)) ?_)
  exact .refl
theorem demand {W:World}{b:Bool}{e:Int}:CnP p_ 172 [.bool b,.int .i64 e] W [] (fun _:If (b=true)=> .tuple #[]) (fun _=>[]) (fun _:If (b=false)=>pn e) (fun _=>[]):=by
 (refine Shp.cnP (Sg.g_ Tryz.call172 Tryz.func172) fun F=>?_;simp only[ca_,na_,-eq_self])
 cases b with
 |true=>
  refine o_ v_notT (e_condF (rt_ (yes (rfl)) ?_))
  exact .refl
 |false=>
  refine o_ v_notF (e_condT (o_ v_mkI (e_panic ?_)))
  exact e_pan (yes (rfl)) rfl .refl
def IsS (p:Nat)(b:List UInt8)(at_:Nat)(out:List UInt8)(most:Int):HP:=ex fun q:Nat × (Option Addr × Nat)=>all [pt p (.cells #[.pointer (some ⟨q.1,0,none⟩),.slice q.2.1 out.length q.2.2,.int .i64 most] 184),IsR q.1 b at_,Sl 1 5 q.2.1 q.2.2 out.length (out.map Sl.B)]
theorem stake {W:World}{p at_:Nat}{b out:List UInt8}{most k:Int}:CnP p_ 138 [.pointer (some ⟨p,0,none⟩),.int .i64 k] W [IsS p b at_ out most]
  (fun _:If (takR b at_ k=0)=> .int .i64 (takN b at_ k:Int)) (fun _=>[IsS p b (takAt b at_ k) out most]) (fun _:If (takR b at_ k≠0)=>pn (takR b at_ k)) (fun _=>[]):=by
 (refine Shp.cnP (Sg.g_ Tryz.call138 Tryz.func138) fun F=>?_;simp only[ca_,na_,-eq_self])
 refine e_ex Pick.here fun q=>e_all Pick.here ?_
 obtain⟨r,qa,qc⟩:=q
 refine nr_ ?_
 refine o_ v_nil (o_ v_fa0 (ln_ ?_))
 refine c_ B.take fun _=>?_
 refine xt_ ?_;refine xt_ ?_
 (refine' e_callP (must) ?hp (fun _=>?_) (fun _=>?_);(case hp=>(repeat(first|exact Picks.nil|(apply Picks.cons;(focus repeat constructor)))));(all_goals (try simp only[ca_,na_,Bool.not_true,Bool.not_false,-eq_self])))
 ·rename_i x
  refine rt_ (yes (x.2)) ?_
  refine .ex (r,(qa,qc)) (.all ?_)
  refine nr_ ?_
  exact .pick (by repeat constructor) (.pick (by repeat constructor) (.pick (by repeat constructor) im_))
 ·rename_i y
  refine e_pan (yes (y.2)) rfl ?_
  exact im_
theorem room {W:World}{p at_:Nat}{b out:List UInt8}{most n:Int}(h1: -1099511627776<=most/\most<=1099511627776)(h2:out.length<=1099511627776):CnP p_ 173 [.pointer (some ⟨p,0,none⟩),.int .i64 n] W [IsS p b at_ out most]
  (fun _:If (n<=most-out.length)=> .tuple #[]) (fun _=>[IsS p b at_ out most]) (fun _:If (¬n<=most-out.length)=>pn 6) (fun _=>[]):=by
 (refine Shp.cnP (Sg.g_ Tryz.call173 Tryz.func173 (an:={drs:=[(0,.ofL [(0,1),(1,1),(2,1),(3,1),(4,1),(5,1),(6,1),(7,1),(8,1),(9,1),(10,1),(11,1),(12,0)])]})) fun F=>?_;simp only[ca_,na_,-eq_self])
 refine e_ex Pick.here fun q=>e_all Pick.here ?_
 obtain⟨r,qa,qc⟩:=q
 refine nr_ ?_
 refine e_drS (t_ v_nil (t_ v_fa0 (ls_ ?_)));refine t_ v_nil (t_ v_fa0 (ls_ ?_));refine t_ v_len ?_;(refine t_ (v_sub (by omega) (by omega)) ?_)
 refine t_ v_leq ?_
 (refine' e_callP (demand) ?hp (fun _=>?_) (fun _=>?_);(case hp=>(repeat(first|exact Picks.nil|(apply Picks.cons;(focus repeat constructor)))));(all_goals (try simp only[ca_,na_,Bool.not_true,Bool.not_false,-eq_self])))
 ·rename_i x
  refine rt_ (yes (of_decide_eq_true x.2)) ?_
  refine .ex (r,(qa,qc)) (.all ?_)
  refine nr_ ?_
  exact .pick (by repeat constructor) (.pick (by repeat constructor) (.pick (by repeat constructor) im_))
 ·rename_i y
  refine e_pan (yes (of_decide_eq_false y.2)) rfl ?_
  exact im_
end Go.Proofs.YtndojgomlkpeaaaGreatDoor.IF
namespace Go.Proofs.YtndojgomlkpeaaaGreatDoor.HF
open Go Go.Proofs Go.RowKit Sh Sl T HM B M
theorem e_rfact {W:World}{L L':List HP}{S:WP}{r at_:Nat}{b:List UInt8}(p:Pick L (IsR r b at_) L')(h:at_<=8 * b.length->Ent W L S):Ent W L S:=fun w hw=>by
 obtain⟨f,⟨q,ha⟩,_⟩:=(hw.pick p).fst
 obtain⟨_,_,_,⟨_,_,_,⟨_,_,hp,_⟩,_⟩,_⟩:=ha
 exact h hp.1 w hw
def dec (l:List Int)(b:List UInt8):Nat->Nat->Nat->Nat->Int × Int × Nat
 |0,_,_,at_=>(0,30,at_)
 |f+1,n,c,at_=>if takR b at_ 1=0 then(match fL l ((n+1:Nat):Int) ((2 * c+takN b at_ 1:Nat):Int) l.length with
  |some i=>((i:Int),0,takAt b at_ 1)
  |none=>dec l b f (n+1) (2 * c+takN b at_ 1) (takAt b at_ 1))else(0,takR b at_ 1,takAt b at_ 1)
def nxt (l:List Int)(b:List UInt8)(at_:Nat):Int × Int × Nat:=if pos l then dec l b 15 0 0 at_ else(0,30,at_)
theorem pos_iff (l:List Int):(∃k,k<l.length/\∃x,l[k]? =some x/\0<x)↔pos l:=by
 constructor
 ·rintro⟨k,hk,x,hx,h0⟩
  rw[List.getElem?_eq_getElem hk]at hx
  exact⟨x,by rw[<- Option.some.inj hx];exact List.getElem_mem hk,h0⟩
 ·rintro⟨x,hx,h0⟩
  obtain⟨k,hk,rfl⟩:=List.mem_iff_getElem.1 hx
  exact⟨k,hk,_,List.getElem?_eq_getElem hk,h0⟩
theorem takN1 (b:List UInt8)(at_:Nat):∃v:Bool,takN b at_ 1=v.toNat:=by
 have h:takN b at_ 1<2:=by
  unfold takN
  split
  ·exact tak_lt _ _ _
  ·omega
 rcases(show takN b at_ 1=0\/takN b at_ 1=1 by omega)with e|e
 ·exact⟨false,e⟩
 ·exact⟨true,e⟩
theorem next {W:World}{p r at_:Nat}{l:List Int}{b:List UInt8}:
  Cn p_ 235 [.pointer (some ⟨p,0,none⟩),.pointer (some ⟨r,0,none⟩)] W [IsDec p l,IsR r b at_] (fun _:Unit=> .tuple #[.int .i64 (nxt l b at_).1,.int .i64 (nxt l b at_).2.1]) (fun _=>[IsDec p l,IsR r b (nxt l b at_).2.2]):=by
 (refine Shp.cn (Sg.g_ Tryz.call235 Tryz.func235 (an:={loops:=[(10,[37])],drs:=[(16,.ofL [(0,1),(1,1),(2,1),(3,1),(4,1),(5,1),(6,1),(7,1),(8,1),(9,1),(10,1)])]})) fun F=>?_;simp only[ca_,na_])
 refine e_rfact (.there .here) fun hat=>?_
 refine e_ex Pick.here fun gm=>e_ex Pick.here fun mp=>e_all Pick.here ?_
 refine nr_ ?_
 refine e_pu (.there (.there .here)) fun hdec=>?_
 have back:∀ {at2:Nat} (s e:Int) (L:List HP),Imp W L (pt p (.cells #[.map (some gm)] 313)::MapIs gm encC mp::IsR r b at2::F)->nxt l b at_=(s,e,at2)->Ent W L (fun w=>∃x:Unit,(.tuple #[.int .i64 s,.int .i64 e]:Value)= .tuple #[.int .i64 (nxt l b at_).1,.int .i64 (nxt l b at_).2.1]/\sat W ([IsDec p l,IsR r b (nxt l b at_).2.2]++F) w):=by
  intro at2 s e L hi hn
  rw[hn]
  refine e_imp hi ?_
  refine e_ret () rfl ?_
  refine .ex gm (.ex mp (.all ?_))
  refine nr_ ?_
  exact .pick .here (.pick .here (.pu hdec .refl))
 refine o_ v_eqNil1 ?_;refine e_gdT (e_gdT (o_ v_nil (e_gdT (o_ v_fa0 (e_gdT (ln_ ?_))))));refine e_gdT (o_ v_eqMap ?_)
 refine o_ v_pickF (e_condF (c_ take fun _=>?_))
 have h00:takR b at_ 0=0:=by unfold takR;rw[if_neg (by omega),if_neg (by omega)]
 rw[h00,show takAt b at_ 0=at_ by unfold takAt;rw[if_pos h00];simp]
 refine xt_ ?_;refine xt_ ?_
 refine o_ v_neq ?_
 rw[dF_ (by omega)]
 refine e_condF (o_ v_nil (o_ v_fa0 (ln_ ?_)))
 refine p_op v_lenM ?_
 have hemp:=hdec.emp
 rw[pos_iff]at hemp
 refine e_ask v_eql .nil (fun h=>?_) (fun h=>?_)
 ·have hm0:mp=[]:=List.eq_nil_of_length_eq_zero (by omega)
  have hnp:=hemp.1 hm0
  exact e_condT (back 0 30 _ im_ (by unfold nxt;rw[if_neg hnp]))
 have hp:pos l:=by
  refine Decidable.byContradiction fun c=>h ?_
  rw[hemp.2 c];rfl
 have hn0:nxt l b at_=dec l b 15 0 0 at_:=by unfold nxt;rw[if_pos hp]
 refine e_condF (o_ v_rv ?_);refine e_newA fun g=>?_;refine sg_ ?_
 rename_i gx
 refine e_loop1 (fun m y=>[ex fun n:Nat=>ex fun c:Nat=>ex fun at2:Nat=>all [pu (m+n=15/\y= .int .i64 (n:Int)/\c<2^n/\nxt l b at_=dec l b m n c at2),pt g (.cells #[.int .i64 (n:Int),.int .i64 (c:Int)] 315 (0,0)),pt p (.cells #[.map (some gm)] 313),MapIs gm encC mp,IsR r b at2]]++F) 15 ?_ ?_
 ·refine .ex 0 (.ex 0 (.ex at_ (.all ?_)))
  refine nr_ ?_
  refine .pu ⟨by omega,rfl,by omega,hn0⟩ ?_
  exact .pick (by repeat constructor) (.pick (by repeat constructor) (.pick (by repeat constructor) (.pick (by repeat constructor) .refl)))
 intro m ds y
 refine nr_ ?_
 refine e_ex Pick.here fun n=>e_ex Pick.here fun c=>e_ex Pick.here fun at2=>e_all Pick.here ?_
 refine nr_ ?_
 refine e_pu Pick.here fun hi=>?_
 obtain⟨hmn,rfl,hc,hd⟩:=hi
 refine e_ask v_lss .nil (fun h=>?_) (fun h=>?_)
 ·have hn15:n<15:=by omega
  obtain⟨m,rfl⟩:∃m',m=m'+1:=⟨m-1,by omega⟩
  have hc15:=pow15 (show n<=15 by omega)
  refine e_condT (c_ take fun _=>?_)
  obtain⟨tb,htb⟩:=takN1 b at2
  have htl:=Bool.toNat_le tb
  rw[dec]at hd
  by_cases hR:takR b at2 1=0
  ·rw[if_pos hR]at hd
   rw[hR,htb]
   rw[htb]at hd
   refine xt_ ?_;refine xt_ ?_
   refine o_ v_neq ?_
   rw[dF_ (by omega)]
   refine e_condF (o_ v_fa0 (ln_ ?_));refine ad_ ?_;refine o_ v_fa0 (sn_ ?_);refine o_ v_fa0 (ln_ ?_)
   refine o_ (v_shl (by omega)) ?_
   rw[show(c:Int) * 2^(min ((1:Int)).toNat IntKind.i64.bits)=((c * 2:Nat):Int) by norm_cast,w64 (by omega) (by omega)]
   refine o_ v_or ?_
   rw[or_two (by omega)]
   refine o_ v_fa0 (sn_ ?_);refine e_drS (t_ v_nil (t_ v_fa0 (ls_ ?_)));(((refine' e_stS (v_ldAgg ?hn) ?hi ?_);(case hi=>exact .pick (by repeat constructor) .nil);(case hn=>rfl)))
   refine p_st (v_lookOk (q:=(((n:Int)+1),((2 * c+tb.toNat:Nat):Int))) keyC) ?_
   have hg:=hdec.get ((n:Int)+1) ((2 * c+tb.toNat:Nat):Int)
   rw[hg]
   rw[show((n+1:Nat):Int)=(n:Int)+1 by norm_cast]at hd
   cases hf:fL l ((n:Int)+1) ((2 * c+tb.toNat:Nat):Int) l.length with
   |some i=>
    rw[hf]at hd
    (try simp only[Option.map_some,Option.getD_some,Option.isSome_some])
    refine t_ (v_ext (v:= .int .i64 (i:Int)) rfl) ?_
    refine t_ (v_ext (v:= .bool true) rfl) ?_
    exact e_condT (back (i:Int) 0 _ im_ hd)
   |none=>
    rw[hf]at hd
    (try simp only[Option.map_none,Option.getD_none,Option.isSome_none])
    refine t_ (v_ext (v:= .int .i64 0) rfl) ?_
    refine t_ (v_ext (v:= .bool false) rfl) ?_
    refine e_condF (ad_ ?_)
    refine e_next1 m (by omega) (.ex (n+1) (.ex (2 * c+tb.toNat) (.ex (takAt b at2 1) (.all ?_))))
    refine nr_ ?_
    refine .pu ⟨by omega,by norm_cast,by rw[Nat.pow_succ];omega,hd⟩ ?_
    rw[show((n+1:Nat):Int)=(n:Int)+1 by norm_cast]
    exact .pick (by repeat constructor) (.pick (by repeat constructor) (.pick (by repeat constructor) (.pick (by repeat constructor) .refl)))
  ·rw[if_neg hR]at hd
   refine xt_ ?_;refine xt_ ?_
   refine o_ v_neq ?_
   rw[dT_ hR]
   exact e_condT (back 0 (takR b at2 1) _ im_ hd)
 ·have hm0:m=0:=by omega
  subst hm0
  rw[dec]at hd
  exact e_condF (back 0 30 _ im_ hd)
end Go.Proofs.YtndojgomlkpeaaaGreatDoor.HF
namespace Go.Proofs.YtndojgomlkpeaaaGreatDoor.IF
open Go Go.Proofs Go.RowKit Sh Sl T HM HF B M
abbrev Ok {α:Type}(m:Except Int α):={x:α // m= .ok x}
abbrev Er {α:Type}(m:Except Int α):={e:Int // m= .error e}
def mStored (b:List UInt8)(most:Int)(at_:Nat)(out:List UInt8):Except Int (Nat × List UInt8):=
 if takR b ((at_+7) / 8 * 8) 16≠0 then .error (takR b ((at_+7) / 8 * 8) 16)else
 if takR b (takAt b ((at_+7) / 8 * 8) 16) 16≠0 then .error (takR b (takAt b ((at_+7) / 8 * 8) 16) 16)else
 if(takN b (takAt b ((at_+7) / 8 * 8) 16) 16:Int)≠65535-(takN b ((at_+7) / 8 * 8) 16:Int)then .error 31 else
 if ¬(takN b ((at_+7) / 8 * 8) 16:Int)<=most-out.length then .error 6 else
 if rrR b (takAt b (takAt b ((at_+7) / 8 * 8) 16) 16) (takN b ((at_+7) / 8 * 8) 16:Int)≠0 then .error (rrR b (takAt b (takAt b ((at_+7) / 8 * 8) 16) 16) (takN b ((at_+7) / 8 * 8) 16:Int))else
 .ok (rrAt b (takAt b (takAt b ((at_+7) / 8 * 8) 16) 16) (takN b ((at_+7) / 8 * 8) 16:Int),out++rrB b (takAt b (takAt b ((at_+7) / 8 * 8) 16) 16) (takN b ((at_+7) / 8 * 8) 16:Int))
theorem stored {W:World}{p at_:Nat}{b out:List UInt8}{most:Int}(h1: -1099511627776<=most/\most<=1099511627776)(h2:out.length<=1099511627776):
  CnP p_ 134 [.pointer (some ⟨p,0,none⟩)] W [IsS p b at_ out most] (fun _:Ok (mStored b most at_ out)=> .tuple #[]) (fun x=>[IsS p b x.1.1 x.1.2 most]) (fun y:Er (mStored b most at_ out)=>pn y.1) (fun _=>[]):=by
 (refine Shp.cnP (Sg.g_ Tryz.call134 Tryz.func134) fun F=>?_;simp only[ca_,na_,-eq_self])
 refine e_ex Pick.here fun q=>e_all Pick.here ?_
 obtain⟨r,qa,qc⟩:=q
 refine nr_ ?_
 refine o_ v_nil (o_ v_fa0 (ln_ ?_))
 refine c_ ralign fun _=>?_
 refine e_imp (M:=IsS p b ((at_+7) / 8 * 8) out most::F) (.ex (r,(qa,qc)) (.all (.pick (by repeat constructor) (.pick (by repeat constructor) (.pick (by repeat constructor) im_))))) ?_
 obtain⟨a1,ha1⟩:∃a1,a1=(at_+7) / 8 * 8:=⟨_,rfl⟩
 have hM:mStored b most at_ out=mStored b most at_ out:=rfl
 conv at hM=>rhs;unfold mStored
 rw[<- ha1]at hM ⊢
 (refine' e_callP (stake) ?hp (fun _=>?_) (fun _=>?_);(case hp=>(repeat(first|exact Picks.nil|(apply Picks.cons;(focus repeat constructor)))));(all_goals (try simp only[ca_,na_,Bool.not_true,Bool.not_false,-eq_self])))
 rotate_left
 ·rename_i y
  rw[if_pos y.2]at hM
  refine e_pan ⟨_,hM⟩ rfl ?_
  exact im_
 rename_i x1
 rw[if_neg (fun c=>c x1.2)]at hM
 obtain⟨n,hn⟩:∃n,n=takN b a1 16:=⟨_,rfl⟩
 obtain⟨a2,ha2⟩:∃a2,a2=takAt b a1 16:=⟨_,rfl⟩
 rw[<- hn,<- ha2]at hM
 (try rw[<- hn])
 (try rw[<- ha2])
 (refine' e_callP (stake) ?hp (fun _=>?_) (fun _=>?_);(case hp=>(repeat(first|exact Picks.nil|(apply Picks.cons;(focus repeat constructor)))));(all_goals (try simp only[ca_,na_,Bool.not_true,Bool.not_false,-eq_self])))
 rotate_left
 ·rename_i y
  rw[if_pos y.2]at hM
  refine e_pan ⟨_,hM⟩ rfl ?_
  exact im_
 rename_i x2
 rw[if_neg (fun c=>c x2.2)]at hM
 obtain⟨m,hm⟩:∃m,m=takN b a2 16:=⟨_,rfl⟩
 obtain⟨a3,ha3⟩:∃a3,a3=takAt b a2 16:=⟨_,rfl⟩
 rw[<- hm,<- ha3]at hM
 (try rw[<- hm])
 (try rw[<- ha3])
 have hn16:n<65536:=by rw[hn];unfold takN;split;exact tak_lt _ _ _;omega
 refine sb_ ?_
 refine o_ v_eql ?_
 (refine' e_callP (demand) ?hp (fun _=>?_) (fun _=>?_);(case hp=>(repeat(first|exact Picks.nil|(apply Picks.cons;(focus repeat constructor)))));(all_goals (try simp only[ca_,na_,Bool.not_true,Bool.not_false,-eq_self])))
 rotate_left
 ·rename_i y
  rw[if_pos (of_decide_eq_false y.2)]at hM
  refine e_pan ⟨_,hM⟩ rfl ?_
  exact im_
 rename_i x3
 rw[if_neg (fun c=>c (of_decide_eq_true x3.2))]at hM
 (refine' e_callP (room h1 h2) ?hp (fun _=>?_) (fun _=>?_);(case hp=>(repeat(first|exact Picks.nil|(apply Picks.cons;(focus repeat constructor)))));(all_goals (try simp only[ca_,na_,Bool.not_true,Bool.not_false,-eq_self])))
 rotate_left
 ·rename_i y
  rw[if_pos y.2]at hM
  refine e_pan ⟨_,hM⟩ rfl ?_
  exact im_
 rename_i x4
 rw[if_neg (fun c=>c x4.2)]at hM
 refine e_ex Pick.here fun q=>e_all Pick.here ?_
 obtain⟨r,qa,qc⟩:=q
 refine nr_ ?_
 refine o_ v_nil (o_ v_fa0 (ln_ ?_))
 refine c_ rraw fun _=>?_
 rename_i u
 obtain⟨ua,uc⟩:=u
 (try dsimp only)
 refine o_ (v_ext (v:= .slice ua (rrB b a3 n).length uc) rfl) ?_
 refine o_ (v_ext (v:= .int .i64 (rrR b a3 n)) rfl) ?_
 (refine' e_callP (must) ?hp (fun _=>?_) (fun _=>?_);(case hp=>(repeat(first|exact Picks.nil|(apply Picks.cons;(focus repeat constructor)))));(all_goals (try simp only[ca_,na_,Bool.not_true,Bool.not_false,-eq_self])))
 rotate_left
 ·rename_i y
  rw[if_pos y.2]at hM
  refine e_pan ⟨_,hM⟩ rfl ?_
  exact im_
 rename_i x5
 rw[if_neg (fun c=>c x5.2)]at hM
 refine o_ v_nil (o_ v_fa0 (ln_ ?_))
 refine e_slfacts .here fun f1 f2 f3 f4=>?_
 have hle:=rrB_le b a3 n
 have hbl:(rrB b a3 n).length<=65536:=by
  have:(rrB b a3 n).length<=n:=by unfold rrB;split;(rw[List.length_take];omega);simp
  omega
 refine e_app (m:=(rrB b a3 n).length) (news:=(rrB b a3 n).map Sl.B) (by repeat constructor) (src_rd (e':=5) (by kernel_rfl) .here (rd_sl (by simp) f4) (fun c=>(by
  rcases Nat.eq_zero_or_pos (rrB b a3 n).length with z|z
  ·exact z
  ·obtain⟨_,e⟩:=f4 z;rw[c]at e;cases e)) B_one) (by omega) (by omega) fun a' c'=>?_
 refine o_ v_nil (o_ v_fa0 (sn_ ?_))
 refine rt_ ((⟨_,hM⟩:Ok (mStored b most at_ out))) ?_
 refine .ex (r,(a',c')) (.all ?_)
 refine nr_ ?_
 rw[List.length_append,List.map_append]
 exact .pick (by repeat constructor) (.pick (by repeat constructor) (.pick (by repeat constructor) im_))
theorem decoder {W:World}{A:HP}{a:Option Addr}{cap:Nat}{l:List Int}(hr:RdB W A a l.length (l.map I))(hl:l.length<=4611686018427387904):
  CnP p_ 178 [.slice a l.length cap] W [A] (fun x:{p:Nat // okL l}=> .pointer (some ⟨x.1,0,none⟩)) (fun x=>[IsDec x.1 l,A]) (fun _:If (¬okL l)=>pn 30) (fun _=>[A]):=by
 (refine Shp.cnP (Sg.g_ Tryz.call178 Tryz.func178) fun F=>?_;simp only[ca_,na_,-eq_self])
 by_cases hok:okL l
 ·refine c_ (newDec hr hok) fun _=>?_
  rename_i p
  refine o_ (v_ext (v:= .pointer (some ⟨p,0,none⟩)) rfl) ?_
  refine o_ (v_ext (v:= .int .i64 0) rfl) ?_
  (refine' e_callP (must) ?hp (fun _=>?_) (fun _=>?_);(case hp=>(repeat(first|exact Picks.nil|(apply Picks.cons;(focus repeat constructor)))));(all_goals (try simp only[ca_,na_,Bool.not_true,Bool.not_false,-eq_self])))
  ·refine e_ret ⟨p,hok⟩ rfl ?_
   exact im_
  ·rename_i y
   exact absurd rfl y.2
 ·refine c_ (newDec0 hr hl hok) fun _=>?_
  refine xt_ ?_;refine xt_ ?_
  (refine' e_callP (must) ?hp (fun _=>?_) (fun _=>?_);(case hp=>(repeat(first|exact Picks.nil|(apply Picks.cons;(focus repeat constructor)))));(all_goals (try simp only[ca_,na_,Bool.not_true,Bool.not_false,-eq_self])))
  ·rename_i x
   exact absurd x.2 (by omega)
  ·refine e_pan (yes hok) rfl ?_
   exact im_
theorem inext {W:World}{p r at_:Nat}{l:List Int}{b:List UInt8}:
  CnP p_ 210 [.pointer (some ⟨p,0,none⟩),.pointer (some ⟨r,0,none⟩)] W [IsDec p l,IsR r b at_] (fun _:If ((nxt l b at_).2.1=0)=> .int .i64 (nxt l b at_).1) (fun _=>[IsDec p l,IsR r b (nxt l b at_).2.2]) (fun _:If ((nxt l b at_).2.1≠0)=>pn (nxt l b at_).2.1) (fun _=>[]):=by
 (refine Shp.cnP (Sg.g_ Tryz.call210 Tryz.func210) fun F=>?_;simp only[ca_,na_,-eq_self])
 refine c_ next fun _=>?_
 refine o_ (v_ext (v:= .int .i64 (nxt l b at_).1) rfl) ?_
 refine o_ (v_ext (v:= .int .i64 (nxt l b at_).2.1) rfl) ?_
 (refine' e_callP (must) ?hp (fun _=>?_) (fun _=>?_);(case hp=>(repeat(first|exact Picks.nil|(apply Picks.cons;(focus repeat constructor)))));(all_goals (try simp only[ca_,na_,Bool.not_true,Bool.not_false,-eq_self])))
 ·rename_i x
  refine rt_ (yes x.2) ?_
  exact im_
 ·rename_i y
  refine e_pan (yes y.2) rfl ?_
  exact im_
end Go.Proofs.YtndojgomlkpeaaaGreatDoor.IF
