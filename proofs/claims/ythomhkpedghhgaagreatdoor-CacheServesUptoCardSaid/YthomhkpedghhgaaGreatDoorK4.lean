/- Tags, quoted texts, directives: one element each. The texts' bounds are named. (29 texts made one; each says below what it is.) -/
import Derived.Test.YthomhkpedghhgaaGreatDoorK3
import Derived.Laws.Externs
import Derived.Lib.SliceRun
set_option linter.unusedVariables false
set_option linter.unusedSimpArgs false
set_option linter.unusedSectionVars false
namespace Go.Proofs.YthomhkpedghhgaaGreatDoor.FD
open Go Go.Proofs Go.RowKit Sh Sl T
theorem badQ_i (c:UInt8):badQ c=((decide ((c.toNat:Int)<32)&&decide (c≠9))||decide (c=127)):=by
 have e:decide ((c.toNat:Int)<32)=decide (c<32):=by
  rw[decide_eq_decide,UInt8.lt_iff_toNat_lt]
  simp only[show(32:UInt8).toNat=32 from rfl]
  omega
 rw[e]
 unfold badQ
 by_cases h1:c<32 <;> by_cases h2:c=9 <;> by_cases h3:c=127 <;> simp[h1,h2,h3]
theorem unq_len:∀(n:Nat) (r:List UInt8),r.length<=n->∀acc,(unqL acc r).1.length<=acc.length+r.length
 |_,[],_,acc=>by simp[unqL]
 |n+1,c::r,hn,acc=>by
  have hr:r.length<=n:=by simpa using hn
  rw[unqL_cons]
  split
  ·simp
  ·split
   ·cases r with
    |nil=>simp
    |cons d r'=>
     simp only
     split
     ·simp
     ·have:=unq_len n r' (by simp at hr;omega) (acc++[d])
      simp at this ⊢;omega
   ·split
    ·simp
    ·have:=unq_len n r hr (acc++[c])
     simp at this ⊢;omega
theorem nn_none {a:Option Addr}{n:Nat}(h:0<n->∃g,a=some ⟨g,0,none⟩):a=none->n=0:=fun e=>by
 rcases Nat.eq_zero_or_pos n with c|c
 ·exact c
 ·obtain⟨g,hg⟩:=h c
  rw[e]at hg;cases hg
theorem unqF_at {l:List UInt8}(h:0<l.length):unqF l=if l[0]=34 then unqL [] (l.drop 1)else([],false):=by
 cases l with
 |nil=>simp at h
 |cons c r=>rfl
theorem unquote {W:World}{l:List UInt8}(hl:l.length<=4194304):Cn p_ 133 [txt l] W [] (fun _:Unit=> .tuple #[txt (unqF l).1,.bool (unqF l).2]) (fun _=>[]):=by
 (refine S.fields_unquote_s.cn fun F=>?_;unfold S.fields_unquote;simp only[ca_,na_])
 refine o_ v_lent (o_ v_lss ?_)
 have e0:(Value.string ⟨#[]⟩)=txt []:=rfl
 rw[e0]
 by_cases h2:l.length<2
 ·have hno:unqF l=([],false):=by
   match l,h2 with
   |[],_=>rfl
   |[c],_=>
    show(if c=34 then unqL [] []else([],false))=([],false)
    split <;> rfl
   |_::_::_,h=>exact absurd h (by simp)
  rw[hno,dT_ (by omega)]
  refine e_gdF1 (e_gdF1 (e_gdF1 (o_ v_pickT (e_condT (rt_ () ?_)))))
  exact im_
 ·rw[dF_ (by omega)]
  refine e_or2 (fun _=>v_ixS (l:=l) 0 rfl (by omega)) (fun _=>B_ne 34 rfl) ?_
  rw[Bool.false_or]
  by_cases h3:l[0]'(by omega)=34
  ·rw[dF_ (fun c=>c h3)]
   have hu:unqF l=unqL [] (l.drop 1):=by rw[unqF_at (by omega),if_pos h3]
   rw[hu]
   refine e_condF (e_loop2 (fun m x y=>[ex fun st:(List UInt8 × Option Addr × Nat) × Nat=>all [pu (m+st.2=l.length+1/\st.2<=l.length/\x= .slice st.1.2.1 st.1.1.length st.1.2.2/\y= .int .i64 (st.2:Int)/\st.1.1.length<=st.2/\unqL [] (l.drop 1)=unqL st.1.1 (l.drop st.2)),Sl 1 5 st.1.2.1 st.1.2.2 st.1.1.length (st.1.1.map B)]]++F) l.length ?_ ?_)
   ·refine Imp.ex (([],none,0),1) (.all ?_)
    refine nr_ ?_
    refine .pu ⟨rfl,by(try dsimp only);omega,rfl,rfl,by simp,rfl⟩ ?_
    exact imp_nil .refl
   intro m ds x y
   refine nr_ ?_
   refine e_ex Pick.here fun st=>e_all Pick.here ?_
   obtain⟨⟨acc,sa,sc⟩,i⟩:=st
   refine nr_ ?_
   refine e_pu Pick.here fun hi=>?_
   (try dsimp only at hi)
   obtain⟨hmi,hil,rfl,rfl,hac,hun⟩:=hi
   refine o_ v_lent (e_ask v_lss .nil (fun h=>?_) (fun h=>?_))
   rotate_left
   ·have hie:i=l.length:=by omega
    rw[show l.drop i=[]from List.drop_of_length_le (by omega)]at hun
    have hun:unqL [] (l.drop 1)=([],false):=by rw[hun];rfl
    rw[hun]
    refine e_condF (rt_ () ?_)
    exact im_
   have hlt:i<l.length:=by omega
   rw[dr hlt,unqL_cons]at hun
   refine e_condT (o_ (v_ixS i rfl hlt) ?_)
   refine e_cut2 (fun z5 z6=>(ex fun st:Nat × UInt8=>pu (z5= .int .i64 (st.1:Int)/\z6=B st.2/\i<=st.1/\st.1<l.length/\unqL [] (l.drop 1)=if badQ st.2 then([],false)else unqL (acc++[st.2]) (l.drop (st.1+1))))::Sl 1 5 sa sc acc.length (acc.map B)::F) ?_ ?_
   ·intro ds2 z5 z6
    refine e_ex .here fun st=>e_pu .here fun hz=>?_
    obtain⟨j,d⟩:=st
    (try dsimp only at hz)
    obtain⟨rfl,rfl,hij,hjl,hun2⟩:=hz
    refine o_ (v_lss (q:= .u8) (a:=(d.toNat:Int)) (b:=32)) ?_
    refine e_and (fun _=>B_ne 9 rfl) ?_
    refine e_or1 (fun _=>B_eq 127 rfl) ?_
    rw[<- badQ_i]
    cases hb:badQ d with
    |true=>
     rw[hb,if_pos rfl]at hun2
     rw[hun2]
     refine e_condT (rt_ () ?_)
     exact im_
    |false=>
     rw[hb,if_neg (by decide)]at hun2
     refine e_condF (e_bsl1 fun gb=>?_)
     refine e_app (m:=1) (news:=[B d]) (by repeat constructor) (src_pt (e':=5) (by kernel_rfl) .here (by rfl) (by intro u hu;rw[List.mem_singleton.1 hu];rfl)) (by omega) (by omega) fun a' c'=>?_
     refine ad_ ?_
     refine e_next2 (m-(j+1-i)) (by omega) (.ex ((acc++[d],a',c'),j+1) (.all ?_))
     refine nr_ ?_
     refine .pu ⟨by(try dsimp only);omega,by(try dsimp only);omega,by simp,rfl,by simp;omega,hun2⟩ ?_
     rw[List.length_append,List.map_append]
     simp only[List.length_singleton,List.map_cons,List.map_nil]
     exact im_
   ·refine o_ (B_eq 34 rfl) ?_
    by_cases h34:l[i]=34
    ·rw[dT_ h34]
     rw[if_pos h34]at hun
     rw[hun]
     refine e_condT (e_slfacts .here fun f1 f2 f3 f4=>?_)
     refine e_opN (v_str (l:=acc) (rd_sl (by simp) f4) (nn_none f4)) (.pick .here .nil) ?_
     refine ad_ ?_
     refine o_ v_lent (o_ v_eql ?_)
     have e:decide ((i:Int)+1=(l.length:Int))=(l.drop (i+1)).isEmpty:=by
      rw[Bool.eq_iff_iff]
      simp only[decide_eq_true_iff,List.isEmpty_iff,List.drop_eq_nil_iff]
      omega
     rw[e]
     refine rt_ () ?_
     exact im_
    ·rw[dF_ h34]
     rw[if_neg h34]at hun
     refine e_condF (o_ (B_eq 92 rfl) ?_)
     by_cases h92:l[i]=92
     ·rw[dT_ h92]
      rw[if_pos h92]at hun
      refine e_condT (ad_ ?_)
      refine o_ v_lent (e_ask v_eql .nil (fun h5=>?_) (fun h5=>?_))
      ·rw[show l.drop (i+1)=[]from List.drop_of_length_le (by omega)]at hun
       simp only at hun
       rw[hun]
       refine e_condT (rt_ () ?_)
       exact im_
      ·have hi1:i+1<l.length:=by omega
       rw[dr hi1]at hun
       simp only at hun
       refine e_condF (o_ (v_ixS (i+1) rfl hi1) ?_)
       refine e_sat (.ex (i+1,l[i+1]) (.pu ⟨rfl,rfl,by(try dsimp only);omega,hi1,hun⟩ .refl))
     ·rw[dF_ h92]
      rw[if_neg h92]at hun
      refine e_condF (e_sat (.ex (i,l[i]) (.pu ⟨rfl,rfl,Nat.le_refl _,hlt,hun⟩ .refl)))
  ·rw[dT_ h3]
   have hno:unqF l=([],false):=by rw[unqF_at (by omega),if_neg h3]
   rw[hno]
   refine e_condT (rt_ () ?_)
   exact im_
theorem directive {W:World}{l:List UInt8}(hl:l.length<=4194304):Cn p_ 107 [txt l] W [] (fun _:Unit=> .tuple #[vDir (dirF l).1,.bool (dirF l).2]) (fun _=>[]):=by
 have hA:=cutA_len (c:=61) l
 have hB:=cutB_len (c:=61) l
 (refine S.fields_directive_s.cn fun F=>?_;unfold S.fields_directive;simp only[ca_,na_])
 refine e_newA fun b2=>?_
 refine c_ (cut_ (c:=61) (l:=l) (by omega)) fun _=>?_
 refine o_ (v_extN (vs:=[_,_,_]) .here) ?_
 refine o_ (v_extN (vs:=[_,_,_]) (.there .here)) ?_
 refine o_ (v_extN (vs:=[_,_,_]) (.there (.there .here))) ?_
 refine o_ v_fa0 (sn_ ?_);refine o_ v_fa0 (sn_ ?_);refine o_ v_fa0 (sn_ ?_);refine o_ v_fa0 (ln_ ?_)
 refine c_ (token (l:=cutA 61 l) (by omega)) fun _=>?_
 refine o_ v_fa0 (ln_ ?_)
 refine c_ (lower (l:=cutA 61 l) (by omega)) fun _=>?_
 refine o_ v_fa0 (sn_ ?_);refine o_ v_fa0 (ln_ ?_)
 cases hs:cutS 61 l with
 |false=>
  have e:dirF l=(⟨lowF (cutA 61 l),cutB 61 l,false⟩,tokF (cutA 61 l)):=by unfold dirF;rw[hs];rfl
  rw[e]
  refine e_gdF2 (e_gdF2 (e_gdF2 (e_gdF2 (o_ v_pickF (e_condF (lg_ ?_))))));refine sg_ ?_;(((refine' e_stS (v_resA ?hn) ?hi ?_);(case hi=>exact im_);(case hn=>rfl)))
  refine rt_ () ?_
  exact im_
 |true=>
  refine e_gdT (o_ v_fa0 (e_gdT (ln_ ?_)));refine e_gdT (c_ (token (l:=cutB 61 l) (by omega)) fun _=>?_)
  refine e_gdT (o_ v_not (o_ v_pickT ?_))
  cases ht:tokF (cutB 61 l)with
  |true=>
   have e:dirF l=(⟨lowF (cutA 61 l),cutB 61 l,true⟩,tokF (cutA 61 l)):=by unfold dirF;rw[hs,ht];rfl
   rw[e,show(!true)=false from rfl]
   refine e_condF (lg_ ?_);refine sg_ ?_;(((refine' e_stS (v_resA ?hn) ?hi ?_);(case hi=>exact im_);(case hn=>rfl)))
   refine rt_ () ?_
   exact im_
  |false=>
   have e:dirF l=(⟨lowF (cutA 61 l),(unqF (cutB 61 l)).1,true⟩,tokF (cutA 61 l)&&(unqF (cutB 61 l)).2):=by unfold dirF;rw[hs,ht];rfl
   rw[e,show(!false)=true from rfl]
   refine e_condT (o_ v_fa0 (ln_ ?_))
   refine c_ (unquote (l:=cutB 61 l) (by omega)) fun _=>?_
   refine xt_ ?_;refine xt_ ?_;refine o_ v_fa0 (sn_ ?_)
   refine e_and0 ?_
   refine lg_ ?_;refine sg_ ?_;(((refine' e_stS (v_resA ?hn) ?hi ?_);(case hi=>exact im_);(case hn=>rfl)))
   refine rt_ () ?_
   exact im_
theorem directives {W:World}{l:List UInt8}(hl:l.length<=2097152):Cn p_ 81 [txt l] W [] (fun r:Option Addr × Nat=> .tuple #[.slice r.1 (lsF (dirsF l)).1.length r.2,.int .i64 (lsF (dirsF l)).2])
  (fun r=>[Sl 3 128 r.1 r.2 (lsF (dirsF l)).1.length ((lsF (dirsF l)).1.flatMap pDir)]):=by
 (refine S.fields_Directives_s.cn fun F=>?_;unfold S.fields_Directives;simp only[ca_,na_])
 refine o_ v_rv ?_
 refine e_call (list_Dir hl fun w hw=>directive (by omega)) .nil fun r=>?_
 refine nr_ ?_
 refine o_ (v_extN (vs:=[_,_]) .here) ?_
 refine o_ (v_extN (vs:=[_,_]) (.there .here)) ?_
 refine rt_ r ?_
 exact .refl
theorem ld_dir {W:World}{xs:List Dir}{i n g c:Nat}(h:i<xs.length)(hn:n=xs.length):RunV p_ W [Sl 3 128 (some ⟨g,0,none⟩) c n (xs.flatMap pDir)] (sLoad 128 (.pointer (some ⟨g,0+i * 3,none⟩))) (vDir xs[i]):=by
 subst hn
 exact v_ldRdG (vs:=pDir xs[i]) (rd_slG (flat_len (f:=pDir) (s:=3) (fun _=>rfl) xs) (fun _=>⟨g,rfl⟩)) rfl (fun j hj=>flat_get (f:=pDir) (s:=3) (fun _=>rfl) xs i j h hj)
def splF (c:UInt8):Nat->List UInt8->List (List UInt8)
 |0,_=>[]
 |f+1,l=>if l=[]then []else if trimB (cutA c l)=[]then splF c f (cutB c l)else trimB (cutA c l)::splF c f (cutB c l)
def spl (c:UInt8)(l:List UInt8):List (List UInt8):=splF c (l.length+1) l
theorem cutAB_len (c:UInt8):∀l:List UInt8,(cutA c l).length<=l.length/\(l≠[]->(cutB c l).length<l.length)
 |[]=>⟨Nat.le_refl _,fun h=>absurd rfl h⟩
 |x::l=>by
  obtain⟨h1,h2⟩:=cutAB_len c l
  constructor
  ·unfold cutA;split <;> simp;omega
  ·intro _
   unfold cutB
   split
   ·simp
   ·by_cases hl:l=[]
    ·subst hl;simp[cutB]
    ·have:=h2 hl;simp;omega
theorem spl_step (c:UInt8){l:List UInt8}(h:l≠[]):∀f,l.length<f->splF c f l=if trimB (cutA c l)=[]then splF c (f-1) (cutB c l)else trimB (cutA c l)::splF c (f-1) (cutB c l)
 |0,hf=>by omega
 |f+1,hf=>by rw[splF,if_neg h,Nat.add_sub_cancel]
theorem spl_fuel (c:UInt8):∀(n:Nat) (l:List UInt8),l.length<=n->∀f g,l.length<f->l.length<g->splF c f l=splF c g l
 |n,l,hn,0,g,hf,hg=>by omega
 |n,l,hn,f+1,0,hf,hg=>by omega
 |n,l,hn,f+1,g+1,hf,hg=>by
  rw[splF,splF]
  by_cases h:l=[]
  ·rw[if_pos h,if_pos h]
  ·rw[if_neg h,if_neg h]
   have hl:=(cutAB_len c l).2 h
   cases n with
   |zero=>have:l=[]:=List.eq_nil_of_length_eq_zero (by omega);exact absurd this h
   |succ n=>rw[spl_fuel c n (cutB c l) (by omega) f g (by omega) (by omega)]
theorem spl_nil (c:UInt8):spl c []=[]:=rfl
theorem spl_cons (c:UInt8){l:List UInt8}(h:l≠[]):spl c l=(if trimB (cutA c l)=[]then []else [trimB (cutA c l)])++spl c (cutB c l):=by
 have hl:=(cutAB_len c l).2 h
 unfold spl
 rw[spl_step c h _ (by omega),Nat.add_sub_cancel,spl_fuel c _ (cutB c l) (Nat.le_refl _) l.length ((cutB c l).length+1) hl (by omega)]
 split <;> rfl
theorem spl_num (c:UInt8):∀(n:Nat) (l:List UInt8),l.length<=n->(spl c l).length<=l.length/\∀w∈spl c l,w.length<=l.length
 |0,l,h=>by
  have:l=[]:=List.eq_nil_of_length_eq_zero (by omega)
  subst this
  exact⟨Nat.le_refl _,fun w hw=>by simp[spl_nil]at hw⟩
 |n+1,l,h=>by
  by_cases hl:l=[]
  ·subst hl;exact⟨Nat.le_refl _,fun w hw=>by simp[spl_nil]at hw⟩
  ·have h1:=(cutAB_len c l).2 hl
   obtain⟨i1,i2⟩:=spl_num c n (cutB c l) (by omega)
   rw[spl_cons c hl]
   constructor
   ·rw[List.length_append]
    split <;> simp <;> omega
   ·intro w hw
    rcases List.mem_append.1 hw with hw|hw
    ·split at hw
     ·cases hw
     ·rw[List.mem_singleton.1 hw]
      exact Nat.le_trans (trim_len _) (cutAB_len c l).1
    ·exact Nat.le_trans (i2 w hw) (by omega)
theorem split {W:World}{l:List UInt8}{c:UInt8}(hl:l.length<=4194304):Cn p_ 98 [txt l,Sl.B c] W [] (fun r:Option Addr × Nat=> .slice r.1 (spl c l).length r.2) (fun r=>[Sl 1 9 r.1 r.2 (spl c l).length ((spl c l).map txt)]):=by
 have hnum:=(spl_num c _ l (Nat.le_refl _)).1
 (refine S.ascii_Split_s.cn fun F=>?_;unfold S.ascii_Split;simp only[ca_,na_])
 refine e_loop2 (fun m x y=>(ex fun st:(Option Addr × Nat) × (List UInt8 × List (List UInt8))=>all [pu (m=st.2.1.length/\x=txt st.2.1/\y= .slice st.1.1 st.2.2.length st.1.2/\spl c l=st.2.2++spl c st.2.1/\st.2.1.length<=l.length),Sl 1 9 st.1.1 st.1.2 st.2.2.length (st.2.2.map txt)])::F) l.length ?_ ?_
 ·refine .ex ((none,0),(l,[])) (.all ?_)
  refine nr_ ?_
  refine .pu ⟨rfl,rfl,rfl,rfl,Nat.le_refl _⟩ ?_
  exact imp_nil .refl
 intro m ds x y
 refine e_ex .here fun st=>e_all .here ?_
 obtain⟨⟨sa,sc⟩,⟨r,out⟩⟩:=st
 refine nr_ ?_
 refine e_pu .here fun hi=>?_
 (try dsimp only at hi)
 obtain⟨rfl,rfl,rfl,hsp,hrl⟩:=hi
 (try dsimp only)
 have hol:=congrArg List.length hsp
 rw[List.length_append]at hol
 refine o_ v_lent (o_ v_gtr ?_)
 by_cases hr:r=[]
 ·subst hr
  rw[dF_ (by decide)]
  refine e_condF ?_
  rw[spl_nil,List.append_nil]at hsp
  rw[hsp]
  refine rt_ ((sa,sc)) ?_
  exact im_
 have hr0:0<r.length:=List.length_pos_iff.2 hr
 rw[dT_ (by omega)]
 refine e_condT (e_cut2 (fun x y=>pu (x=txt (cutB c r)/\y=txt (cutA c r))::Sl 1 9 sa sc out.length (out.map txt)::F) ?_ ?_)
 rotate_left
 ·refine c_ (indexByte (l:=r) (c:=c)) fun _=>?_
  obtain⟨k1,k2⟩:=cut_ix (c:=c) (l:=r)
  refine e_ask v_geq .nil (fun h=>?_) (fun h=>?_)
  ·have hm:=ixF_nn.1 h
   obtain⟨_,q1,q2⟩:=k1 hm
   have hix:ixF r c=((r.findIdx (· ==c):Nat):Int):=by unfold ixF;rw[if_pos hm]
   have hfl:r.findIdx (· ==c)<r.length:=List.findIdx_lt_length_of_exists ⟨c,hm,by simp⟩
   rw[hix]
   refine e_condT (e_drS (t_ (v_ssh (r.findIdx (· ==c)) rfl (by omega)) ?_))
   refine t_ (v_add (by omega) (by omega)) ?_
   refine t_ (v_ssl (r.findIdx (· ==c)+1) (by norm_cast) (by omega)) ?_
   rw[q1,q2]
   refine e_sat (.pu ⟨rfl,rfl⟩ ?_)
   exact im_
  ·have hm:c∉r:=fun d=>h (ixF_nn.2 d)
   obtain⟨_,q1,q2⟩:=k2 hm
   refine e_condF ?_
   rw[q1,q2]
   refine e_sat (.pu ⟨rfl,rfl⟩ ?_)
   exact im_
 intro ds2 x y
 refine e_pu .here fun hi=>?_
 obtain⟨rfl,rfl⟩:=hi
 obtain⟨l1,l2⟩:=cutAB_len c r
 have l2:=l2 hr
 have hst:=spl_cons c hr
 refine c_ (trim (l:=cutA c r) (by omega)) fun _=>?_
 refine o_ (v_strne (m:=[])) ?_
 by_cases ht:trimB (cutA c r)=[]
 ·rw[dF_ (fun h=>h ht)]
  rw[if_pos ht,List.nil_append]at hst
  refine e_condF (e_next2 (cutB c r).length l2 (.ex ((sa,sc),(cutB c r,out)) (.all ?_)))
  refine nr_ ?_
  refine .pu ⟨rfl,rfl,rfl,by rw[hsp,hst],by(try dsimp only);omega⟩ ?_
  exact im_
 ·rw[dT_ ht]
  rw[if_neg ht]at hst
  refine e_condT (e_bslN (n:=1) (vs:=[txt (trimB (cutA c r))]) rfl rfl (by intro v hv;rw[List.mem_singleton.1 hv];rfl) (by omega) fun gb=>?_)
  refine e_app (m:=1) (news:=[txt (trimB (cutA c r))]) (by(repeat constructor):Pick _ (Sl 1 9 sa sc out.length (out.map txt)) _) (src_pt (s:=1) (e':=9) (by kernel_rfl) .here (by rfl) (by intro u hu;rw[List.mem_singleton.1 hu];rfl)) (by omega) (by omega) fun a' c'=>?_
  refine e_next2 (cutB c r).length l2 (.ex ((a',c'),(cutB c r,out++[trimB (cutA c r)])) (.all ?_))
  refine nr_ ?_
  rw[List.length_append,List.map_append]
  refine .pu ⟨rfl,rfl,rfl,by rw[hsp,hst,List.append_assoc],by(try dsimp only);omega⟩ ?_
  exact im_
theorem contains_ {W:World}{N:List (List UInt8)}{x:List UInt8}{a:Option Addr}{c:Nat}{NA:HP}(hN:RdB W NA a N.length (N.map txt))(hn:N.length<=4611686018427387904):Cn p_ 47 [.slice a N.length c,txt x] W [NA] (fun _:Unit=> .bool (N.contains x)) (fun _=>[NA]):=by
 have hI:Cn p_ 89 [.slice a N.length c,txt x] W [NA] (fun i:{i:Int // decide (0<=i)=N.contains x}=> .int .i64 i.1) (fun _=>[NA]):=by
  (refine S.slices_Index_string_string_s.cn fun F=>?_;unfold S.slices_Index_string_string;simp only[ca_,na_])
  refine o_ v_len (e_loop1 (fun m y=>pu (∃i:Nat,m+i=N.length/\y= .int .i64 (i:Int)/\x∉N.take i)::NA::F) N.length ?_ ?_)
  ·refine .pu ⟨0,rfl,rfl,by simp⟩ ?_
   exact im_
  intro m ds y
  refine e_pu .here fun hi=>?_
  obtain⟨i,hmi,rfl,hno⟩:=hi
  refine e_ask v_lss .nil (fun h=>?_) (fun h=>?_)
  ·have hin:i<N.length:=by omega
   obtain⟨g,o,rfl,_⟩:=hN.at_ (by omega)
   refine e_condT (o_ (v_ia1 i rfl hin) ?_)
   refine p_op (txt_at hN hin) ?_
   refine e_ask v_streq .nil (fun h2=>?_) (fun h2=>?_)
   ·refine e_condT (e_ret ⟨(i:Int),by rw[dT_ (by omega)];symm;rw[List.contains_iff_mem,h2];exact List.getElem_mem hin⟩ rfl ?_)
    exact im_
   ·refine e_condF (ad_ ?_)
    refine e_next1 (m-1) (by omega) (.pu ⟨i+1,by omega,by norm_cast,?_⟩ ?_)
    ·rw[List.take_succ_eq_append_getElem hin]
     intro c
     rcases List.mem_append.1 c with c|c
     ·exact hno c
     ·exact h2 (List.mem_singleton.1 c)
    exact im_
  ·have:i=N.length:=by omega
   subst this
   rw[List.take_length]at hno
   refine e_condF (e_ret ⟨-1,by rw[dF_ (by decide)];symm;rw[Bool.eq_false_iff];intro c;exact hno (List.contains_iff_mem.1 c)⟩ rfl ?_)
   exact im_
 (refine S.slices_Contains_string_string_s.cn fun F=>?_;unfold S.slices_Contains_string_string;simp only[ca_,na_])
 refine c_ hI fun _=>?_
 rename_i i
 refine o_ v_geq ?_
 rw[i.2]
 refine rt_ () ?_
 exact im_
theorem any_take {p:Nat->Bool}{i:Nat}:(List.range (i+1)).any p=((List.range i).any p||p i):=by rw[List.range_succ,List.any_append];simp
theorem any_of {p:Nat->Bool}{n i:Nat}(hi:i<n)(h:p i=true):(List.range n).any p=true:=List.any_eq_true.2 ⟨i,List.mem_range.2 hi,h⟩
theorem any_rng {α:Type}{l:List α}{p:Nat->Bool}{q:α->Bool}(h:∀(i:Nat) (hi:i<l.length),p i=q l[i]):(List.range l.length).any p=l.any q:=by
 apply Bool.eq_iff_iff.2
 rw[List.any_eq_true,List.any_eq_true]
 constructor
 ·rintro⟨i,hi,hp⟩
  have hi:=List.mem_range.1 hi
  exact⟨l[i],List.getElem_mem hi,by rw[<- h i hi];exact hp⟩
 ·rintro⟨x,hx,hq⟩
  obtain⟨i,hi,rfl⟩:=List.mem_iff_getElem.1 hx
  exact⟨i,List.mem_range.2 hi,by rw[h i hi];exact hq⟩
theorem idx_txt {W:World} {n c:Nat} {a:Option Addr} {v:Nat->Value} {p:Nat->Bool} {NA C:HP} {k:FuncId} {cap:List Value} (hn:n<=4611686018427387904) (ha:0<n->∃g o,a=some ⟨g,o,none⟩)
  (hld:∀i g o,i<n->a=some ⟨g,o,none⟩->RunV p_ W [NA] (sLoad 9 (.pointer (some ⟨g,o+i * 1,none⟩))) (v i))
  (hf:∀i,i<n->Cn p_ k ([v i]++cap) W [C] (fun _:Unit=> .bool (p i)) (fun _=>[C])):
  Cn p_ 103 [.slice a n c,.func (.func k) #[] cap.toArray] W [NA,C] (fun i:{i:Int // decide (0<=i)=(List.range n).any p}=> .int .i64 i.1) (fun _=>[NA,C]):=by
 (refine S.slices_IndexFunc_string_string_s.cn fun F=>?_;unfold S.slices_IndexFunc_string_string;simp only[ca_,na_])
 refine o_ v_len (e_loop1 (fun m y=>pu (∃i:Nat,m+i=n/\y= .int .i64 (i:Int)/\(List.range i).any p=false)::NA::C::F) n ?_ ?_)
 ·refine .pu ⟨0,rfl,rfl,rfl⟩ ?_
  exact im_
 intro m ds y
 refine e_pu .here fun hi=>?_
 obtain⟨i,hmi,rfl,hno⟩:=hi
 refine e_ask v_lss .nil (fun h=>?_) (fun h=>?_)
 ·have hin:i<n:=by omega
  obtain⟨g,o,rfl⟩:=ha (by omega)
  have hany:=any_take (p:=p) (i:=i)
  refine e_condT (o_ (v_ia i rfl hin) ?_)
  refine p_op (hld i g o hin rfl) ?_
  refine e_callC (hf i hin) (by(repeat(first|exact Picks.nil|(apply Picks.cons;(focus repeat constructor))))) fun _=>?_
  refine nr_ ?_
  cases hp:p i with
  |true=>
   refine e_condT (e_ret ⟨(i:Int),by rw[any_of hin hp];exact dT_ (by omega)⟩ rfl ?_)
   exact im_
  |false=>
   refine e_condF (ad_ ?_)
   refine e_next1 (m-1) (by omega) (.pu ⟨i+1,by omega,by norm_cast,by rw[hany,hno,hp];rfl⟩ ?_)
   exact im_
 ·have:i=n:=by omega
  subst this
  refine e_condF (e_ret ⟨-1,by rw[hno];rfl⟩ rfl ?_)
  exact im_
theorem con_txt {W:World} {n c:Nat} {a:Option Addr} {v:Nat->Value} {p:Nat->Bool} {NA C:HP} {k:FuncId} {cap:List Value} (hn:n<=4611686018427387904) (ha:0<n->∃g o,a=some ⟨g,o,none⟩)
  (hld:∀i g o,i<n->a=some ⟨g,o,none⟩->RunV p_ W [NA] (sLoad 9 (.pointer (some ⟨g,o+i * 1,none⟩))) (v i))
  (hf:∀i,i<n->Cn p_ k ([v i]++cap) W [C] (fun _:Unit=> .bool (p i)) (fun _=>[C])):
  Cn p_ 72 [.slice a n c,.func (.func k) #[] cap.toArray] W [NA,C] (fun _:Unit=> .bool ((List.range n).any p)) (fun _=>[NA,C]):=by
 (refine S.slices_ContainsFunc_string_string_s.cn fun F=>?_;unfold S.slices_ContainsFunc_string_string;simp only[ca_,na_])
 refine e_call (idx_txt hn ha hld hf) (by(repeat(first|exact Picks.nil|(apply Picks.cons;(focus repeat constructor))))) fun i=>?_
 obtain⟨i,hi⟩:=i
 refine nr_ ?_
 refine o_ v_geq ?_
 rw[hi]
 refine rt_ () ?_
 exact im_
theorem idx_dir {W:World} {n c:Nat} {a:Option Addr} {v:Nat->Value} {p:Nat->Bool} {NA C:HP} {k:FuncId} {cap:List Value} (hn:n<=4611686018427387904) (ha:0<n->∃g o,a=some ⟨g,o,none⟩)
  (hld:∀i g o,i<n->a=some ⟨g,o,none⟩->RunV p_ W [NA] (sLoad 128 (.pointer (some ⟨g,o+i * 3,none⟩))) (v i))
  (hf:∀i,i<n->Cn p_ k ([v i]++cap) W [C] (fun _:Unit=> .bool (p i)) (fun _=>[C])):
  Cn p_ 113 [.slice a n c,.func (.func k) #[] cap.toArray] W [NA,C] (fun i:{i:Int // decide (0<=i)=(List.range n).any p}=> .int .i64 i.1) (fun _=>[NA,C]):=by
 (refine S.slices_IndexFunc_fields_Directive_fields_Directive_s.cn fun F=>?_;unfold S.slices_IndexFunc_fields_Directive_fields_Directive;simp only[ca_,na_])
 refine o_ v_len (e_loop1 (fun m y=>pu (∃i:Nat,m+i=n/\y= .int .i64 (i:Int)/\(List.range i).any p=false)::NA::C::F) n ?_ ?_)
 ·refine .pu ⟨0,rfl,rfl,rfl⟩ ?_
  exact im_
 intro m ds y
 refine e_pu .here fun hi=>?_
 obtain⟨i,hmi,rfl,hno⟩:=hi
 refine e_ask v_lss .nil (fun h=>?_) (fun h=>?_)
 ·have hin:i<n:=by omega
  obtain⟨g,o,rfl⟩:=ha (by omega)
  have hany:=any_take (p:=p) (i:=i)
  refine e_condT (o_ (v_ia i rfl hin) ?_)
  refine p_op (hld i g o hin rfl) ?_
  refine e_callC (hf i hin) (by(repeat(first|exact Picks.nil|(apply Picks.cons;(focus repeat constructor))))) fun _=>?_
  refine nr_ ?_
  cases hp:p i with
  |true=>
   refine e_condT (e_ret ⟨(i:Int),by rw[any_of hin hp];exact dT_ (by omega)⟩ rfl ?_)
   exact im_
  |false=>
   refine e_condF (ad_ ?_)
   refine e_next1 (m-1) (by omega) (.pu ⟨i+1,by omega,by norm_cast,by rw[hany,hno,hp];rfl⟩ ?_)
   exact im_
 ·have:i=n:=by omega
  subst this
  refine e_condF (e_ret ⟨-1,by rw[hno];rfl⟩ rfl ?_)
  exact im_
theorem con_dir {W:World} {n c:Nat} {a:Option Addr} {v:Nat->Value} {p:Nat->Bool} {NA C:HP} {k:FuncId} {cap:List Value} (hn:n<=4611686018427387904) (ha:0<n->∃g o,a=some ⟨g,o,none⟩)
  (hld:∀i g o,i<n->a=some ⟨g,o,none⟩->RunV p_ W [NA] (sLoad 128 (.pointer (some ⟨g,o+i * 3,none⟩))) (v i))
  (hf:∀i,i<n->Cn p_ k ([v i]++cap) W [C] (fun _:Unit=> .bool (p i)) (fun _=>[C])):
  Cn p_ 87 [.slice a n c,.func (.func k) #[] cap.toArray] W [NA,C] (fun _:Unit=> .bool ((List.range n).any p)) (fun _=>[NA,C]):=by
 (refine S.slices_ContainsFunc_fields_Directive_fields_Directive_s.cn fun F=>?_;unfold S.slices_ContainsFunc_fields_Directive_fields_Directive;simp only[ca_,na_])
 refine e_call (idx_dir hn ha hld hf) (by(repeat(first|exact Picks.nil|(apply Picks.cons;(focus repeat constructor))))) fun i=>?_
 obtain⟨i,hi⟩:=i
 refine nr_ ?_
 refine o_ v_geq ?_
 rw[hi]
 refine rt_ () ?_
 exact im_
section
variable {P:Program} {W:World} {L L':List HP} {Kp:PK} {k:Value->WP}
theorem e_and12 {a b:Bool}{y1 y2 v:Value}{s1:Value->Value->Sem Next}{s2:Value->Sem Next}(h1:a=true->RunV P W [] (s1 y1 y2) v)(h2:a=true->RunV P W [] (s2 v) (.bool b))(h:Ent W L (k (.bool (a&&b)))):
  Ent W L (gdK (.bool a) true (fun k=>k y1) fun x1=>gdK (.bool a) true (fun k=>k y2) fun x2=>gdK (.bool a) true (opN P (s1 x1 x2) Kp) fun x3=>gdK (.bool a) true (opN P (s2 x3) Kp) fun x4=>opN P (sPick (.bool a) x4 (.bool false)) Kp k):=by
 cases a with
 |true=>
  refine e_gdT (e_gdT (e_gdT (o_ (h1 rfl) ?_)))
  refine e_gdT (o_ (h2 rfl) ?_)
  refine o_ v_pickT ?_
  simpa using h
 |false=>
  refine e_gdF2 (e_gdF2 (e_gdF2 (e_gdF2 (o_ v_pickF ?_))))
  simpa using h
theorem e_and12or {a b c:Bool}{y1 y2 v:Value}{s1:Value->Value->Sem Next}{s2:Value->Sem Next}(h1:a=true->RunV P W [] (s1 y1 y2) v)(h2:a=true->RunV P W [] (s2 v) (.bool b))(h:Ent W L (k (.bool (a&&(b||c))))):
  Ent W L (gdK (.bool a) true (fun k=>k y1) fun x1=>gdK (.bool a) true (fun k=>k y2) fun x2=>gdK (.bool a) true (opN P (s1 x1 x2) Kp) fun x3=>gdK (.bool a) true (opN P (s2 x3) Kp) fun x4=>gdK (.bool a) true (fun k=>k x4) fun x5=>gdK x5 false (fun k=>k (.bool c)) fun x6=>
   gdK (.bool a) true (opN P (sPick x5 (.bool true) x6) Kp) fun x7=>opN P (sPick (.bool a) x7 (.bool false)) Kp k):=by
 cases a with
 |true=>
  refine e_gdT (e_gdT (e_gdT (o_ (h1 rfl) ?_)))
  refine e_gdT (o_ (h2 rfl) ?_)
  refine e_gdT ?_
  cases b with
  |true=>
   refine e_gdF1 (e_gdT (o_ v_pickT (o_ v_pickT ?_)))
   simpa using h
  |false=>
   refine e_gdT (e_gdT (o_ v_pickF (o_ v_pickT ?_)))
   simpa using h
 |false=>
  refine e_gdF2 (e_gdF2 (e_gdF2 (e_gdF2 (e_gdF2 (e_gdU (e_gdF2 (o_ v_pickF ?_)))))))
  simpa using h
end
def gt (l:List UInt8)(i:Nat):UInt8:=l.getD i 0
theorem gt_at {l:List UInt8}{i:Nat}(h:i<l.length):gt l i=l[i]:=by simp[gt,List.getD_eq_getElem?_getD,h]
theorem v_gt {P:Program}{W:World}{t:TypeId}{l:List UInt8}{q:IntKind}{i:Nat}[ht:StrT P t](h:i<l.length):RunV P W [] (sIx t (txt l) (.int q (i:Int))) (B (gt l i)):=by
 rw[gt_at h]
 exact v_ixS i rfl h
def phA (l:List UInt8)(q e:Bool)(out:List (List UInt8))(inn:Bool)(a i:Nat):Prop:=i<=l.length/\a<=i/\elemsF q e l=out++tidy (stE l q e inn a i)
def phB (l:List UInt8)(q e:Bool)(out:List (List UInt8))(i:Nat):Prop:=i=l.length+1/\elemsF q e l=out
theorem relements {W:World}{l:List UInt8}{q e:Bool}(hl:l.length<=2097152):Cn p_ 115 [txt l,.bool q,.bool e] W [] (fun r:Option Addr × Nat=> .slice r.1 (elemsF q e l).length r.2)
  (fun r=>[Sl 1 9 r.1 r.2 (elemsF q e l).length ((elemsF q e l).map txt)]):=by
 have hnum:=elems_num (q:=q) (e:=e) (l:=l)
 have hle:∀out r,elemsF q e l=out++r->out.length<=2097153:=fun out r h=>by
  have:=congrArg List.length h
  rw[List.length_append]at this;omega
 (refine S.ref10_elements_s.cn fun F=>?_;unfold S.ref10_elements;simp only[ca_,na_])
 refine e_loop4 (fun m y7 y8 y9 y10=>[ex fun st:(List (List UInt8) × Option Addr × Nat) × Bool × Nat × Nat=>all [pu (m+st.2.2.2=l.length+1/\y7= .slice st.1.2.1 st.1.1.length st.1.2.2/\y8= .bool st.2.1/\y9= .int .i64 (st.2.2.1:Int)/\y10= .int .i64 (st.2.2.2:Int)/\(phA l q e st.1.1 st.2.1 st.2.2.1 st.2.2.2\/phB l q e st.1.1 st.2.2.2)),
   Sl 1 9 st.1.2.1 st.1.2.2 st.1.1.length (st.1.1.map txt)]]++F) (l.length+1) ?_ ?_
 ·refine Imp.ex (([],none,0),false,0,0) (.all ?_)
  refine nr_ ?_
  refine .pu ⟨rfl,rfl,rfl,rfl,rfl,.inl ⟨Nat.zero_le _,Nat.le_refl _,rfl⟩⟩ ?_
  exact imp_nil .refl
 intro m ds y7 y8 y9 y10
 refine nr_ ?_
 refine e_ex Pick.here fun st=>e_all Pick.here ?_
 obtain⟨⟨out,sa,sc⟩,inn,a,i⟩:=st
 refine nr_ ?_
 refine e_pu Pick.here fun hi=>?_
 (try dsimp only at hi)
 obtain⟨hmi,rfl,rfl,rfl,rfl,hph⟩:=hi
 refine o_ v_lent (e_ask v_leq .nil (fun hil=>?_) (fun hil=>?_))
 rotate_left
 ·refine e_condF ?_
  rcases hph with h|h
  ·exact absurd h.1 (by omega)
  ·rw[h.2]
   refine e_ret (sa,sc) rfl ?_
   exact .refl
 obtain⟨hil2,hai,hel⟩:phA l q e out inn a i:=by
  rcases hph with h|h
  ·exact h
  ·exact absurd h.1 (by omega)
 have hol:=hle _ _ hel
 refine e_condT (e_cut1 (fun z=>(ex fun i2:Nat=>pu (z= .int .i64 (i2:Int)/\i<=i2/\i2<=l.length/\elemsF q e l=out++tidy (stE l q e inn a i2)/\¬(i2<l.length/\gt l i2=92/\inn=true/\e=true)))::Sl 1 9 sa sc out.length (out.map txt)::F) ?_ ?_)
 rotate_left
 ·refine o_ v_lent (o_ v_lss (e_and0 ?_))
  refine e_and0 ?_
  refine e_and12 (v:=B (gt l i)) (b:=decide (gt l i=92)) (fun h=>v_gt (by simp at h;omega)) (fun _=>B_eq 92 rfl) ?_
  refine e_cond (φ:=i<l.length/\gt l i=92/\inn=true/\e=true) (by
   have e3:decide ((i:Int)<(l.length:Int))=decide (i<l.length):=by rw[decide_eq_decide];omega
   rw[e3]
   by_cases h1:i<l.length <;> by_cases h2:gt l i=92 <;> cases inn <;> cases e <;> simp[h1,h2]) (fun h=>?_) (fun h=>?_)
  ·obtain⟨h1,h2,h3,h4⟩:=h
   rw[gt_at h1]at h2
   have hes:=stE_esc (q:=q) h1 hai h2 h3 h4
   rw[hes]at hel
   refine ad_ ?_
   refine o_ v_lent (e_ask v_lss .nil (fun h5=>?_) (fun h5=>?_))
   ·refine e_condT (ad_ ?_)
    refine e_next4 (m-2) (by omega) (.ex ((out,sa,sc),inn,a,i+2) (.all ?_))
    refine nr_ ?_
    refine .pu ⟨by(try dsimp only);omega,rfl,rfl,rfl,by(try dsimp only);rw[Int.add_assoc];rfl,.inl ⟨by(try dsimp only);omega,by(try dsimp only);omega,hel⟩⟩ ?_
    exact .refl
   ·refine e_condF (e_sat (.ex (i+1) (.pu ⟨rfl,by omega,by omega,?_,by omega⟩ .refl)))
    rw[hel,stE_end (by omega),stE_end (by omega)]
  ·refine e_sat (.ex i (.pu ⟨rfl,by omega,by omega,hel,h⟩ .refl))
 intro ds2 z
 refine e_ex .here fun j=>e_pu .here fun hz=>?_
 obtain⟨rfl,hij,hjl,hel,hne⟩:=hz
 have haj:a<=j:=by omega
 refine e_cut1 (fun z=>(ex fun i2:Bool=>pu (z= .bool i2/\((j<l.length/\gt l j=34/\q=true/\i2= !inn)\/(¬(j<l.length/\gt l j=34/\q=true)/\i2=inn))))::Sl 1 9 sa sc out.length (out.map txt)::F) ?_ ?_
 rotate_left
 ·refine o_ v_lent (o_ v_lss (e_and0 ?_))
  refine e_and12 (v:=B (gt l j)) (b:=decide (gt l j=34)) (fun h=>v_gt (by simp at h;omega)) (fun _=>B_eq 34 rfl) ?_
  refine e_cond (φ:=j<l.length/\gt l j=34/\q=true) (by
   have e3:decide ((j:Int)<(l.length:Int))=decide (j<l.length):=by rw[decide_eq_decide];omega
   rw[e3]
   by_cases h1:j<l.length <;> by_cases h2:gt l j=34 <;> cases q <;> simp[h1,h2]) (fun h=>?_) (fun h=>?_)
  ·refine o_ v_not (e_sat (.ex (!inn) (.pu ⟨rfl,.inl ⟨h.1,h.2.1,h.2.2,rfl⟩⟩ .refl)))
  ·refine e_sat (.ex inn (.pu ⟨rfl,.inr ⟨h,rfl⟩⟩ .refl))
 intro ds3 z
 refine e_ex .here fun in2=>e_pu .here fun hz=>?_
 obtain⟨rfl,hq⟩:=hz
 refine o_ v_lent (o_ v_lss (e_and12or (v:=B (gt l j)) (b:=decide (gt l j≠44)) (fun h=>v_gt (by simp at h;omega)) (fun _=>B_ne 44 rfl) ?_))
 refine e_cond (φ:=j<l.length/\(gt l j≠44\/in2=true)) (by
  have e3:decide ((j:Int)<(l.length:Int))=decide (j<l.length):=by rw[decide_eq_decide];omega
  rw[e3]
  by_cases h1:j<l.length <;> by_cases h2:gt l j=44 <;> cases in2 <;> simp[h1,h2]) (fun h=>?_) (fun h=>?_)
 ·obtain⟨hj,h⟩:=h
  have hel2:elemsF q e l=out++tidy (stE l q e in2 a (j+1)):=by
   rcases hq with ⟨_,h2,h3,rfl⟩|⟨h1,rfl⟩
   ·rw[gt_at hj]at h2
    rw[hel,stE_q hj haj (by rw[h2];rintro⟨c,_⟩;exact absurd c (by decide)) h2 h3]
   ·rw[gt_at hj]at h h1 hne
    rw[hel,stE_o hj haj (fun c=>hne ⟨hj,c⟩) (fun c=>h1 ⟨hj,c⟩) (fun c=>by rcases h with h|h;exact h c.1;rw[c.2]at h;cases h)]
  refine ad_ ?_
  refine e_next4 (m-(j+1-i)) (by omega) (.ex ((out,sa,sc),in2,a,j+1) (.all ?_))
  refine nr_ ?_
  refine .pu ⟨by(try dsimp only);omega,rfl,rfl,rfl,rfl,.inl ⟨by(try dsimp only);omega,by(try dsimp only);omega,hel2⟩⟩ ?_
  exact .refl
 ·have h44:j<l.length->gt l j=44/\in2=false:=fun hj=>by
   refine⟨Decidable.byContradiction fun c=>h ⟨hj,.inl c⟩,?_⟩
   cases hx:in2 with
   |false=>rfl
   |true=>exact absurd ⟨hj,.inr hx⟩ h
  have hin:in2=inn:=by
   rcases hq with ⟨h1,h2,_,_⟩|⟨_,h2⟩
   ·have:=(h44 h1).1
    rw[h2]at this
    exact absurd this (by decide)
   ·exact h2
  subst hin
  have hel2:∃r,elemsF q e l=out++tidy (sub l a j::r)/\(j<l.length->r=stE l q e in2 (j+1) (j+1))/\(j=l.length->r=[]):=by
   by_cases hj:j<l.length
   ·have h4:=h44 hj
    rw[gt_at hj]at h4
    refine⟨_,by rw[hel,stE_c hj haj h4.1 h4.2],fun _=>by rw[h4.2],fun c=>by omega⟩
   ·have hje:j=l.length:=by omega
    refine⟨[],by rw[hel,stE_end (by omega),sub_end (by omega)],fun c=>absurd c hj,fun _=>rfl⟩
  obtain⟨r,hel2,hr1,hr2⟩:=hel2
  rw[tidy_cons]at hel2
  refine o_ v_lent (o_ v_min ?_)
  rw[show(if(l.length:Int)<(j:Int)then(l.length:Int)else(j:Int))=(j:Int)from if_neg (by omega)]
  refine o_ (v_sslh a j rfl rfl haj hjl) ?_
  refine e_call (rtrim (l:=sub l a j) (by simp[sub];omega)) .nil fun _=>?_
  refine nr_ ?_
  have e0:(Value.string ⟨#[]⟩)=txt []:=rfl
  rw[e0]
  refine e_cut1 (fun z=>[ex fun w:List (List UInt8) × Option Addr × Nat=>all [pu (z= .slice w.2.1 w.1.length w.2.2/\elemsF q e l=w.1++tidy r),Sl 1 9 w.2.1 w.2.2 w.1.length (w.1.map txt)]]++F) ?_ ?_
  ·intro ds4 z
   refine nr_ ?_
   refine e_ex .here fun w=>e_all .here ?_
   obtain⟨out2,sa2,sc2⟩:=w
   refine nr_ ?_
   refine e_pu .here fun hz=>?_
   obtain⟨rfl,hz⟩:=hz
   refine ad_ ?_
   refine ad_ ?_
   refine e_next4 (m-(j+1-i)) (by omega) (.ex ((out2,sa2,sc2),in2,j+1,j+1) (.all ?_))
   refine nr_ ?_
   refine .pu ⟨by(try dsimp only);omega,rfl,rfl,rfl,rfl,?_⟩ ?_
   ·by_cases hj:j<l.length
    ·left
     refine⟨by(try dsimp only);omega,by(try dsimp only);omega,?_⟩
     rw[<- hr1 hj];exact hz
    ·right
     have hje:j=l.length:=by omega
     refine⟨by(try dsimp only);omega,?_⟩
     rw[hr2 hje,tidy_nil,List.append_nil]at hz
     exact hz
   ·exact .refl
  ·refine o_ v_strne ?_
   by_cases ht:trimB (sub l a j)=[]
   ·rw[dF_ (fun c=>c ht)]
    rw[if_pos ht]at hel2
    refine e_condF (e_sat (.ex (out,sa,sc) (.all ?_)))
    refine nr_ ?_
    exact .pu ⟨rfl,hel2⟩ .refl
   ·rw[dT_ ht]
    rw[if_neg ht]at hel2
    refine e_condT (e_bsl1 fun gb=>?_)
    refine e_app (m:=1) (news:=[txt (trimB (sub l a j))]) (by repeat constructor) (src_pt (e':=9) (by kernel_rfl) .here (by rfl) (by intro u hu;rw[List.mem_singleton.1 hu];rfl)) (by omega) (by omega) fun a' c'=>?_
    refine e_sat (.ex (out++[trimB (sub l a j)],a',c') (.all ?_))
    refine nr_ ?_
    refine .pu ⟨by simp,by rw[List.append_assoc];exact hel2⟩ ?_
    rw[List.length_append,List.map_append]
    simp only[List.length_singleton,List.map_cons,List.map_nil]
    exact im_
end Go.Proofs.YthomhkpedghhgaaGreatDoor.FD
namespace Go.Proofs.YthomhkpedghhgaaGreatDoor.FD
open Go Go.Proofs Go.RowKit Sh Sl T
def scn (c:UInt8)(l:List UInt8)(i:Nat):Prop:=cutA c l=l.take i++cutA c (l.drop i)/\cutB c l=cutB c (l.drop i)/\cutS c l=cutS c (l.drop i)
theorem scn0 {c:UInt8}{l:List UInt8}:scn c l 0:=by simp[scn]
theorem scn_next {c:UInt8}{l:List UInt8}{i:Nat}(h:scn c l i)(hi:i<l.length)(hc:gt l i≠c):scn c l (i+1):=by
 obtain⟨h1,h2,h3⟩:=h
 rw[gt_at hi]at hc
 rw[dr hi]at h1 h2 h3
 refine⟨?_,?_,?_⟩
 ·rw[h1,cutA,if_neg hc,List.take_succ_eq_append_getElem hi,List.append_assoc];rfl
 ·rw[h2,cutB,if_neg hc]
 ·rw[h3,cutS,if_neg hc]
theorem scn_end {c:UInt8}{l:List UInt8}{i:Nat}(h:scn c l i)(hi:l.length<=i):cutA c l=l/\cutB c l=[]/\cutS c l=false:=by
 obtain⟨h1,h2,h3⟩:=h
 rw[List.drop_of_length_le hi]at h1 h2 h3
 rw[List.take_of_length_le hi]at h1
 refine⟨by rw[h1];simp[cutA],h2,h3⟩
theorem scn_hit {c:UInt8}{l:List UInt8}{i:Nat}(h:scn c l i)(hi:i<l.length)(hc:gt l i=c):cutA c l=l.take i/\cutB c l=l.drop (i+1)/\cutS c l=true:=by
 obtain⟨h1,h2,h3⟩:=h
 rw[gt_at hi]at hc
 rw[dr hi]at h1 h2 h3
 refine⟨?_,?_,?_⟩
 ·rw[h1,cutA,if_pos hc];simp
 ·rw[h2,cutB,if_pos hc]
 ·rw[h3,cutS,if_pos hc]
section
variable {P:Program} {W:World} {L:List HP} {Kp:PK} {k:Value->WP}
theorem e_and1or {a b c:Bool}{y1 y2:Value}{s1 s2:Value->Sem Next}(h1:a=true->RunV P W [] (s1 y1) (.bool b))(h2:a=true->b=false->RunV P W [] (s2 y2) (.bool c))(h:Ent W L (k (.bool (a&&(b||c))))):
  Ent W L (gdK (.bool a) true (fun k=>k y1) fun x1=>gdK (.bool a) true (opN P (s1 x1) Kp) fun x2=>gdK (.bool a) true (fun k=>k x2) fun x3=>gdK x3 false (fun k=>k y2) fun x4=>gdK x3 false (opN P (s2 x4) Kp) fun x5=>
   gdK (.bool a) true (opN P (sPick x3 (.bool true) x5) Kp) fun x6=>opN P (sPick (.bool a) x6 (.bool false)) Kp k):=by
 cases a with
 |true=>
  refine e_gdT (e_gdT (o_ (h1 rfl) ?_))
  refine e_gdT ?_
  cases b with
  |true=>
   refine e_gdF1 (e_gdF1 (e_gdT (o_ v_pickT (o_ v_pickT ?_))))
   simpa using h
  |false=>
   refine e_gdT (e_gdT (o_ (h2 rfl rfl) ?_))
   refine e_gdT (o_ v_pickF (o_ v_pickT ?_))
   simpa using h
 |false=>
  refine e_gdF2 (e_gdF2 (e_gdF2 (e_gdU (e_gdU (e_gdF2 (o_ v_pickF ?_))))))
  simpa using h
end
theorem badQ_j (c:UInt8):(decide (c≠9)&&(decide ((c.toNat:Int)<32)||decide (c=127)))=badQ c:=by
 rw[badQ_i]
 by_cases h:c=9
 ·subst h;rfl
 ·simp[h]
theorem runquoted {W:World}{l:List UInt8}(hl:l.length<=4194304):Cn p_ 139 [txt l] W [] (fun _:Unit=> .tuple #[txt (unqF l).1,.bool (unqF l).2]) (fun _=>[]):=by
 (refine S.ref10_unquoted_s.cn fun F=>?_;unfold S.ref10_unquoted;simp only[ca_,na_])
 refine o_ v_lent (o_ v_lss ?_)
 have e0:(Value.string ⟨#[]⟩)=txt []:=rfl
 rw[e0]
 by_cases h2:l.length<2
 ·have hno:unqF l=([],false):=by
   match l,h2 with
   |[],_=>rfl
   |[c],_=>
    show(if c=34 then unqL [] []else([],false))=([],false)
    split <;> rfl
   |_::_::_,h=>exact absurd h (by simp)
  rw[hno,dT_ (by omega)]
  refine e_gdF1 (e_gdF1 (e_gdF1 (o_ v_pickT (e_condT (rt_ () ?_)))))
  exact im_
 ·rw[dF_ (by omega)]
  refine e_or2 (fun _=>v_ixS (l:=l) 0 rfl (by omega)) (fun _=>B_ne 34 rfl) ?_
  rw[Bool.false_or]
  by_cases h3:l[0]'(by omega)=34
  ·rw[dF_ (fun c=>c h3)]
   have hu:unqF l=unqL [] (l.drop 1):=by rw[unqF_at (by omega),if_pos h3]
   rw[hu]
   refine e_condF (e_loop2 (fun m x y=>[ex fun st:(List UInt8 × Option Addr × Nat) × Nat=>all [pu (m+st.2=l.length+1/\st.2<=l.length/\x= .slice st.1.2.1 st.1.1.length st.1.2.2/\y= .int .i64 (st.2:Int)/\st.1.1.length<=st.2/\unqL [] (l.drop 1)=unqL st.1.1 (l.drop st.2)),Sl 1 5 st.1.2.1 st.1.2.2 st.1.1.length (st.1.1.map B)]]++F) l.length ?_ ?_)
   ·refine Imp.ex (([],none,0),1) (.all ?_)
    refine nr_ ?_
    refine .pu ⟨rfl,by(try dsimp only);omega,rfl,rfl,by simp,rfl⟩ ?_
    exact imp_nil .refl
   intro m ds x y
   refine nr_ ?_
   refine e_ex Pick.here fun st=>e_all Pick.here ?_
   obtain⟨⟨acc,sa,sc⟩,i⟩:=st
   refine nr_ ?_
   refine e_pu Pick.here fun hi=>?_
   (try dsimp only at hi)
   obtain⟨hmi,hil,rfl,rfl,hac,hun⟩:=hi
   refine o_ v_lent (e_ask v_lss .nil (fun h=>?_) (fun h=>?_))
   rotate_left
   ·have hie:i=l.length:=by omega
    rw[show l.drop i=[]from List.drop_of_length_le (by omega)]at hun
    have hun:unqL [] (l.drop 1)=([],false):=by rw[hun];rfl
    rw[hun]
    refine e_condF (rt_ () ?_)
    exact im_
   have hlt:i<l.length:=by omega
   rw[dr hlt,unqL_cons]at hun
   refine e_condT (o_ (v_ixS i rfl hlt) ?_)
   refine o_ (B_eq 34 rfl) ?_
   by_cases h34:l[i]=34
   ·rw[dT_ h34]
    rw[if_pos h34]at hun
    rw[hun]
    refine e_condT (e_slfacts .here fun f1 f2 f3 f4=>?_)
    refine e_opN (v_str (l:=acc) (rd_sl (by simp) f4) (nn_none f4)) (.pick .here .nil) ?_
    refine o_ v_lent (sb_ ?_)
    refine o_ v_eql ?_
    have e:decide ((i:Int)=(l.length:Int)-1)=(l.drop (i+1)).isEmpty:=by
     rw[Bool.eq_iff_iff]
     simp only[decide_eq_true_iff,List.isEmpty_iff,List.drop_eq_nil_iff]
     omega
    rw[e]
    refine rt_ () ?_
    exact im_
   ·rw[dF_ h34]
    rw[if_neg h34]at hun
    refine e_condF (e_cut2 (fun z5 z6=>(ex fun st:Nat × UInt8=>pu (z5= .int .i64 (st.1:Int)/\z6=B st.2/\i<=st.1/\st.1<l.length/\unqL [] (l.drop 1)=if badQ st.2 then([],false)else unqL (acc++[st.2]) (l.drop (st.1+1))))::Sl 1 5 sa sc acc.length (acc.map B)::F) ?_ ?_)
    ·intro ds2 z5 z6
     refine e_ex .here fun st=>e_pu .here fun hz=>?_
     obtain⟨j,d⟩:=st
     (try dsimp only at hz)
     obtain⟨rfl,rfl,hij,hjl,hun2⟩:=hz
     refine o_ (B_ne 9 rfl) ?_
     refine e_and1or (fun _=>v_lss (q:= .u8) (a:=(d.toNat:Int)) (b:=32)) (fun _ _=>B_eq 127 rfl) ?_
     rw[badQ_j]
     cases hb:badQ d with
     |true=>
      rw[hb,if_pos rfl]at hun2
      rw[hun2]
      refine e_condT (rt_ () ?_)
      exact im_
     |false=>
      rw[hb,if_neg (by decide)]at hun2
      refine e_condF (e_bsl1 fun gb=>?_)
      refine e_app (m:=1) (news:=[B d]) (by repeat constructor) (src_pt (e':=5) (by kernel_rfl) .here (by rfl) (by intro u hu;rw[List.mem_singleton.1 hu];rfl)) (by omega) (by omega) fun a' c'=>?_
      refine ad_ ?_
      refine e_next2 (m-(j+1-i)) (by omega) (.ex ((acc++[d],a',c'),j+1) (.all ?_))
      refine nr_ ?_
      refine .pu ⟨by(try dsimp only);omega,by(try dsimp only);omega,by simp,rfl,by simp;omega,hun2⟩ ?_
      rw[List.length_append,List.map_append]
      simp only[List.length_singleton,List.map_cons,List.map_nil]
      exact im_
    ·refine o_ (B_eq 92 rfl) ?_
     by_cases h92:l[i]=92
     ·rw[dT_ h92]
      rw[if_pos h92]at hun
      refine e_condT (ad_ ?_)
      refine o_ v_lent (e_ask v_eql .nil (fun h5=>?_) (fun h5=>?_))
      ·rw[show l.drop (i+1)=[]from List.drop_of_length_le (by omega)]at hun
       simp only at hun
       rw[hun]
       refine e_condT (rt_ () ?_)
       exact im_
      ·have hi1:i+1<l.length:=by omega
       rw[dr hi1]at hun
       simp only at hun
       refine e_condF (o_ (v_ixS (i+1) rfl hi1) ?_)
       refine e_sat (.ex (i+1,l[i+1]) (.pu ⟨rfl,rfl,by(try dsimp only);omega,hi1,hun⟩ .refl))
     ·rw[dF_ h92]
      rw[if_neg h92]at hun
      refine e_condF (e_sat (.ex (i,l[i]) (.pu ⟨rfl,rfl,Nat.le_refl _,hlt,hun⟩ .refl)))
  ·rw[dT_ h3]
   have hno:unqF l=([],false):=by rw[unqF_at (by omega),if_neg h3]
   rw[hno]
   refine e_condT (rt_ () ?_)
   exact im_
theorem rdirective {W:World}{l:List UInt8}(hl:l.length<=4194304):Cn p_ 116 [txt l] W [] (fun _:Unit=> .tuple #[vDir (dirR l).1,.bool (dirR l).2]) (fun _=>[]):=by
 (refine S.ref10_directive_s.cn fun F=>?_;unfold S.ref10_directive;simp only[ca_,na_])
 refine e_newA fun b2=>?_
 refine e_loop1 (fun m y=>[ex fun i:Nat=>all [pu (m+i=l.length/\y= .int .i64 (i:Int)/\scn 61 l i),pt b2 (.cells #[.string ⟨#[]⟩,.string ⟨#[]⟩,.bool false] 140 (0,0))]]++F) l.length ?_ ?_
 ·refine Imp.ex 0 (.all ?_)
  refine nr_ ?_
  exact .pu ⟨by omega,rfl,scn0⟩ .refl
 intro m ds y
 refine nr_ ?_
 refine e_ex Pick.here fun i=>e_all Pick.here ?_
 refine nr_ ?_
 refine e_pu Pick.here fun hi=>?_
 obtain⟨hmi,rfl,hsc⟩:=hi
 refine o_ v_lent (o_ v_lss (e_and12 (v:=B (gt l i)) (b:=decide (gt l i≠61)) (fun h=>v_gt (by simp at h;omega)) (fun _=>B_ne 61 rfl) ?_))
 refine e_cond (φ:=i<l.length/\gt l i≠61) (by
  have e3:decide ((i:Int)<(l.length:Int))=decide (i<l.length):=by rw[decide_eq_decide];omega
  rw[e3,<- Bool.decide_and]) (fun h=>?_) (fun h=>?_)
 ·refine ad_ ?_
  refine e_next1 (m-1) (by omega) (.ex (i+1) (.all ?_))
  refine nr_ ?_
  exact .pu ⟨by omega,rfl,scn_next hsc h.1 h.2⟩ .refl
 have hA:=cutA_len (c:=61) l
 have hB:=cutB_len (c:=61) l
 have hcut:l.take i=cutA 61 l/\((i<l.length)↔cutS 61 l=true)/\(i<l.length->l.drop (i+1)=cutB 61 l):=by
  by_cases hil:i<l.length
  ·have hg:gt l i=61:=Decidable.byContradiction fun c=>h ⟨hil,c⟩
   obtain⟨ea,eb,es⟩:=scn_hit hsc hil hg
   exact⟨ea.symm,⟨fun _=>es,fun _=>hil⟩,fun _=>eb.symm⟩
  ·obtain⟨ea,eb,es⟩:=scn_end hsc (by omega)
   refine⟨by rw[ea,List.take_of_length_le (by omega)],⟨fun c=>absurd c hil,fun c=>by rw[es]at c;cases c⟩,fun c=>absurd c hil⟩
 obtain⟨hta,hts,htb⟩:=hcut
 refine o_ (v_ssh i rfl (by omega)) ?_
 rw[hta]
 refine e_call (rlower (l:=cutA 61 l) (by omega)) .nil fun _=>?_
 refine nr_ ?_
 refine o_ v_rv ?_
 refine e_newA fun b5=>?_
 refine sg_ ?_;refine o_ v_fa0 (ln_ ?_)
 have hvl:(lowF (cutA 61 l)).length<=4194304:=by rw[lowF_len];omega
 refine e_call (rtoken (l:=lowF (cutA 61 l)) (by omega)) .nil fun _=>?_
 refine nr_ ?_
 cases ht:tokF (lowF (cutA 61 l))with
 |false=>
  have e:dirR l=(⟨lowF (cutA 61 l),[],false⟩,false):=by unfold dirR;rw[if_pos ht]
  rw[e]
  refine o_ v_notF (e_condT (lg_ ?_));refine sg_ ?_;(((refine' e_stS (v_resA ?hn) ?hi ?_);(case hi=>exact im_);(case hn=>rfl)))
  refine rt_ () ?_
  exact im_
 |true=>
  refine o_ v_notT (e_condF (o_ v_lent (e_ask v_eql .nil (fun h5=>?_) (fun h5=>?_))))
  ·have hs:cutS 61 l=false:=by
    cases hx:cutS 61 l with
    |false=>rfl
    |true=>have:=hts.2 hx;omega
   have e:dirR l=(⟨lowF (cutA 61 l),[],false⟩,true):=by unfold dirR;rw[if_neg (by rw[ht];decide),if_pos hs]
   rw[e]
   refine e_condT (lg_ ?_);refine sg_ ?_;(((refine' e_stS (v_resA ?hn) ?hi ?_);(case hi=>exact im_);(case hn=>rfl)))
   refine rt_ () ?_
   exact im_
  ·have hil:i<l.length:=by omega
   have hs:cutS 61 l=true:=hts.1 hil
   refine e_condF (o_ v_fa0 (sn_ ?_));refine ad_ ?_
   refine o_ (v_ssl (i+1) rfl (by omega)) ?_
   rw[htb hil]
   refine o_ v_fa0 (sn_ ?_);refine o_ v_fa0 (ln_ ?_)
   refine e_call (rtoken (l:=cutB 61 l) (by omega)) .nil fun _=>?_
   refine nr_ ?_
   cases hb:tokF (cutB 61 l)with
   |true=>
    have e:dirR l=(⟨lowF (cutA 61 l),cutB 61 l,true⟩,true):=by unfold dirR;rw[if_neg (by rw[ht];decide),if_neg (by rw[hs];decide),if_pos hb]
    rw[e]
    refine e_condT (lg_ ?_);refine sg_ ?_;(((refine' e_stS (v_resA ?hn) ?hi ?_);(case hi=>exact im_);(case hn=>rfl)))
    refine rt_ () ?_
    exact im_
   |false=>
    have e:dirR l=(⟨lowF (cutA 61 l),(unqF (cutB 61 l)).1,true⟩,(unqF (cutB 61 l)).2):=by unfold dirR;rw[if_neg (by rw[ht];decide),if_neg (by rw[hs];decide),if_neg (by rw[hb];decide)]
    rw[e]
    refine e_condF (o_ v_fa0 (ln_ ?_))
    refine e_call (runquoted (l:=cutB 61 l) (by omega)) .nil fun _=>?_
    refine nr_ ?_
    refine xt_ ?_;refine xt_ ?_;refine o_ v_fa0 (sn_ ?_);refine lg_ ?_;refine sg_ ?_;(((refine' e_stS (v_resA ?hn) ?hi ?_);(case hi=>exact im_);(case hn=>rfl)))
    refine rt_ () ?_
    exact im_
end Go.Proofs.YthomhkpedghhgaaGreatDoor.FD
namespace Go.Proofs.YthomhkpedghhgaaGreatDoor.FD
open Go Go.Proofs Go.RowKit Sh Sl T
theorem rdirectives {W:World}{l:List UInt8}(hl:l.length<=2097152):Cn p_ 92 [txt l] W [] (fun r:Option Addr × Nat=> .tuple #[.slice r.1 (lsF (dirsF l)).1.length r.2,.int .i64 (lsF (dirsF l)).2])
  (fun r=>[Sl 3 140 r.1 r.2 (lsF (dirsF l)).1.length ((lsF (dirsF l)).1.flatMap pDir)]):=by
 have fin:dirsF l=none->∀F:List HP,Ent W F (fun w=>∃r:Option Addr × Nat,(.tuple #[.slice none 0 0,.int .i64 42]:Value)= .tuple #[.slice r.1 (lsF (dirsF l)).1.length r.2,.int .i64 (lsF (dirsF l)).2]/\sat W ([Sl 3 140 r.1 r.2 (lsF (dirsF l)).1.length ((lsF (dirsF l)).1.flatMap pDir)]++F) w):=by
  intro h F
  rw[h]
  refine e_ret (none,0) rfl ?_
  exact imp_nil .refl
 (refine S.ref10_Directives_s.cn fun F=>?_;unfold S.ref10_Directives;simp only[ca_,na_])
 have hs:dirsF l=listF dirR (elemsF true true l):=dirs_eq l
 have hnum:=elems_num (q:=true) (e:=true) (l:=l)
 refine e_call (relements (l:=l) (q:=true) (e:=true) (by omega)) .nil fun r=>?_
 obtain⟨ea,ec⟩:=r
 refine nr_ ?_
 obtain⟨E,hE⟩:∃E,E=elemsF true true l:=⟨_,rfl⟩
 have hEl:∀w∈E,w.length<=2097152:=fun w hw=>by
  rw[hE]at hw
  have:=elems_len hw
  omega
 rw[<- hE]at hnum hs ⊢
 refine e_loop2 (fun m y5 y6=>[ex fun st:Nat × Option Addr × Nat=>all [pu (m+st.1=E.length/\y5= .slice st.2.1 st.1 st.2.2/\y6= .int .i64 (st.1:Int)/\(E.take st.1).all (fun w=>(dirR w).2)=true),Sl 3 140 st.2.1 st.2.2 st.1 ((E.take st.1).flatMap fun w=>pDir (dirR w).1),Sl 1 9 ea ec E.length (E.map txt)]]++F) E.length ?_ ?_
 ·refine Imp.ex (0,none,0) (.all ?_)
  refine nr_ ?_
  refine .pu ⟨rfl,rfl,rfl,rfl⟩ ?_
  exact imp_nil .refl
 intro m ds y5 y6
 refine nr_ ?_
 refine e_ex Pick.here fun st=>e_all Pick.here ?_
 obtain⟨i,sa,sc⟩:=st
 refine nr_ ?_
 refine e_pu Pick.here fun hi=>?_
 (try dsimp only at hi)
 obtain⟨hmi,rfl,rfl,hok⟩:=hi
 refine o_ v_len (e_ask v_lss .nil (fun h=>?_) (fun h=>?_))
 ·have hil:i<E.length:=by omega
  have hwl:=hEl _ (List.getElem_mem hil)
  have htk:E.take (i+1)=E.take i++[E[i]]:=List.take_succ_eq_append_getElem hil
  refine e_condT (e_slsome (a:=ea) (.there .here) (Nat.zero_lt_of_lt hil) fun g hg=>?_)
  subst hg
  have ld:RunV p_ W [Sl 1 9 (some ⟨g,0,none⟩) ec E.length (E.map txt)] (sLoad 9 (.pointer (some ⟨g,0+i,none⟩))) (txt E[i]):=v_ldSl (by rw[Nat.zero_add,List.getElem?_map,List.getElem?_eq_getElem hil];rfl)
  refine o_ (v_ia1 i rfl hil) ?_
  refine p_op ld ?_
  refine e_call (rdirective (l:=E[i]) (by omega)) .nil fun _=>?_
  refine nr_ ?_
  refine o_ (v_extN (vs:=[_,_]) .here) ?_
  refine o_ (v_extN (vs:=[_,_]) (.there .here)) ?_
  unfold vDir
  refine e_newA fun b8=>?_
  refine e_stAgg .here (by rfl) (by rfl) (by intro u hu;simp at hu;rcases hu with rfl|rfl|rfl <;> rfl) ?_
  refine o_ v_not ?_
  cases hk:(dirR E[i]).2 with
  |false=>
   refine e_condT (e_imp (M:=F) im_ ?_)
   refine fin ?_ F
   rw[hs]
   unfold listF
   rw[if_neg]
   intro hall
   have:=List.all_eq_true.1 hall _ (List.getElem_mem hil)
   rw[hk]at this;cases this
  |true=>
   refine e_condF (p_op (v_ldAgg (cs:=#[txt (dirR E[i]).1.name,txt (dirR E[i]).1.value,.bool (dirR E[i]).1.has]) rfl) ?_)
   refine e_bslS (n:=1) (vs:=[vDir (dirR E[i]).1]) rfl (by omega) rfl (by intro v hv;rw[List.mem_singleton.1 hv];rfl) (by omega) fun gb=>?_
   refine e_app (m:=1) (news:=pDir (dirR E[i]).1) (by repeat constructor) (src_pt (s:=3) (e':=140) (by kernel_rfl) .here (by rfl) (by intro u hu;simp[pDir]at hu;rcases hu with rfl|rfl|rfl <;> rfl)) (by omega) (by omega) fun a' c'=>?_
   refine ad_ ?_
   refine e_next2 (m-1) (by omega) (.ex (i+1,a',c') (.all ?_))
   refine nr_ ?_
   refine .pu ⟨by(try dsimp only);omega,rfl,rfl,?_⟩ ?_
   ·rw[htk,List.all_append,hok]
    simp[hk]
   rw[htk,List.flatMap_append,List.flatMap_singleton]
   refine .pick (by repeat constructor) ?_
   exact im_
 ·have hie:i=E.length:=by omega
  subst hie
  rw[List.take_length]at hok ⊢
  have hss:dirsF l=some (E.map fun w=>(dirR w).1):=by
   rw[hs]
   unfold listF
   rw[if_pos hok]
  rw[hss]
  refine e_condF (e_ret (sa,sc) (by simp[lsF]) ?_)
  simp only[lsF,List.length_map,List.flatMap_map]
  exact im_
theorem pDir_len (x:Dir):(pDir x).length=3:=rfl
theorem dir_at {xs:List Dir}{i:Nat}(h:i<xs.length):(xs.flatMap pDir)[i * 3+0]? =some (txt xs[i].name)/\(xs.flatMap pDir)[i * 3+1]? =some (txt xs[i].value)/\(xs.flatMap pDir)[i * 3+2]? =some (.bool xs[i].has):=
 ⟨flat_get (f:=pDir) (s:=3) pDir_len xs i 0 h (by omega),flat_get (f:=pDir) (s:=3) pDir_len xs i 1 h (by omega),flat_get (f:=pDir) (s:=3) pDir_len xs i 2 h (by omega)⟩
def dOK (x:Dir):Prop:=x.value.length<=4194304/\(x.has=false->x.value=[])
theorem dirs_ok {l:List UInt8}(hl:l.length<=2097152):∀x∈(lsF (dirsF l)).1,dOK x:=by
 intro x hx
 unfold dirsF listF at hx
 split at hx
 ·obtain⟨w,hw,rfl⟩:=List.mem_map.1 hx
  have hwl:=elems_len hw
  refine⟨?_,dir_has⟩
  have hB:=cutB_len (c:=61) w
  unfold dirF
  split
  ·show(unqF (cutB 61 w)).1.length<=_
   have:(unqF (cutB 61 w)).1.length<=(cutB 61 w).length:=by
    cases cutB 61 w with
    |nil=>simp[unqF]
    |cons c r=>
     show(if c=34 then unqL [] r else([],false)).1.length<=_
     split
     ·have:=unq_len r.length r (Nat.le_refl _) []
      simp at this ⊢;omega
     ·simp
   omega
  ·show(cutB 61 w).length<=_
   omega
 ·simp[lsF]at hx
theorem dirs_num {l:List UInt8}:(lsF (dirsF l)).1.length<=l.length+1:=by
 have hn:=elems_num (q:=true) (e:=true) (l:=l)
 unfold dirsF listF
 split
 ·show(List.map _ _).length<=_
  rw[List.length_map];omega
 ·simp[lsF]
theorem sec_cons {xs:List Dir}{i:Nat}{s:List UInt8}(h:i<xs.length):secF (xs.drop i) s=if xs[i].name=s then(secV xs[i],true)else secF (xs.drop (i+1)) s:=by
 rw[List.drop_eq_getElem_cons h]
 unfold secF
 rw[List.find?_cons]
 by_cases c:xs[i].name=s
 ·rw[if_pos c,show(xs[i].name==s)=true by simp[c]]
 ·rw[if_neg c,show(xs[i].name==s)=false by simp[c]]
theorem seconds {W:World}[hG:Gl W]{xs:List Dir}{s:List UInt8}{a:Option Addr}{c:Nat}(hn:xs.length<=4194304)(hx:∀x∈xs,dOK x):Cn p_ 43 [.slice a xs.length c,txt s] W [Sl 3 128 a c xs.length (xs.flatMap pDir)] (fun _:Unit=> .tuple #[.int .i64 (secF xs s).1,.bool (secF xs s).2]) (fun _=>[Sl 3 128 a c xs.length (xs.flatMap pDir)]):=by
 (refine S.fields_Seconds_s.cn fun F=>?_;unfold S.fields_Seconds;simp only[ca_,na_])
 refine o_ v_len (e_loop1 (fun m y=>[ex fun i:Nat=>all [pu (m+i=xs.length/\y= .int .i64 (i:Int)/\secF xs s=secF (xs.drop i) s),Sl 3 128 a c xs.length (xs.flatMap pDir)]]++F) xs.length ?_ ?_)
 ·refine Imp.ex 0 (.all ?_)
  refine nr_ ?_
  exact .pu ⟨rfl,rfl,rfl⟩ .refl
 intro m ds y
 refine nr_ ?_
 refine e_ex Pick.here fun i=>e_all Pick.here ?_
 refine nr_ ?_
 refine e_pu Pick.here fun hi=>?_
 obtain⟨hmi,rfl,hse⟩:=hi
 refine e_ask v_lss .nil (fun h=>?_) (fun h=>?_)
 ·have hil:i<xs.length:=by omega
  have hok:=hx _ (List.getElem_mem hil)
  rw[sec_cons hil]at hse
  refine e_condT (e_slsome (a:=a) .here (Nat.zero_lt_of_lt hil) fun g hg=>?_)
  subst hg
  refine o_ (v_ia i rfl hil) ?_
  refine p_op (ld_dir hil rfl) ?_
  generalize xs[i]=x at hok hse ⊢
  unfold vDir
  refine e_newA fun b7=>?_
  refine e_stAgg .here (by rfl) (by rfl) (by intro u hu;simp at hu;rcases hu with rfl|rfl|rfl <;> rfl) ?_
  refine o_ v_fa0 (ln_ ?_)
  refine o_ v_strne ?_
  by_cases hxn:x.name=s
  ·rw[dF_ (fun c=>c hxn)]
   rw[if_pos hxn]at hse
   refine e_condF (o_ v_fa0 (ln_ ?_))
   refine e_call (decimal (l:=x.value) (by have:=hok.1;omega)) .nil fun _=>?_
   refine nr_ ?_
   refine o_ (v_extN (vs:=[_,_]) .here) ?_
   refine o_ (v_extN (vs:=[_,_]) (.there .here)) ?_
   refine e_cut1 (fun z=>(ex fun n:Int=>pu (z= .int .i64 n/\secV x=if 2147483648<n then 2147483648 else n))::pt b7 (.cells #[txt x.name,txt x.value,.bool x.has] 128 (0,0))::Sl 3 128 (some ⟨g,0,none⟩) c xs.length (xs.flatMap pDir)::F) ?_ ?_
   ·intro ds2 z
    refine e_ex .here fun n=>e_pu .here fun hz=>?_
    obtain⟨rfl,hsv⟩:=hz
    refine o_ v_min (e_ret () (by rw[hse,hsv]) ?_)
    exact im_
   ·refine e_ask v_eql .nil (fun h1=>?_) (fun h1=>?_)
    ·refine e_condT (e_sat (.ex 2147483648 (.pu ⟨rfl,?_⟩ ?_)))
     ·unfold secV;rw[if_pos h1];rfl
     ·exact im_
    ·refine e_condF (e_ask v_neq .nil (fun h2=>?_) (fun h2=>?_))
     ·refine e_condT (e_condT (e_sat (.ex 0 (.pu ⟨rfl,?_⟩ ?_))))
      ·unfold secV;rw[if_neg h1,if_pos (.inl h2)];rfl
      ·exact im_
     ·refine e_condF (o_ v_fa0 (ln_ ?_));refine o_ v_not ?_
      cases hh:x.has with
      |false=>
       refine e_condT (e_sat (.ex 0 (.pu ⟨rfl,?_⟩ ?_)))
       ·unfold secV;rw[if_neg h1,if_pos (.inr hh)];rfl
       ·exact im_
      |true=>
       refine e_condF (e_sat (.ex (decF x.value).1 (.pu ⟨rfl,?_⟩ ?_)))
       ·unfold secV;rw[if_neg h1,if_neg (by rw[hh];rintro(c|c);exact h2 c;cases c)]
        split <;> omega
       ·exact im_
  ·rw[dT_ hxn]
   rw[if_neg hxn]at hse
   refine e_condT (ad_ ?_)
   refine e_next1 (m-1) (by omega) (.ex (i+1) (.all ?_))
   refine nr_ ?_
   refine .pu ⟨by omega,rfl,hse⟩ ?_
   exact im_
 ·rw[List.drop_of_length_le (by omega)]at hse
  refine e_condF ?_
  rw[hse]
  refine rt_ () ?_
  exact im_
theorem dec_big {l:List UInt8}(h:2147483648<(decF l).1):(decF l).2=0/\l≠[]:=by
 unfold decF at h ⊢
 cases l with
 |nil=>simp[nb]at h
 |cons c r=>
  refine⟨?_,by simp⟩
  split at h
  ·split at h
   ·rename_i h1 h2
    rw[if_pos h1,if_pos h2]
   ·simp at h
  ·simp at h
theorem rseconds {W:World}{xs:List Dir}{s:List UInt8}{a:Option Addr}{c:Nat}(hn:xs.length<=4194304)(hx:∀x∈xs,dOK x):Cn p_ 58 [.slice a xs.length c,txt s] W [Sl 3 140 a c xs.length (xs.flatMap pDir)] (fun _:Unit=> .tuple #[.int .i64 (secF xs s).1,.bool (secF xs s).2]) (fun _=>[Sl 3 140 a c xs.length (xs.flatMap pDir)]):=by
 (refine S.ref10_Seconds_s.cn fun F=>?_;unfold S.ref10_Seconds;simp only[ca_,na_])
 refine e_loop1 (fun m y=>[ex fun i:Nat=>all [pu (m+i=xs.length/\y= .int .i64 (i:Int)/\secF xs s=secF (xs.drop i) s),Sl 3 140 a c xs.length (xs.flatMap pDir)]]++F) xs.length ?_ ?_
 ·refine Imp.ex 0 (.all ?_)
  refine nr_ ?_
  exact .pu ⟨rfl,rfl,rfl⟩ .refl
 intro m ds y
 refine nr_ ?_
 refine e_ex Pick.here fun i=>e_all Pick.here ?_
 refine nr_ ?_
 refine e_pu Pick.here fun hi=>?_
 obtain⟨hmi,rfl,hse⟩:=hi
 refine o_ v_len (e_ask v_lss .nil (fun h=>?_) (fun h=>?_))
 ·have hil:i<xs.length:=by omega
  have hok:=hx _ (List.getElem_mem hil)
  have hat:=dir_at hil
  rw[sec_cons hil]at hse
  refine e_condT (e_slsome (a:=a) .here (Nat.zero_lt_of_lt hil) fun g hg=>?_)
  subst hg
  generalize xs[i]=x at hok hse hat ⊢
  have l0:RunV p_ W [Sl 3 140 (some ⟨g,0,none⟩) c xs.length (xs.flatMap pDir)] (sLoad 9 (.pointer (some ⟨g,0+i * 3+0,none⟩))) (txt x.name):=v_ldSl (by rw[Nat.zero_add];exact hat.1)
  have l1:RunV p_ W [Sl 3 140 (some ⟨g,0,none⟩) c xs.length (xs.flatMap pDir)] (sLoad 9 (.pointer (some ⟨g,0+i * 3+1,none⟩))) (txt x.value):=v_ldSl (by rw[Nat.zero_add];exact hat.2.1)
  have l2:RunV p_ W [Sl 3 140 (some ⟨g,0,none⟩) c xs.length (xs.flatMap pDir)] (sLoad 4 (.pointer (some ⟨g,0+i * 3+2,none⟩))) (.bool x.has):=v_ldSl (by rw[Nat.zero_add];exact hat.2.2)
  refine o_ (v_ia i rfl hil) ?_
  refine o_ v_fa (e_opN l0 (.pick .here .nil) ?_)
  refine o_ v_strne ?_
  by_cases hxn:x.name=s
  ·rw[dF_ (fun c=>c hxn)]
   rw[if_pos hxn]at hse
   rw[hse]
   refine e_condF (o_ (v_ia i rfl hil) ?_)
   refine o_ v_fa (e_opN l1 (.pick .here .nil) ?_)
   refine e_call (rdecimal (l:=x.value) (by have:=hok.1;omega)) .nil fun _=>?_
   refine nr_ ?_
   refine o_ (v_extN (vs:=[_,_]) .here) ?_
   refine o_ (v_extN (vs:=[_,_]) (.there .here)) ?_
   refine o_ v_eql (e_or1 (fun _=>v_gtr) ?_)
   refine e_cond (φ:=(decF x.value).2=11\/2147483648<(decF x.value).1) (by rw[<- Bool.decide_or]) (fun h1=>?_) (fun h1=>?_)
   ·have e:secV x=2147483648:=by
     unfold secV
     rcases h1 with h1|h1
     ·rw[if_pos h1]
     ·obtain⟨k1,k2⟩:=dec_big h1
      have hh:x.has=true:=by
       cases hh:x.has with
       |true=>rfl
       |false=>exact absurd (hok.2 hh) k2
      rw[if_neg (by rw[k1];decide),if_neg (by rw[k1,hh];simp)]
      omega
    rw[e]
    refine rt_ () ?_
    exact im_
   ·refine o_ v_neq ?_
    by_cases h2:(decF x.value).2=0
    ·rw[dF_ (fun c=>c h2)]
     refine e_gdT (e_gdT (e_gdT (o_ (v_ia i rfl hil) ?_)))
     refine e_gdT (o_ v_fa (e_gdT (e_opN l2 (.pick .here .nil) ?_)))
     refine e_gdT (o_ v_not (o_ v_pickF ?_))
     cases hh:x.has with
     |false=>
      have e:secV x=0:=by
       unfold secV;rw[if_neg (fun c=>h1 (.inl c)),if_pos (.inr hh)]
      rw[e]
      refine e_condT (rt_ () ?_)
      exact im_
     |true=>
      have e:secV x=(decF x.value).1:=by
       unfold secV;rw[if_neg (fun c=>h1 (.inl c)),if_neg (by rw[hh,h2];simp)]
       have:=fun c=>h1 (.inr c)
       omega
      rw[e]
      refine e_condF (rt_ () ?_)
      exact im_
    ·have e:secV x=0:=by
      unfold secV;rw[if_neg (fun c=>h1 (.inl c)),if_pos (.inl h2)]
     rw[dT_ h2,e]
     refine e_gdF1 (e_gdF1 (e_gdF1 (e_gdF1 (e_gdF1 (e_gdF1 (o_ v_pickT (e_condT (rt_ () ?_))))))))
     exact im_
  ·rw[dT_ hxn]
   rw[if_neg hxn]at hse
   refine e_condT (ad_ ?_)
   refine e_next1 (m-1) (by omega) (.ex (i+1) (.all ?_))
   refine nr_ ?_
   refine .pu ⟨by omega,rfl,hse⟩ ?_
   exact im_
 ·rw[List.drop_of_length_le (by omega)]at hse
  refine e_condF ?_
  rw[hse]
  refine rt_ () ?_
  exact im_
end Go.Proofs.YthomhkpedghhgaaGreatDoor.FD
namespace Go.Proofs.YthomhkpedghhgaaGreatDoor.Sl
open Go Go.RowKit Sh
theorem wrU64 {n:Nat}(h:n<18446744073709551616):IntKind.u64.wrap (n:Int)=n:=by
 simp only[IntKind.wrap,IntKind.bits,IntKind.signed]
 simp;omega
theorem wrU32 {n:Nat}(h:n<4294967296):IntKind.u32.wrap (n:Int)=n:=by
 simp only[IntKind.wrap,IntKind.bits,IntKind.signed]
 simp;omega
theorem wrU8 {n:Nat}(h:n<256):IntKind.u8.wrap (n:Int)=n:=by
 simp only[IntKind.wrap,IntKind.bits,IntKind.signed]
 simp;omega
theorem v_quoU {P:Program}{W:World}{t:TypeId}{q:IntKind}{a b:Nat}(hb:0<b)(hw:q.wrap ((a / b:Nat):Int)=((a / b:Nat):Int)):RunV P W [] (sBin .quo t (.int q (a:Int)) (.int q (b:Int))) (.int q ((a / b:Nat):Int)):=fun w _=>by
 have h0:¬(b:Int)=0:=by omega
 have hw':q.wrap ((a:Int) / (b:Int))=(a:Int) / (b:Int):=by rw[show(a:Int) / (b:Int)=((a / b:Nat):Int) by norm_cast,hw]
 simp[sBin,sv,eqGuard,binOp,Op.intDiv,h0,show ¬b=0 by omega,hw']
theorem v_remU {P:Program}{W:World}{t:TypeId}{q:IntKind}{a b:Nat}(hb:0<b):RunV P W [] (sBin .rem t (.int q (a:Int)) (.int q (b:Int))) (.int q ((a%b:Nat):Int)):=by
 have:=v_rem (P:=P) (W:=W) (t:=t) (q:=q) (a:=(a:Int)) (b:=(b:Int)) (by omega) (by omega)
 rw[show(a:Int)%(b:Int)=((a%b:Nat):Int) by norm_cast]at this
 exact this
theorem v_mulU {P:Program}{W:World}{t:TypeId}{q:IntKind}{a b:Nat}(hw:q.wrap ((a * b:Nat):Int)=((a * b:Nat):Int)):RunV P W [] (sBin .mul t (.int q (a:Int)) (.int q (b:Int))) (.int q ((a * b:Nat):Int)):=by
 have:=v_mulw (P:=P) (W:=W) (t:=t) (q:=q) (a:=(a:Int)) (b:=(b:Int))
 rw[show(a:Int) * (b:Int)=((a * b:Nat):Int) by norm_cast,hw]at this
 exact this
theorem v_addU {P:Program}{W:World}{t:TypeId}{q:IntKind}{a b:Nat}(hw:q.wrap ((a+b:Nat):Int)=((a+b:Nat):Int)):RunV P W [] (sBin .add t (.int q (a:Int)) (.int q (b:Int))) (.int q ((a+b:Nat):Int)):=by
 have:=v_addw (P:=P) (W:=W) (t:=t) (q:=q) (a:=(a:Int)) (b:=(b:Int))
 rw[show(a:Int)+(b:Int)=((a+b:Nat):Int) by norm_cast,hw]at this
 exact this
theorem v_shrU {P:Program}{W:World}{t:TypeId}{r:IntKind}{a k:Nat}(hk:k<=64):RunV P W [] (sBin .shr t (.int .u64 (a:Int)) (.int r (k:Int))) (.int .u64 ((a / 2^k:Nat):Int)):=by
 have:=v_shr (P:=P) (W:=W) (t:=t) (q:= .u64) (r:=r) (a:=(a:Int)) (b:=(k:Int)) (by omega)
 rw[show min ((k:Int)).toNat IntKind.u64.bits=k by simp only[IntKind.bits,Int.toNat_natCast];omega,Int.fdiv_eq_ediv_of_nonneg _ (Int.le_of_lt (Int.pow_pos (by decide))),show(a:Int) / 2^k=((a / 2^k:Nat):Int) by norm_cast]at this
 exact this
theorem v_neg {P:Program}{W:World}{q:IntKind}{a:Int}:RunV P W [] (sUn .neg (.int q a)) (.int q (q.wrap (-a))):=fun w _=>by
 simp[sUn,Op.unary,Op.intArith]
theorem v_slAB {P:Program}{W:World}{t e:TypeId}{s len:Nat}{g l:Nat}{q r:IntKind}{i j:Int}(h:Nat)[ht:ArrT P t len e s](hi:i=(l:Int))(hj:j=(h:Int))(hlh:l<=h)(hl:h<=len)(h0:l<len):RunV P W [] (sSl t (.pointer (some ⟨g,0,none⟩)) (some (.int q i)) (some (.int r j)) none) (.slice (some ⟨g,l * s,none⟩) (h-l) (len-l)):=fun w _=>by
 have hne:¬len=l:=by omega
 simp[sSl,Instr.sliceAt,Instr.sliceBounds,ht.ut,ht.size,run_bound h hj hl,run_bound l hi hlh,Instr.sureAddr,hne,Addr.add]
 exact fun h=>h.symm
theorem v_slAh0 {P:Program}{W:World}{t e:TypeId}{s len:Nat}{g:Nat}{q:IntKind}{j:Int}(h:Nat)[ht:ArrT P t len e s](hj:j=(h:Int))(hl:h<=len)(h0:0<len):RunV P W [] (sSl t (.pointer (some ⟨g,0,none⟩)) none (some (.int q j)) none) (.slice (some ⟨g,0,none⟩) h len):=fun w _=>by
 have hne:len≠0:=by omega
 simp[sSl,Instr.sliceAt,Instr.sliceBounds,ht.ut,ht.size,run_bound h hj hl,Instr.sureAddr,hne,Addr.add]
theorem v_ssb {P:Program}{W:World}{t:TypeId}{l:List UInt8}{q r:IntKind}{i j:Int}(a b:Nat)[ht:StrT P t](hi:i=(a:Int))(hj:j=(b:Int))(hab:a<=b)(hb:b<=l.length):RunV P W [] (sSl t (txt l) (some (.int q i)) (some (.int r j)) none) (txt ((l.take b).drop a)):=fun w _=>by
 have e:(⟨l.toArray⟩:ByteArray).extract a b=⟨((l.take b).drop a).toArray⟩:=by
  apply ByteArray.ext
  apply Array.ext'
  rw[ByteArray.data_extract]
  simp[List.extract_eq_take_drop,List.drop_take]
 have h1:=run_sb (P:=P) (q:=q) (w:=w) (i:=i) (y:=b) (c:= .sliceB) a hi hab
 have h2:=run_sb (P:=P) (q:=r) (w:=w) (i:=j) (y:=l.length) (c:= .sliceAlen) b hj hb
 have e0:(⟨l.toArray⟩:ByteArray).size=l.length:=rfl
 simp[sSl,Instr.sliceAt,Instr.slice,Instr.sliceBounds,run_underlying ht.ut,txt,e0,h1,h2,e]
theorem rd_off {W:World}{g o n:Nat}{cs:Array Value}{ds:List Value}{T:TypeId}{fz:Nat × Nat}(hl:ds.length=n)(h:∀(j:Nat) (v:Value),ds[j]? =some v->cs[o+j]? =some v):RdB W (pt g (.cells cs T fz)) (some ⟨g,o,none⟩) n ds:=⟨hl,fun _=>⟨g,o,rfl,fun w L hw j v hv=>by rw[hw.cell];exact h j v hv⟩⟩
end Go.Proofs.YthomhkpedghhgaaGreatDoor.Sl
namespace Go.Proofs.YthomhkpedghhgaaGreatDoor.FD
open Go Go.Proofs Go.RowKit Sh Sl T
class Gp (W:World):Prop where
 lt:1<W.heap.size
 at_:∀j,j<20->W.cell? ⟨1,j,none⟩=some (.int .u64 ((10^j:Nat):Int))
def IsLen (u n:Nat):Prop:=u<2^n/\(n=0\/2^(n-1)<=u)
theorem isLen_shift {u k n:Nat}(h:IsLen (u / 2^k) n)(hk:2^k<=u):IsLen u (n+k):=by
 obtain⟨h1,h2⟩:=h
 have h0:0<u / 2^k:=Nat.div_pos hk (Nat.pow_pos (by decide))
 refine⟨?_,.inr ?_⟩
 ·rw[Nat.pow_add];exact(Nat.div_lt_iff_lt_mul (Nat.pow_pos (by decide))).1 h1
 ·rcases h2 with h2|h2
  ·subst h2;simp at h1;omega
  ·have hn:n≠0:=fun c=>by subst c;simp at h1;omega
   rw[show n+k-1=(n-1)+k by omega,Nat.pow_add]
   exact(Nat.le_div_iff_mul_le (Nat.pow_pos (by decide))).1 h2
theorem len8:∀x,x<256->∃n,S.lit1[x]? =some (UInt8.ofNat n)/\n<=8/\IsLen x n:=by
 have:∀x,x<256->((S.lit1[x]?.map UInt8.toNat).getD 9<=8/\x<2^((S.lit1[x]?.map UInt8.toNat).getD 9)/\((S.lit1[x]?.map UInt8.toNat).getD 9=0\/2^((S.lit1[x]?.map UInt8.toNat).getD 9-1)<=x)):=by decide+kernel
 intro x hx
 obtain⟨h1,h2,h3⟩:=this x hx
 have hl:x<S.lit1.length:=by rw[show S.lit1.length=256 by decide+kernel];exact hx
 refine⟨S.lit1[x].toNat,?_,?_,?_,?_⟩
 ·rw[List.getElem?_eq_getElem hl,UInt8.ofNat_toNat]
 all_goals rw[List.getElem?_eq_getElem hl]at h1 h2 h3
 ·exact h1
 ·exact h2
 ·exact h3
theorem len64 {W:World}{u:Nat}(hu:u<18446744073709551616):Cn p_ 196 [.int .u64 (u:Int)] W [] (fun n:{n:Nat // n<=64/\IsLen u n}=> .int .i64 (n.1:Int)) (fun _=>[]):=by
 (refine S.math_bits_Len64_s.cn fun F=>?_;unfold S.math_bits_Len64;simp only[ca_,na_])
 refine e_cut2 (fun x y=>pu (∃v s:Nat,x= .int .u64 (v:Int)/\y= .int .i64 (s:Int)/\v<4294967296/\s<=32/\∀n,IsLen v n->IsLen u (n+s))::F) ?_ ?_
 rotate_left
 ·refine e_ask v_geq .nil (fun h=>?_) (fun h=>?_)
  ·refine e_condT (o_ (v_shrU (k:=32) (by decide)) ?_)
   refine e_sat (.pu ⟨_,32,rfl,rfl,by omega,by omega,fun n hn=>isLen_shift hn (by omega)⟩ .refl)
  ·refine e_condF (e_sat (.pu ⟨u,0,rfl,rfl,by omega,by omega,fun n hn=>hn⟩ .refl))
 intro ds x y
 refine e_pu .here fun hi=>?_
 obtain⟨v,s,rfl,rfl,hv,hs,hL⟩:=hi
 refine e_cut2 (fun x y=>pu (∃v s:Nat,x= .int .u64 (v:Int)/\y= .int .i64 (s:Int)/\v<65536/\s<=48/\∀n,IsLen v n->IsLen u (n+s))::F) ?_ ?_
 rotate_left
 ·refine e_ask v_geq .nil (fun h=>?_) (fun h=>?_)
  ·refine e_condT (o_ (v_shrU (k:=16) (by decide)) ?_)
   refine ad_ ?_
   refine e_sat (.pu ⟨_,s+16,rfl,by norm_cast,by omega,by omega,fun n hn=>by rw[show n+(s+16)=(n+16)+s by omega];exact hL _ (isLen_shift hn (by omega))⟩ .refl)
  ·refine e_condF (e_sat (.pu ⟨v,s,rfl,rfl,by omega,by omega,hL⟩ .refl))
 intro ds2 x y
 refine e_pu .here fun hi=>?_
 obtain⟨v2,s2,rfl,rfl,hv2,hs2,hL2⟩:=hi
 refine e_cut2 (fun x y=>pu (∃v s:Nat,x= .int .u64 (v:Int)/\y= .int .i64 (s:Int)/\v<256/\s<=56/\∀n,IsLen v n->IsLen u (n+s))::F) ?_ ?_
 rotate_left
 ·refine e_ask v_geq .nil (fun h=>?_) (fun h=>?_)
  ·refine e_condT (o_ (v_shrU (k:=8) (by decide)) ?_)
   refine ad_ ?_
   refine e_sat (.pu ⟨_,s2+8,rfl,by norm_cast,by omega,by omega,fun n hn=>by rw[show n+(s2+8)=(n+8)+s2 by omega];exact hL2 _ (isLen_shift hn (by omega))⟩ .refl)
  ·refine e_condF (e_sat (.pu ⟨v2,s2,rfl,rfl,by omega,by omega,hL2⟩ .refl))
 intro ds3 x y
 refine e_pu .here fun hi=>?_
 obtain⟨v3,s3,rfl,rfl,hv3,hs3,hL3⟩:=hi
 refine o_ (v_conv (q:= .u8)) ?_
 rw[wrU8 hv3]
 obtain⟨n,h1,h2,h3⟩:=len8 v3 hv3
 have hl:v3<S.lit1.length:=by rw[show S.lit1.length=256 by decide+kernel];exact hv3
 rw[List.getElem?_eq_getElem hl]at h1
 have h1:=Option.some.inj h1
 refine o_ (v_ixS v3 rfl hl) ?_
 rw[h1,show Sl.B (UInt8.ofNat n)= .int .u8 (n:Int) by unfold Sl.B;rw[UInt8.toNat_ofNat'];rw[Nat.mod_eq_of_lt (by omega)]]
 refine o_ (v_conv (q:= .i64)) ?_
 rw[w64 (by omega) (by omega)]
 refine ad_ ?_
 refine e_ret ⟨n+s3,by omega,hL3 n h3⟩ (by(try dsimp only);congr 1;omega) ?_
 exact .refl
def IsNd (u n:Nat):Prop:=1<=n/\n<=20/\10^(n-1)<=u/\u<10^n
theorem nd_tab:∀b,b<=64->b * 78913 / 262144<=19/\2^b<=10^(b * 78913 / 262144+1)/\(b * 78913 / 262144≠0->10^(b * 78913 / 262144-1)<=2^(b-1)):=by decide+kernel
theorem nd_of {u b:Nat}(hu:u≠0)(hb:b<=64)(h:IsLen u b):IsNd u (b * 78913 / 262144+(if 10^(b * 78913 / 262144)<=u then 1 else 0)):=by
 obtain⟨h1,h2⟩:=h
 obtain⟨t1,t2,t3⟩:=nd_tab b hb
 generalize b * 78913 / 262144=k at t1 t2 t3 ⊢
 by_cases c:10^k<=u
 ·rw[if_pos c]
  exact⟨by omega,by omega,by rw[Nat.add_sub_cancel];exact c,by omega⟩
 ·rw[if_neg c]
  have hk:k≠0:=fun e=>c (by subst e;simp;omega)
  have hb0:b≠0:=fun e=>by subst e;simp at h1;omega
  exact⟨by omega,by omega,by have:=t3 hk;rw[Nat.add_zero];omega,by rw[Nat.add_zero];omega⟩
theorem numDigits {W:World}[hG:Gp W]{u:Nat}(hu:u<18446744073709551616)(h0:u≠0):Cn p_ 163 [.int .u64 (u:Int)] W [] (fun n:{n:Nat // IsNd u n}=> .int .i64 (n.1:Int)) (fun _=>[]):=by
 have hlog:∀b:Nat,b<=64->Cn p_ 195 [.int .i64 (b:Int)] W [] (fun _:Unit=> .int .i64 ((b * 78913 / 262144:Nat):Int)) (fun _=>[]):=fun b hb=>by
  (refine S.istrconv_log10Pow2_s.cn fun F=>?_;unfold S.istrconv_log10Pow2;simp only[ca_,na_])
  refine o_ (v_mul (by omega) (by omega)) ?_
  refine o_ (v_shr (by decide)) ?_
  rw[show min (18:Int).toNat IntKind.i64.bits=18 from rfl,Int.fdiv_eq_ediv_of_nonneg _ (by decide),show((b:Int) * 78913) / 2^18=((b * 78913 / 262144:Nat):Int) by omega]
  refine rt_ () ?_
  exact .refl
 have hbool:∀b:Bool,Cn p_ 197 [.bool b] W [] (fun _:Unit=> .int .i64 (if b then 1 else 0)) (fun _=>[]):=fun b=>by
  (refine S.istrconv_bool2_int_s.cn fun F=>?_;unfold S.istrconv_bool2_int;simp only[ca_,na_])
  cases b with
  |true=>
   refine e_condT (rt_ () ?_)
   exact .refl
  |false=>
   refine e_condF (rt_ () ?_)
   exact .refl
 (refine S.istrconv_numDigits_s.cn fun F=>?_;unfold S.istrconv_numDigits;simp only[ca_,na_])
 refine c_ (len64 hu) fun _=>?_
 rename_i b
 obtain⟨b,hb,hL⟩:=b
 (try dsimp only)
 refine c_ (hlog b hb) fun _=>?_
 have hnd:=nd_of h0 hb hL
 have hk:=(nd_tab b hb).1
 generalize b * 78913 / 262144=k at hk hnd ⊢
 refine o_ (v_iaA k rfl (by omega)) ?_
 rw[Nat.zero_add,Nat.mul_one]
 refine o_ (v_ldOld hG.lt (hG.at_ k (by omega))) ?_
 refine o_ v_geq (c_ (hbool _) fun _=>?_)
 refine o_ (v_add (by split <;> omega) (by split <;> omega)) ?_
 refine e_ret ⟨_,hnd⟩ ?_ .refl
 (try dsimp only)
 congr 1
 by_cases c:10^k<=u
 ·rw[if_pos c,if_pos (dT_ (by norm_cast))];norm_cast
 ·rw[if_neg c,if_neg (fun d=>c (by have:=of_decide_eq_true d;norm_cast at this))];norm_cast
end Go.Proofs.YthomhkpedghhgaaGreatDoor.FD
namespace Go.Proofs.YthomhkpedghhgaaGreatDoor.FD
open Go Go.Proofs Go.RowKit Sh Sl T
def Dn (f:Nat->Nat):Array Value:=((List.range 24).map fun j=>Value.int .u8 (f j:Int)).toArray
theorem Dn_size (f:Nat->Nat):(Dn f).size=24:=by simp[Dn]
theorem Dn_get {j:Nat}{f:Nat->Nat}(h:j<24):(Dn f)[j]? =some (.int .u8 (f j:Int)):=by simp[Dn,h]
def updN (f:Nat->Nat)(j v:Nat):Nat->Nat:=fun i=>if i=j then v else f i
theorem Dn_set {j:Nat}{f:Nat->Nat}{v:Nat}:(Dn f).setIfInBounds j (.int .u8 (v:Int))=Dn (updN f j v):=by
 apply Array.ext_getElem?
 intro i
 rw[Array.getElem?_setIfInBounds]
 by_cases h:i<24
 ·rw[Dn_get h,Dn_get h]
  unfold updN
  by_cases c:j=i
  ·subst c;rw[if_pos rfl,if_pos (by rw[Dn_size];exact h),if_pos rfl]
  ·rw[if_neg c,if_neg (fun e=>c e.symm)]
 ·rw[Array.getElem?_eq_none (xs:=Dn f) (by rw[Dn_size];omega),Array.getElem?_eq_none (xs:=Dn (updN f j v)) (by rw[Dn_size];omega)]
  by_cases c:j=i
  ·subst c;rw[if_pos rfl,if_neg (by rw[Dn_size];exact h)]
  ·rw[if_neg c]
def partW (u n k:Nat)(f:Nat->Nat):Nat->Nat:=fun j=>if k<j/\j<=n then 48+u / 10^(n-j)%10 else f j
theorem part_all (u n:Nat)(f:Nat->Nat):partW u n n f=f:=by
 funext j
 unfold partW
 rw[if_neg (by omega)]
theorem pow_s (u a b:Nat):u / 10^(a+b)=u / 10^a / 10^b:=by rw[Nat.pow_add,Nat.div_div_eq_div_mul]
theorem part_one {u n k:Nat}{f:Nat->Nat}(h1:1<=k)(h2:k<=n):updN (partW u n k f) k (48+u / 10^(n-k)%10)=partW u n (k-1) f:=by
 funext j
 unfold updN partW
 by_cases c:j=k
 ·subst c;rw[if_pos rfl,if_pos (by omega)]
 ·rw[if_neg c]
  by_cases d:k<j/\j<=n
  ·rw[if_pos d,if_pos (by omega)]
  ·rw[if_neg d,if_neg (by omega)]
theorem part_pair {u n k y:Nat}{f:Nat->Nat}(h1:2<=k)(h2:k<=n)(hy:y=u / 10^(n-k)%100):updN (updN (partW u n k f) k (48+y%10)) (k-1) (48+y / 10)=partW u n (k-2) f:=by
 have e1:48+y%10=48+u / 10^(n-k)%10:=by omega
 have e2:48+y / 10=48+u / 10^(n-(k-1))%10:=by
  rw[show n-(k-1)=(n-k)+1 by omega,pow_s,Nat.pow_one];omega
 rw[e1,e2,part_one (by omega) h2,part_one (by omega) (by omega)]
 rfl
theorem sm_tab:∀y,y<100->S.lit0[y * 2]? =some (UInt8.ofNat (48+y / 10))/\S.lit0[y * 2+1]? =some (UInt8.ofNat (48+y%10)):=by decide+kernel
theorem lit0_len:S.lit0.length=200:=by decide+kernel
theorem B_nat {n:Nat}(h:n<256):Sl.B (UInt8.ofNat n)= .int .u8 (n:Int):=by unfold Sl.B;rw[UInt8.toNat_ofNat'];rw[Nat.mod_eq_of_lt h]
theorem ix_lo {W:World}{y:Nat}(hy:y<100):RunV p_ W [] (sIx 9 (txt S.lit0) (.int .u32 ((y * 2:Nat):Int))) (.int .u8 ((48+y / 10:Nat):Int)):=by
 have hl:y * 2<S.lit0.length:=by rw[lit0_len];omega
 have h:=(sm_tab y hy).1
 rw[List.getElem?_eq_getElem hl]at h
 have:=v_ixS (P:=p_) (W:=W) (t:=9) (l:=S.lit0) (q:= .u32) (i:=((y * 2:Nat):Int)) (y * 2) rfl hl
 rw[Option.some.inj h,B_nat (by omega)]at this
 exact this
theorem ix_hi {W:World}{y:Nat}(hy:y<100):RunV p_ W [] (sIx 9 (txt S.lit0) (.int .u32 ((y * 2+1:Nat):Int))) (.int .u8 ((48+y%10:Nat):Int)):=by
 have hl:y * 2+1<S.lit0.length:=by rw[lit0_len];omega
 have h:=(sm_tab y hy).2
 rw[List.getElem?_eq_getElem hl]at h
 have:=v_ixS (P:=p_) (W:=W) (t:=9) (l:=S.lit0) (q:= .u32) (i:=((y * 2+1:Nat):Int)) (y * 2+1) rfl hl
 rw[Option.some.inj h,B_nat (by omega)]at this
 exact this
theorem e_pair {W:World} {L:List HP} {Kp:PK} {REST:WP} {g n c k u y:Nat} {K c1 c2:Int} {f:Nat->Nat} {T:TypeId} (hK1:K-c1=((k-1:Nat):Int)) (hK2:K-c2=((k-2:Nat):Int)) (h1:2<=k) (h2:k<=n) (h3:n<=20) (hy:y=u / 10^(n-k)%100)
    (h:Ent W (pt g (.cells (Dn (partW u n (k-2) f)) T (0,0))::L) REST):
    Ent W (pt g (.cells (Dn (partW u n k f)) T (0,0))::L) (drS (stS p_ (sBin .sub 3 (.int .i64 K) (.int .i64 c1)) fun x44=>
     stD p_ (sBin .sub 3 (.int .i64 K) (.int .i64 c2)) fun D5 x47=>
     stS p_ (sBin .add 248 (.int .u32 ((y * 2:Nat):Int)) (.int .u32 1)) fun x49=>
     stS p_ (sIx 9 (txt S.lit0) x49) fun x50=>
     stD p_ (sIx 9 (txt S.lit0) (.int .u32 ((y * 2:Nat):Int))) fun D10 x52=>
     stS p_ (sIA 32 (.slice (some ⟨g,1,none⟩) n c) x44) fun x53=>
     opN p_ (sStore 5 x53 x50) Kp fun _=>
     (fun w=>D10 w/\(fun w=>D5 w/\(stS p_ (sIA 32 (.slice (some ⟨g,1,none⟩) n c) x47) fun x54=>
        opN p_ (sStore 5 x54 x52) Kp fun _=>REST) w) w))):=by
  have hy100:y<100:=by omega
  refine e_drS (t_ (v_sub (by omega) (by omega)) ?_)
  refine e_stD (v_sub (by omega) (by omega)) .nil ?_
  refine t_ (v_addU (a:=y * 2) (b:=1) (wrU32 (by omega))) ?_
  refine t_ (ix_hi hy100) ?_
  refine e_stD (ix_lo hy100) .nil ?_
  refine t_ (v_ia1 (k-1) hK1 (by omega)) ?_
  refine e_st .here (by rw[Dn_size];omega) ?_
  refine e_obl Imp.nil (e_obl .nil ?_)
  refine t_ (v_ia1 (k-2) hK2 (by omega)) ?_
  refine e_st .here (by rw[Array.size_setIfInBounds,Dn_size];omega) ?_
  rw[Dn_set,Dn_set,show 1+(k-1)=k by omega,show 1+(k-2)=k-1 by omega,part_pair h1 h2 hy]
  exact h
theorem u32conv {W:World}{n:Nat}(h:n<4294967296):RunV p_ W [] (sConv 186 248 (.int .u64 (n:Int))) (.int .u32 (n:Int)):=by
 have:=v_conv (P:=p_) (W:=W) (s:=186) (t:=248) (p:= .u64) (q:= .u32) (r:= .u64) (n:=(n:Int))
 rw[wrU32 h]at this
 exact this
theorem format10 {W:World}{g n c u:Nat}{f:Nat->Nat}{T:TypeId}(h1:1<=n)(h3:n<=20)(hu:u<10^n)(hu64:u<18446744073709551616):
  Cn p_ 164 [.slice (some ⟨g,1,none⟩) n c,.int .u64 (u:Int)] W [pt g (.cells (Dn f) T (0,0))] (fun _:Unit=> .tuple #[]) (fun _=>[pt g (.cells (Dn (partW u n 0 f)) T (0,0))]):=by
 (refine S.istrconv_formatBase10_s.cn fun F=>?_;unfold S.istrconv_formatBase10;simp only[ca_,na_])
 refine o_ v_len (e_loop2 (fun m x y=>(ex fun k:Nat=>all [pu (m=k/\y= .int .i64 (k:Int)/\x= .int .u64 ((u / 10^(n-k):Nat):Int)/\k<=n),pt g (.cells (Dn (partW u n k f)) T (0,0))])::F) n ?_ ?_)
 ·refine .ex n (.all ?_)
  refine nr_ ?_
  refine .pu ⟨rfl,rfl,by rw[Nat.sub_self];simp,Nat.le_refl _⟩ ?_
  rw[part_all]
  exact im_
 intro m ds x y
 refine e_ex .here fun k=>e_all .here ?_
 refine nr_ ?_
 refine e_pu .here fun hi=>?_
 obtain⟨rfl,rfl,rfl,hk⟩:=hi
 obtain⟨v,hv⟩:∃v,v=u / 10^(n-m):=⟨_,rfl⟩
 have hvu:v<18446744073709551616:=Nat.lt_of_le_of_lt (by rw[hv];exact Nat.div_le_self _ _) hu64
 have hvk:v<10^m:=by
  rw[hv,Nat.div_lt_iff_lt_mul (Nat.pow_pos (by decide)),<- Nat.pow_add,show m+(n-m)=n by omega];exact hu
 rw[<- hv]
 refine e_ask v_geq .nil (fun h=>?_) (fun h=>?_)
 ·have h8:8<=m:=by omega
  have hs:∀i,i<=m->u / 10^(n-(m-i))=v / 10^i:=fun i hi=>by rw[show n-(m-i)=(n-m)+i by omega,pow_s,<- hv]
  refine e_condT (o_ (v_remU (b:=100000000) (by decide)) ?_)
  refine o_ (u32conv (by omega)) ?_
  refine o_ (v_quoU (b:=100000000) (by decide) (wrU64 (by omega))) ?_
  refine o_ (v_quoU (b:=10000) (by decide) (wrU32 (by omega))) ?_
  refine o_ (v_remU (b:=10000) (by decide)) ?_
  refine o_ (v_quoU (b:=100) (by decide) (wrU32 (by omega))) ?_
  refine o_ (v_mulU (b:=2) (wrU32 (by omega))) ?_
  refine o_ (v_remU (b:=100) (by decide)) ?_
  refine o_ (v_mulU (b:=2) (wrU32 (by omega))) ?_
  refine o_ (v_quoU (b:=100) (by decide) (wrU32 (by omega))) ?_
  refine o_ (v_mulU (b:=2) (wrU32 (by omega))) ?_
  refine o_ (v_remU (b:=100) (by decide)) ?_
  refine o_ (v_mulU (b:=2) (wrU32 (by omega))) ?_
  refine e_pair (u:=u) (n:=n) (k:=m) (by omega) (by omega) (by omega) hk h3 (by rw[<- hv];omega) ?_
  refine e_pair (u:=u) (n:=n) (k:=m-2) (by omega) (by omega) (by omega) (by omega) h3 (by rw[hs 2 (by omega)];omega) ?_
  refine e_pair (u:=u) (n:=n) (k:=m-2-2) (by omega) (by omega) (by omega) (by omega) h3 (by rw[show m-2-2=m-4 by omega,hs 4 (by omega)];omega) ?_
  refine e_pair (u:=u) (n:=n) (k:=m-2-2-2) (by omega) (by omega) (by omega) (by omega) h3 (by rw[show m-2-2-2=m-6 by omega,hs 6 (by omega)];omega) ?_
  refine sb_ ?_
  refine e_next2 (m-8) (by omega) (.ex (m-8) (.all ?_))
  refine nr_ ?_
  refine .pu ⟨rfl,by congr 1;omega,by rw[hs 8 h8],by omega⟩ ?_
  rw[show m-2-2-2-2=m-8 by omega]
  exact im_
 ·have h8:m<8:=by omega
  have hv8:v<100000000:=Nat.lt_of_lt_of_le hvk (Nat.pow_le_pow_right (by decide) (show m<=8 by omega))
  refine e_condF (o_ (u32conv (by omega)) ?_)
  refine e_cut2 (fun x y=>(ex fun k:Nat=>all [pu (x= .int .i64 (k:Int)/\y= .int .u32 ((u / 10^(n-k):Nat):Int)/\k<=n/\k<4/\u / 10^(n-k)<10^k),pt g (.cells (Dn (partW u n k f)) T (0,0))])::F) ?_ ?_
  rotate_left
  ·refine e_ask v_geq .nil (fun h=>?_) (fun h=>?_)
   ·have h4:4<=m:=by omega
    have hs:∀i,i<=m->u / 10^(n-(m-i))=v / 10^i:=fun i hi=>by rw[show n-(m-i)=(n-m)+i by omega,pow_s,<- hv]
    refine e_condT (o_ (v_remU (b:=10000) (by decide)) ?_)
    refine o_ (v_quoU (b:=10000) (by decide) (wrU32 (by omega))) ?_
    refine o_ (v_quoU (b:=100) (by decide) (wrU32 (by omega))) ?_
    refine o_ (v_mulU (b:=2) (wrU32 (by omega))) ?_
    refine o_ (v_remU (b:=100) (by decide)) ?_
    refine o_ (v_mulU (b:=2) (wrU32 (by omega))) ?_
    refine e_pair (u:=u) (n:=n) (k:=m) (by omega) (by omega) (by omega) hk h3 (by rw[<- hv];omega) ?_
    refine e_pair (u:=u) (n:=n) (k:=m-2) (by omega) (by omega) (by omega) (by omega) h3 (by rw[hs 2 (by omega)];omega) ?_
    refine sb_ ?_
    refine e_sat (.ex (m-4) (.all ?_))
    refine nr_ ?_
    rw[hs 4 h4]
    refine .pu ⟨by congr 1;omega,rfl,by omega,by omega,?_⟩ ?_
    ·rw[Nat.div_lt_iff_lt_mul (Nat.pow_pos (by decide)),<- Nat.pow_add,show m-4+4=m by omega];exact hvk
    rw[show m-2-2=m-4 by omega]
    exact im_
   ·refine e_condF (e_sat (.ex m (.all ?_)))
    refine nr_ ?_
    rw[<- hv]
    refine .pu ⟨rfl,rfl,hk,by omega,hvk⟩ ?_
    exact im_
  clear hvk hv8 hvu hv h8 hk
  clear v
  intro ds2 x y
  refine e_ex .here fun k=>e_all .here ?_
  refine nr_ ?_
  refine e_pu .here fun hi=>?_
  obtain⟨rfl,rfl,hk,hk4,hvk⟩:=hi
  obtain⟨v,hv⟩:∃v,v=u / 10^(n-k):=⟨_,rfl⟩
  rw[<- hv]at hvk ⊢
  have hv4:v<10000:=Nat.lt_of_lt_of_le hvk (Nat.pow_le_pow_right (by decide) (show k<=4 by omega))
  refine e_cut2 (fun x y=>(ex fun k:Nat=>all [pu (x= .int .i64 (k:Int)/\y= .int .u32 ((u / 10^(n-k):Nat):Int)/\k<=n/\k<2/\u / 10^(n-k)<10^k),pt g (.cells (Dn (partW u n k f)) T (0,0))])::F) ?_ ?_
  rotate_left
  ·refine e_ask v_geq .nil (fun h=>?_) (fun h=>?_)
   ·have h2:2<=k:=by omega
    have hs:∀i,i<=k->u / 10^(n-(k-i))=v / 10^i:=fun i hi=>by rw[show n-(k-i)=(n-k)+i by omega,pow_s,<- hv]
    refine e_condT (o_ (v_remU (b:=100) (by decide)) ?_)
    refine o_ (v_mulU (b:=2) (wrU32 (by omega))) ?_
    refine o_ (v_quoU (b:=100) (by decide) (wrU32 (by omega))) ?_
    refine e_pair (u:=u) (n:=n) (k:=k) (by omega) (by omega) (by omega) hk h3 (by rw[<- hv]) ?_
    refine sb_ ?_
    refine e_sat (.ex (k-2) (.all ?_))
    refine nr_ ?_
    rw[hs 2 h2]
    refine .pu ⟨by congr 1;omega,rfl,by omega,by omega,?_⟩ ?_
    ·rw[Nat.div_lt_iff_lt_mul (Nat.pow_pos (by decide)),<- Nat.pow_add,show k-2+2=k by omega];exact hvk
    exact im_
   ·refine e_condF (e_sat (.ex k (.all ?_)))
    refine nr_ ?_
    rw[<- hv]
    refine .pu ⟨rfl,rfl,hk,by omega,hvk⟩ ?_
    exact im_
  clear hvk hv4 hv hk hk4
  clear v k
  intro ds3 x y
  refine e_ex .here fun k=>e_all .here ?_
  refine nr_ ?_
  refine e_pu .here fun hi=>?_
  obtain⟨rfl,rfl,hk,hk2,hvk⟩:=hi
  refine e_ask v_gtr .nil (fun h=>?_) (fun h=>?_)
  ·obtain rfl:k=1:=by omega
   have hv1:u / 10^(n-1)<10:=by simpa using hvk
   refine e_condT (o_ (v_addU (a:=48) (wrU32 (by omega))) ?_)
   refine o_ (v_conv (q:= .u8)) ?_
   rw[wrU8 (by omega)]
   refine o_ (v_ia1 0 rfl (by omega)) ?_
   refine e_st .here (by rw[Dn_size];omega) ?_
   rw[Dn_set,Nat.add_zero,show 48+u / 10^(n-1)=48+u / 10^(n-1)%10 by rw[Nat.mod_eq_of_lt hv1],part_one (by omega) h1]
   refine rt_ () ?_
   exact im_
  ·obtain rfl:k=0:=by omega
   refine e_condF (rt_ () ?_)
   exact im_
def decW (u n:Nat):List UInt8:=(List.range n).map fun j=>UInt8.ofNat (48+u / 10^(n-1-j)%10)
def ndF (u:Nat):Nat:=((List.range 21).find? fun n=>decide (u<10^n)).getD 20
theorem ndF_of {u n:Nat}(h:IsNd u n):ndF u=n:=by
 obtain⟨h1,h2,h3,h4⟩:=h
 have:(List.range 21).find? (fun n=>decide (u<10^n))=some n:=by
  rw[List.find?_range_eq_some]
  refine⟨by simpa using h4,by simp;omega,fun j hj=>?_⟩
  have:10^j<=10^(n-1):=Nat.pow_le_pow_right (by decide) (by omega)
  simp;omega
 unfold ndF
 rw[this];rfl
def dig (i:Int):List UInt8:=
 if 0<=i/\i<100 then(if i<10 then [UInt8.ofNat (48+i.toNat)]else [UInt8.ofNat (48+i.toNat / 10),UInt8.ofNat (48+i.toNat%10)])
 else if i<0 then 45::decW i.natAbs (ndF i.natAbs)else decW i.natAbs (ndF i.natAbs)
theorem decW_len (u n:Nat):(decW u n).length=n:=by simp[decW]
theorem dig_len {i:Int}(h: -9223372036854775808<=i)(h2:i<=9223372036854775807):(dig i).length<=21:=by
 have hn:ndF i.natAbs<=20:=by
  unfold ndF
  cases hf:(List.range 21).find? fun n=>decide (i.natAbs<10^n)with
  |none=>exact Nat.le_refl _
  |some n=>
   have:=List.mem_range.1 (List.mem_of_find?_eq_some hf)
   simp only[Option.getD_some];omega
 unfold dig
 split
 ·split <;> simp
 ·split
  ·rw[List.length_cons,decW_len];omega
  ·rw[decW_len];omega
theorem rd_dig {W:World}{g u n:Nat}{f:Nat->Nat}{T:TypeId}(h3:n<=20):RdB W (pt g (.cells (Dn (partW u n 0 f)) T (0,0))) (some ⟨g,1,none⟩) n ((decW u n).map Sl.B):=by
 refine rd_off (by rw[List.length_map,decW_len]) fun j v hv=>?_
 have hj:j<n:=by
  rcases Nat.lt_or_ge j n with c|c
  ·exact c
  ·rw[List.getElem?_eq_none (by rw[List.length_map,decW_len];exact c)]at hv;cases hv
 rw[List.getElem?_map]at hv
 unfold decW at hv
 rw[List.getElem?_map,List.getElem?_range hj]at hv
 simp only[Option.map_some]at hv
 rw[B_nat (by omega)]at hv
 rw[Dn_get (by omega),<- hv]
 unfold partW
 rw[if_pos (by omega),show n-(1+j)=n-1-j by omega]
theorem both_ {G H:Prop}(k:G->H)(m:G):H:=k m
theorem small {W:World}{n:Nat}(h:n<100):Cn p_ 162 [.int .i64 (n:Int)] W [] (fun _:Unit=>txt (dig n)) (fun _=>[]):=by
 have hd:dig (n:Int)=if n<10 then [UInt8.ofNat (48+n)]else [UInt8.ofNat (48+n / 10),UInt8.ofNat (48+n%10)]:=by
  unfold dig
  rw[if_pos (by omega),Int.toNat_natCast]
  by_cases c:n<10
  ·rw[if_pos (by omega),if_pos c]
  ·rw[if_neg (by omega),if_neg c]
 (refine S.istrconv_small_s.cn fun F=>?_;unfold S.istrconv_small;simp only[ca_,na_])
 refine e_ask v_lss .nil (fun h=>?_) (fun h=>?_)
 ·have h10:n<10:=by omega
  rw[hd,if_pos h10]
  refine e_condT (ad_ ?_)
  refine o_ (v_ssb (l:=[48,49,50,51,52,53,54,55,56,57,97,98,99,100,101,102,103,104,105,106,107,108,109,110,111,112,113,114,115,116,117,118,119,120,121,122]) n (n+1) rfl (by omega) (by omega) (by simp;omega)) ?_
  have:∀n,n<10->((([48,49,50,51,52,53,54,55,56,57,97,98,99,100,101,102,103,104,105,106,107,108,109,110,111,112,113,114,115,116,117,118,119,120,121,122]:List UInt8).take (n+1)).drop n)=[UInt8.ofNat (48+n)]:=by decide+kernel
  rw[this n h10]
  refine rt_ () ?_
  exact .refl
 ·have h10:¬n<10:=by omega
  rw[hd,if_neg h10]
  refine e_condF (o_ (v_mul (by omega) (by omega)) ?_)
  refine o_ (v_mul (by omega) (by omega)) ?_
  refine ad_ ?_
  refine o_ (v_ssb (n * 2) (n * 2+2) (by omega) (by omega) (by omega) (by rw[lit0_len];omega)) ?_
  have:∀n,n<100->((S.lit0.take (n * 2+2)).drop (n * 2))=[UInt8.ofNat (48+n / 10),UInt8.ofNat (48+n%10)]:=by decide+kernel
  rw[this n (by omega)]
  refine rt_ () ?_
  exact .refl
theorem formatInt {W:World}[hG:Gp W]{i:Int}(h1: -9223372036854775808<=i)(h2:i<=9223372036854775807):Cn p_ 137 [.int .i64 i,.int .i64 10] W [] (fun _:Unit=>txt (dig i)) (fun _=>[]):=by
 (refine S.istrconv_FormatInt_s.cn fun F=>?_;unfold S.istrconv_FormatInt;simp only[ca_,na_])
 refine o_ v_eql ?_
 rw[dT_ rfl]
 refine e_condT ?_
 by_cases hs:0<=i/\i<100
 ·obtain⟨n,rfl⟩:=Int.eq_ofNat_of_zero_le hs.1
  refine o_ v_leq ?_
  rw[dT_ hs.1]
  refine e_gdT (e_gdT (o_ v_lss ?_))
  rw[dT_ hs.2]
  refine o_ v_pickT (e_condT (c_ (small (n:=n) (by omega)) fun _=>?_))
  refine rt_ () ?_
  exact .refl
 have hu:i.natAbs<18446744073709551616:=by omega
 have hu0:i.natAbs≠0:=by omega
 have d1:i<0->decide (0<=i)=false:=fun h=>dF_ (by omega)
 have d2:¬i<0->decide (0<=i)=true:=fun h=>dT_ (by omega)
 have d3:¬i<0->decide (i<100)=false:=fun h=>dF_ (by omega)
 refine' both_ ?_ ?_
 rotate_left
 ·intro main
  by_cases h0:i<0
  ·refine o_ v_leq ?_
   rw[d1 h0]
   exact e_gdF2 (e_gdF2 (o_ v_pickF main))
  ·refine o_ v_leq ?_
   rw[d2 h0]
   refine e_gdT (e_gdT (o_ v_lss ?_))
   rw[d3 h0]
   exact o_ v_pickT main
 refine e_condF (e_newA fun g=>?_)
 refine e_imp (M:=pt g (.cells (Dn fun _=>0) 215 (0,0))::F) .refl ?_
 refine o_ (v_conv (q:= .u64)) ?_
 refine e_cut1 (fun x=>pu (x= .int .u64 (i.natAbs:Int))::pt g (.cells (Dn fun _=>0) 215 (0,0))::F) ?_ ?_
 rotate_left
 ·refine e_ask v_lss .nil (fun h=>?_) (fun h=>?_)
  ·refine e_condT (o_ v_neg ?_)
   refine e_sat (.pu ?_ .refl)
   congr 1
   simp only[IntKind.wrap,IntKind.bits,IntKind.signed]
   simp;omega
  ·refine e_condF (e_sat (.pu ?_ .refl))
   congr 1
   simp only[IntKind.wrap,IntKind.bits,IntKind.signed]
   simp;omega
 intro ds x
 refine e_pu .here fun hx=>?_
 subst hx
 refine c_ (numDigits hu hu0) fun _=>?_
 rename_i n
 obtain⟨n,hn⟩:=n
 have hnd:=ndF_of hn
 obtain⟨n1,n2,n3,n4⟩:=hn
 (try dsimp only)
 refine ad_ ?_
 refine o_ (v_slAB (l:=1) (1+n) rfl (by norm_cast) (by omega) (by omega) (by omega)) ?_
 rw[Nat.one_mul,Nat.add_sub_cancel_left]
 refine c_ (format10 (f:=fun _=>0) n1 n2 n4 hu) fun _=>?_
 have hrd:=rd_dig (W:=W) (g:=g) (u:=i.natAbs) (n:=n) (f:=fun _=>0) (T:=215) n2
 have hdg:dig i=if i<0 then 45::decW i.natAbs n else decW i.natAbs n:=by
  unfold dig
  rw[if_neg hs,hnd]
 by_cases h0:i<0
 ·rw[if_pos h0]at hdg
  refine o_ v_lss ?_
  rw[dT_ h0]
  refine e_condT (o_ (v_iaA 0 rfl (by decide)) ?_)
  refine e_st .here (by rw[Dn_size];decide) ?_
  rw[show(Value.int .u8 45)= .int .u8 ((45:Nat):Int)from rfl,Dn_set]
  refine ad_ ?_
  refine o_ (v_slAh0 (1+n) (by norm_cast) (by omega) (by decide)) ?_
  have hr2:RdB W (pt g (.cells (Dn (updN (partW i.natAbs n 0 fun _=>0) (0+0 * 1) 45)) 215 (0,0))) (some ⟨g,0,none⟩) (1+n) ((dig i).map Sl.B):=by
   rw[hdg]
   refine rd_off (by rw[List.length_map,List.length_cons,decW_len];omega) fun j v hv=>?_
   cases j with
   |zero=>
    rw[<- hv,Dn_get (by omega)]
    rfl
   |succ j=>
    obtain⟨_,_,he,hc⟩:=hrd.at_ (by omega)
    have hj:j<n:=by
     rcases Nat.lt_or_ge j n with c|c
     ·exact c
     ·rw[List.getElem?_eq_none (by rw[List.length_map,List.length_cons,decW_len];omega)]at hv;cases hv
    rw[List.map_cons,List.getElem?_cons_succ,List.getElem?_map]at hv
    unfold decW at hv
    rw[List.getElem?_map,List.getElem?_range hj]at hv
    simp only[Option.map_some]at hv
    rw[B_nat (by omega)]at hv
    rw[Dn_get (by omega),<- hv]
    unfold updN partW
    rw[if_neg (by omega),if_pos (by omega),show n-(0+(j+1))=n-1-j by omega]
  refine p_op (v_str hr2 (fun c=>by cases c)) ?_
  refine rt_ () ?_
  exact im_
 ·rw[if_neg h0]at hdg
  refine o_ v_lss ?_
  rw[dF_ h0]
  refine e_condF (ad_ ?_)
  refine o_ (v_slAB (l:=1) (1+n) rfl (by norm_cast) (by omega) (by omega) (by omega)) ?_
  rw[Nat.one_mul,Nat.add_sub_cancel_left]
  rw[<- hdg]at hrd
  refine p_op (v_str hrd (fun c=>by cases c)) ?_
  refine rt_ () ?_
  exact im_
theorem digits {W:World}[hG:Gp W]{i:Int}(h1: -9223372036854775808<=i)(h2:i<=9223372036854775807):Cn p_ 50 [.int .i64 i] W [] (fun _:Unit=>txt (dig i)) (fun _=>[]):=by
 have a1:Cn p_ 114 [.int .i64 i] W [] (fun _:Unit=>txt (dig i)) (fun _=>[]):=by
  (refine S.istrconv_Itoa_s.cn fun F=>?_;unfold S.istrconv_Itoa;simp only[ca_,na_])
  refine c_ (formatInt h1 h2) fun _=>?_
  refine rt_ () ?_
  exact im_
 have a2:Cn p_ 91 [.int .i64 i] W [] (fun _:Unit=>txt (dig i)) (fun _=>[]):=by
  (refine S.strconv_Itoa_s.cn fun F=>?_;unfold S.strconv_Itoa;simp only[ca_,na_])
  refine c_ a1 fun _=>?_
  refine rt_ () ?_
  exact im_
 (refine S.ascii_Digits_s.cn fun F=>?_;unfold S.ascii_Digits;simp only[ca_,na_])
 refine c_ a2 fun _=>?_
 refine rt_ () ?_
 exact im_
theorem pFd_one {L:List Fd}:∀u∈L.flatMap pFd,u.oneCell'=true:=fun u hu=>by
 obtain⟨f,_,hf⟩:=List.mem_flatMap.1 hu
 simp[pFd]at hf
 rcases hf with rfl|rfl <;> rfl
theorem rdF_any {W:World}{a:Option Addr}{c:Nat}{l:List Fd}(h:0<l.length->∃g,a=some ⟨g,0,none⟩):RdF W (Sl 2 68 a c l.length (l.flatMap pFd)) a l:=rd_slG (flat_len (f:=pFd) (s:=2) (fun _=>rfl) l) h
theorem e_andS {W:World}{L:List HP}{A B:WP}(h1:Ent W L A)(h2:Ent W L B):Ent W L (andS A B):=fun w hw=>⟨h1 w hw,h2 w hw⟩
theorem joinF_len (sep:List UInt8):∀V:List (List UInt8),(joinF sep V).length<=zL V+sep.length * V.length
 |[]=>Nat.zero_le _
 |v::r=>by
  have h:=flat_sum sep r
  have h2:sumL r<=zL r:=by
   clear h
   induction r with
   |nil=>exact Nat.le_refl _
   |cons w r ih=>rw[zL_cons];unfold sumL;omega
  unfold joinF
  rw[List.length_append,h,zL_cons,List.length_cons,Nat.mul_add,Nat.mul_one]
  omega
end Go.Proofs.YthomhkpedghhgaaGreatDoor.FD
namespace Go.Proofs.YthomhkpedghhgaaGreatDoor.D
open Go Go.Proofs Go.RowKit Sh Sl T
def dE (n:Int):Int:=(n+719468)%146097
def dY (e:Int):Int:=(e-e / 1460+e / 36524-e / 146096) / 365
def dD (e:Int):Int:=e-(365 * dY e+dY e / 4-dY e / 100)
def dM (e:Int):Int:=(5 * dD e+2) / 153
def cM (n:Int):Int:=(dM (dE n)+2)%12+1
def cY (n:Int):Int:=(n+719468) / 146097 * 400+dY (dE n)+(if cM n<=2 then 1 else 0)
def cD (n:Int):Int:=dD (dE n)-(153 * dM (dE n)+2) / 5+1
theorem dE_b (n:Int):0<=dE n/\dE n<=146096:=by unfold dE;omega
theorem dY_b {e:Int}(h:0<=e/\e<=146096):0<=dY e/\dY e<=399:=by unfold dY;omega
theorem dY_at {c r:Int}(hc:0<=c/\c<=3)(hr:0<=r/\r<=36523):dY (36524 * c+r)=100 * c+(r-(24 * c+r) / 1460) / 365:=by
 unfold dY
 have e1:(36524 * c+r) / 1460=25 * c+(24 * c+r) / 1460:=by omega
 have e2:(36524 * c+r) / 36524=c:=by omega
 have e3:(36524 * c+r) / 146096=0:=by omega
 rw[e1,e2,e3]
 omega
theorem doy_b {c r q y z:Int}(hc:0<=c/\c<=3)(hr:0<=r/\r<=36523)(hq:1460 * q<=24 * c+r/\24 * c+r<1460 * q+1460)(hy:365 * y<=r-q/\r-q<365 * y+365)(hz:4 * z<=y/\y<4 * z+4):0<=r-365 * y-z/\r-365 * y-z<=365/\0<=y/\y<=99:=by omega
theorem cent {e:Int}(h:0<=e/\e<=146096):e=146096\/∃c r:Int,(0<=c/\c<=3)/\(0<=r/\r<=36523)/\e=36524 * c+r:=by
 by_cases he:e=146096
 ·exact .inl he
 ·exact .inr ⟨e / 36524,e%36524,by omega,by omega,by omega⟩
theorem dD_at {c r:Int}(hc:0<=c/\c<=3)(hr:0<=r/\r<=36523):∃q y z:Int,(1460 * q<=24 * c+r/\24 * c+r<1460 * q+1460)/\(365 * y<=r-q/\r-q<365 * y+365)/\(4 * z<=y/\y<4 * z+4)/\dY (36524 * c+r)=100 * c+y/\dD (36524 * c+r)=r-365 * y-z:=by
 refine⟨(24 * c+r) / 1460,(r-(24 * c+r) / 1460) / 365,(r-(24 * c+r) / 1460) / 365 / 4,by omega,by omega,by omega,dY_at hc hr,?_⟩
 have hb:=doy_b (q:=(24 * c+r) / 1460) (y:=(r-(24 * c+r) / 1460) / 365) (z:=(r-(24 * c+r) / 1460) / 365 / 4) hc hr (by omega) (by omega) (by omega)
 unfold dD
 rw[dY_at hc hr]
 generalize (r-(24 * c+r) / 1460) / 365=y at hb ⊢
 have g1:(100 * c+y) / 4=25 * c+y / 4:=by omega
 have g2:(100 * c+y) / 100=c:=by omega
 rw[g1,g2]
 omega
theorem dD_b {e:Int}(h:0<=e/\e<=146096):0<=dD e/\dD e<=365:=by
 rcases cent h with rfl|⟨c,r,hc,hr,rfl⟩
 ·decide
 ·obtain⟨q,y,z,h1,h2,h3,_,h5⟩:=dD_at hc hr
  have:=doy_b hc hr h1 h2 h3
  rw[h5];omega
theorem dM_b {e:Int}(h:0<=e/\e<=146096):0<=dM e/\dM e<=11:=by have:=dD_b h;unfold dM;omega
theorem civil {W:World}{n:Int}(h0:0<=n)(h1:n<=3000000):Cn p_ 181 [.int .i64 n] W [] (fun _:Unit=> .tuple #[.int .i64 (cY n),.int .i64 (cM n),.int .i64 (cD n)]) (fun _=>[]):=by
 (refine S.dates_civil_s.cn fun F=>?_;unfold S.dates_civil;simp only[ca_,na_])
 have hb:=dE_b n
 have y1:=dY_b hb
 have d1:=dD_b hb
 have m1:=dM_b hb
 refine ad_ ?_
 refine o_ (v_quo (by omega) (by omega) (by omega)) ?_
 refine o_ (v_rem (by omega) (by omega)) ?_
 rw[show(n+719468)%146097=dE n from rfl]
 obtain⟨e,he⟩:∃x,x=dE n:=⟨_,rfl⟩
 rw[<- he]at hb y1 d1 m1 ⊢
 refine o_ (v_quo (by omega) (by omega) (by omega)) ?_
 refine sb_ ?_
 refine o_ (v_quo (by omega) (by omega) (by omega)) ?_
 refine ad_ ?_
 refine o_ (v_quo (by omega) (by omega) (by omega)) ?_
 refine sb_ ?_
 refine o_ (v_quo (by omega) (by omega) (by omega)) ?_
 rw[show(e-e / 1460+e / 36524-e / 146096) / 365=dY e from rfl]
 have hd:dD e=e-(365 * dY e+dY e / 4-dY e / 100):=rfl
 have hm:dM e=(5 * dD e+2) / 153:=rfl
 have hcM:cM n=(dM e+2)%12+1:=by unfold cM;rw[he]
 have hcY:cY n=(n+719468) / 146097 * 400+dY e+(if cM n<=2 then 1 else 0):=by unfold cY;rw[he]
 have hcD:cD n=dD e-(153 * dM e+2) / 5+1:=by unfold cD;rw[he]
 generalize dY e=y at *
 generalize dD e=d at *
 generalize dM e=mp at *
 refine o_ (v_mul (by omega) (by omega)) ?_
 refine o_ (v_quo (by omega) (by omega) (by omega)) ?_
 refine ad_ ?_
 refine o_ (v_quo (by omega) (by omega) (by omega)) ?_
 refine sb_ ?_
 refine sb_ ?_
 rw[<- hd]
 refine o_ (v_mul (by omega) (by omega)) ?_
 refine ad_ ?_
 refine o_ (v_quo (by omega) (by omega) (by omega)) ?_
 rw[<- hm]
 (refine o_ (v_mul (by omega) (by omega)) ?_);refine ad_ ?_;refine ad_ ?_;(((refine o_ (v_rem ?h1 ?h2) ?_);(case h1=>omega);(case h2=>omega)));refine ad_ ?_;(refine o_ (v_mul (by omega) (by omega)) ?_);refine ad_ ?_;(((refine o_ (v_quo ?h1 ?h2 ?h3) ?_);(case h1=>omega);(case h2=>omega);(case h3=>omega)));refine sb_ ?_;refine ad_ ?_
 rw[<- hcM,<- hcD]
 refine e_cut1 (fun z=>pu (z= .int .i64 (cY n))::F) ?_ ?_
 rotate_left
 ·(refine e_ask v_leq .nil (fun h=>?_) (fun h=>?_))
  ·(refine e_condT ?_);refine ad_ ?_
   refine e_sat (.pu ?_ .refl)
   rw[hcY,if_pos h]
  ·(refine e_condF ?_)
   refine e_sat (.pu ?_ .refl)
   rw[hcY,if_neg h,Int.add_zero]
 intro ds z
 refine nr_ ?_
 refine e_pu .here fun h=>?_
 subst h
 refine rt_ () ?_
 exact im_
def adj (y m:Int):Int:=if m<=2 then y-1 else y
def dayN (y m d:Int):Int:=adj y m / 400 * 146097+adj y m%400 * 365+adj y m%400 / 4-adj y m%400 / 100+((153 * ((m+9)%12)+2) / 5+d-1)-719468
theorem days {W:World}{y m d:Int}(hy:1970<=y/\y<=9999)(hm:1<=m/\m<=12)(hd:1<=d/\d<=31):Cn p_ 183 [.int .i64 y,.int .i64 m,.int .i64 d] W [] (fun _:Unit=> .int .i64 (dayN y m d)) (fun _=>[]):=by
 (refine S.dates_days_s.cn fun F=>?_;unfold S.dates_days;simp only[ca_,na_])
 have ha:1969<=adj y m/\adj y m<=9999:=by unfold adj;split <;> omega
 refine e_cut1 (fun z=>pu (z= .int .i64 (adj y m))::F) ?_ ?_
 rotate_left
 ·(refine e_ask v_leq .nil (fun h=>?_) (fun h=>?_))
  ·(refine e_condT ?_);refine sb_ ?_
   refine e_sat (.pu ?_ .refl)
   unfold adj;rw[if_pos h]
  ·(refine e_condF ?_)
   refine e_sat (.pu ?_ .refl)
   unfold adj;rw[if_neg h]
 intro ds z
 refine nr_ ?_
 refine e_pu .here fun h=>?_
 subst h
 unfold dayN
 generalize adj y m=a at ha ⊢
 (((refine o_ (v_quo ?h1 ?h2 ?h3) ?_);(case h1=>omega);(case h2=>omega);(case h3=>omega)));(((refine o_ (v_rem ?h1 ?h2) ?_);(case h1=>omega);(case h2=>omega)));refine ad_ ?_;(((refine o_ (v_rem ?h1 ?h2) ?_);(case h1=>omega);(case h2=>omega)));(refine o_ (v_mul (by omega) (by omega)) ?_);refine ad_ ?_;(((refine o_ (v_quo ?h1 ?h2 ?h3) ?_);(case h1=>omega);(case h2=>omega);(case h3=>omega)));refine ad_ ?_;refine sb_ ?_;(refine o_ (v_mul (by omega) (by omega)) ?_);(refine o_ (v_mul (by omega) (by omega)) ?_);refine ad_ ?_;(((refine o_ (v_quo ?h1 ?h2 ?h3) ?_);(case h1=>omega);(case h2=>omega);(case h3=>omega)));refine ad_ ?_;(((refine o_ (v_quo ?h1 ?h2 ?h3) ?_);(case h1=>omega);(case h2=>omega);(case h3=>omega)));refine sb_ ?_;refine ad_ ?_;refine sb_ ?_
 refine rt_ () ?_
 exact im_
structure Dt where
 y:Int
 m:Int
 d:Int
 h:Int
 mi:Int
 s:Int
 w:Int
 deriving DecidableEq
def dtA (x:Dt):Array Value:=#[.int .i64 x.y,.int .i64 x.m,.int .i64 x.d,.int .i64 x.h,.int .i64 x.mi,.int .i64 x.s,.int .i64 x.w]
def dt0:Dt:=⟨0,0,0,0,0,0,0⟩
def okT (n:Int):Prop:=0<=n/\n<=253402300799
instance (n:Int):Decidable (okT n):=by unfold okT;infer_instance
def spD (n:Int):Dt:=if okT n then⟨cY (n / 86400),cM (n / 86400),cD (n / 86400),n%86400 / 3600,n%3600 / 60,n%60,(n / 86400+4)%7⟩else dt0
def spE (n:Int):Int:=if okT n then 0 else 11
theorem split {W:World}{n:Int}:Cn p_ 151 [.int .i64 n] W [] (fun _:Unit=> .tuple #[.agg (dtA (spD n)),.int .i64 (spE n)]) (fun _=>[]):=by
 have bad:¬okT n->spD n=dt0/\spE n=11:=fun h=>⟨if_neg h,if_neg h⟩
 (refine S.dates_Split_s.cn fun F=>?_;unfold S.dates_Split;simp only[ca_,na_])
 refine e_newA fun g=>?_
 refine e_ask v_lss .nil (fun h=>?_) (fun h=>?_)
 ·have hb:=bad (fun c=>by unfold okT at c;omega)
  rw[hb.1,hb.2]
  refine e_gdF1 (e_gdF1 (o_ v_pickT (e_condT (o_ v_rv ?_))));refine sg_ ?_;(((refine' e_stS (v_resA ?hn) ?hi ?_);(case hi=>exact im_);(case hn=>rfl)))
  refine rt_ () ?_
  exact im_
 ·(refine e_gdT ?_);refine e_gdT ?_
  refine e_ask v_gtr .nil (fun h=>?_) (fun h=>?_)
  ·have hb:=bad (fun c=>by unfold okT at c;omega)
   rw[hb.1,hb.2]
   refine o_ v_pickF (e_condT (o_ v_rv ?_));refine sg_ ?_;(((refine' e_stS (v_resA ?hn) ?hi ?_);(case hi=>exact im_);(case hn=>rfl)))
   refine rt_ () ?_
   exact im_
  ·have ok:okT n:=⟨by omega,by omega⟩
   rw[show spD n=⟨cY (n / 86400),cM (n / 86400),cD (n / 86400),n%86400 / 3600,n%3600 / 60,n%60,(n / 86400+4)%7⟩from if_pos ok,show spE n=0 from if_pos ok]
   refine o_ v_pickF (e_condF ?_);(((refine o_ (v_quo ?h1 ?h2 ?h3) ?_);(case h1=>omega);(case h2=>omega);(case h3=>omega)));refine ad_ ?_;(((refine o_ (v_rem ?h1 ?h2) ?_);(case h1=>omega);(case h2=>omega)));(((refine o_ (v_rem ?h1 ?h2) ?_);(case h1=>omega);(case h2=>omega)));(((refine o_ (v_quo ?h1 ?h2 ?h3) ?_);(case h1=>omega);(case h2=>omega);(case h3=>omega)));(((refine o_ (v_rem ?h1 ?h2) ?_);(case h1=>omega);(case h2=>omega)));(((refine o_ (v_quo ?h1 ?h2 ?h3) ?_);(case h1=>omega);(case h2=>omega);(case h3=>omega)));(((refine o_ (v_rem ?h1 ?h2) ?_);(case h1=>omega);(case h2=>omega)));refine o_ v_rv ?_;refine e_newA fun g=>?_;refine sg_ ?_;(((refine o_ (v_quo ?h1 ?h2 ?h3) ?_);(case h1=>omega);(case h2=>omega);(case h3=>omega)))
   refine c_ (civil (n:=n / 86400) (by omega) (by omega)) fun _=>?_
   refine xt_ ?_;refine xt_ ?_;refine xt_ ?_;refine o_ v_fa0 (sn_ ?_);refine o_ v_fa0 (sn_ ?_);refine o_ v_fa0 (sn_ ?_);refine lg_ ?_;refine sg_ ?_;(((refine' e_stS (v_resA ?hn) ?hi ?_);(case hi=>exact im_);(case hn=>rfl)))
   refine rt_ () ?_
   exact im_
theorem in_ {W:World}{n a b:Int}:Cn p_ 182 [.int .i64 n,.int .i64 a,.int .i64 b] W [] (fun _:Unit=> .bool (decide (a<=n/\n<=b))) (fun _=>[]):=by
 (refine S.dates_Join_1_s.cn fun F=>?_;unfold S.dates_Join_1;simp only[ca_,na_])
 refine e_ask v_geq .nil (fun h=>?_) (fun h=>?_)
 ·(refine e_gdT ?_);refine e_gdT ?_;refine e_gdT ?_
  refine e_ask v_leq .nil (fun h=>?_) (fun h=>?_)
  ·(refine o_ v_pickT ?_)
   rw[dT_ ⟨by omega,by omega⟩]
   refine rt_ () ?_
   exact im_
  ·(refine o_ v_pickT ?_)
   rw[dF_ (fun c=>by omega)]
   refine rt_ () ?_
   exact im_
 ·(refine e_gdF2 ?_);refine e_gdF2 ?_;refine e_gdF2 ?_;refine o_ v_pickF ?_
  rw[dF_ (fun c=>by omega)]
  refine rt_ () ?_
  exact im_
theorem dayN_b {y m d:Int}(hy:1970<=y/\y<=9999)(hm:1<=m/\m<=12)(hd:1<=d/\d<=31):0<=dayN y m d/\dayN y m d<=3000000:=by
 unfold dayN adj
 by_cases c:m<=2
 ·rw[if_pos c]
  have e:(m+9)%12=m+9:=by omega
  rw[e]
  obtain⟨a,ha⟩:∃a,a=y-1:=⟨_,rfl⟩
  rw[<- ha]
  have h1:4<=a / 400/\a / 400<=24:=by omega
  have h2:a / 400=4->369<=a%400:=by omega
  have h3:0<=a%400/\a%400<=399:=by omega
  generalize a / 400=q at *
  generalize a%400=t at *
  omega
 ·rw[if_neg c]
  have e:(m+9)%12=m-3:=by omega
  rw[e]
  have h1:4<=y / 400/\y / 400<=24:=by omega
  have h2:y / 400=4->370<=y%400:=by omega
  have h3:0<=y%400/\y%400<=399:=by omega
  generalize y / 400=q at *
  generalize y%400=t at *
  omega
def okF (x:Dt):Prop:=(1970<=x.y/\x.y<=9999)/\(1<=x.m/\x.m<=12)/\(1<=x.d/\x.d<=31)/\(0<=x.h/\x.h<=23)/\(0<=x.mi/\x.mi<=59)/\(0<=x.s/\x.s<=59)/\cM (dayN x.y x.m x.d)=x.m
instance (x:Dt):Decidable (okF x):=by unfold okF;infer_instance
def jN (x:Dt):Int:=if okF x then dayN x.y x.m x.d * 86400+x.h * 3600+x.mi * 60+x.s else 0
def jE (x:Dt):Int:=if okF x then 0 else 41
theorem join {W:World}{x:Dt}:Cn p_ 153 [.agg (dtA x)] W [] (fun _:Unit=> .tuple #[.int .i64 (jN x),.int .i64 (jE x)]) (fun _=>[]):=by
 have bad:¬okF x->jN x=0/\jE x=41:=fun h=>⟨if_neg h,if_neg h⟩
 (refine S.dates_Join_s.cn fun F=>?_;unfold S.dates_Join;simp only[ca_,na_])
 unfold dtA
 refine e_boxA fun g=>?_;refine o_ v_fa0 (ln_ ?_)
 refine c_ (in_ (n:=x.y) (a:=1970) (b:=9999)) fun _=>?_
 by_cases h0:1970<=x.y/\x.y<=9999
 rotate_left
 ·rw[dF_ h0]
  obtain⟨b1,b2⟩:=bad (fun c=>h0 (by unfold okF at c;exact c.1))
  rw[b1,b2]
  refine o_ v_notF (e_gdF1 (e_gdF1 (e_gdF1 (e_gdF1 (e_gdF1 (o_ v_pickT (e_gdF1 (e_gdF1 (e_gdF1 (e_gdF1 (e_gdF1 (o_ v_pickT (e_gdF1 (e_gdF1 (e_gdF1 (e_gdF1 (e_gdF1 (o_ v_pickT (e_gdF1 (e_gdF1 (e_gdF1 (e_gdF1 (e_gdF1 (o_ v_pickT (e_gdF1 (e_gdF1 (e_gdF1 (e_gdF1 (e_gdF1 (o_ v_pickT (e_condT (rt_ () ?_))))))))))))))))))))))))))))))))
  exact im_
 rw[dT_ h0]
 refine o_ v_notT (e_gdT (e_gdT (o_ v_fa0 (e_gdT (ln_ ?_)))));refine e_gdT (c_ (in_ (n:=x.m) (a:=1) (b:=12)) fun _=>?_)
 by_cases h1:1<=x.m/\x.m<=12
 rotate_left
 ·rw[dF_ h1]
  obtain⟨b1,b2⟩:=bad (fun c=>h1 (by unfold okF at c;exact c.2.1))
  rw[b1,b2]
  refine e_gdT (o_ v_notF (o_ v_pickF (e_gdF1 (e_gdF1 (e_gdF1 (e_gdF1 (e_gdF1 (o_ v_pickT (e_gdF1 (e_gdF1 (e_gdF1 (e_gdF1 (e_gdF1 (o_ v_pickT (e_gdF1 (e_gdF1 (e_gdF1 (e_gdF1 (e_gdF1 (o_ v_pickT (e_gdF1 (e_gdF1 (e_gdF1 (e_gdF1 (e_gdF1 (o_ v_pickT (e_condT (rt_ () ?_))))))))))))))))))))))))))))
  exact im_
 rw[dT_ h1]
 refine e_gdT (o_ v_notT (o_ v_pickF (e_gdT (e_gdT (o_ v_fa0 (e_gdT (ln_ ?_)))))));refine e_gdT (c_ (in_ (n:=x.d) (a:=1) (b:=31)) fun _=>?_)
 by_cases h2:1<=x.d/\x.d<=31
 rotate_left
 ·rw[dF_ h2]
  obtain⟨b1,b2⟩:=bad (fun c=>h2 (by unfold okF at c;exact c.2.2.1))
  rw[b1,b2]
  refine e_gdT (o_ v_notF (o_ v_pickF (e_gdF1 (e_gdF1 (e_gdF1 (e_gdF1 (e_gdF1 (o_ v_pickT (e_gdF1 (e_gdF1 (e_gdF1 (e_gdF1 (e_gdF1 (o_ v_pickT (e_gdF1 (e_gdF1 (e_gdF1 (e_gdF1 (e_gdF1 (o_ v_pickT (e_condT (rt_ () ?_))))))))))))))))))))))
  exact im_
 rw[dT_ h2]
 refine e_gdT (o_ v_notT (o_ v_pickF (e_gdT (e_gdT (o_ v_fa0 (e_gdT (ln_ ?_)))))));refine e_gdT (c_ (in_ (n:=x.h) (a:=0) (b:=23)) fun _=>?_)
 by_cases h3:0<=x.h/\x.h<=23
 rotate_left
 ·rw[dF_ h3]
  obtain⟨b1,b2⟩:=bad (fun c=>h3 (by unfold okF at c;exact c.2.2.2.1))
  rw[b1,b2]
  refine e_gdT (o_ v_notF (o_ v_pickF (e_gdF1 (e_gdF1 (e_gdF1 (e_gdF1 (e_gdF1 (o_ v_pickT (e_gdF1 (e_gdF1 (e_gdF1 (e_gdF1 (e_gdF1 (o_ v_pickT (e_condT (rt_ () ?_))))))))))))))))
  exact im_
 rw[dT_ h3]
 refine e_gdT (o_ v_notT (o_ v_pickF (e_gdT (e_gdT (o_ v_fa0 (e_gdT (ln_ ?_)))))));refine e_gdT (c_ (in_ (n:=x.mi) (a:=0) (b:=59)) fun _=>?_)
 by_cases h4:0<=x.mi/\x.mi<=59
 rotate_left
 ·rw[dF_ h4]
  obtain⟨b1,b2⟩:=bad (fun c=>h4 (by unfold okF at c;exact c.2.2.2.2.1))
  rw[b1,b2]
  refine e_gdT (o_ v_notF (o_ v_pickF (e_gdF1 (e_gdF1 (e_gdF1 (e_gdF1 (e_gdF1 (o_ v_pickT (e_condT (rt_ () ?_))))))))))
  exact im_
 rw[dT_ h4]
 refine e_gdT (o_ v_notT (o_ v_pickF (e_gdT (e_gdT (o_ v_fa0 (e_gdT (ln_ ?_)))))));refine e_gdT (c_ (in_ (n:=x.s) (a:=0) (b:=59)) fun _=>?_)
 by_cases h5:0<=x.s/\x.s<=59
 rotate_left
 ·rw[dF_ h5]
  obtain⟨b1,b2⟩:=bad (fun c=>h5 (by unfold okF at c;exact c.2.2.2.2.2.1))
  rw[b1,b2]
  refine e_gdT (o_ v_notF (o_ v_pickF (e_condT (rt_ () ?_))))
  exact im_
 rw[dT_ h5]
 refine e_gdT (o_ v_notT (o_ v_pickF (e_condF (o_ v_fa0 (ln_ ?_)))));refine o_ v_fa0 (ln_ ?_);refine o_ v_fa0 (ln_ ?_)
 have hb:=dayN_b h0 h1 h2
 refine c_ (days h0 h1 h2) fun _=>?_
 refine c_ (civil (n:=dayN x.y x.m x.d) (by omega) (by omega)) fun _=>?_
 refine xt_ ?_;refine xt_ ?_;refine xt_ ?_;refine o_ v_fa0 (ln_ ?_)
 by_cases h6:cM (dayN x.y x.m x.d)=x.m
 rotate_left
 ·refine o_ v_neq ?_
  rw[dT_ h6]
  obtain⟨b1,b2⟩:=bad (fun c=>h6 (by unfold okF at c;exact c.2.2.2.2.2.2))
  rw[b1,b2]
  refine e_condT (rt_ () ?_)
  exact im_
 refine o_ v_neq ?_
 rw[dF_ (fun c=>c h6)]
 have ok:okF x:=⟨h0,h1,h2,h3,h4,h5,h6⟩
 rw[show jN x=dayN x.y x.m x.d * 86400+x.h * 3600+x.mi * 60+x.s from if_pos ok,show jE x=0 from if_pos ok]
 refine e_condF ?_;(refine o_ (v_mul (by omega) (by omega)) ?_);refine o_ v_fa0 (ln_ ?_);(refine o_ (v_mul (by omega) (by omega)) ?_);refine ad_ ?_;refine o_ v_fa0 (ln_ ?_);(refine o_ (v_mul (by omega) (by omega)) ?_);refine ad_ ?_;refine o_ v_fa0 (ln_ ?_);refine ad_ ?_
 refine rt_ () ?_
 exact im_
def gV (f:Nat->UInt8)(n:Nat):List Value:=(List.range n).map fun j=>Sl.B (f j)
theorem gV_len (f:Nat->UInt8)(n:Nat):(gV f n).length=n:=by simp[gV]
theorem gV_get {f:Nat->UInt8}{n k:Nat}(h:k<n):(gV f n)[k]? =some (Sl.B (f k)):=by simp[gV,h]
theorem gV_set {f:Nat->UInt8}{n k:Nat}{c:UInt8}:(gV f n).set k (Sl.B c)=gV (fun q=>if q=k then c else f q) n:=by
 apply List.ext_getElem?
 intro j
 rw[List.getElem?_set,gV_len]
 by_cases hj:j<n
 ·rw[gV_get hj,gV_get hj]
  by_cases c:k=j
  ·subst c;rw[if_pos rfl,if_pos hj,if_pos rfl]
  ·rw[if_neg c,if_neg (fun e=>c e.symm)]
 ·rw[List.getElem?_eq_none (by rw[gV_len];omega),List.getElem?_eq_none (by rw[gV_len];omega)]
  split
  ·split
   ·omega
   ·rfl
  ·rfl
def dgAt (n size:Nat)(fill:UInt8)(j:Nat):UInt8:=if n / 10^(size-1-j)=0/\j<size-1 then fill else UInt8.ofNat (48+n / 10^(size-1-j)%10)
def dg (n size:Nat)(fill:UInt8):List UInt8:=(List.range size).map (dgAt n size fill)
theorem dg_len (n size:Nat)(fill:UInt8):(dg n size fill).length=size:=by simp[dg]
theorem u8_of (n:Nat)(h:n<256):(UInt8.ofNat n).toNat=n:=by rw[UInt8.toNat_ofNat'];exact Nat.mod_eq_of_lt h
theorem digits {W:World}{n size:Nat}{fill:UInt8}(hn:n<=9223372036854775807)(hs:1<=size/\size<=16):Cn p_ 185 [.int .i64 (n:Int),.int .i64 (size:Int),Sl.B fill] W [] (fun _:Unit=>txt (dg n size fill)) (fun _=>[]):=by
 (refine S.dates_digits_s.cn fun F=>?_;unfold S.dates_digits;simp only[ca_,na_])
 refine e_mksl size size rfl rfl (by omega) (by omega) (by unfold maxLen;omega) fun g=>?_
 have e0:List.replicate size (Value.int .u8 0)=gV (fun _=>0) size:=by
  apply List.ext_getElem?
  intro j
  by_cases hj:j<size
  ·rw[gV_get hj];simp[hj,Sl.B]
  ·rw[List.getElem?_eq_none (by simp;omega),List.getElem?_eq_none (by rw[gV_len];omega)]
 rw[e0]
 refine sb_ ?_
 refine e_loop2 (fun m y0 y8=>[ex fun st:Nat × (Nat->UInt8)=>all [pu (m+st.1=size/\y0= .int .i64 ((n / 10^st.1:Nat):Int)/\y8= .int .i64 ((size:Int)-1-st.1)/\∀j,j<size->size<=j+st.1->st.2 j=dgAt n size fill j),Sl 1 5 (some ⟨g,0,none⟩) size size (gV st.2 size)]]++F) size ?_ ?_
 ·refine .ex (0,fun _=>0) (.all ?_)
  refine nr_ ?_
  refine .pu ⟨by omega,by simp,by simp,fun j h1 h2=>by omega⟩ ?_
  exact im_
 intro m ds y0 y8
 refine nr_ ?_
 refine e_ex Pick.here fun st=>e_all Pick.here ?_
 obtain⟨k,f⟩:=st
 refine nr_ ?_
 refine e_pu Pick.here fun hi=>?_
 (try dsimp only at hi)
 obtain⟨hmk,rfl,rfl,hf⟩:=hi
 (try dsimp only)
 refine e_ask v_geq .nil (fun h=>?_) (fun h=>?_)
 ·obtain⟨i,hik⟩:∃i:Nat,i=size-1-k:=⟨_,rfl⟩
  have hi:(size:Int)-1-(k:Int)=(i:Int):=by omega
  have hdg:dgAt n size fill i=if n / 10^k=0/\i<size-1 then fill else UInt8.ofNat (48+n / 10^k%10):=by unfold dgAt;rw[show size-1-i=k by omega]
  have hq:n / 10^k<=n:=Nat.div_le_self _ _
  have hsu:n / 10^(k+1)=n / 10^k / 10:=by rw[Nat.pow_succ,Nat.div_div_eq_div_mul]
  rw[hi]
  generalize n / 10^k=q at hdg hq hsu ⊢
  refine e_condT ?_;(((refine o_ (v_rem ?h1 ?h2) ?_);(case h1=>omega);(case h2=>omega)));refine ad_ ?_
  rw[show(48:Int)+(q:Int)%10=((48+q%10:Nat):Int) by omega]
  refine o_ v_conv ?_
  rw[show IntKind.u8.wrap ((48+q%10:Nat):Int)=((48+q%10:Nat):Int) by simp only[IntKind.wrap,IntKind.bits,IntKind.signed];simp;omega,show Value.int .u8 ((48+q%10:Nat):Int)=Sl.B (UInt8.ofNat (48+q%10)) by unfold Sl.B;rw[u8_of _ (by omega)]]
  refine o_ (v_ia1 i (by rfl) (by omega)) ?_
  refine e_stSl (by repeat constructor) (by rw[gV_len];omega) ?_
  rw[Nat.zero_add,gV_set]
  refine e_cut0 ([Sl 1 5 (some ⟨g,0,none⟩) size size (gV (fun x=>if x=i then dgAt n size fill i else f x) size)]++F) ?_ ?_
  rotate_left
  ·refine e_ask v_eql .nil (fun hq0=>?_) (fun hq0=>?_)
   ·(refine e_gdT ?_);refine e_gdT ?_;refine e_gdT ?_;refine sb_ ?_;refine e_gdT ?_
    refine e_ask v_lss .nil (fun hi0=>?_) (fun hi0=>?_)
    ·(refine o_ v_pickT ?_);refine e_condT ?_
     refine o_ (v_ia1 i (by rfl) (by omega)) ?_
     refine e_stSl (by repeat constructor) (by rw[gV_len];omega) ?_
     rw[Nat.zero_add,gV_set]
     have e2:(fun x=>if x=i then fill else(fun y=>if y=i then UInt8.ofNat (48+q%10)else f y) x)=fun x=>if x=i then dgAt n size fill i else f x:=funext fun x=>by
      have hd1:dgAt n size fill i=fill:=by rw[hdg];exact if_pos ⟨by omega,by omega⟩
      rw[hd1]
      by_cases c:x=i
      ·rw[if_pos c,if_pos c]
      ·simp only[if_neg c]
     rw[e2]
     refine e_sat ?_
     exact im_
    ·(refine o_ v_pickT ?_);refine e_condF ?_
     have e2:(fun x=>if x=i then UInt8.ofNat (48+q%10)else f x)=fun x=>if x=i then dgAt n size fill i else f x:=funext fun x=>by
      have hd1:dgAt n size fill i=UInt8.ofNat (48+q%10):=by rw[hdg];exact if_neg (fun c=>hi0 (by omega))
      rw[hd1]
     rw[e2]
     refine e_sat ?_
     exact im_
   ·(refine e_gdF2 ?_);refine e_gdF2 ?_;refine e_gdF2 ?_;refine e_gdF2 ?_;refine o_ v_pickF ?_;refine e_condF ?_
    have e2:(fun x=>if x=i then UInt8.ofNat (48+q%10)else f x)=fun x=>if x=i then dgAt n size fill i else f x:=funext fun x=>by
     have hd1:dgAt n size fill i=UInt8.ofNat (48+q%10):=by rw[hdg];exact if_neg (fun c=>hq0 (by omega))
     rw[hd1]
    rw[e2]
    refine e_sat ?_
    exact im_
  intro ds2
  refine nr_ ?_
  (((refine o_ (v_quo ?h1 ?h2 ?h3) ?_);(case h1=>omega);(case h2=>omega);(case h3=>omega)));refine sb_ ?_
  refine e_next2 (m-1) (by omega) (.ex (k+1,fun x=>if x=i then dgAt n size fill i else f x) (.all ?_))
  refine nr_ ?_
  refine .pu ⟨by omega,?_,?_,fun j h1 h2=>?_⟩ ?_
  ·rw[hsu];simp
  ·congr 1;push_cast;omega
  ·by_cases c:j=i
   ·rw[if_pos c,c]
   ·simp only[if_neg c];exact hf j h1 (by omega)
  ·exact im_
 ·refine e_condF ?_
  have hk:k=size:=by omega
  have e3:gV f size=(dg n size fill).map Sl.B:=by
   unfold gV dg
   rw[List.map_map]
   refine List.map_congr_left fun j hj=>?_
   have:=List.mem_range.1 hj
   show Sl.B (f j)=Sl.B (dgAt n size fill j)
   rw[hf j (by omega) (by omega)]
  rw[e3]
  refine p_op (v_str (l:=dg n size fill) (n:=size) (rd_sl (by rw[List.length_map,dg_len]) (fun _=>⟨g,rfl⟩)) (fun c=>by cases c)) ?_
  refine rt_ () ?_
  exact im_
def wdL:List (List UInt8):=[[83,117,110,100,97,121],[77,111,110,100,97,121],[84,117,101,115,100,97,121],[87,101,100,110,101,115,100,97,121],[84,104,117,114,115,100,97,121],[70,114,105,100,97,121],[83,97,116,117,114,100,97,121]]
def moL:List (List UInt8):=[[74,97,110],[70,101,98],[77,97,114],[65,112,114],[77,97,121],[74,117,110],[74,117,108],[65,117,103],[83,101,112],[79,99,116],[78,111,118],[68,101,99]]
theorem weekdays {W:World}:Cn p_ 184 [] W [] (fun _:Unit=> .agg (wdL.map txt).toArray) (fun _=>[]):=by
 (refine S.dates_weekdays_s.cn fun F=>?_;unfold S.dates_weekdays;simp only[ca_,na_])
 refine e_newA fun g=>?_;refine o_ v_rv ?_;refine sg_ ?_;(((refine' e_stS (v_resA ?hn) ?hi ?_);(case hi=>exact im_);(case hn=>rfl)))
 refine rt_ () ?_
 exact im_
theorem months {W:World}:Cn p_ 180 [] W [] (fun _:Unit=> .agg (moL.map txt).toArray) (fun _=>[]):=by
 (refine S.dates_months_s.cn fun F=>?_;unfold S.dates_months;simp only[ca_,na_])
 refine e_newA fun g=>?_;refine o_ v_rv ?_;refine sg_ ?_;(((refine' e_stS (v_resA ?hn) ?hi ?_);(case hi=>exact im_);(case hn=>rfl)))
 refine rt_ () ?_
 exact im_
theorem dig {W:World}{n z c:Int}{fill:UInt8}(size:Nat)(hn:0<=n/\n<=9223372036854775807)(hz:z=(size:Int))(hs:1<=size/\size<=16)(hc:c=(fill.toNat:Int)):Cn p_ 185 [.int .i64 n,.int .i64 z,.int .u8 c] W [] (fun _:Unit=>txt (dg n.toNat size fill)) (fun _=>[]):=by
 obtain⟨k,rfl⟩:=Int.eq_ofNat_of_zero_le hn.1
 subst hz;subst hc
 exact digits (by omega) hs
def clk (x:Dt):List UInt8:=dg x.h.toNat 2 48++[58]++dg x.mi.toNat 2 48++[58]++dg x.s.toNat 2 48
theorem clk_len (x:Dt):(clk x).length=8:=by simp[clk,dg_len]
structure okX (x:Dt):Prop where
 y:0<=x.y/\x.y<=9999
 m:1<=x.m/\x.m<=12
 d:1<=x.d/\x.d<=31
 h:0<=x.h/\x.h<=23
 mi:0<=x.mi/\x.mi<=59
 s:0<=x.s/\x.s<=59
 w:0<=x.w/\x.w<=6
theorem clock {W:World}{x:Dt}(ok:okX x):Cn p_ 186 [.agg (dtA x)] W [] (fun _:Unit=>txt (clk x)) (fun _=>[]):=by
 obtain⟨o1,o2,o3,o4,o5,o6,o7⟩:=ok
 (refine S.dates_Date_clock_s.cn fun F=>?_;unfold S.dates_Date_clock;simp only[ca_,na_])
 unfold dtA
 refine e_boxA fun g=>?_;refine e_drS (t_ v_fa0 (ls_ ?_));refine e_stD v_fa0 .nil ?_;(((refine' e_stD (v_ldN ?hc) ?hi ?_);(case hi=>exact .pick (by repeat constructor) .nil);(case hc=>repeat constructor)));refine e_stD v_fa0 .nil ?_;(((refine' e_stD (v_ldN ?hc) ?hi ?_);(case hi=>exact .pick (by repeat constructor) .nil);(case hc=>repeat constructor)))
 refine c_ (dig (n:=x.h) (fill:=48) 2 (by omega) (by rfl) (by omega) (by rfl)) fun _=>?_
 refine ob_ ?_;refine ob_ ?_;refine ob_ ?_;refine ob_ ?_
 refine e_stD (v_cat (by simp only[List.length_append,List.length_take,dg_len,clk_len,List.length_cons,List.length_nil];omega)) .nil ?_
 refine c_ (dig (n:=x.mi) (fill:=48) 2 (by omega) (by rfl) (by omega) (by rfl)) fun _=>?_
 refine ob_ ?_;refine ob_ ?_;refine ob_ ?_
 refine e_stD (v_cat (by simp only[List.length_append,List.length_take,dg_len,clk_len,List.length_cons,List.length_nil];omega)) .nil ?_
 refine e_stD (v_cat (by simp only[List.length_append,List.length_take,dg_len,clk_len,List.length_cons,List.length_nil];omega)) .nil ?_
 refine c_ (dig (n:=x.s) (fill:=48) 2 (by omega) (by rfl) (by omega) (by rfl)) fun _=>?_
 refine ob_ ?_;refine ob_ ?_;refine ob_ ?_
 refine t_ (v_cat (by simp only[List.length_append,List.length_take,dg_len,clk_len,List.length_cons,List.length_nil];omega)) ?_
 refine rt_ () ?_
 exact im_
def wdN (x:Dt):List UInt8:=wdL.getD x.w.toNat []
def moN (x:Dt):List UInt8:=moL.getD (x.m-1).toNat []
theorem name_get {l:List (List UInt8)}{i:Nat}(h:i<l.length):(l.map txt).toArray[i]? =some (txt (l.getD i [])):=by
 simp[List.getD_eq_getElem?_getD,h]
def fm (k:Int)(x:Dt):List UInt8:=
 if k=0 then(wdN x).take 3++[44,32]++dg x.d.toNat 2 48++[32]++moN x++[32]++dg x.y.toNat 4 48++[32]++clk x++[32,71,77,84]
 else if k=1 then wdN x++[44,32]++dg x.d.toNat 2 48++[45]++moN x++[45]++dg (x.y%100).toNat 2 48++[32]++clk x++[32,71,77,84]
 else(wdN x).take 3++[32]++moN x++[32]++dg x.d.toNat 2 32++[32]++clk x++[32]++dg x.y.toNat 4 48
theorem nm_len {l:List (List UInt8)}(h:∀a∈l,3<=a.length/\a.length<=9){i:Nat}(hi:i<l.length):3<=(l.getD i []).length/\(l.getD i []).length<=9:=by
 rw[List.getD_eq_getElem?_getD,List.getElem?_eq_getElem hi]
 exact h _ (List.getElem_mem hi)
theorem form {W:World}{x:Dt}{k:Int}(ok:okX x):Cn p_ 154 [.agg (dtA x),.int .i64 k] W [] (fun _:Unit=>txt (fm k x)) (fun _=>[]):=by
 have okx:=ok
 obtain⟨o1,o2,o3,o4,o5,o6,o7⟩:=ok
 have hwl:3<=(wdN x).length/\(wdN x).length<=9:=nm_len (l:=wdL) (by decide) (by show _<7;omega)
 have hml:3<=(moN x).length/\(moN x).length<=9:=nm_len (l:=moL) (by decide) (by show _<12;omega)
 (refine S.dates_Date_form_s.cn fun F=>?_;unfold S.dates_Date_form;simp only[ca_,na_])
 rw[show(Value.agg (dtA x))= .agg #[.int .i64 x.y,.int .i64 x.m,.int .i64 x.d,.int .i64 x.h,.int .i64 x.mi,.int .i64 x.s,.int .i64 x.w]from rfl]
 refine e_boxA fun g=>?_;refine e_drS (e_stD v_fa0 .nil ?_);(((refine' e_stD (v_ldN ?hc) ?hi ?_);(case hi=>exact .pick (by repeat constructor) .nil);(case hc=>repeat constructor)));refine e_stD v_fa0 .nil ?_;(((refine' e_stD (v_ldN ?hc) ?hi ?_);(case hi=>exact .pick (by repeat constructor) .nil);(case hc=>repeat constructor)));(refine e_stD (v_sub (by omega) (by omega)) .nil ?_)
 refine c_ weekdays fun _=>?_
 refine ob_ ?_;refine ob_ ?_;refine ob_ ?_;refine ob_ ?_;refine ob_ ?_
 refine e_stD (v_ixA (v:=txt (wdN x)) x.w.toNat (by omega) (by omega) (name_get (l:=wdL) (by show _<7;omega))) .nil ?_
 refine c_ months fun _=>?_
 refine ob_ ?_;refine ob_ ?_;refine ob_ ?_;refine ob_ ?_;refine ob_ ?_;refine ob_ ?_
 refine t_ (v_ixA (v:=txt (moN x)) (x.m-1).toNat (by omega) (by omega) (name_get (l:=moL) (by show _<12;omega))) ?_
 refine e_ask v_eql .nil (fun hk=>?_) (fun hk=>?_)
 ·unfold fm
  rw[if_pos hk]
  generalize wdN x=wn at hwl ⊢
  generalize moN x=mn at hml ⊢
  refine e_condT (e_drS (e_stD (v_ssh 3 (by rfl) (by omega)) .nil ?_))
  refine e_stD (v_cat (by simp only[List.length_append,List.length_take,dg_len,clk_len,List.length_cons,List.length_nil];omega)) .nil ?_
  refine t_ v_fa0 (ls_ ?_);refine e_stD v_fa0 .nil ?_;(((refine' e_stD (v_ldN ?hc) ?hi ?_);(case hi=>exact .pick (by repeat constructor) .nil);(case hc=>repeat constructor)));(((refine' e_stD (v_ldAgg ?hn) ?hi ?_);(case hi=>exact .pick (by repeat constructor) .nil);(case hn=>rfl)))
  refine c_ (dig (n:=x.d) (fill:=48) 2 (by omega) (by rfl) (by omega) (by rfl)) fun _=>?_
  refine ob_ ?_;refine ob_ ?_;refine ob_ ?_;refine ob_ ?_;refine ob_ ?_
  refine e_stD (v_cat (by simp only[List.length_append,List.length_take,dg_len,clk_len,List.length_cons,List.length_nil];omega)) .nil ?_
  refine e_stD (v_cat (by simp only[List.length_append,List.length_take,dg_len,clk_len,List.length_cons,List.length_nil];omega)) .nil ?_
  refine e_stD (v_cat (by simp only[List.length_append,List.length_take,dg_len,clk_len,List.length_cons,List.length_nil];omega)) .nil ?_
  refine e_stD (v_cat (by simp only[List.length_append,List.length_take,dg_len,clk_len,List.length_cons,List.length_nil];omega)) .nil ?_
  refine c_ (dig (n:=x.y) (fill:=48) 4 (by omega) (by rfl) (by omega) (by rfl)) fun _=>?_
  refine ob_ ?_;refine ob_ ?_;refine ob_ ?_;refine ob_ ?_;refine ob_ ?_;refine ob_ ?_;refine ob_ ?_
  refine e_stD (v_cat (by simp only[List.length_append,List.length_take,dg_len,clk_len,List.length_cons,List.length_nil];omega)) .nil ?_
  refine e_stD (v_cat (by simp only[List.length_append,List.length_take,dg_len,clk_len,List.length_cons,List.length_nil];omega)) .nil ?_
  refine c_ (clock okx) fun _=>?_
  refine ob_ ?_;refine ob_ ?_;refine ob_ ?_;refine ob_ ?_;refine ob_ ?_;refine ob_ ?_;refine ob_ ?_;refine ob_ ?_
  refine t_ (v_cat (by simp only[List.length_append,List.length_take,dg_len,clk_len,List.length_cons,List.length_nil];omega)) ?_
  refine t_ (v_cat (by simp only[List.length_append,List.length_take,dg_len,clk_len,List.length_cons,List.length_nil];omega)) ?_
  refine rt_ () ?_
  exact im_
 refine e_condF (e_ask v_eql .nil (fun hk1=>?_) (fun hk1=>?_))
 ·unfold fm
  rw[if_neg hk,if_pos hk1]
  generalize wdN x=wn at hwl ⊢
  generalize moN x=mn at hml ⊢
  refine e_condT (e_drS (e_stD (v_cat (by simp only[List.length_append,List.length_take,dg_len,clk_len,List.length_cons,List.length_nil];omega)) .nil ?_))
  refine t_ v_fa0 (ls_ ?_);refine e_stD v_fa0 .nil ?_;(((refine' e_stD (v_ldN ?hc) ?hi ?_);(case hi=>exact .pick (by repeat constructor) .nil);(case hc=>repeat constructor)));(((refine e_stD (v_rem ?h1 ?h2) .nil ?_);(case h1=>omega);(case h2=>omega)));(((refine' e_stD (v_ldAgg ?hn) ?hi ?_);(case hi=>exact .pick (by repeat constructor) .nil);(case hn=>rfl)))
  refine c_ (dig (n:=x.d) (fill:=48) 2 (by omega) (by rfl) (by omega) (by rfl)) fun _=>?_
  refine ob_ ?_;refine ob_ ?_;refine ob_ ?_;refine ob_ ?_;refine ob_ ?_
  refine e_stD (v_cat (by simp only[List.length_append,List.length_take,dg_len,clk_len,List.length_cons,List.length_nil];omega)) .nil ?_
  refine e_stD (v_cat (by simp only[List.length_append,List.length_take,dg_len,clk_len,List.length_cons,List.length_nil];omega)) .nil ?_
  refine e_stD (v_cat (by simp only[List.length_append,List.length_take,dg_len,clk_len,List.length_cons,List.length_nil];omega)) .nil ?_
  refine e_stD (v_cat (by simp only[List.length_append,List.length_take,dg_len,clk_len,List.length_cons,List.length_nil];omega)) .nil ?_
  refine c_ (dig (n:=x.y%100) (fill:=48) 2 (by omega) (by rfl) (by omega) (by rfl)) fun _=>?_
  refine ob_ ?_;refine ob_ ?_;refine ob_ ?_;refine ob_ ?_;refine ob_ ?_;refine ob_ ?_
  refine e_stD (v_cat (by simp only[List.length_append,List.length_take,dg_len,clk_len,List.length_cons,List.length_nil];omega)) .nil ?_
  refine e_stD (v_cat (by simp only[List.length_append,List.length_take,dg_len,clk_len,List.length_cons,List.length_nil];omega)) .nil ?_
  refine c_ (clock okx) fun _=>?_
  refine ob_ ?_;refine ob_ ?_;refine ob_ ?_;refine ob_ ?_;refine ob_ ?_;refine ob_ ?_;refine ob_ ?_
  refine t_ (v_cat (by simp only[List.length_append,List.length_take,dg_len,clk_len,List.length_cons,List.length_nil];omega)) ?_
  refine t_ (v_cat (by simp only[List.length_append,List.length_take,dg_len,clk_len,List.length_cons,List.length_nil];omega)) ?_
  refine rt_ () ?_
  exact im_
 ·unfold fm
  rw[if_neg hk,if_neg hk1]
  generalize wdN x=wn at hwl ⊢
  generalize moN x=mn at hml ⊢
  refine e_condF (e_drS (e_stD (v_ssh 3 (by rfl) (by omega)) .nil ?_))
  refine e_stD (v_cat (by simp only[List.length_append,List.length_take,dg_len,clk_len,List.length_cons,List.length_nil];omega)) .nil ?_
  refine e_stD (v_cat (by simp only[List.length_append,List.length_take,dg_len,clk_len,List.length_cons,List.length_nil];omega)) .nil ?_
  refine e_stD (v_cat (by simp only[List.length_append,List.length_take,dg_len,clk_len,List.length_cons,List.length_nil];omega)) .nil ?_
  refine t_ v_fa0 (ls_ ?_);(((refine' e_stD (v_ldAgg ?hn) ?hi ?_);(case hi=>exact .pick (by repeat constructor) .nil);(case hn=>rfl)));refine e_stD v_fa0 .nil ?_;(((refine' e_stD (v_ldN ?hc) ?hi ?_);(case hi=>exact .pick (by repeat constructor) .nil);(case hc=>repeat constructor)))
  refine c_ (dig (n:=x.d) (fill:=32) 2 (by omega) (by rfl) (by omega) (by rfl)) fun _=>?_
  refine ob_ ?_;refine ob_ ?_;refine ob_ ?_;refine ob_ ?_;refine ob_ ?_;refine ob_ ?_;refine ob_ ?_
  refine e_stD (v_cat (by simp only[List.length_append,List.length_take,dg_len,clk_len,List.length_cons,List.length_nil];omega)) .nil ?_
  refine e_stD (v_cat (by simp only[List.length_append,List.length_take,dg_len,clk_len,List.length_cons,List.length_nil];omega)) .nil ?_
  refine c_ (clock okx) fun _=>?_
  refine ob_ ?_;refine ob_ ?_;refine ob_ ?_;refine ob_ ?_;refine ob_ ?_;refine ob_ ?_;refine ob_ ?_;refine ob_ ?_
  refine e_stD (v_cat (by simp only[List.length_append,List.length_take,dg_len,clk_len,List.length_cons,List.length_nil];omega)) .nil ?_
  refine e_stD (v_cat (by simp only[List.length_append,List.length_take,dg_len,clk_len,List.length_cons,List.length_nil];omega)) .nil ?_
  refine c_ (dig (n:=x.y) (fill:=48) 4 (by omega) (by rfl) (by omega) (by rfl)) fun _=>?_
  refine ob_ ?_;refine ob_ ?_;refine ob_ ?_;refine ob_ ?_;refine ob_ ?_;refine ob_ ?_;refine ob_ ?_;refine ob_ ?_
  refine t_ (v_cat (by simp only[List.length_append,List.length_take,dg_len,clk_len,List.length_cons,List.length_nil];omega)) ?_
  refine rt_ () ?_
  exact im_
theorem cM_b (n:Int):1<=cM n/\cM n<=12:=by unfold cM;omega
theorem cD_b (n:Int):1<=cD n/\cD n<=31:=by
 have h:=dD_b (dE_b n)
 unfold cD dM
 generalize dD (dE n)=d at h ⊢
 omega
theorem cY_b {n:Int}(h:0<=n/\n<=2932896):0<=cY n/\cY n<=9999:=by
 have he:=dE_b n
 have hy:=dY_b he
 unfold cY
 have hq:4<=(n+719468) / 146097/\(n+719468) / 146097<=24:=by omega
 have h24:(n+719468) / 146097=24->dE n<=146036:=by unfold dE;omega
 by_cases c:(n+719468) / 146097=24
 ·have h5:=h24 c
  by_cases c2:dY (dE n)=399
  ·have hd:dD (dE n)<=305:=by unfold dD;rw[c2];omega
   have hd0:=(dD_b he).1
   have hm:¬cM n<=2:=by
    unfold cM dM
    generalize dD (dE n)=d at hd hd0 ⊢
    have q1:(5 * d+2) / 153<=9:=by omega
    have q2:0<=(5 * d+2) / 153:=by omega
    rw[Int.emod_eq_of_lt (by omega) (by omega)]
    omega
   rw[if_neg hm];omega
  ·split <;> omega
 ·split <;> omega
theorem ok_sp {n:Int}(h:okT n):okX (spD n):=by
 unfold okT at h
 have hN:0<=n / 86400/\n / 86400<=2932896:=by omega
 rw[show spD n=⟨cY (n / 86400),cM (n / 86400),cD (n / 86400),n%86400 / 3600,n%3600 / 60,n%60,(n / 86400+4)%7⟩from if_pos h]
 exact⟨cY_b hN,cM_b _,cD_b _,by simp only;omega,by simp only;omega,by simp only;omega,by simp only;omega⟩
abbrev Sm {α:Type}(m:Option α):={x:α // m=some x}
abbrev Nn {α:Type}(m:Option α):={_u:Unit // m=none}
def pnD:List PanicEntry:=pe (.iface 24 (.int .i64 41))
def IsRd (p:Nat)(l:List UInt8):HP:=pt p (.cells #[txt l] 207)
def tkR (k:Nat)(l:List UInt8):Option (List UInt8 × List UInt8):=if k<=l.length then some (l.take k,l.drop k)else none
theorem take {W:World}{p k:Nat}{l:List UInt8}:CnP p_ 147 [.pointer (some ⟨p,0,none⟩),.int .i64 (k:Int)] W [IsRd p l]
  (fun x:Sm (tkR k l)=>txt x.1.1) (fun x=>[IsRd p x.1.2]) (fun _:Nn (tkR k l)=>pnD) (fun _=>[]):=by
 (refine S.dates_reader_take_s.cnP fun F=>?_;unfold S.dates_reader_take;simp only[ca_,na_,-eq_self])
 refine e_cut0 (pu (k<=l.length)::IsRd p l::F) ?_ ?_
 rotate_left
 ·unfold IsRd
  refine o_ v_nil (o_ v_fa0 (ln_ ?_))
  refine o_ v_lent (e_ask v_gtr .nil (fun h=>?_) (fun h=>?_))
  ·(refine e_condT ?_)
   refine o_ v_mkI (e_panic ?_)
   refine e_pan ⟨(),?_⟩ rfl ?_
   ·unfold tkR;rw[if_neg (by omega)]
   ·exact im_
  ·(refine e_condF ?_)
   refine e_sat (.pu (by omega) ?_)
   exact im_
 intro ds
 refine nr_ ?_
 refine e_pu .here fun hk=>?_
 unfold IsRd
 refine o_ v_nil (o_ v_fa0 (ln_ ?_))
 refine o_ (v_ssh k (by rfl) hk) ?_
 refine o_ v_nil (o_ v_fa0 (ln_ ?_))
 refine o_ (v_ssl k (by rfl) hk) ?_
 refine o_ v_nil (o_ v_fa0 (sn_ ?_))
 refine rt_ (⟨(l.take k,l.drop k),by unfold tkR;rw[if_pos hk]⟩) ?_
 exact im_
def fix0:List UInt8->List UInt8
 |[]=>[]
 |c::r=>(if c=32 then 48 else c)::r
def numF (acc:Nat):List UInt8->Option Nat
 |[]=>some acc
 |c::r=>if c.toNat<48\/57<c.toNat then none else numF (10 * acc+(c.toNat-48)) r
def numV (w:List UInt8):Option Nat:=numF 0 (fix0 w)
def numR (k:Nat)(l:List UInt8):Option (Nat × List UInt8):=match tkR k l with
 |none=>none
 |some x=>match numV x.1 with
  |none=>none
  |some v=>some (v,x.2)
theorem fix0_len (w:List UInt8):(fix0 w).length=w.length:=by cases w <;> rfl
theorem fix0_get (w:List UInt8)(i:Nat)(h:i<w.length):(fix0 w)[i]'(by rw[fix0_len];exact h)=if w[i]=32/\i=0 then 48 else w[i]:=by
 cases w with
 |nil=>simp at h
 |cons c r=>
  cases i with
  |zero=>simp[fix0]
  |succ i=>simp[fix0]
theorem tk_len {k:Nat}{l:List UInt8}{x:List UInt8 × List UInt8}(h:tkR k l=some x):x.1.length=k:=by
 unfold tkR at h
 split at h
 ·injection h with h;subst h;simp;omega
 ·cases h
theorem number {W:World}{p k:Nat}{l:List UInt8}(hk:k<=8):CnP p_ 148 [.pointer (some ⟨p,0,none⟩),.int .i64 (k:Int)] W [IsRd p l]
  (fun x:Sm (numR k l)=> .int .i64 (x.1.1:Int)) (fun x=>[IsRd p x.1.2]) (fun _:Nn (numR k l)=>pnD) (fun _=>[]):=by
 (refine S.dates_reader_number_s.cnP fun F=>?_;unfold S.dates_reader_number;simp only[ca_,na_,-eq_self])
 (refine' e_callP (take (k:=k)) ?hp (fun _=>?_) (fun _=>?_);(case hp=>(repeat(first|exact Picks.nil|(apply Picks.cons;(focus repeat constructor)))));(all_goals (try simp only[ca_,na_,Bool.not_true,Bool.not_false,-eq_self])))
 rotate_left
 ·rename_i y
  refine e_pan ⟨(),by unfold numR;rw[y.2]⟩ rfl ?_
  exact im_
 rename_i x
 obtain⟨⟨w,r⟩,hx⟩:=x
 have hwl:w.length=k:=tk_len hx
 (try dsimp only)
 refine e_sbytes (e:=5) (by kernel_rfl) (by kernel_rfl) fun g c rest fz=>?_
 refine o_ v_len (e_loop2 (fun m y5 y13=>(ex fun st:Nat × Nat=>pu (m+st.2=k/\y5= .int .i64 (st.1:Int)/\y13= .int .i64 (st.2:Int)/\st.1<10^st.2/\numF st.1 ((fix0 w).drop st.2)=numV w))::pt g (.cells (w.map Sl.B++rest).toArray 5 fz)::IsRd p r::F) k ?_ ?_)
 ·refine .ex (0,0) (.pu ⟨by omega,rfl,rfl,by simp,by simp[numV]⟩ ?_)
  exact im_
 intro m ds y5 y13
 refine nr_ ?_
 refine e_ex Pick.here fun st=>e_pu Pick.here fun hi=>?_
 obtain⟨acc,i⟩:=st
 (try dsimp only at hi)
 obtain⟨hmk,rfl,rfl,hacc,hnum⟩:=hi
 have hp8:10^i<=10^8:=Nat.pow_le_pow_right (by omega) (by omega)
 refine e_ask v_lss .nil (fun h=>?_) (fun h=>?_)
 ·have hil:i<w.length:=by omega
  have hil2:i<(fix0 w).length:=by rw[fix0_len];exact hil
  refine e_condT (o_ (v_ia1 i (by rfl) (by omega)) ?_)
  refine p_op (v_ldRd (j:=i) rd_row (B_get hil)) ?_
  have hfg:=fix0_get w i hil
  refine e_cut1 (fun z=>pu (z=Sl.B ((fix0 w)[i]))::pt g (.cells (w.map Sl.B++rest).toArray 5 fz)::IsRd p r::F) ?_ ?_
  rotate_left
  ·unfold Sl.B
   refine e_ask v_eql .nil (fun h5=>?_) (fun h5=>?_)
   ·have hc:w[i]=32:=by
     apply UInt8.toNat_inj.1
     exact Int.ofNat.inj h5
    refine e_gdT (e_gdT (e_ask v_eql .nil (fun h6=>?_) (fun h6=>?_)))
    ·(refine o_ v_pickT ?_);refine e_condT ?_
     refine e_sat (.pu ?_ ?_)
     ·rw[hfg,if_pos ⟨hc,by omega⟩];rfl
     ·exact im_
    ·(refine o_ v_pickT ?_);refine e_condF ?_
     refine e_sat (.pu ?_ ?_)
     ·rw[hfg,if_neg (fun c=>h6 (by omega))]
     ·exact im_
   ·have hc:¬w[i]=32:=fun c=>h5 (by rw[c];rfl)
    refine e_gdF2 (e_gdF2 (o_ v_pickF (e_condF (e_sat (.pu ?_ ?_)))))
    ·rw[hfg,if_neg (fun c=>hc c.1)]
    ·exact im_
  intro ds2 z
  refine nr_ ?_
  refine e_pu .here fun h=>?_
  subst h
  rw[List.drop_eq_getElem_cons hil2]at hnum
  generalize (fix0 w)[i]=ch at hnum ⊢
  have hch:=ch.toNat_lt
  unfold numF at hnum
  unfold Sl.B
  refine e_cut0 (pu (48<=ch.toNat/\ch.toNat<=57)::pt g (.cells (w.map (fun c=>Value.int .u8 (c.toNat:Int))++rest).toArray 5 fz)::IsRd p r::F) ?_ ?_
  rotate_left
  ·refine e_ask v_lss .nil (fun h5=>?_) (fun h5=>?_)
   ·(refine e_gdF1 ?_);refine e_gdF1 ?_;refine o_ v_pickT ?_;refine e_condT ?_
    refine o_ v_mkI (e_panic ?_)
    refine e_pan ⟨(),?_⟩ rfl ?_
    ·rw[if_pos (.inl (by omega))]at hnum
     unfold numR;rw[hx];simp only;rw[<- hnum]
    ·exact im_
   ·(refine e_gdT ?_);refine e_gdT ?_
    refine e_ask v_gtr .nil (fun h6=>?_) (fun h6=>?_)
    ·(refine o_ v_pickF ?_);refine e_condT ?_
     refine o_ v_mkI (e_panic ?_)
     refine e_pan ⟨(),?_⟩ rfl ?_
     ·rw[if_pos (.inr (by omega))]at hnum
      unfold numR;rw[hx];simp only;rw[<- hnum]
     ·exact im_
    ·(refine o_ v_pickF ?_);refine e_condF ?_
     refine e_sat (.pu (by omega) ?_)
     exact im_
  intro ds3
  refine nr_ ?_
  refine e_pu .here fun hr=>?_
  rw[if_neg (by omega)]at hnum
  have hacc2:acc<100000000:=by omega
  (refine o_ (v_mul (by omega) (by omega)) ?_)
  refine o_ v_subw ?_
  rw[show(ch.toNat:Int)-48=((ch.toNat-48:Nat):Int) by omega,show IntKind.u8.wrap ((ch.toNat-48:Nat):Int)=((ch.toNat-48:Nat):Int) by simp only[IntKind.wrap,IntKind.bits,IntKind.signed];simp;omega]
  refine o_ v_conv ?_
  rw[w64 (by omega) (by omega)]
  refine ad_ ?_;refine ad_ ?_
  refine e_next2 (m-1) (by omega) (.ex (10 * acc+(ch.toNat-48),i+1) (.pu ⟨by omega,?_,?_,?_,?_⟩ ?_))
  ·congr 1
  ·congr 1
  ·simp only[Nat.pow_succ];omega
  ·exact hnum
  ·exact im_
 ·refine e_condF ?_
  have hik:i=k:=by omega
  have hv:numV w=some acc:=by
   rw[<- hnum,List.drop_of_length_le (by rw[fix0_len];omega)];rfl
  refine rt_ (⟨(acc,r),by unfold numR;rw[hx];simp only;rw[hv]⟩) ?_
  exact im_
def mF (w:List UInt8)(i:Nat):Nat->Option Int
 |0=>none
 |m+1=>if moL.getD i []=w then some ((i:Int)+1)else mF w (i+1) m
def monV (w:List UInt8):Option Int:=mF w 0 12
def monR (l:List UInt8):Option (Int × List UInt8):=match tkR 3 l with
 |none=>none
 |some x=>match monV x.1 with
  |none=>none
  |some v=>some (v,x.2)
theorem month {W:World}{p:Nat}{l:List UInt8}:CnP p_ 149 [.pointer (some ⟨p,0,none⟩)] W [IsRd p l]
  (fun x:Sm (monR l)=> .int .i64 x.1.1) (fun x=>[IsRd p x.1.2]) (fun _:Nn (monR l)=>pnD) (fun _=>[]):=by
 (refine S.dates_reader_month_s.cnP fun F=>?_;unfold S.dates_reader_month;simp only[ca_,na_,-eq_self])
 (refine' e_callP (take (k:=3)) ?hp (fun _=>?_) (fun _=>?_);(case hp=>(repeat(first|exact Picks.nil|(apply Picks.cons;(focus repeat constructor)))));(all_goals (try simp only[ca_,na_,Bool.not_true,Bool.not_false,-eq_self])))
 rotate_left
 ·rename_i y
  refine e_pan ⟨(),by unfold monR;rw[y.2]⟩ rfl ?_
  exact im_
 rename_i x
 obtain⟨⟨w,r⟩,hx⟩:=x
 (try dsimp only)
 refine c_ months fun _=>?_
 refine e_loop2 (fun m y2 y9=>(ex fun i:Nat=>pu (m+i=12/\y2= .int .i64 0/\y9= .int .i64 (i:Int)/\mF w i m=monV w))::IsRd p r::F) 12 ?_ ?_
 ·refine .ex 0 (.pu ⟨by omega,rfl,rfl,rfl⟩ ?_)
  exact im_
 intro m ds y2 y9
 refine nr_ ?_
 refine e_ex Pick.here fun i=>e_pu Pick.here fun hi=>?_
 obtain⟨hmi,rfl,rfl,hmon⟩:=hi
 refine e_ask v_lss .nil (fun h=>?_) (fun h=>?_)
 ·refine e_condT ?_
  obtain⟨m',rfl⟩:∃m',m=m'+1:=⟨m-1,by omega⟩
  refine o_ (v_ixA (v:=txt (moL.getD i [])) i (by rfl) (by omega) (name_get (l:=moL) (by show _<12;omega))) ?_
  unfold mF at hmon
  refine e_ask v_streq .nil (fun hq=>?_) (fun hq=>?_)
  ·rw[if_pos hq]at hmon
   refine e_condT (ad_ ?_)
   refine rt_ (⟨((i:Int)+1,r),by unfold monR;rw[hx];simp only;rw[<- hmon]⟩) ?_
   exact im_
  ·rw[if_neg hq]at hmon
   refine e_condF (ad_ ?_)
   refine e_next2 m' (by omega) (.ex (i+1) (.pu ⟨by omega,rfl,rfl,hmon⟩ ?_))
   exact im_
 ·refine e_condF ?_
  have hm0:m=0:=by omega
  subst hm0
  refine o_ v_mkI (e_panic ?_)
  refine e_pan ⟨(),?_⟩ rfl ?_
  ·unfold monR;rw[hx];simp only;rw[<- hmon];rfl
  ·exact im_
theorem firstIdx_eq {l:List UInt8}{c:UInt8}(h:c∈l):firstIdx ⟨l.toArray⟩ c=((l.findIdx (· ==c):Nat):Int):=by
 have hlt:l.findIdx (· ==c)<l.length:=List.findIdx_lt_length_of_exists ⟨c,h,by simp⟩
 have hf:(List.range (⟨l.toArray⟩:ByteArray).size).find? (fun i=>(⟨l.toArray⟩:ByteArray)[i]! ==c)=some (l.findIdx (· ==c)):=by
  have e:∀i,i<l.length->((⟨l.toArray⟩:ByteArray)[i]! ==c)=(l.getD i 0==c):=fun i hi=>by
   have h2:i<(⟨l.toArray⟩:ByteArray).size:=hi
   rw[getElem!_pos _ i h2]
   simp[ByteArray.getElem_eq_getElem_data,List.getD_eq_getElem?_getD,hi]
  rw[List.find?_eq_some_iff_getElem]
  refine⟨?_,l.findIdx (· ==c),by simpa [ByteArray.size]using hlt,by simp,fun j hj=>?_⟩
  ·rw[e _ hlt]
   have:=List.findIdx_getElem (w:=hlt)
   simpa [List.getD_eq_getElem?_getD,hlt]using this
  ·have hjl:j<l.length:=by omega
   simp only[List.getElem_range]
   rw[e _ hjl]
   have:=List.not_of_lt_findIdx hj
   simpa [List.getD_eq_getElem?_getD,hjl]using this
 unfold firstIdx
 rw[hf]
theorem indexByte {W:World}{l:List UInt8}{c:UInt8}(h:c∈l):Cn p_ 123 [txt l,Sl.B c] W [] (fun _:Unit=> .int .i64 ((l.findIdx (· ==c):Nat):Int)) (fun _=>[]):=by
 have ext:RunV p_ W [] (sCall (fn 172) [txt l,Sl.B c]) (.int .i64 ((l.findIdx (· ==c):Nat):Int)):=fun w _=>by
  have hr:(callFunc 172 #[txt l,Sl.B c]).run p_ w= .ok (.value (.int .i64 ((l.findIdx (· ==c):Nat):Int))) w:=by
   rw[run_callFunc_extern Tryz.func172 (by kernel_rfl) (by kernel_rfl) (by kernel_rfl) (e:=Extern.BytealgIndexByte.indexByte) (by kernel_rfl)]
   have:=run_indexByte_string (P:=p_) ⟨l.toArray⟩ (c.toNat:Int) w
   unfold txt Sl.B
   rw[this]
   have hc:((c.toNat:Int).toNat).toUInt8=c:=by simp
   simp only[Result.andThen_ok]
   rw[show(↑c.toNat:Int).toNat.toUInt8=c from hc,firstIdx_eq h]
  simp[sCall,Deferred.ofValue,invoke,fn,hr]
 have inner:Cn p_ 145 [txt l,Sl.B c] W [] (fun _:Unit=> .int .i64 ((l.findIdx (· ==c):Nat):Int)) (fun _=>[]):=by
  (refine S.stringslite_IndexByte_s.cn fun F=>?_;unfold S.stringslite_IndexByte;simp only[ca_,na_])
  refine o_ ext ?_
  refine rt_ () ?_
  exact im_
 (refine S.strings_IndexByte_s.cn fun F=>?_;unfold S.strings_IndexByte;simp only[ca_,na_])
 refine c_ inner fun _=>?_
 refine rt_ () ?_
 exact im_
theorem numF_lt:∀(w:List UInt8) (acc v:Nat),numF acc w=some v->v<(acc+1) * 10^w.length
 |[],acc,v,h=>by
  have:=Option.some.inj h
  simp;omega
 |c::r,acc,v,h=>by
  unfold numF at h
  split at h
  ·cases h
  ·have hc:=numF_lt r _ v h
   have h9:(10 * acc+(c.toNat-48)+1)<=(acc+1) * 10:=by omega
   have:=Nat.mul_le_mul_right (10^r.length) h9
   rw[List.length_cons,Nat.pow_succ,Nat.mul_comm (10^r.length) 10,<- Nat.mul_assoc]
   omega
theorem num_lt {k:Nat}{l:List UInt8}{x:Nat × List UInt8}(h:numR k l=some x):x.1<10^k:=by
 unfold numR at h
 cases ht:tkR k l with
 |none=>rw[ht]at h;cases h
 |some y=>
  rw[ht]at h
  simp only at h
  cases hv:numV y.1 with
  |none=>rw[hv]at h;cases h
  |some v=>
   rw[hv]at h
   have:=Option.some.inj h
   subst this
   have:=numF_lt _ _ _ hv
   rw[fix0_len,tk_len ht]at this
   simpa using this
abbrev Tm:=Nat × Nat × Nat
def clkR (l:List UInt8):Option (Tm × List UInt8):=
 (numR 2 l).bind fun a=>(tkR 1 a.2).bind fun b=>(numR 2 b.2).bind fun c=>(tkR 1 c.2).bind fun d=>(numR 2 d.2).bind fun e=>some ((a.1,c.1,e.1),e.2)
theorem rclock {W:World}{p q:Nat}{l:List UInt8}{y m d h mi s w:Value}:CnP p_ 150 [.pointer (some ⟨p,0,none⟩),.pointer (some ⟨q,0,none⟩)] W [IsRd p l,pt q (.cells #[y,m,d,h,mi,s,w] 203)]
  (fun x:Sm (clkR l)=> .tuple #[]) (fun x=>[IsRd p x.1.2,pt q (.cells #[y,m,d,.int .i64 (x.1.1.1:Int),.int .i64 (x.1.1.2.1:Int),.int .i64 (x.1.1.2.2:Int),w] 203)]) (fun _:Nn (clkR l)=>pnD) (fun _=>[]):=by
 (refine S.dates_reader_clock_s.cnP fun F=>?_;unfold S.dates_reader_clock;simp only[ca_,na_,-eq_self])
 (refine' e_callP (number (k:=2) (by omega)) ?hp (fun _=>?_) (fun _=>?_);(case hp=>(repeat(first|exact Picks.nil|(apply Picks.cons;(focus repeat constructor)))));(all_goals (try simp only[ca_,na_,Bool.not_true,Bool.not_false,-eq_self])))
 rotate_left
 ·rename_i y
  refine e_pan ⟨(),by simp[clkR,y.2]⟩ rfl ?_
  exact im_
 rename_i x1
 obtain⟨x1,h1⟩:=x1
 refine o_ v_nil (o_ v_fa0 (sn_ ?_))
 (refine' e_callP (take (k:=1)) ?hp (fun _=>?_) (fun _=>?_);(case hp=>(repeat(first|exact Picks.nil|(apply Picks.cons;(focus repeat constructor)))));(all_goals (try simp only[ca_,na_,Bool.not_true,Bool.not_false,-eq_self])))
 rotate_left
 ·rename_i y
  refine e_pan ⟨(),by simp[clkR,h1,y.2]⟩ rfl ?_
  exact im_
 rename_i x2
 obtain⟨x2,h2⟩:=x2
 (refine' e_callP (number (k:=2) (by omega)) ?hp (fun _=>?_) (fun _=>?_);(case hp=>(repeat(first|exact Picks.nil|(apply Picks.cons;(focus repeat constructor)))));(all_goals (try simp only[ca_,na_,Bool.not_true,Bool.not_false,-eq_self])))
 rotate_left
 ·rename_i y
  refine e_pan ⟨(),by simp[clkR,h1,h2,y.2]⟩ rfl ?_
  exact im_
 rename_i x3
 obtain⟨x3,h3⟩:=x3
 refine o_ v_nil (o_ v_fa0 (sn_ ?_))
 (refine' e_callP (take (k:=1)) ?hp (fun _=>?_) (fun _=>?_);(case hp=>(repeat(first|exact Picks.nil|(apply Picks.cons;(focus repeat constructor)))));(all_goals (try simp only[ca_,na_,Bool.not_true,Bool.not_false,-eq_self])))
 rotate_left
 ·rename_i y
  refine e_pan ⟨(),by simp[clkR,h1,h2,h3,y.2]⟩ rfl ?_
  exact im_
 rename_i x4
 obtain⟨x4,h4⟩:=x4
 (refine' e_callP (number (k:=2) (by omega)) ?hp (fun _=>?_) (fun _=>?_);(case hp=>(repeat(first|exact Picks.nil|(apply Picks.cons;(focus repeat constructor)))));(all_goals (try simp only[ca_,na_,Bool.not_true,Bool.not_false,-eq_self])))
 rotate_left
 ·rename_i y
  refine e_pan ⟨(),by simp[clkR,h1,h2,h3,h4,y.2]⟩ rfl ?_
  exact im_
 rename_i x5
 obtain⟨x5,h5⟩:=x5
 refine o_ v_nil (o_ v_fa0 (sn_ ?_))
 refine rt_ (⟨((x1.1,x3.1,x5.1),x5.2),by simp[clkR,h1,h2,h3,h4,h5]⟩) ?_
 exact im_
def firstR (l:List UInt8):Option Dt:=(tkR 5 l).bind fun a=>(numR 2 a.2).bind fun b=>(tkR 1 b.2).bind fun c=>(monR c.2).bind fun d=>(tkR 1 d.2).bind fun e=>(numR 4 e.2).bind fun f=>(tkR 1 f.2).bind fun g=>(clkR g.2).bind fun h=>some ⟨(f.1:Int),d.1,(b.1:Int),(h.1.1:Int),(h.1.2.1:Int),(h.1.2.2:Int),0⟩
theorem first {W:World}{p:Nat}{l:List UInt8}{now:Int}:CnP p_ 125 [.pointer (some ⟨p,0,none⟩),.int .i64 now] W [IsRd p l]
  (fun x:Sm (firstR l)=> .agg (dtA x.1)) (fun _=>[]) (fun _:Nn (firstR l)=>pnD) (fun _=>[]):=by
 (refine S.dates_reader_first_s.cnP fun F=>?_;unfold S.dates_reader_first;simp only[ca_,na_,-eq_self])
 refine e_newA fun g=>?_
 (refine' e_callP (take (k:=5)) ?hp (fun _=>?_) (fun _=>?_);(case hp=>(repeat(first|exact Picks.nil|(apply Picks.cons;(focus repeat constructor)))));(all_goals (try simp only[ca_,na_,Bool.not_true,Bool.not_false,-eq_self])))
 rotate_left
 ·rename_i y
  refine e_pan ⟨(),by simp[firstR,y.2]⟩ rfl ?_
  exact im_
 rename_i x1
 obtain⟨x1,h1⟩:=x1
 (refine' e_callP (number (k:=2) (by omega)) ?hp (fun _=>?_) (fun _=>?_);(case hp=>(repeat(first|exact Picks.nil|(apply Picks.cons;(focus repeat constructor)))));(all_goals (try simp only[ca_,na_,Bool.not_true,Bool.not_false,-eq_self])))
 rotate_left
 ·rename_i y
  refine e_pan ⟨(),by simp[firstR,h1,y.2]⟩ rfl ?_
  exact im_
 rename_i x2
 obtain⟨x2,h2⟩:=x2
 refine o_ v_fa0 (sn_ ?_)
 (refine' e_callP (take (k:=1)) ?hp (fun _=>?_) (fun _=>?_);(case hp=>(repeat(first|exact Picks.nil|(apply Picks.cons;(focus repeat constructor)))));(all_goals (try simp only[ca_,na_,Bool.not_true,Bool.not_false,-eq_self])))
 rotate_left
 ·rename_i y
  refine e_pan ⟨(),by simp[firstR,h1,h2,y.2]⟩ rfl ?_
  exact im_
 rename_i x3
 obtain⟨x3,h3⟩:=x3
 (refine' e_callP (month) ?hp (fun _=>?_) (fun _=>?_);(case hp=>(repeat(first|exact Picks.nil|(apply Picks.cons;(focus repeat constructor)))));(all_goals (try simp only[ca_,na_,Bool.not_true,Bool.not_false,-eq_self])))
 rotate_left
 ·rename_i y
  refine e_pan ⟨(),by simp[firstR,h1,h2,h3,y.2]⟩ rfl ?_
  exact im_
 rename_i x4
 obtain⟨x4,h4⟩:=x4
 refine o_ v_fa0 (sn_ ?_)
 (refine' e_callP (take (k:=1)) ?hp (fun _=>?_) (fun _=>?_);(case hp=>(repeat(first|exact Picks.nil|(apply Picks.cons;(focus repeat constructor)))));(all_goals (try simp only[ca_,na_,Bool.not_true,Bool.not_false,-eq_self])))
 rotate_left
 ·rename_i y
  refine e_pan ⟨(),by simp[firstR,h1,h2,h3,h4,y.2]⟩ rfl ?_
  exact im_
 rename_i x5
 obtain⟨x5,h5⟩:=x5
 (refine' e_callP (number (k:=4) (by omega)) ?hp (fun _=>?_) (fun _=>?_);(case hp=>(repeat(first|exact Picks.nil|(apply Picks.cons;(focus repeat constructor)))));(all_goals (try simp only[ca_,na_,Bool.not_true,Bool.not_false,-eq_self])))
 rotate_left
 ·rename_i y
  refine e_pan ⟨(),by simp[firstR,h1,h2,h3,h4,h5,y.2]⟩ rfl ?_
  exact im_
 rename_i x6
 obtain⟨x6,h6⟩:=x6
 refine o_ v_fa0 (sn_ ?_)
 (refine' e_callP (take (k:=1)) ?hp (fun _=>?_) (fun _=>?_);(case hp=>(repeat(first|exact Picks.nil|(apply Picks.cons;(focus repeat constructor)))));(all_goals (try simp only[ca_,na_,Bool.not_true,Bool.not_false,-eq_self])))
 rotate_left
 ·rename_i y
  refine e_pan ⟨(),by simp[firstR,h1,h2,h3,h4,h5,h6,y.2]⟩ rfl ?_
  exact im_
 rename_i x7
 obtain⟨x7,h7⟩:=x7
 (refine' e_callP (rclock) ?hp (fun _=>?_) (fun _=>?_);(case hp=>(repeat(first|exact Picks.nil|(apply Picks.cons;(focus repeat constructor)))));(all_goals (try simp only[ca_,na_,Bool.not_true,Bool.not_false,-eq_self])))
 rotate_left
 ·rename_i y
  refine e_pan ⟨(),by simp[firstR,h1,h2,h3,h4,h5,h6,h7,y.2]⟩ rfl ?_
  exact im_
 rename_i x8
 obtain⟨x8,h8⟩:=x8
 refine lg_ ?_;refine sg_ ?_;(((refine' e_stS (v_resA ?hn) ?hi ?_);(case hi=>exact im_);(case hn=>rfl)))
 refine rt_ (⟨⟨(x6.1:Int),x4.1,(x2.1:Int),(x8.1.1:Int),(x8.1.2.1:Int),(x8.1.2.2:Int),0⟩,by simp[firstR,h1,h2,h3,h4,h5,h6,h7,h8]⟩) ?_
 exact im_
def thirdR (l:List UInt8):Option Dt:=(tkR 4 l).bind fun a=>(monR a.2).bind fun b=>(tkR 1 b.2).bind fun c=>(numR 2 c.2).bind fun d=>(tkR 1 d.2).bind fun e=>(clkR e.2).bind fun f=>(tkR 1 f.2).bind fun g=>(numR 4 g.2).bind fun h=>some ⟨(h.1:Int),b.1,(d.1:Int),(f.1.1:Int),(f.1.2.1:Int),(f.1.2.2:Int),0⟩
theorem third {W:World}{p:Nat}{l:List UInt8}{now:Int}:CnP p_ 127 [.pointer (some ⟨p,0,none⟩),.int .i64 now] W [IsRd p l]
  (fun x:Sm (thirdR l)=> .agg (dtA x.1)) (fun _=>[]) (fun _:Nn (thirdR l)=>pnD) (fun _=>[]):=by
 (refine S.dates_reader_third_s.cnP fun F=>?_;unfold S.dates_reader_third;simp only[ca_,na_,-eq_self])
 refine e_newA fun g=>?_
 (refine' e_callP (take (k:=4)) ?hp (fun _=>?_) (fun _=>?_);(case hp=>(repeat(first|exact Picks.nil|(apply Picks.cons;(focus repeat constructor)))));(all_goals (try simp only[ca_,na_,Bool.not_true,Bool.not_false,-eq_self])))
 rotate_left
 ·rename_i y
  refine e_pan ⟨(),by simp[thirdR,y.2]⟩ rfl ?_
  exact im_
 rename_i x1
 obtain⟨x1,h1⟩:=x1
 (refine' e_callP (month) ?hp (fun _=>?_) (fun _=>?_);(case hp=>(repeat(first|exact Picks.nil|(apply Picks.cons;(focus repeat constructor)))));(all_goals (try simp only[ca_,na_,Bool.not_true,Bool.not_false,-eq_self])))
 rotate_left
 ·rename_i y
  refine e_pan ⟨(),by simp[thirdR,h1,y.2]⟩ rfl ?_
  exact im_
 rename_i x2
 obtain⟨x2,h2⟩:=x2
 refine o_ v_fa0 (sn_ ?_)
 (refine' e_callP (take (k:=1)) ?hp (fun _=>?_) (fun _=>?_);(case hp=>(repeat(first|exact Picks.nil|(apply Picks.cons;(focus repeat constructor)))));(all_goals (try simp only[ca_,na_,Bool.not_true,Bool.not_false,-eq_self])))
 rotate_left
 ·rename_i y
  refine e_pan ⟨(),by simp[thirdR,h1,h2,y.2]⟩ rfl ?_
  exact im_
 rename_i x3
 obtain⟨x3,h3⟩:=x3
 (refine' e_callP (number (k:=2) (by omega)) ?hp (fun _=>?_) (fun _=>?_);(case hp=>(repeat(first|exact Picks.nil|(apply Picks.cons;(focus repeat constructor)))));(all_goals (try simp only[ca_,na_,Bool.not_true,Bool.not_false,-eq_self])))
 rotate_left
 ·rename_i y
  refine e_pan ⟨(),by simp[thirdR,h1,h2,h3,y.2]⟩ rfl ?_
  exact im_
 rename_i x4
 obtain⟨x4,h4⟩:=x4
 refine o_ v_fa0 (sn_ ?_)
 (refine' e_callP (take (k:=1)) ?hp (fun _=>?_) (fun _=>?_);(case hp=>(repeat(first|exact Picks.nil|(apply Picks.cons;(focus repeat constructor)))));(all_goals (try simp only[ca_,na_,Bool.not_true,Bool.not_false,-eq_self])))
 rotate_left
 ·rename_i y
  refine e_pan ⟨(),by simp[thirdR,h1,h2,h3,h4,y.2]⟩ rfl ?_
  exact im_
 rename_i x5
 obtain⟨x5,h5⟩:=x5
 (refine' e_callP (rclock) ?hp (fun _=>?_) (fun _=>?_);(case hp=>(repeat(first|exact Picks.nil|(apply Picks.cons;(focus repeat constructor)))));(all_goals (try simp only[ca_,na_,Bool.not_true,Bool.not_false,-eq_self])))
 rotate_left
 ·rename_i y
  refine e_pan ⟨(),by simp[thirdR,h1,h2,h3,h4,h5,y.2]⟩ rfl ?_
  exact im_
 rename_i x6
 obtain⟨x6,h6⟩:=x6
 (refine' e_callP (take (k:=1)) ?hp (fun _=>?_) (fun _=>?_);(case hp=>(repeat(first|exact Picks.nil|(apply Picks.cons;(focus repeat constructor)))));(all_goals (try simp only[ca_,na_,Bool.not_true,Bool.not_false,-eq_self])))
 rotate_left
 ·rename_i y
  refine e_pan ⟨(),by simp[thirdR,h1,h2,h3,h4,h5,h6,y.2]⟩ rfl ?_
  exact im_
 rename_i x7
 obtain⟨x7,h7⟩:=x7
 (refine' e_callP (number (k:=4) (by omega)) ?hp (fun _=>?_) (fun _=>?_);(case hp=>(repeat(first|exact Picks.nil|(apply Picks.cons;(focus repeat constructor)))));(all_goals (try simp only[ca_,na_,Bool.not_true,Bool.not_false,-eq_self])))
 rotate_left
 ·rename_i y
  refine e_pan ⟨(),by simp[thirdR,h1,h2,h3,h4,h5,h6,h7,y.2]⟩ rfl ?_
  exact im_
 rename_i x8
 obtain⟨x8,h8⟩:=x8
 refine o_ v_fa0 (sn_ ?_);refine lg_ ?_;refine sg_ ?_;(((refine' e_stS (v_resA ?hn) ?hi ?_);(case hi=>exact im_);(case hn=>rfl)))
 refine rt_ (⟨⟨(x8.1:Int),x2.1,(x4.1:Int),(x6.1.1:Int),(x6.1.2.1:Int),(x6.1.2.2:Int),0⟩,by simp[thirdR,h1,h2,h3,h4,h5,h6,h7,h8]⟩) ?_
 exact im_
def cI (l:List UInt8):Nat:=(l++[44]).findIdx (· ==44)
theorem cI_le (l:List UInt8):cI l<=l.length:=by
 have:(l++[44]).findIdx (· ==44)<(l++[44]).length:=List.findIdx_lt_length_of_exists ⟨44,by simp,by simp⟩
 rw[List.length_append,List.length_singleton]at this
 unfold cI;omega
def yN (now:Int):Int:=if okT now then(spD now).y else 1970
def topY (now:Int):Int:=if 9999<yN now+50 then 9999 else yN now+50
def secY (now:Int)(two:Nat):Int:=topY now-(topY now-(two:Int)+10000)%100
theorem yN_b (now:Int):0<=yN now/\yN now<=9999:=by
 unfold yN
 split
 ·rename_i h;exact(ok_sp h).y
 ·omega
def secondR (now:Int)(l:List UInt8):Option Dt:=(tkR (cI l+2) l).bind fun a=>(numR 2 a.2).bind fun b=>(tkR 1 b.2).bind fun c=>(monR c.2).bind fun d=>(tkR 1 d.2).bind fun e=>(numR 2 e.2).bind fun f=>(tkR 1 f.2).bind fun g=>(clkR g.2).bind fun h=>some ⟨secY now f.1,d.1,(b.1:Int),(h.1.1:Int),(h.1.2.1:Int),(h.1.2.2:Int),0⟩
theorem second {W:World}{p:Nat}{l:List UInt8}{now:Int}(hl:l.length<=4611686018427387904):CnP p_ 126 [.pointer (some ⟨p,0,none⟩),.int .i64 now] W [IsRd p l]
  (fun x:Sm (secondR now l)=> .agg (dtA x.1)) (fun _=>[]) (fun _:Nn (secondR now l)=>pnD) (fun _=>[]):=by
 (refine S.dates_reader_second_s.cnP fun F=>?_;unfold S.dates_reader_second;simp only[ca_,na_,-eq_self])
 unfold IsRd
 refine e_newA fun g=>?_;refine o_ v_nil (o_ v_fa0 (ln_ ?_))
 rename Nat=>b4
 refine o_ (v_cat (b:=[44]) (by simp only[List.length_singleton];omega)) ?_
 refine c_ (indexByte (l:=l++[44]) (c:=44) (by simp)) fun _=>?_
 have hci:=cI_le l
 have eci:List.findIdx (fun x:UInt8=>x==44) (l++[44])=cI l:=rfl
 rw[eci]
 refine ad_ ?_
 rw[show((cI l:Nat):Int)+2=((cI l+2:Nat):Int) by omega]
 (refine' e_callP (take (k:=cI l+2)) ?hp (fun _=>?_) (fun _=>?_);(case hp=>(repeat(first|exact Picks.nil|(apply Picks.cons;(focus repeat constructor)))));(all_goals (try simp only[ca_,na_,Bool.not_true,Bool.not_false,-eq_self])))
 rotate_left
 ·rename_i y
  refine e_pan ⟨(),by simp[secondR,y.2]⟩ rfl ?_
  exact im_
 rename_i x1
 obtain⟨x1,h1⟩:=x1
 (refine' e_callP (number (k:=2) (by omega)) ?hp (fun _=>?_) (fun _=>?_);(case hp=>(repeat(first|exact Picks.nil|(apply Picks.cons;(focus repeat constructor)))));(all_goals (try simp only[ca_,na_,Bool.not_true,Bool.not_false,-eq_self])))
 rotate_left
 ·rename_i y
  refine e_pan ⟨(),by simp[secondR,h1,y.2]⟩ rfl ?_
  exact im_
 rename_i x2
 obtain⟨x2,h2⟩:=x2
 refine o_ v_fa0 (sn_ ?_)
 (refine' e_callP (take (k:=1)) ?hp (fun _=>?_) (fun _=>?_);(case hp=>(repeat(first|exact Picks.nil|(apply Picks.cons;(focus repeat constructor)))));(all_goals (try simp only[ca_,na_,Bool.not_true,Bool.not_false,-eq_self])))
 rotate_left
 ·rename_i y
  refine e_pan ⟨(),by simp[secondR,h1,h2,y.2]⟩ rfl ?_
  exact im_
 rename_i x3
 obtain⟨x3,h3⟩:=x3
 (refine' e_callP (month) ?hp (fun _=>?_) (fun _=>?_);(case hp=>(repeat(first|exact Picks.nil|(apply Picks.cons;(focus repeat constructor)))));(all_goals (try simp only[ca_,na_,Bool.not_true,Bool.not_false,-eq_self])))
 rotate_left
 ·rename_i y
  refine e_pan ⟨(),by simp[secondR,h1,h2,h3,y.2]⟩ rfl ?_
  exact im_
 rename_i x4
 obtain⟨x4,h4⟩:=x4
 refine o_ v_fa0 (sn_ ?_)
 (refine' e_callP (take (k:=1)) ?hp (fun _=>?_) (fun _=>?_);(case hp=>(repeat(first|exact Picks.nil|(apply Picks.cons;(focus repeat constructor)))));(all_goals (try simp only[ca_,na_,Bool.not_true,Bool.not_false,-eq_self])))
 rotate_left
 ·rename_i y
  refine e_pan ⟨(),by simp[secondR,h1,h2,h3,h4,y.2]⟩ rfl ?_
  exact im_
 rename_i x5
 obtain⟨x5,h5⟩:=x5
 (refine' e_callP (number (k:=2) (by omega)) ?hp (fun _=>?_) (fun _=>?_);(case hp=>(repeat(first|exact Picks.nil|(apply Picks.cons;(focus repeat constructor)))));(all_goals (try simp only[ca_,na_,Bool.not_true,Bool.not_false,-eq_self])))
 rotate_left
 ·rename_i y
  refine e_pan ⟨(),by simp[secondR,h1,h2,h3,h4,h5,y.2]⟩ rfl ?_
  exact im_
 rename_i x6
 obtain⟨x6,h6⟩:=x6
 (refine' e_callP (take (k:=1)) ?hp (fun _=>?_) (fun _=>?_);(case hp=>(repeat(first|exact Picks.nil|(apply Picks.cons;(focus repeat constructor)))));(all_goals (try simp only[ca_,na_,Bool.not_true,Bool.not_false,-eq_self])))
 rotate_left
 ·rename_i y
  refine e_pan ⟨(),by simp[secondR,h1,h2,h3,h4,h5,h6,y.2]⟩ rfl ?_
  exact im_
 rename_i x7
 obtain⟨x7,h7⟩:=x7
 (refine' e_callP (rclock) ?hp (fun _=>?_) (fun _=>?_);(case hp=>(repeat(first|exact Picks.nil|(apply Picks.cons;(focus repeat constructor)))));(all_goals (try simp only[ca_,na_,Bool.not_true,Bool.not_false,-eq_self])))
 rotate_left
 ·rename_i y
  refine e_pan ⟨(),by simp[secondR,h1,h2,h3,h4,h5,h6,h7,y.2]⟩ rfl ?_
  exact im_
 rename_i x8
 obtain⟨x8,h8⟩:=x8
 have hy:=yN_b now
 have h2b:=num_lt h6
 (try dsimp only)
 refine e_cut1 (fun z=>pu (z= .int .i64 (yN now))::IsRd p x8.2::pt b4 (.cells #[.int .i64 0,.int .i64 x4.1,.int .i64 (x2.1:Int),.int .i64 (x8.1.1:Int),.int .i64 (x8.1.2.1:Int),.int .i64 (x8.1.2.2:Int),.int .i64 0] 203)::F) ?_ ?_
 rotate_left
 ·refine c_ (split (n:=now)) fun _=>?_
  rw[show(Value.agg (dtA (spD now)))= .agg #[.int .i64 (spD now).y,.int .i64 (spD now).m,.int .i64 (spD now).d,.int .i64 (spD now).h,.int .i64 (spD now).mi,.int .i64 (spD now).s,.int .i64 (spD now).w]from rfl]
  refine xt_ ?_;refine xt_ ?_;refine e_newA fun g=>?_;refine sg_ ?_
  refine e_ask v_eql .nil (fun h=>?_) (fun h=>?_)
  ·have ok:okT now:=Decidable.byContradiction fun c=>absurd (show spE now=11 from if_neg c) (by rw[h];decide)
   refine e_condT (o_ v_fa0 (ln_ ?_))
   refine e_sat (.pu ?_ ?_)
   ·unfold yN;rw[if_pos ok]
   ·exact im_
  ·have ok:¬okT now:=fun c=>h (if_pos c)
   refine e_condF (e_sat (.pu ?_ ?_))
   ·unfold yN;rw[if_neg ok]
   ·exact im_
 intro ds z
 refine nr_ ?_
 refine e_pu .here fun h=>?_
 subst h
 refine ad_ ?_
 refine o_ v_min ?_
 rw[show(if 9999<yN now+50 then 9999 else yN now+50)=topY now from rfl]
 have ht:0<=topY now/\topY now<=9999:=by unfold topY;split <;> omega
 refine sb_ ?_;refine ad_ ?_;(((refine o_ (v_rem ?h1 ?h2) ?_);(case h1=>omega);(case h2=>omega)));refine sb_ ?_;refine o_ v_fa0 (sn_ ?_);refine lg_ ?_;refine sg_ ?_;(((refine' e_stS (v_resA ?hn) ?hi ?_);(case hi=>exact im_);(case hn=>rfl)))
 rw[show topY now-(topY now-(x6.1:Int)+10000)%100=secY now x6.1 from rfl]
 refine rt_ (⟨⟨secY now x6.1,x4.1,(x2.1:Int),(x8.1.1:Int),(x8.1.2.1:Int),(x8.1.2.2:Int),0⟩,by simp[secondR,h1,h2,h3,h4,h5,h6,h7,h8]⟩) ?_
 exact im_
def tryR (k now:Int)(l:List UInt8)(rd:List UInt8->Option Dt):Option Int:=match rd l with
 |none=>none
 |some x=>if okF x/\fm k (spD (jN x))=l then some (jN x)else none
theorem tryFails {W:World} {F:List HP} {g8 g9:Nat} {v8 v9:Value} {K:Value->WP} {Kq:PK}
  (h:Ent W (pt g8 (.cells #[.int .i64 0] 3)::pt g9 (.cells #[.bool false] 4)::F) (K (.tuple #[.int .i64 0,.bool false]))):
  Ent W (pt g8 (.cells #[v8] 3)::pt g9 (.cells #[v9] 4)::F)
   (KpD p_ {target:= .fn (.func 152) ([.pointer (some ⟨g8,0,none⟩),.pointer (some ⟨g9,0,none⟩)]:List Value).toArray,args:=([]:List Value).toArray} (S.dates_try_ret (.pointer (some ⟨g8,0,none⟩)) (.pointer (some ⟨g9,0,none⟩)) K) Kq pnD):=by
 unfold KpD
 refine e_dfS (f:=152) (A:=[.pointer (some ⟨g8,0,none⟩),.pointer (some ⟨g9,0,none⟩)]) (shape:=fun rv=>S.dates_try_1 (.pointer (some ⟨g8,0,none⟩)) (.pointer (some ⟨g9,0,none⟩)) rv) (fun c=>by cases c) ⟨_,_,rfl⟩ (inv_closure (cs:=[.pointer (some ⟨g8,0,none⟩),.pointer (some ⟨g9,0,none⟩)]) (bs:=[]) Tryz.call152) (fun h=>S.dates_try_1_d h) ?_
 unfold S.dates_try_1 pnD
 rw[rec_pan,lv_pan]
 refine t_ (v_neIf (by kernel_rfl)) ?_
 refine e_condT (sn_ ?_);refine sn_ ?_
 unfold S.dates_try_ret
 (((refine' e_stS (v_res1 ?hc) ?hi ?_);(case hi=>exact im_);(case hc=>repeat constructor)));(((refine' e_stS (v_res1 ?hc) ?hi ?_);(case hi=>exact im_);(case hc=>repeat constructor)))
 exact e_imp im_ h
theorem tryEnds {W:World} {F:List HP} {g8 g9:Nat} {n:Int} {b:Bool} {K:Value->WP} {Kq:PK}
  (h:Ent W (pt g8 (.cells #[.int .i64 n] 3)::pt g9 (.cells #[.bool b] 4)::F) (K (.tuple #[.int .i64 n,.bool b]))):
  Ent W (pt g8 (.cells #[.int .i64 n] 3)::pt g9 (.cells #[.bool b] 4)::F)
   (dfS p_ {target:= .fn (.func 152) ([.pointer (some ⟨g8,0,none⟩),.pointer (some ⟨g9,0,none⟩)]:List Value).toArray,args:=([]:List Value).toArray} .returning (S.dates_try_ret (.pointer (some ⟨g8,0,none⟩)) (.pointer (some ⟨g9,0,none⟩)) K) Kq):=by
 refine e_dfS (f:=152) (A:=[.pointer (some ⟨g8,0,none⟩),.pointer (some ⟨g9,0,none⟩)]) (shape:=fun rv=>S.dates_try_1 (.pointer (some ⟨g8,0,none⟩)) (.pointer (some ⟨g9,0,none⟩)) rv) (fun c=>by cases c) ⟨_,_,rfl⟩ (inv_closure (cs:=[.pointer (some ⟨g8,0,none⟩),.pointer (some ⟨g9,0,none⟩)]) (bs:=[]) Tryz.call152) (fun h=>S.dates_try_1_d h) ?_
 unfold S.dates_try_1
 rw[rec_ret,lv_ret]
 refine t_ (v_neIf0 (by kernel_rfl)) ?_
 refine e_condF ?_
 unfold S.dates_try_ret
 (((refine' e_stS (v_res1 ?hc) ?hi ?_);(case hi=>exact im_);(case hc=>repeat constructor)));(((refine' e_stS (v_res1 ?hc) ?hi ?_);(case hi=>exact im_);(case hc=>repeat constructor)))
 exact e_imp im_ h
theorem jN_ok {x:Dt}(h:okF x):okT (jN x):=by
 have hj:jN x=dayN x.y x.m x.d * 86400+x.h * 3600+x.mi * 60+x.s:=if_pos h
 unfold okF at h
 obtain⟨h1,h2,h3,h4,h5,h6,_⟩:=h
 have hb:0<=dayN x.y x.m x.d:=(dayN_b h1 h2 h3).1
 have ht:dayN x.y x.m x.d<=2932896:=by
  unfold dayN adj
  by_cases c:x.m<=2
  ·rw[if_pos c]
   have e:(x.m+9)%12=x.m+9:=by omega
   rw[e]
   obtain⟨a,ha⟩:∃a,a=x.y-1:=⟨_,rfl⟩
   rw[<- ha]
   have h1:a / 400<=24:=by omega
   have h2:a / 400=24->a%400<=398:=by omega
   have h3:0<=a%400/\a%400<=399:=by omega
   generalize a / 400=q at *
   generalize a%400=t at *
   omega
  ·rw[if_neg c]
   have e:(x.m+9)%12=x.m-3:=by omega
   rw[e]
   have h1:x.y / 400<=24:=by omega
   have h3:0<=x.y%400/\x.y%400<=399:=by omega
   generalize x.y / 400=q at *
   generalize x.y%400=t at *
   omega
 unfold okT
 rw[hj]
 omega
theorem try_ {W:World} {f:FuncId} {k now:Int} {l:List UInt8} {rd:List UInt8->Option Dt}
  (hf:∀p,CnP p_ f [.pointer (some ⟨p,0,none⟩),.int .i64 now] W [IsRd p l] (fun x:Sm (rd l)=> .agg (dtA x.1)) (fun _=>[]) (fun _:Nn (rd l)=>pnD) (fun _=>[])):
  Cn p_ 128 [txt l,.int .i64 k,.int .i64 now,fn f] W [] (fun _:Unit=> .tuple #[.int .i64 ((tryR k now l rd).getD 0),.bool (tryR k now l rd).isSome]) (fun _=>[]):=by
 (refine S.dates_try_s.cn fun F=>?_;unfold S.dates_try;simp only[ca_,na_])
 refine e_new1 fun g8=>?_
 refine e_new1 fun g9=>?_
 refine o_ v_mkF (e_opDf ?_)
 simp only[List.nil_append,Array.append_empty,List.append_toArray]
 refine o_ v_rv ?_
 refine e_boxA fun gr=>?_
 refine e_imp (M:=IsRd gr l::pt g8 (.cells #[.int .i64 0] 3)::pt g9 (.cells #[.bool false] 4)::F) (by unfold IsRd;(repeat(first|exact .refl|exact .nil|(apply Imp.pick;(focus ((repeat constructor);done)))|refine .drop ?_))) ?_
 (refine' e_callP (hf gr) ?hp (fun _=>?_) (fun _=>?_);(case hp=>(repeat(first|exact Picks.nil|(apply Picks.cons;(focus repeat constructor)))));(all_goals (try simp only[ca_,na_,Bool.not_true,Bool.not_false,-eq_self])))
 rotate_left
 ·rename_i y
  refine e_imp im_ (tryFails (F:=F) ?_)
  rw[show tryR k now l rd=none by unfold tryR;rw[y.2]]
  refine rt_ () ?_
  exact im_
 rename_i x
 obtain⟨x,hx⟩:=x
 (try dsimp only)
 have htr:tryR k now l rd=if okF x/\fm k (spD (jN x))=l then some (jN x)else none:=by unfold tryR;rw[hx]
 refine c_ (join (x:=x)) fun _=>?_
 refine xt_ ?_;refine xt_ ?_;refine sn_ ?_;refine ln_ ?_
 refine c_ (split (n:=jN x)) fun _=>?_
 rw[show(Value.agg (dtA (spD (jN x))))= .agg #[.int .i64 (spD (jN x)).y,.int .i64 (spD (jN x)).m,.int .i64 (spD (jN x)).d,.int .i64 (spD (jN x)).h,.int .i64 (spD (jN x)).mi,.int .i64 (spD (jN x)).s,.int .i64 (spD (jN x)).w]from rfl]
 refine xt_ ?_;refine xt_ ?_;refine e_newA fun g=>?_;refine sg_ ?_
 refine e_ask v_neq .nil (fun h=>?_) (fun h=>?_)
 ·have nok:¬okF x:=fun c=>h (if_pos c)
  rw[show tryR k now l rd=none by rw[htr];exact if_neg fun c=>nok c.1]
  refine e_gdF1 (e_gdF1 (e_gdF1 (e_gdF1 (e_gdF1 (o_ v_pickT (e_condT (sn_ ?_)))))));refine sn_ ?_
  refine e_imp im_ (tryEnds (F:=F) ?_)
  refine rt_ () ?_
  exact im_
 have ok:okF x:=Decidable.byContradiction fun c=>h (by rw[show jE x=41 from if_neg c];decide)
 refine e_gdT (lg_ ?_);refine e_gdT (e_gdT (c_ (form (x:=spD (jN x)) (k:=k) (ok_sp (jN_ok ok))) fun _=>?_))
 refine e_gdT (e_gdT (e_ask v_strne .nil (fun h=>?_) (fun h=>?_)))
 ·rw[show tryR k now l rd=none by rw[htr];exact if_neg fun c=>h c.2]
  refine o_ v_pickF (e_condT (sn_ ?_));refine sn_ ?_
  refine e_imp im_ (tryEnds (F:=F) ?_)
  refine rt_ () ?_
  exact im_
 ·rw[show tryR k now l rd=some (jN x) by rw[htr];exact if_pos ⟨ok,Decidable.not_not.1 h⟩]
  refine o_ v_pickF (e_condF (ln_ ?_));refine sn_ ?_;refine sn_ ?_
  refine e_imp im_ (tryEnds (F:=F) ?_)
  refine rt_ () ?_
  exact im_
def rdK (now:Int)(k:Nat):List UInt8->Option Dt:=if k=0 then firstR else if k=1 then secondR now else thirdR
def kfn (k:Nat):FuncId:=if k=0 then 125 else if k=1 then 126 else 127
def paF (now:Int)(l:List UInt8)(k:Nat):Nat->Option Int
 |0=>none
 |m+1=>match tryR (k:Int) now l (rdK now k)with
  |some n=>some n
  |none=>paF now l (k+1) m
def paR (now:Int)(l:List UInt8):Option Int:=paF now l 0 3
def paN (now:Int)(l:List UInt8):Int:=(paR now l).getD 0
def paE (now:Int)(l:List UInt8):Int:=if(paR now l).isSome then 0 else 41
theorem rdK_ok {W:World}{now:Int}{l:List UInt8}(hl:l.length<=4611686018427387904){k:Nat}(hk:k<3)(p:Nat):CnP p_ (kfn k) [.pointer (some ⟨p,0,none⟩),.int .i64 now] W [IsRd p l] (fun x:Sm (rdK now k l)=> .agg (dtA x.1)) (fun _=>[]) (fun _:Nn (rdK now k l)=>pnD) (fun _=>[]):=by
 match k,hk with
 |0,_=>exact first
 |1,_=>exact second hl
 |2,_=>exact third
theorem kfn_get {k:Nat}(hk:k<3):(#[fn 125,fn 126,fn 127]:Array Value)[k]? =some (fn (kfn k)):=by
 match k,hk with
 |0,_=>rfl
 |1,_=>rfl
 |2,_=>rfl
theorem parse {W:World}{now:Int}{l:List UInt8}(hl:l.length<=4611686018427387904):Cn p_ 99 [txt l,.int .i64 now] W [] (fun _:Unit=> .tuple #[.int .i64 (paN now l),.int .i64 (paE now l)]) (fun _=>[]):=by
 (refine S.dates_Parse_s.cn fun F=>?_;unfold S.dates_Parse;simp only[ca_,na_])
 refine o_ v_rv ?_
 refine e_loop3 (fun m y6 y7 y13=>(ex fun k:Nat=>pu (m+k=3/\y6= .int .i64 0/\y7= .int .i64 41/\y13= .int .i64 (k:Int)/\paF now l k m=paR now l))::F) 3 ?_ ?_
 ·refine .ex 0 (.pu ⟨by omega,rfl,rfl,rfl,rfl⟩ ?_)
  exact im_
 intro m ds y6 y7 y13
 refine nr_ ?_
 refine e_ex Pick.here fun k=>e_pu Pick.here fun hi=>?_
 obtain⟨hmk,rfl,rfl,rfl,hpa⟩:=hi
 refine e_ask v_lss .nil (fun h=>?_) (fun h=>?_)
 ·refine e_condT ?_
  obtain⟨m',rfl⟩:∃m',m=m'+1:=⟨m-1,by omega⟩
  refine o_ (v_ixA (v:=fn (kfn k)) k (by rfl) (by omega) (kfn_get (by omega))) ?_
  refine c_ (try_ (f:=kfn k) (k:=(k:Int)) (now:=now) (l:=l) (rd:=rdK now k) (rdK_ok hl (by omega))) fun _=>?_
  unfold paF at hpa
  refine xt_ ?_;refine xt_ ?_
  cases ht:tryR (k:Int) now l (rdK now k)with
  |some n=>
   rw[ht]at hpa
   simp only at hpa
   simp only[Option.isSome_some,Option.getD_some]
   refine e_condT ?_
   rw[show paN now l=n by unfold paN;rw[<- hpa];rfl,show paE now l=0 by unfold paE;rw[<- hpa];rfl]
   refine rt_ () ?_
   exact im_
  |none=>
   rw[ht]at hpa
   simp only at hpa
   simp only[Option.isSome_none,Option.getD_none]
   refine e_condF (ad_ ?_)
   refine e_next3 m' (by omega) (.ex (k+1) (.pu ⟨by omega,rfl,rfl,rfl,hpa⟩ ?_))
   exact im_
 ·refine e_condF ?_
  have hm0:m=0:=by omega
  subst hm0
  have hpn:paR now l=none:=by rw[<- hpa];rfl
  rw[show paN now l=0 by unfold paN;rw[hpn];rfl,show paE now l=41 by unfold paE;rw[hpn];rfl]
  refine rt_ () ?_
  exact im_
end Go.Proofs.YthomhkpedghhgaaGreatDoor.D
namespace Go.Proofs.YthomhkpedghhgaaGreatDoor.FD
open Go Go.Proofs Go.RowKit Sh Sl T
def allF (l:List Fd)(n:List UInt8):List UInt8:=joinF [44] (valsF l n)
theorem allF_len {l:List Fd}(n:List UInt8)(hl:zF l<=1048576):(allF l n).length<=1500000/\(valsF l n).length<=1048576:=by
 have h1:=zL_vals l n
 have h2:=vals_len l n
 have h3:=z_len l
 have h4:=joinF_len [44] (valsF l n)
 simp only[List.length_cons,List.length_nil]at h4
 unfold allF
 omega
theorem lall {W:World}{l:List Fd}{n:List UInt8}{a:Option Addr}{c:Nat}{A:HP}(hA:RdF W A a l)(hl:zF l<=1048576)(hn:n.length<=4194304):Cn p_ 45 [.slice a l.length c,txt n] W [A] (fun _:Unit=>txt (allF l n)) (fun _=>[A]):=by
 obtain⟨h1,h2⟩:=allF_len n hl
 (refine S.cache_list_all_s.cn fun F=>?_;unfold S.cache_list_all;simp only[ca_,na_])
 refine e_call (values (n:=n) hA (z_ok (by omega)) hn) (.cons (by repeat constructor) .nil) fun r=>?_
 obtain⟨va,vc⟩:=r
 refine nr_ ?_
 (try dsimp only)
 unfold allF at *
 refine e_call (join (sep:=[44]) (by decide) (by decide) (by omega) (by omega)) (.cons (by repeat constructor) .nil) fun _=>?_
 refine nr_ ?_
 refine rt_ () ?_
 exact im_
def sCC:List UInt8:=[67,97,99,104,101,45,67,111,110,116,114,111,108]
def sVary:List UInt8:=[86,97,114,121]
def dirL (l:List Fd):List Dir:=(lsF (dirsF (allF l sCC))).1
theorem dirL_ok {l:List Fd}(hl:zF l<=1048576):(dirL l).length<=1500001/\∀x∈dirL l,dOK x:=by
 obtain⟨h1,_⟩:=allF_len sCC hl
 have h2:=dirs_num (l:=allF l sCC)
 exact⟨by unfold dirL;omega,dirs_ok (by omega)⟩
theorem ldirs {W:World}{l:List Fd}{a:Option Addr}{c:Nat}{A:HP}(hA:RdF W A a l)(hl:zF l<=1048576):Cn p_ 42 [.slice a l.length c] W [A] (fun r:Option Addr × Nat=> .slice r.1 (dirL l).length r.2) (fun r=>[A,Sl 3 128 r.1 r.2 (dirL l).length ((dirL l).flatMap pDir)]):=by
 obtain⟨h1,h2⟩:=allF_len sCC hl
 (refine S.cache_list_directives_s.cn fun F=>?_;unfold S.cache_list_directives;simp only[ca_,na_])
 refine e_call (lall (n:=sCC) hA hl (by decide)) (.cons (by repeat constructor) .nil) fun _=>?_
 refine nr_ ?_
 refine e_call (directives (l:=allF l sCC) (by omega)) .nil fun r=>?_
 refine nr_ ?_
 refine o_ (v_extN (vs:=[_,_]) .here) ?_
 refine o_ (v_extN (vs:=[_,_]) (.there .here)) ?_
 unfold dirL
 refine rt_ r ?_
 exact im_
def variesF (l:List Fd):List (List UInt8):=spl 44 (allF l sVary)
theorem varies_ok {l:List Fd}(hl:zF l<=1048576):(variesF l).length<=1500000/\∀n∈variesF l,n.length<=1500000:=by
 obtain⟨h1,_⟩:=allF_len sVary hl
 obtain⟨h2,h3⟩:=spl_num 44 _ (allF l sVary) (Nat.le_refl _)
 exact⟨by unfold variesF;omega,fun n hn=>by have:=h3 n hn;omega⟩
theorem lvaries {W:World}{l:List Fd}{a:Option Addr}{c:Nat}{A:HP}(hA:RdF W A a l)(hl:zF l<=1048576):Cn p_ 63 [.slice a l.length c] W [A] (fun r:Option Addr × Nat=> .slice r.1 (variesF l).length r.2) (fun r=>[A,Sl 1 9 r.1 r.2 (variesF l).length ((variesF l).map txt)]):=by
 obtain⟨h1,h2⟩:=allF_len sVary hl
 (refine S.cache_list_varies_s.cn fun F=>?_;unfold S.cache_list_varies;simp only[ca_,na_])
 refine e_call (lall (n:=sVary) hA hl (by decide)) (.cons (by repeat constructor) .nil) fun _=>?_
 refine nr_ ?_
 refine e_call (split (l:=allF l sVary) (c:=44) (by omega)) .nil fun r=>?_
 refine nr_ ?_
 unfold variesF
 refine rt_ r ?_
 exact im_
def hasF (l:List Fd)(N:List (List UInt8)):Bool:=N.any fun n=>decide (0<(valsF l n).length)
theorem lhas {W:World}{l:List Fd}{N:List (List UInt8)}{a na:Option Addr}{c nc:Nat}{A NA:HP}(hA:RdF W A a l)(hl:zF l<=1048576)(hN:RdB W NA na N.length (N.map txt))(hn:∀n∈N,n.length<=4194304)(hNl:N.length<=4194304):
  Cn p_ 48 [.slice a l.length c,.slice na N.length nc] W [A,NA] (fun _:Unit=> .bool (hasF l N)) (fun _=>[A,NA]):=by
 obtain⟨_,h2⟩:=allF_len sVary hl
 have hok:=z_ok (l:=l) (by omega)
 have hcl:∀(g:Nat) (n:List UInt8),n.length<=4194304->Cn p_ 90 ([txt n]++[.pointer (some ⟨g,0,none⟩)]) W [all [pt g (.cells #[.slice a l.length c] 78),A]] (fun _:Unit=> .bool (decide (0<(valsF l n).length))) (fun _=>[all [pt g (.cells #[.slice a l.length c] 78),A]]):=fun g n hnl=>by
  (refine S.cache_list_has_1_s.cn fun F=>?_;unfold S.cache_list_has_1;simp only[ca_,na_])
  refine e_all .here ?_
  refine nr_ ?_
  refine ln_ ?_
  refine e_call (values (n:=n) hA hok hnl) (.cons (by repeat constructor) .nil) fun r=>?_
  refine nr_ ?_
  refine o_ v_len (o_ v_gtr (e_ret () (by congr 1;exact decide_eq_decide.2 (by omega)) ?_))
  refine .all ?_
  refine nr_ ?_
  exact im_
 (refine S.cache_list_has_s.cn fun F=>?_;unfold S.cache_list_has;simp only[ca_,na_])
 refine e_box1 fun g=>?_
 refine o_ v_mkF ?_
 rename Nat=>g
 refine e_imp (M:=all [pt g (.cells #[.slice a l.length c] 78),A]::NA::F) (.all im_) ?_
 refine e_call (con_txt (v:=fun i=>txt (N.getD i [])) (p:=fun i=>decide (0<(valsF l (N.getD i [])).length)) (NA:=NA) (k:=90) (cap:=[.pointer (some ⟨g,0,none⟩)]) (by omega) (fun h=>by obtain⟨g,o,e,_⟩:=hN.at_ h;exact⟨g,o,e⟩)
  (fun i g o hi e=>by subst e;rw[Nat.mul_one,show N.getD i []=N[i] by simp[List.getD,hi]];exact txt_at hN hi)
  (fun i hi=>hcl g _ (by rw[show N.getD i []=N[i] by simp[List.getD,hi]];exact hn _ (List.getElem_mem hi)))) (.cons (by repeat constructor) (.cons (by repeat constructor) .nil)) fun _=>?_
 refine nr_ ?_
 rw[any_rng (q:=fun n=>decide (0<(valsF l n).length)) (fun i hi=>by simp[List.getD,hi])]
 refine e_all (.there .here) ?_
 refine nr_ ?_
 refine rt_ () ?_
 exact im_
def saysF (D:List Dir)(N:List (List UInt8)):Bool:=D.any fun x=>N.contains x.name
theorem lsay {W : World} {D : List Dir} {N : List (List UInt8)} {da na : Option Addr} {gd dc nc : Nat} {NA : HP} (hN : RdB W NA na N.length (N.map txt)) (hNl : N.length ≤ 4194304) (hDl : D.length ≤ 4194304) :
  Cn p_ 86 ([.slice na N.length nc] ++ [.pointer (some ⟨gd, 0, none⟩)]) W [all [pt gd (.cells #[.slice da D.length dc] 79), Sl 3 128 da dc D.length (D.flatMap pDir)], NA] (fun _ : Unit => .bool (saysF D N))
   (fun _ => [all [pt gd (.cells #[.slice da D.length dc] 79), Sl 3 128 da dc D.length (D.flatMap pDir)], NA]) := by
 have hcl : ∀ (g : Nat) (x : Dir), Cn p_ 88 ([vDir x] ++ [.pointer (some ⟨g, 0, none⟩)]) W [all [pt g (.cells #[.slice na N.length nc] 46), NA]] (fun _ : Unit => .bool (N.contains x.name)) (fun _ => [all [pt g (.cells #[.slice na N.length nc] 46), NA]]) := fun g x => by
  unfold vDir
  (refine S.cache_says_1_1_s.cn fun F => ?_; unfold S.cache_says_1_1; simp only [ca_, na_])
  refine e_all .here ?_
  refine nr_ ?_
  refine e_boxA fun g => ?_; refine ln_ ?_; refine o_ v_fa0 (ln_ ?_)
  refine e_call (contains_ (x := x.name) hN (by omega)) (.cons (by repeat constructor) .nil) fun _ => ?_
  refine nr_ ?_
  refine e_ret () rfl ?_
  refine .all ?_
  refine nr_ ?_
  exact im_
 (refine S.cache_says_1_s.cn fun F => ?_; unfold S.cache_says_1; simp only [ca_, na_])
 refine e_all .here ?_
 refine nr_ ?_
 refine e_box1 fun g => ?_; refine ln_ ?_
 refine o_ v_mkF ?_
 rename Nat => g
 refine e_slfacts (by (repeat constructor) : Pick _ (Sl 3 128 da dc D.length (D.flatMap pDir)) _) fun _ _ _ hsome => ?_
 refine e_imp (M := all [pt g (.cells #[.slice na N.length nc] 46), NA] :: Sl 3 128 da dc D.length (D.flatMap pDir) :: pt gd (.cells #[.slice da D.length dc] 79) :: F) (.all im_) ?_
 refine e_call (con_dir (v := fun i => match D[i]? with | some d => vDir d | none => undef) (p := fun i => match D[i]? with | some d => N.contains d.name | none => false) (NA := Sl 3 128 da dc D.length (D.flatMap pDir)) (k := 88) (cap := [.pointer (some ⟨g, 0, none⟩)]) (by omega) (fun h => by obtain ⟨g, e⟩ := hsome h; exact ⟨g, 0, e⟩)
  (fun i g o hi e => by
   obtain ⟨g', e'⟩ := hsome (by omega)
   have he := e.symm.trans e'
   injection he with he
   injection he with h1 h2 h3
   subst h1; subst h2; subst e
   rw [List.getElem?_eq_getElem hi]
   exact v_ldRdG (vs := pDir D[i]) (rd_slG (flat_len (f := pDir) (s := 3) (fun _ => rfl) D) (fun _ => ⟨_, rfl⟩)) rfl (fun j hj => flat_get (f := pDir) (s := 3) (fun _ => rfl) D i j hi hj))
  (fun i hi => by rw [List.getElem?_eq_getElem hi]; exact hcl g _)) (.cons (by repeat constructor) (.cons (by repeat constructor) .nil)) fun _ => ?_
 refine nr_ ?_
 rw [any_rng (q := fun x => N.contains x.name) (fun i hi => by rw [List.getElem?_eq_getElem hi])]
 refine e_all (.there .here) ?_
 refine nr_ ?_
 refine e_ret () rfl ?_
 refine .all ?_
 refine nr_ ?_
 exact im_
def daP (l:List Fd)(n:List UInt8)(now:Int):Int × Bool:=(D.paN now (firstF l n).1,(firstF l n).2&&decide (D.paE now (firstF l n).1=0))
theorem ldate {W : World} {l : List Fd} {n : List UInt8} {now : Int} {a : Option Addr} {c : Nat} {A : HP} (hA : RdF W A a l) (hl : zF l <= 1048576) (hn : n.length <= 4194304) : Cn p_ 64 [.slice a l.length c, txt n, .int .i64 now] W [A] (fun _ : Unit => .tuple #[.int .i64 (daP l n now).1, .bool (daP l n now).2]) (fun _ => [A]) := by
 have hok := z_ok (l := l) (by omega)
 have hfl : (firstF l n).1.length <= 4194304 := by
  unfold firstF
  split
  ·simp
  ·rename_i v r hv
   obtain ⟨f, hf, rfl⟩ := vals_mem (show v ∈ valsF l n by rw [hv]; exact List.mem_cons_self)
   exact (hok.2 f hf).2
 (refine S.cache_list_date_s.cn fun F => ?_; unfold S.cache_list_date; simp only [ca_, na_])
 refine e_call (first (n := n) hA hok hn) (.cons (by repeat constructor) .nil) fun _ => ?_
 refine nr_ ?_
 refine o_ (v_extN (vs := [_, _]) .here) ?_
 refine o_ (v_extN (vs := [_, _]) (.there .here)) ?_
 refine e_call (D.parse (l := (firstF l n).1) (now := now) (by omega)) .nil fun _ => ?_
 refine nr_ ?_
 refine o_ (v_extN (vs := [_, _]) .here) ?_
 refine o_ (v_extN (vs := [_, _]) (.there .here)) ?_
 unfold daP
 cases hf : (firstF l n).2 with
 | true =>
  refine e_gdT (e_gdT (o_ v_eql (o_ v_pickT (e_ret () (by rw [Bool.true_and]) ?_))))
  exact im_
 | false =>
  refine e_gdF2 (e_gdF2 (o_ v_pickF (e_ret () (by rw [Bool.false_and]) ?_)))
  exact im_
theorem lclock {W:World}{n:Int}:Cn p_ 35 [.int .i64 n] W [] (fun _:Unit=> .int .i64 (max 0 (min n 1099511627776))) (fun _=>[]):=by
 (refine S.cache_clock_s.cn fun F=>?_;unfold S.cache_clock;simp only[ca_,na_])
 refine o_ v_min (o_ v_max (e_ret () (by congr 1;split <;> split <;> omega) ?_))
 exact .refl
theorem containsI {W:World}{N:List Int}{x:Int}{a:Option Addr}{c:Nat}{NA:HP}(hN:RdB W NA a N.length (N.map Sl.I))(hn:N.length<=4611686018427387904):Cn p_ 62 [.slice a N.length c,.int .i64 x] W [NA] (fun _:Unit=> .bool (N.contains x)) (fun _=>[NA]):=by
 have hI:Cn p_ 97 [.slice a N.length c,.int .i64 x] W [NA] (fun i:{i:Int // decide (0<=i)=N.contains x}=> .int .i64 i.1) (fun _=>[NA]):=by
  (refine S.slices_Index_int_int_s.cn fun F=>?_;unfold S.slices_Index_int_int;simp only[ca_,na_])
  refine o_ v_len (e_loop1 (fun m y=>pu (∃i:Nat,m+i=N.length/\y= .int .i64 (i:Int)/\x∉N.take i)::NA::F) N.length ?_ ?_)
  ·refine .pu ⟨0,rfl,rfl,by simp⟩ ?_
   exact im_
  intro m ds y
  refine e_pu .here fun hi=>?_
  obtain⟨i,hmi,rfl,hno⟩:=hi
  refine e_ask v_lss .nil (fun h=>?_) (fun h=>?_)
  ·have hin:i<N.length:=by omega
   obtain⟨g,o,rfl,_⟩:=hN.at_ (by omega)
   refine e_condT (o_ (v_ia1 i rfl hin) ?_)
   refine p_op (v_ldRd hN (v:= .int .i64 N[i]) (by rw[List.getElem?_map,List.getElem?_eq_getElem hin];rfl)) ?_
   refine e_ask v_eql .nil (fun h2=>?_) (fun h2=>?_)
   ·refine e_condT (e_ret ⟨(i:Int),by rw[dT_ (by omega)];symm;rw[List.contains_iff_mem,h2];exact List.getElem_mem hin⟩ rfl ?_)
    exact im_
   ·refine e_condF (ad_ ?_)
    refine e_next1 (m-1) (by omega) (.pu ⟨i+1,by omega,by norm_cast,?_⟩ ?_)
    ·rw[List.take_succ_eq_append_getElem hin]
     intro c
     rcases List.mem_append.1 c with c|c
     ·exact hno c
     ·exact h2 (List.mem_singleton.1 c)
    exact im_
  ·have:i=N.length:=by omega
   subst this
   rw[List.take_length]at hno
   refine e_condF (e_ret ⟨-1,by rw[dF_ (by decide)];symm;rw[Bool.eq_false_iff];intro c;exact hno (List.contains_iff_mem.1 c)⟩ rfl ?_)
   exact im_
 (refine S.slices_Contains_int_int_s.cn fun F=>?_;unfold S.slices_Contains_int_int;simp only[ca_,na_])
 refine c_ hI fun _=>?_
 rename_i i
 refine o_ v_geq ?_
 rw[i.2]
 refine rt_ () ?_
 exact im_
theorem lsays {W:World}{a:Option Addr}{n c:Nat}:Cn p_ 46 [.slice a n c] W [] (fun g:Nat=> .func (.func 86) #[] ([.pointer (some ⟨g,0,none⟩)]:List Value).toArray) (fun g=>[pt g (.cells #[.slice a n c] 79)]):=by
 (refine S.cache_says_s.cn fun F=>?_;unfold S.cache_says;simp only[ca_,na_])
 refine e_box1 fun g=>?_
 refine o_ v_mkF ?_
 rename Nat=>g
 refine rt_ g ?_
 exact im_
def sGET:List UInt8:=[71,69,84]
def sNoStore:List UInt8:=[110,111,45,115,116,111,114,101]
def sPrivate:List UInt8:=[112,114,105,118,97,116,101]
def sPublic:List UInt8:=[112,117,98,108,105,99]
def sSmax:List UInt8:=[115,45,109,97,120,97,103,101]
def sMax_:List UInt8:=[109,97,120,45,97,103,101]
def sAuth:List UInt8:=[65,117,116,104,111,114,105,122,97,116,105,111,110]
def sCRange:List UInt8:=[67,111,110,116,101,110,116,45,82,97,110,103,101]
def sSetC:List UInt8:=[83,101,116,45,67,111,111,107,105,101]
def sExpires:List UInt8:=[69,120,112,105,114,101,115]
def sETag:List UInt8:=[69,84,97,103]
def sLastM:List UInt8:=[76,97,115,116,45,77,111,100,105,102,105,101,100]
def sDate:List UInt8:=[68,97,116,101]
def sAge:List UInt8:=[65,103,101]
def badF (m:List UInt8)(st:Int)(l X:List Fd):Bool:=
 if m≠sGET then true else if !([200,301,404,410]:List Int).contains st then true else if saysF (dirL l) [sNoStore]then true else if saysF (dirL X) [sNoStore,sPrivate]then true
 else if hasF l [sAuth]&&!saysF (dirL X) [sPublic,sSmax]then true else if(variesF X).contains [42]then true else hasF X [sCRange,sSetC]
def storF (m:List UInt8)(st:Int)(l X:List Fd):Bool:=if badF m st l X then false else saysF (dirL X) [sSmax,sMax_]||hasF X [sExpires,sETag,sLastM]
theorem storable {W:World}{m tg:List UInt8}{mi st:Int}{l X:List Fd}{a ax:Option Addr}{c cx:Nat}{bd:Value}{A B:HP}(hA:RdF W A a l)(hl:zF l<=1048576)(hB:RdF W B ax X)(hx:zF X<=1048576)[hbd:OC bd]:
  Cn p_ 20 [.agg #[txt m,txt tg,.int .i64 mi,.slice a l.length c],.agg #[.int .i64 st,.slice ax X.length cx,bd]] W [A,B] (fun _:Unit=> .bool (storF m st l X)) (fun _=>[A,B]):=by
 have hd:=(dirL_ok hl).1
 have he:=(dirL_ok hx).1
 have hv:=(varies_ok hx).1
 (refine S.cache_Storable_s.cn fun F=>?_;unfold S.cache_Storable;simp only[ca_,na_])
 refine e_boxA fun b2=>?_
 refine e_boxA fun b3=>?_
 refine o_ v_fa0 (ln_ ?_);refine o_ v_fa0 (ln_ ?_)
 refine e_call (ldirs hA hl) (.cons (by repeat constructor) .nil) fun r=>?_
 obtain⟨da,dc⟩:=r
 refine nr_ ?_
 (try dsimp only)
 refine e_call lsays .nil fun gd=>?_
 refine nr_ ?_
 refine e_call (ldirs hB hx) (.cons (by repeat constructor) .nil) fun r=>?_
 obtain⟨ea,ec⟩:=r
 refine nr_ ?_
 (try dsimp only)
 refine e_call lsays .nil fun ge=>?_
 refine nr_ ?_
 obtain⟨AD,hAD⟩:∃AD,AD=all [pt gd (.cells #[.slice da (dirL l).length dc] 79),Sl 3 128 da dc (dirL l).length ((dirL l).flatMap pDir)]:=⟨_,rfl⟩
 obtain⟨AE,hAE⟩:∃AE,AE=all [pt ge (.cells #[.slice ea (dirL X).length ec] 79),Sl 3 128 ea ec (dirL X).length ((dirL X).flatMap pDir)]:=⟨_,rfl⟩
 refine e_imp (M:=AD::AE::A::B::pt b2 (.cells #[txt m,txt tg,.int .i64 mi,.slice a l.length c] 31)::pt b3 (.cells #[.int .i64 st,.slice ax X.length cx,bd] 34)::F) (by rw[hAD,hAE];exact .all (.pick (by repeat constructor) (.pick (by repeat constructor) (.all (.pick (by repeat constructor) (.pick (by repeat constructor) im_)))))) ?_
 have sayD:∀ {N:List (List UInt8)} {na:Option Addr} {nc:Nat} {NA:HP},RdB W NA na N.length (N.map txt)->N.length<=4194304->Cn p_ 86 ([.slice na N.length nc]++[.pointer (some ⟨gd,0,none⟩)]) W [AD,NA] (fun _:Unit=> .bool (saysF (dirL l) N)) (fun _=>[AD,NA]):=fun h1 h2=>by rw[hAD];exact lsay h1 h2 (by omega)
 have sayE:∀ {N:List (List UInt8)} {na:Option Addr} {nc:Nat} {NA:HP},RdB W NA na N.length (N.map txt)->N.length<=4194304->Cn p_ 86 ([.slice na N.length nc]++[.pointer (some ⟨ge,0,none⟩)]) W [AE,NA] (fun _:Unit=> .bool (saysF (dirL X) N)) (fun _=>[AE,NA]):=fun h1 h2=>by rw[hAE];exact lsay h1 h2 (by omega)
 clear hAD hAE
 have tm:∀ {N:List (List UInt8)},∀v∈N.map txt,v.cells= #[v]:=fun v hv=>by obtain⟨c,_,rfl⟩:=List.mem_map.1 hv;rfl
 refine e_cut1 (fun z=>pu (z= .bool (badF m st l X))::AE::A::B::F) ?_ ?_
 rotate_left
 ·unfold badF
  refine o_ v_fa0 (ln_ ?_)
  refine e_ask (v_strne (l:=m) (m:=sGET)) .nil (fun h=>?_) (fun h=>?_)
  ·rw[if_pos h]
   refine e_condT (e_sat (.pu rfl ?_))
   exact im_
  rw[if_neg h]
  refine e_condF (e_bslN (n:=4) (vs:=([200,301,404,410]:List Int).map Sl.I) rfl rfl (by intro v hv;obtain⟨c,_,rfl⟩:=List.mem_map.1 hv;rfl) (by omega) fun g0=>?_)
  refine o_ v_fa0 (ln_ ?_)
  refine e_call (containsI (N:=[200,301,404,410]) (x:=st) (rd_pt rfl) (by decide)) (.cons (by repeat constructor) .nil) fun _=>?_
  refine nr_ ?_
  refine o_ v_not ?_
  cases h1:([200,301,404,410]:List Int).contains st with
  |false=>
   simp only[Bool.not_false,if_true]
   refine e_condT (e_sat (.pu trivial ?_))
   exact im_
  |true=>
  simp only[Bool.not_true,Bool.false_eq_true,if_false]
  refine e_condF (e_bslN (n:=1) (vs:=[sNoStore].map txt) rfl rfl tm (by omega) fun g1=>?_)
  refine e_callC (cap:=[.pointer (some ⟨gd,0,none⟩)]) (sayD (N:=[sNoStore]) (rd_pt rfl) (by decide)) (by(repeat(first|exact Picks.nil|(apply Picks.cons;(focus repeat constructor))))) fun _=>?_
  refine nr_ ?_
  cases h2:saysF (dirL l) [sNoStore]with
  |true=>
   simp only[if_true]
   refine e_condT (e_sat (.pu trivial ?_))
   exact im_
  |false=>
  simp only[Bool.false_eq_true,if_false]
  refine e_condF (e_bslN (n:=2) (vs:=[sNoStore,sPrivate].map txt) rfl rfl tm (by omega) fun g2=>?_)
  refine e_callC (cap:=[.pointer (some ⟨ge,0,none⟩)]) (sayE (N:=[sNoStore,sPrivate]) (rd_pt rfl) (by decide)) (by(repeat(first|exact Picks.nil|(apply Picks.cons;(focus repeat constructor))))) fun _=>?_
  refine nr_ ?_
  cases h3:saysF (dirL X) [sNoStore,sPrivate]with
  |true=>
   simp only[if_true]
   refine e_condT (e_sat (.pu trivial ?_))
   exact im_
  |false=>
  simp only[Bool.false_eq_true,if_false]
  refine e_condF (o_ v_fa (p_op (v_ldN (.there (.there (.there .here)))) ?_))
  refine e_bslN (n:=1) (vs:=[sAuth].map txt) rfl rfl tm (by omega) fun g3=>?_
  refine e_call (lhas (N:=[sAuth]) hA hl (rd_pt rfl) (by decide) (by decide)) (.cons (by repeat constructor) (.cons (by repeat constructor) .nil)) fun _=>?_
  refine nr_ ?_
  refine' both_ ?_ ?_
  rotate_left
  ·intro main
   cases h4:hasF l [sAuth]with
   |false=>
    refine e_gdF2 (e_gdF2 (e_gdF2 (e_gdF2 (o_ v_pickF ?_))))
    simp only[Bool.false_and,Bool.false_eq_true,if_false]
    refine e_imp (M:=AE::A::B::F) im_ ?_
    exact main
   |true=>
    refine e_gdT (e_gdT (e_bslN (n:=2) (vs:=[sPublic,sSmax].map txt) rfl rfl tm (by omega) fun g4=>?_))
    refine e_gdT (e_callC (cap:=[.pointer (some ⟨ge,0,none⟩)]) (sayE (N:=[sPublic,sSmax]) (rd_pt rfl) (by decide)) (by(repeat(first|exact Picks.nil|(apply Picks.cons;(focus repeat constructor))))) fun _=>?_)
    refine nr_ ?_
    refine e_gdT (o_ v_not (o_ v_pickT ?_))
    cases h5:saysF (dirL X) [sPublic,sSmax]with
    |true=>
     simp only[Bool.not_true,Bool.and_false,Bool.false_eq_true,if_false]
     refine e_imp (M:=AE::A::B::F) im_ ?_
     exact main
    |false=>
     simp only[Bool.not_false,Bool.and_true,if_true]
     refine e_condT (e_sat (.pu trivial ?_))
     exact im_
  refine e_condF (e_call (lvaries hB hx) (.cons (by repeat constructor) .nil) fun r=>?_)
  obtain⟨va,vc⟩:=r
  refine nr_ ?_
  (try dsimp only)
  refine e_slfacts (by(repeat constructor):Pick _ (Sl 1 9 va vc (variesF X).length ((variesF X).map txt)) _) fun _ _ _ hs=>?_
  refine e_call (contains_ (N:=variesF X) (x:=[42]) (rd_sl (e:=9) (a:=va) (cap:=vc) (by rw[List.length_map]) hs) (by omega)) (.cons (by repeat constructor) .nil) fun _=>?_
  refine nr_ ?_
  cases h6:(variesF X).contains [42]with
  |true=>
   simp only[if_true]
   refine e_condT (e_sat (.pu trivial ?_))
   exact im_
  |false=>
  simp only[Bool.false_eq_true,if_false]
  refine e_condF (e_bslN (n:=2) (vs:=[sCRange,sSetC].map txt) rfl rfl tm (by omega) fun g5=>?_)
  refine e_call (lhas (N:=[sCRange,sSetC]) hB hx (rd_pt rfl) (by decide) (by decide)) (.cons (by repeat constructor) (.cons (by repeat constructor) .nil)) fun _=>?_
  refine nr_ ?_
  refine e_sat (.pu rfl ?_)
  exact im_
 intro ds z
 refine e_pu .here fun hz=>?_
 subst hz
 unfold storF
 cases hb:badF m st l X with
 |true=>
  refine e_condT (e_ret () rfl ?_)
  exact im_
 |false=>
 simp only[Bool.false_eq_true,if_false]
 refine e_condF (e_bslN (n:=2) (vs:=[sSmax,sMax_].map txt) rfl rfl tm (by omega) fun g6=>?_)
 refine e_callC (cap:=[.pointer (some ⟨ge,0,none⟩)]) (sayE (N:=[sSmax,sMax_]) (rd_pt rfl) (by decide)) (by(repeat(first|exact Picks.nil|(apply Picks.cons;(focus repeat constructor))))) fun _=>?_
 refine nr_ ?_
 cases h7:saysF (dirL X) [sSmax,sMax_]with
 |true=>
  refine e_gdF1 (e_gdF1 (e_gdF1 (o_ v_pickT (rt_ () ?_))))
  exact im_
 |false=>
  refine e_gdT (e_gdT (e_bslN (n:=3) (vs:=[sExpires,sETag,sLastM].map txt) rfl rfl tm (by omega) fun g7=>?_))
  refine e_gdT (e_call (lhas (N:=[sExpires,sETag,sLastM]) hB hx (rd_pt rfl) (by decide) (by decide)) (.cons (by repeat constructor) (.cons (by repeat constructor) .nil)) fun _=>?_)
  refine nr_ ?_
  refine o_ v_pickF (e_ret () (by rw[Bool.false_or]) ?_)
  exact im_
def cl40 (n:Int):Int:=max 0 (min n 1099511627776)
theorem cl40_b (n:Int):0<=cl40 n/\cl40 n<=1099511627776:=by unfold cl40;omega
def wr (n:Int):Int:=IntKind.i64.wrap n
def lifeF (X:List Fd)(now:Int):Int:=
 if(secF (dirL X) sSmax).2 then(secF (dirL X) sSmax).1 else if(secF (dirL X) sMax_).2 then(secF (dirL X) sMax_).1 else
 if(daP X sExpires (cl40 now)).2 then max 0 (wr ((daP X sExpires (cl40 now)).1-(if(daP X sDate (cl40 now)).2 then(daP X sDate (cl40 now)).1 else cl40 now)))else 0
theorem v_max0 {P:Program}{W:World}{ts:Array TypeId}{t:TypeId}{b:Int}:RunV P W [] (sMax ts t [.int .i64 0,.int .i64 b]) (.int .i64 (max 0 b)):=by
 have:=v_max (P:=P) (W:=W) (ts:=ts) (t:=t) (q:= .i64) (r:= .i64) (a:=0) (b:=b)
 rw[show(if(0:Int)<b then b else 0)=max 0 b by split <;> omega]at this
 exact this
theorem lifetime {W:World}[hG:Gl W]{st now:Int}{X:List Fd}{ax:Option Addr}{cx:Nat}{bd:Value}{B:HP}(hB:RdF W B ax X)(hx:zF X<=1048576)[hbd:OC bd]:
  Cn p_ 21 [.agg #[.int .i64 st,.slice ax X.length cx,bd],.int .i64 now] W [B] (fun _:Unit=> .int .i64 (lifeF X now)) (fun _=>[B]):=by
 obtain⟨he,hd⟩:=dirL_ok hx
 (refine S.cache_Lifetime_s.cn fun F=>?_;unfold S.cache_Lifetime;simp only[ca_,na_])
 refine e_boxA fun b3=>?_
 refine o_ v_fa0 (ln_ ?_)
 refine e_call (ldirs hB hx) (.cons (by repeat constructor) .nil) fun r=>?_
 obtain⟨ea,ec⟩:=r
 refine nr_ ?_
 (try dsimp only)
 refine o_ v_rv ?_
 have sec:=fun s=>seconds (W:=W) (xs:=dirL X) (s:=s) (a:=ea) (c:=ec) (by omega) hd
 refine e_loop1 (fun m y=>pu ((m=2/\y= .int .i64 0)\/(m=1/\y= .int .i64 1/\(secF (dirL X) sSmax).2=false)\/(m=0/\y= .int .i64 2/\(secF (dirL X) sSmax).2=false/\(secF (dirL X) sMax_).2=false))::B::Sl 3 128 ea ec (dirL X).length ((dirL X).flatMap pDir)::F) 2 ?_ ?_
 ·refine .pu (.inl ⟨rfl,rfl⟩) ?_
  exact im_
 intro m ds y
 refine e_pu .here fun hi=>?_
 rcases hi with ⟨rfl,rfl⟩|⟨rfl,rfl,h1⟩|⟨rfl,rfl,h1,h2⟩
 ·refine o_ v_lss ?_
  rw[dT_ (by decide)]
  refine e_condT (o_ (v_ixA 0 rfl (by decide) (v:=txt sSmax) rfl) ?_)
  refine e_call (sec sSmax) (.cons (by repeat constructor) .nil) fun _=>?_
  refine nr_ ?_
  refine o_ (v_extN (vs:=[_,_]) .here) ?_
  refine o_ (v_extN (vs:=[_,_]) (.there .here)) ?_
  cases h:(secF (dirL X) sSmax).2 with
  |true=>
   refine e_condT (e_ret () (by unfold lifeF;rw[h];rfl) ?_)
   exact im_
  |false=>
   refine e_condF (o_ (v_add (by decide) (by decide)) ?_)
   refine e_next1 1 (by decide) (.pu (.inr (.inl ⟨rfl,rfl,rfl⟩)) ?_)
   exact im_
 ·refine o_ v_lss ?_
  rw[dT_ (by decide)]
  refine e_condT (o_ (v_ixA 1 rfl (by decide) (v:=txt sMax_) rfl) ?_)
  refine e_call (sec sMax_) (.cons (by repeat constructor) .nil) fun _=>?_
  refine nr_ ?_
  refine o_ (v_extN (vs:=[_,_]) .here) ?_
  refine o_ (v_extN (vs:=[_,_]) (.there .here)) ?_
  cases h:(secF (dirL X) sMax_).2 with
  |true=>
   refine e_condT (e_ret () (by unfold lifeF;rw[h1,h];rfl) ?_)
   exact im_
  |false=>
   refine e_condF (o_ (v_add (by decide) (by decide)) ?_)
   refine e_next1 0 (by decide) (.pu (.inr (.inr ⟨rfl,rfl,h1,rfl⟩)) ?_)
   exact im_
 refine o_ v_lss ?_
 rw[dF_ (by decide)]
 refine e_condF ?_
 have hlf:lifeF X now=if(daP X sExpires (cl40 now)).2 then max 0 (wr ((daP X sExpires (cl40 now)).1-(if(daP X sDate (cl40 now)).2 then(daP X sDate (cl40 now)).1 else cl40 now)))else 0:=by
  unfold lifeF
  rw[h1,h2]
  simp only[Bool.false_eq_true,if_false]
 rw[hlf]
 refine c_ (lclock (n:=now)) fun _=>?_
 rw[show max 0 (min now 1099511627776)=cl40 now from rfl]
 refine e_call (ldate (n:=sExpires) (now:=cl40 now) hB hx (by decide)) (.cons (by repeat constructor) .nil) fun _=>?_
 refine nr_ ?_
 refine o_ (v_extN (vs:=[_,_]) .here) ?_
 refine o_ (v_extN (vs:=[_,_]) (.there .here)) ?_
 refine o_ v_not ?_
 cases h3:(daP X sExpires (cl40 now)).2 with
 |false=>
  refine e_condT (e_ret () rfl ?_)
  exact im_
 |true=>
 simp only[if_true]
 refine e_condF (c_ (lclock (n:=now)) fun _=>?_)
 rw[show max 0 (min now 1099511627776)=cl40 now from rfl]
 refine e_call (ldate (n:=sDate) (now:=cl40 now) hB hx (by decide)) (.cons (by repeat constructor) .nil) fun _=>?_
 refine nr_ ?_
 refine o_ (v_extN (vs:=[_,_]) .here) ?_
 refine o_ (v_extN (vs:=[_,_]) (.there .here)) ?_
 refine o_ v_not ?_
 cases h4:(daP X sDate (cl40 now)).2 with
 |false=>
  refine e_condT (c_ (lclock (n:=now)) fun _=>?_)
  rw[show max 0 (min now 1099511627776)=cl40 now from rfl]
  refine o_ v_subw ?_
  refine o_ v_max0 ?_
  refine e_ret () rfl ?_
  exact im_
 |true=>
  refine e_condF (o_ v_subw ?_)
  refine o_ v_max0 ?_
  refine e_ret () rfl ?_
  exact im_
def ageF (X:List Fd)(asked came now:Int):Int:=
 wr (max (if(daP X sDate (cl40 came)).2 then max 0 (wr (cl40 came-(daP X sDate (cl40 came)).1))else 0) (min (if(decF (firstF X sAge).1).2=11 then 2147483648 else(decF (firstF X sAge).1).1) 2147483648+max 0 (cl40 came-cl40 asked))+max 0 (cl40 now-cl40 came))
theorem dec_nn' (s:List UInt8):0<=(decF s).1/\(decF s).1<=1000000000000000000:=by
 unfold decF
 split
 ·split
  ·simp only;omega
  ·exact⟨by decide,by decide⟩
 ·exact⟨by decide,by decide⟩
theorem age {W : World} [hG : Gl W] {st asked came now : Int} {X : List Fd} {ax : Option Addr} {cx : Nat} {bd : Value} {B : HP} (hB : RdF W B ax X) (hx : zF X <= 1048576) [hbd : OC bd] :
  Cn p_ 22 [.agg #[.int .i64 st, .slice ax X.length cx, bd], .int .i64 asked, .int .i64 came, .int .i64 now] W [B] (fun _ : Unit => .int .i64 (ageF X asked came now)) (fun _ => [B]) := by
 have hok := z_ok (l := X) (by omega)
 have c1 := cl40_b asked
 have c2 := cl40_b came
 have c3 := cl40_b now
 have hfl : (firstF X sAge).1.length <= 4194304 := by
  unfold firstF
  split
  ·simp
  ·rename_i v r hv
   obtain ⟨f, hf, rfl⟩ := vals_mem (show v ∈ valsF X sAge by rw [hv]; exact List.mem_cons_self)
   exact (hok.2 f hf).2
 have hdn := dec_nn' (firstF X sAge).1
 (refine S.cache_Age_s.cn fun F => ?_; unfold S.cache_Age; simp only [ca_, na_])
 refine e_boxA fun b4 => ?_
 refine c_ (lclock (n := asked)) fun _ => ?_
 refine c_ (lclock (n := came)) fun _ => ?_
 refine c_ (lclock (n := now)) fun _ => ?_
 rw [show max 0 (min asked 1099511627776) = cl40 asked from rfl, show max 0 (min came 1099511627776) = cl40 came from rfl, show max 0 (min now 1099511627776) = cl40 now from rfl]
 refine o_ v_fa0 (ln_ ?_)
 refine e_cut1 (fun z => pu (z = .int .i64 (if (daP X sDate (cl40 came)).2 then max 0 (wr (cl40 came - (daP X sDate (cl40 came)).1)) else 0)) :: B :: F) ?_ ?_
 rotate_left
 ·refine e_call (ldate (n := sDate) (now := cl40 came) hB hx (by decide)) (.cons (by repeat constructor) .nil) fun _ => ?_
  refine nr_ ?_
  refine o_ (v_extN (vs := [_, _]) .here) ?_
  refine o_ (v_extN (vs := [_, _]) (.there .here)) ?_
  cases h4 : (daP X sDate (cl40 came)).2 with
  | true =>
   refine e_condT (o_ v_subw ?_)
   refine o_ v_max0 ?_
   refine e_sat (.pu rfl ?_)
   exact im_
  | false =>
   refine e_condF (e_sat (.pu rfl ?_))
   exact im_
 intro ds z
 refine e_pu .here fun hz => ?_
 subst hz
 obtain ⟨ap, hap⟩ : ∃ ap, ap = if (daP X sDate (cl40 came)).2 then max 0 (wr (cl40 came - (daP X sDate (cl40 came)).1)) else 0 := ⟨_, rfl⟩
 rw [<- hap]
 refine e_call (first (n := sAge) hB hok (by decide)) (.cons (by repeat constructor) .nil) fun _ => ?_
 refine nr_ ?_
 refine o_ (v_extN (vs := [_, _]) .here) ?_
 refine o_ (v_extN (vs := [_, _]) (.there .here)) ?_
 refine e_call (decimal (l := (firstF X sAge).1) (by omega)) .nil fun _ => ?_
 refine nr_ ?_
 refine o_ (v_extN (vs := [_, _]) .here) ?_
 refine o_ (v_extN (vs := [_, _]) (.there .here)) ?_
 obtain ⟨kk, hkk⟩ : ∃ kk, kk = if (decF (firstF X sAge).1).2 = 11 then 2147483648 else (decF (firstF X sAge).1).1 := ⟨_, rfl⟩
 have hkb : 0 <= kk := by rw [hkk]; split <;> omega
 refine e_cut1 (fun z => pu (z = .int .i64 kk) :: B :: F) ?_ ?_
 rotate_left
 ·refine e_ask v_eql .nil (fun h => ?_) (fun h => ?_)
  ·refine e_condT (e_sat (.pu (by rw [hkk, if_pos h]) ?_))
   exact im_
  ·refine e_condF (e_sat (.pu (by rw [hkk, if_neg h]) ?_))
   exact im_
 intro ds2 z
 refine e_pu .here fun hz => ?_
 subst hz
 refine o_ v_min ?_
 rw [show (if (2147483648 : Int) < kk then (2147483648 : Int) else kk) = min kk 2147483648 by split <;> omega]
 refine sb_ ?_
 refine o_ v_max0 ?_
 refine ad_ ?_
 refine o_ v_max ?_
 rw [show (if ap < min kk 2147483648 + max 0 (cl40 came - cl40 asked) then min kk 2147483648 + max 0 (cl40 came - cl40 asked) else ap) = max ap (min kk 2147483648 + max 0 (cl40 came - cl40 asked)) by split <;> omega]
 refine sb_ ?_
 refine o_ v_max0 ?_
 refine o_ v_addw ?_
 refine e_ret () (by unfold ageF; rw [<- hap, <- hkk]; rfl) ?_
 exact im_
theorem v_slEq0 {P:Program}{W:World}{t e:TypeId}{s b n c:Nat}{ox oy:Operand}{a:Option Addr}[ht:SlT P t e s b]:RunV P W [] (sEq .eql t ox oy (.slice a n c) (.slice none 0 0)) (.bool a.isNone):=fun w _=>by
 have:=Lib.run_eql_slice_nil (P:=P) w t e a n c 0 0 ht.ut
 simp[sEq,sv,eqGuard,this]
theorem cloneF {W:World}{a:Option Addr}{c:Nat}{l:List Fd}{A:HP}(hA:RdF W A a l)(ha:a=none->l=[])(hl:l.length<=1099511627776):
  Cn p_ 32 [.slice a l.length c] W [A] (fun q:Option Addr × Nat=> .slice q.1 l.length q.2) (fun q=>[A,Sl 2 68 q.1 q.2 l.length (l.flatMap pFd)]):=by
 (refine S.slices_Clone_api_Field_api_Field_s.cn fun F=>?_;unfold S.slices_Clone_api_Field_api_Field;simp only[ca_,na_])
 refine o_ v_slEq0 ?_
 cases a with
 |none=>
  obtain rfl:=ha rfl
  refine e_condT (e_nil (s:=2) (e:=68) ?_)
  refine e_ret (none,0) rfl ?_
  exact im_
 |some ad=>
  refine e_condF (e_bsl0 fun g=>?_)
  refine e_app (m:=l.length) (news:=l.flatMap pFd) .here (src_rdG (s:=2) (e':=68) (by kernel_rfl) (by decide) (.there .here) hA (fun h=>by cases h) pFd_one) (by omega) (by omega) fun a' c'=>?_
  rw[Nat.zero_add,List.nil_append]
  refine e_ret (a',c') rfl ?_
  exact im_
theorem cloneB {W:World}{a:Option Addr}{c:Nat}{l:List UInt8}{A:HP}(hA:RdB W A a l.length (l.map Sl.B))(ha:a=none->l=[])(hl:l.length<=1099511627776):
  Cn p_ 75 [.slice a l.length c] W [A] (fun q:Option Addr × Nat=> .slice q.1 l.length q.2) (fun q=>[A,Sl 1 5 q.1 q.2 l.length (l.map Sl.B)]):=by
 (refine S.slices_Clone_byte_byte_s.cn fun F=>?_;unfold S.slices_Clone_byte_byte;simp only[ca_,na_])
 refine o_ v_slEq0 ?_
 cases a with
 |none=>
  obtain rfl:=ha rfl
  refine e_condT (e_nil (s:=1) (e:=5) ?_)
  refine e_ret (none,0) rfl ?_
  exact im_
 |some ad=>
  refine e_condF (e_bsl0 fun g=>?_)
  refine e_app (m:=l.length) (news:=l.map Sl.B) .here (src_rd (e':=5) (by kernel_rfl) (.there .here) hA (fun h=>by cases h) B_one) (by omega) (by omega) fun a' c'=>?_
  rw[Nat.zero_add,List.nil_append]
  refine e_ret (a',c') rfl ?_
  exact im_
theorem own {W:World}{st:Int}{X:List Fd}{ax:Option Addr}{cx:Nat}{D:List UInt8}{ad:Option Addr}{cd:Nat}{A B:HP}(hA:RdF W A ax X)(hax:ax=none->X=[])(hX:X.length<=1099511627776)(hB:RdB W B ad D.length (D.map Sl.B))(had:ad=none->D=[])(hD:D.length<=1099511627776):
  Cn p_ 34 [.agg #[.int .i64 st,.slice ax X.length cx,.slice ad D.length cd]] W [A,B] (fun q:(Option Addr × Nat) × (Option Addr × Nat)=> .agg #[.int .i64 st,.slice q.1.1 X.length q.1.2,.slice q.2.1 D.length q.2.2])
   (fun q=>[A,B,Sl 2 68 q.1.1 q.1.2 X.length (X.flatMap pFd),Sl 1 5 q.2.1 q.2.2 D.length (D.map Sl.B)]):=by
 (refine S.cache_own_s.cn fun F=>?_;unfold S.cache_own;simp only[ca_,na_])
 refine e_boxA fun b1=>?_
 refine e_newA fun g=>?_;refine e_drS (e_stD v_fa0 .nil ?_);(((refine' e_stD (v_ldN ?hc) ?hi ?_);(case hi=>exact .pick (by repeat constructor) .nil);(case hc=>repeat constructor)));refine t_ v_fa0 (ls_ ?_);refine e_stD v_fa0 .nil ?_;(((refine' e_stD (v_ldN ?hc) ?hi ?_);(case hi=>exact .pick (by repeat constructor) .nil);(case hc=>repeat constructor)))
 refine e_call (cloneF hA hax hX) (.cons (by repeat constructor) .nil) fun q=>?_
 obtain⟨q1,q2⟩:=q
 refine nr_ ?_
 (try dsimp only)
 refine ob_ ?_;refine ob_ ?_;refine ob_ ?_;refine ob_ ?_
 refine e_call (cloneB hB had hD) (.cons (by repeat constructor) .nil) fun r=>?_
 obtain⟨r1,r2⟩:=r
 refine nr_ ?_
 (try dsimp only)
 refine ob_ ?_;refine ob_ ?_;refine t_ v_rv ?_;refine sg_ ?_;(((refine' e_stS (v_resA ?hn) ?hi ?_);(case hi=>exact im_);(case hn=>rfl)))
 refine e_ret ((q1,q2),(r1,r2)) rfl ?_
 exact im_
def cosF:List Fd->Nat
 |[]=>0
 |f::r=>f.1.length+f.2.length+cosF r
theorem cos_take:∀(l:List Fd) (i:Nat) (h:i<l.length),cosF (l.take (i+1))=cosF (l.take i)+(l[i].1.length+l[i].2.length)
 |f::r,0,_=>by simp[cosF]
 |f::r,i+1,h=>by
  have:=cos_take r i (by simpa using h)
  simp only[List.take_succ_cons,cosF,List.getElem_cons_succ]
  omega
theorem cos_z (l:List Fd):cosF l<=zF l:=by
 induction l with
 |nil=>exact Nat.zero_le _
 |cons f r ih=>rw[zF_cons];unfold cosF;omega
theorem cos_le (l:List Fd)(i:Nat):cosF (l.take i)<=cosF l:=by
 induction l generalizing i with
 |nil=>simp
 |cons f r ih=>
  cases i with
  |zero=>simp[cosF]
  |succ i=>have:=ih i;simp only[List.take_succ_cons,cosF];omega
theorem size_ {W:World}{l:List Fd}{a:Option Addr}{c:Nat}{A:HP}(hA:RdF W A a l)(hl:zF l<=1048576):
  Cn p_ 36 [.slice a l.length c] W [A] (fun _:Unit=> .int .i64 (cosF l:Nat)) (fun _=>[A]):=by
 have h1:=cos_z l
 have h2:=z_len l
 (refine S.cache_size_s.cn fun F=>?_;unfold S.cache_size;simp only[ca_,na_])
 refine o_ v_len (e_loop2 (fun m x y=>[ex fun i:Nat=>all [pu (m+i=l.length/\x= .int .i64 (cosF (l.take i):Nat)/\y= .int .i64 (i:Int)),A]]++F) l.length ?_ ?_)
 ·refine .ex 0 (.all ?_)
  refine nr_ ?_
  refine .pu ⟨rfl,rfl,rfl⟩ ?_
  exact im_
 intro m ds x y
 refine nr_ ?_
 refine e_ex Pick.here fun i=>e_all Pick.here ?_
 refine nr_ ?_
 refine e_pu Pick.here fun hi=>?_
 obtain⟨hmi,rfl,rfl⟩:=hi
 refine e_ask v_lss .nil (fun h=>?_) (fun h=>?_)
 ·have hin:i<l.length:=by omega
  have h3:=cos_take l i hin
  have h4:=cos_le l (i+1)
  have h5:=cos_le l i
  obtain⟨g,o,rfl⟩:=rdF_at hA (by omega)
  refine e_condT (o_ (v_ia i rfl hin) ?_)
  refine p_op (ld_fdA hA hin) ?_
  unfold vFd
  refine e_newA fun g=>?_;refine sg_ ?_;refine o_ v_fa0 (ln_ ?_)
  refine o_ v_lent (o_ v_fa0 (ln_ ?_))
  refine o_ v_lent (ad_ ?_);refine ad_ ?_;refine ad_ ?_
  refine e_next2 (m-1) (by omega) (.ex (i+1) (.all ?_))
  refine nr_ ?_
  refine .pu ⟨by omega,by rw[h3];norm_cast,by norm_cast⟩ ?_
  exact im_
 ·have:i=l.length:=by omega
  subst this
  rw[List.take_length]
  refine e_condF (rt_ () ?_)
  exact im_
def pickF (r:List Fd)(V:List (List UInt8)):List Fd:=r.filter fun f=>V.any fun n=>eqlF n f.1
theorem pick_take {l:List Fd}{V:List (List UInt8)}{i:Nat}(h:i<l.length):pickF (l.take (i+1)) V=pickF (l.take i) V++(if V.any (fun n=>eqlF n l[i].1)then [l[i]]else []):=by
 unfold pickF
 rw[List.take_succ_eq_append_getElem h,List.filter_append]
 congr 1
 cases he:V.any (fun n=>eqlF n l[i].1) <;> simp[he]
theorem pick_len (l:List Fd)(V:List (List UInt8)):(pickF l V).length<=l.length:=List.length_filter_le _ _
theorem varied {W : World} {st : Int} {R X : List Fd} {ar ax : Option Addr} {cr cx : Nat} {bd : Value} [hbd : OC bd] {A B : HP} (hA : RdF W A ar R) (hR : zF R ≤ 1048576) (hB : RdF W B ax X) (hX : zF X ≤ 1048576) :
  Cn p_ 33 [.slice ar R.length cr, .agg #[.int .i64 st, .slice ax X.length cx, bd]] W [A, B] (fun q : Option Addr × Nat => .slice q.1 (pickF R (variesF X)).length q.2)
   (fun q => [A, B, Sl 2 68 q.1 q.2 (pickF R (variesF X)).length ((pickF R (variesF X)).flatMap pFd)]) := by
 obtain ⟨n1, n2⟩ := varies_ok hX
 have hok := z_ok (l := R) (by omega)
 have h2 := z_len R
 (refine S.cache_varied_s.cn fun F => ?_; unfold S.cache_varied; simp only [ca_, na_])
 refine e_boxA fun b3 => ?_
 refine o_ v_fa0 (ln_ ?_)
 refine e_call (lvaries hB hX) (.cons (by repeat constructor) .nil) fun v => ?_
 obtain ⟨va, vc⟩ := v
 refine nr_ ?_
 (try dsimp only)
 obtain ⟨V, hV⟩ : ∃ V, V = variesF X := ⟨_, rfl⟩
 rw [← hV] at n1 n2 ⊢
 refine e_slfacts (by (repeat constructor) : Pick _ (Sl 1 9 va vc V.length (V.map txt)) _) fun _ _ _ hs => ?_
 have hN : RdB W (Sl 1 9 va vc V.length (V.map txt)) va V.length (V.map txt) := rd_sl (by rw [List.length_map]) hs
 refine o_ v_len (e_loop2 (fun m x y => [ex fun i : Nat => ex fun q : Option Addr × Nat => all [pu (m + i = R.length ∧ x = .slice q.1 (pickF (R.take i) V).length q.2 ∧ y = .int .i64 (i : Int)), Sl 2 68 q.1 q.2 (pickF (R.take i) V).length ((pickF (R.take i) V).flatMap pFd), A, B, Sl 1 9 va vc V.length (V.map txt)]] ++ F) R.length ?_ ?_)
 ·refine .ex 0 (.ex (none, 0) (.all ?_))
  refine nr_ ?_
  refine .pu ⟨rfl, rfl, rfl⟩ (imp_nil ?_)
  exact im_
 intro m ds x y
 refine nr_ ?_
 refine e_ex Pick.here fun i => e_ex Pick.here fun q => e_all Pick.here ?_
 obtain ⟨qa, qc⟩ := q
 refine nr_ ?_
 refine e_pu Pick.here fun hi => ?_
 obtain ⟨hmi, rfl, rfl⟩ := hi
 refine e_ask v_lss .nil (fun h => ?_) (fun h => ?_)
 ·have hin : i < R.length := by omega
  have hpt := pick_take (V := V) hin
  have hpl := pick_len (R.take i) V
  have hrl : (R.take i).length ≤ R.length := by rw [List.length_take]; omega
  obtain ⟨g, o, rfl⟩ := rdF_at hA (by omega)
  have hfo := hok.2 _ (List.getElem_mem hin)
  refine e_condT (o_ (v_ia i rfl hin) ?_)
  refine p_op (ld_fdA hA hin) ?_
  unfold vFd
  refine e_newA fun g => ?_; refine sg_ ?_
  rename Nat => b8
  refine o_ v_mkF ?_
  refine e_call (con_txt (NA := Sl 1 9 va vc V.length (V.map txt)) (C := pt b8 (.cells #[txt R[i].1, txt R[i].2] 68)) (cap := [.pointer (some ⟨b8, 0, none⟩)]) (n := V.length) (c := vc) (a := va) (k := 73) (v := fun j => txt (V.getD j [])) (p := fun j => eqlF (V.getD j []) R[i].1) (by omega) (fun hp => by obtain ⟨g, hg⟩ := hs hp; exact ⟨g, 0, hg⟩)
   (fun j g o hj hg => by
    rw [List.getD_eq_getElem?_getD, List.getElem?_eq_getElem hj]
    rw [Nat.mul_one]
    subst hg
    exact txt_at hN hj)
   (fun j hj => by
    have hvj := n2 _ (List.getElem_mem hj)
    rw [List.getD_eq_getElem?_getD, List.getElem?_eq_getElem hj]
    simp only [Option.getD_some]
    (refine S.cache_varied_1_s.cn fun F => ?_; unfold S.cache_varied_1; simp only [ca_, na_])
    refine o_ v_fa0 (ln_ ?_)
    refine e_call (equal (a := V[j]) (b := R[i].1) (by omega) (by omega)) .nil fun _ => ?_
    refine nr_ ?_
    refine e_ret () rfl ?_
    (repeat (first | exact .refl | exact .nil | (apply Imp.pick; (focus ((repeat constructor); done))) | refine .drop ?_)))) (.cons (by repeat constructor) (.cons (by repeat constructor) .nil)) fun _ => ?_
  refine nr_ ?_
  have hany : (List.range V.length).any (fun j => eqlF (V.getD j []) R[i].1) = V.any (fun n => eqlF n R[i].1) := any_rng (l := V) (q := fun n => eqlF n R[i].1) fun j hj => by
   rw [List.getD_eq_getElem?_getD, List.getElem?_eq_getElem hj]; rfl
  rw [hany]
  cases hc : V.any (fun n => eqlF n R[i].1) with
  | true =>
   rw [hc, if_pos rfl] at hpt
   refine e_condT (lg_ ?_)
   refine e_bslS (n := 1) (vs := [vFd R[i]]) rfl (by omega) rfl (by intro v hv; rw [List.mem_singleton.1 hv]; rfl) (by omega) fun gb => ?_
   refine e_app (m := 1) (news := pFd R[i]) (by (repeat constructor) : Pick _ (Sl 2 68 qa qc (pickF (R.take i) V).length ((pickF (R.take i) V).flatMap pFd)) _) (src_pt (s := 2) (e' := 68) (by kernel_rfl) .here (by rfl) (by intro u hu; simp [vFd, Value.cells] at hu; rcases hu with rfl | rfl <;> rfl)) (by omega) (by omega) fun a' c' => ?_
   refine ad_ ?_
   refine e_next2 (m - 1) (by omega) (.ex (i + 1) (.ex (a', c') (.all ?_)))
   refine nr_ ?_
   rw [hpt, List.length_append, List.flatMap_append]
   refine .pu ⟨by omega, rfl, by norm_cast⟩ ?_
   rw [show [R[i]].flatMap pFd = pFd R[i] by simp]
   exact im_
  | false =>
   rw [hc] at hpt
   simp only [Bool.false_eq_true, if_false, List.append_nil] at hpt
   refine e_condF (ad_ ?_)
   refine e_next2 (m - 1) (by omega) (.ex (i + 1) (.ex (qa, qc) (.all ?_)))
   refine nr_ ?_
   rw [hpt]
   refine .pu ⟨by omega, rfl, by norm_cast⟩ ?_
   exact im_
 ·have : i = R.length := by omega
  subst this
  rw [List.take_length]
  refine e_condF (e_ret (qa, qc) rfl ?_)
  exact im_
end Go.Proofs.YthomhkpedghhgaaGreatDoor.FD
