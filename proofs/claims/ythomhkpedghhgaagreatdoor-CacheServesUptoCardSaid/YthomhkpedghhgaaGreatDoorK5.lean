/- Rows of pointers: some are taken out; texts are compared. No conditions but those that each names. (31 texts made one; each says below what it is.) -/
import Derived.Test.YthomhkpedghhgaaGreatDoorK4
import Derived.Laws.StructEq
import Derived.LaidEqlPtr
import Derived.KernelRfl
import Derived.Test.YthomhkpedghhgaaGreatDoorRows
import Derived.Deep.DeepHandedRow
import Derived.LaidMore
import Derived.Lay
import Derived.MakeChecks
set_option linter.unusedVariables false
set_option linter.unusedSimpArgs false
set_option linter.unusedSectionVars false
namespace Go.Proofs.YthomhkpedghhgaaGreatDoor.FD
open Go Go.Proofs Go.RowKit Sh Sl T
section
variable {P:Program} {W:World} {L L':List HP} {Kp:PK} {k:Value->WP}
theorem e_clear {t e ty:TypeId} {b g o n cap m c:Nat} {cs:List Value} {z:Value} [ht:SlT P t e 1 b] [hz:ZeroT P e z] [hc:OC z] (p:Pick L (Sl 1 e (some ⟨g,0,none⟩) cap n cs) L') (hm:0<m) (ho:o+m<=n)
  (h:Ent W (Sl 1 e (some ⟨g,0,none⟩) cap n (cs.take o++List.replicate m z++cs.drop (o+m))::L') (k (.tuple #[]))):Ent W L (opN P (sClear #[t] ty [.slice (some ⟨g,o,none⟩) m c]) Kp k):=fun w hw=>by
 obtain⟨rest,r1,r2,r3,r4,hp⟩:=sl_row (hw.pick p)
 rw[Nat.mul_one]at r2
 have hrun:=Lib.run_clear_slice (P:=P) w t e ty z ht.ut hz.run (cells_one hc.one) hc.one g o m c hm (fun j hj=>by
  rw[hp.cell,Array.getElem?_eq_getElem (by simp;omega)];rfl) (fun j _=>hp.free)
 obtain⟨cs',c1,c2,c3⟩:=setCells_world g o (List.replicate m z) w _ _ hp
 refine⟨?_⟩
 have:(sClear #[t] ty [.slice (some ⟨g,o,none⟩) m c]).run P w= .ok (.value (.tuple #[])) (w.setCells g o (List.replicate m z)):=by
  simp[sClear,hrun]
 rw[this]
 refine h _ (sl_back r1 (by simp;omega) r3 r4 ?_)
 have he:cs'=(cs.take o++List.replicate m z++cs.drop (o+m)++rest).toArray:=by
  apply Array.ext_getElem?
  intro j
  rw[c3]
  simp only[List.size_toArray,List.length_append,List.getElem?_toArray,List.length_replicate]
  rw[put_getG (n:=m) (by simp) (by omega)]
  by_cases hj:o<=j/\j<o+m
  ·rw[if_pos hj,if_pos ⟨hj.1,hj.2,by omega⟩]
  ·rw[if_neg hj,if_neg (fun c=>hj ⟨c.1,c.2.1⟩)]
 rwa [he]at c1
end
theorem equalS {W:World}{l m:List (List UInt8)}{a b:Option Addr}{c d:Nat}(hl:l.length<=1099511627776):
  Cn p_ 76 [.slice a l.length c,.slice b m.length d] W [Sl 1 9 a c l.length (l.map txt),Sl 1 9 b d m.length (m.map txt)] (fun _:Unit=> .bool (decide (l=m)))
   (fun _=>[Sl 1 9 a c l.length (l.map txt),Sl 1 9 b d m.length (m.map txt)]):=by
 (refine S.slices_Equal_string_string_s.cn fun F=>?_;unfold S.slices_Equal_string_string;simp only[ca_,na_])
 refine o_ v_len (o_ v_len (e_ask v_neq .nil (fun h=>?_) (fun h=>?_)))
 ·refine e_condT (e_ret () (by rw[dF_];intro e;apply h;rw[e]) ?_)
  exact im_
 have hlen:l.length=m.length:=by omega
 refine e_condF (o_ v_len (e_slfacts (by(repeat constructor):Pick _ (Sl 1 9 a c l.length (l.map txt)) _) fun _ _ _ ha=>?_))
 refine e_slfacts (by(repeat constructor):Pick _ (Sl 1 9 b d m.length (m.map txt)) _) fun _ _ _ hb=>?_
 have hN:RdB W (Sl 1 9 a c l.length (l.map txt)) a l.length (l.map txt):=rd_sl (by rw[List.length_map]) ha
 have hM:RdB W (Sl 1 9 b d m.length (m.map txt)) b m.length (m.map txt):=rd_sl (by rw[List.length_map]) hb
 refine e_loop1 (fun k y=>pu (∃i:Nat,k+i=l.length/\y= .int .i64 (i:Int)/\l.take i=m.take i)::Sl 1 9 a c l.length (l.map txt)::Sl 1 9 b d m.length (m.map txt)::F) l.length ?_ ?_
 ·refine .pu ⟨0,rfl,rfl,rfl⟩ ?_
  exact im_
 intro k ds y
 refine e_pu .here fun hi=>?_
 obtain⟨i,hki,rfl,heq⟩:=hi
 refine e_ask v_lss .nil (fun h=>?_) (fun h=>?_)
 ·have hil:i<l.length:=by omega
  have him:i<m.length:=by omega
  obtain⟨ga,rfl⟩:=ha (by omega)
  obtain⟨gb,rfl⟩:=hb (by omega)
  refine e_condT (e_drS (t_ (v_ia1 i rfl hil) ?_))
  refine p_st (txt_at hN hil) ?_
  refine t_ (v_ia1 i rfl him) ?_
  refine p_st (txt_at hM him) ?_
  refine t_ v_strne ?_
  by_cases hx:l[i]=m[i]
  ·rw[dF_ (by simp[hx])]
   refine e_condF (ad_ ?_)
   refine e_next1 (k-1) (by omega) (.pu ⟨i+1,by omega,by norm_cast,by rw[List.take_succ_eq_append_getElem hil,List.take_succ_eq_append_getElem him,heq,hx]⟩ ?_)
   exact im_
  ·rw[dT_ hx]
   refine e_condT (e_ret () (by rw[dF_];rintro rfl;exact hx rfl) ?_)
   exact im_
 ·have:i=l.length:=by omega
  subst this
  rw[List.take_length,hlen,List.take_length]at heq
  refine e_condF (e_ret () (by rw[dT_ heq]) ?_)
  exact im_
abbrev pE (g:Nat):Value:= .pointer (some ⟨g,0,none⟩)
theorem cloneE {W:World}{a:Option Addr}{c:Nat}{l:List Nat}(hl:l.length<=1099511627776):
  Cn p_ 37 [.slice a l.length c] W [Sl 1 65 a c l.length (l.map pE)] (fun q:Option Addr × Nat=> .slice q.1 l.length q.2) (fun q=>[Sl 1 65 a c l.length (l.map pE),Sl 1 65 q.1 q.2 l.length (l.map pE)]):=by
 (refine S.slices_Clone_cache_entry_cache_entry_s.cn fun F=>?_;unfold S.slices_Clone_cache_entry_cache_entry;simp only[ca_,na_])
 refine e_slfacts .here fun h1 h2 h3 hs=>?_
 refine o_ v_slEq0 ?_
 cases a with
 |none=>
  have:l=[]:=by
   cases l with
   |nil=>rfl
   |cons x r=>obtain⟨g,hg⟩:=hs (by simp);cases hg
  subst this
  refine e_condT (e_nil (s:=1) (e:=65) ?_)
  refine e_ret (none,0) rfl ?_
  exact im_
 |some ad=>
  refine e_condF (e_bsl0 fun g=>?_)
  refine e_app (m:=l.length) (news:=l.map pE) .here (src_rd (e':=65) (by kernel_rfl) (.there .here) (rd_sl (by rw[List.length_map]) hs) (fun h=>by cases h) (by intro u hu;obtain⟨x,_,rfl⟩:=List.mem_map.1 hu;rfl)) (by omega) (by omega) fun a' c'=>?_
  rw[Nat.zero_add,List.nil_append]
  refine e_ret (a',c') rfl ?_
  exact im_
theorem ld_pE {W:World}{g c n j:Nat}{l:List Nat}(h:j<l.length):RunV p_ W [Sl 1 65 (some ⟨g,0,none⟩) c n (l.map pE)] (sLoad 65 (.pointer (some ⟨g,0+j,none⟩))) (pE l[j]):=by
 rw[Nat.zero_add]
 exact v_ldSl (by rw[List.getElem?_map,List.getElem?_eq_getElem h];rfl)
theorem idxE {W:World} {a:Option Addr} {c:Nat} {l:List Nat} {p:Nat->Bool} {C:HP} {k:FuncId} {cap:List Value} (hl:l.length<=1099511627776)
  (hf:∀g∈l,Cn p_ k ([pE g]++cap) W [C] (fun _:Unit=> .bool (p g)) (fun _=>[C])):
  Cn p_ 105 [.slice a l.length c,.func (.func k) #[] cap.toArray] W [Sl 1 65 a c l.length (l.map pE),C]
   (fun i:{i:Int // (i= -1/\∀g∈l,p g=false)\/∃j:Nat,∃h:j<l.length,i=(j:Int)/\p l[j]=true/\∀g∈l.take j,p g=false}=> .int .i64 i.1) (fun _=>[Sl 1 65 a c l.length (l.map pE),C]):=by
 (refine S.slices_IndexFunc_cache_entry_cache_entry_s.cn fun F=>?_;unfold S.slices_IndexFunc_cache_entry_cache_entry;simp only[ca_,na_])
 refine e_slfacts .here fun h1 h2 h3 hs=>?_
 refine o_ v_len (e_loop1 (fun m y=>pu (∃i:Nat,m+i=l.length/\y= .int .i64 (i:Int)/\∀g∈l.take i,p g=false)::Sl 1 65 a c l.length (l.map pE)::C::F) l.length ?_ ?_)
 ·refine .pu ⟨0,rfl,rfl,by simp⟩ ?_
  exact im_
 intro m ds y
 refine e_pu .here fun hi=>?_
 obtain⟨i,hmi,rfl,hno⟩:=hi
 refine e_ask v_lss .nil (fun h=>?_) (fun h=>?_)
 ·have hin:i<l.length:=by omega
  obtain⟨g,rfl⟩:=hs (by omega)
  refine e_condT (o_ (v_ia1 i rfl hin) ?_)
  refine p_op (ld_pE hin) ?_
  refine e_callC (hf _ (List.getElem_mem hin)) (by(repeat(first|exact Picks.nil|(apply Picks.cons;(focus repeat constructor))))) fun _=>?_
  refine nr_ ?_
  cases hp:p l[i]with
  |true=>
   refine e_condT (e_ret ⟨(i:Int),.inr ⟨i,hin,rfl,hp,hno⟩⟩ rfl ?_)
   exact im_
  |false=>
   refine e_condF (ad_ ?_)
   refine e_next1 (m-1) (by omega) (.pu ⟨i+1,by omega,by norm_cast,?_⟩ ?_)
   ·rw[List.take_succ_eq_append_getElem hin]
    intro g hg
    rcases List.mem_append.1 hg with hg|hg
    ·exact hno g hg
    ·rw[List.mem_singleton.1 hg];exact hp
   exact im_
 ·have:i=l.length:=by omega
  subst this
  rw[List.take_length]at hno
  refine e_condF (e_ret ⟨-1,.inl ⟨rfl,hno⟩⟩ rfl ?_)
  exact im_
theorem take_set {α:Type}:∀ {xs:List α} {i:Nat} (v:α),i<xs.length->(xs.set i v).take (i+1)=xs.take i++[v]
 |x::xs,0,v,_=>by simp
 |x::xs,i+1,v,h=>by simp only[List.set_cons_succ,List.take_succ_cons,List.cons_append];rw[take_set v (by simpa using h)]
theorem drop_set {α:Type}:∀ {xs:List α} {i j:Nat} (v:α),i<j->(xs.set i v).drop j=xs.drop j
 |[],_,_,_,_=>by simp
 |x::xs,0,j+1,v,_=>by simp
 |x::xs,i+1,j+1,v,h=>by simp only[List.set_cons_succ,List.drop_succ_cons];exact drop_set v (by omega)
theorem delE {W:World} {a:Option Addr} {c:Nat} {l:List Nat} {p:Nat->Bool} {C:HP} {k:FuncId} {cap:List Value} (hl:l.length<=1099511627776)
  (hf:∀g∈l,Cn p_ k ([pE g]++cap) W [C] (fun _:Unit=> .bool (p g)) (fun _=>[C])):
  Cn p_ 79 [.slice a l.length c,.func (.func k) #[] cap.toArray] W [Sl 1 65 a c l.length (l.map pE),C]
   (fun _:Unit=> .slice a (l.filter fun g=>!p g).length c) (fun _=>[Sl 1 65 a c (l.filter fun g=>!p g).length ((l.filter fun g=>!p g).map pE),C]):=by
 (refine S.slices_DeleteFunc_cache_entry_cache_entry_s.cn fun F=>?_;unfold S.slices_DeleteFunc_cache_entry_cache_entry;simp only[ca_,na_])
 refine e_slfacts .here fun h1 h2 h3 hs=>?_
 refine e_call (idxE hl hf) (by(repeat(first|exact Picks.nil|(apply Picks.cons;(focus repeat constructor))))) fun i=>?_
 obtain⟨i,hi⟩:=i
 refine nr_ ?_
 rcases hi with ⟨rfl,hno⟩|⟨i,hil,rfl,hpi,hno⟩
 ·refine o_ v_eql ?_
  rw[dT_ rfl]
  have hfl:(l.filter fun g=>!p g)=l:=List.filter_eq_self.2 fun g hg=>by rw[hno g hg];rfl
  rw[hfl]
  refine e_condT (rt_ () ?_)
  exact im_
 refine o_ v_eql ?_
 rw[dF_ (by omega)]
 obtain⟨g,rfl⟩:=hs (by omega)
 have hf0:((l.take (i+1)).filter fun g=>!p g)=l.take i:=by
  rw[List.take_succ_eq_append_getElem hil,List.filter_append,List.filter_eq_self.2 fun g hg=>by rw[hno g hg];rfl]
  simp[hpi]
 refine e_condF (ad_ ?_)
 refine e_loop2 (fun m x y=>[ex fun s:(Nat × Nat) × List Value=>all [pu (m+s.1.2=l.length/\s.1.1<s.1.2/\x= .int .i64 (s.1.1:Int)/\y= .int .i64 (s.1.2:Int)/\s.2.length=l.length/\s.1.1=((l.take s.1.2).filter fun g=>!p g).length/\s.2.take s.1.1=((l.take s.1.2).filter fun g=>!p g).map pE/\s.2.drop s.1.2=(l.drop s.1.2).map pE),Sl 1 65 (some ⟨g,0,none⟩) c l.length s.2,C]]++F) (l.length-(i+1)) ?_ ?_
 ·refine .ex ((i,i+1),l.map pE) (.all ?_)
  refine nr_ ?_
  refine .pu ⟨by omega,by omega,rfl,by norm_cast,by rw[List.length_map],by rw[hf0,List.length_take];omega,by rw[hf0,List.map_take],by rw[List.map_drop]⟩ ?_
  exact im_
 intro m ds x y
 refine nr_ ?_
 refine e_ex Pick.here fun s=>e_all Pick.here ?_
 obtain⟨⟨u,j⟩,xs⟩:=s
 refine nr_ ?_
 refine e_pu Pick.here fun hi=>?_
 obtain⟨hmj,huj,rfl,rfl,hxl,hul,htk,hdr⟩:=hi
 (try dsimp only at hmj huj hxl hul htk hdr)
 refine o_ v_len (e_ask v_lss .nil (fun h=>?_) (fun h=>?_))
 ·have hjl:j<l.length:=by omega
  have hxj:xs[j]? =some (pE l[j]):=by
   have:=congrArg (fun t=>t[0]?) hdr
   simpa [List.getElem?_drop,List.getElem?_eq_getElem hjl]using this
  have htj:((l.take (j+1)).filter fun g=>!p g)=((l.take j).filter fun g=>!p g)++(if p l[j]then []else [l[j]]):=by
   rw[List.take_succ_eq_append_getElem hjl,List.filter_append]
   congr 1
   cases hpl:p l[j] <;> simp[hpl]
  have hdr':xs.drop (j+1)=(l.drop (j+1)).map pE:=by
   have:=congrArg (fun t=>t.drop 1) hdr
   simpa [List.drop_drop,<- List.map_drop]using this
  have hld:RunV p_ W [Sl 1 65 (some ⟨g,0,none⟩) c l.length xs] (sLoad 65 (.pointer (some ⟨g,0+j,none⟩))) (pE l[j]):=by
   rw[Nat.zero_add]
   exact v_ldSl hxj
  refine e_condT (o_ (v_ia1 j rfl hjl) ?_)
  refine p_op hld ?_
  refine e_callC (hf _ (List.getElem_mem hjl)) (by(repeat(first|exact Picks.nil|(apply Picks.cons;(focus repeat constructor))))) fun _=>?_
  refine nr_ ?_
  refine o_ v_not ?_
  cases hp:p l[j]with
  |true=>
   rw[hp,if_pos rfl,List.append_nil]at htj
   refine e_condF (ad_ ?_)
   refine e_next2 (m-1) (by omega) (.ex ((u,j+1),xs) (.all ?_))
   refine nr_ ?_
   refine .pu ⟨by omega,by omega,rfl,by norm_cast,hxl,by rw[htj];exact hul,by rw[htj];exact htk,hdr'⟩ ?_
   exact im_
  |false=>
   rw[hp]at htj
   simp only[Bool.false_eq_true,if_false]at htj
   refine e_condT (o_ (v_ia1 u rfl (by omega)) ?_)
   rw[Nat.zero_add]
   refine e_stSl (by(repeat constructor):Pick _ (Sl 1 65 (some ⟨g,0,none⟩) c l.length xs) _) (by omega) ?_
   refine ad_ ?_
   refine ad_ ?_
   refine e_next2 (m-1) (by omega) (.ex ((u+1,j+1),xs.set u (pE l[j])) (.all ?_))
   refine nr_ ?_
   refine .pu ⟨by omega,by omega,by norm_cast,by norm_cast,by rw[List.length_set];exact hxl,by rw[htj,List.length_append,<- hul];rfl,by rw[htj,take_set _ (by omega),htk,List.map_append];rfl,by rw[drop_set _ (by omega)];exact hdr'⟩ ?_
   exact im_
 ·have:j=l.length:=by omega
  subst this
  rw[List.take_length]at hul htk
  refine e_condF (o_ (v_sll u rfl (by omega)) ?_)
  rw[if_neg (by omega:¬c=u)]
  simp only[Option.map_some,addr_add,Nat.zero_add,Nat.mul_one]
  refine e_clear (by(repeat constructor):Pick _ (Sl 1 65 (some ⟨g,0,none⟩) c l.length xs) _) (by omega) (by omega) ?_
  refine o_ (v_slh0 u rfl (by omega)) ?_
  refine e_slcut (m:=u) .here (by omega) ?_
  rw[Nat.mul_one,List.append_assoc,List.take_append_of_le_length (by rw[List.length_take];omega),List.take_take,Nat.min_self,htk,hul]
  refine rt_ () ?_
  exact im_
end Go.Proofs.YthomhkpedghhgaaGreatDoor.FD
namespace Go.Proofs.YthomhkpedghhgaaGreatDoor.Sl
open Go Go.RowKit Sh
variable {P:Program} {W:World} {L L' L'':List HP} {Kp:PK} {k:Value->WP} {α:Type} [DecidableEq α]
theorem bl_out {F:α->HP}{i:α}:∀(l:List α),i∈l->l.Nodup->∀ {h:Frag},all (l.map F) W h->star (F i) (all ((l.filter fun j=>decide (j≠i)).map F)) W h
 |[],hi,_,_,_=>by simp at hi
 |j::l,hi,hn,h,H=>by
  rw[List.nodup_cons]at hn
  by_cases c:j=i
  ·subst c
   have e:(List.filter (fun x=>decide (x≠j)) (j::l))=l:=by
    rw[List.filter_cons_of_neg (by simp)]
    exact List.filter_eq_self.2 fun x hx=>by
     simp only[ne_eq,decide_not,Bool.not_eq_eq_eq_not,Bool.not_true,decide_eq_false_iff_not]
     rintro rfl
     exact hn.1 hx
   rw[e]
   exact H
  ·have hi':i∈l:=by
    rcases List.mem_cons.1 hi with e|e
    ·exact absurd e.symm c
    ·exact e
   rw[List.filter_cons_of_pos (by simpa using c),List.map_cons]
   have:=star_mono (fun h=>bl_out (i:=i) l hi' hn.2 (h:=h)) H
   exact star_swap this
theorem bl_in {F:α->HP}{i:α}:∀(l:List α),i∈l->l.Nodup->∀ {h:Frag},star (F i) (all ((l.filter fun j=>decide (j≠i)).map F)) W h->all (l.map F) W h
 |[],hi,_,_,_=>by simp at hi
 |j::l,hi,hn,h,H=>by
  rw[List.nodup_cons]at hn
  by_cases c:j=i
  ·subst c
   have e:(List.filter (fun x=>decide (x≠j)) (j::l))=l:=by
    rw[List.filter_cons_of_neg (by simp)]
    exact List.filter_eq_self.2 fun x hx=>by
     simp only[ne_eq,decide_not,Bool.not_eq_eq_eq_not,Bool.not_true,decide_eq_false_iff_not]
     rintro rfl
     exact hn.1 hx
   rw[e]at H
   exact H
  ·have hi':i∈l:=by
    rcases List.mem_cons.1 hi with e|e
    ·exact absurd e.symm c
    ·exact e
   rw[List.filter_cons_of_pos (by simpa using c),List.map_cons]at H
   exact star_mono (fun h=>bl_in (i:=i) l hi' hn.2 (h:=h)) (star_swap H)
def BL (l:List α)(F:α->HP):HP:=all (l.map F)
def BO (l:List α)(F:α->HP)(i:α):HP:=all ((l.filter fun j=>decide (j≠i)).map F)
theorem BO.congr {l:List α}{i:α}{F F':α->HP}(h:∀j∈l,j≠i->F j=F' j):BO l F i=BO l F' i:=by
 unfold BO
 congr 1
 exact List.map_congr_left fun j hj=>by
  rw[List.mem_filter]at hj
  exact h j hj.1 (by simpa using hj.2)
theorem BL.congr {l:List α}{F F':α->HP}(h:∀j∈l,F j=F' j):BL l F=BL l F':=by
 unfold BL
 congr 1
 exact List.map_congr_left h
theorem two_up {A B:HP}{h:Frag}(H:star A B W h):all [A,B] W h:=by
 obtain⟨k1,k2,b1,b2,d,t1,t2⟩:=H
 exact⟨k1,k2,b1,⟨k2,fun _=>none,b2,trivial,fun _=> .inr rfl,fun _ _ c=>c,fun _ _ c=>by cases c⟩,d,t1,t2⟩
theorem two_down {A B:HP}{h:Frag}(H:all [A,B] W h):star A B W h:=by
 obtain⟨k1,k2,b1,⟨k3,k4,b2,_,_,t3,_⟩,d,t1,t2⟩:=H
 refine⟨k1,k3,b1,b2,fun j=>?_,t1,fun j o c=>t2 j o (t3 j o c)⟩
 rcases d j with c|c
 ·exact .inl c
 ·right
  cases c':k3 j with
  |none=>rfl
  |some o=>rw[t3 j o c']at c;cases c
theorem e_bl {l:List α}{F:α->HP}{S:WP}(p:Pick L (BL l F) L')(i:α)(hi:i∈l)(hn:l.Nodup)(h:Ent W (F i::BO l F i::L') S):Ent W L S:=fun w hw=>by
 refine h w (sat.map (L:=BL l F::L') (fun f H=>?_) (hw.pick p))
 have H2:star (all [F i,BO l F i]) (all L') W f:=by
  obtain⟨h1,h2,ha,r⟩:=H
  exact⟨h1,h2,two_up (bl_out l hi hn ha),r⟩
 exact all_append' H2
theorem imp_bl {l:List α}{F F':α->HP}{M:List HP}(i:α)(hi:i∈l)(hn:l.Nodup)(hF:∀j∈l,j≠i->F j=F' j)(h:Imp W L (F' i::BO l F i::M)):Imp W L (BL l F'::M):=by
 refine .conv (B:=all [F' i,BO l F i]) (fun f H=>?_) (.all h)
 rw[BO.congr hF]at H
 exact bl_in l hi hn (two_down H)
theorem imp_bl0 {F:α->HP}{M:List HP}(h:Imp W L M):Imp W L (BL [] F::M):= .all (M:=M) (N:=[]) h
theorem imp_blC {l:List α}{i:α}{F F':α->HP}{M:List HP}(hF:∀j∈l,F j=F' j)(h:Imp W L (F' i::BL l F::M)):Imp W L (BL (i::l) F'::M):=by
 refine .conv (B:=all [F' i,BL l F]) (fun f H=>?_) (.all h)
 rw[BL.congr hF]at H
 exact two_down H
theorem bl_has {F:α->HP}{g:α->Nat}(hF:∀j h,F j W h->∃o,h (g j)=some o):∀(l:List α) {i:α} {h:Frag},i∈l->all (l.map F) W h->∃o,h (g i)=some o
 |[],_,_,hi,_=>by simp at hi
 |j::l,i,h,hi,H=>by
  obtain⟨h1,h2,ha,hb,_,s1,s2⟩:=H
  rcases List.mem_cons.1 hi with rfl|hi
  ·obtain⟨o,ho⟩:=hF _ _ ha
   exact⟨o,s1 _ _ ho⟩
  ·obtain⟨o,ho⟩:=bl_has hF l hi hb
   exact⟨o,s2 _ _ ho⟩
theorem nodup_le {l m:List α}:l.Nodup->(∀x∈l,x∈m)->l.length<=m.length:=by
 induction l generalizing m with
 |nil=>intro _ _;simp
 |cons x l ih=>
  intro hn hs
  rw[List.nodup_cons]at hn
  have hx:=hs x List.mem_cons_self
  have:=ih (m:=m.erase x) hn.2 fun y hy=>(List.mem_erase_of_ne (by rintro rfl;exact hn.1 hy)).2 (hs y (List.mem_cons_of_mem _ hy))
  rw[List.length_erase_of_mem hx]at this
  have:=List.length_pos_of_mem hx
  simp only[List.length_cons]
  omega
end Go.Proofs.YthomhkpedghhgaaGreatDoor.Sl
namespace Go.Proofs.YthomhkpedghhgaaGreatDoor.FD
structure En where
 key:List UInt8
 met:List UInt8
 rf:List Fd
 vf:List Fd
 st:Int
 xf:List Fd
 xb:List UInt8
 asked:Int
 came:Int
 cost:Int
structure Cs where
 al:List Nat
 E:Nat->En
 ord:List Nat
 ks:List (List UInt8)
 of_:List UInt8->List Nat
 bound:Int
 bytes:Int
def cst (E:Nat->En):List Nat->Int
 |[]=>0
 |g::r=>(E g).cost+cst E r
structure EnOk (T:Nat)(e:En):Prop where
 rf:zF e.rf<=T
 vf:zF e.vf<=T
 xf:zF e.xf<=T
 xb:e.xb.length<=T
 c1:64<=e.cost
theorem EnOk.up {T U:Nat}{e:En}(h:EnOk T e)(hu:T<=U):EnOk U e:=⟨by have:=h.rf;omega,by have:=h.vf;omega,by have:=h.xf;omega,by have:=h.xb;omega,h.c1⟩
structure CsOk (T:Nat)(S:Cs):Prop where
 t:T<=1048576
 aln:S.al.Nodup
 ksn:S.ks.Nodup
 on:S.ord.Nodup
 oa:∀g∈S.ord,g∈S.al
 fo:∀k,∀g∈S.of_ k,g∈S.ord/\(S.E g).key=k
 fb:∀g∈S.ord,g∈S.of_ (S.E g).key
 fn:∀k,(S.of_ k).Nodup
 fk:∀k,S.of_ k≠[]->k∈S.ks
 en:∀g∈S.al,EnOk T (S.E g)
 by_:S.bytes=cst S.E S.ord
 le:S.bytes<=S.bound
 b0:0<=S.bound
 b1:S.bound<=1048576
theorem CsOk.up {T U:Nat}{S:Cs}(h:CsOk T S)(hu:T<=U)(hU:U<=1048576):CsOk U S:={h with t:=hU,en:=fun g hg=>(h.en g hg).up hu}
theorem cst_nn {E:Nat->En}{T:Nat}:∀ {l:List Nat},(∀g∈l,EnOk T (E g))->64 * (l.length:Int)<=cst E l
 |[],_=>by simp[cst]
 |g::r,h=>by
  have h1:=(h g List.mem_cons_self).c1
  have h2:=cst_nn (l:=r) fun x hx=>h x (List.mem_cons_of_mem _ hx)
  simp only[cst,List.length_cons]
  omega
theorem cst_filter {E:Nat->En}{g:Nat}:∀ {l:List Nat},l.Nodup->g∈l->cst E (l.filter fun x=>!decide (x=g))=cst E l-(E g).cost
 |[],_,h=>by simp at h
 |x::r,hn,h=>by
  rw[List.nodup_cons]at hn
  by_cases c:x=g
  ·subst c
   rw[List.filter_cons_of_neg (by simp)]
   have:(r.filter fun y=>!decide (y=x))=r:=List.filter_eq_self.2 fun y hy=>by
    simp only[Bool.not_eq_true',decide_eq_false_iff_not]
    rintro rfl
    exact hn.1 hy
   rw[this]
   simp only[cst]
   omega
  ·have hr:g∈r:=by
    rcases List.mem_cons.1 h with e|e
    ·exact absurd e.symm c
    ·exact e
   rw[List.filter_cons_of_pos (by simpa using c)]
   have:=cst_filter (E:=E) hn.2 hr
   simp only[cst]
   omega
theorem cst_app {E:Nat->En}{l:List Nat}{g:Nat}:cst E (l++[g])=cst E l+(E g).cost:=by
 induction l with
 |nil=>simp[cst]
 |cons x r ih=>simp only[List.cons_append,cst,ih];omega
theorem cst_congr {E E':Nat->En}:∀ {l:List Nat},(∀g∈l,E g=E' g)->cst E l=cst E' l
 |[],_=>rfl
 |g::r,h=>by
  have h1:=h g List.mem_cons_self
  have h2:=cst_congr (E:=E) (E':=E') (l:=r) fun x hx=>h x (List.mem_cons_of_mem _ hx)
  simp only[cst,h1,h2]
theorem CsOk.len {T:Nat}{S:Cs}(h:CsOk T S):64 * (S.ord.length:Int)<=S.bytes:=by
 rw[h.by_]
 exact cst_nn fun g hg=>h.en g (h.oa g hg)
theorem CsOk.ordl {T:Nat}{S:Cs}(h:CsOk T S):S.ord.length<=1048576:=by
 have h1:=h.len
 have h2:=h.le
 have h3:=h.b1
 omega
theorem CsOk.ofl {T:Nat}{S:Cs}(h:CsOk T S)(k:List UInt8):(S.of_ k).length<=1048576:=by
 have:=Sl.nodup_le (h.fn k) fun g hg=>(h.fo k g hg).1
 have:=h.ordl
 omega
theorem cst_mem {T:Nat}{E:Nat->En}{g:Nat}{l:List Nat}(h:∀g∈l,EnOk T (E g))(hn:l.Nodup)(hg:g∈l):(E g).cost<=cst E l:=by
 have h1:=cst_filter (E:=E) hn hg
 have h2:=cst_nn (E:=E) (T:=T) (l:=l.filter fun x=>!decide (x=g)) fun x hx=>h x (List.mem_filter.1 hx).1
 omega
theorem CsOk.cost {T:Nat}{S:Cs}(h:CsOk T S){g:Nat}(hg:g∈S.ord):(S.E g).cost<=S.bytes:=by
 rw[h.by_]
 exact cst_mem (fun g hg=>h.en g (h.oa g hg)) h.on hg
def dropS (S:Cs)(g:Nat):Cs:={S with
 ord:=S.ord.filter fun x=>!decide (x=g)
 bytes:=S.bytes-(S.E g).cost
 of_:=fun k=>if k=(S.E g).key then(S.of_ k).filter (fun x=>!decide (x=g))else S.of_ k}
theorem drop_ok {T : Nat} {S : Cs} (h : CsOk T S) {g : Nat} (hg : g ∈ S.ord) : CsOk T (dropS S g) := { h with
  on := h.on.filter _
  oa := fun x hx => h.oa x (List.mem_filter.1 hx).1
  fo := fun k x hx => by
    have hx' : x ∈ S.of_ k ∧ x ≠ g := by
      simp only [dropS] at hx
      split at hx
      · obtain ⟨a, b⟩ := List.mem_filter.1 hx
        exact ⟨a, by simpa using b⟩
      · rename_i c
        exact ⟨hx, by rintro rfl; exact c (h.fo k x hx).2.symm⟩
    obtain ⟨a, b⟩ := h.fo k x hx'.1
    exact ⟨List.mem_filter.2 ⟨a, by simpa using hx'.2⟩, b⟩
  fb := fun x hx => by
    obtain ⟨a, b⟩ := List.mem_filter.1 hx
    have := h.fb x a
    show x ∈ (if (S.E x).key = (S.E g).key then (S.of_ (S.E x).key).filter (fun x => !decide (x = g)) else S.of_ (S.E x).key)
    split
    · exact List.mem_filter.2 ⟨this, b⟩
    · exact this
  fn := fun k => by
    simp only [dropS]
    split
    · exact (h.fn k).filter _
    · exact h.fn k
  fk := fun k hk => by
    apply h.fk k
    simp only [dropS] at hk
    split at hk
    · intro e; rw [e] at hk; exact hk rfl
    · exact hk
  by_ := by
    show S.bytes - _ = cst S.E (S.ord.filter fun x => !decide (x = g))
    rw [cst_filter h.on hg, h.by_]
  le := by
    have h1 := h.le
    have h2 := (h.en g (h.oa g hg)).c1
    show S.bytes - (S.E g).cost ≤ S.bound
    omega }
structure Sub (S' S:Cs):Prop where
 al:S'.al=S.al
 E:S'.E=S.E
 ks:S'.ks=S.ks
 bound:S'.bound=S.bound
 ord:∀g∈S'.ord,g∈S.ord
 of_:∀k,∀g∈S'.of_ k,g∈S.of_ k
theorem Sub.refl (S:Cs):Sub S S:=⟨rfl,rfl,rfl,rfl,fun _ h=>h,fun _ _ h=>h⟩
theorem Sub.trans {A B C:Cs}(h:Sub A B)(k:Sub B C):Sub A C:=⟨h.al.trans k.al,h.E.trans k.E,h.ks.trans k.ks,h.bound.trans k.bound,fun g hg=>k.ord g (h.ord g hg),fun q g hg=>k.of_ q g (h.of_ q g hg)⟩
theorem sub_drop (S:Cs)(g:Nat):Sub (dropS S g) S:=⟨rfl,rfl,rfl,rfl,fun x hx=>(List.mem_filter.1 hx).1,fun k x hx=>by
 simp only[dropS]at hx
 split at hx
 ·exact(List.mem_filter.1 hx).1
 ·exact hx⟩
def touchS (S:Cs)(g:Nat):Cs:={S with ord:=(S.ord.filter fun x=>!decide (x=g))++[g]}
theorem nodup_app {l:List Nat}{g:Nat}(h:l.Nodup)(hg:g∉l):(l++[g]).Nodup:=by
 rw[List.nodup_append]
 exact⟨h,by simp,fun a ha b hb=>by rw[List.mem_singleton.1 hb];rintro rfl;exact hg ha⟩
theorem touch_mem {S:Cs}{g x:Nat}(hg:g∈S.ord):x∈(touchS S g).ord↔x∈S.ord:=by
 simp only[touchS,List.mem_append,List.mem_filter,List.mem_singleton]
 constructor
 ·rintro(⟨h,_⟩|rfl)
  ·exact h
  ·exact hg
 ·intro h
  by_cases c:x=g
  ·exact .inr c
  ·exact .inl ⟨h,by simpa using c⟩
theorem touch_ok {T : Nat} {S : Cs} (h : CsOk T S) {g : Nat} (hg : g ∈ S.ord) : CsOk T (touchS S g) := { h with
  on := nodup_app (h.on.filter _) (by simp)
  oa := fun x hx => h.oa x ((touch_mem hg).1 hx)
  fo := fun k x hx => ⟨(touch_mem hg).2 (h.fo k x hx).1, (h.fo k x hx).2⟩
  fb := fun x hx => h.fb x ((touch_mem hg).1 hx)
  by_ := by
    show S.bytes = cst S.E _
    rw [show (touchS S g).ord = (S.ord.filter fun x => !decide (x = g)) ++ [g] from rfl, cst_app, cst_filter h.on hg, h.by_]
    omega }
def addS (S:Cs)(g:Nat)(e:En):Cs:={S with
 al:=g::S.al
 E:=fun x=>if x=g then e else S.E x
 ord:=S.ord++[g]
 ks:=if e.key∈S.ks then S.ks else e.key::S.ks
 of_:=fun k=>if k=e.key then S.of_ k++[g]else S.of_ k
 bytes:=S.bytes+e.cost}
theorem add_ok {T : Nat} {S : Cs} (h : CsOk T S) {g : Nat} (hg : g ∉ S.al) {e : En} (he : EnOk T e) (hc : S.bytes + e.cost ≤ S.bound) : CsOk T (addS S g e) := by
  have hgo : g ∉ S.ord := fun c => hg (h.oa g c)
  have hE : ∀ x ∈ S.al, (addS S g e).E x = S.E x := fun x hx => by
    show (if x = g then e else S.E x) = _
    rw [if_neg (by rintro rfl; exact hg hx)]
  have hEg : (addS S g e).E g = e := if_pos rfl
  exact { h with
    aln := List.nodup_cons.2 ⟨hg, h.aln⟩
    ksn := by
      show (if e.key ∈ S.ks then S.ks else e.key :: S.ks).Nodup
      split
      · exact h.ksn
      · rename_i c; exact List.nodup_cons.2 ⟨c, h.ksn⟩
    on := nodup_app h.on hgo
    oa := fun x hx => by
      rcases List.mem_append.1 hx with hx | hx
      · exact List.mem_cons_of_mem _ (h.oa x hx)
      · rw [List.mem_singleton.1 hx]; exact List.mem_cons_self
    fo := fun k x hx => by
      have old : x ∈ S.of_ k → x ∈ (addS S g e).ord ∧ ((addS S g e).E x).key = k := fun hx => by
        obtain ⟨a, b⟩ := h.fo k x hx
        exact ⟨List.mem_append_left _ a, by rw [hE x (h.oa x a)]; exact b⟩
      simp only [addS] at hx
      split at hx
      · rename_i c
        rcases List.mem_append.1 hx with hx | hx
        · exact old hx
        · rw [List.mem_singleton.1 hx, hEg]
          exact ⟨List.mem_append_right _ (List.mem_singleton.2 rfl), c.symm⟩
      · exact old hx
    fb := fun x hx => by
      show x ∈ (if ((addS S g e).E x).key = e.key then S.of_ ((addS S g e).E x).key ++ [g] else S.of_ ((addS S g e).E x).key)
      rcases List.mem_append.1 hx with hx | hx
      · have := h.fb x hx
        rw [hE x (h.oa x hx)]
        split
        · exact List.mem_append_left _ this
        · exact this
      · rw [List.mem_singleton.1 hx, hEg, if_pos rfl]
        exact List.mem_append_right _ (List.mem_singleton.2 rfl)
    fn := fun k => by
      show (if k = e.key then S.of_ k ++ [g] else S.of_ k).Nodup
      split
      · exact nodup_app (h.fn k) fun c => hgo (h.fo k g c).1
      · exact h.fn k
    fk := fun k hk => by
      show k ∈ (if e.key ∈ S.ks then S.ks else e.key :: S.ks)
      by_cases c : k = e.key
      · subst c
        split
        · assumption
        · exact List.mem_cons_self
      · have : S.of_ k ≠ [] := by
          simp only [addS] at hk
          rwa [if_neg c] at hk
        have := h.fk k this
        split
        · exact this
        · exact List.mem_cons_of_mem _ this
    en := fun x hx => by
      rcases List.mem_cons.1 hx with rfl | hx
      · rw [hEg]; exact he
      · rw [hE x hx]; exact h.en x hx
    by_ := by
      show S.bytes + e.cost = cst (addS S g e).E (S.ord ++ [g])
      rw [cst_app, hEg, cst_congr (E := (addS S g e).E) (E' := S.E) fun x hx => hE x (h.oa x hx), h.by_]
    le := hc }
def fitsF (e:En)(R:List Fd):Bool:=(variesF e.xf).all fun n=>decide (valsF e.vf n=valsF R n)
def findF (S:Cs)(key:List UInt8)(R:List Fd):Option Nat:=(S.of_ key).reverse.find? fun g=>fitsF (S.E g) R
theorem find_mem {S:Cs}{key:List UInt8}{R:List Fd}{g:Nat}(h:findF S key R=some g):g∈S.of_ key/\fitsF (S.E g) R=true:=by
 unfold findF at h
 exact⟨List.mem_reverse.1 (List.mem_of_find?_eq_some h),List.find?_some (p:=fun g=>fitsF (S.E g) R) h⟩
def emptyS (bound:Int):Cs:=⟨[],fun _=>⟨[],[],[],[],0,[],[],0,0,0⟩,[],[],fun _=>[],bound,0⟩
theorem empty_ok {b:Int}(h0:0<=b)(h1:b<=1048576):CsOk 0 (emptyS b) where
 t:=by decide
 aln:=List.nodup_nil
 ksn:=List.nodup_nil
 on:=List.nodup_nil
 oa:=fun _ h=>by cases h
 fo:=fun _ _ h=>by cases h
 fb:=fun _ h=>by cases h
 fn:=fun _=>List.nodup_nil
 fk:=fun _ h=>absurd rfl h
 en:=fun _ h=>by cases h
 by_:=rfl
 le:=h0
 b0:=h0
 b1:=h1
end Go.Proofs.YthomhkpedghhgaaGreatDoor.FD
namespace Go.Proofs.YthomhkpedghhgaaGreatDoor.Sl
open Go Go.RowKit Sh
variable {P:Program} {W:World} {L L':List HP} {Kp:PK} {k:Value->WP}
variable {κ:Type} [DecidableEq κ] {enc:κ->Value} {t kt:TypeId}
def delM (q:κ)(m:List (κ × Value)):List (κ × Value):=match fnd q m 0 with
 |some (i,_)=>m.eraseIdx i
 |none=>m
theorem fnd_get (q:κ):∀(m:List (κ × Value)) (i j:Nat) (v:Value),fnd q m i=some (j,v)->i<=j/\m[j-i]? =some (q,v)
 |[],i,j,v,h=>by simp[fnd]at h
 |p::m,i,j,v,h=>by
  unfold fnd at h
  by_cases c:q=p.1
  ·rw[if_pos c]at h
   simp at h
   obtain⟨rfl,rfl⟩:=h
   simp[c]
  ·rw[if_neg c]at h
   obtain⟨h1,h2⟩:=fnd_get q m (i+1) j v h
   refine⟨by omega,?_⟩
   rw[show j-i=(j-(i+1))+1 by omega];simpa using h2
theorem fnd_none (q:κ):∀(m:List (κ × Value)) (i:Nat),fnd q m i=none↔q∉m.map (·.1)
 |[],i=>by simp[fnd]
 |p::m,i=>by
  unfold fnd
  by_cases c:q=p.1
  ·rw[if_pos c];simp[c]
  ·rw[if_neg c,fnd_none q m (i+1)];simp[c]
theorem fnd_shift (q:κ):∀(m:List (κ × Value)) (i j:Nat),(fnd q m i).map (·.2)=(fnd q m j).map (·.2)
 |[],i,j=>rfl
 |p::m,i,j=>by
  unfold fnd
  split
  ·rfl
  ·exact fnd_shift q m (i+1) (j+1)
theorem getM_cons (q:κ)(p:κ × Value)(m:List (κ × Value)):getM q (p::m)=if q=p.1 then some p.2 else getM q m:=by
 unfold getM
 rw[fnd]
 split
 ·rfl
 ·exact fnd_shift q m 1 0
theorem getM_none {q:κ}{m:List (κ × Value)}:getM q m=none↔q∉m.map (·.1):=by
 unfold getM
 rw[Option.map_eq_none_iff,fnd_none]
theorem delM_cons (q:κ)(p:κ × Value)(m:List (κ × Value)):delM q (p::m)=if q=p.1 then m else p::delM q m:=by
 unfold delM
 rw[fnd]
 by_cases c:q=p.1
 ·simp[c]
 ·rw[if_neg c,if_neg c]
  have key:∀(m:List (κ × Value)) (i:Nat),(match fnd q m (i+1)with|some (j,_)=>(p::m).eraseIdx (j-i)|none=>p::m)=p::(match fnd q m i with|some (j,_)=>m.eraseIdx (j-i)|none=>m):=by
   intro m
   have sh:∀(m:List (κ × Value)) (i:Nat),fnd q m (i+1)=(fnd q m i).map fun x=>(x.1+1,x.2):=by
    intro m
    induction m with
    |nil=>intro i;rfl
    |cons p m ih=>
     intro i
     unfold fnd
     split
     ·rfl
     ·exact ih (i+1)
   intro i
   rw[sh]
   cases hf:fnd q m i with
   |none=>rfl
   |some x=>
    obtain⟨j,v⟩:=x
    have:=(fnd_get q m i j v hf).1
    simp only[Option.map_some]
    rw[show j+1-i=(j-i)+1 by omega];rfl
  have:=key m 0
  simpa using this
theorem delM_keys (q:κ):∀m:List (κ × Value),((delM q m).map (·.1)).Sublist (m.map (·.1))
 |[]=>by simp[delM,fnd]
 |p::m=>by
  rw[delM_cons]
  split
  ·rw[List.map_cons];exact List.sublist_cons_self _ _
  ·rw[List.map_cons,List.map_cons];exact(delM_keys q m).cons_cons _
theorem getM_delM (q q':κ):∀m:List (κ × Value),(m.map (·.1)).Nodup->getM q' (delM q m)=if q'=q then none else getM q' m
 |[],_=>by simp[delM,fnd,getM]
 |p::m,h=>by
  rw[List.map_cons,List.nodup_cons]at h
  have ih:=getM_delM q q' m h.2
  rw[delM_cons]
  by_cases c:q=p.1
  ·rw[if_pos c,getM_cons]
   by_cases d:q'=q
   ·rw[if_pos d,d,c]
    exact getM_none.2 h.1
   ·rw[if_neg d,if_neg (by rw[<- c];exact d)]
  ·rw[if_neg c,getM_cons,getM_cons,ih]
   by_cases d:q'=p.1
   ·rw[if_pos d,if_neg (by rw[d];exact fun e=>c e.symm),if_pos d]
   ·rw[if_neg d,if_neg d]
theorem setM_keys (q:κ)(v:Value):∀m:List (κ × Value),(m.map (·.1)).Nodup->((setM q v m).map (·.1)).Nodup/\∀x,x∈(setM q v m).map (·.1)->x=q\/x∈m.map (·.1)
 |[],_=>by simp[setM]
 |p::m,h=>by
  rw[List.map_cons,List.nodup_cons]at h
  have ih:=setM_keys q v m h.2
  unfold setM
  by_cases c:q=p.1
  ·rw[if_pos c]
   refine⟨by rw[List.map_cons,List.nodup_cons];exact h,fun x hx=> .inr hx⟩
  ·rw[if_neg c]
   refine⟨?_,fun x hx=>?_⟩
   ·rw[List.map_cons,List.nodup_cons]
    refine⟨fun hx=>?_,ih.1⟩
    rcases ih.2 _ hx with e|e
    ·exact c e.symm
    ·exact h.1 e
   ·rw[List.map_cons,List.mem_cons]at hx
    rcases hx with e|e
    ·exact .inr (by rw[List.map_cons,e];exact List.mem_cons_self ..)
    ·rcases ih.2 _ e with e|e
     ·exact .inl e
     ·exact .inr (by rw[List.map_cons];exact List.mem_cons_of_mem _ e)
theorem map_erase {α β:Type}(f:α->β):∀(l:List α) (i:Nat),(l.eraseIdx i).map f=(l.map f).eraseIdx i
 |[],_=>by simp
 |x::l,0=>by simp
 |x::l,i+1=>by simp[map_erase f l i]
theorem Ents.del {es:Array MapEntry}{c i:Nat}{m:List (κ × Value)}(h:Ents enc es c m):Ents enc (es.eraseIdxIfInBounds i) c (m.eraseIdx i):=by
 have e0:(es.eraseIdxIfInBounds i).toList=es.toList.eraseIdx i:=by
  unfold Array.eraseIdxIfInBounds
  split
  ·simp
  ·rw[List.eraseIdx_of_length_le];simpa using Nat.le_of_not_lt ‹_›
 refine⟨?_,?_,?_⟩
 ·rw[e0,map_erase,map_erase,h.kvs]
 ·intro e he
  rw[e0]at he
  exact h.born e (List.mem_of_mem_eraseIdx he)
 ·rw[e0,map_erase]
  exact h.nodup.sublist (List.eraseIdx_sublist _ _)
theorem e_mapdel {e ty:TypeId}{g:Nat}{m:List (κ × Value)}{q:κ}{kt':TypeId}[ht:MapT P t kt e](K:KeyLaw P kt enc)(p:Pick L (MapIs g enc m) L')(h:Ent W (MapIs g enc (delM q m)::L') (k (.tuple #[]))):Ent W L (opN P (sDel #[t,kt'] ty [.map (some g),enc q]) Kp k):=fun w hw=>by
 obtain⟨es,c,he,hp⟩:=map_row (hw.pick p)
 have hg:=hp.pt_.1
 have hf:=findKey_run K q w he.kvs
 refine⟨?_⟩
 cases hq:fnd q m 0 with
 |none=>
  have:(sDel #[t,kt'] ty [.map (some g),enc q]).run P w= .ok (.value (.tuple #[])) {w with heap:=w.heap.setIfInBounds g (.map es c)}:=by
   simp[sDel,Builtin.delete_,run_underlying ht.ut,MapKept.run_getObj_map hg,K.check,hf,hq,Result.andThen,MapKept.run_setObj_map _ hg]
  rw[this]
  refine h _ (map_back ?_ (hp.putObj _))
  rw[show delM q m=m by simp[delM,hq]];exact he
 |some r=>
  obtain⟨i,u⟩:=r
  have:(sDel #[t,kt'] ty [.map (some g),enc q]).run P w= .ok (.value (.tuple #[])) {w with heap:=w.heap.setIfInBounds g (.map (es.eraseIdxIfInBounds i) c)}:=by
   simp[sDel,Builtin.delete_,run_underlying ht.ut,MapKept.run_getObj_map hg,K.check,hf,hq,Result.andThen,MapKept.run_setObj_map _ hg]
  rw[this]
  refine h _ (map_back ?_ (hp.putObj _))
  rw[show delM q m=m.eraseIdx i by simp[delM,hq]];exact he.del
def MapFn (g:Nat)(enc:κ->Value)(f:κ->Option Value):HP:=ex fun m=>all [pu ((m.map (·.1)).Nodup/\∀q,getM q m=f q),MapIs g enc m]
def updM (f:κ->Option Value)(q:κ)(v:Option Value):κ->Option Value:=fun x=>if x=q then v else f x
theorem e_mf {g:Nat}{f:κ->Option Value}{S:WP}(p:Pick L (MapFn g enc f) L')(h:∀m,(m.map (·.1)).Nodup->(∀q,getM q m=f q)->Ent W (MapIs g enc m::L') S):Ent W L S:=by
 refine e_ex p fun m=>e_all .here ?_
 refine e_pu .here fun hm=>h m hm.1 hm.2
theorem imp_mf {g:Nat}{f:κ->Option Value}{M:List HP}{m:List (κ × Value)}(p:Pick L (MapIs g enc m) L')(h1:(m.map (·.1)).Nodup)(h2:∀q,getM q m=f q)(h:Imp W L' M):Imp W L (MapFn g enc f::M):=
 .ex m (.all (.pu ⟨h1,h2⟩ (.pick p h)))
theorem e_setF {e:TypeId}{g:Nat}{f:κ->Option Value}{q:κ}{v:Value}[ht:MapT P t kt e](K:KeyLaw P kt enc)(p:Pick L (MapFn g enc f) L')(h:Ent W (MapFn g enc (updM f q (some v))::L') (k undef)):Ent W L (opN P (sMapSet t (.map (some g)) (enc q) v) Kp k):=
 e_mf p fun m h1 h2=>e_mapset K .here (e_imp (imp_mf .here (setM_keys q v m h1).1 (fun x=>by rw[getM_setM,h2];rfl) .refl) h)
theorem e_delF {e ty:TypeId}{g:Nat}{f:κ->Option Value}{q:κ}{kt':TypeId}[ht:MapT P t kt e](K:KeyLaw P kt enc)(p:Pick L (MapFn g enc f) L')(h:Ent W (MapFn g enc (updM f q none)::L') (k (.tuple #[]))):Ent W L (opN P (sDel #[t,kt'] ty [.map (some g),enc q]) Kp k):=
 e_mf p fun m h1 h2=>e_mapdel K .here (e_imp (imp_mf .here (h1.sublist (delM_keys q m)) (fun x=>by rw[getM_delM q x m h1,h2];rfl) .refl) h)
theorem e_mkF {e:TypeId}(enc:κ->Value)[ht:MapT P t kt e](h:∀g,Ent W (MapFn g enc (fun _=>none)::L) (k (.map (some g)))):Ent W L (opN P (sMkMap t none) Kp k):=
 e_mkmap enc fun g=>e_imp (imp_mf .here (by simp) (fun q=>by simp[getM,fnd]) .refl) (h g)
theorem v_eqMap {P:Program}{W:World}{t kt e:TypeId}{ox oy:Operand}{g:Nat}[ht:MapT P t kt e]:RunV P W [] (sEq .eql t ox oy (.map (some g)) (.map none)) (.bool false):=fun w _=>by
 have h:(Op.equal t (.map (some g)) (.map none)).run P w= .ok false w:=by
  unfold Op.equal Op.maxDepth Op.equalIn
  simp only[Sem.run_bind,run_underlying ht.ut,Result.andThen_ok]
  rfl
 simp[sEq,sv,eqGuard,binOp,h,Result.andThen]
end Go.Proofs.YthomhkpedghhgaaGreatDoor.Sl
namespace Go.Proofs.YthomhkpedghhgaaGreatDoor.Sl
open Go Go.RowKit Sh
theorem ba_eq {l m:List UInt8}:((⟨l.toArray⟩:ByteArray)==(⟨m.toArray⟩:ByteArray))=decide (l=m):=by
 rw[<- txt_eq,beq_toListBytes]
theorem keyS {P:Program}{kt:TypeId}(hk:P.underlying kt=some .string):KeyLaw P kt txt where
 check:=fun b k w=>MapKept.run_checkKey (n:=9999) (d:= .string) hk (by simp[MapKept.IsKey,txt]) b
 eq:=fun k k' w=>by
  unfold txt Op.equal Op.maxDepth
  have:=run_equalIn_string (P:=P) (w:=w) 9999 kt ⟨k.toArray⟩ ⟨k'.toArray⟩ hk
  rw[this,txt_eq]
 now:=⟨.string,hk,fun k k'=> .inr (by unfold txt;simp only[Instr.sameNow];rw[ba_eq])⟩
 same:=fun k=>by unfold txt;simp only[Instr.sameBits];rw[ba_eq];simp
end Go.Proofs.YthomhkpedghhgaaGreatDoor.Sl
namespace Go.Proofs.YthomhkpedghhgaaGreatDoor.FD
open Go Go.Proofs Go.RowKit Sh Sl T
abbrev Q2:=Option Addr × Nat
def IsE (g:Nat)(e:En):HP:=ex fun q:(Q2 × Q2) × (Q2 × Q2)=>all [pt g (.cells #[txt e.key,txt e.met,.slice q.1.1.1 e.rf.length q.1.1.2,.slice q.1.2.1 e.vf.length q.1.2.2,.int .i64 e.st,.slice q.2.1.1 e.xf.length q.2.1.2,.slice q.2.2.1 e.xb.length q.2.2.2,.int .i64 e.asked,.int .i64 e.came,.int .i64 e.cost] 72),
 Sl 2 68 q.1.1.1 q.1.1.2 e.rf.length (e.rf.flatMap pFd),Sl 2 68 q.1.2.1 q.1.2.2 e.vf.length (e.vf.flatMap pFd),Sl 2 68 q.2.1.1 q.2.1.2 e.xf.length (e.xf.flatMap pFd),Sl 1 5 q.2.2.1 q.2.2.2 e.xb.length (e.xb.map Sl.B)]
def rowsF (Z:Cs)(rw:List UInt8->Q2)(k:List UInt8):Option Value:=if Z.of_ k=[]then none else some (.slice (rw k).1 (Z.of_ k).length (rw k).2)
def RowA (Z:Cs)(rw:List UInt8->Q2)(k:List UInt8):HP:=Sl 1 65 (rw k).1 (rw k).2 (Z.of_ k).length ((Z.of_ k).map pE)
def BE (al:List Nat)(E:Nat->En):HP:=BL al (fun g=>IsE g (E g))
def IsC (c:Nat)(Z:Cs):HP:=ex fun q:Q2 × Nat × (List UInt8->Q2)=>all [pt c (.cells #[.slice q.1.1 Z.ord.length q.1.2,.map (some q.2.1),.int .i64 Z.bound,.int .i64 Z.bytes] 62),Sl 1 65 q.1.1 q.1.2 Z.ord.length (Z.ord.map pE),MapFn q.2.1 txt (rowsF Z q.2.2),BL Z.ks (RowA Z q.2.2),BE Z.al Z.E]
theorem fits {W:World}{g:Nat}{e:En}{T:Nat}{R:List Fd}{ar:Option Addr}{cr:Nat}{A:HP}(he:EnOk T e)(hT:T<=1048576)(hA:RdF W A ar R)(hR:zF R<=1048576):
  Cn p_ 38 [pE g,.slice ar R.length cr] W [IsE g e,A] (fun _:Unit=> .bool (fitsF e R)) (fun _=>[IsE g e,A]):=by
 have hxf:zF e.xf<=1048576:=by have:=he.xf;omega
 have hvf:zF e.vf<=1048576:=by have:=he.vf;omega
 obtain⟨n1,n2⟩:=varies_ok hxf
 have hRo:=z_ok (l:=R) (by omega)
 have hvo:=z_ok (l:=e.vf) (by omega)
 have hzv:=z_len e.vf
 (refine S.cache_entry_fits_s.cn fun F=>?_;unfold S.cache_entry_fits;simp only[ca_,na_])
 refine e_ex .here fun q=>e_all .here ?_
 obtain⟨⟨⟨ra,rc⟩,va,vc⟩,⟨xa,xc⟩,ba,bc⟩:=q
 refine nr_ ?_
 refine o_ v_nil (o_ v_fa0 (o_ v_fa (ln_ ?_)))
 refine e_slfacts (by(repeat constructor):Pick _ (Sl 2 68 va vc e.vf.length (e.vf.flatMap pFd)) _) fun _ _ _ hv=>?_
 refine e_slfacts (by(repeat constructor):Pick _ (Sl 2 68 xa xc e.xf.length (e.xf.flatMap pFd)) _) fun _ _ _ hx=>?_
 refine e_call (lvaries (rdF_any hx) hxf) (.cons (by repeat constructor) .nil) fun v=>?_
 obtain⟨na,nc⟩:=v
 refine nr_ ?_
 (try dsimp only)
 have hfit:fitsF e R=(variesF e.xf).all fun n=>decide (valsF e.vf n=valsF R n):=rfl
 rw[hfit]
 obtain⟨V,hV⟩:∃V,V=variesF e.xf:=⟨_,rfl⟩
 rw[<- hV]at n1 n2 ⊢
 refine e_slfacts (by(repeat constructor):Pick _ (Sl 1 9 na nc V.length (V.map txt)) _) fun _ _ _ hs=>?_
 have hN:RdB W (Sl 1 9 na nc V.length (V.map txt)) na V.length (V.map txt):=rd_sl (by rw[List.length_map]) hs
 refine o_ v_len (e_loop1 (fun m y=>pu (∃i:Nat,m+i=V.length/\y= .int .i64 (i:Int)/\(V.take i).all (fun n=>decide (valsF e.vf n=valsF R n))=true)::IsE g e::A::Sl 1 9 na nc V.length (V.map txt)::F) V.length ?_ ?_)
 ·refine .pu ⟨0,rfl,rfl,rfl⟩ (.ex (((ra,rc),va,vc),(xa,xc),ba,bc) (.all ?_))
  refine nr_ ?_
  exact im_
 intro m ds y
 refine e_pu .here fun hi=>?_
 obtain⟨i,hmi,rfl,hall⟩:=hi
 refine e_ask v_lss .nil (fun h=>?_) (fun h=>?_)
 ·have hin:i<V.length:=by omega
  have hta:=List.take_succ_eq_append_getElem hin
  have hvn:=n2 _ (List.getElem_mem hin)
  obtain⟨ng,rfl⟩:=hs (by omega)
  refine e_condT (o_ (v_ia1 i rfl hin) ?_)
  refine p_op (txt_at hN hin) ?_
  refine e_ex .here fun q=>e_all .here ?_
  obtain⟨⟨⟨ra,rc⟩,va,vc⟩,⟨xa,xc⟩,ba,bc⟩:=q
  refine nr_ ?_
  refine o_ v_nil (o_ v_fa0 (ln_ ?_))
  refine e_slfacts (by(repeat constructor):Pick _ (Sl 2 68 va vc e.vf.length (e.vf.flatMap pFd)) _) fun _ _ _ hv=>?_
  refine e_call (values (n:=V[i]) (rdF_any hv) hvo (by omega)) (.cons (by repeat constructor) .nil) fun r=>?_
  obtain⟨r1,r2⟩:=r
  refine nr_ ?_
  (try dsimp only)
  refine e_call (values (n:=V[i]) hA hRo (by omega)) (.cons (by repeat constructor) .nil) fun s=>?_
  obtain⟨s1,s2⟩:=s
  refine nr_ ?_
  (try dsimp only)
  have hvl:=vals_len e.vf V[i]
  refine e_call (equalS (l:=valsF e.vf V[i]) (m:=valsF R V[i]) (a:=r1) (b:=s1) (c:=r2) (d:=s2) (by omega)) (.cons (by repeat constructor) (.cons (by repeat constructor) .nil)) fun _=>?_
  refine nr_ ?_
  refine o_ v_not ?_
  by_cases hq:valsF e.vf V[i]=valsF R V[i]
  ·rw[dT_ hq]
   refine e_condF (ad_ ?_)
   refine e_next1 (m-1) (by omega) (.pu ⟨i+1,by omega,by norm_cast,by rw[hta,List.all_append,hall];simp[hq]⟩ (.ex (((ra,rc),va,vc),(xa,xc),ba,bc) (.all ?_)))
   refine nr_ ?_
   exact im_
  ·rw[dF_ hq]
   refine e_condT (e_ret () (by rw[show(V.all fun n=>decide (valsF e.vf n=valsF R n))=false from Bool.eq_false_iff.2 fun c=>hq (by simpa using List.all_eq_true.1 c _ (List.getElem_mem hin))]) ?_)
   refine .ex (((ra,rc),va,vc),(xa,xc),ba,bc) (.all ?_)
   refine nr_ ?_
   exact im_
 ·have:i=V.length:=by omega
  subst this
  rw[List.take_length]at hall
  refine e_condF (e_ret () (by rw[hall]) ?_)
  exact im_
theorem none_ {W:World}{c:Nat}{Z:Cs}:Cn p_ 31 [pE c] W [IsC c Z] (fun _:Unit=> .bool false) (fun _=>[IsC c Z]):=by
 (refine S.cache_Cache_none_s.cn fun F=>?_;unfold S.cache_Cache_none;simp only[ca_,na_])
 refine e_ex .here fun q=>e_all .here ?_
 obtain⟨⟨oa,oc⟩,mg,rw_⟩:=q
 refine nr_ ?_
 refine o_ v_eqNil1 ?_;refine e_gdT (e_gdT (o_ v_nil (e_gdT (o_ v_fa0 (e_gdT (ln_ ?_))))));refine e_gdT (o_ v_eqMap ?_)
 refine o_ v_pickF (e_ret () rfl ?_)
 refine .ex ((oa,oc),mg,rw_) (.all ?_)
 refine nr_ ?_
 exact im_
theorem new {W:World}{b:Int}(h0:0<=b)(h1:b<=1048576):Cn p_ 7 [.int .i64 b] W [] (fun c:Nat=> .tuple #[pE c,.int .i64 0]) (fun c=>[IsC c (emptyS b)]):=by
 (refine S.cache_New_s.cn fun F=>?_;unfold S.cache_New;simp only[ca_,na_])
 refine e_ask v_lss .nil (fun h=>?_) (fun h=>?_)
 ·omega
 refine e_gdT (e_gdT (o_ v_gtr ?_))
 rw[dF_ (by omega)]
 refine o_ v_pickF (e_condF (e_mkF txt fun mg=>?_))
 refine o_ v_rv ?_;refine e_boxA fun g=>?_
 rename Nat=>c
 refine e_ret c rfl ?_
 refine .ex ((none,0),mg,fun _=>(none,0)) (.all ?_)
 refine nr_ ?_
 refine .pick (by repeat constructor) (imp_nil (.pick (by repeat constructor) (imp_bl0 (imp_bl0 ?_))))
 exact im_
section
variable {P:Program} {W:World} {L L' L'':List HP} {Kp:PK} {k:Value->WP}
theorem run_bl {α:Type}[DecidableEq α]{l:List α}{F:α->HP}{i:α}{s:Sem Next}{v:Value}(hi:i∈l)(hn:l.Nodup)(H:RunV P W [F i] s v):RunV P W [BL l F] s v:=fun w hw=>by
 refine H w (sat.map (fun f h=>?_) hw)
 obtain⟨h1,h2,ha,_,d,s1,s2⟩:=h
 obtain⟨k1,k2,b1,_,_,t1,_⟩:=Sl.bl_out l hi hn ha
 exact⟨k1,fun _=>none,b1,trivial,fun _=> .inr rfl,fun i o c=>s1 i o (t1 i o c),fun _ _ c=>by cases c⟩
theorem run_ex {α:Type}{A:α->HP}{s:Sem Next}{v:Value}(H:∀x,RunV P W [A x] s v):RunV P W [ex A] s v:=fun w hw=>by
 obtain⟨b,f,⟨h1,h2,⟨x,ha⟩,r⟩,c⟩:=hw
 exact H x w ⟨b,f,⟨h1,h2,ha,r⟩,c⟩
theorem run_all {A:HP}{M:List HP}{s:Sem Next}{v:Value}(H:RunV P W [A] s v):RunV P W [all (A::M)] s v:=fun w hw=>by
 obtain⟨b,f,⟨h1,h2,⟨k1,k2,ka,_,_,t1,_⟩,_,_,s1,_⟩,c⟩:=hw
 exact H w ⟨b,f,⟨k1,fun _=>none,ka,trivial,fun _=> .inr rfl,fun i o e=>s1 i o (t1 i o e),fun _ _ e=>by cases e⟩,c⟩
theorem e_blb {α:Type}[DecidableEq α]{l:List α}{F F':α->HP}{S:WP}(i:α)(hi:i∈l)(hn:l.Nodup)(hF:∀j∈l,j≠i->F j=F' j)(p:Pick L (F' i) L')(q:Pick L' (BO l F i) L'')(h:Ent W (BL l F'::L'') S):Ent W L S:=
 e_imp (imp_bl i hi hn hF (.pick p (.pick q .refl))) h
end
theorem ld_key {W:World}{al:List Nat}{E:Nat->En}{g:Nat}(hg:g∈al)(hn:al.Nodup):RunV p_ W [BE al E] (sLoad 9 (.pointer (some ⟨g,0,none⟩))) (txt (E g).key):=
 run_bl hg hn (run_ex fun q=>run_all (v_ldN .here))
theorem ld_cost {W:World}{al:List Nat}{E:Nat->En}{g:Nat}(hg:g∈al)(hn:al.Nodup):RunV p_ W [BE al E] (sLoad 3 (.pointer (some ⟨g,9,none⟩))) (.int .i64 (E g).cost):=
 run_bl hg hn (run_ex fun q=>run_all (v_ldN (by repeat constructor)))
theorem v_eqE {W:World}{al:List Nat}{E:Nat->En}{ox oy:Operand}{a b:Nat}(ha:a∈al)(hb:b∈al):RunV p_ W [BE al E] (sEq .eql 65 ox oy (pE a) (pE b)) (.bool (decide (a=b))):=fun w hw=>by
 have cell:∀g∈al,∃ca ta,w.heap[g]? =some (.cells ca ta (0,0)):=fun g hg=>by
  obtain⟨_,f,⟨h1,h2,hb,_,_,s1,_⟩,hc⟩:=hw
  have key:∀(l:List Nat) (h:Frag),g∈l->all (l.map fun g=>IsE g (E g)) W h->∃ca ta,h g=some (.cells ca ta (0,0)):=by
   intro l
   induction l with
   |nil=>intro h hg;cases hg
   |cons x r ih=>
    intro h hg H
    obtain⟨k1,k2,ka,kb,_,t1,t2⟩:=H
    rcases List.mem_cons.1 hg with rfl|hg
    ·obtain⟨q,m1,m2,ma,_,_,u1,_⟩:=ka
     exact⟨_,_,t1 _ _ (u1 _ _ ma)⟩
    ·obtain⟨ca,ta,e⟩:=ih k2 hg kb
     exact⟨ca,ta,t2 _ _ e⟩
  obtain⟨ca,ta,e⟩:=key al h1 hg hb
  exact⟨ca,ta,(hc g _ (s1 _ _ e)).2⟩
 by_cases c:a=b
 ·subst c
  have:=run_eql_ptr_same (P:=p_) w (tp:=65) (te:=72) (j:=Tryz.t72) ⟨a,0,none⟩ (by kernel_rfl) (by kernel_rfl)
  simp[sEq,sv,eqGuard,this]
 ·obtain⟨ca,ta,e1⟩:=cell a ha
  obtain⟨cb,tb,e2⟩:=cell b hb
  have:=run_eql_ptr_other (P:=p_) w (tp:=65) (te:=72) (j:=Tryz.t72) (a:=⟨a,0,none⟩) (b:=⟨b,0,none⟩) (by kernel_rfl) (by kernel_rfl) (by decide+kernel) (by simp[c]) e1 e2
  simp[sEq,sv,eqGuard,this,c]
theorem v_lookF {κ:Type}[DecidableEq κ]{P:Program}{W:World}{t kt e:TypeId}{enc:κ->Value}{z:Value}{g:Nat}{f:κ->Option Value}{q:κ}[ht:MapT P t kt e][hz:ZeroT P e z](K:KeyLaw P kt enc):RunV P W [MapFn g enc f] (sLook t (.map (some g)) (enc q) false) ((f q).getD z):=fun w hw=>by
 obtain⟨b,fr,⟨h1,h2,⟨m,k1,k2,hp,⟨j1,j2,jm,_,_,u1,_⟩,_,_,t2⟩,r⟩,c⟩:=hw
 rw[<- hp.2 q]
 exact v_look K w ⟨b,fr,⟨j1,fun _=>none,jm,trivial,fun _=> .inr rfl,fun i o e=>r.2.2.1 i o (t2 i o (u1 i o e)),fun _ _ e=>by cases e⟩,c⟩
def rmL (L:List Nat)(g:Nat):List Nat:=L.filter fun x=>!decide (x=g)
theorem leave {W:World}{c g:Nat}{oa:Option Addr}{oc:Nat}{M:List Nat}{m b y:Value}{al:List Nat}{E:Nat->En}(hM:M.length<=1099511627776)(ha:∀x∈M,x∈al)(hg:g∈al):
  Cn p_ 78 [pE c,pE g] W [pt c (.cells #[.slice oa M.length oc,m,b,y] 62),Sl 1 65 oa oc M.length (M.map pE),BE al E] (fun _:Unit=> .tuple #[])
   (fun _=>[pt c (.cells #[.slice oa (rmL M g).length oc,m,b,y] 62),Sl 1 65 oa oc (rmL M g).length ((rmL M g).map pE),BE al E]):=by
 (refine S.cache_ring_leave_s.cn fun F=>?_;unfold S.cache_ring_leave;simp only[ca_,na_])
 refine e_box1 fun b3=>?_
 refine o_ v_nil (o_ v_fa0 (ln_ ?_))
 refine o_ v_mkF (e_imp (M:=all [pt b3 (.cells #[pE g] 65),BE al E]::Sl 1 65 oa oc M.length (M.map pE)::pt c (.cells #[.slice oa M.length oc,m,b,y] 62)::F) (.all ?_) ?_)
 ·refine nr_ ?_
  exact im_
 refine e_call (delE (k:=104) (cap:=[.pointer (some ⟨b3,0,none⟩)]) (p:=fun x=>decide (x=g)) (C:=all [pt b3 (.cells #[pE g] 65),BE al E]) hM (fun x hx=>by
  (refine S.cache_ring_leave_1_s.cn fun F=>?_;unfold S.cache_ring_leave_1;simp only[ca_,na_])
  refine e_all .here ?_
  refine nr_ ?_
  refine ln_ ?_
  refine p_op (v_eqE (ha x hx) hg) ?_
  refine e_ret () rfl ?_
  refine .all ?_
  refine nr_ ?_
  (repeat(first|exact .refl|exact .nil|(apply Imp.pick;(focus ((repeat constructor);done)))|refine .drop ?_)))) (by(repeat(first|exact Picks.nil|(apply Picks.cons;(focus repeat constructor))))) fun _=>?_
 refine nr_ ?_
 refine o_ v_nil (o_ v_fa0 (sn_ ?_))
 refine e_all (by(repeat constructor):Pick _ (all [pt b3 (.cells #[pE g] 65),BE al E]) _) ?_
 refine nr_ ?_
 refine rt_ () ?_
 unfold rmL
 exact im_
theorem touchR {W:World}{c g:Nat}{oa:Option Addr}{oc:Nat}{M:List Nat}{m b y:Value}{al:List Nat}{E:Nat->En}(hM:M.length<=1048576)(ha:∀x∈M,x∈al)(hg:g∈al):
  Cn p_ 40 [pE c,pE g] W [pt c (.cells #[.slice oa M.length oc,m,b,y] 62),Sl 1 65 oa oc M.length (M.map pE),BE al E] (fun _:Q2=> .tuple #[])
   (fun q=>[pt c (.cells #[.slice q.1 (rmL M g++[g]).length q.2,m,b,y] 62),Sl 1 65 q.1 q.2 (rmL M g++[g]).length ((rmL M g++[g]).map pE),BE al E]):=by
 have hr:(rmL M g).length<=M.length:=List.length_filter_le _ _
 (refine S.cache_ring_touch_s.cn fun F=>?_;unfold S.cache_ring_touch;simp only[ca_,na_])
 refine e_call (leave (E:=E) (by omega) ha hg) (by(repeat(first|exact Picks.nil|(apply Picks.cons;(focus repeat constructor))))) fun _=>?_
 refine nr_ ?_
 refine o_ v_nil (o_ v_fa0 (ln_ ?_));refine e_bsl1 fun g=>?_
 rename Nat=>gb
 refine e_app (m:=1) (news:=[pE g]) (by(repeat constructor):Pick _ (Sl 1 65 oa oc (rmL M g).length ((rmL M g).map pE)) _) (src_pt (s:=1) (e':=65) (by kernel_rfl) .here (by rfl) (by intro u hu;simp at hu;rw[hu];rfl)) (by omega) (by omega) fun a' c'=>?_
 refine o_ v_nil (o_ v_fa0 (sn_ ?_))
 refine e_retT (a',c') ?_
 rw[List.length_append,List.map_append]
 exact im_
theorem drop_rows {Z:Cs}{g:Nat}{rw_:List UInt8->Q2}{h:Z.of_ (Z.E g).key≠[]}:rowsF (dropS Z g) rw_=if rmL (Z.of_ (Z.E g).key) g=[]then updM (updM (rowsF Z rw_) (Z.E g).key (some (.slice (rw_ (Z.E g).key).1 (rmL (Z.of_ (Z.E g).key) g).length (rw_ (Z.E g).key).2))) (Z.E g).key none
  else updM (rowsF Z rw_) (Z.E g).key (some (.slice (rw_ (Z.E g).key).1 (rmL (Z.of_ (Z.E g).key) g).length (rw_ (Z.E g).key).2)):=by
 funext k
 by_cases c:k=(Z.E g).key
 ·subst c
  have e:(dropS Z g).of_ (Z.E g).key=rmL (Z.of_ (Z.E g).key) g:=if_pos rfl
  by_cases d:rmL (Z.of_ (Z.E g).key) g=[]
  ·rw[if_pos d]
   unfold rowsF updM
   rw[e,if_pos d,if_pos rfl]
  ·rw[if_neg d]
   unfold rowsF updM
   rw[e,if_neg d,if_pos rfl]
 ·have e:(dropS Z g).of_ k=Z.of_ k:=if_neg c
  split <;> · unfold rowsF updM;rw[e];simp[c]
theorem drop {W:World}{c g T:Nat}{Z:Cs}(hZ:CsOk T Z)(hg:g∈Z.ord):Cn p_ 39 [pE c,pE g] W [IsC c Z] (fun _:Unit=> .tuple #[]) (fun _=>[IsC c (dropS Z g)]):=by
 have hga:=hZ.oa g hg
 have hgb:=hZ.fb g hg
 have hne:Z.of_ (Z.E g).key≠[]:=fun e=>by rw[e]at hgb;cases hgb
 have hks:=hZ.fk _ hne
 have hol:=hZ.ordl
 have hfl:=hZ.ofl (Z.E g).key
 have hc1:=(hZ.en g hga).c1
 have hc2:=hZ.cost hg
 have hle:=hZ.le
 have hb1:=hZ.b1
 have hrl:(rmL (Z.of_ (Z.E g).key) g).length<=(Z.of_ (Z.E g).key).length:=List.length_filter_le _ _
 (refine S.cache_Cache_drop_s.cn fun F=>?_;unfold S.cache_Cache_drop;simp only[ca_,na_])
 refine e_box1 fun b3=>?_
 refine e_ex (by(repeat constructor):Pick _ (IsC c Z) _) fun q=>e_all .here ?_
 obtain⟨⟨oa,oc⟩,mg,rw_⟩:=q
 refine nr_ ?_
 refine e_drS (t_ v_nil (t_ v_fa0 (ls_ ?_)))
 refine e_call (leave (E:=Z.E) (by omega) hZ.oa hga) (by(repeat(first|exact Picks.nil|(apply Picks.cons;(focus repeat constructor))))) fun _=>?_
 refine nr_ ?_
 refine e_drS (t_ v_nil (t_ v_fa0 (ls_ ?_)));refine ls_ ?_;refine t_ v_nil (t_ v_fa0 (p_st (ld_cost hga hZ.aln) ?_))
 (refine t_ (v_sub (by omega) (by omega)) ?_);refine t_ v_nil ?_;refine t_ v_fa0 ?_;refine sn_ ?_;refine e_drS ?_;refine t_ v_nil ?_;refine t_ v_fa0 ?_;refine ls_ ?_;refine ls_ ?_;refine t_ v_nil ?_;refine t_ v_fa0 ?_
 refine p_st (ld_key hga hZ.aln) ?_
 refine p_st (v_lookF (keyS Tryz.underlying9)) ?_
 rw[show(rowsF Z rw_ (Z.E g).key).getD (.slice none 0 0)= .slice (rw_ (Z.E g).key).1 (Z.of_ (Z.E g).key).length (rw_ (Z.E g).key).2 by unfold rowsF;rw[if_neg hne];rfl]
 refine t_ v_mkF (e_bl (by(repeat constructor):Pick _ (BL Z.ks (RowA Z rw_)) _) (Z.E g).key hks hZ.ksn ?_)
 refine e_imp (M:=all [pt b3 (.cells #[pE g] 65),BE Z.al Z.E]::Sl 1 65 (rw_ (Z.E g).key).1 (rw_ (Z.E g).key).2 (Z.of_ (Z.E g).key).length ((Z.of_ (Z.E g).key).map pE)::BO Z.ks (RowA Z rw_) (Z.E g).key::MapFn mg txt (rowsF Z rw_)::Sl 1 65 oa oc (rmL Z.ord g).length ((rmL Z.ord g).map pE)::pt c (.cells #[.slice oa (rmL Z.ord g).length oc,.map (some mg),.int .i64 Z.bound,.int .i64 (Z.bytes-(Z.E g).cost)] 62)::F) (.all ?_) ?_
 ·unfold RowA
  refine nr_ ?_
  exact im_
 refine e_call (delE (k:=80) (cap:=[.pointer (some ⟨b3,0,none⟩)]) (p:=fun x=>decide (x=g)) (C:=all [pt b3 (.cells #[pE g] 65),BE Z.al Z.E]) (by omega) (fun x hx=>by
  have hxa:=hZ.oa x (hZ.fo _ x hx).1
  (refine S.cache_Cache_drop_1_s.cn fun F=>?_;unfold S.cache_Cache_drop_1;simp only[ca_,na_])
  refine e_all .here ?_
  refine nr_ ?_
  refine ln_ ?_
  refine p_op (v_eqE hxa hga) ?_
  refine e_ret () rfl ?_
  refine .all ?_
  refine nr_ ?_
  (repeat(first|exact .refl|exact .nil|(apply Imp.pick;(focus ((repeat constructor);done)))|refine .drop ?_)))) (by(repeat(first|exact Picks.nil|(apply Picks.cons;(focus repeat constructor))))) fun _=>?_
 refine nr_ ?_
 refine e_all (by(repeat constructor):Pick _ (all [pt b3 (.cells #[pE g] 65),BE Z.al Z.E]) _) ?_
 refine nr_ ?_
 have hrow:((Z.of_ (Z.E g).key).filter fun x=>!decide (x=g))=rmL (Z.of_ (Z.E g).key) g:=rfl
 rw[hrow]
 refine e_drS (t_ v_nil (t_ v_fa0 (ls_ ?_)));refine ls_ ?_;refine t_ v_nil (t_ v_fa0 (p_st (ld_key hga hZ.aln) ?_))
 refine e_setF (keyS Tryz.underlying9) (by(repeat constructor):Pick _ (MapFn mg txt (rowsF Z rw_)) _) ?_
 refine o_ v_len ?_
 have hrows:=drop_rows (Z:=Z) (g:=g) (rw_:=rw_) (h:=hne)
 have hof:(dropS Z g).of_ (Z.E g).key=rmL (Z.of_ (Z.E g).key) g:=if_pos rfl
 have hfin:∀(L L' L'':List HP) (f:List UInt8->Option Value),f=rowsF (dropS Z g) rw_->Imp W L (MapFn mg txt f::Sl 1 65 (rw_ (Z.E g).key).1 (rw_ (Z.E g).key).2 (rmL (Z.of_ (Z.E g).key) g).length ((rmL (Z.of_ (Z.E g).key) g).map pE)::BO Z.ks (RowA Z rw_) (Z.E g).key::BE Z.al Z.E::Sl 1 65 oa oc (rmL Z.ord g).length ((rmL Z.ord g).map pE)::pt c (.cells #[.slice oa (rmL Z.ord g).length oc,.map (some mg),.int .i64 Z.bound,.int .i64 (Z.bytes-(Z.E g).cost)] 62)::F)->Ent W L (fun w=>∃x:Unit,True/\sat W (IsC c (dropS Z g)::F) w):=fun L _ _ f hf hi=>by
  subst hf
  refine e_imp hi ?_
  refine e_retT () ?_
  refine .ex ((oa,oc),mg,rw_) (.all ?_)
  refine nr_ ?_
  refine .pick (by repeat constructor) (.pick (by repeat constructor) (.pick (by repeat constructor) (imp_bl (L:=_) (F:=RowA Z rw_) (Z.E g).key hks hZ.ksn ?_ ?_)))
  ·intro k _ hk
   unfold RowA
   rw[show(dropS Z g).of_ k=Z.of_ k from if_neg hk]
  unfold RowA
  rw[hof]
  exact im_
 refine o_ v_eql ?_
 by_cases hd:rmL (Z.of_ (Z.E g).key) g=[]
 ·rw[if_pos hd]at hrows
  rw[dT_ (by rw[hd];rfl)]
  refine e_condT (e_drS (t_ v_nil (t_ v_fa0 (ls_ ?_))));refine ls_ ?_;refine t_ v_nil (t_ v_fa0 (p_st (ld_key hga hZ.aln) ?_))
  refine e_delF (keyS Tryz.underlying9) (by(repeat constructor):Pick _ (MapFn mg txt _) _) ?_
  refine hfin _ [] [] _ hrows.symm ?_
  exact im_
 ·rw[if_neg hd]at hrows
  rw[dF_ (by intro h;apply hd;exact List.eq_nil_of_length_eq_zero (by omega))]
  refine e_condF (hfin _ [] [] _ hrows.symm ?_)
  exact im_
theorem find {W:World}{c T:Nat}{Z:Cs}{key:List UInt8}{R:List Fd}{ar:Option Addr}{cr:Nat}{A:HP}(hZ:CsOk T Z)(hA:RdF W A ar R)(hR:zF R<=1048576):
  Cn p_ 41 [pE c,txt key,.slice ar R.length cr] W [IsC c Z,A] (fun _:Unit=>match findF Z key R with|some g=>pE g|none=> .pointer none) (fun _=>[IsC c Z,A]):=by
 have hT:=hZ.t
 have hfl:=hZ.ofl key
 (refine S.cache_Cache_find_s.cn fun F=>?_;unfold S.cache_Cache_find;simp only[ca_,na_])
 refine e_ex (by(repeat constructor):Pick _ (IsC c Z) _) fun q=>e_all .here ?_
 obtain⟨⟨oa,oc⟩,mg,rw_⟩:=q
 refine nr_ ?_
 refine o_ v_nil (o_ v_fa0 (ln_ ?_))
 refine p_op (v_lookF (keyS Tryz.underlying9)) ?_
 by_cases hne:Z.of_ key=[]
 ·rw[show(rowsF Z rw_ key).getD (.slice none 0 0)= .slice none 0 0 by unfold rowsF;rw[if_pos hne];rfl]
  have hf:findF Z key R=none:=by unfold findF;rw[hne];rfl
  rw[hf]
  refine o_ v_len (sb_ ?_)
  refine e_loop1 (fun m y=>pu (y= .int .i64 (-1))::IsC c Z::A::F) 0 ?_ ?_
  ·refine .pu rfl (.ex ((oa,oc),mg,rw_) (.all ?_))
   refine nr_ ?_
   exact im_
  intro m ds y
  refine e_pu .here fun hi=>?_
  subst hi
  refine o_ v_geq ?_
  rw[dF_ (by decide)]
  refine e_condF (e_ret () rfl ?_)
  exact im_
 have hks:=hZ.fk _ hne
 rw[show(rowsF Z rw_ key).getD (.slice none 0 0)= .slice (rw_ key).1 (Z.of_ key).length (rw_ key).2 by unfold rowsF;rw[if_neg hne];rfl]
 refine o_ v_len (sb_ ?_)
 obtain⟨ga,hga⟩:∃ga,ga=rw_:=⟨_,rfl⟩
 refine e_bl (by(repeat constructor):Pick _ (BL Z.ks (RowA Z rw_)) _) key hks hZ.ksn ?_
 unfold RowA
 have hpos:0<(Z.of_ key).length:=Nat.pos_of_ne_zero fun h=>hne (List.eq_nil_of_length_eq_zero h)
 refine e_slsome .here hpos fun gr hgr=>?_
 rw[hgr]
 refine e_loop1 (fun m y=>[ex fun i:Nat=>all [pu (m=i/\i<=(Z.of_ key).length/\y= .int .i64 ((i:Int)-1)/\∀x∈(Z.of_ key).drop i,fitsF (Z.E x) R=false),Sl 1 65 (some ⟨gr,0,none⟩) (rw_ key).2 (Z.of_ key).length ((Z.of_ key).map pE),BO Z.ks (RowA Z rw_) key,pt c (.cells #[.slice oa Z.ord.length oc,.map (some mg),.int .i64 Z.bound,.int .i64 Z.bytes] 62),Sl 1 65 oa oc Z.ord.length (Z.ord.map pE),MapFn mg txt (rowsF Z rw_),BE Z.al Z.E,A]]++F) (Z.of_ key).length ?_ ?_
 ·refine .ex (Z.of_ key).length (.all ?_)
  refine nr_ ?_
  refine .pu ⟨rfl,Nat.le_refl _,rfl,by simp⟩ ?_
  unfold RowA
  exact im_
 intro m ds y
 refine nr_ ?_
 refine e_ex Pick.here fun i=>e_all Pick.here ?_
 refine nr_ ?_
 refine e_pu Pick.here fun hi=>?_
 obtain⟨rfl,hil,rfl,hno⟩:=hi
 have fin:∀(L:List HP) (v:Value),(v=match findF Z key R with|some g=>pE g|none=> .pointer none)->Imp W L (Sl 1 65 (some ⟨gr,0,none⟩) (rw_ key).2 (Z.of_ key).length ((Z.of_ key).map pE)::BO Z.ks (RowA Z rw_) key::pt c (.cells #[.slice oa Z.ord.length oc,.map (some mg),.int .i64 Z.bound,.int .i64 Z.bytes] 62)::Sl 1 65 oa oc Z.ord.length (Z.ord.map pE)::MapFn mg txt (rowsF Z rw_)::BE Z.al Z.E::A::F)->Ent W L (fun w=>∃x:Unit,v=(match findF Z key R with|some g=>pE g|none=> .pointer none)/\sat W (IsC c Z::A::F) w):=fun L v hv hi=>by
  refine e_imp hi ?_
  refine e_ret () hv ?_
  refine .ex ((oa,oc),mg,rw_) (.all ?_)
  refine nr_ ?_
  refine .pick (by repeat constructor) (.pick (by repeat constructor) (.pick (by repeat constructor) (imp_bl (L:=_) (F:=RowA Z rw_) key hks hZ.ksn (fun _ _ _=>rfl) ?_)))
  unfold RowA
  rw[hgr]
  exact im_
 refine e_ask v_geq .nil (fun h=>?_) (fun h=>?_)
 ·obtain⟨i,rfl⟩:∃j,m=j+1:=⟨m-1,by omega⟩
  have hin:i<(Z.of_ key).length:=by omega
  have hx:=(Z.of_ key)[i]
  have hxm:(Z.of_ key)[i]∈Z.of_ key:=List.getElem_mem hin
  have hxa:=hZ.oa _ (hZ.fo _ _ hxm).1
  refine e_condT (o_ (v_ia1 i (by omega) hin) ?_)
  refine p_op (ld_pE hin) ?_
  refine e_bl (by(repeat constructor):Pick _ (BE Z.al Z.E) _) (Z.of_ key)[i] hxa hZ.aln ?_
  refine e_call (fits (e:=Z.E (Z.of_ key)[i]) (g:=(Z.of_ key)[i]) (hZ.en _ hxa) hT hA hR) (.cons (by repeat constructor) (.cons (by repeat constructor) .nil)) fun _=>?_
  refine nr_ ?_
  refine e_blb (l:=Z.al) (F':=fun g=>IsE g (Z.E g)) (Z.of_ key)[i] hxa hZ.aln (fun _ _ _=>rfl) (by repeat constructor) (by repeat constructor) ?_
  have hsplit:(Z.of_ key).drop i=(Z.of_ key)[i]::(Z.of_ key).drop (i+1):=(List.drop_eq_getElem_cons hin)
  cases hfit:fitsF (Z.E (Z.of_ key)[i]) R with
  |true=>
   have hf:findF Z key R=some (Z.of_ key)[i]:=by
    unfold findF
    have e:(Z.of_ key).reverse=(((Z.of_ key).drop (i+1)).reverse++[(Z.of_ key)[i]])++((Z.of_ key).take i).reverse:=by rw[<- List.reverse_cons,<- hsplit,<- List.reverse_append,List.take_append_drop]
    rw[e,List.append_assoc,List.find?_append]
    rw[List.find?_eq_none.2 (by intro x hx;rw[hno x (List.mem_reverse.1 hx)];simp)]
    simp[hfit]
   refine e_condT (o_ (v_ia1 i (by omega) hin) ?_)
   refine p_op (ld_pE hin) ?_
   exact fin _ _ (by rw[hf]) (by unfold BE;(repeat(first|exact .refl|exact .nil|(apply Imp.pick;(focus ((repeat constructor);done)))|refine .drop ?_)))
  |false=>
   refine e_condF (sb_ ?_)
   refine e_next1 i (by omega) (.ex i (.all ?_))
   refine nr_ ?_
   refine .pu ⟨rfl,by omega,by congr 1;omega,?_⟩ ?_
   ·intro x hx
    rw[hsplit]at hx
    rcases List.mem_cons.1 hx with rfl|hx
    ·exact hfit
    ·exact hno x hx
   unfold BE
   exact im_
 ·have:m=0:=by omega
  subst this
  refine e_condF ?_
  have hf:findF Z key R=none:=by
   unfold findF
   exact List.find?_eq_none.2 (by intro x hx;rw[hno x (by simpa using hx)];simp)
  exact fin _ _ (by rw[hf]) im_
end Go.Proofs.YthomhkpedghhgaaGreatDoor.FD
namespace Go.Proofs.YthomhkpedghhgaaGreatDoor.FD
open Go Go.Proofs Go.RowKit Sh Sl T
theorem e_getrow {W:World} {L L':List HP} {S:WP} {T:Nat} {Z:Cs} {rw_:List UInt8->Q2} {key:List UInt8} (hZ:CsOk T Z) (p:Pick L (BL Z.ks (RowA Z rw_)) L')
  (h:∀a cc,(rowsF Z rw_ key).getD (.slice none 0 0)= .slice a (Z.of_ key).length cc->Ent W (Sl 1 65 a cc (Z.of_ key).length ((Z.of_ key).map pE)::BO Z.ks (RowA Z rw_) key::L') S):Ent W L S:=by
 by_cases hne:Z.of_ key=[]
 ·have hv:(rowsF Z rw_ key).getD (.slice none 0 0)= .slice none (Z.of_ key).length 0:=by unfold rowsF;rw[if_pos hne,hne];rfl
  have h:=h none 0 hv
  rw[hne]at h
  by_cases hk:key∈Z.ks
  ·refine e_bl p key hk hZ.ksn ?_
   refine e_imp (imp_nil (.drop .refl)) h
  ·have e:BO Z.ks (RowA Z rw_) key=BL Z.ks (RowA Z rw_):=by
    unfold BO BL
    rw[List.filter_eq_self.2 fun x hx=>by simp only[ne_eq,decide_not,Bool.not_eq_eq_eq_not,Bool.not_true,decide_eq_false_iff_not];rintro rfl;exact hk hx]
   rw[e]at h
   exact e_pick p (e_imp (imp_nil .refl) h)
 ·refine e_bl p key (hZ.fk _ hne) hZ.ksn ?_
  exact h _ _ (by unfold rowsF;rw[if_neg hne];rfl)
theorem imp_putrow {W:World} {L M:List HP} {Z Z':Cs} {rw_:List UInt8->Q2} {key:List UInt8} {a:Option Addr} {cc:Nat} (hn:Z.ks.Nodup) (hks:Z'.ks=if key∈Z.ks then Z.ks else key::Z.ks) (hof:∀k,k≠key->Z'.of_ k=Z.of_ k)
  (h:Imp W L (Sl 1 65 a cc (Z'.of_ key).length ((Z'.of_ key).map pE)::BO Z.ks (RowA Z rw_) key::M)):Imp W L (BL Z'.ks (RowA Z' fun k=>if k=key then(a,cc)else rw_ k)::M):=by
 have hF:∀k,k≠key->RowA Z rw_ k=RowA Z' (fun k=>if k=key then(a,cc)else rw_ k) k:=fun k hk=>by
  unfold RowA
  rw[hof k hk]
  simp only[if_neg hk]
 have hK:RowA Z' (fun k=>if k=key then(a,cc)else rw_ k) key=Sl 1 65 a cc (Z'.of_ key).length ((Z'.of_ key).map pE):=by
  unfold RowA
  simp only[if_true]
 rw[hks]
 split
 ·rename_i hk
  refine imp_bl key hk hn (F:=RowA Z rw_) (fun j _ hj=>hF j hj) ?_
  rw[hK]
  exact h
 ·rename_i hk
  refine imp_blC (F:=RowA Z rw_) (fun j hj=>hF j (by rintro rfl;exact hk hj)) ?_
  have e:BO Z.ks (RowA Z rw_) key=BL Z.ks (RowA Z rw_):=by
   unfold BO BL
   rw[List.filter_eq_self.2 fun x hx=>by simp only[ne_eq,decide_not,Bool.not_eq_eq_eq_not,Bool.not_true,decide_eq_false_iff_not];rintro rfl;exact hk hx]
  rw[hK,<- e]
  exact h
theorem imp_backrow {W:World} {L M:List HP} {Z:Cs} {rw_:List UInt8->Q2} {key:List UInt8} {a:Option Addr} {cc:Nat} (hn:Z.ks.Nodup)
  (h:Imp W L (Sl 1 65 a cc (Z.of_ key).length ((Z.of_ key).map pE)::BO Z.ks (RowA Z rw_) key::M)):Imp W L (BL Z.ks (RowA Z fun k=>if k=key then(a,cc)else rw_ k)::M):=by
 have hF:∀k,k≠key->RowA Z rw_ k=RowA Z (fun k=>if k=key then(a,cc)else rw_ k) k:=fun k hk=>by
  unfold RowA
  simp only[if_neg hk]
 have hK:RowA Z (fun k=>if k=key then(a,cc)else rw_ k) key=Sl 1 65 a cc (Z.of_ key).length ((Z.of_ key).map pE):=by
  unfold RowA
  simp only[if_true]
 by_cases hk:key∈Z.ks
 ·refine imp_bl key hk hn (F:=RowA Z rw_) (fun j _ hj=>hF j hj) ?_
  rw[hK]
  exact h
 ·have e:BO Z.ks (RowA Z rw_) key=BL Z.ks (RowA Z rw_):=by
   unfold BO BL
   rw[List.filter_eq_self.2 fun x hx=>by simp only[ne_eq,decide_not,Bool.not_eq_eq_eq_not,Bool.not_true,decide_eq_false_iff_not];rintro rfl;exact hk hx]
  rw[BL.congr (F':=RowA Z rw_) fun j hj=>(hF j (by rintro rfl;exact hk hj)).symm,<- e]
  refine .conv (B:=all [Sl 1 65 a cc (Z.of_ key).length ((Z.of_ key).map pE),BO Z.ks (RowA Z rw_) key]) (fun f H=>?_) (.all h)
  obtain⟨f',H',s⟩:=all_drop H
  obtain⟨k1,_,kb,_,_,t1,_⟩:=H'
  exact all_up (L:=(Z.ks.filter fun j=>decide (j≠key)).map (RowA Z rw_)) kb fun i o e=>s i o (t1 i o e)
theorem rows_same {Z:Cs}{rw_:List UInt8->Q2}{key:List UInt8}{a:Option Addr}{cc:Nat}(h:(rowsF Z rw_ key).getD (.slice none 0 0)= .slice a (Z.of_ key).length cc):rowsF Z (fun k=>if k=key then(a,cc)else rw_ k)=rowsF Z rw_:=by
 funext k
 by_cases c:k=key
 ·subst c
  unfold rowsF at *
  split at h
  ·rename_i e;rw[if_pos e,if_pos e]
  ·rename_i e
   rw[if_neg e,if_neg e]
   simp only[if_true]
   exact congrArg some h.symm
 ·unfold rowsF
  simp only[if_neg c]
theorem e_clone {W:World} {L L':List HP} {Kp:PK} {k:Value->WP} {T c:Nat} {Z:Cs} {key:List UInt8} (hZ:CsOk T Z) (p:Pick L (IsC c Z) L')
  (h:∀a cc,Ent W (Sl 1 65 a cc (Z.of_ key).length ((Z.of_ key).map pE)::IsC c Z::L') (k (.slice a (Z.of_ key).length cc))):
  Ent W L (opN p_ (sNil (pE c)) Kp fun x72=>opN p_ (sFA 62 x72 1) Kp fun x73=>opN p_ (sLoad 60 x73) Kp fun x74=>opN p_ (sLook 60 x74 (txt key) false) Kp fun x76=>opN p_ (sCall (fn 37) [x76]) Kp k):=by
 refine e_ex p fun q=>e_all .here ?_
 obtain⟨⟨oa,oc⟩,mg,rw_⟩:=q
 refine nr_ ?_
 refine o_ v_nil (o_ v_fa0 (ln_ ?_))
 refine p_op (v_lookF (keyS Tryz.underlying9)) ?_
 refine e_getrow (key:=key) hZ (by(repeat constructor):Pick _ (BL Z.ks (RowA Z rw_)) _) fun a cc hv=>?_
 rw[hv]
 have hfl:=hZ.ofl key
 refine e_call (cloneE (l:=Z.of_ key) (by omega)) (by(repeat(first|exact Picks.nil|(apply Picks.cons;(focus repeat constructor))))) fun r=>?_
 obtain⟨ra,rc⟩:=r
 refine nr_ ?_
 (try dsimp only)
 refine e_imp ?_ (h ra rc)
 refine .pick (by repeat constructor) (.ex ((oa,oc),mg,fun k=>if k=key then(a,cc)else rw_ k) (.all ?_))
 refine nr_ ?_
 rw[rows_same hv]
 refine .pick (by repeat constructor) (.pick (by repeat constructor) (.pick (by repeat constructor) (imp_backrow hZ.ksn ?_)))
 exact im_
theorem ld_bound {W:World}{c:Nat}{Z:Cs}:RunV p_ W [IsC c Z] (sLoad 3 (.pointer (some ⟨c,2,none⟩))) (.int .i64 Z.bound):=run_ex fun q=>run_all (v_ldN (by repeat constructor))
theorem ld_bytes {W:World}{c:Nat}{Z:Cs}:RunV p_ W [IsC c Z] (sLoad 3 (.pointer (some ⟨c,3,none⟩))) (.int .i64 Z.bytes):=run_ex fun q=>run_all (v_ldN (by repeat constructor))
theorem ld_ecost {W:World}{g:Nat}{e:En}:RunV p_ W [IsE g e] (sLoad 3 (.pointer (some ⟨g,9,none⟩))) (.int .i64 e.cost):=run_ex fun q=>run_all (v_ldN (by repeat constructor))
theorem e_neC {W:World}{L L' L'':List HP}{S:WP}{g c:Nat}{o:Obj}{Z:Cs}(p:Pick L (pt g o) L')(q:Pick L' (IsC c Z) L'')(h:g∉Z.al->Ent W L S):Ent W L S:=fun w hw=>by
 refine h (fun hg=>?_) w hw
 obtain⟨f,⟨h1,h2,ha,hb,d,s1,s2⟩,_⟩:=(hw.pick p).heap
 obtain⟨k1,k2,⟨x,ka⟩,_,_,t1,_⟩:=q.all hb
 obtain⟨_,m1,_,⟨_,m2,_,⟨_,m3,_,⟨_,m4,_,⟨m5,_,hbe,_,_,u5,_⟩,_,_,u4⟩,_,_,u3⟩,_,_,u2⟩,_,_,u1⟩:=ka
 obtain⟨o',ho'⟩:=bl_has (W:=W) (F:=fun g=>IsE g (Z.E g)) (g:=fun j=>j) (fun j h H=>by
  obtain⟨q,n1,n2,na,_,_,v1,_⟩:=H
  exact⟨_,v1 _ _ na⟩) Z.al hg hbe
 have e1:h1 g=some o:=ha
 have e2:=t1 g o' (u1 _ _ (u2 _ _ (u3 _ _ (u4 _ _ (u5 _ _ ho')))))
 rcases d g with c|c
 ·rw[e1]at c;cases c
 ·rw[e2]at c;cases c
theorem rm_lt {L:List Nat}{g:Nat}(h:g∈L):(rmL L g).length<L.length:=by
 unfold rmL
 induction L with
 |nil=>cases h
 |cons x r ih=>
  by_cases c:x=g
  ·rw[List.filter_cons_of_neg (by simp[c])]
   have:=List.length_filter_le (fun y=>!decide (y=g)) r
   simp only[List.length_cons]
   omega
  ·have hr:g∈r:=by
    rcases List.mem_cons.1 h with e|e
    ·exact absurd e.symm c
    ·exact e
   rw[List.filter_cons_of_pos (by simpa using c)]
   have:=ih hr
   simp only[List.length_cons]
   omega
def newE (key m:List UInt8)(R X:List Fd)(D:List UInt8)(st asked came:Int):En:=⟨key,m,R,pickF R (variesF X),st,X,D,cl40 asked,cl40 came,((key.length+D.length+64+cosF X+cosF (pickF R (variesF X)):Nat):Int)⟩
def stoB (bound:Int)(key m:List UInt8)(R X:List Fd)(D:List UInt8)(st:Int):Bool:=storF m st R X&&decide ((newE key m R X D st 0 0).cost<=bound)
def StR (T:Nat)(Z:Cs)(key m:List UInt8)(R X:List Fd)(D:List UInt8)(st asked came:Int)(Z':Cs):Prop:=
 CsOk T Z'/\if stoB Z.bound key m R X D st then ∃g Y,Sub Y Z/\g∉Y.al/\Z'=addS Y g (newE key m R X D st asked came)else Z'=Z
theorem z_pick (R:List Fd)(V:List (List UInt8)):zF (pickF R V)<=zF R:=z_filter _ _
theorem newE_ok {key m:List UInt8}{R X:List Fd}{D:List UInt8}{st asked came:Int}{T:Nat}(hR:zF R<=T)(hX:zF X<=T)(hD:D.length<=T):EnOk T (newE key m R X D st asked came):=
 ⟨hR,Nat.le_trans (z_pick _ _) hR,hX,hD,by show(64:Int)<=((key.length+D.length+64+cosF X+cosF (pickF R (variesF X)):Nat):Int);omega⟩
set_option maxRecDepth 20000 in
theorem store {W:World} [hG:Gl W] {c T:Nat} {Z:Cs} {key m tg:List UInt8} {mi st asked came:Int} {R X:List Fd} {D:List UInt8} {ar ax ad:Option Addr} {cr cx cd:Nat} {A B G:HP} (hZ:CsOk T Z)
  (hA:RdF W A ar R) (har:ar=none->R=[]) (hB:RdF W B ax X) (hax:ax=none->X=[]) (hG:RdB W G ad D.length (D.map Sl.B)) (had:ad=none->D=[]) (hR:zF R<=T) (hX:zF X<=T) (hD:D.length<=T) (hk:key.length<=1048576):
  Cn p_ 10 [pE c,txt key,.agg #[txt m,txt tg,.int .i64 mi,.slice ar R.length cr],.agg #[.int .i64 st,.slice ax X.length cx,.slice ad D.length cd],.int .i64 asked,.int .i64 came] W [IsC c Z,A,B,G]
   (fun _:{Z':Cs // StR T Z key m R X D st asked came Z'}=> .bool (stoB Z.bound key m R X D st)) (fun r=>[IsC c r.1,A,B,G]):=by
 have hT:=hZ.t
 (refine S.cache_Cache_Store_s.cn fun F=>?_;unfold S.cache_Cache_Store;simp only[ca_,na_])
 refine e_boxA fun b8=>?_
 refine e_boxA fun b9=>?_
 refine e_call none_ (by(repeat(first|exact Picks.nil|(apply Picks.cons;(focus repeat constructor))))) fun _=>?_
 refine nr_ ?_
 refine e_gdT (lg_ ?_);refine e_gdT (lg_ ?_);refine e_gdT (e_call (storable (st:=st) hA (by omega) hB (by omega)) (.cons (by repeat constructor) (.cons (by repeat constructor) .nil)) fun _=>?_)
 refine nr_ ?_
 refine e_gdT (o_ v_not (o_ v_pickF ?_))
 cases hst:storF m st R X with
 |false=>
  have hb:stoB Z.bound key m R X D st=false:=by unfold stoB;rw[hst];rfl
  rw[Bool.not_false]
  refine e_condT (e_ret (⟨Z,hZ,by rw[hb];rfl⟩:{Z':Cs // StR T Z key m R X D st asked came Z'}) (by rw[hb]) ?_)
  exact im_
 |true=>
 rw[Bool.not_true]
 refine e_condF (e_drS (e_stD v_fa0 .nil ?_));(((refine' e_stD (v_ldN ?hc) ?hi ?_);(case hi=>exact .pick (by repeat constructor) .nil);(case hc=>repeat constructor)));refine t_ v_fa0 (ls_ ?_);refine e_stD v_fa0 .nil ?_;(((refine' e_stD (v_ldN ?hc) ?hi ?_);(case hi=>exact .pick (by repeat constructor) .nil);(case hc=>repeat constructor)));(((refine' e_stD (v_ldAgg ?hn) ?hi ?_);(case hi=>exact .pick (by repeat constructor) .nil);(case hn=>rfl)));(((refine' e_stD (v_ldAgg ?hn) ?hi ?_);(case hi=>exact .pick (by repeat constructor) .nil);(case hn=>rfl)))
 refine e_call (cloneF hA har (by have:=z_len R;omega)) (.cons (by repeat constructor) .nil) fun q=>?_
 obtain⟨ra,rc⟩:=q
 refine nr_ ?_
 (try dsimp only)
 refine ob_ ?_;refine ob_ ?_;refine ob_ ?_;refine ob_ ?_;refine ob_ ?_;refine ob_ ?_
 refine e_call (varied (st:=st) hA (by omega) hB (by omega)) (.cons (by repeat constructor) (.cons (by repeat constructor) .nil)) fun q=>?_
 obtain⟨va,vc⟩:=q
 refine nr_ ?_
 (try dsimp only)
 refine ob_ ?_;refine ob_ ?_;refine ob_ ?_
 refine e_call (own (st:=st) hB hax (by have:=z_len X;omega) hG had (by omega)) (.cons (by repeat constructor) (.cons (by repeat constructor) .nil)) fun q=>?_
 obtain⟨⟨xa,xc⟩,da,dc⟩:=q
 refine nr_ ?_
 (try dsimp only)
 refine ob_ ?_;refine ob_ ?_
 refine c_ (lclock (n:=asked)) fun _=>?_
 rw[show max 0 (min asked 1099511627776)=cl40 asked from rfl]
 refine ob_ ?_;refine ob_ ?_
 refine c_ (lclock (n:=came)) fun _=>?_
 rw[show max 0 (min came 1099511627776)=cl40 came from rfl]
 refine ob_ ?_;refine ob_ ?_;refine t_ v_rv ?_;refine e_boxA fun g=>?_;refine e_drS (e_stD v_lent .nil ?_)
 have hcx:=cos_z X
 have hcv:=cos_z (pickF R (variesF X))
 have hpk:=z_pick R (variesF X)
 refine e_stD v_fa0 .nil ?_;(((refine' e_stD (v_ldN ?hc) ?hi ?_);(case hi=>exact .pick (by repeat constructor) .nil);(case hc=>repeat constructor)));refine e_stD v_len .nil ?_;(refine e_stD (v_add (by omega) (by omega)) .nil ?_);(refine e_stD (v_add (by omega) (by omega)) .nil ?_);refine t_ v_fa0 (ls_ ?_);refine e_stD v_nil .nil ?_;refine e_stD v_fa0 .nil ?_;(((refine' e_stD (v_ldN ?hc) ?hi ?_);(case hi=>exact .pick (by repeat constructor) .nil);(case hc=>repeat constructor)))
 refine e_call (size_ hB (by omega)) (.cons (by repeat constructor) .nil) fun _=>?_
 refine nr_ ?_
 refine ob_ ?_;refine ob_ ?_;refine ob_ ?_;refine ob_ ?_;refine ob_ ?_;refine ob_ ?_;refine ob_ ?_;refine ob_ ?_;refine ob_ ?_;(refine e_stD (v_add (by omega) (by omega)) .nil ?_)
 refine e_slfacts (by(repeat constructor):Pick _ (Sl 2 68 va vc (pickF R (variesF X)).length ((pickF R (variesF X)).flatMap pFd)) _) fun _ _ _ hv=>?_
 refine e_call (size_ (rdF_any hv) (by omega)) (.cons (by repeat constructor) .nil) fun _=>?_
 refine nr_ ?_
 refine ob_ ?_;refine ob_ ?_;refine ob_ ?_;refine ob_ ?_;refine ob_ ?_;refine ob_ ?_;refine ob_ ?_;(refine t_ (v_add (by omega) (by omega)) ?_);refine t_ v_nil (t_ v_fa0 (sn_ ?_));refine e_drS (t_ v_nil (t_ v_fa0 (ls_ ?_)));refine t_ v_nil (t_ v_fa0 ?_)
 have hco:((key.length:Int)+D.length+64+cosF X+cosF (pickF R (variesF X)))=(newE key m R X D st asked came).cost:=by simp[newE]
 rw[hco]
 have hcs:(newE key m R X D st asked came).cost<=9000000:=by rw[<- hco];omega
 have hen:EnOk T (newE key m R X D st asked came):=newE_ok hR hX hD
 have hc64:=hen.c1
 obtain⟨en,hen0⟩:∃en,en=newE key m R X D st asked came:=⟨_,rfl⟩
 have hsb:stoB Z.bound key m R X D st=decide (en.cost<=Z.bound):=by unfold stoB;rw[hst,hen0];rfl
 rw[hsb]
 refine e_neC (by(repeat constructor):Pick _ (pt g _) _) (by(repeat constructor):Pick _ (IsC c Z) _) fun hgal=>?_
 refine e_imp (M:=IsE g en::IsC c Z::pt b8 (.cells #[txt m,txt tg,.int .i64 mi,.slice ar R.length cr] 31)::A::B::G::F) (.ex (((ra,rc),va,vc),(xa,xc),da,dc) (.all ?_)) ?_
 ·rw[hen0]
  refine nr_ ?_
  exact im_
 rw[<- hen0]at hcs hen hc64 ⊢
 refine p_st ld_bound ?_
 refine t_ v_gtr ?_
 by_cases hgt:Z.bound<en.cost
 ·rw[dT_ hgt]
  refine e_condT (e_ret (⟨Z,hZ,by rw[hsb,dF_ (by omega)];rfl⟩:{Z':Cs // StR T Z key m R X D st asked came Z'}) (by rw[dF_ (by omega)]) ?_)
  exact im_
 rw[dF_ hgt]
 have hstr:∀Z',StR T Z key m R X D st asked came Z'↔CsOk T Z'/\∃g Y,Sub Y Z/\g∉Y.al/\Z'=addS Y g en:=fun Z'=>by
  unfold StR
  rw[hsb,dT_ (by omega),hen0]
  rfl
 rw[dT_ (by omega)]
 refine e_condF (e_clone (key:=key) hZ (by(repeat constructor):Pick _ (IsC c Z) _) fun ka kc=>?_)
 have hkl:=hZ.ofl key
 refine o_ v_len (e_loop1 (fun k y=>[ex fun x:Nat × Cs=>all [pu (k+x.1=(Z.of_ key).length/\y= .int .i64 (x.1:Int)/\Sub x.2 Z/\CsOk T x.2/\∀j∈(Z.of_ key).drop x.1,j∈x.2.ord),Sl 1 65 ka kc (Z.of_ key).length ((Z.of_ key).map pE),IsC c x.2,IsE g en,pt b8 (.cells #[txt m,txt tg,.int .i64 mi,.slice ar R.length cr] 31),A,B,G]]++F) (Z.of_ key).length ?_ ?_)
 ·refine .ex (0,Z) (.all ?_)
  refine nr_ ?_
  refine .pu ⟨rfl,rfl,Sub.refl Z,hZ,fun j hj=>(hZ.fo key j hj).1⟩ ?_
  exact im_
 intro k ds y
 refine nr_ ?_
 refine e_ex Pick.here fun x=>e_all Pick.here ?_
 obtain⟨i,Y⟩:=x
 refine nr_ ?_
 refine e_pu Pick.here fun hi=>?_
 obtain⟨hki,rfl,hsub,hY,hdr⟩:=hi
 (try dsimp only at hki hsub hY hdr)
 refine e_ask v_lss .nil (fun h=>?_) (fun h=>?_)
 ·have hin:i<(Z.of_ key).length:=by omega
  refine e_condT (e_slsome (by(repeat constructor):Pick _ (Sl 1 65 ka kc (Z.of_ key).length ((Z.of_ key).map pE)) _) (by omega) fun gk hgk=>?_)
  subst hgk
  have hsplit:(Z.of_ key).drop i=(Z.of_ key)[i]::(Z.of_ key).drop (i+1):=(List.drop_eq_getElem_cons hin)
  have hxo:(Z.of_ key)[i]∈Y.ord:=hdr _ (by rw[hsplit];exact List.mem_cons_self)
  have hxa:=hY.oa _ hxo
  have hnd:∀j∈(Z.of_ key).drop (i+1),j≠(Z.of_ key)[i]:=fun j hj e=>by
   have:=(hZ.fn key).sublist (List.drop_sublist i _)
   rw[hsplit,List.nodup_cons]at this
   exact this.1 (e▸hj)
  refine o_ (v_ia1 i rfl hin) ?_
  refine p_op (ld_pE hin) ?_
  refine o_ v_fa0 (ln_ ?_)
  refine e_ex (by(repeat constructor):Pick _ (IsC c Y) _) fun q=>e_all .here ?_
  obtain⟨⟨oa,oc⟩,mg,rw_⟩:=q
  refine nr_ ?_
  refine e_bl (by(repeat constructor):Pick _ (BE Y.al Y.E) _) (Z.of_ key)[i] hxa hY.aln ?_
  refine e_call (fits (e:=Y.E (Z.of_ key)[i]) (g:=(Z.of_ key)[i]) (hY.en _ hxa) hT hA (by omega)) (.cons (by repeat constructor) (.cons (by repeat constructor) .nil)) fun _=>?_
  refine nr_ ?_
  refine e_blb (l:=Y.al) (F':=fun g=>IsE g (Y.E g)) (Z.of_ key)[i] hxa hY.aln (fun _ _ _=>rfl) (by repeat constructor) (by repeat constructor) ?_
  refine e_imp (M:=IsC c Y::Sl 1 65 (some ⟨gk,0,none⟩) kc (Z.of_ key).length ((Z.of_ key).map pE)::IsE g en::pt b8 (.cells #[txt m,txt tg,.int .i64 mi,.slice ar R.length cr] 31)::A::B::G::F) (.ex ((oa,oc),mg,rw_) (.all ?_)) ?_
  ·unfold BE
   refine nr_ ?_
   exact im_
  cases hfit:fitsF (Y.E (Z.of_ key)[i]) R with
  |true=>
   refine e_condT (e_call (drop hY hxo) (by(repeat(first|exact Picks.nil|(apply Picks.cons;(focus repeat constructor))))) fun _=>?_)
   refine nr_ ?_
   refine ad_ ?_
   refine e_next1 (k-1) (by omega) (.ex (i+1,dropS Y (Z.of_ key)[i]) (.all ?_))
   refine nr_ ?_
   refine .pu ⟨by omega,by norm_cast,(sub_drop _ _).trans hsub,drop_ok hY hxo,fun j hj=>?_⟩ ?_
   ·exact List.mem_filter.2 ⟨hdr j (by rw[hsplit];exact List.mem_cons_of_mem _ hj),by simpa using hnd j hj⟩
   exact im_
  |false=>
   refine e_condF (ad_ ?_)
   refine e_next1 (k-1) (by omega) (.ex (i+1,Y) (.all ?_))
   refine nr_ ?_
   refine .pu ⟨by omega,by norm_cast,hsub,hY,fun j hj=>hdr j (by rw[hsplit];exact List.mem_cons_of_mem _ hj)⟩ ?_
   exact im_
 refine e_condF (e_loop0 (fun k=>[ex fun Y:Cs=>all [pu (k=Y.ord.length/\Sub Y Z/\CsOk T Y),IsC c Y,IsE g en,A,B,G]]++F) Y.ord.length ?_ ?_)
 ·refine .ex Y (.all ?_)
  refine nr_ ?_
  refine .pu ⟨rfl,hsub,hY⟩ ?_
  exact im_
 clear hki hsub hY hdr h
 intro k2 ds2
 refine nr_ ?_
 refine e_ex Pick.here fun Y=>e_all Pick.here ?_
 refine nr_ ?_
 refine e_pu Pick.here fun hi=>?_
 obtain⟨rfl,hsub,hY⟩:=hi
 (try dsimp only at hsub hY)
 have hbd:Y.bound=Z.bound:=hsub.bound
 have hb0:=hY.b0
 have hb1:=hY.b1
 have hle:=hY.le
 have hyl:=hY.len
 refine e_drS (t_ v_nil (t_ v_fa0 (p_st ld_bytes ?_)))
 refine t_ v_nil (t_ v_fa0 (p_st ld_bound ?_))
 refine t_ v_nil (t_ v_fa0 (p_st ld_ecost ?_))
 refine t_ (v_sub (by omega) (by omega)) ?_
 refine t_ v_gtr ?_
 by_cases hmore:Y.bound-en.cost<Y.bytes
 ·rw[dT_ hmore]
  refine e_condT ?_
  have hol:0<Y.ord.length:=by
   rcases Nat.eq_zero_or_pos Y.ord.length with z|z
   ·have hn:Y.ord=[]:=List.eq_nil_of_length_eq_zero z
    have:=hY.by_
    rw[hn]at this
    simp only[cst]at this
    omega
   ·exact z
  have hxo:Y.ord[0]∈Y.ord:=List.getElem_mem hol
  refine e_ex (by(repeat constructor):Pick _ (IsC c Y) _) fun q=>e_all .here ?_
  obtain⟨⟨oa,oc⟩,mg,rw_⟩:=q
  refine nr_ ?_
  refine e_slsome (by(repeat constructor):Pick _ (Sl 1 65 oa oc Y.ord.length (Y.ord.map pE)) _) hol fun go hgo=>?_
  subst hgo
  refine o_ v_nil (o_ v_fa0 (o_ v_fa0 (ln_ ?_)))
  refine o_ (v_ia1 0 rfl hol) ?_
  refine p_op (ld_pE hol) ?_
  refine e_imp (M:=IsC c Y::IsE g en::A::B::G::F) (.ex ((some ⟨go,0,none⟩,oc),mg,rw_) (.all ?_)) ?_
  ·refine nr_ ?_
   exact im_
  refine e_call (drop hY hxo) (by(repeat(first|exact Picks.nil|(apply Picks.cons;(focus repeat constructor))))) fun _=>?_
  refine nr_ ?_
  refine e_next0 (rmL Y.ord Y.ord[0]).length (rm_lt hxo) (.ex (dropS Y Y.ord[0]) (.all ?_))
  refine nr_ ?_
  refine .pu ⟨rfl,(sub_drop _ _).trans hsub,drop_ok hY hxo⟩ ?_
  exact im_
 rw[dF_ hmore]
 refine e_condF ?_
 have hgY:g∉Y.al:=by rw[hsub.al];exact hgal
 have hgo:g∉Y.ord:=fun c=>hgY (hY.oa g c)
 have hkey:en.key=key:=by rw[hen0];rfl
 have hfl:=hY.ofl key
 have hol:=hY.ordl
 refine e_ex (by(repeat constructor):Pick _ (IsC c Y) _) fun q=>e_all .here ?_
 obtain⟨⟨oa,oc⟩,mg,rw_⟩:=q
 refine nr_ ?_
 refine e_drS (e_stD v_nil .nil ?_);refine e_stD v_fa0 .nil ?_;(((refine' e_stD (v_ldN ?hc) ?hi ?_);(case hi=>exact .pick (by repeat constructor) .nil);(case hc=>repeat constructor)));refine e_stD v_nil .nil ?_;refine e_stD v_fa0 .nil ?_;(((refine' e_stD (v_ldN ?hc) ?hi ?_);(case hi=>exact .pick (by repeat constructor) .nil);(case hc=>repeat constructor)))
 refine e_stD (v_lookF (keyS Tryz.underlying9)) (.pick (by repeat constructor) .nil) ?_
 refine e_getrow (key:=key) hY (by(repeat constructor):Pick _ (BL Y.ks (RowA Y rw_)) _) fun a cc hv=>?_
 rw[hv]
 refine e_bsl1 fun g=>?_;refine ob_ ?_;refine ob_ ?_;refine ob_ ?_;refine ob_ ?_;refine ob_ ?_;refine ob_ ?_;refine ob_ ?_
 rename Nat=>gb
 refine e_app (m:=1) (news:=[pE g]) (by(repeat constructor):Pick _ (Sl 1 65 a cc (Y.of_ key).length ((Y.of_ key).map pE)) _) (src_pt (s:=1) (e':=65) (by kernel_rfl) (by(repeat constructor):Pick _ (pt gb _) _) (by rfl) (by intro u hu;simp at hu;rw[hu];rfl)) (by omega) (by omega) fun a' c'=>?_
 refine ob_ ?_;refine ob_ ?_;refine ob_ ?_
 refine e_setF (keyS Tryz.underlying9) (by(repeat constructor):Pick _ (MapFn mg txt (rowsF Y rw_)) _) ?_
 refine o_ v_nil (o_ v_fa0 ?_)
 have hY':CsOk T (addS Y g en):=add_ok hY hgY hen (by omega)
 have hEg:(addS Y g en).E g=en:=if_pos rfl
 have hrm:rmL Y.ord g=Y.ord:=List.filter_eq_self.2 fun x hx=>by simp only[Bool.not_eq_true',decide_eq_false_iff_not];rintro rfl;exact hgo hx
 have hrows:updM (rowsF Y rw_) key (some (.slice a' ((Y.of_ key).length+1) c'))=rowsF (addS Y g en) (fun k=>if k=key then(a',c')else rw_ k):=by
  funext k
  by_cases e:k=key
  ·subst e
   have e2:(addS Y g en).of_ k=Y.of_ k++[g]:=if_pos hkey.symm
   unfold rowsF updM
   rw[if_pos rfl,e2,if_neg (by simp),List.length_append]
   simp only[if_true]
   rfl
  ·have e2:(addS Y g en).of_ k=Y.of_ k:=if_neg (by rw[hkey];exact e)
   unfold rowsF updM
   rw[if_neg e,e2]
   simp only[if_neg e]
 have hof:(addS Y g en).of_ key=Y.of_ key++[g]:=if_pos hkey.symm
 refine e_imp (M:=BE (g::Y.al) (addS Y g en).E::pt c (.cells #[.slice oa Y.ord.length oc,.map (some mg),.int .i64 Y.bound,.int .i64 Y.bytes] 62)::Sl 1 65 oa oc Y.ord.length (Y.ord.map pE)::MapFn mg txt (rowsF (addS Y g en) (fun k=>if k=key then(a',c')else rw_ k))::BL (addS Y g en).ks (RowA (addS Y g en) fun k=>if k=key then(a',c')else rw_ k)::A::B::G::F) ?_ ?_
 ·rw[<- hrows]
  refine imp_blC (F:=fun g=>IsE g (Y.E g)) (fun j hj=>by rw[show(addS Y g en).E j=Y.E j from if_neg (by rintro rfl;exact hgY hj)]) ?_
  rw[hEg]
  unfold BE
  refine .pick (by repeat constructor) (.pick (by repeat constructor) (.pick (by repeat constructor) (.pick (by repeat constructor) (.pick (by repeat constructor) (imp_putrow hY.ksn (by rw[<- hkey];rfl) (fun k hk=>if_neg (by rw[hkey];exact hk)) ?_)))))
  rw[hof,List.length_append,List.map_append]
  exact im_
 refine e_call (touchR (M:=Y.ord) (al:=g::Y.al) (E:=(addS Y g en).E) (c:=c) (g:=g) (by omega) (fun x hx=>List.mem_cons_of_mem _ (hY.oa x hx)) List.mem_cons_self) (.cons (by repeat constructor) (.cons (by repeat constructor) (.cons (by repeat constructor) .nil))) fun q=>?_
 obtain⟨ta,tc⟩:=q
 refine nr_ ?_
 (try dsimp only)
 rw[hrm]
 refine e_drS (t_ v_nil (t_ v_fa0 (ls_ ?_)));refine t_ v_nil (t_ v_fa0 (p_st (ld_cost (al:=g::Y.al) (E:=(addS Y g en).E) List.mem_cons_self hY'.aln) ?_))
 rw[hEg]
 (refine t_ (v_add (by omega) (by omega)) ?_);refine t_ v_nil ?_;refine t_ v_fa0 ?_;refine sn_ ?_
 refine e_ret (⟨addS Y g en,(hstr _).2 ⟨hY',g,Y,hsub,hgY,rfl⟩⟩:{Z':Cs // StR T Z key m R X D st asked came Z'}) rfl ?_
 refine .ex ((ta,tc),mg,fun k=>if k=key then(a',c')else rw_ k) (.all ?_)
 refine nr_ ?_
 unfold BE
 exact im_
theorem tokens_ {W:World}{l:List UInt8}(hl:l.length<=2097152):Cn p_ 44 [txt l] W [] (fun r:Option Addr × Nat=> .tuple #[.slice r.1 (lsF (tokensF l)).1.length r.2,.int .i64 (lsF (tokensF l)).2])
  (fun r=>[Sl 1 9 r.1 r.2 (lsF (tokensF l)).1.length ((lsF (tokensF l)).1.map txt)]):=by
 rw[show(lsF (tokensF l)).1.map txt=(lsF (tokensF l)).1.flatMap pstring by induction (lsF (tokensF l)).1 with|nil=>rfl|cons x r ih=>rw[List.map_cons,List.flatMap_cons,ih];rfl]
 (refine S.fields_Tokens_s.cn fun F=>?_;unfold S.fields_Tokens;simp only[ca_,na_])
 refine o_ v_rv ?_
 refine e_call (list_string hl fun w hw=>token1 (by omega)) .nil fun r=>?_
 refine nr_ ?_
 refine o_ (v_extN (vs:=[_,_]) .here) ?_
 refine o_ (v_extN (vs:=[_,_]) (.there .here)) ?_
 refine rt_ r ?_
 exact .refl
def pragL (l:List Fd):List (List UInt8):=(lsF (tokensF (allF l [80,114,97,103,109,97]))).1
theorem pragL_len {l:List Fd}(hl:zF l<=1048576):(pragL l).length<=1500001:=by
 have h1:=(allF_len [80,114,97,103,109,97] hl).1
 have:=elems_num (q:=false) (e:=false) (l:=allF l [80,114,97,103,109,97])
 unfold pragL tokensF listF
 split
 ·simp[lsF];omega
 ·simp[lsF]
def sNC:List UInt8:=[110,111,45,99,97,99,104,101]
def sMinF:List UInt8:=[109,105,110,45,102,114,101,115,104]
theorem wr_b (n:Int): -9223372036854775808<=wr n/\wr n<=9223372036854775807:=by
 unfold wr
 rw[IntKind.wrap_i64]
 omega
theorem e_say1 {W:World} {L L':List HP} {Kp:PK} {k:Value->WP} {D:List Dir} {da:Option Addr} {dc:Nat} {n:List UInt8} (hD:D.length<=4194304) (p:Pick L (Sl 3 128 da dc D.length (D.flatMap pDir)) L')
  (h:Ent W (Sl 3 128 da dc D.length (D.flatMap pDir)::L') (k (.bool (saysF D [n])))):
  Ent W L (opN p_ (sCall (fn 46) [.slice da D.length dc]) Kp fun x87=>opN p_ (sBuildSl 46 1 [(0,txt n)]) Kp fun x88=>opN p_ (sCall x87 [x88]) Kp k):=by
 refine e_pick p ?_
 refine e_call lsays .nil fun gd=>?_
 refine nr_ ?_
 refine e_bslN (n:=1) (vs:=[n].map txt) rfl rfl (by intro v hv;obtain⟨c,_,rfl⟩:=List.mem_map.1 hv;rfl) (by omega) fun g1=>?_
 refine e_imp (M:=all [pt gd (.cells #[.slice da D.length dc] 79),Sl 3 128 da dc D.length (D.flatMap pDir)]::pt g1 (.cells ([n].map txt).toArray 9)::L') (.all ?_) ?_
 ·refine nr_ ?_
  exact im_
 refine e_callC (cap:=[.pointer (some ⟨gd,0,none⟩)]) (lsay (N:=[n]) (da:=da) (gd:=gd) (dc:=dc) (rd_pt rfl) (by simp) hD) (by(repeat(first|exact Picks.nil|(apply Picks.cons;(focus repeat constructor))))) fun _=>?_
 refine nr_ ?_
 refine e_all .here ?_
 refine nr_ ?_
 refine e_imp (M:=Sl 3 128 da dc D.length (D.flatMap pDir)::L') im_ h
def staleF (e:En)(R:List Fd)(now:Int):Bool:=
 if saysF (dirL e.xf) [sNC]then true else if saysF (dirL R) [sNC]then true else if(pragL R).contains sNC&&!hasF R [sCC]then true
 else if lifeF e.xf e.came<=wr (ageF e.xf e.asked e.came now+(secF (dirL R) sMinF).1)then true else(secF (dirL R) sMax_).2&&decide ((secF (dirL R) sMax_).1<ageF e.xf e.asked e.came now)
structure LkO where
 st:Int
 xf:List Fd
 xb:List UInt8
 age:Int
 state:Int
 S:Cs
def outF (e:En)(age:Int):List Fd:=withF e.xf [sAge]++[(sAge,dig age)]
def lookF (Z:Cs)(key:List UInt8)(R:List Fd)(now:Int):LkO:=match findF Z key R with
 |none=>⟨0,[],[],0,0,Z⟩
 |some g=>⟨(Z.E g).st,outF (Z.E g) (ageF (Z.E g).xf (Z.E g).asked (Z.E g).came now),(Z.E g).xb,ageF (Z.E g).xf (Z.E g).asked (Z.E g).came now,if staleF (Z.E g) R now then 2 else 1,touchS Z g⟩
theorem ld_x {W:World}{g:Nat}{k m rf vf st xf xb a c co:Value}:RunV p_ W [pt g (.cells #[k,m,rf,vf,st,xf,xb,a,c,co] 72)] (sLoad 34 (.pointer (some ⟨g,4,none⟩))) (.agg #[st,xf,xb]):=
 v_ldRdG (o:=0) (j:=4) (cs:=[k,m,rf,vf,st,xf,xb,a,c,co]) (vs:=[st,xf,xb]) (m:=10) (n:=3) (rd_pt rfl) rfl (fun i hi=>by
  have:i=0\/i=1\/i=2:=by omega
  rcases this with rfl|rfl|rfl <;> rfl)
def lkV (O:LkO)(q:Q2 × Q2):Value:= .tuple #[.agg #[.int .i64 O.st,.slice q.1.1 O.xf.length q.1.2,.slice q.2.1 O.xb.length q.2.2],.int .i64 O.age,.int .i64 O.state]
set_option maxRecDepth 20000 in
theorem look {W:World}[hG:Gl W][hP:Gp W]{c T:Nat}{Z:Cs}{key m tg:List UInt8}{mi now:Int}{R:List Fd}{ar:Option Addr}{cr:Nat}{A:HP}(hZ:CsOk T Z)(hA:RdF W A ar R)(hR:zF R<=1048576):
  Cn p_ 13 [pE c,txt key,.agg #[txt m,txt tg,.int .i64 mi,.slice ar R.length cr],.int .i64 now] W [IsC c Z,A] (lkV (lookF Z key R now))
   (fun q=>[IsC c (lookF Z key R now).S,A,Sl 2 68 q.1.1 q.1.2 (lookF Z key R now).xf.length ((lookF Z key R now).xf.flatMap pFd),Sl 1 5 q.2.1 q.2.2 (lookF Z key R now).xb.length ((lookF Z key R now).xb.map Sl.B)]):=by
 have hT:=hZ.t
 (refine S.cache_Cache_Look_s.cn fun F=>?_;unfold S.cache_Cache_Look;simp only[ca_,na_])
 refine e_boxA fun b6=>?_
 refine e_newA fun b8=>?_
 refine e_call none_ (by(repeat(first|exact Picks.nil|(apply Picks.cons;(focus repeat constructor))))) fun _=>?_
 refine nr_ ?_
 refine e_condF (o_ v_fa0 (ln_ ?_))
 refine e_call (find (key:=key) hZ hA hR) (by(repeat(first|exact Picks.nil|(apply Picks.cons;(focus repeat constructor))))) fun _=>?_
 refine nr_ ?_
 cases hf:findF Z key R with
 |none=>
  have hl:lookF Z key R now=⟨0,[],[],0,0,Z⟩:=by unfold lookF;rw[hf]
  rw[hl]
  (try dsimp only)
  refine o_ v_eqNil0 ?_;refine e_condT (o_ v_rv ?_);refine sg_ ?_;(((refine' e_stS (v_resA ?hn) ?hi ?_);(case hi=>exact im_);(case hn=>rfl)))
  refine e_ret ((none,0),(none,0)) rfl ?_
  refine .pick (by repeat constructor) (.pick (by repeat constructor) (imp_nil (imp_nil ?_)))
  exact im_
 |some g=>
  obtain⟨hgo,hfit⟩:=find_mem hf
  have hgo:=(hZ.fo key g hgo).1
  have hga:=hZ.oa g hgo
  have hen:=hZ.en g hga
  have hxf:zF (Z.E g).xf<=1048576:=by have:=hen.xf;omega
  have hZ':=touch_ok hZ hgo
  have hol:=hZ.ordl
  have hl:lookF Z key R now=⟨(Z.E g).st,outF (Z.E g) (ageF (Z.E g).xf (Z.E g).asked (Z.E g).came now),(Z.E g).xb,ageF (Z.E g).xf (Z.E g).asked (Z.E g).came now,if staleF (Z.E g) R now then 2 else 1,touchS Z g⟩:=by unfold lookF;rw[hf]
  rw[hl]
  (try dsimp only)
  refine o_ v_eqNil1 ?_;refine e_condF (o_ v_nil (o_ v_fa0 (e_ex (by(repeat constructor):Pick _ (IsC c Z) _) fun q=>e_all .here ?_)))
  obtain⟨⟨oa,oc⟩,mg,rw_⟩:=q
  refine nr_ ?_
  refine e_call (touchR (M:=Z.ord) (al:=Z.al) (E:=Z.E) (c:=c) (g:=g) (by omega) hZ.oa hga) (.cons (by repeat constructor) (.cons (by repeat constructor) (.cons (by repeat constructor) .nil))) fun q=>?_
  obtain⟨ta,tc⟩:=q
  refine nr_ ?_
  (try dsimp only)
  refine e_bl (by(repeat constructor):Pick _ (BE Z.al Z.E) _) g hga hZ.aln ?_
  have hE:∃e,e=Z.E g:=⟨_,rfl⟩
  obtain⟨e,he⟩:=hE
  rw[<- he]at hen hxf hl ⊢
  refine e_ex .here fun q=>e_all .here ?_
  obtain⟨⟨⟨ra,rc⟩,va,vc⟩,⟨xa,xc⟩,ba,bc⟩:=q
  refine nr_ ?_
  refine e_slfacts (by(repeat constructor):Pick _ (Sl 2 68 xa xc e.xf.length (e.xf.flatMap pFd)) _) fun _ _ _ hx=>?_
  refine e_slfacts (by(repeat constructor):Pick _ (Sl 1 5 ba bc e.xb.length (e.xb.map Sl.B)) _) fun _ _ _ hb=>?_
  refine e_drS (t_ v_nil (t_ v_fa0 (p_st ld_x ?_)))
  refine t_ v_nil (t_ v_fa0 (ls_ ?_));refine t_ v_nil (t_ v_fa0 (ls_ ?_))
  refine e_call (age (st:=e.st) (asked:=e.asked) (came:=e.came) (now:=now) (rdF_any hx) hxf) (.cons (by repeat constructor) .nil) fun _=>?_
  refine nr_ ?_
  refine e_drS (t_ v_nil (t_ v_fa0 (p_st ld_x ?_)))
  refine t_ v_nil (t_ v_fa0 (ls_ ?_))
  refine e_call (lifetime (st:=e.st) (now:=e.came) (rdF_any hx) hxf) (.cons (by repeat constructor) .nil) fun _=>?_
  refine nr_ ?_
  refine o_ v_fa0 (ln_ ?_)
  obtain⟨CX,hCX⟩:∃CX,CX=all [Sl 2 68 ra rc e.rf.length (e.rf.flatMap pFd),Sl 2 68 va vc e.vf.length (e.vf.flatMap pFd),BO Z.al (fun g=>IsE g (Z.E g)) g,pt c (.cells #[.slice ta (rmL Z.ord g++[g]).length tc,.map (some mg),.int .i64 Z.bound,.int .i64 Z.bytes] 62),Sl 1 65 ta tc (rmL Z.ord g++[g]).length ((rmL Z.ord g++[g]).map pE),MapFn mg txt (rowsF Z rw_),BL Z.ks (RowA Z rw_)]:=⟨_,rfl⟩
  obtain⟨PG,hPG⟩:∃PG,PG=pt g (.cells #[txt e.key,txt e.met,.slice ra e.rf.length rc,.slice va e.vf.length vc,.int .i64 e.st,.slice xa e.xf.length xc,.slice ba e.xb.length bc,.int .i64 e.asked,.int .i64 e.came,.int .i64 e.cost] 72):=⟨_,rfl⟩
  refine e_imp (M:=CX::PG::Sl 2 68 xa xc e.xf.length (e.xf.flatMap pFd)::Sl 1 5 ba bc e.xb.length (e.xb.map Sl.B)::A::pt b8 (.cells #[.int .i64 0,.slice none 0 0,.slice none 0 0] 34)::F) (by rw[hCX,hPG];exact .all (.pick (by repeat constructor) (.pick (by repeat constructor) (.pick (by repeat constructor) (.pick (by repeat constructor) (.pick (by repeat constructor) (.pick (by repeat constructor) (.pick (by repeat constructor) im_)))))))) ?_
  obtain⟨hd1,hd2⟩:=dirL_ok hR
  obtain⟨he1,he2⟩:=dirL_ok hxf
  have hal:=(allF_len [80,114,97,103,109,97] hR).1
  have htl:=pragL_len hR
  refine e_call (ldirs hA hR) (.cons (by repeat constructor) .nil) fun r=>?_
  obtain⟨da,dc⟩:=r
  refine nr_ ?_
  (try dsimp only)
  refine e_call (seconds (xs:=dirL R) (s:=sMax_) (by omega) hd2) (.cons (by repeat constructor) .nil) fun _=>?_
  refine nr_ ?_
  refine o_ (v_extN (vs:=[_,_]) .here) ?_
  refine o_ (v_extN (vs:=[_,_]) (.there .here)) ?_
  refine e_call (seconds (xs:=dirL R) (s:=sMinF) (by omega) hd2) (.cons (by repeat constructor) .nil) fun _=>?_
  refine nr_ ?_
  refine o_ (v_extN (vs:=[_,_]) .here) ?_
  refine o_ (v_extN (vs:=[_,_]) (.there .here)) ?_
  refine e_call (lall (n:=[80,114,97,103,109,97]) hA hR (by decide)) (.cons (by repeat constructor) .nil) fun _=>?_
  refine nr_ ?_
  refine e_call (tokens_ (l:=allF R [80,114,97,103,109,97]) (by omega)) .nil fun r=>?_
  obtain⟨ka,kc⟩:=r
  refine nr_ ?_
  (try dsimp only)
  refine o_ (v_extN (vs:=[_,_]) .here) ?_
  refine o_ (v_extN (vs:=[_,_]) (.there .here)) ?_
  rw[show(lsF (tokensF (allF R [80,114,97,103,109,97]))).1=pragL R from rfl]
  obtain⟨AG,hAG⟩:∃AG,AG=ageF e.xf e.asked e.came now:=⟨_,rfl⟩
  obtain⟨LI,hLI⟩:∃LI,LI=lifeF e.xf e.came:=⟨_,rfl⟩
  have hstale:staleF e R now=if saysF (dirL e.xf) [sNC]then true else if saysF (dirL R) [sNC]then true else if(pragL R).contains sNC&&!hasF R [sCC]then true
   else if LI<=wr (AG+(secF (dirL R) sMinF).1)then true else(secF (dirL R) sMax_).2&&decide ((secF (dirL R) sMax_).1<AG):=by rw[hLI,hAG];rfl
  rw[<- hAG,<- hLI]
  refine e_cut1 (fun z=>pu (z= .int .i64 (if staleF e R now then 2 else 1))::CX::PG::Sl 2 68 xa xc e.xf.length (e.xf.flatMap pFd)::Sl 1 5 ba bc e.xb.length (e.xb.map Sl.B)::A::pt b8 (.cells #[.int .i64 0,.slice none 0 0,.slice none 0 0] 34)::F) ?_ ?_
  rotate_left
  ·rw[hstale]
   rw[hPG]
   refine o_ v_nil (o_ v_fa0 (o_ v_fa (ln_ ?_)))
   refine e_call (ldirs (rdF_any hx) hxf) (.cons (by repeat constructor) .nil) fun r=>?_
   obtain⟨ea,ec⟩:=r
   refine nr_ ?_
   (try dsimp only)
   refine e_say1 (n:=sNC) (by omega) (by(repeat constructor):Pick _ (Sl 3 128 ea ec (dirL e.xf).length ((dirL e.xf).flatMap pDir)) _) ?_
   cases h1:saysF (dirL e.xf) [sNC]with
   |true=>
    simp only[if_true]
    refine e_condT (e_condT (e_sat (.pu trivial ?_)))
    exact im_
   |false=>
   simp only[Bool.false_eq_true,if_false]
   refine e_condF (e_say1 (n:=sNC) (by omega) (by(repeat constructor):Pick _ (Sl 3 128 da dc (dirL R).length ((dirL R).flatMap pDir)) _) ?_)
   cases h2:saysF (dirL R) [sNC]with
   |true=>
    simp only[if_true]
    refine e_condT (e_condT (e_sat (.pu trivial ?_)))
    exact im_
   |false=>
   simp only[Bool.false_eq_true,if_false]
   refine e_condF (e_slfacts (by(repeat constructor):Pick _ (Sl 1 9 ka kc (pragL R).length ((pragL R).map txt)) _) fun _ _ _ hs=>?_)
   refine e_call (contains_ (N:=pragL R) (x:=sNC) (rd_sl (e:=9) (a:=ka) (cap:=kc) (by rw[List.length_map]) hs) (by omega)) (.cons (by repeat constructor) .nil) fun _=>?_
   refine nr_ ?_
   have tm:∀ {N:List (List UInt8)},∀v∈N.map txt,v.cells= #[v]:=fun v hv=>by obtain⟨c,_,rfl⟩:=List.mem_map.1 hv;rfl
   refine' both_ ?_ ?_
   rotate_left
   ·intro main
    cases h4:(pragL R).contains sNC with
    |false=>
     refine e_gdF2 (e_gdF2 (e_gdF2 (e_gdF2 (o_ v_pickF ?_))))
     simp only[Bool.false_and,Bool.false_eq_true,if_false]
     refine e_imp (M:=CX::pt g (.cells #[txt e.key,txt e.met,.slice ra e.rf.length rc,.slice va e.vf.length vc,.int .i64 e.st,.slice xa e.xf.length xc,.slice ba e.xb.length bc,.int .i64 e.asked,.int .i64 e.came,.int .i64 e.cost] 72)::Sl 2 68 xa xc e.xf.length (e.xf.flatMap pFd)::Sl 1 5 ba bc e.xb.length (e.xb.map Sl.B)::A::pt b8 (.cells #[.int .i64 0,.slice none 0 0,.slice none 0 0] 34)::F) im_ ?_
     exact main
    |true=>
     refine e_gdT (e_gdT (e_bslN (n:=1) (vs:=[sCC].map txt) rfl rfl tm (by omega) fun g4=>?_))
     refine e_gdT (e_call (lhas (N:=[sCC]) hA hR (rd_pt rfl) (by decide) (by decide)) (.cons (by repeat constructor) (.cons (by repeat constructor) .nil)) fun _=>?_)
     refine nr_ ?_
     refine e_gdT (o_ v_not (o_ v_pickT ?_))
     cases h5:hasF R [sCC]with
     |true=>
      simp only[Bool.not_true,Bool.and_false,Bool.false_eq_true,if_false]
      refine e_imp (M:=CX::pt g (.cells #[txt e.key,txt e.met,.slice ra e.rf.length rc,.slice va e.vf.length vc,.int .i64 e.st,.slice xa e.xf.length xc,.slice ba e.xb.length bc,.int .i64 e.asked,.int .i64 e.came,.int .i64 e.cost] 72)::Sl 2 68 xa xc e.xf.length (e.xf.flatMap pFd)::Sl 1 5 ba bc e.xb.length (e.xb.map Sl.B)::A::pt b8 (.cells #[.int .i64 0,.slice none 0 0,.slice none 0 0] 34)::F) im_ ?_
      exact main
     |false=>
      simp only[Bool.not_false,Bool.and_true,if_true]
      refine e_condT (e_condT (e_sat (.pu trivial ?_)))
      exact im_
   refine e_condF (o_ v_addw ?_)
   rw[show IntKind.i64.wrap (AG+(secF (dirL R) sMinF).1)=wr (AG+(secF (dirL R) sMinF).1)from rfl]
   refine e_ask v_geq .nil (fun h=>?_) (fun h=>?_)
   ·simp only[if_pos h,if_true]
    refine e_condT (e_condT (e_sat (.pu trivial ?_)))
    exact im_
   simp only[if_neg h]
   refine e_condF ?_
   cases h6:(secF (dirL R) sMax_).2 with
   |false=>
    refine e_gdF2 (e_gdF2 (e_gdF2 (o_ v_pickF ?_)))
    simp only[Bool.false_and,Bool.false_eq_true,if_false]
    refine e_condF (e_sat (.pu trivial ?_))
    exact im_
   |true=>
    refine e_gdT (e_gdT (e_gdT (o_ v_lss (o_ v_pickT ?_))))
    simp only[Bool.true_and]
    by_cases h7:(secF (dirL R) sMax_).1<AG
    ·rw[dT_ h7]
     simp only[if_true]
     refine e_condT (e_sat (.pu trivial ?_))
     exact im_
    ·rw[dF_ h7]
     simp only[Bool.false_eq_true,if_false]
     refine e_condF (e_sat (.pu trivial ?_))
     exact im_
  intro ds z
  refine e_pu .here fun hz=>?_
  subst hz
  rw[hPG]
  refine o_ v_nil (o_ v_fa0 (p_op ld_x ?_))
  refine e_call (own (st:=e.st) (X:=e.xf) (D:=e.xb) (rdF_any hx) (fun h=>List.eq_nil_of_length_eq_zero (by
    rcases Nat.eq_zero_or_pos e.xf.length with z|z
    ·exact z
    ·obtain⟨_,h1⟩:=hx z;rw[h1]at h;cases h)) (by have:=z_len e.xf;omega) (rd_sl (by rw[List.length_map]) hb) (fun h=>List.eq_nil_of_length_eq_zero (by
    rcases Nat.eq_zero_or_pos e.xb.length with z|z
    ·exact z
    ·obtain⟨_,h1⟩:=hb z;rw[h1]at h;cases h)) (by have:=hen.xb;omega)) (.cons (by repeat constructor) (.cons (by repeat constructor) .nil)) fun q=>?_
  obtain⟨⟨ya,yc⟩,wa,wc⟩:=q
  refine nr_ ?_
  (try dsimp only)
  refine sg_ ?_;refine o_ v_fa0 (ln_ ?_);refine e_bsl1 fun g=>?_
  rename Nat=>g4
  refine e_slfacts (by(repeat constructor):Pick _ (Sl 2 68 ya yc e.xf.length (e.xf.flatMap pFd)) _) fun _ _ _ hy=>?_
  have hzx:=z_len e.xf
  refine e_call (without (l:=e.xf) (N:=[sAge]) (nc:=1) (NA:=pt g4 (.cells ([sAge].map txt).toArray 9)) (rdF_any hy) (z_ok (by omega)) (rd_pt rfl) (by decide) (by decide)) (.cons (by repeat constructor) (.cons (by repeat constructor) .nil)) fun w=>?_
  obtain⟨w1,w2⟩:=w
  refine nr_ ?_
  (try dsimp only)
  obtain⟨ag1,ag2⟩: -9223372036854775808<=AG/\AG<=9223372036854775807:=by rw[hAG];exact wr_b _
  refine c_ (digits ag1 ag2) fun _=>?_
  refine o_ v_rv ?_
  refine e_bslS (n:=1) (vs:=[vFd (sAge,dig AG)]) rfl (by omega) rfl (by intro v hv;rw[List.mem_singleton.1 hv];rfl) (by omega) fun gb=>?_
  have hwl:=with_len e.xf [sAge]
  refine e_app (m:=1) (news:=pFd (sAge,dig AG)) (by(repeat constructor):Pick _ (Sl 2 68 w1 w2 (withF e.xf [sAge]).length ((withF e.xf [sAge]).flatMap pFd)) _) (src_pt (s:=2) (e':=68) (by kernel_rfl) .here (by rfl) (by intro u hu;simp[vFd,Value.cells]at hu;rcases hu with rfl|rfl <;> rfl)) (by omega) (by omega) fun a' c'=>?_
  rw[show(withF e.xf [sAge]).length+1=(outF e AG).length by unfold outF;rw[List.length_append];rfl,show(withF e.xf [sAge]).flatMap pFd++pFd (sAge,dig AG)=(outF e AG).flatMap pFd by unfold outF;rw[List.flatMap_append];rfl]
  refine o_ v_fa0 (sn_ ?_);refine lg_ ?_;refine sg_ ?_;(((refine' e_stS (v_resA ?hn) ?hi ?_);(case hi=>exact im_);(case hn=>rfl)))
  rw[hCX]
  refine e_all (by(repeat constructor):Pick _ (all [Sl 2 68 ra rc e.rf.length (e.rf.flatMap pFd),Sl 2 68 va vc e.vf.length (e.vf.flatMap pFd),BO Z.al (fun g=>IsE g (Z.E g)) g,pt c (.cells #[.slice ta (rmL Z.ord g++[g]).length tc,.map (some mg),.int .i64 Z.bound,.int .i64 Z.bytes] 62),Sl 1 65 ta tc (rmL Z.ord g++[g]).length ((rmL Z.ord g++[g]).map pE),MapFn mg txt (rowsF Z rw_),BL Z.ks (RowA Z rw_)]) _) ?_
  refine nr_ ?_
  refine e_ret ((a',c'),(wa,wc)) rfl ?_
  refine .ex ((ta,tc),mg,rw_) (.all ?_)
  refine nr_ ?_
  rw[show BE (touchS Z g).al (touchS Z g).E=BL Z.al (fun g=>IsE g (Z.E g))from rfl,show rowsF (touchS Z g) rw_=rowsF Z rw_ from rfl,show BL (touchS Z g).ks (RowA (touchS Z g) rw_)=BL Z.ks (RowA Z rw_)from rfl,show(touchS Z g).ord=rmL Z.ord g++[g]from rfl,show(touchS Z g).bound=Z.bound from rfl,show(touchS Z g).bytes=Z.bytes from rfl]
  refine .pick (by repeat constructor) (.pick (by repeat constructor) (.pick (by repeat constructor) (.pick (by repeat constructor) (imp_bl (F:=fun g=>IsE g (Z.E g)) g hga hZ.aln (fun _ _ _=>rfl) ?_))))
  rw[<- he]
  refine .ex (((ra,rc),va,vc),(xa,xc),ba,bc) (.all ?_)
  refine nr_ ?_
  exact im_
end Go.Proofs.YthomhkpedghhgaaGreatDoor.FD
namespace Go.Proofs.YthomhkpedghhgaaGreatDoor.Sl
open Go Go.RowKit Sh
variable {P:Program} {W:World} {L L':List HP} {Kp:PK} {k:Value->WP}
theorem e_bconst {t e e':TypeId} {g n c:Nat} {cs:Array Value} (ht:P.underlying t=some (.slice e)) (he:P.underlying e=some (.int .u8)) (p:Pick L (pt g (.cells cs e' (0,0))) L')
  (h:Ent W (pt g (.cells cs e' (cs.size,cs.size+1))::L') (k (.slice (some ⟨g,0,none⟩) n c))):Ent W L (opN P (sConv t t (.slice (some ⟨g,0,none⟩) n c)) Kp k):=fun w hw=>by
 have hp:=hw.pick p
 have hg:=hp.pt_.1
 have hsh:w.shape? g=some (e',cs.size):=by unfold World.shape?;rw[hg]
 have hrun:(sConv t t (.slice (some ⟨g,0,none⟩) n c)).run P w= .ok (.value (.slice (some ⟨g,0,none⟩) n c)) (w.freeze ⟨g,cs.size,none⟩ 1):=by
  simp[sConv,convert,run_underlying ht,run_underlying he,markStringish,hsh]
 refine⟨?_⟩
 rw[hrun]
 refine h _ (hp.turn (w':=w.freeze ⟨g,cs.size,none⟩ 1) rfl rfl rfl ?_ ?_ ?_)
 ·simp[World.freeze]
 ·simp[World.freeze,Array.getElem?_modify,hg]
 ·intro i hi
  simp only[World.freeze]
  rw[if_neg (by decide),Array.getElem?_modify,if_neg (fun c=>hi c.symm)]
end Go.Proofs.YthomhkpedghhgaaGreatDoor.Sl
namespace Go.Proofs.YthomhkpedghhgaaGreatDoor.FD
open Go Go.Proofs Go.RowKit Sh Sl T
def sMaxE:List UInt8:=[109,97,120,45,97,103,101,61]
def e0:En:=newE [107] sGET [] [(sCC,sMaxE++[49,48])] [120] 200 5 5
theorem e0_fits:fitsF e0 []=true:=by decide+kernel
theorem e0_age:ageF e0.xf e0.asked e0.came 14=9:=by decide+kernel
theorem e0_fresh:staleF e0 [] 14=false:=by decide+kernel
theorem e0_stale:staleF e0 [] 15=true:=by decide+kernel
theorem e0_sto:stoB 1000 [107] sGET [] [(sCC,sMaxE++[49,48])] [120] 200=true:=by decide+kernel
theorem num_ {W:World}{v:Int}:Cn p_ 8 [.int .i64 v] W [] (fun _:Unit=> .int .i64 v) (fun _=>[]):=by
 (refine S.law23_num_s.cn fun F=>?_;unfold S.law23_num;simp only[ca_,na_])
 refine e_retT () ?_
 exact im_
def fX (a:List UInt8):List Fd:=[(sCC,sMaxE++a)]
theorem fresh {W:World}{a:List UInt8}(ha:a.length<=1000):Cn p_ 30 [txt a] W [] (fun q:Nat × Nat=> .agg #[.int .i64 200,.slice (some ⟨q.1,0,none⟩) 1 1,.slice (some ⟨q.2,0,none⟩) 1 1])
  (fun q=>[pt q.1 (.cells ((fX a).flatMap pFd).toArray 68),pt q.2 (.cells (([120]:List UInt8).map Sl.B).toArray 5 (1,2))]):=by
 (refine S.law23_fresh_s.cn fun F=>?_;unfold S.law23_fresh;simp only[ca_,na_])
 refine e_newA fun b2=>?_
 refine o_ (v_cat (a:=sMaxE) (by simp[sMaxE];omega)) ?_
 refine o_ v_rv ?_
 refine e_bslS (n:=1) (vs:=[vFd (sCC,sMaxE++a)]) rfl (by omega) rfl (by intro v hv;rw[List.mem_singleton.1 hv];rfl) (by omega) fun gb=>?_
 refine e_bsl1 fun g=>?_
 rename Nat=>gd
 refine e_bconst (t:=32) (e:=5) (by kernel_rfl) (by kernel_rfl) (by(repeat constructor):Pick _ (pt gd _) _) ?_
 refine o_ v_rv ?_;refine sg_ ?_;(((refine' e_stS (v_resA ?hn) ?hi ?_);(case hi=>exact im_);(case hn=>rfl)))
 refine e_ret (gb,gd) rfl ?_
 exact .pick (by repeat constructor) (.pick (by repeat constructor) im_)
theorem knows {W:World}[hG:Gl W][hP:Gp W]:Cn p_ 9 [] W [] (fun _:Unit=> .bool true) (fun _=>[]):=by
 (refine S.law23_knows_s.cn fun F=>?_;unfold S.law23_knows;simp only[ca_,na_])
 refine e_call (new (b:=1000) (by decide) (by decide)) .nil fun c=>?_
 refine nr_ ?_
 refine xt_ ?_;refine xt_ ?_;refine o_ v_rv ?_;refine e_newA fun g=>?_;refine sg_ ?_;refine e_drS ?_
 rename Nat=>b3
 refine e_call num_ .nil fun _=>?_
 refine nr_ ?_
 refine t_ v_neq ?_
 rw[dF_ (by decide)]
 refine e_gdT (e_gdT (t_ v_eqNil1 ?_));refine t_ v_pickF (e_gdT (e_gdDT ?_));(((refine' e_stD (v_ldAgg ?hn) ?hi ?_);(case hi=>exact .pick (by repeat constructor) .nil);(case hn=>rfl)));refine e_gdT (e_call (fresh (a:=[49,48]) (by decide)) .nil fun q=>?_)
 obtain⟨gb,gd⟩:=q
 refine nr_ ?_
 (try dsimp only)
 refine ob_ ?_;refine e_gdT ?_
 have h0:CsOk 1048576 (emptyS 1000):=(empty_ok (by decide) (by decide)).up (by decide) (by decide)
 refine e_imp (M:=pu True::IsC c (emptyS 1000)::pt gb (.cells ((fX [49,48]).flatMap pFd).toArray 68)::pt gd (.cells (([120]:List UInt8).map Sl.B).toArray 5 (1,2))::pt b3 (.cells #[.string ⟨#[71,69,84]⟩,.string ⟨#[]⟩,.int .i64 0,.slice none 0 0] 31)::F) (.pu trivial im_) ?_
 have hA:RdF W (pu True) none []:=⟨rfl,fun h=>absurd h (by decide)⟩
 refine e_call (store (T:=1048576) (key:=[107]) (m:=sGET) (tg:=[]) (mi:=0) (R:=[]) (cr:=0) (X:=fX [49,48]) (D:=[120]) (st:=200) (asked:=5) (came:=5) (cx:=1) (cd:=1) h0 hA (fun _=>rfl) (rd_pt (by rfl):RdF W (pt gb (.cells ((fX [49,48]).flatMap pFd).toArray 68)) (some ⟨gb,0,none⟩) (fX [49,48])) (fun h=>by cases h) (rd_pt (by rfl)) (fun h=>by cases h) (by decide) (by decide) (by decide) (by decide)) (.cons (by repeat constructor) (.cons (by repeat constructor) (.cons (by repeat constructor) (.cons (by repeat constructor) .nil)))) fun r=>?_
 obtain⟨Z1,hZ1,hr⟩:=r
 refine nr_ ?_
 (try dsimp only)
 rw[show stoB (emptyS 1000).bound [107] sGET [] (fX [49,48]) [120] 200=true from e0_sto]at hr ⊢
 rw[if_pos rfl]at hr
 obtain⟨g,Y,hsub,hgY,hZe⟩:=hr
 have hY0:∀k,Y.of_ k=[]:=fun k=>by
  cases h:Y.of_ k with
  |nil=>rfl
  |cons x r=>have:=hsub.of_ k x (by rw[h];exact List.mem_cons_self);cases this
 have hEg:Z1.E g=e0:=by rw[hZe];exact if_pos rfl
 have hof:Z1.of_ [107]=[g]:=by rw[hZe];show(if [107]=[107]then Y.of_ [107]++[g]else Y.of_ [107])=[g];rw[if_pos rfl,hY0];rfl
 have hot:Z1.of_ [111,116,104,101,114]=[]:=by
  rw[hZe]
  show(if [111,116,104,101,114]=[107]then Y.of_ [111,116,104,101,114]++[g]else Y.of_ [111,116,104,101,114])=[]
  rw[if_neg (by decide),hY0]
 have hfind:findF Z1 [107] []=some g:=by unfold findF;rw[hof];simp[hEg,e0_fits]
 have hgo:g∈Z1.ord:=by rw[hZe];exact List.mem_append_right _ (List.mem_singleton.2 rfl)
 have hZ2:=touch_ok hZ1 hgo
 have hfind2:findF (touchS Z1 g) [107] []=some g:=hfind
 have hgo2:g∈(touchS Z1 g).ord:=(touch_mem hgo).2 hgo
 have hZ3:=touch_ok hZ2 hgo2
 have hfind3:findF (touchS (touchS Z1 g) g) [111,116,104,101,114] []=none:=by unfold findF;rw[show(touchS (touchS Z1 g) g).of_ [111,116,104,101,114]=[]from hot];rfl
 have hk1:lookF Z1 [107] [] 14=⟨200,outF e0 9,[120],9,1,touchS Z1 g⟩:=by
  unfold lookF
  rw[hfind]
  simp only[hEg,e0_age,e0_fresh]
  rfl
 have hk2:(lookF (touchS Z1 g) [107] [] 15).state=2/\(lookF (touchS Z1 g) [107] [] 15).S=touchS (touchS Z1 g) g:=by
  unfold lookF
  rw[hfind2]
  have:(touchS Z1 g).E g=e0:=hEg
  simp only[this,e0_stale,if_true]
  refine⟨?_,?_⟩ <;> first|trivial|rfl
 have hk3:lookF (touchS (touchS Z1 g) g) [111,116,104,101,114] [] 14=⟨0,[],[],0,0,touchS (touchS Z1 g) g⟩:=by
  unfold lookF
  rw[hfind3]
 refine e_gdT (t_ v_notT (t_ v_pickF (e_condF (lg_ ?_))))
 refine e_call (look (T:=1048576) (key:=[107]) (m:=sGET) (tg:=[]) (mi:=0) (R:=[]) (now:=14) (cr:=0) hZ1 hA (by decide)) (.cons (by repeat constructor) (.cons (by repeat constructor) .nil)) fun q=>?_
 obtain⟨⟨xa,xc⟩,wa,wc⟩:=q
 rw[hk1]
 unfold lkV
 refine nr_ ?_
 (try dsimp only)
 refine xt_ ?_;refine xt_ ?_;refine xt_ ?_;refine e_newA fun g=>?_;refine sg_ ?_;refine lg_ ?_
 refine e_call (look (T:=1048576) (key:=[107]) (m:=sGET) (tg:=[]) (mi:=0) (R:=[]) (now:=15) (cr:=0) hZ2 hA (by decide)) (.cons (by repeat constructor) (.cons (by repeat constructor) .nil)) fun q=>?_
 obtain⟨⟨ya,yc⟩,va,vc⟩:=q
 unfold lkV
 rw[hk2.1,hk2.2]
 refine nr_ ?_
 (try dsimp only)
 refine xt_ ?_;refine xt_ ?_;refine xt_ ?_;refine e_newA fun g=>?_;refine sg_ ?_;refine lg_ ?_
 refine e_call (look (T:=1048576) (key:=[111,116,104,101,114]) (m:=sGET) (tg:=[]) (mi:=0) (R:=[]) (now:=14) (cr:=0) hZ3 hA (by decide)) (.cons (by repeat constructor) (.cons (by repeat constructor) .nil)) fun q=>?_
 obtain⟨⟨ua,uc⟩,sa,sc⟩:=q
 rw[hk3]
 unfold lkV
 refine nr_ ?_
 (try dsimp only)
 refine e_slfacts (by(repeat constructor):Pick _ (Sl 1 5 wa wc ([120]:List UInt8).length (([120]:List UInt8).map Sl.B)) _) fun _ _ _ hw=>?_
 refine xt_ ?_;refine xt_ ?_;refine xt_ ?_;refine e_newA fun g=>?_;refine sg_ ?_
 refine o_ v_eql ?_
 rw[dT_ (by decide)]
 refine e_gdT (e_gdT (o_ v_eql ?_))
 rw[dT_ (by decide)]
 refine o_ v_pickT (e_gdT (o_ v_fa0 (e_gdT (ln_ ?_))));refine e_gdT (p_op (v_str (l:=[120]) (rd_sl (e:=5) (a:=wa) (cap:=wc) (by rfl) hw) (fun h=>by obtain⟨_,h1⟩:=hw (by decide);rw[h1]at h;cases h)) ?_)
 refine e_gdT (o_ (v_streq (l:=[120]) (m:=[120])) ?_)
 rw[dT_ (by decide)]
 refine o_ v_pickT (e_gdT (e_gdT (o_ v_eql ?_)))
 rw[dT_ (by decide)]
 refine o_ v_pickT (e_gdT (e_gdT (o_ v_eql ?_)))
 rw[dT_ (by decide)]
 refine o_ v_pickT (e_ret () rfl ?_)
 exact im_
end Go.Proofs.YthomhkpedghhgaaGreatDoor.FD
namespace Go.Proofs.YthomhkpedghhgaaGreatDoor.Sl
open Go Go.RowKit Sh
variable {P:Program} {H:Type} {enc:TypeId × Value->H} {W:World}
theorem Old.flat {α:Type}{s n:Nat}{f:α->List Value}{a:Option Addr}{xs:List α}(hf:∀x,(f x).length=s)(h0:0<s)(h:Old W s (fun x cs=>cs=f x) a n xs)(A:HP):RdB W A a (n * s) (xs.flatMap f):=by
 have hl:=h.len
 refine⟨by rw[flat_len hf,hl],fun hn=>?_⟩
 obtain⟨g,o,rfl,hg,hc⟩:=h.at_ (by
  rcases Nat.eq_zero_or_pos n with z|z
  ·subst z;simp at hn
  ·exact z)
 refine⟨g,o,rfl,fun w L hw j v hv=>?_⟩
 have hj:j<xs.length * s:=by
  rcases Nat.lt_or_ge j (xs.flatMap f).length with c|c
  ·rwa [flat_len hf]at c
  ·rw[List.getElem?_eq_none c]at hv;cases hv
 have hi:j / s<xs.length:=Nat.div_lt_of_lt_mul (by rwa [Nat.mul_comm]at hj)
 have hm:j%s<s:=Nat.mod_lt _ h0
 have hd:j=j / s * s+j%s:=by rw[Nat.mul_comm];exact(Nat.div_add_mod j s).symm
 obtain⟨cs,h1,h2,h3⟩:=hc (j / s) hi
 subst h2
 rw[hd,flat_get hf xs _ _ hi hm]at hv
 have:=h3 (j%s) v hv
 rw[hw.base.cell (p:=⟨g,o+j,none⟩) hg]
 rwa [<- hd]at this
end Go.Proofs.YthomhkpedghhgaaGreatDoor.Sl
namespace Go.Proofs.YthomhkpedghhgaaGreatDoor.FD
open Go Go.Proofs Go.RowKit Go.ChangeShapes Sh Sl T
theorem witness_row_shaped {H : Type} {enc : TypeId × Value → H} {C : Checked} {os : Os} {f : FuncId} {fn : Func} {s : OpenSpec} {conds : List PathCond} {apart : Bool} {laid : List (String × DataW Unit)} (modest : Bool) (w0 : World) (args : Array Value) (hos : w0.os = os)
  (hsh : (w0.forCall (fun _ _ => 0) ⟨#[], args, []⟩).Shaped C.prog)
  (hok : Input.okWideB C.prog (w0.forCall (fun _ _ => 0) ⟨#[], args, []⟩) f ⟨#[], args, []⟩ = true)
  (hrow : s.preRow enc C.prog fn conds apart laid (w0.forCall (fun _ _ => 0) ⟨#[], args, []⟩).memory args) :
  ∃ (w : World) (tape : Tape) (i : Input), w.os = os ∧ (w.forCall tape i).Shaped C.prog ∧ i.vars = [] ∧ Input.okWide C.prog (w.forCall tape i) .any w.heap.size f i ∧
   s.preRow enc C.prog fn conds apart laid (w.forCall tape i).memory i.args ∧ ({ modest := modest } : Assume).holds C.prog (lone (Frame.enter C.prog f i.args .normal) [] (w.forCall tape i)) :=
 ⟨w0, fun _ _ => 0, ⟨#[], args, []⟩, hos, hsh, (Input.okWide_of_okWideB (base := 0) hok).1, (Input.okWide_of_okWideB hok).2, hrow, by
  simp only [Assume.holds]
  exact ⟨by simp, by simp, fun _ => Modest.zero, by simp, by simp⟩⟩
theorem laid_at {P:Program}{W:World}{n:String}{d:DataW Unit}:∀ {l:List (String × DataW Unit)} {ps:List MemPlace},DataW.LaidVars P W l ps->(n,d)∈l->
  ∃g t cs fuel p,P.globalNamed n=some g/\(P.globals[g]?).map (·.type)=some t/\W.var? P n=some cs/\DataW.trod (fun _=>()) P W 0 (fun _=>true) false fuel t cs.toList=some (d,p)
 |[],_,_,h=>by cases h
 |(n',d')::r,ps,h,hm=>by
  obtain⟨g,t,cs,fuel,p,q,h1,h2,h3,h4,h5,_⟩:=h
  rcases List.mem_cons.1 hm with e|hm
  ·obtain⟨rfl,rfl⟩:=Prod.mk.inj e
   exact⟨g,t,cs,fuel,p,h1,h2,h3,h4⟩
  ·exact laid_at h5 hm
set_option maxRecDepth 20000 in
theorem open_fd {H:Type}{enc:TypeId × Value->H}{W:World}{sp:Nat->Bool}{held:Bool}(n:Nat)(cs:List Value)(x:DataW H × List MemPlace)(h:DataW.trod enc p_ W 0 sp held n 68 cs=some x):∃a:Fd,cs=pFd a/\a.1.length+a.2.length+3<=Rows.uptoBulk x.1:=by
 obtain⟨xs,m,rfl,rfl,hl,hs,hf⟩:=DataW.trod_struct (fs:=#[⟨"Name",9,0,false,"","",0⟩,⟨"Value",9,1,false,"","",16⟩]) (by kernel_rfl) h
 rw[show p_.cellsOf 68=2 by kernel_rfl]at hl
 obtain⟨c0,c1,rfl⟩:∃c0 c1,cs=[c0,c1]:=by
  match cs,hl with
  |[a,b],_=>exact⟨a,b,rfl⟩
 obtain⟨x0,x1,rfl⟩:∃x0 x1,xs=[x0,x1]:=by
  match xs,hs with
  |[a,b],_=>exact⟨a,b,rfl⟩
 have e1:p_.cellsOf 9=1:=by kernel_rfl
 have f0:=hf 0 _ rfl
 have f1:=hf 1 _ rfl
 simp only[e1,List.drop_zero,List.drop_succ_cons,List.take_succ_cons,List.take_zero,List.getElem?_cons_zero,List.getElem?_cons_succ]at f0 f1
 obtain⟨n0,h0,hx0,_⟩:=DataW.trod_string (by kernel_rfl) f0
 obtain⟨n1,h1,hx1,_⟩:=DataW.trod_string (by kernel_rfl) f1
 have k0:c0= .string n0:=by injection h0
 have k1:c1= .string n1:=by injection h1
 subst k0;subst k1
 refine⟨(n0.data.toList,n1.data.toList),by unfold pFd txt;simp,?_⟩
 have h2:=(Prod.mk.inj hx0).1
 have h3:=(Prod.mk.inj hx1).1
 simp only[List.map_cons,List.map_nil,Rows.uptoBulk,Rows.uptoBulkAll]
 rw[h2,h3]
 simp[Rows.uptoBulk]
 omega
theorem z_sum (l:List Fd):(l.map fun f=>f.1.length+f.2.length+3).sum=zF l:=by
 induction l with
 |nil=>rfl
 |cons f r ih=>rw[List.map_cons,List.sum_cons,ih,zF_cons]
theorem mapM_get {α β:Type}{f:α->Option β}:∀ {l:List α} {ys:List β},l.mapM f=some ys->ys.length=l.length/\∀(i:Nat) (a:α),l[i]? =some a->∃y,ys[i]? =some y/\f a=some y
 |[],ys,h=>by
  simp at h
  subst h
  exact⟨rfl,fun i a hi=>by simp at hi⟩
 |a::l,ys,h=>by
  rw[List.mapM_cons]at h
  cases ha:f a with
  |none=>rw[ha]at h;cases h
  |some y=>
   cases hl:l.mapM f with
   |none=>rw[ha,hl]at h;cases h
   |some zs=>
    rw[ha,hl]at h
    have h:some (y::zs)=some ys:=h
    obtain rfl:=Option.some.inj h
    obtain⟨h1,h2⟩:=mapM_get hl
    refine⟨by rw[List.length_cons,List.length_cons,h1],fun i b hi=>?_⟩
    cases i with
    |zero=>exact⟨y,rfl,by rw[<- ha];congr 1;simpa using hi.symm⟩
    |succ i=>exact h2 i b (by simpa using hi)
theorem trod_arr {P:Program}{H:Type}{enc:TypeId × Value->H}{W:World}{sp:Nat->Bool}{held:Bool}{t e:TypeId}{n fuel:Nat}{cs:List Value}{x:DataW H × List MemPlace}(ht:P.underlying t=some (.array n e))(hce:P.cellsOf e=1)(h:DataW.trod enc P W 0 sp held fuel t cs=some x):
  ∃(xs:List (DataW H × List MemPlace)) (m:Nat),x.1= .agg (xs.map (·.1))/\xs.length=n/\∀i,i<n->∃y,xs[i]? =some y/\DataW.trod enc P W 0 sp held m e ((cs.drop i).take 1)=some y:=by
 cases fuel with
 |zero=>simp[DataW.trod]at h
 |succ m=>
  unfold DataW.trod at h
  rw[ht]at h
  simp only[hce,Nat.mul_one]at h
  split at h
  ·cases hm:(List.range n).mapM fun i=>DataW.trod enc P W 0 sp held m e ((cs.drop i).take 1)with
   |none=>rw[hm]at h;cases h
   |some xs=>
    rw[hm]at h
    have h:=Option.some.inj h
    obtain⟨h1,h2⟩:=mapM_get hm
    refine⟨xs,m,by rw[<- h],by rw[h1,List.length_range],fun i hi=>h2 i i (List.getElem?_range hi)⟩
  ·cases h
theorem gp_of {W:World}{l:List (String × DataW Unit)}(h:laidMet p_ l W)(hm:("internal/strconv.uint64pow10",Rows.laid_internal_strconv_uint64pow10)∈l):Gp W:=by
 obtain⟨ps,hv,_,_⟩:=h
 obtain⟨g,t,cs,fuel,p,h1,h2,h3,h4⟩:=laid_at hv hm
 obtain rfl:=Option.some.inj ((show p_.globalNamed "internal/strconv.uint64pow10" =some 1 by kernel_rfl).symm.trans h1)
 obtain rfl:=Option.some.inj ((show(p_.globals[1]?).map (·.type)=some 247 by kernel_rfl).symm.trans h2)
 obtain⟨xs,m,hx,hl,hf⟩:=trod_arr (n:=20) (e:=186) (by kernel_rfl) (by kernel_rfl) h4
 have key:∀j,j<20->cs[j]? =some (.int .u64 ((10^j:Nat):Int)):=by
  intro j hj
  obtain⟨y,hy,hyt⟩:=hf j hj
  have hlt:∃c,(cs.toList.drop j).take 1=[c]:=by
   cases hd:(cs.toList.drop j).take 1 with
   |nil=>rw[hd]at hyt;cases m <;> simp[DataW.trod]at hyt <;> (split at hyt <;> simp_all)
   |cons c r=>
    have:((cs.toList.drop j).take 1).length<=1:=by rw[List.length_take];omega
    rw[hd]at this
    simp at this
    subst this
    exact⟨c,rfl⟩
  obtain⟨c,hc⟩:=hlt
  rw[hc]at hyt
  obtain⟨n,h0,hx0,_⟩:=DataW.trod_int (by kernel_rfl:p_.underlying 186=some (.int .u64)) hyt
  have hcj:cs[j]? =some c:=by
   have:=congrArg (fun l=>l[0]?) hc
   simpa using this
  have hya:(xs.map (·.1))[j]? =some (.lit (.int .u64 n)):=by rw[List.getElem?_map,hy];simp only[Option.map_some];rw[(Prod.mk.inj hx0).1]
  have hlist:xs.map (·.1)=(List.range 20).map fun j=>(.lit (.int .u64 ((10^j:Nat):Int)):DataW Unit):=by
   have:(DataW.agg (xs.map (·.1)))= .agg ((List.range 20).map fun j=>(.lit (.int .u64 ((10^j:Nat):Int)):DataW Unit)):=by rw[<- hx];rfl
   injection this
  rw[hlist,List.getElem?_map,List.getElem?_range hj]at hya
  simp only[Option.map_some,Option.some.injEq,DataW.lit.injEq,Lit.int.injEq,true_and]at hya
  rw[hcj,hya]
  have:c= .int .u64 n:=by injection h0
  rw[this]
 have hc:=fun j=>World.var?_cell h1 h3 j
 refine⟨?_,fun j hj=>?_⟩
 ·have h0:=hc 0
  rw[key 0 (by decide)]at h0
  unfold World.cell? at h0
  rcases Nat.lt_or_ge 1 W.heap.size with c|c
  ·exact c
  ·rw[Array.getElem?_eq_none c]at h0;cases h0
 ·rw[hc j,key j hj]
set_option maxRecDepth 20000 in
theorem rq_cells {H:Type}{enc:TypeId × Value->H}{W:World}{sp:Nat->Bool}{held:Bool}(n:Nat)(cs:List Value)(x:DataW H × List MemPlace)(hl:DataW.trod enc p_ W 0 sp held n 31 cs=some x):
  ∃(m t:List UInt8) (mi:Int) (a:Option Addr) (c:Nat) (l:List Fd),cs=[txt m,txt t,.int .i64 mi,.slice a l.length c]/\(∀A,RdF W A a l)/\(a=none->l.length=0)/\m.length+t.length+zF l+1<=Rows.uptoBulk x.1:=by
 obtain⟨xs,m,rfl,rfl,hsz,hs,hf⟩:=DataW.trod_struct (fs:=#[⟨"Method",9,0,false,"","",0⟩,⟨"Target",9,1,false,"","",16⟩,⟨"Minor",3,2,false,"","",32⟩,⟨"Fields",29,3,false,"","",40⟩]) (by kernel_rfl) hl
 rw[show p_.cellsOf 31=4 by kernel_rfl]at hsz
 obtain⟨c0,c1,c2,c3,rfl⟩:∃c0 c1 c2 c3,cs=[c0,c1,c2,c3]:=by
  match cs,hsz with
  |[a,b,c,d],_=>exact⟨a,b,c,d,rfl⟩
 obtain⟨x0,x1,x2,x3,rfl⟩:∃x0 x1 x2 x3,xs=[x0,x1,x2,x3]:=by
  match xs,hs with
  |[a,b,c,d],_=>exact⟨a,b,c,d,rfl⟩
 have e1:p_.cellsOf 3=1:=by kernel_rfl
 have e2:p_.cellsOf 29=1:=by kernel_rfl
 have e3:p_.cellsOf 9=1:=by kernel_rfl
 have f0:=hf 0 _ rfl
 have f1:=hf 1 _ rfl
 have f2:=hf 2 _ rfl
 have f3:=hf 3 _ rfl
 simp only[e1,e2,e3,List.drop_zero,List.drop_succ_cons,List.take_succ_cons,List.take_zero,List.getElem?_cons_zero,List.getElem?_cons_succ]at f0 f1 f2 f3
 obtain⟨n0,h0,hx0,_⟩:=DataW.trod_string (by kernel_rfl) f0
 obtain⟨n1,h1,hx1,_⟩:=DataW.trod_string (by kernel_rfl) f1
 obtain⟨mi,h2,_,_⟩:=DataW.trod_int Tryz.underlying3 f2
 obtain⟨a,n,c,fs,e,g1,g2,g3,g4,g5⟩:=open_old (e:=68) (s:=2) (rd:=fun(x:Fd) cs=>cs=pFd x) (m:=fun f=>f.1.length+f.2.length+3) (by kernel_rfl) (by kernel_rfl) (by omega) (fun n cs x h=>open_fd n cs x h) f3
 have hln:=g4.len
 subst hln
 rw[z_sum]at g5
 have k0:c0= .string n0:=by injection h0
 have k1:c1= .string n1:=by injection h1
 have k2:c2= .int .i64 mi:=by injection h2
 have k3:c3= .slice a fs.length c:=by injection e
 subst k0;subst k1;subst k2;subst k3
 refine⟨n0.data.toList,n1.data.toList,mi,a,c,fs,by unfold txt;simp,fun A=>g4.flat (f:=pFd) (fun _=>rfl) (by omega) A,?_,?_⟩
 ·intro ha
  rcases Nat.eq_zero_or_pos fs.length with z|z
  ·exact z
  ·obtain⟨g,o,hg,_⟩:=g4.at_ z;rw[hg]at ha;cases ha
 have h3:=(Prod.mk.inj hx0).1
 have h4:=(Prod.mk.inj hx1).1
 simp only[List.map_cons,List.map_nil,Rows.uptoBulk,Rows.uptoBulkAll]
 rw[h3,h4]
 simp[Rows.uptoBulk]
 (try simp at g5)
 omega
set_option maxRecDepth 20000 in
theorem rs_cells {H:Type}{enc:TypeId × Value->H}{W:World}{sp:Nat->Bool}{held:Bool}(n:Nat)(cs:List Value)(x:DataW H × List MemPlace)(hl:DataW.trod enc p_ W 0 sp held n 34 cs=some x):
  ∃(st:Int) (a b:Option Addr) (c d:Nat) (l:List Fd) (D:List UInt8),cs=[.int .i64 st,.slice a l.length c,.slice b D.length d]/\(∀A,RdF W A a l)/\(a=none->l.length=0)/\(∀A,RdB W A b D.length (D.map Sl.B))/\(b=none->D.length=0)/\zF l+D.length+1<=Rows.uptoBulk x.1:=by
 obtain⟨xs,m,rfl,rfl,hsz,hs,hf⟩:=DataW.trod_struct (fs:=#[⟨"Status",3,0,false,"","",0⟩,⟨"Fields",29,1,false,"","",8⟩,⟨"Body",32,2,false,"","",32⟩]) (by kernel_rfl) hl
 rw[show p_.cellsOf 34=3 by kernel_rfl]at hsz
 obtain⟨c0,c1,c2,rfl⟩:∃c0 c1 c2,cs=[c0,c1,c2]:=by
  match cs,hsz with
  |[a,b,c],_=>exact⟨a,b,c,rfl⟩
 obtain⟨x0,x1,x2,rfl⟩:∃x0 x1 x2,xs=[x0,x1,x2]:=by
  match xs,hs with
  |[a,b,c],_=>exact⟨a,b,c,rfl⟩
 have e1:p_.cellsOf 3=1:=by kernel_rfl
 have e2:p_.cellsOf 29=1:=by kernel_rfl
 have e3:p_.cellsOf 32=1:=by kernel_rfl
 have f0:=hf 0 _ rfl
 have f1:=hf 1 _ rfl
 have f2:=hf 2 _ rfl
 simp only[e1,e2,e3,List.drop_zero,List.drop_succ_cons,List.take_succ_cons,List.take_zero,List.getElem?_cons_zero,List.getElem?_cons_succ]at f0 f1 f2
 obtain⟨st,h0,_,_⟩:=DataW.trod_int Tryz.underlying3 f0
 obtain⟨a,n,c,fs,e,g1,g2,g3,g4,g5⟩:=open_old (e:=68) (s:=2) (rd:=fun(x:Fd) cs=>cs=pFd x) (m:=fun f=>f.1.length+f.2.length+3) (by kernel_rfl) (by kernel_rfl) (by omega) (fun n cs x h=>open_fd n cs x h) f1
 obtain⟨b,d,D,j0,j1,j2,j3,j4,j5⟩:=open_bytes (e:=5) (by kernel_rfl) (by kernel_rfl) (by kernel_rfl) f2
 have hln:=g4.len
 subst hln
 rw[z_sum]at g5
 have k0:c0= .int .i64 st:=by injection h0
 have k1:c1= .slice a fs.length c:=by injection e
 have k2:c2= .slice b D.length d:=by injection j0
 subst k0;subst k1;subst k2
 refine⟨st,a,b,c,d,fs,D,rfl,fun A=>g4.flat (f:=pFd) (fun _=>rfl) (by omega) A,?_,j4,j3,?_⟩
 ·intro ha
  rcases Nat.eq_zero_or_pos fs.length with z|z
  ·exact z
  ·obtain⟨g,o,hg,_⟩:=g4.at_ z;rw[hg]at ha;cases ha
 simp only[List.map_cons,List.map_nil,Rows.uptoBulk,Rows.uptoBulkAll]
 (try simp at g5)
 (try simp at j5)
 omega
theorem gl_of {W:World}{l:List (String × DataW Unit)}(h:laidMet p_ l W)(hm:("strconv.ErrRange",Rows.laid_strconv_ErrRange)∈l):Gl W:=by
 obtain⟨ps,hv,_,_⟩:=h
 obtain⟨g,t,cs,fuel,p,h1,h2,h3,h4⟩:=laid_at hv hm
 obtain rfl:=Option.some.inj ((show p_.globalNamed "strconv.ErrRange" =some 3 by kernel_rfl).symm.trans h1)
 obtain rfl:=Option.some.inj ((show(p_.globals[3]?).map (·.type)=some 165 by kernel_rfl).symm.trans h2)
 obtain⟨f1,u,v,hcs,_,_⟩:=iface_of_trod Tryz.underlying165 h4
 have hc:=World.var?_cell h1 h3 0
 have hc0:cs[0]? =some (.iface u v):=by
  rw[<- Array.getElem?_toList,hcs];rfl
 rw[hc0]at hc
 refine⟨?_,u,v,hc⟩
 unfold World.cell? at hc
 rcases Nat.lt_or_ge 3 W.heap.size with c|c
 ·exact c
 ·rw[Array.getElem?_eq_none c]at hc;cases hc
structure Op where
 kind:Int
 key:List UInt8
 m:List UInt8
 t:List UInt8
 mi:Int
 R:List Fd
 ra:Option Addr
 rc:Nat
 st:Int
 X:List Fd
 xa:Option Addr
 xc:Nat
 D:List UInt8
 da:Option Addr
 dc:Nat
 asked:Int
 came:Int
def pOp (o:Op):List Value:=[.int .i64 o.kind,txt o.key,txt o.m,txt o.t,.int .i64 o.mi,.slice o.ra o.R.length o.rc,.int .i64 o.st,.slice o.xa o.X.length o.xc,.slice o.da o.D.length o.dc,.int .i64 o.asked,.int .i64 o.came]
structure OpOk (W:World)(o:Op):Prop where
 R:∀A,RdF W A o.ra o.R
 ra:o.ra=none->o.R.length=0
 X:∀A,RdF W A o.xa o.X
 xa:o.xa=none->o.X.length=0
 D:∀A,RdB W A o.da o.D.length (o.D.map Sl.B)
 da:o.da=none->o.D.length=0
 a1: -9223372036854775808<=o.asked/\o.asked<=9223372036854775807
 a2: -9223372036854775808<=o.came/\o.came<=9223372036854775807
def opM (o:Op):Nat:=o.key.length+zF o.R+zF o.X+o.D.length+1
set_option maxRecDepth 20000 in
theorem op_cells {H:Type}{enc:TypeId × Value->H}{W:World}{sp:Nat->Bool}{held:Bool}(n:Nat)(cs:List Value)(x:DataW H × List MemPlace)(hl:DataW.trod enc p_ W 0 sp held n 36 cs=some x):
  ∃o:Op,(OpOk W o/\cs=pOp o)/\opM o<=Rows.uptoBulk x.1:=by
 obtain⟨xs,m,rfl,rfl,hsz,hs,hf⟩:=DataW.trod_struct (fs:=#[⟨"Kind",3,0,false,"","",0⟩,⟨"Key",9,1,false,"","",8⟩,⟨"R",31,2,false,"","",24⟩,⟨"X",34,6,false,"","",88⟩,⟨"Asked",3,9,false,"","",144⟩,⟨"Came",3,10,false,"","",152⟩]) (by kernel_rfl) hl
 rw[show p_.cellsOf 36=11 by kernel_rfl]at hsz
 obtain⟨c0,c1,c2,c3,c4,c5,c6,c7,c8,c9,c10,rfl⟩:∃c0 c1 c2 c3 c4 c5 c6 c7 c8 c9 c10,cs=[c0,c1,c2,c3,c4,c5,c6,c7,c8,c9,c10]:=by
  match cs,hsz with
  |[a,b,c,d,e,f,g,h,i,j,k],_=>exact⟨a,b,c,d,e,f,g,h,i,j,k,rfl⟩
 obtain⟨x0,x1,x2,x3,x4,x5,rfl⟩:∃x0 x1 x2 x3 x4 x5,xs=[x0,x1,x2,x3,x4,x5]:=by
  match xs,hs with
  |[a,b,c,d,e,f],_=>exact⟨a,b,c,d,e,f,rfl⟩
 have e1:p_.cellsOf 3=1:=by kernel_rfl
 have e2:p_.cellsOf 31=4:=by kernel_rfl
 have e3:p_.cellsOf 9=1:=by kernel_rfl
 have e4:p_.cellsOf 34=3:=by kernel_rfl
 have f0:=hf 0 _ rfl
 have f1:=hf 1 _ rfl
 have f2:=hf 2 _ rfl
 have f3:=hf 3 _ rfl
 have f4:=hf 4 _ rfl
 have f5:=hf 5 _ rfl
 simp only[e1,e2,e3,e4,List.drop_zero,List.drop_succ_cons,List.take_succ_cons,List.take_zero,List.getElem?_cons_zero,List.getElem?_cons_succ]at f0 f1 f2 f3 f4 f5
 obtain⟨kd,h0,_,_⟩:=DataW.trod_int Tryz.underlying3 f0
 obtain⟨n1,h1,hx1,_⟩:=DataW.trod_string (by kernel_rfl) f1
 obtain⟨rm,rt,mi,ra,rc,R,h2,k1,k2,k3⟩:=rq_cells _ _ _ f2
 obtain⟨st,xa,da,xc,dc,X,D,h3,k4,k5,k6,k7,k8⟩:=rs_cells _ _ _ f3
 obtain⟨ak,h4,_,w4⟩:=DataW.trod_int Tryz.underlying3 f4
 obtain⟨cm,h5,_,w5⟩:=DataW.trod_int Tryz.underlying3 f5
 have q0:c0= .int .i64 kd:=by injection h0
 have q1:c1= .string n1:=by injection h1
 have q9:c9= .int .i64 ak:=by injection h4
 have q10:c10= .int .i64 cm:=by injection h5
 injection h2 with q2 h2
 injection h2 with q3 h2
 injection h2 with q4 h2
 injection h2 with q5 h2
 injection h3 with q6 h3
 injection h3 with q7 h3
 injection h3 with q8 h3
 subst q0;subst q1;subst q2;subst q3;subst q4;subst q5;subst q6;subst q7;subst q8;subst q9;subst q10
 refine⟨⟨kd,n1.data.toList,rm,rt,mi,R,ra,rc,st,X,xa,xc,D,da,dc,ak,cm⟩,⟨⟨k1,k2,k4,k5,k6,k7,?_,?_⟩,by simp[pOp,txt]⟩,?_⟩
 ·simpa [Lit.wf,IntKind.min,IntKind.max,IntKind.signed,IntKind.bits]using w4
 ·simpa [Lit.wf,IntKind.min,IntKind.max,IntKind.signed,IntKind.bits]using w5
 have q1:=(Prod.mk.inj hx1).1
 simp only[List.map_cons,List.map_nil,Rows.uptoBulk,Rows.uptoBulkAll]
 rw[q1]
 unfold opM
 (try dsimp only)
 (try simp[Rows.uptoBulk])
 omega
end Go.Proofs.YthomhkpedghhgaaGreatDoor.FD
namespace Go.Proofs.YthomhkpedghhgaaGreatDoor.FD
open Go Go.Proofs Go.RowKit Sh Sl T
theorem StR.bound {T:Nat}{Z Z':Cs}{key m:List UInt8}{R X:List Fd}{D:List UInt8}{st asked came:Int}(h:StR T Z key m R X D st asked came Z'):Z'.bound=Z.bound:=by
 obtain⟨_,h⟩:=h
 split at h
 ·obtain⟨g,Y,hs,_,rfl⟩:=h
  exact hs.bound
 ·rw[h]
theorem asks {W:World}{m t mi:Value}{l:List Fd}{a:Option Addr}{c:Nat}{A:HP}[OC m][OC t][OC mi](hA:RdF W A a l)(ha:a=none->l.length=0)(hl:l.length<=1099511627776):
  Cn p_ 11 [.agg #[m,t,mi,.slice a l.length c]] W [A] (fun q:Option Addr × Nat=> .agg #[m,t,mi,.slice q.1 l.length q.2]) (fun q=>[A,Sl 2 68 q.1 q.2 l.length (l.flatMap pFd)]):=by
 (refine S.law23_asks_s.cn fun F=>?_;unfold S.law23_asks;simp only[ca_,na_])
 refine e_boxA fun b1=>?_
 refine e_newA fun b2=>?_
 refine e_bsl0 fun g=>?_
 refine o_ v_fa0 (ln_ ?_)
 refine e_app (m:=l.length) (news:=l.flatMap pFd) (by(repeat constructor):Pick _ (Sl 2 68 (some ⟨g,0,none⟩) 0 0 []) _) (src_rdG (s:=2) (e':=68) (by kernel_rfl) (by decide) (by(repeat constructor):Pick _ A _) hA ha pFd_one) (by omega) (by omega) fun a' c'=>?_
 rw[Nat.zero_add,List.nil_append]
 refine o_ v_fa0 (sn_ ?_);refine lg_ ?_
 refine e_stAgg (by repeat constructor) (by rfl) (by rfl) (by intro u hu;simp at hu;rcases hu with rfl|rfl|rfl|rfl <;> first|rfl|exact OC.one) ?_
 (((refine' e_stS (v_resA ?hn) ?hi ?_);(case hi=>exact im_);(case hn=>rfl)))
 refine e_ret (a',c') rfl ?_
 exact im_
theorem copied {W:World}{st:Int}{l:List Fd}{D:List UInt8}{a b:Option Addr}{c d:Nat}{A B:HP}(hA:RdF W A a l)(ha:a=none->l.length=0)(hl:l.length<=1099511627776)(hB:RdB W B b D.length (D.map Sl.B))(hb:b=none->D.length=0)(hD:D.length<=1099511627776):
  Cn p_ 12 [.agg #[.int .i64 st,.slice a l.length c,.slice b D.length d]] W [A,B] (fun q:(Option Addr × Nat) × (Option Addr × Nat)=> .agg #[.int .i64 st,.slice q.1.1 l.length q.1.2,.slice q.2.1 D.length q.2.2])
   (fun q=>[A,B,Sl 2 68 q.1.1 q.1.2 l.length (l.flatMap pFd),Sl 1 5 q.2.1 q.2.2 D.length (D.map Sl.B)]):=by
 (refine S.law23_copied_s.cn fun F=>?_;unfold S.law23_copied;simp only[ca_,na_])
 refine e_boxA fun b1=>?_
 refine e_newA fun g=>?_;refine e_drS (e_stD v_fa0 .nil ?_);(((refine' e_stD (v_ldN ?hc) ?hi ?_);(case hi=>exact .pick (by repeat constructor) .nil);(case hc=>repeat constructor)));refine e_stD v_fa0 .nil ?_;(((refine' e_stD (v_ldN ?hc) ?hi ?_);(case hi=>exact .pick (by repeat constructor) .nil);(case hc=>repeat constructor)));refine e_stD v_fa0 .nil ?_;(((refine' e_stD (v_ldN ?hc) ?hi ?_);(case hi=>exact .pick (by repeat constructor) .nil);(case hc=>repeat constructor)))
 refine e_andS ?_ ?_
 ·refine e_bsl0 fun g=>?_
  refine ob_ ?_;refine ob_ ?_;refine ob_ ?_;refine ob_ ?_;refine ob_ ?_;refine ob_ ?_
  refine e_andS ?_ ?_
  ·refine e_app (m:=l.length) (news:=l.flatMap pFd) (by(repeat constructor):Pick _ (Sl 2 68 (some ⟨g,0,none⟩) 0 0 []) _) (src_rdG (s:=2) (e':=68) (by kernel_rfl) (by decide) (by(repeat constructor):Pick _ A _) hA ha pFd_one) (by omega) (by omega) fun a' c'=>?_
   rw[Nat.zero_add,List.nil_append]
   refine ob_ ?_;refine ob_ ?_;refine ob_ ?_;refine ob_ ?_
   refine e_bsl0 fun g2=>?_
   refine ob_ ?_;refine ob_ ?_;refine ob_ ?_;refine ob_ ?_;refine ob_ ?_;refine ob_ ?_
   refine e_app (m:=D.length) (news:=D.map Sl.B) (by(repeat constructor):Pick _ (Sl 1 5 (some ⟨g2,0,none⟩) 0 0 []) _) (src_rd (e':=5) (by kernel_rfl) (by(repeat constructor):Pick _ B _) hB hb B_one) (by omega) (by omega) fun a2 c2=>?_
   rw[Nat.zero_add,List.nil_append]
   refine ob_ ?_;refine ob_ ?_;refine t_ v_rv ?_;refine sg_ ?_;(((refine' e_stS (v_resA ?hn) ?hi ?_);(case hi=>exact im_);(case hn=>rfl)))
   refine e_ret ((a',c'),(a2,c2)) rfl ?_
   exact im_
  ·refine e_bsl0 fun g2=>?_
   refine ob_ ?_;refine ob_ ?_;refine ob_ ?_;refine ob_ ?_;refine ob_ ?_;refine ob_ ?_
   refine e_app (m:=l.length) (news:=l.flatMap pFd) (by(repeat constructor):Pick _ (Sl 2 68 (some ⟨g,0,none⟩) 0 0 []) _) (src_rdG (s:=2) (e':=68) (by kernel_rfl) (by decide) (by(repeat constructor):Pick _ A _) hA ha pFd_one) (by omega) (by omega) fun a' c'=>?_
   rw[Nat.zero_add,List.nil_append]
   refine ob_ ?_;refine ob_ ?_;refine ob_ ?_;refine ob_ ?_
   refine e_app (m:=D.length) (news:=D.map Sl.B) (by(repeat constructor):Pick _ (Sl 1 5 (some ⟨g2,0,none⟩) 0 0 []) _) (src_rd (e':=5) (by kernel_rfl) (by(repeat constructor):Pick _ B _) hB hb B_one) (by omega) (by omega) fun a2 c2=>?_
   rw[Nat.zero_add,List.nil_append]
   refine ob_ ?_;refine ob_ ?_;refine t_ v_rv ?_;refine sg_ ?_;(((refine' e_stS (v_resA ?hn) ?hi ?_);(case hi=>exact im_);(case hn=>rfl)))
   refine e_ret ((a',c'),(a2,c2)) rfl ?_
   exact im_
 ·refine e_bsl0 fun g2=>?_
  refine ob_ ?_;refine ob_ ?_;refine ob_ ?_;refine ob_ ?_;refine ob_ ?_;refine ob_ ?_
  refine e_bsl0 fun g=>?_
  refine ob_ ?_;refine ob_ ?_;refine ob_ ?_;refine ob_ ?_;refine ob_ ?_;refine ob_ ?_
  refine e_app (m:=l.length) (news:=l.flatMap pFd) (by(repeat constructor):Pick _ (Sl 2 68 (some ⟨g,0,none⟩) 0 0 []) _) (src_rdG (s:=2) (e':=68) (by kernel_rfl) (by decide) (by(repeat constructor):Pick _ A _) hA ha pFd_one) (by omega) (by omega) fun a' c'=>?_
  rw[Nat.zero_add,List.nil_append]
  refine ob_ ?_;refine ob_ ?_;refine ob_ ?_;refine ob_ ?_
  refine e_app (m:=D.length) (news:=D.map Sl.B) (by(repeat constructor):Pick _ (Sl 1 5 (some ⟨g2,0,none⟩) 0 0 []) _) (src_rd (e':=5) (by kernel_rfl) (by(repeat constructor):Pick _ B _) hB hb B_one) (by omega) (by omega) fun a2 c2=>?_
  rw[Nat.zero_add,List.nil_append]
  refine ob_ ?_;refine ob_ ?_;refine t_ v_rv ?_;refine sg_ ?_;(((refine' e_stS (v_resA ?hn) ?hi ?_);(case hi=>exact im_);(case hn=>rfl)))
  refine e_ret ((a',c'),(a2,c2)) rfl ?_
  exact im_
def sumO (l:List Op):Nat:=(l.map opM).sum
theorem sumO_take {l:List Op}{i:Nat}(h:i<l.length):sumO (l.take (i+1))=sumO (l.take i)+opM l[i]:=by
 unfold sumO
 rw[List.take_succ_eq_append_getElem h,List.map_append,List.sum_append]
 simp
theorem sumO_le (l:List Op)(i:Nat):sumO (l.take i)<=sumO l:=by
 unfold sumO
 induction l generalizing i with
 |nil=>simp
 |cons o r ih=>
  cases i with
  |zero=>simp
  |succ i=>have:=ih i;simp only[List.take_succ_cons,List.map_cons,List.sum_cons];omega
theorem ld_op {W:World}{l:List Op}{i g o:Nat}{A:HP}(hA:RdB W A (some ⟨g,o,none⟩) (l.length * 11) (l.flatMap pOp))(h:i<l.length):RunV p_ W [A] (sLoad 36 (.pointer (some ⟨g,o+i * 11,none⟩))) (.agg (pOp l[i]).toArray):=
 v_ldRdG (vs:=pOp l[i]) hA rfl (fun j hj=>flat_get (f:=pOp) (s:=11) (fun _=>rfl) l i j h hj)
theorem ld_opR {W:World}{b:Nat}{o0 o1 o2 o3 o4 o5 o6 o7 o8 o9 o10:Value}:RunV p_ W [pt b (.cells #[o0,o1,o2,o3,o4,o5,o6,o7,o8,o9,o10] 36)] (sLoad 31 (.pointer (some ⟨b,2,none⟩))) (.agg #[o2,o3,o4,o5]):=
 v_ldRdG (o:=0) (j:=2) (cs:=[o0,o1,o2,o3,o4,o5,o6,o7,o8,o9,o10]) (vs:=[o2,o3,o4,o5]) (m:=11) (n:=4) (rd_pt rfl) rfl (fun i hi=>by
  have:i=0\/i=1\/i=2\/i=3:=by omega
  rcases this with rfl|rfl|rfl|rfl <;> rfl)
theorem ld_opX {W:World}{b:Nat}{o0 o1 o2 o3 o4 o5 o6 o7 o8 o9 o10:Value}:RunV p_ W [pt b (.cells #[o0,o1,o2,o3,o4,o5,o6,o7,o8,o9,o10] 36)] (sLoad 34 (.pointer (some ⟨b,6,none⟩))) (.agg #[o6,o7,o8]):=
 v_ldRdG (o:=0) (j:=6) (cs:=[o0,o1,o2,o3,o4,o5,o6,o7,o8,o9,o10]) (vs:=[o6,o7,o8]) (m:=11) (n:=3) (rd_pt rfl) rfl (fun i hi=>by
  have:i=0\/i=1\/i=2:=by omega
  rcases this with rfl|rfl|rfl <;> rfl)
theorem nnS {α:Type}{l:List α}{a:Option Addr}(h1:0<l.length->∃g,a=some ⟨g,0,none⟩)(h2:a=none):l=[]:=List.eq_nil_of_length_eq_zero (by
 rcases Nat.eq_zero_or_pos l.length with z|z
 ·exact z
 ·obtain⟨_,h3⟩:=h1 z;rw[h3]at h2;cases h2)
theorem look_ok {T:Nat}{Z:Cs}{key:List UInt8}{R:List Fd}{now:Int}(hZ:CsOk T Z):CsOk T (lookF Z key R now).S:=by
 unfold lookF
 cases h:findF Z key R with
 |none=>exact hZ
 |some g=>exact touch_ok hZ (hZ.fo key g (find_mem h).1).1
end Go.Proofs.YthomhkpedghhgaaGreatDoor.FD
namespace Go.Proofs.YthomhkpedghhgaaGreatDoor.FD
open Go Go.Proofs Go.RowKit Go.ChangeShapes Sh Sl T
set_option maxRecDepth 100000 in
theorem open_calls {H:Type}{enc:TypeId × Value->H}{W:World}{sp:Nat->Bool}{held:Bool}{v:Value}{d:DataW H}{ps:List MemPlace}{r:Reach}{b0:Nat}(hval:Value.okWide p_ W r b0 22 v)(hd:DataW.Trod enc p_ W 0 sp held 22 v d ps):
  ∃(a:Option Addr) (c:Nat) (l:List Op),v= .slice a l.length c/\(∀A,RdB W A a (l.length * 11) (l.flatMap pOp))/\(∀o∈l,OpOk W o)/\sumO l+1<=Rows.uptoBulk d:=by
 obtain⟨fuel,hf⟩:=open_slice (e:=36) (by kernel_rfl) hval hd
 obtain⟨a,n,c,xs,e,g1,g2,g3,g4,g5⟩:=open_old (e:=36) (s:=11) (rd:=fun(o:Op) cs=>OpOk W o/\cs=pOp o) (m:=opM) (by kernel_rfl) (by kernel_rfl) (by omega) (fun n cs x h=>op_cells n cs x h) hf
 have hn:=g4.len
 subst hn
 have h':Old W 11 (fun(o:Op) cs=>cs=pOp o) a xs.length xs:=⟨rfl,fun h=>by
  obtain⟨g,o,e,hg,hc⟩:=g4.at_ h
  exact⟨g,o,e,hg,fun i hi=>by
   obtain⟨cs,h1,h2,h3⟩:=hc i hi
   exact⟨cs,h1,h2.2,h3⟩⟩⟩
 refine⟨a,c,xs,by injection e,fun A=>h'.flat (f:=pOp) (fun _=>rfl) (by omega) A,fun o ho=>?_,g5⟩
 obtain⟨i,hi,rfl⟩:=List.mem_iff_getElem.1 ho
 obtain⟨_,_,_,_,hc⟩:=g4.at_ (by omega)
 obtain⟨_,_,h2,_⟩:=hc i hi
 exact h2.1
end Go.Proofs.YthomhkpedghhgaaGreatDoor.FD
namespace Go.Proofs.YthomhkpedghhgaaGreatDoor.D
open Go Go.Proofs Go.RowKit Sh Sl T
def sY (y:Int):Int:=365 * y+y / 4-y / 100
theorem dD_s (e:Int):e=sY (dY e)+dD e:=by unfold dD sY;omega
theorem last_in {c r q y z:Int}(hc:0<=c/\c<=3)(hr:0<=r/\r<=36523)(hq:1460 * q<=24 * c+r/\24 * c+r<1460 * q+1460)(hy:365 * y<=r-q/\r-q<365 * y+365)(hz:4 * z<=y/\y<4 * z+4)(hy2:y<=98):r<365 * (y+1)+(y+1) / 4:=by
 by_cases h3:y=4 * z+3
 ·have:(y+1) / 4=z+1:=by omega
  rw[this];omega
 ·have:(y+1) / 4=z:=by omega
  rw[this];omega
theorem e_lt {e:Int}(h:0<=e/\e<=146096):dY e<=398->e<sY (dY e+1):=by
 intro hy
 rcases cent h with rfl|⟨c,r,hc,hr,rfl⟩
 ·exact absurd hy (by decide)
 ·obtain⟨q,y,z,h1,h2,h3,h4,h5⟩:=dD_at hc hr
  have hb:=doy_b hc hr h1 h2 h3
  rw[h4]at hy ⊢
  by_cases c98:y<=98
  ·have:=last_in hc hr h1 h2 h3 c98
   unfold sY
   have g1:(100 * c+y+1) / 4=25 * c+(y+1) / 4:=by omega
   have g2:(100 * c+y+1) / 100=c:=by omega
   rw[g1,g2];omega
  ·have hy99:y=99:=by omega
   subst hy99
   unfold sY
   have g1:(100 * c+99+1) / 4=25 * c+25:=by omega
   have g2:(100 * c+99+1) / 100=c+1:=by omega
   rw[g1,g2];omega
theorem sY_mono {a b:Int}(h:a<=b):sY a<=sY b:=by unfold sY;omega
theorem dayN_back {n:Int}(h:0<=n):dayN (cY n) (cM n) (cD n)=n:=by
 have he:=dE_b n
 have hy:=dY_b he
 have hd:=dD_b he
 have hs:=dD_s (dE n)
 have hm:=dM_b he
 have ha:adj (cY n) (cM n)=(n+719468) / 146097 * 400+dY (dE n):=by
  unfold adj cY
  by_cases c:cM n<=2
  ·rw[if_pos c,if_pos c];omega
  ·rw[if_neg c,if_neg c];omega
 have hN:n+719468=(n+719468) / 146097 * 146097+dE n:=by unfold dE;omega
 have hmp:(cM n+9)%12=dM (dE n):=by unfold cM;omega
 unfold dayN
 rw[ha,hmp]
 have hD:cD n=dD (dE n)-(153 * dM (dE n)+2) / 5+1:=rfl
 rw[hD]
 unfold sY at hs
 generalize (n+719468) / 146097=q at *
 generalize dY (dE n)=y at *
 generalize dD (dE n)=d at *
 generalize dM (dE n)=mp at *
 generalize dE n=e at *
 have g1:(q * 400+y) / 400=q:=by omega
 have g2:(q * 400+y)%400=y:=by omega
 rw[g1,g2]
 omega
theorem cY_low {n:Int}(h:0<=n):1970<=cY n:=by
 have he:=dE_b n
 have hy:=dY_b he
 have hd:=dD_b he
 have hs:=dD_s (dE n)
 have hl:=e_lt he
 have hN:n+719468=(n+719468) / 146097 * 146097+dE n:=by unfold dE;omega
 unfold cY
 by_cases c5:5<=(n+719468) / 146097
 ·split <;> omega
 ·have h4:(n+719468) / 146097=4:=by omega
  rw[h4]at hN ⊢
  have hy3:369<=dY (dE n):=by
   by_cases c:369<=dY (dE n)
   ·exact c
   ·have h1:=hl (by omega)
    have h2:=sY_mono (show dY (dE n)+1<=369 by omega)
    have h3:sY 369=134774:=by decide
    omega
  by_cases c:dY (dE n)=369
  ·have hd3:306<=dD (dE n):=by
    rw[c]at hs
    have h3:sY 369=134774:=by decide
    omega
   have hm:cM n<=2:=by
    unfold cM dM
    have h10:(5 * dD (dE n)+2) / 153=10\/(5 * dD (dE n)+2) / 153=11:=by omega
    rcases h10 with h|h <;> rw[h] <;> decide
   rw[if_pos hm];omega
  ·split <;> omega
def leapP (y:Int):Prop:=(y%4=0/\¬y%100=0)\/y%400=0
instance (y:Int):Decidable (leapP y):=by unfold leapP;infer_instance
def yrN (y:Int):Int:=if leapP y then 366 else 365
def mlN (y m:Int):Int:=if m=2 then(if leapP y then 29 else 28)else if m=4\/m=6\/m=9\/m=11 then 30 else 31
def gN (a:Int):Int:=365 * a+a / 4-a / 100+a / 400
theorem dayN_g (y m d:Int):dayN y m d=gN (adj y m)+((153 * ((m+9)%12)+2) / 5+d-1)-719468:=by
 unfold dayN gN
 generalize adj y m=a
 have h1:a / 4=100 * (a / 400)+a%400 / 4:=by omega
 have h2:a / 100=4 * (a / 400)+a%400 / 100:=by omega
 have h3:a=400 * (a / 400)+a%400:=by omega
 omega
theorem g_step (y:Int):gN y=gN (y-1)+yrN y:=by
 by_cases hl:leapP y
 ·rw[show yrN y=366 from if_pos hl]
  unfold leapP at hl
  unfold gN
  omega
 ·rw[show yrN y=365 from if_neg hl]
  unfold leapP at hl
  unfold gN
  omega
theorem adj1 (y:Int):adj y 1=y-1/\adj y 2=y-1:=⟨rfl,rfl⟩
theorem adj3 {y m:Int}(h:3<=m):adj y m=y:=by unfold adj;rw[if_neg (by omega)]
theorem jan_step (y:Int):dayN (y+1) 1 1=dayN y 1 1+yrN y:=by
 rw[dayN_g,dayN_g,(adj1 _).1,(adj1 _).1]
 have:=g_step y
 rw[show y+1-1=y by omega]
 omega
theorem ml_step {y m:Int}(h:1<=m/\m<=11):dayN y (m+1) 1=dayN y m 1+mlN y m:=by
 rw[dayN_g,dayN_g]
 have hg:=g_step y
 by_cases h2:m=2
 ·subst h2
  rw[(adj1 y).2,adj3 (by decide)]
  unfold mlN
  unfold yrN at hg
  rw[if_pos rfl]
  by_cases hl:leapP y
  ·rw[if_pos hl]at hg ⊢;omega
  ·rw[if_neg hl]at hg ⊢;omega
 have hm:mlN y m=if m=4\/m=6\/m=9\/m=11 then 30 else 31:=if_neg h2
 rw[hm]
 by_cases h1:m=1
 ·subst h1
  rw[(adj1 y).1,show(1:Int)+1=2 from rfl,(adj1 y).2,if_neg (by decide)]
  omega
 ·rw[adj3 (by omega),adj3 (by omega)]
  have:m=3\/m=4\/m=5\/m=6\/m=7\/m=8\/m=9\/m=10\/m=11:=by omega
  rcases this with rfl|rfl|rfl|rfl|rfl|rfl|rfl|rfl|rfl <;> simp <;> omega
theorem dec_step (y:Int):dayN (y+1) 1 1=dayN y 12 1+mlN y 12:=by
 rw[dayN_g,dayN_g,(adj1 _).1,adj3 (by decide),show mlN y 12=31 from rfl,show y+1-1=y by omega]
 omega
theorem jan_mono {a b:Int}(h:a<=b):dayN a 1 1<=dayN b 1 1:=by
 rw[dayN_g,dayN_g,(adj1 _).1,(adj1 _).1]
 unfold gN
 omega
theorem ml_b (y m:Int):28<=mlN y m/\mlN y m<=31:=by
 unfold mlN
 split
 ·split <;> omega
 ·split <;> omega
theorem mon_mono {y m:Int}(h:1<=m):∀k:Nat,m+k<=12->dayN y m 1<=dayN y (m+k) 1
 |0,_=>by simp
 |k+1,hk=>by
  have h1:=mon_mono h (y:=y) k (by omega)
  have h2:=ml_step (y:=y) (m:=m+k) (by omega)
  have h3:=ml_b y (m+k)
  rw[show m+((k+1:Nat):Int)=m+k+1 by omega]
  omega
theorem mon_le {y m M:Int}(h:1<=m)(h1:m<=M)(h2:M<=12):dayN y m 1<=dayN y M 1:=by
 have:=mon_mono h (y:=y) (M-m).toNat (by omega)
 rwa [show m+((M-m).toNat:Int)=M by omega]at this
theorem mon_year {y m:Int}(h:1<=m/\m<=12):dayN y m 1+mlN y m<=dayN (y+1) 1 1:=by
 have hd:=dec_step y
 by_cases c:m=12
 ·subst c;omega
 ·have h1:=ml_step (y:=y) (m:=m) (by omega)
  have h2:=mon_le (y:=y) (m:=m+1) (M:=12) (by omega) (by omega) (by omega)
  have h3:=ml_b y 12
  omega
theorem day1 (y m d:Int):dayN y m d=dayN y m 1+(d-1):=by unfold dayN;omega
theorem cD_ml {n:Int}:cD n<=mlN (cY n) (cM n):=by
 have he:=dE_b n
 have hy:=dY_b he
 have hd:=dD_b he
 have hs:=dD_s (dE n)
 have hl:=e_lt he
 have hm0:=dM_b he
 have hM:153 * dM (dE n)<=5 * dD (dE n)+2/\5 * dD (dE n)+2<153 * dM (dE n)+153:=by unfold dM;omega
 have hD:cD n=dD (dE n)-(153 * dM (dE n)+2) / 5+1:=rfl
 have hMM:cM n=(dM (dE n)+2)%12+1:=rfl
 have hY:cY n=(n+719468) / 146097 * 400+dY (dE n)+(if cM n<=2 then 1 else 0):=rfl
 by_cases c:dM (dE n)=11
 ·rw[c]at hMM hD
  have h2:cM n=2:=by rw[hMM];decide
  rw[h2,if_pos (by decide)]at hY
  rw[h2,hD]
  unfold mlN
  rw[if_pos rfl]
  by_cases hlp:leapP (cY n)
  ·rw[if_pos hlp];omega
  ·rw[if_neg hlp]
   have hq:dY (dE n)<=398:=by
    by_cases c3:dY (dE n)<=398
    ·exact c3
    ·exact absurd (show leapP (cY n) by rw[hY];unfold leapP;omega) hlp
   have h4:=hl hq
   have h5:sY (dY (dE n)+1)-sY (dY (dE n))<=365:=by
    rw[hY]at hlp
    unfold leapP at hlp
    unfold sY
    generalize dY (dE n)=y at *
    generalize (n+719468) / 146097=q at *
    have g1:(q * 400+y+1)%4=(y+1)%4:=by omega
    have g2:(q * 400+y+1)%100=(y+1)%100:=by omega
    rw[g1,g2]at hlp
    omega
   omega
 ·have hnd:∀Y:Int,∀mp:Int,0<=mp/\mp<=10->∀d:Int,153 * mp<=5 * d+2/\5 * d+2<153 * mp+153->d-(153 * mp+2) / 5+1<=mlN Y ((mp+2)%12+1):=by
   intro Y mp hmp d hd
   have:mp=0\/mp=1\/mp=2\/mp=3\/mp=4\/mp=5\/mp=6\/mp=7\/mp=8\/mp=9\/mp=10:=by omega
   rcases this with rfl|rfl|rfl|rfl|rfl|rfl|rfl|rfl|rfl|rfl|rfl <;> unfold mlN <;> simp <;> omega
  rw[hMM,hD]
  exact hnd _ _ (by omega) _ hM
theorem day_in {n:Int}(h:0<=n):dayN (cY n) 1 1<=n/\n<dayN (cY n+1) 1 1/\dayN (cY n) (cM n) 1+(cD n-1)=n/\dayN (cY n) (cM n) 1<=n/\n<dayN (cY n) (cM n) 1+mlN (cY n) (cM n):=by
 have hb:=dayN_back h
 rw[day1]at hb
 have hm:=cM_b n
 have hd:=cD_b n
 have hml:=cD_ml (n:=n)
 have h1:=mon_le (y:=cY n) (m:=1) (M:=cM n) (by omega) hm.1 hm.2
 have h2:=mon_year (y:=cY n) hm
 omega
theorem sp_eq {n:Int}(h:okT n):spD n=⟨cY (n / 86400),cM (n / 86400),cD (n / 86400),n%86400 / 3600,n%3600 / 60,n%60,(n / 86400+4)%7⟩:=if_pos h
theorem sp_back {n:Int}(h:okT n):okF (spD n)/\jN (spD n)=n:=by
 have hT:=h
 unfold okT at hT
 have hb:=dayN_back (n:=n / 86400) (by omega)
 have ok:okF (spD n):=by
  rw[sp_eq h]
  unfold okF
  refine⟨⟨cY_low (by omega),(cY_b (by omega)).2⟩,cM_b _,cD_b _,by simp only;omega,by simp only;omega,by simp only;omega,?_⟩
  simp only
  rw[hb]
 refine⟨ok,?_⟩
 rw[show jN (spD n)=dayN (spD n).y (spD n).m (spD n).d * 86400+(spD n).h * 3600+(spD n).mi * 60+(spD n).s from if_pos ok,sp_eq h]
 simp only
 rw[hb]
 omega
def noW (x:Dt):Dt:=⟨x.y,x.m,x.d,x.h,x.mi,x.s,0⟩
theorem noW_f (x:Dt):(okF (noW x)↔okF x)/\jN (noW x)=jN x:=⟨Iff.rfl,rfl⟩
theorem tk_app {a b:List UInt8}{k:Nat}(h:a.length=k):tkR k (a++b)=some (a,b):=by
 unfold tkR
 subst h
 rw[if_pos (by rw[List.length_append];omega),List.take_left' rfl,List.drop_left' rfl]
theorem nv2:∀n:Fin 100,numV (dg n.1 2 48)=some n.1:=by decide
theorem nv2b:∀n:Fin 100,numV (dg n.1 2 32)=some n.1:=by decide
theorem mv:∀i:Fin 12,monV (moL.getD i.1 [])=some ((i.1:Int)+1):=by decide
theorem dg4 (n:Nat):dg n 4 48=[UInt8.ofNat (48+n / 1000%10),UInt8.ofNat (48+n / 100%10),UInt8.ofNat (48+n / 10%10),UInt8.ofNat (48+n%10)]:=by
 have e:dg n 4 48=[dgAt n 4 48 0,dgAt n 4 48 1,dgAt n 4 48 2,dgAt n 4 48 3]:=rfl
 have z:∀(q:Nat) (p:Prop) [Decidable p],(if q=0/\p then(48:UInt8)else UInt8.ofNat (48+q%10))=UInt8.ofNat (48+q%10):=fun q p _=>by
  split
  ·rename_i h;rw[h.1];rfl
  ·rfl
 rw[e]
 unfold dgAt
 rw[z,z,z,z]
 simp
theorem fix0_c (c:UInt8)(r:List UInt8):fix0 (c::r)=(if c=32 then 48 else c)::r:=rfl
theorem numF_c (acc:Nat)(c:UInt8)(r:List UInt8):numF acc (c::r)=if c.toNat<48\/57<c.toNat then none else numF (10 * acc+(c.toNat-48)) r:=rfl
theorem nv4 {n:Nat}(h:n<10000):numV (dg n 4 48)=some n:=by
 rw[dg4]
 have b:∀q:Nat,(UInt8.ofNat (48+q%10)).toNat=48+q%10:=fun q=>u8_of _ (by omega)
 have f:∀q:Nat,¬UInt8.ofNat (48+q%10)=32:=fun q c=>by
  have:=congrArg UInt8.toNat c
  rw[b]at this
  have e:(32:UInt8).toNat=32:=rfl
  omega
 unfold numV
 rw[fix0_c,if_neg (f _),numF_c,b,if_neg (by omega),numF_c,b,if_neg (by omega),numF_c,b,if_neg (by omega),numF_c,b,if_neg (by omega)]
 unfold numF
 congr 1
 omega
theorem num_app {n k:Nat}{fill:UInt8}{b:List UInt8}(h:numV (dg n k fill)=some n):numR k (dg n k fill++b)=some (n,b):=by
 unfold numR
 rw[tk_app (dg_len _ _ _)]
 simp only[h]
theorem mo_len {x:Dt}(h:1<=x.m/\x.m<=12):(moN x).length=3:=by
 have:∀i:Fin 12,(moL.getD i.1 []).length=3:=by decide
 exact this ⟨(x.m-1).toNat,by omega⟩
theorem wd_len {x:Dt}(h:0<=x.w/\x.w<=6):((wdN x).take 3).length=3/\(wdN x).length<=9/\3<=(wdN x).length:=by
 have:∀i:Fin 7,((wdL.getD i.1 []).take 3).length=3/\(wdL.getD i.1 []).length<=9/\3<=(wdL.getD i.1 []).length:=by decide
 exact this ⟨x.w.toNat,by omega⟩
theorem mon_app {x:Dt}{b:List UInt8}(h:1<=x.m/\x.m<=12):monR (moN x++b)=some (x.m,b):=by
 unfold monR
 rw[tk_app (mo_len h)]
 have:=mv ⟨(x.m-1).toNat,by omega⟩
 have e:monV (moN x)=some x.m:=by
  unfold moN
  rw[this]
  congr 1
  simp only
  omega
 simp only[e]
theorem clk_app {x:Dt}{b:List UInt8}(h:okX x):clkR (clk x++b)=some ((x.h.toNat,x.mi.toNat,x.s.toNat),b):=by
 obtain⟨o1,o2,o3,o4,o5,o6,o7⟩:=h
 have e:clk x++b=dg x.h.toNat 2 48++([58]++(dg x.mi.toNat 2 48++([58]++(dg x.s.toNat 2 48++b)))):=by simp[clk]
 rw[e]
 unfold clkR
 rw[num_app (nv2 ⟨x.h.toNat,by omega⟩)]
 simp only[Option.bind_some]
 rw[tk_app (a:=[58]) (k:=1) rfl]
 simp only[Option.bind_some]
 rw[num_app (nv2 ⟨x.mi.toNat,by omega⟩)]
 simp only[Option.bind_some]
 rw[tk_app (a:=[58]) (k:=1) rfl]
 simp only[Option.bind_some]
 rw[num_app (nv2 ⟨x.s.toNat,by omega⟩)]
 simp only[Option.bind_some]
theorem noW_eq {x:Dt}(h:okX x):(⟨(x.y.toNat:Int),x.m,(x.d.toNat:Int),(x.h.toNat:Int),(x.mi.toNat:Int),(x.s.toNat:Int),0⟩:Dt)=noW x:=by
 obtain⟨o1,o2,o3,o4,o5,o6,o7⟩:=h
 unfold noW
 rw[Int.toNat_of_nonneg o1.1,Int.toNat_of_nonneg (by omega:0<=x.d),Int.toNat_of_nonneg o4.1,Int.toNat_of_nonneg o5.1,Int.toNat_of_nonneg o6.1]
theorem first_app {x:Dt}(h:okX x):firstR (fm 0 x)=some (noW x):=by
 have ok:=h
 obtain⟨o1,o2,o3,o4,o5,o6,o7⟩:=h
 have e:fm 0 x=((wdN x).take 3++[44,32])++(dg x.d.toNat 2 48++([32]++(moN x++([32]++(dg x.y.toNat 4 48++([32]++(clk x++[32,71,77,84]))))))):=by
  unfold fm
  rw[if_pos rfl]
  simp only[List.append_assoc]
 rw[e]
 unfold firstR
 rw[tk_app (by rw[List.length_append,(wd_len o7).1];rfl)]
 simp only[Option.bind_some]
 rw[num_app (nv2 ⟨x.d.toNat,by omega⟩)]
 simp only[Option.bind_some]
 rw[tk_app (a:=[32]) (k:=1) rfl]
 simp only[Option.bind_some]
 rw[mon_app o2]
 simp only[Option.bind_some]
 rw[tk_app (a:=[32]) (k:=1) rfl]
 simp only[Option.bind_some]
 rw[num_app (nv4 (by omega))]
 simp only[Option.bind_some]
 rw[tk_app (a:=[32]) (k:=1) rfl]
 simp only[Option.bind_some]
 rw[clk_app ok]
 simp only[Option.bind_some]
 rw[noW_eq ok]
theorem fm0_len {x:Dt}(h:okX x):(fm 0 x).length=29:=by
 unfold fm
 rw[if_pos rfl]
 simp only[List.length_append,dg_len,clk_len,(wd_len h.w).1,mo_len h.m,List.length_cons,List.length_nil]
theorem try_app {n k now:Int}{rd:List UInt8->Option Dt}(h:okT n)(hr:rd (fm k (spD n))=some (noW (spD n))):tryR k now (fm k (spD n)) rd=some n:=by
 obtain⟨h1,h2⟩:=sp_back h
 unfold tryR
 rw[hr]
 simp only
 rw[(noW_f _).2,h2,if_pos ⟨(noW_f _).1.2 h1,rfl⟩]
theorem par_first {n now:Int}(h:okT n):paR now (fm 0 (spD n))=some n:=by
 unfold paR paF
 have:tryR ((0:Nat):Int) now (fm 0 (spD n)) (rdK now 0)=some n:=try_app h (first_app (ok_sp h))
 rw[this]
theorem fi_app (a r:List UInt8)(h:∀c∈a,(c==44)=false):(a++44::r).findIdx (fun c:UInt8=>c==44)=a.length:=by
 induction a with
 |nil=>simp[List.findIdx_cons]
 |cons c a ih=>
  rw[List.cons_append,List.findIdx_cons,h c (by simp),ih (fun d hd=>h d (by simp[hd]))]
  rfl
theorem wd_no {x:Dt}(h:0<=x.w/\x.w<=6):∀c∈wdN x,(c==44)=false:=by
 have:∀i:Fin 7,∀c∈wdL.getD i.1 [],(c==44)=false:=by decide
 exact this ⟨x.w.toNat,by omega⟩
theorem second_app {x:Dt}{now:Int}(h:okX x)(hs:secY now (x.y%100).toNat=x.y):secondR now (fm 1 x)=some (noW x):=by
 have ok:=h
 obtain⟨o1,o2,o3,o4,o5,o6,o7⟩:=h
 have e:fm 1 x=(wdN x++[44,32])++(dg x.d.toNat 2 48++([45]++(moN x++([45]++(dg (x.y%100).toNat 2 48++([32]++(clk x++[32,71,77,84]))))))):=by
  unfold fm
  rw[if_neg (by decide),if_pos rfl]
  simp only[List.append_assoc]
 have hc:cI (fm 1 x)=(wdN x).length:=by
  unfold cI
  rw[e]
  have:=fi_app (wdN x) (32::(dg x.d.toNat 2 48++([45]++(moN x++([45]++(dg (x.y%100).toNat 2 48++([32]++(clk x++[32,71,77,84])))))))++[44]) (wd_no o7)
  rw[<- this]
  simp only[List.append_assoc,ca_,na_]
 unfold secondR
 rw[hc,e]
 rw[tk_app (k:=(wdN x).length+2) (by rw[List.length_append];rfl)]
 simp only[Option.bind_some]
 rw[num_app (nv2 ⟨x.d.toNat,by omega⟩)]
 simp only[Option.bind_some]
 rw[tk_app (a:=[45]) (k:=1) rfl]
 simp only[Option.bind_some]
 rw[mon_app o2]
 simp only[Option.bind_some]
 rw[tk_app (a:=[45]) (k:=1) rfl]
 simp only[Option.bind_some]
 rw[num_app (nv2 ⟨(x.y%100).toNat,by omega⟩)]
 simp only[Option.bind_some]
 rw[tk_app (a:=[32]) (k:=1) rfl]
 simp only[Option.bind_some]
 rw[clk_app ok]
 simp only[Option.bind_some]
 rw[hs]
 unfold noW
 rw[Int.toNat_of_nonneg (by omega:0<=x.d),Int.toNat_of_nonneg o4.1,Int.toNat_of_nonneg o5.1,Int.toNat_of_nonneg o6.1]
theorem third_app {x:Dt}(h:okX x):thirdR (fm 2 x)=some (noW x):=by
 have ok:=h
 obtain⟨o1,o2,o3,o4,o5,o6,o7⟩:=h
 have e:fm 2 x=((wdN x).take 3++[32])++(moN x++([32]++(dg x.d.toNat 2 32++([32]++(clk x++([32]++(dg x.y.toNat 4 48++[]))))))):=by
  unfold fm
  rw[if_neg (by decide),if_neg (by decide)]
  simp only[List.append_assoc,List.append_nil]
 rw[e]
 unfold thirdR
 rw[tk_app (k:=4) (by rw[List.length_append,(wd_len o7).1];rfl)]
 simp only[Option.bind_some]
 rw[mon_app o2]
 simp only[Option.bind_some]
 rw[tk_app (a:=[32]) (k:=1) rfl]
 simp only[Option.bind_some]
 rw[num_app (nv2b ⟨x.d.toNat,by omega⟩)]
 simp only[Option.bind_some]
 rw[tk_app (a:=[32]) (k:=1) rfl]
 simp only[Option.bind_some]
 rw[clk_app ok]
 simp only[Option.bind_some]
 rw[tk_app (a:=[32]) (k:=1) rfl]
 simp only[Option.bind_some]
 rw[num_app (nv4 (by omega))]
 simp only[Option.bind_some]
 rw[noW_eq ok]
theorem fm1_len {x:Dt}(h:okX x):30<=(fm 1 x).length:=by
 unfold fm
 rw[if_neg (by decide),if_pos rfl]
 have hw:∀i:Fin 7,6<=(wdL.getD i.1 []).length:=by decide
 have hw2:6<=(wdN x).length:=hw ⟨x.w.toNat,by have:=h.w;omega⟩
 simp only[List.length_append,dg_len,clk_len,mo_len h.m,List.length_cons,List.length_nil]
 omega
theorem fm2_len {x:Dt}(h:okX x):(fm 2 x).length=24:=by
 unfold fm
 rw[if_neg (by decide),if_neg (by decide)]
 simp only[List.length_append,dg_len,clk_len,(wd_len h.w).1,mo_len h.m,List.length_cons,List.length_nil]
theorem try_none {k now:Int}{l:List UInt8}{rd:List UInt8->Option Dt}(h:∀x,okX x->(fm k x).length≠l.length):tryR k now l rd=none:=by
 unfold tryR
 cases rd l with
 |none=>rfl
 |some x=>
  simp only
  refine if_neg fun c=>?_
  exact h _ (ok_sp (jN_ok c.1)) (by rw[c.2])
theorem par_second {n now:Int}(h:okT n)(hs:secY now ((spD n).y%100).toNat=(spD n).y):paR now (fm 1 (spD n))=some n:=by
 have hl:=fm1_len (ok_sp h)
 have t0:tryR ((0:Nat):Int) now (fm 1 (spD n)) (rdK now 0)=none:=try_none fun x hx=>by
  have:=fm0_len hx
  show(fm 0 x).length≠_
  omega
 have t1:tryR ((0+1:Nat):Int) now (fm 1 (spD n)) (rdK now (0+1))=some n:=try_app (k:=1) h (second_app (ok_sp h) hs)
 unfold paR paF
 rw[t0]
 simp only
 unfold paF
 rw[t1]
theorem par_third {n now:Int}(h:okT n):paR now (fm 2 (spD n))=some n:=by
 have hl:=fm2_len (ok_sp h)
 have t0:tryR ((0:Nat):Int) now (fm 2 (spD n)) (rdK now 0)=none:=try_none fun x hx=>by
  have:=fm0_len hx
  show(fm 0 x).length≠_
  omega
 have t1:tryR ((0+1:Nat):Int) now (fm 2 (spD n)) (rdK now (0+1))=none:=try_none fun x hx=>by
  have:=fm1_len hx
  show(fm 1 x).length≠_
  omega
 have t2:tryR ((0+1+1:Nat):Int) now (fm 2 (spD n)) (rdK now (0+1+1))=some n:=try_app (k:=2) h (third_app (ok_sp h))
 unfold paR paF
 rw[t0]
 simp only
 unfold paF
 rw[t1]
 simp only
 unfold paF
 rw[t2]
theorem leap {W:World}{y:Int}(h:0<=y):Cn p_ 200 [.int .i64 y] W [] (fun _:Unit=> .bool (decide (leapP y))) (fun _=>[]):=by
 (refine S.ref09_leap_s.cn fun F=>?_;unfold S.ref09_leap;simp only[ca_,na_])
 (((refine o_ (v_rem ?h1 ?h2) ?_);(case h1=>omega);(case h2=>omega)))
 refine e_ask v_eql .nil (fun h4=>?_) (fun h4=>?_)
 ·(refine e_gdT ?_);refine e_gdT ?_;(((refine o_ (v_rem ?h1 ?h2) ?_);(case h1=>omega);(case h2=>omega)));refine e_gdT ?_
  refine e_ask v_neq .nil (fun h1=>?_) (fun h1=>?_)
  ·(refine o_ v_pickT ?_);refine e_gdF1 ?_;refine e_gdF1 ?_;refine e_gdF1 ?_;refine o_ v_pickT ?_
   rw[dT_ (show leapP y from .inl ⟨h4,h1⟩)]
   refine rt_ () ?_
   exact im_
  ·(refine o_ v_pickT ?_);refine e_gdT ?_;refine e_gdT ?_;(((refine o_ (v_rem ?h1 ?h2) ?_);(case h1=>omega);(case h2=>omega)));refine e_gdT ?_
   refine e_ask v_eql .nil (fun h5=>?_) (fun h5=>?_)
   ·(refine o_ v_pickF ?_)
    rw[dT_ (show leapP y from .inr h5)]
    refine rt_ () ?_
    exact im_
   ·(refine o_ v_pickF ?_)
    rw[dF_ (show ¬leapP y from fun c=>by rcases c with c|c;exact h1 c.2;exact h5 c)]
    refine rt_ () ?_
    exact im_
 ·(refine e_gdF2 ?_);refine e_gdF2 ?_;refine e_gdF2 ?_;refine o_ v_pickF ?_;refine e_gdT ?_;refine e_gdT ?_;(((refine o_ (v_rem ?h1 ?h2) ?_);(case h1=>omega);(case h2=>omega)));refine e_gdT ?_
  refine e_ask v_eql .nil (fun h5=>?_) (fun h5=>?_)
  ·(refine o_ v_pickF ?_)
   rw[dT_ (show leapP y from .inr h5)]
   refine rt_ () ?_
   exact im_
  ·(refine o_ v_pickF ?_)
   rw[dF_ (show ¬leapP y from fun c=>by rcases c with c|c;exact h4 c.1;exact h5 c)]
   refine rt_ () ?_
   exact im_
theorem year {W:World}{y:Int}(h:0<=y):Cn p_ 168 [.int .i64 y] W [] (fun _:Unit=> .int .i64 (yrN y)) (fun _=>[]):=by
 (refine S.ref09_year_s.cn fun F=>?_;unfold S.ref09_year;simp only[ca_,na_])
 refine c_ (leap h) fun _=>?_
 unfold yrN
 by_cases hl:leapP y
 ·rw[dT_ hl,if_pos hl]
  refine e_condT (rt_ () ?_)
  exact im_
 ·rw[dF_ hl,if_neg hl]
  refine e_condF (rt_ () ?_)
  exact im_
theorem rdays {W:World}{y m:Int}(h:0<=y):Cn p_ 167 [.int .i64 y,.int .i64 m] W [] (fun _:Unit=> .int .i64 (mlN y m)) (fun _=>[]):=by
 (refine S.ref09_days_s.cn fun F=>?_;unfold S.ref09_days;simp only[ca_,na_])
 refine e_ask v_eql .nil (fun h2=>?_) (fun h2=>?_)
 ·(refine e_condT ?_)
  refine c_ (leap h) fun _=>?_
  unfold mlN
  rw[if_pos h2]
  by_cases hl:leapP y
  ·rw[dT_ hl,if_pos hl]
   refine e_condT (rt_ () ?_)
   exact im_
  ·rw[dF_ hl,if_neg hl]
   refine e_condF (rt_ () ?_)
   exact im_
 refine e_condF ?_
 have hm:mlN y m=if m=4\/m=6\/m=9\/m=11 then 30 else 31:=if_neg h2
 rw[hm]
 refine e_ask v_eql .nil (fun h4=>?_) (fun h4=>?_)
 ·rw[if_pos (.inl h4)]
  refine e_condT (e_condT (rt_ () ?_))
  exact im_
 refine e_condF (e_ask v_eql .nil (fun h6=>?_) (fun h6=>?_))
 ·rw[if_pos (.inr (.inl h6))]
  refine e_condT (e_condT (rt_ () ?_))
  exact im_
 refine e_condF (e_ask v_eql .nil (fun h9=>?_) (fun h9=>?_))
 ·rw[if_pos (.inr (.inr (.inl h9)))]
  refine e_condT (e_condT (rt_ () ?_))
  exact im_
 refine e_condF (e_ask v_eql .nil (fun h11=>?_) (fun h11=>?_))
 ·rw[if_pos (.inr (.inr (.inr h11)))]
  refine e_condT (rt_ () ?_)
  exact im_
 ·rw[if_neg (fun c=>by rcases c with c|c|c|c;exact h4 c;exact h6 c;exact h9 c;exact h11 c)]
  refine e_condF (rt_ () ?_)
  exact im_
theorem rsplit {W:World}{n:Int}:Cn p_ 142 [.int .i64 n] W [] (fun _:Unit=> .tuple #[.agg (dtA (spD n)),.int .i64 (spE n)]) (fun _=>[]):=by
 have bad:¬okT n->spD n=dt0/\spE n=11:=fun h=>⟨if_neg h,if_neg h⟩
 (refine S.ref09_Split_s.cn fun F=>?_;unfold S.ref09_Split;simp only[ca_,na_])
 refine e_newA fun b2=>?_
 refine e_ask v_lss .nil (fun h=>?_) (fun h=>?_)
 ·have hb:=bad (fun c=>by unfold okT at c;omega)
  rw[hb.1,hb.2]
  refine e_gdF1 (e_gdF1 (o_ v_pickT (e_condT (o_ v_rv ?_))));refine sg_ ?_;(((refine' e_stS (v_resA ?hn) ?hi ?_);(case hi=>exact im_);(case hn=>rfl)))
  refine rt_ () ?_
  exact im_
 refine e_gdT (e_gdT (e_ask v_gtr .nil (fun h2=>?_) (fun h2=>?_)))
 ·have hb:=bad (fun c=>by unfold okT at c;omega)
  rw[hb.1,hb.2]
  refine o_ v_pickF (e_condT (o_ v_rv ?_));refine sg_ ?_;(((refine' e_stS (v_resA ?hn) ?hi ?_);(case hi=>exact im_);(case hn=>rfl)))
  refine rt_ () ?_
  exact im_
 have ok:okT n:=⟨by omega,by omega⟩
 have hT:=ok
 unfold okT at hT
 rw[show spE n=0 from if_pos ok]
 have hN:0<=n / 86400/\n / 86400<=2932896:=by omega
 have hsp:spD n=⟨cY (n / 86400),cM (n / 86400),cD (n / 86400),n / 3600%24,n / 60%60,n%60,(n / 86400+4)%7⟩:=by
  rw[sp_eq ok]
  rw[show n%86400 / 3600=n / 3600%24 by omega,show n%3600 / 60=n / 60%60 by omega]
 rw[hsp]
 obtain⟨d1,d2,d3,d4,d5⟩:=day_in (n:=n / 86400) hN.1
 have hY0:=cY_low (n:=n / 86400) hN.1
 have hY1:=(cY_b (n:=n / 86400) hN).2
 have hM:=cM_b (n / 86400)
 refine o_ v_pickF (e_condF ?_);(((refine o_ (v_quo ?h1 ?h2 ?h3) ?_);(case h1=>omega);(case h2=>omega);(case h3=>omega)));(((refine o_ (v_rem ?h1 ?h2) ?_);(case h1=>omega);(case h2=>omega)));(((refine o_ (v_quo ?h1 ?h2 ?h3) ?_);(case h1=>omega);(case h2=>omega);(case h3=>omega)));(((refine o_ (v_rem ?h1 ?h2) ?_);(case h1=>omega);(case h2=>omega)));(((refine o_ (v_rem ?h1 ?h2) ?_);(case h1=>omega);(case h2=>omega)));refine o_ v_rv ?_;refine e_newA fun g=>?_;refine sg_ ?_;(((refine o_ (v_quo ?h1 ?h2 ?h3) ?_);(case h1=>omega);(case h2=>omega);(case h3=>omega)));refine ad_ ?_;(((refine o_ (v_rem ?h1 ?h2) ?_);(case h1=>omega);(case h2=>omega)));refine o_ v_fa0 (sn_ ?_)
 rename Nat=>b4
 generalize n / 3600%24=hh
 generalize n / 60%60=mi
 generalize n%60=ss
 generalize (n / 86400+4)%7=ww
 generalize n / 86400=N at *
 generalize cD N=D at *
 generalize cM N=M at *
 generalize cY N=Y at *
 have j70:dayN 1970 1 1=0:=by decide
 refine e_loop1 (fun m y5=>(ex fun y:Int=>all [pu (y5= .int .i64 (N-dayN y 1 1)/\1970<=y/\(m:Int)+y=Y),pt b4 (.cells #[.int .i64 y,.int .i64 1,.int .i64 0,.int .i64 hh,.int .i64 mi,.int .i64 ss,.int .i64 ww] 175)])::pt b2 (.cells #[.int .i64 0,.int .i64 0,.int .i64 0,.int .i64 0,.int .i64 0,.int .i64 0,.int .i64 0] 175)::F) (Y-1970).toNat ?_ ?_
 ·refine .ex 1970 (.all ?_)
  refine nr_ ?_
  refine .pu ⟨by rw[j70,Int.sub_zero],by omega,by omega⟩ ?_
  exact im_
 intro m ds y5
 refine nr_ ?_
 refine e_ex Pick.here fun y=>e_all Pick.here ?_
 refine nr_ ?_
 refine e_pu Pick.here fun hi=>?_
 obtain⟨rfl,hy0,hmy⟩:=hi
 have hjs:=jan_step y
 have hjy:=jan_mono (a:=y) (b:=Y) (by omega)
 have hj0:=jan_mono (a:=1970) (b:=y) (by omega)
 rw[j70]at hj0
 have hyr:365<=yrN y/\yrN y<=366:=by unfold yrN;split <;> omega
 refine o_ v_fa0 (ln_ ?_)
 refine c_ (year (y:=y) (by omega)) fun _=>?_
 refine e_ask v_geq .nil (fun hg=>?_) (fun hg=>?_)
 ·have hlt:y<Y:=by
   rcases Int.lt_or_le y Y with c|c
   ·exact c
   ·have:y=Y:=by omega
    subst this;omega
  refine e_condT (o_ v_fa0 (ln_ ?_))
  refine c_ (year (y:=y) (by omega)) fun _=>?_
  refine sb_ ?_;refine o_ v_fa0 (ln_ ?_);refine ad_ ?_;refine o_ v_fa0 (sn_ ?_)
  refine e_next1 (m-1) (by omega) (.ex (y+1) (.all ?_))
  refine nr_ ?_
  refine .pu ⟨by congr 1;omega,by omega,by omega⟩ ?_
  exact im_
 have hyY:y=Y:=by
  rcases Int.lt_or_le y Y with c|c
  ·have:=jan_mono (a:=y+1) (b:=Y) (by omega)
   omega
  ·omega
 subst hyY
 clear hmy hjs hyr hg
 refine e_condF (e_loop1 (fun m y5=>(ex fun mo:Int=>all [pu (y5= .int .i64 (N-dayN y mo 1)/\1<=mo/\(m:Int)+mo=M),pt b4 (.cells #[.int .i64 y,.int .i64 mo,.int .i64 0,.int .i64 hh,.int .i64 mi,.int .i64 ss,.int .i64 ww] 175)])::pt b2 (.cells #[.int .i64 0,.int .i64 0,.int .i64 0,.int .i64 0,.int .i64 0,.int .i64 0,.int .i64 0] 175)::F) (M-1).toNat ?_ ?_)
 ·refine .ex 1 (.all ?_)
  refine nr_ ?_
  refine .pu ⟨rfl,by omega,by omega⟩ ?_
  exact im_
 clear m
 intro m ds2 y5
 refine nr_ ?_
 refine e_ex Pick.here fun mo=>e_all Pick.here ?_
 refine nr_ ?_
 refine e_pu Pick.here fun hi=>?_
 obtain⟨rfl,hm0,hmm⟩:=hi
 have hmb:=ml_b y mo
 have hmy2:=mon_le (y:=y) (m:=mo) (M:=M) hm0 (by omega) hM.2
 have hm1:=mon_le (y:=y) (m:=1) (M:=mo) (by omega) hm0 (by omega)
 refine o_ v_fa0 (ln_ ?_);refine o_ v_fa0 (ln_ ?_)
 refine c_ (rdays (y:=y) (m:=mo) (by omega)) fun _=>?_
 refine e_ask v_geq .nil (fun hg=>?_) (fun hg=>?_)
 ·have hlt:mo<M:=by
   rcases Int.lt_or_le mo M with c|c
   ·exact c
   ·have:mo=M:=by omega
    subst this;omega
  have hms:=ml_step (y:=y) (m:=mo) (by omega)
  refine e_condT (o_ v_fa0 (ln_ ?_));refine o_ v_fa0 (ln_ ?_)
  refine c_ (rdays (y:=y) (m:=mo) (by omega)) fun _=>?_
  refine sb_ ?_;refine o_ v_fa0 (ln_ ?_);refine ad_ ?_;refine o_ v_fa0 (sn_ ?_)
  refine e_next1 (m-1) (by omega) (.ex (mo+1) (.all ?_))
  refine nr_ ?_
  refine .pu ⟨by congr 1;omega,by omega,by omega⟩ ?_
  exact im_
 have hmM:mo=M:=by
  rcases Int.lt_or_le mo M with c|c
  ·have h1:=ml_step (y:=y) (m:=mo) (by omega)
   have h2:=mon_le (y:=y) (m:=mo+1) (M:=M) (by omega) (by omega) hM.2
   omega
  ·omega
 subst hmM
 refine e_condF (ad_ ?_);refine o_ v_fa0 (sn_ ?_);refine lg_ ?_;refine sg_ ?_;(((refine' e_stS (v_resA ?hn) ?hi ?_);(case hi=>exact im_);(case hn=>rfl)))
 rw[show N-dayN y mo 1+1=D by omega]
 refine rt_ () ?_
 exact im_
theorem uniq {n y m:Int}(h:0<=n)(hm:1<=m/\m<=12)(h1:dayN y m 1<=n)(h2:n<dayN y m 1+mlN y m):cY n=y/\cM n=m:=by
 obtain⟨d1,d2,d3,d4,d5⟩:=day_in h
 have hM:=cM_b n
 have j1:=mon_le (y:=y) (m:=1) (M:=m) (by omega) hm.1 hm.2
 have j2:=mon_year (y:=y) hm
 have hY:cY n=y:=by
  rcases Int.lt_trichotomy (cY n) y with c|c|c
  ·have:=jan_mono (a:=cY n+1) (b:=y) (by omega)
   omega
  ·exact c
  ·have:=jan_mono (a:=y+1) (b:=cY n) (by omega)
   omega
 refine⟨hY,?_⟩
 rw[hY]at d4 d5
 rcases Int.lt_trichotomy (cM n) m with c|c|c
 ·have s:=ml_step (y:=y) (m:=cM n) (by omega)
  have:=mon_le (y:=y) (m:=cM n+1) (M:=m) (by omega) (by omega) hm.2
  omega
 ·exact c
 ·have s:=ml_step (y:=y) (m:=m) (by omega)
  have:=mon_le (y:=y) (m:=m+1) (M:=cM n) (by omega) (by omega) hM.2
  omega
theorem cM_iff {y m d:Int}(hy:1970<=y/\y<=9999)(hm:1<=m/\m<=12)(hd:1<=d/\d<=31):cM (dayN y m d)=m↔d<=mlN y m:=by
 have hb:=(dayN_b hy hm hd).1
 have h1:=day1 y m d
 have hml:=ml_b y m
 constructor
 ·intro hc
  rcases Int.lt_or_le (mlN y m) d with c|c
  ·by_cases h12:m=12
   ·subst h12
    rw[show mlN y 12=31 from rfl]at c
    omega
   ·have s:=ml_step (y:=y) (m:=m) (by omega)
    have hml2:=ml_b y (m+1)
    have:=(uniq (n:=dayN y m d) (y:=y) (m:=m+1) hb (by omega) (by omega) (by omega)).2
    omega
  ·exact c
 ·intro hc
  exact(uniq (n:=dayN y m d) (y:=y) (m:=m) hb hm (by omega) (by omega)).2
def rOk (x:Dt):Prop:=(1970<=x.y/\x.y<=9999)/\(1<=x.m/\x.m<=12)/\(1<=x.d/\x.d<=mlN x.y x.m)/\(0<=x.h/\x.h<=23)/\(0<=x.mi/\x.mi<=59)/\(0<=x.s/\x.s<=59)
theorem rOk_iff (x:Dt):okF x↔rOk x:=by
 have hml:=ml_b x.y x.m
 constructor
 ·intro h
  unfold okF at h
  obtain⟨h1,h2,h3,h4,h5,h6,h7⟩:=h
  exact⟨h1,h2,⟨h3.1,(cM_iff h1 h2 h3).1 h7⟩,h4,h5,h6⟩
 ·intro h
  unfold rOk at h
  obtain⟨h1,h2,h3,h4,h5,h6⟩:=h
  have h3':1<=x.d/\x.d<=31:=by omega
  exact⟨h1,h2,h3',h4,h5,h6,(cM_iff h1 h2 h3').2 h3.2⟩
theorem rjoin {W:World}{x:Dt}:Cn p_ 141 [.agg (dtA x)] W [] (fun _:Unit=> .tuple #[.int .i64 (jN x),.int .i64 (jE x)]) (fun _=>[]):=by
 have bad:¬rOk x->jN x=0/\jE x=41:=fun h=>⟨if_neg (fun c=>h ((rOk_iff x).1 c)),if_neg (fun c=>h ((rOk_iff x).1 c))⟩
 (refine S.ref09_Join_s.cn fun F=>?_;unfold S.ref09_Join;simp only[ca_,na_])
 rw[show(Value.agg (dtA x))= .agg #[.int .i64 x.y,.int .i64 x.m,.int .i64 x.d,.int .i64 x.h,.int .i64 x.mi,.int .i64 x.s,.int .i64 x.w]from rfl]
 refine e_boxA fun g=>?_;refine e_drS (t_ v_fa0 (ls_ ?_))
 refine e_askS v_lss .nil (fun h1=>?_) (fun h1=>?_)
 ·(refine e_gdF1 ?_);refine e_gdF1 ?_;refine e_gdF1 ?_;refine t_ v_pickT ?_;refine e_gdF1 ?_;refine e_gdF1 ?_;refine e_gdF1 ?_;refine t_ v_pickT ?_;refine e_gdF1 ?_;refine e_gdF1 ?_;refine e_gdF1 ?_;refine t_ v_pickT ?_;refine e_gdF1 ?_;refine e_gdF1 ?_;refine e_gdF1 ?_;refine t_ v_pickT ?_;refine e_gdDF1 ?_;refine e_gdDF1 ?_;refine e_gdF1 ?_;refine e_gdF1 ?_;refine e_gdF1 ?_;refine e_gdF1 ?_;refine e_gdF1 ?_;refine e_oblT ?_;refine e_oblT ?_;refine e_gdF1 ?_;refine t_ v_pickT ?_;refine e_condT ?_
  obtain⟨b1,b2⟩:=bad (fun c=>by unfold rOk at c;omega)
  rw[b1,b2]
  refine rt_ () ?_
  exact im_
 refine e_gdT (t_ v_fa0 (e_gdT (ls_ ?_)));refine e_gdT (e_askS v_gtr .nil (fun h2=>?_) (fun h2=>?_))
 ·(refine t_ v_pickF ?_);refine e_gdF1 ?_;refine e_gdF1 ?_;refine e_gdF1 ?_;refine t_ v_pickT ?_;refine e_gdF1 ?_;refine e_gdF1 ?_;refine e_gdF1 ?_;refine t_ v_pickT ?_;refine e_gdF1 ?_;refine e_gdF1 ?_;refine e_gdF1 ?_;refine t_ v_pickT ?_;refine e_gdDF1 ?_;refine e_gdDF1 ?_;refine e_gdF1 ?_;refine e_gdF1 ?_;refine e_gdF1 ?_;refine e_gdF1 ?_;refine e_gdF1 ?_;refine e_oblT ?_;refine e_oblT ?_;refine e_gdF1 ?_;refine t_ v_pickT ?_;refine e_condT ?_
  obtain⟨b1,b2⟩:=bad (fun c=>by unfold rOk at c;omega)
  rw[b1,b2]
  refine rt_ () ?_
  exact im_
 refine t_ v_pickF (e_gdT (t_ v_fa0 (e_gdT (ls_ ?_))));refine e_gdT (e_askS v_lss .nil (fun h3=>?_) (fun h3=>?_))
 ·(refine t_ v_pickF ?_);refine e_gdF1 ?_;refine e_gdF1 ?_;refine e_gdF1 ?_;refine t_ v_pickT ?_;refine e_gdF1 ?_;refine e_gdF1 ?_;refine e_gdF1 ?_;refine t_ v_pickT ?_;refine e_gdDF1 ?_;refine e_gdDF1 ?_;refine e_gdF1 ?_;refine e_gdF1 ?_;refine e_gdF1 ?_;refine e_gdF1 ?_;refine e_gdF1 ?_;refine e_oblT ?_;refine e_oblT ?_;refine e_gdF1 ?_;refine t_ v_pickT ?_;refine e_condT ?_
  obtain⟨b1,b2⟩:=bad (fun c=>by unfold rOk at c;omega)
  rw[b1,b2]
  refine rt_ () ?_
  exact im_
 refine t_ v_pickF (e_gdT (t_ v_fa0 (e_gdT (ls_ ?_))));refine e_gdT (e_askS v_gtr .nil (fun h4=>?_) (fun h4=>?_))
 ·(refine t_ v_pickF ?_);refine e_gdF1 ?_;refine e_gdF1 ?_;refine e_gdF1 ?_;refine t_ v_pickT ?_;refine e_gdDF1 ?_;refine e_gdDF1 ?_;refine e_gdF1 ?_;refine e_gdF1 ?_;refine e_gdF1 ?_;refine e_gdF1 ?_;refine e_gdF1 ?_;refine e_oblT ?_;refine e_oblT ?_;refine e_gdF1 ?_;refine t_ v_pickT ?_;refine e_condT ?_
  obtain⟨b1,b2⟩:=bad (fun c=>by unfold rOk at c;omega)
  rw[b1,b2]
  refine rt_ () ?_
  exact im_
 refine t_ v_pickF (e_gdT (t_ v_fa0 (e_gdT (ls_ ?_))));refine e_gdT (e_askS v_lss .nil (fun h5=>?_) (fun h5=>?_))
 ·(refine t_ v_pickF ?_);refine e_gdDF1 ?_;refine e_gdDF1 ?_;refine e_gdF1 ?_;refine e_gdF1 ?_;refine e_gdF1 ?_;refine e_gdF1 ?_;refine e_gdF1 ?_;refine e_oblT ?_;refine e_oblT ?_;refine e_gdF1 ?_;refine t_ v_pickT ?_;refine e_condT ?_
  obtain⟨b1,b2⟩:=bad (fun c=>by unfold rOk at c;omega)
  rw[b1,b2]
  refine rt_ () ?_
  exact im_
 refine t_ v_pickF (e_gdDT (e_stD v_fa0 .nil ?_));refine e_gdDT ?_;(((refine' e_stD (v_ldN ?hc) ?hi ?_);(case hi=>exact .pick (by repeat constructor) .nil);(case hc=>repeat constructor)));refine e_gdT (t_ v_fa0 (e_gdT (ls_ ?_)));refine e_gdT (t_ v_fa0 (e_gdT (ls_ ?_)));refine e_gdT (c_ (rdays (y:=x.y) (m:=x.m) (by omega)) fun _=>?_)
 refine ob_ ?_;refine ob_ ?_;refine e_gdT (e_askS v_gtr .nil (fun h6=>?_) (fun h6=>?_))
 ·(refine t_ v_pickF ?_);refine e_condT ?_
  obtain⟨b1,b2⟩:=bad (fun c=>by unfold rOk at c;omega)
  rw[b1,b2]
  refine rt_ () ?_
  exact im_
 refine t_ v_pickF (e_condF (o_ v_fa0 (ln_ ?_)))
 refine e_ask v_lss .nil (fun h7=>?_) (fun h7=>?_)
 ·(refine e_gdF1 ?_);refine e_gdF1 ?_;refine e_gdF1 ?_;refine o_ v_pickT ?_;refine e_gdF1 ?_;refine e_gdF1 ?_;refine e_gdF1 ?_;refine o_ v_pickT ?_;refine e_gdF1 ?_;refine e_gdF1 ?_;refine e_gdF1 ?_;refine o_ v_pickT ?_;refine e_gdF1 ?_;refine e_gdF1 ?_;refine e_gdF1 ?_;refine o_ v_pickT ?_;refine e_gdF1 ?_;refine e_gdF1 ?_;refine e_gdF1 ?_;refine o_ v_pickT ?_;refine e_condT ?_
  obtain⟨b1,b2⟩:=bad (fun c=>by unfold rOk at c;omega)
  rw[b1,b2]
  refine rt_ () ?_
  exact im_
 refine e_gdT (o_ v_fa0 (e_gdT (ln_ ?_)));refine e_gdT (e_ask v_gtr .nil (fun h8=>?_) (fun h8=>?_))
 ·(refine o_ v_pickF ?_);refine e_gdF1 ?_;refine e_gdF1 ?_;refine e_gdF1 ?_;refine o_ v_pickT ?_;refine e_gdF1 ?_;refine e_gdF1 ?_;refine e_gdF1 ?_;refine o_ v_pickT ?_;refine e_gdF1 ?_;refine e_gdF1 ?_;refine e_gdF1 ?_;refine o_ v_pickT ?_;refine e_gdF1 ?_;refine e_gdF1 ?_;refine e_gdF1 ?_;refine o_ v_pickT ?_;refine e_condT ?_
  obtain⟨b1,b2⟩:=bad (fun c=>by unfold rOk at c;omega)
  rw[b1,b2]
  refine rt_ () ?_
  exact im_
 refine o_ v_pickF (e_gdT (o_ v_fa0 (e_gdT (ln_ ?_))));refine e_gdT (e_ask v_lss .nil (fun h9=>?_) (fun h9=>?_))
 ·(refine o_ v_pickF ?_);refine e_gdF1 ?_;refine e_gdF1 ?_;refine e_gdF1 ?_;refine o_ v_pickT ?_;refine e_gdF1 ?_;refine e_gdF1 ?_;refine e_gdF1 ?_;refine o_ v_pickT ?_;refine e_gdF1 ?_;refine e_gdF1 ?_;refine e_gdF1 ?_;refine o_ v_pickT ?_;refine e_condT ?_
  obtain⟨b1,b2⟩:=bad (fun c=>by unfold rOk at c;omega)
  rw[b1,b2]
  refine rt_ () ?_
  exact im_
 refine o_ v_pickF (e_gdT (o_ v_fa0 (e_gdT (ln_ ?_))));refine e_gdT (e_ask v_gtr .nil (fun h10=>?_) (fun h10=>?_))
 ·(refine o_ v_pickF ?_);refine e_gdF1 ?_;refine e_gdF1 ?_;refine e_gdF1 ?_;refine o_ v_pickT ?_;refine e_gdF1 ?_;refine e_gdF1 ?_;refine e_gdF1 ?_;refine o_ v_pickT ?_;refine e_condT ?_
  obtain⟨b1,b2⟩:=bad (fun c=>by unfold rOk at c;omega)
  rw[b1,b2]
  refine rt_ () ?_
  exact im_
 refine o_ v_pickF (e_gdT (o_ v_fa0 (e_gdT (ln_ ?_))));refine e_gdT (e_ask v_lss .nil (fun h11=>?_) (fun h11=>?_))
 ·(refine o_ v_pickF ?_);refine e_gdF1 ?_;refine e_gdF1 ?_;refine e_gdF1 ?_;refine o_ v_pickT ?_;refine e_condT ?_
  obtain⟨b1,b2⟩:=bad (fun c=>by unfold rOk at c;omega)
  rw[b1,b2]
  refine rt_ () ?_
  exact im_
 refine o_ v_pickF (e_gdT (o_ v_fa0 (e_gdT (ln_ ?_))));refine e_gdT (e_ask v_gtr .nil (fun h12=>?_) (fun h12=>?_))
 ·(refine o_ v_pickF ?_);refine e_condT ?_
  obtain⟨b1,b2⟩:=bad (fun c=>by unfold rOk at c;omega)
  rw[b1,b2]
  refine rt_ () ?_
  exact im_
 refine o_ v_pickF (e_condF (o_ v_fa0 (ln_ ?_)))
 rename Nat=>b1
 have ok:rOk x:=by unfold rOk;omega
 have okf:=(rOk_iff x).2 ok
 rw[show jN x=dayN x.y x.m x.d * 86400+x.h * 3600+x.mi * 60+x.s from if_pos okf,show jE x=0 from if_pos okf]
 have hml:=ml_b x.y x.m
 have hb:=dayN_b (y:=x.y) (m:=x.m) (d:=x.d) (by omega) (by omega) (by omega)
 rw[day1]at hb ⊢
 have hj:=mon_le (y:=x.y) (m:=1) (M:=x.m) (by omega) (by omega) (by omega)
 have j70:dayN 1970 1 1=0:=by decide
 obtain⟨y,m,d,h,mi,s,w⟩:=x
 (try dsimp only at *)
 have hd2:1<=d/\d<=31:=by omega
 refine sb_ ?_
 refine e_loop2 (fun k y4 y5=>(ex fun z:Int=>all [pu (y4= .int .i64 (d-1+dayN z 1 1)/\y5= .int .i64 z/\1970<=z/\(k:Int)+z=y)])::pt b1 (.cells #[.int .i64 y,.int .i64 m,.int .i64 d,.int .i64 h,.int .i64 mi,.int .i64 s,.int .i64 w] 175)::F) (y-1970).toNat ?_ ?_
 ·refine .ex 1970 (.all ?_)
  refine nr_ ?_
  refine .pu ⟨by rw[j70,Int.add_zero],rfl,by omega,by omega⟩ ?_
  exact im_
 intro k ds y4 y5
 refine nr_ ?_
 refine e_ex Pick.here fun z=>e_all Pick.here ?_
 refine nr_ ?_
 refine e_pu Pick.here fun hi=>?_
 obtain⟨rfl,rfl,hz0,hkz⟩:=hi
 have hjs:=jan_step z
 have hjy:=jan_mono (a:=z) (b:=y) (by omega)
 have hj0:=jan_mono (a:=1970) (b:=z) (by omega)
 rw[j70]at hj0
 have hyr:365<=yrN z/\yrN z<=366:=by unfold yrN;split <;> omega
 refine o_ v_fa0 (ln_ ?_)
 refine e_ask v_lss .nil (fun hg=>?_) (fun hg=>?_)
 ·(refine e_condT ?_)
  refine c_ (year (y:=z) (by omega)) fun _=>?_
  refine ad_ ?_;refine ad_ ?_
  refine e_next2 (k-1) (by omega) (.ex (z+1) (.all ?_))
  refine nr_ ?_
  refine .pu ⟨by congr 1;omega,rfl,by omega,by omega⟩ ?_
  exact im_
 have hzy:z=y:=by omega
 subst hzy
 clear hkz hjs hg
 refine e_condF (e_loop2 (fun k y4 y6=>(ex fun q:Int=>all [pu (y4= .int .i64 (d-1+dayN z q 1)/\y6= .int .i64 q/\1<=q/\(k:Int)+q=m)])::pt b1 (.cells #[.int .i64 z,.int .i64 m,.int .i64 d,.int .i64 h,.int .i64 mi,.int .i64 s,.int .i64 w] 175)::F) (m-1).toNat ?_ ?_)
 ·refine .ex 1 (.all ?_)
  refine nr_ ?_
  refine .pu ⟨rfl,rfl,by omega,by omega⟩ ?_
  exact im_
 clear k
 intro k ds2 y4 y6
 refine nr_ ?_
 refine e_ex Pick.here fun q=>e_all Pick.here ?_
 refine nr_ ?_
 refine e_pu Pick.here fun hi=>?_
 obtain⟨rfl,rfl,hq0,hkq⟩:=hi
 have hqb:=ml_b z q
 have hqm:=mon_le (y:=z) (m:=q) (M:=m) hq0 (by omega) (by omega)
 have hq1:=mon_le (y:=z) (m:=1) (M:=q) (by omega) hq0 (by omega)
 have hz1:=jan_mono (a:=1970) (b:=z) hz0
 rw[j70]at hz1
 refine o_ v_fa0 (ln_ ?_)
 refine e_ask v_lss .nil (fun hg=>?_) (fun hg=>?_)
 ·have hms:=ml_step (y:=z) (m:=q) (by omega)
  refine e_condT (o_ v_fa0 (ln_ ?_))
  refine c_ (rdays (y:=z) (m:=q) (by omega)) fun _=>?_
  refine ad_ ?_;refine ad_ ?_
  refine e_next2 (k-1) (by omega) (.ex (q+1) (.all ?_))
  refine nr_ ?_
  refine .pu ⟨by congr 1;omega,rfl,by omega,by omega⟩ ?_
  exact im_
 have hqm2:q=m:=by omega
 subst hqm2
 refine e_condF ?_;(refine o_ (v_mul (by omega) (by omega)) ?_);refine o_ v_fa0 (ln_ ?_);(refine o_ (v_mul (by omega) (by omega)) ?_);refine ad_ ?_;refine o_ v_fa0 (ln_ ?_);(refine o_ (v_mul (by omega) (by omega)) ?_);refine ad_ ?_;refine o_ v_fa0 (ln_ ?_);refine ad_ ?_
 rw[show dayN z q 1+(d-1)=d-1+dayN z q 1 by omega]
 refine rt_ () ?_
 exact im_
theorem dgz (q:Nat)(p:Prop)[Decidable p]:(if q=0/\p then(48:UInt8)else UInt8.ofNat (48+q%10))=UInt8.ofNat (48+q%10):=by
 split
 ·rename_i h;rw[h.1];rfl
 ·rfl
theorem dg2 (n:Nat):dg n 2 48=[UInt8.ofNat (48+n / 10%10),UInt8.ofNat (48+n%10)]:=by
 have e:dg n 2 48=[dgAt n 2 48 0,dgAt n 2 48 1]:=rfl
 rw[e]
 unfold dgAt
 rw[dgz,dgz]
 simp
theorem dg22 (n:Nat):dg (n / 100) 2 48++dg n 2 48=dg n 4 48:=by
 rw[dg2,dg2,dg4]
 rw[show n / 100 / 10=n / 1000 by omega]
 rfl
theorem dg2m (n:Nat):dg (n%100) 2 48=dg n 2 48:=by
 rw[dg2,dg2,show n%100 / 10%10=n / 10%10 by omega,show n%100%10=n%10 by omega]
theorem dg2s:∀n:Fin 100,dg n.1 2 32=if n.1<10 then 32::(dg n.1 2 48).drop 1 else dg n.1 2 48:=by decide
theorem rtwo {W:World}{n:Int}(hn:0<=n/\n<=9223372036854775807):Cn p_ 170 [.int .i64 n] W [] (fun _:Unit=>txt (dg n.toNat 2 48)) (fun _=>[]):=by
 obtain⟨k,rfl⟩:=Int.eq_ofNat_of_zero_le hn.1
 have vB:∀q:Nat,Value.int .u8 (IntKind.u8.wrap (48+((q%10:Nat):Int)))=Sl.B (UInt8.ofNat (48+q%10)):=fun q=>by
  unfold Sl.B
  rw[u8_of _ (by omega),show(48:Int)+((q%10:Nat):Int)=((48+q%10:Nat):Int) by omega]
  congr 1
  simp only[IntKind.wrap,IntKind.bits,IntKind.signed]
  simp
  omega
 (refine S.ref09_two_s.cn fun F=>?_;unfold S.ref09_two;simp only[ca_,na_])
 (((refine o_ (v_quo ?h1 ?h2 ?h3) ?_);(case h1=>omega);(case h2=>omega);(case h3=>omega)));(((refine o_ (v_rem ?h1 ?h2) ?_);(case h1=>omega);(case h2=>omega)));refine ad_ ?_
 rw[show((k:Int) / 10%10)=((k / 10%10:Nat):Int) by omega]
 refine o_ v_conv ?_
 rw[vB]
 (((refine o_ (v_rem ?h1 ?h2) ?_);(case h1=>omega);(case h2=>omega)));refine ad_ ?_
 rw[show((k:Int)%10)=((k%10:Nat):Int) by omega]
 refine o_ v_conv ?_
 rw[vB]
 refine e_bslN (vs:=(dg k 2 48).map Sl.B) (by rw[dg2];rfl) (by rw[dg2];rfl) (by intro v hv;obtain⟨c,_,rfl⟩:=List.mem_map.1 hv;rfl) (by omega) fun g=>?_
 refine p_op (v_str (l:=dg k 2 48) (n:=2) (rd_pt (by rw[dg2];rfl)) (fun c=>by cases c)) ?_
 refine rt_ () ?_
 exact im_
theorem rclk {W:World}{x:Dt}(ok:okX x):Cn p_ 171 [.agg (dtA x)] W [] (fun _:Unit=>txt (clk x)) (fun _=>[]):=by
 obtain⟨o1,o2,o3,o4,o5,o6,o7⟩:=ok
 (refine S.ref09_clock_s.cn fun F=>?_;unfold S.ref09_clock;simp only[ca_,na_])
 rw[show(Value.agg (dtA x))= .agg #[.int .i64 x.y,.int .i64 x.m,.int .i64 x.d,.int .i64 x.h,.int .i64 x.mi,.int .i64 x.s,.int .i64 x.w]from rfl]
 refine e_boxA fun g=>?_;refine e_drS (t_ v_fa0 (ls_ ?_));refine e_stD v_fa0 .nil ?_;(((refine' e_stD (v_ldN ?hc) ?hi ?_);(case hi=>exact .pick (by repeat constructor) .nil);(case hc=>repeat constructor)));refine e_stD v_fa0 .nil ?_;(((refine' e_stD (v_ldN ?hc) ?hi ?_);(case hi=>exact .pick (by repeat constructor) .nil);(case hc=>repeat constructor)))
 refine c_ (rtwo (n:=x.h) (by omega)) fun _=>?_
 refine ob_ ?_;refine ob_ ?_;refine ob_ ?_;refine ob_ ?_
 refine e_stD (v_cat (by simp only[List.length_append,List.length_take,dg_len,clk_len,List.length_cons,List.length_nil];omega)) .nil ?_
 refine c_ (rtwo (n:=x.mi) (by omega)) fun _=>?_
 refine ob_ ?_;refine ob_ ?_;refine ob_ ?_
 refine e_stD (v_cat (by simp only[List.length_append,List.length_take,dg_len,clk_len,List.length_cons,List.length_nil];omega)) .nil ?_
 refine e_stD (v_cat (by simp only[List.length_append,List.length_take,dg_len,clk_len,List.length_cons,List.length_nil];omega)) .nil ?_
 refine c_ (rtwo (n:=x.s) (by omega)) fun _=>?_
 refine ob_ ?_;refine ob_ ?_;refine ob_ ?_
 refine t_ (v_cat (by simp only[List.length_append,List.length_take,dg_len,clk_len,List.length_cons,List.length_nil];omega)) ?_
 refine rt_ () ?_
 exact im_
def shL:List (List UInt8):=wdL.map fun w=>w.take 3
theorem sh_get {i:Nat}(h:i<7):(shL.map txt)[i]? =some (txt ((wdL.getD i []).take 3)):=by
 have:∀i:Fin 7,(shL.map txt)[i.1]? =some (txt ((wdL.getD i.1 []).take 3)):=by
  intro i
  have hl:i.1<wdL.length:=i.2
  simp[shL,List.getD_eq_getElem?_getD,hl]
 exact this ⟨i,h⟩
theorem l_get {l:List (List UInt8)}{i:Nat}(h:i<l.length):(l.map txt)[i]? =some (txt (l.getD i [])):=by
 simp[List.getD_eq_getElem?_getD,h]
theorem txt_cells {l:List (List UInt8)}:∀v∈l.map txt,v.cells= #[v]:=by
 intro v hv;obtain⟨c,_,rfl⟩:=List.mem_map.1 hv;rfl
theorem names {W:World}:Cn p_ 169 [] W [] (fun q:Nat × Nat × Nat × Nat=> .tuple #[.slice (some ⟨q.1,0,none⟩) 7 q.2.1,.slice (some ⟨q.2.2.1,0,none⟩) 7 7,.slice (some ⟨q.2.2.2,0,none⟩) 12 12])
  (fun q=>[Sl 1 9 (some ⟨q.1,0,none⟩) q.2.1 7 (shL.map txt),pt q.2.2.1 (.cells (wdL.map txt).toArray 9),pt q.2.2.2 (.cells (moL.map txt).toArray 9)]):=by
 (refine S.ref09_names_s.cn fun F=>?_;unfold S.ref09_names;simp only[ca_,na_])
 refine e_bslN (vs:=wdL.map txt) rfl rfl txt_cells (by omega) fun gl=>?_
 refine e_nil (s:=1) (e:=9) ?_
 refine e_loop2 (fun m y4 y5=>(ex fun st:Nat × Option Addr × Nat=>all [pu (m+st.1=7/\y4= .slice st.2.1 st.1 st.2.2/\y5= .int .i64 (st.1:Int)),Sl 1 9 st.2.1 st.2.2 st.1 ((shL.take st.1).map txt)])::pt gl (.cells (wdL.map txt).toArray 9)::F) 7 ?_ ?_
 ·refine .ex (0,none,0) (.all ?_)
  refine nr_ ?_
  refine .pu ⟨by omega,rfl,rfl⟩ ?_
  exact im_
 intro m ds y4 y5
 refine nr_ ?_
 refine e_ex Pick.here fun st=>e_all Pick.here ?_
 obtain⟨i,a,c⟩:=st
 refine nr_ ?_
 refine e_pu Pick.here fun hi=>?_
 (try dsimp only at hi)
 obtain⟨hmi,rfl,rfl⟩:=hi
 (try dsimp only)
 refine e_ask v_lss .nil (fun h=>?_) (fun h=>?_)
 ·(refine e_condT ?_)
  refine o_ (v_ia1 i (by rfl) (by omega)) ?_
  refine p_op (v_ldRd (j:=i) (rd_pt (n:=7) (by rfl)) (l_get (l:=wdL) (by show _<7;omega))) ?_
  have hl3:=(nm_len (l:=wdL) (by decide) (i:=i) (by show _<7;omega)).1
  refine o_ (v_ssh 3 (by rfl) hl3) ?_
  refine e_bsl1 fun g1=>?_
  refine e_app (m:=1) (news:=[txt ((wdL.getD i []).take 3)]) (by repeat constructor) (src_pt (e':=9) (by kernel_rfl) .here (by rfl) (by intro u hu;rw[List.mem_singleton.1 (show u∈[txt ((wdL.getD i []).take 3)]from hu)];rfl)) (by omega) (by omega) fun a1 c1=>?_
  refine ad_ ?_
  have hsn:(shL.take (i+1)).map txt=(shL.take i).map txt++[txt ((wdL.getD i []).take 3)]:=by
   have hlt:i<shL.length:=by show _<7;omega
   rw[List.take_succ_eq_append_getElem hlt,List.map_append]
   congr 1
   have:=sh_get (i:=i) (by omega)
   rw[List.getElem?_map,List.getElem?_eq_getElem hlt]at this
   simpa using this
  refine e_next2 (m-1) (by omega) (.ex (i+1,a1,c1) (.all ?_))
  refine nr_ ?_
  rw[hsn]
  refine .pu ⟨by omega,rfl,rfl⟩ ?_
  exact im_
 ·(refine e_condF ?_)
  have hi7:i=7:=by omega
  subst hi7
  rw[show shL.take 7=shL from rfl]
  refine e_bslN (vs:=moL.map txt) rfl rfl txt_cells (by omega) fun gm=>?_
  refine e_slsome (.there .here) (by omega) fun g hg=>?_
  subst hg
  refine e_ret (g,c,gl,gm) rfl ?_
  exact im_
def dgR (l:List UInt8)(a:Int)(k:Nat):Int:=if a<0\/(l.length:Int)<a+k then-1 else match numF 0 ((l.drop a.toNat).take k)with
 |none=> -1
 |some v=>(v:Int)
theorem rdigits {W:World}{l:List UInt8}{a z:Int}(k:Nat)(hz:z=(k:Int))(hk:k<=8)(ha: -4611686018427387904<=a/\a<=4611686018427387904):Cn p_ 120 [txt l,.int .i64 a,.int .i64 z] W [] (fun _:Unit=> .int .i64 (dgR l a k)) (fun _=>[]):=by
 subst hz
 have bad:(a<0\/(l.length:Int)<a+k)->dgR l a k= -1:=fun h=>if_pos h
 (refine S.ref09_digits_s.cn fun F=>?_;unfold S.ref09_digits;simp only[ca_,na_])
 refine e_ask v_lss .nil (fun h1=>?_) (fun h1=>?_)
 ·rw[bad (.inl h1)]
  refine e_gdF1 (e_gdF1 (e_gdF1 (e_gdF1 (e_gdF1 (e_gdF1 (o_ v_pickT (e_condT (rt_ () ?_))))))))
  exact im_
 refine e_gdT (e_gdT (e_gdT (ad_ ?_)));refine e_gdT (e_gdT (o_ v_lent (e_gdT (e_ask v_gtr .nil (fun h2=>?_) (fun h2=>?_)))))
 ·rw[bad (.inr h2)]
  refine o_ v_pickF (e_condT (rt_ () ?_))
  exact im_
 obtain⟨b,rfl⟩:=Int.eq_ofNat_of_zero_le (by omega:0<=a)
 have hd:dgR l (b:Int) k=match numF 0 ((l.drop b).take k)with
   |none=> -1
   |some v=>(v:Int):=if_neg (by omega)
 rw[hd]
 obtain⟨R,hR⟩:∃R,R=numF 0 ((l.drop b).take k):=⟨_,rfl⟩
 rw[<- hR]
 refine o_ v_pickF (e_condF (e_loop2 (fun m y7 y8=>(ex fun st:Nat × Nat=>pu (m+st.2=k/\y7= .int .i64 (st.1:Int)/\y8= .int .i64 ((b:Int)+st.2)/\st.1<10^st.2/\R=numF st.1 ((l.drop (b+st.2)).take (k-st.2))))::F) k ?_ ?_))
 ·refine .ex (0,0) (.pu ⟨by omega,rfl,by simp,by simp,hR⟩ ?_)
  exact im_
 intro m ds y7 y8
 refine nr_ ?_
 refine e_ex Pick.here fun st=>e_pu Pick.here fun hi=>?_
 obtain⟨acc,i⟩:=st
 (try dsimp only at hi)
 obtain⟨hmk,rfl,rfl,hacc,hnum⟩:=hi
 have hp8:10^i<=10^8:=Nat.pow_le_pow_right (by omega) (by omega)
 have hacc2:acc<100000000:=by omega
 refine ad_ ?_
 refine e_ask v_lss .nil (fun h=>?_) (fun h=>?_)
 ·have hil:b+i<l.length:=by omega
  obtain⟨q,hq⟩:∃q,k-i=q+1:=⟨k-i-1,by omega⟩
  rw[hq,List.drop_eq_getElem_cons hil,List.take_succ_cons,numF_c]at hnum
  refine e_condT ?_
  have ixs:RunV p_ W [] (sIx 9 (txt l) (.int .i64 ((b:Int)+i))) (.int .u8 (l[b+i].toNat:Int)):=v_ixS (b+i) (by omega) hil
  obtain⟨ch,hce⟩:∃ch,ch=l[b+i]:=⟨_,rfl⟩
  rw[<- hce]at ixs hnum
  have hch:=ch.toNat_lt
  refine o_ ixs ?_
  refine e_ask v_lss .nil (fun h5=>?_) (fun h5=>?_)
  ·rw[if_pos (.inl (by omega))]at hnum
   rw[hnum]
   refine e_gdF1 (e_gdF1 (e_gdF1 (e_gdF1 (o_ v_pickT (e_condT (rt_ () ?_))))))
   exact im_
  refine e_gdT (e_gdT (e_gdT (o_ ixs ?_)))
  refine e_gdT (e_ask v_gtr .nil (fun h6=>?_) (fun h6=>?_))
  ·rw[if_pos (.inr (by omega))]at hnum
   rw[hnum]
   refine o_ v_pickF (e_condT (rt_ () ?_))
   exact im_
  rw[if_neg (by omega)]at hnum
  refine o_ v_pickF (e_condF ?_);(refine o_ (v_mul (by omega) (by omega)) ?_)
  refine o_ ixs ?_
  refine o_ v_subw ?_
  rw[show(ch.toNat:Int)-48=((ch.toNat-48:Nat):Int) by omega,show IntKind.u8.wrap ((ch.toNat-48:Nat):Int)=((ch.toNat-48:Nat):Int) by simp only[IntKind.wrap,IntKind.bits,IntKind.signed];simp;omega]
  refine o_ v_conv ?_
  rw[w64 (by omega) (by omega)]
  refine ad_ ?_;refine ad_ ?_
  refine e_next2 (m-1) (by omega) (.ex (10 * acc+(ch.toNat-48),i+1) (.pu ⟨by omega,?_,?_,?_,?_⟩ ?_))
  ·congr 1
  ·congr 1
  ·simp only[Nat.pow_succ];omega
  ·rw[hnum,show k-(i+1)=q by omega];rfl
  ·exact im_
 ·have hik:i=k:=by omega
  rw[hik,Nat.sub_self,List.take_zero]at hnum
  rw[hnum,show numF acc []=some acc from rfl]
  refine e_condF (rt_ () ?_)
  exact im_
theorem v_sslh {P:Program}{W:World}{t:TypeId}{l:List UInt8}{q r:IntKind}{i j:Int}(a b:Nat)[ht:StrT P t](hi:i=(a:Int))(hj:j=(b:Int))(hab:a<=b)(hb:b<=l.length):RunV P W [] (sSl t (txt l) (some (.int q i)) (some (.int r j)) none) (txt ((l.drop a).take (b-a))):=fun w _=>by
 have e:(⟨l.toArray⟩:ByteArray).size=l.length:=rfl
 have e2:(⟨l.toArray⟩:ByteArray).extract a b=⟨((l.drop a).take (b-a)).toArray⟩:=by
  apply ByteArray.ext
  rw[ByteArray.data_extract]
  simp
 simp[sSl,Instr.sliceAt,Instr.slice,Instr.sliceBounds,run_underlying ht.ut,txt,e,run_sb b hj hb,run_sb a hi hab,e2]
def moR (l:List UInt8)(a:Nat):Int:=if a+3<=l.length then(match monV ((l.drop a).take 3)with
 |none=>0
 |some v=>v)else 0
theorem rmonth {W:World}{l:List UInt8}{a:Nat}(ha:a<=4611686018427387904):Cn p_ 144 [txt l,.int .i64 (a:Int)] W [] (fun _:Unit=> .int .i64 (moR l a)) (fun _=>[]):=by
 (refine S.ref09_month_s.cn fun F=>?_;unfold S.ref09_month;simp only[ca_,na_])
 refine c_ names fun _=>?_
 rename_i q
 obtain⟨gs,gc,gl,gm⟩:=q
 (try dsimp only)
 refine xt_ ?_;refine xt_ ?_;refine xt_ ?_
 refine e_loop1 (fun m y8=>(ex fun i:Nat=>pu (m+i=12/\y8= .int .i64 (i:Int)/\moR l a=if a+3<=l.length then(match mF ((l.drop a).take 3) i m with
  |none=>0
  |some v=>v)else 0))::pt gm (.cells (moL.map txt).toArray 9)::F) 12 ?_ ?_
 ·refine .ex 0 (.pu ⟨by omega,rfl,rfl⟩ ?_)
  exact im_
 intro m ds y8
 refine nr_ ?_
 refine e_ex Pick.here fun i=>e_pu Pick.here fun hi=>?_
 obtain⟨hmi,rfl,hmo⟩:=hi
 refine e_ask v_lss .nil (fun h=>?_) (fun h=>?_)
 ·obtain⟨m',rfl⟩:∃m',m=m'+1:=⟨m-1,by omega⟩
  unfold mF at hmo
  refine e_condT (e_drS ?_);(refine t_ (v_add (by omega) (by omega)) ?_)
  refine t_ v_lent (e_askS v_leq .nil (fun h3=>?_) (fun h3=>?_))
  ·rw[if_pos (by omega)]at hmo
   refine e_gdT (e_gdT (e_gdT (e_gdT ?_)));(refine t_ (v_add (by omega) (by omega)) ?_);refine e_gdT (t_ (v_sslh a (a+3) (by rfl) (by omega) (by omega) (by omega)) ?_)
   rw[show a+3-a=3 by omega]
   refine e_gdT (e_gdT (e_gdT (t_ (v_ia1 i (by rfl) (by omega)) ?_)))
   refine e_gdT (p_st (v_ldRd (v:=txt (moL.getD i [])) (j:=i) (rd_pt (n:=12) (by rfl)) (l_get (l:=moL) (by show _<12;omega))) ?_)
   refine e_gdT (e_askS v_streq .nil (fun hq=>?_) (fun hq=>?_))
   ·rw[if_pos hq.symm]at hmo
    refine t_ v_pickT (e_condT (ad_ ?_))
    rw[hmo]
    refine rt_ () ?_
    exact im_
   ·rw[if_neg (fun c=>hq c.symm)]at hmo
    refine t_ v_pickT (e_condF (ad_ ?_))
    refine e_next1 m' (by omega) (.ex (i+1) (.pu ⟨by omega,rfl,?_⟩ ?_))
    ·rw[if_pos (by omega)];exact hmo
    ·exact im_
  ·rw[if_neg (by omega)]at hmo
   refine e_gdF2 (e_gdF2 (e_gdF2 (e_gdF2 (e_gdF2 (e_gdF2 (e_gdF2 (e_gdF2 (e_gdF2 (e_gdF2 (t_ v_pickF (e_condF (ad_ ?_))))))))))))
   refine e_next1 m' (by omega) (.ex (i+1) (.pu ⟨by omega,rfl,?_⟩ ?_))
   ·rw[if_neg (by omega)];exact hmo
   ·exact im_
 ·have hm0:m=0:=by omega
  subst hm0
  have hz:moR l a=0:=by
   rw[hmo]
   split <;> rfl
  rw[hz]
  refine e_condF (rt_ () ?_)
  exact im_
theorem forms {W:World}{x:Dt}(ok:okX x):Cn p_ 143 [.agg (dtA x)] W [] (fun _:Unit=> .tuple #[txt (fm 0 x),txt (fm 1 x),txt (fm 2 x)]) (fun _=>[]):=by
 have okx:=ok
 obtain⟨o1,o2,o3,o4,o5,o6,o7⟩:=ok
 have hwl:3<=(wdN x).length/\(wdN x).length<=9:=nm_len (l:=wdL) (by decide) (by show _<7;omega)
 have hml:3<=(moN x).length/\(moN x).length<=9:=nm_len (l:=moL) (by decide) (by show _<12;omega)
 (refine S.ref09_Forms_s.cn fun F=>?_;unfold S.ref09_Forms;simp only[ca_,na_])
 rw[show(Value.agg (dtA x))= .agg #[.int .i64 x.y,.int .i64 x.m,.int .i64 x.d,.int .i64 x.h,.int .i64 x.mi,.int .i64 x.s,.int .i64 x.w]from rfl]
 refine e_boxA fun g=>?_
 rename Nat=>b1
 refine c_ names fun _=>?_
 rename_i q
 obtain⟨gs,gc,gl,gm⟩:=q
 (try dsimp only)
 refine xt_ ?_;refine xt_ ?_;refine xt_ ?_;refine o_ v_fa0 (ln_ ?_);refine sb_ ?_
 refine o_ (v_ia1 (x.m-1).toNat (by omega) (by omega)) ?_
 refine p_op (v_ldRd (v:=txt (moN x)) (j:=(x.m-1).toNat) (rd_pt (n:=12) (by rfl)) (l_get (l:=moL) (by show _<12;omega))) ?_
 refine o_ v_fa0 (ln_ ?_)
 refine c_ (rtwo (n:=x.d) (by omega)) fun _=>?_
 have hd2:=dg2s ⟨x.d.toNat,by omega⟩
 (try dsimp only at hd2)
 refine e_cut1 (fun z=>pu (z=txt (dg x.d.toNat 2 32))::Sl 1 9 (some ⟨gs,0,none⟩) gc 7 (shL.map txt)::pt gl (.cells (wdL.map txt).toArray 9)::pt gm (.cells (moL.map txt).toArray 9)::pt b1 (.cells #[.int .i64 x.y,.int .i64 x.m,.int .i64 x.d,.int .i64 x.h,.int .i64 x.mi,.int .i64 x.s,.int .i64 x.w] 175)::F) ?_ ?_
 rotate_left
 ·(refine o_ v_fa0 ?_);refine ln_ ?_
  refine e_ask v_lss .nil (fun h=>?_) (fun h=>?_)
  ·(refine e_condT ?_)
   refine o_ (v_ssl 1 (by rfl) (by rw[dg_len];omega)) ?_
   refine o_ (v_cat (a:=[32]) (by simp only[List.length_drop,dg_len,List.length_cons,List.length_nil];omega)) ?_
   refine e_sat (.pu ?_ ?_)
   ·rw[hd2,if_pos (by omega)];rfl
   ·exact im_
  ·(refine e_condF ?_)
   refine e_sat (.pu ?_ ?_)
   ·rw[hd2,if_neg (by omega)]
   ·exact im_
 clear hd2
 intro ds z
 refine nr_ ?_
 refine e_pu .here fun h=>?_
 subst h
 refine e_drS (t_ v_fa0 (ls_ ?_));(((refine t_ (v_quo ?h1 ?h2 ?h3) ?_);(case h1=>omega);(case h2=>omega);(case h3=>omega)));refine e_stD v_fa0 .nil ?_;(((refine' e_stD (v_ldN ?hc) ?hi ?_);(case hi=>exact .pick (by repeat constructor) .nil);(case hc=>repeat constructor)))
 refine c_ (rtwo (n:=x.y / 100) (by omega)) fun _=>?_
 refine ob_ ?_;refine ob_ ?_
 refine c_ (rtwo (n:=x.y) (by omega)) fun _=>?_
 refine t_ (v_cat (by simp only[List.length_append,List.length_take,dg_len,clk_len,List.length_cons,List.length_nil];omega)) ?_
 rw[show(x.y / 100).toNat=x.y.toNat / 100 by omega,dg22]
 refine e_drS (e_stD v_fa0 .nil ?_);(((refine' e_stD (v_ldN ?hc) ?hi ?_);(case hi=>exact .pick (by repeat constructor) .nil);(case hc=>repeat constructor)))
 refine e_stD (v_ia1 x.w.toNat (by omega) (by omega)) .nil ?_
 refine e_stD (v_ldSl (v:=txt ((wdN x).take 3)) (by rw[Nat.zero_add];exact sh_get (by omega))) (.pick (by repeat constructor) .nil) ?_
 refine e_stD (v_cat (by simp only[List.length_append,List.length_take,dg_len,clk_len,List.length_cons,List.length_nil];omega)) .nil ?_
 refine t_ v_fa0 (ls_ ?_);(((refine' e_stD (v_ldAgg ?hn) ?hi ?_);(case hi=>exact .pick (by repeat constructor) .nil);(case hn=>rfl)))
 refine c_ (rtwo (n:=x.d) (by omega)) fun _=>?_
 refine ob_ ?_;refine ob_ ?_;refine ob_ ?_;refine ob_ ?_;refine ob_ ?_;refine ob_ ?_
 refine e_stD (v_cat (by simp only[List.length_append,List.length_take,dg_len,clk_len,List.length_cons,List.length_nil];omega)) .nil ?_
 refine e_stD (v_cat (by simp only[List.length_append,List.length_take,dg_len,clk_len,List.length_cons,List.length_nil];omega)) .nil ?_
 refine e_stD (v_cat (by simp only[List.length_append,List.length_take,dg_len,clk_len,List.length_cons,List.length_nil];omega)) .nil ?_
 refine e_stD (v_cat (by simp only[List.length_append,List.length_take,dg_len,clk_len,List.length_cons,List.length_nil];omega)) .nil ?_
 refine e_stD (v_cat (by simp only[List.length_append,List.length_take,dg_len,clk_len,List.length_cons,List.length_nil];omega)) .nil ?_
 refine e_stD (v_cat (by simp only[List.length_append,List.length_take,dg_len,clk_len,List.length_cons,List.length_nil];omega)) .nil ?_
 refine c_ (rclk okx) fun _=>?_
 refine ob_ ?_;refine ob_ ?_;refine ob_ ?_;refine ob_ ?_;refine ob_ ?_;refine ob_ ?_;refine ob_ ?_;refine ob_ ?_;refine ob_ ?_;refine ob_ ?_;refine ob_ ?_
 refine t_ (v_cat (by simp only[List.length_append,List.length_take,dg_len,clk_len,List.length_cons,List.length_nil];omega)) ?_
 refine t_ (v_cat (by simp only[List.length_append,List.length_take,dg_len,clk_len,List.length_cons,List.length_nil];omega)) ?_
 refine e_drS (e_stD v_fa0 .nil ?_);(((refine' e_stD (v_ldN ?hc) ?hi ?_);(case hi=>exact .pick (by repeat constructor) .nil);(case hc=>repeat constructor)))
 refine e_stD (v_ia1 x.w.toNat (by omega) (by omega)) .nil ?_
 refine e_stD (v_ldRd (v:=txt (wdN x)) (j:=x.w.toNat) (rd_pt (n:=7) (by rfl)) (l_get (l:=wdL) (by show _<7;omega))) (.pick (by repeat constructor) .nil) ?_
 refine e_stD (v_cat (by simp only[List.length_append,List.length_take,dg_len,clk_len,List.length_cons,List.length_nil];omega)) .nil ?_
 refine t_ v_fa0 (ls_ ?_);refine e_stD v_fa0 .nil ?_;(((refine' e_stD (v_ldN ?hc) ?hi ?_);(case hi=>exact .pick (by repeat constructor) .nil);(case hc=>repeat constructor)));(((refine' e_stD (v_ldAgg ?hn) ?hi ?_);(case hi=>exact .pick (by repeat constructor) .nil);(case hn=>rfl)))
 refine c_ (rtwo (n:=x.d) (by omega)) fun _=>?_
 refine ob_ ?_;refine ob_ ?_;refine ob_ ?_;refine ob_ ?_;refine ob_ ?_;refine ob_ ?_;refine ob_ ?_;refine ob_ ?_
 refine e_stD (v_cat (by simp only[List.length_append,List.length_take,dg_len,clk_len,List.length_cons,List.length_nil];omega)) .nil ?_
 refine e_stD (v_cat (by simp only[List.length_append,List.length_take,dg_len,clk_len,List.length_cons,List.length_nil];omega)) .nil ?_
 refine e_stD (v_cat (by simp only[List.length_append,List.length_take,dg_len,clk_len,List.length_cons,List.length_nil];omega)) .nil ?_
 refine e_stD (v_cat (by simp only[List.length_append,List.length_take,dg_len,clk_len,List.length_cons,List.length_nil];omega)) .nil ?_
 refine c_ (rtwo (n:=x.y) (by omega)) fun _=>?_
 refine ob_ ?_;refine ob_ ?_;refine ob_ ?_;refine ob_ ?_;refine ob_ ?_;refine ob_ ?_;refine ob_ ?_;refine ob_ ?_;refine ob_ ?_;refine ob_ ?_
 refine e_stD (v_cat (by simp only[List.length_append,List.length_take,dg_len,clk_len,List.length_cons,List.length_nil];omega)) .nil ?_
 refine e_stD (v_cat (by simp only[List.length_append,List.length_take,dg_len,clk_len,List.length_cons,List.length_nil];omega)) .nil ?_
 refine c_ (rclk okx) fun _=>?_
 refine ob_ ?_;refine ob_ ?_;refine ob_ ?_;refine ob_ ?_;refine ob_ ?_;refine ob_ ?_;refine ob_ ?_;refine ob_ ?_;refine ob_ ?_;refine ob_ ?_;refine ob_ ?_
 refine t_ (v_cat (by simp only[List.length_append,List.length_take,dg_len,clk_len,List.length_cons,List.length_nil];omega)) ?_
 refine t_ (v_cat (by simp only[List.length_append,List.length_take,dg_len,clk_len,List.length_cons,List.length_nil];omega)) ?_
 refine e_drS (e_stD v_fa0 .nil ?_);(((refine' e_stD (v_ldN ?hc) ?hi ?_);(case hi=>exact .pick (by repeat constructor) .nil);(case hc=>repeat constructor)))
 refine e_stD (v_ia1 x.w.toNat (by omega) (by omega)) .nil ?_
 refine e_stD (v_ldSl (v:=txt ((wdN x).take 3)) (by rw[Nat.zero_add];exact sh_get (by omega))) (.pick (by repeat constructor) .nil) ?_
 refine e_stD (v_cat (by simp only[List.length_append,List.length_take,dg_len,clk_len,List.length_cons,List.length_nil];omega)) .nil ?_
 refine e_stD (v_cat (by simp only[List.length_append,List.length_take,dg_len,clk_len,List.length_cons,List.length_nil];omega)) .nil ?_
 refine e_stD (v_cat (by simp only[List.length_append,List.length_take,dg_len,clk_len,List.length_cons,List.length_nil];omega)) .nil ?_
 refine e_stD (v_cat (by simp only[List.length_append,List.length_take,dg_len,clk_len,List.length_cons,List.length_nil];omega)) .nil ?_
 refine e_stD (v_cat (by simp only[List.length_append,List.length_take,dg_len,clk_len,List.length_cons,List.length_nil];omega)) .nil ?_
 (((refine' e_stS (v_ldAgg ?hn) ?hi ?_);(case hi=>exact .pick (by repeat constructor) .nil);(case hn=>rfl)))
 refine c_ (rclk okx) fun _=>?_
 refine ob_ ?_;refine ob_ ?_;refine ob_ ?_;refine ob_ ?_;refine ob_ ?_;refine ob_ ?_;refine ob_ ?_;refine ob_ ?_;refine ob_ ?_
 refine t_ (v_cat (by simp only[List.length_append,List.length_take,dg_len,clk_len,List.length_cons,List.length_nil];omega)) ?_
 refine t_ (v_cat (by simp only[List.length_append,List.length_take,dg_len,clk_len,List.length_cons,List.length_nil];omega)) ?_
 refine t_ (v_cat (by simp only[List.length_append,List.length_take,dg_len,clk_len,List.length_cons,List.length_nil];omega)) ?_
 have e0:fm 0 x=(wdN x).take 3++[44,32]++dg x.d.toNat 2 48++[32]++moN x++[32]++dg x.y.toNat 4 48++[32]++clk x++[32,71,77,84]:=if_pos rfl
 have e1:fm 1 x=wdN x++[44,32]++dg x.d.toNat 2 48++[45]++moN x++[45]++dg x.y.toNat 2 48++[32]++clk x++[32,71,77,84]:=by
  have:fm 1 x=wdN x++[44,32]++dg x.d.toNat 2 48++[45]++moN x++[45]++dg (x.y%100).toNat 2 48++[32]++clk x++[32,71,77,84]:=by unfold fm;rw[if_neg (by decide),if_pos rfl]
  rw[this,show(x.y%100).toNat=x.y.toNat%100 by omega,dg2m]
 have e2:fm 2 x=(wdN x).take 3++[32]++moN x++[32]++dg x.d.toNat 2 32++[32]++clk x++[32]++dg x.y.toNat 4 48:=by unfold fm;rw[if_neg (by decide),if_neg (by decide)]
 rw[e0,e1,e2]
 refine rt_ () ?_
 exact im_
def ceN (two t:Int):Nat->Int
 |0=> -1
 |m+1=>if t%100=two then t else ceN two (t-1) m
def cyR (two now:Int):Int:=ceN two (topY now) (topY now-1969).toNat
theorem yN_low (now:Int):1970<=yN now:=by
 unfold yN
 by_cases h:okT now
 ·rw[if_pos h,sp_eq h]
  unfold okT at h
  exact cY_low (by omega)
 ·rw[if_neg h];decide
theorem rcentury {W:World}{two now:Int}:Cn p_ 121 [.int .i64 two,.int .i64 now] W [] (fun _:Unit=> .int .i64 (cyR two now)) (fun _=>[]):=by
 have hy:=yN_b now
 have hy2:=yN_low now
 (refine S.ref09_century_s.cn fun F=>?_;unfold S.ref09_century;simp only[ca_,na_])
 refine c_ (rsplit (n:=now)) fun _=>?_
 rw[show(Value.agg (dtA (spD now)))= .agg #[.int .i64 (spD now).y,.int .i64 (spD now).m,.int .i64 (spD now).d,.int .i64 (spD now).h,.int .i64 (spD now).mi,.int .i64 (spD now).s,.int .i64 (spD now).w]from rfl]
 refine xt_ ?_;refine xt_ ?_;refine e_newA fun g=>?_;refine sg_ ?_
 refine e_cut1 (fun z=>pu (z= .int .i64 (yN now))::F) ?_ ?_
 rotate_left
 ·refine e_ask v_eql .nil (fun h=>?_) (fun h=>?_)
  ·have ok:okT now:=Decidable.byContradiction fun c=>absurd (show spE now=11 from if_neg c) (by rw[h];decide)
   refine e_condT (o_ v_fa0 (ln_ ?_))
   refine e_sat (.pu ?_ ?_)
   ·unfold yN;rw[if_pos ok]
   ·exact im_
  ·have ok:¬okT now:=fun c=>h (if_pos c)
   refine e_condF (e_sat (.pu ?_ ?_))
   ·unfold yN;rw[if_neg ok]
   ·exact im_
 intro ds z
 refine nr_ ?_
 refine e_pu .here fun h=>?_
 subst h
 refine ad_ ?_
 refine o_ v_min ?_
 rw[show(if 9999<yN now+50 then 9999 else yN now+50)=topY now from rfl]
 have ht:1970<=topY now/\topY now<=9999:=by unfold topY;split <;> omega
 have hR:cyR two now=ceN two (topY now) (topY now-1969).toNat:=rfl
 generalize cyR two now=R at hR ⊢
 generalize topY now=t0 at ht hR ⊢
 refine e_loop1 (fun m y8=>(ex fun t:Int=>pu (y8= .int .i64 t/\(m:Int)=t-1969/\t<=9999/\R=ceN two t m))::F) (t0-1969).toNat ?_ ?_
 ·refine .ex t0 (.pu ⟨rfl,by omega,by omega,hR⟩ ?_)
  exact im_
 intro m ds2 y8
 refine nr_ ?_
 refine e_ex Pick.here fun t=>e_pu Pick.here fun hi=>?_
 obtain⟨rfl,hmt,ht9,hRt⟩:=hi
 refine e_ask v_geq .nil (fun h=>?_) (fun h=>?_)
 ·obtain⟨m',rfl⟩:∃m',m=m'+1:=⟨m-1,by omega⟩
  unfold ceN at hRt
  refine e_condT ?_;(((refine o_ (v_rem ?h1 ?h2) ?_);(case h1=>omega);(case h2=>omega)))
  refine e_ask v_eql .nil (fun h2=>?_) (fun h2=>?_)
  ·rw[if_pos h2]at hRt
   refine e_condT ?_
   rw[hRt]
   refine rt_ () ?_
   exact im_
  ·rw[if_neg h2]at hRt
   refine e_condF (sb_ ?_)
   refine e_next1 m' (by omega) (.ex (t-1) (.pu ⟨rfl,by omega,by omega,hRt⟩ ?_))
   exact im_
 ·have hm0:m=0:=by omega
  subst hm0
  rw[show R= -1 from hRt]
  refine e_condF (rt_ () ?_)
  exact im_
def rdR (l:List UInt8)(day:Int)(mon:Nat)(at_ year:Int):Dt:=⟨year,moR l mon,dgR l day 2,dgR l at_ 2,dgR l (at_+3) 2,dgR l (at_+6) 2,0⟩
theorem rread {W:World}{l:List UInt8}{day at_ year mo:Int}(mon:Nat)(hmo:mo=(mon:Int))(hm:mon<=4611686018427380000)(hd:0<=day/\day<=4611686018427380000)(ha:0<=at_/\at_<=4611686018427380000):Cn p_ 119 [txt l,.int .i64 day,.int .i64 mo,.int .i64 at_,.int .i64 year] W [] (fun _:Unit=> .agg (dtA (rdR l day mon at_ year))) (fun _=>[]):=by
 subst hmo
 (refine S.ref09_read_s.cn fun F=>?_;unfold S.ref09_read;simp only[ca_,na_])
 refine e_newA fun g=>?_
 refine c_ (rmonth (a:=mon) (by omega)) fun _=>?_
 refine c_ (rdigits (a:=day) 2 (by rfl) (by omega) (by omega)) fun _=>?_
 refine c_ (rdigits (a:=at_) 2 (by rfl) (by omega) (by omega)) fun _=>?_
 refine ad_ ?_
 refine c_ (rdigits (a:=at_+3) 2 (by rfl) (by omega) (by omega)) fun _=>?_
 refine ad_ ?_
 refine c_ (rdigits (a:=at_+6) 2 (by rfl) (by omega) (by omega)) fun _=>?_
 refine o_ v_rv ?_;refine sg_ ?_;(((refine' e_stS (v_resA ?hn) ?hi ?_);(case hi=>exact im_);(case hn=>rfl)))
 refine rt_ () ?_
 exact im_
def smR (f:Int)(l:List UInt8)(x:Dt):Option Int:=if okF x/\fm (f-1) (spD (jN x))=l then some (jN x)else none
def oE (o:Option Int):Int:=if o.isSome then 0 else 41
theorem rsame {W:World}{l:List UInt8}{x:Dt}{f:Int}(hf:f=1\/f=2\/f=3):Cn p_ 118 [txt l,.agg (dtA x),.int .i64 f] W [] (fun _:Unit=> .tuple #[.int .i64 ((smR f l x).getD 0),.int .i64 (oE (smR f l x))]) (fun _=>[]):=by
 have hsm:smR f l x=if okF x/\fm (f-1) (spD (jN x))=l then some (jN x)else none:=rfl
 (refine S.ref09_same_s.cn fun F=>?_;unfold S.ref09_same;simp only[ca_,na_])
 rw[show(Value.agg (dtA x))= .agg #[.int .i64 x.y,.int .i64 x.m,.int .i64 x.d,.int .i64 x.h,.int .i64 x.mi,.int .i64 x.s,.int .i64 x.w]from rfl]
 refine e_boxA fun g=>?_;refine lg_ ?_
 refine c_ (rjoin (x:=x)) fun _=>?_
 refine xt_ ?_;refine xt_ ?_
 refine e_ask v_neq .nil (fun h=>?_) (fun h=>?_)
 ·have nok:¬okF x:=fun c=>h (if_pos c)
  rw[show smR f l x=none by rw[hsm];exact if_neg fun c=>nok c.1]
  refine e_condT (rt_ () ?_)
  exact im_
 have ok:okF x:=Decidable.byContradiction fun c=>h (by rw[show jE x=41 from if_neg c];decide)
 refine e_condF (c_ (rsplit (n:=jN x)) fun _=>?_)
 rw[show(Value.agg (dtA (spD (jN x))))= .agg #[.int .i64 (spD (jN x)).y,.int .i64 (spD (jN x)).m,.int .i64 (spD (jN x)).d,.int .i64 (spD (jN x)).h,.int .i64 (spD (jN x)).mi,.int .i64 (spD (jN x)).s,.int .i64 (spD (jN x)).w]from rfl]
 refine xt_ ?_;refine xt_ ?_;refine sg_ ?_;refine lg_ ?_
 refine c_ (forms (x:=spD (jN x)) (ok_sp (jN_ok ok))) fun _=>?_
 refine xt_ ?_;refine xt_ ?_;refine xt_ ?_
 rcases hf with rfl|rfl|rfl
 ·refine o_ v_eql ?_
  rw[dT_ (by decide)]
  refine e_gdT (e_gdT (e_gdT (e_ask v_strne .nil (fun h5=>?_) (fun h5=>?_))))
  ·rw[show smR 1 l x=none by rw[hsm];exact if_neg fun c=>h5 (by rw[<- c.2];rfl)]
   refine o_ v_pickT (e_gdF1 (e_gdF1 (e_gdF1 (e_gdU (e_gdU (e_gdU (e_gdF1 (o_ v_pickT (e_gdF1 (e_gdF1 (e_gdF1 (e_gdU (e_gdU (e_gdU (e_gdF1 (o_ v_pickT (e_condT (rt_ () ?_))))))))))))))))))
   exact im_
  rw[show smR 1 l x=some (jN x) by rw[hsm];exact if_pos ⟨ok,(Decidable.not_not.1 h5).symm⟩]
  refine o_ v_pickT (e_gdT (e_gdT (o_ v_eql ?_)))
  rw[dF_ (by decide)]
  refine e_gdT (e_gdF2 (e_gdF2 (e_gdF2 (e_gdT (o_ v_pickF (o_ v_pickF (e_gdT (e_gdT (o_ v_eql ?_)))))))))
  rw[dF_ (by decide)]
  refine e_gdT (e_gdF2 (e_gdF2 (e_gdF2 (e_gdT (o_ v_pickF (o_ v_pickF (e_condF (rt_ () ?_))))))))
  exact im_
 ·refine o_ v_eql ?_
  rw[dF_ (by decide)]
  refine e_gdF2 (e_gdF2 (e_gdF2 (o_ v_pickF (e_gdT (e_gdT (o_ v_eql ?_))))))
  rw[dT_ (by decide)]
  refine e_gdT (e_gdT (e_gdT (e_gdT (e_ask v_strne .nil (fun h5=>?_) (fun h5=>?_)))))
  ·rw[show smR 2 l x=none by rw[hsm];exact if_neg fun c=>h5 (by rw[<- c.2];rfl)]
   refine e_gdT (o_ v_pickT (o_ v_pickF (e_gdF1 (e_gdF1 (e_gdF1 (e_gdU (e_gdU (e_gdU (e_gdF1 (o_ v_pickT (e_condT (rt_ () ?_))))))))))))
   exact im_
  rw[show smR 2 l x=some (jN x) by rw[hsm];exact if_pos ⟨ok,(Decidable.not_not.1 h5).symm⟩]
  refine e_gdT (o_ v_pickT (o_ v_pickF (e_gdT (e_gdT (o_ v_eql ?_)))))
  rw[dF_ (by decide)]
  refine e_gdT (e_gdF2 (e_gdF2 (e_gdF2 (e_gdT (o_ v_pickF (o_ v_pickF (e_condF (rt_ () ?_))))))))
  exact im_
 ·refine o_ v_eql ?_
  rw[dF_ (by decide)]
  refine e_gdF2 (e_gdF2 (e_gdF2 (o_ v_pickF (e_gdT (e_gdT (o_ v_eql ?_))))))
  rw[dF_ (by decide)]
  refine e_gdT (e_gdF2 (e_gdF2 (e_gdF2 (e_gdT (o_ v_pickF (o_ v_pickF (e_gdT (e_gdT (o_ v_eql ?_)))))))))
  rw[dT_ (by decide)]
  refine e_gdT (e_gdT (e_gdT (e_gdT (e_ask v_strne .nil (fun h5=>?_) (fun h5=>?_)))))
  ·rw[show smR 3 l x=none by rw[hsm];exact if_neg fun c=>h5 (by rw[<- c.2];rfl)]
   refine e_gdT (o_ v_pickT (o_ v_pickF (e_condT (rt_ () ?_))))
   exact im_
  rw[show smR 3 l x=some (jN x) by rw[hsm];exact if_pos ⟨ok,(Decidable.not_not.1 h5).symm⟩]
  refine e_gdT (o_ v_pickT (o_ v_pickF (e_condF (rt_ () ?_))))
  exact im_
end Go.Proofs.YthomhkpedghhgaaGreatDoor.D
