/- Members, one behind the other, taken apart; what is given up is told. No conditions but those that each names. (14 texts made one; each says below what it is.) -/
import Derived.Test.YtndojgomlkpeaaaGreatDoorK6
import Derived.KernelRfl
import Derived.Test.YtndojgomlkpeaaaGreatDoorRows
import Derived.Deep.DeepHandedRow
import Derived.LaidMore
import Derived.Lay
import Derived.MakeChecks
set_option linter.unusedVariables false
set_option linter.unusedSimpArgs false
set_option linter.unusedSectionVars false
set_option maxRecDepth 9999
namespace Go.Proofs.YtndojgomlkpeaaaGreatDoor.GZ
open Go Go.Proofs Go.RowKit Sh Sl T IF B M
theorem un_unpack {W:World}{a:Option Addr}{cap:Nat}{b:List UInt8}{A:HP}{most:Int}{R:Except Int (List UInt8 × Nat)}(hr:RdB W A a b.length (b.map Sl.B))(hc:b.length<=cap)(hb:b.length<=1048576)(hm0:0<=most)(hm1:most<=1048576)(hU:Ur most b [] 0 R):
  Cn p_ 46 [.slice a b.length cap,.int .i64 most] W [A]
   (fun q:Option Addr × Nat=> .tuple #[.slice q.1 (rO R).length q.2,.int .i64 (rN R),.int .i64 (rE R)])
   (fun q=>[Sl 1 5 q.1 q.2 (rO R).length ((rO R).map Sl.B),A]):=by
 (refine S.gzip_unpack_s.cn fun F=>?_;unfold S.gzip_unpack;simp only[ca_,na_])
 refine e_new1 fun g4=>?_
 refine e_new1 fun g5=>?_
 refine e_new1 fun g6=>?_
 have bad:∀(e:Int) (L:List HP) (v:Value) (n:Int),R= .error e->Imp W L ([pt g4 (.cells #[v] 23),pt g5 (.cells #[.int .i64 n] 3),pt g6 (.cells #[.int .i64 0] 27),A]++F)->Ent W L (KpD p_ {target:= .fn (.func 65) ([.pointer (some ⟨g4,0,none⟩),.pointer (some ⟨g5,0,none⟩),.pointer (some ⟨g6,0,none⟩)]:List Value).toArray,args:=([]:List Value).toArray} (S.gzip_unpack_ret (.pointer (some ⟨g4,0,none⟩)) (.pointer (some ⟨g5,0,none⟩)) (.pointer (some ⟨g6,0,none⟩)) (fun v w=>∃q:Option Addr × Nat,v= .tuple #[.slice q.1 (rO R).length q.2,.int .i64 (rN R),.int .i64 (rE R)]/\sat W ([Sl 1 5 q.1 q.2 (rO R).length ((rO R).map Sl.B),A]++F) w)) noP (pn e)):=by
  intro e L v n he hi
  subst he
  refine e_imp hi ?_
  refine nr_ ?_
  refine ufails ?_
  refine e_nil (s:=1) (e:=5) ?_
  refine e_ret (none,0) rfl ?_
  exact im_
 refine e_cut1d ?_
 refine o_ v_lss ?_
 rw[dF_ (by omega)]
 refine e_condF (o_ v_gtr ?_)
 rw[dF_ (by omega)]
 refine e_allds fun ds=>?_
 refine e_condF (o_ v_len (o_ v_gtr ?_))
 rw[dF_ (by omega)]
 refine e_condF (o_ v_mkF (e_opDf ?_))
 simp only[List.nil_append,Array.append_empty,List.append_toArray]
 refine o_ v_rv ?_
 refine e_boxA fun g=>?_
 refine e_uc (A:=A) (l:=b) .here hr hc ?_
 refine e_nil (s:=1) (e:=5) ?_
 refine e_loop0 (fun m=>[ex fun st:((Option Addr × Nat) × Nat) × (List UInt8 × List UInt8)=>all [pu (Ur most st.2.1 st.2.2 st.1.2 R/\m=st.2.1.length/\st.1.2+st.2.1.length<=1048576/\(st.2.2.length:Int)<=most),IsU W A g st.2.1,Sl 1 5 st.1.1.1 st.1.1.2 st.2.2.length (st.2.2.map Sl.B),pt g4 (.cells #[.slice st.1.1.1 st.2.2.length st.1.1.2] 23),pt g5 (.cells #[.int .i64 (st.1.2:Int)] 3),pt g6 (.cells #[.int .i64 0] 27),A]]++F) b.length ?_ ?_
 ·refine .ex (((none,0),0),(b,[])) (.all ?_)
  refine nr_ ?_
  refine .pu ⟨hU,rfl,by(try dsimp only);omega,hm0⟩ ?_
  exact im_
 clear hU hr hc hb
 intro m ds
 refine nr_ ?_
 refine e_ex .here fun st=>e_all .here ?_
 obtain⟨⟨⟨oa,oc⟩,n⟩,⟨l,out⟩⟩:=st
 refine nr_ ?_
 refine e_pu .here fun hi=>?_
 (try dsimp only at hi)
 obtain⟨hU,hml,hn,ho⟩:=hi
 (try dsimp only)
 rcases hU.head with ⟨rfl,hn0,hR⟩|⟨k,u,x,t,rfl,hM,hT⟩
 ·subst hR
  refine ln_ ?_
  refine o_ v_eql ?_
  rw[dF_ (by omega)]
  refine e_uo (A:=A) (p:=g) (l:=[]) (by repeat constructor) fun qa qc hr hc=>?_
  refine e_gdT (e_gdT (o_ v_nil (e_gdT (o_ v_fa0 (e_gdT (ln_ ?_))))));refine e_gdT (o_ v_len (e_gdT (o_ v_gtr ?_)))
  rw[dF_ (by decide)]
  refine o_ v_pickF (e_condF (e_drS (ls_ ?_)));(((refine' e_stD (v_ldN ?hc) ?hi ?_);(case hi=>exact .pick (by repeat constructor) .nil);(case hc=>repeat constructor)));refine sn_ ?_;refine ob_ ?_;refine sn_ ?_;refine sn_ ?_
  refine e_dfS (f:=65) (A:=[.pointer (some ⟨g4,0,none⟩),.pointer (some ⟨g5,0,none⟩),.pointer (some ⟨g6,0,none⟩)]) (shape:=fun rv=>S.gzip_unpack_1 (.pointer (some ⟨g4,0,none⟩)) (.pointer (some ⟨g5,0,none⟩)) (.pointer (some ⟨g6,0,none⟩)) rv) (fun c=>by cases c) ⟨_,_,rfl⟩ (inv_closure (cs:=[.pointer (some ⟨g4,0,none⟩),.pointer (some ⟨g5,0,none⟩),.pointer (some ⟨g6,0,none⟩)]) (bs:=[]) Tryz.call65) (fun h=>S.gzip_unpack_1_d h) ?_
  unfold S.gzip_unpack_1
  rw[rec_ret,lv_ret]
  refine o_ (v_neIf0 (by kernel_rfl)) ?_
  refine e_condF ?_
  unfold S.gzip_unpack_ret
  (((refine' e_stS (v_res1 ?hc) ?hi ?_);(case hi=>exact im_);(case hc=>repeat constructor)));(((refine' e_stS (v_res1 ?hc) ?hi ?_);(case hi=>exact im_);(case hc=>repeat constructor)));(((refine' e_stS (v_res1 ?hc) ?hi ?_);(case hi=>exact im_);(case hc=>repeat constructor)))
  refine e_ret (oa,oc) rfl ?_
  exact im_
 refine e_uo (A:=A) (p:=g) (by repeat constructor) fun qa qc hr hc=>?_
 have d1:n=0->decide ((n:Int)=0)=true:=fun h=>dT_ (by omega)
 have d2:n≠0->decide ((n:Int)=0)=false:=fun h=>dF_ (by omega)
 have d3:decide ((0:Int)<((gzH k++x).length:Int))=true:=dT_ (by rw[List.length_append,gzH_len];omega)
 refine' both_ ?_ ?_
 rotate_left
 ·intro main
  by_cases h0:n=0
  ·refine ln_ ?_
   refine o_ v_eql ?_
   rw[d1 h0]
   exact e_gdF1 (e_gdF1 (e_gdF1 (e_gdF1 (e_gdF1 (e_gdF1 (o_ v_pickT (e_condT main)))))))
  ·refine ln_ ?_
   refine o_ v_eql ?_
   rw[d2 h0]
   refine e_gdT (e_gdT (o_ v_nil (e_gdT (o_ v_fa0 (e_gdT (ln_ ?_))))));refine e_gdT (o_ v_len (e_gdT (o_ v_gtr ?_)))
   rw[d3]
   exact o_ v_pickF (e_condT main)
 have hxl:(gzH k++x).length=10+x.length:=by rw[List.length_append,gzH_len]
 rw[hxl]at hn
 refine e_uc (A:=A) (l:=gzH k++x) (by repeat constructor) hr hc ?_
 (refine' e_callP (uhead) ?hp (fun _=>?_) (fun _=>?_);(case hp=>(repeat(first|exact Picks.nil|(apply Picks.cons;(focus repeat constructor)))));(all_goals (try simp only[ca_,na_,Bool.not_true,Bool.not_false,-eq_self])))
 rotate_left
 ·rename_i y
  exact y.2.elim
 refine e_uo (A:=A) (p:=g) .here fun qa qc hr hc=>?_
 refine e_drS (t_ v_nil (t_ v_fa0 (ls_ ?_)));refine ls_ ?_;refine t_ v_len ?_;(refine t_ (v_sub (by omega) (by omega)) ?_)
 refine c_ (inflate hr (fun c=>by by_cases h0:0<x.length;(obtain⟨_,_,h1,_⟩:=hr.at_ h0;rw[h1]at c;cases c);omega) (by omega)) fun _=>?_
 rename_i q
 obtain⟨ia,ic⟩:=q
 rw[hM.e,hM.o,hM.n]
 (try dsimp only)
 refine t_ (v_ext (v:= .slice ia t.length ic) rfl) ?_
 refine t_ (v_ext (v:= .int .i64 (u:Int)) rfl) ?_
 refine t_ (v_ext (v:= .int .i64 0) rfl) ?_
 refine e_cut0d ?_
 refine o_ v_neq ?_
 rw[dF_ (by decide)]
 refine e_condF (e_allds fun ds2=>?_)
 refine e_uc (A:=A) (l:=x) (by repeat constructor) hr hc ?_
 have hu:=hM.le
 have hsz:=hM.sz
 (refine' e_callP (utake (A:=A) (n:=u) (l:=x)) ?hp (fun _=>?_) (fun _=>?_);(case hp=>(repeat(first|exact Picks.nil|(apply Picks.cons;(focus repeat constructor)))));(all_goals (try simp only[ca_,na_,Bool.not_true,Bool.not_false,-eq_self])))
 rotate_left
 ·rename_i y
  exact absurd y.2 (by omega)
 (refine' e_callP (utake (A:=A) (n:=8) (l:=x.drop u)) ?hp (fun _=>?_) (fun _=>?_);(case hp=>(repeat(first|exact Picks.nil|(apply Picks.cons;(focus repeat constructor)))));(all_goals (try simp only[ca_,na_,Bool.not_true,Bool.not_false,-eq_self])))
 rotate_left
 ·rename_i y
  rcases hT with ⟨hs,hR⟩|⟨hs,_⟩|⟨hs,_⟩
  ·exact bad _ _ _ _ hR im_
  ·exact absurd y.2 (by omega)
  ·exact absurd y.2 (by omega)
 rename_i q8
 obtain⟨⟨ta,tc⟩,h8,hr8,hc8⟩:=q8
 (try dsimp only)
 (try dsimp only at h8 hr8 hc8)
 have htl:t.length<=1048576:=by omega
 refine e_slfacts (by repeat constructor) fun _ _ _ hsome=>?_
 have ht:=rd_sl (W:=W) (e:=5) (a:=ia) (cap:=ic) (n:=t.length) (cs:=t.map Sl.B) (by rw[List.length_map]) hsome
 refine c_ (crc_ (b:=t) ht (by omega)) fun _=>?_
 refine e_nil (s:=1) (e:=5) ?_
 refine c_ (four_ (n:=crc t) (a:=none) (c:=0) (b:=[]) (crc_lt t) (by decide)) fun _=>?_
 rename_i qf
 obtain⟨fa,fc⟩:=qf
 (try dsimp only)
 refine o_ v_len (o_ (v_conv (q:= .u32)) ?_)
 rw[wrapu32 (by omega)]
 refine c_ (four_ (n:=t.length) (b:=GZ.four (crc t)) (by omega) (by simp[GZ.four])) fun _=>?_
 rename_i qg
 obtain⟨ga,gc⟩:=qg
 rw[show GZ.four (crc t)++GZ.four t.length=gzT t by unfold gzT;rw[Nat.mod_eq_of_lt (by omega)]]
 refine e_slfacts .here fun _ _ _ hsg=>?_
 have h88:((x.drop u).take 8).length=8:=by rw[List.length_take];omega
 rw[show(Value.slice ta 8 tc)=Value.slice ta ((x.drop u).take 8).length tc by rw[h88]]
 have hr8':RdB W A ta ((x.drop u).take 8).length (((x.drop u).take 8).map Sl.B):=by rw[h88];exact hr8
 refine c_ (bytesEq (x:=(x.drop u).take 8) (y:=gzT t) (A:=A) hr8' (fun c=>by obtain⟨_,_,h1,_⟩:=hr8.at_ (by decide);rw[h1]at c;cases c) (rd_sl (e:=5) (a:=ga) (cap:=gc) (by rw[List.length_map]) hsg) (fun c=>by obtain⟨_,h1⟩:=hsg (by simp[gzT,GZ.four]);rw[h1]at c;cases c)) fun _=>?_
 (refine' e_callP (udemand) ?hp (fun _=>?_) (fun _=>?_);(case hp=>(repeat(first|exact Picks.nil|(apply Picks.cons;(focus repeat constructor)))));(all_goals (try simp only[ca_,na_,Bool.not_true,Bool.not_false,-eq_self])))
 rotate_left
 ·rename_i y
  have hy:=of_decide_eq_false y.2
  rcases hT with ⟨hs,hR⟩|⟨hs,_,hR⟩|⟨hs,he,_⟩
  ·exact absurd h8 (by omega)
  ·exact bad _ _ _ _ hR im_
  ·exact absurd he hy
 rename_i y
 have hy:=of_decide_eq_true y.2
 have hT:Ur most ((x.drop u).drop 8) (out++t) (n+1) R:=by
  rcases hT with ⟨hs,hR⟩|⟨hs,hw,hR⟩|⟨hs,he,hT⟩
  ·exact absurd h8 (by omega)
  ·exact absurd hy hw
  ·exact hT
 refine ln_ ?_
 refine e_app (m:=t.length) (news:=t.map Sl.B) (by(repeat constructor):Pick _ (Sl 1 5 oa oc out.length (out.map Sl.B)) _) (src_sl (e':=5) (by kernel_rfl) (by(repeat constructor):Pick _ (Sl 1 5 ia ic t.length (t.map Sl.B)) _) B_one) (by omega) (by omega) fun a' c'=>?_
 refine sn_ ?_;refine ln_ ?_;refine ad_ ?_;refine sn_ ?_
 refine e_next0 ((x.drop u).drop 8).length (by rw[hml,hxl,List.length_drop,List.length_drop];omega) (.ex (((a',c'),n+1),((x.drop u).drop 8,out++t)) (.all ?_))
 refine nr_ ?_
 refine .pu ⟨hT,rfl,by(try dsimp only);rw[List.length_drop,List.length_drop];omega,by rw[List.length_append];exact hsz⟩ ?_
 rw[List.length_append,List.map_append]
 exact im_
theorem unpack_ {W:World}{a:Option Addr}{cap:Nat}{b:List UInt8}{A:HP}{most:Int}{R:Except Int (List UInt8 × Nat)}(hr:RdB W A a b.length (b.map Sl.B))(hc:b.length<=cap)(hb:b.length<=1048576)(hm0:0<=most)(hm1:most<=1048576)(hU:Ur most b [] 0 R):
  Cn p_ 23 [.slice a b.length cap,.int .i64 most] W [A] (fun q:Option Addr × Nat=> .tuple #[.slice q.1 (rO R).length q.2,.int .i64 (rE R)]) (fun q=>[Sl 1 5 q.1 q.2 (rO R).length ((rO R).map Sl.B),A]):=by
 (refine Shp.cn (Sg.g_ Tryz.call23 Tryz.func23) fun F=>?_;simp only[ca_,na_])
 refine c_ (un_unpack hr hc hb hm0 hm1 hU) fun _=>?_
 rename_i q
 obtain⟨qa,qc⟩:=q
 (try dsimp only)
 refine o_ (v_ext (v:= .slice qa (rO R).length qc) rfl) ?_
 refine o_ (v_ext (v:= .int .i64 (rN R)) rfl) ?_
 refine o_ (v_ext (v:= .int .i64 (rE R)) rfl) ?_
 refine rt_ ((qa,qc)) ?_
 exact im_
theorem gzT_len (b:List UInt8):(gzT b).length=8:=rfl
theorem dflB_le {b:List UInt8}{level:Int}(hE:dflE b level=0):(dflB b level).length<=b.length+400/\b.length<=524288:=by
 obtain⟨h0,_,h1⟩:=dflE_0 hE
 have:=dflX_len (b:=b) h0
 rw[dflB_len hE]
 omega
end Go.Proofs.YtndojgomlkpeaaaGreatDoor.GZ
namespace Go.Proofs.YtndojgomlkpeaaaGreatDoor.FD
open Go Go.Proofs Go.RowKit Sh Sl T IF GZ
def idV (V:List (List UInt8))(D:List UInt8)(most:Int)(U:Except Int (List UInt8 × Nat)):List UInt8 × Int:=
 match V with
 |[]=>if most<(D.length:Int)then([],6)else(D,0)
 |[v]=>if eqlF v kGz then(rO U,rE U)else([],46)
 |_::_::_=>([],46)
def idR (V:List (List UInt8))(D:List UInt8)(most:Int)(U:Except Int (List UInt8 × Nat)):List UInt8 × Int:=
 if most<0\/1048576<most then([],1)else if 1048576<(D.length:Int)then([],6)else idV V D most U
theorem identity {W:World} {st most:Int} {Y:List Fd} {D:List UInt8} {ax ad:Option Addr} {cx cd:Nat} {AX AD:HP} {U:Except Int (List UInt8 × Nat)} (hA:RdF W AX ax Y) (hY:zF Y<=2097152) (hB:RdB W AD ad D.length (D.map Sl.B)) (hb:ad=none->D.length=0) (hD:D.length<=1099511627776)
  (hU:∀v,valsF Y kCE=[v]->eqlF v kGz=true->0<=most->most<=1048576->D.length<=1048576->Cn p_ 23 [.slice ad D.length cd,.int .i64 most] W [AD] (fun q:Option Addr × Nat=> .tuple #[.slice q.1 (rO U).length q.2,.int .i64 (rE U)]) (fun q=>[Sl 1 5 q.1 q.2 (rO U).length ((rO U).map Sl.B),AD])):
  Cn p_ 8 [.agg #[.int .i64 st,.slice ax Y.length cx,.slice ad D.length cd],.int .i64 most] W [AX,AD]
   (fun q:Option Addr × Nat=> .tuple #[.slice q.1 (idR (valsF Y kCE) D most U).1.length q.2,.int .i64 (idR (valsF Y kCE) D most U).2])
   (fun q=>[Sl 1 5 q.1 q.2 (idR (valsF Y kCE) D most U).1.length ((idR (valsF Y kCE) D most U).1.map Sl.B),AX,AD]):=by
 have hok:=z_ok (l:=Y) (by omega)
 have hvz:=zL_vals Y kCE
 have hvl:=vals_len Y kCE
 have hzl:=z_len Y
 (refine Shp.cn (Sg.g_ Tryz.call8 Tryz.func8 (an:={cuts:=[(4,[10])]})) fun F=>?_;simp only[ca_,na_])
 refine e_boxA fun b=>?_
 refine o_ v_fa0 (ln_ ?_)
 refine e_call (values (n:=kCE) hA hok (by decide)) (.cons (by repeat constructor) .nil) fun r=>?_
 obtain⟨va,vc⟩:=r
 refine nr_ ?_
 (try dsimp only)
 obtain⟨V,hV⟩:∃V,V=valsF Y kCE:=⟨_,rfl⟩
 rw[<- hV]at hU hvz hvl ⊢
 obtain⟨I,hI⟩:∃I,I=idR V D most U:=⟨_,rfl⟩
 rw[<- hI]
 refine e_cut1d ?_
 refine o_ v_lss ?_
 by_cases c1:most<0
 ·obtain rfl:I=([],1):=by rw[hI];unfold idR;rw[if_pos (.inl c1)]
  rw[dT_ c1]
  refine e_condT (e_allds fun ds=>?_)
  refine e_condT (e_nil (s:=1) (e:=5) ?_)
  refine e_ret (none,0) rfl ?_
  exact im_
 rw[dF_ c1]
 refine e_condF (o_ v_gtr (e_allds fun ds=>?_))
 by_cases c2:1048576<most
 ·obtain rfl:I=([],1):=by rw[hI];unfold idR;rw[if_pos (.inr c2)]
  rw[dT_ c2]
  refine e_condT (e_nil (s:=1) (e:=5) ?_)
  refine e_ret (none,0) rfl ?_
  exact im_
 rw[dF_ c2]
 refine e_condF (o_ v_fa0 (ln_ ?_));refine o_ v_len (o_ v_gtr ?_)
 by_cases c3:1048576<(D.length:Int)
 ·obtain rfl:I=([],6):=by rw[hI];unfold idR;rw[if_neg (by omega),if_pos c3]
  rw[dT_ c3]
  refine e_condT (e_nil (s:=1) (e:=5) ?_)
  refine e_ret (none,0) rfl ?_
  exact im_
 have hIV:I=idV V D most U:=by rw[hI];unfold idR;rw[if_neg (by omega),if_neg c3]
 clear hI
 rw[dF_ c3]
 refine e_condF (o_ v_len (o_ v_eql ?_))
 match hVV:V with
 |[]=>
  unfold idV at hIV
  rw[dF_ (by simp)]
  refine e_gdF2 (e_gdF2 (e_gdF2 (e_gdF2 (o_ v_pickF (e_condF (o_ v_len (o_ v_gtr ?_)))))))
  rw[dF_ (by simp)]
  refine e_condF (o_ v_fa0 (ln_ ?_));refine o_ v_len (o_ v_gtr ?_)
  by_cases c4:most<(D.length:Int)
  ·rw[if_pos c4]at hIV
   subst hIV
   rw[dT_ c4]
   refine e_condT (e_nil (s:=1) (e:=5) ?_)
   refine e_ret (none,0) rfl ?_
   exact im_
  ·rw[if_neg c4]at hIV
   subst hIV
   rw[dF_ c4]
   refine e_condF (o_ v_fa0 (ln_ ?_))
   refine e_nil (s:=1) (e:=5) ?_
   refine e_app (m:=D.length) (news:=D.map Sl.B) (by(repeat constructor):Pick _ (Sl 1 5 none 0 0 []) _) (src_rd (e':=5) (by kernel_rfl) (by(repeat constructor):Pick _ AD _) hB hb B_one) (by omega) (by omega) fun a2 c2=>?_
   rw[Nat.zero_add,List.nil_append]
   refine e_ret (a2,c2) rfl ?_
   exact im_
 |[v]=>
  unfold idV at hIV
  have hvv:=zL_mem (show v∈valsF Y kCE by rw[<- hV];exact List.mem_singleton.2 rfl)
  rw[<- hV]at hvv
  rw[dT_ (by simp)]
  refine e_slfacts (by(repeat constructor):Pick _ (Sl 1 9 va vc [v].length ([v].map txt)) _) fun _ _ _ hs=>?_
  have hN:RdB W (Sl 1 9 va vc [v].length ([v].map txt)) va [v].length ([v].map txt):=rd_sl (by rw[List.length_map]) hs
  obtain⟨ng,rfl⟩:=hs (by simp)
  refine e_gdT (e_gdT (o_ (v_ia1 0 rfl (by simp)) ?_))
  refine e_gdT ?_;(((refine' e_opN (v_ldSl ?hc) ?hi ?_);(case hi=>exact im_);(case hc=>rfl)));refine e_gdT ?_
  (try refine p_op (txt_at hN (j:=0) (by simp)) ?_)
  refine e_call (equal (a:=v) (b:=kGz) (by omega) (by decide)) .nil fun _=>?_
  refine nr_ ?_
  cases he:eqlF v kGz with
  |true=>
   simp only[he,if_true]at hIV
   subst hIV
   refine o_ v_pickT (e_condT (o_ v_fa0 (ln_ ?_)))
   refine e_call (hU v rfl he (by omega) (by omega) (by omega)) (.cons (by repeat constructor) .nil) fun r=>?_
   obtain⟨ua,uc⟩:=r
   refine nr_ ?_
   (try dsimp only)
   refine o_ (v_ext (v:= .slice ua (rO U).length uc) rfl) ?_
   refine o_ (v_ext (v:= .int .i64 (rE U)) rfl) ?_
   refine e_ret (ua,uc) rfl ?_
   exact im_
  |false=>
   simp only[he,Bool.false_eq_true,if_false]at hIV
   subst hIV
   refine o_ v_pickT (e_condF (o_ v_len (o_ v_gtr ?_)))
   rw[dT_ (by simp)]
   refine e_condT (e_nil (s:=1) (e:=5) ?_)
   refine e_ret (none,0) rfl ?_
   exact im_
 |v::u::r=>
  unfold idV at hIV
  subst hIV
  rw[dF_ (by simp only[List.length_cons];omega)]
  refine e_gdF2 (e_gdF2 (e_gdF2 (e_gdF2 (o_ v_pickF (e_condF (o_ v_len (o_ v_gtr ?_)))))))
  rw[dT_ (by simp only[List.length_cons];omega)]
  refine e_condT (e_nil (s:=1) (e:=5) ?_)
  refine e_ret (none,0) rfl ?_
  exact im_
end Go.Proofs.YtndojgomlkpeaaaGreatDoor.FD
namespace Go.Proofs.YtndojgomlkpeaaaGreatDoor.FD
open Go Go.Proofs Go.RowKit Sh Sl T
theorem eqFd (x y:Fd):∀w,(Op.eqFields 9999 (pFd x).toArray (pFd y).toArray (p_.fieldsOf 52).toList).run p_ w= .ok (decide (x.1=y.1)&&(decide (x.2=y.2)&&(true))) w:=fun w=>by
 have hf:(p_.fieldsOf 52).toList=(#[⟨"Name",9,0,false,"","",0⟩,⟨"Value",9,1,false,"","",16⟩]:Array Field).toList:=by kernel_rfl
 rw[hf]
 exact eqS x.1 y.1 (by decide) (by rfl) (by rfl) (by rfl) (eqS x.2 y.2 (by decide) (by rfl) (by rfl) (by rfl) (eqEnd))
theorem v_fdNe {W:World}{ox oy:Operand}(x y:Fd):RunV p_ W [] (sEq .neq 52 ox oy (vFd x) (vFd y)) (.bool (!decide (x=y))):=by
 have h:=v_agNe (W:=W) (t:=52) (ox:=ox) (oy:=oy) (by kernel_rfl) (by kernel_rfl) (by kernel_rfl) (eqFd x y)
 have e:decide (x=y)=(decide (x.1=y.1)&&(decide (x.2=y.2)&&(true))):=by
  rw[Bool.eq_iff_iff]
  simp[Prod.ext_iff]
 rw[e]
 exact h
theorem fields11 {W:World}{l m:List Fd}{a b:Option Addr}{c d:Nat}{A B:HP}(hA:RdF W A a l)(hB:RdF W B b m)(hl:l.length<=1099511627776)(hm:m.length<=1099511627776):Cn p_ 26 [.slice a l.length c,.slice b m.length d] W [A,B] (fun _:Unit=> .bool (decide (l=m))) (fun _=>[A,B]):=by
 (refine Shp.cn (Sg.g_ Tryz.call26 Tryz.func26 (an:={loops:=[(4,[5])],drs:=[(6,.ofL [(0,1),(1,1),(2,1),(3,1),(4,1),(5,1),(6,1),(7,1),(8,1)])]})) fun F=>?_;simp only[ca_,na_])
 refine o_ v_len (o_ v_len (e_ask v_neq .nil (fun h=>?_) (fun h=>?_)))
 ·refine e_condT (e_ret () (by rw[dF_];intro e;apply h;rw[e]) ?_)
  exact im_
 have hlen:l.length=m.length:=by omega
 refine e_condF (e_loop1 (fun k y=>pu (∃i:Nat,k+i=l.length/\y= .int .i64 (i:Int)/\l.take i=m.take i)::A::B::F) l.length ?_ ?_)
 ·refine .pu ⟨0,rfl,rfl,rfl⟩ ?_
  exact im_
 intro k ds y
 refine e_pu .here fun hi=>?_
 obtain⟨i,hki,rfl,heq⟩:=hi
 refine o_ v_len (e_ask v_lss .nil (fun h=>?_) (fun h=>?_))
 ·have hil:i<l.length:=by omega
  have him:i<m.length:=by omega
  obtain⟨ga,oa,rfl⟩:=rdF_at hA (by omega)
  obtain⟨gb,ob,rfl⟩:=rdF_at hB (by omega)
  refine e_condT (e_drS (t_ (v_ia i rfl hil) ?_))
  refine p_st (ld_fdA hA hil) ?_
  refine t_ (v_ia i rfl him) ?_
  refine p_st (ld_fdA hB him) ?_
  refine t_ (v_fdNe l[i] m[i]) ?_
  by_cases hx:l[i]=m[i]
  ·rw[dT_ hx]
   refine e_condF (ad_ ?_)
   refine e_next1 (k-1) (by omega) (.pu ⟨i+1,by omega,by norm_cast,by rw[List.take_succ_eq_append_getElem hil,List.take_succ_eq_append_getElem him,heq,hx]⟩ ?_)
   exact im_
  ·rw[dF_ hx]
   refine e_condT (e_ret () (by rw[dF_];rintro rfl;exact hx rfl) ?_)
   exact im_
 ·have:i=l.length:=by omega
  subst this
  rw[List.take_length,hlen,List.take_length]at heq
  refine e_condF (e_ret () (by rw[dT_ heq]) ?_)
  exact im_
theorem same18 {W:World} {s t:Int} {l m:List Fd} {x y:List UInt8} {a b xa ya:Option Addr} {c d xc yc:Nat} {A B C D:HP} (hA:RdF W A a l) (hB:RdF W B b m) (hl:l.length<=1099511627776) (hm:m.length<=1099511627776)
  (hC:RdB W C xa x.length (x.map Sl.B)) (hxa:xa=none->x.length=0) (hD:RdB W D ya y.length (y.map Sl.B)) (hya:ya=none->y.length=0):
  Cn p_ 11 [.agg #[.int .i64 s,.slice a l.length c,.slice xa x.length xc],.agg #[.int .i64 t,.slice b m.length d,.slice ya y.length yc]] W [A,B,C,D] (fun _:Unit=> .bool (decide (s=t)&&(decide (l=m)&&decide (x=y)))) (fun _=>[A,B,C,D]):=by
 (refine Shp.cn (Sg.g_ Tryz.call11 Tryz.func11) fun F=>?_;simp only[ca_,na_])
 refine e_boxA fun b2=>?_
 refine e_boxA fun b3=>?_
 refine o_ v_fa0 (ln_ ?_);refine o_ v_fa0 (ln_ ?_)
 refine e_ask v_eql .nil (fun h1=>?_) (fun h1=>?_)
 rotate_left
 ·rw[dF_ h1]
  refine e_gdF2 (e_gdF2 (e_gdF2 (e_gdF2 (e_gdF2 (o_ v_pickF (e_gdF2 (e_gdF2 (e_gdF2 (e_gdF2 (e_gdF2 (e_gdF2 (e_gdF2 (o_ v_pickF (e_ret () rfl ?_))))))))))))))
  exact im_
 rw[dT_ h1]
 refine e_gdT (o_ v_fa0 (e_gdT (ln_ ?_)));refine e_gdT (o_ v_fa0 (e_gdT (ln_ ?_)));refine e_gdT (e_call (fields11 hA hB hl hm) (.cons (by repeat constructor) (.cons (by repeat constructor) .nil)) fun _=>?_)
 refine nr_ ?_
 by_cases h2:l=m
 rotate_left
 ·rw[dF_ h2]
  refine o_ v_pickT (e_gdF2 (e_gdF2 (e_gdF2 (e_gdF2 (e_gdF2 (e_gdF2 (e_gdF2 (o_ v_pickF (e_ret () rfl ?_)))))))))
  exact im_
 rw[dT_ h2]
 refine o_ v_pickT (e_gdT (o_ v_fa0 (e_gdT (ln_ ?_))));refine e_gdT (p_op (v_str hC hxa) ?_)
 refine e_gdT (o_ v_fa0 (e_gdT (ln_ ?_)));refine e_gdT (p_op (v_str hD hya) ?_)
 refine e_gdT (o_ v_streq (o_ v_pickT (e_ret () (by simp) ?_)))
 exact im_
end Go.Proofs.YtndojgomlkpeaaaGreatDoor.FD
namespace Go.Proofs.YtndojgomlkpeaaaGreatDoor.Sl
open Go Go.RowKit Sh
variable {P:Program} {W:World} {L L':List HP} {Kp:PK} {k:Value->WP}
theorem e_bconst {t e e':TypeId} {g n c:Nat} {cs:Array Value} (ht:P.underlying t=some (.slice e)) (he:P.underlying e=some (.int .u8)) (p:Pick L (pt g (.cells cs e' (0,0))) L')
  (h:Ent W (pt g (.cells cs e' (cs.size,cs.size+1))::L') (k (.slice (some ⟨g,0,none⟩) n c))):Ent W L (opN P (sConv t t (.slice (some ⟨g,0,none⟩) n c)) Kp k):=fun w hw=>by
 have hp:=hw.pick p
 have hg:=hp.pt_.1
 have hsh:w.shape? g=some (e',cs.size):=by unfold World.shape?;rw[hg]
 have hrun:(sConv t t (.slice (some ⟨g,0,none⟩) n c)).run P w= .ok (.value (.slice (some ⟨g,0,none⟩) n c)) (w.freeze ⟨g,cs.size,none⟩ 1):=by
  simp[sConv,convert,run_underlying ht,run_underlying he,markStringish,hsh]
 refine⟨?_⟩
 rw[hrun]
 refine h _ (hp.turn (w':=w.freeze ⟨g,cs.size,none⟩ 1) rfl rfl rfl ?_ ?_ ?_)
 ·simp[World.freeze]
 ·simp[World.freeze,Array.getElem?_modify,hg]
 ·intro i hi
  simp only[World.freeze]
  rw[if_neg (by decide),Array.getElem?_modify,if_neg (fun c=>hi c.symm)]
end Go.Proofs.YtndojgomlkpeaaaGreatDoor.Sl
namespace Go.Proofs.YtndojgomlkpeaaaGreatDoor.FD
open Go Go.Proofs Go.RowKit Sh Sl T IF GZ
theorem pk_len {level:Int}{b:List UInt8}(hE:pkE b level 0=0):(pkB b level 0).length<=1048576:=by
 have h2:pkB b level 0=gzH 0++dflB b level++gzT b:=by unfold pkB;rw[if_pos hE];rfl
 have h1:dflE b level=0:=by unfold pkE at hE;rwa [if_neg (by omega)]at hE
 obtain⟨h3,h4⟩:=dflB_le h1
 rw[h2,List.length_append,List.length_append,gzH_len,gzT_len];omega
theorem num19 {W:World}{n:Int}:Cn p_ 10 [.int .i64 n] W [] (fun _:Unit=> .int .i64 n) (fun _=>[]):=by
 (refine Shp.cn (Sg.g_ Tryz.call10 Tryz.func10) fun F=>?_;simp only[ca_,na_])
 refine rt_ () ?_
 exact .refl
theorem rdF_pt {W:World}{g:Nat}{l:List Fd}{T:TypeId}{fz:Nat × Nat}:RdF W (pt g (.cells (l.flatMap pFd).toArray T fz)) (some ⟨g,0,none⟩) l:=rd_pt (flat_len (f:=pFd) (s:=2) (fun _=>rfl) l)
theorem accept {W:World}{s:List UInt8}:Cn p_ 27 [txt s] W [] (fun g:Nat=> .slice (some ⟨g,0,none⟩) 1 1) (fun g=>[pt g (.cells ([(kAE,s)].flatMap pFd).toArray 52)]):=by
 (refine Shp.cn (Sg.g_ Tryz.call27 Tryz.func27) fun F=>?_;simp only[ca_,na_])
 refine o_ v_rv ?_
 refine e_bslS (n:=1) (vs:=[vFd (kAE,s)]) rfl (by decide) rfl (by intro v hv;rw[List.mem_singleton.1 hv];rfl) (by decide) fun g=>?_
 refine e_ret g rfl ?_
 exact im_
def kA:List UInt8:=[97,97,97,97,97,97,97,97,97,97,97,97,97,97,97,97,97,97,97,97,97,97,97,97,97,97,97,97,97,97,97,97,97,97,97,97,97,97,97,97]
def kPl:List UInt8:=[116,101,120,116,47,112,108,97,105,110]
def kQ:List UInt8:=[103,122,105,112,59,113,61,48,46,53,44,32,105,100,101,110,116,105,116,121,59,113,61,48,46,54]
set_option maxRecDepth 100000 in
theorem kn_pk:pkE kA 6 0=0/\(pkB kA 6 0).length<40:=by
 have:decide (pkE kA 6 0=0/\(pkB kA 6 0).length<40)=true:=by decide+kernel
 exact of_decide_eq_true this
def kB:List UInt8:=(pkB kA 6 0).drop 10
set_option maxRecDepth 100000 in
theorem kn_b:pkB kA 6 0=gzH 0++kB/\aE kB 100=0/\aO kB 100=kA/\aU kB 100=((kB.length-8:Nat):Int)/\kB.drop (kB.length-8)=gzT kA++[]:=by
 have:decide (pkB kA 6 0=gzH 0++kB/\aE kB 100=0/\aO kB 100=kA/\aU kB 100=((kB.length-8:Nat):Int)/\kB.drop (kB.length-8)=gzT kA++[])=true:=by decide+kernel
 exact of_decide_eq_true this
theorem kn_u:(pkB kA 6 0).length<=1048576/\Ur 100 (pkB kA 6 0) [] 0 (.ok (kA,1)):=by
 refine⟨by have:=kn_pk.2;omega,?_⟩
 obtain⟨h1,h2,h3,h4,h5⟩:=kn_b
 rw[h1]
 exact Ur.mem (n:=0) (out:=[]) (r:=[]) ⟨h2,h3,h4,Nat.sub_le _ _,by decide⟩ h5 (.done (by decide))
theorem kn_ch:chooB [(kAE,kGz)]=true/\chooF [(kAE,kQ)]=kIdn/\chooF [(kAE,kGz)]=kGz:=by
 have:decide (chooB [(kAE,kGz)]=true/\chooF [(kAE,kQ)]=kIdn/\chooF [(kAE,kGz)]=kGz)=true:=by decide+kernel
 exact of_decide_eq_true this
theorem kn_fit:fitB 200 [(kCT,kPl)] kA=true:=by decide+kernel
theorem kn_app:(appR [(kAE,kGz)] 6 200 [(kCT,kPl)] kA).D=pkB kA 6 0/\valsF (appR [(kAE,kGz)] 6 200 [(kCT,kPl)] kA).X kCE=[kGz]:=by
 have h:=app_same (l:=[(kAE,kGz)]) (level:=6) (st:=200) (D:=kA) (fit_ce kn_fit)
 rcases h with ⟨h1,h2⟩|⟨h1,_,_,h2,_⟩
 ·exfalso
  have:(appR [(kAE,kGz)] 6 200 [(kCT,kPl)] kA).X=pakX (varyX [(kCT,kPl)]) (pkB kA 6 0):=by
   unfold appR
   rw[kn_fit,kn_ch.1,if_pos (by decide),if_pos rfl,if_pos kn_pk.1]
  rw[this]at h1
  unfold pakX at h1
  rw[vals_app]at h1
  have h3:=(List.append_eq_nil_iff.1 h1).2
  rw[vals_cons,vals_one,if_pos (by decide)]at h3
  cases h3
 ·exact⟨h2,h1⟩
end Go.Proofs.YtndojgomlkpeaaaGreatDoor.FD
namespace Go.Proofs.YtndojgomlkpeaaaGreatDoor.FD
open Go Go.Proofs Go.RowKit Sh Sl T
theorem copied {W:World}{st:Int}{l:List Fd}{D:List UInt8}{a b:Option Addr}{c d:Nat}{A B:HP}(hA:RdF W A a l)(ha:a=none->l.length=0)(hl:l.length<=1099511627776)(hB:RdB W B b D.length (D.map Sl.B))(hb:b=none->D.length=0)(hD:D.length<=1099511627776):
  Cn p_ 7 [.agg #[.int .i64 st,.slice a l.length c,.slice b D.length d]] W [A,B] (fun q:(Option Addr × Nat) × (Option Addr × Nat)=> .agg #[.int .i64 st,.slice q.1.1 l.length q.1.2,.slice q.2.1 D.length q.2.2])
   (fun q=>[A,B,Sl 2 52 q.1.1 q.1.2 l.length (l.flatMap pFd),Sl 1 5 q.2.1 q.2.2 D.length (D.map Sl.B)]):=by
 (refine Shp.cn (Sg.g_ Tryz.call7 Tryz.func7 (an:={drs:=[(1,(.op 0 3 (.op 1 3 (.op 3 3 (.op 4 3 (.op 7 3 (.op 8 3 (.alt ((.op 2 0 (.alt (.ofL [(5,0),(6,0),(9,0),(10,1),(11,0)]) (.ofL [(6,0),(5,0),(9,0),(10,1),(11,0)])))) (.ofL [(6,0),(2,0),(5,0),(9,0),(10,1),(11,0)])))))))))]}) (os:=[(1,[(2,[8,7,4,3,1,0]),(5,[8,7,1,0]),(6,[8,7,4,3,1,0]),(9,[1,0])])])) fun F=>?_;simp only[ca_,na_])
 refine e_boxA fun b1=>?_
 refine e_newA fun g=>?_;refine e_drS (e_stD v_fa0 .nil ?_);(((refine' e_stD (v_ldN ?hc) ?hi ?_);(case hi=>exact .pick (by repeat constructor) .nil);(case hc=>repeat constructor)));refine e_stD v_fa0 .nil ?_;(((refine' e_stD (v_ldN ?hc) ?hi ?_);(case hi=>exact .pick (by repeat constructor) .nil);(case hc=>repeat constructor)));refine e_stD v_fa0 .nil ?_;(((refine' e_stD (v_ldN ?hc) ?hi ?_);(case hi=>exact .pick (by repeat constructor) .nil);(case hc=>repeat constructor)))
 refine e_andS ?_ ?_
 ·refine e_bsl0 fun g=>?_
  refine ob_ ?_;refine ob_ ?_;refine ob_ ?_;refine ob_ ?_;refine ob_ ?_;refine ob_ ?_
  refine e_andS ?_ ?_
  ·refine e_app (m:=l.length) (news:=l.flatMap pFd) (by(repeat constructor):Pick _ (Sl 2 52 (some ⟨g,0,none⟩) 0 0 []) _) (src_rdG (s:=2) (e':=52) (by kernel_rfl) (by decide) (by(repeat constructor):Pick _ A _) hA ha pFd_one) (by omega) (by omega) fun a' c'=>?_
   rw[Nat.zero_add,List.nil_append]
   refine ob_ ?_;refine ob_ ?_;refine ob_ ?_;refine ob_ ?_
   refine e_bsl0 fun g2=>?_
   refine ob_ ?_;refine ob_ ?_;refine ob_ ?_;refine ob_ ?_;refine ob_ ?_;refine ob_ ?_
   refine e_app (m:=D.length) (news:=D.map Sl.B) (by(repeat constructor):Pick _ (Sl 1 5 (some ⟨g2,0,none⟩) 0 0 []) _) (src_rd (e':=5) (by kernel_rfl) (by(repeat constructor):Pick _ B _) hB hb B_one) (by omega) (by omega) fun a2 c2=>?_
   rw[Nat.zero_add,List.nil_append]
   refine ob_ ?_;refine ob_ ?_;refine t_ v_rv ?_;refine sg_ ?_;(((refine' e_stS (v_resA ?hn) ?hi ?_);(case hi=>exact im_);(case hn=>rfl)))
   refine e_ret ((a',c'),(a2,c2)) rfl ?_
   exact im_
  ·refine e_bsl0 fun g2=>?_
   refine ob_ ?_;refine ob_ ?_;refine ob_ ?_;refine ob_ ?_;refine ob_ ?_;refine ob_ ?_
   refine e_app (m:=l.length) (news:=l.flatMap pFd) (by(repeat constructor):Pick _ (Sl 2 52 (some ⟨g,0,none⟩) 0 0 []) _) (src_rdG (s:=2) (e':=52) (by kernel_rfl) (by decide) (by(repeat constructor):Pick _ A _) hA ha pFd_one) (by omega) (by omega) fun a' c'=>?_
   rw[Nat.zero_add,List.nil_append]
   refine ob_ ?_;refine ob_ ?_;refine ob_ ?_;refine ob_ ?_
   refine e_app (m:=D.length) (news:=D.map Sl.B) (by(repeat constructor):Pick _ (Sl 1 5 (some ⟨g2,0,none⟩) 0 0 []) _) (src_rd (e':=5) (by kernel_rfl) (by(repeat constructor):Pick _ B _) hB hb B_one) (by omega) (by omega) fun a2 c2=>?_
   rw[Nat.zero_add,List.nil_append]
   refine ob_ ?_;refine ob_ ?_;refine t_ v_rv ?_;refine sg_ ?_;(((refine' e_stS (v_resA ?hn) ?hi ?_);(case hi=>exact im_);(case hn=>rfl)))
   refine e_ret ((a',c'),(a2,c2)) rfl ?_
   exact im_
 ·refine e_bsl0 fun g2=>?_
  refine ob_ ?_;refine ob_ ?_;refine ob_ ?_;refine ob_ ?_;refine ob_ ?_;refine ob_ ?_
  refine e_bsl0 fun g=>?_
  refine ob_ ?_;refine ob_ ?_;refine ob_ ?_;refine ob_ ?_;refine ob_ ?_;refine ob_ ?_
  refine e_app (m:=l.length) (news:=l.flatMap pFd) (by(repeat constructor):Pick _ (Sl 2 52 (some ⟨g,0,none⟩) 0 0 []) _) (src_rdG (s:=2) (e':=52) (by kernel_rfl) (by decide) (by(repeat constructor):Pick _ A _) hA ha pFd_one) (by omega) (by omega) fun a' c'=>?_
  rw[Nat.zero_add,List.nil_append]
  refine ob_ ?_;refine ob_ ?_;refine ob_ ?_;refine ob_ ?_
  refine e_app (m:=D.length) (news:=D.map Sl.B) (by(repeat constructor):Pick _ (Sl 1 5 (some ⟨g2,0,none⟩) 0 0 []) _) (src_rd (e':=5) (by kernel_rfl) (by(repeat constructor):Pick _ B _) hB hb B_one) (by omega) (by omega) fun a2 c2=>?_
  rw[Nat.zero_add,List.nil_append]
  refine ob_ ?_;refine ob_ ?_;refine t_ v_rv ?_;refine sg_ ?_;(((refine' e_stS (v_resA ?hn) ?hi ?_);(case hi=>exact im_);(case hn=>rfl)))
  refine e_ret ((a',c'),(a2,c2)) rfl ?_
  exact im_
end Go.Proofs.YtndojgomlkpeaaaGreatDoor.FD
namespace Go.Proofs.YtndojgomlkpeaaaGreatDoor.FD
open Go Go.Proofs Go.RowKit Sh Sl T IF GZ
set_option maxRecDepth 100000 in
theorem kn_z:zF (appR [(kAE,kGz)] 6 200 [(kCT,kPl)] kA).X<=2097152:=by
 have:decide (zF (appR [(kAE,kGz)] 6 200 [(kCT,kPl)] kA).X<=2097152)=true:=by decide+kernel
 exact of_decide_eq_true this
theorem idR_gz {G b:List UInt8}{most:Int}(h0:0<=most)(h1:most<=1048576)(hG:G.length<=1048576):idR [kGz] G most (.ok (b,1))=(b,0):=by
 unfold idR
 rw[if_neg (by omega),if_neg (by omega)]
 show(if eqlF kGz kGz=true then(rO (.ok (b,1)),rE (.ok (b,1)))else(([],46):List UInt8 × Int))=_
 rw[if_pos (by decide)]
 rfl
theorem knows19 {W : World} [hG : Gl W] [hP : Gp W] : Cn p_ 12 [] W [] (fun _ : Unit => .bool true) (fun _ => []) := by
 obtain ⟨hkA, hkC⟩ := kn_app
 have hkz := kn_z
 obtain ⟨hpk, hp40⟩ := kn_pk
 obtain ⟨hgl, hur⟩ := kn_u
 obtain ⟨hc1, hc2, hc3⟩ := kn_ch
 (refine Shp.cn (Sg.g_ Tryz.call12 Tryz.func12 (an := { drs := [(2, (.op 1 3 (.alt ((.op 0 0 (.alt (.ofL [(2, 0), (3, 0), (4, 0)]) (.ofL [(3, 0), (2, 0), (4, 0)])))) (.ofL [(3, 0), (0, 0), (2, 0), (4, 0)]))))], rcuts := [(3, [2])] }) (os := [(2, [(0, [1]), (3, [1])])])) fun F => ?_; simp only [ca_, na_])
 refine e_opN v_rv .nil ?_
 refine e_bslS (n := 1) (vs := [vFd (kCT, kPl)]) rfl (by decide) rfl (by intro v hv; rw [List.mem_singleton.1 hv]; rfl) (by decide) fun g6 => ?_
 refine e_bslN (vs := kA.map Sl.B) rfl rfl (by intro v hv; obtain ⟨c, _, rfl⟩ := List.mem_map.1 hv; rfl) (by decide) fun g7 => ?_
 refine e_bconst (e := 5) (by kernel_rfl) (by kernel_rfl) .here ?_
 refine e_opN v_rv .nil ?_; refine e_newA fun g => ?_; (((refine' e_stAgg ?hp ?hn ?hv ?h1 ?_); (case hp => (repeat constructor)); (case hn => rfl); (case hv => rfl); (case h1 => simp [Value.oneCell'])))
 rename Nat => b1
 have hX : ∀ {W : World}, RdF W (pt g6 (.cells ([vFd (kCT, kPl)].flatMap fun v => v.cells.toList).toArray 52)) (some ⟨g6, 0, none⟩) [(kCT, kPl)] := fun {W} => rdF_pt (W := W) (g := g6) (l := [(kCT, kPl)]) (T := 52) (fz := (0, 0))
 have hD : ∀ {W : World} {fz : Nat × Nat}, RdB W (pt g7 (.cells (kA.map Sl.B).toArray 5 fz)) (some ⟨g7, 0, none⟩) kA.length (kA.map Sl.B) := rd_pt (by rw [List.length_map])
 obtain ⟨R, hR⟩ : ∃ R, R = appR [(kAE, kGz)] 6 200 [(kCT, kPl)] kA := ⟨_, rfl⟩
 have hz : zF [(kCT, kPl)] <= 1100000 := by decide
 have hl : ∀ {W : World} {ga : Nat}, RdF W (pt ga (.cells ([(kAE, kGz)].flatMap pFd).toArray 52)) (some ⟨ga, 0, none⟩) [(kAE, kGz)] := fun {W ga} => rdF_pt
 obtain ⟨PX, hPX⟩ : ∃ PX, PX = pt g6 (.cells ([vFd (kCT, kPl)].flatMap fun v => v.cells.toList).toArray 52) := ⟨_, rfl⟩
 obtain ⟨PD, hPD⟩ : ∃ PD, PD = pt g7 (.cells (kA.map Sl.B).toArray 5 ((kA.map Sl.B).toArray.size, (kA.map Sl.B).toArray.size + 1)) := ⟨_, rfl⟩
 rw [<- hPX, <- hPD]
 have hX2 : ∀ {W : World}, RdF W PX (some ⟨g6, 0, none⟩) [(kCT, kPl)] := fun {W} => by rw [hPX]; exact hX
 have hD2 : ∀ {W : World}, RdB W PD (some ⟨g7, 0, none⟩) kA.length (kA.map Sl.B) := fun {W} => by rw [hPD]; exact hD
 clear hX hD hPX hPD
 have hap : ∀ ga : Nat, Cn p_ 14 [.slice (some ⟨ga, 0, none⟩) 1 1, .agg #[.int .i64 200, .slice (some ⟨g6, 0, none⟩) 1 1, .slice (some ⟨g7, 0, none⟩) 40 40], .int .i64 6] W [pt ga (.cells ([(kAE, kGz)].flatMap pFd).toArray 52), PX, PD]
   (fun q : (Option Addr × Nat) × (Option Addr × Nat) => .agg #[.int .i64 200, .slice q.1.1 R.X.length q.1.2, .slice q.2.1 R.D.length q.2.2])
   (fun q => [pt ga (.cells ([(kAE, kGz)].flatMap pFd).toArray 52), PX, PD, Sl 2 52 q.1.1 q.1.2 R.X.length (R.X.flatMap pFd), Sl 1 5 q.2.1 q.2.2 R.D.length (R.D.map Sl.B)]) := fun ga => by
  rw [hR]
  exact apply (l := [(kAE, kGz)]) (X := [(kCT, kPl)]) (D := kA) hl (by decide) hX2 (fun h => by cases h) hz hD2 (fun h => by cases h) (by decide)
 rw [<- hR] at hkA hkC hkz
 refine e_cut1 (fun z => (ex fun q : (Option Addr × Nat) × (Option Addr × Nat) => ex fun o : Nat => all [pu (z = .pointer (some ⟨o, 0, none⟩)), pt o (.cells #[.int .i64 200, .slice q.1.1 R.X.length q.1.2, .slice q.2.1 R.D.length q.2.2] 25), Sl 2 52 q.1.1 q.1.2 R.X.length (R.X.flatMap pFd), Sl 1 5 q.2.1 q.2.2 R.D.length (R.D.map Sl.B)])
   :: pt b1 (.cells #[.int .i64 200, .slice (some ⟨g6, 0, none⟩) 1 1, .slice (some ⟨g7, 0, none⟩) 40 40] 25) :: PX :: PD :: F) ?_ ?_
 rotate_left
 ·(refine e_drS ?_); (((refine' e_stD (v_ldAgg ?hn) ?hi ?_); (case hi => exact .pick (by repeat constructor) .nil); (case hn => rfl)))
  refine e_andS ?_ ?_
  ·(refine' e_call (accept (s := kGz)) ?hp fun _ => ?_; (case hp => (repeat (first | exact Picks.nil | (apply Picks.cons; (focus repeat constructor))))); (try simp only [ca_, na_, Bool.not_true, Bool.not_false]))
   rename_i ga
   (((refine e_obl ?hi ?_); (case hi => (repeat (first | exact .refl | exact .nil | (apply Imp.pick; (focus ((repeat constructor); done))) | refine .drop ?_)))))
   refine e_andS ?_ ?_
   ·(refine' e_call (hap ga) ?hp fun _ => ?_; (case hp => (repeat (first | exact Picks.nil | (apply Picks.cons; (focus repeat constructor))))); (try simp only [ca_, na_, Bool.not_true, Bool.not_false]))
    rename_i q
    refine e_newA fun g => ?_; (((refine e_obl ?hi ?_); (case hi => (repeat (first | exact .refl | exact .nil | (apply Imp.pick; (focus ((repeat constructor); done))) | refine .drop ?_))))); (((refine' e_stAgg ?hp ?hn ?hv ?h1 ?_); (case hp => (repeat constructor)); (case hn => rfl); (case hv => rfl); (case h1 => simp [Value.oneCell'])))
    rename Nat => o
    refine e_sat (.ex q (.ex o (.all ?_)))
    (try simp only [ca_, na_, -eq_self])
    refine .pu rfl ?_
    (repeat (first | exact .refl | exact .nil | (apply Imp.pick; (focus ((repeat constructor); done))) | refine .drop ?_))
   ·refine e_newA fun o => ?_
    (((refine e_obl ?hi ?_); (case hi => (repeat (first | exact .refl | exact .nil | (apply Imp.pick; (focus ((repeat constructor); done))) | refine .drop ?_)))))
    (refine' e_call (hap ga) ?hp fun _ => ?_; (case hp => (repeat (first | exact Picks.nil | (apply Picks.cons; (focus repeat constructor))))); (try simp only [ca_, na_, Bool.not_true, Bool.not_false]))
    rename_i q
    (((refine' e_stAgg ?hp ?hn ?hv ?h1 ?_); (case hp => (repeat constructor)); (case hn => rfl); (case hv => rfl); (case h1 => simp [Value.oneCell'])))
    refine e_sat (.ex q (.ex o (.all ?_)))
    (try simp only [ca_, na_, -eq_self])
    refine .pu rfl ?_
    (repeat (first | exact .refl | exact .nil | (apply Imp.pick; (focus ((repeat constructor); done))) | refine .drop ?_))
  ·refine e_newA fun o => ?_
   (((refine e_obl ?hi ?_); (case hi => (repeat (first | exact .refl | exact .nil | (apply Imp.pick; (focus ((repeat constructor); done))) | refine .drop ?_)))))
   (refine' e_call (accept (s := kGz)) ?hp fun _ => ?_; (case hp => (repeat (first | exact Picks.nil | (apply Picks.cons; (focus repeat constructor))))); (try simp only [ca_, na_, Bool.not_true, Bool.not_false]))
   rename_i ga
   (((refine e_obl ?hi ?_); (case hi => (repeat (first | exact .refl | exact .nil | (apply Imp.pick; (focus ((repeat constructor); done))) | refine .drop ?_)))))
   (refine' e_call (hap ga) ?hp fun _ => ?_; (case hp => (repeat (first | exact Picks.nil | (apply Picks.cons; (focus repeat constructor))))); (try simp only [ca_, na_, Bool.not_true, Bool.not_false]))
   rename_i q
   (((refine' e_stAgg ?hp ?hn ?hv ?h1 ?_); (case hp => (repeat constructor)); (case hn => rfl); (case hv => rfl); (case h1 => simp [Value.oneCell'])))
   refine e_sat (.ex q (.ex o (.all ?_)))
   (try simp only [ca_, na_, -eq_self])
   refine .pu rfl ?_
   (repeat (first | exact .refl | exact .nil | (apply Imp.pick; (focus ((repeat constructor); done))) | refine .drop ?_))
 intro ds z
 refine e_ex .here fun q => e_ex .here fun o => e_all .here ?_
 obtain ⟨⟨a1, c1⟩, ⟨a2, c2⟩⟩ := q
 (try simp only [ca_, na_, -eq_self])
 refine e_pu .here fun hz2 => ?_
 subst hz2
 (try dsimp only)
 refine e_slfacts (by (repeat constructor) : Pick _ (Sl 2 52 a1 c1 R.X.length (R.X.flatMap pFd)) _) fun _ _ _ hs => ?_
 refine e_slfacts (by (repeat constructor) : Pick _ (Sl 1 5 a2 c2 R.D.length (R.D.map Sl.B)) _) fun _ k2 k3 k4 => ?_
 have hRD := rd_sl (W := W) (e := 5) (a := a2) (cap := c2) (n := R.D.length) (cs := R.D.map Sl.B) (by rw [List.length_map]) k4
 have hb0 : a2 = none -> R.D.length = 0 := fun c => by
  rcases Nat.eq_zero_or_pos R.D.length with h | h
  ·exact h
  ·obtain ⟨g, hg⟩ := k4 h; rw [hg] at c; cases c
 have hid := identity (W := W) (st := 200) (most := 100) (cx := c1) (cd := c2) (U := .ok (kA, 1)) (rdF_any (c := c1) hs) hkz hRD hb0 (by rw [hkA]; omega) (fun v _ _ h0 h1 h2 => unpack_ hRD k2 h2 h0 h1 (by rw [hkA]; exact hur))
 rw [hkC, hkA, idR_gz (by decide) (by decide) hgl] at hid
 rw [hkA]
 (((refine' e_opN (v_ldAgg ?hn) ?hi ?_); (case hi => exact .pick (by repeat constructor) .nil); (case hn => rfl)))
 refine e_call hid (.cons (by repeat constructor) (.cons (by repeat constructor) .nil)) fun r => ?_
 obtain ⟨ua, uc⟩ := r
 (try simp only [ca_, na_, -eq_self])
 (try dsimp only)
 refine e_opN (v_ext (v := .slice ua kA.length uc) rfl) .nil ?_
 refine e_opN (v_ext (v := .int .i64 0) rfl) .nil ?_
 (refine' e_call (accept (s := kQ)) ?hp fun _ => ?_; (case hp => (repeat (first | exact Picks.nil | (apply Picks.cons; (focus repeat constructor))))); (try simp only [ca_, na_, Bool.not_true, Bool.not_false]))
 rename_i gq
 refine e_call (choose (l := [(kAE, kQ)]) (c := 1) rdF_pt (by decide)) (.cons (by repeat constructor) .nil) fun _ => ?_
 rw [hc2]
 (try simp only [ca_, na_, -eq_self])
 refine e_opN (v_streq (m := kIdn)) .nil ?_
 rw [dT_ rfl]
 refine e_gdT ?_
 (refine' e_call (accept (s := kGz)) ?hp fun _ => ?_; (case hp => (repeat (first | exact Picks.nil | (apply Picks.cons; (focus repeat constructor))))); (try simp only [ca_, na_, Bool.not_true, Bool.not_false]))
 rename_i gr
 refine e_gdT ?_
 refine e_call (choose (l := [(kAE, kGz)]) (c := 1) rdF_pt (by decide)) (.cons (by repeat constructor) .nil) fun _ => ?_
 rw [hc3]
 (try simp only [ca_, na_, -eq_self])
 refine e_gdT ?_
 refine e_opN (v_streq (m := kGz)) .nil ?_
 rw [dT_ rfl]
 refine e_opN v_pickT .nil ?_; refine e_gdT ?_; refine e_opN v_fa0 .nil ?_; refine e_gdT ?_; (((refine' e_opN (v_ldN ?hc) ?hi ?_); (case hi => exact .pick (by repeat constructor) .nil); (case hc => repeat constructor))); refine e_gdT ?_; refine e_opN v_len .nil ?_; refine e_gdT ?_
 refine e_opN v_lss .nil ?_
 rw [dT_ (by omega)]
 refine e_opN v_pickT .nil ?_; refine e_gdT ?_; refine e_gdT ?_
 (refine' e_call (num19) ?hp fun _ => ?_; (case hp => (repeat (first | exact Picks.nil | (apply Picks.cons; (focus repeat constructor))))); (try simp only [ca_, na_, Bool.not_true, Bool.not_false]))
 refine e_gdT ?_
 refine e_opN v_eql .nil ?_
 rw [dT_ rfl]
 refine e_opN v_pickT .nil ?_; refine e_gdT ?_; refine e_gdT ?_
 refine e_slfacts (by (repeat constructor) : Pick _ (Sl 1 5 ua uc kA.length (kA.map Sl.B)) _) fun _ _ _ hs5 => ?_
 refine e_opN (v_str (rd_sl (W := W) (e := 5) (a := ua) (cap := uc) (n := kA.length) (cs := kA.map Sl.B) (by rw [List.length_map]) hs5) (fun c => by obtain ⟨g, hg⟩ := hs5 (by decide); rw [hg] at c; cases c)) (.pick (by repeat constructor) .nil) ?_
 refine e_gdT ?_; refine e_opN v_fa0 .nil ?_; refine e_gdT ?_; (((refine' e_opN (v_ldN ?hc) ?hi ?_); (case hi => exact .pick (by repeat constructor) .nil); (case hc => repeat constructor))); refine e_gdT ?_
 refine e_opN (v_str hD2 (fun c => by cases c)) (.pick (by repeat constructor) .nil) ?_
 refine e_gdT ?_
 refine e_opN v_streq .nil ?_
 rw [dT_ rfl]
 refine e_opN v_pickT .nil ?_
 (first | refine e_ret (()) rfl ?_ | refine e_retT (()) ?_)
 (repeat (first | exact .refl | exact .nil | (apply Imp.pick; (focus ((repeat constructor); done))) | refine .drop ?_))
end Go.Proofs.YtndojgomlkpeaaaGreatDoor.FD
namespace Go.Proofs.YtndojgomlkpeaaaGreatDoor.Sl
open Go Go.RowKit Sh
variable {P:Program} {H:Type} {enc:TypeId × Value->H} {W:World}
theorem Old.flat {α:Type}{s n:Nat}{f:α->List Value}{a:Option Addr}{xs:List α}(hf:∀x,(f x).length=s)(h0:0<s)(h:Old W s (fun x cs=>cs=f x) a n xs)(A:HP):RdB W A a (n * s) (xs.flatMap f):=by
 have hl:=h.len
 refine⟨by rw[flat_len hf,hl],fun hn=>?_⟩
 obtain⟨g,o,rfl,hg,hc⟩:=h.at_ (by
  rcases Nat.eq_zero_or_pos n with z|z
  ·subst z;simp at hn
  ·exact z)
 refine⟨g,o,rfl,fun w L hw j v hv=>?_⟩
 have hj:j<xs.length * s:=by
  rcases Nat.lt_or_ge j (xs.flatMap f).length with c|c
  ·rwa [flat_len hf]at c
  ·rw[List.getElem?_eq_none c]at hv;cases hv
 have hi:j / s<xs.length:=Nat.div_lt_of_lt_mul (by rwa [Nat.mul_comm]at hj)
 have hm:j%s<s:=Nat.mod_lt _ h0
 have hd:j=j / s * s+j%s:=by rw[Nat.mul_comm];exact(Nat.div_add_mod j s).symm
 obtain⟨cs,h1,h2,h3⟩:=hc (j / s) hi
 subst h2
 rw[hd,flat_get hf xs _ _ hi hm]at hv
 have:=h3 (j%s) v hv
 rw[hw.base.cell (p:=⟨g,o+j,none⟩) hg]
 rwa [<- hd]at this
end Go.Proofs.YtndojgomlkpeaaaGreatDoor.Sl
namespace Go.Proofs.YtndojgomlkpeaaaGreatDoor.FD
open Go Go.Proofs Go.RowKit Go.ChangeShapes Sh Sl T
theorem witness_row_shaped {H : Type} {enc : TypeId × Value → H} {C : Checked} {os : Os} {f : FuncId} {fn : Func} {s : OpenSpec} {conds : List PathCond} {apart : Bool} {laid : List (String × DataW Unit)} (modest : Bool) (w0 : World) (args : Array Value) (hos : w0.os = os)
  (hsh : (w0.forCall (fun _ _ => 0) ⟨#[], args, []⟩).Shaped C.prog)
  (hok : Input.okWideB C.prog (w0.forCall (fun _ _ => 0) ⟨#[], args, []⟩) f ⟨#[], args, []⟩ = true)
  (hrow : s.preRow enc C.prog fn conds apart laid (w0.forCall (fun _ _ => 0) ⟨#[], args, []⟩).memory args) :
  ∃ (w : World) (tape : Tape) (i : Input), w.os = os ∧ (w.forCall tape i).Shaped C.prog ∧ i.vars = [] ∧ Input.okWide C.prog (w.forCall tape i) .any w.heap.size f i ∧
   s.preRow enc C.prog fn conds apart laid (w.forCall tape i).memory i.args ∧ ({ modest := modest } : Assume).holds C.prog (lone (Frame.enter C.prog f i.args .normal) [] (w.forCall tape i)) :=
 ⟨w0, fun _ _ => 0, ⟨#[], args, []⟩, hos, hsh, (Input.okWide_of_okWideB (base := 0) hok).1, (Input.okWide_of_okWideB hok).2, hrow, by
  simp only [Assume.holds]
  exact ⟨by simp, by simp, fun _ => Modest.zero, by simp, by simp⟩⟩
theorem laid_at {P:Program}{W:World}{n:String}{d:DataW Unit}:∀ {l:List (String × DataW Unit)} {ps:List MemPlace},DataW.LaidVars P W l ps->(n,d)∈l->
  ∃g t cs fuel p,P.globalNamed n=some g/\(P.globals[g]?).map (·.type)=some t/\W.var? P n=some cs/\DataW.trod (fun _=>()) P W 0 (fun _=>true) false fuel t cs.toList=some (d,p)
 |[],_,_,h=>by cases h
 |(n',d')::r,ps,h,hm=>by
  obtain⟨g,t,cs,fuel,p,q,h1,h2,h3,h4,h5,_⟩:=h
  rcases List.mem_cons.1 hm with e|hm
  ·obtain⟨rfl,rfl⟩:=Prod.mk.inj e
   exact⟨g,t,cs,fuel,p,h1,h2,h3,h4⟩
  ·exact laid_at h5 hm
set_option maxRecDepth 20000 in
theorem open_fd {H:Type}{enc:TypeId × Value->H}{W:World}{sp:Nat->Bool}{held:Bool}(n:Nat)(cs:List Value)(x:DataW H × List MemPlace)(h:DataW.trod enc p_ W 0 sp held n 52 cs=some x):∃a:Fd,cs=pFd a/\a.1.length+a.2.length+3<=Rows.uptoBulk x.1:=by
 obtain⟨xs,m,rfl,rfl,hl,hs,hf⟩:=DataW.trod_struct (fs:=#[⟨"Name",9,0,false,"","",0⟩,⟨"Value",9,1,false,"","",16⟩]) (by kernel_rfl) h
 rw[show p_.cellsOf 52=2 by kernel_rfl]at hl
 obtain⟨c0,c1,rfl⟩:∃c0 c1,cs=[c0,c1]:=by
  match cs,hl with
  |[a,b],_=>exact⟨a,b,rfl⟩
 obtain⟨x0,x1,rfl⟩:∃x0 x1,xs=[x0,x1]:=by
  match xs,hs with
  |[a,b],_=>exact⟨a,b,rfl⟩
 have e1:p_.cellsOf 9=1:=by kernel_rfl
 have f0:=hf 0 _ rfl
 have f1:=hf 1 _ rfl
 simp only[e1,List.drop_zero,List.drop_succ_cons,List.take_succ_cons,List.take_zero,List.getElem?_cons_zero,List.getElem?_cons_succ]at f0 f1
 obtain⟨n0,h0,hx0,_⟩:=DataW.trod_string (by kernel_rfl) f0
 obtain⟨n1,h1,hx1,_⟩:=DataW.trod_string (by kernel_rfl) f1
 have k0:c0= .string n0:=by injection h0
 have k1:c1= .string n1:=by injection h1
 subst k0;subst k1
 refine⟨(n0.data.toList,n1.data.toList),by unfold pFd txt;simp,?_⟩
 have h2:=(Prod.mk.inj hx0).1
 have h3:=(Prod.mk.inj hx1).1
 simp only[List.map_cons,List.map_nil,Rows.uptoBulk,Rows.uptoBulkAll]
 rw[h2,h3]
 simp[Rows.uptoBulk]
 omega
theorem z_sum (l:List Fd):(l.map fun f=>f.1.length+f.2.length+3).sum=zF l:=by
 induction l with
 |nil=>rfl
 |cons f r ih=>rw[List.map_cons,List.sum_cons,ih,zF_cons]
theorem mapM_get {α β:Type}{f:α->Option β}:∀ {l:List α} {ys:List β},l.mapM f=some ys->ys.length=l.length/\∀(i:Nat) (a:α),l[i]? =some a->∃y,ys[i]? =some y/\f a=some y
 |[],ys,h=>by
  simp at h
  subst h
  exact⟨rfl,fun i a hi=>by simp at hi⟩
 |a::l,ys,h=>by
  rw[List.mapM_cons]at h
  cases ha:f a with
  |none=>rw[ha]at h;cases h
  |some y=>
   cases hl:l.mapM f with
   |none=>rw[ha,hl]at h;cases h
   |some zs=>
    rw[ha,hl]at h
    have h:some (y::zs)=some ys:=h
    obtain rfl:=Option.some.inj h
    obtain⟨h1,h2⟩:=mapM_get hl
    refine⟨by rw[List.length_cons,List.length_cons,h1],fun i b hi=>?_⟩
    cases i with
    |zero=>exact⟨y,rfl,by rw[<- ha];congr 1;simpa using hi.symm⟩
    |succ i=>exact h2 i b (by simpa using hi)
theorem trod_arr {P:Program}{H:Type}{enc:TypeId × Value->H}{W:World}{sp:Nat->Bool}{held:Bool}{t e:TypeId}{n fuel:Nat}{cs:List Value}{x:DataW H × List MemPlace}(ht:P.underlying t=some (.array n e))(hce:P.cellsOf e=1)(h:DataW.trod enc P W 0 sp held fuel t cs=some x):
  ∃(xs:List (DataW H × List MemPlace)) (m:Nat),x.1= .agg (xs.map (·.1))/\xs.length=n/\∀i,i<n->∃y,xs[i]? =some y/\DataW.trod enc P W 0 sp held m e ((cs.drop i).take 1)=some y:=by
 cases fuel with
 |zero=>simp[DataW.trod]at h
 |succ m=>
  unfold DataW.trod at h
  rw[ht]at h
  simp only[hce,Nat.mul_one]at h
  split at h
  ·cases hm:(List.range n).mapM fun i=>DataW.trod enc P W 0 sp held m e ((cs.drop i).take 1)with
   |none=>rw[hm]at h;cases h
   |some xs=>
    rw[hm]at h
    have h:=Option.some.inj h
    obtain⟨h1,h2⟩:=mapM_get hm
    refine⟨xs,m,by rw[<- h],by rw[h1,List.length_range],fun i hi=>h2 i i (List.getElem?_range hi)⟩
  ·cases h
theorem gp_of {W:World}{l:List (String × DataW Unit)}(h:laidMet p_ l W)(hm:("internal/strconv.uint64pow10",Rows.laid_internal_strconv_uint64pow10)∈l):Gp W:=by
 obtain⟨ps,hv,_,_⟩:=h
 obtain⟨g,t,cs,fuel,p,h1,h2,h3,h4⟩:=laid_at hv hm
 obtain rfl:=Option.some.inj ((show p_.globalNamed "internal/strconv.uint64pow10" =some 1 by kernel_rfl).symm.trans h1)
 obtain rfl:=Option.some.inj ((show(p_.globals[1]?).map (·.type)=some 220 by kernel_rfl).symm.trans h2)
 obtain⟨xs,m,hx,hl,hf⟩:=trod_arr (n:=20) (e:=170) (by kernel_rfl) (by kernel_rfl) h4
 have key:∀j,j<20->cs[j]? =some (.int .u64 ((10^j:Nat):Int)):=by
  intro j hj
  obtain⟨y,hy,hyt⟩:=hf j hj
  have hlt:∃c,(cs.toList.drop j).take 1=[c]:=by
   cases hd:(cs.toList.drop j).take 1 with
   |nil=>rw[hd]at hyt;cases m <;> simp[DataW.trod]at hyt <;> (split at hyt <;> simp_all)
   |cons c r=>
    have:((cs.toList.drop j).take 1).length<=1:=by rw[List.length_take];omega
    rw[hd]at this
    simp at this
    subst this
    exact⟨c,rfl⟩
  obtain⟨c,hc⟩:=hlt
  rw[hc]at hyt
  obtain⟨n,h0,hx0,_⟩:=DataW.trod_int (by kernel_rfl:p_.underlying 170=some (.int .u64)) hyt
  have hcj:cs[j]? =some c:=by
   have:=congrArg (fun l=>l[0]?) hc
   simpa using this
  have hya:(xs.map (·.1))[j]? =some (.lit (.int .u64 n)):=by rw[List.getElem?_map,hy];simp only[Option.map_some];rw[(Prod.mk.inj hx0).1]
  have hlist:xs.map (·.1)=(List.range 20).map fun j=>(.lit (.int .u64 ((10^j:Nat):Int)):DataW Unit):=by
   have:(DataW.agg (xs.map (·.1)))= .agg ((List.range 20).map fun j=>(.lit (.int .u64 ((10^j:Nat):Int)):DataW Unit)):=by rw[<- hx];rfl
   injection this
  rw[hlist,List.getElem?_map,List.getElem?_range hj]at hya
  simp only[Option.map_some,Option.some.injEq,DataW.lit.injEq,Lit.int.injEq,true_and]at hya
  rw[hcj,hya]
  have:c= .int .u64 n:=by injection h0
  rw[this]
 have hc:=fun j=>World.var?_cell h1 h3 j
 refine⟨?_,fun j hj=>?_⟩
 ·have h0:=hc 0
  rw[key 0 (by decide)]at h0
  unfold World.cell? at h0
  rcases Nat.lt_or_ge 1 W.heap.size with c|c
  ·exact c
  ·rw[Array.getElem?_eq_none c]at h0;cases h0
 ·rw[hc j,key j hj]
set_option maxRecDepth 20000 in
theorem rs_cells {H:Type}{enc:TypeId × Value->H}{W:World}{sp:Nat->Bool}{held:Bool}(n:Nat)(cs:List Value)(x:DataW H × List MemPlace)(hl:DataW.trod enc p_ W 0 sp held n 25 cs=some x):
  ∃(st:Int) (a b:Option Addr) (c d:Nat) (l:List Fd) (D:List UInt8),cs=[.int .i64 st,.slice a l.length c,.slice b D.length d]/\(∀A,RdF W A a l)/\(a=none->l.length=0)/\(∀A,RdB W A b D.length (D.map Sl.B))/\(b=none->D.length=0)/\zF l+D.length+1<=Rows.uptoBulk x.1/\D.length<=d:=by
 obtain⟨xs,m,rfl,rfl,hsz,hs,hf⟩:=DataW.trod_struct (fs:=#[⟨"Status",3,0,false,"","",0⟩,⟨"Fields",22,1,false,"","",8⟩,⟨"Body",23,2,false,"","",32⟩]) (by kernel_rfl) hl
 rw[show p_.cellsOf 25=3 by kernel_rfl]at hsz
 obtain⟨c0,c1,c2,rfl⟩:∃c0 c1 c2,cs=[c0,c1,c2]:=by
  match cs,hsz with
  |[a,b,c],_=>exact⟨a,b,c,rfl⟩
 obtain⟨x0,x1,x2,rfl⟩:∃x0 x1 x2,xs=[x0,x1,x2]:=by
  match xs,hs with
  |[a,b,c],_=>exact⟨a,b,c,rfl⟩
 have e1:p_.cellsOf 3=1:=by kernel_rfl
 have e2:p_.cellsOf 22=1:=by kernel_rfl
 have e3:p_.cellsOf 23=1:=by kernel_rfl
 have f0:=hf 0 _ rfl
 have f1:=hf 1 _ rfl
 have f2:=hf 2 _ rfl
 simp only[e1,e2,e3,List.drop_zero,List.drop_succ_cons,List.take_succ_cons,List.take_zero,List.getElem?_cons_zero,List.getElem?_cons_succ]at f0 f1 f2
 obtain⟨st,h0,_,_⟩:=DataW.trod_int Tryz.underlying3 f0
 obtain⟨a,n,c,fs,e,g1,g2,g3,g4,g5⟩:=open_old (e:=52) (s:=2) (rd:=fun(x:Fd) cs=>cs=pFd x) (m:=fun f=>f.1.length+f.2.length+3) (by kernel_rfl) (by kernel_rfl) (by omega) (fun n cs x h=>open_fd n cs x h) f1
 obtain⟨b,d,D,j0,j1,j2,j3,j4,j5⟩:=open_bytes (e:=5) (by kernel_rfl) (by kernel_rfl) (by kernel_rfl) f2
 have hln:=g4.len
 subst hln
 rw[z_sum]at g5
 have k0:c0= .int .i64 st:=by injection h0
 have k1:c1= .slice a fs.length c:=by injection e
 have k2:c2= .slice b D.length d:=by injection j0
 subst k0;subst k1;subst k2
 refine⟨st,a,b,c,d,fs,D,rfl,fun A=>g4.flat (f:=pFd) (fun _=>rfl) (by omega) A,?_,j4,j3,?_,j1⟩
 ·intro ha
  rcases Nat.eq_zero_or_pos fs.length with z|z
  ·exact z
  ·obtain⟨g,o,hg,_⟩:=g4.at_ z;rw[hg]at ha;cases ha
 simp only[List.map_cons,List.map_nil,Rows.uptoBulk,Rows.uptoBulkAll]
 (try simp at g5)
 (try simp at j5)
 omega
theorem gl_of {W:World}{l:List (String × DataW Unit)}(h:laidMet p_ l W)(hm:("strconv.ErrRange",Rows.laid_strconv_ErrRange)∈l):Gl W:=by
 obtain⟨ps,hv,_,_⟩:=h
 obtain⟨g,t,cs,fuel,p,h1,h2,h3,h4⟩:=laid_at hv hm
 obtain rfl:=Option.some.inj ((show p_.globalNamed "strconv.ErrRange" =some 7 by kernel_rfl).symm.trans h1)
 obtain rfl:=Option.some.inj ((show(p_.globals[7]?).map (·.type)=some 124 by kernel_rfl).symm.trans h2)
 obtain⟨f1,u,v,hcs,_,_⟩:=iface_of_trod Tryz.underlying124 h4
 have hc:=World.var?_cell h1 h3 0
 have hc0:cs[0]? =some (.iface u v):=by
  rw[<- Array.getElem?_toList,hcs];rfl
 rw[hc0]at hc
 refine⟨?_,u,v,hc⟩
 unfold World.cell? at hc
 rcases Nat.lt_or_ge 7 W.heap.size with c|c
 ·exact c
 ·rw[Array.getElem?_eq_none c]at hc;cases hc
set_option maxRecDepth 20000 in
theorem open_fds {H:Type}{enc:TypeId × Value->H}{W:World}{sp:Nat->Bool}{held:Bool}{v:Value}{d:DataW H}{ps:List MemPlace}{r:Reach}{b0:Nat}(hval:Value.okWide p_ W r b0 22 v)(hd:DataW.Trod enc p_ W 0 sp held 22 v d ps):
  ∃(a:Option Addr) (c:Nat) (l:List Fd),v= .slice a l.length c/\(∀A,RdF W A a l)/\(a=none->l.length=0)/\zF l+1<=Rows.uptoBulk d:=by
 obtain⟨fuel,hf⟩:=open_slice (e:=52) (by kernel_rfl) hval hd
 obtain⟨a,n,c,l,e,g1,g2,g3,g4,g5⟩:=open_old (e:=52) (s:=2) (rd:=fun(x:Fd) cs=>cs=pFd x) (m:=fun f=>f.1.length+f.2.length+3) (by kernel_rfl) (by kernel_rfl) (by omega) (fun n cs x h=>open_fd n cs x h) hf
 have hl:=g4.len
 subst hl
 rw[z_sum]at g5
 refine⟨a,c,l,by injection e,fun A=>g4.flat (f:=pFd) (fun _=>rfl) (by omega) A,?_,by simp at g5;omega⟩
 intro ha
 rcases Nat.eq_zero_or_pos l.length with z|z
 ·exact z
 ·obtain⟨g,o,hg,_⟩:=g4.at_ z;rw[hg]at ha;cases ha
set_option maxRecDepth 20000 in
theorem open_rs {H:Type}{enc:TypeId × Value->H}{W:World}{sp:Nat->Bool}{held:Bool}{v:Value}{d:DataW H}{ps:List MemPlace}{r:Reach}{b0:Nat}(hval:Value.okWide p_ W r b0 25 v)(hd:DataW.Trod enc p_ W 0 sp held 25 v d ps):
  ∃(st:Int) (a b:Option Addr) (c k:Nat) (l:List Fd) (D:List UInt8),v= .agg #[.int .i64 st,.slice a l.length c,.slice b D.length k]/\(∀A,RdF W A a l)/\(a=none->l.length=0)/\(∀A,RdB W A b D.length (D.map Sl.B))/\(b=none->D.length=0)/\zF l+D.length+1<=Rows.uptoBulk d/\D.length<=k:=by
 obtain⟨cs,rfl,hsz⟩:=WideShapes.okWide_struct (fs:=#[⟨"Status",3,0,false,"","",0⟩,⟨"Fields",22,1,false,"","",8⟩,⟨"Body",23,2,false,"","",32⟩]) (by kernel_rfl) hval
 obtain⟨fuel,hf⟩:=hd
 obtain⟨l⟩:=cs
 rw[show(Value.agg ⟨l⟩).cells.toList=l from rfl]at hf
 obtain⟨st,a,b,c,k,X,D,h1,h2,h3,h4,h5,h6⟩:=rs_cells _ _ _ hf
 subst h1
 exact⟨st,a,b,c,k,X,D,rfl,h2,h3,h4,h5,h6⟩
end Go.Proofs.YtndojgomlkpeaaaGreatDoor.FD
namespace Go.Proofs.YtndojgomlkpeaaaGreatDoor.FD
open Go Go.Proofs Go.RowKit Sh Sl T IF GZ
theorem cn_imp {P:Program}{W:World}{α:Type}{f:FuncId}{args:List Value}{A A':List HP}{r:α->Value}{B B':α->List HP}(h:Cn P f args W A r B)(hi:∀F,Imp W (A'++F) (A++F))(ho:∀x F,Imp W (B x++F) (B' x++F)):Cn P f args W A' r B':=
 ⟨h.call,fun F w hw=>(h.run F w ((hi F).sat hw)).mono fun e w' ⟨x,he,hs⟩=>⟨x,he,(ho x F).sat hs⟩⟩
theorem copiedO {W:World}{st:Int}{l:List Fd}{D:List UInt8}{a b:Option Addr}{c d:Nat}(hA:∀A,RdF W A a l)(ha:a=none->l.length=0)(hl:l.length<=1099511627776)(hB:∀A,RdB W A b D.length (D.map Sl.B))(hb:b=none->D.length=0)(hD:D.length<=1099511627776):
  Cn p_ 7 [.agg #[.int .i64 st,.slice a l.length c,.slice b D.length d]] W [] (fun q:(Option Addr × Nat) × (Option Addr × Nat)=> .agg #[.int .i64 st,.slice q.1.1 l.length q.1.2,.slice q.2.1 D.length q.2.2])
   (fun q=>[Sl 2 52 q.1.1 q.1.2 l.length (l.flatMap pFd),Sl 1 5 q.2.1 q.2.2 D.length (D.map Sl.B)]):=
 cn_imp (copied (A:=pu True) (B:=pu True) (hA _) ha hl (hB _) hb hD) (fun F=> .pu trivial (.pu trivial .refl)) (fun x F=> .drop (.drop .refl))
theorem none0 {α:Type}{a:Option Addr}{l:List α}(h:0<l.length->∃g,a=some ⟨g,0,none⟩):a=none->l.length=0:=fun c=>by
 rcases Nat.eq_zero_or_pos l.length with h0|h0
 ·exact h0
 ·obtain⟨g,hg⟩:=h h0;rw[hg]at c;cases c
theorem applyS {W : World} [hG : Gl W] [hP : Gp W] {l X : List Fd} {D : List UInt8} {st level : Int} {al ax ad : Option Addr} {cl cx cd : Nat} (hl : ∀ A, RdF W A al l) (hl1 : zF l <= 1100000) (hX : zF X <= 1100000) (hs : 0 < X.length -> ∃ g, ax = some ⟨g, 0, none⟩) (hb : 0 < D.length -> ∃ g, ad = some ⟨g, 0, none⟩) (hD : D.length <= 1099511627776) :
  Cn p_ 14 [.slice al l.length cl, .agg #[.int .i64 st, .slice ax X.length cx, .slice ad D.length cd], .int .i64 level] W [Sl 2 52 ax cx X.length (X.flatMap pFd), Sl 1 5 ad cd D.length (D.map Sl.B)]
   (fun q : (Option Addr × Nat) × (Option Addr × Nat) => .agg #[.int .i64 st, .slice q.1.1 (appR l level st X D).X.length q.1.2, .slice q.2.1 (appR l level st X D).D.length q.2.2])
   (fun q => [Sl 2 52 ax cx X.length (X.flatMap pFd), Sl 1 5 ad cd D.length (D.map Sl.B), Sl 2 52 q.1.1 q.1.2 (appR l level st X D).X.length ((appR l level st X D).X.flatMap pFd), Sl 1 5 q.2.1 q.2.2 (appR l level st X D).D.length ((appR l level st X D).D.map Sl.B)]) :=
 cn_imp (apply (AL := pu True) (hl _) hl1 (rdF_any hs) (none0 hs) hX (rd_sl (e := 5) (a := ad) (cap := cd) (by rw [List.length_map]) hb) (none0 hb) hD) (fun F => .pu trivial .refl) (fun x F => .drop .refl)
theorem ttt {a:Int}{b:List Fd}{c:List UInt8}:(decide (a=a)&&(decide (b=b)&&decide (c=c)))=true:=by simp
def kce:List UInt8:=[99,111,110,116,101,110,116,45,101,110,99,111,100,105,110,103]
theorem wk_grow (f:Fd):(wkF f).1.length+(wkF f).2.length<=f.1.length+f.2.length+2:=by
 unfold wkF
 split
 ·rename_i h
  rw[Bool.and_eq_true]at h
  have h1:tagOk (tagV f.2)=true:=by
   cases hk:tagOk (tagV f.2)with
   |true=>rfl
   |false=>have:=h.1;unfold tagF at this;rw[hk]at this;cases this
  have h2:(tagF f.2).1.2=mid (tagV f.2):=by unfold tagF;rw[h1];rfl
  have h3:2<=(tagV f.2).length:=by
   unfold tagOk at h1
   rw[Bool.and_eq_true,decide_eq_true_eq]at h1
   exact h1.1.1
  have h4:(tagV f.2).length<=f.2.length:=by unfold tagV;split <;> simp
  rw[h2]
  unfold tagT mid sub
  simp only[if_true,List.length_append,List.length_cons,List.length_nil,List.length_take,List.length_drop]
  omega
 ·omega
theorem wk_z:∀l:List Fd,zF (l.map wkF)<=zF l+2 * l.length
 |[]=>by simp[zF]
 |f::r=>by
  have h1:=wk_grow f
  have h2:=wk_z r
  rw[List.map_cons,zF_cons,zF_cons,List.length_cons]
  omega
theorem app_z {l X:List Fd}{level st:Int}{D:List UInt8}(hX:zF X<=1048576):zF (appR l level st X D).X<=2097152:=by
 have h1:=vary_z X
 have key:pkE D level 0=0->zF (pakX (varyX X) (pkB D level 0))<=2097152:=fun hE=>by
  have h2:=wk_z (withF (varyX X) [kCL,kAR])
  have h3:=z_len (withF (varyX X) [kCL,kAR])
  have h4:zF (withF (varyX X) [kCL,kAR])<=zF (varyX X):=z_filter _ _
  have h5:=pk_len hE
  have h6:=dig_len (i:=((pkB D level 0).length:Int)) (by omega) (by omega)
  unfold pakX
  rw[z_app]
  have h7:zF [(kCE,kGz),(kCL,dig (pkB D level 0).length)]=16+4+3+(14+(dig (pkB D level 0).length).length+3+0):=rfl
  omega
 unfold appR
 split
 ·split
  ·split
   ·rename_i h
    exact key h
   ·show zF (varyX X)<=_
    omega
  ·show zF (varyX X)<=_
   omega
 ·show zF X<=_
  omega
def kvr:List UInt8:=[118,97,114,121]
def ketg:List UInt8:=[101,116,97,103]
theorem fitO {W:World}{st:Int}{X:List Fd}{D:List UInt8}{ax ad:Option Addr}{cx cd:Nat}(hA:∀A,RdF W A ax X)(hX:zF X<=1100000)(hD:D.length<=4611686018427387904):
  Cn p_ 18 [.agg #[.int .i64 st,.slice ax X.length cx,.slice ad D.length cd]] W [] (fun _:Unit=> .bool (fitB st X D)) (fun _=>[]):=
 cn_imp (fit (A:=pu True) (hA _) hX hD) (fun F=> .pu trivial .refl) (fun x F=> .drop .refl)
theorem sameR {W:World} {s t:Int} {l m:List Fd} {x y:List UInt8} {a b xa ya:Option Addr} {c d xc yc:Nat} (hA:∀A,RdF W A a l) (hB:0<m.length->∃g,b=some ⟨g,0,none⟩) (hl:l.length<=1099511627776) (hm:m.length<=1099511627776)
  (hC:∀A,RdB W A xa x.length (x.map Sl.B)) (hxa:xa=none->x.length=0) (hD:0<y.length->∃g,ya=some ⟨g,0,none⟩):
  Cn p_ 11 [.agg #[.int .i64 s,.slice a l.length c,.slice xa x.length xc],.agg #[.int .i64 t,.slice b m.length d,.slice ya y.length yc]] W [Sl 2 52 b d m.length (m.flatMap pFd),Sl 1 5 ya yc y.length (y.map Sl.B)] (fun _:Unit=> .bool (decide (s=t)&&(decide (l=m)&&decide (x=y)))) (fun _=>[]):=
 cn_imp (same18 (A:=pu True) (C:=pu True) (hA _) (rdF_any hB) hl hm (hC _) hxa (rd_sl (e:=5) (a:=ya) (cap:=yc) (by rw[List.length_map]) hD) (none0 hD)) (fun F=> .pu trivial (.pick .here (.pu trivial (.pick .here .refl)))) (fun x F=> .drop (.drop (.drop (.drop .refl))))
theorem codingVaries {W : World} [hG : Gl W] [hP : Gp W] {l X : List Fd} {D : List UInt8} {st level : Int} {al ax ad : Option Addr} {cl cx cd : Nat} (hl : ∀ A, RdF W A al l) (hl1 : zF l <= 1048576) (hA : ∀ A, RdF W A ax X) (ha : ax = none -> X.length = 0) (hX : zF X <= 1048576) (hB : ∀ A, RdB W A ad D.length (D.map Sl.B)) (hb : ad = none -> D.length = 0) (hD : D.length <= 1048576) :
  Cn p_ 5 [.slice al l.length cl, .agg #[.int .i64 st, .slice ax X.length cx, .slice ad D.length cd], .int .i64 level] W [] (fun _ : Unit => .bool true) (fun _ => []) := by
 have hzl := z_len X
 have lt9 : level.tmod 9 < 9 := Int.tmod_lt_of_pos level (by decide)
 have gt9 : -9 < level.tmod 9 := by have := Int.lt_tmod_of_pos level (show (0 : Int) < 9 by decide); omega
 obtain ⟨lv, hlv⟩ : ∃ lv, lv = 1 + (level.tmod 9 + 9) % 9 := ⟨_, rfl⟩
 have hz2 := app_z (l := l) (level := lv) (st := st) (D := D) hX
 have vce : ∀ Y, valsF Y kce = valsF Y kCE := fun Y => vals_lo (by decide)
 have vvr : ∀ Y, valsF Y kvr = valsF Y kVary := fun Y => vals_lo (by decide)
 have vet : ∀ Y, valsF Y ketg = valsF Y kETag := fun Y => vals_lo (by decide)
 (refine Shp.cn (Sg.g_ Tryz.call5 Tryz.func5 (an := { loops := [(8, [8, 10]), (12, [8, 12]), (19, [14])] })) fun F => ?_; simp only [ca_, na_])
 refine e_boxA fun b4 => ?_
 refine e_opN (v_remt (by decide)) .nil ?_
 refine e_opN (v_add (by omega) (by omega)) .nil ?_
 refine e_opN (v_rem (by omega) (by decide)) .nil ?_
 refine e_opN (v_add (by omega) (by omega)) .nil ?_
 rw [<- hlv]
 (((refine' e_opN (v_ldAgg ?hn) ?hi ?_); (case hi => exact .pick (by repeat constructor) .nil); (case hn => rfl)))
 refine e_call (copiedO (st := st) (c := cx) (d := cd) hA ha (by omega) hB hb (by omega)) .nil fun q => ?_
 obtain ⟨⟨p1, p2⟩, ⟨p3, p4⟩⟩ := q
 (try simp only [ca_, na_, -eq_self])
 (try dsimp only)
 refine e_slfacts (by (repeat constructor) : Pick _ (Sl 2 52 p1 p2 X.length (X.flatMap pFd)) _) fun _ _ _ s1 => ?_
 refine e_slfacts (by (repeat constructor) : Pick _ (Sl 1 5 p3 p4 D.length (D.map Sl.B)) _) fun _ _ _ s2 => ?_
 refine e_call (applyS (st := st) (level := lv) (cl := cl) (cx := p2) (cd := p4) hl (by omega) (by omega) s1 s2 (by omega)) (.cons (by repeat constructor) (.cons (by repeat constructor) .nil)) fun q => ?_
 obtain ⟨⟨q1, q2⟩, ⟨q3, q4⟩⟩ := q
 (try simp only [ca_, na_, -eq_self])
 (try dsimp only)
 have hoff : fitB st X D = false -> appR l lv st X D = ⟨X, D⟩ := fun h => app_off (.inr (.inr h))
 have hlis := lis_app (l := l) (level := lv) (st := st) (X := X) (D := D) (by omega) (by omega)
 have htag := fun t => app_tags (l := l) (level := lv) (st := st) (X := X) (D := D) (t := t)
 obtain ⟨R, hR⟩ : ∃ R, R = appR l lv st X D := ⟨_, rfl⟩
 rw [<- hR] at hoff hlis htag hz2 ⊢
 refine e_slfacts (by (repeat constructor) : Pick _ (Sl 2 52 q1 q2 R.X.length (R.X.flatMap pFd)) _) fun _ _ _ s3 => ?_
 refine e_slfacts (by (repeat constructor) : Pick _ (Sl 1 5 q3 q4 R.D.length (R.D.map Sl.B)) _) fun _ _ _ s4 => ?_
 refine e_newA fun g => ?_; (((refine' e_stAgg ?hp ?hn ?hv ?h1 ?_); (case hp => (repeat constructor)); (case hn => rfl); (case hv => rfl); (case h1 => simp [Value.oneCell']))); (((refine' e_opN (v_ldAgg ?hn) ?hi ?_); (case hi => exact .pick (by repeat constructor) .nil); (case hn => rfl)))
 rename Nat => b7
 refine e_call (fitO (st := st) (cx := cx) (cd := cd) (ad := ad) hA (by omega) (D := D) (by omega)) .nil fun _ => ?_
 (try simp only [ca_, na_, -eq_self])
 by_cases hf : fitB st X D = true
 rotate_left
 ·have hf2 : fitB st X D = false := by simpa using hf
  have hRR := hoff hf2
  rw [hf2]
  subst hRR
  (try dsimp only)
  refine e_opN v_notF .nil ?_; refine e_condT ?_; (((refine' e_opN (v_ldAgg ?hn) ?hi ?_); (case hi => exact .pick (by repeat constructor) .nil); (case hn => rfl))); (((refine' e_opN (v_ldAgg ?hn) ?hi ?_); (case hi => exact .pick (by repeat constructor) .nil); (case hn => rfl)))
  refine e_call (sameR (s := st) (t := st) (c := cx) (d := q2) (xc := cd) (yc := q4) hA s3 (by omega) (by omega) hB hb s4) (.cons (by repeat constructor) (.cons (by repeat constructor) .nil)) fun _ => ?_
  rw [ttt]
  (try simp only [ca_, na_, -eq_self])
  refine e_gdT ?_
  (refine' e_call (knows19) ?hp fun _ => ?_; (case hp => (repeat (first | exact Picks.nil | (apply Picks.cons; (focus repeat constructor))))); (try simp only [ca_, na_, Bool.not_true, Bool.not_false]))
  refine e_opN v_pickT .nil ?_
  (first | refine e_ret (()) rfl ?_ | refine e_retT (()) ?_)
  (repeat (first | exact .refl | exact .nil | (apply Imp.pick; (focus ((repeat constructor); done))) | refine .drop ?_))
 rw [hf]
 have hli := hlis hf
 clear hoff hlis
 have hzr := z_len R.X
 refine e_opN v_notT .nil ?_; refine e_condF ?_; refine e_opN v_fa0 .nil ?_; (((refine' e_opN (v_ldN ?hc) ?hi ?_); (case hi => exact .pick (by repeat constructor) .nil); (case hc => repeat constructor)))
 refine e_call (rvalues (n := kvr) (c := q2) (rdF_any (c := q2) s3) (z_ok hz2) (by decide)) (.cons (by repeat constructor) .nil) fun r => ?_
 rw [vvr]
 obtain ⟨va, vc⟩ := r
 (try simp only [ca_, na_, -eq_self])
 (try dsimp only)
 have hvl := vals_len R.X kVary
 have hz3 := zL_vals R.X kVary
 unfold lisB lisL at hli
 obtain ⟨V, hV⟩ : ∃ V, V = valsF R.X kVary := ⟨_, rfl⟩
 rw [<- hV] at hvl hz3 hli ⊢
 refine e_slfacts (by (repeat constructor) : Pick _ (Sl 1 9 va vc V.length (V.map txt)) _) fun _ _ _ hs => ?_
 have hN : RdB W (Sl 1 9 va vc V.length (V.map txt)) va V.length (V.map txt) := rd_sl (by rw [List.length_map]) hs
 refine e_loop2 (fun m x y => pu (∃ i : Nat, m + i = V.length /\ x = .bool (((V.take i).flatMap (spl 44)).any lisW) /\ y = .int .i64 (i : Int)) :: Sl 1 9 va vc V.length (V.map txt) :: Sl 2 52 q1 q2 R.X.length (R.X.flatMap pFd) :: pt b7 (.cells #[.int .i64 st, .slice q1 R.X.length q2, .slice q3 R.D.length q4] 25) :: F) V.length ?_ ?_
 ·refine .pu ⟨0, by omega, rfl, rfl⟩ ?_
  (repeat (first | exact .refl | exact .nil | (apply Imp.pick; (focus ((repeat constructor); done))) | refine .drop ?_))
 intro m ds x y
 refine e_pu .here fun hi => ?_
 obtain ⟨i, hmi, rfl, rfl⟩ := hi
 obtain ⟨bb, hbb⟩ : ∃ bb, bb = ((V.take i).flatMap (spl 44)).any lisW := ⟨_, rfl⟩
 rw [<- hbb]
 (try refine e_opN v_len .nil ?_)
 refine e_ask v_lss .nil (fun h => ?_) (fun h => ?_)
 ·have hin : i < V.length := by omega
  have hzm := zL_mem (List.getElem_mem hin)
  have hta := List.take_succ_eq_append_getElem hin
  obtain ⟨ng, rfl⟩ := hs (by omega)
  refine e_condT ?_
  refine e_opN (v_ia1 i rfl hin) .nil ?_
  refine e_opN (txt_at hN hin) (.pick (by repeat constructor) .nil) ?_
  refine e_call (split (l := V[i]) (c := 44) (by omega)) .nil fun r => ?_
  obtain ⟨wa, wc⟩ := r
  (try simp only [ca_, na_, -eq_self])
  (try dsimp only)
  obtain ⟨hPl, hPw⟩ := spl_num 44 _ V[i] (Nat.le_refl _)
  have hsu : ((V.take (i + 1)).flatMap (spl 44)).any lisW = (bb || (spl 44 V[i]).any lisW) := by rw [hta, List.flatMap_append, List.any_append, <- hbb]; simp
  obtain ⟨P, hP⟩ : ∃ P, P = spl 44 V[i] := ⟨_, rfl⟩
  rw [<- hP] at hPl hPw hsu ⊢
  refine e_slfacts (by (repeat constructor) : Pick _ (Sl 1 9 wa wc P.length (P.map txt)) _) fun _ _ _ hs2 => ?_
  have hN2 : RdB W (Sl 1 9 wa wc P.length (P.map txt)) wa P.length (P.map txt) := rd_sl (by rw [List.length_map]) hs2
  refine e_loop2 (fun m2 x y => pu (∃ j : Nat, m2 + j = P.length /\ x = .bool (bb || (P.take j).any lisW) /\ y = .int .i64 (j : Int)) :: Sl 1 9 wa wc P.length (P.map txt) :: Sl 1 9 (some ⟨ng, 0, none⟩) vc V.length (V.map txt) :: Sl 2 52 q1 q2 R.X.length (R.X.flatMap pFd) :: pt b7 (.cells #[.int .i64 st, .slice q1 R.X.length q2, .slice q3 R.D.length q4] 25) :: F) P.length ?_ ?_
  ·refine .pu ⟨0, by omega, by rw [List.take_zero, List.any_nil, Bool.or_false], rfl⟩ ?_
   (repeat (first | exact .refl | exact .nil | (apply Imp.pick; (focus ((repeat constructor); done))) | refine .drop ?_))
  intro m2 ds2 x2 y2
  refine e_pu .here fun hi => ?_
  obtain ⟨j, hmj, rfl, rfl⟩ := hi
  (try refine e_opN v_len .nil ?_)
  refine e_ask v_lss .nil (fun h2 => ?_) (fun h2 => ?_)
  ·have hjn : j < P.length := by omega
   obtain ⟨pg, rfl⟩ := hs2 (by omega)
   have htb := List.take_succ_eq_append_getElem hjn
   have hwl := hPw _ (List.getElem_mem hjn)
   obtain ⟨w, hw⟩ : ∃ w, w = P[j] := ⟨_, rfl⟩
   have hany : (bb || (P.take (j + 1)).any lisW) = ((bb || (P.take j).any lisW) || (decide (w = kStar) || eqlF w kAE)) := by rw [htb, List.any_append, <- hw]; simp [lisW, Bool.or_assoc]
   have ldj := txt_at hN2 hjn
   rw [<- hw] at hwl ldj
   refine e_condT ?_
   cases hc : (bb || (P.take j).any lisW) with
   | true =>
    rw [hc, Bool.true_or] at hany
    refine e_gdF1 ?_; refine e_gdF1 ?_; refine e_gdF1 ?_; refine e_gdF1 ?_; refine e_gdF1 ?_; refine e_opN v_pickT .nil ?_; refine e_gdF1 ?_; refine e_gdF1 ?_; refine e_gdF1 ?_; refine e_gdF1 ?_; refine e_gdF1 ?_; refine e_opN v_pickT .nil ?_; (refine e_opN (v_add (by omega) (by omega)) .nil ?_)
    (try refine e_opN (v_add (by omega) (by omega)) .nil ?_)
    refine e_next2 (m2 - 1) (by omega) (.pu ⟨j + 1, by omega, by rw [hany], by norm_cast⟩ ?_)
    (repeat (first | exact .refl | exact .nil | (apply Imp.pick; (focus ((repeat constructor); done))) | refine .drop ?_))
   | false =>
    rw [hc, Bool.false_or] at hany
    refine e_gdT ?_; refine e_gdT ?_; refine e_gdT ?_
    refine e_opN (v_ia1 j rfl hjn) .nil ?_
    refine e_gdT ?_
    refine e_opN ldj (.pick (by repeat constructor) .nil) ?_
    refine e_gdT ?_
    refine e_opN (v_streq (m := kStar)) .nil ?_
    by_cases k1 : w = kStar
    ·rw [dT_ k1, Bool.true_or] at hany
     rw [dT_ k1]
     refine e_opN v_pickF .nil ?_; refine e_gdF1 ?_; refine e_gdF1 ?_; refine e_gdF1 ?_; refine e_gdF1 ?_; refine e_gdF1 ?_; refine e_opN v_pickT .nil ?_; (refine e_opN (v_add (by omega) (by omega)) .nil ?_)
     (try refine e_opN (v_add (by omega) (by omega)) .nil ?_)
     refine e_next2 (m2 - 1) (by omega) (.pu ⟨j + 1, by omega, by rw [hany], by norm_cast⟩ ?_)
     (repeat (first | exact .refl | exact .nil | (apply Imp.pick; (focus ((repeat constructor); done))) | refine .drop ?_))
    rw [dF_ k1, Bool.false_or] at hany
    rw [dF_ k1]
    refine e_opN v_pickF .nil ?_; refine e_gdT ?_; refine e_gdT ?_; refine e_gdT ?_
    refine e_opN (v_ia1 j rfl hjn) .nil ?_
    refine e_gdT ?_
    refine e_opN ldj (.pick (by repeat constructor) .nil) ?_
    refine e_gdT ?_
    refine e_call (equal (a := w) (b := kAE) (by omega) (by decide)) .nil fun _ => ?_
    (try simp only [ca_, na_, -eq_self])
    rw [<- hany]
    refine e_opN v_pickF .nil ?_; (refine e_opN (v_add (by omega) (by omega)) .nil ?_)
    (try refine e_opN (v_add (by omega) (by omega)) .nil ?_)
    refine e_next2 (m2 - 1) (by omega) (.pu ⟨j + 1, by omega, rfl, by norm_cast⟩ ?_)
    (repeat (first | exact .refl | exact .nil | (apply Imp.pick; (focus ((repeat constructor); done))) | refine .drop ?_))
  ·have : j = P.length := by omega
   subst this
   rw [List.take_length, <- hsu]
   refine e_condF ?_
   refine e_opN (v_add (by omega) (by omega)) .nil ?_
   refine e_next2 (m - 1) (by omega) (.pu ⟨i + 1, by omega, rfl, by norm_cast⟩ ?_)
   (repeat (first | exact .refl | exact .nil | (apply Imp.pick; (focus ((repeat constructor); done))) | refine .drop ?_))
 ·have : i = V.length := by omega
  subst this
  rw [List.take_length, hli] at hbb
  subst hbb
  refine e_condF ?_
  refine e_opN v_notT .nil ?_; refine e_condF ?_; refine e_opN v_fa0 .nil ?_; (((refine' e_opN (v_ldN ?hc) ?hi ?_); (case hi => exact .pick (by repeat constructor) .nil); (case hc => repeat constructor)))
  refine e_call (rvalues (n := ketg) (c := q2) (rdF_any (c := q2) s3) (z_ok hz2) (by decide)) (.cons (by repeat constructor) .nil) fun r => ?_
  rw [vet]
  obtain ⟨ta, tc⟩ := r
  (try simp only [ca_, na_, -eq_self])
  (try dsimp only)
  have htl := vals_len R.X kETag
  have hzt := zL_vals R.X kETag
  obtain ⟨T, hT⟩ : ∃ T, T = valsF R.X kETag := ⟨_, rfl⟩
  rw [<- hT] at htl hzt htag ⊢
  refine e_slfacts (by (repeat constructor) : Pick _ (Sl 1 9 ta tc T.length (T.map txt)) _) fun _ _ _ hs5 => ?_
  have hN5 : RdB W (Sl 1 9 ta tc T.length (T.map txt)) ta T.length (T.map txt) := rd_sl (by rw [List.length_map]) hs5
  refine e_loop1 (fun m y => pu (∃ i : Nat, m + i = T.length /\ y = .int .i64 (i : Int)) :: Sl 1 9 ta tc T.length (T.map txt) :: Sl 2 52 q1 q2 R.X.length (R.X.flatMap pFd) :: pt b7 (.cells #[.int .i64 st, .slice q1 R.X.length q2, .slice q3 R.D.length q4] 25) :: F) T.length ?_ ?_
  ·refine .pu ⟨0, by omega, rfl⟩ ?_
   (repeat (first | exact .refl | exact .nil | (apply Imp.pick; (focus ((repeat constructor); done))) | refine .drop ?_))
  intro m3 ds3 y3
  refine e_pu .here fun hi => ?_
  obtain ⟨i, hmi3, rfl⟩ := hi
  (try refine e_opN v_len .nil ?_)
  refine e_opN v_lss .nil ?_
  by_cases hlt : (i : Int) < (T.length : Int)
  rotate_left
  ·rw [dF_ hlt]
   refine e_gdF2 ?_; refine e_gdF2 ?_; refine e_gdF2 ?_; refine e_gdF2 ?_; refine e_gdF2 ?_; refine e_opN v_pickF .nil ?_; refine e_condF ?_
   (refine' e_call (knows19) ?hp fun _ => ?_; (case hp => (repeat (first | exact Picks.nil | (apply Picks.cons; (focus repeat constructor))))); (try simp only [ca_, na_, Bool.not_true, Bool.not_false]))
   (first | refine e_ret (()) rfl ?_ | refine e_retT (()) ?_)
   (repeat (first | exact .refl | exact .nil | (apply Imp.pick; (focus ((repeat constructor); done))) | refine .drop ?_))
  rw [dT_ hlt]
  refine e_gdT ?_; refine e_opN v_fa0 .nil ?_; refine e_gdT ?_; (((refine' e_opN (v_ldN ?hc) ?hi ?_); (case hi => exact .pick (by repeat constructor) .nil); (case hc => repeat constructor))); refine e_gdT ?_
  refine e_call (rvalues (n := kce) (c := q2) (rdF_any (c := q2) s3) (z_ok hz2) (by decide)) (.cons (by repeat constructor) .nil) fun r => ?_
  rw [vce]
  obtain ⟨ea, ec⟩ := r
  (try simp only [ca_, na_, -eq_self])
  (try dsimp only)
  refine e_gdT ?_; refine e_opN v_len .nil ?_; refine e_gdT ?_
  refine e_opN v_gtr .nil ?_
  by_cases hce : valsF R.X kCE = []
  ·rw [hce, dF_ (by simp)]
   refine e_opN v_pickT .nil ?_; refine e_condF ?_
   (refine' e_call (knows19) ?hp fun _ => ?_; (case hp => (repeat (first | exact Picks.nil | (apply Picks.cons; (focus repeat constructor))))); (try simp only [ca_, na_, Bool.not_true, Bool.not_false]))
   (first | refine e_ret (()) rfl ?_ | refine e_retT (()) ?_)
   (repeat (first | exact .refl | exact .nil | (apply Imp.pick; (focus ((repeat constructor); done))) | refine .drop ?_))
  rw [dT_ (by have := List.length_pos_iff.2 hce; omega)]
  have hin : i < T.length := by omega
  obtain ⟨tg, rfl⟩ := hs5 (by omega)
  have hmem := List.getElem_mem hin
  have hzm := zL_mem hmem
  have hwk := htag T[i] hf hce hmem
  have ldi := txt_at hN5 hin
  obtain ⟨v, hv⟩ : ∃ v, v = T[i] := ⟨_, rfl⟩
  rw [<- hv] at hzm hwk ldi
  refine e_opN v_pickT .nil ?_; refine e_condT ?_
  refine e_opN (v_ia1 i rfl hin) .nil ?_
  refine e_opN ldi (.pick (by repeat constructor) .nil) ?_
  refine e_call (parseTag (l := v) (by omega)) .nil fun _ => ?_
  (try simp only [ca_, na_, -eq_self])
  refine e_opN (v_ext (v := vTag (tagF v).1) rfl) .nil ?_
  refine e_opN (v_ext (v := .int .i64 (if (tagF v).2 then 0 else 42)) rfl) .nil ?_
  obtain ⟨⟨⟨tw, tt⟩, tk⟩, ht⟩ : ∃ t, t = tagF v := ⟨_, rfl⟩
  rw [<- ht] at hwk ⊢
  (try dsimp only at hwk)
  (try dsimp only)
  unfold vTag
  refine e_newA fun g => ?_; (((refine' e_stAgg ?hp ?hn ?hv ?h1 ?_); (case hp => (repeat constructor)); (case hn => rfl); (case hv => rfl); (case h1 => (intro u hu; simp at hu; rcases hu with rfl | rfl <;> rfl))))
  (refine' e_call (num19) ?hp fun _ => ?_; (case hp => (repeat (first | exact Picks.nil | (apply Picks.cons; (focus repeat constructor))))); (try simp only [ca_, na_, Bool.not_true, Bool.not_false]))
  refine e_opN v_eql .nil ?_
  cases tk with
  | false =>
   rw [dF_ (by simp)]
   refine e_gdF2 ?_; refine e_gdF2 ?_; refine e_gdF2 ?_; refine e_opN v_pickF .nil ?_; refine e_condF ?_; (refine e_opN (v_add (by omega) (by omega)) .nil ?_)
   (try refine e_opN (v_add (by omega) (by omega)) .nil ?_)
   refine e_next1 (m3 - 1) (by omega) (.pu ⟨i + 1, by omega, by norm_cast⟩ ?_)
   (repeat (first | exact .refl | exact .nil | (apply Imp.pick; (focus ((repeat constructor); done))) | refine .drop ?_))
  | true =>
   obtain rfl : tw = true := hwk rfl
   rw [dT_ (by simp)]
   refine e_gdT ?_; refine e_opN v_fa0 .nil ?_; refine e_gdT ?_; (((refine' e_opN (v_ldN ?hc) ?hi ?_); (case hi => exact .pick (by repeat constructor) .nil); (case hc => repeat constructor))); refine e_gdT ?_; refine e_opN v_notT .nil ?_; refine e_opN v_pickT .nil ?_; refine e_condF ?_; (refine e_opN (v_add (by omega) (by omega)) .nil ?_)
   (try refine e_opN (v_add (by omega) (by omega)) .nil ?_)
   refine e_next1 (m3 - 1) (by omega) (.pu ⟨i + 1, by omega, by norm_cast⟩ ?_)
   (repeat (first | exact .refl | exact .nil | (apply Imp.pick; (focus ((repeat constructor); done))) | refine .drop ?_))
end Go.Proofs.YtndojgomlkpeaaaGreatDoor.FD
