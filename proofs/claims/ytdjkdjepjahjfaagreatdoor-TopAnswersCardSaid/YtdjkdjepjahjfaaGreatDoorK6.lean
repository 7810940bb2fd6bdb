/- What directives do to the configuration that grows: locations. (36 texts made one; each says below what it is.) -/
import Derived.Test.YtdjkdjepjahjfaaGreatDoorK5
set_option linter.unusedVariables false
set_option linter.unusedSimpArgs false
set_option linter.unusedSectionVars false
set_option maxRecDepth 9999
namespace Go.Proofs.YtdjkdjepjahjfaaGreatDoor.TP
open Go Go.Proofs Go.RowKit Sh Sl T FD
variable {W:World} {b n c:Nat} {s:Bs} {ln:Int} {a:Option Addr} {A:HP}
theorem pT (w:List UInt8):∀u∈([Value.agg (fq w).toArray].flatMap fun v=>v.cells.toList).toArray.toList,u.oneCell'=true:=by
 have:∀u∈fq w,u.oneCell'=true:=by simp[fq,Value.oneCell',ay]
 exact fun u hu=>this u hu
theorem rn {w:List UInt8}(hs:s.sv=true)(hl:s.lcs.length<=31)(hA:RdB W A a 1 ([w].map ay)):Cn p_ 326 [.pointer (some ⟨b,0,none⟩),.slice a 1 c] W [dp b s ln,A] (fun _:Unit=> .tuple #[]) (fun _=>[dp b {s with lcs:=s.lcs++[fq w]} ln,A]):=by
 obtain⟨ga,oa,rfl,_⟩:=hA.at_ (by omega)
 (refine Shp.cn (Sg.g_ Tryz.call326 Tryz.func326 (an:={drs:=[(0,(.op 0 2 (.op 2 2 (.op 7 2 (.op 8 3 (.op 9 3 (.op 10 3 (.alt ((.op 1 0 (.alt (.ofL [(3,0),(4,3),(5,3),(6,3),(11,0),(12,0),(13,1),(14,1),(15,0)]) (.ofL [(11,0),(3,0),(4,1),(5,1),(6,1),(12,0),(13,1),(14,1),(15,0)])))) (.ofL [(11,0),(1,0),(3,0),(4,1),(5,1),(6,1),(12,0),(13,1),(14,1),(15,0)])))))))))]}) (os:=[(0,[(1,[10,9,8]),(3,[10,9,8]),(11,[6,5,4])])])) fun F=>?_;simp only[ca_,na_])
 refine nV (by repeat constructor) fun q=>?_
 unfold mn
 rw[hs]
 refine a9 (by(repeat constructor):Pick _ (Sl 3 200 q.s.1 q.s.2 _ _) _) (Nat.zero_lt_one) fun g0 hg=>?_
 obtain⟨qu,qp,⟨s1,s2⟩,ql⟩:=q
 (try dsimp only at hg)
 subst hg
 refine am ?_
 (try dsimp only)
 rw[show B8 true s.lcs.length ql=[.slice none 0 0,.bool false,.slice ql.1 s.lcs.length ql.2]from rfl,show nS true=1 from rfl]
 refine aW ?_;(((refine' aq (bq 0 rfl ?hcq) .nil ?_);(case hcq=>(first|omega|decide|(simp;done)))))
 refine aq (dv (j:=0) hA (qw (ws:=[w]) (j:=0) (by simp))) az ?_
 refine aq bO .nil ?_
 refine ek ?_ ?_
 ·refine' ah (kB (b:=b) (s:=s) (ln:=ln) (q:=⟨qu,qp,(some ⟨g0,0,none⟩,s2),ql⟩) hs rfl) ?hp fun _=>?_
  case hp=>exact .cons (by repeat constructor) .nil
  refine am ?_
  refine bj ?_;refine bj ?_;refine bj ?_
  refine ek ?_ ?_
  ·refine' ah (kB (b:=b) (s:=s) (ln:=ln) (q:=⟨qu,qp,(some ⟨g0,0,none⟩,s2),ql⟩) hs rfl) ?hp fun _=>?_
   case hp=>exact .cons (by repeat constructor) .nil
   refine am ?_
   refine bj ?_;refine bj ?_;refine bj ?_;refine aq ag .nil ?_;refine aq ae .nil ?_;(((refine' aq (bw ?hc) ?hi ?_);(case hi=>exact az);(case hc=>rfl)))
   refine dS (n:=1) (vs:=[.agg (fq w).toArray]) rfl (by decide) rfl (by intro v hv;rw[List.mem_singleton.1 hv];rfl) (by decide) fun gb=>?_
   refine bj ?_;refine bj ?_;refine bj ?_
   refine bQ (m:=1) (news:=fq w) (by(repeat constructor):Pick _ (Sl 12 101 ql.1 ql.2 _ _) _) (bL (s:=12) (e':=101) (by kernel_rfl) (by(repeat constructor):Pick _ (pt gb _) _) (by rfl) (pT w)) (by omega) (by omega) fun a' c'=>?_
   refine t_ ag (t_ ae (d7 (by(repeat constructor):Pick _ (Sl 3 200 (some ⟨g0,0,none⟩) s2 _ _) _) (by simp) ?_))
   refine aR () ?_
   refine .ex ⟨qu,qp,(some ⟨g0,0,none⟩,s2),(a',c')⟩ (.all ?_)
   unfold mn kK
   rw[hs]
   refine am ?_
   rw[List.length_append,List.flatten_append,show [fq w].flatten=fq w from List.append_nil _]
   refine .pick (by repeat constructor) (.pick (by repeat constructor) (.pick (by repeat constructor) (.pick .here ?_)))
   exact az
  ·refine dS (n:=1) (vs:=[.agg (fq w).toArray]) rfl (by decide) rfl (by intro v hv;rw[List.mem_singleton.1 hv];rfl) (by decide) fun gb=>?_
   refine' ah (kB (b:=b) (s:=s) (ln:=ln) (q:=⟨qu,qp,(some ⟨g0,0,none⟩,s2),ql⟩) hs rfl) ?hp fun _=>?_
   case hp=>exact .cons (by repeat constructor) .nil
   refine am ?_
   refine bj ?_;refine bj ?_;refine bj ?_;refine t_ ag (t_ ae ?_);(((refine' be (bw ?hc) ?hi ?_);(case hi=>exact az);(case hc=>rfl)))
   refine bQ (m:=1) (news:=fq w) (by(repeat constructor):Pick _ (Sl 12 101 ql.1 ql.2 _ _) _) (bL (s:=12) (e':=101) (by kernel_rfl) (by(repeat constructor):Pick _ (pt gb _) _) (by rfl) (pT w)) (by omega) (by omega) fun a' c'=>?_
   refine t_ ag (t_ ae (d7 (by(repeat constructor):Pick _ (Sl 3 200 (some ⟨g0,0,none⟩) s2 _ _) _) (by simp) ?_))
   refine aR () ?_
   refine .ex ⟨qu,qp,(some ⟨g0,0,none⟩,s2),(a',c')⟩ (.all ?_)
   unfold mn kK
   rw[hs]
   refine am ?_
   rw[List.length_append,List.flatten_append,show [fq w].flatten=fq w from List.append_nil _]
   refine .pick (by repeat constructor) (.pick (by repeat constructor) (.pick (by repeat constructor) (.pick .here ?_)))
   exact az
 ·refine dS (n:=1) (vs:=[.agg (fq w).toArray]) rfl (by decide) rfl (by intro v hv;rw[List.mem_singleton.1 hv];rfl) (by decide) fun gb=>?_
  refine' ah (kB (b:=b) (s:=s) (ln:=ln) (q:=⟨qu,qp,(some ⟨g0,0,none⟩,s2),ql⟩) hs rfl) ?hp fun _=>?_
  case hp=>exact .cons (by repeat constructor) .nil
  refine am ?_
  refine bj ?_;refine bj ?_;refine bj ?_
  refine' ah (kB (b:=b) (s:=s) (ln:=ln) (q:=⟨qu,qp,(some ⟨g0,0,none⟩,s2),ql⟩) hs rfl) ?hp fun _=>?_
  case hp=>exact .cons (by repeat constructor) .nil
  refine am ?_
  refine bj ?_;refine bj ?_;refine bj ?_;refine t_ ag (t_ ae ?_);(((refine' be (bw ?hc) ?hi ?_);(case hi=>exact az);(case hc=>rfl)))
  refine bQ (m:=1) (news:=fq w) (by(repeat constructor):Pick _ (Sl 12 101 ql.1 ql.2 _ _) _) (bL (s:=12) (e':=101) (by kernel_rfl) (by(repeat constructor):Pick _ (pt gb _) _) (by rfl) (pT w)) (by omega) (by omega) fun a' c'=>?_
  refine t_ ag (t_ ae (d7 (by(repeat constructor):Pick _ (Sl 3 200 (some ⟨g0,0,none⟩) s2 _ _) _) (by simp) ?_))
  refine aR () ?_
  refine .ex ⟨qu,qp,(some ⟨g0,0,none⟩,s2),(a',c')⟩ (.all ?_)
  unfold mn kK
  rw[hs]
  refine am ?_
  rw[List.length_append,List.flatten_append,show [fq w].flatten=fq w from List.append_nil _]
  refine .pick (by repeat constructor) (.pick (by repeat constructor) (.pick (by repeat constructor) (.pick .here ?_)))
  exact az
theorem nf {pre:List (List Value)}{L:List Value}(hp:pre.flatten.length=pre.length * 12)(hL:L.length=12):(pre++[L]).flatten.length=pre.length * 12+12:=by
 rw[List.flatten_append,List.length_append,hp,show [L].flatten=L from List.append_nil _,hL]
theorem iW {pre:List (List Value)}{L:List Value}{i:Nat}{v:Value}(hp:pre.flatten.length=pre.length * 12)(hL:L.length=12)(hi:i<12):(pre++[L]).flatten.set (((pre++[L]).length-1) * 12+i) v=(pre++[L.set i v]).flatten:=by
 rw[List.flatten_append,List.flatten_append,show [L].flatten=L from List.append_nil _,show [L.set i v].flatten=L.set i v from List.append_nil _,show(pre++[L]).length-1=pre.length by simp,List.set_append_right _ _ (by omega),hp,show pre.length * 12+i-pre.length * 12=i by omega]
theorem dF {pre:List (List Value)}{L M:List Value}:(pre++[M]).length=(pre++[L]).length:=by simp
end Go.Proofs.YtdjkdjepjahjfaaGreatDoor.TP
namespace Go.Proofs.YtdjkdjepjahjfaaGreatDoor.TP
open Go Go.Proofs Go.RowKit Sh Sl T FD
variable {W:World} {b n c:Nat} {s:Bs} {ln:Int} {a:Option Addr} {A:HP} {pre:List (List Value)} {L:List Value}
theorem Ja (hs:s.sv=true)(he:s.lcs=pre++[L])(hL:L.length=12)(hl:s.lcs.length<=32){v:Value}:Cn p_ 219 [.pointer (some ⟨b,0,none⟩),v] W [dp b s ln] (fun _:Unit=> .tuple #[]) (fun _=>[dp b {s with lcs:=pre++[L.set 7 (.bool true)]} ln]):=by
 obtain⟨st,up,prs,sv,lcs⟩:=s
 dsimp only at hs he hl ⊢
 subst hs he
 have h0:0<(pre++[L]).length:=by simp
 (refine Shp.cn (Sg.g_ Tryz.call219 Tryz.func219) fun F=>?_;simp only[ca_,na_])
 refine nV (by repeat constructor) fun q=>?_
 unfold mn
 refine a9 (by(repeat constructor):Pick _ (Sl 3 200 q.s.1 q.s.2 _ _) _) Nat.zero_lt_one fun g0 hg=>?_
 refine a9 (by(repeat constructor):Pick _ (Sl 12 101 q.l.1 q.l.2 _ _) _) h0 fun gl hgl=>?_
 refine aP (by(repeat constructor):Pick _ (Sl 12 101 q.l.1 q.l.2 _ _) _) fun hfl _ _ _=>?_
 have hpf:pre.flatten.length=pre.length * 12:=by
  rw[List.flatten_append,List.length_append,List.length_append,show [L].flatten=L from List.append_nil _,hL]at hfl
  simp only[List.length_cons,List.length_nil]at hfl
  omega
 obtain⟨qu,qp,⟨s1,s2⟩,⟨l1,l2⟩⟩:=q
 (try dsimp only at hg hgl)
 subst hg hgl
 refine am ?_
 (try dsimp only)
 refine' ah (y9 (b:=b) (s:=⟨st,up,prs,true,pre++[L]⟩) (ln:=ln) (q:=⟨qu,qp,(some ⟨g0,0,none⟩,s2),(some ⟨gl,0,none⟩,l2)⟩) rfl rfl rfl h0 hl) ?hp fun _=>?_
 case hp=>exact .cons (by repeat constructor) (.cons (by repeat constructor) .nil)
 refine am ?_
 refine o_ ag (o_ dm (d7 (by(repeat constructor):Pick _ (Sl 12 101 (some ⟨gl,0,none⟩) l2 _ _) _) (by rw[nf hpf (by simp[hL])];simp only[List.length_append,List.length_cons,List.length_nil];omega) ?_))
 rw[show(pre++[L]).length=(pre++[L]).length from dF,iW hpf (by simp[hL]) (by omega)]
 refine aR () ?_
 refine .ex ⟨qu,qp,(some ⟨g0,0,none⟩,s2),(some ⟨gl,0,none⟩,l2)⟩ (.all ?_)
 unfold mn kK
 refine am ?_
 (try dsimp only)
 simp only[dF (M:=_) (L:=L)]
 exact az
theorem Jb {w:List UInt8}(hs:s.sv=true)(he:s.lcs=pre++[L])(hL:L.length=12)(hl:s.lcs.length<=32)(hA:RdB W A a 1 ([w].map ay)):Cn p_ 218 [.pointer (some ⟨b,0,none⟩),.slice a 1 c] W [dp b s ln,A] (fun _:Unit=> .tuple #[]) (fun _=>[dp b {s with lcs:=pre++[(L.set 1 (.int .i64 2)).set 6 (ay w)]} ln,A]):=by
 obtain⟨ga,oa,rfl,_⟩:=hA.at_ (by omega)
 obtain⟨st,up,prs,sv,lcs⟩:=s
 dsimp only at hs he hl ⊢
 subst hs he
 have h0:0<(pre++[L]).length:=by simp
 (refine Shp.cn (Sg.g_ Tryz.call218 Tryz.func218 (an:={drs:=[(0,.ofL [(0,1),(2,2),(4,2),(5,3),(6,3),(1,0),(3,0),(7,1),(8,1),(9,0),(10,1),(11,1),(12,0)])]}) (os:=[(0,[(1,[6,5]),(3,[6,5])])])) fun F=>?_;simp only[ca_,na_])
 refine nV (by repeat constructor) fun q=>?_
 unfold mn
 refine a9 (by(repeat constructor):Pick _ (Sl 3 200 q.s.1 q.s.2 _ _) _) Nat.zero_lt_one fun g0 hg=>?_
 refine a9 (by(repeat constructor):Pick _ (Sl 12 101 q.l.1 q.l.2 _ _) _) h0 fun gl hgl=>?_
 refine aP (by(repeat constructor):Pick _ (Sl 12 101 q.l.1 q.l.2 _ _) _) fun hfl _ _ _=>?_
 have hpf:pre.flatten.length=pre.length * 12:=by
  rw[List.flatten_append,List.length_append,List.length_append,show [L].flatten=L from List.append_nil _,hL]at hfl
  simp only[List.length_cons,List.length_nil]at hfl
  omega
 obtain⟨qu,qp,⟨s1,s2⟩,⟨l1,l2⟩⟩:=q
 (try dsimp only at hg hgl)
 subst hg hgl
 refine am ?_
 (try dsimp only)
 refine aW ?_;(((refine' aq (bq 0 rfl ?hcq) .nil ?_);(case hcq=>(first|omega|decide|(simp;done)))))
 refine aq (dv (j:=0) hA (qw (ws:=[w]) (j:=0) (by simp))) az ?_
 refine' ah (y9 (b:=b) (s:=⟨st,up,prs,true,pre++[L]⟩) (ln:=ln) (q:=⟨qu,qp,(some ⟨g0,0,none⟩,s2),(some ⟨gl,0,none⟩,l2)⟩) rfl rfl rfl h0 hl) ?hp fun _=>?_
 case hp=>exact .cons (by repeat constructor) (.cons (by repeat constructor) .nil)
 refine am ?_
 refine bj ?_;refine bj ?_
 refine' ah (y9 (b:=b) (s:=⟨st,up,prs,true,pre++[L]⟩) (ln:=ln) (q:=⟨qu,qp,(some ⟨g0,0,none⟩,s2),(some ⟨gl,0,none⟩,l2)⟩) rfl rfl rfl h0 hl) ?hp fun _=>?_
 case hp=>exact .cons (by repeat constructor) (.cons (by repeat constructor) .nil)
 refine am ?_
 refine bj ?_;refine bj ?_;refine t_ ag (t_ dm (d7 (by(repeat constructor):Pick _ (Sl 12 101 (some ⟨gl,0,none⟩) l2 _ _) _) (by rw[nf hpf (by simp[hL])];simp only[List.length_append,List.length_cons,List.length_nil];omega) ?_))
 rw[show(pre++[L]).length=(pre++[L]).length from dF,iW hpf (by simp[hL]) (by omega),show(pre++[L]).length=(pre++[L]).length from dF]
 refine t_ ag (t_ dm (d7 (by(repeat constructor):Pick _ (Sl 12 101 (some ⟨gl,0,none⟩) l2 _ _) _) (by rw[nf hpf (by simp[hL])];simp only[List.length_append,List.length_cons,List.length_nil];omega) ?_))
 rw[show(pre++[L]).length=(pre++[L.set 1 (.int .i64 2)]).length from dF,iW hpf (by simp[hL]) (by omega),show(pre++[L.set 1 (.int .i64 2)]).length=(pre++[L]).length from dF]
 refine aR () ?_
 refine .ex ⟨qu,qp,(some ⟨g0,0,none⟩,s2),(some ⟨gl,0,none⟩,l2)⟩ (.all ?_)
 unfold mn kK
 refine am ?_
 (try dsimp only)
 simp only[dF (M:=_) (L:=L)]
 exact az
theorem E0 [hG:Gl W]{w1 w2:List UInt8}{v:Int}(hs:s.sv=true)(he:s.lcs=pre++[L])(hL:L.length=12)(hl:s.lcs.length<=32)(hA:RdB W A a 2 ([w1,w2].map ay))(hw:w1.length<=65536)(hv:dh w1=(v,0)):Cn p_ 222 [.pointer (some ⟨b,0,none⟩),.slice a 2 c] W [dp b s ln,A] (fun _:Unit=> .tuple #[]) (fun _=>[dp b {s with lcs:=pre++[((L.set 1 (.int .i64 3)).set 10 (.int .i64 v)).set 11 (ay w2)]} ln,A]):=by
 obtain⟨ga,oa,rfl,_⟩:=hA.at_ (by omega)
 obtain⟨st,up,prs,sv,lcs⟩:=s
 dsimp only at hs he hl ⊢
 subst hs he
 have h0:0<(pre++[L]).length:=by simp
 (refine Shp.cn (Sg.g_ Tryz.call222 Tryz.func222 (an:={drs:=[(0,.ofL [(0,1),(2,2),(4,2),(5,2),(6,3),(7,3),(1,0),(3,0),(8,0),(9,1),(10,1),(11,0),(12,1),(13,1),(14,0)]),(2,.ofL [(0,1),(2,2),(3,3),(4,3),(1,0),(5,1),(6,1),(7,0)])]}) (os:=[(0,[(1,[7,6]),(3,[7,6])]),(2,[(1,[4,3])])])) fun F=>?_;simp only[ca_,na_])
 refine nV (by repeat constructor) fun q=>?_
 unfold mn
 refine a9 (by(repeat constructor):Pick _ (Sl 3 200 q.s.1 q.s.2 _ _) _) Nat.zero_lt_one fun g0 hg=>?_
 refine a9 (by(repeat constructor):Pick _ (Sl 12 101 q.l.1 q.l.2 _ _) _) h0 fun gl hgl=>?_
 refine aP (by(repeat constructor):Pick _ (Sl 12 101 q.l.1 q.l.2 _ _) _) fun hfl _ _ _=>?_
 have hpf:pre.flatten.length=pre.length * 12:=by
  rw[List.flatten_append,List.length_append,List.length_append,show [L].flatten=L from List.append_nil _,hL]at hfl
  simp only[List.length_cons,List.length_nil]at hfl
  omega
 obtain⟨qu,qp,⟨s1,s2⟩,⟨l1,l2⟩⟩:=q
 (try dsimp only at hg hgl)
 subst hg hgl
 refine am ?_
 (try dsimp only)
 refine aW ?_;(((refine' aq (bq 0 rfl ?hcq) .nil ?_);(case hcq=>(first|omega|decide|(simp;done)))))
 refine aq (dv (j:=0) hA (qw (ws:=[w1,w2]) (j:=0) (by simp))) az ?_
 refine' ah (y9 (b:=b) (s:=⟨st,up,prs,true,pre++[L]⟩) (ln:=ln) (q:=⟨qu,qp,(some ⟨g0,0,none⟩,s2),(some ⟨gl,0,none⟩,l2)⟩) rfl rfl rfl h0 hl) ?hp fun _=>?_
 case hp=>exact .cons (by repeat constructor) (.cons (by repeat constructor) .nil)
 refine am ?_
 refine bj ?_;refine bj ?_
 refine' ah (y9 (b:=b) (s:=⟨st,up,prs,true,pre++[L]⟩) (ln:=ln) (q:=⟨qu,qp,(some ⟨g0,0,none⟩,s2),(some ⟨gl,0,none⟩,l2)⟩) rfl rfl rfl h0 hl) ?hp fun _=>?_
 case hp=>exact .cons (by repeat constructor) (.cons (by repeat constructor) .nil)
 refine am ?_
 refine bj ?_;refine bj ?_
 refine' ah (kA (b:=b) hw hv) ?hp fun _=>?_
 case hp=>exact .nil
 refine am ?_
 refine t_ ag (t_ dm (d7 (by(repeat constructor):Pick _ (Sl 12 101 (some ⟨gl,0,none⟩) l2 _ _) _) (by rw[nf hpf (by simp[hL])];simp only[List.length_append,List.length_cons,List.length_nil];omega) ?_))
 rw[show(pre++[L]).length=(pre++[L]).length from dF,iW hpf (by simp[hL]) (by omega),show(pre++[L]).length=(pre++[L]).length from dF]
 refine t_ ag (t_ dm (d7 (by(repeat constructor):Pick _ (Sl 12 101 (some ⟨gl,0,none⟩) l2 _ _) _) (by rw[nf hpf (by simp[hL])];simp only[List.length_append,List.length_cons,List.length_nil];omega) ?_))
 rw[show(pre++[L]).length=(pre++[L.set 1 (.int .i64 3)]).length from dF,iW hpf (by simp[hL]) (by omega),show(pre++[L.set 1 (.int .i64 3)]).length=(pre++[L]).length from dF]
 refine o_ aI ?_;(((refine o_ (Sl.ce ?hcq) ?_);(case hcq=>(first|omega|(simp only[List.length_nil,List.length_cons];omega)))));refine ai (aW ?_);(((refine' aq (bq 1 rfl ?hcq) .nil ?_);(case hcq=>(first|omega|decide|(simp;done)))))
 refine aq (dv (j:=1) hA (qw (ws:=[w1,w2]) (j:=1) (by simp))) az ?_
 refine bf (M:=_) .refl ?_
 refine' ah (y9 (b:=b) (s:=⟨st,up,prs,true,pre++[L]⟩) (ln:=ln) (q:=⟨qu,qp,(some ⟨g0,0,none⟩,s2),(some ⟨gl,0,none⟩,l2)⟩) rfl rfl rfl h0 hl) ?hp fun _=>?_
 case hp=>exact .cons (by repeat constructor) (.cons (by repeat constructor) .nil)
 refine am ?_
 refine bj ?_;refine bj ?_;refine t_ ag (t_ dm (d7 (by(repeat constructor):Pick _ (Sl 12 101 (some ⟨gl,0,none⟩) l2 _ _) _) (by rw[nf hpf (by simp[hL])];simp only[List.length_append,List.length_cons,List.length_nil];omega) ?_))
 rw[show(pre++[L]).length=(pre++[(L.set 1 (.int .i64 3)).set 10 (.int .i64 v)]).length from dF,iW hpf (by simp[hL]) (by omega),show(pre++[(L.set 1 (.int .i64 3)).set 10 (.int .i64 v)]).length=(pre++[L]).length from dF]
 refine aR () ?_
 refine .ex ⟨qu,qp,(some ⟨g0,0,none⟩,s2),(some ⟨gl,0,none⟩,l2)⟩ (.all ?_)
 unfold mn kK
 refine am ?_
 (try dsimp only)
 simp only[dF (M:=_) (L:=L)]
 exact az
end Go.Proofs.YtdjkdjepjahjfaaGreatDoor.TP
namespace Go.Proofs.YtdjkdjepjahjfaaGreatDoor.TP
open Go Go.Proofs Go.RowKit Sh Sl T FD
theorem zb {s s':TS}{t:Tok}{r:List Tok}(h:pR s (t::r)=some s'):jG s=true/\∃s1,uE s t=some s1/\pR s1 r=some s':=by
 rw[pR]at h
 cases hs:uE s t with
 |none=>rw[hs]at h;cases h
 |some s1=>
  rw[hs]at h
  refine⟨?_,s1,rfl,h⟩
  unfold uE at hs
  split at hs
  ·assumption
  ·cases hs
theorem E1 {ts:List Tok}{i j:Nat}(hi:i<ts.length)(hj:j<3):(ts.flatMap kJ)[i * 3+j]? =(kJ ts[i])[j]? :=jR (f:=kJ) (s:=3) (fun _=>rfl) ts i j hi hj
theorem Cb {s:TS}{k j:Nat}:((s.upd k {s.nd k with block:=true}).nd j).kids=(s.nd j).kids:=by
 rw[we]
 split
 ·rename_i h;rw[h.1]
 ·rfl
theorem xK {gs:Nat->Nat}:I8 gs none= .pointer none:=rfl
theorem uH {gs:Nat->Nat}{k:Nat}:I8 gs (some k)= .pointer (some ⟨gs k,0,none⟩):=rfl
theorem UF {W:World}{l:List UInt8}{f0:Nat}{ts:List Tok}{s':TS}(hx:fp f0 1 l=some ts)(ha:∀c∈l,c.toNat<128)(hl:l.length<=65536)(htl:ts.length<=65536)(h:pR B4 ts=some s')(hn:s'.now=none)(ho:s'.opn=[0]):
  Cn p_ 138 [ay l] W [] (fun gs:Nat->Nat=>lC (gs 0)) (fun gs=>[y8 gs s']):=by
 (refine Shp.cn (Sg.g_ Tryz.call138 Tryz.func138 (an:={cuts:=[(14,[6]),(22,[5,6])],loops:=[(5,[5,6,21])],drs:=[(14,.ofL [(0,2),(1,2),(2,3),(3,3),(4,3),(5,1),(6,1),(7,0),(8,0),(9,1),(10,1),(11,0)])]}) (os:=[(14,[(7,[4,3,2])])])) fun F=>?_;simp only[ca_,na_])
 refine' ah (VS hx ha hl) ?hp fun rt=>?_
 case hp=>exact .nil
 refine am ?_
 refine bE ?_;refine bE ?_;refine o_ bO ?_;refine aX fun g=>?_;refine cI fun g=>?_;refine o_ aI ?_
 rename_i g0
 refine gC (fun m x y z=>[ex fun st:(Nat->Nat) × TS × AC × Nat=>all [pu (m+st.2.2.2=ts.length/\x= .slice st.2.2.1.1 st.2.1.opn.length st.2.2.1.2/\y=I8 st.1 st.2.1.now/\z= .int .i64 (st.2.2.2:Int)/\pR st.2.1 (ts.drop st.2.2.2)=some s'),y8 st.1 st.2.1,Sl 1 270 st.2.2.1.1 st.2.2.1.2 st.2.1.opn.length (st.2.1.opn.map fun k=>lC (st.1 k))]]++(Sl 3 360 rt.1 rt.2 ts.length (ts.flatMap kJ)::F)) ts.length ?_ ?_
 ·refine Imp.ex (fun _=>g0,B4,(some ⟨g,0,none⟩,1),0) (.all ?_)
  refine am ?_
  refine .pu ⟨rfl,rfl,rfl,rfl,h⟩ ?_
  unfold y8
  refine lK (n:=0) (F:=fun _=>pu True) (fun j hj=>by omega) (rX ?_)
  refine .ex ((none,0),(none,0)) (.all (.pick (by(repeat constructor):Pick _ (pt g0 (.cells #[.slice none 0 0,.int .i64 0,.bool false,.slice none 0 0] 269)) _) (bJ (bJ ?_))))
  refine wH (cs:=[lC g0]) .here rfl (by decide) ?_
  exact az
 intro m ds x y z
 refine am ?_
 refine a8 Pick.here fun st=>aB Pick.here ?_
 obtain⟨gs,s,o,i⟩:=st
 refine am ?_
 refine aT .here fun hi=>?_
 (try dsimp only at hi)
 obtain⟨hmi,rfl,rfl,rfl,hf⟩:=hi
 (try dsimp only)
 by_cases hlt:i<ts.length
 ·rw[List.drop_eq_getElem_cons hlt]at hf
  obtain⟨hok,s1,h1,h2⟩:=zb hf
  obtain⟨k1,k2,k3,k4,k5,k6⟩:=EW hok
  have htop:s.top<s.nodes.length:=k4 _ (List.mem_of_getElem? (xJ k1))
  obtain⟨go,hgo⟩:∃go,go=s.opn.length:=⟨_,rfl⟩
  refine a9 (by(repeat constructor):Pick _ (Sl 1 270 o.1 o.2 s.opn.length (s.opn.map fun k=>lC (gs k))) _) k1 fun ga hga=>?_
  refine a9 (by(repeat constructor):Pick _ (Sl 3 360 rt.1 rt.2 ts.length (ts.flatMap kJ)) _) (by omega) fun gt hgt=>?_
  refine aP (by(repeat constructor):Pick _ (Sl 1 270 o.1 o.2 s.opn.length (s.opn.map fun k=>lC (gs k))) _) fun _ ho2 _ _=>?_
  obtain⟨o1,o2⟩:=o
  obtain⟨rt1,rt2⟩:=rt
  (try dsimp only at hga hgt ho2)
  subst hga hgt
  (try dsimp only)
  refine o_ (Sl.bY (by omega)) ?_
  refine ai (o_ (dR i rfl hlt) ?_)
  refine aE (df (n:=3) (j:=i * 3) (vs:=kJ ts[i]) (d8 (n:=ts.length) (s:=3) (lL (f:=kJ) (s:=3) (fun _=>rfl) ts) fun _=>⟨gt,rfl⟩) rfl (fun j hj=>E1 hlt hj)) az ?_
  generalize ts[i]=t at h1
  rw[show(Value.agg (kJ t).toArray)= .agg #[.int .u8 (t.mark.toNat:Int),ay t.s,.int .i64 (t.line:Int)]from rfl]
  refine aU fun g=>?_;(((refine' aK ?hp ?hn ?hv ?h1 ?_);(case hp=>(repeat constructor));(case hn=>rfl);(case hv=>rfl);(case h1=>simp[Value.oneCell',ay])));refine o_ aI (rZ ?_)
  refine o_ (bq (s.opn.length-1) (by omega) (by omega)) ?_
  refine aE (bw (cs:=s.opn.map fun k=>lC (gs k)) (v:=lC (gs s.top)) (by rw[Nat.zero_add,List.getElem?_map,xJ k1];rfl)) az ?_
  unfold uE at h1
  rw[if_pos hok]at h1
  by_cases m0:t.mark=0
  ·have m0':t.mark.toNat=0:=by rw[m0];rfl
   rw[if_pos m0]at h1
   refine o_ bC (fJ (fun x y=>[pu False]) (fun ds x y=>aT .here fun h=>h.elim) ?_)
   refine o_ ae (aH ?_);(((refine o_ (Sl.ce ?hcq) ?_);(case hcq=>(first|omega|(simp only[List.length_nil,List.length_cons];omega)))));refine ai ?_
   rename_i gtk
   cases hnow:s.now with
   |none=>
    rw[hnow]at h1
    cases h1
    rw[xK]
    refine fS ?_
    refine o_ iG ?_;refine ai (o_ ae (aH ?_));refine o_ bO ?_;refine aX fun g=>?_
    refine gZ fun ds=>?_
    rename Nat=>gnd
    refine aW (aq ag .nil ?_);refine aq ae .nil ?_;(((refine' aq (aS ?hc) ?hi ?_);(case hi=>exact .pick (by repeat constructor) .nil);(case hc=>repeat constructor)));refine t_ ae (cm ?_);refine cI fun g=>?_;refine bj ?_;refine bj ?_;refine bj ?_
    refine bf (bJ (s:=1) (e:=9) .refl) ?_
    refine bQ (m:=1) (news:=[ay t.s]) .here (bL (s:=1) (e':=9) (by kernel_rfl) (by(repeat constructor):Pick _ (pt g _) _) (by rfl) (by intro u hu;rw[List.mem_singleton.1 hu];rfl)) (by omega) (by omega) fun a' c'=>?_
    refine t_ ag (t_ ae (bR ?_));refine bP ?_
    have hcong:(s.opn.map fun k=>lC (if k=s.nodes.length then gnd else gs k))=s.opn.map fun k=>lC (gs k):=List.map_congr_left fun k hk=>by rw[if_neg (by have:=k4 k hk;omega)]
    refine bf (M:=y8 gs s::GJ gs ⟨[t.s],t.line,false,[]⟩ gnd::Sl 1 270 (some ⟨ga,0,none⟩) o2 s.opn.length (s.opn.map fun k=>lC (gs k))::Sl 3 360 (some ⟨gt,0,none⟩) rt2 ts.length (ts.flatMap kJ)::F) ?_ ?_
    ·exact .pick (by repeat constructor) (.ex ((a',c'),(none,0)) (.all (.pick (by(repeat constructor):Pick _ (pt gnd _) _) (.pick .here (bJ az)))))
    refine bf (EX (fun i hi=>(k6 i hi).2.2) (by simp)) ?_
    refine cC (m-1) ?_ ?_
    ·omega
    refine .ex (fun i=>if i=s.nodes.length then gnd else gs i,{s with nodes:=s.nodes++[⟨[t.s],t.line,false,[]⟩],now:=some s.nodes.length},(some ⟨ga,0,none⟩,o2),i+1) (.all ?_)
    refine am ?_
    refine .pu ⟨by omega,rfl,by rw[uH,if_pos rfl],by simp,h2⟩ ?_
    (try dsimp only)
    rw[hcong]
    exact .pick .here az
   |some k=>
    rw[hnow]at h1
    cases h1
    have hk:=k5 k hnow
    have hkw:=(k6 k hk).1
    rw[uH]
    refine fS ?_
    refine o_ bM ?_;refine af (gZ fun ds=>?_)
    refine EU (i:=k) (by repeat constructor) hk fun w kk=>?_
    unfold y6
    refine aW (aq ag .nil ?_);refine aq ae .nil ?_;(((refine' aq (aS ?hc) ?hi ?_);(case hi=>exact .pick (by repeat constructor) .nil);(case hc=>repeat constructor)));refine t_ ae (cm ?_);refine cI fun g=>?_;refine bj ?_;refine bj ?_;refine bj ?_
    refine bQ (m:=1) (news:=[ay t.s]) (by(repeat constructor):Pick _ (Sl 1 9 w.1 w.2 _ _) _) (bL (s:=1) (e':=9) (by kernel_rfl) (by(repeat constructor):Pick _ (pt g _) _) (by rfl) (by intro u hu;rw[List.mem_singleton.1 hu];rfl)) (by omega) (by omega) fun a' c'=>?_
    refine t_ ag (t_ ae (bR ?_));refine bP ?_
    refine cC (m-1) ?_ ?_
    ·omega
    refine .ex (gs,s.upd k {s.nd k with words:=(s.nd k).words++[t.s]},(some ⟨ga,0,none⟩,o2),i+1) (.all ?_)
    refine am ?_
    refine .pu ⟨by omega,rfl,by(try dsimp only);rw[show(s.upd k {s.nd k with words:=(s.nd k).words++[t.s]}).now=s.now from rfl,hnow,uH],by simp,h2⟩ ?_
    (try dsimp only)
    refine EV (n:={s.nd k with words:=(s.nd k).words++[t.s]}) (w:=(a',c')) (k:=kk) hk (by unfold y6;rw[List.length_append];(repeat constructor)) (by rw[List.length_append,List.map_append];(repeat constructor)) (by repeat constructor) (by repeat constructor) ?_
    exact az
  rw[if_neg m0]at h1
  have m0':¬(t.mark.toNat:Int)=0:=fun e=>m0 (UInt8.toNat_inj.1 (by show t.mark.toNat=0;omega))
  by_cases m1:t.mark=125
  ·have m1':t.mark.toNat=125:=by rw[m1];rfl
   rw[if_pos m1]at h1
   split at h1
   rotate_left
   ·cases h1
   rename_i hc
   cases h1
   rw[hc.1,xK]
   refine o_ bC (fJ (fun x y=>[pu False]) (fun ds x y=>aT .here fun h=>h.elim) ?_)
   refine o_ ae (aH ?_);(((refine o_ (Sl.bA ?hcq) ?_);(case hcq=>(first|omega|(simp only[List.length_nil,List.length_cons];omega)))));refine af ?_;(((refine o_ (Sl.ce ?hcq) ?_);(case hcq=>(first|omega|(simp only[List.length_nil,List.length_cons];omega)))));refine ai (o_ iH ?_);refine ab (ab (o_ aI (ab ?_)));(((refine o_ (Sl.bA ?hcq) ?_);(case hcq=>(first|omega|(simp only[List.length_nil,List.length_cons];omega)))));refine o_ ak (bt B7 (.cons .here .nil) fun _=>?_)
   refine am ?_
   refine o_ aI (rZ ?_)
   refine o_ (mD (s.opn.length-1) (by omega) (by omega)) ?_
   refine bP ?_
   refine i9 (m:=s.opn.length-1) (by(repeat constructor):Pick _ (Sl 1 270 _ _ _ (s.opn.map fun k=>lC (gs k))) _) (by omega) ?_
   refine cC (m-1) ?_ ?_
   ·omega
   refine .ex (gs,{s with opn:=s.opn.dropLast},(some ⟨ga,0,none⟩,o2),i+1) (.all ?_)
   refine am ?_
   refine .pu ⟨by omega,by simp,by(try dsimp only);rw[hc.1,xK],by simp,h2⟩ ?_
   (try dsimp only)
   rw[List.length_dropLast,List.dropLast_eq_take,Nat.mul_one,<- List.map_take]
   exact az
  rw[if_neg m1]at h1
  have m1':¬(t.mark.toNat:Int)=125:=fun e=>m1 (UInt8.toNat_inj.1 (by show t.mark.toNat=125;omega))
  by_cases m2:t.mark=123
  ·have m2':t.mark.toNat=123:=by rw[m2];rfl
   rw[if_pos m2]at h1
   cases hnow:s.now with
   |none=>rw[hnow]at h1;cases h1
   |some k=>
    rw[hnow]at h1
    simp only at h1
    split at h1
    rotate_left
    ·cases h1
    rename_i hc
    cases h1
    have hk:=k5 k hnow
    rw[uH]
    refine o_ bC (n_ ?_)
    refine o_ ae (aH ?_);(((refine o_ (Sl.bA ?hcq) ?_);(case hcq=>(first|omega|(simp only[List.length_nil,List.length_cons];omega)))));refine af ?_;(((refine o_ (Sl.bA ?hcq) ?_);(case hcq=>(first|omega|(simp only[List.length_nil,List.length_cons];omega)))));refine af ?_;(((refine o_ (Sl.ce ?hcq) ?_);(case hcq=>(first|omega|(simp only[List.length_nil,List.length_cons];omega)))));refine ai (o_ bM ?_);refine ab (ab (o_ aI (ab ?_)));(((refine o_ (Sl.bA ?hcq) ?_);(case hcq=>(first|omega|(simp only[List.length_nil,List.length_cons];omega)))));refine o_ ak (bt B7 (.cons .here .nil) fun _=>?_)
    refine am ?_
    refine EU (i:=k) (by repeat constructor) hk fun w kk=>?_
    unfold y6
    refine o_ ag (o_ ae (bR ?_));refine cI fun g=>?_
    refine bQ (m:=1) (news:=[lC (gs k)]) (by(repeat constructor):Pick _ (Sl 1 270 (some ⟨ga,0,none⟩) o2 _ _) _) (bL (s:=1) (e':=270) (by kernel_rfl) .here (by rfl) (by intro u hu;rw[List.mem_singleton.1 hu];rfl)) (by omega) (by omega) fun a' c'=>?_
    refine gZ fun ds=>?_
    refine bf (EV (n:={s.nd k with block:=true}) (w:=w) (k:=kk) hk (by repeat constructor) (by repeat constructor) (by repeat constructor) (by repeat constructor) .refl) ?_
    have hkk:=Cb (s:=s) (k:=k) (j:=s.top)
    have htk:=(k6 _ htop).2.1
    obtain⟨s2,hs2⟩:∃s2,s2=s.upd k {s.nd k with block:=true}:=⟨_,rfl⟩
    have hl2:s2.nodes.length=s.nodes.length:=by rw[hs2,xI]
    have ht2:s2.top=s.top:=by rw[hs2];rfl
    rw[<- hs2]at hkk h2 ⊢
    refine EU (s:=s2) (i:=s.top) (by repeat constructor) (by omega) fun w2 kk2=>?_
    unfold y6
    rw[hkk,show lC (gs s.top)= .pointer (some ⟨gs s.top,0,none⟩)from rfl]
    refine o_ ag (o_ ae (aH ?_));refine cI fun g=>?_
    refine bQ (m:=1) (news:=[lC (gs k)]) (by(repeat constructor):Pick _ (Sl 1 270 kk2.1 kk2.2 _ _) _) (bL (s:=1) (e':=270) (by kernel_rfl) .here (by rfl) (by intro u hu;rw[List.mem_singleton.1 hu];rfl)) (by omega) (by omega) fun a2 c2=>?_
    refine o_ ag (o_ ae (bR ?_));refine bP ?_
    refine cC (m-1) ?_ ?_
    ·omega
    refine .ex (gs,{s2.kid k with opn:=s.opn++[k],now:=none},(a',c'),i+1) (.all ?_)
    refine am ?_
    refine .pu ⟨by omega,by simp,rfl,by simp,h2⟩ ?_
    (try dsimp only)
    change Imp W _ (y8 gs (s2.upd s2.top {s2.nd s2.top with kids:=(s2.nd s2.top).kids++[k]})::_)
    rw[ht2]
    refine EV (n:={s2.nd s.top with kids:=(s2.nd s.top).kids++[k]}) (w:=w2) (k:=(a2,c2)) (by omega) (by unfold y6;rw[List.length_append,hkk];(repeat constructor)) (by repeat constructor) (by rw[List.length_append,List.map_append,hkk];(repeat constructor)) (by repeat constructor) ?_
    rw[List.length_append,List.map_append]
    exact az
  rw[if_neg m2]at h1
  have m2':¬(t.mark.toNat:Int)=123:=fun e=>m2 (UInt8.toNat_inj.1 (by show t.mark.toNat=123;omega))
  split at h1
  rotate_left
  ·cases h1
  rename_i m3
  cases hnow:s.now with
  |none=>rw[hnow]at h1;cases h1
  |some k=>
   rw[hnow]at h1
   cases h1
   have hk:=k5 k hnow
   have m3':t.mark.toNat=59:=by rw[m3];rfl
   rw[uH]
   refine o_ bC (n_ ?_)
   refine o_ ae (aH ?_);(((refine o_ (Sl.bA ?hcq) ?_);(case hcq=>(first|omega|(simp only[List.length_nil,List.length_cons];omega)))));refine af ?_;(((refine o_ (Sl.bA ?hcq) ?_);(case hcq=>(first|omega|(simp only[List.length_nil,List.length_cons];omega)))));refine af ?_;(((refine o_ (Sl.bA ?hcq) ?_);(case hcq=>(first|omega|(simp only[List.length_nil,List.length_cons];omega)))));refine af (o_ bM ?_)
   refine bt B7 (.cons .here .nil) fun _=>?_
   refine am ?_
   refine gZ fun ds=>?_
   have htk:=(k6 _ htop).2.1
   refine EU (i:=s.top) (by repeat constructor) htop fun w2 kk2=>?_
   unfold y6
   rw[show lC (gs s.top)= .pointer (some ⟨gs s.top,0,none⟩)from rfl]
   refine o_ ag (o_ ae (aH ?_));refine cI fun g=>?_
   refine bQ (m:=1) (news:=[lC (gs k)]) (by(repeat constructor):Pick _ (Sl 1 270 kk2.1 kk2.2 _ _) _) (bL (s:=1) (e':=270) (by kernel_rfl) .here (by rfl) (by intro u hu;rw[List.mem_singleton.1 hu];rfl)) (by omega) (by omega) fun a2 c2=>?_
   refine o_ ag (o_ ae (bR ?_));refine bP ?_
   refine cC (m-1) ?_ ?_
   ·omega
   refine .ex (gs,{s.kid k with now:=none},(some ⟨ga,0,none⟩,o2),i+1) (.all ?_)
   refine am ?_
   refine .pu ⟨by omega,rfl,rfl,by simp,h2⟩ ?_
   (try dsimp only)
   change Imp W _ (y8 gs (s.upd s.top {s.nd s.top with kids:=(s.nd s.top).kids++[k]})::_)
   refine EV (n:={s.nd s.top with kids:=(s.nd s.top).kids++[k]}) (w:=w2) (k:=(a2,c2)) htop (by unfold y6;rw[List.length_append];(repeat constructor)) (by repeat constructor) (by rw[List.length_append,List.map_append];(repeat constructor)) (by repeat constructor) ?_
   change Imp W _ (Sl 1 _ _ _ s.opn.length (s.opn.map fun k=>lC (gs k))::_)
   exact az
 ·have hend:ts.drop i=[]:=List.drop_eq_nil_of_le (by omega)
  rw[hend]at hf
  cases hf
  rw[hn,ho]
  refine a9 (by(repeat constructor):Pick _ (Sl 1 270 o.1 o.2 [0].length ([0].map fun k=>lC (gs k))) _) (by simp) fun ga hga=>?_
  obtain⟨o1,o2⟩:=o
  (try dsimp only at hga)
  subst hga
  refine o_ (Sl.bF (by omega)) ?_
  rw[xK]
  refine af ?_;(((refine o_ (Sl.cf ?hcq) ?_);(case hcq=>(first|omega|(simp only[List.length_nil,List.length_cons];omega)))));refine ab (ab (o_ iH ?_));refine o_ ak (ab (ab (o_ aI (ab ?_))));(((refine o_ (Sl.cf ?hcq) ?_);(case hcq=>(first|omega|(simp only[List.length_nil,List.length_cons];omega)))));refine o_ ak (af ?_);(((refine' aE (bq 0 rfl ?hcq) .nil ?_);(case hcq=>(first|omega|decide|(simp;done)))));(((refine' aE (bw ?hc) ?hi ?_);(case hi=>exact az);(case hc=>rfl)))
  refine aR gs ?_
  exact az
abbrev FM:=List UInt8->Option Value
def Jc (b1 b2 b3 b4 b5 b6:Nat)(f:FM):FM:=dE (dE (dE (dE (dE (dE (dE (dE (dE (dE (dE (dE (f) [107,101,101,112] (some (dV [] 1 1 false false (j7 b1)))) [98,111,100,121] (some (dV [] 1 1 false false (j7 b2)))) [115,116,111,114,101] (some (dV [] 1 1 false false (j7 b3)))) [99,111,110,110,115] (some (dV [] 1 1 false false (j7 b4)))) [117,112,115,116,114,101,97,109] (some (dV [] 1 1 true true (fn 317)))) [112,101,101,114] (some (dV [117,112,115,116,114,101,97,109] 1 2 false true (fn 318)))) [116,105,109,101,111,117,116] (some (dV [117,112,115,116,114,101,97,109] 1 1 false false (j7 b5)))) [114,101,116,114,105,101,115] (some (dV [117,112,115,116,114,101,97,109] 1 1 false false (j7 b6)))) [115,101,114,118,101,114] (some (dV [] 0 0 true true (fn 322)))) [110,97,109,101] (some (dV [115,101,114,118,101,114] 1 65536 false true (fn 323)))) [100,101,102,97,117,108,116] (some (dV [115,101,114,118,101,114] 0 0 false false (fn 325)))) [108,111,99,97,116,105,111,110] (some (dV [115,101,114,118,101,114] 1 1 true true (fn 326)))
def Vz (c1 c2:Nat)(f:FM):FM:=dE (dE (dE (dE (dE (dE (dE (dE (f) [114,111,111,116] (some (dV m9 1 1 false false (fn 212)))) [105,110,100,101,120] (some (dV m9 1 1 false false (fn 214)))) [103,122,105,112] (some (dV m9 1 1 false false (j7 c1)))) [101,120,112,105,114,101,115] (some (dV m9 1 1 false false (j7 c2)))) [112,114,111,120,121] (some (dV m9 1 1 false false (fn 218)))) [99,97,99,104,101] (some (dV m9 0 0 false false (fn 219)))) [108,105,109,105,116] (some (dV m9 2 2 false false (fn 220)))) [114,101,116,117,114,110] (some (dV m9 1 2 false false (fn 222)))
theorem Jd {W:World}{g:Nat}{f:FM}:Cn p_ 210 [.map (some g)] W [bH g ay f] (fun _:(Nat × Nat × Nat) × Nat × Nat × Nat=> .tuple #[]) (fun x=>[bH g ay (Jc x.2.1 x.2.2.1 x.1.1 x.2.2.2 x.1.2.1 x.1.2.2 f),pt x.1.1 (.cells #[fn 315] 355),pt x.1.2.1 (.cells #[fn 320] 355),pt x.1.2.2 (.cells #[fn 321] 355)]):=by
 (refine Shp.cn (Sg.g_ Tryz.call210 Tryz.func210) fun F=>?_;simp only[ca_,na_])
 refine' ah (uF (f:=313)) ?hp fun b1=>?_
 case hp=>exact .nil
 unfold j7
 refine am ?_
 refine o_ bO ?_
 refine di (enc:=ay) (q:=[107,101,101,112]) (eX Tryz.underlying9) (by repeat constructor) ?_
 refine' ah (uF (f:=314)) ?hp fun b2=>?_
 case hp=>exact .nil
 unfold j7
 refine am ?_
 refine o_ bO ?_
 refine di (enc:=ay) (q:=[98,111,100,121]) (eX Tryz.underlying9) (by repeat constructor) ?_
 refine' ah (uF (f:=315)) ?hp fun b3=>?_
 case hp=>exact .nil
 unfold j7
 refine am ?_
 refine o_ bO ?_
 refine di (enc:=ay) (q:=[115,116,111,114,101]) (eX Tryz.underlying9) (by repeat constructor) ?_
 refine' ah (uF (f:=316)) ?hp fun b4=>?_
 case hp=>exact .nil
 unfold j7
 refine am ?_
 refine o_ bO ?_
 refine di (enc:=ay) (q:=[99,111,110,110,115]) (eX Tryz.underlying9) (by repeat constructor) ?_
 refine o_ bO ?_
 refine di (enc:=ay) (q:=[117,112,115,116,114,101,97,109]) (eX Tryz.underlying9) (by repeat constructor) ?_
 refine o_ bO ?_
 refine di (enc:=ay) (q:=[112,101,101,114]) (eX Tryz.underlying9) (by repeat constructor) ?_
 refine' ah (uF (f:=320)) ?hp fun b5=>?_
 case hp=>exact .nil
 unfold j7
 refine am ?_
 refine o_ bO ?_
 refine di (enc:=ay) (q:=[116,105,109,101,111,117,116]) (eX Tryz.underlying9) (by repeat constructor) ?_
 refine' ah (uF (f:=321)) ?hp fun b6=>?_
 case hp=>exact .nil
 unfold j7
 refine am ?_
 refine o_ bO ?_
 refine di (enc:=ay) (q:=[114,101,116,114,105,101,115]) (eX Tryz.underlying9) (by repeat constructor) ?_
 refine o_ bO ?_
 refine di (enc:=ay) (q:=[115,101,114,118,101,114]) (eX Tryz.underlying9) (by repeat constructor) ?_
 refine o_ bO ?_
 refine di (enc:=ay) (q:=[110,97,109,101]) (eX Tryz.underlying9) (by repeat constructor) ?_
 refine o_ bO ?_
 refine di (enc:=ay) (q:=[100,101,102,97,117,108,116]) (eX Tryz.underlying9) (by repeat constructor) ?_
 refine o_ bO ?_
 refine di (enc:=ay) (q:=[108,111,99,97,116,105,111,110]) (eX Tryz.underlying9) (by repeat constructor) ?_
 refine aR (((b3,b5,b6),b1,b2,b4)) ?_
 exact az
theorem Qb {W:World}:Cn p_ 137 [] W [] (fun x:Nat × (Nat × Nat × Nat) × Nat × Nat × Nat × Nat × Nat=> .map (some x.1)) (fun x=>[bH x.1 ay (Vz x.2.2.2.2.2.1 x.2.2.2.2.2.2 (Jc x.2.2.1 x.2.2.2.1 x.2.1.1 x.2.2.2.2.1 x.2.1.2.1 x.2.1.2.2 fun _=>none)),pt x.2.1.1 (.cells #[fn 315] 355),pt x.2.1.2.1 (.cells #[fn 320] 355),pt x.2.1.2.2 (.cells #[fn 321] 355)]):=by
 (refine Shp.cn (Sg.g_ Tryz.call137 Tryz.func137) fun F=>?_;simp only[ca_,na_])
 refine jt (P:=p_) (t:=265) (kt:=9) ay fun g=>?_
 refine de fun g=>?_;refine bR ?_;refine aH ?_
 rename Nat=>bx
 refine' ah (Jd (g:=g) (f:=fun _=>none)) ?hp fun x=>?_
 case hp=>exact .cons (by repeat constructor) .nil
 refine am ?_
 refine o_ bC (bt (uG (b:=bx) (g:=g)) (.cons (by repeat constructor) (.cons (by repeat constructor) .nil)) fun _=>?_)
 refine am ?_
 refine bt (uG (b:=bx) (g:=g)) (.cons (by repeat constructor) (.cons (by repeat constructor) .nil)) fun _=>?_
 refine am ?_
 refine' ah (uF (f:=216)) ?hp fun c1=>?_
 case hp=>exact .nil
 unfold j7
 refine am ?_
 refine bt (uG (b:=bx) (g:=g)) (.cons (by repeat constructor) (.cons (by repeat constructor) .nil)) fun _=>?_
 refine am ?_
 refine' ah (uF (f:=217)) ?hp fun c2=>?_
 case hp=>exact .nil
 unfold j7
 refine am ?_
 refine bt (uG (b:=bx) (g:=g)) (.cons (by repeat constructor) (.cons (by repeat constructor) .nil)) fun _=>?_
 refine am ?_
 refine bt (uG (b:=bx) (g:=g)) (.cons (by repeat constructor) (.cons (by repeat constructor) .nil)) fun _=>?_
 refine am ?_
 refine bt (uG (b:=bx) (g:=g)) (.cons (by repeat constructor) (.cons (by repeat constructor) .nil)) fun _=>?_
 refine am ?_
 refine bt (uG (b:=bx) (g:=g)) (.cons (by repeat constructor) (.cons (by repeat constructor) .nil)) fun _=>?_
 refine am ?_
 refine bt (uG (b:=bx) (g:=g)) (.cons (by repeat constructor) (.cons (by repeat constructor) .nil)) fun _=>?_
 refine am ?_
 refine aH ?_
 refine aR ((g,x.1,x.2.1,x.2.2.1,x.2.2.2,c1,c2)) ?_
 exact az
end Go.Proofs.YtdjkdjepjahjfaaGreatDoor.TP
namespace Go.Proofs.YtdjkdjepjahjfaaGreatDoor.Sl
open Go Go.RowKit Sh
theorem ji {P:Program}{W:World}{κ:Type}[DecidableEq κ]{t kt e:TypeId}{enc:κ->Value}{z:Value}{g:Nat}{f:κ->Option Value}{q:κ}[ht:MapT P t kt e][hz:ZeroT P e z](K:KeyLaw P kt enc):aQ P W [bH g enc f] (iE t (.map (some g)) (enc q) false) ((f q).getD z):=
 BG (S:=fun w=>(iE t (.map (some g)) (enc q) false).run P w= .ok (.value ((f q).getD z)) w) .here fun m _ hq w hw=>by
  rw[<- hq q]
  exact vv (m:=m) (q:=q) K w hw
theorem Je {P:Program}{W:World}{t:TypeId}{ox oy:Operand}{a b:Bool}(ht:P.underlying t=some .bool):aQ P W [] (dY .neq t ox oy (.bool a) (.bool b)) (.bool (decide (a≠b))):=fun w _=>by
 have h:(Op.equal t (.bool a) (.bool b)).run P w= .ok (a==b) w:=by
  unfold Op.equal Op.maxDepth Op.equalIn
  simp only[Sem.run_bind,run_underlying ht,Result.andThen_ok]
  rfl
 simp[dY,sv,eqGuard,binOp,h,Result.andThen]
 cases a <;> cases b <;> rfl
theorem GK {W:World}{α:Type}[Inhabited α]{A:Nat->α->HP}:∀(l:List Nat),l.Nodup->∀ {h:e8},all (l.map fun i=>ex (A i)) W h->∃f:Nat->α,all (l.map fun i=>A i (f i)) W h
 |[],_,h,_=>⟨fun _=>default,trivial⟩
 |i::l,hn,h,⟨h1,h2,⟨x,hx⟩,hl,d,t1,t2⟩=>by
  obtain⟨hi,hn⟩:=List.nodup_cons.1 hn
  obtain⟨f,hf⟩:=GK l hn hl
  refine⟨fun j=>if j=i then x else f j,h1,h2,by show A i (if i=i then x else f i) W h1;rw[if_pos rfl];exact hx,?_,d,t1,t2⟩
  have he:(l.map fun j=>A j (if j=i then x else f j))=l.map fun j=>A j (f j):=List.map_congr_left fun j hj=>by
   have:j≠i:=fun e=>hi (by rw[<- e];exact hj)
   rw[if_neg this]
  exact he▸hf
theorem Jf {W:World}{L L':List HP}{α:Type}[Inhabited α]{A:Nat->α->HP}{n:Nat}{S:WP}(p:Pick L (BS n fun i=>ex (A i)) L')(h:∀f:Nat->α,aJ W (BS n (fun i=>A i (f i))::L') S):aJ W L S:=
 a8 (A:=fun f:Nat->α=>BS n fun i=>A i (f i)) (L:=ex (fun f:Nat->α=>BS n fun i=>A i (f i))::L') (L':=L') .here (fun f=>h f) |> fun hh=>mC p (fun h H=>GK _ List.nodup_range H) hh
end Go.Proofs.YtdjkdjepjahjfaaGreatDoor.Sl
namespace Go.Proofs.YtdjkdjepjahjfaaGreatDoor.TP
open Go Go.Proofs Go.RowKit Sh Sl T FD
theorem jC {W:World}{a b c:Int}(h1:b<=a)(h2:a<=c):Cn p_ 209 [.int .i64 a,.int .i64 b,.int .i64 c] W [] (fun _:Unit=> .bool true) (fun _=>[]):=by
 (refine Shp.cn (Sg.g_ Tryz.call209 Tryz.func209) fun F=>?_;simp only[ca_,na_])
 (((refine o_ (Sl.iP ?hcq) ?_);(case hcq=>(first|omega|(simp only[List.length_nil,List.length_cons];omega)))));refine ab ?_;refine ab ?_;refine ab ?_;(((refine o_ (Sl.f7 ?hcq) ?_);(case hcq=>(first|omega|(simp only[List.length_nil,List.length_cons];omega)))));refine o_ av ?_
 refine aR () ?_
 exact .refl
def pU (l:List (List UInt8)):FM:=fun q=>if q∈l then some (.bool true)else none
theorem E2 {l:List (List UInt8)}{k:List UInt8}:dE (pU l) k (some (.bool true))=pU (l++[k]):=by
 funext q
 unfold dE pU
 by_cases h:q=k <;> simp[h]
def VT (gs:Nat->Nat)(n:NdR)(g:Nat)(q:AC × AC):HP:=all [pt g (.cells (y6 n q.1 q.2).toArray 269),Sl 1 9 q.1.1 q.1.2 n.words.length (n.words.map ay),Sl 1 270 q.2.1 q.2.2 n.kids.length (n.kids.map fun k=>lC (gs k))]
def zD (gs:Nat->Nat)(f:Nat->AC × AC)(s:TS):HP:=BS s.nodes.length fun i=>VT gs (s.nd i) (gs i) (f i)
theorem Qc {W:World}{L L':List HP}{gs:Nat->Nat}{s:TS}{S:WP}(p:Pick L (y8 gs s) L')(h:∀f,aJ W (zD gs f s::L') S):aJ W L S:=Jf p h
end Go.Proofs.YtdjkdjepjahjfaaGreatDoor.TP
namespace Go.Proofs.YtdjkdjepjahjfaaGreatDoor.TP
open Go Go.Proofs Go.RowKit Sh Sl T FD
variable {W:World} {L L':List HP} {gs:Nat->Nat} {f:Nat->AC × AC} {T:TS} {j:Nat}
theorem GL {S:WP}(p:Pick L (zD gs f T) L')(hj:j<T.nodes.length)(h:(0<(T.nd j).words.length->∃g,(f j).1.1=some ⟨g,0,none⟩)->(T.nd j).words.length<=(f j).1.2->(0<(T.nd j).kids.length->∃g,(f j).2.1=some ⟨g,0,none⟩)->aJ W L S):aJ W L S:=fun w hw=>by
 have hf:aJ W L (fun _=>(0<(T.nd j).words.length->∃g,(f j).1.1=some ⟨g,0,none⟩)/\(T.nd j).words.length<=(f j).1.2/\(0<(T.nd j).kids.length->∃g,(f j).2.1=some ⟨g,0,none⟩)):=by
  refine fY p j hj (aB .here ?_)
  refine am ?_
  refine aP (.there .here) fun _ a1 _ a2=>?_
  refine aP (.there (.there .here)) fun _ _ _ a3=>?_
  exact fun _ _=>⟨a2,a1,a3⟩
 obtain⟨h1,h2,h3⟩:=hf w hw
 exact h h1 h2 h3 w hw
theorem ru {t:TypeId}{o:Nat}{v:Value}[ht:OneT p_ t](hj:j<T.nodes.length)(hv:(y6 (T.nd j) (f j).1 (f j).2)[o]? =some v):aQ p_ W [zD gs f T] (aG t (.pointer (some ⟨gs j,o,none⟩))) v:=
 fY (S:=fun w=>(aG t (.pointer (some ⟨gs j,o,none⟩))).run p_ w= .ok (.value v) w) .here j hj (aB .here (by
  refine am ?_
  intro w hw
  exact iI (W:=W) (cs:=(y6 (T.nd j) (f j).1 (f j).2).toArray) (T:=269) (fz:=(0,0)) (by simpa using hv) w (hw.pick .here).only))
theorem Qd {t:TypeId}{g i:Nat}[ht:OneT p_ t](hj:j<T.nodes.length)(hg:(f j).2.1=some ⟨g,0,none⟩)(hi:i<(T.nd j).kids.length):aQ p_ W [zD gs f T] (aG t (.pointer (some ⟨g,0+i,none⟩))) (lC (gs (T.nd j).kids[i])):=
 fY (S:=fun w=>(aG t (.pointer (some ⟨g,0+i,none⟩))).run p_ w= .ok (.value (lC (gs (T.nd j).kids[i]))) w) .here j hj (aB .here (by
  refine am ?_
  rw[hg]
  intro w hw
  refine bw (cs:=(T.nd j).kids.map fun k=>lC (gs k)) (by simp[hi]) w ((hw.pick (.there (.there .here))).only)))
theorem Cc {g:Nat}(hj:j<T.nodes.length)(hg:(f j).1.1=some ⟨g,0,none⟩):RdB W (zD gs f T) (some ⟨g,0,none⟩) (T.nd j).words.length ((T.nd j).words.map ay):=⟨by simp,fun _=>⟨g,0,rfl,fun w L hw i v hv=>
 fY (S:=fun w=>w.cell? ⟨g,0+i,none⟩=some v) (L:=zD gs f T::L) .here j hj (aB .here (by
  refine am ?_
  rw[hg]
  intro w hw
  exact((gO (cap:=(f j).1.2) (n:=(T.nd j).words.length) (cs:=(T.nd j).words.map ay) (by simp) (fun _=>⟨g,rfl⟩)).at_ (by
   rcases Nat.eq_zero_or_pos (T.nd j).words.length with h|h
   ·have:(T.nd j).words=[]:=List.eq_nil_of_length_eq_zero h
    rw[this]at hv;simp at hv
   ·exact h)).elim fun g' h=>h.elim fun o' h=>by
    obtain⟨he,hc⟩:=h
    injection he with he;injection he with e1 e2;subst e1;subst e2
    exact hc w _ (hw.pick (.there .here)) i v hv)) w hw⟩⟩
end Go.Proofs.YtdjkdjepjahjfaaGreatDoor.TP
namespace Go.Proofs.YtdjkdjepjahjfaaGreatDoor.TP
open Go Go.Proofs Go.RowKit Sh Sl T FD
def pV:List UInt8:=[112,114,111,120,121]
def xL:List UInt8:=[114,101,116,117,114,110]
def Qe:List UInt8:=[114,111,111,116]
def mo (nm:List UInt8):List UInt8:=if nm=pV\/nm=xL then Qe else nm
structure cG where
 gs:Nat->Nat
 f:Nat->AC × AC
 T:TS
 b:Nat
 gd:Nat
 dir:FM
 R:HP
def GM (W:World)(E:cG)(k:Nat)(blk:List UInt8)(s s':Bs):Prop:=∀ln:Int,Cn p_ 136 [.pointer (some ⟨E.b,0,none⟩),.map (some E.gd),ay blk,.slice (E.f k).2.1 (E.T.nd k).kids.length (E.f k).2.2] W [dp E.b s ln,zD E.gs E.f E.T,bH E.gd ay E.dir,E.R] (fun _:Int=> .tuple #[]) (fun ln'=>[dp E.b s' ln',zD E.gs E.f E.T,bH E.gd ay E.dir,E.R])
structure StepC (W:World)(E:cG)(blk:List UInt8)(pre:List (List UInt8))(j:Nat)(nm:List UInt8)(s s1:Bs):Prop where
 hj:j<E.T.nodes.length
 ex:∃(ws:List (List UInt8)) (least most:Int) (many:Bool) (fid:FuncId) (cap:List Value) (sm:Bs),
  (E.T.nd j).words=nm::ws/\ws.length<=1000/\E.dir nm=some (dV blk least most (E.T.nd j).block many (.func (.func fid) #[] cap.toArray))/\least<=(ws.length:Int)/\(ws.length:Int)<=most/\(many=true\/mo nm∉pre)/\
  (∀(ln:Int) (a:Option Addr) (c:Nat) (A:HP),RdB W A a ws.length (ws.map ay)->Cn p_ fid ([.pointer (some ⟨E.b,0,none⟩),.slice a ws.length c]++cap) W [dp E.b s ln,A,E.R] (fun _:Unit=> .tuple #[]) (fun _=>[dp E.b sm ln,A,E.R]))/\GM W E j nm sm s1
inductive Steps (W:World)(E:cG)(blk:List UInt8):List (List UInt8)->List Nat->Bs->Bs->Prop
 |nil {pre:List (List UInt8)} {s:Bs}:Steps W E blk pre [] s s
 |cons {pre:List (List UInt8)} {j:Nat} {nm:List UInt8} {r:List Nat} {s s1 s2:Bs} (h:StepC W E blk pre j nm s s1) (t:Steps W E blk (pre++[mo nm]) r s1 s2):Steps W E blk pre (j::r) s s2
theorem wg {W:World}{E:cG}{blk:List UInt8}{pre:List (List UInt8)}{j:Nat}{r:List Nat}{s s2:Bs}(h:Steps W E blk pre (j::r) s s2):∃nm s1,StepC W E blk pre j nm s s1/\Steps W E blk (pre++[mo nm]) r s1 s2:=by
 cases h with
 |cons h t=>exact⟨_,_,h,t⟩
theorem zc {W:World}{E:cG}{blk:List UInt8}{pre:List (List UInt8)}{s s2:Bs}(h:Steps W E blk pre [] s s2):s2=s:=by
 cases h with
 |nil=>rfl
theorem E3 {pre:List (List UInt8)}{k:List UInt8}:(pU pre k).getD (.bool false)= .bool (decide (k∈pre)):=by
 unfold pU
 by_cases h:k∈pre <;> simp[h]
theorem build {W:World}{E:cG}{k:Nat}{blk:List UInt8}{s s':Bs}(hk:k<E.T.nodes.length)(hl:(E.T.nd k).kids.length<=1000)(h:Steps W E blk [] (E.T.nd k).kids s s'):GM W E k blk s s':=fun ln=>by
 obtain⟨gs,f,T,b,gd,dir,R⟩:=E
 dsimp only at hk hl h ⊢
 (refine Shp.cn (Sg.g_ Tryz.call136 Tryz.func136 (an:={cuts:=[(10,[15]),(12,[])],loops:=[(2,[19])],drs:=[(5,.ofL [(0,1),(1,1),(2,1),(3,1),(4,1),(5,1),(6,1),(7,1),(8,1),(9,1),(10,1),(11,1),(12,1)]),(10,.ofL [(0,1),(1,1),(2,1),(3,1),(4,1),(5,1),(6,1),(7,1),(8,1),(9,1),(10,1),(11,1),(12,1),(13,1),(14,1),(15,0),(16,1),(17,1),(18,1),(19,1),(20,1),(21,1),(22,1),(23,1),(24,1),(25,1),(26,1),(27,1),(28,1),(29,1),(30,1),(31,1),(32,1),(33,1),(34,1),(35,1),(36,1)])]})) fun F=>?_;simp only[ca_,na_])
 refine jt (P:=p_) (t:=343) (kt:=9) ay fun gm=>?_
 refine GL (j:=k) (by repeat constructor) hk fun _ _ hkk=>?_
 refine o_ aI (aY (fun m y=>[ex fun st:Nat × List (List UInt8) × Bs × Int=>all [pu (m+st.1=(T.nd k).kids.length/\y= .int .i64 (st.1:Int)/\Steps W ⟨gs,f,T,b,gd,dir,R⟩ blk st.2.1 ((T.nd k).kids.drop st.1) st.2.2.1 s'),dp b st.2.2.1 st.2.2.2,bH gm ay (pU st.2.1)]]++(zD gs f T::bH gd ay dir::R::F)) (T.nd k).kids.length ?_ ?_)
 ·refine Imp.ex (0,[],s,ln) (.all ?_)
  refine am ?_
  refine .pu ⟨rfl,rfl,h⟩ ?_
  rw[show pU []=fun _=>none by funext q;simp[pU]]
  exact az
 intro m ds y
 refine am ?_
 refine a8 Pick.here fun st=>aB Pick.here ?_
 obtain⟨i,pre,s0,ln0⟩:=st
 refine am ?_
 refine aT .here fun hi=>?_
 (try dsimp only at hi)
 obtain⟨hm,rfl,hst⟩:=hi
 (try dsimp only)
 by_cases hlt:i<(T.nd k).kids.length
 ·rw[List.drop_eq_getElem_cons hlt]at hst
  obtain⟨nm,s1,⟨hj,ws,least,most,many,fid,cap,sm,hw,hwl,hd,hl1,hl2,hmn,hdo,hsub⟩,hrest⟩:=wg hst
  dsimp only at hj hw hd hdo
  obtain⟨gk,hgk⟩:=hkk (by omega)
  rw[hgk]
  have hwn:(T.nd (T.nd k).kids[i]).words.length=ws.length+1:=by rw[hw];rfl
  refine GL (j:=(T.nd k).kids[i]) (by repeat constructor) hj fun hw1 hw2 hk2=>?_
  obtain⟨gw,hgw⟩:=hw1 (by omega)
  have hrd:=Cc (W:=W) (gs:=gs) hj hgw
  refine o_ (Sl.bY (by omega)) ?_
  refine ai (o_ (bq i rfl hlt) ?_)
  refine aE (Qd hk hgk hlt) az ?_
  generalize (T.nd k).kids[i]=j at hj hw hd hdo hsub hwn hgw hw1 hw2 hk2 hrd
  unfold lC
  refine o_ ag (o_ ae (aE (ru (o:=1) hj rfl) az ?_))
  refine nV (by repeat constructor) fun q=>?_
  unfold mn kK
  refine am ?_
  refine o_ ag (o_ ae (bR ?_));refine aW (t_ ag (t_ ae (bf (M:=dp b s0 ((T.nd j).line:Int)::bH gm ay (pU pre)::zD gs f T::bH gd ay dir::R::F) ?_ ?_)))
  ·refine .ex q (.all ?_)
   unfold mn kK
   refine am ?_
   exact az
  refine be (ru (o:=0) hj rfl) az ?_
  rw[hgw,hwn]
  refine t_ (bq 0 rfl (by omega)) ?_
  refine be (dv (j:=0) hrd (by rw[hw];rfl)) az ?_
  refine t_ ag (t_ ae (be (ru (o:=0) hj rfl) az ?_))
  rw[hgw,hwn]
  refine t_ (jK 1 rfl (by omega)) ?_
  have hcut:=hrd.cut (cap:=(f j).1.2) (l:=1) (h:=ws.length+1) (by omega) (by omega) (by omega)
  rw[hw]at hcut
  rw[show((nm::ws).map ay).drop 1=ws.map ay from rfl,show ws.length+1-1=ws.length by omega,List.take_of_length_le (by simp)]at hcut
  rw[show ws.length+1-1=ws.length by omega]
  obtain⟨aw,haw⟩:∃aw,aw=(if(f j).1.2=1 then(some ⟨gw,0,none⟩:Option Addr)else(some ⟨gw,0,none⟩:Option Addr).map (·.add (1 * 1))):=⟨_,rfl⟩
  rw[<- haw]at hcut ⊢
  refine q_ (eX Tryz.underlying9) (by(repeat constructor):Pick _ (bH gd ay dir) _) ?_
  rw[hd,Option.getD_some,Option.isSome_some]
  unfold dV
  refine bE ?_;refine bE ?_;refine aU fun g=>?_;(((refine' aK ?hp ?hn ?hv ?h1 ?_);(case hp=>(repeat constructor));(case hn=>rfl);(case hv=>rfl);(case h1=>simp[Value.oneCell',ay])))
  refine dK (fun x=>pu (x=ay (mo nm))::pt g (.cells #[ay blk,.int .i64 least,.int .i64 most,.bool (T.nd j).block,.bool many,.func (.func fid) #[] cap.toArray] 346)::dp b s0 ((T.nd j).line:Int)::bH gm ay (pU pre)::zD gs f T::bH gd ay dir::R::F) ?_ ?_
  rotate_left
  ·unfold mo
   by_cases hp1:nm=pV
   ·rw[if_pos (.inl hp1)]
    refine o_ (Sl.jq (m:=pV) hp1) ?_
    refine aC (aC (o_ av (ai (aN (.pu rfl ?_)))))
    exact az
   by_cases hp2:nm=xL
   ·rw[if_pos (.inr hp2)]
    refine o_ (Sl.fB (m:=pV) hp1) ?_
    refine ab (ab ?_);(((refine' aE (Sl.jq ?hcq) .nil ?_);(case hcq=>(first|rfl|assumption))));refine o_ ak (ai (aN (.pu rfl ?_)))
    exact az
   rw[if_neg (fun h=>h.elim hp1 hp2)]
   refine o_ (Sl.fB (m:=pV) hp1) ?_
   refine ab (ab ?_);(((refine' aE (Sl.fB ?hcq) .nil ?_);(case hcq=>(first|assumption|simp_all;done))));refine o_ ak (af (aN (.pu rfl ?_)))
   exact az
  intro ds z
  refine aT .here fun hz=>?_
  subst hz
  refine dP ?_
  refine aW (t_ bB (ab (t_ ae (ab (cm ?_)))));refine ab (ab ?_);(((refine' be (Sl.qT ?hcq) .nil ?_);(case hcq=>(intro hh;exact hh (by first|rfl|assumption)))));refine t_ ak (ab (ab (t_ aI (ab (t_ ae (ab (cm ?_)))))));refine ab (t_ ae (ab (cm ?_)));refine ab ?_
  refine' ah (jC hl1 hl2) ?hp fun _=>?_
  case hp=>exact .nil
  refine am ?_
  refine ab (t_ bB (t_ ak (ab (t_ ae (ab (cm ?_))))));refine ab (ab (t_ ag (ab (t_ ae (ab (be (ru (o:=2) hj rfl) az ?_))))))
  refine ab (t_ (Je Tryz.underlying4) ?_)
  rw[dF_ (by simp)]
  refine t_ ak (ab (ab (ab (be (Sl.ji (eX Tryz.underlying9)) az ?_))))
  rw[E3]
  have hfin:∀x85:Bool,x85=decide (mo nm∈pre)->(x85=true->many=true):=fun x h1 h2=>hmn.resolve_right fun h=>h (of_decide_eq_true (h1▸h2))
  obtain⟨mt,hmt⟩:∃mt,mt=decide (mo nm∈pre):=⟨_,rfl⟩
  rw[<- hmt]
  rcases(show mt=false\/(mt=true/\many=true) by cases mt with|false=>exact .inl rfl|true=>exact .inr ⟨rfl,hfin true hmt rfl⟩)with rfl|⟨rfl,rfl⟩
  all_goals
   (first|((refine ab ?_);refine aj ?_;refine aj ?_;refine aj ?_;refine ab ?_;refine t_ ak ?_;refine t_ ak ?_;(refine af ?_))|((refine ab ?_);refine ab ?_;refine t_ ae ?_;refine ab ?_;refine cm ?_;refine ab ?_;refine t_ bB ?_;refine ab ?_;refine t_ av ?_;refine t_ ak ?_;(refine af ?_)))
   refine gZ fun ds=>?_
   refine di (enc:=ay) (q:=mo nm) (eX Tryz.underlying9) (by(repeat constructor):Pick _ (bH gm ay (pU pre)) _) ?_
   rw[E2]
   refine o_ ae (aH ?_)
   refine bt (hdo _ _ _ _ hcut) (.cons (by repeat constructor) (.cons (by repeat constructor) (.cons (by repeat constructor) .nil))) fun _=>?_
   refine am ?_
   refine o_ ag (o_ ae (aE (ru (o:=3) hj rfl) az ?_))
   have hsub2:=hsub ((T.nd j).line:Int)
   dsimp only at hsub2
   refine' ah hsub2 ?hp fun ln2=>?_
   case hp=>(repeat(first|exact Picks.nil|(apply Picks.cons;(focus repeat constructor))))
   refine am ?_
   refine bP ?_
   refine aZ (m-1) ?_ ?_
   ·omega
   refine .ex (i+1,pre++[mo nm],s1,ln2) (.all ?_)
   refine am ?_
   refine .pu ⟨by omega,by simp,hrest⟩ ?_
   exact az
 ·rw[List.drop_eq_nil_of_le (by omega)]at hst
  have:=zc hst
  subst this
  refine o_ (Sl.bF (by omega)) ?_
  refine af (aR ln0 ?_)
  exact az
structure Els (s n:Nat)(cs:List Value)(E:Nat->List Value):Prop where
 len:cs.length=n * s
 el:∀i,i<n->(E i).length=s
 one:∀i,i<n->∀u∈E i,u.oneCell'=true
 get:∀i k,i<n->k<s->cs[i * s+k]? =(E i)[k]?
theorem wh {W:World}{f:FuncId}{cap:List Value}{A:HP}{G c n:Nat}{cs:List Value}{E:Nat->List Value}{v:Nat->Bool}(h:Els 4 n cs E)(hn:n<=1000)(hv:∀i,i<n->v i=false)(hf:∀i,i<n->Cn p_ f ([.agg (E i).toArray]++cap) W [A] (fun _:Unit=> .bool (v i)) (fun _=>[A])):Cn p_ 332 [.slice (some ⟨G,0,none⟩) n c,.func (.func f) #[] cap.toArray] W [Sl 4 145 (some ⟨G,0,none⟩) c n cs,A] (fun _:Unit=> .bool false) (fun _=>[Sl 4 145 (some ⟨G,0,none⟩) c n cs,A]):=by
 have h2:Cn p_ 123 [.slice (some ⟨G,0,none⟩) n c,.func (.func f) #[] cap.toArray] W [Sl 4 145 (some ⟨G,0,none⟩) c n cs,A] (fun _:Unit=> .int .i64 (-1)) (fun _=>[Sl 4 145 (some ⟨G,0,none⟩) c n cs,A]):=by
  (refine Shp.cn (Sg.g_ Tryz.call123 Tryz.func123 (an:={loops:=[(2,[8])]})) fun F=>?_;simp only[ca_,na_])
  refine o_ aI (aY (fun m y=>[ex fun i:Nat=>pu (m+i=n/\y= .int .i64 (i:Int))]++(Sl 4 145 (some ⟨G,0,none⟩) c n cs::A::F)) n ?_ ?_)
  ·exact Imp.ex 0 (.pu ⟨by omega,rfl⟩ .refl)
  intro m ds y
  refine am ?_
  refine a8 Pick.here fun i=>aT .here fun hi=>?_
  obtain⟨hm,rfl⟩:=hi
  by_cases hlt:i<n
  ·refine o_ (Sl.bY (by omega)) ?_
   refine ai (o_ (dR i rfl hlt) ?_)
   refine aE (df (n:=4) (j:=i * 4) (vs:=E i) (d8 (n:=n) (s:=4) h.len fun _=>⟨G,rfl⟩) (h.el i hlt) (fun k hk=>h.get i k hlt hk)) az ?_
   refine bt (hf i hlt) (.cons (by repeat constructor) .nil) fun _=>?_
   rw[hv i hlt]
   refine am ?_
   refine af (bP ?_)
   refine aZ (m-1) ?_ ?_
   ·omega
   refine .ex (i+1) (.pu ⟨by omega,by simp⟩ ?_)
   exact az
  ·refine o_ (Sl.bF (by omega)) ?_
   refine af (aR () ?_)
   exact .refl
 (refine Shp.cn (Sg.g_ Tryz.call332 Tryz.func332) fun F=>?_;simp only[ca_,na_])
 refine' ah h2 ?hp fun _=>?_
 case hp=>(repeat(first|exact Picks.nil|(apply Picks.cons;(focus repeat constructor))))
 refine am ?_
 (((refine o_ (Sl.eS ?hcq) ?_);(case hcq=>(first|omega|(simp only[List.length_nil,List.length_cons];omega)))))
 refine aR () ?_
 exact az
theorem uI {W:World}{f:FuncId}{cap:List Value}{A:HP}{G c n:Nat}{cs:List Value}{E:Nat->List Value}(h:Els 4 n cs E)(hn:n<=1000)(hf:∀i,i<n->Cn p_ f ([.agg (E i).toArray]++cap) W [A] (fun _:Unit=> .bool true) (fun _=>[A])):Cn p_ 225 [.slice (some ⟨G,0,none⟩) n c,.func (.func f) #[] cap.toArray] W [Sl 4 145 (some ⟨G,0,none⟩) c n cs,A] (fun _:Unit=> .bool true) (fun _=>[Sl 4 145 (some ⟨G,0,none⟩) c n cs,A]):=by
 have h1:∀bx i,i<n->Cn p_ 333 ([.agg (E i).toArray]++[.pointer (some ⟨bx,0,none⟩)]) W [all [pt bx (.cells #[.func (.func f) #[] cap.toArray] 245),A]] (fun _:Unit=> .bool false) (fun _=>[all [pt bx (.cells #[.func (.func f) #[] cap.toArray] 245),A]]):=by
  intro bx i hi
  (refine Shp.cn (Sg.g_ Tryz.call333 Tryz.func333) fun F=>?_;simp only[ca_,na_])
  refine aB .here ?_
  refine am ?_
  refine aX fun b=>?_
  refine aH ?_
  refine aE (bN (n:=4) (by rw[List.size_toArray];exact h.el i hi)) az ?_
  refine bt (hf i hi) (.cons (by repeat constructor) .nil) fun _=>?_
  refine am ?_
  refine o_ bB (aR () ?_)
  refine .all ?_
  refine am ?_
  exact az
 (refine Shp.cn (Sg.g_ Tryz.call225 Tryz.func225) fun F=>?_;simp only[ca_,na_])
 refine b_ fun g=>?_;refine o_ bC (bf (M:=Sl 4 145 (some ⟨G,0,none⟩) c n cs::all [pt g (.cells #[.func (.func f) #[] cap.toArray] 245),A]::F) ?_ ?_)
 ·refine .pick (by repeat constructor) (.all ?_)
  refine am ?_
  exact az
 refine' ah (wh (G:=G) (c:=c) (f:=333) (cap:=[.pointer (some ⟨g,0,none⟩)]) (v:=fun _=>false) h hn (fun _ _=>rfl) (h1 g)) ?hp fun _=>?_
 case hp=>(repeat(first|exact Picks.nil|(apply Picks.cons;(focus repeat constructor))))
 refine am ?_
 refine aB (.there .here) ?_
 refine am ?_
 refine o_ cL (aR () ?_)
 exact az
theorem Jg {W:World}{f:FuncId}{cap:List Value}{A:HP}{G c n:Nat}{cs:List Value}{E:Nat->List Value}{v:Nat->Bool}(h:Els 2 n cs E)(hn:n<=1000)(hv:∀i,i<n->v i=false)(hf:∀i,i<n->Cn p_ f ([.agg (E i).toArray]++cap) W [A] (fun _:Unit=> .bool (v i)) (fun _=>[A])):Cn p_ 407 [.slice (some ⟨G,0,none⟩) n c,.func (.func f) #[] cap.toArray] W [Sl 2 315 (some ⟨G,0,none⟩) c n cs,A] (fun _:Unit=> .bool false) (fun _=>[Sl 2 315 (some ⟨G,0,none⟩) c n cs,A]):=by
 have h2:Cn p_ 470 [.slice (some ⟨G,0,none⟩) n c,.func (.func f) #[] cap.toArray] W [Sl 2 315 (some ⟨G,0,none⟩) c n cs,A] (fun _:Unit=> .int .i64 (-1)) (fun _=>[Sl 2 315 (some ⟨G,0,none⟩) c n cs,A]):=by
  (refine Shp.cn (Sg.g_ Tryz.call470 Tryz.func470 (an:={loops:=[(2,[8])]})) fun F=>?_;simp only[ca_,na_])
  refine o_ aI (aY (fun m y=>[ex fun i:Nat=>pu (m+i=n/\y= .int .i64 (i:Int))]++(Sl 2 315 (some ⟨G,0,none⟩) c n cs::A::F)) n ?_ ?_)
  ·exact Imp.ex 0 (.pu ⟨by omega,rfl⟩ .refl)
  intro m ds y
  refine am ?_
  refine a8 Pick.here fun i=>aT .here fun hi=>?_
  obtain⟨hm,rfl⟩:=hi
  by_cases hlt:i<n
  ·refine o_ (Sl.bY (by omega)) ?_
   refine ai (o_ (dR i rfl hlt) ?_)
   refine aE (df (n:=2) (j:=i * 2) (vs:=E i) (d8 (n:=n) (s:=2) h.len fun _=>⟨G,rfl⟩) (h.el i hlt) (fun k hk=>h.get i k hlt hk)) az ?_
   refine bt (hf i hlt) (.cons (by repeat constructor) .nil) fun _=>?_
   rw[hv i hlt]
   refine am ?_
   refine af (bP ?_)
   refine aZ (m-1) ?_ ?_
   ·omega
   refine .ex (i+1) (.pu ⟨by omega,by simp⟩ ?_)
   exact az
  ·refine o_ (Sl.bF (by omega)) ?_
   refine af (aR () ?_)
   exact .refl
 (refine Shp.cn (Sg.g_ Tryz.call407 Tryz.func407) fun F=>?_;simp only[ca_,na_])
 refine' ah h2 ?hp fun _=>?_
 case hp=>(repeat(first|exact Picks.nil|(apply Picks.cons;(focus repeat constructor))))
 refine am ?_
 (((refine o_ (Sl.eS ?hcq) ?_);(case hcq=>(first|omega|(simp only[List.length_nil,List.length_cons];omega)))))
 refine aR () ?_
 exact az
theorem E4 {W:World}{f:FuncId}{cap:List Value}{A:HP}{G c n:Nat}{cs:List Value}{E:Nat->List Value}(h:Els 2 n cs E)(hn:n<=1000)(hf:∀i,i<n->Cn p_ f ([.agg (E i).toArray]++cap) W [A] (fun _:Unit=> .bool true) (fun _=>[A])):Cn p_ 334 [.slice (some ⟨G,0,none⟩) n c,.func (.func f) #[] cap.toArray] W [Sl 2 315 (some ⟨G,0,none⟩) c n cs,A] (fun _:Unit=> .bool true) (fun _=>[Sl 2 315 (some ⟨G,0,none⟩) c n cs,A]):=by
 have h1:∀bx i,i<n->Cn p_ 408 ([.agg (E i).toArray]++[.pointer (some ⟨bx,0,none⟩)]) W [all [pt bx (.cells #[.func (.func f) #[] cap.toArray] 474),A]] (fun _:Unit=> .bool false) (fun _=>[all [pt bx (.cells #[.func (.func f) #[] cap.toArray] 474),A]]):=by
  intro bx i hi
  (refine Shp.cn (Sg.g_ Tryz.call408 Tryz.func408) fun F=>?_;simp only[ca_,na_])
  refine aB .here ?_
  refine am ?_
  refine aX fun b=>?_
  refine aH ?_
  refine aE (bN (n:=2) (by rw[List.size_toArray];exact h.el i hi)) az ?_
  refine bt (hf i hi) (.cons (by repeat constructor) .nil) fun _=>?_
  refine am ?_
  refine o_ bB (aR () ?_)
  refine .all ?_
  refine am ?_
  exact az
 (refine Shp.cn (Sg.g_ Tryz.call334 Tryz.func334) fun F=>?_;simp only[ca_,na_])
 refine b_ fun g=>?_;refine o_ bC (bf (M:=Sl 2 315 (some ⟨G,0,none⟩) c n cs::all [pt g (.cells #[.func (.func f) #[] cap.toArray] 474),A]::F) ?_ ?_)
 ·refine .pick (by repeat constructor) (.all ?_)
  refine am ?_
  exact az
 refine' ah (Jg (G:=G) (c:=c) (f:=408) (cap:=[.pointer (some ⟨g,0,none⟩)]) (v:=fun _=>false) h hn (fun _ _=>rfl) (h1 g)) ?hp fun _=>?_
 case hp=>(repeat(first|exact Picks.nil|(apply Picks.cons;(focus repeat constructor))))
 refine am ?_
 refine aB (.there .here) ?_
 refine am ?_
 refine o_ cL (aR () ?_)
 exact az
theorem Cd {W:World}{f:FuncId}{cap:List Value}{A:HP}{G c n:Nat}{cs:List Value}{E:Nat->List Value}{v:Nat->Bool}(h:Els 3 n cs E)(hn:n<=1000)(hv:∀i,i<n->v i=false)(hf:∀i,i<n->Cn p_ f ([.agg (E i).toArray]++cap) W [A] (fun _:Unit=> .bool (v i)) (fun _=>[A])):Cn p_ 338 [.slice (some ⟨G,0,none⟩) n c,.func (.func f) #[] cap.toArray] W [Sl 3 200 (some ⟨G,0,none⟩) c n cs,A] (fun _:Unit=> .bool false) (fun _=>[Sl 3 200 (some ⟨G,0,none⟩) c n cs,A]):=by
 have h2:Cn p_ 409 [.slice (some ⟨G,0,none⟩) n c,.func (.func f) #[] cap.toArray] W [Sl 3 200 (some ⟨G,0,none⟩) c n cs,A] (fun _:Unit=> .int .i64 (-1)) (fun _=>[Sl 3 200 (some ⟨G,0,none⟩) c n cs,A]):=by
  (refine Shp.cn (Sg.g_ Tryz.call409 Tryz.func409 (an:={loops:=[(2,[8])]})) fun F=>?_;simp only[ca_,na_])
  refine o_ aI (aY (fun m y=>[ex fun i:Nat=>pu (m+i=n/\y= .int .i64 (i:Int))]++(Sl 3 200 (some ⟨G,0,none⟩) c n cs::A::F)) n ?_ ?_)
  ·exact Imp.ex 0 (.pu ⟨by omega,rfl⟩ .refl)
  intro m ds y
  refine am ?_
  refine a8 Pick.here fun i=>aT .here fun hi=>?_
  obtain⟨hm,rfl⟩:=hi
  by_cases hlt:i<n
  ·refine o_ (Sl.bY (by omega)) ?_
   refine ai (o_ (dR i rfl hlt) ?_)
   refine aE (df (n:=3) (j:=i * 3) (vs:=E i) (d8 (n:=n) (s:=3) h.len fun _=>⟨G,rfl⟩) (h.el i hlt) (fun k hk=>h.get i k hlt hk)) az ?_
   refine bt (hf i hlt) (.cons (by repeat constructor) .nil) fun _=>?_
   rw[hv i hlt]
   refine am ?_
   refine af (bP ?_)
   refine aZ (m-1) ?_ ?_
   ·omega
   refine .ex (i+1) (.pu ⟨by omega,by simp⟩ ?_)
   exact az
  ·refine o_ (Sl.bF (by omega)) ?_
   refine af (aR () ?_)
   exact .refl
 (refine Shp.cn (Sg.g_ Tryz.call338 Tryz.func338) fun F=>?_;simp only[ca_,na_])
 refine' ah h2 ?hp fun _=>?_
 case hp=>(repeat(first|exact Picks.nil|(apply Picks.cons;(focus repeat constructor))))
 refine am ?_
 (((refine o_ (Sl.eS ?hcq) ?_);(case hcq=>(first|omega|(simp only[List.length_nil,List.length_cons];omega)))))
 refine aR () ?_
 exact az
theorem ze {W:World}{f:FuncId}{cap:List Value}{A:HP}{G c n:Nat}{cs:List Value}{E:Nat->List Value}(h:Els 3 n cs E)(hn:n<=1000)(hf:∀i,i<n->Cn p_ f ([.agg (E i).toArray]++cap) W [A] (fun _:Unit=> .bool true) (fun _=>[A])):Cn p_ 229 [.slice (some ⟨G,0,none⟩) n c,.func (.func f) #[] cap.toArray] W [Sl 3 200 (some ⟨G,0,none⟩) c n cs,A] (fun _:Unit=> .bool true) (fun _=>[Sl 3 200 (some ⟨G,0,none⟩) c n cs,A]):=by
 have h1:∀bx i,i<n->Cn p_ 339 ([.agg (E i).toArray]++[.pointer (some ⟨bx,0,none⟩)]) W [all [pt bx (.cells #[.func (.func f) #[] cap.toArray] 367),A]] (fun _:Unit=> .bool false) (fun _=>[all [pt bx (.cells #[.func (.func f) #[] cap.toArray] 367),A]]):=by
  intro bx i hi
  (refine Shp.cn (Sg.g_ Tryz.call339 Tryz.func339) fun F=>?_;simp only[ca_,na_])
  refine aB .here ?_
  refine am ?_
  refine aX fun b=>?_
  refine aH ?_
  refine aE (bN (n:=3) (by rw[List.size_toArray];exact h.el i hi)) az ?_
  refine bt (hf i hi) (.cons (by repeat constructor) .nil) fun _=>?_
  refine am ?_
  refine o_ bB (aR () ?_)
  refine .all ?_
  refine am ?_
  exact az
 (refine Shp.cn (Sg.g_ Tryz.call229 Tryz.func229) fun F=>?_;simp only[ca_,na_])
 refine b_ fun g=>?_;refine o_ bC (bf (M:=Sl 3 200 (some ⟨G,0,none⟩) c n cs::all [pt g (.cells #[.func (.func f) #[] cap.toArray] 367),A]::F) ?_ ?_)
 ·refine .pick (by repeat constructor) (.all ?_)
  refine am ?_
  exact az
 refine' ah (Cd (G:=G) (c:=c) (f:=339) (cap:=[.pointer (some ⟨g,0,none⟩)]) (v:=fun _=>false) h hn (fun _ _=>rfl) (h1 g)) ?hp fun _=>?_
 case hp=>(repeat(first|exact Picks.nil|(apply Picks.cons;(focus repeat constructor))))
 refine am ?_
 refine aB (.there .here) ?_
 refine am ?_
 refine o_ cL (aR () ?_)
 exact az
theorem wi {W:World}{f:FuncId}{cap:List Value}{A:HP}{G c n:Nat}{cs:List Value}{E:Nat->List Value}{v:Nat->Bool}(h:Els 12 n cs E)(hn:n<=1000)(hv:∀i,i<n->v i=false)(hf:∀i,i<n->Cn p_ f ([.agg (E i).toArray]++cap) W [A] (fun _:Unit=> .bool (v i)) (fun _=>[A])):Cn p_ 412 [.slice (some ⟨G,0,none⟩) n c,.func (.func f) #[] cap.toArray] W [Sl 12 101 (some ⟨G,0,none⟩) c n cs,A] (fun _:Unit=> .bool false) (fun _=>[Sl 12 101 (some ⟨G,0,none⟩) c n cs,A]):=by
 have h2:Cn p_ 472 [.slice (some ⟨G,0,none⟩) n c,.func (.func f) #[] cap.toArray] W [Sl 12 101 (some ⟨G,0,none⟩) c n cs,A] (fun _:Unit=> .int .i64 (-1)) (fun _=>[Sl 12 101 (some ⟨G,0,none⟩) c n cs,A]):=by
  (refine Shp.cn (Sg.g_ Tryz.call472 Tryz.func472 (an:={loops:=[(2,[8])]})) fun F=>?_;simp only[ca_,na_])
  refine o_ aI (aY (fun m y=>[ex fun i:Nat=>pu (m+i=n/\y= .int .i64 (i:Int))]++(Sl 12 101 (some ⟨G,0,none⟩) c n cs::A::F)) n ?_ ?_)
  ·exact Imp.ex 0 (.pu ⟨by omega,rfl⟩ .refl)
  intro m ds y
  refine am ?_
  refine a8 Pick.here fun i=>aT .here fun hi=>?_
  obtain⟨hm,rfl⟩:=hi
  by_cases hlt:i<n
  ·refine o_ (Sl.bY (by omega)) ?_
   refine ai (o_ (dR i rfl hlt) ?_)
   refine aE (df (n:=12) (j:=i * 12) (vs:=E i) (d8 (n:=n) (s:=12) h.len fun _=>⟨G,rfl⟩) (h.el i hlt) (fun k hk=>h.get i k hlt hk)) az ?_
   refine bt (hf i hlt) (.cons (by repeat constructor) .nil) fun _=>?_
   rw[hv i hlt]
   refine am ?_
   refine af (bP ?_)
   refine aZ (m-1) ?_ ?_
   ·omega
   refine .ex (i+1) (.pu ⟨by omega,by simp⟩ ?_)
   exact az
  ·refine o_ (Sl.bF (by omega)) ?_
   refine af (aR () ?_)
   exact .refl
 (refine Shp.cn (Sg.g_ Tryz.call412 Tryz.func412) fun F=>?_;simp only[ca_,na_])
 refine' ah h2 ?hp fun _=>?_
 case hp=>(repeat(first|exact Picks.nil|(apply Picks.cons;(focus repeat constructor))))
 refine am ?_
 (((refine o_ (Sl.eS ?hcq) ?_);(case hcq=>(first|omega|(simp only[List.length_nil,List.length_cons];omega)))))
 refine aR () ?_
 exact az
theorem uJ {W:World}{f:FuncId}{cap:List Value}{A:HP}{G c n:Nat}{cs:List Value}{E:Nat->List Value}(h:Els 12 n cs E)(hn:n<=1000)(hf:∀i,i<n->Cn p_ f ([.agg (E i).toArray]++cap) W [A] (fun _:Unit=> .bool true) (fun _=>[A])):Cn p_ 342 [.slice (some ⟨G,0,none⟩) n c,.func (.func f) #[] cap.toArray] W [Sl 12 101 (some ⟨G,0,none⟩) c n cs,A] (fun _:Unit=> .bool true) (fun _=>[Sl 12 101 (some ⟨G,0,none⟩) c n cs,A]):=by
 have h1:∀bx i,i<n->Cn p_ 413 ([.agg (E i).toArray]++[.pointer (some ⟨bx,0,none⟩)]) W [all [pt bx (.cells #[.func (.func f) #[] cap.toArray] 479),A]] (fun _:Unit=> .bool false) (fun _=>[all [pt bx (.cells #[.func (.func f) #[] cap.toArray] 479),A]]):=by
  intro bx i hi
  (refine Shp.cn (Sg.g_ Tryz.call413 Tryz.func413) fun F=>?_;simp only[ca_,na_])
  refine aB .here ?_
  refine am ?_
  refine aX fun b=>?_
  refine aH ?_
  refine aE (bN (n:=12) (by rw[List.size_toArray];exact h.el i hi)) az ?_
  refine bt (hf i hi) (.cons (by repeat constructor) .nil) fun _=>?_
  refine am ?_
  refine o_ bB (aR () ?_)
  refine .all ?_
  refine am ?_
  exact az
 (refine Shp.cn (Sg.g_ Tryz.call342 Tryz.func342) fun F=>?_;simp only[ca_,na_])
 refine b_ fun g=>?_;refine o_ bC (bf (M:=Sl 12 101 (some ⟨G,0,none⟩) c n cs::all [pt g (.cells #[.func (.func f) #[] cap.toArray] 479),A]::F) ?_ ?_)
 ·refine .pick (by repeat constructor) (.all ?_)
  refine am ?_
  exact az
 refine' ah (wi (G:=G) (c:=c) (f:=413) (cap:=[.pointer (some ⟨g,0,none⟩)]) (v:=fun _=>false) h hn (fun _ _=>rfl) (h1 g)) ?hp fun _=>?_
 case hp=>(repeat(first|exact Picks.nil|(apply Picks.cons;(focus repeat constructor))))
 refine am ?_
 refine aB (.there .here) ?_
 refine am ?_
 refine o_ cL (aR () ?_)
 exact az
def iX {κ:Type}[DecidableEq κ](key:Nat->κ)(i:Nat):κ->Option Value:=fun q=>if(List.range i).any (fun j=>decide (key j=q))then some (.int .i64 1)else none
theorem sQ {κ:Type}[DecidableEq κ]{key:Nat->κ}{i:Nat}(h:∀j,j<i->key j≠key i):iX key i (key i)=none:=by
 unfold iX
 rw[if_neg]
 simp only[List.any_eq_true,List.mem_range,decide_eq_true_eq,not_exists,not_and]
 exact fun j hj=>h j hj
theorem kC {κ:Type}[DecidableEq κ]{key:Nat->κ}{i:Nat}:dE (iX key i) (key i) (some (.int .i64 1))=iX key (i+1):=by
 funext q
 unfold dE iX
 rw[List.range_succ,List.any_append]
 by_cases h:q=key i
 ·subst h;simp
 ·have:decide (key i=q)=false:=dF_ (fun e=>h e.symm)
  simp[h,this]
theorem pW {W:World}{f:FuncId}{G c n:Nat}{cs:List Value}{E:Nat->List Value}{key:Nat->List UInt8}(h:Els 4 n cs E)(hn:n<=1000)(hk:∀i j,i<n->j<i->key j≠key i)(hf:∀i,i<n->Cn p_ f ([.agg (E i).toArray]++[]) W [] (fun _:Unit=>ay (key i)) (fun _=>[])):Cn p_ 227 [.slice (some ⟨G,0,none⟩) n c,.func (.func f) #[] #[]] W [Sl 4 145 (some ⟨G,0,none⟩) c n cs] (fun _:Unit=> .bool true) (fun _=>[Sl 4 145 (some ⟨G,0,none⟩) c n cs]):=by
 (refine Shp.cn (Sg.g_ Tryz.call227 Tryz.func227 (an:={loops:=[(3,[11])]})) fun F=>?_;simp only[ca_,na_])
 refine jt (P:=p_) (t:=477) (kt:=9) ay fun gm=>?_
 refine o_ aI (aY (fun m y=>[ex fun i:Nat=>all [pu (m+i=n/\y= .int .i64 (i:Int)),bH gm ay (iX key i)]]++(Sl 4 145 (some ⟨G,0,none⟩) c n cs::F)) n ?_ ?_)
 ·refine Imp.ex 0 (.all ?_)
  refine am ?_
  exact .pu ⟨by omega,rfl⟩ .refl
 intro m ds y
 refine am ?_
 refine a8 Pick.here fun i=>aB .here ?_
 refine am ?_
 refine aT .here fun hi=>?_
 obtain⟨hm,rfl⟩:=hi
 by_cases hlt:i<n
 ·have hel:=h.el i hlt
  refine o_ (Sl.bY (by omega)) ?_
  refine ai (o_ (dR i rfl hlt) ?_)
  refine aE (df (n:=4) (j:=i * 4) (vs:=E i) (d8 (n:=n) (s:=4) h.len fun _=>⟨G,rfl⟩) hel (fun k hk=>h.get i k hlt hk)) az ?_
  refine aU fun b=>?_
  refine aK .here (by rfl) (by rw[List.size_toArray];exact hel) (by simpa using h.one i hlt) ?_
  refine aE (bN (n:=4) (by rw[List.size_toArray];exact hel)) az ?_
  refine bt (cap:=[]) (hf i hlt) .nil fun _=>?_
  refine am ?_
  refine gE (eX Tryz.underlying9) (by(repeat constructor):Pick _ (bH gm ay (iX key i)) _) ?_
  rw[sQ (fun j hj=>hk i j hlt hj),Option.getD_none]
  refine bP ?_
  refine di (eX Tryz.underlying9) (by(repeat constructor):Pick _ (bH gm ay (iX key i)) _) ?_
  rw[Int.zero_add,kC]
  refine aE (bN (n:=4) (by rw[List.size_toArray];exact hel)) az ?_
  refine bt (cap:=[]) (hf i hlt) .nil fun _=>?_
  refine am ?_
  refine gE (eX Tryz.underlying9) (by(repeat constructor):Pick _ (bH gm ay (iX key (i+1))) _) ?_
  rw[show(iX key (i+1) (key i)).getD (.int .i64 0)= .int .i64 1 by rw[<- kC];simp[dE]]
  (((refine o_ (Sl.cf ?hcq) ?_);(case hcq=>(first|omega|(simp only[List.length_nil,List.length_cons];omega)))));refine af ?_;refine bP ?_
  refine aZ (m-1) ?_ ?_
  ·omega
  refine .ex (i+1) (.all ?_)
  refine am ?_
  refine .pu ⟨by omega,by simp⟩ ?_
  exact az
 ·refine o_ (Sl.bF (by omega)) ?_
  refine af (aR () ?_)
  exact az
theorem wj {W:World}{f:FuncId}{G c n:Nat}{cs:List Value}{E:Nat->List Value}{key:Nat->Int}(h:Els 2 n cs E)(hn:n<=1000)(hk:∀i j,i<n->j<i->key j≠key i)(hf:∀i,i<n->Cn p_ f ([.agg (E i).toArray]++[]) W [] (fun _:Unit=>eW (key i)) (fun _=>[])):Cn p_ 336 [.slice (some ⟨G,0,none⟩) n c,.func (.func f) #[] #[]] W [Sl 2 315 (some ⟨G,0,none⟩) c n cs] (fun _:Unit=> .bool true) (fun _=>[Sl 2 315 (some ⟨G,0,none⟩) c n cs]):=by
 (refine Shp.cn (Sg.g_ Tryz.call336 Tryz.func336 (an:={loops:=[(3,[11])]})) fun F=>?_;simp only[ca_,na_])
 refine jt (P:=p_) (t:=547) (kt:=3) eW fun gm=>?_
 refine o_ aI (aY (fun m y=>[ex fun i:Nat=>all [pu (m+i=n/\y= .int .i64 (i:Int)),bH gm eW (iX key i)]]++(Sl 2 315 (some ⟨G,0,none⟩) c n cs::F)) n ?_ ?_)
 ·refine Imp.ex 0 (.all ?_)
  refine am ?_
  exact .pu ⟨by omega,rfl⟩ .refl
 intro m ds y
 refine am ?_
 refine a8 Pick.here fun i=>aB .here ?_
 refine am ?_
 refine aT .here fun hi=>?_
 obtain⟨hm,rfl⟩:=hi
 by_cases hlt:i<n
 ·have hel:=h.el i hlt
  refine o_ (Sl.bY (by omega)) ?_
  refine ai (o_ (dR i rfl hlt) ?_)
  refine aE (df (n:=2) (j:=i * 2) (vs:=E i) (d8 (n:=n) (s:=2) h.len fun _=>⟨G,rfl⟩) hel (fun k hk=>h.get i k hlt hk)) az ?_
  refine aU fun b=>?_
  refine aK .here (by rfl) (by rw[List.size_toArray];exact hel) (by simpa using h.one i hlt) ?_
  refine aE (bN (n:=2) (by rw[List.size_toArray];exact hel)) az ?_
  refine bt (cap:=[]) (hf i hlt) .nil fun _=>?_
  refine am ?_
  refine gE (ED Tryz.underlying3) (by(repeat constructor):Pick _ (bH gm eW (iX key i)) _) ?_
  rw[sQ (fun j hj=>hk i j hlt hj),Option.getD_none]
  refine bP ?_
  refine di (ED Tryz.underlying3) (by(repeat constructor):Pick _ (bH gm eW (iX key i)) _) ?_
  rw[Int.zero_add,kC]
  refine aE (bN (n:=2) (by rw[List.size_toArray];exact hel)) az ?_
  refine bt (cap:=[]) (hf i hlt) .nil fun _=>?_
  refine am ?_
  refine gE (ED Tryz.underlying3) (by(repeat constructor):Pick _ (bH gm eW (iX key (i+1))) _) ?_
  rw[show(iX key (i+1) (key i)).getD (.int .i64 0)= .int .i64 1 by rw[<- kC];simp[dE]]
  (((refine o_ (Sl.cf ?hcq) ?_);(case hcq=>(first|omega|(simp only[List.length_nil,List.length_cons];omega)))));refine af ?_;refine bP ?_
  refine aZ (m-1) ?_ ?_
  ·omega
  refine .ex (i+1) (.all ?_)
  refine am ?_
  refine .pu ⟨by omega,by simp⟩ ?_
  exact az
 ·refine o_ (Sl.bF (by omega)) ?_
  refine af (aR () ?_)
  exact az
theorem pX {W:World}{f:FuncId}{G c n:Nat}{cs:List Value}{E:Nat->List Value}{key:Nat->List UInt8}(h:Els 12 n cs E)(hn:n<=1000)(hk:∀i j,i<n->j<i->key j≠key i)(hf:∀i,i<n->Cn p_ f ([.agg (E i).toArray]++[]) W [] (fun _:Unit=>ay (key i)) (fun _=>[])):Cn p_ 345 [.slice (some ⟨G,0,none⟩) n c,.func (.func f) #[] #[]] W [Sl 12 101 (some ⟨G,0,none⟩) c n cs] (fun _:Unit=> .bool true) (fun _=>[Sl 12 101 (some ⟨G,0,none⟩) c n cs]):=by
 (refine Shp.cn (Sg.g_ Tryz.call345 Tryz.func345 (an:={loops:=[(3,[11])]})) fun F=>?_;simp only[ca_,na_])
 refine jt (P:=p_) (t:=477) (kt:=9) ay fun gm=>?_
 refine o_ aI (aY (fun m y=>[ex fun i:Nat=>all [pu (m+i=n/\y= .int .i64 (i:Int)),bH gm ay (iX key i)]]++(Sl 12 101 (some ⟨G,0,none⟩) c n cs::F)) n ?_ ?_)
 ·refine Imp.ex 0 (.all ?_)
  refine am ?_
  exact .pu ⟨by omega,rfl⟩ .refl
 intro m ds y
 refine am ?_
 refine a8 Pick.here fun i=>aB .here ?_
 refine am ?_
 refine aT .here fun hi=>?_
 obtain⟨hm,rfl⟩:=hi
 by_cases hlt:i<n
 ·have hel:=h.el i hlt
  refine o_ (Sl.bY (by omega)) ?_
  refine ai (o_ (dR i rfl hlt) ?_)
  refine aE (df (n:=12) (j:=i * 12) (vs:=E i) (d8 (n:=n) (s:=12) h.len fun _=>⟨G,rfl⟩) hel (fun k hk=>h.get i k hlt hk)) az ?_
  refine aU fun b=>?_
  refine aK .here (by rfl) (by rw[List.size_toArray];exact hel) (by simpa using h.one i hlt) ?_
  refine aE (bN (n:=12) (by rw[List.size_toArray];exact hel)) az ?_
  refine bt (cap:=[]) (hf i hlt) .nil fun _=>?_
  refine am ?_
  refine gE (eX Tryz.underlying9) (by(repeat constructor):Pick _ (bH gm ay (iX key i)) _) ?_
  rw[sQ (fun j hj=>hk i j hlt hj),Option.getD_none]
  refine bP ?_
  refine di (eX Tryz.underlying9) (by(repeat constructor):Pick _ (bH gm ay (iX key i)) _) ?_
  rw[Int.zero_add,kC]
  refine aE (bN (n:=12) (by rw[List.size_toArray];exact hel)) az ?_
  refine bt (cap:=[]) (hf i hlt) .nil fun _=>?_
  refine am ?_
  refine gE (eX Tryz.underlying9) (by(repeat constructor):Pick _ (bH gm ay (iX key (i+1))) _) ?_
  rw[show(iX key (i+1) (key i)).getD (.int .i64 0)= .int .i64 1 by rw[<- kC];simp[dE]]
  (((refine o_ (Sl.cf ?hcq) ?_);(case hcq=>(first|omega|(simp only[List.length_nil,List.length_cons];omega)))));refine af ?_;refine bP ?_
  refine aZ (m-1) ?_ ?_
  ·omega
  refine .ex (i+1) (.all ?_)
  refine am ?_
  refine .pu ⟨by omega,by simp⟩ ?_
  exact az
 ·refine o_ (Sl.bF (by omega)) ?_
  refine af (aR () ?_)
  exact az
theorem Jh {W:World}{l:List UInt8}{f:FuncId}{cap:List Value}{A:HP}(ha:∀c∈l,c.toNat<128)(hf:∀c∈l,Cn p_ f ([.int .i32 (c.toNat:Int)]++cap) W [A] (fun _:Unit=> .bool false) (fun _=>[A])):
  Cn p_ 404 [ay l,.func (.func f) #[] cap.toArray] W [A] (fun _:Unit=> .bool false) (fun _=>[A]):=by
 have hI:Cn p_ 406 [ay l,.func (.func f) #[] cap.toArray,.bool true] W [A] (fun _:Unit=> .int .i64 (-1)) (fun _=>[A]):=by
  (refine Shp.cn (Sg.g_ Tryz.call406 Tryz.func406 (an:={loops:=[(2,[])]})) fun F=>?_;simp only[ca_,na_])
  refine GG fun g=>?_
  refine lJ (fun m=>[ex fun i:Nat=>all [pu (m+i=l.length),pt g (.stringIter ⟨l.toArray⟩ i)]]++(A::F)) l.length ?_ ?_
  ·refine Imp.ex 0 (.all ?_)
   refine am ?_
   exact .pu (by omega) .refl
  intro m ds
  refine am ?_
  refine a8 Pick.here fun i=>aB Pick.here ?_
  refine am ?_
  refine aT .here fun hm=>?_
  by_cases hlt:i<l.length
  ·refine GH .here hlt (ha _ (List.getElem_mem hlt)) ?_
   refine bE ?_;refine ai (bE ?_);refine bE ?_
   refine bt (hf _ (List.getElem_mem hlt)) (.cons (by repeat constructor) .nil) fun _=>?_
   refine am ?_
   refine o_ (wL (by kernel_rfl)) ?_
   rw[dF_ (by simp)]
   refine af (n9 (m-1) ?_ ?_)
   ·omega
   refine .ex (i+1) (.all ?_)
   refine am ?_
   refine .pu (by omega) ?_
   exact az
  ·refine GI .here hlt ?_
   refine bE ?_;refine af (aR () ?_)
   exact az
 have h2:Cn p_ 329 [ay l,.func (.func f) #[] cap.toArray] W [A] (fun _:Unit=> .int .i64 (-1)) (fun _=>[A]):=by
  (refine Shp.cn (Sg.g_ Tryz.call329 Tryz.func329) fun F=>?_;simp only[ca_,na_])
  refine' ah hI ?hp fun _=>?_
  case hp=>(repeat(first|exact Picks.nil|(apply Picks.cons;(focus repeat constructor))))
  refine am ?_
  refine aR () ?_
  exact az
 (refine Shp.cn (Sg.g_ Tryz.call404 Tryz.func404) fun F=>?_;simp only[ca_,na_])
 refine' ah h2 ?hp fun _=>?_
 case hp=>(repeat(first|exact Picks.nil|(apply Picks.cons;(focus repeat constructor))))
 refine am ?_
 (((refine o_ (Sl.eS ?hcq) ?_);(case hcq=>(first|omega|(simp only[List.length_nil,List.length_cons];omega)))))
 refine aR () ?_
 exact az
def Qf (a:Nat)(c:UInt8):Bool:=decide (a<=c.toNat/\c.toNat<=126/\c.toNat≠34)
theorem Ce {W:World}{l:List UInt8}{a:Nat}(ha:a<=100)(h:l.all (Qf a)=true):Cn p_ 328 [ay l,.int .u8 (a:Int)] W [] (fun _:Unit=> .bool true) (fun _=>[]):=by
 have hall:∀c∈l,a<=c.toNat/\c.toNat<=126/\c.toNat≠34:=fun c hc=>of_decide_eq_true (List.all_eq_true.1 h c hc)
 have h1:∀(bx:Nat),∀c∈l,Cn p_ 405 ([.int .i32 (c.toNat:Int)]++[.pointer (some ⟨bx,0,none⟩)]) W [pt bx (.cells #[.int .u8 (a:Int)] 5)] (fun _:Unit=> .bool false) (fun _=>[pt bx (.cells #[.int .u8 (a:Int)] 5)]):=by
  intro bx c hc
  obtain⟨c1,c2,c3⟩:=hall c hc
  (refine Shp.cn (Sg.g_ Tryz.call405 Tryz.func405) fun F=>?_;simp only[ca_,na_])
  refine aH ?_
  refine o_ (eN (q:= .i32)) ?_
  rw[show IntKind.i32.wrap (a:Int)=(a:Int) by simp only[IntKind.wrap,IntKind.bits,IntKind.signed];simp;omega]
  (((refine o_ (Sl.bF ?hcq) ?_);(case hcq=>(first|omega|(simp only[List.length_nil,List.length_cons];omega)))));refine ab ?_;refine ab ?_;(((refine o_ (Sl.cf ?hcq) ?_);(case hcq=>(first|omega|(simp only[List.length_nil,List.length_cons];omega)))));refine o_ ak ?_;refine ab ?_;refine ab ?_;(((refine o_ (Sl.bA ?hcq) ?_);(case hcq=>(first|omega|(simp only[List.length_nil,List.length_cons];omega)))));refine o_ ak ?_
  refine aR () ?_
  exact .refl
 (refine Shp.cn (Sg.g_ Tryz.call328 Tryz.func328) fun F=>?_;simp only[ca_,na_])
 refine b_ fun g=>?_;refine o_ bC ?_
 refine' ah (Jh (l:=l) (f:=405) (cap:=[.pointer (some ⟨g,0,none⟩)]) (fun c hc=>by have:=hall c hc;omega) (h1 g)) ?hp fun _=>?_
 case hp=>exact .cons .here .nil
 refine am ?_
 refine o_ cL (aR () ?_)
 exact az
theorem GN {W:World}{p r:List UInt8}(hp:p=47::r)(h:il r=true)(hb:p.all (Qf 33)=true):Cn p_ 414 [ay p] W [] (fun _:Unit=> .bool true) (fun _=>[]):=by
 (refine Shp.cn (Sg.g_ Tryz.call414 Tryz.func414) fun F=>?_;simp only[ca_,na_])
 refine c_ (Bh hp h) fun _=>?_
 refine bE ?_;refine bE ?_;(((refine o_ (Sl.ce ?hcq) ?_);(case hcq=>(first|omega|(simp only[List.length_nil,List.length_cons];omega)))));refine ab (ab (ab ?_));(((refine' aE (Sl.jq ?hcq) .nil ?_);(case hcq=>(first|rfl|assumption))));refine o_ av (ab (ab ?_))
 refine' ah (Ce (l:=p) (a:=33) (by decide) hb) ?hp fun _=>?_
 case hp=>exact .nil
 refine am ?_
 refine o_ av (aR () ?_)
 exact .refl
theorem GO {W:World}{f:FuncId}{cap:List Value}{A:HP}{q:Ca}{g c:Nat}(hs:q.s=(some ⟨g,0,none⟩,c))(hf:Cn p_ f ([.agg (jy q).toArray]++cap) W [A] (fun _:Unit=> .int .i64 0) (fun _=>[A])):
  Cn p_ 257 [.slice (some ⟨g,0,none⟩) 1 c,.func (.func f) #[] cap.toArray] W [Sl 3 200 (some ⟨g,0,none⟩) c 1 (jy q),A] (fun _:Unit=> .int .i64 (-1)) (fun _=>[Sl 3 200 (some ⟨g,0,none⟩) c 1 (jy q),A]):=by
 (refine Shp.cn (Sg.g_ Tryz.call257 Tryz.func257 (an:={loops:=[(3,[5,6,12])]})) fun F=>?_;simp only[ca_,na_])
 refine o_ aI (gC (fun m x y z=>[ex fun i:Nat=>pu (m+i=1/\x= .int .i64 (-1)/\y= .int .i64 0/\z= .int .i64 (i:Int))]++(Sl 3 200 (some ⟨g,0,none⟩) c 1 (jy q)::A::F)) 1 ?_ ?_)
 ·exact Imp.ex 0 (.pu ⟨rfl,rfl,rfl,rfl⟩ .refl)
 intro m ds x y z
 refine am ?_
 refine a8 Pick.here fun i=>aT .here fun hi=>?_
 obtain⟨hm,rfl,rfl,rfl⟩:=hi
 rcases Nat.lt_or_ge i 1 with hi|hi
 ·obtain rfl:i=0:=by omega
  (((refine o_ (Sl.bY ?hcq) ?_);(case hcq=>(first|omega|(simp only[List.length_nil,List.length_cons];omega)))));refine ai ?_
  refine o_ (dR 0 rfl (by decide)) ?_
  refine aE (df (n:=3) (j:=0) (vs:=jy q) (d8 (n:=1) (s:=3) rfl fun _=>⟨g,rfl⟩) rfl (fun i hi=>by rw[Nat.zero_add])) az ?_
  unfold jy
  refine aU fun g=>?_;(((refine' aK ?hp ?hn ?hv ?h1 ?_);(case hp=>(repeat constructor));(case hn=>rfl);(case hv=>rfl);(case h1=>simp[Value.oneCell',ay])));refine jL ?_
  refine bt hf (.cons (by repeat constructor) .nil) fun _=>?_
  refine am ?_
  (((refine o_ (Sl.cf ?hcq) ?_);(case hcq=>(first|omega|(simp only[List.length_nil,List.length_cons];omega)))));refine af ?_;refine bP ?_
  refine cC (m-1) ?_ ?_
  ·omega
  refine .ex 1 (.pu ⟨by omega,rfl,rfl,rfl⟩ ?_)
  exact az
 ·(((refine o_ (Sl.bF ?hcq) ?_);(case hcq=>(first|omega|(simp only[List.length_nil,List.length_cons];omega)))));refine af ?_
  refine aR () ?_
  exact .refl
def j8 (i:Nat):List Value:=if i=0 then dy else bX
theorem j9 (i:Nat):(j8 i).length=12:=by unfold j8;split <;> rfl
theorem uK {i k:Nat}(hi:i<2)(hk:k<12):(dy++bX)[i * 12+k]? =(j8 i)[k]? :=by
 have:=jR (f:=j8) (s:=12) j9 [0,1] i k hi hk
 rw[show [0,1].flatMap j8=dy++bX from rfl]at this
 rw[this]
 rcases(show i=0\/i=1 by omega)with rfl|rfl <;> rfl
theorem Qg {W:World}{f:FuncId}{cap:List Value}{A:HP}{g c:Nat}(hf:∀i,i<2->Cn p_ f ([.agg (j8 i).toArray]++cap) W [A] (fun _:Unit=> .int .i64 (if i=0 then 2 else 5)) (fun _=>[A])):
  Cn p_ 258 [.slice (some ⟨g,0,none⟩) 2 c,.func (.func f) #[] cap.toArray] W [Sl 12 101 (some ⟨g,0,none⟩) c 2 (dy++bX),A] (fun _:Unit=> .int .i64 1) (fun _=>[Sl 12 101 (some ⟨g,0,none⟩) c 2 (dy++bX),A]):=by
 (refine Shp.cn (Sg.g_ Tryz.call258 Tryz.func258 (an:={loops:=[(3,[5,6,12])]})) fun F=>?_;simp only[ca_,na_])
 refine o_ aI (gC (fun m x y z=>[ex fun i:Nat=>pu (m+i=2/\x= .int .i64 ((i:Int)-1)/\y= .int .i64 (if i=0 then 0 else if i=1 then 2 else 5)/\z= .int .i64 (i:Int))]++(Sl 12 101 (some ⟨g,0,none⟩) c 2 (dy++bX)::A::F)) 2 ?_ ?_)
 ·exact Imp.ex 0 (.pu ⟨rfl,rfl,rfl,rfl⟩ .refl)
 intro m ds x y z
 refine am ?_
 refine a8 Pick.here fun i=>aT .here fun hi=>?_
 obtain⟨hm,rfl,rfl,rfl⟩:=hi
 rcases Nat.lt_or_ge i 2 with hi|hi
 ·obtain⟨j,hj⟩:∃j,j=i:=⟨_,rfl⟩
  have hfi:=hf i hi
  refine o_ (bY (by omega)) ?_
  refine ai (o_ (dR i rfl hi) ?_)
  refine aE (df (n:=12) (j:=i * 12) (vs:=j8 i) (d8 (n:=2) (s:=12) rfl fun _=>⟨g,rfl⟩) (j9 i) (fun k hk=>uK hi hk)) az ?_
  have hlo:∀u∈(j8 i),u.oneCell'=true:=by
   rcases(show i=0\/i=1 by omega)with rfl|rfl <;> decide
  have hln:=j9 i
  generalize hL:j8 i=LL at hlo hln hfi ⊢
  refine aU fun g=>?_
  refine aK (by repeat constructor) (by rfl) (by rw[List.size_toArray];exact hln) (by simpa using hlo) ?_
  refine aE (bN (by rw[List.size_toArray];exact hln)) az ?_
  refine bt hfi (.cons (by repeat constructor) .nil) fun _=>?_
  refine am ?_
  rcases(show i=0\/i=1 by omega)with rfl|rfl
  ·(((refine o_ (Sl.gi ?hcq) ?_);(case hcq=>(first|omega|(simp only[List.length_nil,List.length_cons];omega)))));refine ai ?_;refine bP ?_
   refine cC (m-1) ?_ ?_
   ·omega
   refine .ex 1 (.pu ⟨by omega,rfl,rfl,rfl⟩ ?_)
   exact az
  ·(((refine o_ (Sl.gi ?hcq) ?_);(case hcq=>(first|omega|(simp only[List.length_nil,List.length_cons];omega)))));refine ai ?_;refine bP ?_
   refine cC (m-1) ?_ ?_
   ·omega
   refine .ex 2 (.pu ⟨by omega,rfl,rfl,rfl⟩ ?_)
   exact az
 ·obtain rfl:i=2:=by omega
  (((refine o_ (Sl.bF ?hcq) ?_);(case hcq=>(first|omega|(simp only[List.length_nil,List.length_cons];omega)))));refine af ?_
  refine aR () ?_
  exact .refl
def zf:List Value:=[.int .i64 1,.int .i64 64]
theorem Cf {s:Nat}{cs:List Value}(h:cs.length=s)(h1:∀u∈cs,u.oneCell'=true):Els s 1 cs (fun _=>cs):=⟨by omega,fun _ _=>h,fun _ _=>h1,fun i k hi _=>by rw[show i=0 by omega,Nat.zero_mul,Nat.zero_add]⟩
theorem VU {W:World}{A:HP}:Cn p_ 335 ([.agg zf.toArray]++[]) W [A] (fun _:Unit=> .bool true) (fun _=>[A]):=by
 (refine Shp.cn (Sg.g_ Tryz.call335 Tryz.func335) fun F=>?_;simp only[ca_,na_])
 unfold zf
 refine aX fun g=>?_;refine o_ ae (aH ?_)
 refine c_ (jC (a:=1) (b:=0) (c:=999) (by decide) (by decide)) fun _=>?_
 refine ab (o_ ae (ab (aH ?_)));refine ab (c_ (jC (a:=64) (b:=1) (c:=64) (by decide) (by decide)) fun _=>?_)
 refine o_ av (aR () ?_)
 exact az
theorem VV {W:World}:Cn p_ 337 ([.agg zf.toArray]++[]) W [] (fun _:Unit=>eW 1) (fun _=>[]):=by
 (refine Shp.cn (Sg.g_ Tryz.call337 Tryz.func337) fun F=>?_;simp only[ca_,na_])
 unfold zf
 refine aX fun g=>?_;refine o_ ae (aH ?_)
 refine aR () ?_
 exact az
theorem VW {W:World}{q:Ca}{tm rt:Int}{G c:Nat}(hq:q.p=(some ⟨G,0,none⟩,c))(h1:1<=tm)(h2:tm<=3600)(h3:0<=rt)(h4:rt<=8):Cn p_ 226 ([.agg (iT q tm rt).toArray]++[]) W [Sl 2 315 (some ⟨G,0,none⟩) c 1 zf] (fun _:Unit=> .bool true) (fun _=>[Sl 2 315 (some ⟨G,0,none⟩) c 1 zf]):=by
 (refine Shp.cn (Sg.g_ Tryz.call226 Tryz.func226) fun F=>?_;simp only[ca_,na_])
 unfold iT
 rw[hq]
 (try dsimp only)
 refine aX fun g=>?_;refine o_ ae (aH ?_)
 refine c_ (nC (l:=oJ) (by decide)) fun _=>?_
 rw[show kF oJ=true by decide]
 refine ab (o_ ae (ab (aH ?_)));refine ab (o_ aI (ab (c_ (jC (a:=1) (b:=1) (c:=16) (by decide) (by decide)) fun _=>?_)))
 refine o_ av (ab (o_ ae (ab (aH ?_))));refine ab (c_ (jC h1 h2) fun _=>?_)
 refine o_ av (ab (o_ ae (ab (aH ?_))));refine ab (c_ (jC h3 h4) fun _=>?_)
 refine o_ av (ab (o_ ae (ab (aH ?_))));refine ab (bf (M:=Sl 2 315 (some ⟨G,0,none⟩) c 1 zf::pu True::_) (.pick (by repeat constructor) (.pu trivial .refl)) ?_)
 refine' ah (E4 (G:=G) (c:=c) (n:=1) (cs:=zf) (E:=fun _=>zf) (cap:=[]) (f:=335) (A:=pu True) (Cf rfl (by simp[zf,Value.oneCell'])) (by decide) (fun i hi=>VU)) ?hp fun _=>?_
 case hp=>(repeat(first|exact Picks.nil|(apply Picks.cons;(focus repeat constructor))))
 refine am ?_
 refine o_ av (ab (o_ ae (ab (aH ?_))));refine ab ?_
 refine' ah (wj (G:=G) (c:=c) (n:=1) (cs:=zf) (E:=fun _=>zf) (f:=337) (key:=fun _=>1) (Cf rfl (by simp[zf,Value.oneCell'])) (by decide) (fun i j h1 h2=>by omega) (fun i hi=>VV)) ?hp fun _=>?_
 case hp=>(repeat(first|exact Picks.nil|(apply Picks.cons;(focus repeat constructor))))
 refine am ?_
 refine o_ av (aR () ?_)
 exact az
def zg:Array Value:=#[ay [],.int .i64 0,ay [],ay [],.int .i64 0,.int .i64 0,ay [],.bool false,.int .i64 0,.int .i64 0,.int .i64 0,ay []]
theorem Cg {W:World}{ox oy:Operand}:aQ p_ W [] (dY .eql 101 ox oy (.agg zg) (.agg zg)) (.bool true):=
 AH (by kernel_rfl) (by kernel_rfl) (by kernel_rfl) fun w=>by
  have hf:(p_.fieldsOf 101).toList=(#[⟨"Prefix",9,0,false,"","",0⟩,⟨"Kind",3,1,false,"","",16⟩,⟨"Root",9,2,false,"","",24⟩,⟨"Index",9,3,false,"","",40⟩,⟨"Gzip",3,4,false,"","",56⟩,⟨"Expires",3,5,false,"","",64⟩,⟨"Upstream",9,6,false,"","",72⟩,⟨"Cache",4,7,false,"","",88⟩,⟨"Rate",3,8,false,"","",96⟩,⟨"Burst",3,9,false,"","",104⟩,⟨"Status",3,10,false,"","",112⟩,⟨"To",9,11,false,"","",120⟩]:Array Field).toList:=by kernel_rfl
  rw[hf]
  exact Pa [] [] (by decide) (by rfl) (by rfl) (by rfl) (Gf 0 0 (by decide) (by rfl) (by rfl) (by rfl) (Pa [] [] (by decide) (by rfl) (by rfl) (by rfl) (Pa [] [] (by decide) (by rfl) (by rfl) (by rfl) (Gf 0 0 (by decide) (by rfl) (by rfl) (by rfl) (Gf 0 0 (by decide) (by rfl) (by rfl) (by rfl) (Pa [] [] (by decide) (by rfl) (by rfl) (by rfl) (VN false false (by decide) (by rfl) (by rfl) (by rfl) (Gf 0 0 (by decide) (by rfl) (by rfl) (by rfl) (Gf 0 0 (by decide) (by rfl) (by rfl) (by rfl) (Gf 0 0 (by decide) (by rfl) (by rfl) (by rfl) (Pa [] [] (by decide) (by rfl) (by rfl) (by rfl) Ge)))))))))))
theorem Qh {W:World}{A:HP}{v:Value}:Cn p_ 344 [.agg dy.toArray,v] W [A] (fun _:Unit=> .bool true) (fun _=>[A]):=by
 (refine Shp.cn (Sg.g_ Tryz.call344 Tryz.func344 (an:={cuts:=[(16,[5])],drs:=[(14,.ofL [(0,1),(1,1),(2,1),(3,1),(4,0),(5,1),(6,1),(7,1),(8,1),(9,1),(10,1),(11,1),(12,1),(13,1),(14,1),(15,0),(16,1),(17,1),(18,1),(19,1),(21,3),(22,3),(20,0),(23,1),(24,1),(25,1)])]}) (os:=[(14,[(20,[22,21])])])) fun F=>?_;simp only[ca_,na_])
 unfold dy
 refine aX fun g=>?_;refine o_ ae (aH ?_)
 refine c_ (GN (p:=[47]) (r:=[]) rfl (by decide+kernel) (by decide)) fun _=>?_
 refine ab (o_ ae (ab (aH ?_)));refine ab (c_ (jC (a:=0) (b:=0) (c:=1000000) (by decide) (by decide)) fun _=>?_)
 refine o_ av (ab (o_ ae (ab (aH ?_))));refine ab (c_ (jC (a:=0) (b:=0) (c:=1000000) (by decide) (by decide)) fun _=>?_)
 refine o_ av (ab (o_ ae (ab (aH ?_))));refine ab ?_;(((refine o_ (Sl.cf ?hcq) ?_);(case hcq=>(first|omega|(simp only[List.length_nil,List.length_cons];omega)))));refine ab (ab (o_ ae (ab (aH ?_))));refine ab ?_;(((refine o_ (Sl.ce ?hcq) ?_);(case hcq=>(first|omega|(simp only[List.length_nil,List.length_cons];omega)))));refine ab (o_ ak (o_ av (jL ?_)));refine aU fun g=>?_;(((refine' aK ?hp ?hn ?hv ?h1 ?_);(case hp=>(repeat constructor));(case hn=>rfl);(case hv=>rfl);(case h1=>simp[Value.oneCell',ay])));refine o_ ae (bR ?_);refine o_ ae (bR ?_);refine o_ ae (bR ?_);refine o_ ae (bR ?_)
 refine dK (fun x=>pu (x= .bool true)::pt g (.cells zg 101)::A::F) ?_ ?_
 rotate_left
 ·(refine o_ ae ?_);refine aH ?_;(((refine o_ (Sl.bA ?hcq) ?_);(case hcq=>(first|omega|(simp only[List.length_nil,List.length_cons];omega)))));refine af ?_;(((refine o_ (Sl.bA ?hcq) ?_);(case hcq=>(first|omega|(simp only[List.length_nil,List.length_cons];omega)))));refine af ?_;(((refine o_ (Sl.ce ?hcq) ?_);(case hcq=>(first|omega|(simp only[List.length_nil,List.length_cons];omega)))));refine ai ?_;refine aW ?_;refine ab ?_;refine t_ ae ?_;refine ab ?_;refine cm ?_;refine ab ?_
  refine c_ (jC (a:=200) (b:=200) (c:=599) (by decide) (by decide)) fun _=>?_
  refine t_ av (ab (t_ ae (ab (cm ?_))));refine ab (t_ bu (ab (t_ (f7 (by decide)) ?_)))
  refine t_ av (ab (t_ ae (ab (cm ?_))));refine ab (c_ (Ce (l:=qZ) (a:=32) (by decide) (by decide)) fun _=>?_)
  refine t_ av (ab (t_ ae (ab (cm ?_))));refine db (aq ae .nil ?_);refine db ?_;(((refine' aq (aS ?hc) ?hi ?_);(case hi=>exact .pick (by repeat constructor) .nil);(case hc=>repeat constructor)));refine ab (c_ (tO (l:=qZ) (by decide)) fun _=>?_)
  rw[show cK qZ=qZ by decide]
  refine bj ?_;refine bj ?_;refine ab ?_;(((refine' be (Sl.jq ?hcq) .nil ?_);(case hcq=>(first|rfl|assumption))));refine t_ av (o_ ae (bR ?_));refine o_ ae (bR ?_)
  refine aN (.pu rfl ?_)
  unfold zg
  exact az
 intro ds z
 refine aT .here fun hz=>?_
 subst hz
 refine ab (jL ?_);refine ab (o_ bO ?_);refine ab (o_ Cg ?_)
 refine o_ av (aR () ?_)
 exact az
theorem Qi {W:World}{q:Ca}{tm rt:Int}{G c:Nat}:Cn p_ 344 [.agg bX.toArray,.slice (some ⟨G,0,none⟩) 1 c] W [Sl 4 145 (some ⟨G,0,none⟩) c 1 (iT q tm rt)] (fun _:Unit=> .bool true) (fun _=>[Sl 4 145 (some ⟨G,0,none⟩) c 1 (iT q tm rt)]):=by
 have h1:∀bx,Cn p_ 416 ([.agg (iT q tm rt).toArray]++[.pointer (some ⟨bx,0,none⟩)]) W [pt bx (.cells bX.toArray 101)] (fun _:Unit=> .bool true) (fun _=>[pt bx (.cells bX.toArray 101)]):=by
  intro bx
  (refine Shp.cn (Sg.g_ Tryz.call416 Tryz.func416) fun F=>?_;simp only[ca_,na_])
  unfold iT bX
  refine aX fun g=>?_;refine o_ ae (aH ?_);refine o_ ae (aH ?_);(((refine' aE (Sl.jq ?hcq) .nil ?_);(case hcq=>(first|rfl|assumption))))
  refine aR () ?_
  exact az
 have h2:∀bx,Cn p_ 332 [.slice (some ⟨G,0,none⟩) 1 c,.func (.func 416) #[] #[.pointer (some ⟨bx,0,none⟩)]] W [Sl 4 145 (some ⟨G,0,none⟩) c 1 (iT q tm rt),pt bx (.cells bX.toArray 101)] (fun _:Unit=> .bool true) (fun _=>[Sl 4 145 (some ⟨G,0,none⟩) c 1 (iT q tm rt),pt bx (.cells bX.toArray 101)]):=by
  intro bx
  have h3:Cn p_ 123 [.slice (some ⟨G,0,none⟩) 1 c,.func (.func 416) #[] #[.pointer (some ⟨bx,0,none⟩)]] W [Sl 4 145 (some ⟨G,0,none⟩) c 1 (iT q tm rt),pt bx (.cells bX.toArray 101)] (fun _:Unit=> .int .i64 0) (fun _=>[Sl 4 145 (some ⟨G,0,none⟩) c 1 (iT q tm rt),pt bx (.cells bX.toArray 101)]):=by
   (refine Shp.cn (Sg.g_ Tryz.call123 Tryz.func123 (an:={loops:=[(2,[8])]})) fun F=>?_;simp only[ca_,na_])
   refine o_ aI (aY (fun m y=>pu (y= .int .i64 0)::_) 0 (.pu rfl .refl) ?_)
   intro m ds y
   refine aT .here fun hz=>?_
   subst hz
   (((refine o_ (Sl.bY ?hcq) ?_);(case hcq=>(first|omega|(simp only[List.length_nil,List.length_cons];omega)))));refine ai ?_
   refine o_ (dR 0 rfl (by decide)) ?_
   refine aE (df (n:=4) (j:=0) (vs:=iT q tm rt) (d8 (n:=1) (s:=4) rfl fun _=>⟨G,rfl⟩) rfl (fun k hk=>by rw[Nat.zero_add])) az ?_
   refine bt (cap:=[.pointer (some ⟨bx,0,none⟩)]) (h1 bx) (.cons (by repeat constructor) .nil) fun _=>?_
   refine am ?_
   refine ai (aR () ?_)
   exact az
  (refine Shp.cn (Sg.g_ Tryz.call332 Tryz.func332) fun F=>?_;simp only[ca_,na_])
  refine' ah h3 ?hp fun _=>?_
  case hp=>(repeat(first|exact Picks.nil|(apply Picks.cons;(focus repeat constructor))))
  refine am ?_
  (((refine o_ (Sl.iP ?hcq) ?_);(case hcq=>(first|omega|(simp only[List.length_nil,List.length_cons];omega)))))
  refine aR () ?_
  exact az
 (refine Shp.cn (Sg.g_ Tryz.call344 Tryz.func344 (an:={cuts:=[(16,[5])],drs:=[(14,.ofL [(0,1),(1,1),(2,1),(3,1),(4,0),(5,1),(6,1),(7,1),(8,1),(9,1),(10,1),(11,1),(12,1),(13,1),(14,1),(15,0),(16,1),(17,1),(18,1),(19,1),(21,3),(22,3),(20,0),(23,1),(24,1),(25,1)])]}) (os:=[(14,[(20,[22,21])])])) fun F=>?_;simp only[ca_,na_])
 unfold bX
 refine aX fun g=>?_;refine o_ ae (aH ?_)
 rename Nat=>g1
 refine c_ (GN (p:=eE) (r:=[97,112,105]) rfl (by decide+kernel) (by decide)) fun _=>?_
 refine ab (o_ ae (ab (aH ?_)));refine ab (c_ (jC (a:=0) (b:=0) (c:=1000000) (by decide) (by decide)) fun _=>?_)
 refine o_ av (ab (o_ ae (ab (aH ?_))));refine ab (c_ (jC (a:=0) (b:=0) (c:=1000000) (by decide) (by decide)) fun _=>?_)
 refine o_ av (ab (o_ ae (ab (aH ?_))));refine ab ?_;(((refine o_ (Sl.cf ?hcq) ?_);(case hcq=>(first|omega|(simp only[List.length_nil,List.length_cons];omega)))));refine ab (ab (o_ ae (ab (aH ?_))));refine ab ?_;(((refine o_ (Sl.ce ?hcq) ?_);(case hcq=>(first|omega|(simp only[List.length_nil,List.length_cons];omega)))));refine ab (o_ ak (o_ av (jL ?_)));refine aU fun g=>?_;(((refine' aK ?hp ?hn ?hv ?h1 ?_);(case hp=>(repeat constructor));(case hn=>rfl);(case hv=>rfl);(case h1=>simp[Value.oneCell',ay])));refine o_ ae (bR ?_);refine o_ ae (bR ?_);refine o_ ae (bR ?_);refine o_ ae (bR ?_)
 refine dK (fun x=>pu (x= .bool true)::pt g (.cells zg 101)::Sl 4 145 (some ⟨G,0,none⟩) c 1 (iT q tm rt)::F) ?_ ?_
 rotate_left
 ·(refine o_ ae ?_);refine aH ?_;(((refine o_ (Sl.bA ?hcq) ?_);(case hcq=>(first|omega|(simp only[List.length_nil,List.length_cons];omega)))));refine af ?_;(((refine o_ (Sl.ce ?hcq) ?_);(case hcq=>(first|omega|(simp only[List.length_nil,List.length_cons];omega)))));refine ai ?_;refine ab ?_;refine ab ?_;refine o_ bC ?_;refine ab ?_
  refine' ah (h2 g1) ?hp fun _=>?_
  case hp=>exact .cons (by repeat constructor) (.cons (by repeat constructor) .nil)
  unfold bX
  refine am ?_
  refine o_ av (ab (o_ ae (ab (aH ?_))));refine ab (c_ (jC (a:=0) (b:=0) (c:=9) (by decide) (by decide)) fun _=>?_)
  refine o_ av (o_ ae (bR ?_));refine o_ ae (bR ?_);refine o_ ae (bR ?_)
  refine aN (.pu rfl ?_)
  unfold zg
  exact az
 intro ds z
 refine aT .here fun hz=>?_
 subst hz
 refine ab (jL ?_);refine ab (o_ bO ?_);refine ab (o_ Cg ?_)
 refine o_ av (aR () ?_)
 exact az
theorem oL {W:World}{L L1 L2:List HP}{A B:HP}{S:WP}(p1:Pick L A L1)(p2:Pick L1 B L2)(h:aJ W (all [A,B]::L2) S):aJ W L S:=bf (.all (.pick p1 (.pick p2 .refl))) h
theorem Qj {W:World}{f:FuncId}:Cn p_ 340 [.slice none 0 0,.func (.func f) #[] #[]] W [] (fun _:Unit=> .bool true) (fun _=>[]):=by
 have h1:∀bx:Nat,Cn p_ 177 [.slice none 0 0,.func (.func 410) #[] #[.pointer (some ⟨bx,0,none⟩)]] W [] (fun _:Unit=> .int .i64 (-1)) (fun _=>[]):=by
  intro bx
  (refine Shp.cn (Sg.g_ Tryz.call177 Tryz.func177 (an:={loops:=[(2,[8])]})) fun F=>?_;simp only[ca_,na_])
  refine o_ aI (aY (fun m y=>pu (y= .int .i64 0)::_) 0 (.pu rfl .refl) ?_)
  intro m ds y
  refine aT .here fun hz=>?_
  subst hz
  (((refine o_ (Sl.bF ?hcq) ?_);(case hcq=>(first|omega|(simp only[List.length_nil,List.length_cons];omega)))));refine af ?_
  refine aR () ?_
  exact az
 have h2:∀bx:Nat,Cn p_ 104 [.slice none 0 0,.func (.func 410) #[] #[.pointer (some ⟨bx,0,none⟩)]] W [] (fun _:Unit=> .bool false) (fun _=>[]):=by
  intro bx
  (refine Shp.cn (Sg.g_ Tryz.call104 Tryz.func104) fun F=>?_;simp only[ca_,na_])
  refine c_ (h1 bx) fun _=>?_
  (((refine o_ (Sl.eS ?hcq) ?_);(case hcq=>(first|omega|(simp only[List.length_nil,List.length_cons];omega)))))
  refine aR () ?_
  exact az
 (refine Shp.cn (Sg.g_ Tryz.call340 Tryz.func340) fun F=>?_;simp only[ca_,na_])
 refine b_ fun g=>?_;refine o_ bC (c_ (h2 g) fun _=>?_)
 refine o_ cL (aR () ?_)
 exact az
theorem Ch {W:World}{f:FuncId}{a:Option Addr}{c:Nat}:Cn p_ 232 [.slice a 0 c,.func (.func f) #[] #[]] W [] (fun _:Unit=> .bool true) (fun _=>[]):=by
 (refine Shp.cn (Sg.g_ Tryz.call232 Tryz.func232 (an:={loops:=[(3,[11])]})) fun F=>?_;simp only[ca_,na_])
 refine jt (P:=p_) (t:=477) (kt:=9) ay fun gm=>?_
 refine o_ aI (aY (fun m y=>pu (y= .int .i64 0)::_) 0 (.pu rfl .refl) ?_)
 intro m ds y
 refine aT .here fun hz=>?_
 subst hz
 (((refine o_ (Sl.bF ?hcq) ?_);(case hcq=>(first|omega|(simp only[List.length_nil,List.length_cons];omega)))));refine af ?_
 refine aR () ?_
 exact az
theorem Qk:Els 12 2 (dy++bX) j8:=⟨rfl,fun i _=>j9 i,fun i hi=>by
 rcases(show i=0\/i=1 by omega)with rfl|rfl
 ·show ∀u∈dy,u.oneCell'=true
  simp[dy,Value.oneCell',ay]
 ·show ∀u∈bX,u.oneCell'=true
  simp[bX,Value.oneCell',ay],fun i k hi hk=>uK hi hk⟩
def Ji (i:Nat):List UInt8:=if i=0 then [47]else eE
theorem UG {W:World}{i:Nat}:Cn p_ 346 ([.agg (j8 i).toArray]++[]) W [] (fun _:Unit=>ay (Ji i)) (fun _=>[]):=by
 (refine Shp.cn (Sg.g_ Tryz.call346 Tryz.func346) fun F=>?_;simp only[ca_,na_])
 unfold j8 Ji
 split
 ·unfold dy
  refine aX fun g=>?_;refine o_ ae (aH ?_)
  refine aR () ?_
  exact az
 ·unfold bX
  refine aX fun g=>?_;refine o_ ae (aH ?_)
  refine aR () ?_
  exact az
theorem UH {W:World}{q:Ca}{tm rt:Int}{G c bx i:Nat}(hi:i<2):Cn p_ 343 ([.agg (j8 i).toArray]++[.pointer (some ⟨bx,0,none⟩)]) W [all [pt bx (.cells #[.slice (some ⟨G,0,none⟩) 1 c] 77),Sl 4 145 (some ⟨G,0,none⟩) c 1 (iT q tm rt)]] (fun _:Unit=> .bool true) (fun _=>[all [pt bx (.cells #[.slice (some ⟨G,0,none⟩) 1 c] 77),Sl 4 145 (some ⟨G,0,none⟩) c 1 (iT q tm rt)]]):=by
 (refine Shp.cn (Sg.g_ Tryz.call343 Tryz.func343) fun F=>?_;simp only[ca_,na_])
 refine aB .here ?_
 refine am ?_
 refine aX fun b=>?_
 refine aE (bN (n:=12) (by rw[List.size_toArray];exact j9 i)) az ?_
 refine aH ?_
 rcases(show i=0\/i=1 by omega)with rfl|rfl
 ·refine' ah (Qh (v:= .slice (some ⟨G,0,none⟩) 1 c) (A:=Sl 4 145 (some ⟨G,0,none⟩) c 1 (iT q tm rt))) ?hp fun _=>?_
  case hp=>exact .cons (by repeat constructor) .nil
  refine am ?_
  refine aR () ?_
  refine .all ?_
  refine am ?_
  exact az
 ·refine' ah (Qi (q:=q) (tm:=tm) (rt:=rt) (G:=G) (c:=c)) ?hp fun _=>?_
  case hp=>exact .cons (by repeat constructor) .nil
  refine am ?_
  refine aR () ?_
  refine .all ?_
  refine am ?_
  exact az
theorem VX {W:World}{q:Ca}{tm rt:Int}{G c H d:Nat}(hq:q.l=(some ⟨H,0,none⟩,d)):Cn p_ 231 [.agg (jy q).toArray,.slice (some ⟨G,0,none⟩) 1 c] W [Sl 4 145 (some ⟨G,0,none⟩) c 1 (iT q tm rt),Sl 12 101 (some ⟨H,0,none⟩) d 2 (dy++bX)] (fun _:Unit=> .bool true) (fun _=>[Sl 4 145 (some ⟨G,0,none⟩) c 1 (iT q tm rt),Sl 12 101 (some ⟨H,0,none⟩) d 2 (dy++bX)]):=by
 (refine Shp.cn (Sg.g_ Tryz.call231 Tryz.func231) fun F=>?_;simp only[ca_,na_])
 unfold jy
 rw[hq]
 (try dsimp only)
 refine aX fun g=>?_;refine b_ fun g=>?_;refine o_ ae (aH ?_);refine o_ aI ?_;(((refine o_ (Sl.f7 ?hcq) ?_);(case hcq=>(first|omega|(simp only[List.length_nil,List.length_cons];omega)))));refine ab (o_ ae (ab (aH ?_)));refine ab (c_ (Qj (f:=341)) fun _=>?_)
 refine o_ av (ab (o_ ae (ab (aH ?_))));refine ab (o_ aI (ab (c_ (jC (a:=2) (b:=1) (c:=32) (by decide) (by decide)) fun _=>?_)))
 refine o_ av (ab (o_ ae (ab (aH ?_))));refine ab (o_ bC (ab (oL (by(repeat constructor):Pick _ (pt g (.cells #[.slice (some ⟨G,0,none⟩) 1 c] 77)) _) (by(repeat constructor):Pick _ (Sl 4 145 (some ⟨G,0,none⟩) c 1 (iT q tm rt)) _) ?_)))
 ·refine' ah (uJ (G:=H) (c:=d) (n:=2) (cs:=dy++bX) (E:=j8) (f:=343) (cap:=[.pointer (some ⟨g,0,none⟩)]) Qk (by decide) (fun i hi=>UH hi)) ?hp fun _=>?_
  case hp=>(repeat(first|exact Picks.nil|(apply Picks.cons;(focus repeat constructor))))
  refine am ?_
  refine aB (.there .here) ?_
  refine am ?_
  refine o_ av (ab (o_ ae (ab (aH ?_))));refine ab ?_
  refine' ah (pX (G:=H) (c:=d) (n:=2) (cs:=dy++bX) (E:=j8) (f:=346) (key:=Ji) Qk (by decide) (fun i j h1 h2=>by
   rcases(show i=1/\j=0 by omega)with ⟨rfl,rfl⟩
   decide) (fun i hi=>UG)) ?hp fun _=>?_
  case hp=>(repeat(first|exact Picks.nil|(apply Picks.cons;(focus repeat constructor))))
  refine am ?_
  refine o_ av (aR () ?_)
  exact az
theorem VY {W:World}{q:Ca}{tm rt:Int}:Cn p_ 228 ([.agg (iT q tm rt).toArray]++[]) W [] (fun _:Unit=>ay oJ) (fun _=>[]):=by
 (refine Shp.cn (Sg.g_ Tryz.call228 Tryz.func228) fun F=>?_;simp only[ca_,na_])
 unfold iT
 refine aX fun g=>?_;refine o_ ae (aH ?_)
 refine aR () ?_
 exact az
theorem xM {W:World}{L L1 L2 L3:List HP}{A B C:HP}{S:WP}(p1:Pick L A L1)(p2:Pick L1 B L2)(p3:Pick L2 C L3)(h:aJ W (all [A,B,C]::L3) S):aJ W L S:=bf (.all (.pick p1 (.pick p2 (.pick p3 .refl)))) h
def Ql (st:Nat)(q:Ca)(bx:Nat)(G c H d:Nat)(tm rt:Int):HP:=all [pt bx (.cells (uY st q).toArray 80),Sl 4 145 (some ⟨G,0,none⟩) c 1 (iT q tm rt),Sl 12 101 (some ⟨H,0,none⟩) d 2 (dy++bX)]
theorem VZ {W:World}{st:Nat}{q:Ca}{bx G c H d:Nat}{tm rt:Int}(hu:q.u=(some ⟨G,0,none⟩,c))(hl:q.l=(some ⟨H,0,none⟩,d)):Cn p_ 230 ([.agg (jy q).toArray]++[.pointer (some ⟨bx,0,none⟩)]) W [Ql st q bx G c H d tm rt] (fun _:Unit=> .bool true) (fun _=>[Ql st q bx G c H d tm rt]):=by
 (refine Shp.cn (Sg.g_ Tryz.call230 Tryz.func230) fun F=>?_;simp only[ca_,na_])
 unfold Ql
 refine aB .here ?_
 unfold jy uY
 rw[hu]
 refine am ?_
 (try dsimp only)
 refine aX fun g=>?_;refine jL ?_;refine o_ ae (aH ?_)
 refine' ah (VX (q:=q) (tm:=tm) (rt:=rt) (G:=G) (c:=c) hl) ?hp fun _=>?_
 case hp=>exact .cons (by repeat constructor) (.cons (by repeat constructor) .nil)
 refine am ?_
 refine aR () ?_
 refine .all ?_
 refine am ?_
 exact az
theorem Jj {W:World}{st:Nat}{q:Ca}{tm rt:Int}(hst:st<=1048576)(h1:1<=tm)(h2:tm<=3600)(h3:0<=rt)(h4:rt<=8):Cn p_ 139 [.agg (uY st q).toArray] W [eJ q tm rt] (fun _:Unit=> .int .i64 0) (fun _=>[eJ q tm rt]):=by
 (refine Shp.cn (Sg.g_ Tryz.call139 Tryz.func139 (an:={loops:=[(4,[3,4,11])]})) fun F=>?_;simp only[ca_,na_])
 refine aB .here ?_
 refine am ?_
 refine a9 (by(repeat constructor):Pick _ (Sl 4 145 q.u.1 q.u.2 _ _) _) (by decide) fun gu hu=>?_
 refine a9 (by(repeat constructor):Pick _ (Sl 2 315 q.p.1 q.p.2 _ _) _) (by decide) fun gp hp=>?_
 refine a9 (by(repeat constructor):Pick _ (Sl 3 200 q.s.1 q.s.2 _ _) _) (by decide) fun gs hs=>?_
 refine a9 (by(repeat constructor):Pick _ (Sl 12 101 q.l.1 q.l.2 _ _) _) (by decide) fun gl hl=>?_
 obtain⟨⟨u1,u2⟩,⟨p1,p2⟩,⟨s1,s2⟩,⟨l1,l2⟩⟩:=q
 dsimp only at hu hp hs hl ⊢
 subst hu hp hs hl
 unfold uY
 refine aX fun bx=>?_
 refine o_ ae (aH ?_);refine o_ aI (gC (fun m x y z=>[ex fun st:Nat × AC=>all [pu (m+st.1=1/\x= .slice st.2.1 0 st.2.2/\y= .int .i64 0/\z= .int .i64 (st.1:Int)),Sl 1 9 st.2.1 st.2.2 0 []]]++(pt bx (.cells #[.int .i64 75,.int .i64 65536,.int .i64 (st:Int),.int .i64 1000,.slice (some ⟨gu,0,none⟩) 1 u2,.slice (some ⟨gs,0,none⟩) 1 s2] 80)::Sl 4 145 (some ⟨gu,0,none⟩) u2 1 (iT ⟨(some ⟨gu,0,none⟩,u2),(some ⟨gp,0,none⟩,p2),(some ⟨gs,0,none⟩,s2),(some ⟨gl,0,none⟩,l2)⟩ tm rt)::Sl 2 315 (some ⟨gp,0,none⟩) p2 1 [.int .i64 1,.int .i64 64]::Sl 3 200 (some ⟨gs,0,none⟩) s2 1 (jy ⟨(some ⟨gu,0,none⟩,u2),(some ⟨gp,0,none⟩,p2),(some ⟨gs,0,none⟩,s2),(some ⟨gl,0,none⟩,l2)⟩)::Sl 12 101 (some ⟨gl,0,none⟩) l2 2 (dy++bX)::F)) 1 ?_ ?_)
 ·refine Imp.ex (0,(none,0)) (.all ?_)
  refine am ?_
  exact .pu ⟨rfl,rfl,rfl,rfl⟩ (bJ .refl)
 intro m ds x y z
 refine am ?_
 refine a8 Pick.here fun st2=>aB .here ?_
 obtain⟨i,na,nc⟩:=st2
 refine am ?_
 refine aT .here fun hi=>?_
 (try dsimp only at hi)
 obtain⟨hm,rfl,rfl,rfl⟩:=hi
 (try dsimp only)
 rcases Nat.lt_or_ge i 1 with hi|hi
 ·obtain rfl:i=0:=by omega
  (((refine o_ (Sl.bY ?hcq) ?_);(case hcq=>(first|omega|(simp only[List.length_nil,List.length_cons];omega)))));refine ai ?_
  refine o_ (dR 0 rfl (by decide)) ?_
  refine aE (df (n:=3) (j:=0) (vs:=jy ⟨(some ⟨gu,0,none⟩,u2),(some ⟨gp,0,none⟩,p2),(some ⟨gs,0,none⟩,s2),(some ⟨gl,0,none⟩,l2)⟩) (d8 (n:=1) (s:=3) rfl fun _=>⟨gs,rfl⟩) rfl (fun k hk=>by rw[Nat.zero_add])) az ?_
  rw[show(Value.agg (jy ⟨(some ⟨gu,0,none⟩,u2),(some ⟨gp,0,none⟩,p2),(some ⟨gs,0,none⟩,s2),(some ⟨gl,0,none⟩,l2)⟩).toArray)= .agg #[.slice none 0 0,.bool false,.slice (some ⟨gl,0,none⟩) 2 l2]from rfl]
  refine aU fun g=>?_;(((refine' aK ?hp ?hn ?hv ?h1 ?_);(case hp=>(repeat constructor));(case hn=>rfl);(case hv=>rfl);(case h1=>simp[Value.oneCell',ay])));refine o_ ae (aH ?_)
  refine bQ (m:=0) (news:=[]) (by(repeat constructor):Pick _ (Sl 1 9 na nc 0 []) _) (fun w hw=>Src.ofNil (e':=9) w (by kernel_rfl) 0) (by decide) (by decide) fun a' c'=>?_
  refine o_ ae (aH ?_);refine af (bP ?_)
  refine cC (m-1) ?_ ?_
  ·omega
  refine .ex (1,(a',c')) (.all ?_)
  refine am ?_
  refine .pu ⟨by omega,rfl,rfl,rfl⟩ ?_
  exact .pick .here az
 ·obtain rfl:i=1:=by omega
  (((refine o_ (Sl.bF ?hcq) ?_);(case hcq=>(first|omega|(simp only[List.length_nil,List.length_cons];omega)))));refine af ?_;refine o_ ae ?_;refine aH ?_
  refine c_ (jC (a:=75) (b:=0) (c:=3600) (by decide) (by decide)) fun _=>?_
  refine ab (o_ ae (ab (aH ?_)));refine ab (c_ (jC (a:=65536) (b:=0) (c:=1048576) (by decide) (by decide)) fun _=>?_)
  refine o_ av (ab (o_ ae (ab (aH ?_))));refine ab (c_ (jC (a:=(st:Int)) (b:=0) (c:=1048576) (by omega) (by omega)) fun _=>?_)
  refine o_ av (ab (o_ ae (ab (aH ?_))));refine ab (c_ (jC (a:=1000) (b:=1) (c:=1000) (by decide) (by decide)) fun _=>?_)
  refine o_ av (ab (o_ ae (ab (aH ?_))));refine ab (o_ aI (ab ?_));(((refine o_ (Sl.f7 ?hcq) ?_);(case hcq=>(first|omega|(simp only[List.length_nil,List.length_cons];omega)))));refine o_ av (ab (o_ ae (ab (aH ?_))));refine ab ?_
  refine' ah (uI (G:=gu) (c:=u2) (n:=1) (cs:=iT ⟨(some ⟨gu,0,none⟩,u2),(some ⟨gp,0,none⟩,p2),(some ⟨gs,0,none⟩,s2),(some ⟨gl,0,none⟩,l2)⟩ tm rt) (E:=fun _=>iT ⟨(some ⟨gu,0,none⟩,u2),(some ⟨gp,0,none⟩,p2),(some ⟨gs,0,none⟩,s2),(some ⟨gl,0,none⟩,l2)⟩ tm rt) (cap:=[]) (f:=226) (Cf rfl (by simp[iT,Value.oneCell',ay])) (by decide) (fun i hi=>VW (q:=⟨(some ⟨gu,0,none⟩,u2),(some ⟨gp,0,none⟩,p2),(some ⟨gs,0,none⟩,s2),(some ⟨gl,0,none⟩,l2)⟩) (tm:=tm) (rt:=rt) (G:=gp) (c:=p2) rfl h1 h2 h3 h4)) ?hp fun _=>?_
  case hp=>exact .cons (by repeat constructor) (.cons (by repeat constructor) .nil)
  refine am ?_
  refine o_ av (ab (o_ ae (ab (aH ?_))));refine ab ?_
  refine' ah (pW (G:=gu) (c:=u2) (n:=1) (cs:=iT ⟨(some ⟨gu,0,none⟩,u2),(some ⟨gp,0,none⟩,p2),(some ⟨gs,0,none⟩,s2),(some ⟨gl,0,none⟩,l2)⟩ tm rt) (E:=fun _=>iT ⟨(some ⟨gu,0,none⟩,u2),(some ⟨gp,0,none⟩,p2),(some ⟨gs,0,none⟩,s2),(some ⟨gl,0,none⟩,l2)⟩ tm rt) (f:=228) (key:=fun _=>oJ) (Cf rfl (by simp[iT,Value.oneCell',ay])) (by decide) (fun i j h1 h2=>by omega) (fun i hi=>VY)) ?hp fun _=>?_
  case hp=>(repeat(first|exact Picks.nil|(apply Picks.cons;(focus repeat constructor))))
  refine am ?_
  refine o_ av (ab (o_ ae (ab (aH ?_))));refine ab (o_ aI (ab (c_ (jC (a:=1) (b:=1) (c:=32) (by decide) (by decide)) fun _=>?_)))
  refine o_ av (ab (o_ ae (ab (aH ?_))));refine ab (o_ bC (ab (xM (by(repeat constructor):Pick _ (pt bx _) _) (by(repeat constructor):Pick _ (Sl 4 145 (some ⟨gu,0,none⟩) u2 1 (iT ⟨(some ⟨gu,0,none⟩,u2),(some ⟨gp,0,none⟩,p2),(some ⟨gs,0,none⟩,s2),(some ⟨gl,0,none⟩,l2)⟩ tm rt)) _) (by(repeat constructor):Pick _ (Sl 12 101 (some ⟨gl,0,none⟩) l2 2 (dy++bX)) _) ?_)))
  refine' ah (ze (G:=gs) (c:=s2) (n:=1) (cs:=jy ⟨(some ⟨gu,0,none⟩,u2),(some ⟨gp,0,none⟩,p2),(some ⟨gs,0,none⟩,s2),(some ⟨gl,0,none⟩,l2)⟩) (E:=fun _=>jy ⟨(some ⟨gu,0,none⟩,u2),(some ⟨gp,0,none⟩,p2),(some ⟨gs,0,none⟩,s2),(some ⟨gl,0,none⟩,l2)⟩) (cap:=[.pointer (some ⟨bx,0,none⟩)]) (f:=230) (A:=Ql st ⟨(some ⟨gu,0,none⟩,u2),(some ⟨gp,0,none⟩,p2),(some ⟨gs,0,none⟩,s2),(some ⟨gl,0,none⟩,l2)⟩ bx gu u2 gl l2 tm rt) (Cf rfl (by simp[jy,Value.oneCell',ay])) (by decide) (fun i hi=>VZ rfl rfl)) ?hp fun _=>?_
  case hp=>exact .cons (by repeat constructor) (.cons (by repeat constructor) .nil)
  refine am ?_
  unfold Ql
  refine aB (.there .here) ?_
  refine am ?_
  refine o_ av (ab (ab ?_))
  refine' ah (Ch (f:=233) (a:=na) (c:=nc)) ?hp fun _=>?_
  case hp=>exact .nil
  refine am ?_
  refine o_ av (ab (ab ?_));(((refine o_ (Sl.f7 ?hcq) ?_);(case hcq=>(first|omega|(simp only[List.length_nil,List.length_cons];omega)))));refine o_ av (o_ bB (af (aR () ?_)))
  refine .all ?_
  refine am ?_
  exact az
end Go.Proofs.YtdjkdjepjahjfaaGreatDoor.TP
namespace Go.Proofs.YtdjkdjepjahjfaaGreatDoor.Sl
open Go Go.RowKit Sh
theorem kD {W:World}{A M F:List HP}{w:World}(i:Imp W A M)(h:sat W (A++F) w):sat W (M++F) w:=h.map fun h H=>by
 obtain⟨h1,h2,ha,hf,d,t1,t2⟩:=all_append H
 exact bZ ⟨h1,h2,i.all' _ ha,hf,d,t1,t2⟩
theorem Cn.imp {P:Program}{α:Type}{f:FuncId}{args:List Value}{W:World}{A A':List HP}{r:α->Value}{B B':α->List HP}(h:Cn P f args W A r B)(R:List HP)(hi:Imp W A' (A++R))(ho:∀x,Imp W (B x++R) (B' x)):Cn P f args W A' r B':=
 ⟨h.call,fun F w hw=>(h.run (R++F) w (by rw[<- List.append_assoc];exact kD hi hw)).mono fun e w' ⟨x,he,hs⟩=>⟨x,he,by rw[<- List.append_assoc]at hs;exact kD (ho x) hs⟩⟩
end Go.Proofs.YtdjkdjepjahjfaaGreatDoor.Sl
namespace Go.Proofs.YtdjkdjepjahjfaaGreatDoor.TP
open Go Go.Proofs Go.RowKit Sh Sl T FD
def Qm (x:(Nat × Nat × Nat) × Nat × Nat × Nat × Nat × Nat):FM:=Vz x.2.2.2.2.1 x.2.2.2.2.2 (Jc x.2.1 x.2.2.1 x.1.1 x.2.2.2.1 x.1.2.1 x.1.2.2 fun _=>none)
def cR (x:Nat × Nat × Nat):HP:=all [y_ 315 x.1,y_ 320 x.2.1,y_ 321 x.2.2]
def nh (gs:Nat->Nat)(f:Nat->AC × AC)(d t r:List UInt8)(b gd:Nat)(x:(Nat × Nat × Nat) × Nat × Nat × Nat × Nat × Nat):cG:=⟨gs,f,lz d t r,b,gd,Qm x,cR x.1⟩
theorem MH {W:World}{A R:HP}{b:Nat}{s s':Bs}{ln:Int}{f:FuncId}{args:List Value}(h:Cn p_ f args W [dp b s ln,A] (fun _:Unit=> .tuple #[]) (fun _=>[dp b s' ln,A])):Cn p_ f args W [dp b s ln,A,R] (fun _:Unit=> .tuple #[]) (fun _=>[dp b s' ln,A,R]):=h.imp [R] .refl fun _=> .refl
theorem VA {W:World}{A R:HP}{b:Nat}{s s':Bs}{ln:Int}{f:FuncId}{args:List Value}(h:Cn p_ f args W [dp b s ln] (fun _:Unit=> .tuple #[]) (fun _=>[dp b s' ln])):Cn p_ f args W [dp b s ln,A,R] (fun _:Unit=> .tuple #[]) (fun _=>[dp b s' ln,A,R]):=h.imp [A,R] .refl fun _=> .refl
theorem UI {W : World} {A X Y Z : HP} {N : List HP} {b : Nat} {s s' : Bs} {ln : Int} {f : FuncId} {args : List Value} (i : Imp W N [X, Y, Z]) (j : Imp W [X, Y, Z] N) (h : Cn p_ f args W [dp b s ln, A, X] (fun _ : Unit => .tuple #[]) (fun _ => [dp b s' ln, A, X])) : Cn p_ f args W [dp b s ln, A, all N] (fun _ : Unit => .tuple #[]) (fun _ => [dp b s' ln, A, all N]) :=
 ⟨h.call, fun F w hw => by
  have h1 : sat W (N ++ (dp b s ln :: A :: F)) w := sat.map (L := all N :: dp b s ln :: A :: F) (fun _ H => bZ H) (hw.pick (.there (.there .here)))
  have h2 := kD i h1
  have h3 : sat W ([dp b s ln, A, X] ++ (Y :: Z :: F)) w := (show Imp W ([X, Y, Z] ++ (dp b s ln :: A :: F)) (dp b s ln :: A :: X :: Y :: Z :: F) by
   refine am ?_
   (repeat (first | exact .refl | exact .nil | (apply Imp.pick; (focus ((repeat constructor); done))) | refine .drop ?_))).sat h2
  refine (h.run (Y :: Z :: F) w h3).mono fun e w' ⟨x, he, hs⟩ => ⟨x, he, ?_⟩
  refine (show Imp W ([dp b s' ln, A, X] ++ (Y :: Z :: F)) (dp b s' ln :: A :: all N :: F) from .pick .here (.pick .here (.conv (B := all [X, Y, Z]) (fun hh H => j.all' hh H) (.all ?_)))).sat hs
  exact .refl⟩
variable {W:World} {gs:Nat->Nat} {f:Nat->AC × AC} {d t r:List UInt8} {b gd:Nat} {x:(Nat × Nat × Nat) × Nat × Nat × Nat × Nat × Nat}
theorem eQ {k:Nat}{blk:List UInt8}{s:Bs}(hk:k<12)(h:((lz d t r).nd k).kids=[]):GM W (nh gs f d t r b gd x) k blk s s:=
 build (E:=nh gs f d t r b gd x) hk (by show((lz d t r).nd k).kids.length<=1000;rw[h];simp) (by show Steps W _ blk [] ((lz d t r).nd k).kids s s;rw[h];exact .nil)
def UJ:Bs:=⟨0,none,[],false,[]⟩
theorem Jk:dh [49]=(1,0)/\dh [54,52]=(64,0)/\dh [50,48,48]=(200,0):=by decide+kernel
theorem V0 [hG:Gl W]{s:Bs}{tm rt:Int}(hp:s.prs=[])(hu:s.up=some (10,1))(ht:dh t=(tm,0))(hr:dh r=(rt,0))(htl:t.length<=65536)(hrl:r.length<=65536):GM W (nh gs f d t r b gd x) 2 [117,112,115,116,114,101,97,109] s {s with up:=some (tm,rt),prs:=[(1,64)]}:=by
 refine build (E:=nh gs f d t r b gd x) (by show 2<12;decide) (by show 3<=1000;decide) ?_
 obtain⟨st,up,prs,sv,lcs⟩:=s
 dsimp only at hp hu ⊢
 subst hp hu
 refine .cons (j:=3) (nm:=[112,101,101,114]) (s1:=⟨st,some (10,1),[(1,64)],sv,lcs⟩) ⟨by show 3<12;decide,[[49],[54,52]],1,2,true,318,[],⟨st,some (10,1),[(1,64)],sv,lcs⟩,rfl,by decide,by kernel_rfl,by decide,by decide,.inl rfl,fun ln a c A hA=>MH (Qa (s:=⟨st,some (10,1),[],sv,lcs⟩) (u:=(10,1)) rfl (by show 0<=16;decide) hA (by decide) Jk.1 (by decide) Jk.2.1),eQ (by decide) rfl⟩ ?_
 refine .cons (j:=4) (nm:=[116,105,109,101,111,117,116]) (s1:=⟨st,some (tm,1),[(1,64)],sv,lcs⟩) ⟨by show 4<12;decide,[t],1,1,false,327,[.pointer (some ⟨x.1.2.1,0,none⟩)],⟨st,some (tm,1),[(1,64)],sv,lcs⟩,rfl,by show 1<=1000;decide,by kernel_rfl,by show(1:Int)<=1;decide,by show(1:Int)<=1;decide,.inr (by decide),fun ln a c A hA=>UI az az (B9 (s:=⟨st,some (10,1),[(1,64)],sv,lcs⟩) (u:=(10,1)) rfl hA htl ht),eQ (by decide) rfl⟩ ?_
 refine .cons (j:=5) (nm:=[114,101,116,114,105,101,115]) (s1:=⟨st,some (tm,rt),[(1,64)],sv,lcs⟩) ⟨by show 5<12;decide,[r],1,1,false,327,[.pointer (some ⟨x.1.2.2,0,none⟩)],⟨st,some (tm,rt),[(1,64)],sv,lcs⟩,rfl,by show 1<=1000;decide,by kernel_rfl,by show(1:Int)<=1;decide,by show(1:Int)<=1;decide,.inr (by decide),fun ln a c A hA=>UI az az (B_ (s:=⟨st,some (tm,1),[(1,64)],sv,lcs⟩) (u:=(tm,1)) rfl hA hrl hr),eQ (by decide) rfl⟩ ?_
 exact .nil
theorem Qn [hG:Gl W]{st:Int}{up:Option (Int × Int)}{prs:List (Int × Int)}:GM W (nh gs f d t r b gd x) 7 m9 ⟨st,up,prs,true,[fq [47]]⟩ ⟨st,up,prs,true,[dy]⟩:=by
 refine build (E:=nh gs f d t r b gd x) (by show 7<12;decide) (by show 1<=1000;decide) ?_
 refine .cons (j:=8) (nm:=[114,101,116,117,114,110]) (s1:=⟨st,up,prs,true,[dy]⟩) ⟨by show 8<12;decide,[[50,48,48],qZ],1,2,false,222,[],⟨st,up,prs,true,[dy]⟩,rfl,by decide,by kernel_rfl,by decide,by decide,.inr (by decide),fun ln a c A hA=>MH (E0 (s:=⟨st,up,prs,true,[fq [47]]⟩) (pre:=[]) (L:=fq [47]) rfl rfl rfl (by show 1<=32;decide) hA (by decide) Jk.2.2),eQ (by decide) rfl⟩ ?_
 exact .nil
theorem Qo {st:Int}{up:Option (Int × Int)}{prs:List (Int × Int)}:GM W (nh gs f d t r b gd x) 9 m9 ⟨st,up,prs,true,[dy,fq eE]⟩ ⟨st,up,prs,true,[dy,bX]⟩:=by
 refine build (E:=nh gs f d t r b gd x) (by show 9<12;decide) (by show 2<=1000;decide) ?_
 refine .cons (j:=10) (nm:=[112,114,111,120,121]) (s1:=⟨st,up,prs,true,[dy,((fq eE).set 1 (.int .i64 2)).set 6 (ay oJ)]⟩) ⟨by show 10<12;decide,[oJ],1,1,false,218,[],⟨st,up,prs,true,[dy,((fq eE).set 1 (.int .i64 2)).set 6 (ay oJ)]⟩,rfl,by decide,by kernel_rfl,by decide,by decide,.inr (by decide),fun ln a c A hA=>MH (Jb (s:=⟨st,up,prs,true,[dy,fq eE]⟩) (pre:=[dy]) (L:=fq eE) rfl rfl rfl (by show 2<=32;decide) hA),eQ (by decide) rfl⟩ ?_
 refine .cons (j:=11) (nm:=[99,97,99,104,101]) (s1:=⟨st,up,prs,true,[dy,bX]⟩) ⟨by show 11<12;decide,[],0,0,false,219,[],⟨st,up,prs,true,[dy,bX]⟩,rfl,by decide,by kernel_rfl,by decide,by decide,.inr (by decide),fun ln a c A hA=>VA (Ja (s:=⟨st,up,prs,true,[dy,((fq eE).set 1 (.int .i64 2)).set 6 (ay oJ)]⟩) (pre:=[dy]) (L:=((fq eE).set 1 (.int .i64 2)).set 6 (ay oJ)) rfl rfl rfl (by show 2<=32;decide)),eQ (by decide) rfl⟩ ?_
 exact .nil
theorem E5 [hG:Gl W]{st:Int}{up:Option (Int × Int)}{prs:List (Int × Int)}:GM W (nh gs f d t r b gd x) 6 [115,101,114,118,101,114] ⟨st,up,prs,true,[]⟩ ⟨st,up,prs,true,[dy,bX]⟩:=by
 refine build (E:=nh gs f d t r b gd x) (by show 6<12;decide) (by show 2<=1000;decide) ?_
 refine .cons (j:=7) (nm:=m9) (s1:=⟨st,up,prs,true,[dy]⟩) ⟨by show 7<12;decide,[[47]],1,1,true,326,[],⟨st,up,prs,true,[fq [47]]⟩,rfl,by decide,by kernel_rfl,by decide,by decide,.inl rfl,fun ln a c A hA=>MH (rn (s:=⟨st,up,prs,true,[]⟩) rfl (by show 0<=31;decide) hA),Qn⟩ ?_
 refine .cons (j:=9) (nm:=m9) (s1:=⟨st,up,prs,true,[dy,bX]⟩) ⟨by show 9<12;decide,[eE],1,1,true,326,[],⟨st,up,prs,true,[dy,fq eE]⟩,rfl,by decide,by kernel_rfl,by decide,by decide,.inl rfl,fun ln a c A hA=>MH (rn (s:=⟨st,up,prs,true,[dy]⟩) rfl (by show 1<=31;decide) hA),Qo⟩ ?_
 exact .nil
theorem Qp [hG:Gl W]{st tm rt:Int}(hd:dh d=(st,0))(ht:dh t=(tm,0))(hr:dh r=(rt,0))(hdl:d.length<=65536)(htl:t.length<=65536)(hrl:r.length<=65536):GM W (nh gs f d t r b gd x) 0 [] UJ ⟨st,some (tm,rt),[(1,64)],true,[dy,bX]⟩:=by
 refine build (E:=nh gs f d t r b gd x) (by show 0<12;decide) (by show 3<=1000;decide) ?_
 refine .cons (j:=1) (nm:=[115,116,111,114,101]) (s1:=⟨st,none,[],false,[]⟩) ⟨by show 1<12;decide,[d],1,1,false,327,[.pointer (some ⟨x.1.1,0,none⟩)],⟨st,none,[],false,[]⟩,rfl,by show 1<=1000;decide,by kernel_rfl,by show(1:Int)<=1;decide,by show(1:Int)<=1;decide,.inr (by decide),fun ln a c A hA=>UI az az (I_ (s:=UJ) hA hdl hd),eQ (by decide) rfl⟩ ?_
 refine .cons (j:=2) (nm:=[117,112,115,116,114,101,97,109]) (s1:=⟨st,some (tm,rt),[(1,64)],false,[]⟩) ⟨by show 2<12;decide,[oJ],1,1,true,317,[],⟨st,some (10,1),[],false,[]⟩,rfl,by decide,by kernel_rfl,by decide,by decide,.inl rfl,fun ln a c A hA=>MH (za (s:=⟨st,none,[],false,[]⟩) rfl rfl hA),V0 (s:=⟨st,some (10,1),[],false,[]⟩) rfl rfl ht hr htl hrl⟩ ?_
 refine .cons (j:=6) (nm:=[115,101,114,118,101,114]) (s1:=⟨st,some (tm,rt),[(1,64)],true,[dy,bX]⟩) ⟨by show 6<12;decide,[],0,0,true,322,[],⟨st,some (tm,rt),[(1,64)],true,[]⟩,rfl,by decide,by kernel_rfl,by decide,by decide,.inl rfl,fun ln a c A hA=>VA (EZ (s:=⟨st,some (tm,rt),[(1,64)],false,[]⟩) rfl rfl),E5⟩ ?_
 exact .nil
end Go.Proofs.YtdjkdjepjahjfaaGreatDoor.TP
namespace Go.Proofs.YtdjkdjepjahjfaaGreatDoor.TP
open Go Go.Proofs Go.RowKit Sh Sl T FD
theorem Qq {W:World}{L:List HP}{b2 b3 b4:Nat}{Kret:WP}{Kp:PK}(h:aJ W L Kret):aJ W L (dfS p_ {target:= .fn (.func 135) #[.pointer (some ⟨b2,0,none⟩),.pointer (some ⟨b3,0,none⟩),.pointer (some ⟨b4,0,none⟩)],args:=#[]++ #[]} .returning Kret Kp):=by
 refine tz (f:=135) (A:=[.pointer (some ⟨b2,0,none⟩),.pointer (some ⟨b3,0,none⟩),.pointer (some ⟨b4,0,none⟩)]) (shape:=fun rv=>S.fe (.pointer (some ⟨b2,0,none⟩)) (.pointer (some ⟨b3,0,none⟩)) (.pointer (some ⟨b4,0,none⟩)) rv) (fun c=>by cases c) ⟨_,_,rfl⟩ (fX (cs:=[.pointer (some ⟨b2,0,none⟩),.pointer (some ⟨b3,0,none⟩),.pointer (some ⟨b4,0,none⟩)]) (bs:=[]) Tryz.call135) (fun h=>S.mK h) ?_
 unfold S.fe
 rw[oe,rT]
 refine o_ (ku (by kernel_rfl)) ?_
 exact af h
theorem Jl {W:World}[hG:Gl W]{d t r:List UInt8}{st:Nat}{tm rt:Int}(hd:dh d=((st:Int),0))(ht:dh t=(tm,0))(hr:dh r=(rt,0))(hdl:d.length<=100)(htl:t.length<=100)(hrl:r.length<=100)(wd:jB d=true)(wt:jB t=true)(wr:jB r=true)(hst:st<=1048576)(h1:1<=tm)(h2:tm<=3600)(h3:0<=rt)(h4:rt<=8):
  Cn p_ 70 [ay (j6 d t r)] W [] (fun q:Ca=> .tuple #[.agg (uY st q).toArray,.int .i64 0,.int .i64 0]) (fun q=>[eJ q tm rt]):=by
 have hlen:(j6 d t r).length<=65536:=by simp[j6];omega
 have hasc:∀w:List UInt8,jB w=true->∀c∈w,c.toNat<128:=fun w hw c hc=>by
  simp only[jB,Bool.and_eq_true,List.all_eq_true]at hw
  have:=hw.2 c hc
  simp only[dL,Bool.and_eq_true,decide_eq_true_eq]at this
  have:=UInt8.lt_iff_toNat_lt.1 this.1.2
  simp at this;omega
 have hall:∀c∈j6 d t r,c.toNat<128:=by
  intro c hc
  simp only[j6,List.mem_append]at hc
  rcases hc with (((((hc|hc)|hc)|hc)|hc)|hc)|hc
  ·revert hc;revert c;decide+kernel
  ·exact hasc d wd c hc
  ·revert hc;revert c;decide+kernel
  ·exact hasc t wt c hc
  ·revert hc;revert c;decide+kernel
  ·exact hasc r wr c hc
  ·revert hc;revert c;decide+kernel
 have hlex:=ml (I6 d t r) (P_ wd wt wr)
 rw[I7]at hlex
 (refine S.o7.cn fun F=>?_;unfold S.lN;simp only[ca_,na_])
 refine aU fun b2=>?_
 refine de fun b3=>?_
 refine de fun b4=>?_
 refine o_ bu ?_;(((refine o_ (Sl.cf ?hcq) ?_);(case hcq=>(first|omega|(simp only[List.length_nil,List.length_cons];omega)))));refine af (o_ bC (k7 ?_))
 refine o_ bO ?_;refine o_ bO ?_;refine aX fun g=>?_
 rename Nat=>b
 refine' ah (Qb) ?hp fun x=>?_
 case hp=>exact .nil
 refine am ?_
 refine' ah (UF hlex hall hlen (Nat.le_trans (Nat.le_of_eq (show(MG (I6 d t r)).length=37 from rfl)) (by decide)) (ES d t r) rfl rfl) ?hp fun gs=>?_
 case hp=>exact .nil
 unfold lC
 refine am ?_
 refine Qc .here fun f=>?_
 refine o_ ag (o_ ae (aE (ru (gs:=gs) (f:=f) (T:=lz d t r) (j:=0) (o:=3) (by show 0<12;decide) rfl) az ?_))
 have hb:=Qp (W:=W) (gs:=gs) (f:=f) (b:=b) (gd:=x.1) (x:=x.2) hd ht hr (by omega) (by omega) (by omega) 0
 dsimp only[nh]at hb
 refine bf (M:=dp b UJ 0::zD gs f (lz d t r)::bH x.1 ay (Qm x.2)::cR x.2.1::pt b4 (.cells #[.int .i64 0] 29)::pt b3 (.cells #[.int .i64 0] 3)::pt b2 (.cells #[.int .i64 0,.int .i64 0,.int .i64 0,.int .i64 0,.slice none 0 0,.slice none 0 0] 80)::F) ?_ ?_
 ·refine .ex ⟨(none,0),(none,0),(none,0),(none,0)⟩ (.all ?_)
  refine .pick (by(repeat constructor):Pick _ (pt b _) _) (bJ (bJ (bJ (bJ ?_))))
  refine .pick (by repeat constructor) (.pick (by repeat constructor) (.all ?_))
  unfold y_
  refine am ?_
  exact az
 refine' ah hb ?hp fun ln=>?_
 case hp=>(repeat(first|exact Picks.nil|(apply Picks.cons;(focus repeat constructor))))
 refine am ?_
 refine nV .here fun q=>?_
 unfold mn kK
 refine am ?_
 refine bf (M:=pt b (.cells #[.int .i64 75,.int .i64 65536,.int .i64 (st:Int),.int .i64 1000,.slice q.u.1 1 q.u.2,.slice q.s.1 1 q.s.2,.int .i64 ln] 263)::eJ q tm rt::pt b4 (.cells #[.int .i64 0] 29)::pt b3 (.cells #[.int .i64 0] 3)::pt b2 (.cells #[.int .i64 0,.int .i64 0,.int .i64 0,.int .i64 0,.slice none 0 0,.slice none 0 0] 80)::F) ?_ ?_
 ·refine .pick .here (.all ?_)
  refine .pick .here (.pick .here (.pick .here (.pick .here ?_)))
  exact az
 refine dP ?_
 refine o_ ag (o_ ae ?_)
 refine' aE (iO (n:=6) (o:=0) (vs:=uY st q) rfl ?hcv) ?hiv ?_
 case hiv=>(repeat(first|exact .refl|exact .nil|(apply Imp.pick;(focus ((repeat constructor);done)))|refine .drop ?_))
 case hcv=>exact fun i hi=>match i,hi with|0,_=>rfl|1,_=>rfl|2,_=>rfl|3,_=>rfl|4,_=>rfl|5,_=>rfl
 refine' ah (Jj (q:=q) (tm:=tm) (rt:=rt) hst h1 h2 h3 h4) ?hp fun _=>?_
 case hp=>exact .cons (by repeat constructor) .nil
 refine am ?_
 (((refine o_ (Sl.cq ?hcq) ?_);(case hcq=>(first|omega|(simp only[List.length_nil,List.length_cons];omega)))));refine af ?_
 refine gZ fun ds=>?_
 refine o_ ag (o_ ae ?_)
 refine' aE (iO (n:=6) (o:=0) (vs:=uY st q) rfl ?hcv) ?hiv ?_
 case hiv=>(repeat(first|exact .refl|exact .nil|(apply Imp.pick;(focus ((repeat constructor);done)))|refine .drop ?_))
 case hcv=>exact fun i hi=>match i,hi with|0,_=>rfl|1,_=>rfl|2,_=>rfl|3,_=>rfl|4,_=>rfl|5,_=>rfl
 refine aK (by(repeat constructor):Pick _ (pt b2 _) _) (by rfl) (by rfl) (by simp[uY,Value.oneCell']) ?_
 refine bR ?_;refine bR ?_
 refine Qq ?_
 unfold S.aV
 (((refine' be (cQ ?hn) ?hi ?_);(case hi=>exact az);(case hn=>rfl)));(((refine' be (cX ?hc) ?hi ?_);(case hi=>exact az);(case hc=>repeat constructor)));(((refine' be (cX ?hc) ?hi ?_);(case hi=>exact az);(case hc=>repeat constructor)))
 refine aR q ?_
 exact az
def wk (st:Nat)(q:Ca)(pa:AC)(m:Value)(us:Int):List Value:=[.int .i64 75,.int .i64 65536,.int .i64 (st:Int),.int .i64 1000,.slice q.u.1 1 q.u.2,.slice q.s.1 1 q.s.2,.slice pa.1 1 pa.2,m,.int .i64 us]
def dB (g st:Nat)(q:Ca)(pa:AC)(m:Value)(us:Int):HP:=pt g (.cells (wk st q pa m us).toArray 84)
def nH (pa:AC)(p:Nat):HP:=Sl 1 216 pa.1 pa.2 1 [pC p]
def UK (x:Int × Int):Value:= .agg #[.int .i64 x.1,.int .i64 x.2]
theorem xN {P:Program}{W:World}{t e:TypeId}{s G cap n:Nat}{cs:List Value}(j:Nat)(vs:List Value)[ht:AggT P t s](hl:cs.length=n * s)(hn:vs.length=s)(hc:(cs.drop (j * s)).take s=vs):aQ P W [Sl s e (some ⟨G,0,none⟩) cap n cs] (aG t (.pointer (some ⟨G,0+j * s,none⟩))) (.agg vs.toArray):=
 df (o:=0) (j:=j * s) (cs:=cs) (m:=n * s) (d8 hl fun _=>⟨G,rfl⟩) hn fun i hi=>by
  subst hc
  rw[List.getElem?_take_of_lt hi,List.getElem?_drop]
theorem Ci {P:Program}{W:World}{L L':List HP}{Kp:PK}{k:Value->WP}{t e:TypeId}{b g:Nat}{v:Value}[ht:SlT P t e 1 b][hv:OC v](hk:P.underlying t=some (.slice e))(p:Pick L (pt g (.cells #[v] e)) L')(hb:b<=1000)(h:∀a c,aJ W (Sl 1 e a c 1 [v]::L) (k (.slice a 1 c))):aJ W L (opN P (ju #[t,t] t [.slice none 0 0,.slice (some ⟨g,0,none⟩) 1 1]) Kp k):=by
 refine e_ (s:=1) (e:=e) ?_
 refine bQ (m:=1) (news:=[v]) .here (bL (s:=1) (e':=e) hk (.there p) (by rfl) (by intro u hu;rw[List.mem_singleton.1 hu];exact hv.one)) (by omega) (by decide) fun a c=>h a c
theorem E6 {W:World}{st:Nat}{q:Ca}{tm rt:Int}(h1:1<=tm)(h2:tm<=3600):Cn p_ 71 [.agg (uY st q).toArray] W [eJ q tm rt] (fun x:Nat × AC × Value × Nat=>pC x.1) (fun x=>[dB x.1 st q x.2.1 x.2.2.1 0,nH x.2.1 x.2.2.2,uD x.2.2.2 0,eJ q tm rt]):=by
 (refine Shp.cn (Sg.g_ Tryz.call71 Tryz.func71 (an:={loops:=[(3,[15])]})) fun F=>?_;simp only[ca_,na_])
 refine aX fun b1=>?_
 obtain⟨⟨ua,uc⟩,⟨pa,pc⟩,⟨sa,sc⟩,la,lc⟩:=q
 refine aB (by(repeat constructor):Pick _ (eJ _ tm rt) _) ?_
 unfold uY iT
 (try dsimp only)
 refine am ?_
 refine a9 (by(repeat constructor):Pick _ (Sl 4 145 ua uc 1 _) _) (by decide) fun G hG=>?_
 subst hG
 refine jL ?_
 refine jt (P:=p_) (t:=82) (kt:=203) UK fun m_=>?_
 refine o_ bO ?_;refine aX fun g=>?_;refine o_ ae (aH ?_);refine o_ aI (aY (fun m y=>match m with|0=>[ex fun x:AC × Nat=>all [pu (y= .int .i64 1),dB g st ⟨(some ⟨G,0,none⟩,uc),(pa,pc),(sa,sc),la,lc⟩ x.1 (.map (some m_)) 0,nH x.1 x.2,uD x.2 0,eJ ⟨(some ⟨G,0,none⟩,uc),(pa,pc),(sa,sc),la,lc⟩ tm rt]]++F|_=>pu (y= .int .i64 0)::_) 1 (.pu rfl .refl) ?_)
 intro m ds y
 cases m with
 |succ m=>
  refine aT .here fun hy=>?_
  subst hy
  (((refine o_ (Sl.bY ?hcq) ?_);(case hcq=>(first|omega|(simp only[List.length_nil,List.length_cons];omega)))));refine ai ?_
  refine o_ (dR 0 rfl (by decide)) ?_
  refine aE (xN 0 [ay oJ,.slice pa 1 pc,.int .i64 tm,.int .i64 rt] rfl rfl rfl) az ?_
  refine aU fun g=>?_;(((refine' aK ?hp ?hn ?hv ?h1 ?_);(case hp=>(repeat constructor));(case hn=>rfl);(case hv=>rfl);(case h1=>simp[Value.oneCell',ay])));refine jL ?_
  refine aP (by(repeat constructor):Pick _ (Sl 2 315 pa pc 1 _) _) fun _ _ _ hs=>?_
  refine' ah (PL.UB (us:=[(1,64)]) (d8 (n:=1) (s:=2) (e:=315) (cap:=pc) rfl hs)) ?hp fun x=>?_
  case hp=>(repeat(first|exact Picks.nil|(apply Picks.cons;(focus repeat constructor))))
  obtain⟨x,hx⟩:=x
  cases x with
  |none=>exact absurd (BZ h1 h2) hx
  |some x=>
   obtain⟨p,gs⟩:=x
   unfold PL.IY PL.EM
   refine am ?_
   (try dsimp only)
   unfold PL.pv
   refine bE ?_;refine bE ?_;refine o_ ag (o_ ae (aH ?_));refine cI fun g=>?_
   refine Ci (by kernel_rfl) (by(repeat constructor):Pick _ (pt _ (.cells #[pC p] 216)) _) (by decide) fun oa oc=>?_
   refine o_ ag (o_ ae (bR ?_));refine bP ?_
   refine aZ 0 (by omega) (.ex ((oa,oc),p) (.all ?_))
   unfold dB wk nH
   refine am ?_
   (try dsimp only)
   refine .pu rfl (.pick (by repeat constructor) (.pick (by repeat constructor) (.ex (gs,PL.jA [(1,64)] tm 1) (.all ?_))))
   refine am ?_
   refine .pu (I0 h1 h2) (.pick (by repeat constructor) (.all ?_))
   exact az
 |zero=>
  refine a8 .here fun x=>aB .here ?_
  refine am ?_
  refine aT .here fun hy=>?_
  subst hy
  obtain⟨⟨oa,oc⟩,p⟩:=x
  (((refine o_ (Sl.bF ?hcq) ?_);(case hcq=>(first|omega|(simp only[List.length_nil,List.length_cons];omega)))));refine af ?_
  refine aR ((g,(oa,oc),.map (some m_),p)) ?_
  exact az
structure CfOk (d t r:List UInt8)(st:Nat)(tm rt:Int):Prop where
 hd:dh d=((st:Int),0)
 ht:dh t=(tm,0)
 hr:dh r=(rt,0)
 dl:d.length<=100
 tl:t.length<=100
 rl:r.length<=100
 wd:jB d=true
 wt:jB t=true
 wr:jB r=true
 st:st<=1048576
 t1:1<=tm
 t2:tm<=3600
 r1:0<=rt
 r2:rt<=8
structure Wh where
 v:Nat
 g:Nat
 q:Ca
 pa:AC
 p:Nat
 m:Value
 ca:Nat
 lg:Nat
theorem UL {W:World}[hG:Gl W]{d t r:List UInt8}{st w:Nat}{tm rt now:Int}(h:CfOk d t r st tm rt):Cn p_ 27 [ay (j6 d t r),pC w] W [jH w now] (fun x:Wh=> .tuple #[pC x.v,.int .i64 0,.int .i64 0])
  (fun x=>[ci x.v ⟨w,x.g,.slice none 0 0,.slice none 0 0,0,pE x.ca,pC x.lg,.slice none 0 0⟩,jH w now,dB x.g st x.q x.pa x.m 0,nH x.pa x.p,uD x.p 0,eJ x.q tm rt,gf x.ca (cv st),m6 x.lg 0]):=by
 (refine Shp.cn (Sg.g_ Tryz.call27 Tryz.func27) fun F=>?_;simp only[ca_,na_])
 refine c_ PU fun _=>?_
 refine bE ?_;refine bE ?_;refine bE ?_;refine aU fun g=>?_;(((refine' aK ?hp ?hn ?hv ?h1 ?_);(case hp=>(repeat constructor));(case hn=>rfl);(case hv=>rfl);(case h1=>simp[Value.oneCell',ay])));(((refine o_ (Sl.bA ?hcq) ?_);(case hcq=>(first|omega|(simp only[List.length_nil,List.length_cons];omega)))));refine af ?_
 refine' ah (Jl (d:=d) (t:=t) (r:=r) (st:=st) (tm:=tm) (rt:=rt) h.hd h.ht h.hr h.dl h.tl h.rl h.wd h.wt h.wr h.st h.t1 h.t2 h.r1 h.r2) ?hp fun q=>?_
 case hp=>(repeat(first|exact Picks.nil|(apply Picks.cons;(focus repeat constructor))))
 unfold uY
 refine am ?_
 refine bE ?_;refine bE ?_;refine bE ?_;refine aU fun g=>?_;(((refine' aK ?hp ?hn ?hv ?h1 ?_);(case hp=>(repeat constructor));(case hn=>rfl);(case hv=>rfl);(case h1=>simp[Value.oneCell',ay])));(((refine o_ (Sl.cq ?hcq) ?_);(case hcq=>(first|omega|(simp only[List.length_nil,List.length_cons];omega)))));refine af (jL ?_)
 refine' ah (E6 (st:=st) (q:=q) (tm:=tm) (rt:=rt) h.t1 h.t2) ?hp fun x=>?_
 case hp=>(repeat(first|exact Picks.nil|(apply Picks.cons;(focus repeat constructor))))
 obtain⟨g,pa,m,p⟩:=x
 refine am ?_
 (try dsimp only)
 refine o_ bO ?_;refine aX fun g=>?_;refine o_ ae (aH ?_)
 rename Nat=>v
 refine' ah (FD.UB (b:=(st:Int)) (by omega) (by have:=h.st;omega)) ?hp fun ca=>?_
 case hp=>(repeat(first|exact Picks.nil|(apply Picks.cons;(focus repeat constructor))))
 refine am ?_
 refine bE ?_;refine bE ?_;refine o_ ag (o_ ae (bR ?_))
 refine' ah Uz ?hp fun lg=>?_
 case hp=>(repeat(first|exact Picks.nil|(apply Picks.cons;(focus repeat constructor))))
 refine am ?_
 refine bE ?_;refine bE ?_;refine o_ ag (o_ ae (bR ?_))
 refine aR ((⟨v,g,q,pa,p,m,ca,lg⟩:Wh)) ?_
 unfold ci nF
 (try dsimp only)
 exact az
theorem uL {W:World}{v w g st:Nat}{q:Ca}{pa:AC}{m lk ca lg out:Value}{us nu now:Int}{nm:List UInt8}(h0:0<=now)(h1:now<=1099511627776):Cn p_ 8 [pC v,ay nm] W [ci v ⟨w,g,.slice none 0 0,lk,nu,ca,lg,out⟩,jH w now,dB g st q pa m us] (fun x:Nat × Nat × Nat × AC=> .tuple #[.int .i64 0,.int .i64 0])
  (fun x=>[ci v ⟨w,g,.slice x.2.2.2.1 1 x.2.2.2.2,lk,nu,ca,lg,out⟩,jH w now,dB g st q pa m us,kQ x.2.2.2 x.2.2.1,eF x.2.2.1 x.1 nm (.slice none 0 0),cD x.1 (Eh x.1 x.2.1 65536 75 now),cV x.2.1 (ef false)]):=by
 (refine Shp.cn (Sg.g_ Tryz.call8 Tryz.func8 (an:={loops:=[(5,[6,18])],drs:=[(12,.ofL [(0,2),(1,3),(2,3),(3,3),(4,3),(5,3),(6,3),(7,3),(8,2),(9,3),(10,3),(11,3),(12,3),(13,3),(14,3),(15,3),(16,3),(17,1),(18,1),(19,1),(20,1),(21,0),(22,0),(23,1),(24,1),(25,1),(26,1),(27,1)])]}) (os:=[(12,[(21,[16,15,14,13,12,11,10,9,7,6,5,4,3,2,1])])])) fun F=>?_;simp only[ca_,na_])
 refine c_ mh fun _=>?_
 unfold ci nF dB wk
 (try dsimp only)
 refine af (o_ ag (o_ ae (aH ?_)));refine o_ aI (cp (fun m x y=>pu (x= .int .i64 0/\y= .int .i64 0)::_) 0 (.pu ⟨rfl,rfl⟩ .refl) ?_)
 intro m ds x y
 refine aT .here fun hz=>?_
 obtain⟨rfl,rfl⟩:=hz
 (((refine o_ (Sl.bF ?hcq) ?_);(case hcq=>(first|omega|(simp only[List.length_nil,List.length_cons];omega)))));refine af ?_;refine o_ ag ?_;refine o_ ae ?_;refine aH ?_;refine o_ ag ?_;refine o_ ae ?_;refine o_ ae ?_;refine aH ?_;(((refine o_ (Sl.eS ?hcq) ?_);(case hcq=>(first|omega|(simp only[List.length_nil,List.length_cons];omega)))));refine af ?_;refine aW ?_;refine aq ag .nil ?_;refine aq ae .nil ?_;(((refine' aq (aS ?hc) ?hi ?_);(case hi=>exact .pick (by repeat constructor) .nil);(case hc=>repeat constructor)));refine aq ag .nil ?_;refine aq ae .nil ?_;refine aq ae .nil ?_;(((refine' aq (aS ?hc) ?hi ?_);(case hi=>exact .pick (by repeat constructor) .nil);(case hc=>repeat constructor)));refine aq ag .nil ?_;refine aq ae .nil ?_;(((refine' aq (aS ?hc) ?hi ?_);(case hi=>exact .pick (by repeat constructor) .nil);(case hc=>repeat constructor)));refine aq ag .nil ?_;refine aq ae .nil ?_;refine aq ae .nil ?_;(((refine' aq (aS ?hc) ?hi ?_);(case hi=>exact .pick (by repeat constructor) .nil);(case hc=>repeat constructor)));refine aq bO .nil ?_;refine t_ ag ?_;refine t_ ae ?_;refine cm ?_
 refine c_ mZ fun _=>?_
 (repeat((refine' cB (aN ?hcs) ?_);(case hcs=>(repeat(first|exact .refl|exact .nil|(apply Imp.pick;(focus ((repeat constructor);done)))|refine .drop ?_)))))
 refine' ah (Uq (bo:=65536) (ke:=75) (now:=now) (by decide) (by decide) (by decide) (by decide) h0 h1) ?hp fun x=>?_
 case hp=>(repeat(first|exact Picks.nil|(apply Picks.cons;(focus repeat constructor))))
 obtain⟨c,hd⟩:=x
 refine am ?_
 (try dsimp only)
 refine rY ?_;refine rY ?_;refine o_ ag (o_ ae (aH ?_));refine o_ bO ?_;refine aX fun g=>?_;refine cI fun g=>?_
 rename_i k
 refine Ci (by kernel_rfl) (by(repeat constructor):Pick _ (pt _ (.cells #[pC k] 72)) _) (by decide) fun oa oc=>?_
 refine o_ ag (o_ ae (bR ?_));refine o_ ag (o_ ae (aH ?_));refine o_ aI (rZ ?_)
 refine aR ((c,hd,k,(oa,oc))) ?_
 unfold kQ eF
 (try dsimp only)
 exact az
def zE:List Value:=[ay [],.int .i64 0,ay [],ay [],.int .i64 0,.int .i64 0,ay [],.bool false,.int .i64 0,.int .i64 0,.int .i64 0,ay []]
def GP:List Value:=[.int .i64 0,ay [],.int .i64 0,ay [],ay [],.bool false]
def rx:List Value:=[ay [],ay [],.int .i64 0,.slice none 0 0]
def ry (k:Nat)(id:Int)(t:List UInt8)(f b:AC)(g:Nat)(tv:List Value)(ho pa ke:List UInt8)(lo se:List Value):List Value:=[pC k,.int .i64 id,ay cU,ay t,.int .i64 1,.slice f.1 1 f.2,.slice b.1 0 b.2,pC g]++tv++[ay ho,ay pa,ay ke]++lo++se++[.bool false,.int .i64 0]
def d6 (j k:Nat)(id:Int)(t:List UInt8)(f b:AC)(g:Nat)(tv:List Value)(ho pa ke:List UInt8)(lo se:List Value):HP:=pt j (.cells (ry k id t f b g tv ho pa ke lo se).toArray 103)
def E7 (a:AC)(js:List Nat):HP:=jr 1 97 a.1 a.2 js.length (js.map pC)
theorem UM {W:World}{q:Ca}{b:Nat}{h:List UInt8}:Cn p_ 254 ([.agg (jy q).toArray]++[.pointer (some ⟨b,0,none⟩)]) W [pt b (.cells #[ay h] 9)] (fun _:Unit=> .int .i64 0) (fun _=>[pt b (.cells #[ay h] 9)]):=by
 (refine Shp.cn (Sg.g_ Tryz.call254 Tryz.func254 (an:={loops:=[(3,[4,10])]})) fun F=>?_;simp only[ca_,na_])
 unfold jy
 refine aX fun g=>?_;refine o_ ae (aH ?_);refine o_ aI (cp (fun m x y=>pu (x= .int .i64 0/\y= .int .i64 0)::_) 0 (.pu ⟨rfl,rfl⟩ .refl) ?_)
 intro m ds x y
 refine aT .here fun hz=>?_
 obtain⟨rfl,rfl⟩:=hz
 (((refine o_ (Sl.bF ?hcq) ?_);(case hcq=>(first|omega|(simp only[List.length_nil,List.length_cons];omega)))));refine af ?_
 refine aR () ?_
 exact az
theorem UN {W:World}{q:Ca}{A:HP}:Cn p_ 256 ([.agg (jy q).toArray]++[]) W [A] (fun _:Unit=> .int .i64 0) (fun _=>[A]):=by
 (refine Shp.cn (Sg.g_ Tryz.call256 Tryz.func256) fun F=>?_;simp only[ca_,na_])
 unfold jy
 refine aX fun g=>?_;refine o_ ae (aH ?_);refine af (aR () ?_)
 exact az
theorem V1 {W:World}{p r:List UInt8}{b i:Nat}(hp:p=47::r)(ha:gY eE p=true)(hl:p.length<=1048576):Cn p_ 259 ([.agg (j8 i).toArray]++[.pointer (some ⟨b,0,none⟩)]) W [pt b (.cells #[ay p] 9)] (fun _:Unit=> .int .i64 (if i=0 then 2 else 5)) (fun _=>[pt b (.cells #[ay p] 9)]):=by
 have h1:gY [47] p=true:=by subst hp;simp[gY]
 (refine Shp.cn (Sg.g_ Tryz.call259 Tryz.func259) fun F=>?_;simp only[ca_,na_])
 unfold j8
 by_cases hi:i=0
 ·rw[if_pos hi,if_pos hi]
  unfold dy
  refine aX fun g=>?_;refine aH ?_;refine o_ ae (aH ?_)
  refine' ah (oA (l:=p) (p:=[47]) (by omega) (by decide)) ?hp fun _=>?_
  case hp=>exact .nil
  rw[h1]
  refine am ?_
  refine ai (o_ ae (aH ?_));refine o_ bu ?_
  rw[show((([47]:List UInt8).length:Nat):Int)=1 from rfl]
  refine bP ?_
  refine aR () ?_
  exact az
 ·rw[if_neg hi,if_neg hi]
  unfold bX
  refine aX fun g=>?_;refine aH ?_;refine o_ ae (aH ?_)
  refine' ah (oA (l:=p) (p:=eE) (by omega) (by decide)) ?hp fun _=>?_
  case hp=>exact .nil
  rw[ha]
  refine am ?_
  refine ai (o_ ae (aH ?_));refine o_ bu ?_
  rw[show((eE.length:Nat):Int)=4 from rfl]
  refine bP ?_
  refine aR () ?_
  exact az
theorem zi {W:World}{q:Ca}{G c:Nat}{p r:List UInt8}(hq:q.l=(some ⟨G,0,none⟩,c))(hp:p=47::r)(ha:gY eE p=true)(hl:p.length<=1048576):Cn p_ 164 [.agg (jy q).toArray,ay p] W [Sl 12 101 (some ⟨G,0,none⟩) c 2 (dy++bX)] (fun _:Unit=> .tuple #[.int .i64 1,.bool true]) (fun _=>[Sl 12 101 (some ⟨G,0,none⟩) c 2 (dy++bX)]):=by
 (refine Shp.cn (Sg.g_ Tryz.call164 Tryz.func164) fun F=>?_;simp only[ca_,na_])
 unfold jy
 rw[hq]
 (try dsimp only)
 refine aX fun g=>?_;refine b_ fun g=>?_;refine o_ ae (aH ?_);refine o_ bC ?_
 rename Nat=>b
 refine' ah (Qg (g:=G) (c:=c) (f:=259) (cap:=[.pointer (some ⟨b,0,none⟩)]) (A:=pt b (.cells #[ay p] 9)) fun i hi=>V1 hp ha hl) ?hp fun _=>?_
 case hp=>exact .cons (by repeat constructor) (.cons (by repeat constructor) .nil)
 refine am ?_
 refine o_ tw ?_
 rw[if_neg (by decide)]
 (((refine o_ (Sl.iP ?hcq) ?_);(case hcq=>(first|omega|(simp only[List.length_nil,List.length_cons];omega)))))
 refine aR () ?_
 exact az
theorem E8 {W:World}{st:Nat}{q:Ca}{G c:Nat}{h:List UInt8}(hq:q.s=(some ⟨G,0,none⟩,c)):Cn p_ 163 [.agg (uY st q).toArray,ay h] W [Sl 3 200 (some ⟨G,0,none⟩) c 1 (jy q)] (fun _:Unit=> .tuple #[.int .i64 0,.int .i64 0]) (fun _=>[Sl 3 200 (some ⟨G,0,none⟩) c 1 (jy q)]):=by
 (refine Shp.cn (Sg.g_ Tryz.call163 Tryz.func163 (an:={cuts:=[(12,[6])],loops:=[(3,[6,17]),(6,[6,25]),(14,[6,38])]})) fun F=>?_;simp only[ca_,na_])
 unfold uY
 rw[hq]
 (try dsimp only)
 refine aX fun g=>?_;refine b_ fun g=>?_
 rename_i bc
 refine dK (fun x=>pu (x= .int .i64 (-1))::Sl 3 200 (some ⟨G,0,none⟩) c 1 (jy q)::pt bc (.cells #[.int .i64 75,.int .i64 65536,.int .i64 (st:Int),.int .i64 1000,.slice q.u.1 1 q.u.2,.slice (some ⟨G,0,none⟩) 1 c] 80)::pt g (.cells #[ay h] 9)::F) ?_ ?_
 rotate_left
 ·(refine o_ ae ?_);refine aH ?_;refine o_ aI ?_
  refine cp (fun m x y=>[ex fun i:Nat=>pu (m+i=1/\x= .int .i64 (-1)/\y= .int .i64 (i:Int))]++(Sl 3 200 (some ⟨G,0,none⟩) c 1 (jy q)::pt bc (.cells #[.int .i64 75,.int .i64 65536,.int .i64 (st:Int),.int .i64 1000,.slice q.u.1 1 q.u.2,.slice (some ⟨G,0,none⟩) 1 c] 80)::pt g (.cells #[ay h] 9)::F)) 1 ?_ ?_
  ·refine Imp.ex 0 (.pu ⟨rfl,rfl,rfl⟩ ?_)
   exact az
  intro m ds x y
  refine am ?_
  refine a8 Pick.here fun i=>aT .here fun hi=>?_
  obtain⟨hm,rfl,rfl⟩:=hi
  rcases Nat.lt_or_ge i 1 with hi|hi
  ·obtain rfl:i=0:=by omega
   (((refine o_ (Sl.bY ?hcq) ?_);(case hcq=>(first|omega|(simp only[List.length_nil,List.length_cons];omega)))));refine ai ?_
   refine o_ (dR 0 rfl (by decide)) ?_
   refine aE (df (n:=3) (j:=0) (vs:=jy q) (d8 (n:=1) (s:=3) rfl fun _=>⟨G,rfl⟩) rfl (fun i hi=>by rw[Nat.zero_add])) az ?_
   unfold jy
   refine aU fun g=>?_;(((refine' aK ?hp ?hn ?hv ?h1 ?_);(case hp=>(repeat constructor));(case hn=>rfl);(case hv=>rfl);(case h1=>simp[Value.oneCell',ay])));refine o_ ae (aH ?_);refine o_ aI (cp (fun m' x y=>pu (x= .int .i64 (-1)/\y= .int .i64 0)::_) 0 (.pu ⟨rfl,rfl⟩ .refl) ?_)
   intro m' ds x y
   refine aT .here fun hz=>?_
   obtain⟨rfl,rfl⟩:=hz
   (((refine o_ (Sl.bF ?hcq) ?_);(case hcq=>(first|omega|(simp only[List.length_nil,List.length_cons];omega)))));refine af ?_;refine bP ?_
   refine bI (m-1) ?_ ?_
   ·omega
   refine .ex 1 (.pu ⟨by omega,rfl,rfl⟩ ?_)
   exact az
  ·(((refine o_ (Sl.bF ?hcq) ?_);(case hcq=>(first|omega|(simp only[List.length_nil,List.length_cons];omega)))));refine af ?_
   refine aN (.pu rfl ?_)
   exact az
 intro ds z
 refine aT .here fun hz=>?_
 subst hz
 rename Nat=>bh
 refine o_ bC (o_ bO ?_);refine aU fun g=>?_;refine VI ?_;refine jL ?_
 refine cp (fun m x y=>[ex fun i:Nat=>pu (m+i=2/\x= .int .i64 (-1)/\y= .int .i64 (i:Int))]++(Sl 3 200 (some ⟨G,0,none⟩) c 1 (jy q)::pt bc (.cells #[.int .i64 75,.int .i64 65536,.int .i64 (st:Int),.int .i64 1000,.slice q.u.1 1 q.u.2,.slice (some ⟨G,0,none⟩) 1 c] 80)::pt bh (.cells #[ay h] 9)::F)) 2 ?_ ?_
 ·refine Imp.ex 0 (.pu ⟨rfl,rfl,rfl⟩ ?_)
  exact az
 intro m ds x y
 refine am ?_
 refine a8 Pick.here fun i=>aT .here fun hi=>?_
 obtain⟨hm,rfl,rfl⟩:=hi
 rcases(show i=0\/i=1\/2<=i by omega)with rfl|rfl|hi
 ·(((refine o_ (Sl.bY ?hcq) ?_);(case hcq=>(first|omega|(simp only[List.length_nil,List.length_cons];omega)))));refine ai ?_
  refine o_ (nz 0 rfl (by decide) (by rfl)) ?_
  (((refine o_ (Sl.bY ?hcq) ?_);(case hcq=>(first|omega|(simp only[List.length_nil,List.length_cons];omega)))));refine ai ?_;refine o_ ae ?_;refine aH ?_
  refine' ah (GO (q:=q) (g:=G) (c:=c) (f:=254) (cap:=[.pointer (some ⟨bh,0,none⟩)]) (A:=pt bh (.cells #[ay h] 9)) hq UM) ?hp fun _=>?_
  case hp=>exact .cons (by repeat constructor) (.cons (by repeat constructor) .nil)
  refine am ?_
  refine bP ?_
  refine bI (m-1) ?_ ?_
  ·omega
  refine .ex 1 (.pu ⟨by omega,rfl,rfl⟩ ?_)
  exact az
 ·(((refine o_ (Sl.bY ?hcq) ?_);(case hcq=>(first|omega|(simp only[List.length_nil,List.length_cons];omega)))));refine ai ?_
  refine o_ (nz 1 rfl (by decide) (by rfl)) ?_
  (((refine o_ (Sl.bY ?hcq) ?_);(case hcq=>(first|omega|(simp only[List.length_nil,List.length_cons];omega)))));refine ai ?_;refine o_ ae ?_;refine aH ?_
  refine' ah (GO (q:=q) (g:=G) (c:=c) (f:=256) (cap:=[]) (A:=pt bh (.cells #[ay h] 9)) hq UN) ?hp fun _=>?_
  case hp=>exact .cons (by repeat constructor) (.cons (by repeat constructor) .nil)
  refine am ?_
  refine bP ?_
  refine bI (m-1) ?_ ?_
  ·omega
  refine .ex 2 (.pu ⟨by omega,rfl,rfl⟩ ?_)
  exact az
 ·(((refine o_ (Sl.bF ?hcq) ?_);(case hcq=>(first|omega|(simp only[List.length_nil,List.length_cons];omega)))));refine af ?_;refine o_ ae ?_;refine aH ?_;refine o_ aI ?_;(((refine o_ (Sl.bA ?hcq) ?_);(case hcq=>(first|omega|(simp only[List.length_nil,List.length_cons];omega)))));refine af ?_
  refine o_ tw ?_
  rw[if_pos (by decide)]
  refine aR () ?_
  exact az
theorem Qr {W:World}{st:Nat}{q:Ca}{h p r:List UInt8}{tm rt:Int}(hp:p=47::r)(ha:gY eE p=true)(hl:p.length<=1048576):Cn p_ 90 [.agg (uY st q).toArray,ay h,ay p] W [eJ q tm rt] (fun _:Unit=> .tuple #[.int .i64 0,.int .i64 1,.int .i64 0]) (fun _=>[eJ q tm rt]):=by
 (refine Shp.cn (Sg.g_ Tryz.call90 Tryz.func90) fun F=>?_;simp only[ca_,na_])
 refine aB .here ?_
 refine am ?_
 refine a9 (by(repeat constructor):Pick _ (Sl 3 200 q.s.1 q.s.2 1 (jy q)) _) (by decide) fun G hG=>?_
 refine a9 (by(repeat constructor):Pick _ (Sl 12 101 q.l.1 q.l.2 2 (dy++bX)) _) (by decide) fun G2 hG2=>?_
 obtain⟨u,pe,⟨s1,s2⟩,⟨l1,l2⟩⟩:=q
 dsimp only at hG hG2 ⊢
 subst hG hG2
 refine aX fun bc=>?_
 refine aE (bN (n:=6) rfl) az ?_
 refine' ah (E8 (G:=G) (c:=s2) (h:=h) (st:=st) rfl) ?hp fun _=>?_
 case hp=>exact .cons (by repeat constructor) .nil
 unfold uY
 refine am ?_
 refine bE ?_;refine bE ?_;(((refine o_ (Sl.cq ?hcq) ?_);(case hcq=>(first|omega|(simp only[List.length_nil,List.length_cons];omega)))));refine af (o_ ae (aH ?_))
 refine o_ (dR 0 rfl (by decide)) ?_
 refine aE (df (n:=3) (j:=0) (vs:=jy ⟨u,pe,(some ⟨G,0,none⟩,s2),(some ⟨G2,0,none⟩,l2)⟩) (d8 (n:=1) (s:=3) rfl fun _=>⟨G,rfl⟩) rfl (fun i hi=>by rw[Nat.zero_add])) az ?_
 refine' ah (zi (G:=G2) (c:=l2) (p:=p) rfl hp ha hl) ?hp fun _=>?_
 case hp=>exact .cons (by repeat constructor) .nil
 refine am ?_
 refine bE ?_;refine bE ?_;refine o_ bB (af (aR () ?_))
 refine .all ?_
 refine am ?_
 exact az
def VB:List UInt8:=[84,111,111,32,77,97,110,121,32,82,101,113,117,101,115,116,115]
theorem Jm {W:World}[hP:Gp W]:Cn p_ 88 [.int .i64 429,.slice none 0 0] W [] (fun x:AC × AC=> .agg #[.int .i64 429,.slice x.1.1 1 x.1.2,.slice x.2.1 18 x.2.2]) (fun _=>[]):=by
 (refine Shp.cn (Sg.g_ Tryz.call88 Tryz.func88) fun F=>?_;simp only[ca_,na_])
 refine aU fun g=>?_;refine o_ bO ?_
 refine e_ (s:=2) (e:=192) ?_
 refine BD (X:=[]) (n:=[67,111,110,116,101,110,116,45,84,121,112,101]) (v:=[116,101,120,116,47,112,108,97,105,110]) .here (by decide) fun a c=>?_
 refine c_ (oz (n:=429) (j:=18) (m:=VB) (by decide+kernel) (by decide) (by decide)) fun _=>?_
 refine o_ (cA (a:=VB) (b:=[10]) (by decide)) ?_
 refine o3 Tryz.underlying35 Tryz.underlying5 fun gb c2 rest fz=>?_
 refine o_ bO ?_;(((refine' aK ?hp ?hn ?hv ?h1 ?_);(case hp=>(repeat constructor));(case hn=>rfl);(case hv=>rfl);(case h1=>simp[Value.oneCell',ay])));(((refine' be (cQ ?hn) ?hi ?_);(case hi=>exact az);(case hn=>rfl)))
 refine aR (((a,c),(some ⟨gb,0,none⟩,c2))) ?_
 exact az
def E9 (t:List UInt8):Prop:=SU t/\il t.tail=true/\t.contains 37=false/\gY eE t=true
def fQ (t:List UInt8):List Value:=[.int .i64 1,ay [],.int .i64 (-1),ay t,ay [],.bool false]
theorem E_ {W : World} {m t : Value} {mi : Value} {f : AC} {p : List UInt8} : Cn p_ 36 [.agg #[m, t, mi, .slice f.1 1 f.2], .agg (fQ p).toArray] W [mX f] (fun _ : Unit => ay [97]) (fun _ => [mX f]) := by
 (refine Shp.cn (Sg.g_ Tryz.call36 Tryz.func36) fun F => ?_; simp only [ca_, na_])
 refine aX fun x => ?_
 refine aX fun y => ?_
 obtain ⟨fa, fc⟩ := f
 unfold mX fQ
 (try dsimp only)
 refine aP (by (repeat constructor) : Pick _ (Sl 2 192 fa fc 1 (fH.flatMap cS)) _) fun _ _ _ hs => ?_
 have hA : gX W (Sl 2 192 fa fc 1 (fH.flatMap cS)) fa fH := cJ (l := fH) hs
 refine o_ ae (aH ?_); (((refine o_ (Sl.bA ?hcq) ?_); (case hcq => (first | omega | (simp only [List.length_nil, List.length_cons]; omega))))); refine ab (o_ ae (ab (aH ?_))); refine ab ?_; (((refine o_ (Sl.bA ?hcq) ?_); (case hcq => (first | omega | (simp only [List.length_nil, List.length_cons]; omega))))); refine o_ ak (af (o_ ae (aH ?_)))
 refine' ah (first (n := qW) hA pD (by decide)) ?hp fun _ => ?_
 case hp => (repeat (first | exact Picks.nil | (apply Picks.cons; (focus repeat constructor))))
 rw [show lf fH qW = ([97], true) by decide +kernel]
 refine am ?_
 refine bE ?_; refine bE ?_
 refine c_ (Gn (l := [97]) (by decide) (by decide) (by decide +kernel)) fun _ => ?_
 rw [show fK [97] = [97] by decide +kernel]
 refine bE ?_; refine bE ?_; refine bE ?_
 refine aR () ?_
 exact az
theorem Cj {W:World}{v j k g:Nat}{id:Int}{t:List UInt8}{f b:AC}{ho pa ke:List UInt8}{sp:Array Value}:Cn p_ 91 [pC v,pC j,.agg sp] W [d6 j k id t f b g (fQ t) ho pa ke bX rx] (fun _:Unit=> .bool true) (fun _=>[d6 j k id t f b g (fQ t) ho pa ke bX rx]):=by
 (refine Shp.cn (Sg.g_ Tryz.call91 Tryz.func91 (an:={cuts:=[(7,[7])],drs:=[(3,.ofL [(0,1),(1,1),(2,1),(3,1),(4,1),(5,1),(6,1),(7,1),(8,1),(9,1)]),(5,.ofL [(0,1),(1,1),(2,1),(3,1),(4,1),(5,1),(6,1),(7,1),(8,1),(9,1),(10,0),(11,1),(12,1),(13,1),(14,1)]),(6,.ofL [(0,1),(1,1),(2,1),(3,1),(4,1),(5,1),(6,1),(7,1),(8,1),(9,0)]),(7,.ofL [(0,2),(1,2),(2,3),(3,3),(4,3),(5,3),(6,3),(7,3),(8,1),(9,1),(10,1),(11,1),(12,0),(13,0),(14,1)])]}) (os:=[(7,[(12,[7,6,5,4,3,2])])])) fun F=>?_;simp only[ca_,na_])
 refine aX fun x=>?_
 unfold d6 ry fQ bX rx
 refine am ?_
 refine o_ ag (o_ ae (o_ dm (aH ?_)));(((refine o_ (Sl.ce ?hcq) ?_);(case hcq=>(first|omega|(simp only[List.length_nil,List.length_cons];omega)))));refine ai (aR () ?_)
 exact az
theorem Ck {W:World}[hG:Gl W][hP:Gp W]{v j k gn st:Nat}{id:Int}{t:List UInt8}{f b pa:AC}{q:Ca}{tm rt us:Int}{m:Value}(ht:E9 t):Cn p_ 37 [pC v,pC j] W [d6 j k id t f b gn (fQ t) [97] [] [] zE rx,dB gn st q pa m us,eJ q tm rt]
  (fun x:AC × AC=> .tuple #[.agg #[.int .i64 429,.slice x.1.1 1 x.1.2,.slice x.2.1 18 x.2.2],.bool false]) (fun _=>[d6 j k id t f b gn (fQ t) [97] t [] bX rx,dB gn st q pa m us,eJ q tm rt]):=by
 (refine Shp.cn (Sg.g_ Tryz.call37 Tryz.func37 (an:={drs:=[(11,.ofL [(0,1),(1,1),(2,1),(3,1),(4,1),(5,1),(6,1),(7,1),(8,1),(9,1),(10,1),(11,1),(12,1),(13,1),(14,1),(15,0),(16,1),(17,1),(18,1),(19,1),(20,1),(21,1),(22,1)])]})) fun F=>?_;simp only[ca_,na_])
 obtain⟨⟨⟨r,hr⟩,h2,h3⟩,h4,h5,h6⟩:=ht
 have hc:il r=true:=by rw[hr]at h4;exact h4
 unfold d6 ry fQ zE rx dB wk
 refine am ?_
 refine aU fun g=>?_;refine o_ bO ?_;refine aU fun g=>?_;(((refine' aK ?hp ?hn ?hv ?h1 ?_);(case hp=>(repeat constructor));(case hn=>rfl);(case hv=>rfl);(case h1=>simp[Value.oneCell',ay])));refine o_ ag (o_ ae (o_ dm (aH ?_)));(((refine o_ (Sl.bA ?hcq) ?_);(case hcq=>(first|omega|(simp only[List.length_nil,List.length_cons];omega)))));refine af ?_;(((refine o_ (Sl.bA ?hcq) ?_);(case hcq=>(first|omega|(simp only[List.length_nil,List.length_cons];omega)))));refine af (o_ ag (o_ ae (o_ dm (aH ?_))))
 refine c_ (Bi hr hc h5) fun _=>?_
 refine bE ?_;refine bE ?_;refine o_ ag (o_ ae (bR ?_));(((refine o_ (Sl.cq ?hcq) ?_);(case hcq=>(first|omega|(simp only[List.length_nil,List.length_cons];omega)))));refine af (aW (t_ ag (t_ ae (cm ?_))));refine t_ ag (t_ ae ?_)
 refine' be (iO (n:=6) (o:=0) (vs:=uY st q) rfl ?hcv) ?hiv ?_
 case hiv=>(repeat(first|exact .refl|exact .nil|(apply Imp.pick;(focus ((repeat constructor);done)))|refine .drop ?_))
 case hcv=>exact fun i hi=>match i,hi with|0,_=>rfl|1,_=>rfl|2,_=>rfl|3,_=>rfl|4,_=>rfl|5,_=>rfl
 refine t_ ag (t_ ae (cm ?_));refine t_ ag (t_ ae (cm ?_))
 refine c_ (Qr hr h6 (by omega)) fun _=>?_
 obtain⟨⟨ua,uc⟩,⟨pa_,pc⟩,⟨sa,sc⟩,la,lc⟩:=q
 refine aB (by(repeat constructor):Pick _ (eJ _ tm rt) _) ?_
 unfold iT jy
 refine am ?_
 (try dsimp only)
 refine a9 (by(repeat constructor):Pick _ (Sl 3 200 sa sc 1 _) _) (by decide) fun G hG=>?_
 subst hG
 refine a9 (by(repeat constructor):Pick _ (Sl 12 101 la lc 2 _) _) (by decide) fun G2 hG2=>?_
 subst hG2
 refine rY ?_;refine rY ?_;refine rY ?_;(((refine o_ (Sl.cq ?hcq) ?_);(case hcq=>(first|omega|(simp only[List.length_nil,List.length_cons];omega)))));refine af (o_ ag (o_ ae (aH ?_)));refine o_ ag (o_ ae (o_ ae (aH ?_)))
 refine o_ (dR 0 rfl (by decide)) ?_
 refine o_ ae ?_;(((refine' aE (bw ?hc) ?hi ?_);(case hi=>exact az);(case hc=>rfl)))
 refine o_ (dR 1 rfl (by decide)) ?_
 refine aE (xN 1 bX rfl rfl rfl) az ?_
 refine o_ ag (o_ ae (pf (n:=12) (vs:=bX) (cs':=ry k id t f b gn (fQ t) [97] t [] bX rx) (by repeat constructor) rfl (Nat.le_of_ble_eq_true rfl) (by simp[Value.oneCell',ay,bX]) rfl ?_))
 refine' ah Jm ?hp fun x=>?_
 case hp=>(repeat(first|exact Picks.nil|(apply Picks.cons;(focus repeat constructor))))
 refine am ?_
 refine o_ bO ?_
 refine c_ (Cj (t:=t)) fun _=>?_
 refine o_ bB ?_;(((refine' aK ?hp ?hn ?hv ?h1 ?_);(case hp=>(repeat constructor));(case hn=>rfl);(case hv=>rfl);(case h1=>simp[Value.oneCell',ay])));(((refine' be (cQ ?hn) ?hi ?_);(case hi=>exact az);(case hn=>rfl)))
 refine aR x ?_
 refine .pick (by repeat constructor) (.pick (by repeat constructor) (.all ?_))
 unfold iT jy
 (try dsimp only)
 exact az
theorem GQ {W:World}{L L':List HP}{k:Value->WP}{Kp:PK}{X:List FD.Fd}{a:Option Addr}{c:Nat}{A:HP}(hA:gX W A a X)(ha:a=none->X.length=0)(hX:X.length<=4194304)(p:Pick L A L')(h:∀a' c',aJ W (Sl 2 192 a' c' X.length (X.flatMap cS)::L) (k (.slice a' X.length c'))):
  aJ W L (opN p_ (ju #[46,46] 46 [.slice none 0 0,.slice a X.length c]) Kp k):=by
 refine e_ (s:=2) (e:=192) ?_
 refine bQ (m:=X.length) (news:=X.flatMap cS) .here (wK (s:=2) (e':=192) (by kernel_rfl) (by decide) (.there p) hA ha oF) (by omega) (by omega) fun a1 c1=>?_
 rw[Nat.zero_add,List.nil_append]
 exact h a1 c1
theorem xO {W:World}{L L':List HP}{k:Value->WP}{Kp:PK}{D:List UInt8}{a:Option Addr}{c:Nat}{A:HP}(hA:RdB W A a D.length (D.map Sl.B))(ha:a=none->D.length=0)(hX:D.length<=1099511627776)(p:Pick L A L')(h:∀a' c',aJ W (Sl 1 5 a' c' D.length (D.map Sl.B)::L) (k (.slice a' D.length c'))):
  aJ W L (opN p_ (ju #[35,35] 35 [.slice none 0 0,.slice a D.length c]) Kp k):=by
 refine e_ (s:=1) (e:=5) ?_
 refine bQ (m:=D.length) (news:=D.map Sl.B) .here (k8 (e':=5) (by kernel_rfl) (.there p) hA ha (by intro u hu;obtain⟨c,_,rfl⟩:=List.mem_map.1 hu;rfl)) (by omega) (by omega) fun a1 c1=>?_
 rw[Nat.zero_add,List.nil_append]
 exact h a1 c1
theorem Jn {W:World}{l x:Nat}:Cn p_ 278 [.pointer (some ⟨l,0,none⟩),.pointer (some ⟨x,0,none⟩)] W [pt l (.cells #[.int .i64 0] 3)] (fun _:Unit=> .bool false) (fun _=>[pt l (.cells #[.int .i64 0] 3)]):=by
 (refine Shp.cn (Sg.g_ Tryz.call278 Tryz.func278) fun F=>?_;simp only[ca_,na_])
 refine aH ?_;(((refine o_ (Sl.eS ?hcq) ?_);(case hcq=>(first|omega|(simp only[List.length_nil,List.length_cons];omega)))));refine aj (aj (o_ ak (aj (aj (o_ ak (aR () ?_))))))
 exact .refl
theorem Jo {W:World}{l:Value}{X:List FD.Fd}{D:List UInt8}{xx dd:AC}{AX AD:HP}[OC l](hX:gX W AX xx.1 X)(hx0:xx.1=none->X.length=0)(hXl:X.length<=4194304)(hD:RdB W AD dd.1 D.length (D.map Sl.B))(hd0:dd.1=none->D.length=0)(hDl:D.length<=1048576):
  Cn p_ 171 [l,.agg (un X D xx dd).toArray,.int .i64 0] W [AX,AD] (fun q:AC × AC=> .agg (un X D q.1 q.2).toArray) (fun q=>[AX,AD,Sl 2 192 q.1.1 q.1.2 X.length (X.flatMap cS),Sl 1 5 q.2.1 q.2.2 D.length (D.map Sl.B)]):=by
 (refine Shp.cn (Sg.g_ Tryz.call171 Tryz.func171 (an:={loops:=[(4,[26])],drs:=[(1,(.op 0 3 (.op 1 3 (.op 2 3 (.op 3 3 (.op 5 3 (.op 6 3 (.alt ((.op 4 0 (.alt (.ofL [(7,0),(8,3),(9,0),(10,0)]) (.ofL [(9,0),(7,0),(8,1),(10,0)])))) (.ofL [(9,0),(4,0),(7,0),(8,1),(10,0)])))))))))],rcuts:=[(2,[7])]}) (os:=[(1,[(4,[6,5,1,0]),(7,[1,0]),(9,[8,6,5,3,2,1,0])])])) fun F=>?_;simp only[ca_,na_])
 obtain⟨xa,xc⟩:=xx
 obtain⟨da,dc⟩:=dd
 refine b_ fun bl=>?_
 refine aX fun bx=>?_
 refine b_ fun bv=>?_
 refine aU fun b6=>?_
 unfold un
 (try dsimp only)
 refine dK (fun z=>(ex fun q:AC × AC=>ex fun o:Nat=>all [pu (z= .pointer (some ⟨o,0,none⟩)),xp o X D q.1 q.2,Sl 2 192 q.1.1 q.1.2 X.length (X.flatMap cS),Sl 1 5 q.2.1 q.2.2 D.length (D.map Sl.B)])::pt bv (.cells #[.int .i64 0] 3)::pt b6 (.cells #[.int .i64 0,.slice none 0 0,.slice none 0 0] 48)::AX::AD::F) ?_ ?_
 rotate_left
 ·(refine aW ?_);refine aq ae .nil ?_;(((refine' aq (aS ?hc) ?hi ?_);(case hi=>exact .pick (by repeat constructor) .nil);(case hc=>repeat constructor)));refine aq ae .nil ?_;(((refine' aq (aS ?hc) ?hi ?_);(case hi=>exact .pick (by repeat constructor) .nil);(case hc=>repeat constructor)));refine aq ae .nil ?_;(((refine' aq (aS ?hc) ?hi ?_);(case hi=>exact .pick (by repeat constructor) .nil);(case hc=>repeat constructor)))
  refine ek ?_ ?_
  ·refine GQ hX hx0 hXl (by repeat constructor) fun a1 c1=>?_
   (repeat((refine' cB (aN ?hcs) ?_);(case hcs=>(repeat(first|exact .refl|exact .nil|(apply Imp.pick;(focus ((repeat constructor);done)))|refine .drop ?_)))))
   refine ek ?_ ?_
   ·refine xO hD hd0 (by omega) (by repeat constructor) fun a2 c2=>?_
    (repeat((refine' cB (aN ?hcs) ?_);(case hcs=>(repeat(first|exact .refl|exact .nil|(apply Imp.pick;(focus ((repeat constructor);done)))|refine .drop ?_)))))
    refine aq bO .nil ?_;refine aU fun g=>?_;refine bj ?_;refine bj ?_;refine bj ?_;refine bj ?_;refine bj ?_;refine bj ?_;refine bj ?_;(((refine' aK ?hp ?hn ?hv ?h1 ?_);(case hp=>(repeat constructor));(case hn=>rfl);(case hv=>rfl);(case h1=>simp[Value.oneCell',ay])))
    (repeat((refine' cB (aN ?hcs) ?_);(case hcs=>(repeat(first|exact .refl|exact .nil|(apply Imp.pick;(focus ((repeat constructor);done)))|refine .drop ?_)))))
    rename Nat=>b7
    refine aN (.ex ((a1,c1),(a2,c2)) (.ex b7 (.all ?_)))
    refine am ?_
    exact .pu rfl az
   ·refine aU fun b7=>?_
    (repeat((refine' cB (aN ?hcs) ?_);(case hcs=>(repeat(first|exact .refl|exact .nil|(apply Imp.pick;(focus ((repeat constructor);done)))|refine .drop ?_)))))
    refine xO hD hd0 (by omega) (by repeat constructor) fun a2 c2=>?_
    (repeat((refine' cB (aN ?hcs) ?_);(case hcs=>(repeat(first|exact .refl|exact .nil|(apply Imp.pick;(focus ((repeat constructor);done)))|refine .drop ?_)))))
    refine t_ bO ?_;(((refine' aK ?hp ?hn ?hv ?h1 ?_);(case hp=>(repeat constructor));(case hn=>rfl);(case hv=>rfl);(case h1=>simp[Value.oneCell',ay])))
    refine aN (.ex ((a1,c1),(a2,c2)) (.ex b7 (.all ?_)))
    refine am ?_
    exact .pu rfl az
  ·refine aU fun b7=>?_
   (repeat((refine' cB (aN ?hcs) ?_);(case hcs=>(repeat(first|exact .refl|exact .nil|(apply Imp.pick;(focus ((repeat constructor);done)))|refine .drop ?_)))))
   refine GQ hX hx0 hXl (by repeat constructor) fun a1 c1=>?_
   (repeat((refine' cB (aN ?hcs) ?_);(case hcs=>(repeat(first|exact .refl|exact .nil|(apply Imp.pick;(focus ((repeat constructor);done)))|refine .drop ?_)))))
   refine xO hD hd0 (by omega) (by repeat constructor) fun a2 c2=>?_
   (repeat((refine' cB (aN ?hcs) ?_);(case hcs=>(repeat(first|exact .refl|exact .nil|(apply Imp.pick;(focus ((repeat constructor);done)))|refine .drop ?_)))))
   refine t_ bO ?_;(((refine' aK ?hp ?hn ?hv ?h1 ?_);(case hp=>(repeat constructor));(case hn=>rfl);(case hv=>rfl);(case h1=>simp[Value.oneCell',ay])))
   refine aN (.ex ((a1,c1),(a2,c2)) (.ex b7 (.all ?_)))
   refine am ?_
   exact .pu rfl az
 intro ds z
 refine a8 .here fun q=>a8 .here fun o=>aB .here ?_
 refine am ?_
 refine aT .here fun hz=>?_
 subst hz
 refine o_ bC (o_ bC (o_ bC (o_ bC (o_ bO ?_))));refine aU fun g=>?_;(((refine' aK ?hp ?hn ?hv ?h1 ?_);(case hp=>(repeat constructor));(case hn=>rfl);(case hv=>rfl);(case h1=>simp[Value.oneCell',ay])));refine jL ?_
 refine aY (fun m y=>pu (y= .int .i64 0)::_) 0 (.pu rfl .refl) ?_
 intro m ds2 y
 refine aT .here fun hz=>?_
 subst hz
 (((refine o_ (Sl.bY ?hcq) ?_);(case hcq=>(first|omega|(simp only[List.length_nil,List.length_cons];omega)))));refine ai ?_
 refine o_ (nz 0 rfl (by decide) rfl) ?_
 refine bt (cap:=[.pointer (some ⟨bv,0,none⟩),.pointer (some ⟨bx,0,none⟩)]) Jn (by(repeat(first|exact Picks.nil|(apply Picks.cons;(focus repeat constructor))))) fun _=>?_
 unfold xp un
 refine am ?_
 (try dsimp only)
 refine o_ cL (ai (jL ?_));(((refine' aK ?hp ?hn ?hv ?h1 ?_);(case hp=>(repeat constructor));(case hn=>rfl);(case hv=>rfl);(case h1=>simp[Value.oneCell',ay])));(((refine' be (cQ ?hn) ?hi ?_);(case hi=>exact az);(case hn=>rfl)))
 refine aR q ?_
 exact az
theorem Jp {W:World}{m t:List UInt8}{mi:Int}{f:AC}:Cn p_ 183 [.agg #[ay m,ay t,.int .i64 mi,.slice f.1 1 f.2]] W [] (fun _:Unit=> .agg #[ay cU,ay t,.int .i64 mi,.slice f.1 1 f.2]) (fun _=>[]):=by
 (refine Shp.cn (Sg.g_ Tryz.call183 Tryz.func183) fun F=>?_;simp only[ca_,na_])
 refine aX fun g=>?_;refine aU fun g=>?_;refine o_ ae (bR ?_);refine jL ?_;(((refine' aK ?hp ?hn ?hv ?h1 ?_);(case hp=>(repeat constructor));(case hn=>rfl);(case hv=>rfl);(case h1=>simp[Value.oneCell',ay])));(((refine' be (cQ ?hn) ?hi ?_);(case hi=>exact az);(case hn=>rfl)))
 refine aR () ?_
 exact az
theorem Cm {W:World}:Cn p_ 184 [ay cU] W [] (fun _:Unit=> .bool true) (fun _=>[]):=by
 (refine Shp.cn (Sg.g_ Tryz.call184 Tryz.func184) fun F=>?_;simp only[ca_,na_])
 refine o_ (Sl.jq (m:=[71,69,84]) rfl) ?_
 refine aC (aC (o_ av (aR () ?_)))
 exact .refl
theorem GR {W:World}{G c:Nat}{cs cap:List Value}{f:FuncId}{A:HP}(hl:cs.length=4)(hf:Cn p_ f ([.agg cs.toArray]++cap) W [A] (fun _:Unit=> .bool true) (fun _=>[A])):Cn p_ 123 [.slice (some ⟨G,0,none⟩) 1 c,.func (.func f) #[] cap.toArray] W [Sl 4 145 (some ⟨G,0,none⟩) c 1 cs,A] (fun _:Unit=> .int .i64 0) (fun _=>[Sl 4 145 (some ⟨G,0,none⟩) c 1 cs,A]):=by
 (refine Shp.cn (Sg.g_ Tryz.call123 Tryz.func123 (an:={loops:=[(2,[8])]})) fun F=>?_;simp only[ca_,na_])
 refine o_ aI (aY (fun m y=>pu (y= .int .i64 0)::_) 0 (.pu rfl .refl) ?_)
 intro m ds y
 refine aT .here fun hz=>?_
 subst hz
 (((refine o_ (Sl.bY ?hcq) ?_);(case hcq=>(first|omega|(simp only[List.length_nil,List.length_cons];omega)))));refine ai ?_
 refine o_ (dR 0 rfl (by decide)) ?_
 refine aE (xN (n:=1) 0 cs (by rw[hl]) hl (by rw[Nat.zero_mul,List.drop_zero,List.take_of_length_le (by omega)])) az ?_
 refine bt hf (by(repeat(first|exact Picks.nil|(apply Picks.cons;(focus repeat constructor))))) fun _=>?_
 refine am ?_
 refine ai (aR () ?_)
 exact az
def ni (t:List UInt8)(f:AC):List Value:=[ay cU,ay t,.int .i64 1,.slice f.1 1 f.2]
theorem Qs {W:World}{b3 j k gn:Nat}{id:Int}{t:List UInt8}{f b:AC}{tm rt:Int}{q:Ca}{ho pa ke:List UInt8}{se:List Value}:Cn p_ 124 ([.agg (iT q tm rt).toArray]++[.pointer (some ⟨b3,0,none⟩)]) W [all [pt b3 (.cells #[pC j] 97),d6 j k id t f b gn (fQ t) ho pa ke bX se]] (fun _:Unit=> .bool true) (fun _=>[all [pt b3 (.cells #[pC j] 97),d6 j k id t f b gn (fQ t) ho pa ke bX se]]):=by
 (refine Shp.cn (Sg.g_ Tryz.call124 Tryz.func124 (an:={drs:=[(1,.ofL [(0,1),(1,1),(2,1),(3,1),(4,1),(5,1),(6,1),(7,1),(8,1)])]})) fun F=>?_;simp only[ca_,na_])
 refine aB (by repeat constructor) ?_
 unfold d6 ry fQ bX iT
 refine am ?_
 refine aX fun g=>?_;refine aW (t_ ae (cm ?_));refine cm ?_;refine t_ ag (t_ ae (t_ dm (cm ?_)));(((refine' be (Sl.jq ?hcq) .nil ?_);(case hcq=>(first|rfl|assumption))))
 refine aR () ?_
 refine .all ?_
 refine am ?_
 exact az
structure Ln where
 si:Int
 so:Bool
 hd:Value
 bd:Value
 kd:Int
 nn:Int
 gt:Value
theorem Jq {W:World}{L:List HP}{body:(Value->Value->Value->WP)->WP}{rest:List Value->Value->Value->Value->WP}(J:Value->Value->Value->List HP)(hr:∀ds x y z,aJ W (J x y z) (rest ds x y z))(hb:aJ W L (body fun x y z w=>sat W (J x y z) w)):aJ W L (zT body rest):=fun w hw=>⟨fun x y z w=>sat W (J x y z) w,fun ds x y z w' hw'=>hr ds x y z w' hw',hb w hw⟩
theorem xP {W:World}{L R:List HP}{body:(Value->Value->Value->WP)->WP}{rest:List Value->Value->Value->Value->WP}(J:Value->Value->Value->List HP)(hb:aJ W L (body fun x y z w=>sat W (J x y z++R) w))(hr:∀ds x y z,aJ W (J x y z++R) (rest ds x y z)):aJ W L (zT body rest):=Jq (fun x y z=>J x y z++R) hr hb
theorem sR {W:World}{L R:List HP}{body:(Value->WP)->WP}{rest:List Value->Value->WP}(J:Value->List HP)(hb:aJ W L (body fun x w=>sat W (J x++R) w))(hr:∀ds x,aJ W (J x++R) (rest ds x)):aJ W L (rQ body rest):=dK (fun x=>J x++R) hr hb
theorem Fa {W:World}{L R:List HP}{body:(Value->Value->WP)->WP}{rest:List Value->Value->Value->WP}(J:Value->Value->List HP)(hb:aJ W L (body fun x y w=>sat W (J x y++R) w))(hr:∀ds x y,aJ W (J x y++R) (rest ds x y)):aJ W L (oT body rest):=fJ (fun x y=>J x y++R) hr hb
def wl:List FD.Fd:=sC fH (Gq fH 1 [] (-1)) 1 none
def mp (t:List UInt8):List UInt8:=cU++[32]++t++[32,72,84,84,80,47,49,46]++eg 1
structure Snt where
 l:AC
 x:Nat
 H:Nat
 kd:Int
 nn:Int
 o:AC
 b:AC
theorem Qt {W:World}{v:Value}:Cn p_ 172 [.slice none 0 0,v] W [] (fun _:Unit=> .int .i64 (-1)) (fun _=>[]):=by
 (refine Shp.cn (Sg.g_ Tryz.call172 Tryz.func172 (an:={loops:=[(2,[8])]})) fun F=>?_;simp only[ca_,na_])
 refine o_ aI (aY (fun m y=>pu (y= .int .i64 0)::_) 0 (.pu rfl .refl) ?_)
 intro m ds y
 refine aT .here fun hz=>?_
 subst hz
 (((refine o_ (Sl.bF ?hcq) ?_);(case hcq=>(first|omega|(simp only[List.length_nil,List.length_cons];omega)))));refine af ?_
 refine aR () ?_
 exact az
theorem Jr {W:World}{v:Value}:Cn p_ 96 [.slice none 0 0,v] W [] (fun _:Unit=> .slice none 0 0) (fun _=>[]):=by
 (refine Shp.cn (Sg.g_ Tryz.call96 Tryz.func96 (an:={loops:=[(5,[5,6])]})) fun F=>?_;simp only[ca_,na_])
 refine c_ Qt fun _=>?_
 (((refine o_ (Sl.ce ?hcq) ?_);(case hcq=>(first|omega|(simp only[List.length_nil,List.length_cons];omega)))));refine ai ?_
 refine aR () ?_
 exact az
def eY (t:List UInt8):List UInt8:=[97,32]++t
theorem Qu {W:World}{t:List UInt8}(hl:t.length<=1000):Cn p_ 600 [ay [97],ay t,ay [],.bool false] W [] (fun _:Unit=>ay (eY t)) (fun _=>[]):=by
 (refine Shp.cn (Sg.g_ Tryz.call600 Tryz.func600) fun F=>?_;simp only[ca_,na_])
 refine c_ (pb (l:=[97]) (by decide)) fun _=>?_
 rw[show fK [97]=[97] by decide+kernel]
 refine o_ (cA (a:=[97]) (b:=[32]) (by decide)) ?_
 refine o_ (cA (b:=t) (by simp;omega)) ?_
 refine af (aR () ?_)
 exact .refl
theorem UO {W:World}{a:Option Addr}{c:Nat}:Cn p_ 454 [.slice a 0 c,.func (.func 602) #[] #[]] W [] (fun _:Unit=> .bool false) (fun _=>[]):=by
 have h:=xj (W:=W) (n:=0) (a:=a) (c:=c) (v:=fun _=>undef) (p:=fun _=>false) (NA:=pu True) (C:=pu True) (k:=602) (cap:=[]) (by decide) (fun h=>absurd h (by decide)) (fun i g o h=>absurd h (by omega)) (fun i h=>absurd h (by omega))
 exact h.imp [] (.pu trivial (.pu trivial .refl)) fun _=>by(repeat(first|exact .refl|exact .nil|(apply Imp.pick;(focus ((repeat constructor);done)))|refine .drop ?_))
theorem uM {a:Option Addr}{α:Type}{l:List α}(h:0<l.length->∃g,a=some ⟨g,0,none⟩)(ha:a=none):l.length=0:=by
 rcases Nat.eq_zero_or_pos l.length with z|z
 ·exact z
 ·obtain⟨_,e⟩:=h z;rw[ha]at e;cases e
theorem Co {W:World}{L M:List HP}(i:Imp W L M):aJ W L (sat W M):=aN i
def Qv (t:Option TypeDesc):Bool:=match t with|some (.interface _)=>false|some _=>true|none=>false
theorem Cp {P:Program}{W:World}{t:TypeId}{v:Value}(h:Qv (P.underlying t)=true):aQ P W [] (nM t v) (.iface t v):=fun w _=>by
 cases hx:P.underlying t with
 |none=>rw[hx]at h;cases h
 |some d=>
  rw[hx]at h
  have:=run_underlying (P:=P) (w:=w) hx
  cases d <;> first|(cases h;done)|simp[nM,Instr.makeInterface,this]
def VC:Int->Option Value:=dE (dE (dE (fun _=>none) 3 (some (.iface 209 (fn 94)))) 1 (some (.iface 209 (fn 95)))) 2 (some (.iface 211 (.agg #[])))
theorem zj {W:World}:Cn p_ 39 [] W [] (fun g:Nat=> .map (some g)) (fun g=>[bH g eW VC]):=by
 (refine Shp.cn (Sg.g_ Tryz.call39 Tryz.func39) fun F=>?_;simp only[ca_,na_])
 refine jt (P:=p_) (t:=112) (kt:=3) eW fun g=>?_
 refine o_ (Cp (by kernel_rfl)) ?_
 refine di (q:=3) PL.nT (by(repeat constructor):Pick _ (bH g eW _) _) ?_
 refine o_ (Cp (by kernel_rfl)) ?_
 refine di (q:=1) PL.nT (by(repeat constructor):Pick _ (bH g eW _) _) ?_
 refine o_ bO ?_
 refine o_ (Cp (by kernel_rfl)) ?_
 refine di (q:=2) PL.nT (by(repeat constructor):Pick _ (bH g eW _) _) ?_
 refine aR g ?_
 exact .refl
theorem Qw (x y:Int × Int):∀w,(Op.eqFields 9999 #[.int .i64 x.1,.int .i64 x.2] #[.int .i64 y.1,.int .i64 y.2] (p_.fieldsOf 122).toList).run p_ w= .ok (decide (x.1=y.1)&&(decide (x.2=y.2)&&(true))) w:=fun w=>by
 have h:(p_.fieldsOf 122).toList=(#[⟨"Kind",3,0,false,"","",0⟩,⟨"N",3,1,false,"","",8⟩]:Array Field).toList:=by kernel_rfl
 rw[h]
 exact Gf x.1 y.1 (by decide) (by rfl) (by rfl) (by rfl) (Gf x.2 y.2 (by decide) (by rfl) (by rfl) (by rfl) Ge)
theorem Fb {W:World}{ox oy:Operand}(x y:Int × Int):aQ p_ W [] (dY .eql 122 ox oy (.agg #[.int .i64 x.1,.int .i64 x.2]) (.agg #[.int .i64 y.1,.int .i64 y.2])) (.bool (decide (x.1=y.1)&&(decide (x.2=y.2)&&true))):=
 AH (by kernel_rfl) (by kernel_rfl) (by kernel_rfl) (Qw x y)
theorem rz {W:World}[hG:Gl W]{m:List UInt8}{st n:Int}{fs:List FD.Fd}{a:Option Addr}{c:Nat}{A:HP}(hA:gX W A a fs)(hl:qS fs)(h:uj fs=some (1,n))(h1:200<=st)(h2:st≠204)(h3:st≠304)(hm:m=cU):Cn p_ 50 [ay m,.int .i64 st,.slice a fs.length c] W [A] (fun _:Unit=> .tuple #[.agg #[.int .i64 1,.int .i64 n],.int .i64 0]) (fun _=>[A]):=by
 subst hm
 (refine Shp.cn (Sg.g_ Tryz.call50 Tryz.func50 (an:={cuts:=[(6,[10])]})) fun F=>?_;simp only[ca_,na_])
 refine aU fun g=>?_
 refine dK (fun x=>pu (x= .bool false)::pt g (.cells #[.int .i64 0,.int .i64 0] 122)::A::F) ?_ ?_
 rotate_left
 ·refine o_ (Sl.fB (l:=cU) (m:=[72,69,65,68]) (by decide)) ?_
  refine af ?_;(((refine o_ (Sl.bF ?hcq) ?_);(case hcq=>(first|omega|(simp only[List.length_nil,List.length_cons];omega)))));refine af ?_;(((refine o_ (Sl.bA ?hcq) ?_);(case hcq=>(first|omega|(simp only[List.length_nil,List.length_cons];omega)))));refine af ?_;(((refine o_ (Sl.bA ?hcq) ?_);(case hcq=>(first|omega|(simp only[List.length_nil,List.length_cons];omega)))));refine af (o_ (Sl.fB (l:=cU) (m:=[67,79,78,78,69,67,84]) (by decide)) ?_)
  exact aj (aj (o_ ak (aN (.pu rfl .refl))))
 intro ds z
 refine aT .here fun hz=>?_
 subst hz
 refine af (o_ bO ?_)
 refine' ah (pA (a:=a) (c:=c) (m:= .string ⟨#[]⟩) (tg:= .string ⟨#[]⟩) (mi:=1) hA hl h) ?hp fun _=>?_
 case hp=>(repeat(first|exact Picks.nil|(apply Picks.cons;(focus repeat constructor))))
 refine am ?_
 refine bE ?_;refine bE ?_;refine aU fun g=>?_;(((refine' aK ?hp ?hn ?hv ?h1 ?_);(case hp=>(repeat constructor));(case hn=>rfl);(case hv=>rfl);(case h1=>simp[Value.oneCell',ay])));(((refine o_ (Sl.ce ?hcq) ?_);(case hcq=>(first|omega|(simp only[List.length_nil,List.length_cons];omega)))));refine ab (jL ?_);refine ab (o_ bO ?_);refine ab (o_ (Fb (1,n) (0,0)) ?_)
 rw[dF_ (by decide:¬(1:Int)=0),Bool.false_and]
 refine o_ av (af (jL ?_));(((refine' aK ?hp ?hn ?hv ?h1 ?_);(case hp=>(repeat constructor));(case hn=>rfl);(case hv=>rfl);(case h1=>simp[Value.oneCell',ay])));(((refine' be (cQ ?hn) ?hi ?_);(case hi=>exact az);(case hn=>rfl)))
 refine aR () ?_
 exact az
structure RpOk (b:List UInt8)(P:Ps)(X:List FD.Fd)(D:List UInt8):Prop where
 fd:dM (ef true) b=some (P,D)
 bl:b.length<=1048576
 sp:∃h,b=h++D
 dn:P.done=true
 rp:P.reply=true
 st:P.status=200
 mi:P.minor=1
 fs:P.fs=X
 hk:qS X
 ln:uj X=some (1,(D.length:Int))
 d0:0<D.length
 fl:X.length<=1000
theorem Js {W:World}{a:Option Addr}{c:Nat}{l:List Nat}(hl:l.length<=1099511627776):
  Cn p_ 56 [.slice a l.length c] W [Sl 1 115 a c l.length (l.map pC)] (fun q:Option Addr × Nat=> .slice q.1 l.length q.2) (fun q=>[Sl 1 115 a c l.length (l.map pC),Sl 1 115 q.1 q.2 l.length (l.map pC)]):=by
 (refine Shp.cn (Sg.g_ Tryz.call56 Tryz.func56) fun F=>?_;simp only[ca_,na_])
 refine aP .here fun h1 h2 h3 hs=>?_
 refine o_ oI ?_
 cases a with
 |none=>
  have:l=[]:=by
   cases l with
   |nil=>rfl
   |cons x r=>obtain⟨g,hg⟩:=hs (by simp);cases hg
  subst this
  refine ai (e_ (s:=1) (e:=115) ?_)
  refine bK (none,0) rfl ?_
  exact az
 |some ad=>
  refine af (rW fun g=>?_)
  refine bQ (m:=l.length) (news:=l.map pC) .here (k8 (e':=115) (by kernel_rfl) (.there .here) (gO (by rw[List.length_map]) hs) (fun h=>by cases h) (by intro u hu;obtain⟨x,_,rfl⟩:=List.mem_map.1 hu;rfl)) (by omega) (by omega) fun a' c'=>?_
  rw[Nat.zero_add,List.nil_append]
  refine bK (a',c') rfl ?_
  exact az
theorem Qx {W:World}{g c n j:Nat}{l:List Nat}(h:j<l.length):aQ p_ W [Sl 1 115 (some ⟨g,0,none⟩) c n (l.map pC)] (aG 115 (.pointer (some ⟨g,0+j,none⟩))) (pC l[j]):=by
 rw[Nat.zero_add]
 exact bw (by rw[List.getElem?_map,List.getElem?_eq_getElem h];rfl)
theorem UP {W:World} {a:Option Addr} {c:Nat} {l:List Nat} {p:Nat->Bool} {C:HP} {k:FuncId} {cap:List Value} (hl:l.length<=1099511627776)
  (hf:∀g∈l,Cn p_ k ([pC g]++cap) W [C] (fun _:Unit=> .bool (p g)) (fun _=>[C])):
  Cn p_ 126 [.slice a l.length c,.func (.func k) #[] cap.toArray] W [Sl 1 115 a c l.length (l.map pC),C]
   (fun i:{i:Int // (i= -1/\∀g∈l,p g=false)\/∃j:Nat,∃h:j<l.length,i=(j:Int)/\p l[j]=true/\∀g∈l.take j,p g=false}=> .int .i64 i.1) (fun _=>[Sl 1 115 a c l.length (l.map pC),C]):=by
 (refine Shp.cn (Sg.g_ Tryz.call126 Tryz.func126 (an:={loops:=[(2,[8])]})) fun F=>?_;simp only[ca_,na_])
 refine aP .here fun h1 h2 h3 hs=>?_
 refine o_ aI (aY (fun m y=>pu (∃i:Nat,m+i=l.length/\y= .int .i64 (i:Int)/\∀g∈l.take i,p g=false)::Sl 1 115 a c l.length (l.map pC)::C::F) l.length ?_ ?_)
 ·refine .pu ⟨0,rfl,rfl,by simp⟩ ?_
  exact az
 intro m ds y
 refine aT .here fun hi=>?_
 obtain⟨i,hmi,rfl,hno⟩:=hi
 refine bz bD .nil (fun h=>?_) (fun h=>?_)
 ·have hin:i<l.length:=by omega
  obtain⟨g,rfl⟩:=hs (by omega)
  refine ai (o_ (bq i rfl hin) ?_)
  refine cO (Qx hin) ?_
  refine bt (hf _ (List.getElem_mem hin)) (by(repeat(first|exact Picks.nil|(apply Picks.cons;(focus repeat constructor))))) fun _=>?_
  refine am ?_
  cases hp:p l[i]with
  |true=>
   refine ai (bK ⟨(i:Int),.inr ⟨i,hin,rfl,hp,hno⟩⟩ rfl ?_)
   exact az
  |false=>
   refine af (bP ?_)
   refine aZ (m-1) (by omega) (.pu ⟨i+1,by omega,by norm_cast,?_⟩ ?_)
   ·rw[List.take_succ_eq_append_getElem hin]
    intro g hg
    rcases List.mem_append.1 hg with hg|hg
    ·exact hno g hg
    ·rw[List.mem_singleton.1 hg];exact hp
   exact az
 ·have:i=l.length:=by omega
  subst this
  rw[List.take_length]at hno
  refine af (bK ⟨-1,.inl ⟨rfl,hno⟩⟩ rfl ?_)
  exact az
theorem qt {W:World} {a:Option Addr} {c:Nat} {l:List Nat} {p:Nat->Bool} {C:HP} {k:FuncId} {cap:List Value} (hl:l.length<=1099511627776)
  (hf:∀g∈l,Cn p_ k ([pC g]++cap) W [C] (fun _:Unit=> .bool (p g)) (fun _=>[C])):
  Cn p_ 98 [.slice a l.length c,.func (.func k) #[] cap.toArray] W [Sl 1 115 a c l.length (l.map pC),C]
   (fun _:Unit=> .slice a (l.filter fun g=>!p g).length c) (fun _=>[Sl 1 115 a c (l.filter fun g=>!p g).length ((l.filter fun g=>!p g).map pC),C]):=by
 (refine Shp.cn (Sg.g_ Tryz.call98 Tryz.func98 (an:={loops:=[(5,[5,6])]})) fun F=>?_;simp only[ca_,na_])
 refine aP .here fun h1 h2 h3 hs=>?_
 refine ah (UP hl hf) (by(repeat(first|exact Picks.nil|(apply Picks.cons;(focus repeat constructor))))) fun i=>?_
 obtain⟨i,hi⟩:=i
 refine am ?_
 rcases hi with ⟨rfl,hno⟩|⟨i,hil,rfl,hpi,hno⟩
 ·refine o_ cH ?_
  rw[dT_ rfl]
  have hfl:(l.filter fun g=>!p g)=l:=List.filter_eq_self.2 fun g hg=>by rw[hno g hg];rfl
  rw[hfl]
  refine ai (aR () ?_)
  exact az
 refine o_ cH ?_
 rw[dF_ (by omega)]
 obtain⟨g,rfl⟩:=hs (by omega)
 have hf0:((l.take (i+1)).filter fun g=>!p g)=l.take i:=by
  rw[List.take_succ_eq_append_getElem hil,List.filter_append,List.filter_eq_self.2 fun g hg=>by rw[hno g hg];rfl]
  simp[hpi]
 refine af (bP ?_)
 refine cp (fun m x y=>[ex fun s:(Nat × Nat) × List Value=>all [pu (m+s.1.2=l.length/\s.1.1<s.1.2/\x= .int .i64 (s.1.1:Int)/\y= .int .i64 (s.1.2:Int)/\s.2.length=l.length/\s.1.1=((l.take s.1.2).filter fun g=>!p g).length/\s.2.take s.1.1=((l.take s.1.2).filter fun g=>!p g).map pC/\s.2.drop s.1.2=(l.drop s.1.2).map pC),Sl 1 115 (some ⟨g,0,none⟩) c l.length s.2,C]]++F) (l.length-(i+1)) ?_ ?_
 ·refine .ex ((i,i+1),l.map pC) (.all ?_)
  refine am ?_
  refine .pu ⟨by omega,by omega,rfl,by norm_cast,by rw[List.length_map],by rw[hf0,List.length_take];omega,by rw[hf0,List.map_take],by rw[List.map_drop]⟩ ?_
  exact az
 intro m ds x y
 refine am ?_
 refine a8 Pick.here fun s=>aB Pick.here ?_
 obtain⟨⟨u,j⟩,xs⟩:=s
 refine am ?_
 refine aT Pick.here fun hi=>?_
 obtain⟨hmj,huj,rfl,rfl,hxl,hul,htk,hdr⟩:=hi
 (try dsimp only at hmj huj hxl hul htk hdr)
 refine o_ aI (bz bD .nil (fun h=>?_) (fun h=>?_))
 ·have hjl:j<l.length:=by omega
  have hxj:xs[j]? =some (pC l[j]):=by
   have:=congrArg (fun t=>t[0]?) hdr
   simpa [List.getElem?_drop,List.getElem?_eq_getElem hjl]using this
  have htj:((l.take (j+1)).filter fun g=>!p g)=((l.take j).filter fun g=>!p g)++(if p l[j]then []else [l[j]]):=by
   rw[List.take_succ_eq_append_getElem hjl,List.filter_append]
   congr 1
   cases hpl:p l[j] <;> simp[hpl]
  have hdr':xs.drop (j+1)=(l.drop (j+1)).map pC:=by
   have:=congrArg (fun t=>t.drop 1) hdr
   simpa [List.drop_drop,<- List.map_drop]using this
  have hld:aQ p_ W [Sl 1 115 (some ⟨g,0,none⟩) c l.length xs] (aG 115 (.pointer (some ⟨g,0+j,none⟩))) (pC l[j]):=by
   rw[Nat.zero_add]
   exact bw hxj
  refine ai (o_ (bq j rfl hjl) ?_)
  refine cO hld ?_
  refine bt (hf _ (List.getElem_mem hjl)) (by(repeat(first|exact Picks.nil|(apply Picks.cons;(focus repeat constructor))))) fun _=>?_
  refine am ?_
  refine o_ fx ?_
  cases hp:p l[j]with
  |true=>
   rw[hp,if_pos rfl,List.append_nil]at htj
   refine af (bP ?_)
   refine bI (m-1) (by omega) (.ex ((u,j+1),xs) (.all ?_))
   refine am ?_
   refine .pu ⟨by omega,by omega,rfl,by norm_cast,hxl,by rw[htj];exact hul,by rw[htj];exact htk,hdr'⟩ ?_
   exact az
  |false=>
   rw[hp]at htj
   simp only[Bool.false_eq_true,if_false]at htj
   refine ai (o_ (bq u rfl (by omega)) ?_)
   rw[Nat.zero_add]
   refine d7 (by(repeat constructor):Pick _ (Sl 1 115 (some ⟨g,0,none⟩) c l.length xs) _) (by omega) ?_
   refine bP ?_
   refine bP ?_
   refine bI (m-1) (by omega) (.ex ((u+1,j+1),xs.set u (pC l[j])) (.all ?_))
   refine am ?_
   refine .pu ⟨by omega,by omega,by norm_cast,by norm_cast,by rw[List.length_set];exact hxl,by rw[htj,List.length_append,<- hul];rfl,by rw[htj,pJ _ (by omega),htk,List.map_append];rfl,by rw[pK _ (by omega)];exact hdr'⟩ ?_
   exact az
 ·have:j=l.length:=by omega
  subst this
  rw[List.take_length]at hul htk
  refine af (o_ (jK u rfl (by omega)) ?_)
  rw[if_neg (by omega:¬c=u)]
  simp only[Option.map_some,du,Nat.zero_add,Nat.mul_one]
  refine xv (by(repeat constructor):Pick _ (Sl 1 115 (some ⟨g,0,none⟩) c l.length xs) _) (by omega) (by omega) ?_
  refine o_ (mD u rfl (by omega)) ?_
  refine i9 (m:=u) .here (by omega) ?_
  rw[Nat.mul_one,List.append_assoc,List.take_append_of_le_length (by rw[List.length_take];omega),List.take_take,Nat.min_self,htk,hul]
  refine aR () ?_
  exact az
def nW (i gn:Nat)(jb:Value)(si:Int)(so:Bool)(hd bd:Value)(kd nn:Int)(gt:Value):List Value:=[.int .i64 (i:Int),.int .i64 0,pC gn,.int .i64 1,.int .i64 (i:Int),jb,.int .i64 si,.bool so,hd,bd,.int .i64 kd,.int .i64 nn,gt]
def cE (x i gn:Nat)(jb:Value)(r:Ln):HP:=pt x (.cells (nW i gn jb r.si r.so r.hd r.bd r.kd r.nn r.gt).toArray 124)
structure Bz where
 H:Nat
 kd:Int
 nn:Int
 f:AC
 bb:AC
def j_ (x j k gn i:Nat)(t:List UInt8)(now:Int)(y:Bz):List HP:=[cE x i gn (pC j) ⟨now,false,pC y.H,.pointer none,y.kd,y.nn,.slice none 0 0⟩,cV y.H (ef true),d6 j k (i:Int) t y.f y.bb gn (fQ t) [97] t (eY t) bX (ni t y.f),mX y.f]
def fh (X J:Nat->Nat)(T:Nat->List UInt8)(k gn:Nat)(now:Int)(ls:Nat->Nat)(i:Nat):HP:=match ls i with
 |0=>pu True
 |1=>ex fun y:Bz=>all (j_ (X i) (J i) k gn i (T i) now y)
 |_=>ex fun r:Ln=>all [cE (X i) i gn (.pointer none) r]
def et (X J:Nat->Nat)(T:Nat->List UInt8)(k gn:Nat)(now:Int)(n:Nat)(ls:Nat->Nat):HP:=BS n (fh X J T k gn now ls)
def pY (X:Nat->Nat)(l:AC)(L:List Nat):HP:=Sl 1 115 l.1 l.2 (L.map X).length ((L.map X).map pC)
theorem zk {X J:Nat->Nat}{T:Nat->List UInt8}{k gn:Nat}{now:Int}{ls lt:Nat->Nat}{i:Nat}(h:ls i=lt i):fh X J T k gn now ls i=fh X J T k gn now lt i:=by unfold fh;rw[h]
theorem Cq {P:Program}{W:World}{n i:Nat}{F:Nat->HP}{s:Sem Next}{v:Value}(hi:i<n)(H:aQ P W [F i] s v):aQ P W [BS n F] s v:=fun w hw=>by
 refine(fY (S:=fun w=>s.run P w= .ok (.value v) w) .here i hi ?_:aJ W [BS n F] _) w hw
 exact fun w hw=>H w ((Imp.pick .here .nil).sat hw)
theorem nI {W:World}{t:TypeId}{X J:Nat->Nat}{T:Nat->List UInt8}{k gn n i off:Nat}{now:Int}{ls:Nat->Nat}{v:Value}[ht:OneT p_ t](hi:i<n)(hs:ls i≠0)(h:∀jb si so hd bd kd nn gt,Nth (nW i gn jb si so hd bd kd nn gt) off v):aQ p_ W [et X J T k gn now n ls] (aG t (.pointer (some ⟨X i,off,none⟩))) v:=by
 refine Cq hi ?_
 unfold fh
 match hz:ls i with
 |0=>exact absurd hz hs
 |1=>exact jh fun y=>gF (aS (h _ _ _ _ _ _ _ _))
 |m+2=>exact jh fun r=>gF (aS (h _ _ _ _ _ _ _ _))
theorem Cr {W:World}{X J:Nat->Nat}{T:Nat->List UInt8}{k gn n i:Nat}{now:Int}{ls:Nat->Nat}(hi:i<n)(hs:ls i≠0):aQ p_ W [et X J T k gn now n ls] (aG 97 (.pointer (some ⟨X i,5,none⟩))) (if ls i=1 then pC (J i)else .pointer none):=by
 refine Cq hi ?_
 unfold fh
 match hz:ls i with
 |0=>exact absurd hz hs
 |1=>exact jh fun y=>gF (aS (by repeat constructor))
 |m+2=>
  rw[if_neg (by omega)]
  exact jh fun r=>gF (aS (by repeat constructor))
theorem oM {W:World}{X J:Nat->Nat}{T:Nat->List UInt8}{k gn i:Nat}{now:Int}{ls:Nat->Nat}{h:e8}(hs:ls i≠0)(H:fh X J T k gn now ls i W h):∃ca ta,h (X i)=some (.cells ca ta (0,0)):=by
 unfold fh at H
 match hz:ls i with
 |0=>exact absurd hz hs
 |1=>
  rw[hz]at H
  obtain⟨y,h1,h2,ha,_,_,s1,_⟩:=H
  exact⟨_,_,s1 _ _ ha⟩
 |m+2=>
  rw[hz]at H
  obtain⟨y,h1,h2,ha,_,_,s1,_⟩:=H
  exact⟨_,_,s1 _ _ ha⟩
theorem Ct {W:World}{n:Nat}{F:Nat->HP}{h:e8}{i j:Nat}(hi:i<n)(hj:j<n)(hne:i≠j)(H:BS n F W h):∃h1 h2:e8,F i W h1/\F j W h2/\(∀a,h1 a=none\/h2 a=none)/\(∀a o,h1 a=some o->h a=some o)/\(∀a o,h2 a=some o->h a=some o):=by
 obtain⟨h1,h2,ha,hb,d,s1,s2⟩:=om _ (List.mem_range.2 hi) List.nodup_range H
 obtain⟨k1,k2,ka,_,_,t1,_⟩:=om (i:=j) _ (List.mem_filter.2 ⟨List.mem_range.2 hj,by simpa using Ne.symm hne⟩) (List.nodup_range.filter _) hb
 refine⟨h1,k1,ha,ka,fun a=>?_,s1,fun a o e=>s2 a o (t1 a o e)⟩
 rcases d a with c|c
 ·exact .inl c
 ·right
  cases e:k1 a with
  |none=>rfl
  |some o=>rw[t1 a o e]at c;cases c
theorem Fc {W:World}{X J:Nat->Nat}{T:Nat->List UInt8}{k gn n i j:Nat}{now:Int}{ls:Nat->Nat}{ox oy:Operand}(hi:i<n)(hj:j<n)(hsi:ls i≠0)(hsj:ls j≠0):aQ p_ W [et X J T k gn now n ls] (dY .eql 115 ox oy (pC (X j)) (pC (X i))) (.bool (decide (j=i))):=fun w hw=>by
 by_cases c:j=i
 ·subst c
  have:=run_eql_ptr_same (P:=p_) w (tp:=115) (te:=124) (j:=Tryz.t124) ⟨X j,0,none⟩ (by kernel_rfl) (by kernel_rfl)
  simp[dY,sv,eqGuard,this]
 ·obtain⟨_,f,⟨h1,h2,hb,_,_,s1,_⟩,hc⟩:=hw
  obtain⟨k1,k2,ha,hb,d,t1,t2⟩:=Ct hi hj (Ne.symm c) hb
  obtain⟨ca,ta,e1⟩:=oM hsi ha
  obtain⟨cb,tb,e2⟩:=oM hsj hb
  have hne:X j≠X i:=fun e=>by
   rcases d (X i)with x|x
   ·rw[e1]at x;cases x
   ·rw[<- e,e2]at x;cases x
  have:=run_eql_ptr_other (P:=p_) w (tp:=115) (te:=124) (j:=Tryz.t124) (a:=⟨X j,0,none⟩) (b:=⟨X i,0,none⟩) (by kernel_rfl) (by kernel_rfl) (by decide+kernel) (by simp[hne]) (hc _ _ (s1 _ _ (t2 _ _ e2))).2 (hc _ _ (s1 _ _ (t1 _ _ e1))).2
  simp[dY,sv,eqGuard,this,c]
theorem wm {W:World}{v k gn n i:Nat}{s:SvS}{l:AC}{X J:Nat->Nat}{T:Nat->List UInt8}{now:Int}{ls:Nat->Nat}{L:List Nat}(hl:s.lk= .slice l.1 (L.map X).length l.2)(hL:∀j∈L,j<n/\ls j≠0)(hi:i∈L)(hn:L.length<=1000):Cn p_ 41 [pC v,.int .i64 (i:Int)] W [ci v s,pY X l L,et X J T k gn now n ls] (fun _:Unit=>pC (X i)) (fun _=>[ci v s,pY X l L,et X J T k gn now n ls]):=by
 (refine Shp.cn (Sg.g_ Tryz.call41 Tryz.func41 (an:={loops:=[(2,[12])]})) fun F=>?_;simp only[ca_,na_])
 obtain⟨la,lc⟩:=l
 cases s
 (try dsimp only at *)
 subst hl
 have hlen:(L.map X).length=L.length:=List.length_map _
 have hpos:0<L.length:=List.length_pos_of_mem hi
 unfold pY ci nF
 (try dsimp only)
 refine a9 (by(repeat constructor):Pick _ (Sl 1 115 la lc _ _) _) (by omega) fun G hG=>?_
 subst hG
 refine o_ ag (o_ ae (aH ?_));refine o_ aI (aY (fun m y=>pu (∃q:Nat,m+q=L.length/\y= .int .i64 (q:Int)/\i∈L.drop q)::_) L.length (.pu ⟨0,rfl,rfl,hi⟩ .refl) ?_)
 intro m ds y
 refine aT .here fun hy=>?_
 obtain⟨q,hm,rfl,hq⟩:=hy
 have hql:q<L.length:=by
  rcases Nat.lt_or_ge q L.length with h|h
  ·exact h
  ·rw[List.drop_eq_nil_of_le h]at hq;cases hq
 have hin:=hL _ (List.getElem_mem hql)
 refine o_ (Sl.bY (by omega)) ?_
 refine ai (o_ (bq q rfl (by omega)) ?_)
 refine aE (bw (cs:=(L.map X).map pC) (v:=pC (X L[q])) (by simp[List.getElem?_map,hql])) az ?_
 refine o_ ag (o_ ae (aE (nI (n:=n) (T:=T) (J:=J) (k:=k) (gn:=gn) (now:=now) (ls:=ls) (i:=L[q]) (off:=0) (v:= .int .i64 ((L[q]:Nat):Int)) hin.1 hin.2 (fun _ _ _ _ _ _ _ _=> .here)) az ?_))
 by_cases hc:L[q]=i
 ·rw[hc]
  (((refine o_ (Sl.ce ?hcq) ?_);(case hcq=>(first|omega|(simp only[List.length_nil,List.length_cons];omega)))));refine ai ?_
  refine aR () ?_
  exact az
 ·refine o_ (Sl.bA (by omega)) ?_
  refine af (bP ?_)
  refine aZ (m-1) (by omega) (.pu ⟨q+1,by omega,by norm_cast,?_⟩ az)
  rw[List.drop_eq_getElem_cons hql]at hq
  exact(List.mem_cons.1 hq).resolve_left fun h=>hc h.symm
theorem Cu {W:World}{b1 v k n i:Nat}{s:SvS}{X J:Nat->Nat}{T:Nat->List UInt8}{now:Int}{ls:Nat->Nat}(hi:i<n)(hs:ls i≠0):Cn p_ 99 ([pC (X i)]++[.pointer (some ⟨b1,0,none⟩)]) W [all [pt b1 (.cells #[pC v] 23),ci v s,et X J T k s.g now n ls]] (fun _:Unit=> .bool false) (fun _=>[all [pt b1 (.cells #[pC v] 23),ci v s,et X J T k s.g now n ls]]):=by
 (refine Shp.cn (Sg.g_ Tryz.call99 Tryz.func99 (an:={drs:=[(1,.ofL [(0,1),(1,1),(2,1),(3,1),(4,1),(5,1),(6,1),(7,1),(8,1),(9,1),(10,1),(11,1),(12,1),(13,1),(14,1),(15,1),(16,1),(17,1),(18,1),(19,1)])]})) fun F=>?_;simp only[ca_,na_])
 refine aB (by repeat constructor) ?_
 unfold ci nF
 refine am ?_
 refine aW (t_ ag (t_ ae (be (nI (n:=n) (T:=T) (J:=J) (k:=k) (gn:=s.g) (now:=now) (ls:=ls) (i:=i) (off:=2) (v:=pC s.g) hi hs (fun _ _ _ _ _ _ _ _=>by repeat constructor)) az ?_)))
 refine cm ?_;refine t_ ag (t_ ae (cm ?_))
 refine t_ (IC (t:=64) (e:=84) (j:=Tryz.t84) (by kernel_rfl) (by kernel_rfl)) ?_
 refine aj (aj (aj (aj (aj (aj (aj (aj (t_ ak (aR () ?_)))))))))
 refine .all ?_
 refine am ?_
 exact az
theorem uN {W:World}{v k n:Nat}{s:SvS}{l:AC}{X J:Nat->Nat}{T:Nat->List UInt8}{now:Int}{ls:Nat->Nat}{L:List Nat}(hl:s.lk= .slice l.1 (L.map X).length l.2)(hL:∀j∈L,j<n/\ls j≠0)(hn:L.length<=1000):Cn p_ 40 [pC v] W [ci v s,pY X l L,et X J T k s.g now n ls] (fun _:Unit=> .tuple #[]) (fun _=>[ci v s,pY X l L,et X J T k s.g now n ls]):=by
 (refine Shp.cn (Sg.g_ Tryz.call40 Tryz.func40 (an:={drs:=[(1,.ofL [(0,3),(1,1),(2,1),(3,1),(4,1),(5,0),(6,1),(7,1),(8,0)]),(2,.ofL [(0,3),(1,1),(2,1),(3,1),(4,1),(5,1),(6,0),(7,1),(8,1),(9,0)])]}) (os:=[(1,[(5,[0])]),(2,[(6,[0])])])) fun F=>?_;simp only[ca_,na_])
 refine b_ fun b1=>?_
 obtain⟨la,lc⟩:=l
 unfold pY
 cases s
 (try dsimp only at *)
 subst hl
 unfold ci nF
 (try dsimp only)
 refine aW ?_;(((refine' aq (aS ?hc) ?hi ?_);(case hi=>exact .pick (by repeat constructor) .nil);(case hc=>repeat constructor)));refine cm ?_;refine t_ ag (t_ ae (cm ?_))
 refine c_ Jr fun _=>?_
 (repeat((refine' cB (aN ?hcs) ?_);(case hcs=>(repeat(first|exact .refl|exact .nil|(apply Imp.pick;(focus ((repeat constructor);done)))|refine .drop ?_)))))
 refine t_ ag (t_ ae (bR ?_));refine aW ?_;(((refine' aq (aS ?hc) ?hi ?_);(case hi=>exact .pick (by repeat constructor) .nil);(case hc=>repeat constructor)));refine cm ?_;refine t_ ag (t_ ae (cm ?_));refine t_ bC ?_
 rename_i w_ g_ cl nu ca lg out _
 refine xM (A:=pt b1 (.cells #[pC v] 23)) (B:=ci v ⟨w_,g_,cl,.slice la (L.map X).length lc,nu,ca,lg,out⟩) (C:=et X J T k g_ now n ls) (by repeat constructor) (by repeat constructor) (by repeat constructor) ?_
 refine' ah (qt (l:=L.map X) (p:=fun _=>false) (a:=la) (c:=lc) (cap:=[.pointer (some ⟨b1,0,none⟩)]) (by rw[List.length_map];omega) (fun g hg=>by
  obtain⟨j,hj,rfl⟩:=List.mem_map.1 hg
  exact Cu (v:=v) (k:=k) (T:=T) (J:=J) (now:=now) (s:=⟨w_,g_,cl,.slice la (L.map X).length lc,nu,ca,lg,out⟩) (hL j hj).1 (hL j hj).2)) ?hp fun _=>?_
 case hp=>(repeat(first|exact Picks.nil|(apply Picks.cons;(focus repeat constructor))))
 rw[show(L.map X).filter (fun g=>!false)=L.map X from List.filter_eq_self.2 fun _ _=>rfl]
 refine am ?_
 refine aB (by(repeat constructor):Pick _ (all _) _) ?_
 unfold ci nF
 refine am ?_
 (try dsimp only)
 (repeat((refine' cB (aN ?hcs) ?_);(case hcs=>(repeat(first|exact .refl|exact .nil|(apply Imp.pick;(focus ((repeat constructor);done)))|refine .drop ?_)))))
 refine t_ ag (t_ ae (bR ?_))
 refine aR () ?_
 exact az
theorem Jt {W:World}[hG:Gl W]{x i gn j k H:Nat}{id si kd nn:Int}{t b D ho pa ke:List UInt8}{f bb:AC}{tv lo:List Value}{P:Ps}{X:List FD.Fd}{ba:Option Addr}{cap:Nat}{A:HP}(htv:tv.length=6)(hlo:lo.length=12)(hA:RdB W A ba b.length (b.map Sl.B))(hcap:b.length<=cap)(h:RpOk b P X D):
  Cn p_ 43 [pC x,.slice ba b.length cap] W [cE x i gn (pC j) ⟨si,false,pC H,.pointer none,kd,nn,.slice none 0 0⟩,cV H (ef true),A,d6 j k id t f bb gn tv ho pa ke lo (ni t f)] (fun _:Nat × AC=> .tuple #[.bool true,.int .i64 0,.int .i64 0])
   (fun y=>[cE x i gn (pC j) ⟨si,true,pC H,pC y.1,1,D.length,.slice y.2.1 D.length y.2.2⟩,cV H P,A,d6 j k id t f bb gn tv ho pa ke lo (ni t f),Sl 1 5 y.2.1 y.2.2 D.length (D.map Sl.B)]):=by
 obtain⟨hd,hb⟩:=h.sp
 have hlen:b.length=hd.length+D.length:=by rw[hb,List.length_append]
 have hd0:=h.d0
 have hbl:=h.bl
 obtain⟨t0,t1,t2,t3,t4,t5,rfl⟩:∃a b c d e f,tv=[a,b,c,d,e,f]:=by
  match tv,htv with
  |[a,b,c,d,e,f],_=>exact⟨a,b,c,d,e,f,rfl⟩
 obtain⟨l0,l1,l2,l3,l4,l5,l6,l7,l8,l9,la,lb,rfl⟩:∃a b c d e f g h i j k l,lo=[a,b,c,d,e,f,g,h,i,j,k,l]:=by
  match lo,hlo with
  |[a,b,c,d,e,f,g,h,i,j,k,l],_=>exact⟨a,b,c,d,e,f,g,h,i,j,k,l,rfl⟩
 have hT:RdB W A (if cap=hd.length then ba else ba.map (·.add (hd.length * 1))) D.length (D.map Sl.B):=by
  have:=hA.cut (cap:=cap) (l:=hd.length) (h:=b.length) (by omega) (Nat.le_refl _) hcap
  rw[show b.length-hd.length=D.length by omega,hb,List.map_append,List.drop_left' (by simp),List.take_of_length_le (by simp)]at this
  exact this
 obtain⟨ta,hta⟩:∃ta,ta=(if cap=hd.length then ba else ba.map (·.add (hd.length * 1))):=⟨_,rfl⟩
 rw[<- hta]at hT
 (refine Shp.cn (Sg.g_ Tryz.call43 Tryz.func43 (an:={loops:=[(2,[1])]})) fun F=>?_;simp only[ca_,na_])
 unfold cE nW d6 ry ni
 refine am ?_
 (try dsimp only)
 refine o_ ag (o_ ae (aH ?_));refine ab (ab (o_ aI (ab ?_)));(((refine o_ (Sl.gi ?hcq) ?_);(case hcq=>(first|omega|(simp only[List.length_nil,List.length_cons];omega)))));refine o_ ak (o_ ag (o_ ae (bR ?_)))
 refine aY (fun m y=>match m with|0=>[ex fun R:Nat=>all [pu (y= .slice ta D.length (cap-hd.length)),pt x (.cells #[.int .i64 (i:Int),.int .i64 0,pC gn,.int .i64 1,.int .i64 (i:Int),pC j,.int .i64 si,.bool true,pC H,pC R,.int .i64 1,.int .i64 (D.length:Int),.slice none 0 0] 124),pt R (.cells (jx 1 D.length 1048576 0 (none,0) 0 false).toArray 234),cV H P,A,d6 j k id t f bb gn [t0,t1,t2,t3,t4,t5] ho pa ke [l0,l1,l2,l3,l4,l5,l6,l7,l8,l9,la,lb] (ni t f)]]++F|_=>pu (y= .slice ba b.length cap)::_) 1 (.pu rfl .refl) ?_
 intro m ds y
 cases m with
 |succ m=>
  refine aT .here fun hy=>?_
  subst hy
  refine o_ ag (o_ ae (aH ?_));refine o_ iG ?_;refine ai (o_ ag (o_ ae (aH ?_)))
  refine' ah (AS (G:=H) (cap:=cap) hA h.fd rfl hbl) ?hp fun _=>?_
  case hp=>(repeat(first|exact Picks.nil|(apply Picks.cons;(focus repeat constructor))))
  rw[h.dn,show(b.length:Int)-(D.length:Int)=(hd.length:Int) by omega]
  refine am ?_
  refine bE ?_;refine bE ?_;refine bE ?_;(((refine o_ (Sl.cq ?hcq) ?_);(case hcq=>(first|omega|(simp only[List.length_nil,List.length_cons];omega)))));refine ab (ab (o_ bB (o_ ak (af (o_ (jK hd.length rfl (by omega)) ?_)))))
  rw[show b.length-hd.length=D.length by omega,<- hta]
  refine o_ ag (o_ ae (aH ?_))
  refine' ah (mR (g:=H) (p:=P) h.dn h.rp (by rw[h.fs];have:=h.fl;omega)) ?hp fun r=>?_
  case hp=>(repeat(first|exact Picks.nil|(apply Picks.cons;(focus repeat constructor))))
  obtain⟨ra,rc⟩:=r
  rw[h.st,h.mi,h.fs]
  refine am ?_
  (try dsimp only)
  refine aP (by(repeat constructor):Pick _ (Sl 2 192 ra rc _ _) _) fun _ _ _ hs=>?_
  refine bE ?_;refine bE ?_;refine bE ?_;refine bE ?_;(((refine o_ (Sl.bF ?hcq) ?_);(case hcq=>(first|omega|(simp only[List.length_nil,List.length_cons];omega)))));refine af (o_ ag (o_ ae (aH ?_)));refine o_ ag (o_ ae (o_ dm (aH ?_)))
  refine' ah (rz (m:=cU) (st:=200) (n:=(D.length:Int)) (c:=rc) (cJ hs) h.hk h.ln (by decide) (by decide) (by decide) rfl) ?hp fun _=>?_
  case hp=>(repeat(first|exact Picks.nil|(apply Picks.cons;(focus repeat constructor))))
  refine am ?_
  refine bE ?_;refine bE ?_;refine o_ ag (o_ ae (pf (n:=2) (vs:=[.int .i64 1,.int .i64 (D.length:Int)]) (cs':=[.int .i64 (i:Int),.int .i64 0,pC gn,.int .i64 1,.int .i64 (i:Int),pC j,.int .i64 si,.bool true,pC H,.pointer none,.int .i64 1,.int .i64 (D.length:Int),.slice none 0 0]) (by repeat constructor) rfl (Nat.le_of_ble_eq_true rfl) (by simp[Value.oneCell']) rfl ?_))
  (((refine o_ (Sl.cq ?hcq) ?_);(case hcq=>(first|omega|(simp only[List.length_nil,List.length_cons];omega)))));refine af ?_;refine o_ ag ?_;refine o_ ae ?_
  refine' aE (iO (n:=2) (o:=10) (vs:=[.int .i64 1,.int .i64 (D.length:Int)]) rfl ?hcv) ?hiv ?_
  case hiv=>(repeat(first|exact .refl|exact .nil|(apply Imp.pick;(focus ((repeat constructor);done)))|refine .drop ?_))
  case hcv=>exact fun i hi=>match i,hi with|0,_=>rfl|1,_=>rfl
  refine' ah (If (k:=1) (n:=(D.length:Int)) (most:=1048576) (.inr ⟨rfl,by omega⟩) (by decide) (by decide)) ?hp fun R=>?_
  case hp=>exact .nil
  refine am ?_
  refine bE ?_;refine bE ?_;refine o_ ag (o_ ae (bR ?_))
  refine aZ 0 (by omega) (.ex R (.all ?_))
  unfold d6 ry ni
  refine am ?_
  (try dsimp only)
  exact .pu rfl az
 |zero=>
  refine a8 .here fun R=>aB .here ?_
  refine am ?_
  refine aT .here fun hy=>?_
  subst hy
  refine o_ ag (o_ ae (aH ?_));refine o_ bM ?_;refine af (o_ ag (o_ ae (aH ?_)))
  refine' ah (Pw (G:=R) (most:=1048576) (cap:=cap-hd.length) hT hd0 (by omega) (by decide)) ?hp fun r=>?_
  case hp=>(repeat(first|exact Picks.nil|(apply Picks.cons;(focus repeat constructor))))
  obtain⟨ra,rc⟩:=r
  refine am ?_
  (try dsimp only)
  refine bE ?_;refine bE ?_;refine bE ?_;refine bE ?_;refine o_ ag (o_ ae (aH ?_))
  refine aP (by(repeat constructor):Pick _ (Sl 1 5 ra rc _ _) _) fun _ _ _ hs=>?_
  refine xO (gO (e:=5) (a:=ra) (cap:=rc) (by rw[List.length_map]) hs) (uM hs) (by omega) (by repeat constructor) fun oa oc=>?_
  refine o_ ag (o_ ae (bR ?_));refine o_ aI (rZ ?_)
  rw[show(D.length:Int)-(D.length:Int)=0 by omega]
  refine aR ((R,(oa,oc))) ?_
  exact az
def kR:List UInt8:=[77,73,83,83]
def SW (T:Nat)(Z:Cs)(t:List UInt8)(X:List FD.Fd)(D:List UInt8)(asked now:Int):={Z':Cs // IW T Z (eY t) cU fH X D 200 asked now Z'}
end Go.Proofs.YtdjkdjepjahjfaaGreatDoor.TP
