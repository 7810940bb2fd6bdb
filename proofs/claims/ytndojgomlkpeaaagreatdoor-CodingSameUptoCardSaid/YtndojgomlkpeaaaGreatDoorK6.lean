/- The plain model of codings: which one a client may have, whether a response fits, what is sent. No program in sight. (18 texts made one; each says below what it is.) -/
import Derived.Test.YtndojgomlkpeaaaGreatDoorK5
set_option linter.unusedVariables false
set_option linter.unusedSimpArgs false
set_option linter.unusedSectionVars false
set_option maxRecDepth 9999
namespace Go.Proofs.YtndojgomlkpeaaaGreatDoor.FD
open Go GZ
def kAE:List UInt8:=[65,99,99,101,112,116,45,69,110,99,111,100,105,110,103]
def kCE:List UInt8:=[67,111,110,116,101,110,116,45,69,110,99,111,100,105,110,103]
def kCRg:List UInt8:=[67,111,110,116,101,110,116,45,82,97,110,103,101]
def kCT:List UInt8:=[67,111,110,116,101,110,116,45,84,121,112,101]
def kCL:List UInt8:=[67,111,110,116,101,110,116,45,76,101,110,103,116,104]
def kAR:List UInt8:=[65,99,99,101,112,116,45,82,97,110,103,101,115]
def kCC:List UInt8:=[67,97,99,104,101,45,67,111,110,116,114,111,108]
def kVary:List UInt8:=[86,97,114,121]
def kETag:List UInt8:=[69,84,97,103]
def kGz:List UInt8:=[103,122,105,112]
def kXGz:List UInt8:=[120,45,103,122,105,112]
def kIdn:List UInt8:=[105,100,101,110,116,105,116,121]
def kStar:List UInt8:=[42]
def kText:List UInt8:=[116,101,120,116,47]
def kJson:List UInt8:=[97,112,112,108,105,99,97,116,105,111,110,47,106,115,111,110]
def kSvg:List UInt8:=[105,109,97,103,101,47,115,118,103,43,120,109,108]
def kNoT:List UInt8:=[110,111,45,116,114,97,110,115,102,111,114,109]
def allF (l:List Fd)(n:List UInt8):List UInt8:=joinF [44] (valsF l n)
theorem allF_len {l:List Fd}(n:List UInt8)(hl:zF l<=1100000):(allF l n).length<=1500000/\(valsF l n).length<=1048576:=by
 have h1:=zL_vals l n
 have h2:=vals_len l n
 have h3:=z_len l
 have h4:=joinF_len [44] (valsF l n)
 simp only[List.length_cons,List.length_nil]at h4
 unfold allF
 omega
abbrev Ch:=List UInt8 × Int
def wnm (c:Ch):List UInt8:=if c.1=kXGz then kGz else c.1
def wtsF (cs:List Ch)(n:List UInt8):Option Int:=(cs.find? fun c=>decide (wnm c=n)).map (·.2)
def ofF (cs:List Ch)(n:List UInt8)(o:Int):Int:=match wtsF cs n with
 |some q=>q
 |none=>match wtsF cs kStar with
  |some q=>q
  |none=>o
theorem wts_snoc (cs:List Ch)(c:Ch)(n:List UInt8):wtsF (cs++[c]) n=match wtsF cs n with
  |some q=>some q
  |none=>if wnm c=n then some c.2 else none:=by
 unfold wtsF
 rw[List.find?_append]
 cases cs.find? fun c=>decide (wnm c=n)with
 |some x=>rfl
 |none=>
  by_cases h:wnm c=n
  ·simp[h]
  ·simp[h]
def chL (l:List Fd):List Ch:=(lsF (choicesF (allF l kAE))).1
def chooB (l:List Fd):Bool:=decide (0<(valsF l kAE).length)&&decide ((lsF (choicesF (allF l kAE))).2=0)&&(decide (0<ofF (chL l) kGz 0)&&decide (ofF (chL l) kIdn 1<=ofF (chL l) kGz 0))
def chooF (l:List Fd):List UInt8:=if chooB l then kGz else kIdn
def kindF (X:List Fd):List UInt8:=lowF (trimB (cutA 59 (firstF X kCT).1))
def kndB (k:List UInt8):Bool:=decide (k.take 5=kText)||decide (k=kJson)||decide (k=kSvg)
def dirC (X:List Fd):List Dir:=(lsF (dirsF (allF X kCC))).1
def fitB (st:Int)(X:List Fd)(D:List UInt8):Bool:=decide (st=200)&&decide (32<=D.length)&&(!(firstF X kCE).2&&!(firstF X kCRg).2)&&kndB (kindF X)&&!(dirC X).any fun d=>decide (d.name=kNoT)
def lisW (w:List UInt8):Bool:=decide (w=kStar)||eqlF w kAE
def lisL (X:List Fd):List (List UInt8):=(valsF X kVary).flatMap (spl 44)
def lisB (X:List Fd):Bool:=(lisL X).any lisW
def varyX (X:List Fd):List Fd:=if lisB X then X else X++[(kVary,kAE)]
def wkF (f:Fd):Fd:=if(tagF f.2).2&&eqlF f.1 kETag then(f.1,tagT (true,(tagF f.2).1.2))else f
def pakX (X:List Fd)(g:List UInt8):List Fd:=(withF X [kCL,kAR]).map wkF++[(kCE,kGz),(kCL,dig g.length)]
structure Rp where
 X:List Fd
 D:List UInt8
def appR (l:List Fd)(level st:Int)(X:List Fd)(D:List UInt8):Rp:=
 if(decide (1<=level)&&decide (level<=9))&&fitB st X D then
  if chooB l then if pkE D level 0=0 then⟨pakX (varyX X) (pkB D level 0),pkB D level 0⟩else⟨varyX X,D⟩
  else⟨varyX X,D⟩
 else⟨X,D⟩
theorem vals_lo {l:List Fd}{n m:List UInt8}(h:lowF n=lowF m):valsF l n=valsF l m:=by
 unfold valsF
 congr 1
 apply List.filter_congr
 intro f _
 exact(eql_low h).symm
theorem first_vals {l:List Fd}{n:List UInt8}:(firstF l n).2=false↔valsF l n=[]:=by
 unfold firstF
 cases valsF l n with
 |nil=>simp
 |cons v r=>simp
theorem vals_wk {n:List UInt8}(hn:∀f:Fd,eqlF f.1 n=true->eqlF f.1 kETag=false):∀l:List Fd,valsF (l.map wkF) n=valsF l n
 |[]=>rfl
 |f::r=>by
  have h1:(wkF f).1=f.1:=by unfold wkF;split <;> rfl
  have ih:=vals_wk hn r
  rw[List.map_cons,vals_cons,vals_cons,ih,h1]
  cases hc:eqlF f.1 n with
  |false=>rfl
  |true=>
   have h2:=hn f hc
   have:wkF f=f:=by unfold wkF;rw[h2,Bool.and_false];rfl
   rw[this]
theorem eql_iff {a b:List UInt8}:eqlF a b=true↔lowF a=lowF b:=by
 unfold eqlF
 rw[Bool.and_eq_true,decide_eq_true_eq,decide_eq_true_eq]
 refine⟨fun h=>h.2,fun h=>⟨?_,h⟩⟩
 have:=congrArg List.length h
 simpa [lowF]using this
theorem eql_not {a n m:List UInt8}(h:lowF n≠lowF m)(ha:eqlF a n=true):eqlF a m=false:=by
 rw[Bool.eq_false_iff]
 intro hc
 exact h ((eql_iff.1 ha).symm.trans (eql_iff.1 hc))
theorem vals_out {l:List Fd}{N:List (List UInt8)}{n:List UInt8}(h:∀m∈N,lowF n≠lowF m):valsF (withF l N) n=valsF l n:=by
 unfold valsF withF
 rw[List.filter_filter]
 congr 1
 apply List.filter_congr
 intro f _
 cases hc:eqlF f.1 n with
 |false=>rfl
 |true=>
  rw[Bool.true_and]
  unfold noneF
  rw[Bool.not_eq_true',List.any_eq_false]
  intro m hm c
  exact h m hm ((eql_iff.1 hc).symm.trans (eql_iff.1 c))
theorem vals_one {n m v:List UInt8}:valsF [(m,v)] n=if eqlF m n then [v]else []:=by rw[vals_cons];rfl
theorem vary_vals {X:List Fd}{n:List UInt8}(h:lowF kVary≠lowF n):valsF (varyX X) n=valsF X n:=by
 have h0:eqlF kVary n=false:=by rw[Bool.eq_false_iff];exact fun c=>h (eql_iff.1 c)
 unfold varyX
 split
 ·rfl
 ·rw[vals_app,vals_one,h0]
  simp
theorem fit_ce {st:Int}{X:List Fd}{D:List UInt8}(h:fitB st X D=true):valsF X kCE=[]:=by
 unfold fitB at h
 simp only[Bool.and_eq_true,Bool.not_eq_true']at h
 exact first_vals.1 h.1.1.2.1
theorem app_same {l X:List Fd}{level st:Int}{D:List UInt8}(hce:valsF X kCE=[]):(valsF (appR l level st X D).X kCE=[]/\(appR l level st X D).D=D)\/(valsF (appR l level st X D).X kCE=[kGz]/\chooB l=true/\pkE D level 0=0/\(appR l level st X D).D=pkB D level 0/\valsF (appR l level st X D).X kCL=[dig (pkB D level 0).length]):=by
 have hv:valsF (varyX X) kCE=[]:=by rw[vary_vals (by decide)];exact hce
 unfold appR
 split
 ·split
  ·rename_i c2
   split
   ·rename_i c3
    refine .inr ⟨?_,c2,c3,rfl,?_⟩
    ·unfold pakX
     rw[vals_app,vals_wk (fun f hf=>eql_not (by decide) hf),vals_out (by intro m hm;simp at hm;rcases hm with rfl|rfl <;> decide),hv,vals_cons,vals_one,if_pos (by decide),if_neg (by decide)]
     rfl
    ·unfold pakX
     rw[vals_app,vals_wk (fun f hf=>eql_not (by decide) hf),vals_with (m:=kCL) (by simp) rfl,vals_cons,vals_one,if_neg (by decide),if_pos (by decide)]
     rfl
   ·exact .inl ⟨hv,rfl⟩
  ·exact .inl ⟨hv,rfl⟩
 ·exact .inl ⟨hce,rfl⟩
end Go.Proofs.YtndojgomlkpeaaaGreatDoor.FD
namespace Go.Proofs.YtndojgomlkpeaaaGreatDoor.Sl
open Go Go.RowKit Sh
theorem ba_eq {l m:List UInt8}:((⟨l.toArray⟩:ByteArray)==(⟨m.toArray⟩:ByteArray))=decide (l=m):=by
 rw[<- txt_eq,beq_toListBytes]
theorem keyS {P:Program}{kt:TypeId}(hk:P.underlying kt=some .string):KeyLaw P kt txt where
 check:=fun b k w=>MapKept.run_checkKey (n:=9999) (d:= .string) hk (by simp[MapKept.IsKey,txt]) b
 eq:=fun k k' w=>by
  unfold txt Op.equal Op.maxDepth
  have:=run_equalIn_string (P:=P) (w:=w) 9999 kt ⟨k.toArray⟩ ⟨k'.toArray⟩ hk
  rw[this,txt_eq]
 now:=⟨.string,hk,fun k k'=> .inr (by unfold txt;simp only[Instr.sameNow];rw[ba_eq])⟩
 same:=fun k=>by unfold txt;simp only[Instr.sameBits];rw[ba_eq];simp
end Go.Proofs.YtndojgomlkpeaaaGreatDoor.Sl
namespace Go.Proofs.YtndojgomlkpeaaaGreatDoor.FD
open Go Go.Proofs Go.RowKit Sh Sl T
theorem call {W:World}{l:List Fd}{n:List UInt8}{a:Option Addr}{c:Nat}{A:HP}(hA:RdF W A a l)(hl:zF l<=1100000)(hn:n.length<=4194304):
  Cn p_ 34 [.slice a l.length c,txt n] W [A] (fun _:Unit=> .tuple #[txt (allF l n),.bool (decide (0<(valsF l n).length))]) (fun _=>[A]):=by
 obtain⟨h1,h2⟩:=allF_len n hl
 (refine Shp.cn (Sg.g_ Tryz.call34 Tryz.func34) fun F=>?_;simp only[ca_,na_])
 refine e_call (values (n:=n) hA (z_ok (by omega)) hn) (.cons (by repeat constructor) .nil) fun r=>?_
 obtain⟨va,vc⟩:=r
 refine nr_ ?_
 (try dsimp only)
 unfold allF at *
 refine e_call (join (sep:=[44]) (by decide) (by decide) (by omega) (by omega)) (.cons (by repeat constructor) .nil) fun _=>?_
 refine nr_ ?_
 refine o_ v_len (o_ v_gtr ?_)
 rw[show decide ((0:Int)<((valsF l n).length:Int))=decide (0<(valsF l n).length)from decide_eq_decide.2 (by omega)]
 refine rt_ () ?_
 exact im_
theorem hasPreG {W:World}{l p:List UInt8}(hl:l.length<=4611686018427387904)(hp:p.length<=4611686018427387904):Cn p_ 60 [txt l,txt p] W [] (fun _:Unit=> .bool (decide (l.take p.length=p))) (fun _=>[]):=by
 (refine Shp.cn (Sg.g_ Tryz.call60 Tryz.func60) fun F=>?_;simp only[ca_,na_])
 refine o_ v_lent (o_ v_lent (e_ask v_geq .nil (fun h=>?_) (fun h=>?_)))
 ·have h2:p.length<=l.length:=Int.ofNat_le.1 h
  refine e_gdT (e_gdT (e_gdT (o_ v_lent (e_gdT (o_ (v_ssh p.length rfl h2) ?_)))))
  refine e_gdT (e_gdT (o_ v_streq (o_ v_pickT (rt_ () ?_))))
  exact im_
 ·have h2:l.length<p.length:=by simp at h;omega
  refine e_gdF2 (e_gdF2 (e_gdF2 (e_gdF2 (e_gdF2 (e_gdF2 (o_ v_pickF ?_))))))
  rw[dF_ (fun e=>by have:=congrArg List.length e;rw[List.length_take]at this;omega)]
  refine rt_ () ?_
  exact im_
def wMap (cs:List Ch)(n:List UInt8):Option Value:=(wtsF cs n).map fun q=> .int .i64 q
theorem wMap_nil:wMap []=fun _=>none:=rfl
theorem wMap_some {cs:List Ch}{n:List UInt8}:(wMap cs n).isSome=(wtsF cs n).isSome:=by unfold wMap;cases wtsF cs n <;> rfl
theorem wMap_old {cs:List Ch}{c:Ch}(h:(wMap cs (wnm c)).isSome=true):wMap (cs++[c])=wMap cs:=by
 rw[wMap_some]at h
 funext n
 show(wtsF (cs++[c]) n).map (fun q=>Value.int .i64 q)=(wtsF cs n).map fun q=>Value.int .i64 q
 rw[wts_snoc]
 cases hw:wtsF cs n with
 |some q=>rfl
 |none=>
  by_cases e:wnm c=n
  ·subst e
   rw[hw]at h
   cases h
  ·simp[e]
theorem wMap_new {cs:List Ch}{c:Ch}(h:(wMap cs (wnm c)).isSome=false):wMap (cs++[c])=updM (wMap cs) (wnm c) (some (.int .i64 c.2)):=by
 rw[wMap_some]at h
 funext n
 show(wtsF (cs++[c]) n).map (fun q=>Value.int .i64 q)=if n=wnm c then some (.int .i64 c.2)else(wtsF cs n).map fun q=>Value.int .i64 q
 rw[wts_snoc]
 by_cases e:n=wnm c
 ·subst e
  cases hw:wtsF cs (wnm c)with
  |some q=>rw[hw]at h;cases h
  |none=>simp
 ·rw[if_neg e]
  cases hw:wtsF cs n with
  |some q=>rfl
  |none=>
   have e2:¬wnm c=n:=fun d=>e d.symm
   simp[e2]
theorem choose1 {W:World}{n:List UInt8}{o:Int}{cs:List Ch}{gw g:Nat}:
  Cn p_ 36 [txt n,.int .i64 o,.pointer (some ⟨gw,0,none⟩)] W [pt gw (.cells #[.map (some g)] 65),MapFn g txt (wMap cs)] (fun _:Unit=> .int .i64 (ofF cs n o)) (fun _=>[pt gw (.cells #[.map (some g)] 65),MapFn g txt (wMap cs)]):=by
 (refine Shp.cn (Sg.g_ Tryz.call36 Tryz.func36 (an:={loops:=[(2,[12])]})) fun F=>?_;simp only[ca_,na_])
 refine o_ v_rv ?_
 refine e_loop1 (fun m y=>pu (∃i:Nat,m+i=2/\y= .int .i64 (i:Int)/\(1<=i->wtsF cs n=none)/\(2<=i->wtsF cs kStar=none))::pt gw (.cells #[.map (some g)] 65)::MapFn g txt (wMap cs)::F) 2 ?_ ?_
 ·refine .pu ⟨0,rfl,rfl,by omega,by omega⟩ ?_
  exact im_
 intro m ds y
 refine e_pu .here fun hi=>?_
 obtain⟨i,hmi,rfl,h1,h2⟩:=hi
 refine o_ v_lss ?_
 have hi2:i=0\/i=1\/i=2:=by omega
 rcases hi2 with rfl|rfl|rfl
 ·rw[dT_ (by decide)]
  refine e_condT (o_ (v_ixA (v:=txt n) 0 rfl (by decide) rfl) ?_)
  refine ln_ ?_
  refine e_lookFOk (keyS Tryz.underlying9) (by repeat constructor) ?_
  by_cases hs:∃q,wtsF cs n=some q
  ·obtain⟨q,hw⟩:=hs
   rw[show wMap cs n=some (.int .i64 q) by unfold wMap;rw[hw];rfl]
   simp only[Option.isSome_some,Option.getD_some]
   refine o_ (v_ext (v:= .int .i64 q) rfl) ?_
   refine o_ (v_ext (v:= .bool true) rfl) ?_
   refine e_condT (e_ret () (by unfold ofF;rw[hw]) ?_)
   exact im_
  ·have hw:wtsF cs n=none:=by
    cases h:wtsF cs n with
    |none=>rfl
    |some q=>exact absurd ⟨q,h⟩ hs
   rw[show wMap cs n=none by unfold wMap;rw[hw];rfl]
   simp only[Option.isSome_none]
   refine o_ (v_ext (v:=_) rfl) ?_
   refine o_ (v_ext (v:= .bool false) rfl) ?_
   refine e_condF (ad_ ?_)
   refine e_next1 (m-1) (by omega) (.pu ⟨1,by omega,rfl,fun _=>hw,by omega⟩ ?_)
   exact im_
 ·rw[dT_ (by decide)]
  refine e_condT (o_ (v_ixA (v:=txt kStar) 1 rfl (by decide) rfl) ?_)
  refine ln_ ?_
  refine e_lookFOk (keyS Tryz.underlying9) (by repeat constructor) ?_
  by_cases hs:∃q,wtsF cs kStar=some q
  ·obtain⟨q,hw⟩:=hs
   rw[show wMap cs kStar=some (.int .i64 q) by unfold wMap;rw[hw];rfl]
   simp only[Option.isSome_some,Option.getD_some]
   refine o_ (v_ext (v:= .int .i64 q) rfl) ?_
   refine o_ (v_ext (v:= .bool true) rfl) ?_
   refine e_condT (e_ret () (by unfold ofF;rw[h1 (by omega),hw]) ?_)
   exact im_
  ·have hw:wtsF cs kStar=none:=by
    cases h:wtsF cs kStar with
    |none=>rfl
    |some q=>exact absurd ⟨q,h⟩ hs
   rw[show wMap cs kStar=none by unfold wMap;rw[hw];rfl]
   simp only[Option.isSome_none]
   refine o_ (v_ext (v:=_) rfl) ?_
   refine o_ (v_ext (v:= .bool false) rfl) ?_
   refine e_condF (ad_ ?_)
   refine e_next1 (m-1) (by omega) (.pu ⟨2,by omega,rfl,fun _=>h1 (by omega),fun _=>hw⟩ ?_)
   exact im_
 ·rw[dF_ (by decide)]
  refine e_condF (e_ret () (by unfold ofF;rw[h1 (by omega),h2 (by omega)]) ?_)
  exact im_
theorem chL_num {l:List Fd}(hl:zF l<=1100000):(chL l).length<=1500001:=by
 have h1:=(allF_len kAE hl).1
 have hn:=elems_num (q:=false) (e:=false) (l:=allF l kAE)
 unfold chL choicesF listF
 split
 ·show(List.map _ _).length<=_
  rw[List.length_map];omega
 ·simp[lsF]
theorem choose {W : World} [hG : Gl W] {l : List Fd} {a : Option Addr} {c : Nat} {A : HP} (hA : RdF W A a l) (hl : zF l <= 1100000) :
  Cn p_ 16 [.slice a l.length c] W [A] (fun _ : Unit => txt (chooF l)) (fun _ => [A]) := by
 obtain ⟨h1, h2⟩ := allF_len kAE hl
 have hnum := chL_num hl
 (refine Shp.cn (Sg.g_ Tryz.call16 Tryz.func16 (an := { cuts := [(12, [10])], loops := [(7, [34])] })) fun F => ?_; simp only [ca_, na_])
 refine e_call (call (n := kAE) hA hl (by decide)) (.cons (by repeat constructor) .nil) fun _ => ?_
 (try simp only [ca_, na_, -eq_self])
 refine e_opN (v_ext rfl) .nil ?_
 refine e_opN (v_ext rfl) .nil ?_
 refine e_call (choices (l := allF l kAE) (by omega)) .nil fun r => ?_
 obtain ⟨ra, rc⟩ := r
 (try simp only [ca_, na_, -eq_self])
 (try dsimp only)
 refine e_opN (v_ext rfl) .nil ?_
 refine e_opN (v_ext rfl) .nil ?_
 unfold chooF chooB
 rw [show (lsF (choicesF (allF l kAE))).1 = chL l from rfl]
 cases hs : decide (0 < (valsF l kAE).length) with
 | false =>
  simp only [Bool.false_and, Bool.false_eq_true, if_false]
  refine e_opN v_notF .nil ?_; refine e_gdF1 ?_; refine e_gdF1 ?_; refine e_opN v_pickT .nil ?_; refine e_condT ?_
  (first | refine e_ret (()) rfl ?_ | refine e_retT (()) ?_)
  (repeat (first | exact .refl | exact .nil | (apply Imp.pick; (focus ((repeat constructor); done))) | refine .drop ?_))
 | true =>
 refine e_opN v_notT .nil ?_; refine e_gdT ?_; refine e_gdT ?_
 refine e_opN v_neq .nil ?_
 by_cases he : (lsF (choicesF (allF l kAE))).2 = 0
 rotate_left
 ·rw [dT_ he, dF_ he]
  simp only [Bool.and_false, Bool.false_and, Bool.false_eq_true, if_false]
  refine e_opN v_pickF .nil ?_; refine e_condT ?_
  (first | refine e_ret (()) rfl ?_ | refine e_retT (()) ?_)
  (repeat (first | exact .refl | exact .nil | (apply Imp.pick; (focus ((repeat constructor); done))) | refine .drop ?_))
 rw [dF_ (fun e => e he), dT_ he]
 simp only [Bool.true_and]
 obtain ⟨C, hC⟩ : ∃ C, C = chL l := ⟨_, rfl⟩
 rw [<- hC] at hnum ⊢
 refine e_opN v_pickF .nil ?_; refine e_condF ?_
 refine e_mkF txt fun g => ?_
 rw [<- wMap_nil]
 refine e_new1 fun g => ?_; (((refine' e_stN ?hp ?ho ?_); (case hp => (repeat constructor)); (case ho => repeat constructor))); refine e_opN v_len .nil ?_
 rename Nat => gw
 refine e_slfacts (by (repeat constructor) : Pick _ (Sl 2 67 ra rc C.length (C.flatMap pChoice)) _) fun _ _ _ hsl => ?_
 refine e_loop1 (fun m y => ex (fun i : Nat => all [pu (m + i = C.length /\ y = .int .i64 (i : Int)), MapFn g txt (wMap (C.take i))]) :: Sl 2 67 ra rc C.length (C.flatMap pChoice) :: pt gw (.cells #[.map (some g)] 65) :: A :: F) C.length ?_ ?_
 ·refine .ex 0 (.all ?_)
  (try simp only [ca_, na_, -eq_self])
  refine .pu ⟨rfl, rfl⟩ ?_
  (repeat (first | exact .refl | exact .nil | (apply Imp.pick; (focus ((repeat constructor); done))) | refine .drop ?_))
 intro m ds y
 refine e_ex Pick.here fun i => e_all Pick.here ?_
 (try simp only [ca_, na_, -eq_self])
 refine e_pu Pick.here fun hi => ?_
 obtain ⟨hmi, rfl⟩ := hi
 refine e_ask v_lss .nil (fun h => ?_) (fun h => ?_)
 ·have hin : i < C.length := by omega
  obtain ⟨ga, rfl⟩ := hsl (by omega)
  have hta := List.take_succ_eq_append_getElem hin
  refine e_condT ?_
  refine e_opN (v_ia i rfl hin) .nil ?_
  refine e_opN (ld_choice hin rfl) (.pick (by repeat constructor) .nil) ?_
  obtain ⟨x, hx⟩ : ∃ x, x = C[i] := ⟨_, rfl⟩
  rw [<- hx] at hta ⊢
  obtain ⟨xn, xq⟩ := x
  unfold vChoice
  (try dsimp only)
  refine e_newA fun g => ?_; (((refine' e_stAgg ?hp ?hn ?hv ?h1 ?_); (case hp => (repeat constructor)); (case hn => rfl); (case hv => rfl); (case h1 => (intro u hu; simp at hu; rcases hu with rfl | rfl <;> rfl)))); refine e_opN v_fa0 .nil ?_; (((refine' e_opN (v_ldN ?hc) ?hi ?_); (case hi => exact .pick (by repeat constructor) .nil); (case hc => repeat constructor)))
  rename Nat => b9
  refine e_cut1 (fun z => pu (z = txt (wnm (xn, xq))) :: MapFn g txt (wMap (C.take i)) :: Sl 2 67 (some ⟨ga, 0, none⟩) rc C.length (C.flatMap pChoice) :: pt gw (.cells #[.map (some g)] 65) :: pt b9 (.cells #[txt xn, .int .i64 xq] 67) :: A :: F) ?_ ?_
  rotate_left
  ·refine e_opN (v_streq (m := kXGz)) .nil ?_
   by_cases hg : xn = kXGz
   ·rw [dT_ hg]
    refine e_condT ?_
    refine e_sat (.pu (by unfold wnm; rw [if_pos hg]; rfl) ?_)
    (repeat (first | exact .refl | exact .nil | (apply Imp.pick; (focus ((repeat constructor); done))) | refine .drop ?_))
   ·rw [dF_ hg]
    refine e_condF ?_
    refine e_sat (.pu (by unfold wnm; rw [if_neg hg]) ?_)
    (repeat (first | exact .refl | exact .nil | (apply Imp.pick; (focus ((repeat constructor); done))) | refine .drop ?_))
  intro ds2 z
  refine e_pu .here fun hz => ?_
  subst hz
  (((refine' e_opN (v_ldN ?hc) ?hi ?_); (case hi => exact .pick (by repeat constructor) .nil); (case hc => repeat constructor)))
  refine e_lookFOk (keyS Tryz.underlying9) (by repeat constructor) ?_
  refine e_opN (v_ext (v := _) rfl) .nil ?_
  refine e_opN (v_ext (v := .bool (wMap (C.take i) (wnm (xn, xq))).isSome) rfl) .nil ?_
  cases hw : (wMap (C.take i) (wnm (xn, xq))).isSome with
  | true =>
   refine e_opN v_notT .nil ?_; refine e_condF ?_; (refine e_opN (v_add (by omega) (by omega)) .nil ?_)
   (try refine e_opN (v_add (by omega) (by omega)) .nil ?_)
   refine e_next1 (m - 1) (by omega) (.ex (i + 1) (.all ?_))
   (try simp only [ca_, na_, -eq_self])
   rw [hta, wMap_old hw]
   refine .pu ⟨by omega, by norm_cast⟩ ?_
   (repeat (first | exact .refl | exact .nil | (apply Imp.pick; (focus ((repeat constructor); done))) | refine .drop ?_))
  | false =>
   refine e_opN v_notF .nil ?_; refine e_condT ?_; (((refine' e_opN (v_ldN ?hc) ?hi ?_); (case hi => exact .pick (by repeat constructor) .nil); (case hc => repeat constructor))); refine e_opN v_fa0 .nil ?_; (((refine' e_opN (v_ldN ?hc) ?hi ?_); (case hi => exact .pick (by repeat constructor) .nil); (case hc => repeat constructor)))
   refine e_setF (keyS Tryz.underlying9) (by repeat constructor) ?_
   rw [<- wMap_new (c := (xn, xq)) hw, <- hta]
   refine e_opN (v_add (by omega) (by omega)) .nil ?_
   refine e_next1 (m - 1) (by omega) (.ex (i + 1) (.all ?_))
   (try simp only [ca_, na_, -eq_self])
   refine .pu ⟨by omega, by norm_cast⟩ ?_
   (repeat (first | exact .refl | exact .nil | (apply Imp.pick; (focus ((repeat constructor); done))) | refine .drop ?_))
 ·have : i = C.length := by omega
  subst this
  rw [List.take_length]
  refine e_condF ?_
  refine e_opN v_mkF .nil ?_
  refine e_callC (cap := [.pointer (some ⟨gw, 0, none⟩)]) (choose1 (n := kGz) (o := 0) (cs := C)) (by (repeat (first | exact Picks.nil | (apply Picks.cons; (focus repeat constructor))))) fun _ => ?_
  (try simp only [ca_, na_, -eq_self])
  refine e_opN v_gtr .nil ?_
  by_cases q1 : 0 < ofF C kGz 0
  rotate_left
  ·rw [dF_ q1]
   simp only [Bool.false_and, Bool.false_eq_true, if_false]
   refine e_gdF2 ?_; refine e_gdF2 ?_; refine e_gdF2 ?_; refine e_gdF2 ?_; refine e_opN v_pickF .nil ?_; refine e_condF ?_
   (first | refine e_ret (()) rfl ?_ | refine e_retT (()) ?_)
   (repeat (first | exact .refl | exact .nil | (apply Imp.pick; (focus ((repeat constructor); done))) | refine .drop ?_))
  rw [dT_ q1]
  simp only [Bool.true_and]
  refine e_gdT ?_; refine e_gdT ?_; refine e_gdT ?_
  refine e_callC (cap := [.pointer (some ⟨gw, 0, none⟩)]) (choose1 (n := kIdn) (o := 1) (cs := C)) (by (repeat (first | exact Picks.nil | (apply Picks.cons; (focus repeat constructor))))) fun _ => ?_
  (try simp only [ca_, na_, -eq_self])
  refine e_gdT ?_
  refine e_opN v_geq .nil ?_
  by_cases q2 : ofF C kIdn 1 <= ofF C kGz 0
  ·rw [dT_ q2]
   simp only [if_true]
   refine e_opN v_pickT .nil ?_; refine e_condT ?_
   (first | refine e_ret (()) rfl ?_ | refine e_retT (()) ?_)
   (repeat (first | exact .refl | exact .nil | (apply Imp.pick; (focus ((repeat constructor); done))) | refine .drop ?_))
  ·rw [dF_ q2]
   simp only [Bool.false_eq_true, if_false]
   refine e_opN v_pickT .nil ?_; refine e_condF ?_
   (first | refine e_ret (()) rfl ?_ | refine e_retT (()) ?_)
   (repeat (first | exact .refl | exact .nil | (apply Imp.pick; (focus ((repeat constructor); done))) | refine .drop ?_))
theorem hasPreS {W:World}{l p:List UInt8}(hl:l.length<=4611686018427387904)(hp:p.length<=4611686018427387904):Cn p_ 42 [txt l,txt p] W [] (fun _:Unit=> .bool (decide (l.take p.length=p))) (fun _=>[]):=by
 (refine Shp.cn (Sg.g_ Tryz.call42 Tryz.func42) fun F=>?_;simp only[ca_,na_])
 refine c_ (hasPreG hl hp) fun _=>?_
 refine rt_ () ?_
 exact im_
theorem dirC_num {X:List Fd}(hX:zF X<=1100000):(dirC X).length<=1500001:=by
 have h1:=(allF_len kCC hX).1
 have hn:=elems_num (q:=true) (e:=true) (l:=allF X kCC)
 unfold dirC dirsF listF
 split
 ·show(List.map _ _).length<=_
  rw[List.length_map];omega
 ·simp[lsF]
theorem first_len {X:List Fd}{n:List UInt8}(hX:zF X<=1100000):(firstF X n).1.length<=1100000:=by
 unfold firstF
 split
 ·simp
 ·rename_i v r hv
  obtain⟨f,hf,rfl⟩:=vals_mem (show v∈valsF X n by rw[hv];exact List.mem_cons_self)
  have:=z_mem hf
  show f.2.length<=_
  omega
theorem cutA_le (c:UInt8):∀l:List UInt8,(cutA c l).length<=l.length
 |[]=>Nat.le_refl _
 |x::r=>by
  have:=cutA_le c r
  unfold cutA
  split
  ·simp
  ·simp only[List.length_cons];omega
theorem fit {W : World} {st : Int} {X : List Fd} {D : List UInt8} {ax ad : Option Addr} {cx cd : Nat} {A : HP} (hA : RdF W A ax X) (hX : zF X <= 1100000) (hD : D.length <= 4611686018427387904) :
  Cn p_ 18 [.agg #[.int .i64 st, .slice ax X.length cx, .slice ad D.length cd]] W [A] (fun _ : Unit => .bool (fitB st X D)) (fun _ => [A]) := by
 have hok := z_ok (l := X) (by omega)
 have hfl := first_len (n := kCT) hX
 obtain ⟨ha1, ha2⟩ := allF_len kCC hX
 have hnum := dirC_num hX
 (refine Shp.cn (Sg.g_ Tryz.call18 Tryz.func18 (an := { cuts := [(13, [52])], loops := [(4, [25]), (20, [72])] })) fun F => ?_; simp only [ca_, na_])
 refine e_boxA fun b1 => ?_
 refine e_opN v_fa0 .nil ?_; (((refine' e_opN (v_ldN ?hc) ?hi ?_); (case hi => exact .pick (by repeat constructor) .nil); (case hc => repeat constructor)))
 refine e_opN v_neq .nil ?_
 by_cases h1 : st = 200
 rotate_left
 ·rw [dT_ h1]
  refine e_gdF1 ?_; refine e_gdF1 ?_; refine e_gdF1 ?_; refine e_gdF1 ?_; refine e_opN v_pickT .nil ?_; refine e_condT ?_
  refine e_ret () (by unfold fitB; rw [dF_ h1]; rfl) ?_
  (repeat (first | exact .refl | exact .nil | (apply Imp.pick; (focus ((repeat constructor); done))) | refine .drop ?_))
 rw [dF_ (fun e => e h1)]
 refine e_gdT ?_; refine e_opN v_fa0 .nil ?_; refine e_gdT ?_; (((refine' e_opN (v_ldN ?hc) ?hi ?_); (case hi => exact .pick (by repeat constructor) .nil); (case hc => repeat constructor))); refine e_gdT ?_; refine e_opN v_len .nil ?_; refine e_gdT ?_
 (try refine e_opN v_len .nil ?_)
 refine e_opN v_lss .nil ?_
 by_cases h2 : (D.length : Int) < 32
 ·rw [dT_ h2]
  refine e_opN v_pickF .nil ?_; refine e_condT ?_
  refine e_ret () (by unfold fitB; rw [dT_ h1, dF_ (show ¬ 32 <= D.length by omega)]; rfl) ?_
  (repeat (first | exact .refl | exact .nil | (apply Imp.pick; (focus ((repeat constructor); done))) | refine .drop ?_))
 rw [dF_ h2]
 have hfit : fitB st X D = ((!(firstF X kCE).2 && !(firstF X kCRg).2) && kndB (kindF X) && !(dirC X).any fun d => decide (d.name = kNoT)) := by
  unfold fitB
  rw [dT_ h1, dT_ (show 32 <= D.length by omega)]
  simp only [Bool.and_self, Bool.true_and]
 rw [hfit]
 refine e_opN v_pickF .nil ?_; refine e_condF ?_; refine e_opN v_rv .nil ?_
 refine e_loop1 (fun m y => pu (∃ i : Nat, m + i = 2 /\ y = .int .i64 (i : Int) /\ (1 <= i -> (firstF X kCE).2 = false) /\ (2 <= i -> (firstF X kCRg).2 = false)) :: A :: pt b1 (.cells #[.int .i64 st, .slice ax X.length cx, .slice ad D.length cd] 25) :: F) 2 ?_ ?_
 ·refine .pu ⟨0, rfl, rfl, by omega, by omega⟩ ?_
  (repeat (first | exact .refl | exact .nil | (apply Imp.pick; (focus ((repeat constructor); done))) | refine .drop ?_))
 intro m ds y
 refine e_pu .here fun hi => ?_
 obtain ⟨i, hmi, rfl, k1, k2⟩ := hi
 refine e_opN v_lss .nil ?_
 have hi2 : i = 0 \/ i = 1 \/ i = 2 := by omega
 rcases hi2 with rfl | rfl | rfl
 ·rw [dT_ (by decide)]
  refine e_condT ?_
  refine e_opN (v_ixA (v := txt kCE) 0 rfl (by decide) rfl) .nil ?_
  refine e_opN v_fa0 .nil ?_; (((refine' e_opN (v_ldN ?hc) ?hi ?_); (case hi => exact .pick (by repeat constructor) .nil); (case hc => repeat constructor)))
  refine e_call (first (n := kCE) hA hok (by decide)) (.cons (by repeat constructor) .nil) fun _ => ?_
  (try simp only [ca_, na_, -eq_self])
  (((refine' e_opN (v_extN ?hc) .nil ?_); (case hc => repeat constructor))); (((refine' e_opN (v_extN ?hc) .nil ?_); (case hc => repeat constructor)))
  cases hw : (firstF X kCE).2 with
  | true =>
   refine e_condT ?_
   (first | refine e_ret (()) rfl ?_ | refine e_retT (()) ?_)
   (repeat (first | exact .refl | exact .nil | (apply Imp.pick; (focus ((repeat constructor); done))) | refine .drop ?_))
  | false =>
   refine e_condF ?_; (refine e_opN (v_add (by omega) (by omega)) .nil ?_)
   refine e_next1 (m - 1) (by omega) (.pu ⟨1, by omega, rfl, fun _ => rfl, by omega⟩ ?_)
   (repeat (first | exact .refl | exact .nil | (apply Imp.pick; (focus ((repeat constructor); done))) | refine .drop ?_))
 ·rw [dT_ (by decide)]
  refine e_condT ?_
  refine e_opN (v_ixA (v := txt kCRg) 1 rfl (by decide) rfl) .nil ?_
  refine e_opN v_fa0 .nil ?_; (((refine' e_opN (v_ldN ?hc) ?hi ?_); (case hi => exact .pick (by repeat constructor) .nil); (case hc => repeat constructor)))
  refine e_call (first (n := kCRg) hA hok (by decide)) (.cons (by repeat constructor) .nil) fun _ => ?_
  (try simp only [ca_, na_, -eq_self])
  (((refine' e_opN (v_extN ?hc) .nil ?_); (case hc => repeat constructor))); (((refine' e_opN (v_extN ?hc) .nil ?_); (case hc => repeat constructor)))
  rw [k1 (by omega)]
  cases hw : (firstF X kCRg).2 with
  | true =>
   refine e_condT ?_
   (first | refine e_ret (()) rfl ?_ | refine e_retT (()) ?_)
   (repeat (first | exact .refl | exact .nil | (apply Imp.pick; (focus ((repeat constructor); done))) | refine .drop ?_))
  | false =>
   refine e_condF ?_; (refine e_opN (v_add (by omega) (by omega)) .nil ?_)
   refine e_next1 (m - 1) (by omega) (.pu ⟨2, by omega, rfl, fun _ => rfl, fun _ => rfl⟩ ?_)
   (repeat (first | exact .refl | exact .nil | (apply Imp.pick; (focus ((repeat constructor); done))) | refine .drop ?_))
 rw [dF_ (by decide)]
 rw [k1 (by omega), k2 (by omega)]
 simp only [Bool.not_false, Bool.and_self, Bool.true_and]
 refine e_condF ?_; refine e_opN v_fa0 .nil ?_; (((refine' e_opN (v_ldN ?hc) ?hi ?_); (case hi => exact .pick (by repeat constructor) .nil); (case hc => repeat constructor)))
 refine e_call (first (n := kCT) hA hok (by decide)) (.cons (by repeat constructor) .nil) fun _ => ?_
 (try simp only [ca_, na_, -eq_self])
 (((refine' e_opN (v_extN ?hc) .nil ?_); (case hc => repeat constructor))); (((refine' e_opN (v_extN ?hc) .nil ?_); (case hc => repeat constructor)))
 have hcl := cutA_le 59 (firstF X kCT).1
 have htl := trim_len (cutA 59 (firstF X kCT).1)
 refine e_call (cut_ (l := (firstF X kCT).1) (c := 59) (by omega)) .nil fun _ => ?_
 (try simp only [ca_, na_, -eq_self])
 (((refine' e_opN (v_extN ?hc) .nil ?_); (case hc => repeat constructor))); (((refine' e_opN (v_extN ?hc) .nil ?_); (case hc => repeat constructor))); (((refine' e_opN (v_extN ?hc) .nil ?_); (case hc => repeat constructor)))
 refine e_call (trim (l := cutA 59 (firstF X kCT).1) (by omega)) .nil fun _ => ?_
 (try simp only [ca_, na_, -eq_self])
 refine e_call (lower (l := trimB (cutA 59 (firstF X kCT).1)) (by omega)) .nil fun _ => ?_
 (try simp only [ca_, na_, -eq_self])
 rw [show lowF (trimB (cutA 59 (firstF X kCT).1)) = kindF X from rfl]
 have hkl : (kindF X).length <= 1100000 := by
  show (lowF (trimB (cutA 59 (firstF X kCT).1))).length <= _
  unfold lowF
  rw [List.length_map]
  omega
 obtain ⟨kk, hkk⟩ : ∃ kk, kk = kindF X := ⟨_, rfl⟩
 rw [<- hkk] at hkl ⊢
 refine e_cut1 (fun z => pu (z = .bool (kndB kk)) :: A :: pt b1 (.cells #[.int .i64 st, .slice ax X.length cx, .slice ad D.length cd] 25) :: F) ?_ ?_
 rotate_left
 ·refine e_call (hasPreS (l := kk) (p := kText) (by omega) (by decide)) .nil fun _ => ?_
  (try simp only [ca_, na_, -eq_self])
  rw [show kText.length = 5 from rfl]
  by_cases p1 : kk.take 5 = kText
  ·rw [dT_ p1]
   refine e_condT ?_
   refine e_sat (.pu (by unfold kndB; rw [dT_ p1]; rfl) ?_)
   (repeat (first | exact .refl | exact .nil | (apply Imp.pick; (focus ((repeat constructor); done))) | refine .drop ?_))
  rw [dF_ p1]
  refine e_condF ?_
  refine e_opN (v_streq (m := kJson)) .nil ?_
  by_cases p2 : kk = kJson
  ·rw [dT_ p2]
   refine e_condT ?_
   refine e_sat (.pu (by unfold kndB; rw [dT_ p2, Bool.or_true]; rfl) ?_)
   (repeat (first | exact .refl | exact .nil | (apply Imp.pick; (focus ((repeat constructor); done))) | refine .drop ?_))
  rw [dF_ p2]
  refine e_condF ?_
  refine e_opN (v_streq (m := kSvg)) .nil ?_
  refine e_sat (.pu (by unfold kndB; rw [dF_ p1, dF_ p2]; rfl) ?_)
  (repeat (first | exact .refl | exact .nil | (apply Imp.pick; (focus ((repeat constructor); done))) | refine .drop ?_))
 intro ds2 z
 refine e_pu .here fun hz => ?_
 subst hz
 cases hkn : kndB kk with
 | false =>
  simp only [Bool.false_and]
  refine e_condF ?_
  (first | refine e_ret (()) rfl ?_ | refine e_retT (()) ?_)
  (repeat (first | exact .refl | exact .nil | (apply Imp.pick; (focus ((repeat constructor); done))) | refine .drop ?_))
 | true =>
 simp only [Bool.true_and]
 refine e_condT ?_; refine e_opN v_fa0 .nil ?_; (((refine' e_opN (v_ldN ?hc) ?hi ?_); (case hi => exact .pick (by repeat constructor) .nil); (case hc => repeat constructor)))
 refine e_call (call (n := kCC) hA hX (by decide)) (.cons (by repeat constructor) .nil) fun _ => ?_
 (try simp only [ca_, na_, -eq_self])
 (((refine' e_opN (v_extN ?hc) .nil ?_); (case hc => repeat constructor))); (((refine' e_opN (v_extN ?hc) .nil ?_); (case hc => repeat constructor)))
 refine e_call (directives (l := allF X kCC) (by omega)) .nil fun r => ?_
 obtain ⟨ra, rc⟩ := r
 (try simp only [ca_, na_, -eq_self])
 (try dsimp only)
 (((refine' e_opN (v_extN ?hc) .nil ?_); (case hc => repeat constructor))); (((refine' e_opN (v_extN ?hc) .nil ?_); (case hc => repeat constructor))); refine e_opN v_len .nil ?_
 rw [show (lsF (dirsF (allF X kCC))).1 = dirC X from rfl]
 obtain ⟨C, hC⟩ : ∃ C, C = dirC X := ⟨_, rfl⟩
 rw [<- hC] at hnum ⊢
 (try refine e_opN v_len .nil ?_)
 refine e_slfacts (by (repeat constructor) : Pick _ (Sl 3 78 ra rc C.length (C.flatMap pDir)) _) fun _ _ _ hsl => ?_
 refine e_loop1 (fun m y => pu (∃ i : Nat, m + i = C.length /\ y = .int .i64 (i : Int) /\ (C.take i).any (fun d => decide (d.name = kNoT)) = false) :: Sl 3 78 ra rc C.length (C.flatMap pDir) :: A :: F) C.length ?_ ?_
 ·refine .pu ⟨0, rfl, rfl, rfl⟩ ?_
  (repeat (first | exact .refl | exact .nil | (apply Imp.pick; (focus ((repeat constructor); done))) | refine .drop ?_))
 intro m2 ds3 y2
 refine e_pu .here fun hi => ?_
 obtain ⟨i, hmi2, rfl, hno⟩ := hi
 refine e_ask v_lss .nil (fun h => ?_) (fun h => ?_)
 ·have hin : i < C.length := by omega
  obtain ⟨ga, rfl⟩ := hsl (by omega)
  have hta := List.take_succ_eq_append_getElem hin
  refine e_condT ?_
  refine e_opN (v_ia i rfl hin) .nil ?_
  refine e_opN (ld_dir hin rfl) (.pick (by repeat constructor) .nil) ?_
  have hmem := List.getElem_mem hin
  obtain ⟨x, hx⟩ : ∃ x, x = C[i] := ⟨_, rfl⟩
  rw [<- hx] at hta hmem ⊢
  obtain ⟨xn, xv, xh⟩ := x
  unfold vDir
  refine e_newA fun g => ?_; (((refine' e_stAgg ?hp ?hn ?hv ?h1 ?_); (case hp => (repeat constructor)); (case hn => rfl); (case hv => rfl); (case h1 => (intro u hu; simp at hu; rcases hu with rfl | rfl | rfl <;> rfl)))); refine e_opN v_fa0 .nil ?_; (((refine' e_opN (v_ldN ?hc) ?hi ?_); (case hi => exact .pick (by repeat constructor) .nil); (case hc => repeat constructor)))
  refine e_opN (v_streq (m := kNoT)) .nil ?_
  by_cases hg : xn = kNoT
  ·rw [dT_ hg]
   refine e_condT ?_
   refine e_ret () (by rw [List.any_eq_true.2 ⟨_, hmem, dT_ hg⟩]; rfl) ?_
   (repeat (first | exact .refl | exact .nil | (apply Imp.pick; (focus ((repeat constructor); done))) | refine .drop ?_))
  ·rw [dF_ hg]
   refine e_condF ?_; (refine e_opN (v_add (by omega) (by omega)) .nil ?_)
   (try refine e_opN (v_add (by omega) (by omega)) .nil ?_)
   refine e_next1 (m2 - 1) (by omega) (.pu ⟨i + 1, by omega, by norm_cast, by rw [hta, List.any_append, hno]; simp [hg]⟩ ?_)
   (repeat (first | exact .refl | exact .nil | (apply Imp.pick; (focus ((repeat constructor); done))) | refine .drop ?_))
 ·have : i = C.length := by omega
  subst this
  rw [List.take_length] at hno
  rw [hno]
  refine e_condF ?_
  (first | refine e_ret (()) rfl ?_ | refine e_retT (()) ?_)
  (repeat (first | exact .refl | exact .nil | (apply Imp.pick; (focus ((repeat constructor); done))) | refine .drop ?_))
theorem listed {W:World}{X:List Fd}{a:Option Addr}{c:Nat}:Cn p_ 49 [.slice a X.length c] W [] (fun b:Nat=> .func (.func 78) #[] [.pointer (some ⟨b,0,none⟩)].toArray) (fun b=>[pt b (.cells #[.slice a X.length c] 22)]):=by
 (refine Shp.cn (Sg.g_ Tryz.call49 Tryz.func49) fun F=>?_;simp only[ca_,na_])
 refine e_box1 fun b=>?_
 refine o_ v_mkF (rt_ b ?_)
 exact .refl
def ofs (V:List (List UInt8))(i:Nat):Nat:=((V.take i).flatMap (spl 44)).length
theorem ofs_succ {V:List (List UInt8)}{i:Nat}(h:i<V.length):ofs V (i+1)=ofs V i+(spl 44 V[i]).length:=by
 unfold ofs
 rw[List.take_succ_eq_append_getElem h,List.flatMap_append,List.length_append]
 simp
theorem ofs_all (V:List (List UInt8)):ofs V V.length=(V.flatMap (spl 44)).length:=by unfold ofs;rw[List.take_length]
theorem lis_get {V:List (List UInt8)}{i j:Nat}(h:i<V.length)(hj:j<(spl 44 V[i]).length):(V.flatMap (spl 44))[ofs V i+j]? =some (spl 44 V[i])[j]:=by
 have e:V=V.take i++V[i]::V.drop (i+1):=by
  rw[<- List.drop_eq_getElem_cons h,List.take_append_drop]
 have e2:V.flatMap (spl 44)=(V.take i).flatMap (spl 44)++(spl 44 V[i]++(V.drop (i+1)).flatMap (spl 44)):=by
  conv=>lhs;rw[e]
  rw[List.flatMap_append,List.flatMap_cons]
 rw[e2,List.getElem?_append_right (by unfold ofs;omega),show ofs V i+j-((V.take i).flatMap (spl 44)).length=j by unfold ofs;omega,List.getElem?_append_left hj,List.getElem?_eq_getElem hj]
def lisV (X:List Fd):List (List Value):=(lisL X).map fun w=>[txt w]
theorem lisV_len (X:List Fd):(lisV X).length=(lisL X).length:=by unfold lisV;rw[List.length_map]
theorem listed1 {W : World} {X : List Fd} {a : Option Addr} {c bl l : Nat} {A : HP} {G : Nat -> HP} {Gx T T' : HP} (hA : RdF W A a X) (hX : zF X <= 2097152)
  (hy : YieldC p_ l (lisV X) (fun k => all [T, all [pt bl (.cells #[.slice a X.length c] 22), A, G k]]) (all [T', Gx]) W) :
  Cn p_ 78 [yv l, .pointer (some ⟨bl, 0, none⟩)] W [all [T, all [pt bl (.cells #[.slice a X.length c] 22), A, G 0]]] (fun _ : Bool => .tuple #[]) (fun b => [if b then all [T, all [pt bl (.cells #[.slice a X.length c] 22), A, G (lisL X).length]] else all [T', Gx]]) := by
 have hok := z_ok (l := X) (by omega)
 have hzl := z_len X
 have hvl := vals_len X kVary
 have hz2 := zL_vals X kVary
 (refine Shp.cn (Sg.g_ Tryz.call78 Tryz.func78 (an := { loops := [(1, [10]), (4, [17])] })) fun F => ?_; simp only [ca_, na_])
 refine e_all .here ?_
 (try simp only [ca_, na_, -eq_self])
 refine e_all (.there .here) ?_
 (try simp only [ca_, na_, -eq_self])
 (((refine' e_opN (v_ldN ?hc) ?hi ?_); (case hi => exact .pick (by repeat constructor) .nil); (case hc => repeat constructor)))
 refine e_call (values (n := kVary) hA hok (by decide)) (.cons (by repeat constructor) .nil) fun r => ?_
 obtain ⟨va, vc⟩ := r
 (try simp only [ca_, na_, -eq_self])
 (try dsimp only)
 unfold lisL at *
 obtain ⟨V, hV⟩ : ∃ V, V = valsF X kVary := ⟨_, rfl⟩
 have hyV : ∀ k, (lisV X)[k]? = ((V.flatMap (spl 44))[k]?).map fun w => [txt w] := fun k => by rw [hV]; unfold lisV lisL; rw [List.getElem?_map]
 rw [<- hV] at hvl hz2 ⊢
 refine e_opN v_len .nil ?_
 refine e_slfacts (by (repeat constructor) : Pick _ (Sl 1 9 va vc V.length (V.map txt)) _) fun _ _ _ hs => ?_
 have hN : RdB W (Sl 1 9 va vc V.length (V.map txt)) va V.length (V.map txt) := rd_sl (by rw [List.length_map]) hs
 refine e_loop1 (fun m y => [ex fun i : Nat => all [pu (m + i = V.length /\ y = .int .i64 (i : Int)), all [T, all [pt bl (.cells #[.slice a X.length c] 22), A, G (ofs V i)]]], Sl 1 9 va vc V.length (V.map txt)] ++ F) V.length ?_ ?_
 ·refine .ex 0 (.all ?_)
  (try simp only [ca_, na_, -eq_self])
  refine .pu ⟨by omega, rfl⟩ (.all ?_)
  (try simp only [ca_, na_, -eq_self])
  refine .pick (by repeat constructor) (.all ?_)
  (try simp only [ca_, na_, -eq_self])
  (repeat (first | exact .refl | exact .nil | (apply Imp.pick; (focus ((repeat constructor); done))) | refine .drop ?_))
 intro m ds y
 (try simp only [ca_, na_, -eq_self])
 refine e_ex Pick.here fun i => e_all Pick.here ?_
 (try simp only [ca_, na_, -eq_self])
 refine e_pu Pick.here fun hi => ?_
 obtain ⟨hmi, rfl⟩ := hi
 refine e_ask v_lss .nil (fun h => ?_) (fun h => ?_)
 ·have hin : i < V.length := by omega
  have hzm := zL_mem (List.getElem_mem hin)
  obtain ⟨ng, rfl⟩ := hs (by omega)
  refine e_condT ?_
  refine e_opN (v_ia1 i rfl hin) .nil ?_
  refine e_opN (txt_at hN hin) (.pick (by repeat constructor) .nil) ?_
  refine e_call (split (l := V[i]) (c := 44) (by omega)) .nil fun r => ?_
  obtain ⟨wa, wc⟩ := r
  (try simp only [ca_, na_, -eq_self])
  (try dsimp only)
  have hPl := (spl_num 44 _ V[i] (Nat.le_refl _)).1
  obtain ⟨P, hP⟩ : ∃ P, P = spl 44 V[i] := ⟨_, rfl⟩
  have hosu := ofs_succ hin
  have hget : ∀ j (hj : j < P.length), (lisV X)[ofs V i + j]? = some [txt P[j]] := fun j hj => by
   subst hP
   rw [hyV, lis_get hin hj]
   rfl
  rw [<- hP] at hosu hPl ⊢
  refine e_opN v_len .nil ?_
  refine e_slfacts (by (repeat constructor) : Pick _ (Sl 1 9 wa wc P.length (P.map txt)) _) fun _ _ _ hs2 => ?_
  have hN2 : RdB W (Sl 1 9 wa wc P.length (P.map txt)) wa P.length (P.map txt) := rd_sl (by rw [List.length_map]) hs2
  refine e_loop1 (fun m y => [ex fun j : Nat => all [pu (m + j = P.length /\ y = .int .i64 (j : Int)), all [T, all [pt bl (.cells #[.slice a X.length c] 22), A, G (ofs V i + j)]]], Sl 1 9 wa wc P.length (P.map txt), Sl 1 9 (some ⟨ng, 0, none⟩) vc V.length (V.map txt)] ++ F) P.length ?_ ?_
  ·refine .ex 0 (.all ?_)
   (try simp only [ca_, na_, -eq_self])
   refine .pu ⟨by omega, rfl⟩ ?_
   (repeat (first | exact .refl | exact .nil | (apply Imp.pick; (focus ((repeat constructor); done))) | refine .drop ?_))
  intro m2 ds2 y2
  (try simp only [ca_, na_, -eq_self])
  refine e_ex Pick.here fun j => e_all Pick.here ?_
  (try simp only [ca_, na_, -eq_self])
  refine e_pu Pick.here fun hi => ?_
  obtain ⟨hmj, rfl⟩ := hi
  refine e_ask v_lss .nil (fun h2 => ?_) (fun h2 => ?_)
  ·have hjn : j < P.length := by omega
   obtain ⟨pg, rfl⟩ := hs2 (by omega)
   refine e_condT ?_
   refine e_opN (v_ia1 j rfl hjn) .nil ?_
   refine e_opN (txt_at hN2 hjn) (.pick (by repeat constructor) .nil) ?_
   refine e_yield hy (ofs V i + j) (hget j hjn) .here ?_ ?_
   ·refine e_opN v_notT .nil ?_
    refine e_condF ?_; (refine e_opN (v_add (by omega) (by omega)) .nil ?_)
    (try refine e_opN (v_add (by omega) (by omega)) .nil ?_)
    refine e_next1 (m2 - 1) (by omega) (.ex (j + 1) (.all ?_))
    (try simp only [ca_, na_, -eq_self])
    refine .pu ⟨by omega, by norm_cast⟩ ?_
    rw [Nat.add_assoc]
    (repeat (first | exact .refl | exact .nil | (apply Imp.pick; (focus ((repeat constructor); done))) | refine .drop ?_))
   ·refine e_opN v_notF .nil ?_
    refine e_condT ?_
    (first | refine e_ret (false) rfl ?_ | refine e_retT (false) ?_)
    (repeat (first | exact .refl | exact .nil | (apply Imp.pick; (focus ((repeat constructor); done))) | refine .drop ?_))
  ·have : j = P.length := by omega
   subst this
   refine e_condF ?_
   refine e_opN (v_add (by omega) (by omega)) .nil ?_
   refine e_next1 (m - 1) (by omega) (.ex (i + 1) (.all ?_))
   (try simp only [ca_, na_, -eq_self])
   rw [hosu]
   refine .pu ⟨by omega, by norm_cast⟩ ?_
   (repeat (first | exact .refl | exact .nil | (apply Imp.pick; (focus ((repeat constructor); done))) | refine .drop ?_))
 ·have : i = V.length := by omega
  subst this
  rw [ofs_all]
  refine e_condF ?_
  (first | refine e_ret (true) rfl ?_ | refine e_retT (true) ?_)
  (repeat (first | exact .refl | exact .nil | (apply Imp.pick; (focus ((repeat constructor); done))) | refine .drop ?_))
theorem lis_len {X:List Fd}(hX:zF X<=2097152):∀w∈lisL X,w.length<=2097152:=fun w hw=>by
 obtain⟨v,hv,h⟩:=List.mem_flatMap.1 hw
 have h1:=(spl_num 44 _ v (Nat.le_refl _)).2 w h
 have h2:=zL_mem hv
 have h3:=zL_vals X kVary
 omega
theorem vary {W:World}{o:Nat}{st:Int}{X:List Fd}{a:Option Addr}{c:Nat}{bd:Value}[OC bd](hX:zF X<=1100000):
  Cn p_ 30 [.pointer (some ⟨o,0,none⟩)] W [pt o (.cells #[.int .i64 st,.slice a X.length c,bd] 25),Sl 2 52 a c X.length (X.flatMap pFd)] (fun _:Option Addr × Nat=> .bool true)
   (fun q=>[pt o (.cells #[.int .i64 st,.slice q.1 (varyX X).length q.2,bd] 25),Sl 2 52 q.1 q.2 (varyX X).length ((varyX X).flatMap pFd)]):=by
 have hzl:=z_len X
 have hlw:=lis_len (X:=X) (by omega)
 (refine S.coding_vary_s.cn fun F=>?_;unfold S.coding_vary;simp only[ca_,na_])
 refine e_new1 fun b2=>?_
 refine e_slfacts (by(repeat constructor):Pick _ (Sl 2 52 a c X.length (X.flatMap pFd)) _) fun _ _ _ hs=>?_
 refine o_ v_nil (o_ v_fa0 (ln_ ?_))
 refine e_call listed .nil fun bl=>?_
 refine nr_ ?_
 refine e_rf (f:=78) (cap:=[.pointer (some ⟨bl,0,none⟩)]) (lisV X)
  (fun k=>all [pt bl (.cells #[.slice a X.length c] 22),Sl 2 52 a c X.length (X.flatMap pFd),all [pu (((lisL X).take k).any lisW=false),pt b2 (.cells #[.bool false] 4),pt o (.cells #[.int .i64 st,.slice a X.length c,bd] 25),all F]])
  (all [pu (lisB X=true),Sl 2 52 a c X.length (X.flatMap pFd),pt b2 (.cells #[.bool true] 4),pt o (.cells #[.int .i64 st,.slice a X.length c,bd] 25),all F]) rfl ?_ ?_ ?_ ?_ ?_ ?_
 ·intro x hx
  obtain⟨k,_,rfl⟩:=List.mem_map.1 hx
  rfl
 ·refine .all ?_
  refine nr_ ?_
  refine .pick (by repeat constructor) (.pick (by repeat constructor) (.all ?_))
  refine nr_ ?_
  refine .pu rfl ?_
  refine .pick (by repeat constructor) (.pick (by repeat constructor) (.all ?_))
  rw[List.append_nil]
  exact .refl
 ·intro l T T' hy
  rw[lisV_len]
  exact listed1 (rdF_any hs) (by omega) hy
 ·intro k hk F2 T0 T1 B N J hB hN hJ
  rw[lisV_len]at hk
  obtain⟨w,hw⟩:∃w,w=(lisL X)[k]:=⟨_,rfl⟩
  have e0:∀h,(lisV X)[k]'h=[txt w]:=fun h=>by rw[hw];simp[lisV]
  have hmem:w∈lisL X:=by rw[hw];exact List.getElem_mem hk
  have hwl:=hlw w hmem
  have hta:=List.take_succ_eq_append_getElem hk
  rw[<- hw]at hta
  rw[e0]
  simp only[vapp,List.headD_cons,List.tail_cons]
  refine e_all (.there .here) ?_
  refine nr_ ?_
  refine e_all (.there (.there .here)) ?_
  refine nr_ ?_
  refine e_pu .here fun hp=>?_
  refine hB _ _ _ (by repeat constructor) ?_
  have yes:lisW w=true->lisB X=true:=fun h=>List.any_eq_true.2 ⟨w,hmem,h⟩
  refine o_ (v_streq (m:=kStar)) ?_
  by_cases h1:w=kStar
  ·rw[dT_ h1]
   refine e_gdF1 (e_gdF1 (o_ v_pickT (e_condT (sn_ ?_))))
   refine hJ _ ?_
   refine .pick (by repeat constructor) (.all ?_)
   refine nr_ ?_
   refine .pu (yes (by unfold lisW;rw[dT_ h1];rfl)) ?_
   exact im_
  rw[dF_ h1]
  refine e_gdT (e_gdT (e_call (equal (a:=w) (b:=kAE) (by omega) (by decide)) .nil fun _=>?_))
  refine nr_ ?_
  cases h2:eqlF w kAE with
  |true=>
   refine o_ v_pickF (e_condT (sn_ ?_))
   refine hJ _ ?_
   refine .pick (by repeat constructor) (.all ?_)
   refine nr_ ?_
   refine .pu (yes (by unfold lisW;rw[h2,Bool.or_true])) ?_
   exact im_
  |false=>
   refine o_ v_pickF (e_condF (hN _ ?_))
   refine .pick (by repeat constructor) (.all ?_)
   refine nr_ ?_
   refine .pick (by repeat constructor) (.pick (by repeat constructor) (.all ?_))
   refine nr_ ?_
   refine .pu (by rw[hta,List.any_append,hp];simp[lisW,h1,h2]) ?_
   exact im_
 ·intro d
  refine e_all (.there .here) ?_
  refine nr_ ?_
  refine e_all (.there (.there .here)) ?_
  refine nr_ ?_
  refine e_pu .here fun hp=>?_
  rw[lisV_len,List.take_length]at hp
  have hv:varyX X=X++[(kVary,kAE)]:=by
   unfold varyX lisB
   rw[hp]
   rfl
  rw[hv]
  refine o_ v_nil (o_ v_fa0 (ln_ ?_));refine o_ v_rv ?_
  refine e_bslS (n:=1) (vs:=[vFd (kVary,kAE)]) rfl (by decide) rfl (by intro v hv;rw[List.mem_singleton.1 hv];rfl) (by decide) fun gb=>?_
  refine e_app (m:=1) (news:=pFd (kVary,kAE)) (by repeat constructor) (src_pt (s:=2) (e':=52) (by kernel_rfl) .here (by rfl) (by intro u hu;simp[vFd,Value.cells]at hu;rcases hu with rfl|rfl <;> rfl)) (by omega) (by omega) fun a' c'=>?_
  rw[show X.length+1=(X++[(kVary,kAE)]).length by simp,show X.flatMap pFd++pFd (kVary,kAE)=(X++[(kVary,kAE)]).flatMap pFd by simp]
  refine o_ v_nil (o_ v_fa0 (sn_ ?_));refine sn_ ?_
  refine e_tk (by repeat constructor) ?_
  (((refine' e_stS (v_res1 ?hc) ?hi ?_);(case hi=>exact im_);(case hc=>repeat constructor)))
  refine e_rest (M:=[pt o (.cells #[.int .i64 st,.slice a' (X++[(kVary,kAE)]).length c',bd] 25),Sl 2 52 a' c' (X++[(kVary,kAE)]).length ((X++[(kVary,kAE)]).flatMap pFd)]) (F:=F) im_ ?_
  refine e_ret (a',c') rfl ?_
  exact im_
 ·intro d
  refine e_all (.there .here) ?_
  refine nr_ ?_
  refine e_pu .here fun hp=>?_
  have hv:varyX X=X:=by unfold varyX;rw[hp];rfl
  rw[hv]
  refine e_tk (by repeat constructor) ?_
  (((refine' e_stS (v_res1 ?hc) ?hi ?_);(case hi=>exact im_);(case hc=>repeat constructor)))
  refine e_rest (M:=[pt o (.cells #[.int .i64 st,.slice a X.length c,bd] 25),Sl 2 52 a c X.length (X.flatMap pFd)]) (F:=F) im_ ?_
  refine e_ret (a,c) rfl ?_
  exact im_
end Go.Proofs.YtndojgomlkpeaaaGreatDoor.FD
namespace Go.Proofs.YtndojgomlkpeaaaGreatDoor.Sl
open Go Go.RowKit Sh
variable {P:Program} {W:World} {L L':List HP} {Kp:PK} {k:Value->WP}
variable {κ:Type} [DecidableEq κ] {enc:κ->Value} {t kt:TypeId}
def MapSt (g:Nat)(enc:κ->Value)(m:List (κ × Value))(i c0:Nat):HP:=fun _ h=>∃es c,h g=some (.map es c)/\Ents enc es c m/\(es[i]?).map (·.born)=some c0
theorem mapSt_row {g:Nat}{m:List (κ × Value)}{i c0:Nat}{w:World}(H:sat W (MapSt g enc m i c0::L) w):∃es c,Ents enc es c m/\(es[i]?).map (·.born)=some c0/\sat W (pt g (.map es c)::L) w:=by
 obtain⟨f,⟨h1,h2,⟨es,c,ha,he,hi⟩,r⟩,b⟩:=H.heap
 exact⟨es,c,he,hi,H.base,f,⟨h1,h2,ha,r⟩,b⟩
theorem mapSt_back {g:Nat}{m:List (κ × Value)}{i c0:Nat}{w:World}{es:Array MapEntry}{c:Nat}(he:Ents enc es c m)(hi:(es[i]?).map (·.born)=some c0)(H:sat W (pt g (.map es c)::L) w):sat W (MapSt g enc m i c0::L) w:=by
 obtain⟨f,⟨h1,h2,ha,r⟩,b⟩:=H.heap
 exact⟨H.base,f,⟨h1,h2,⟨es,c,ha,he,hi⟩,r⟩,b⟩
theorem e_mapent {e:TypeId} {z:Value} {g:Nat} {m:List (κ × Value)} {q:κ} [ht:MapT P t kt e] [hz:ZeroT P e z] (K:KeyLaw P kt enc) (p:Pick L (MapIs g enc m) L')
  (h:∀i c0,(setM q ((getM q m).getD z) m)[i]? =some (q,(getM q m).getD z)->Ent W (MapSt g enc (setM q ((getM q m).getD z) m) i c0::L') (k (.tuple #[(getM q m).getD z,.int .i64 (c0:Int)]))):Ent W L (opN P (sMapEnt t (.map (some g)) (enc q)) Kp k):=fun w hw=>by
 obtain⟨es,c,he,hp⟩:=map_row (hw.pick p)
 have hg:=hp.pt_.1
 have hf:=findKey_run K q w he.kvs
 refine⟨?_⟩
 cases hq:fnd q m 0 with
 |none=>
  have e0:(getM q m).getD z=z:=by simp[getM,hq]
  rw[e0]at h
  have:(sMapEnt t (.map (some g)) (enc q)).run P w= .ok (.value (.tuple #[z,.int .i64 (c:Int)])) {w with heap:=w.heap.setIfInBounds g (.map (es.push {key:=enc q,val:=z,born:=c}) (c+1))}:=by
   simp[sMapEnt,Instr.mapEntry,run_underlying ht.ut,MapKept.run_getObj_map hg,K.check,hf,hq,hz.run,Result.andThen,MapKept.run_setObj_map _ hg,goInt]
  rw[this]
  have hl:=congrArg List.length he.kvs
  simp only[List.length_map,Array.length_toList]at hl
  rw[setM_none q z m 0 hq]at h
  refine h es.size c ?_ _ (mapSt_back he.push ?_ (hp.putObj _))
  ·rw[hl,List.getElem?_append_right (Nat.le_refl _),Nat.sub_self];rfl
  ·simp
 |some r=>
  obtain⟨i,u⟩:=r
  obtain⟨_,h2,h3,h4⟩:=setM_some q u m 0 i u hq
  rw[Nat.sub_zero]at h2 h3 h4
  have e0:(getM q m).getD z=u:=by simp[getM,hq]
  rw[e0]at h
  obtain⟨en,hen,e1,e2⟩:=kvs_get he.kvs h4
  have hk:(Instr.keyThatStays en.key (enc q)).run P w= .ok (enc q) w:=by
   rw[e1]
   unfold Instr.keyThatStays
   rw[if_pos (K.same q)];rfl
  have em:(es.modify i fun e=>{e with key:=enc q})=es.modify i fun e=>{e with key:=enc q,val:=u}:=by
   apply Array.ext_getElem?
   intro j
   rw[Array.getElem?_modify,Array.getElem?_modify]
   by_cases c:i=j
   ·subst c
    rw[if_pos rfl,if_pos rfl,hen]
    simp only[Option.map_some,Option.some.injEq]
    simp only at e2;rw[e2]
   ·rw[if_neg c,if_neg c]
  have:(sMapEnt t (.map (some g)) (enc q)).run P w= .ok (.value (.tuple #[u,.int .i64 (en.born:Int)])) {w with heap:=w.heap.setIfInBounds g (.map (es.modify i fun e=>{e with key:=enc q,val:=u}) c)}:=by
   rw[<- em]
   simp[sMapEnt,Instr.mapEntry,run_underlying ht.ut,MapKept.run_getObj_map hg,K.check,hf,hq,Result.andThen,hk,MapKept.run_setObj_map _ hg,goInt,hen]
  rw[this]
  have hset:setM q u m=m:=by
   rw[h3]
   apply List.ext_getElem?
   intro j
   rw[List.getElem?_set]
   split
   ·rename_i c;subst c
    have:=(List.getElem?_eq_some_iff.1 h4).2
    simp[h2,this]
   ·rfl
  have hput:=he.put (v:=u) h4
  rw[<- h3]at hput
  refine h i en.born ?_ _ (mapSt_back hput ?_ (hp.putObj _))
  ·rw[hset];exact h4
  ·rw[Array.getElem?_modify,if_pos rfl,hen];rfl
theorem e_entst {g:Nat}{m:List (κ × Value)}{q:κ}{u v:Value}{i c0:Nat}(hi:m[i]? =some (q,u))(p:Pick L (MapSt g enc m i c0) L')(h:Ent W (MapIs g enc (m.set i (q,v))::L') (k undef)):
  Ent W L (opN P (sEntSt t (.map (some g)) (.int .i64 (c0:Int)) v) Kp k):=fun w hw=>by
 obtain⟨es,c,he,hb,hp⟩:=mapSt_row (hw.pick p)
 have hg:=hp.pt_.1
 obtain⟨en,hen,e1,e2⟩:=kvs_get he.kvs hi
 rw[hen]at hb
 have hb:en.born=c0:=by simpa using hb
 have hf:es.findIdx? (fun e=>(e.born:Int)==(c0:Int))=some i:=by
  rw[Array.findIdx?_eq_some_iff_getElem]
  obtain⟨hlt,hgi⟩:=Array.getElem?_eq_some_iff.1 hen
  refine⟨hlt,by simp[hgi,hb],fun j hj=>?_⟩
  have hnd:=he.nodup
  rw[List.nodup_iff_pairwise_ne,List.pairwise_iff_getElem]at hnd
  have:=hnd j i (by simp;omega) (by simp;omega) hj
  simp only[List.getElem_map,Array.getElem_toList,hgi,hb]at this
  simp only[beq_iff_eq,Bool.not_eq_true]
  simp;omega
 refine⟨?_⟩
 have em:(es.modify i fun e=>{e with val:=v})=es.modify i fun e=>{e with key:=enc q,val:=v}:=by
  apply Array.ext_getElem?
  intro j
  rw[Array.getElem?_modify,Array.getElem?_modify]
  by_cases c:i=j
  ·subst c
   rw[if_pos rfl,if_pos rfl,hen]
   simp only[Option.map_some,Option.some.injEq]
   simp only at e1;rw[e1]
  ·rw[if_neg c,if_neg c]
 have:(sEntSt t (.map (some g)) (.int .i64 (c0:Int)) v).run P w= .ok .skip {w with heap:=w.heap.setIfInBounds g (.map (es.modify i fun e=>{e with key:=enc q,val:=v}) c)}:=by
  rw[<- em]
  simp[sEntSt,Instr.entryStore,MapKept.run_getObj_map hg,asInt,asIntOf,hf,Result.andThen,MapKept.run_setObj_map _ hg]
 rw[this]
 exact h _ (map_back (he.put hi) (hp.putObj _))
theorem set_setM {q:κ}{u v:Value}:∀ {m:List (κ × Value)} {i:Nat},(m.map (·.1)).Nodup->m[i]? =some (q,u)->m.set i (q,v)=setM q v m
 |[],i,_,h=>by simp at h
 |p::m,0,_,h=>by
  simp at h
  subst h
  simp[setM]
 |p::m,i+1,hn,h=>by
  rw[List.map_cons,List.nodup_cons]at hn
  simp only[List.getElem?_cons_succ]at h
  have hne:q≠p.1:=fun c=>hn.1 (by rw[<- c];exact List.mem_map.2 ⟨(q,u),List.mem_of_getElem? h,rfl⟩)
  rw[List.set_cons_succ,setM,if_neg hne,set_setM hn.2 h]
def MapFs (g:Nat)(enc:κ->Value)(f:κ->Option Value)(q:κ)(c0:Nat):HP:=ex fun x:List (κ × Value) × Nat × Value=>all [pu ((x.1.map (·.1)).Nodup/\(∀q',q'≠q->getM q' x.1=f q')/\x.1[x.2.1]? =some (q,x.2.2)),MapSt g enc x.1 x.2.1 c0]
theorem e_mapentF {e:TypeId} {z:Value} {g:Nat} {f:κ->Option Value} {q:κ} [ht:MapT P t kt e] [hz:ZeroT P e z] (K:KeyLaw P kt enc) (p:Pick L (MapFn g enc f) L')
  (h:∀c0:Nat,Ent W (MapFs g enc f q c0::L') (k (.tuple #[(f q).getD z,.int .i64 (c0:Int)]))):Ent W L (opN P (sMapEnt t (.map (some g)) (enc q)) Kp k):=
 e_mf p fun m h1 h2=>e_mapent K .here fun i c0 hi=>by
  rw[h2]at hi ⊢
  refine e_imp (.ex (setM q ((f q).getD z) m,i,(f q).getD z) (.all ?_)) (h c0)
  refine .pu ⟨(setM_keys q _ m h1).1,fun q' hq=>?_,hi⟩ .refl
  rw[getM_setM,if_neg hq,h2]
theorem e_entstF {g:Nat}{f:κ->Option Value}{q:κ}{v:Value}{c0:Nat}(p:Pick L (MapFs g enc f q c0) L')(h:Ent W (MapFn g enc (updM f q (some v))::L') (k undef)):
  Ent W L (opN P (sEntSt t (.map (some g)) (.int .i64 (c0:Int)) v) Kp k):=by
 refine e_ex p fun x=>e_all .here (e_pu .here fun hx=>?_)
 obtain⟨m,i,u⟩:=x
 obtain⟨h1,h2,h3⟩:=hx
 refine e_entst h3 .here ?_
 rw[set_setM h1 h3]
 refine e_imp (imp_mf .here (setM_keys q v m h1).1 (fun q'=>?_) .refl) h
 rw[getM_setM]
 unfold updM
 by_cases c:q'=q
 ·rw[if_pos c,if_pos c]
 ·rw[if_neg c,if_neg c];exact h2 q' c
end Go.Proofs.YtndojgomlkpeaaaGreatDoor.Sl
namespace Go.Proofs.YtndojgomlkpeaaaGreatDoor.IF
open Go Go.Proofs Go.RowKit Sh Sl T HM HF B M
abbrev K3:=UInt8 × UInt8 × UInt8
def enc3 (k:K3):Value:= .agg #[Sl.B k.1,Sl.B k.2.1,Sl.B k.2.2]
theorem size_of {t e:TypeId}{s b:Nat}(ht:SlT p_ t e s b)(w:World):(sizeOf e).run p_ w= .ok s w:=by
 obtain⟨i,z,h1,h2,h3,h4,h5⟩:=ht.info
 rw[sizeOf_run h1,h3]
theorem size_u8 (w:World):(sizeOf 5).run p_ w= .ok 1 w:=size_of (t:=23) inferInstance w
theorem int_u8 (a b:UInt8):((a.toNat:Int)==(b.toNat:Int))=decide (a=b):=by
 by_cases c:a=b
 ·subst c;simp
 ·have c2:(a.toNat:Int)≠(b.toNat:Int):=fun d=>c (UInt8.toNat_inj.1 (Int.ofNat.inj d))
  simp[c,c2]
theorem eq_u8i (a b:Int)(w:World):(Op.equalIn 9999 5 (.int .u8 a) (.int .u8 b)).run p_ w= .ok (a==b) w:=run_equalIn_int w 9998 5 .u8 .u8 a b (by kernel_rfl)
theorem eq_u8 (a b:UInt8)(w:World):(Op.equalIn 9999 5 (Sl.B a) (Sl.B b)).run p_ w= .ok (decide (a=b)) w:=(eq_u8i a.toNat b.toNat w).trans (congrArg (fun x=>Result.ok x w) (int_u8 a b))
theorem range3:List.range' 0 3=[0,1,2]:=rfl
theorem key3b:KeyLaw p_ 142 enc3 where
 check:=fun b k w=>by
  unfold enc3 Instr.checkKey
  simp only[Sem.run_bind,Tryz.runUnderlying142,Result.andThen_ok]
  have hk:∀(v:UInt8) (w:World),(Instr.checkKey b 9999 5 (Sl.B v)).run p_ w= .ok () w:=fun v w=>MapKept.run_checkKey (n:=9998) (d:= .int .u8) (by kernel_rfl) (by simp[MapKept.IsKey,Sl.B]) b
  simp[part,Tryz.isAgg5,size_u8,hk,Result.andThen,range3]
 eq:=fun k k' w=>by
  unfold enc3 Op.equal Op.maxDepth Op.equalIn
  simp only[Sem.run_bind,Tryz.runUnderlying142,Result.andThen_ok]
  obtain⟨a1,a2,a3⟩:=k
  obtain⟨b1,b2,b3⟩:=k'
  by_cases h1:a1=b1
  ·subst h1
   by_cases h2:a2=b2
   ·subst h2
    by_cases h3:a3=b3
    ·subst h3
     simp[part,Tryz.isAgg5,size_u8,eq_u8,Result.andThen,range3]
    ·simp[part,Tryz.isAgg5,size_u8,eq_u8,Result.andThen,range3,h3]
   ·simp[part,Tryz.isAgg5,size_u8,eq_u8,Result.andThen,range3,h2]
  ·simp[part,Tryz.isAgg5,size_u8,eq_u8,Result.andThen,range3,h1]
 now:=⟨.array 3 5,by kernel_rfl,fun k k'=> .inl rfl⟩
 same:=fun k=>by
  unfold enc3 Instr.sameBits
  simp[Instr.sameBits,Sl.B]
theorem v_arrP {P:Program}{W:World}{t e:TypeId}{s len n cap:Nat}{a:Option Addr}[ht:ArrT P t len e s](h:len<=n):RunV P W [] (sArrP t (.slice a n cap)) (.pointer a):=fun w _=>by
 simp[sArrP,Instr.arrayAt,ht.ut,show ¬n<len by omega]
theorem v_sllS {P:Program}{W:World}{t e:TypeId}{s b n cap g o:Nat}{q:IntKind}{i:Int}(l:Nat)[ht:SlT P t e s b](hi:i=(l:Int))(h1:l<=n)(h2:l<cap):
  RunV P W [] (sSl t (.slice (some ⟨g,o,none⟩) n cap) (some (.int q i)) none none) (.slice (some ⟨g,o+l * s,none⟩) (n-l) (cap-l)):=by
 have h:=v_sll (P:=P) (W:=W) (t:=t) (n:=n) (cap:=cap) (a:=some ⟨g,o,none⟩) (q:=q) l hi h1
 rw[if_neg (by omega),Option.map_some,addr_add]at h
 exact h
theorem ld3 {W:World}{A:HP}{g o n at_:Nat}{b:List UInt8}(hA:RdB W A (some ⟨g,o,none⟩) n (b.map Sl.B))(h:at_+3<=b.length):RunV p_ W [A] (sLoad 142 (.pointer (some ⟨g,o+at_ * 1,none⟩))) (enc3 (tri b at_)):=by
 rw[Nat.mul_one]
 refine v_ldRdG (vs:=[Sl.B (tri b at_).1,Sl.B (tri b at_).2.1,Sl.B (tri b at_).2.2]) hA rfl fun i hi=>?_
 rw[tri_get h,List.getElem?_map]
 match i,hi with
 |0,_=>rw[List.getElem?_eq_getElem (by omega)];rfl
 |1,_=>rw[List.getElem?_eq_getElem (by omega)];rfl
 |2,_=>rw[List.getElem?_eq_getElem (by omega)];rfl
def kn (k:K3):Nat:=k.1.toNat+256 * k.2.1.toNat+65536 * k.2.2.toNat
def un (n:Nat):K3:=(UInt8.ofNat (n%256),UInt8.ofNat (n / 256%256),UInt8.ofNat (n / 65536%256))
@[irreducible] def KN:Nat:=16777216
theorem KN_eq:KN=16777216:=by unfold KN;rfl
theorem kn_lt (k:K3):kn k<KN:=by
 rw[KN_eq]
 have h1:=k.1.toNat_lt
 have h2:=k.2.1.toNat_lt
 have h3:=k.2.2.toNat_lt
 unfold kn
 omega
theorem un_kn (k:K3):un (kn k)=k:=by
 obtain⟨a,b,c⟩:=k
 have h1:=a.toNat_lt
 have h2:=b.toNat_lt
 have h3:=c.toNat_lt
 have e1:(a.toNat+256 * b.toNat+65536 * c.toNat)%256=a.toNat:=by omega
 have e2:(a.toNat+256 * b.toNat+65536 * c.toNat) / 256%256=b.toNat:=by omega
 have e3:(a.toNat+256 * b.toNat+65536 * c.toNat) / 65536%256=c.toNat:=by omega
 unfold un kn
 simp only[e1,e2,e3,UInt8.ofNat_toNat]
theorem kn_un {n:Nat}(h:n<KN):kn (un n)=n:=by
 rw[KN_eq]at h
 unfold un kn
 simp only[UInt8.toNat_ofNat']
 omega
def NI (n:Nat):Value:=I (n:Int)
abbrev Qm:=Nat->Option Addr × Nat
def mpv (Q:Qm)(b:List UInt8)(m:Nat)(k:K3):Option Value:=if pls b m k=[]then none else some (.slice (Q (kn k)).1 (pls b m k).length (Q (kn k)).2)
def slF (Q:Qm)(b:List UInt8)(m:Nat)(n:Nat):HP:=Sl 1 3 (Q n).1 (Q n).2 (pls b m (un n)).length ((pls b m (un n)).map NI)
def IsFi (p:Nat)(a:Option Addr)(c:Nat)(b:List UInt8)(m w d:Nat):HP:=ex fun q:Nat × Qm=>all [pu (∀n,pls b m (un n)=[]->q.2 n=(none,0)),pt p (.cells #[.slice a b.length c,.map (some q.1),.int .i64 (m:Int),.int .i64 (w:Int),.int .i64 (d:Int)] 253),MapFn q.1 enc3 (mpv q.2 b m),BS KN (slF q.2 b m)]
theorem mpv_get {Q:Qm}{b:List UInt8}{m:Nat}{k:K3}(hQ:∀n,pls b m (un n)=[]->Q n=(none,0)):(mpv Q b m k).getD (.slice none 0 0)= .slice (Q (kn k)).1 (pls b m k).length (Q (kn k)).2:=by
 unfold mpv
 by_cases c:pls b m k=[]
 ·have:=hQ (kn k) (by rw[un_kn];exact c)
  rw[if_pos c,this,c];rfl
 ·rw[if_neg c];rfl
def updQ (Q:Qm)(n:Nat)(v:Option Addr × Nat):Qm:=fun i=>if i=n then v else Q i
theorem mpv_upd {Q:Qm}{b:List UInt8}{m:Nat}{v:Option Addr × Nat}:updM (mpv Q b m) (tri b m) (some (.slice v.1 ((pls b m (tri b m)).length+1) v.2))=mpv (updQ Q (kn (tri b m)) v) b (m+1):=by
 funext k
 unfold updM mpv updQ
 rw[pls_succ]
 by_cases c:k=tri b m
 ·subst c
  rw[if_pos rfl,if_pos rfl,if_neg (by simp),if_pos rfl,List.length_append];rfl
 ·rw[if_neg c,if_neg (show ¬tri b m=k from fun e=>c e.symm)]
  have:kn k≠kn (tri b m):=fun e=>c (by rw[<- un_kn k,e,un_kn])
  rw[if_neg this]
theorem learn {W:World}{p:Nat}{a:Option Addr}{c m w d to:Nat}{b:List UInt8}{A:HP}(hA:RdB W A a b.length (b.map Sl.B))(hc:b.length<=c)(hb:b.length<=1048576)(ht:to<=b.length)(hm:m<=min to (b.length-2)):
  Cn p_ 195 [.pointer (some ⟨p,0,none⟩),.int .i64 (to:Int)] W [IsFi p a c b m w d,A] (fun _:Unit=> .tuple #[]) (fun _=>[IsFi p a c b (min to (b.length-2)) w d,A]):=by
 (refine Shp.cn (Sg.g_ Tryz.call195 Tryz.func195 (an:={loops:=[(0,[])],drs:=[(0,.ofL [(0,1),(1,1),(2,1),(3,1),(4,1),(5,1),(6,1),(7,1),(8,1),(9,1),(10,1),(11,1),(12,1),(13,1),(14,1),(15,1),(16,1),(17,1),(18,1)]),(2,.ofL [(0,2),(1,3),(2,3),(3,3),(4,2),(5,3),(6,3),(7,3),(8,3),(9,3),(10,3),(11,0),(12,0)]),(3,.ofL [(0,2),(1,3),(2,3),(3,3),(4,3),(5,1),(6,1),(7,1),(8,1),(9,0),(10,0),(11,1),(13,3),(12,0),(14,0)])]}) (os:=[(2,[(11,[10,9,8,7,6,5,3,2,1])]),(3,[(9,[4,3,2,1]),(12,[13])])])) fun F=>?_;simp only[ca_,na_])
 refine e_loop0 (fun k=>(ex fun i:Nat=>all [pu (k+i=min to (b.length-2)),IsFi p a c b i w d])::A::F) (min to (b.length-2)-m) ?_ ?_
 ·refine .ex m (.all ?_)
  refine nr_ ?_
  refine .pu (by omega) ?_
  exact im_
 intro k ds
 refine e_ex .here fun i=>e_all .here ?_
 refine nr_ ?_
 refine e_pu .here fun hk=>?_
 refine e_ex .here fun q=>e_all .here ?_
 obtain⟨gm,Q⟩:=q
 refine nr_ ?_
 refine e_pu .here fun hQ=>?_
 (try dsimp only at hQ)
 refine e_drS (t_ v_nil (t_ v_fa0 (ls_ ?_)))
 by_cases h1:(i:Int)<(to:Int)
 ·refine t_ v_lss ?_
  rw[dT_ h1]
  refine e_gdT (e_gdT (t_ v_nil (e_gdT (t_ v_fa0 (e_gdT (ls_ ?_))))));refine e_gdT ?_;(refine t_ (v_add (by omega) (by omega)) ?_);refine e_gdT (e_gdT (t_ v_nil (e_gdT (t_ v_fa0 (e_gdT (ls_ ?_))))));refine e_gdT (t_ v_len (e_gdT ?_))
  by_cases h2:(i:Int)+3<=(b.length:Int)
  ·refine t_ v_leq ?_
   rw[dT_ h2]
   refine t_ v_pickT (e_condT (e_drS (e_stD v_nil .nil ?_)));refine e_stD v_fa0 .nil ?_;(((refine' e_stD (v_ldN ?hc) ?hi ?_);(case hi=>exact .pick (by repeat constructor) .nil);(case hc=>repeat constructor)));refine e_stD v_nil .nil ?_;refine e_stD v_fa0 .nil ?_;(((refine' e_stD (v_ldN ?hc) ?hi ?_);(case hi=>exact .pick (by repeat constructor) .nil);(case hc=>repeat constructor)))
   obtain⟨g,o,rfl,_⟩:=hA.at_ (by omega)
   refine e_stD (v_sllS i rfl (by omega) (by omega)) .nil ?_
   refine e_stD (v_arrP (by omega)) .nil ?_
   refine e_stD (ld3 hA (by omega)) (.pick (by repeat constructor) .nil) ?_
   obtain⟨x,hx⟩:∃x,x=tri b i:=⟨_,rfl⟩
   rw[<- hx]
   unfold enc3
   refine e_newA fun g=>?_;refine ob_ ?_;refine ob_ ?_;refine ob_ ?_;refine ob_ ?_;refine ob_ ?_;refine ob_ ?_;refine ob_ ?_;refine ob_ ?_;refine ob_ ?_;refine sg_ ?_;refine e_drS (e_stD v_nil .nil ?_);refine e_stD v_fa0 .nil ?_;(((refine' e_stD (v_ldN ?hc) ?hi ?_);(case hi=>exact .pick (by repeat constructor) .nil);(case hc=>repeat constructor)));(((refine' e_stD (v_ldAgg ?hn) ?hi ?_);(case hi=>exact .pick (by repeat constructor) .nil);(case hn=>rfl)));refine t_ v_nil (t_ v_fa0 (ls_ ?_));refine e_bsl1 fun g=>?_;refine ob_ ?_;refine ob_ ?_;refine ob_ ?_;refine ob_ ?_
   refine e_mapentF (q:=x) key3b (by repeat constructor) fun c0=>?_
   rw[mpv_get hQ]
   refine xs_ ?_;(((refine' e_stD (v_extN ?hc) .nil ?_);(case hc=>repeat constructor)))
   refine e_big (by repeat constructor) (kn x) (kn_lt x) ?_
   unfold slF
   rw[un_kn]
   have hlen:=pls_len b i x
   refine e_app (m:=1) (news:=[NI i]) (by repeat constructor) (src_pt (e':=3) (by kernel_rfl) (by repeat constructor) (by rfl) (by intro u hu;rw[List.mem_singleton.1 hu];rfl)) (by omega) (by omega) fun a' c'=>?_
   refine ob_ ?_
   refine e_entstF (by repeat constructor) ?_
   refine o_ v_nil (o_ v_fa0 (ln_ ?_));refine ad_ ?_;refine o_ v_nil (o_ v_fa0 (sn_ ?_))
   refine e_next0 (k-1) (by omega) (.ex (i+1) (.all ?_))
   refine nr_ ?_
   refine .pu (by omega) (.ex (gm,updQ Q (kn x) (a',c')) (.all ?_))
   refine nr_ ?_
   refine .pu ?_ ?_
   ·intro n hn
    rw[pls_succ]at hn
    by_cases e:tri b i=un n
    ·rw[if_pos e]at hn;simp at hn
    ·rw[if_neg e]at hn
     unfold updQ
     rw[if_neg (fun h=>e (by rw[h,un_kn,hx]))]
     exact hQ n hn
   subst hx
   rw[<- mpv_upd (v:=(a',c'))]
   rw[show((i+1:Nat):Int)=(i:Int)+1 from rfl]
   refine .pick (by repeat constructor) (.pick (by repeat constructor) ?_)
   refine imp_big (kn (tri b i)) (kn_lt _) (F:=slF Q b i) (fun j hj hji=>?_) ?_
   ·unfold slF updQ
    rw[if_neg hji,pls_succ,if_neg (fun h=>hji (by rw[h,kn_un hj]))]
   ·unfold slF updQ
    rw[if_pos rfl,un_kn,pls_succ,if_pos rfl,List.length_append,List.map_append]
    refine .pick (by repeat constructor) ?_
    exact im_
  ·refine t_ v_leq ?_
   rw[dF_ h2]
   refine t_ v_pickT (e_condF ?_)
   have:i=min to (b.length-2):=by omega
   subst this
   refine rt_ () ?_
   refine .ex (gm,Q) (.all ?_)
   refine nr_ ?_
   exact .pu hQ im_
 ·refine t_ v_lss ?_
  rw[dF_ h1]
  refine e_gdF2 (e_gdF2 (e_gdF2 (e_gdF2 (e_gdF2 (e_gdF2 (e_gdF2 (e_gdF2 (e_gdF2 (e_gdF2 (e_gdF2 (t_ v_pickF (e_condF ?_))))))))))))
  have:i=min to (b.length-2):=by omega
  subst this
  refine rt_ () ?_
  refine .ex (gm,Q) (.all ?_)
  refine nr_ ?_
  exact .pu hQ im_
theorem u8eq {a b:UInt8}:decide ((a.toNat:Int)=(b.toNat:Int))=decide (some a=some b):=by
 by_cases c:a=b
 ·subst c;simp
 ·have:(a.toNat:Int)≠(b.toNat:Int):=fun d=>c (UInt8.toNat_inj.1 (Int.ofNat.inj d))
  simp[c,this]
theorem length_ {W:World}{p:Nat}{a:Option Addr}{v1 v2 v3 v4:Value}{c i j:Nat}{b:List UInt8}{A:HP}(hA:RdB W A a b.length (b.map Sl.B))(hb:b.length<=1048576)(hij:i<j)(hj:j<b.length):
  Cn p_ 223 [.pointer (some ⟨p,0,none⟩),.int .i64 (i:Int),.int .i64 (j:Int)] W [pt p (.cells #[.slice a b.length c,v1,v2,v3,v4] 253),A] (fun _:Unit=> .int .i64 (alike b i j:Int)) (fun _=>[pt p (.cells #[.slice a b.length c,v1,v2,v3,v4] 253),A]):=by
 (refine Shp.cn (Sg.g_ Tryz.call223 Tryz.func223 (an:={loops:=[(2,[7])],drs:=[(2,.ofL [(0,1),(1,1),(2,1),(3,1),(4,1),(5,1),(6,1),(7,1),(8,1),(9,1),(10,1),(11,1),(12,1),(13,1),(14,1),(15,1),(16,1),(17,1),(18,1),(19,1),(20,1),(21,1),(22,1),(23,1),(24,1),(25,1),(26,1),(27,1),(28,1),(29,1),(30,1),(31,1),(32,1),(33,1)])]})) fun F=>?_;simp only[ca_,na_])
 refine e_loop1 (fun k y=>(ex fun n:Nat=>pu (k+n=259/\y= .int .i64 (n:Int)/\alk b i j k n=alike b i j))::pt p (.cells #[.slice a b.length c,v1,v2,v3,v4] 253)::A::F) 259 ?_ ?_
 ·exact .ex 0 (.pu ⟨rfl,rfl,rfl⟩ im_)
 intro k ds y
 refine e_ex .here fun n=>e_pu .here fun hk=>?_
 obtain⟨hkn,rfl,hal⟩:=hk
 have done:∀h:¬(n<258/\j+n<b.length/\b[i+n]? =b[j+n]?),alike b i j=n:=fun h=>by
  rw[<- hal]
  cases k with
  |zero=>rfl
  |succ k=>rw[alk,if_neg h]
 refine e_drS ?_
 by_cases h1:(n:Int)<258
 ·refine t_ v_lss ?_
  rw[dT_ h1]
  refine e_gdT (e_gdT (e_gdT ?_));(refine t_ (v_add (by omega) (by omega)) ?_);refine e_gdT (e_gdT (t_ v_nil (e_gdT (t_ v_fa0 (e_gdT (ls_ ?_))))));refine e_gdT (t_ v_len (e_gdT ?_))
  by_cases h2:(j:Int)+(n:Int)<(b.length:Int)
  ·refine t_ v_lss ?_
   rw[dT_ h2]
   refine t_ v_pickT (e_gdT (e_gdT (t_ v_nil (e_gdT (t_ v_fa0 (e_gdT (ls_ ?_)))))));refine e_gdT (e_gdT (e_gdT ?_));(refine t_ (v_add (by omega) (by omega)) ?_);refine e_gdT ?_
   obtain⟨g,o,rfl,_⟩:=hA.at_ (by omega)
   refine t_ (v_ia1 (i+n) (by rfl) (by omega)) ?_
   refine e_gdT (p_st (v_ldRd (v:=Sl.B b[i+n]) hA (by rw[List.getElem?_map,List.getElem?_eq_getElem (by omega)];rfl)) ?_)
   refine e_gdT (e_gdT (t_ v_nil (e_gdT (t_ v_fa0 (e_gdT (ls_ ?_))))));refine e_gdT (e_gdT (e_gdT ?_));(refine t_ (v_add (by omega) (by omega)) ?_);refine e_gdT (t_ (v_ia1 (j+n) (by rfl) (by omega)) ?_)
   refine e_gdT (p_st (v_ldRd (v:=Sl.B b[j+n]) hA (by rw[List.getElem?_map,List.getElem?_eq_getElem (by omega)];rfl)) ?_)
   refine e_gdT ?_
   unfold Sl.B
   refine t_ v_eql ?_
   rw[u8eq]
   by_cases h3:some b[i+n]=some b[j+n]
   ·rw[dT_ h3]
    refine t_ v_pickT (e_condT (ad_ ?_))
    obtain⟨k,rfl⟩:∃k',k=k'+1:=⟨k-1,by omega⟩
    refine e_next1 k (by omega) (.ex (n+1) (.pu ⟨by omega,by rfl,?_⟩ im_))
    rw[<- hal,alk,if_pos ⟨by omega,by omega,by rw[List.getElem?_eq_getElem (by omega),List.getElem?_eq_getElem (by omega)];exact h3⟩]
   ·rw[dF_ h3]
    refine t_ v_pickT (e_condF ?_)
    rw[done (fun h=>h3 (by have:=h.2.2;rwa [List.getElem?_eq_getElem (by omega),List.getElem?_eq_getElem (by omega)]at this))]
    refine rt_ () ?_
    exact im_
  ·refine t_ v_lss ?_
   rw[dF_ h2]
   refine t_ v_pickT (e_gdF2 (e_gdF2 (e_gdF2 (e_gdF2 (e_gdF2 (e_gdF2 (e_gdF2 (e_gdF2 (e_gdF2 (e_gdF2 (e_gdF2 (e_gdF2 (e_gdF2 (e_gdF2 (e_gdF2 (e_gdF2 (e_gdF2 (e_gdF2 (e_gdF2 (t_ v_pickF (e_condF ?_)))))))))))))))))))))
   rw[done (fun h=>h2 (by omega))]
   refine rt_ () ?_
   exact im_
 ·refine t_ v_lss ?_
  rw[dF_ h1]
  refine e_gdF2 (e_gdF2 (e_gdF2 (e_gdF2 (e_gdF2 (e_gdF2 (e_gdF2 (e_gdF2 (e_gdF2 (t_ v_pickF (e_gdF2 (e_gdF2 (e_gdF2 (e_gdF2 (e_gdF2 (e_gdF2 (e_gdF2 (e_gdF2 (e_gdF2 (e_gdF2 (e_gdF2 (e_gdF2 (e_gdF2 (e_gdF2 (e_gdF2 (e_gdF2 (e_gdF2 (e_gdF2 (e_gdF2 (t_ v_pickF (e_condF ?_))))))))))))))))))))))))))))))
  rw[done (fun h=>h1 (by omega))]
  refine rt_ () ?_
  exact im_
theorem candidates {W:World}{p:Nat}{j:Int}:Cn p_ 222 [.pointer (some ⟨p,0,none⟩),.int .i64 j] W [] (fun q:Nat × Nat=> .func (.func 236) #[] [.pointer (some ⟨q.2,0,none⟩),.pointer (some ⟨q.1,0,none⟩)].toArray) (fun q=>[pt q.1 (.cells #[.pointer (some ⟨p,0,none⟩)] 250),pt q.2 (.cells #[.int .i64 j] 3)]):=by
 (refine Shp.cn (Sg.g_ Tryz.call222 Tryz.func222) fun F=>?_;simp only[ca_,na_])
 refine e_box1 fun c1=>?_
 refine e_box1 fun c2=>?_
 refine o_ v_mkF (rt_ ((c1,c2)) ?_)
 exact im_
def cdX (b:List UInt8)(w d j:Nat):List Nat:=if j+3<=b.length then cdl w j (pls b j (tri b j)).reverse d else []
def cdV (b:List UInt8)(w d j:Nat):List (List Value):=(cdX b w d j).map fun i=>[NI i]
theorem cdX_lt {b:List UInt8}{w d j i:Nat}(h:i∈cdX b w d j):i<j:=by
 unfold cdX at h
 split at h
 ·have key:∀(l:List Nat) (d:Nat),i∈cdl w j l d->i∈l:=by
   intro l
   induction l with
   |nil=>intro d h;simp[cdl]at h
   |cons x l ih=>
    intro d h
    cases d with
    |zero=>simp[cdl]at h
    |succ d=>
     rw[cdl]at h
     split at h
     ·cases h
     ·rcases List.mem_cons.1 h with e|e
      ·rw[e];simp
      ·exact List.mem_cons_of_mem _ (ih d e)
  have:=key _ _ h
  rw[List.mem_reverse]at this
  exact pls_lt this
 ·cases h
theorem candidates1 {W:World} {p c1 c2 l gm:Nat} {mv:Value} {Q:Qm} {a:Option Addr} {c w d j:Nat} {b:List UInt8} {A:HP} {G:Nat->HP} {Gx T T':HP} (hA:RdB W A a b.length (b.map Sl.B)) (hc:b.length<=c) (hb:b.length<=1048576) (hj:j<b.length)
  (hQ:∀n,pls b (min j (b.length-2)) (un n)=[]->Q n=(none,0))
  (hy:YieldC p_ l (cdV b w d j) (fun k=>all [T,all [pt c1 (.cells #[.pointer (some ⟨p,0,none⟩)] 250),pt c2 (.cells #[.int .i64 (j:Int)] 3),pt p (.cells #[.slice a b.length c,.map (some gm),mv,.int .i64 (w:Int),.int .i64 (d:Int)] 253),MapFn gm enc3 (mpv Q b (min j (b.length-2))),BS KN (slF Q b (min j (b.length-2))),A,G k]]) (all [T',Gx]) W):
  Cn p_ 236 [yv l,.pointer (some ⟨c2,0,none⟩),.pointer (some ⟨c1,0,none⟩)] W [all [T,all [pt c1 (.cells #[.pointer (some ⟨p,0,none⟩)] 250),pt c2 (.cells #[.int .i64 (j:Int)] 3),pt p (.cells #[.slice a b.length c,.map (some gm),mv,.int .i64 (w:Int),.int .i64 (d:Int)] 253),MapFn gm enc3 (mpv Q b (min j (b.length-2))),BS KN (slF Q b (min j (b.length-2))),A,G 0]]] (fun _:Bool=> .tuple #[])
   (fun r=>[if r then all [T,all [pt c1 (.cells #[.pointer (some ⟨p,0,none⟩)] 250),pt c2 (.cells #[.int .i64 (j:Int)] 3),pt p (.cells #[.slice a b.length c,.map (some gm),mv,.int .i64 (w:Int),.int .i64 (d:Int)] 253),MapFn gm enc3 (mpv Q b (min j (b.length-2))),BS KN (slF Q b (min j (b.length-2))),A,G (cdV b w d j).length]]else all [T',Gx]]):=by
 (refine Shp.cn (Sg.g_ Tryz.call236 Tryz.func236 (an:={loops:=[(3,[5,6])],drs:=[(0,.ofL [(0,1),(1,1),(2,1),(3,1),(4,1),(5,1),(6,1),(7,1)]),(1,.ofL [(0,1),(1,1),(2,1),(3,1),(4,1),(5,1),(6,1),(7,1),(8,1),(9,1),(10,1),(11,1),(12,1),(13,1)]),(5,.ofL [(0,1),(1,1),(2,1),(3,1),(4,1),(5,1),(6,1),(7,1),(8,1),(9,1),(10,1),(11,1),(12,1),(13,1),(14,1),(15,1),(16,1),(17,0),(18,1),(19,1)])]})) fun F=>?_;simp only[ca_,na_])
 refine e_all .here ?_
 refine nr_ ?_
 refine e_all (.there .here) ?_
 refine nr_ ?_
 refine e_drS (ls_ ?_);(refine t_ (v_add (by omega) (by omega)) ?_);refine ls_ ?_;refine t_ v_nil (t_ v_fa0 (ls_ ?_));refine t_ v_len ?_
 by_cases h1:(b.length:Int)<(j:Int)+3
 ·refine t_ v_gtr ?_
  rw[dT_ h1]
  refine e_condT ?_
  have hl:(cdV b w d j).length=0:=by unfold cdV cdX;rw[if_neg (by omega)];rfl
  rw[hl]
  refine rt_ true ?_
  refine .all ?_
  refine nr_ ?_
  refine .pick (by repeat constructor) (.all ?_)
  refine nr_ ?_
  exact im_
 refine t_ v_gtr ?_
 rw[dF_ h1]
 have hmj:min j (b.length-2)=j:=by omega
 rw[hmj]at hQ hy ⊢
 refine e_condF (e_drS (ls_ ?_));refine t_ v_nil (t_ v_fa0 (ls_ ?_));refine ls_ ?_;refine t_ v_nil (t_ v_fa0 (ls_ ?_));refine ls_ ?_
 obtain⟨g,o,rfl,_⟩:=hA.at_ (by omega)
 refine t_ (v_sllS j rfl (by omega) (by omega)) ?_
 refine t_ (v_arrP (by omega)) ?_
 refine p_st (ld3 hA (by omega)) ?_
 refine e_mf (g:=gm) (by repeat constructor) fun ml hm1 hm2=>?_
 refine p_st (v_look (z:= .slice none 0 0) (q:=tri b j) key3b) ?_
 refine e_imp (imp_mf (M:=_) .here hm1 hm2 .refl) ?_
 rw[hm2,mpv_get hQ]
 obtain⟨L,hL⟩:∃L,L=pls b j (tri b j):=⟨_,rfl⟩
 obtain⟨xs,hxs⟩:∃xs,xs=cdX b w d j:=⟨_,rfl⟩
 have hxL:xs=cdl w j L.reverse d:=by rw[hxs,hL,cdX,if_pos (by omega)]
 have hvl:(cdV b w d j).length=xs.length:=by rw[hxs];simp[cdV]
 have hget:∀k (h:k<xs.length),(cdV b w d j)[k]? =some [NI xs[k]]:=fun k h=>by
  subst hxs
  unfold cdV
  rw[List.getElem?_map,List.getElem?_eq_getElem h];rfl
 have hLlen:L.length<=b.length:=by have:=pls_len b j (tri b j);rw[hL];omega
 rw[<- hL,hvl]
 refine o_ v_len (sb_ ?_)
 refine e_loop2 (fun m y z=>(ex fun n:Nat=>all [pu (m+n=L.length/\y= .int .i64 ((L.length:Int)-1-n)/\z= .int .i64 (n:Int)/\n<=xs.length/\xs.drop n=cdl w j (L.reverse.drop n) (d-n)),all [T,all [pt c1 (.cells #[.pointer (some ⟨p,0,none⟩)] 250),pt c2 (.cells #[.int .i64 (j:Int)] 3),pt p (.cells #[.slice (some ⟨g,o,none⟩) b.length c,.map (some gm),mv,.int .i64 (w:Int),.int .i64 (d:Int)] 253),MapFn gm enc3 (mpv Q b (j)),BS KN (slF Q b (j)),A,G n]]])::F) L.length ?_ ?_
 ·refine .ex 0 (.all ?_)
  refine nr_ ?_
  refine .pu ⟨by omega,by simp,rfl,by omega,by simp[hxL]⟩ (.all ?_)
  refine nr_ ?_
  refine .pick (by repeat constructor) (.all ?_)
  refine nr_ ?_
  exact im_
 intro m ds y z
 refine e_ex .here fun n=>e_all .here ?_
 refine nr_ ?_
 refine e_pu .here fun hk=>?_
 obtain⟨hmn,rfl,rfl,hnx,hcd⟩:=hk
 have fin:xs.length<=n->n=xs.length:=fun h=>by omega
 by_cases h2:(0:Int)<=(L.length:Int)-1-n
 ·have hnL:n<L.reverse.length:=by rw[List.length_reverse];omega
  rw[List.drop_eq_getElem_cons hnL]at hcd
  refine o_ v_geq ?_
  rw[dT_ h2]
  refine e_gdT (e_gdT (e_all .here ?_))
  refine nr_ ?_
  refine e_all (.there .here) ?_
  refine nr_ ?_
  refine ln_ ?_;refine e_gdT (o_ v_nil (e_gdT (o_ v_fa0 (e_gdT (ln_ ?_)))));refine e_gdT ?_
  by_cases h3:(n:Int)<(d:Int)
  ·refine o_ v_lss ?_
   rw[dT_ h3]
   refine o_ v_pickT (e_condT (e_drS (ls_ ?_)))
   obtain⟨d',hd'⟩:∃d',d-n=d'+1:=⟨d-n-1,by omega⟩
   rw[hd',cdl]at hcd
   have hri:L.reverse[n]=L[L.length-1-n]'(by omega):=by rw[List.getElem_reverse]
   obtain⟨i,hi⟩:∃i,i=L[L.length-1-n]'(by omega):=⟨_,rfl⟩
   rw[hri,<- hi]at hcd
   have hij:i<j:=by
    have:i∈L:=by rw[hi];exact List.getElem_mem _
    rw[hL]at this
    exact pls_lt this
   refine e_big (F:=slF Q b j) (by repeat constructor) (kn (tri b j)) (kn_lt _) ?_
   unfold slF
   rw[un_kn,<- hL]
   refine e_slsome .here (by omega) fun gq hgq=>?_
   rw[hgq]
   refine t_ (v_ia1 (L.length-1-n) (by omega) (by omega)) ?_
   have hld:((L.map NI)[0+(L.length-1-n)]?)=some (NI i):=by
    rw[Nat.zero_add,List.getElem?_map,List.getElem?_eq_getElem (by omega),hi];rfl
   refine e_stS (v_ldSl hld) (.pick .here .nil) ?_
   refine t_ (v_sub (by omega) (by omega)) ?_
   refine ls_ ?_;refine t_ v_nil (t_ v_fa0 (ls_ ?_))
   by_cases h4:(w:Int)<(j:Int)-(i:Int)
   ·refine t_ v_gtr ?_
    rw[dT_ h4]
    rw[if_pos (by omega)]at hcd
    have hn:=fin (List.drop_eq_nil_iff.1 hcd)
    subst hn
    refine e_gdF1 (e_gdF1 (e_gdF1 (e_gdF1 (e_gdF1 (e_gdF1 (e_gdF1 (t_ v_pickT (e_condT (rt_ true ?_)))))))))
    refine .all ?_
    refine nr_ ?_
    refine .pick (by repeat constructor) (.all ?_)
    refine nr_ ?_
    refine .pick (by repeat constructor) (.pick (by repeat constructor) (.pick (by repeat constructor) (.pick (by repeat constructor) ?_)))
    refine imp_big (kn (tri b j)) (kn_lt _) (F:=slF Q b j) (fun _ _ _=>rfl) ?_
    unfold slF
    rw[un_kn,<- hL,hgq]
    refine .pick (by repeat constructor) ?_
    exact im_
   ·refine t_ v_gtr ?_
    rw[dF_ h4]
    rw[if_neg (by omega)]at hcd
    have hlt:n<xs.length:=by
     rcases Nat.lt_or_ge n xs.length with h|h
     ·exact h
     ·rw[List.drop_eq_nil_iff.2 h]at hcd;cases hcd
    rw[List.drop_eq_getElem_cons hlt]at hcd
    obtain⟨hx1,hx2⟩:=List.cons.inj hcd
    refine e_gdT (e_gdT (e_gdT (e_gdT (t_ (v_ia1 (L.length-1-n) (by omega) (by omega)) ?_))))
    refine e_gdT (e_stS (v_ldSl hld) (.pick .here .nil) ?_)
    refine e_gdT (e_imp (M:=all [T,all [pt c1 (.cells #[.pointer (some ⟨p,0,none⟩)] 250),pt c2 (.cells #[.int .i64 (j:Int)] 3),pt p (.cells #[.slice (some ⟨g,o,none⟩) b.length c,.map (some gm),mv,.int .i64 (w:Int),.int .i64 (d:Int)] 253),MapFn gm enc3 (mpv Q b j),BS KN (slF Q b j),A,G n]]::F) ?_ ?_)
    ·refine .all ?_
     refine nr_ ?_
     refine .pick (by repeat constructor) (.all ?_)
     refine nr_ ?_
     refine .pick (by repeat constructor) (.pick (by repeat constructor) (.pick (by repeat constructor) (.pick (by repeat constructor) ?_)))
     refine imp_big (kn (tri b j)) (kn_lt _) (F:=slF Q b j) (fun _ _ _=>rfl) ?_
     unfold slF
     rw[un_kn,<- hL,hgq]
     refine .pick (by repeat constructor) ?_
     exact im_
    refine e_yield hy n (by rw[hget n hlt,hx1]) .here ?_ ?_
    ·(refine e_gdT ?_);refine t_ v_notT ?_;refine t_ v_pickF ?_;refine e_condF ?_;refine sb_ ?_;refine ad_ ?_
     refine e_next2 (m-1) (by omega) (.ex (n+1) (.all ?_))
     refine nr_ ?_
     refine .pu ⟨by omega,by congr 1;omega,rfl,by omega,?_⟩ .refl
     rw[hx2]
     congr 1
     omega
    ·(refine e_gdT ?_);refine t_ v_notF ?_;refine t_ v_pickF ?_;refine e_condT ?_
     refine rt_ false ?_
     exact .refl
  ·refine o_ v_lss ?_
   rw[dF_ h3]
   refine o_ v_pickT (e_condF ?_)
   rw[show d-n=0 by omega,cdl]at hcd
   have hn:=fin (List.drop_eq_nil_iff.1 hcd)
   subst hn
   refine rt_ true ?_
   refine .all ?_
   refine nr_ ?_
   refine .pick (by repeat constructor) (.all ?_)
   refine nr_ ?_
   exact im_
 ·refine o_ v_geq ?_
  rw[dF_ h2]
  refine e_gdF2 (e_gdF2 (e_gdF2 (e_gdF2 (e_gdF2 (e_gdF2 (o_ v_pickF (e_condF ?_)))))))
  rw[List.drop_eq_nil_iff.2 (show L.reverse.length<=n by rw[List.length_reverse];omega),show cdl w j [] (d-n)=[] by simp[cdl]]at hcd
  have hn:=fin (List.drop_eq_nil_iff.1 hcd)
  subst hn
  refine rt_ true ?_
  exact .refl
def fldP (b:List UInt8)(j:Nat)(l:List Nat):Pz:=l.foldl (fun p i=>bst j i (alike b i j) p) ⟨0,0,b.getD j 0⟩
theorem piece_fold {b:List UInt8}{w d j:Nat}:pieceAt b w d j=fldP b j (cdX b w d j):=by
 unfold pieceAt cdX fldP
 by_cases h:j+3<=b.length
 ·rw[if_pos h,rat_cdl h j d _ (Nat.le_refl _)]
 ·rw[if_neg h,rat_short (by omega)];rfl
theorem fldP_succ {b:List UInt8}{j k:Nat}{l:List Nat}(h:k<l.length):fldP b j (l.take (k+1))=bst j l[k] (alike b l[k] j) (fldP b j (l.take k)):=by
 unfold fldP
 rw[List.take_succ_eq_append_getElem h,List.foldl_append];rfl
theorem piece {W:World}{p:Nat}{a:Option Addr}{c w d j:Nat}{b:List UInt8}{A:HP}(hA:RdB W A a b.length (b.map Sl.B))(hc:b.length<=c)(hb:b.length<=1048576)(hj:j<b.length):
  Cn p_ 196 [.pointer (some ⟨p,0,none⟩),.int .i64 (j:Int)] W [IsFi p a c b (min j (b.length-2)) w d,A] (fun _:Unit=>vPz (pieceAt b w d j)) (fun _=>[IsFi p a c b (min j (b.length-2)) w d,A]):=by
 (refine S.lz_finder_piece_s.cn fun F=>?_;unfold S.lz_finder_piece;simp only[ca_,na_])
 refine e_ex .here fun q=>e_all .here ?_
 obtain⟨gm,Q⟩:=q
 refine nr_ ?_
 refine e_pu .here fun hQ=>?_
 (try dsimp only at hQ)
 refine e_box1 fun b2=>?_
 refine e_box1 fun b3=>?_
 refine e_newA fun b4=>?_
 refine e_drS ?_
 (((refine' e_stD (v_ldN ?hc) ?hi ?_);(case hi=>exact .pick (by repeat constructor) .nil);(case hc=>repeat constructor)));refine e_stD v_nil .nil ?_;refine e_stD v_fa0 .nil ?_;(((refine' e_stD (v_ldN ?hc) ?hi ?_);(case hi=>exact .pick (by repeat constructor) .nil);(case hc=>repeat constructor)));(((refine' e_stD (v_ldN ?hc) ?hi ?_);(case hi=>exact .pick (by repeat constructor) .nil);(case hc=>repeat constructor)))
 have hA0:=hA
 obtain⟨ga,o,ha,_⟩:=hA.at_ (by omega)
 rw[ha]at hA ⊢
 refine e_stD (v_ia1 j rfl hj) .nil ?_
 refine e_stD (v_ldRd (v:=Sl.B (b.getD j 0)) hA (by rw[List.getElem?_map,List.getElem?_eq_getElem hj,List.getD_eq_getElem?_getD,List.getElem?_eq_getElem hj];rfl)) (.pick (by repeat constructor) .nil) ?_
 refine e_stD v_rv .nil ?_;refine e_newA fun g=>?_;refine ob_ ?_;refine ob_ ?_;refine ob_ ?_;refine ob_ ?_;refine ob_ ?_;refine ob_ ?_;refine ob_ ?_;refine ob_ ?_;refine sg_ ?_;refine ln_ ?_;refine ln_ ?_
 rename Nat=>b5
 refine c_ (candidates (j:=(j:Int))) fun _=>?_
 rename_i qc
 obtain⟨bc,bd⟩:=qc
 (try dsimp only)
 refine nr_ ?_
 have hvl:(cdV b w d j).length=(cdX b w d j).length:=by simp[cdV]
 refine e_rf (f:=236) (cap:=[.pointer (some ⟨bd,0,none⟩),.pointer (some ⟨bc,0,none⟩)]) (cdV b w d j)
  (fun k=>all [pt bc (.cells #[.pointer (some ⟨p,0,none⟩)] 250),pt bd (.cells #[.int .i64 (j:Int)] 3),pt p (.cells #[.slice (some ⟨ga,o,none⟩) b.length c,.map (some gm),.int .i64 ((min j (b.length-2):Nat):Int),.int .i64 (w:Int),.int .i64 (d:Int)] 253),MapFn gm enc3 (mpv Q b (min j (b.length-2))),BS KN (slF Q b (min j (b.length-2))),A,all [pu (k<=(cdX b w d j).length),pt b2 (.cells #[.pointer (some ⟨p,0,none⟩)] 250),pt b3 (.cells #[.int .i64 (j:Int)] 3),pt b4 (.cells #[.int .i64 0,.int .i64 0,.int .u8 0] 209),pt b5 (.cells #[.int .i64 (fldP b j ((cdX b w d j).take k)).len,.int .i64 (fldP b j ((cdX b w d j).take k)).dist,Sl.B (fldP b j ((cdX b w d j).take k)).c] 209),all F]]) (pu False) rfl ?_ ?_ ?_ ?_ ?_ ?_
 ·intro x hx
  obtain⟨k,_,rfl⟩:=List.mem_map.1 hx
  rfl
 ·refine .all ?_
  refine nr_ ?_
  refine .pick (by repeat constructor) (.pick (by repeat constructor) (.pick (by repeat constructor) (.pick (by repeat constructor) (.pick (by repeat constructor) (.pick (by repeat constructor) (.all ?_))))))
  refine nr_ ?_
  refine .pu (by omega) (.pick (by repeat constructor) (.pick (by repeat constructor) (.pick (by repeat constructor) (.pick (by repeat constructor) (.all ?_)))))
  rw[List.append_nil]
  exact .refl
 ·intro l T T' hy
  exact candidates1 (G:=fun k=>all [pu (k<=(cdX b w d j).length),pt b2 (.cells #[.pointer (some ⟨p,0,none⟩)] 250),pt b3 (.cells #[.int .i64 (j:Int)] 3),pt b4 (.cells #[.int .i64 0,.int .i64 0,.int .u8 0] 209),pt b5 (.cells #[.int .i64 (fldP b j ((cdX b w d j).take k)).len,.int .i64 (fldP b j ((cdX b w d j).take k)).dist,Sl.B (fldP b j ((cdX b w d j).take k)).c] 209),all F]) hA hc hb hj hQ hy
 ·intro k hk F2 T0 T1 B N J hB hN hJ
  rw[hvl]at hk
  have e0:∀h,(cdV b w d j)[k]'h=[NI (cdX b w d j)[k]]:=fun h=>by simp[cdV]
  rw[e0]
  simp only[vapp,List.headD_cons,List.tail_cons]
  have hij:(cdX b w d j)[k]<j:=cdX_lt (List.getElem_mem hk)
  obtain⟨i,hi⟩:∃i,i=(cdX b w d j)[k]:=⟨_,rfl⟩
  have hfs:=fldP_succ (b:=b) (j:=j) hk
  rw[<- hi]at hij hfs ⊢
  obtain⟨P0,hP0⟩:∃P0,P0=fldP b j ((cdX b w d j).take k):=⟨_,rfl⟩
  rw[<- hP0]at hfs ⊢
  refine e_all (.there .here) ?_
  refine nr_ ?_
  refine e_all (.there (.there (.there (.there (.there (.there .here)))))) ?_
  refine nr_ ?_
  refine e_pu .here fun hkn=>?_
  refine hB _ _ _ (by repeat constructor) ?_
  unfold NI I
  refine ln_ ?_;refine ln_ ?_
  refine c_ (length_ (i:=i) (j:=j) hA hb hij hj) fun _=>?_
  refine o_ v_fa0 (ln_ ?_)
  have hal:=(alike_spec b i j).1
  refine e_ask v_gtr .nil (fun h=>?_) (fun h=>?_)
  ·refine e_condT (ln_ ?_);refine sb_ ?_;refine o_ v_rv ?_;refine sg_ ?_
   refine hN _ ?_
   refine .pick (by repeat constructor) (.all ?_)
   refine nr_ ?_
   refine .pick (by repeat constructor) (.pick (by repeat constructor) (.pick (by repeat constructor) (.pick (by repeat constructor) (.pick (by repeat constructor) (.pick (by repeat constructor) (.all ?_))))))
   refine nr_ ?_
   rw[hfs,bst,if_pos h]
   refine .pu (by omega) ?_
   exact im_
  ·refine e_condF (hN _ ?_)
   refine .pick (by repeat constructor) (.all ?_)
   refine nr_ ?_
   refine .pick (by repeat constructor) (.pick (by repeat constructor) (.pick (by repeat constructor) (.pick (by repeat constructor) (.pick (by repeat constructor) (.pick (by repeat constructor) (.all ?_))))))
   refine nr_ ?_
   rw[hfs,bst,if_neg h]
   refine .pu (by omega) ?_
   exact im_
 ·intro d1
  rw[hvl,List.take_length,<- piece_fold]
  refine e_all (.there .here) ?_
  refine nr_ ?_
  refine e_all (.there (.there (.there (.there (.there (.there .here)))))) ?_
  refine nr_ ?_
  refine e_pu .here fun hkn=>?_
  refine lg_ ?_;refine sg_ ?_
  refine e_tk (by repeat constructor) ?_
  (((refine' e_stS (v_resA ?hn) ?hi ?_);(case hi=>exact im_);(case hn=>rfl)))
  rw[<- ha]
  refine e_rest (M:=[IsFi p a c b (min j (b.length-2)) w d,A]) (F:=F) ?_ ?_
  ·refine .ex (gm,Q) (.all ?_)
   refine nr_ ?_
   refine .pu hQ ?_
   exact im_
  ·refine nr_ ?_
   refine rt_ () ?_
   exact .refl
 ·intro d1
  exact e_pu (.there .here) fun h=>h.elim
theorem imp_bsE {W:World}{L M:List HP}{F:Nat->HP}:∀n,(∀j,j<n->∀ {L M:List HP},Imp W L M->Imp W L (F j::M))->Imp W L M->Imp W L (BS n F::M)
 |0,_,h=>imp_bs0 h
 |n+1,hF,h=>imp_bsS (F:=F) (fun _ _=>rfl) (imp_bsE n (fun j hj=>hF j (by omega)) (hF n (by omega) h))
theorem pls_zero (b:List UInt8)(k:K3):pls b 0 k=[]:=rfl
theorem imp_fi0 {W:World}{L L' M:List HP}{p gm w d c:Nat}{a:Option Addr}{b:List UInt8}(q:Picks L [pt p (.cells #[.slice a b.length c,.map (some gm),.int .i64 0,.int .i64 (w:Int),.int .i64 (d:Int)] 253),MapFn gm enc3 (fun _=>none)] L')(h:Imp W L' M):Imp W L (IsFi p a c b 0 w d::M):=by
 cases q with
 |cons p1 q=>
  cases q with
  |cons p2 q=>
   cases q
   refine .ex (gm,fun _=>(none,0)) (.all ?_)
   simp only[ca_,na_,-eq_self]
   refine .pu (fun _ _=>rfl) (.pick p1 ?_)
   rw[show mpv (fun _=>(none,0)) b 0=fun _=>none from funext fun k=>by unfold mpv;rw[if_pos (pls_zero b k)]]
   refine .pick p2 ?_
   refine imp_bsE KN (fun j _ L M h=>?_) h
   unfold slF
   rw[pls_zero]
   exact imp_nil h
theorem pieces {W:World}{a:Option Addr}{c w d:Nat}{b:List UInt8}{A:HP}(hA:RdB W A a b.length (b.map Sl.B))(hc:b.length<=c)(hb:b.length<=1048576)(hw:1<=w/\w<=32768)(hd:d<=4096):
  Cn p_ 149 [.slice a b.length c,.int .i64 (w:Int),.int .i64 (d:Int)] W [A] (fun q:Option Addr × Nat=> .tuple #[.slice q.1 (piecesF b w d).length q.2,.int .i64 0]) (fun q=>[Sl 3 209 q.1 q.2 (piecesF b w d).length ((piecesF b w d).flatMap pPz),A]):=by
 (refine Shp.cn (Sg.g_ Tryz.call149 Tryz.func149 (an:={cuts:=[(5,[12])],loops:=[(11,[9,10])]})) fun F=>?_;simp only[ca_,na_])
 refine e_cut1 (fun z=>pu (z= .bool false)::A::F) ?_ ?_
 rotate_left
 ·refine o_ v_lss ?_
  rw[dF_ (by omega)]
  refine e_condF (o_ v_gtr ?_)
  rw[dF_ (by omega)]
  refine e_condF (o_ v_lss ?_)
  rw[dF_ (by omega)]
  refine e_condF (o_ v_gtr ?_)
  rw[dF_ (by omega)]
  refine e_sat (.pu rfl ?_)
  exact .refl
 intro ds z
 refine e_pu .here fun hz=>?_
 subst hz
 refine e_condF (o_ v_len (o_ v_gtr ?_))
 rw[dF_ (by omega)]
 refine e_condF (e_mkF enc3 fun gm=>?_)
 refine o_ v_rv ?_;refine e_boxA fun g=>?_
 rename Nat=>p
 refine e_loop2 (fun m x y=>(ex fun st:(Option Addr × Nat) × Nat × Nat=>ex fun o:List Pz=>all [pu (b.length+1<=m+st.2.1/\x= .slice st.1.1 o.length st.1.2/\y= .int .i64 (st.2.1:Int)/\st.2.1<=b.length/\st.2.2<=min st.2.1 (b.length-2)/\o++pcs b w d m st.2.1=piecesF b w d/\o.length<=st.2.1),IsFi p a c b st.2.2 w d,Sl 3 209 st.1.1 st.1.2 o.length (o.flatMap pPz)])::A::F) (b.length+1) ?_ ?_
 ·refine .ex ((none,0),0,0) (.ex [] (.all ?_))
  refine nr_ ?_
  refine .pu ⟨by omega,rfl,rfl,by omega,by omega,rfl,by simp⟩ ?_
  refine imp_fi0 (.cons (by repeat constructor) (.cons (by repeat constructor) .nil)) ?_
  exact imp_nil .refl
 intro m ds x y
 refine e_ex .here fun st=>e_ex .here fun o=>e_all .here ?_
 obtain⟨⟨sa,sc⟩,j,mk⟩:=st
 refine nr_ ?_
 refine e_pu .here fun hi=>?_
 (try dsimp only at hi)
 obtain⟨hmj,rfl,rfl,hj,hmk,hex,hol⟩:=hi
 (try dsimp only)
 refine o_ v_len (e_ask v_lss .nil (fun h=>?_) (fun h=>?_))
 ·refine e_condT ?_
  have hjl:j<b.length:=by omega
  obtain⟨m,rfl⟩:∃m',m=m'+1:=⟨m-1,by omega⟩
  rw[pcs,if_pos hjl]at hex
  have hgp:gP b j (pieceAt b w d j):=pieceAt_gP hw.2
  obtain⟨he1,he2,he3⟩:=gP_end hgp hjl
  have hpn:=pzN_pos (pieceAt b w d j)
  refine c_ (learn (to:=j) hA hc hb hj hmk) fun _=>?_
  refine c_ (piece hA hc hb hjl) fun _=>?_
  generalize pieceAt b w d j=P at *
  unfold vPz
  refine e_newA fun b8=>?_
  refine e_stAgg .here (by rfl) (by rfl) (by intro u hu;simp at hu;rcases hu with rfl|rfl|rfl <;> rfl) ?_
  refine lg_ ?_
  refine e_bslS (n:=1) (vs:=[vPz P]) rfl (by decide) rfl (by intro v hv;rw[List.mem_singleton.1 hv];rfl) (by decide) fun gb=>?_
  refine e_app (m:=1) (news:=pPz P) (by repeat constructor) (src_pt (e':=209) (by kernel_rfl) .here (by rfl) (by intro u hu;simp[pPz]at hu;rcases hu with rfl|rfl|rfl <;> rfl)) (by omega) (by omega) fun a' c'=>?_
  refine o_ v_fa0 (ln_ ?_)
  refine o_ v_max ?_
  have e3:(if(1:Int)<P.len then P.len else 1)=(pzN P:Int):=by rw[he3];split <;> split <;> omega
  rw[e3]
  refine ad_ ?_
  refine e_next2 m (by omega) (.ex ((a',c'),j+pzN P,min j (b.length-2)) (.ex (o++[P]) (.all ?_)))
  refine nr_ ?_
  rw[List.length_append,List.flatMap_append]
  refine .pu ⟨by omega,rfl,rfl,he1,by omega,by rw[List.append_assoc];exact hex,by simp only[List.length_singleton];omega⟩ ?_
  exact im_
 ·have hje:b.length<=j:=by omega
  rw[pcs_end hje,List.append_nil]at hex
  subst hex
  refine e_condF (rt_ ((sa,sc)) ?_)
  exact im_
abbrev Bv:=(Option Addr × Nat) × (Option Addr × Nat)
def bvC (level:Int)(x:Blk × Bv):List Value:=[.slice x.2.1.1 x.1.1.length x.2.1.2,.slice x.2.2.1 x.1.2.length x.2.2.2,.int .i64 level]
def bvV (level:Int)(x:Blk × Bv):Value:= .agg #[.slice x.2.1.1 x.1.1.length x.2.1.2,.slice x.2.2.1 x.1.2.length x.2.2.2,.int .i64 level]
structure BkOk (W:World)(AL AB:HP)(x:Blk × Bv):Prop where
 rl:RdB W AL x.2.1.1 (x.1.1.length * 3) (x.1.1.flatMap pPz)
 rb:RdB W AB x.2.2.1 x.1.2.length (x.1.2.map Sl.B)
 bc:x.1.2.length<=x.2.2.2
theorem flat_cut {l:List Pz}(i n:Nat):((l.flatMap pPz).drop (i * 3)).take (n * 3)=((l.drop i).take n).flatMap pPz:=by
 induction l generalizing i n with
 |nil=>simp
 |cons p l ih=>
  have hp:(pPz p).length=3:=rfl
  cases i with
  |succ i=>
   rw[List.flatMap_cons,List.drop_succ_cons,<- ih i n,show(i+1) * 3=(pPz p).length+i * 3 by rw[hp];omega,<- List.drop_drop,List.drop_left]
  |zero=>
   cases n with
   |zero=>simp
   |succ n=>
    have:=ih 0 n
    simp only[Nat.zero_mul,List.drop_zero]at this ⊢
    rw[List.take_succ_cons,List.flatMap_cons,List.flatMap_cons,<- this,show(n+1) * 3=(pPz p).length+n * 3 by rw[hp];omega,List.take_length_add_append]
theorem cut_pz {W:World}{A:HP}{a:Option Addr}{c:Nat}{l:List Pz}{i j:Nat}(hA:RdB W A a (l.length * 3) (l.flatMap pPz))(h1:i<=j)(h2:j<=l.length)(h3:l.length<=c):
  RdB W A (if c=i then a else a.map (·.add (i * 3))) (((l.drop i).take (j-i)).length * 3) (((l.drop i).take (j-i)).flatMap pPz):=by
 have h:=RdB.cut (l:=i * 3) (h:=j * 3) (cap:=c * 3) hA (by omega) (by omega) (by omega)
 rw[<- Nat.sub_mul,flat_cut,Nat.mul_one]at h
 have e:((l.drop i).take (j-i)).length=j-i:=by rw[List.length_take,List.length_drop];omega
 rw[e]
 by_cases c1:c=i
 ·subst c1
  rw[if_pos rfl]at h ⊢
  exact h
 ·rw[if_neg (by omega)]at h
  rw[if_neg c1]
  exact h
theorem seg_len {b:List UInt8}{fr at_:Nat}(h1:fr<=at_)(h2:at_<=b.length):(seg b fr at_).length=at_-fr:=by
 unfold seg
 rw[List.length_take,List.length_drop];omega
theorem cut_seg {W:World}{A:HP}{a:Option Addr}{c:Nat}{b:List UInt8}{i j:Nat}(hA:RdB W A a b.length (b.map Sl.B))(h1:i<=j)(h2:j<=b.length)(h3:b.length<=c):
  RdB W A (if c=i then a else a.map (·.add (i * 1))) (seg b i j).length ((seg b i j).map Sl.B):=by
 have h:=RdB.cut (l:=i) (h:=j) (cap:=c) hA h1 h2 h3
 rw[seg_len h1 h2]
 unfold seg
 rw[List.map_take,List.map_drop]
 exact h
theorem bv_len (level:Int)(x:Blk × Bv):(bvC level x).length=3:=rfl
theorem dblocks1 {W : World} {g1 g2 g3 g4 g5 g6 g7 : Nat} {oa pa a : Option Addr} {oc pc c fi to fr at_ : Nat} {level : Int} {l : List Pz} {b : List UInt8} {X : List (Blk × Bv)} (h1 : fi ≤ to) (h2 : to ≤ l.length) (h3 : l.length ≤ pc) (h4 : fr ≤ at_) (h5 : at_ ≤ b.length) (h6 : b.length ≤ c) (h7 : X.length ≤ 1099511627776) :
  Cn p_ 150 [.int .i64 (to : Int), .pointer (some ⟨g1, 0, none⟩), .pointer (some ⟨g2, 0, none⟩), .pointer (some ⟨g3, 0, none⟩), .pointer (some ⟨g4, 0, none⟩), .pointer (some ⟨g5, 0, none⟩), .pointer (some ⟨g6, 0, none⟩), .pointer (some ⟨g7, 0, none⟩)] W
   [pt g1 (.cells #[.slice oa X.length oc] 158), Sl 3 162 oa oc X.length (X.flatMap (bvC level)), pt g2 (.cells #[.slice pa l.length pc] 160), pt g3 (.cells #[.int .i64 (fi : Int)] 3), pt g4 (.cells #[.slice a b.length c] 23), pt g5 (.cells #[.int .i64 (fr : Int)] 3), pt g6 (.cells #[.int .i64 (at_ : Int)] 3), pt g7 (.cells #[.int .i64 level] 3)]
   (fun _ : Option Addr × Nat => .tuple #[])
   (fun q => [pt g1 (.cells #[.slice q.1 (X ++ [((((l.drop fi).take (to - fi)), seg b fr at_), ((if pc = fi then pa else pa.map (·.add (fi * 3)), pc - fi), (if c = fr then a else a.map (·.add (fr * 1)), c - fr)))]).length q.2] 158),
    Sl 3 162 q.1 q.2 (X ++ [((((l.drop fi).take (to - fi)), seg b fr at_), ((if pc = fi then pa else pa.map (·.add (fi * 3)), pc - fi), (if c = fr then a else a.map (·.add (fr * 1)), c - fr)))]).length ((X ++ [((((l.drop fi).take (to - fi)), seg b fr at_), ((if pc = fi then pa else pa.map (·.add (fi * 3)), pc - fi), (if c = fr then a else a.map (·.add (fr * 1)), c - fr)))]).flatMap (bvC level)),
    pt g2 (.cells #[.slice pa l.length pc] 160), pt g3 (.cells #[.int .i64 (to : Int)] 3), pt g4 (.cells #[.slice a b.length c] 23), pt g5 (.cells #[.int .i64 (at_ : Int)] 3), pt g6 (.cells #[.int .i64 (at_ : Int)] 3), pt g7 (.cells #[.int .i64 level] 3)]) := by
 (refine Shp.cn (Sg.g_ Tryz.call150 Tryz.func150 (an := { drs := [(0, .ofL [(0, 3), (1, 1), (2, 1), (3, 1), (4, 1), (5, 1), (6, 1), (7, 1), (8, 1), (9, 1), (10, 1), (11, 0), (12, 0), (13, 0)]), (1, .ofL [(0, 1), (1, 3), (2, 0), (3, 0)])] }) (os := [(0, [(11, [0])]), (1, [(2, [1])])])) fun F => ?_; simp only [ca_, na_])
 refine e_drS ?_
 (((refine' e_stD (v_ldN ?hc) ?hi ?_); (case hi => exact .pick (by repeat constructor) .nil); (case hc => repeat constructor))); refine ls_ ?_; refine ls_ ?_
 refine t_ (v_sl2 fi to rfl rfl h1 (by omega)) ?_
 refine ls_ ?_; refine ls_ ?_; refine ls_ ?_
 refine t_ (v_sl2 fr at_ rfl rfl h4 (by omega)) ?_
 refine ls_ ?_; refine t_ v_rv ?_
 have e1 : ((l.drop fi).take (to - fi)).length = to - fi := by rw [List.length_take, List.length_drop]; omega
 have e2 := seg_len h4 h5
 obtain ⟨nx, hnx⟩ : ∃ nx : Blk × Bv, nx = (((l.drop fi).take (to - fi), seg b fr at_), ((if pc = fi then pa else pa.map (·.add (fi * 3)), pc - fi), (if c = fr then a else a.map (·.add (fr * 1)), c - fr))) := ⟨_, rfl⟩
 have hv : bvV level nx = .agg #[.slice (if pc = fi then pa else pa.map (·.add (fi * 3))) (to - fi) (pc - fi), .slice (if c = fr then a else a.map (·.add (fr * 1))) (at_ - fr) (c - fr), .int .i64 level] := by
  rw [hnx, bvV, e1, e2]
 rw [← hnx, ← hv]
 refine e_bslS (n := 1) (vs := [bvV level nx]) rfl (by decide) rfl (by intro v hv; rw [List.mem_singleton.1 hv]; rfl) (by decide) fun gb => ?_
 refine ob_ ?_
 refine e_app (m := 1) (news := bvC level nx) (by repeat constructor) (src_pt (e' := 162) (by kernel_rfl) (by repeat constructor) (by rfl) (by intro u hu; simp [bvC] at hu; rcases hu with rfl | rfl | rfl <;> rfl)) (by omega) (by omega) fun a' c' => ?_
 refine sn_ ?_; refine e_drS ?_; (((refine' e_stD (v_ldN ?hc) ?hi ?_); (case hi => exact .pick (by repeat constructor) .nil); (case hc => repeat constructor))); refine sn_ ?_; refine ob_ ?_; refine sn_ ?_
 refine rt_ ((a', c')) ?_
 (try dsimp only)
 rw [List.length_append, List.flatMap_append]
 refine .pick (by repeat constructor) ?_
 exact im_
theorem BkOk.up {W:World}{AL AB:HP}{X:List (Blk × Bv)}{x:Blk × Bv}(h:∀y∈X,BkOk W AL AB y)(hx:BkOk W AL AB x):∀y∈X++[x],BkOk W AL AB y:=fun y hy=>by
 rcases List.mem_append.1 hy with c|c
 ·exact h y c
 ·rw[List.mem_singleton.1 c];exact hx
theorem shl_lvl {n:Nat}(h1:1<=n)(h2:n<=9):IntKind.i64.wrap (2 * 2^(min (IntKind.u64.wrap (n:Int)).toNat IntKind.i64.bits))=((2 * 2^n:Nat):Int)/\2 * 2^n<=4096:=by
 rcases(show n=1\/n=2\/n=3\/n=4\/n=5\/n=6\/n=7\/n=8\/n=9 by omega)with e|e|e|e|e|e|e|e|e <;> subst e <;> exact⟨by decide,by decide⟩
theorem dblocks {W:World}{a:Option Addr}{c:Nat}{level:Int}{b:List UInt8}{A:HP}(hA:RdB W A a b.length (b.map Sl.B))(hc:b.length<=c)(hb:b.length<=1048576)(hl:0<=level/\level<=9):
  Cn p_ 111 [.slice a b.length c,.int .i64 level] W [A] (fun q:(Option Addr × Nat) × (Option Addr × Nat) × List (Blk × Bv)=> .slice q.1.1 q.2.2.length q.1.2)
   (fun q=>[pu (q.2.2.map Prod.fst=blksF b level/\∀x∈q.2.2,BkOk W (Sl 3 209 q.2.1.1 q.2.1.2 (pcsL b level).length ((pcsL b level).flatMap pPz)) A x),Sl 3 162 q.1.1 q.1.2 q.2.2.length (q.2.2.flatMap (bvC level)),Sl 3 209 q.2.1.1 q.2.1.2 (pcsL b level).length ((pcsL b level).flatMap pPz),A]):=by
 (refine Shp.cn (Sg.g_ Tryz.call111 Tryz.func111 (an:={cuts:=[(9,[])],loops:=[(5,[28]),(13,[41])]})) fun F=>?_;simp only[ca_,na_])
 refine e_box1 fun g2=>?_
 refine e_box1 fun g3=>?_
 refine e_new1 fun g5=>?_
 have hpl:=pcsL_len b level
 refine e_cut0 ((ex fun q:Option Addr × Nat=>all [pt g5 (.cells #[.slice q.1 (pcsL b level).length q.2] 160),Sl 3 209 q.1 q.2 (pcsL b level).length ((pcsL b level).flatMap pPz)])::pt g2 (.cells #[.slice a b.length c] 23)::pt g3 (.cells #[.int .i64 level] 3)::A::F) ?_ ?_
 rotate_left
 ·refine ln_ ?_
  refine e_ask v_gtr .nil (fun h=>?_) (fun h=>?_)
  ·refine e_condT (ln_ ?_);refine ln_ ?_
   refine o_ (v_conv (q:= .u64)) ?_
   obtain⟨N,rfl⟩:=Int.eq_ofNat_of_zero_le hl.1
   obtain⟨s1,s2⟩:=shl_lvl (n:=N) (by omega) (by omega)
   refine o_ (v_shl (by simp[wrapu64 (show N<18446744073709551616 by omega)])) ?_
   rw[s1]
   refine c_ (pieces (w:=32768) (d:=2 * 2^N) hA hc hb (by omega) s2) fun _=>?_
   rename_i q
   obtain⟨qa,qc⟩:=q
   (try dsimp only)
   have hp:pcsL b (N:Int)=piecesF b 32768 (2 * 2^N):=by unfold pcsL;rw[if_pos h,Int.toNat_natCast]
   rw[<- hp]
   refine xt_ ?_;refine xt_ ?_;refine sn_ ?_
   refine e_sat (.ex (qa,qc) (.all ?_))
   refine nr_ ?_
   exact im_
  ·refine e_condF (ln_ ?_);refine o_ v_len ?_
   have hp:pcsL b level=lits b:=by unfold pcsL;rw[if_neg h]
   rw[hp]
   refine e_loop1 (fun m y=>(ex fun i:Nat=>ex fun q:Option Addr × Nat=>all [pu (m+i=b.length/\y= .int .i64 (i:Int)),pt g5 (.cells #[.slice q.1 (lits (b.take i)).length q.2] 160),Sl 3 209 q.1 q.2 (lits (b.take i)).length ((lits (b.take i)).flatMap pPz)])::pt g2 (.cells #[.slice a b.length c] 23)::pt g3 (.cells #[.int .i64 level] 3)::A::F) b.length ?_ ?_
   ·refine .ex 0 (.ex (none,0) (.all ?_))
    refine nr_ ?_
    refine .pu ⟨by omega,rfl⟩ (.pick (by repeat constructor) ?_)
    refine imp_nil ?_
    exact im_
   intro m ds y
   refine e_ex .here fun i=>e_ex .here fun q=>e_all .here ?_
   obtain⟨qa,qc⟩:=q
   refine nr_ ?_
   refine e_pu .here fun hk=>?_
   (try dsimp only at hk)
   obtain⟨hmi,rfl⟩:=hk
   (try dsimp only)
   refine e_ask v_lss .nil (fun h2=>?_) (fun h2=>?_)
   ·have hil:i<b.length:=by omega
    refine e_condT ?_
    obtain⟨g,o,ha,_⟩:=hA.at_ (by omega)
    have hA2:=hA
    rw[ha]at hA2 ⊢
    refine o_ (v_ia1 i rfl hil) ?_
    refine p_op (v_ldRd (v:=Sl.B b[i]) hA2 (by rw[List.getElem?_map,List.getElem?_eq_getElem hil];rfl)) ?_
    refine ln_ ?_;refine o_ v_rv ?_
    refine e_bslS (n:=1) (vs:=[vPz ⟨0,0,b[i]⟩]) rfl (by decide) rfl (by intro v hv;rw[List.mem_singleton.1 hv];rfl) (by decide) fun gb=>?_
    have hll:(lits (b.take i)).length=i:=by unfold lits;rw[List.length_map,List.length_take];omega
    refine e_app (m:=1) (news:=pPz ⟨0,0,b[i]⟩) (by repeat constructor) (src_pt (e':=209) (by kernel_rfl) .here (by rfl) (by intro u hu;simp[pPz]at hu;rcases hu with rfl|rfl <;> rfl)) (by omega) (by omega) fun a' c'=>?_
    refine sn_ ?_;refine ad_ ?_
    refine e_next1 (m-1) (by omega) (.ex (i+1) (.ex (a',c') (.all ?_)))
    refine nr_ ?_
    have e1:lits (b.take (i+1))=lits (b.take i)++[⟨0,0,b[i]⟩]:=by unfold lits;rw[List.take_succ_eq_append_getElem hil,List.map_append];rfl
    rw[e1,List.length_append,List.flatMap_append]
    refine .pu ⟨by omega,rfl⟩ ?_
    refine .pick (by repeat constructor) (.pick (by repeat constructor) ?_)
    rw[<- ha]
    exact im_
   ·have:i=b.length:=by omega
    subst this
    rw[List.take_length]
    refine e_condF (e_sat (.ex (qa,qc) (.all ?_)))
    refine nr_ ?_
    exact im_
 intro ds
 refine e_ex .here fun q=>e_all .here ?_
 obtain⟨pa,pc⟩:=q
 refine nr_ ?_
 (try dsimp only)
 obtain⟨hg0,hend⟩:=pcsL_gPs b level
 have hbf:cutF b level (pcsL b level) [] 0 0 []=blksF b level:=rfl
 generalize pcsL b level=l at *
 refine e_slfacts (by repeat constructor) fun f1 f2 f3 f4=>?_
 have hpc:l.length<=pc:=f2
 have hPL:RdB W (Sl 3 209 pa pc l.length (l.flatMap pPz)) pa (l.length * 3) (l.flatMap pPz):=rd_slG f1 f4
 refine e_new1 fun g8=>?_
 refine e_new1 fun g9=>?_
 refine e_new1 fun g10=>?_
 refine e_new1 fun g11=>?_
 refine sn_ ?_;refine sn_ ?_;refine sn_ ?_
 refine o_ v_mkF (ln_ ?_);refine o_ v_len ?_
 refine e_loop1 (fun m y=>(ex fun i:Nat=>ex fun st:(Option Addr × Nat) × Nat × Nat=>ex fun X:List (Blk × Bv)=>all [pu (m+i=l.length/\y= .int .i64 (i:Int)/\i<=l.length/\st.2.1<=i/\st.2.2<=endN 0 (l.take i)/\X.length<=i/\cutF b level (l.drop i) ((l.drop st.2.1).take (i-st.2.1)) st.2.2 (endN 0 (l.take i)) (X.map Prod.fst)=blksF b level/\∀x∈X,BkOk W (Sl 3 209 pa pc l.length (l.flatMap pPz)) A x),
   pt g8 (.cells #[.slice st.1.1 X.length st.1.2] 158),Sl 3 162 st.1.1 st.1.2 X.length (X.flatMap (bvC level)),pt g9 (.cells #[.int .i64 (st.2.1:Int)] 3),pt g10 (.cells #[.int .i64 (st.2.2:Int)] 3),pt g11 (.cells #[.int .i64 (endN 0 (l.take i):Int)] 3)])::
   pt g5 (.cells #[.slice pa l.length pc] 160)::(Sl 3 209 pa pc l.length (l.flatMap pPz))::pt g2 (.cells #[.slice a b.length c] 23)::pt g3 (.cells #[.int .i64 level] 3)::A::F) l.length ?_ ?_
 ·refine .ex 0 (.ex ((none,0),0,0) (.ex [] (.all ?_)))
  refine nr_ ?_
  refine .pu ⟨by omega,rfl,by omega,by omega,by omega,by simp,by simpa [endN]using hbf,by simp⟩ ?_
  refine .pick (by repeat constructor) ?_
  refine imp_nil ?_
  exact im_
 intro m ds2 y
 refine e_ex .here fun i=>e_ex .here fun st=>e_ex .here fun X=>e_all .here ?_
 obtain⟨⟨oa,oc⟩,fi,fr⟩:=st
 refine nr_ ?_
 refine e_pu .here fun hk=>?_
 (try dsimp only at hk)
 obtain⟨hmi,rfl,hil,hfi,hfr,hXi,hcut,hok⟩:=hk
 (try dsimp only)
 have hsp:gPs b 0 (l.take i++l.drop i):=by rw[List.take_append_drop];exact hg0
 obtain⟨hs1,hs2⟩:=gPs_append.1 hsp
 have hle:=endN_le hs1 (by omega)
 obtain⟨e,he⟩:∃e,e=endN 0 (l.take i):=⟨_,rfl⟩
 rw[<- he]at hcut hfr hs2 hle ⊢
 refine e_ask v_lss .nil (fun h=>?_) (fun h=>?_)
 ·have hi2:i<l.length:=by omega
  refine e_condT ?_
  rw[List.drop_eq_getElem_cons hi2]at hcut hs2
  obtain⟨hs3,hs4,_⟩:=hs2
  obtain⟨q1,q2,q3⟩:=gP_end hs4 hs3
  have hpn:=pzN_pos l[i]
  have hLl:((l.drop fi).take (i-fi)).length=i-fi:=by rw[List.length_take,List.length_drop];omega
  have hLp:(l.drop fi).take (i+1-fi)=(l.drop fi).take (i-fi)++[l[i]]:=by
   rw[show i+1-fi=(i-fi)+1 by omega,List.take_succ_eq_append_getElem (by rw[List.length_drop];omega),List.getElem_drop]
   congr 3
   omega
  have he1:endN 0 (l.take (i+1))=e+pzN l[i]:=by rw[List.take_succ_eq_append_getElem hi2,endN_append,<- he];rfl
  rw[cutF,hLl,show i-fi+1=i+1-fi by omega]at hcut
  obtain⟨g,o,ha,_⟩:=hPL.at_ (by omega)
  rw[ha]
  refine o_ (v_ia i rfl hi2) ?_
  have ld:RunV p_ W [(Sl 3 209 pa pc l.length (l.flatMap pPz))] (sLoad 209 (.pointer (some ⟨g,o+i * 3,none⟩))) (vPz l[i]):=v_ldRdG (vs:=pPz l[i]) (by have h:=hPL;rw[ha]at h ⊢;exact h) rfl (fun j hj=>pz_get hi2 j hj)
  rw[ha]at ld
  refine p_op ld ?_
  rw[<- ha]
  unfold vPz
  refine e_newA fun g=>?_;refine sg_ ?_;refine ln_ ?_;refine o_ v_fa0 (ln_ ?_)
  refine o_ v_max ?_
  have e3:(if(1:Int)<(l[i]).len then(l[i]).len else 1)=(pzN l[i]:Int):=by rw[q3];split <;> split <;> omega
  rw[e3]
  refine ad_ ?_
  rw[show(e:Int)+(pzN l[i]:Int)=((e+pzN l[i]:Nat):Int)from rfl]
  refine sn_ ?_;refine ln_ ?_;refine ln_ ?_;refine sb_ ?_;refine ln_ ?_
  refine o_ v_eql ?_
  by_cases l0:level=0
  ·rw[dT_ l0]
   refine e_gdT (e_gdT (o_ v_eql ?_))
   by_cases n0:((e+pzN l[i]:Nat):Int)-(fr:Int)=30000
   ·rw[dT_ n0]
    refine o_ v_pickT (e_gdF1 (e_gdF1 (e_gdF1 (e_gdU (e_gdU (e_gdU (e_gdU (e_gdU (e_gdU (e_gdU (e_gdU (e_gdU (e_gdF1 (o_ v_pickT (e_condT (ad_ ?_))))))))))))))))
    rw[if_pos (show fullC level (i+1-fi) (e+pzN l[i]-fr)from .inl ⟨l0,by omega⟩)]at hcut
    rw[show(i:Int)+1=((i+1:Nat):Int)from rfl]
    refine e_callC (dblocks1 (fi:=fi) (to:=i+1) (fr:=fr) (at_:=e+pzN (l[i])) (l:=l) (b:=b) (X:=X) (by omega) (by omega) hpc (by omega) (by omega) hc (by omega)) (by(repeat(first|exact Picks.nil|(apply Picks.cons;(focus repeat constructor))))) fun q=>?_
    obtain⟨qa,qc⟩:=q
    (try dsimp only)
    refine nr_ ?_
    refine ad_ ?_
    refine e_next1 (m-1) (by omega) (.ex (i+1) (.ex ((qa,qc),i+1,e+pzN (l[i])) (.ex (X++[((((l.drop fi).take (i+1-fi)),seg b fr (e+pzN (l[i]))),((if pc=fi then pa else pa.map (·.add (fi * 3)),pc-fi),(if c=fr then a else a.map (·.add (fr * 1)),c-fr)))]) (.all ?_))))
    refine nr_ ?_
    refine .pu ⟨by omega,rfl,by omega,by omega,by omega,by simp;omega,?_,(BkOk.up hok ⟨by
      have:=cut_pz (i:=fi) (j:=i+1) (c:=pc) hPL (by omega) (by omega) hpc
      exact this,by
      have:=cut_seg (i:=fr) (j:=(e+pzN (l[i]))) (c:=c) hA (by omega) (by omega) hc
      exact this,by
      show(seg b fr (e+pzN (l[i]))).length<=c-fr
      rw[seg_len (by omega) (by omega)];omega⟩)⟩ ?_
    ·rw[Nat.sub_self,List.take_zero,he1,List.map_append,List.map_singleton,hLp]
     exact hcut
    rw[he1]
    exact im_
   ·rw[dF_ n0]
    refine o_ v_pickT (e_gdT (ln_ ?_));refine e_gdT (o_ v_gtr ?_)
    rw[dF_ (by omega)]
    refine e_gdT (e_gdF2 (e_gdF2 (e_gdF2 (e_gdF2 (e_gdF2 (e_gdF2 (e_gdU (e_gdU (e_gdF2 (e_gdT (o_ v_pickF (o_ v_pickF (e_condF (ad_ ?_))))))))))))))
    rw[if_neg (show ¬fullC level (i+1-fi) (e+pzN l[i]-fr)from fun h=>by rcases h with h|h <;> omega)]at hcut
    refine e_next1 (m-1) (by omega) (.ex (i+1) (.ex ((oa,oc),fi,fr) (.ex X (.all ?_))))
    refine nr_ ?_
    refine .pu ⟨by omega,rfl,by omega,by omega,by omega,by omega,?_,hok⟩ ?_
    ·rw[he1,hLp]
     exact hcut
    rw[he1]
    exact im_
  ·rw[dF_ l0]
   refine e_gdF2 (e_gdF2 (o_ v_pickF (e_gdT (ln_ ?_))));refine e_gdT (o_ v_gtr ?_)
   rw[dT_ (by omega)]
   refine e_gdT (e_gdT (e_gdT (ad_ ?_)));refine e_gdT (ln_ ?_);refine e_gdT (sb_ ?_);refine e_gdT (o_ v_eql ?_)
   by_cases k0:(i:Int)+1-(fi:Int)=8192
   ·rw[dT_ k0]
    refine e_gdT (e_gdF1 (e_gdF1 (e_gdT (o_ v_pickT (e_gdT (o_ v_pickT (o_ v_pickF (e_condT (ad_ ?_)))))))))
    rw[if_pos (show fullC level (i+1-fi) (e+pzN l[i]-fr)from .inr ⟨by omega,.inl (by omega)⟩)]at hcut
    rw[show(i:Int)+1=((i+1:Nat):Int)from rfl]
    refine e_callC (dblocks1 (fi:=fi) (to:=i+1) (fr:=fr) (at_:=e+pzN (l[i])) (l:=l) (b:=b) (X:=X) (by omega) (by omega) hpc (by omega) (by omega) hc (by omega)) (by(repeat(first|exact Picks.nil|(apply Picks.cons;(focus repeat constructor))))) fun q=>?_
    obtain⟨qa,qc⟩:=q
    (try dsimp only)
    refine nr_ ?_
    refine ad_ ?_
    refine e_next1 (m-1) (by omega) (.ex (i+1) (.ex ((qa,qc),i+1,e+pzN (l[i])) (.ex (X++[((((l.drop fi).take (i+1-fi)),seg b fr (e+pzN (l[i]))),((if pc=fi then pa else pa.map (·.add (fi * 3)),pc-fi),(if c=fr then a else a.map (·.add (fr * 1)),c-fr)))]) (.all ?_))))
    refine nr_ ?_
    refine .pu ⟨by omega,rfl,by omega,by omega,by omega,by simp;omega,?_,(BkOk.up hok ⟨by
      have:=cut_pz (i:=fi) (j:=i+1) (c:=pc) hPL (by omega) (by omega) hpc
      exact this,by
      have:=cut_seg (i:=fr) (j:=(e+pzN (l[i]))) (c:=c) hA (by omega) (by omega) hc
      exact this,by
      show(seg b fr (e+pzN (l[i]))).length<=c-fr
      rw[seg_len (by omega) (by omega)];omega⟩)⟩ ?_
    ·rw[Nat.sub_self,List.take_zero,he1,List.map_append,List.map_singleton,hLp]
     exact hcut
    rw[he1]
    exact im_
   ·rw[dF_ k0]
    refine e_gdT (e_gdT (e_gdT (o_ v_gtr ?_)))
    by_cases n0:30000<((e+pzN l[i]:Nat):Int)-(fr:Int)
    ·rw[dT_ n0]
     refine e_gdT (o_ v_pickF (e_gdT (o_ v_pickT (o_ v_pickF (e_condT (ad_ ?_))))))
     rw[if_pos (show fullC level (i+1-fi) (e+pzN l[i]-fr)from .inr ⟨by omega,.inr (by omega)⟩)]at hcut
     rw[show(i:Int)+1=((i+1:Nat):Int)from rfl]
     refine e_callC (dblocks1 (fi:=fi) (to:=i+1) (fr:=fr) (at_:=e+pzN (l[i])) (l:=l) (b:=b) (X:=X) (by omega) (by omega) hpc (by omega) (by omega) hc (by omega)) (by(repeat(first|exact Picks.nil|(apply Picks.cons;(focus repeat constructor))))) fun q=>?_
     obtain⟨qa,qc⟩:=q
     (try dsimp only)
     refine nr_ ?_
     refine ad_ ?_
     refine e_next1 (m-1) (by omega) (.ex (i+1) (.ex ((qa,qc),i+1,e+pzN (l[i])) (.ex (X++[((((l.drop fi).take (i+1-fi)),seg b fr (e+pzN (l[i]))),((if pc=fi then pa else pa.map (·.add (fi * 3)),pc-fi),(if c=fr then a else a.map (·.add (fr * 1)),c-fr)))]) (.all ?_))))
     refine nr_ ?_
     refine .pu ⟨by omega,rfl,by omega,by omega,by omega,by simp;omega,?_,(BkOk.up hok ⟨by
       have:=cut_pz (i:=fi) (j:=i+1) (c:=pc) hPL (by omega) (by omega) hpc
       exact this,by
       have:=cut_seg (i:=fr) (j:=(e+pzN (l[i]))) (c:=c) hA (by omega) (by omega) hc
       exact this,by
       show(seg b fr (e+pzN (l[i]))).length<=c-fr
       rw[seg_len (by omega) (by omega)];omega⟩)⟩ ?_
     ·rw[Nat.sub_self,List.take_zero,he1,List.map_append,List.map_singleton,hLp]
      exact hcut
     rw[he1]
     exact im_
    ·rw[dF_ n0]
     refine e_gdT (o_ v_pickF (e_gdT (o_ v_pickT (o_ v_pickF (e_condF (ad_ ?_))))))
     rw[if_neg (show ¬fullC level (i+1-fi) (e+pzN l[i]-fr)from fun h=>by rcases h with h|⟨_,h|h⟩ <;> omega)]at hcut
     refine e_next1 (m-1) (by omega) (.ex (i+1) (.ex ((oa,oc),fi,fr) (.ex X (.all ?_))))
     refine nr_ ?_
     refine .pu ⟨by omega,rfl,by omega,by omega,by omega,by omega,?_,hok⟩ ?_
     ·rw[he1,hLp]
      exact hcut
     rw[he1]
     exact im_
 ·have hie:i=l.length:=by omega
  subst hie
  rw[List.take_length]at he
  rw[List.drop_length,cutF]at hcut
  have hLl:((l.drop fi).take (l.length-fi)).length=l.length-fi:=by rw[List.length_take,List.length_drop];omega
  refine e_condF (ln_ ?_);refine ln_ ?_;refine o_ v_len ?_
  by_cases f0:(fi:Int)<(l.length:Int)
  ·refine o_ v_lss ?_
   rw[dT_ f0]
   refine e_gdF1 (e_gdF1 (e_gdF1 (o_ v_pickT (e_condT (ln_ ?_)))));refine o_ v_len ?_
   rw[if_pos (show(l.drop fi).take (l.length-fi)≠[]\/X.map Prod.fst=[]from .inl fun c=>by rw[c]at hLl;simp at hLl;omega)]at hcut
   refine e_callC (dblocks1 (fi:=fi) (to:=l.length) (fr:=fr) (at_:=e) (l:=l) (b:=b) (X:=X) (by omega) (by omega) hpc (by omega) (by omega) hc (by omega)) (by(repeat(first|exact Picks.nil|(apply Picks.cons;(focus repeat constructor))))) fun q=>?_
   obtain⟨qa,qc⟩:=q
   (try dsimp only)
   refine nr_ ?_
   refine ln_ ?_
   refine e_ret ((qa,qc),(pa,pc),X++[((((l.drop fi).take (l.length-fi)),seg b fr e),((if pc=fi then pa else pa.map (·.add (fi * 3)),pc-fi),(if c=fr then a else a.map (·.add (fr * 1)),c-fr)))]) rfl ?_
   refine nr_ ?_
   refine .pu ⟨by rw[List.map_append,List.map_singleton];exact hcut,(BkOk.up hok ⟨by
     have:=cut_pz (i:=fi) (j:=l.length) (c:=pc) hPL (by omega) (by omega) hpc
     exact this,by
     have:=cut_seg (i:=fr) (j:=e) (c:=c) hA (by omega) (by omega) hc
     exact this,by
     show(seg b fr e).length<=c-fr
     rw[seg_len (by omega) (by omega)];omega⟩)⟩ ?_
   exact im_
  ·refine o_ v_lss ?_
   rw[dF_ f0]
   refine e_gdT (ln_ ?_);refine e_gdT (o_ v_len (e_gdT (o_ v_eql ?_)))
   by_cases x0:(X.length:Int)=0
   ·rw[dT_ x0]
    refine o_ v_pickF (e_condT (ln_ ?_));refine o_ v_len ?_
    rw[if_pos (show(l.drop fi).take (l.length-fi)≠[]\/X.map Prod.fst=[]from .inr (by rw[List.eq_nil_of_length_eq_zero (show X.length=0 by omega)];rfl))]at hcut
    refine e_callC (dblocks1 (fi:=fi) (to:=l.length) (fr:=fr) (at_:=e) (l:=l) (b:=b) (X:=X) (by omega) (by omega) hpc (by omega) (by omega) hc (by omega)) (by(repeat(first|exact Picks.nil|(apply Picks.cons;(focus repeat constructor))))) fun q=>?_
    obtain⟨qa,qc⟩:=q
    (try dsimp only)
    refine nr_ ?_
    refine ln_ ?_
    refine e_ret ((qa,qc),(pa,pc),X++[((((l.drop fi).take (l.length-fi)),seg b fr e),((if pc=fi then pa else pa.map (·.add (fi * 3)),pc-fi),(if c=fr then a else a.map (·.add (fr * 1)),c-fr)))]) rfl ?_
    refine nr_ ?_
    refine .pu ⟨by rw[List.map_append,List.map_singleton];exact hcut,(BkOk.up hok ⟨by
      have:=cut_pz (i:=fi) (j:=l.length) (c:=pc) hPL (by omega) (by omega) hpc
      exact this,by
      have:=cut_seg (i:=fr) (j:=e) (c:=c) hA (by omega) (by omega) hc
      exact this,by
      show(seg b fr e).length<=c-fr
      rw[seg_len (by omega) (by omega)];omega⟩)⟩ ?_
    exact im_
   ·rw[dF_ x0]
    refine o_ v_pickF (e_condF (ln_ ?_))
    rw[if_neg (fun c=>by rcases c with c|c;exact c (List.eq_nil_of_length_eq_zero (by omega));have:=congrArg List.length c;simp at this;rw[this]at x0;exact x0 rfl)]at hcut
    refine e_ret ((oa,oc),(pa,pc),X) rfl ?_
    refine .pu ⟨hcut,hok⟩ ?_
    exact im_
structure Em where
 w:Bool
 s:Int
 n:Int
 x:Int
def emP (p:Pz):List Em:=if p.len=0 then [⟨false,p.c.toNat,0,0⟩]else [⟨false,(lenS p.len).1,(lenS p.len).2.1,(lenS p.len).2.2⟩,⟨true,(disS p.dist).1,(disS p.dist).2.1,(disS p.dist).2.2⟩]
def emis (ps:List Pz):List Em:=ps.flatMap emP++[⟨false,256,0,0⟩]
def goodP (p:Pz):Prop:=(p.len=0/\p.dist=0)\/(3<=p.len/\p.len<=258/\1<=p.dist/\p.dist<=32768)
def goodE (e:Em):Prop:=0<=e.s/\(e.w=false->e.s<=285)/\(e.w=true->e.s<=29)/\∃k x:Nat,e.n=k/\e.x=x/\k<=13/\x<2^k
theorem emP_good {p:Pz}(h:goodP p):∀e∈emP p,goodE e:=by
 intro e he
 unfold emP at he
 by_cases h0:p.len=0
 ·rw[if_pos h0,List.mem_singleton]at he
  subst he
  have:=p.c.toNat_lt
  exact⟨by simp,by simp;omega,by simp,0,0,rfl,rfl,by omega,by decide⟩
 ·rw[if_neg h0]at he
  obtain⟨c1,c2,c3,c4⟩:3<=p.len/\p.len<=258/\1<=p.dist/\p.dist<=32768:=by
   rcases h with h|h
   ·exact absurd h.1 h0
   ·exact h
  obtain⟨s,x,k,hs,h1,h2,h3,h4,h5,h6,h7⟩:=lenS_ok c1 c2
  obtain⟨t,y,j,ht,g1,g2,g3,g4,g5,g6⟩:=disS_ok c3 c4
  rw[hs,ht]at he
  simp only[List.mem_cons,List.not_mem_nil,or_false]at he
  rcases he with rfl|rfl
  ·exact⟨by simp,by simp;omega,by simp,k,x,rfl,rfl,by omega,h5⟩
  ·exact⟨by simp,by simp,by simp;omega,j,y,rfl,rfl,by omega,g4⟩
theorem emis_good {ps:List Pz}(h:∀p∈ps,goodP p):∀e∈emis ps,goodE e:=by
 intro e he
 unfold emis at he
 rcases List.mem_append.1 he with he|he
 ·obtain⟨p,hp,he⟩:=List.mem_flatMap.1 he
  exact emP_good (h p hp) e he
 ·rw[List.mem_singleton]at he
  subst he
  exact⟨by decide,by decide,by decide,0,0,rfl,rfl,by omega,by decide⟩
structure SetV where
 l:Option Addr
 ln:Nat
 lc:Nat
 c:Option Addr
 cn:Nat
 cc:Nat
def setV (s:SetV):Value:= .agg #[.slice s.l s.ln s.lc,.slice s.c s.cn s.cc]
theorem newSet {W:World}{a:Option Addr}{cap:Nat}{l:List Int}{A:HP}(hr:RdB W A a l.length (l.map I))(hl:l.length<=4611686018427387904):
  Cn p_ 200 [.slice a l.length cap] W [A] (fun q:Option Addr × Nat=>setV ⟨a,l.length,cap,q.1,(cdL l).length,q.2⟩) (fun q=>[Sl 1 3 q.1 q.2 (cdL l).length ((cdL l).map I),A]):=by
 (refine Shp.cn (Sg.g_ Tryz.call200 Tryz.func200) fun F=>?_;simp only[ca_,na_])
 refine e_newA fun g=>?_
 refine c_ (codes_ hr hl) fun _=>?_
 rename_i q
 obtain⟨qa,qc⟩:=q
 (try dsimp only)
 refine xt_ ?_;refine xt_ ?_;refine o_ v_rv ?_;refine sg_ ?_;(((refine' e_stS (v_resA ?hn) ?hi ?_);(case hi=>exact im_);(case hn=>rfl)))
 refine rt_ ((qa,qc)) ?_
 exact im_
theorem symbols_ {W:World} {f:FuncId} {cap:List Value} {J:List Em->HP} {AL:HP} {pa ba:Option Addr} {pc bn bc:Nat} {level:Int} {ps:List Pz} {va vb:SetV} (hA:RdB W AL pa (ps.length * 3) (ps.flatMap pPz)) (hl:ps.length<=1048576) (hg:∀p∈ps,goodP p)
  (hf:∀(d:List Em) (e:Em) (r:List Em),emis ps=d++e::r->Cn p_ f ([setV (if e.w then vb else va),.int .i64 e.s,.int .i64 e.n,.int .i64 e.x]++cap) W [J d] (fun _:Unit=> .tuple #[]) (fun _=>[J (d++[e])])):
  Cn p_ 199 [.agg #[.slice pa ps.length pc,.slice ba bn bc,.int .i64 level],setV va,setV vb,.func (.func f) #[] cap.toArray] W [AL,J []] (fun _:Unit=> .tuple #[]) (fun _=>[AL,J (emis ps)]):=by
 unfold setV at *
 (refine Shp.cn (Sg.g_ Tryz.call199 Tryz.func199 (an:={loops:=[(2,[16])]})) fun F=>?_;simp only[ca_,na_])
 refine e_boxA fun b4=>?_
 refine e_boxA fun b5=>?_
 refine e_boxA fun b6=>?_
 refine o_ v_fa0 (ln_ ?_);refine o_ v_len ?_
 have lda:RunV p_ W [pt b5 (.cells #[.slice va.l va.ln va.lc,.slice va.c va.cn va.cc] 258)] (sLoad 258 (.pointer (some ⟨b5,0,none⟩))) (.agg #[.slice va.l va.ln va.lc,.slice va.c va.cn va.cc]):=v_ldAgg rfl
 have ldb:RunV p_ W [pt b6 (.cells #[.slice vb.l vb.ln vb.lc,.slice vb.c vb.cn vb.cc] 258)] (sLoad 258 (.pointer (some ⟨b6,0,none⟩))) (.agg #[.slice vb.l vb.ln vb.lc,.slice vb.c vb.cn vb.cc]):=v_ldAgg rfl
 refine e_loop1 (fun m y=>(ex fun i:Nat=>all [pu (m+i=ps.length/\y= .int .i64 (i:Int)),J ((ps.take i).flatMap emP)])::AL::pt b5 (.cells #[.slice va.l va.ln va.lc,.slice va.c va.cn va.cc] 258)::pt b6 (.cells #[.slice vb.l vb.ln vb.lc,.slice vb.c vb.cn vb.cc] 258)::F) ps.length ?_ ?_
 ·refine .ex 0 (.all ?_)
  refine nr_ ?_
  refine .pu ⟨by omega,rfl⟩ ?_
  exact im_
 intro m ds y
 refine e_ex .here fun i=>e_all .here ?_
 refine nr_ ?_
 refine e_pu .here fun hk=>?_
 obtain⟨hmi,rfl⟩:=hk
 refine e_ask v_lss .nil (fun h=>?_) (fun h=>?_)
 ·have hil:i<ps.length:=by omega
  have hgp:=hg _ (List.getElem_mem hil)
  have htk:(ps.take (i+1)).flatMap emP=(ps.take i).flatMap emP++emP ps[i]:=by rw[List.take_succ_eq_append_getElem hil,List.flatMap_append];simp
  have hem:emis ps=(ps.take i).flatMap emP++(emP ps[i]++((ps.drop (i+1)).flatMap emP++[⟨false,256,0,0⟩])):=by
   unfold emis
   rw[<- List.append_assoc,<- List.append_assoc,<- htk,<- List.flatMap_append,List.take_append_drop]
  refine e_condT ?_
  obtain⟨g,o,rfl,_⟩:=hA.at_ (by omega)
  refine o_ (v_ia i rfl hil) ?_
  have ld:RunV p_ W [AL] (sLoad 209 (.pointer (some ⟨g,o+i * 3,none⟩))) (vPz ps[i]):=v_ldRdG (vs:=pPz ps[i]) hA rfl (fun j hj=>pz_get hil j hj)
  refine p_op ld ?_
  generalize ps[i]=p at *
  unfold vPz
  refine e_newA fun b8=>?_
  refine e_stAgg .here (by rfl) (by rfl) (by intro u hu;simp at hu;rcases hu with rfl|rfl|rfl <;> rfl) ?_
  have lf0:RunV p_ W [pt b8 (.cells #[I p.len,I p.dist,Sl.B p.c] 209 (0,0))] (sLoad 3 (.pointer (some ⟨b8,0,none⟩))) (.int .i64 p.len):=v_ld rfl
  have lf1:RunV p_ W [pt b8 (.cells #[I p.len,I p.dist,Sl.B p.c] 209 (0,0))] (sLoad 3 (.pointer (some ⟨b8,1,none⟩))) (.int .i64 p.dist):=v_ld rfl
  have lf2:RunV p_ W [pt b8 (.cells #[I p.len,I p.dist,Sl.B p.c] 209 (0,0))] (sLoad 5 (.pointer (some ⟨b8,2,none⟩))) (.int .u8 p.c.toNat):=v_ld rfl
  refine o_ v_fa0 (p_op lf0 ?_)
  refine o_ v_eql ?_
  by_cases l0:p.len=0
  ·rw[dT_ l0]
   refine e_condT (p_op lda ?_)
   refine o_ v_fa0 (p_op lf2 ?_)
   have hc:=p.c.toNat_lt
   refine o_ (v_conv (q:= .i64)) ?_
   rw[w64 (by omega) (by omega)]
   have he:emP p=[⟨false,p.c.toNat,0,0⟩]:=by unfold emP;rw[if_pos l0]
   rw[he]at htk hem
   refine e_callC (hf _ _ _ hem) (by(repeat(first|exact Picks.nil|(apply Picks.cons;(focus repeat constructor))))) fun _=>?_
   refine nr_ ?_
   refine ad_ ?_
   refine e_next1 (m-1) (by omega) (.ex (i+1) (.all ?_))
   refine nr_ ?_
   rw[htk]
   refine .pu ⟨by omega,rfl⟩ ?_
   exact im_
  ·rw[dF_ l0]
   have he:emP p=[⟨false,(lenS p.len).1,(lenS p.len).2.1,(lenS p.len).2.2⟩,⟨true,(disS p.dist).1,(disS p.dist).2.1,(disS p.dist).2.2⟩]:=by unfold emP;rw[if_neg l0]
   rw[he]at htk hem
   have hbd:0<=p.len/\0<=p.dist:=by unfold goodP at hgp;omega
   refine e_condF (o_ v_fa0 (p_op lf0 ?_))
   refine c_ (lzLength (n:=p.len) (by omega)) fun _=>?_
   refine xt_ ?_;refine xt_ ?_;refine xt_ ?_;refine lg_ ?_
   refine e_callC (hf _ _ _ hem) (by(repeat(first|exact Picks.nil|(apply Picks.cons;(focus repeat constructor))))) fun _=>?_
   refine nr_ ?_
   refine o_ v_fa0 (p_op lf1 ?_)
   refine c_ (lzDistance (n:=p.dist) (by omega)) fun _=>?_
   refine xt_ ?_;refine xt_ ?_;refine xt_ ?_;refine lg_ ?_
   refine e_callC (hf ((ps.take i).flatMap emP++[⟨false,(lenS p.len).1,(lenS p.len).2.1,(lenS p.len).2.2⟩]) ⟨true,(disS p.dist).1,(disS p.dist).2.1,(disS p.dist).2.2⟩ ((ps.drop (i+1)).flatMap emP++[⟨false,256,0,0⟩]) (by rw[hem];simp)) (by(repeat(first|exact Picks.nil|(apply Picks.cons;(focus repeat constructor))))) fun _=>?_
   refine nr_ ?_
   refine ad_ ?_
   refine e_next1 (m-1) (by omega) (.ex (i+1) (.all ?_))
   refine nr_ ?_
   rw[htk]
   refine .pu ⟨by omega,rfl⟩ ?_
   rw[List.append_assoc]
   exact im_
 ·have hie:i=ps.length:=by omega
  subst hie
  rw[List.take_length]
  refine e_condF (p_op lda ?_)
  refine e_callC (hf (ps.flatMap emP) ⟨false,256,0,0⟩ [] rfl) (by(repeat(first|exact Picks.nil|(apply Picks.cons;(focus repeat constructor))))) fun _=>?_
  refine nr_ ?_
  refine rt_ () ?_
  unfold emis
  exact im_
theorem e_andS {W:World}{L:List HP}{A B:WP}(h1:Ent W L A)(h2:Ent W L B):Ent W L (andS A B):=fun w hw=>⟨h1 w hw,h2 w hw⟩
def cntE (w:Bool)(d:List Em)(s:Nat):Nat:=d.countP fun e=>decide (e.w=w/\e.s=(s:Int))
theorem cntE_le (w:Bool)(d:List Em)(s:Nat):cntE w d s<=d.length:=List.countP_le_length
theorem cntE_snoc (w:Bool)(d:List Em)(e:Em)(s:Nat):cntE w (d++[e]) s=cntE w d s+if e.w=w/\e.s=(s:Int)then 1 else 0:=by
 unfold cntE
 rw[List.countP_append]
 congr 1
 by_cases h:e.w=w/\e.s=(s:Int)
 ·rw[if_pos h];simp[h.1,h.2]
 ·rw[if_neg h]
  rw[List.countP_cons_of_neg (by simpa using h)];rfl
theorem emP_cnt (p:Pz)(s:Nat):cntE false (emP p) s=(if symA p=(s:Int)then 1 else 0)/\cntE true (emP p) s=(if p.len≠0/\(disS p.dist).1=(s:Int)then 1 else 0):=by
 unfold cntE emP symA
 by_cases h0:p.len=0
 ·rw[if_pos h0,if_pos h0]
  constructor
  ·by_cases c:(p.c.toNat:Int)=(s:Int)
   ·rw[if_pos c,List.countP_cons_of_pos (by simpa using c)];rfl
   ·rw[if_neg c,List.countP_cons_of_neg (by simpa using c)];rfl
  ·rw[if_neg (fun c=>c.1 h0),List.countP_cons_of_neg (by simp)];rfl
 ·rw[if_neg h0,if_neg h0]
  constructor
  ·by_cases c:(lenS p.len).1=(s:Int)
   ·rw[if_pos c,List.countP_cons_of_pos (by simpa using c),List.countP_cons_of_neg (by simp)];rfl
   ·rw[if_neg c,List.countP_cons_of_neg (by simpa using c),List.countP_cons_of_neg (by simp)];rfl
  ·by_cases c:(disS p.dist).1=(s:Int)
   ·rw[if_pos ⟨h0,c⟩,List.countP_cons_of_neg (by simp),List.countP_cons_of_pos (by simpa using c)];rfl
   ·rw[if_neg (fun x=>c x.2),List.countP_cons_of_neg (by simp),List.countP_cons_of_neg (by simpa using c)];rfl
theorem emis_cnt:∀(ps:List Pz) (s:Nat),cntE false (ps.flatMap emP) s=cntA ps s/\cntE true (ps.flatMap emP) s=cntB ps s
 |[],s=>⟨rfl,rfl⟩
 |p::ps,s=>by
  obtain⟨h1,h2⟩:=emis_cnt ps s
  obtain⟨h3,h4⟩:=emP_cnt p s
  have key:∀w,cntE w ((p::ps).flatMap emP) s=cntE w (emP p) s+cntE w (ps.flatMap emP) s:=fun w=>by
   rw[List.flatMap_cons];unfold cntE;rw[List.countP_append]
  rw[key,key,h1,h2,h3,h4]
  unfold cntA cntB
  constructor
  ·by_cases c:symA p=(s:Int)
   ·rw[if_pos c,List.countP_cons_of_pos (by simpa using c)];omega
   ·rw[if_neg c,List.countP_cons_of_neg (by simpa using c)];omega
  ·by_cases c:p.len≠0/\(disS p.dist).1=(s:Int)
   ·rw[if_pos c,List.countP_cons_of_pos (by simpa using c)];omega
   ·rw[if_neg c,List.countP_cons_of_neg (by simpa using c)];omega
theorem frqA_Ln (ps:List Pz):Ln 286 (fun s=>(cntE false (emis ps) s:Int))=(frqA ps).map I:=by
 unfold Ln frqA
 rw[List.map_map]
 refine List.map_congr_left fun s _=>?_
 show I (cntE false (ps.flatMap emP++[⟨false,256,0,0⟩]) s:Int)=I ((cntA ps s:Int)+if s=256 then 1 else 0)
 rw[cntE_snoc,(emis_cnt ps s).1]
 congr 1
 by_cases c:s=256
 ·subst c;rfl
 ·rw[if_neg c,if_neg (fun h=>c (by have:=h.2;simp only at this;omega))];rfl
theorem frqB_Ln (ps:List Pz):Ln 30 (fun s=>(cntE true (emis ps) s:Int))=(frqB ps).map I:=by
 unfold Ln frqB
 rw[List.map_map]
 refine List.map_congr_left fun s _=>?_
 show I (cntE true (ps.flatMap emP++[⟨false,256,0,0⟩]) s:Int)=I (cntB ps s:Int)
 rw[cntE_snoc,(emis_cnt ps s).2]
 rfl
theorem frqA_len (ps:List Pz):(frqA ps).length=286:=by simp[frqA]
theorem frqB_len (ps:List Pz):(frqB ps).length=30:=by simp[frqB]
def Cnts (g0 g1:Nat)(d:List Em):HP:=all [Sl 1 3 (some ⟨g0,0,none⟩) 286 286 (Ln 286 fun s=>(cntE false d s:Int)),Sl 1 3 (some ⟨g1,0,none⟩) 30 30 (Ln 30 fun s=>(cntE true d s:Int)),pu (d.length<=4194304)]
theorem own1 {W:World}{g0 g1:Nat}{d:List Em}{e:Em}(he:goodE e)(hd:d.length+1<=4194304):
  Cn p_ 229 [setV (if e.w then⟨some ⟨g1,0,none⟩,30,30,none,0,0⟩else⟨some ⟨g0,0,none⟩,286,286,none,0,0⟩),.int .i64 e.s,.int .i64 e.n,.int .i64 e.x] W [Cnts g0 g1 d] (fun _:Unit=> .tuple #[]) (fun _=>[Cnts g0 g1 (d++[e])]):=by
 obtain⟨w,s,n,x⟩:=e
 obtain⟨h0,h1,h2,_⟩:=he
 (try dsimp only at h0 h1 h2)
 obtain⟨N,rfl⟩:=Int.eq_ofNat_of_zero_le h0
 have key:∀(v:Bool) (m:Nat),N<m->w=v->(Ln m fun s=>(cntE v d s:Int)).set N (I ((cntE v d N:Int)+1))=Ln m fun s=>(cntE v (d++[⟨w,(N:Int),n,x⟩]) s:Int):=fun v m hN hv=>by
  rw[Ln_set]
  refine Ln_congr fun j hj=>?_
  rw[cntE_snoc]
  by_cases c:j=N
  ·subst c;rw[if_pos rfl,if_pos ⟨hv,rfl⟩];rfl
  ·rw[if_neg c,if_neg (fun h=>c (by have:=h.2;simp only at this;omega))];rfl
 have keep:∀(v:Bool) (m:Nat),w≠v->(Ln m fun s=>(cntE v d s:Int))=Ln m fun s=>(cntE v (d++[⟨w,(N:Int),n,x⟩]) s:Int):=fun v m hv=>by
  refine Ln_congr fun j hj=>?_
  rw[cntE_snoc,if_neg (fun h=>hv h.1)];rfl
 unfold setV
 cases w with
 |false=>
  have hs:=h1 rfl
  have hc:=cntE_le false d N
  simp only[Bool.false_eq_true,if_false]
  (refine Shp.cn (Sg.g_ Tryz.call229 Tryz.func229) fun F=>?_;simp only[ca_,na_])
  refine e_boxA fun b4=>?_
  refine e_all (.there .here) ?_
  refine nr_ ?_
  refine o_ v_fa0 (ln_ ?_)
  refine o_ (v_ia1 N rfl (by omega)) ?_
  have hld:(Ln 286 fun s=>(cntE false d s:Int))[0+N]? =some (I (cntE false d N:Int)):=by rw[Nat.zero_add];exact Ln_get (by omega)
  refine p_op (v_ldSl hld) ?_
  refine ad_ ?_
  refine o_ (v_ia1 N rfl (by omega)) ?_
  refine e_stSl (by repeat constructor) (by rw[Nat.zero_add,Ln_len];omega) ?_
  rw[Nat.zero_add]
  refine rt_ () ?_
  refine .all ?_
  refine nr_ ?_
  rw[<- key false 286 (by omega) rfl,<- keep true 30 (by decide)]
  refine .pick (by repeat constructor) (.pick (by repeat constructor) (.pu (by rw[List.length_append];exact hd) ?_))
  exact im_
 |true=>
  have hs:=h2 rfl
  have hc:=cntE_le true d N
  simp only[if_true]
  (refine Shp.cn (Sg.g_ Tryz.call229 Tryz.func229) fun F=>?_;simp only[ca_,na_])
  refine e_boxA fun b4=>?_
  refine e_all (.there .here) ?_
  refine nr_ ?_
  refine o_ v_fa0 (ln_ ?_)
  refine o_ (v_ia1 N rfl (by omega)) ?_
  have hld:(Ln 30 fun s=>(cntE true d s:Int))[0+N]? =some (I (cntE true d N:Int)):=by rw[Nat.zero_add];exact Ln_get (by omega)
  refine p_op (v_ldSl hld) ?_
  refine ad_ ?_
  refine o_ (v_ia1 N rfl (by omega)) ?_
  refine e_stSl (by repeat constructor) (by rw[Nat.zero_add,Ln_len];omega) ?_
  rw[Nat.zero_add]
  refine rt_ () ?_
  refine .all ?_
  refine nr_ ?_
  rw[<- key true 30 (by omega) rfl,<- keep false 286 (by decide)]
  refine .pick (by repeat constructor) (.pick (by repeat constructor) (.pu (by rw[List.length_append];exact hd) ?_))
  exact im_
abbrev Qs:=(Option Addr × Nat) × (Option Addr × Nat)
def sv (l:List Int)(q:Qs):SetV:=⟨q.1.1,l.length,q.1.2,q.2.1,(cdL l).length,q.2.2⟩
def IsSet (l:List Int)(q:Qs):HP:=all [Sl 1 3 q.1.1 q.1.2 l.length (l.map I),Sl 1 3 q.2.1 q.2.2 (cdL l).length ((cdL l).map I)]
theorem emis_len (ps:List Pz):(emis ps).length<=2 * ps.length+1:=by
 unfold emis
 rw[List.length_append]
 have:∀l:List Pz,(l.flatMap emP).length<=2 * l.length:=by
  intro l
  induction l with
  |nil=>simp
  |cons p l ih=>
   rw[List.flatMap_cons,List.length_append,List.length_cons]
   have:(emP p).length<=2:=by unfold emP;split <;> simp
   omega
 have:=this ps
 simp only[List.length_singleton]
 omega
theorem lenV_le (f:List Int)(lim:Int):(lenV f lim).length<=320:=by
 by_cases hE:lenE f lim=0
 ·have h:=PM.lenV_facts hE
  have h1:=h.1
  have h2:=h.2.1
  omega
 ·unfold lenV
  rw[if_pos hE]
  simp
theorem own {W:World}{AL:HP}{pa ba:Option Addr}{pc bn bc:Nat}{level:Int}{ps:List Pz}(hA:RdB W AL pa (ps.length * 3) (ps.flatMap pPz))(hl:ps.length<=1048576)(hg:∀p∈ps,goodP p):
  Cn p_ 202 [.agg #[.slice pa ps.length pc,.slice ba bn bc,.int .i64 level]] W [AL] (fun q:Qs × Qs=> .tuple #[setV (sv (ownA ps) q.1),setV (sv (ownB ps) q.2)]) (fun q=>[IsSet (ownA ps) q.1,IsSet (ownB ps) q.2,AL]):=by
 obtain⟨VA,hVA⟩:∃V,V=ownA ps:=⟨_,rfl⟩
 obtain⟨VB,hVB⟩:∃V,V=ownB ps:=⟨_,rfl⟩
 have la:VA.length<=320:=by rw[hVA];exact lenV_le _ _
 have lb:VB.length<=320:=by rw[hVB];exact lenV_le _ _
 rw[<- hVA,<- hVB]
 (refine Shp.cn (Sg.g_ Tryz.call202 Tryz.func202 (an:={drs:=[(1,(.alt ((.op 0 0 (.alt (.ofL [(1,0),(2,3),(3,0),(4,0)]) (.ofL [(3,0),(1,0),(2,1),(4,0)])))) ((.alt ((.op 1 0 (.alt (.ofL [(0,0),(2,3),(3,0),(4,0)]) (.ofL [(3,0),(0,0),(2,1),(4,0)])))) ((.op 3 0 (.alt (.ofL [(0,0),(1,0),(2,1),(4,0)]) (.ofL [(1,0),(0,0),(2,1),(4,0)]))))))))],rcuts:=[(2,[4])]}) (os:=[(1,[(3,[2])])])) fun F=>?_;simp only[ca_,na_])
 refine e_boxA fun b1=>?_
 refine e_newA fun b2=>?_
 refine e_newA fun b3=>?_
 refine e_cut1 (fun z=>(ex fun q:Nat × Nat × Nat=>all [pu (z= .pointer (some ⟨q.1,0,none⟩)),pt q.1 (.cells #[.slice (some ⟨q.2.1,0,none⟩) 286 286,.slice (some ⟨q.2.2,0,none⟩) 30 30] 299),Sl 1 3 (some ⟨q.2.1,0,none⟩) 286 286 (Ln 286 fun _=>0),Sl 1 3 (some ⟨q.2.2,0,none⟩) 30 30 (Ln 30 fun _=>0)])::
  pt b1 (.cells #[.slice pa ps.length pc,.slice ba bn bc,.int .i64 level] 162)::pt b2 (.cells #[.slice none 0 0,.slice none 0 0] 258)::pt b3 (.cells #[.slice none 0 0,.slice none 0 0] 258)::AL::F) ?_ ?_
 rotate_left
 ·refine e_drS (e_andS ?_ (e_andS ?_ ?_))
  ·refine e_mksl 286 286 (by rfl) (by rfl) (by omega) (by omega) (by unfold maxLen;omega) fun g0=>?_
   refine e_andS ?_ ?_
   ·refine e_mksl 30 30 (by rfl) (by rfl) (by omega) (by omega) (by unfold maxLen;omega) fun g1=>?_
    refine e_stD v_rv .nil ?_;refine e_newA fun g=>?_;refine ob_ ?_;refine sg_ ?_
    rename Nat=>g4
    refine e_sat (.ex (g4,g0,g1) (.all ?_))
    refine nr_ ?_
    rw[Ln_zero,Ln_zero]
    refine .pu rfl ?_
    exact im_
   ·refine e_newA fun g4=>?_
    refine e_mksl 30 30 (by rfl) (by rfl) (by omega) (by omega) (by unfold maxLen;omega) fun g1=>?_
    refine t_ v_rv ?_;refine sg_ ?_
    refine e_sat (.ex (g4,g0,g1) (.all ?_))
    refine nr_ ?_
    rw[Ln_zero,Ln_zero]
    refine .pu rfl ?_
    exact im_
  ·refine e_mksl 30 30 (by rfl) (by rfl) (by omega) (by omega) (by unfold maxLen;omega) fun g1=>?_
   refine e_andS ?_ ?_
   ·refine e_mksl 286 286 (by rfl) (by rfl) (by omega) (by omega) (by unfold maxLen;omega) fun g0=>?_
    refine e_stD v_rv .nil ?_;refine e_newA fun g=>?_;refine ob_ ?_;refine sg_ ?_
    rename Nat=>g4
    refine e_sat (.ex (g4,g0,g1) (.all ?_))
    refine nr_ ?_
    rw[Ln_zero,Ln_zero]
    refine .pu rfl ?_
    exact im_
   ·refine e_newA fun g4=>?_
    refine e_mksl 286 286 (by rfl) (by rfl) (by omega) (by omega) (by unfold maxLen;omega) fun g0=>?_
    refine t_ v_rv ?_;refine sg_ ?_
    refine e_sat (.ex (g4,g0,g1) (.all ?_))
    refine nr_ ?_
    rw[Ln_zero,Ln_zero]
    refine .pu rfl ?_
    exact im_
  ·refine e_newA fun g4=>?_
   refine e_andS ?_ ?_
   ·refine e_mksl 286 286 (by rfl) (by rfl) (by omega) (by omega) (by unfold maxLen;omega) fun g0=>?_
    refine e_mksl 30 30 (by rfl) (by rfl) (by omega) (by omega) (by unfold maxLen;omega) fun g1=>?_
    refine t_ v_rv ?_;refine sg_ ?_
    refine e_sat (.ex (g4,g0,g1) (.all ?_))
    refine nr_ ?_
    rw[Ln_zero,Ln_zero]
    refine .pu rfl ?_
    exact im_
   ·refine e_mksl 30 30 (by rfl) (by rfl) (by omega) (by omega) (by unfold maxLen;omega) fun g1=>?_
    refine e_mksl 286 286 (by rfl) (by rfl) (by omega) (by omega) (by unfold maxLen;omega) fun g0=>?_
    refine t_ v_rv ?_;refine sg_ ?_
    refine e_sat (.ex (g4,g0,g1) (.all ?_))
    refine nr_ ?_
    rw[Ln_zero,Ln_zero]
    refine .pu rfl ?_
    exact im_
 intro ds z
 refine e_ex .here fun q=>e_all .here ?_
 obtain⟨g4,g0,g1⟩:=q
 refine nr_ ?_
 refine e_pu .here fun hz=>?_
 subst hz
 refine lg_ ?_
 refine o_ (v_iaA 0 rfl (by omega)) ?_
 refine ln_ ?_;refine o_ v_rv ?_
 refine o_ (v_iaA 1 rfl (by omega)) ?_
 refine ln_ ?_;refine o_ v_rv ?_
 have hsym:=symbols_ (W:=W) (f:=229) (cap:=[]) (J:=Cnts g0 g1) (va:=⟨some ⟨g0,0,none⟩,286,286,none,0,0⟩) (vb:=⟨some ⟨g1,0,none⟩,30,30,none,0,0⟩) (pc:=pc) (ba:=ba) (bn:=bn) (bc:=bc) (level:=level) hA hl hg
  (fun d e r h=>own1 (emis_good hg e (by rw[h];simp)) (by have:=emis_len ps;rw[h]at this;simp at this;omega))
 refine e_imp (M:=Cnts g0 g1 []::AL::pt g4 (.cells #[.slice (some ⟨g0,0,none⟩) 286 286,.slice (some ⟨g1,0,none⟩) 30 30] 299)::pt b2 (.cells #[.slice none 0 0,.slice none 0 0] 258)::pt b3 (.cells #[.slice none 0 0,.slice none 0 0] 258)::F) ?_ ?_
 ·refine .all ?_
  refine nr_ ?_
  have z1:(Ln 286 fun s=>(cntE false [] s:Int))=Ln 286 fun _=>0:=rfl
  have z2:(Ln 30 fun s=>(cntE true [] s:Int))=Ln 30 fun _=>0:=rfl
  rw[z1,z2]
  refine .pick (by repeat constructor) (.pick (by repeat constructor) (.pu (by simp) ?_))
  exact im_
 refine e_call hsym (.cons (by repeat constructor) (.cons (by repeat constructor) .nil)) fun _=>?_
 refine nr_ ?_
 refine e_all (.there .here) ?_
 refine nr_ ?_
 rw[frqA_Ln,frqB_Ln]
 refine e_pu (by repeat constructor) fun _=>?_
 have h0:RdB W (Sl 1 3 (some ⟨g0,0,none⟩) 286 286 ((frqA ps).map I)) (some ⟨g0,0,none⟩) (frqA ps).length ((frqA ps).map I):=by
  rw[frqA_len]
  exact rd_sl (by rw[List.length_map,frqA_len]) (fun _=>⟨g0,rfl⟩)
 have h1:RdB W (Sl 1 3 (some ⟨g1,0,none⟩) 30 30 ((frqB ps).map I)) (some ⟨g1,0,none⟩) (frqB ps).length ((frqB ps).map I):=by
  rw[frqB_len]
  exact rd_sl (by rw[List.length_map,frqB_len]) (fun _=>⟨g1,rfl⟩)
 have hla:=lengths (W:=W) (cap:=286) (lim:=15) h0 (by rw[frqA_len];omega)
 have hlb:=lengths (W:=W) (cap:=30) (lim:=15) h1 (by rw[frqB_len];omega)
 rw[frqA_len,show lenV (frqA ps) 15=VA from hVA.symm]at hla
 rw[frqB_len,show lenV (frqB ps) 15=VB from hVB.symm]at hlb
 refine o_ (v_iaA 0 rfl (by omega)) ?_
 refine ln_ ?_
 refine c_ hla fun _=>?_
 rename_i qa
 refine xt_ ?_;refine xt_ ?_
 refine o_ (v_iaA 1 rfl (by omega)) ?_
 refine ln_ ?_
 refine c_ hlb fun _=>?_
 rename_i qb
 refine xt_ ?_;refine xt_ ?_
 refine e_slfacts .here fun _ hnb hcb hfb=>?_
 refine e_slfacts (.there (.there .here)) fun _ hna hca hfa=>?_
 have ra:RdB W (Sl 1 3 qa.1 qa.2 VA.length (VA.map I)) qa.1 VA.length (VA.map I):=rd_sl (by rw[List.length_map]) hfa
 have rb:RdB W (Sl 1 3 qb.1 qb.2 VB.length (VB.map I)) qb.1 VB.length (VB.map I):=rd_sl (by rw[List.length_map]) hfb
 refine e_call (newSet (cap:=qa.2) ra (by omega)) (.cons (.there (.there .here)) .nil) fun ca=>?_
 refine nr_ ?_
 refine e_call (newSet (cap:=qb.2) rb (by omega)) (.cons (.there (.there .here)) .nil) fun cb=>?_
 refine nr_ ?_
 unfold setV
 refine sg_ ?_;refine sg_ ?_;(((refine' e_stS (v_resA ?hn) ?hi ?_);(case hi=>exact im_);(case hn=>rfl)));(((refine' e_stS (v_resA ?hn) ?hi ?_);(case hi=>exact im_);(case hn=>rfl)))
 refine rt_ (((qa,ca),(qb,cb))) ?_
 unfold IsSet
 refine .all (.pick (by repeat constructor) (.pick (by repeat constructor) (.all (.pick (by repeat constructor) (.pick (by repeat constructor) ?_)))))
 exact im_
theorem putR_ok {L:List Bool}{e k:Nat}(hk:k<=32)(he:e<2^k)(h:L.length+k<=8388608):putR L (e:Int) (k:Int)=0:=by
 unfold putR
 rw[if_neg,if_neg (by omega)]
 unfold badP
 rw[Int.toNat_natCast]
 have h3:((e:Nat):Int)<((2^k:Nat):Int):=Int.ofNat_lt.2 he
 push_cast at h3
 omega
theorem putL_ok {L:List Bool}{e k:Nat}(hk:k<=32)(he:e<2^k)(h:L.length+k<=8388608):putL L (e:Int) (k:Int)=L++bitsOf e k:=by
 unfold putL
 rw[if_pos (putR_ok hk he h),Int.toNat_natCast,Int.toNat_natCast]
theorem phL_cwd {l:List Int}{s:Int}{L:List Bool}(h:L.length+(cwd l s).length<=8388608):phL (cdL l) l s L=L++cwd l s:=by
 unfold phL cwd at *
 cases hs:sym (cdL l) l s with
 |none=>simp
 |some p=>
  rw[hs]at h
  simp only at h ⊢
  have hb:=sym_pos hs
  rw[length_bitsOf]at h
  exact putL_ok (by omega) (rv_lt _ _) h
def emB (la lb:List Int)(e:Em):List Bool:=cwd (if e.w then lb else la) e.s++bitsOf e.x.toNat e.n.toNat
theorem bits0 (n:Nat):bitsOf n 0=[]:=rfl
theorem emP_bits (la lb:List Int)(p:Pz):(emP p).flatMap (emB la lb)=encD la lb p:=by
 unfold emP encD
 split
 ·simp[emB,bits0]
 ·simp[emB,bits0]
theorem emis_bits (la lb:List Int)(ps:List Pz):(emis ps).flatMap (emB la lb)=encX la lb ps:=by
 unfold emis encX
 rw[List.flatMap_append,List.flatMap_assoc]
 congr 1
 ·exact flatMap_eq fun p _=>emP_bits la lb p
 ·simp[emB,bits0]
theorem emis_cut {la lb:List Int}{ps:List Pz}{d r:List Em}{e:Em}(h:emis ps=d++e::r):(d.flatMap (emB la lb)).length+(emB la lb e).length<=(encX la lb ps).length:=by
 rw[<- emis_bits,h,List.flatMap_append,List.flatMap_cons]
 simp only[List.length_append]
 omega
theorem into {W:World}{w:Nat}:Cn p_ 201 [.pointer (some ⟨w,0,none⟩)] W [] (fun g:Nat=> .func (.func 227) #[] [.pointer (some ⟨g,0,none⟩)].toArray) (fun g=>[pt g (.cells #[.pointer (some ⟨w,0,none⟩)] 156)]):=by
 (refine Shp.cn (Sg.g_ Tryz.call201 Tryz.func201) fun F=>?_;simp only[ca_,na_])
 refine e_box1 fun c=>?_
 refine o_ v_mkF (rt_ c ?_)
 exact .refl
def Put2 (la lb:List Int)(qa qb:Qs)(w g:Nat)(L:List Bool)(d:List Em):HP:=all [IsW w (L++d.flatMap (emB la lb)),IsSet la qa,IsSet lb qb,pt g (.cells #[.pointer (some ⟨w,0,none⟩)] 156)]
theorem put2_snoc (la lb:List Int)(L:List Bool)(d:List Em)(e:Em):L++(d++[e]).flatMap (emB la lb)=(L++d.flatMap (emB la lb)++cwd (if e.w then lb else la) e.s)++bitsOf e.x.toNat e.n.toNat:=by
 rw[List.flatMap_append]
 simp[emB]
theorem Cn.frame {P:Program}{W:World}{α:Type}{f:FuncId}{args:List Value}{A A' R:List HP}{r:α->Value}{B B':α->List HP}(h:Cn P f args W A r B)(i:∀F,Ent W (A'++F) (fun w=>sat W (A++(R++F)) w))(o:∀x F,Ent W (B x++(R++F)) (fun w=>sat W (B' x++F) w)):Cn P f args W A' r B':=
 ⟨h.call,fun F w hw=>(h.run (R++F) w (i F w hw)).mono fun e w' ⟨x,he,hs⟩=>⟨x,he,o x F w' hs⟩⟩
theorem into0 {W:World}{l:List Int}{q:Qs}{w g k x:Nat}{s:Int}{M:List Bool}(hk:k<=13)(hx:x<2^k)(hd:M.length+(cwd l s).length+k<=8388608):
  Cn p_ 227 ([setV (sv l q),.int .i64 s,.int .i64 (k:Int),.int .i64 (x:Int)]++[.pointer (some ⟨g,0,none⟩)]) W [IsW w M,IsSet l q,pt g (.cells #[.pointer (some ⟨w,0,none⟩)] 156)] (fun _:Unit=> .tuple #[]) (fun _=>[IsW w ((M++cwd l s)++bitsOf x k),IsSet l q,pt g (.cells #[.pointer (some ⟨w,0,none⟩)] 156)]):=by
 unfold setV sv IsSet
 (refine Shp.cn (Sg.g_ Tryz.call227 Tryz.func227) fun F=>?_;simp only[ca_,na_])
 refine e_boxA fun b4=>?_
 refine e_all (.there (.there .here)) ?_
 refine nr_ ?_
 refine e_slfacts .here fun _ f1 f2 f3=>?_
 refine e_slfacts (.there .here) fun _ g1 g2 g3=>?_
 have r1:RdB W (Sl 1 3 q.1.1 q.1.2 l.length (l.map I)) q.1.1 l.length (l.map I):=rd_sl (by rw[List.length_map]) f3
 have r2:RdB W (Sl 1 3 q.2.1 q.2.2 (cdL l).length ((cdL l).map I)) q.2.1 (cdL l).length ((cdL l).map I):=rd_sl (by rw[List.length_map]) g3
 refine ln_ ?_;refine o_ v_fa0 (ln_ ?_);refine o_ v_fa0 (ln_ ?_)
 refine e_call (hput (L:=M) (s:=s) r2 r1) (.cons (by repeat constructor) (.cons (by repeat constructor) (.cons (by repeat constructor) .nil))) fun _=>?_
 refine nr_ ?_
 rw[phL_cwd (by omega)]
 refine ln_ ?_
 refine e_call (put (l:=M++cwd l s) (n:=(x:Int)) (k:=(k:Int))) (.cons .here .nil) fun _=>?_
 refine nr_ ?_
 rw[putL_ok (by omega) hx (by rw[List.length_append];omega)]
 refine rt_ () ?_
 refine .pick (by repeat constructor) (.all (.pick (by repeat constructor) (.pick (by repeat constructor) (.pick (by repeat constructor) ?_))))
 exact im_
theorem into1 {W:World}{la lb:List Int}{qa qb:Qs}{w g:Nat}{L:List Bool}{d:List Em}{e:Em}(he:goodE e)(hd:L.length+(d.flatMap (emB la lb)).length+(emB la lb e).length<=8388608):
  Cn p_ 227 ([setV (if e.w then sv lb qb else sv la qa),.int .i64 e.s,.int .i64 e.n,.int .i64 e.x]++[.pointer (some ⟨g,0,none⟩)]) W [Put2 la lb qa qb w g L d] (fun _:Unit=> .tuple #[]) (fun _=>[Put2 la lb qa qb w g L (d++[e])]):=by
 have hsn:=put2_snoc la lb L d e
 unfold Put2
 rw[hsn]
 obtain⟨h0,h1,h2,k,x,hn,hxx,hk,hx⟩:=he
 have hel:(emB la lb e).length=(cwd (if e.w then lb else la) e.s).length+k:=by
  unfold emB
  rw[List.length_append,length_bitsOf,hn,Int.toNat_natCast]
 rw[hel]at hd
 rw[hn,hxx,Int.toNat_natCast,Int.toNat_natCast]
 have hML:(L++d.flatMap (emB la lb)).length=L.length+(d.flatMap (emB la lb)).length:=List.length_append
 generalize L++d.flatMap (emB la lb)=M at hML ⊢
 cases hb:e.w with
 |false=>
  rw[hb]at hd
  simp only[Bool.false_eq_true,if_false]at hd ⊢
  refine Cn.frame (R:=[IsSet lb qb]) (into0 (M:=M) (l:=la) (q:=qa) (w:=w) (s:=e.s) hk hx (by omega)) (fun F=>?_) (fun _ F=>?_)
  ·refine e_all .here (e_sat ?_)
   refine nr_ ?_
   exact im_
  ·refine e_sat (.all ?_)
   refine nr_ ?_
   exact im_
 |true=>
  rw[hb]at hd
  simp only[if_true]at hd ⊢
  refine Cn.frame (R:=[IsSet la qa]) (into0 (M:=M) (l:=lb) (q:=qb) (w:=w) (s:=e.s) hk hx (by omega)) (fun F=>?_) (fun _ F=>?_)
  ·refine e_all .here (e_sat ?_)
   refine nr_ ?_
   exact im_
  ·refine e_sat (.all ?_)
   refine nr_ ?_
   exact im_
theorem upto_ {W:World}{a:Option Addr}{cap least:Nat}{l:List Int}{A:HP}(hr:RdB W A a l.length (l.map I))(hl:l.length<=1099511627776)(hm:least<=1099511627776):
  Cn p_ 231 [.slice a l.length cap,.int .i64 (least:Int)] W [A] (fun _:Unit=> .int .i64 (upto l least:Int)) (fun _=>[A]):=by
 (refine Shp.cn (Sg.g_ Tryz.call231 Tryz.func231 (an:={loops:=[(2,[5])]})) fun F=>?_;simp only[ca_,na_])
 refine o_ v_len (e_loop1 (fun m y=>pu (y= .int .i64 (m:Int)/\m<=l.length/\upF l least m=upto l least)::A::F) l.length ?_ ?_)
 ·exact .pu ⟨rfl,Nat.le_refl _,rfl⟩ .refl
 intro m ds y
 refine e_pu .here fun hk=>?_
 obtain⟨rfl,hml,hup⟩:=hk
 by_cases h1:(least:Int)<(m:Int)
 ·obtain⟨m,rfl⟩:∃k,m=k+1:=⟨m-1,by omega⟩
  refine o_ v_gtr ?_
  rw[dT_ h1]
  obtain⟨g,o,rfl,_⟩:=hr.at_ (by omega)
  refine e_gdT (e_gdT (e_gdT (sb_ ?_)));refine e_gdT (o_ (v_ia1 m (by omega) (by omega)) ?_)
  refine e_gdT (p_op (v_ldRd hr (v:=I l[m]) (I_get (by omega))) ?_)
  refine e_gdT ?_
  unfold I
  refine o_ v_eql ?_
  rw[upF]at hup
  by_cases h2:l[m]=0
  ·rw[dT_ h2]
   refine o_ v_pickT (e_condT (sb_ ?_))
   rw[if_pos ⟨by omega,by rw[List.getElem?_eq_getElem (by omega),h2]⟩]at hup
   refine e_next1 m (by omega) (.pu ⟨by rw[show((m+1:Nat):Int)-1=m by omega],by omega,hup⟩ ?_)
   exact im_
  ·rw[dF_ h2]
   refine o_ v_pickT (e_condF ?_)
   rw[if_neg (fun h=>h2 (by have:=h.2;rw[List.getElem?_eq_getElem (by omega)]at this;exact Option.some.inj this))]at hup
   rw[<- hup]
   refine rt_ () ?_
   exact im_
 ·refine o_ v_gtr ?_
  rw[dF_ h1]
  refine e_gdF2 (e_gdF2 (e_gdF2 (e_gdF2 (e_gdF2 (e_gdF2 (o_ v_pickF (e_condF ?_)))))))
  have:upF l least m=m:=by
   cases m with
   |zero=>rfl
   |succ m=>rw[upF,if_neg (by omega)]
  rw[<- hup,this]
  refine rt_ () ?_
  exact im_
theorem runs {W:World}{a:Option Addr}{n c:Nat}:Cn p_ 232 [.slice a n c] W [] (fun g:Nat=> .func (.func 244) #[] [.pointer (some ⟨g,0,none⟩)].toArray) (fun g=>[pt g (.cells #[.slice a n c] 197)]):=by
 (refine Shp.cn (Sg.g_ Tryz.call232 Tryz.func232) fun F=>?_;simp only[ca_,na_])
 refine e_box1 fun c=>?_
 refine o_ v_mkF (rt_ c ?_)
 exact .refl
def tdV (t:Td):Value:= .agg #[.int .i64 t.sym,.int .i64 (t.bits:Int),.int .i64 (t.extra:Int)]
def tdVs (row:List Int):List (List Value):=(runsF row).map fun t=>[tdV t]
def atR (row:List Int):Nat->Nat
 |0=>0
 |k+1=>if atR row k<row.length then atR row k+(tdAt row (atR row k)).2 else atR row k
theorem sameN_fuel {row:List Int}{v:Int}{i:Nat}:∀(f g n:Nat),row.length<=f+i+n->row.length<=g+i+n->sameN row v i f n=sameN row v i g n
 |0,0,n,_,_=>rfl
 |0,g+1,n,h,_=>by rw[sameN,sameN,List.getElem?_eq_none (by omega),if_neg (by simp)]
 |f+1,0,n,_,h=>by rw[sameN,sameN,List.getElem?_eq_none (by omega),if_neg (by simp)]
 |f+1,g+1,n,h1,h2=>by rw[sameN,sameN,sameN_fuel f g (n+1) (by omega) (by omega)]
theorem sameN_le {row:List Int}{v:Int}{i:Nat}:∀(f n:Nat),i+n<=row.length->i+sameN row v i f n<=row.length
 |0,n,h=>h
 |f+1,n,h=>by
  rw[sameN]
  split
  ·rename_i c
   have:=(List.getElem?_eq_some_iff.1 c).1
   exact sameN_le f (n+1) (by omega)
  ·exact h
theorem tdAt_n {row:List Int}{i:Nat}(hi:i<row.length):1<=(tdAt row i).2/\i+(tdAt row i).2<=row.length:=by
 have h1:=sameN_le (row:=row) (v:=row.getD i 0) (i:=i) row.length 1 (by omega)
 have h2:1<=sameN row (row.getD i 0) i row.length 1:=by
  have key:∀f n,n<=sameN row (row.getD i 0) i f n:=by
   intro f
   induction f with
   |zero=>intro n;exact Nat.le_refl _
   |succ f ih=>
    intro n
    rw[sameN]
    split
    ·have:=ih (n+1);omega
    ·omega
  exact key _ _
 unfold tdAt
 simp only
 generalize sameN row (row.getD i 0) i row.length 1=m at *
 split
 ·simp only;omega
 ·split
  ·simp only;omega
  ·split
   ·simp only;omega
   ·simp only;omega
theorem runsN_fuel {row:List Int}:∀(f g i:Nat),row.length<f+i->row.length<g+i->runsN row f i=runsN row g i
 |0,0,i,_,_=>rfl
 |0,g+1,i,h,_=>by rw[runsN,runsN,if_neg (by omega)]
 |f+1,0,i,_,h=>by rw[runsN,runsN,if_neg (by omega)]
 |f+1,g+1,i,h1,h2=>by
  rw[runsN,runsN]
  by_cases c:i<row.length
  ·rw[if_pos c,if_pos c,runsN_fuel f g _ (by have:=(tdAt_n c).1;omega) (by have:=(tdAt_n c).1;omega)]
  ·rw[if_neg c,if_neg c]
theorem runs_drop (row:List Int):∀k,k<=(runsF row).length->atR row k<=row.length/\(runsF row).drop k=runsN row (row.length+1) (atR row k)
 |0,_=>⟨Nat.zero_le _,rfl⟩
 |k+1,h=>by
  obtain⟨h1,h2⟩:=runs_drop row k (by omega)
  have hlt:atR row k<row.length:=by
   rcases Nat.lt_or_ge (atR row k) row.length with c|c
   ·exact c
   ·have:=congrArg List.length h2
    rw[runsN,if_neg (by omega),List.length_drop]at this
    simp at this
    omega
  have hn:=tdAt_n hlt
  rw[atR,if_pos hlt]
  refine⟨hn.2,?_⟩
  rw[<- List.tail_drop,h2,runsN,if_pos hlt]
  exact runsN_fuel _ _ _ (by omega) (by omega)
theorem runs_get {row:List Int}{k:Nat}(h:k<=(runsF row).length):(atR row k<row.length↔k<(runsF row).length)/\(k<(runsF row).length->(runsF row)[k]? =some (tdAt row (atR row k)).1):=by
 obtain⟨h1,h2⟩:=runs_drop row k h
 have hl:=congrArg List.length h2
 rw[List.length_drop,runsN]at hl
 by_cases c:atR row k<row.length
 ·rw[if_pos c,List.length_cons]at hl
  refine⟨⟨fun _=>by omega,fun _=>c⟩,fun d=>?_⟩
  have:(runsF row)[k]? =((runsF row).drop k)[0]? :=by rw[List.getElem?_drop];rfl
  rw[this,h2,runsN,if_pos c];rfl
 ·rw[if_neg c]at hl
  simp at hl
  exact⟨⟨fun d=>absurd d c,fun d=>by omega⟩,fun d=>by omega⟩
theorem runs1 {W:World} {c1 l:Nat} {a:Option Addr} {n c:Nat} {row:List Int} {A:HP} {G:Nat->HP} {Gx T T':HP} (hA:RdB W A a row.length (row.map I)) (hl:row.length<=1099511627776)
  (hy:YieldC p_ l (tdVs row) (fun k=>all [T,all [pt c1 (.cells #[.slice a row.length c] 197),A,G k]]) (all [T',Gx]) W):
  Cn p_ 244 [yv l,.pointer (some ⟨c1,0,none⟩)] W [all [T,all [pt c1 (.cells #[.slice a row.length c] 197),A,G 0]]] (fun _:Bool=> .tuple #[])
   (fun r=>[if r then all [T,all [pt c1 (.cells #[.slice a row.length c] 197),A,G (tdVs row).length]]else all [T',Gx]]):=by
 have hTl:(tdVs row).length=(runsF row).length:=by simp[tdVs]
 rw[hTl]
 (refine Shp.cn (Sg.g_ Tryz.call244 Tryz.func244 (an:={cuts:=[(15,[5])],loops:=[(1,[3]),(3,[5])]})) fun F=>?_;simp only[ca_,na_])
 refine e_all .here ?_
 refine nr_ ?_
 refine e_all (.there .here) ?_
 refine nr_ ?_
 refine e_loop1 (fun m y=>(ex fun k:Nat=>all [pu (m+k=(runsF row).length/\y= .int .i64 (atR row k:Int)),T,G k])::pt c1 (.cells #[.slice a row.length c] 197)::A::F) (runsF row).length ?_ ?_
 ·refine .ex 0 (.all (.pu ⟨by omega,rfl⟩ ?_))
  refine nr_ ?_
  exact im_
 intro m ds y
 refine e_ex .here fun k=>e_all .here ?_
 refine nr_ ?_
 refine e_pu .here fun hk=>?_
 obtain⟨hmk,rfl⟩:=hk
 obtain⟨g1,g2⟩:=runs_get (row:=row) (k:=k) (by omega)
 obtain⟨d1,d2⟩:=runs_drop row k (by omega)
 obtain⟨i,hi⟩:∃i,i=atR row k:=⟨_,rfl⟩
 have hnx:atR row (k+1)=if i<row.length then i+(tdAt row i).2 else i:=by rw[atR,<- hi]
 rw[<- hi]at g1 g2 d1 ⊢
 refine ln_ ?_;refine o_ v_len ?_
 by_cases h1:(i:Int)<(row.length:Int)
 rotate_left
 ·refine o_ v_lss ?_
  rw[dF_ h1]
  refine e_condF ?_
  have:k=(runsF row).length:=by
   rcases Nat.lt_or_ge k (runsF row).length with c|c
   ·exact absurd (g1.2 c) (by omega)
   ·omega
  subst this
  refine rt_ true ?_
  refine .all ?_
  refine nr_ ?_
  refine .pick (by repeat constructor) (.all ?_)
  refine nr_ ?_
  exact im_
 have hil:i<row.length:=by omega
 have hkl:=g1.1 hil
 refine o_ v_lss ?_
 rw[dT_ h1]
 refine e_condT (ln_ ?_)
 obtain⟨g,o,rfl,_⟩:=hA.at_ (by omega)
 refine o_ (v_ia1 i rfl hil) ?_
 refine p_op (v_ldRd hA (v:=I row[i]) (I_get hil)) ?_
 obtain⟨v,hv⟩:∃v,v=row[i]:=⟨_,rfl⟩
 have hvi:row[i]? =some v:=by rw[hv];exact List.getElem?_eq_getElem hil
 have hgd:row.getD i 0=v:=by rw[List.getD_eq_getElem?_getD,hvi];rfl
 rw[<- hv]
 unfold I
 obtain⟨N,hN⟩:∃N,N=sameN row v i row.length 1:=⟨_,rfl⟩
 refine e_loop1 (fun m2 y=>(ex fun n:Nat=>pu (m2+i+n=row.length/\y= .int .i64 (n:Int)/\1<=n/\sameN row v i m2 n=N))::T::G k::pt c1 (.cells #[.slice (some ⟨g,o,none⟩) row.length c] 197)::A::F) (row.length-i-1) ?_ ?_
 ·exact .ex 1 (.pu ⟨by omega,rfl,by omega,by rw[hN];exact sameN_fuel _ _ _ (by omega) (by omega)⟩ .refl)
 intro m2 ds y5
 refine e_ex .here fun n=>e_pu .here fun hn=>?_
 obtain⟨hmn,rfl,hn1,hs⟩:=hn
 have stop:m2=0\/¬row[i+n]? =some v->n=N:=fun h=>by
  rw[<- hs]
  rcases h with rfl|h
  ·rfl
  ·cases m2 with
   |zero=>rfl
   |succ m2=>rw[sameN,if_neg h]
 refine ad_ ?_;refine ln_ ?_;refine o_ v_len ?_
 by_cases h2:(i:Int)+(n:Int)<(row.length:Int)
 ·refine o_ v_lss ?_
  rw[dT_ h2]
  refine e_gdT (ln_ ?_);refine e_gdT (e_gdT (e_gdT (ad_ ?_)));refine e_gdT (o_ (v_ia1 (i+n) (by rfl) (by omega)) ?_)
  refine e_gdT (p_op (v_ldRd hA (v:=I row[i+n]) (I_get (by omega))) ?_)
  refine e_gdT (e_gdT ?_)
  unfold I
  refine o_ v_eql ?_
  by_cases h3:row[i+n]=v
  ·rw[dT_ h3]
   refine o_ v_pickT (e_condT (ad_ ?_))
   obtain⟨m2,rfl⟩:∃x,m2=x+1:=⟨m2-1,by omega⟩
   refine e_next1 m2 (by omega) (.ex (n+1) (.pu ⟨by omega,rfl,by omega,?_⟩ im_))
   rw[<- hs,sameN,if_pos (by rw[List.getElem?_eq_getElem (by omega),h3])]
  ·rw[dF_ h3]
   refine o_ v_pickT (e_condF (o_ v_rv ?_));refine e_newA fun g=>?_;refine sg_ ?_
   have hnN:=stop (by rw[List.getElem?_eq_getElem (by omega)];exact .inr (fun h=>h3 (Option.some.inj h)))
   clear stop hs
   subst hnN
   rename Nat=>gt
   have htd:tdAt row i=if v=0/\11<=n then(⟨18,7,min n 138-11⟩,min n 138)else if v=0/\3<=n then(⟨17,3,n-3⟩,n)else if(v≠0/\3<=n)/\(0<i/\row[i-1]? =some v)then(⟨16,2,min n 6-3⟩,min n 6)else(⟨v,0,0⟩,1):=by
    unfold tdAt
    simp only
    rw[hgd,<- hN]
   have htn:=tdAt_n hil
   obtain⟨tn,htn2⟩:∃tn,tn=tdAt row i:=⟨_,rfl⟩
   rw[<- htn2]at htd htn hnx g2
   refine e_cut1 (fun z=>pu (z= .int .i64 (tn.2:Int))::pt gt (.cells #[.int .i64 tn.1.sym,.int .i64 (tn.1.bits:Int),.int .i64 (tn.1.extra:Int)] 306)::T::G k::pt c1 (.cells #[.slice (some ⟨g,o,none⟩) row.length c] 197)::A::F) ?_ ?_
   rotate_left
   ·refine o_ v_eql ?_
    by_cases k0:v=0
    ·rw[dT_ k0]
     refine e_gdT (e_gdT (o_ v_geq ?_))
     by_cases k11:(11:Int)<=(n:Int)
     ·rw[dT_ k11]
      refine o_ v_pickT (e_condT (o_ v_min ?_))
      rw[if_pos ⟨k0,by omega⟩]at htd
      rw[show(if(138:Int)<(n:Int)then(138:Int)else(n:Int))=((min n 138:Nat):Int) by split <;> omega]
      refine sb_ ?_;refine o_ v_rv ?_;refine sg_ ?_
      refine e_sat (.pu (by rw[htd]) (.pick (by rw[htd];simp only;rw[show((min n 138-11:Nat):Int)=((min n 138:Nat):Int)-11 by omega];(repeat constructor)) ?_))
      exact im_
     ·rw[dF_ k11]
      rw[if_neg (fun h=>k11 (by omega))]at htd
      refine o_ v_pickT (e_condF (o_ v_eql ?_))
      rw[dT_ k0]
      refine e_gdT (e_gdT (o_ v_geq ?_))
      by_cases k3:(3:Int)<=(n:Int)
      ·rw[dT_ k3]
       rw[if_pos ⟨k0,by omega⟩]at htd
       refine o_ v_pickT (e_condT (sb_ ?_));refine o_ v_rv ?_;refine sg_ ?_
       refine e_sat (.pu (by rw[htd]) (.pick (by rw[htd];simp only;rw[show((n-3:Nat):Int)=(n:Int)-3 by omega];(repeat constructor)) ?_))
       exact im_
      ·rw[dF_ k3]
       rw[if_neg (fun h=>k3 (by omega)),if_neg (fun h=>h.1.1 k0)]at htd
       refine o_ v_pickT (e_condF (o_ v_neq ?_))
       rw[dF_ (fun h=>h k0)]
       refine e_gdF2 (e_gdF2 (o_ v_pickF (e_gdF2 (e_gdF2 (o_ v_pickF (e_gdF2 (e_gdF2 (e_gdF2 (e_gdF2 (e_gdF2 (e_gdF2 (e_gdF2 (o_ v_pickF (e_condF (e_sat (.pu (by rw[htd];rfl) (.pick (by rw[htd];simp only;(repeat constructor)) ?_)))))))))))))))))
       exact im_
    ·rw[dF_ k0]
     rw[if_neg (fun h=>k0 h.1),if_neg (fun h=>k0 h.1)]at htd
     refine e_gdF2 (e_gdF2 (o_ v_pickF (e_condF (o_ v_eql ?_))))
     rw[dF_ k0]
     refine e_gdF2 (e_gdF2 (o_ v_pickF (e_condF (o_ v_neq ?_))))
     rw[dT_ k0]
     refine e_gdT (e_gdT (o_ v_geq ?_))
     by_cases k3:(3:Int)<=(n:Int)
     ·rw[dT_ k3]
      refine o_ v_pickT (e_gdT (e_gdT (o_ v_gtr ?_)))
      by_cases ki:(0:Int)<(i:Int)
      ·rw[dT_ ki]
       refine o_ v_pickT (e_gdT (ln_ ?_));refine e_gdT (e_gdT (sb_ ?_));refine e_gdT (o_ (v_ia1 (i-1) (by omega) (by omega)) ?_)
       refine e_gdT (p_op (v_ldRd hA (v:=I row[i-1]) (I_get (by omega))) ?_)
       refine e_gdT (e_gdT ?_)
       unfold I
       refine o_ v_eql ?_
       by_cases kv:row[i-1]=v
       ·rw[dT_ kv]
        rw[if_pos ⟨⟨k0,by omega⟩,by omega,by rw[List.getElem?_eq_getElem (by omega),kv]⟩]at htd
        refine o_ v_pickT (e_condT (o_ v_min ?_))
        rw[show(if(6:Int)<(n:Int)then(6:Int)else(n:Int))=((min n 6:Nat):Int) by split <;> omega]
        refine sb_ ?_;refine o_ v_rv ?_;refine sg_ ?_
        refine e_sat (.pu (by rw[htd]) (.pick (by rw[htd];simp only;rw[show((min n 6-3:Nat):Int)=((min n 6:Nat):Int)-3 by omega];(repeat constructor)) ?_))
        exact im_
       ·rw[dF_ kv]
        rw[if_neg (fun h=>kv (by have:=h.2.2;rw[List.getElem?_eq_getElem (by omega)]at this;exact Option.some.inj this))]at htd
        refine o_ v_pickT (e_condF (e_sat (.pu (by rw[htd];rfl) (.pick (by rw[htd];simp only;(repeat constructor)) ?_))))
        exact im_
      ·rw[dF_ ki]
       rw[if_neg (fun h=>ki (by omega))]at htd
       refine o_ v_pickT (e_gdF2 (e_gdF2 (e_gdF2 (e_gdF2 (e_gdF2 (e_gdF2 (e_gdF2 (o_ v_pickF (e_condF (e_sat (.pu (by rw[htd];rfl) (.pick (by rw[htd];simp only;(repeat constructor)) ?_))))))))))))
       exact im_
     ·rw[dF_ k3]
      rw[if_neg (fun h=>k3 (by omega))]at htd
      refine o_ v_pickT (e_gdF2 (e_gdF2 (o_ v_pickF (e_gdF2 (e_gdF2 (e_gdF2 (e_gdF2 (e_gdF2 (e_gdF2 (e_gdF2 (o_ v_pickF (e_condF (e_sat (.pu (by rw[htd];rfl) (.pick (by rw[htd];simp only;(repeat constructor)) ?_)))))))))))))))
      exact im_
   ·intro ds z
    refine e_pu .here fun hz=>?_
    subst hz
    refine lg_ ?_
    refine e_imp (M:=all [T,all [pt c1 (.cells #[.slice (some ⟨g,o,none⟩) row.length c] 197),A,G k]]::F) ?_ ?_
    ·refine .all ?_
     refine nr_ ?_
     refine .pick (by repeat constructor) (.all ?_)
     refine nr_ ?_
     exact im_
    have hget:(tdVs row)[k]? =some [tdV tn.1]:=by
     unfold tdVs
     rw[List.getElem?_map,g2 hkl];rfl
    refine e_yield hy k hget .here ?_ ?_
    ·(refine o_ v_notT ?_);refine e_condF ?_;refine ad_ ?_
     refine e_all .here ?_
     refine nr_ ?_
     refine e_all (.there .here) ?_
     refine nr_ ?_
     rw[if_pos hil]at hnx
     refine e_next1 (m-1) (by omega) (.ex (k+1) (.all (.pu ⟨by omega,by rw[hnx];norm_cast⟩ ?_)))
     refine nr_ ?_
     exact im_
    ·(refine o_ v_notF ?_);refine e_condT ?_
     refine rt_ false ?_
     exact im_
 ·refine o_ v_lss ?_
  rw[dF_ h2]
  refine e_gdF2 (e_gdF2 (e_gdF2 (e_gdF2 (e_gdF2 (e_gdF2 (e_gdF2 (e_gdF2 (o_ v_pickF (e_condF (o_ v_rv ?_))))))))));refine e_newA fun g=>?_;refine sg_ ?_
  have hnN:=stop (by exact .inl (by omega))
  clear stop hs
  subst hnN
  rename Nat=>gt
  have htd:tdAt row i=if v=0/\11<=n then(⟨18,7,min n 138-11⟩,min n 138)else if v=0/\3<=n then(⟨17,3,n-3⟩,n)else if(v≠0/\3<=n)/\(0<i/\row[i-1]? =some v)then(⟨16,2,min n 6-3⟩,min n 6)else(⟨v,0,0⟩,1):=by
   unfold tdAt
   simp only
   rw[hgd,<- hN]
  have htn:=tdAt_n hil
  obtain⟨tn,htn2⟩:∃tn,tn=tdAt row i:=⟨_,rfl⟩
  rw[<- htn2]at htd htn hnx g2
  refine e_cut1 (fun z=>pu (z= .int .i64 (tn.2:Int))::pt gt (.cells #[.int .i64 tn.1.sym,.int .i64 (tn.1.bits:Int),.int .i64 (tn.1.extra:Int)] 306)::T::G k::pt c1 (.cells #[.slice (some ⟨g,o,none⟩) row.length c] 197)::A::F) ?_ ?_
  rotate_left
  ·refine o_ v_eql ?_
   by_cases k0:v=0
   ·rw[dT_ k0]
    refine e_gdT (e_gdT (o_ v_geq ?_))
    by_cases k11:(11:Int)<=(n:Int)
    ·rw[dT_ k11]
     refine o_ v_pickT (e_condT (o_ v_min ?_))
     rw[if_pos ⟨k0,by omega⟩]at htd
     rw[show(if(138:Int)<(n:Int)then(138:Int)else(n:Int))=((min n 138:Nat):Int) by split <;> omega]
     refine sb_ ?_;refine o_ v_rv ?_;refine sg_ ?_
     refine e_sat (.pu (by rw[htd]) (.pick (by rw[htd];simp only;rw[show((min n 138-11:Nat):Int)=((min n 138:Nat):Int)-11 by omega];(repeat constructor)) ?_))
     exact im_
    ·rw[dF_ k11]
     rw[if_neg (fun h=>k11 (by omega))]at htd
     refine o_ v_pickT (e_condF (o_ v_eql ?_))
     rw[dT_ k0]
     refine e_gdT (e_gdT (o_ v_geq ?_))
     by_cases k3:(3:Int)<=(n:Int)
     ·rw[dT_ k3]
      rw[if_pos ⟨k0,by omega⟩]at htd
      refine o_ v_pickT (e_condT (sb_ ?_));refine o_ v_rv ?_;refine sg_ ?_
      refine e_sat (.pu (by rw[htd]) (.pick (by rw[htd];simp only;rw[show((n-3:Nat):Int)=(n:Int)-3 by omega];(repeat constructor)) ?_))
      exact im_
     ·rw[dF_ k3]
      rw[if_neg (fun h=>k3 (by omega)),if_neg (fun h=>h.1.1 k0)]at htd
      refine o_ v_pickT (e_condF (o_ v_neq ?_))
      rw[dF_ (fun h=>h k0)]
      refine e_gdF2 (e_gdF2 (o_ v_pickF (e_gdF2 (e_gdF2 (o_ v_pickF (e_gdF2 (e_gdF2 (e_gdF2 (e_gdF2 (e_gdF2 (e_gdF2 (e_gdF2 (o_ v_pickF (e_condF (e_sat (.pu (by rw[htd];rfl) (.pick (by rw[htd];simp only;(repeat constructor)) ?_)))))))))))))))))
      exact im_
   ·rw[dF_ k0]
    rw[if_neg (fun h=>k0 h.1),if_neg (fun h=>k0 h.1)]at htd
    refine e_gdF2 (e_gdF2 (o_ v_pickF (e_condF (o_ v_eql ?_))))
    rw[dF_ k0]
    refine e_gdF2 (e_gdF2 (o_ v_pickF (e_condF (o_ v_neq ?_))))
    rw[dT_ k0]
    refine e_gdT (e_gdT (o_ v_geq ?_))
    by_cases k3:(3:Int)<=(n:Int)
    ·rw[dT_ k3]
     refine o_ v_pickT (e_gdT (e_gdT (o_ v_gtr ?_)))
     by_cases ki:(0:Int)<(i:Int)
     ·rw[dT_ ki]
      refine o_ v_pickT (e_gdT (ln_ ?_));refine e_gdT (e_gdT (sb_ ?_));refine e_gdT (o_ (v_ia1 (i-1) (by omega) (by omega)) ?_)
      refine e_gdT (p_op (v_ldRd hA (v:=I row[i-1]) (I_get (by omega))) ?_)
      refine e_gdT (e_gdT ?_)
      unfold I
      refine o_ v_eql ?_
      by_cases kv:row[i-1]=v
      ·rw[dT_ kv]
       rw[if_pos ⟨⟨k0,by omega⟩,by omega,by rw[List.getElem?_eq_getElem (by omega),kv]⟩]at htd
       refine o_ v_pickT (e_condT (o_ v_min ?_))
       rw[show(if(6:Int)<(n:Int)then(6:Int)else(n:Int))=((min n 6:Nat):Int) by split <;> omega]
       refine sb_ ?_;refine o_ v_rv ?_;refine sg_ ?_
       refine e_sat (.pu (by rw[htd]) (.pick (by rw[htd];simp only;rw[show((min n 6-3:Nat):Int)=((min n 6:Nat):Int)-3 by omega];(repeat constructor)) ?_))
       exact im_
      ·rw[dF_ kv]
       rw[if_neg (fun h=>kv (by have:=h.2.2;rw[List.getElem?_eq_getElem (by omega)]at this;exact Option.some.inj this))]at htd
       refine o_ v_pickT (e_condF (e_sat (.pu (by rw[htd];rfl) (.pick (by rw[htd];simp only;(repeat constructor)) ?_))))
       exact im_
     ·rw[dF_ ki]
      rw[if_neg (fun h=>ki (by omega))]at htd
      refine o_ v_pickT (e_gdF2 (e_gdF2 (e_gdF2 (e_gdF2 (e_gdF2 (e_gdF2 (e_gdF2 (o_ v_pickF (e_condF (e_sat (.pu (by rw[htd];rfl) (.pick (by rw[htd];simp only;(repeat constructor)) ?_))))))))))))
      exact im_
    ·rw[dF_ k3]
     rw[if_neg (fun h=>k3 (by omega))]at htd
     refine o_ v_pickT (e_gdF2 (e_gdF2 (o_ v_pickF (e_gdF2 (e_gdF2 (e_gdF2 (e_gdF2 (e_gdF2 (e_gdF2 (e_gdF2 (o_ v_pickF (e_condF (e_sat (.pu (by rw[htd];rfl) (.pick (by rw[htd];simp only;(repeat constructor)) ?_)))))))))))))))
     exact im_
  ·intro ds z
   refine e_pu .here fun hz=>?_
   subst hz
   refine lg_ ?_
   refine e_imp (M:=all [T,all [pt c1 (.cells #[.slice (some ⟨g,o,none⟩) row.length c] 197),A,G k]]::F) ?_ ?_
   ·refine .all ?_
    refine nr_ ?_
    refine .pick (by repeat constructor) (.all ?_)
    refine nr_ ?_
    exact im_
   have hget:(tdVs row)[k]? =some [tdV tn.1]:=by
    unfold tdVs
    rw[List.getElem?_map,g2 hkl];rfl
   refine e_yield hy k hget .here ?_ ?_
   ·(refine o_ v_notT ?_);refine e_condF ?_;refine ad_ ?_
    refine e_all .here ?_
    refine nr_ ?_
    refine e_all (.there .here) ?_
    refine nr_ ?_
    rw[if_pos hil]at hnx
    refine e_next1 (m-1) (by omega) (.ex (k+1) (.all (.pu ⟨by omega,by rw[hnx];norm_cast⟩ ?_)))
    refine nr_ ?_
    exact im_
   ·(refine o_ v_notF ?_);refine e_condT ?_
    refine rt_ false ?_
    exact im_
theorem countP_at {p q:Nat->Bool}{N:Nat}(h:∀j,j≠N->p j=q j):∀n,(List.range n).countP q+(if N<n then(p N).toNat else 0)=(List.range n).countP p+(if N<n then(q N).toNat else 0)
 |0=>by simp
 |n+1=>by
  have ih:=countP_at h n
  rw[List.range_succ,List.countP_append,List.countP_append]
  have e1:∀r:Nat->Bool,[n].countP r=(r n).toNat:=fun r=>by
   cases hr:r n with
   |true=>rw[List.countP_cons_of_pos hr];rfl
   |false=>rw[List.countP_cons_of_neg (by simp[hr])];rfl
  rw[e1,e1]
  by_cases c:n=N
  ·subst c
   rw[if_neg (by omega),if_neg (by omega)]at ih
   rw[if_pos (by omega),if_pos (by omega)]
   omega
  ·rw[h n c]
   by_cases d:N<n
   ·rw[if_pos d,if_pos d]at ih
    rw[if_pos (by omega),if_pos (by omega)]
    omega
   ·rw[if_neg d,if_neg d]at ih
    rw[if_neg (by omega),if_neg (by omega)]
    omega
def knT (T:List Td):Nat:=(frq0 T).countP fun x=>decide (0<x)
theorem cntT_snoc (T:List Td)(t:Td)(s:Nat):cntT (T++[t]) s=cntT T s+if t.sym=(s:Int)then 1 else 0:=by
 unfold cntT
 rw[List.countP_append]
 by_cases c:t.sym=(s:Int)
 ·rw[if_pos c,List.countP_cons_of_pos (by simpa using c)];rfl
 ·rw[if_neg c,List.countP_cons_of_neg (by simpa using c)];rfl
theorem knT_snoc {T:List Td}{t:Td}{N:Nat}(ht:t.sym=(N:Int))(hN:N<19):knT (T++[t])=knT T+if cntT T N+1=1 then 1 else 0:=by
 have e:∀T:List Td,knT T=(List.range 19).countP fun s=>decide (0<(cntT T s:Int)):=fun T=>by
  unfold knT frq0
  rw[List.countP_map];rfl
 have:=countP_at (p:=fun s=>decide (0<(cntT T s:Int))) (q:=fun s=>decide (0<(cntT (T++[t]) s:Int))) (N:=N) (fun j hj=>by
  rw[cntT_snoc,if_neg (fun h=>hj (by omega))];rfl) 19
 rw[if_pos hN,if_pos hN,<- e,<- e]at this
 rw[cntT_snoc,ht,if_pos rfl]at this
 by_cases c:cntT T N+1=1
 ·rw[if_pos c]
  rw[dF_ (by omega),dT_ (by omega)]at this
  exact this
 ·rw[if_neg c]
  rw[dT_ (by omega),dT_ (by omega)]at this
  simp only[Bool.toNat_true]at this
  omega
theorem cntT_le (T:List Td)(s:Nat):cntT T s<=T.length:=List.countP_le_length
theorem knT_le (T:List Td):knT T<=19:=by
 unfold knT
 refine Nat.le_trans List.countP_le_length ?_
 simp[frq0]
theorem frq0_Ln (T:List Td):(frq0 T).map I=Ln 19 fun s=>(cntT T s:Int):=by
 unfold Ln frq0
 rw[List.map_map];rfl
theorem ordL_lt:∀c:Fin 19,∃k,ordL[c.1]? =some k/\k<19:=by decide
theorem putL_i {L:List Bool}{n k:Int}{e j:Nat}(hn:n=(e:Int))(hk:k=(j:Int))(h1:j<=32)(h2:e<2^j)(h:L.length+j<=8388608):putL L n k=L++bitsOf e j:=by
 rw[hn,hk]
 exact putL_ok h1 h2 h
def tdB (l:List Int)(t:Td):List Bool:=cwd l t.sym++bitsOf t.extra t.bits
theorem fltL_take {α:Type}{f:α->List Bool}{l:List α}{k:Nat}(h:k<l.length):(l.take (k+1)).flatMap f=(l.take k).flatMap f++f l[k]:=by
 rw[List.take_succ_eq_append_getElem h,List.flatMap_append];simp
theorem fltL_le {α:Type}{f:α->List Bool}{l:List α}{k:Nat}(h:k<l.length):((l.take k).flatMap f).length+(f l[k]).length<=(l.flatMap f).length:=by
 have e:l.flatMap f=(l.take (k+1)).flatMap f++(l.drop (k+1)).flatMap f:=by rw[<- List.flatMap_append,List.take_append_drop]
 rw[e,List.length_append,fltL_take h,List.length_append]
 omega
theorem head {W:World}{w:Nat}{la lb:List Int}{qa qb:Qs}{L:List Bool}(va:∀x∈la,0<=x/\x<=15)(vb:∀x∈lb,0<=x/\x<=15)(h1:la.length=286)(h2:lb.length=30)(hL:L.length+(hdX la lb).length<=8388608):
  Cn p_ 203 [.pointer (some ⟨w,0,none⟩),setV (sv la qa),setV (sv lb qb)] W [IsW w L,IsSet la qa,IsSet lb qb] (fun _:Unit=> .tuple #[]) (fun _=>[IsW w (L++hdX la lb),IsSet la qa,IsSet lb qb]):=by
 obtain⟨T,hT⟩:∃T,T=runsF (hdRow la lb):=⟨_,rfl⟩
 obtain⟨u1,u2,u3⟩:=upto_ok la 257 (by omega)
 obtain⟨w1,w2,w3⟩:=upto_ok lb 1 (by omega)
 have hrow:(hdRow la lb).length=upto la 257+upto lb 1:=by
  unfold hdRow;rw[List.length_append,List.length_take,List.length_take];omega
 have hrv:=hdRow_b va vb
 have hTl:T.length<=1000:=by
  have:=runsN_len (hdRow la lb) ((hdRow la lb).length+1) 0
  rw[hT];unfold runsF;omega
 have hTs:∀t∈T,0<=t.sym/\t.sym<=18/\t.extra<2^t.bits/\t.bits<=7:=fun t ht=>runsN_sym hrv _ _ t (by rw[hT]at ht;exact ht)
 have hTv:tdVs (hdRow la lb)=T.map fun t=>[tdV t]:=by unfold tdVs;rw[hT]
 obtain⟨D,hD⟩:∃D,D=hdLen la lb:=⟨_,rfl⟩
 have hDe:lenV (frqT T) 7=D:=by rw[hD,hT];rfl
 have hDE:lenE (frqT T) 7=0:=by rw[hT];exact frqT_E (by omega)
 have hD19:D.length=19:=by rw[<- hDe,(PM.lenV_facts hDE).1];unfold frqT;rw[oneK_len];simp[frq0]
 have hDv:∀x∈D,0<=x/\x<=7:=fun x hx=>(PM.lenV_facts hDE).2.2.2.2.1 x (by rw[hDe];exact hx)
 have hlim:=lenV_le (frqT T) 7
 obtain⟨O,hO⟩:∃O,O=hdOrd D:=⟨_,rfl⟩
 have hO19:O.length=19:=by rw[hO];simp[hdOrd,ordL]
 have hOv:∀x∈O,0<=x/\x<=7:=fun x hx=>by
  rw[hO]at hx
  obtain⟨k,_,rfl⟩:=List.mem_map.1 hx
  rw[List.getD_eq_getElem?_getD]
  cases hk:D[k]? with
  |none=>exact⟨by simp,by simp⟩
  |some y=>exact hDv y (List.mem_of_getElem? hk)
 obtain⟨q1,q2,q3⟩:=upto_ok O 4 (by omega)
 obtain⟨c,hc⟩:∃c,c=upto O 4:=⟨_,rfl⟩
 rw[<- hc]at q1 q2 q3
 have hX:hdX la lb=bitsOf (upto la 257-257) 5++(bitsOf (upto lb 1-1) 5++(bitsOf (c-4) 4++((O.take c).flatMap (fun n=>bitsOf n.toNat 3)++T.flatMap (tdB D)))):=by
  unfold hdX
  simp only
  rw[<- hD,<- hO,<- hc,<- hT]
  simp only[List.append_assoc]
  rfl
 rw[hX]at hL ⊢
 simp only[List.length_append,length_bitsOf]at hL
 obtain⟨M0,hM0⟩:∃M0,M0=L++(bitsOf (upto la 257-257) 5++(bitsOf (upto lb 1-1) 5++bitsOf (c-4) 4)):=⟨_,rfl⟩
 have hM0l:M0.length=L.length+14:=by rw[hM0];simp only[List.length_append,length_bitsOf]
 have hfin:L++(bitsOf (upto la 257-257) 5++(bitsOf (upto lb 1-1) 5++(bitsOf (c-4) 4++((O.take c).flatMap (fun n=>bitsOf n.toNat 3)++T.flatMap (tdB D)))))=M0++(O.take c).flatMap (fun n=>bitsOf n.toNat 3)++T.flatMap (tdB D):=by
  rw[hM0];simp only[List.append_assoc]
 rw[hfin]
 have hrowe:hdRow la lb=la.take (upto la 257)++lb.take (upto lb 1):=rfl
 obtain⟨R,hR⟩:∃R,R=hdRow la lb:=⟨_,rfl⟩
 rw[<- hR]at hrow hTv hrowe
 obtain⟨ua,hua⟩:∃ua,ua=upto la 257:=⟨_,rfl⟩
 obtain⟨ub_,hub⟩:∃ub_,ub_=upto lb 1:=⟨_,rfl⟩
 unfold setV sv
 (refine S.deflate_head_s.cn fun F=>?_;unfold S.deflate_head;simp only[ca_,na_])
 refine e_box1 fun b3=>?_
 refine e_boxA fun b4=>?_
 refine e_boxA fun b5=>?_
 refine e_all (M:=[Sl 1 3 qa.1.1 qa.1.2 la.length (la.map I),Sl 1 3 qa.2.1 qa.2.2 (cdL la).length ((cdL la).map I)]) (.there (.there (.there (.there .here)))) ?_
 refine nr_ ?_
 refine e_all (M:=[Sl 1 3 qb.1.1 qb.1.2 lb.length (lb.map I),Sl 1 3 qb.2.1 qb.2.2 (cdL lb).length ((cdL lb).map I)]) (.there (.there (.there (.there (.there (.there .here)))))) ?_
 refine nr_ ?_
 refine e_slfacts (p:=(by(repeat constructor):Pick _ (Sl 1 3 qa.1.1 qa.1.2 la.length (la.map I)) _)) fun _ fa2 fa3 fa4=>?_
 refine e_slfacts (p:=(by(repeat constructor):Pick _ (Sl 1 3 qb.1.1 qb.1.2 lb.length (lb.map I)) _)) fun _ fb2 fb3 fb4=>?_
 obtain⟨⟨qaa,qac⟩,qcc⟩:=qa
 obtain⟨⟨qba,qbc⟩,qdc⟩:=qb
 (try dsimp only at *)
 obtain⟨ga,rfl⟩:=fa4 (by omega)
 obtain⟨gb,rfl⟩:=fb4 (by omega)
 have ra:RdB W (Sl 1 3 (some ⟨ga,0,none⟩) qac la.length (la.map I)) (some ⟨ga,0,none⟩) la.length (la.map I):=rd_sl (by rw[List.length_map]) (fun _=>⟨ga,rfl⟩)
 have rb:RdB W (Sl 1 3 (some ⟨gb,0,none⟩) qbc lb.length (lb.map I)) (some ⟨gb,0,none⟩) lb.length (lb.map I):=rd_sl (by rw[List.length_map]) (fun _=>⟨gb,rfl⟩)
 refine e_drS (t_ v_fa0 (ls_ ?_));refine e_stD v_fa0 .nil ?_;(((refine' e_stD (v_ldN ?hc) ?hi ?_);(case hi=>exact .pick (by repeat constructor) .nil);(case hc=>repeat constructor)))
 refine c_ (upto_ (cap:=qac) (least:=257) ra (by omega) (by omega)) fun _=>?_
 refine ob_ ?_;refine ob_ ?_
 refine c_ (upto_ (cap:=qbc) (least:=1) rb (by omega) (by omega)) fun _=>?_
 rw[<- hua,<- hub]
 rw[<- hua]at u1 u2 u3 hrow hrowe
 rw[<- hub]at w1 w2 w3 hrow hrowe
 refine e_drS (t_ v_fa0 (ls_ ?_))
 refine t_ (v_slh0 ua rfl (by omega)) ?_
 refine e_stD v_fa0 .nil ?_;(((refine' e_stD (v_ldN ?hc) ?hi ?_);(case hi=>exact .pick (by repeat constructor) .nil);(case hc=>repeat constructor)))
 refine e_stD (v_slh0 ub_ rfl (by omega)) .nil ?_
 refine e_nil (s:=1) (e:=3) ?_
 have ta:(la.take ua).length=ua:=by rw[List.length_take];omega
 have tb:(lb.take ub_).length=ub_:=by rw[List.length_take];omega
 have ra2:RdB W (Sl 1 3 (some ⟨ga,0,none⟩) qac la.length (la.map I)) (some ⟨ga,0,none⟩) ua ((la.take ua).map I):=by rw[List.map_take];exact rd_pre ra u1
 have rb2:RdB W (Sl 1 3 (some ⟨gb,0,none⟩) qbc lb.length (lb.map I)) (some ⟨gb,0,none⟩) ub_ ((lb.take ub_).map I):=by rw[List.map_take];exact rd_pre rb w1
 refine e_app (m:=ua) (news:=(la.take ua).map I) .here (src_rd (A:=Sl 1 3 (some ⟨ga,0,none⟩) qac la.length (la.map I)) (e':=3) (by kernel_rfl) (by repeat constructor) ra2 (fun c=>by cases c) I_one) (by omega) (by omega) fun a1 c1=>?_
 refine ob_ ?_;refine ob_ ?_;refine ob_ ?_
 refine e_app (m:=ub_) (news:=(lb.take ub_).map I) .here (src_rd (A:=Sl 1 3 (some ⟨gb,0,none⟩) qbc lb.length (lb.map I)) (e':=3) (by kernel_rfl) (by repeat constructor) rb2 (fun c=>by cases c) I_one) (by omega) (by omega) fun a2 c2=>?_
 rw[show []++(la.take ua).map I++(lb.take ub_).map I=R.map I by rw[hrowe,List.map_append,List.nil_append],show 0+ua+ub_=R.length by omega]
 refine e_slfacts .here fun _ _ _ fr4=>?_
 have rR:RdB W (Sl 1 3 a2 c2 R.length (R.map I)) a2 R.length (R.map I):=rd_sl (by rw[List.length_map]) fr4
 refine e_mksl 19 19 (by rfl) (by rfl) (by omega) (by omega) (by unfold maxLen;omega) fun gc=>?_
 refine e_new1 fun g=>?_;refine sn_ ?_;refine e_new1 fun g=>?_;refine sn_ ?_
 rename Nat=>b10
 obtain⟨b9,hb9⟩:∃b9,b9=g:=⟨_,rfl⟩
 rw[<- hb9]
 clear hb9 g
 obtain⟨SA,hSA⟩:∃SA,SA=IsSet la ((some ⟨ga,0,none⟩,qac),qcc):=⟨_,rfl⟩
 obtain⟨SB,hSB⟩:∃SB,SB=IsSet lb ((some ⟨gb,0,none⟩,qbc),qdc):=⟨_,rfl⟩
 rw[<- hSA,<- hSB]
 obtain⟨SR,hSR⟩:∃SR,SR=Sl 1 3 a2 c2 R.length (R.map I):=⟨_,rfl⟩
 rw[<- hSR]at rR ⊢
 refine e_imp (M:=pt b10 (.cells #[.int .i64 0] 3)::pt b9 (.cells #[.slice (some ⟨gc,0,none⟩) 19 19] 197)::Sl 1 3 (some ⟨gc,0,none⟩) 19 19 (List.replicate 19 (.int .i64 0))::SR::pt b3 (.cells #[.pointer (some ⟨w,0,none⟩)] 156)::IsW w L::SA::SB::[all F]) ?_ ?_
 ·rw[hSA,hSB]
  unfold IsSet
  refine .pick (by repeat constructor) (.pick (by repeat constructor) (.pick (by repeat constructor) (.pick (by repeat constructor) (.pick (by repeat constructor) (.pick (by repeat constructor) (.all ?_))))))
  refine nr_ ?_
  refine .pick (by repeat constructor) (.pick (by repeat constructor) (.all ?_))
  refine nr_ ?_
  refine .pick (by repeat constructor) (.pick (by repeat constructor) (.all ?_))
  rw[List.append_nil]
  exact im_
 refine c_ (runs (a:=a2) (n:=R.length) (c:=c2)) fun _=>?_
 rename_i r1
 have hTlen:(tdVs R).length=T.length:=by rw[hTv];simp
 refine e_rf (f:=244) (cap:=[.pointer (some ⟨r1,0,none⟩)]) (tdVs R)
  (fun k=>all [pt r1 (.cells #[.slice a2 R.length c2] 197),SR,all [pu (k<=T.length),pt b10 (.cells #[.int .i64 (knT (T.take k):Int)] 3),pt b9 (.cells #[.slice (some ⟨gc,0,none⟩) 19 19] 197),Sl 1 3 (some ⟨gc,0,none⟩) 19 19 (Ln 19 fun s=>(cntT (T.take k) s:Int)),all [pt b3 (.cells #[.pointer (some ⟨w,0,none⟩)] 156),IsW w L,SA,SB,all F]]]) (pu False) rfl ?_ ?_ ?_ ?_ ?_ ?_
 ·intro x hx
  rw[hTv]at hx
  obtain⟨k,_,rfl⟩:=List.mem_map.1 hx
  rfl
 ·refine .all ?_
  refine nr_ ?_
  refine .pick (by repeat constructor) (.pick (by repeat constructor) (.all ?_))
  refine nr_ ?_
  rw[Ln_zero]
  refine .pu (by omega) (.pick (by repeat constructor) (.pick (by repeat constructor) (.pick (by repeat constructor) (.all ?_))))
  refine nr_ ?_
  exact im_
 ·intro l T1 T2 hy
  exact runs1 (n:=0) (G:=fun k=>all [pu (k<=T.length),pt b10 (.cells #[.int .i64 (knT (T.take k):Int)] 3),pt b9 (.cells #[.slice (some ⟨gc,0,none⟩) 19 19] 197),Sl 1 3 (some ⟨gc,0,none⟩) 19 19 (Ln 19 fun s=>(cntT (T.take k) s:Int)),all [pt b3 (.cells #[.pointer (some ⟨w,0,none⟩)] 156),IsW w L,SA,SB,all F]]) rR (by omega) hy
 ·intro k hk F2 T0 T1 B N J hB hN hJ
  rw[hTlen]at hk
  have e0:∀h,(tdVs R)[k]'h=[tdV T[k]]:=fun h=>by simp[hTv]
  rw[e0]
  simp only[vapp,List.headD_cons,List.tail_cons]
  have hts:=hTs _ (List.getElem_mem hk)
  have htk:T.take (k+1)=T.take k++[T[k]]:=List.take_succ_eq_append_getElem hk
  obtain⟨t,ht⟩:∃t,t=T[k]:=⟨_,rfl⟩
  rw[<- ht]at hts htk ⊢
  obtain⟨n,hn⟩:=Int.eq_ofNat_of_zero_le hts.1
  have hn19:n<19:=by omega
  have hknS:=knT_snoc (T:=T.take k) hn hn19
  rw[<- htk]at hknS
  have hcs:∀s,cntT (T.take (k+1)) s=cntT (T.take k) s+if t.sym=(s:Int)then 1 else 0:=fun s=>by rw[htk];exact cntT_snoc _ _ _
  have hc1:=cntT_le (T.take k) n
  have hc2:=knT_le (T.take k)
  have hc3:(T.take k).length<=1000:=by rw[List.length_take];omega
  refine e_all (.there .here) ?_
  refine nr_ ?_
  refine e_all (.there (.there .here)) ?_
  refine nr_ ?_
  refine e_pu .here fun hkn=>?_
  unfold tdV
  rw[hn]
  refine e_newA fun g=>?_;refine sg_ ?_
  refine hB _ _ _ (by repeat constructor) ?_
  refine ln_ ?_;refine o_ v_fa0 (ln_ ?_)
  refine o_ (v_ia1 n (by rfl) hn19) ?_
  have hld:(Ln 19 fun s=>(cntT (T.take k) s:Int))[0+n]? =some (I (cntT (T.take k) n:Int)):=by rw[Nat.zero_add];exact Ln_get hn19
  refine p_op (v_ldSl hld) ?_
  refine ad_ ?_
  refine o_ (v_ia1 n (by rfl) hn19) ?_
  refine e_stSl (by repeat constructor) (by rw[Nat.zero_add,Ln_len];omega) ?_
  rw[Nat.zero_add]
  have hset:(Ln 19 fun s=>(cntT (T.take k) s:Int)).set n (.int .i64 ((cntT (T.take k) n:Int)+1))=Ln 19 fun s=>(cntT (T.take (k+1)) s:Int):=by
   have:=Ln_set (n:=19) (j:=n) (f:=fun s=>(cntT (T.take k) s:Int)) (v:=(cntT (T.take k) n:Int)+1)
   unfold I at this
   rw[this]
   refine Ln_congr fun j hj=>?_
   rw[hcs,hn]
   by_cases cj:j=n
   ·subst cj;rw[if_pos rfl,if_pos rfl];rfl
   ·rw[if_neg cj,if_neg (by omega)];rfl
  rw[hset]
  refine ln_ ?_;refine o_ v_fa0 (ln_ ?_)
  refine o_ (v_ia1 n (by rfl) hn19) ?_
  have hld2:(Ln 19 fun s=>(cntT (T.take (k+1)) s:Int))[0+n]? =some (I (cntT (T.take (k+1)) n:Int)):=by rw[Nat.zero_add];exact Ln_get hn19
  refine p_op (v_ldSl hld2) ?_
  have hc4:cntT (T.take (k+1)) n=cntT (T.take k) n+1:=by rw[hcs,hn,if_pos rfl]
  unfold I
  refine o_ v_eql ?_
  by_cases h1c:(cntT (T.take (k+1)) n:Int)=1
  ·rw[dT_ h1c]
   rw[if_pos (by omega)]at hknS
   refine e_condT (ln_ ?_);refine ad_ ?_;refine sn_ ?_
   refine hN _ ?_
   refine .pick (by repeat constructor) (.all ?_)
   refine nr_ ?_
   refine .pick (by repeat constructor) (.pick (by repeat constructor) (.all ?_))
   refine nr_ ?_
   rw[hknS,show((knT (T.take k)+1:Nat):Int)=(knT (T.take k):Int)+1 by rfl]
   refine .pu (by omega) ?_
   exact im_
  ·rw[dF_ h1c]
   rw[if_neg (by omega)]at hknS
   refine e_condF (hN _ ?_)
   refine .pick (by repeat constructor) (.all ?_)
   refine nr_ ?_
   refine .pick (by repeat constructor) (.pick (by repeat constructor) (.all ?_))
   refine nr_ ?_
   rw[hknS,Nat.add_zero]
   refine .pu (by omega) ?_
   exact im_
 rotate_left
 ·intro d1
  exact e_pu (.there .here) fun h=>h.elim
 intro d1
 rw[hTlen,List.take_length,<- frq0_Ln]
 refine e_all (.there .here) ?_
 refine nr_ ?_
 refine e_all (.there (.there .here)) ?_
 refine nr_ ?_
 refine e_pu .here fun _=>?_
 have hf19:(frq0 T).length=19:=by simp[frq0]
 have hfb:∀(j:Nat) (h:j<(frq0 T).length),0<=(frq0 T)[j]/\(frq0 T)[j]<=1000:=fun j h=>by
  have:=cntT_le T j
  simp only[frq0,List.getElem_map,List.getElem_range]
  omega
 have hkT:=knT_le T
 refine e_cut0 (Sl 1 3 (some ⟨gc,0,none⟩) 19 19 ((frqT T).map I)::pt d1 (.deferred (some []))::pt b9 (.cells #[.slice (some ⟨gc,0,none⟩) 19 19] 197)::all [pt b3 (.cells #[.pointer (some ⟨w,0,none⟩)] 156),IsW w L,SA,SB,all F]::pt r1 (.cells #[.slice a2 R.length c2] 197)::SR::[]) ?_ ?_
 rotate_left
 ·refine ln_ ?_
  refine o_ v_eql ?_
  by_cases k1:(knT T:Int)=1
  rotate_left
  ·rw[dF_ k1]
   refine e_condF ?_
   have:frqT T=frq0 T:=by
    unfold frqT oneK
    rw[if_neg (fun h=>k1 (by rw[show knT T=(frq0 T).countP fun x=>decide (0<x)from rfl,h];rfl))]
   rw[this]
   refine e_sat ?_
   exact im_
  rw[dT_ k1]
  refine e_condT ?_
  have hoK:frqT T=if 0<(frq0 T).getD 0 0 then(frq0 T).set 1 ((frq0 T).getD 1 0+1)else(frq0 T).set 0 ((frq0 T).getD 0 0+1):=by
   unfold frqT oneK
   have hk1:knT T=1:=by omega
   rw[if_pos (show((frq0 T).countP fun x=>decide (0<x))=1 from hk1)]
  have hgD:∀(j:Nat) (h:j<(frq0 T).length),(frq0 T).getD j 0=(frq0 T)[j]:=fun j h=>by rw[List.getD_eq_getElem?_getD,List.getElem?_eq_getElem h];rfl
  rw[hgD 0 (by omega),hgD 1 (by omega)]at hoK
  obtain⟨z0,hz0⟩:∃z0:Int,z0=(frq0 T)[0]'(by omega):=⟨_,rfl⟩
  obtain⟨z1,hz1⟩:∃z1:Int,z1=(frq0 T)[1]'(by omega):=⟨_,rfl⟩
  have hb0:=hfb 0 (by omega)
  have hb1:=hfb 1 (by omega)
  have hld0:((frq0 T).map I)[0+0]? =some (.int .i64 z0):=by rw[hz0];exact I_get (by omega)
  have hld1:((frq0 T).map I)[0+1]? =some (.int .i64 z1):=by rw[hz1,Nat.zero_add];exact I_get (by omega)
  rw[<- hz0,<- hz1]at hoK
  rw[<- hz0]at hb0
  rw[<- hz1]at hb1
  refine e_cut1 (fun z=>pu (z= .int .i64 (if 0<z0 then 1 else 0))::Sl 1 3 (some ⟨gc,0,none⟩) 19 19 ((frq0 T).map I)::pt d1 (.deferred (some []))::pt b9 (.cells #[.slice (some ⟨gc,0,none⟩) 19 19] 197)::all [pt b3 (.cells #[.pointer (some ⟨w,0,none⟩)] 156),IsW w L,SA,SB,all F]::pt r1 (.cells #[.slice a2 R.length c2] 197)::SR::[]) ?_ ?_
  rotate_left
  ·refine ln_ ?_
   refine o_ (v_ia1 0 (by rfl) (by omega)) ?_
   refine p_op (v_ldSl hld0) ?_
   refine o_ v_gtr ?_
   by_cases k2:0<z0
   ·rw[dT_ k2]
    refine e_condT (e_sat (.pu (by rw[if_pos k2]) ?_))
    exact im_
   ·rw[dF_ k2]
    refine e_condF (e_sat (.pu (by rw[if_neg k2]) ?_))
    exact im_
  intro ds z
  refine e_pu .here fun hz=>?_
  subst hz
  by_cases k2:0<z0
  ·rw[if_pos k2]at hoK ⊢
   refine ln_ ?_
   refine o_ (v_ia1 1 (by rfl) (by omega)) ?_
   refine p_op (v_ldSl hld1) ?_
   refine ad_ ?_
   refine o_ (v_ia1 1 (by rfl) (by omega)) ?_
   refine e_stSl (by repeat constructor) (by rw[List.length_map];omega) ?_
   rw[hoK,List.map_set]
   refine e_sat ?_
   exact im_
  ·rw[if_neg k2]at hoK ⊢
   refine ln_ ?_
   refine o_ (v_ia1 0 (by rfl) (by omega)) ?_
   refine p_op (v_ldSl hld0) ?_
   refine ad_ ?_
   refine o_ (v_ia1 0 (by rfl) (by omega)) ?_
   refine e_stSl (by repeat constructor) (by rw[List.length_map];omega) ?_
   rw[hoK,List.map_set]
   refine e_sat ?_
   exact im_
 intro ds
 have hfT19:(frqT T).length=19:=by unfold frqT;rw[oneK_len];exact hf19
 have hrf:RdB W (Sl 1 3 (some ⟨gc,0,none⟩) 19 19 ((frqT T).map I)) (some ⟨gc,0,none⟩) (frqT T).length ((frqT T).map I):=by
  rw[hfT19]
  exact rd_sl (by rw[List.length_map,hfT19]) (fun _=>⟨gc,rfl⟩)
 have hln:=lengths (W:=W) (cap:=19) (lim:=7) hrf (by omega)
 rw[hfT19,hDe,hDE]at hln
 refine ln_ ?_
 refine c_ hln fun _=>?_
 rename_i qD
 refine xt_ ?_;refine xt_ ?_
 refine e_slfacts .here fun _ hnd hcd hfd=>?_
 obtain⟨qDa,qDc⟩:=qD
 (try dsimp only at *)
 obtain⟨gd,rfl⟩:=hfd (by omega)
 have rD:RdB W (Sl 1 3 (some ⟨gd,0,none⟩) qDc D.length (D.map I)) (some ⟨gd,0,none⟩) D.length (D.map I):=rd_sl (by rw[List.length_map]) (fun _=>⟨gd,rfl⟩)
 refine c_ (newSet (cap:=qDc) rD (by omega)) fun _=>?_
 rename_i qS
 unfold setV
 (try dsimp only)
 refine e_newA fun g=>?_;refine sg_ ?_;refine o_ v_rv ?_
 rename Nat=>b15
 refine e_slfacts (.there .here) fun _ _ _ hfc=>?_
 have rC:RdB W (Sl 1 3 qS.1 qS.2 (cdL D).length ((cdL D).map I)) qS.1 (cdL D).length ((cdL D).map I):=rd_sl (by rw[List.length_map]) hfc
 refine e_all (.there (.there (.there (.there (.there (.there .here)))))) ?_
 refine nr_ ?_
 refine e_loop2 (fun m y z=>(ex fun st:(Option Addr × Nat) × Nat=>all [pu (m+st.2=19/\st.2<=19/\y= .slice st.1.1 st.2 st.1.2/\z= .int .i64 (st.2:Int)),Sl 1 3 st.1.1 st.1.2 st.2 ((O.take st.2).map I)])::pt b15 (.cells #[.slice (some ⟨gd,0,none⟩) D.length qDc,.slice qS.1 (cdL D).length qS.2] 258)::Sl 1 3 qS.1 qS.2 (cdL D).length ((cdL D).map I)::Sl 1 3 (some ⟨gd,0,none⟩) qDc D.length (D.map I)::pt d1 (.deferred (some []))::pt b3 (.cells #[.pointer (some ⟨w,0,none⟩)] 156)::IsW w (L)::SA::SB::pt r1 (.cells #[.slice a2 R.length c2] 197)::SR::[all F]) 19 ?_ ?_
 ·refine .ex ((none,0),0) (.all ?_)
  refine nr_ ?_
  refine .pu ⟨rfl,by omega,rfl,rfl⟩ ?_
  refine imp_nil ?_
  exact im_
 intro m ds y z
 refine e_ex .here fun st=>e_all .here ?_
 obtain⟨⟨ta_,tc⟩,i⟩:=st
 refine nr_ ?_
 refine e_pu .here fun hi=>?_
 (try dsimp only at hi)
 obtain⟨hmi,hi19,rfl,rfl⟩:=hi
 (try dsimp only)
 refine o_ v_lss ?_
 by_cases hlt:(i:Int)<19
 ·rw[dT_ hlt]
  refine e_condT ?_
  obtain⟨k,hk,hk19⟩:=ordL_lt ⟨i,by omega⟩
  (try dsimp only at hk)
  have hkv:(#[(.int .i64 16),(.int .i64 17),(.int .i64 18),(.int .i64 0),(.int .i64 8),(.int .i64 7),(.int .i64 9),(.int .i64 6),(.int .i64 10),(.int .i64 5),(.int .i64 11),(.int .i64 4),(.int .i64 12),(.int .i64 3),(.int .i64 13),(.int .i64 2),(.int .i64 14),(.int .i64 1),(.int .i64 15)]:Array Value)[i]? =some (.int .i64 (k:Int)):=by
   have:i=0\/i=1\/i=2\/i=3\/i=4\/i=5\/i=6\/i=7\/i=8\/i=9\/i=10\/i=11\/i=12\/i=13\/i=14\/i=15\/i=16\/i=17\/i=18:=by omega
   rcases this with rfl|rfl|rfl|rfl|rfl|rfl|rfl|rfl|rfl|rfl|rfl|rfl|rfl|rfl|rfl|rfl|rfl|rfl|rfl <;> (have hk':=Option.some.inj hk;subst hk';rfl)
  refine o_ (v_ixA i rfl (by omega) hkv) ?_
  refine o_ (v_ia1 k (by rfl) (by omega)) ?_
  have hOi:O[i]'(by omega)=D[k]'(by omega):=by
   have h1:O[i]? =some (D.getD k 0):=by rw[hO];unfold hdOrd;rw[List.getElem?_map,hk];rfl
   rw[List.getElem?_eq_getElem (by omega),List.getD_eq_getElem?_getD,List.getElem?_eq_getElem (by omega)]at h1
   exact Option.some.inj h1
  have hld:(D.map I)[0+k]? =some (.int .i64 (O[i]'(by omega))):=by rw[Nat.zero_add,hOi];exact I_get (by omega)
  refine p_op (v_ldSl hld) ?_
  refine e_bsl1 fun gb=>?_
  refine e_app (m:=1) (news:=[I (O[i]'(by omega))]) (by repeat constructor) (src_pt (s:=1) (e':=3) (by kernel_rfl) .here (by rfl) (by intro u hu;simp at hu;rw[hu];rfl)) (by omega) (by omega) fun a' c'=>?_
  have htk:(O.take i).map I++[I (O[i]'(by omega))]=(O.take (i+1)).map I:=by rw[List.take_succ_eq_append_getElem (by omega),List.map_append];rfl
  rw[htk]
  refine ad_ ?_
  refine e_next2 (m-1) (by omega) (.ex ((a',c'),i+1) (.all ?_))
  refine nr_ ?_
  refine .pu ⟨by omega,by omega,rfl,by norm_cast⟩ ?_
  exact im_
 have hi19':i=19:=by omega
 subst hi19'
 rw[dF_ hlt]
 refine e_condF ?_
 rw[show(O.take 19).map I=O.map I by rw[List.take_of_length_le (by omega)],show(19:Nat)=O.length from hO19.symm]
 refine e_slfacts .here fun _ ho2 ho3 ho4=>?_
 obtain⟨go,rfl⟩:=ho4 (by omega)
 have rO:RdB W (Sl 1 3 (some ⟨go,0,none⟩) tc O.length (O.map I)) (some ⟨go,0,none⟩) O.length (O.map I):=rd_sl (by rw[List.length_map]) (fun _=>⟨go,rfl⟩)
 have hup:=upto_ (W:=W) (cap:=tc) (least:=4) rO (by omega) (by omega)
 rw[<- hc]at hup
 refine c_ hup fun _=>?_
 refine ln_ ?_;refine sb_ ?_
 refine c_ (put (l:=L) (n:=(ua:Int)-257) (k:=5)) fun _=>?_
 rw[putL_i (e:=ua-257) (k:=5) (j:=5) (by omega) rfl (by omega) (by omega) (by omega)]
 refine ln_ ?_;refine sb_ ?_
 refine c_ (put (l:=L++bitsOf (ua-257) 5) (n:=(ub_:Int)-1) (k:=5)) fun _=>?_
 rw[putL_i (e:=ub_-1) (k:=5) (j:=5) (by omega) rfl (by omega) (by omega) (by rw[List.length_append,length_bitsOf];omega)]
 refine ln_ ?_;refine sb_ ?_
 refine c_ (put (l:=L++bitsOf (ua-257) 5++bitsOf (ub_-1) 5) (n:=(c:Int)-4) (k:=4)) fun _=>?_
 rw[putL_i (e:=c-4) (k:=4) (j:=4) (by omega) rfl (by omega) (by omega) (by simp only[List.length_append,length_bitsOf];omega)]
 rw[show L++bitsOf (ua-257) 5++bitsOf (ub_-1) 5++bitsOf (c-4) 4=M0 by rw[hM0,hua,hub];simp only[List.append_assoc]]
 refine o_ (v_slh0 c rfl (by omega)) ?_
 refine o_ v_len ?_
 have hcl:(O.take c).length=c:=by rw[List.length_take];omega
 refine e_loop1 (fun m y=>(ex fun i:Nat=>all [pu (m+i=c/\y= .int .i64 (i:Int)),IsW w (M0++((O.take c).take i).flatMap (fun n=>bitsOf n.toNat 3))])::Sl 1 3 (some ⟨go,0,none⟩) tc O.length (O.map I)::pt b15 (.cells #[.slice (some ⟨gd,0,none⟩) D.length qDc,.slice qS.1 (cdL D).length qS.2] 258)::Sl 1 3 qS.1 qS.2 (cdL D).length ((cdL D).map I)::Sl 1 3 (some ⟨gd,0,none⟩) qDc D.length (D.map I)::pt d1 (.deferred (some []))::pt b3 (.cells #[.pointer (some ⟨w,0,none⟩)] 156)::SA::SB::pt r1 (.cells #[.slice a2 R.length c2] 197)::SR::[all F]) c ?_ ?_
 ·refine .ex 0 (.all ?_)
  refine nr_ ?_
  refine .pu ⟨by omega,rfl⟩ ?_
  rw[List.take_zero,List.flatMap_nil,List.append_nil]
  exact im_
 intro m ds y
 refine e_ex .here fun i=>e_all .here ?_
 refine nr_ ?_
 refine e_pu .here fun hi=>?_
 obtain⟨hmi,rfl⟩:=hi
 refine o_ v_lss ?_
 by_cases hlt:(i:Int)<(c:Int)
 ·rw[dT_ hlt]
  refine e_condT (o_ (v_ia1 i (by rfl) (by omega)) ?_)
  have hld:(O.map I)[0+i]? =some (.int .i64 (O[i]'(by omega))):=by rw[Nat.zero_add];exact I_get (by omega)
  refine p_op (v_ldSl hld) ?_
  refine ln_ ?_
  have hv:=hOv _ (List.getElem_mem (show i<O.length by omega))
  have hfl:=fltL_take (f:=fun n:Int=>bitsOf n.toNat 3) (l:=O.take c) (k:=i) (by omega)
  have hfe:=fltL_le (f:=fun n:Int=>bitsOf n.toNat 3) (l:=O.take c) (k:=i) (by omega)
  have hel:(O.take c)[i]'(by omega)=O[i]'(by omega):=List.getElem_take
  rw[hel]at hfl hfe
  obtain⟨v,hvv⟩:∃v,v=O[i]'(by omega):=⟨_,rfl⟩
  rw[<- hvv]at hv hfl hfe ⊢
  (try dsimp only at hfe)
  rw[length_bitsOf]at hfe
  refine c_ (put (l:=M0++((O.take c).take i).flatMap (fun n=>bitsOf n.toNat 3)) (n:=v) (k:=3)) fun _=>?_
  rw[putL_i (e:=v.toNat) (k:=3) (j:=3) (by omega) rfl (by omega) (by omega) (by rw[List.length_append];omega)]
  refine ad_ ?_
  refine e_next1 (m-1) (by omega) (.ex (i+1) (.all ?_))
  refine nr_ ?_
  rw[hfl,<- List.append_assoc]
  refine .pu ⟨by omega,by norm_cast⟩ ?_
  exact im_
 have hic:i=c:=by omega
 subst hic
 rw[dF_ hlt,List.take_of_length_le (show(O.take i).length<=i by omega)]
 obtain⟨M1,hM1⟩:∃M1,M1=M0++(O.take i).flatMap (fun n=>bitsOf n.toNat 3):=⟨_,rfl⟩
 rw[<- hM1]
 have hM1l:M1.length+(T.flatMap (tdB D)).length<=8388608:=by rw[hM1,List.length_append];omega
 refine e_condF (c_ (runs (a:=a2) (n:=R.length) (c:=c2)) fun _=>?_)
 rename_i r2
 refine e_rf (f:=244) (cap:=[.pointer (some ⟨r2,0,none⟩)]) (tdVs R)
  (fun k=>all [pt r2 (.cells #[.slice a2 R.length c2] 197),SR,all [pu (k<=T.length),IsW w (M1++(T.take k).flatMap (tdB D)),pt b15 (.cells #[.slice (some ⟨gd,0,none⟩) D.length qDc,.slice qS.1 (cdL D).length qS.2] 258),Sl 1 3 qS.1 qS.2 (cdL D).length ((cdL D).map I),Sl 1 3 (some ⟨gd,0,none⟩) qDc D.length (D.map I),pt d1 (.deferred (some [])),pt b3 (.cells #[.pointer (some ⟨w,0,none⟩)] 156),SA,SB,all F]]) (pu False) rfl ?_ ?_ ?_ ?_ ?_ ?_
 ·intro x hx
  rw[hTv]at hx
  obtain⟨k,_,rfl⟩:=List.mem_map.1 hx
  rfl
 ·refine .all ?_
  refine nr_ ?_
  refine .pick (by repeat constructor) (.pick (by repeat constructor) (.all ?_))
  refine nr_ ?_
  rw[List.take_zero,List.flatMap_nil,List.append_nil]
  refine .pu (by omega) ?_
  exact im_
 ·intro l T1 T2 hy
  exact runs1 (n:=0) (G:=fun k=>all [pu (k<=T.length),IsW w (M1++(T.take k).flatMap (tdB D)),pt b15 (.cells #[.slice (some ⟨gd,0,none⟩) D.length qDc,.slice qS.1 (cdL D).length qS.2] 258),Sl 1 3 qS.1 qS.2 (cdL D).length ((cdL D).map I),Sl 1 3 (some ⟨gd,0,none⟩) qDc D.length (D.map I),pt d1 (.deferred (some [])),pt b3 (.cells #[.pointer (some ⟨w,0,none⟩)] 156),SA,SB,all F]) rR (by omega) hy
 ·intro k hk F2 T0 T1 B N J hB hN hJ
  rw[hTlen]at hk
  have e0:∀h,(tdVs R)[k]'h=[tdV T[k]]:=fun h=>by simp[hTv]
  rw[e0]
  simp only[vapp,List.headD_cons,List.tail_cons]
  have hts:=hTs _ (List.getElem_mem hk)
  have hfl:=fltL_take (f:=tdB D) (l:=T) hk
  have hfe:=fltL_le (f:=tdB D) (l:=T) hk
  obtain⟨t,ht⟩:∃t,t=T[k]:=⟨_,rfl⟩
  rw[<- ht]at hts hfl hfe ⊢
  unfold tdB at hfe
  rw[List.length_append,length_bitsOf]at hfe
  change ((T.take k).flatMap (tdB D)).length+((cwd D t.sym).length+t.bits)<=(T.flatMap (tdB D)).length at hfe
  refine e_all (.there .here) ?_
  refine nr_ ?_
  refine e_all (.there (.there .here)) ?_
  refine nr_ ?_
  refine e_pu .here fun hkn=>?_
  unfold tdV
  refine e_newA fun g=>?_;refine sg_ ?_
  refine hB _ _ _ (by repeat constructor) ?_
  refine ln_ ?_;refine o_ v_fa0 (ln_ ?_);refine o_ v_fa0 (ln_ ?_);refine o_ v_fa0 (ln_ ?_)
  obtain⟨Mk,hMk⟩:∃Mk,Mk=M1++(T.take k).flatMap (tdB D):=⟨_,rfl⟩
  have hMkl:Mk.length=M1.length+((T.take k).flatMap (tdB D)).length:=by rw[hMk,List.length_append]
  rw[<- hMk]
  refine e_call (hput (L:=Mk) (s:=t.sym) rC rD) (.cons (by repeat constructor) (.cons (by repeat constructor) (.cons (by repeat constructor) .nil))) fun _=>?_
  refine nr_ ?_
  rw[phL_cwd (by omega)]
  refine ln_ ?_;refine o_ v_fa0 (ln_ ?_);refine o_ v_fa0 (ln_ ?_)
  refine c_ (put (l:=Mk++cwd D t.sym) (n:=(t.extra:Int)) (k:=(t.bits:Int))) fun _=>?_
  rw[putL_ok (by omega) hts.2.2.1 (by rw[List.length_append];omega)]
  refine hN _ ?_
  refine .pick (by repeat constructor) (.all ?_)
  refine nr_ ?_
  refine .pick (by repeat constructor) (.pick (by repeat constructor) (.all ?_))
  refine nr_ ?_
  rw[hfl,<- List.append_assoc,<- hMk]
  unfold tdB
  rw[<- List.append_assoc]
  refine .pu (by omega) ?_
  exact im_
 rotate_left
 ·intro d2
  exact e_pu (.there .here) fun h=>h.elim
 intro d2
 rw[hTlen,List.take_length]
 refine e_all (.there .here) ?_
 refine nr_ ?_
 refine e_all (.there (.there .here)) ?_
 refine nr_ ?_
 refine e_pu .here fun _=>?_
 refine e_tk (by repeat constructor) ?_
 refine e_tk (by repeat constructor) ?_
 refine e_rest (M:=[IsW w (M1++T.flatMap (tdB D)),SA,SB]) (F:=F) ?_ ?_
 ·refine .pick (by repeat constructor) ?_
  exact im_
 refine nr_ ?_
 refine rt_ () ?_
 exact .refl
theorem rd_none_ {W:World}{a:Option Addr}{n:Nat}{cs:List Value}{A:HP}(h:RdB W A a n cs)(c:a=none):n=0:=by
 rcases Nat.eq_zero_or_pos n with z|z
 ·exact z
 ·obtain⟨_,_,e,_⟩:=h.at_ z
  rw[c]at e;cases e
structure goodB (x:Blk):Prop where
 g:∀p∈x.1,goodP p
 pn:x.1.length<=30000
 bn:x.2.length<=30258
theorem okBk.good {b:List UInt8}{fr:Nat}{x:Blk}(h:okBk b fr x):goodB x:=⟨gPs_good h.gps,h.pn,h.bn⟩
variable {W:World} {AL AB:HP} {x:Blk} {v:Bv} {level:Int}
theorem dstored {w:Nat}{M:List Bool}(hx:BkOk W AL AB (x,v))(hb:x.2.length<=65535)(hM:M.length+100+8 * x.2.length<=8388608):
  Cn p_ 151 [bvV level (x,v),.pointer (some ⟨w,0,none⟩)] W [IsW w M,AB] (fun _:Unit=> .tuple #[]) (fun _=>[IsW w (stoX M x),AB]):=by
 have hl:=length_pad M
 have hp:(pk (padTo8 M++bitsOf x.2.length 16++bitsOf (65535-x.2.length) 16)).length<=(M.length+7) / 8+4:=by
  rw[length_pk];simp only[List.length_append,length_bitsOf];omega
 have h8:(padTo8 M++bitsOf x.2.length 16++bitsOf (65535-x.2.length) 16).length%8=0:=by
  simp only[List.length_append,length_bitsOf];omega
 have hr:rawL (padTo8 M++bitsOf x.2.length 16++bitsOf (65535-x.2.length) 16) x.2=stoX M x:=by
  unfold rawL rawR
  rw[if_neg (show ¬1048576<_ by omega),if_pos rfl]
  unfold stoX
  congr 1
  unfold padTo8 at h8 ⊢
  rw[h8]
  simp
 obtain⟨⟨la,lc⟩,⟨ba,bc⟩⟩:=v
 unfold bvV
 (try dsimp only)
 (refine Shp.cn (Sg.g_ Tryz.call151 Tryz.func151) fun F=>?_;simp only[ca_,na_])
 refine e_boxA fun b2=>?_
 refine c_ (align (l:=M)) fun _=>?_
 refine o_ v_fa0 (ln_ ?_);refine o_ v_len (c_ (put (l:=padTo8 M) (n:=(x.2.length:Int)) (k:=16)) fun _=>?_)
 rw[putL_i (e:=x.2.length) (k:=16) (j:=16) rfl rfl (by omega) (by omega) (by omega)]
 refine o_ v_fa0 (ln_ ?_);refine o_ v_len (sb_ ?_)
 refine c_ (put (l:=padTo8 M++bitsOf x.2.length 16) (n:=65535-(x.2.length:Int)) (k:=16)) fun _=>?_
 rw[putL_i (e:=65535-x.2.length) (k:=16) (j:=16) (by omega) rfl (by omega) (by omega) (by rw[List.length_append,length_bitsOf];omega)]
 refine o_ v_fa0 (ln_ ?_)
 refine e_call (raw (l:=padTo8 M++bitsOf x.2.length 16++bitsOf (65535-x.2.length) 16) (cap:=bc) hx.rb (rd_none_ hx.rb) (by omega)) (.cons (by repeat constructor) (.cons (by repeat constructor) .nil)) fun _=>?_
 refine nr_ ?_
 rw[hr]
 refine rt_ () ?_
 exact im_
theorem dfixed {w:Nat}{M:List Bool}(hx:BkOk W AL AB (x,v))(hg:goodB x)(hM:M.length+(fixX x).length<=8388608):
  Cn p_ 152 [bvV level (x,v),.pointer (some ⟨w,0,none⟩)] W [IsW w M,AL] (fun _:Unit=> .tuple #[]) (fun _=>[IsW w (M++fixX x),AL]):=by
 obtain⟨⟨la,lc⟩,⟨ba,bc⟩⟩:=v
 have hpn:=hg.pn
 unfold fixX at hM ⊢
 obtain⟨A5,hA5⟩:∃A5,A5=litL:=⟨_,rfl⟩
 obtain⟨B5,hB5⟩:∃B5,B5=dstL:=⟨_,rfl⟩
 have l1:A5.length<=1000:=by rw[hA5,lit_len];omega
 have l2:B5.length<=1000:=by rw[hB5,dst_len];omega
 unfold bvV
 (try dsimp only)
 (refine Shp.cn (Sg.g_ Tryz.call152 Tryz.func152 (an:={drs:=[(2,.ofL [(0,3),(1,1),(3,2),(5,2),(2,0),(4,0),(6,0),(7,0)])]}) (os:=[(2,[(2,[0]),(4,[0]),(6,[0])])])) fun F=>?_;simp only[ca_,na_])
 rw[<- hA5,<- hB5]at hM ⊢
 refine e_boxA fun b2=>?_
 have hF:=fixedL (W:=W)
 rw[<- hA5,<- hB5]at hF
 refine c_ hF fun _=>?_
 rename_i q
 obtain⟨⟨a1,c1⟩,⟨a2,c2⟩⟩:=q
 (try dsimp only)
 refine xt_ ?_;refine xt_ ?_;refine e_drS ?_;(((refine' e_stD (v_ldAgg ?hn) ?hi ?_);(case hi=>exact .pick (by repeat constructor) .nil);(case hn=>rfl)))
 refine e_slfacts .here fun _ _ _ h1=>?_
 refine e_slfacts (.there .here) fun _ _ _ h2=>?_
 have r1:RdB W (Sl 1 3 a1 c1 A5.length (A5.map I)) a1 A5.length (A5.map I):=rd_sl (by rw[List.length_map]) h1
 have r2:RdB W (Sl 1 3 a2 c2 B5.length (B5.map I)) a2 B5.length (B5.map I):=rd_sl (by rw[List.length_map]) h2
 refine e_call (newSet (cap:=c1) r1 (by omega)) (.cons (by repeat constructor) .nil) fun q1=>?_
 refine nr_ ?_
 refine ob_ ?_
 refine e_call (newSet (cap:=c2) r2 (by omega)) (.cons (by repeat constructor) .nil) fun q2=>?_
 refine nr_ ?_
 refine ob_ ?_
 refine c_ (into (w:=w)) fun _=>?_
 rename_i g
 refine ob_ ?_
 refine e_imp (M:=Put2 A5 B5 ((a1,c1),q1) ((a2,c2),q2) w g M []::AL::pt b2 (.cells #[.slice la x.1.length lc,.slice ba x.2.length bc,.int .i64 level] 162)::F) ?_ ?_
 ·unfold Put2 IsSet
  refine .all ?_
  refine nr_ ?_
  rw[List.flatMap_nil,List.append_nil]
  refine .pick (by repeat constructor) (.all ?_)
  refine nr_ ?_
  refine .pick (by repeat constructor) (.pick (by repeat constructor) (.all ?_))
  refine nr_ ?_
  exact im_
 refine e_call (symbols_ (f:=227) (cap:=[.pointer (some ⟨g,0,none⟩)]) (J:=Put2 A5 B5 ((a1,c1),q1) ((a2,c2),q2) w g M) (va:=sv A5 ((a1,c1),q1)) (vb:=sv B5 ((a2,c2),q2)) (ps:=x.1) hx.rl (by omega) hg.g
  (fun d e r h=>into1 (emis_good hg.g e (by rw[h];simp)) (by have:=emis_cut (la:=A5) (lb:=B5) h;omega))) (.cons (by repeat constructor) (.cons (by repeat constructor) .nil)) fun _=>?_
 refine nr_ ?_
 refine e_all (M:=[IsW w (M++(emis x.1).flatMap (emB A5 B5)),IsSet A5 ((a1,c1),q1),IsSet B5 ((a2,c2),q2),pt g (.cells #[.pointer (some ⟨w,0,none⟩)] 156)]) (.there .here) ?_
 refine nr_ ?_
 rw[emis_bits]
 refine rt_ () ?_
 exact im_
theorem ddynamic {w:Nat}{M:List Bool}(hx:BkOk W AL AB (x,v))(hg:goodB x)(hM:M.length+(dynX x).length<=8388608):
  Cn p_ 153 [bvV level (x,v),.pointer (some ⟨w,0,none⟩)] W [IsW w M,AL] (fun _:Unit=> .tuple #[]) (fun _=>[IsW w (M++dynX x),AL]):=by
 obtain⟨⟨la,lc⟩,⟨ba,bc⟩⟩:=v
 have hpn:=hg.pn
 obtain⟨l1,l2⟩:=own_len (ps:=x.1) (by omega)
 have v1:=lenV_b15 (frqA x.1) 15
 have v2:=lenV_b15 (frqB x.1) 15
 change ∀z∈ownA x.1,0<=z/\z<=15 at v1
 change ∀z∈ownB x.1,0<=z/\z<=15 at v2
 have hdx:dynX x=hdX (ownA x.1) (ownB x.1)++encX (ownA x.1) (ownB x.1) x.1:=rfl
 rw[hdx,List.length_append]at hM
 rw[hdx,<- List.append_assoc]
 unfold bvV
 (try dsimp only)
 (refine Shp.cn (Sg.g_ Tryz.call153 Tryz.func153 (an:={drs:=[(3,.ofL [(0,3),(1,3),(2,3),(3,1),(4,0),(5,0)])]}) (os:=[(3,[(4,[2,1,0])])])) fun F=>?_;simp only[ca_,na_])
 have hO:=own (W:=W) (pc:=lc) (ba:=ba) (bn:=x.2.length) (bc:=bc) (level:=level) (ps:=x.1) hx.rl (by omega) hg.g
 (try dsimp only at hO)
 clear hdx
 generalize ownA x.1=A5 at *
 generalize ownB x.1=B5 at *
 refine e_boxA fun b2=>?_
 refine lg_ ?_
 refine c_ hO fun _=>?_
 rename_i q
 obtain⟨qa,qb⟩:=q
 (try dsimp only)
 refine o_ (v_ext (v:=setV (sv A5 qa)) rfl) ?_
 refine o_ (v_ext (v:=setV (sv B5 qb)) rfl) ?_
 unfold setV
 (try dsimp only)
 refine e_newA fun g=>?_;refine e_newA fun g=>?_;refine sg_ ?_;refine sg_ ?_;refine lg_ ?_;refine lg_ ?_
 refine e_call (head (w:=w) (L:=M) (qa:=qa) (qb:=qb) v1 v2 l1 l2 (by omega)) (.cons (by repeat constructor) (.cons (by repeat constructor) (.cons (by repeat constructor) .nil))) fun _=>?_
 refine nr_ ?_
 refine e_drS ?_;(((refine' e_stD (v_ldAgg ?hn) ?hi ?_);(case hi=>exact .pick (by repeat constructor) .nil);(case hn=>rfl)));(((refine' e_stD (v_ldAgg ?hn) ?hi ?_);(case hi=>exact .pick (by repeat constructor) .nil);(case hn=>rfl)));(((refine' e_stD (v_ldAgg ?hn) ?hi ?_);(case hi=>exact .pick (by repeat constructor) .nil);(case hn=>rfl)))
 refine c_ (into (w:=w)) fun _=>?_
 rename_i g2
 refine ob_ ?_;refine ob_ ?_;refine ob_ ?_
 refine e_imp (M:=Put2 A5 B5 qa qb w g2 (M++hdX A5 B5) []::AL::F) ?_ ?_
 ·unfold Put2
  refine .all ?_
  refine nr_ ?_
  rw[List.flatMap_nil,List.append_nil]
  exact im_
 refine e_call (symbols_ (f:=227) (cap:=[.pointer (some ⟨g2,0,none⟩)]) (J:=Put2 A5 B5 qa qb w g2 (M++hdX A5 B5)) (va:=sv A5 qa) (vb:=sv B5 qb) (ps:=x.1) hx.rl (by omega) hg.g
  (fun d e r h=>into1 (emis_good hg.g e (by rw[h];simp)) (by have:=emis_cut (la:=A5) (lb:=B5) h;rw[List.length_append];omega))) (.cons (by repeat constructor) (.cons (by repeat constructor) .nil)) fun _=>?_
 refine nr_ ?_
 refine e_all (M:=[IsW w ((M++hdX A5 B5)++(emis x.1).flatMap (emB A5 B5)),IsSet A5 qa,IsSet B5 qb,pt g2 (.cells #[.pointer (some ⟨w,0,none⟩)] 156)]) (.there .here) ?_
 refine nr_ ?_
 rw[emis_bits]
 refine rt_ () ?_
 exact im_
end Go.Proofs.YtndojgomlkpeaaaGreatDoor.IF
namespace Go.Proofs.YtndojgomlkpeaaaGreatDoor.IF
open Go Go.Proofs Go.RowKit Sh Sl T HM HF B M
variable {W:World} {AL AB:HP} {x:Blk} {v:Bv} {level:Int}
def wayF (k:Nat):FuncId:=if k=0 then 151 else if k=1 then 152 else 153
theorem dway {k w:Nat}{M:List Bool}(hx:BkOk W AL AB (x,v))(hg:goodB x)(hM:M.length<=6500000):
  Cn p_ (wayF k) [bvV level (x,v),.pointer (some ⟨w,0,none⟩)] W [IsW w M,AL,AB] (fun _:Unit=> .tuple #[]) (fun _=>[IsW w (wayX k M x),AL,AB]):=by
 have hpn:=hg.pn
 have hbn:=hg.bn
 unfold wayF wayX
 by_cases h0:k=0
 ·rw[if_pos h0,if_pos h0]
  exact Cn.frame (R:=[AL]) (dstored (level:=level) (w:=w) (M:=M) hx (by omega) (by omega)) (fun F=>e_sat im_) (fun _ F=>e_sat im_)
 ·rw[if_neg h0,if_neg h0]
  by_cases h1:k=1
  ·rw[if_pos h1,if_pos h1]
   have:=fixX_le (x:=x) hg.g hpn
   exact Cn.frame (R:=[AB]) (dfixed (level:=level) (w:=w) (M:=M) hx hg (by omega)) (fun F=>e_sat im_) (fun _ F=>e_sat im_)
  ·rw[if_neg h1,if_neg h1]
   have:=dynX_le (x:=x) hg.g hpn
   exact Cn.frame (R:=[AB]) (ddynamic (level:=level) (w:=w) (M:=M) hx hg (by omega)) (fun F=>e_sat im_) (fun _ F=>e_sat im_)
def sizX (k n:Nat)(x:Blk):Nat:=if k=0 then stoN n x else if k=1 then 3+(fixX x).length else 3+(dynX x).length
theorem wayX_len (k n:Nat)(x:Blk):(wayX k (bitsOf 0 (n%8)++bitsOf 0 3) x).length=n%8+sizX k n x:=by
 unfold wayX sizX
 split
 ·rw[stoX_len]
  simp only[List.length_append,length_bitsOf]
  unfold stoN
  omega
 ·split
  ·simp only[List.length_append,length_bitsOf];omega
  ·simp only[List.length_append,length_bitsOf];omega
theorem sizX_le (k n:Nat)(hg:goodB x):sizX k n x<=1500100:=by
 have h1:=fixX_le (x:=x) hg.g hg.pn
 have h2:=dynX_le (x:=x) hg.g hg.pn
 have h3:=hg.bn
 unfold sizX
 split
 ·unfold stoN;omega
 ·split <;> omega
theorem dsize {k n:Nat}(hx:BkOk W AL AB (x,v))(hg:goodB x)(hn:n<=1099511627776):
  Cn p_ 154 [bvV level (x,v),fn (wayF k),.int .i64 (n:Int)] W [AL,AB] (fun _:Unit=> .int .i64 (sizX k n x:Int)) (fun _=>[AL,AB]):=by
 have hlen:=wayX_len k n x
 have hle:=sizX_le k n hg
 have hw:=fun w=>dway (k:=k) (w:=w) (level:=level) (M:=bitsOf 0 (n%8)++bitsOf 0 3) hx hg (by simp only[List.length_append,length_bitsOf];omega)
 obtain⟨⟨la,lc⟩,⟨ba,bc⟩⟩:=v
 unfold bvV at hw ⊢
 (try dsimp only at hw)
 (try dsimp only)
 (refine Shp.cn (Sg.g_ Tryz.call154 Tryz.func154) fun F=>?_;simp only[ca_,na_])
 refine e_boxA fun b3=>?_
 refine c_ newWriter fun _=>?_
 rename_i w
 (((refine o_ (v_rem ?h1 ?h2) ?_);(case h1=>omega);(case h2=>omega)))
 have hmod:(n:Int)%8=((n%8:Nat):Int):=by omega
 refine c_ (put (l:=[]) (n:=0) (k:=(n:Int)%8)) fun _=>?_
 rw[putL_i (n:=0) (e:=0) (k:=(n:Int)%8) (j:=n%8) rfl hmod (by omega) (Nat.two_pow_pos _) (by simp only[List.length_nil];omega),List.nil_append]
 refine c_ (put (l:=bitsOf 0 (n%8)) (n:=0) (k:=3)) fun _=>?_
 rw[putL_i (n:=0) (e:=0) (k:=3) (j:=3) rfl rfl (by omega) (by omega) (by rw[length_bitsOf];omega)]
 refine lg_ ?_
 refine e_call (hw w) (.cons (by repeat constructor) (.cons (by repeat constructor) (.cons (by repeat constructor) .nil))) fun _=>?_
 refine nr_ ?_
 refine c_ (Go.Proofs.YtndojgomlkpeaaaGreatDoor.B.bits (l:=wayX k (bitsOf 0 (n%8)++bitsOf 0 3) x)) fun _=>?_
 rw[hlen]
 (((refine o_ (v_rem ?h1 ?h2) ?_);(case h1=>omega);(case h2=>omega)));refine sb_ ?_
 rw[show((n%8+sizX k n x:Nat):Int)-(n:Int)%8=(sizX k n x:Int) by omega]
 refine rt_ () ?_
 exact im_
theorem dput {w last:Nat}{L:List Bool}(hx:BkOk W AL AB (x,v))(hg:goodB x)(hl:last<=1)(hL:L.length<=6000000):
  Cn p_ 112 [bvV level (x,v),.pointer (some ⟨w,0,none⟩),.int .i64 (last:Int)] W [IsW w L,AL,AB] (fun _:Unit=> .tuple #[]) (fun _=>[IsW w (putX level L last x),AL,AB]):=by
 have hs:=fun k=>dsize (k:=k) (n:=L.length) (level:=level) hx hg (by omega)
 have hsl:=fun k=>sizX_le (x:=x) k L.length hg
 have hb2:=best_le2 L.length level x
 have hpX:putX level L last x=wayX (best L.length level x) (L++bitsOf last 1++bitsOf (best L.length level x) 2) x:=rfl
 have hw:=dway (k:=best L.length level x) (w:=w) (level:=level) (M:=L++bitsOf last 1++bitsOf (best L.length level x) 2) hx hg (by simp only[List.length_append,length_bitsOf];omega)
 rw[hpX]
 have hbd:best L.length level x=if ¬0<level then 0 else if sizX 2 L.length x<(if sizX 1 L.length x<sizX 0 L.length x then sizX 1 L.length x else sizX 0 L.length x)then 2 else if sizX 1 L.length x<sizX 0 L.length x then 1 else 0:=rfl
 obtain⟨bst_,hbst⟩:∃bst_,bst_=best L.length level x:=⟨_,rfl⟩
 rw[<- hbst]at hb2 hw hbd ⊢
 obtain⟨⟨la,lc⟩,⟨ba,bc⟩⟩:=v
 unfold bvV at hs hw ⊢
 (try dsimp only at hs hw)
 (try dsimp only)
 (refine Shp.cn (Sg.g_ Tryz.call112 Tryz.func112 (an:={cuts:=[(12,[7])],loops:=[(6,[7,8,24])],drs:=[(4,.ofL [(0,3),(1,3),(2,3),(3,1),(4,0),(5,0),(6,1)]),(8,.ofL [(0,3),(1,2),(2,1),(3,0),(4,0),(5,1)]),(14,.ofL [(0,1),(1,1),(2,1),(3,1),(4,1),(5,0)])]}) (os:=[(4,[(4,[2,1,0])]),(8,[(3,[0])])])) fun F=>?_;simp only[ca_,na_])
 refine e_boxA fun b3=>?_
 refine o_ v_rv ?_;refine e_newA fun g=>?_;refine sg_ ?_
 rename Nat=>bw
 obtain⟨s0,hs0⟩:∃s0,s0=sizX 0 L.length x:=⟨_,rfl⟩
 obtain⟨s1,hs1⟩:∃s1,s1=sizX 1 L.length x:=⟨_,rfl⟩
 obtain⟨s2,hs2⟩:∃s2,s2=sizX 2 L.length x:=⟨_,rfl⟩
 have hle0:=hsl 0
 have hle1:=hsl 1
 have hle2:=hsl 2
 have hz0:=hs 0
 have hz1:=hs 1
 have hz2:=hs 2
 rw[<- hs0]at hbd hle0 hz0
 rw[<- hs1]at hbd hle1 hz1
 rw[<- hs2]at hbd hle2 hz2
 refine e_imp (M:=pt bw (.cells #[fn (wayF 0),fn (wayF 1),fn (wayF 2)] 212)::pt b3 (.cells #[.slice la x.1.length lc,.slice ba x.2.length bc,.int .i64 level] 162)::IsW w L::AL::AB::F) .refl ?_
 refine e_cut1 (fun z=>pu (z= .int .i64 (bst_:Int))::pt bw (.cells #[fn (wayF 0),fn (wayF 1),fn (wayF 2)] 212)::pt b3 (.cells #[.slice la x.1.length lc,.slice ba x.2.length bc,.int .i64 level] 162)::IsW w L::AL::AB::F) ?_ ?_
 rotate_left
 ·(refine o_ v_fa0 ?_);refine ln_ ?_
  refine o_ v_gtr ?_
  by_cases hlv:0<level
  rotate_left
  ·rw[dF_ hlv]
   rw[if_pos hlv]at hbd
   refine e_condF (e_sat (.pu (by rw[hbd];rfl) ?_))
   exact im_
  rw[dT_ hlv]
  rw[if_neg (fun h=>h hlv)]at hbd
  refine e_condT (e_drS ?_);(((refine' e_stD (v_ldAgg ?hn) ?hi ?_);(case hi=>exact .pick (by repeat constructor) .nil);(case hn=>rfl)))
  refine e_stD (v_iaA 0 rfl (by omega)) .nil ?_
  (((refine' e_stD (v_ldN ?hc) ?hi ?_);(case hi=>exact .pick (by repeat constructor) .nil);(case hc=>repeat constructor)))
  refine c_ (Go.Proofs.YtndojgomlkpeaaaGreatDoor.B.bits (l:=L)) fun _=>?_
  refine ob_ ?_;refine ob_ ?_;refine ob_ ?_
  refine e_call hz0 (.cons (by repeat constructor) (.cons (by repeat constructor) .nil)) fun _=>?_
  refine nr_ ?_
  refine o_ (v_slA (l:=1) rfl (by omega)) ?_
  refine o_ v_len (e_loop3 (fun m y z u=>pu (∃i:Nat,m+i=2/\u= .int .i64 (i:Int)/\((i=0/\y= .int .i64 0/\z= .int .i64 (s0:Int))\/(i=1/\y= .int .i64 (if s1<s0 then 1 else 0)/\z= .int .i64 ((if s1<s0 then s1 else s0:Nat):Int))\/(i=2/\y= .int .i64 (bst_:Int))))::pt bw (.cells #[fn (wayF 0),fn (wayF 1),fn (wayF 2)] 212)::pt b3 (.cells #[.slice la x.1.length lc,.slice ba x.2.length bc,.int .i64 level] 162)::IsW w L::AL::AB::F) 2 ?_ ?_)
  ·refine .pu ⟨0,rfl,rfl,.inl ⟨rfl,rfl,rfl⟩⟩ ?_
   exact im_
  intro m ds y z u
  refine e_pu .here fun hi=>?_
  obtain⟨i,hmi,rfl,hi⟩:=hi
  refine o_ v_lss ?_
  rcases hi with ⟨rfl,rfl,rfl⟩|⟨rfl,rfl,rfl⟩|⟨rfl,rfl⟩
  ·rw[dT_ (by decide)]
   refine e_condT (o_ (v_ia1 0 rfl (by omega)) ?_)
   refine ln_ ?_;refine e_drS ?_;(((refine' e_stD (v_ldAgg ?hn) ?hi ?_);(case hi=>exact .pick (by repeat constructor) .nil);(case hn=>rfl)))
   refine c_ (Go.Proofs.YtndojgomlkpeaaaGreatDoor.B.bits (l:=L)) fun _=>?_
   refine ob_ ?_
   refine e_call hz1 (.cons (by repeat constructor) (.cons (by repeat constructor) .nil)) fun _=>?_
   refine nr_ ?_
   refine o_ v_lss ?_
   by_cases hc:(s1:Int)<(s0:Int)
   ·rw[dT_ hc]
    refine e_condT (ad_ ?_);refine ad_ ?_
    refine e_next3 (m-1) (by omega) (.pu ⟨1,by omega,rfl,.inr (.inl ⟨rfl,?_,?_⟩)⟩ ?_)
    ·rw[if_pos (by omega)];rfl
    ·rw[if_pos (by omega)]
    exact im_
   ·rw[dF_ hc]
    refine e_condF (ad_ ?_)
    refine e_next3 (m-1) (by omega) (.pu ⟨1,by omega,rfl,.inr (.inl ⟨rfl,?_,?_⟩)⟩ ?_)
    ·rw[if_neg (by omega)]
    ·rw[if_neg (by omega)]
    exact im_
  ·rw[dT_ (by decide)]
   refine e_condT (o_ (v_ia1 1 rfl (by omega)) ?_)
   refine ln_ ?_;refine e_drS ?_;(((refine' e_stD (v_ldAgg ?hn) ?hi ?_);(case hi=>exact .pick (by repeat constructor) .nil);(case hn=>rfl)))
   refine c_ (Go.Proofs.YtndojgomlkpeaaaGreatDoor.B.bits (l:=L)) fun _=>?_
   refine ob_ ?_
   refine e_call hz2 (.cons (by repeat constructor) (.cons (by repeat constructor) .nil)) fun _=>?_
   refine nr_ ?_
   refine o_ v_lss ?_
   by_cases hc:(s2:Int)<((if s1<s0 then s1 else s0:Nat):Int)
   ·rw[dT_ hc]
    rw[if_pos (by exact_mod_cast hc)]at hbd
    refine e_condT (ad_ ?_);refine ad_ ?_
    refine e_next3 (m-1) (by omega) (.pu ⟨2,by omega,rfl,.inr (.inr ⟨rfl,?_⟩)⟩ ?_)
    ·rw[hbd];rfl
    exact im_
   ·rw[dF_ hc]
    rw[if_neg (fun h=>hc (by exact_mod_cast h))]at hbd
    refine e_condF (ad_ ?_)
    refine e_next3 (m-1) (by omega) (.pu ⟨2,by omega,rfl,.inr (.inr ⟨rfl,?_⟩)⟩ ?_)
    ·rw[hbd];split <;> rfl
    exact im_
  ·rw[dF_ (by decide)]
   refine e_condF (e_sat (.pu rfl ?_))
   exact im_
 intro ds z
 refine e_pu .here fun hz=>?_
 subst hz
 refine c_ (put (l:=L) (n:=(last:Int)) (k:=1)) fun _=>?_
 rw[putL_i (n:=(last:Int)) (e:=last) (k:=1) (j:=1) rfl rfl (by omega) (by omega) (by omega)]
 refine c_ (put (l:=L++bitsOf last 1) (n:=(bst_:Int)) (k:=2)) fun _=>?_
 rw[putL_i (n:=(bst_:Int)) (e:=bst_) (k:=2) (j:=2) rfl rfl (by omega) (by omega) (by rw[List.length_append,length_bitsOf];omega)]
 refine e_drS (t_ (v_iaA bst_ rfl (by omega)) ?_)
 have hld:RunV p_ W [pt bw (.cells #[fn (wayF 0),fn (wayF 1),fn (wayF 2)] 212)] (sLoad 210 (.pointer (some ⟨bw,0+bst_ * 1,none⟩))) (fn (wayF bst_)):=by
  rcases(show bst_=0\/bst_=1\/bst_=2 by omega)with rfl|rfl|rfl <;> exact v_ld rfl
 refine p_st hld ?_
 (((refine' e_stS (v_ldAgg ?hn) ?hi ?_);(case hi=>exact .pick (by repeat constructor) .nil);(case hn=>rfl)))
 refine e_call hw (.cons (by repeat constructor) (.cons (by repeat constructor) (.cons (by repeat constructor) .nil))) fun _=>?_
 refine rt_ () ?_
 exact im_
end Go.Proofs.YtndojgomlkpeaaaGreatDoor.IF
