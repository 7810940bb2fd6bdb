/- The elements of a list, one by one, for each kind of list. Printed by a program of mine (d20.py). A text must not be longer than a half of what an int may count. (33 texts made one; each says below what it is.) -/
import Derived.Test.YtdjkdjepjahjfaaGreatDoorK2
import Derived.Laws.StructEq
import Derived.Lib.Bytealg
import Derived.Lib.Strings
import Derived.Lib.Slices
import Derived.Lib.Walk
import Derived.Lib.Builder
import Derived.Lib.UnsafeStr
import Derived.Lib.MakeNoZero
import Derived.Laws.Externs
import Derived.Laws.IdiomCopy
import Derived.Laws.BitsLemmas
import Derived.WalkKit
import Derived.Test.YtdjkdjepjahjfaaGreatDoorChecked
import Derived.Shelf.RegionOpenPlain
set_option linter.unusedVariables false
set_option linter.unusedSimpArgs false
set_option linter.unusedSectionVars false
set_option maxRecDepth 9999
namespace Go.Proofs.YtdjkdjepjahjfaaGreatDoor.FD
open Go Go.Proofs Go.RowKit Sh Sl T
theorem vD {W:World}{l:List UInt8}{q e:Bool}{fv:Value}:Cn p_ 287 [.agg #[.bool q,.bool e,fv],ay l] W [] (fun c:Nat × Nat=> .func (.func 386) #[] [.pointer (some ⟨c.1,0,none⟩),.pointer (some ⟨c.2,0,none⟩)].toArray) (fun c=>[pt c.1 (.cells #[ay l] 9 (0,0)),pt c.2 (.cells #[.bool q,.bool e,fv] 322 (0,0))]):=by
 (refine Shp.cn (Sg.g_ Tryz.call287 Tryz.func287) fun F=>?_;simp only[ca_,na_])
 refine aX fun gk=>?_
 refine b_ fun gs=>?_
 refine o_ bC (aR ((gs,gk)) ?_)
 exact .refl
theorem tP {W:World} {l:List UInt8} {q e:Bool} {fv:Value} {gs gk lp:Nat} {G:Nat->HP} {Gx T T':HP} (hl:l.length<=4611686018427387904)
  (hy:jJ p_ lp (Dl q e l) (fun k=>all [T,all [pt gs (.cells #[ay l] 9 (0,0)),pt gk (.cells #[.bool q,.bool e,fv] 322 (0,0)),G k]]) (all [T',Gx]) W):
  Cn p_ 386 [yv lp,.pointer (some ⟨gs,0,none⟩),.pointer (some ⟨gk,0,none⟩)] W [all [T,all [pt gs (.cells #[ay l] 9 (0,0)),pt gk (.cells #[.bool q,.bool e,fv] 322 (0,0)),G 0]]] (fun _:Bool=> .tuple #[]) (fun b=>[if b then all [T,all [pt gs (.cells #[ay l] 9 (0,0)),pt gk (.cells #[.bool q,.bool e,fv] 322 (0,0)),G (br q e l).length]]else all [T',Gx]]):=by
 (refine Shp.cn (Sg.g_ Tryz.call386 Tryz.func386 (an:={loops:=[(2,[4,5,6])]})) fun F=>?_;simp only[ca_,na_])
 refine aB .here ?_
 refine am ?_
 refine aB (.there .here) ?_
 refine am ?_
 refine gC (fun m x y z=>[ex fun st:Bool × Nat × Nat × Nat=>all [pu (m+st.2.2.1=l.length+1/\x= .bool st.1/\y= .int .i64 (st.2.1:Int)/\z= .int .i64 (st.2.2.1:Int)/\st.2.1<=st.2.2.1/\st.2.1<=l.length/\(br q e l).drop st.2.2.2=nO (r6 l q e st.1 st.2.1 st.2.2.1)/\st.2.2.2<=(br q e l).length),
   T,pt gs (.cells #[ay l] 9 (0,0)),pt gk (.cells #[.bool q,.bool e,fv] 322 (0,0)),G st.2.2.2]]++F) (l.length+1) ?_ ?_
 ·refine Imp.ex (false,0,0,0) (.all ?_)
  refine am ?_
  refine .pu ⟨by simp,rfl,rfl,rfl,Nat.le_refl _,Nat.zero_le _,rfl,Nat.zero_le _⟩ ?_
  exact az
 intro m ds x y z
 refine am ?_
 refine a8 Pick.here fun st=>aB Pick.here ?_
 obtain⟨inn,a,i,k⟩:=st
 refine am ?_
 refine aT Pick.here fun hi=>?_
 (try dsimp only at hi)
 obtain⟨hmi,rfl,rfl,rfl,hai,hal,hdr,hkl⟩:=hi
 refine cO (aS .here) ?_
 refine o_ bu (bz bD .nil (fun h=>?_) (fun h=>?_))
 ·have hil:i<l.length:=by omega
  refine ai (cO (aS .here) ?_)
  refine o_ (ew i rfl hil) ?_
  refine o_ (sf 92 rfl) ?_
  refine vA ?_
  refine ek ae (aS (.there .here)) (.pick (by repeat constructor) .nil) ?_
  refine mM (φ:=l[i]=92/\inn=true/\e=true) (by cases inn <;> cases e <;> simp) (fun h1=>?_) (fun h1=>?_)
  ·refine bP ?_
   refine bP ?_
   rw[wN hil hai h1.1 h1.2.1 h1.2.2]at hdr
   refine cC (m-2) (by omega) (.ex (inn,a,i+2,k) (.all ?_))
   refine am ?_
   refine .pu ⟨by(try dsimp only);omega,rfl,rfl,by(try dsimp only);rw[Int.add_assoc];rfl,by(try dsimp only);omega,hal,hdr,hkl⟩ ?_
   exact az
  ·refine o_ (sf 34 rfl) ?_
   refine ek ae (aS .here) (.pick (by repeat constructor) .nil) ?_
   refine mM (φ:=l[i]=34/\q=true) (by cases q <;> simp) (fun h2=>?_) (fun h2=>?_)
   ·refine o_ fx (bP ?_)
    rw[FV hil hai h1 h2.1 h2.2]at hdr
    refine cC (m-1) (by omega) (.ex (!inn,a,i+1,k) (.all ?_))
    refine am ?_
    refine .pu ⟨by(try dsimp only);omega,rfl,rfl,rfl,by(try dsimp only);omega,hal,hdr,hkl⟩ ?_
    exact az
   ·refine o_ (sf 44 rfl) ?_
    refine tM (fun _=>fx) ?_
    refine mM (φ:=l[i]=44/\inn=false) (by cases inn <;> simp) (fun h3=>?_) (fun h3=>?_)
    ·refine cO (aS .here) ?_
     refine o_ (Az a i rfl rfl hai (by omega)) ?_
     refine ah (tO (by simp[sub];omega)) .nil fun _=>?_
     refine am ?_
     have e0:(Value.string ⟨#[]⟩)=ay []:=rfl
     rw[FX hil hai h3.1 h3.2,ko]at hdr
     rw[e0]
     refine o_ ep ?_
     by_cases h4:cK (sub l a i)=[]
     ·rw[if_pos h4]at hdr
      rw[dF_ (fun c=>c h4)]
      refine aj (aj (aj (aj (o_ ak (af (bP ?_))))));refine bP ?_
      refine cC (m-1) (by omega) (.ex (inn,i+1,i+1,k) (.all ?_))
      refine am ?_
      refine .pu ⟨by(try dsimp only);omega,rfl,rfl,rfl,Nat.le_refl _,by(try dsimp only);omega,by rw[h3.2];exact hdr,hkl⟩ ?_
      exact az
     ·rw[if_neg h4]at hdr
      obtain⟨hg,hd2,hk2⟩:=ou hdr
      rw[dT_ h4]
      refine ab (ab (ab (bf (M:=all [T,all [pt gs (.cells #[ay l] 9 (0,0)),pt gk (.cells #[.bool q,.bool e,fv] 322 (0,0)),G k]]::F) ?_ ?_)))
      ·refine .all ?_
       refine am ?_
       refine .pick (by repeat constructor) (.all ?_)
       refine am ?_
       exact az
      refine ia hy k (mN hg) .here ?_ ?_
      ·(refine ab ?_);refine o_ bB ?_;refine o_ av ?_;refine af ?_;refine bP ?_;refine bP ?_
       refine aB .here ?_
       refine am ?_
       refine aB (.there .here) ?_
       refine am ?_
       refine cC (m-1) (by omega) (.ex (inn,i+1,i+1,k+1) (.all ?_))
       refine am ?_
       refine .pu ⟨by(try dsimp only);omega,rfl,rfl,rfl,Nat.le_refl _,by(try dsimp only);omega,by rw[h3.2];exact hd2,by(try dsimp only);omega⟩ ?_
       exact az
      ·(refine ab ?_);refine o_ cL ?_;refine o_ av ?_;refine ai ?_
       refine aR false ?_
       exact .refl
    ·refine bP ?_
     rw[FY hil hai h1 h2 h3]at hdr
     refine cC (m-1) (by omega) (.ex (inn,a,i+1,k) (.all ?_))
     refine am ?_
     refine .pu ⟨by(try dsimp only);omega,rfl,rfl,rfl,by(try dsimp only);omega,hal,hdr,hkl⟩ ?_
     exact az
 ·refine af (cO (aS .here) ?_)
  refine o_ (jn a rfl hal) ?_
  refine ah (tO (by simp;omega)) .nil fun _=>?_
  refine am ?_
  have e0:(Value.string ⟨#[]⟩)=ay []:=rfl
  rw[e0]
  rw[wM (by omega),ko,tC]at hdr
  refine o_ ep ?_
  by_cases h4:cK (l.drop a)=[]
  ·rw[if_pos h4]at hdr
   rw[dF_ (fun c=>c h4)]
   have hkn:k=(br q e l).length:=by
    have:=congrArg List.length hdr
    rw[List.length_drop,List.length_nil]at this;omega
   subst hkn
   refine af (aR true ?_)
   refine .all ?_
   refine am ?_
   refine .pick (by repeat constructor) (.all ?_)
   refine am ?_
   exact az
  ·rw[if_neg h4]at hdr
   obtain⟨hg,hd2,hk2⟩:=ou hdr
   rw[dT_ h4]
   refine ai (bf (M:=all [T,all [pt gs (.cells #[ay l] 9 (0,0)),pt gk (.cells #[.bool q,.bool e,fv] 322 (0,0)),G k]]::F) ?_ ?_)
   ·refine .all ?_
    refine am ?_
    refine .pick (by repeat constructor) (.all ?_)
    refine am ?_
    exact az
   have hkn:k+1=(br q e l).length:=by
    have:=congrArg List.length hd2
    rw[List.length_drop,List.length_nil]at this;omega
   refine ia hy k (mN hg) .here ?_ ?_
   ·rw[hkn]
    refine aR true ?_
    exact .refl
   ·refine aR false ?_
    exact .refl
theorem DS {W:World}{l:List UInt8}{q e:Bool}{fv:Value}:Cn p_ 496 [.agg #[.bool q,.bool e,fv],ay l] W [] (fun c:Nat × Nat=> .func (.func 521) #[] [.pointer (some ⟨c.1,0,none⟩),.pointer (some ⟨c.2,0,none⟩)].toArray) (fun c=>[pt c.1 (.cells #[ay l] 9 (0,0)),pt c.2 (.cells #[.bool q,.bool e,fv] 580 (0,0))]):=by
 (refine Shp.cn (Sg.g_ Tryz.call496 Tryz.func496) fun F=>?_;simp only[ca_,na_])
 refine aX fun gk=>?_
 refine b_ fun gs=>?_
 refine o_ bC (aR ((gs,gk)) ?_)
 exact .refl
theorem AF {W:World} {l:List UInt8} {q e:Bool} {fv:Value} {gs gk lp:Nat} {G:Nat->HP} {Gx T T':HP} (hl:l.length<=4611686018427387904)
  (hy:jJ p_ lp (Dl q e l) (fun k=>all [T,all [pt gs (.cells #[ay l] 9 (0,0)),pt gk (.cells #[.bool q,.bool e,fv] 580 (0,0)),G k]]) (all [T',Gx]) W):
  Cn p_ 521 [yv lp,.pointer (some ⟨gs,0,none⟩),.pointer (some ⟨gk,0,none⟩)] W [all [T,all [pt gs (.cells #[ay l] 9 (0,0)),pt gk (.cells #[.bool q,.bool e,fv] 580 (0,0)),G 0]]] (fun _:Bool=> .tuple #[]) (fun b=>[if b then all [T,all [pt gs (.cells #[ay l] 9 (0,0)),pt gk (.cells #[.bool q,.bool e,fv] 580 (0,0)),G (br q e l).length]]else all [T',Gx]]):=by
 (refine Shp.cn (Sg.g_ Tryz.call521 Tryz.func521 (an:={loops:=[(2,[4,5,6])]})) fun F=>?_;simp only[ca_,na_])
 refine aB .here ?_
 refine am ?_
 refine aB (.there .here) ?_
 refine am ?_
 refine gC (fun m x y z=>[ex fun st:Bool × Nat × Nat × Nat=>all [pu (m+st.2.2.1=l.length+1/\x= .bool st.1/\y= .int .i64 (st.2.1:Int)/\z= .int .i64 (st.2.2.1:Int)/\st.2.1<=st.2.2.1/\st.2.1<=l.length/\(br q e l).drop st.2.2.2=nO (r6 l q e st.1 st.2.1 st.2.2.1)/\st.2.2.2<=(br q e l).length),
   T,pt gs (.cells #[ay l] 9 (0,0)),pt gk (.cells #[.bool q,.bool e,fv] 580 (0,0)),G st.2.2.2]]++F) (l.length+1) ?_ ?_
 ·refine Imp.ex (false,0,0,0) (.all ?_)
  refine am ?_
  refine .pu ⟨by simp,rfl,rfl,rfl,Nat.le_refl _,Nat.zero_le _,rfl,Nat.zero_le _⟩ ?_
  exact az
 intro m ds x y z
 refine am ?_
 refine a8 Pick.here fun st=>aB Pick.here ?_
 obtain⟨inn,a,i,k⟩:=st
 refine am ?_
 refine aT Pick.here fun hi=>?_
 (try dsimp only at hi)
 obtain⟨hmi,rfl,rfl,rfl,hai,hal,hdr,hkl⟩:=hi
 refine cO (aS .here) ?_
 refine o_ bu (bz bD .nil (fun h=>?_) (fun h=>?_))
 ·have hil:i<l.length:=by omega
  refine ai (cO (aS .here) ?_)
  refine o_ (ew i rfl hil) ?_
  refine o_ (sf 92 rfl) ?_
  refine vA ?_
  refine ek ae (aS (.there .here)) (.pick (by repeat constructor) .nil) ?_
  refine mM (φ:=l[i]=92/\inn=true/\e=true) (by cases inn <;> cases e <;> simp) (fun h1=>?_) (fun h1=>?_)
  ·refine bP ?_
   refine bP ?_
   rw[wN hil hai h1.1 h1.2.1 h1.2.2]at hdr
   refine cC (m-2) (by omega) (.ex (inn,a,i+2,k) (.all ?_))
   refine am ?_
   refine .pu ⟨by(try dsimp only);omega,rfl,rfl,by(try dsimp only);rw[Int.add_assoc];rfl,by(try dsimp only);omega,hal,hdr,hkl⟩ ?_
   exact az
  ·refine o_ (sf 34 rfl) ?_
   refine ek ae (aS .here) (.pick (by repeat constructor) .nil) ?_
   refine mM (φ:=l[i]=34/\q=true) (by cases q <;> simp) (fun h2=>?_) (fun h2=>?_)
   ·refine o_ fx (bP ?_)
    rw[FV hil hai h1 h2.1 h2.2]at hdr
    refine cC (m-1) (by omega) (.ex (!inn,a,i+1,k) (.all ?_))
    refine am ?_
    refine .pu ⟨by(try dsimp only);omega,rfl,rfl,rfl,by(try dsimp only);omega,hal,hdr,hkl⟩ ?_
    exact az
   ·refine o_ (sf 44 rfl) ?_
    refine tM (fun _=>fx) ?_
    refine mM (φ:=l[i]=44/\inn=false) (by cases inn <;> simp) (fun h3=>?_) (fun h3=>?_)
    ·refine cO (aS .here) ?_
     refine o_ (Az a i rfl rfl hai (by omega)) ?_
     refine ah (tO (by simp[sub];omega)) .nil fun _=>?_
     refine am ?_
     have e0:(Value.string ⟨#[]⟩)=ay []:=rfl
     rw[FX hil hai h3.1 h3.2,ko]at hdr
     rw[e0]
     refine o_ ep ?_
     by_cases h4:cK (sub l a i)=[]
     ·rw[if_pos h4]at hdr
      rw[dF_ (fun c=>c h4)]
      refine aj (aj (aj (aj (o_ ak (af (bP ?_))))));refine bP ?_
      refine cC (m-1) (by omega) (.ex (inn,i+1,i+1,k) (.all ?_))
      refine am ?_
      refine .pu ⟨by(try dsimp only);omega,rfl,rfl,rfl,Nat.le_refl _,by(try dsimp only);omega,by rw[h3.2];exact hdr,hkl⟩ ?_
      exact az
     ·rw[if_neg h4]at hdr
      obtain⟨hg,hd2,hk2⟩:=ou hdr
      rw[dT_ h4]
      refine ab (ab (ab (bf (M:=all [T,all [pt gs (.cells #[ay l] 9 (0,0)),pt gk (.cells #[.bool q,.bool e,fv] 580 (0,0)),G k]]::F) ?_ ?_)))
      ·refine .all ?_
       refine am ?_
       refine .pick (by repeat constructor) (.all ?_)
       refine am ?_
       exact az
      refine ia hy k (mN hg) .here ?_ ?_
      ·(refine ab ?_);refine o_ bB ?_;refine o_ av ?_;refine af ?_;refine bP ?_;refine bP ?_
       refine aB .here ?_
       refine am ?_
       refine aB (.there .here) ?_
       refine am ?_
       refine cC (m-1) (by omega) (.ex (inn,i+1,i+1,k+1) (.all ?_))
       refine am ?_
       refine .pu ⟨by(try dsimp only);omega,rfl,rfl,rfl,Nat.le_refl _,by(try dsimp only);omega,by rw[h3.2];exact hd2,by(try dsimp only);omega⟩ ?_
       exact az
      ·(refine ab ?_);refine o_ cL ?_;refine o_ av ?_;refine ai ?_
       refine aR false ?_
       exact .refl
    ·refine bP ?_
     rw[FY hil hai h1 h2 h3]at hdr
     refine cC (m-1) (by omega) (.ex (inn,a,i+1,k) (.all ?_))
     refine am ?_
     refine .pu ⟨by(try dsimp only);omega,rfl,rfl,rfl,by(try dsimp only);omega,hal,hdr,hkl⟩ ?_
     exact az
 ·refine af (cO (aS .here) ?_)
  refine o_ (jn a rfl hal) ?_
  refine ah (tO (by simp;omega)) .nil fun _=>?_
  refine am ?_
  have e0:(Value.string ⟨#[]⟩)=ay []:=rfl
  rw[e0]
  rw[wM (by omega),ko,tC]at hdr
  refine o_ ep ?_
  by_cases h4:cK (l.drop a)=[]
  ·rw[if_pos h4]at hdr
   rw[dF_ (fun c=>c h4)]
   have hkn:k=(br q e l).length:=by
    have:=congrArg List.length hdr
    rw[List.length_drop,List.length_nil]at this;omega
   subst hkn
   refine af (aR true ?_)
   refine .all ?_
   refine am ?_
   refine .pick (by repeat constructor) (.all ?_)
   refine am ?_
   exact az
  ·rw[if_neg h4]at hdr
   obtain⟨hg,hd2,hk2⟩:=ou hdr
   rw[dT_ h4]
   refine ai (bf (M:=all [T,all [pt gs (.cells #[ay l] 9 (0,0)),pt gk (.cells #[.bool q,.bool e,fv] 580 (0,0)),G k]]::F) ?_ ?_)
   ·refine .all ?_
    refine am ?_
    refine .pick (by repeat constructor) (.all ?_)
    refine am ?_
    exact az
   have hkn:k+1=(br q e l).length:=by
    have:=congrArg List.length hd2
    rw[List.length_drop,List.length_nil]at this;omega
   refine ia hy k (mN hg) .here ?_ ?_
   ·rw[hkn]
    refine aR true ?_
    exact .refl
   ·refine aR false ?_
    exact .refl
def sg (x:List UInt8):Value:=ay x
def kw (x:List UInt8):List Value:=[ay x]
theorem tQ {W : World} {l : List UInt8} {q e : Bool} {f : FuncId} {one : List UInt8 → (List UInt8) × Bool} (hl : l.length ≤ 2097152)
  (hone : ∀ w : List UInt8, w.length ≤ l.length → Cn p_ f [ay w] W [] (fun _ : Unit => .tuple #[sg (one w).1, .bool (one w).2]) (fun _ => [])) :
  Cn p_ 178 [ay l, .agg #[.bool q, .bool e, fn f]] W [] (fun r : Option Addr × Nat => .tuple #[.slice r.1 (mu (ey one (br q e l))).1.length r.2, .int .i64 (mu (ey one (br q e l))).2])
   (fun r => [Sl 1 9 r.1 r.2 (mu (ey one (br q e l))).1.length ((mu (ey one (br q e l))).1.flatMap kw)]) := by
 have hnum := kq (q := q) (e := e) (l := l)
 (refine S.jU.cn fun F => ?_; unfold S.gT; simp only [ca_, na_])
 refine aX fun b3 => ?_
 refine de fun b4 => ?_
 refine de fun b5 => ?_
 refine de fun b6 => ?_
 refine cO (bN (cs := #[.bool q, .bool e, fn f]) rfl) ?_
 refine ah vD .nil fun c => ?_
 obtain ⟨gs, gk⟩ := c
 refine am ?_
 refine z_ (f := 386) (cap := [.pointer (some ⟨gs, 0, none⟩), .pointer (some ⟨gk, 0, none⟩)]) (Dl q e l)
  (fun k => all [pt gs (.cells #[ay l] 9 (0, 0)), pt gk (.cells #[.bool q, .bool e, fn f] 322 (0, 0)), all [pu (((br q e l).take k).all (fun w => (one w).2) = true ∧ k ≤ (br q e l).length), pt b3 (.cells #[.bool q, .bool e, fn f] 322 (0, 0)), pt b4 (.cells #[.slice none 0 0] 33 (0, 0)), pt b5 (.cells #[.int .i64 0] 29 (0, 0)),
   ex fun r : Option Addr × Nat => all [pt b6 (.cells #[.slice r.1 k r.2] 33 (0, 0)), Sl 1 9 r.1 r.2 k (((br q e l).take k).flatMap fun w => kw (one w).1)], all F]])
  (all [pu ((br q e l).all (fun w => (one w).2) = false), pt b4 (.cells #[.slice none 0 0] 33 (0, 0)), pt b5 (.cells #[.int .i64 42] 29 (0, 0)), all F]) rfl ?_ ?_ ?_ ?_ ?_ ?_
 ·intro x hx
  obtain ⟨w, _, rfl⟩ := List.mem_map.1 hx
  rfl
 ·refine .all ?_
  refine am ?_
  refine .pick (by repeat constructor) (.pick (by repeat constructor) (.all ?_))
  refine am ?_
  refine .pu ⟨rfl, Nat.zero_le _⟩ ?_
  refine .pick (by repeat constructor) (.pick (by repeat constructor) (.pick (by repeat constructor) (.ex (none, 0) (.all ?_))))
  refine am ?_
  refine .pick (by repeat constructor) (bJ (.all ?_))
  rw [List.append_nil]
  exact .refl
 ·intro lp T T' hy
  rw [kr]
  exact tP (by omega) hy
 ·intro k hk F2 T0 T1 B N J hB hN hJ
  rw [kr] at hk
  obtain ⟨w, hwe⟩ : ∃ w, w = (br q e l)[k] := ⟨_, rfl⟩
  have hwl : w.length ≤ l.length := kp (by rw [hwe]; exact List.getElem_mem hk)
  have hat : (br q e l)[k]? = some w := by rw [hwe, List.getElem?_eq_getElem hk]
  have e0 : ∀ h, (Dl q e l)[k]'h = [ay w] := fun h => by
   have := mN hat
   rw [List.getElem?_eq_getElem h] at this
   exact Option.some.inj this
  rw [e0]
  simp only [iB, List.headD_cons, List.tail_cons]
  refine aB (.there .here) ?_
  refine am ?_
  refine aB (.there (.there .here)) ?_
  refine am ?_
  refine aT .here fun hp => ?_
  obtain ⟨hp, hkn⟩ := hp
  have htk : (br q e l).take (k + 1) = (br q e l).take k ++ [w] := by rw [List.take_succ_eq_append_getElem hk, hwe]
  refine hB _ _ _ (by repeat constructor) ?_
  refine a8 (A := fun r : Option Addr × Nat => all [pt b6 (.cells #[.slice r.1 k r.2] 33 (0, 0)), Sl 1 9 r.1 r.2 k (((br q e l).take k).flatMap fun w => kw (one w).1)]) (by repeat constructor) fun r => aB Pick.here ?_
  obtain ⟨a, c⟩ := r
  refine am ?_
  refine o_ ae (cO (aS (.there (.there .here))) ?_)
  refine ah (hone w hwl) .nil fun _ => ?_
  refine am ?_
  unfold sg
  refine o_ (bU (vs := [_, _]) .here) ?_
  refine o_ (bU (vs := [_, _]) (.there .here)) ?_
  refine o_ fx ?_
  cases hok : (one w).2 with
  | false =>
   refine ai (iJ (by repeat constructor) .here ?_)
   refine iJ (by repeat constructor) .here ?_
   refine hJ _ ?_
   refine .pick (by repeat constructor) (.all ?_)
   refine am ?_
   refine .pu ?_ ?_
   ·rw [Bool.eq_false_iff]
    intro hall
    have := List.all_eq_true.1 hall w (by rw [hwe]; exact List.getElem_mem hk)
    rw [hok] at this; cases this
   refine .pick (by repeat constructor) (.pick (by repeat constructor) ?_)
   exact az
  | true =>
   refine af (cO (aS .here) ?_)
   refine cI fun gb => ?_
   refine bQ (m := 1) (news := [ay (one w).1]) (by repeat constructor) (bL (e' := 9) (by kernel_rfl) .here (by rfl) (by intro u hu; rw [List.mem_singleton.1 hu]; rfl)) (by omega) (by omega) fun a' c' => ?_
   refine iJ (by repeat constructor) .here ?_
   refine hN _ ?_
   refine .pick (by repeat constructor) (.all ?_)
   refine am ?_
   refine .pick (by repeat constructor) (.pick (by repeat constructor) (.all ?_))
   refine am ?_
   refine .pu ⟨?_, by omega⟩ ?_
   ·rw [htk, List.all_append, hp]
    simp [hok]
   refine .pick (by repeat constructor) (.pick (by repeat constructor) (.pick (by repeat constructor) (.ex (a', c') (.all ?_))))
   refine am ?_
   rw [htk, List.flatMap_append, List.flatMap_singleton]
   refine .pick (by repeat constructor) (.pick (by repeat constructor) ?_)
   exact az
 ·intro d
  rw [kr]
  refine aB (.there .here) ?_
  refine am ?_
  refine aB (.there (.there .here)) ?_
  refine am ?_
  refine aT .here fun hp => ?_
  obtain ⟨hp, _⟩ := hp
  rw [List.take_length] at hp ⊢
  refine a8 (A := fun r : Option Addr × Nat => all [pt b6 (.cells #[.slice r.1 (br q e l).length r.2] 33 (0, 0)), Sl 1 9 r.1 r.2 (br q e l).length ((br q e l).flatMap fun w => kw (one w).1)]) (by repeat constructor) fun r => aB Pick.here ?_
  obtain ⟨a, c⟩ := r
  refine am ?_
  refine cO (aS .here) ?_
  refine iJ (by repeat constructor) .here ?_
  refine iJ (by repeat constructor) .here ?_
  refine rU (by repeat constructor) ?_
  refine iq (cX .here) ?_
  refine iq (cX .here) ?_
  have e1 : mu (ey one (br q e l)) = ((br q e l).map fun w => (one w).1, 0) := by
   unfold ey
   rw [if_pos hp]; rfl
  rw [e1]
  refine i7 (M := [Sl 1 9 a c (br q e l).length ((br q e l).flatMap fun w => kw (one w).1)]) (F := F) az ?_
  refine am ?_
  refine bK (a, c) (by simp) ?_
  simp only [List.length_map, List.flatMap_map]
  exact .refl
 ·intro d
  refine aB (.there .here) ?_
  refine am ?_
  refine aT .here fun hp => ?_
  refine rU (by repeat constructor) ?_
  refine iq (cX .here) ?_
  refine iq (cX .here) ?_
  have e1 : mu (ey one (br q e l)) = ([], 42) := by
   unfold ey
   rw [if_neg (by rw [hp]; simp)]; rfl
  rw [e1]
  refine i7 (M := []) (F := F) az ?_
  refine am ?_
  refine bK (none, 0) rfl ?_
  exact bJ .refl
def tR (x:Dir):Value:= .agg #[ay x.name,ay x.value,.bool x.has]
def je (x:Dir):List Value:=[ay x.name,ay x.value,.bool x.has]
theorem AG {W : World} {l : List UInt8} {q e : Bool} {f : FuncId} {one : List UInt8 → (Dir) × Bool} (hl : l.length ≤ 2097152)
  (hone : ∀ w : List UInt8, w.length ≤ l.length → Cn p_ f [ay w] W [] (fun _ : Unit => .tuple #[tR (one w).1, .bool (one w).2]) (fun _ => [])) :
  Cn p_ 442 [ay l, .agg #[.bool q, .bool e, fn f]] W [] (fun r : Option Addr × Nat => .tuple #[.slice r.1 (mu (ey one (br q e l))).1.length r.2, .int .i64 (mu (ey one (br q e l))).2])
   (fun r => [Sl 3 524 r.1 r.2 (mu (ey one (br q e l))).1.length ((mu (ey one (br q e l))).1.flatMap je)]) := by
 have hnum := kq (q := q) (e := e) (l := l)
 (refine S.fN.cn fun F => ?_; unfold S.d4; simp only [ca_, na_])
 refine aX fun b3 => ?_
 refine de fun b4 => ?_
 refine de fun b5 => ?_
 refine de fun b6 => ?_
 refine cO (bN (cs := #[.bool q, .bool e, fn f]) rfl) ?_
 refine ah DS .nil fun c => ?_
 obtain ⟨gs, gk⟩ := c
 refine am ?_
 refine z_ (f := 521) (cap := [.pointer (some ⟨gs, 0, none⟩), .pointer (some ⟨gk, 0, none⟩)]) (Dl q e l)
  (fun k => all [pt gs (.cells #[ay l] 9 (0, 0)), pt gk (.cells #[.bool q, .bool e, fn f] 580 (0, 0)), all [pu (((br q e l).take k).all (fun w => (one w).2) = true ∧ k ≤ (br q e l).length), pt b3 (.cells #[.bool q, .bool e, fn f] 580 (0, 0)), pt b4 (.cells #[.slice none 0 0] 520 (0, 0)), pt b5 (.cells #[.int .i64 0] 29 (0, 0)),
   ex fun r : Option Addr × Nat => all [pt b6 (.cells #[.slice r.1 k r.2] 520 (0, 0)), Sl 3 524 r.1 r.2 k (((br q e l).take k).flatMap fun w => je (one w).1)], all F]])
  (all [pu ((br q e l).all (fun w => (one w).2) = false), pt b4 (.cells #[.slice none 0 0] 520 (0, 0)), pt b5 (.cells #[.int .i64 42] 29 (0, 0)), all F]) rfl ?_ ?_ ?_ ?_ ?_ ?_
 ·intro x hx
  obtain ⟨w, _, rfl⟩ := List.mem_map.1 hx
  rfl
 ·refine .all ?_
  refine am ?_
  refine .pick (by repeat constructor) (.pick (by repeat constructor) (.all ?_))
  refine am ?_
  refine .pu ⟨rfl, Nat.zero_le _⟩ ?_
  refine .pick (by repeat constructor) (.pick (by repeat constructor) (.pick (by repeat constructor) (.ex (none, 0) (.all ?_))))
  refine am ?_
  refine .pick (by repeat constructor) (bJ (.all ?_))
  rw [List.append_nil]
  exact .refl
 ·intro lp T T' hy
  rw [kr]
  exact AF (by omega) hy
 ·intro k hk F2 T0 T1 B N J hB hN hJ
  rw [kr] at hk
  obtain ⟨w, hwe⟩ : ∃ w, w = (br q e l)[k] := ⟨_, rfl⟩
  have hwl : w.length ≤ l.length := kp (by rw [hwe]; exact List.getElem_mem hk)
  have hat : (br q e l)[k]? = some w := by rw [hwe, List.getElem?_eq_getElem hk]
  have e0 : ∀ h, (Dl q e l)[k]'h = [ay w] := fun h => by
   have := mN hat
   rw [List.getElem?_eq_getElem h] at this
   exact Option.some.inj this
  rw [e0]
  simp only [iB, List.headD_cons, List.tail_cons]
  refine aB (.there .here) ?_
  refine am ?_
  refine aB (.there (.there .here)) ?_
  refine am ?_
  refine aT .here fun hp => ?_
  obtain ⟨hp, hkn⟩ := hp
  have htk : (br q e l).take (k + 1) = (br q e l).take k ++ [w] := by rw [List.take_succ_eq_append_getElem hk, hwe]
  refine hB _ _ _ (by repeat constructor) ?_
  refine a8 (A := fun r : Option Addr × Nat => all [pt b6 (.cells #[.slice r.1 k r.2] 520 (0, 0)), Sl 3 524 r.1 r.2 k (((br q e l).take k).flatMap fun w => je (one w).1)]) (by repeat constructor) fun r => aB Pick.here ?_
  obtain ⟨a, c⟩ := r
  refine am ?_
  refine o_ ae (cO (aS (.there (.there .here))) ?_)
  refine ah (hone w hwl) .nil fun _ => ?_
  refine am ?_
  unfold tR
  refine o_ (bU (vs := [_, _]) .here) ?_
  refine o_ (bU (vs := [_, _]) (.there .here)) ?_
  refine aU fun b8 => ?_
  refine aK .here (by rfl) (by rfl) (by intro u hu; simp [tR] at hu; rcases hu with rfl | rfl | rfl <;> rfl) ?_
  refine o_ fx ?_
  cases hok : (one w).2 with
  | false =>
   refine ai (iJ (by repeat constructor) .here ?_)
   refine iJ (by repeat constructor) .here ?_
   refine hJ _ ?_
   refine .pick (by repeat constructor) (.all ?_)
   refine am ?_
   refine .pu ?_ ?_
   ·rw [Bool.eq_false_iff]
    intro hall
    have := List.all_eq_true.1 hall w (by rw [hwe]; exact List.getElem_mem hk)
    rw [hok] at this; cases this
   refine .pick (by repeat constructor) (.pick (by repeat constructor) ?_)
   exact az
  | true =>
   refine af (cO (aS .here) ?_)
   refine cO (bN (cs := #[ay (one w).1.name, ay (one w).1.value, .bool (one w).1.has]) rfl) ?_
   refine dS (n := 1) (vs := [tR (one w).1]) rfl (by omega) rfl (by intro v hv; rw [List.mem_singleton.1 hv]; rfl) (by omega) fun gb => ?_
   refine bQ (m := 1) (news := je (one w).1) (by repeat constructor) (bL (s := 3) (e' := 524) (by kernel_rfl) .here (by rfl) (by intro u hu; simp [je] at hu; rcases hu with rfl | rfl | rfl <;> rfl)) (by omega) (by omega) fun a' c' => ?_
   refine iJ (by repeat constructor) .here ?_
   refine hN _ ?_
   refine .pick (by repeat constructor) (.all ?_)
   refine am ?_
   refine .pick (by repeat constructor) (.pick (by repeat constructor) (.all ?_))
   refine am ?_
   refine .pu ⟨?_, by omega⟩ ?_
   ·rw [htk, List.all_append, hp]
    simp [hok]
   refine .pick (by repeat constructor) (.pick (by repeat constructor) (.pick (by repeat constructor) (.ex (a', c') (.all ?_))))
   refine am ?_
   rw [htk, List.flatMap_append, List.flatMap_singleton]
   refine .pick (by repeat constructor) (.pick (by repeat constructor) ?_)
   exact az
 ·intro d
  rw [kr]
  refine aB (.there .here) ?_
  refine am ?_
  refine aB (.there (.there .here)) ?_
  refine am ?_
  refine aT .here fun hp => ?_
  obtain ⟨hp, _⟩ := hp
  rw [List.take_length] at hp ⊢
  refine a8 (A := fun r : Option Addr × Nat => all [pt b6 (.cells #[.slice r.1 (br q e l).length r.2] 520 (0, 0)), Sl 3 524 r.1 r.2 (br q e l).length ((br q e l).flatMap fun w => je (one w).1)]) (by repeat constructor) fun r => aB Pick.here ?_
  obtain ⟨a, c⟩ := r
  refine am ?_
  refine cO (aS .here) ?_
  refine iJ (by repeat constructor) .here ?_
  refine iJ (by repeat constructor) .here ?_
  refine rU (by repeat constructor) ?_
  refine iq (cX .here) ?_
  refine iq (cX .here) ?_
  have e1 : mu (ey one (br q e l)) = ((br q e l).map fun w => (one w).1, 0) := by
   unfold ey
   rw [if_pos hp]; rfl
  rw [e1]
  refine i7 (M := [Sl 3 524 a c (br q e l).length ((br q e l).flatMap fun w => je (one w).1)]) (F := F) az ?_
  refine am ?_
  refine bK (a, c) (by simp) ?_
  simp only [List.length_map, List.flatMap_map]
  exact .refl
 ·intro d
  refine aB (.there .here) ?_
  refine am ?_
  refine aT .here fun hp => ?_
  refine rU (by repeat constructor) ?_
  refine iq (cX .here) ?_
  refine iq (cX .here) ?_
  have e1 : mu (ey one (br q e l)) = ([], 42) := by
   unfold ey
   rw [if_neg (by rw [hp]; simp)]; rfl
  rw [e1]
  refine i7 (M := []) (F := F) az ?_
  refine am ?_
  refine bK (none, 0) rfl ?_
  exact bJ .refl
theorem DU (a b:List UInt8):((⟨a.toArray⟩:ByteArray).toList==(⟨b.toArray⟩:ByteArray).toList)=decide (a=b):=by
 rw[ByteArray.toList_eq,ByteArray.toList_eq]
 show(a==b)=decide (a=b)
 by_cases h:a=b <;> simp[h]
theorem Uj {w:World}{d:Nat}{a b:Int}:(Op.equalIn (d+1) 3 (.int .i64 a) (.int .i64 b)).run p_ w= .ok (decide (a=b)) w:=by
 rw[run_equalIn_int w d 3 .i64 .i64 a b Tryz.underlying3];rfl
theorem Uk {w:World}{d:Nat}{a b:Bool}:(Op.equalIn (d+1) 4 (.bool a) (.bool b)).run p_ w= .ok (decide (a=b)) w:=by
 rw[run_equalIn_bool' w d 4 a b Tryz.underlying4]
 cases a <;> cases b <;> rfl
theorem Ul {w:World}{d:Nat}{a b:List UInt8}:(Op.equalIn (d+1) 9 (ay a) (ay b)).run p_ w= .ok (decide (a=b)) w:=by
 unfold ay
 rw[run_equalIn_string w d 9 _ _ Tryz.underlying9,DU]
theorem Mz {w:World}{t:TypeId}{cs:Array Value}{o:Nat}{v:Value}[h:OneT p_ t](hv:cs[o]? =some v):(part t cs o).run p_ w= .ok v w:=by
 simp[part,h.agg,hv]
theorem vE {w:World} {d:Nat} {f:Field} {fs:List Field} {xs ys:Array Value} {a b:Value} {φ:Bool} (hn:f.name≠ "_") (h1:(part f.type xs f.offset).run p_ w= .ok a w) (h2:(part f.type ys f.offset).run p_ w= .ok b w)
  (h3:(Op.equalIn d f.type a b).run p_ w= .ok φ w):(Op.eqFields d xs ys (f::fs)).run p_ w=if φ then(Op.eqFields d xs ys fs).run p_ w else .ok false w:=by
 rw[Op.eqFields,if_pos hn]
 simp only[Sem.run_bind,h1,h2,h3,Result.andThen_ok]
 cases φ <;> simp
theorem Ge {w:World}{d:Nat}{xs ys:Array Value}:(Op.eqFields d xs ys []).run p_ w= .ok true w:=by simp[Op.eqFields]
theorem Gf {w:World} {f:Field} {fs:List Field} {xs ys:Array Value} {φ:Bool} (a b:Int) (hn:f.name≠ "_") (ht:f.type=3) (h1:xs[f.offset]? =some (.int .i64 a)) (h2:ys[f.offset]? =some (.int .i64 b))
  (hr:(Op.eqFields 9999 xs ys fs).run p_ w= .ok φ w):(Op.eqFields 9999 xs ys (f::fs)).run p_ w= .ok (decide (a=b)&&φ) w:=by
 rw[vE hn (by rw[ht];exact Mz h1) (by rw[ht];exact Mz h2) (by rw[ht];exact Uj (d:=9998)),hr]
 by_cases h:a=b <;> simp[h]
theorem VN {w:World} {f:Field} {fs:List Field} {xs ys:Array Value} {φ:Bool} (a b:Bool) (hn:f.name≠ "_") (ht:f.type=4) (h1:xs[f.offset]? =some (.bool a)) (h2:ys[f.offset]? =some (.bool b))
  (hr:(Op.eqFields 9999 xs ys fs).run p_ w= .ok φ w):(Op.eqFields 9999 xs ys (f::fs)).run p_ w= .ok (decide (a=b)&&φ) w:=by
 rw[vE hn (by rw[ht];exact Mz h1) (by rw[ht];exact Mz h2) (by rw[ht];exact Uk (d:=9998)),hr]
 by_cases h:a=b <;> simp[h]
theorem Pa {w:World} {f:Field} {fs:List Field} {xs ys:Array Value} {φ:Bool} (a b:List UInt8) (hn:f.name≠ "_") (ht:f.type=9) (h1:xs[f.offset]? =some (ay a)) (h2:ys[f.offset]? =some (ay b))
  (hr:(Op.eqFields 9999 xs ys fs).run p_ w= .ok φ w):(Op.eqFields 9999 xs ys (f::fs)).run p_ w= .ok (decide (a=b)&&φ) w:=by
 rw[vE hn (by rw[ht];exact Mz h1) (by rw[ht];exact Mz h2) (by rw[ht];exact Ul (d:=9998)),hr]
 by_cases h:a=b <;> simp[h]
theorem AH {W:World} {t:TypeId} {ox oy:Operand} {xs ys:Array Value} {φ:Bool} (ht:p_.underlying t=some (.struct (p_.fieldsOf t))) (hp:p_.stoodInHeld t=false) (hm:p_.eqGuardType p_.depth t=false)
  (h:∀w,(Op.eqFields 9999 xs ys (p_.fieldsOf t).toList).run p_ w= .ok φ w):aQ p_ W [] (dY .eql t ox oy (.agg xs) (.agg ys)) (.bool φ):=fun w _=>by
 have e:=run_equalIn_agg (P:=p_) w 9999 t xs ys ht hp
 rw[h w]at e
 have h1:=run_eql_struct (P:=p_) w t xs ys
 rw[show(10000:Nat)=9999+1 from rfl,e]at h1
 have h2:=run_eqGuard_agg (P:=p_) w .eql t ox oy xs ys hm
 simp[dY,sv,h2,h1]
section
variable {P:Program} {W:World} {L L':List HP} {Kp:PK} {k:Value->WP}
theorem Pb {a b:Bool}{y:Value}{s1:Value->Sem Next}(h1:a=false->aQ P W [] (s1 y) (.bool b))(h:aJ W L (k (.bool (a||b)))):
  aJ W L (gdK (.bool a) false (fun k=>k y) fun x1=>gdK (.bool a) false (opN P (s1 x1) Kp) fun x2=>opN P (d_ (.bool a) (.bool true) x2) Kp k):=by
 cases a with
 |true=>
  refine aC (aC (o_ av ?_))
  simpa using h
 |false=>
  refine ab (ab (o_ (h1 rfl) ?_))
  refine o_ ak ?_
  simpa using h
theorem Pd {a b:Bool}{y v1:Value}{s1 s2:Value->Sem Next}(h1:a=false->aQ P W [] (s1 y) v1)(h2:a=false->aQ P W [] (s2 v1) (.bool b))(h:aJ W L (k (.bool (a||b)))):
  aJ W L (gdK (.bool a) false (fun k=>k y) fun x1=>gdK (.bool a) false (opN P (s1 x1) Kp) fun x2=>gdK (.bool a) false (opN P (s2 x2) Kp) fun x3=>opN P (d_ (.bool a) (.bool true) x3) Kp k):=by
 cases a with
 |true=>
  refine aC (aC (aC (o_ av ?_)))
  simpa using h
 |false=>
  refine ab (ab (o_ (h1 rfl) ?_))
  refine ab (o_ (h2 rfl) ?_)
  refine o_ ak ?_
  simpa using h
end
theorem f6 {c:UInt8}:∀s:List UInt8,(bS c s).length<=s.length
 |[]=>by simp[bS]
 |x::r=>by
  have:=f6 (c:=c) r
  unfold bS
  split <;> simp <;> omega
theorem HW {W:World}{l:List UInt8}(hl:l.length<=4611686018427387904):Cn p_ 179 [ay l] W [] (fun _:Unit=> .tuple #[sg (o5 l).1,.bool (o5 l).2]) (fun _=>[]):=by
 (refine Shp.cn (Sg.g_ Tryz.call179 Tryz.func179) fun F=>?_;simp only[ca_,na_])
 refine c_ (pb hl) fun _=>?_
 refine c_ (nC hl) fun _=>?_
 refine aR () ?_
 exact az
end Go.Proofs.YtdjkdjepjahjfaaGreatDoor.FD
namespace Go.Proofs.YtdjkdjepjahjfaaGreatDoor.FD
open Go Go.Proofs Go.RowKit Sh Sl T
abbrev Fd:=List UInt8 × List UInt8
def vF (x:Fd):Value:= .agg #[ay x.1,ay x.2]
def cS (x:Fd):List Value:=[ay x.1,ay x.2]
def gX (W:World)(A:HP)(a:Option Addr)(l:List Fd):Prop:=RdB W A a (l.length * 2) (l.flatMap cS)
theorem mO {W:World}{A:HP}{a:Option Addr}{l:List Fd}(h:gX W A a l)(hl:0<l.length):∃g o,a=some ⟨g,o,none⟩:=by
 obtain⟨g,o,e,_⟩:=h.at_ (by omega)
 exact⟨g,o,e⟩
theorem mP {W:World}{A:HP}{l:List Fd}{i g o:Nat}(hA:gX W A (some ⟨g,o,none⟩) l)(h:i<l.length):aQ p_ W [A] (aG 192 (.pointer (some ⟨g,o+i * 2,none⟩))) (vF l[i]):=
 df (vs:=cS l[i]) hA rfl (fun j hj=>jR (f:=cS) (s:=2) (fun _=>rfl) l i j h hj)
def qS (l:List Fd):Prop:=l.length<=4194304/\∀f∈l,f.1.length<=4194304/\f.2.length<=4194304
def bW (l:List Fd)(n:List UInt8):List (List UInt8):=(l.filter fun f=>gD f.1 n).map (·.2)
def lf (l:List Fd)(n:List UInt8):List UInt8 × Bool:=match bW l n with
 |[]=>([],false)
 |v::_=>(v,true)
theorem yy {l:List Fd}{n:List UInt8}{i:Nat}(h:i<l.length):bW (l.take (i+1)) n=bW (l.take i) n++(if gD l[i].1 n then [l[i].2]else []):=by
 unfold bW
 rw[List.take_succ_eq_append_getElem h,List.filter_append,List.map_append]
 congr 1
 cases he:gD l[i].1 n <;> simp[he]
theorem jW (l:List Fd)(n:List UInt8):(bW l n).length<=l.length:=by
 unfold bW
 rw[List.length_map]
 exact List.length_filter_le _ _
theorem fO {W:World}{l:List Fd}{n:List UInt8}{a:Option Addr}{c:Nat}{A:HP}(hA:gX W A a l)(hl:qS l)(hn:n.length<=4194304):Cn p_ 105 [.slice a l.length c,ay n] W [A] (fun r:Option Addr × Nat=> .slice r.1 (bW l n).length r.2)
  (fun r=>[A,Sl 1 9 r.1 r.2 (bW l n).length ((bW l n).map ay)]):=by
 (refine Shp.cn (Sg.g_ Tryz.call105 Tryz.func105 (an:={loops:=[(3,[5,10])]})) fun F=>?_;simp only[ca_,na_])
 refine o_ aI (cp (fun m x y=>[ex fun st:(Option Addr × Nat) × Nat=>all [pu (m+st.2=l.length/\x= .slice st.1.1 (bW (l.take st.2) n).length st.1.2/\y= .int .i64 (st.2:Int)),Sl 1 9 st.1.1 st.1.2 (bW (l.take st.2) n).length ((bW (l.take st.2) n).map ay),A]]++F) l.length ?_ ?_)
 ·refine Imp.ex ((none,0),0) (.all ?_)
  refine am ?_
  refine .pu ⟨rfl,rfl,rfl⟩ ?_
  exact bJ .refl
 intro m ds x y
 refine am ?_
 refine a8 Pick.here fun st=>aB Pick.here ?_
 obtain⟨⟨sa,sc⟩,i⟩:=st
 refine am ?_
 refine aT Pick.here fun hi=>?_
 (try dsimp only at hi)
 obtain⟨hmi,rfl,rfl⟩:=hi
 refine bz bD .nil (fun h=>?_) (fun h=>?_)
 ·have hil:i<l.length:=by omega
  have hb:=hl.2 _ (List.getElem_mem hil)
  have hv:=yy (n:=n) hil
  have hvl:=jW (l.take i) n
  have hl1:=hl.1
  rw[List.length_take]at hvl
  refine ai ?_
  obtain⟨g,o,rfl⟩:=mO hA (Nat.zero_lt_of_lt hil)
  refine o_ (dR i rfl hil) ?_
  refine cO (mP hA hil) ?_
  generalize l[i]=x at hb hv ⊢
  unfold vF
  refine aU fun b7=>?_
  refine aK .here (by rfl) (by rfl) (by intro u hu;simp at hu;rcases hu with rfl|rfl <;> rfl) ?_
  refine o_ ae (aH ?_)
  refine ah (equal (a:=x.1) (b:=n) (by omega) (by omega)) .nil fun _=>?_
  refine am ?_
  cases he:gD x.1 n with
  |true=>
   rw[he,if_pos rfl]at hv
   refine ai (o_ ae (aH ?_));refine cI fun g=>?_
   refine bQ (m:=1) (news:=[ay x.2]) (by repeat constructor) (bL (e':=9) (by kernel_rfl) .here (by rfl) (by intro u hu;rw[List.mem_singleton.1 hu];rfl)) (by omega) (by omega) fun a' c'=>?_
   refine bP ?_
   refine bI (m-1) (by omega) (.ex ((a',c'),i+1) (.all ?_))
   refine am ?_
   (try dsimp only)
   rw[hv,List.length_append,List.map_append]
   refine .pu ⟨by omega,rfl,rfl⟩ ?_
   refine .pick .here ?_
   exact az
  |false=>
   rw[he,if_neg (by decide),List.append_nil]at hv
   refine af (bP ?_)
   refine bI (m-1) (by omega) (.ex ((sa,sc),i+1) (.all ?_))
   refine am ?_
   (try dsimp only)
   rw[hv]
   refine .pu ⟨by omega,rfl,rfl⟩ ?_
   exact az
 ·have:i=l.length:=by omega
  subst this
  rw[List.take_length]
  refine af (aR ((sa,sc)) ?_)
  exact az
theorem first {W:World}{l:List Fd}{n:List UInt8}{a:Option Addr}{c:Nat}{A:HP}(hA:gX W A a l)(hl:qS l)(hn:n.length<=4194304):Cn p_ 87 [.slice a l.length c,ay n] W [A] (fun _:Unit=> .tuple #[ay (lf l n).1,.bool (lf l n).2])
  (fun r=>[A]):=by
 (refine Shp.cn (Sg.g_ Tryz.call87 Tryz.func87 (an:={loops:=[(2,[12])]})) fun F=>?_;simp only[ca_,na_])
 refine ah (fO hA hl hn) (.cons .here .nil) fun r=>?_
 obtain⟨sa,sc⟩:=r
 refine am ?_
 unfold lf
 generalize bW l n=V
 refine o_ aI (aY (fun m y=>pu (y= .int .i64 0)::A::Sl 1 9 sa sc V.length (V.map ay)::F) 0 ?_ ?_)
 ·exact .pu rfl .refl
 intro m ds y
 refine aT .here fun hy=>?_
 subst hy
 cases V with
 |nil=>
  refine o_ (bD (a:=0) (b:=0)) ?_
  refine af (aR () ?_)
  exact az
 |cons v r=>
  refine o_ bD ?_
  rw[dT_ (by simp)]
  refine ai (a9 (a:=sa) (.there .here) (by simp) fun g hg=>?_)
  subst hg
  have ld:aQ p_ W [Sl 1 9 (some ⟨g,0,none⟩) sc (v::r).length ((v::r).map ay)] (aG 9 (.pointer (some ⟨g,0+0,none⟩))) (ay v):=bw rfl
  refine o_ (bq 0 rfl (by simp)) ?_
  refine cO ld ?_
  refine aR () ?_
  exact az
end Go.Proofs.YtdjkdjepjahjfaaGreatDoor.FD
namespace Go.Proofs.YtdjkdjepjahjfaaGreatDoor.TP
open Go Sl FD
inductive Nx where
 |req|res|fld
 deriving DecidableEq
structure Ps where
 reply:Bool
 line:List UInt8
 cr:Bool
 done:Bool
 all:Nat
 empty:Nat
 nx:Nx
 meth:List UInt8
 targ:List UInt8
 minor:Int
 status:Int
 reason:List UInt8
 fs:List FD.Fd
 deriving DecidableEq
def ef (reply:Bool):Ps:=⟨reply,[],false,false,0,0,if reply then .res else .req,[],[],0,0,[],[]⟩
def vG (c:UInt8):Bool:=decide (32<c/\c<127)
def nP (s:List UInt8):Bool:=s.all vG&&nb s
def tS:List UInt8:=[72,84,84,80,47,49,46]
def DV (s:List UInt8):Option Int:=match s.drop 7 with
 |[d]=>if s.take 7=tS/\kG d=true then some ((d.toNat:Int)-48)else none
 |_=>none
def vH (c:UInt8):Bool:=decide (c=9\/(32<=c/\c≠127))
def AI (s:List UInt8):Bool:=s.all vH
def DW (s:List UInt8):Bool:=AI s&&decide (cK s=s)
def HX (p:Ps)(s:List UInt8):Option Ps:=
 if s=[]/\p.empty<4 then some {p with empty:=p.empty+1}else
 let a:=cu 32 s
 let r:=bS 32 s
 let b:=cu 32 r
 let v:=bS 32 r
 if fZ 32 s&&fZ 32 r&&decide (a.length<=32)&&kF a&&nP b then
  match DV v with
  |some m=>some {p with nx:= .fld,meth:=a,targ:=b,minor:=m}
  |none=>none
 else none
def HY (p:Ps)(s:List UInt8):Option Ps:=
 let a:=cu 32 s
 let r:=bS 32 s
 let b:=cu 32 r
 let v:=bS 32 r
 if fZ 32 s&&fZ 32 r&&decide (b.length=3)then
  match DV a with
  |some m=>if(dh b).2=0/\100<=(dh b).1/\(dh b).1<=599 then some {p with nx:= .fld,minor:=m,status:=(dh b).1,reason:=v}else none
  |none=>none
 else none
def HZ (p:Ps)(s:List UInt8):Option Ps:=
 if s=[]then some {p with done:=true}else
 if fZ 58 s&&kF (cu 58 s)&&DW (cK (bS 58 s))&&decide (p.fs.length<100)then some {p with fs:=p.fs++[(cu 58 s,cK (bS 58 s))]}else none
def Um (p:Ps)(s:List UInt8):Option Ps:=match p.nx with
 | .req=>HX p s
 | .res=>HY p s
 | .fld=>HZ p s
def sj (p:Ps)(c:UInt8):Option Ps:=
 if 32768<=p.all\/8192<p.line.length then none else
 if p.cr then(if c=10 then Um {p with all:=p.all+1,cr:=false,line:=[]} p.line else none)else
 if c=13 then some {p with all:=p.all+1,cr:=true}else
 if vH c&&decide (p.line.length<8192)then some {p with all:=p.all+1,line:=p.line++[c]}else none
def dM:Ps->List UInt8->Option (Ps × List UInt8)
 |p,[]=>some (p,[])
 |p,c::r=>match sj p c with
  |none=>none
  |some q=>if q.done then some (q,r)else dM q r
end Go.Proofs.YtdjkdjepjahjfaaGreatDoor.TP
namespace Go.Proofs.YtdjkdjepjahjfaaGreatDoor.TP
open Go Sl FD
def iu:List UInt8:=[13,10]
def cU:List UInt8:=[71,69,84]
def jX (f:FD.Fd):List UInt8:=f.1++[58,32]++(f.2++iu)
def mQ (first:List UInt8)(fs:List FD.Fd):List UInt8:=first++iu++fs.flatMap jX++iu
def Pe (f:FD.Fd):Bool:=kF f.1&&DW f.2&&decide (f.1.length+2+f.2.length<=8192)
def kI (first:List UInt8)(fs:List FD.Fd):Bool:=decide (first.length<=8192)&&decide (fs.length<=100)&&fs.all Pe&&decide ((mQ first fs).length<=32768)
theorem tT {fs:List FD.Fd}{i:Nat}(h:i<fs.length):(fs.take (i+1)).flatMap jX=(fs.take i).flatMap jX++jX fs[i]:=by
 rw[List.take_succ_eq_append_getElem h,List.flatMap_append];simp
theorem ii {fs:List FD.Fd}{i:Nat}:((fs.take i).flatMap jX).length<=(fs.flatMap jX).length:=by
 conv=>rhs;rw[<- List.take_append_drop i fs,List.flatMap_append,List.length_append]
 exact Nat.le_add_right _ _
theorem sl (f:FD.Fd):(jX f).length=f.1.length+2+f.2.length+2:=by simp[jX,iu];omega
theorem wX (first:List UInt8)(fs:List FD.Fd):(mQ first fs).length=first.length+(fs.flatMap jX).length+4:=by simp[mQ,iu];omega
end Go.Proofs.YtdjkdjepjahjfaaGreatDoor.TP
namespace Go.Proofs.YtdjkdjepjahjfaaGreatDoor.Sl
open Go Sh
theorem Gg {P:Program} {W:World} {L:List HP} {Kp:PK} {k:Value->WP} {α:Type} {t:TypeId} {v rv:Value} {nm:String} {f:FuncId} {args:List Value} {A F:List HP} {r:α->Value} {B:α->List HP}
  (hm:∀w,(method (P.types.size+Made.depth) t v nm).run P w= .ok (f,rv) w) (hf:Cn P f (rv::args) W A r B) (p:Picks L A F)
  (h:∀x,aJ W (B x++F) (k (r x))):aJ W L (opN P (zQ (.iface t v) nm args) Kp k):=fun w hw=>by
 refine⟨?_⟩
 have hr:(zQ (.iface t v) nm args).run P w= .ok (.enter f (rv::args).toArray) w:=by
  unfold zQ
  simp[invoke,callMethod,hm,hf.call]
 rw[hr]
 refine(hf.run F w (p.sat hw)).mono fun e w' ⟨x,he,hs⟩=>?_
 subst he
 exact h x w' hs
theorem dW {P:Program} {W:World} {L:List HP} {Kp:PK} {k:Value->WP} {α:Type} {f:FuncId} {first args cap:List Value} {A F:List HP} {r:α->Value} {B:α->List HP} (hf:Cn P f (first++args++cap) W A r B) (p:Picks L A F)
  (h:∀x,aJ W (B x++F) (k (r x))):aJ W L (opN P (bG (.func (.func f) first.toArray cap.toArray) args) Kp k):=fun w hw=>by
 refine⟨?_⟩
 have hr:(bG (.func (.func f) first.toArray cap.toArray) args).run P w= .ok (.enter f (first++args++cap).toArray) w:=by
  unfold bG Deferred.ofValue
  simp[invoke,hf.call]
 rw[hr]
 refine(hf.run F w (p.sat hw)).mono fun e w' ⟨x,he,hs⟩=>?_
 subst he
 exact h x w' hs
end Go.Proofs.YtdjkdjepjahjfaaGreatDoor.Sl
namespace Go.Proofs.YtdjkdjepjahjfaaGreatDoor.Sl
open Go Go.RowKit Sh
variable {P:Program} {W:World} {L L':List HP} {Kp:PK} {k:Value->WP} {A:HP}
theorem pf {t T:TypeId} {n g o:Nat} {cs vs cs':List Value} [ht:AggT P t n] (p:Pick L (pt g (.cells cs.toArray T (0,0))) L') (hv:vs.length=n) (ho:o+n<=cs.length) (h1:∀u∈vs,u.oneCell'=true) (he:cs.take o++vs++cs.drop (o+n)=cs')
  (h:aJ W (pt g (.cells cs'.toArray T (0,0))::L') (k undef)):aJ W L (opN P (aM t (.pointer (some ⟨g,o,none⟩)) (.agg vs.toArray)) Kp k):=fun w hw=>by
 subst he
 have hp:=hw.pick p
 have hst:=run_storeCells_cells (P:=P) g o vs 0 w (fun j hj=>by
  rw[hp.cell,Array.getElem?_eq_getElem (by simp at hj ⊢;omega)];rfl) (fun j _=>hp.free) h1
 obtain⟨cs',c1,c2,c3⟩:=e9 g (o+0) vs w _ _ hp
 refine⟨?_⟩
 have:(aM t (.pointer (some ⟨g,o,none⟩)) (.agg vs.toArray)).run P w= .ok .skip (w.setCells g (o+0) vs):=by
  simp[aM,Instr.storeAt,Instr.sureAddr,storeVar,ht.size,Value.cells,hv,hst]
 rw[this]
 refine h _ ?_
 have he:cs'=(cs.take o++vs++cs.drop (o+n)).toArray:=by
  apply Array.ext_getElem?
  intro j
  rw[c3]
  simp only[Nat.add_zero,List.size_toArray,List.getElem?_toArray,hv]
  have:=tB (rest:=[]) (j:=j) hv ho
  rw[List.append_nil,List.append_nil]at this
  rw[this]
  by_cases hj:o<=j/\j<o+n
  ·rw[if_pos hj,if_pos ⟨hj.1,hj.2,by omega⟩]
  ·rw[if_neg hj,if_neg (fun c=>hj ⟨c.1,c.2.1⟩)]
 rwa [he]at c1
theorem iO {t T:TypeId}{n g o:Nat}{cs vs:List Value}{fz:Nat × Nat}[ht:AggT P t n](hn:vs.length=n)(hc:∀i,i<n->cs[o+i]? =vs[i]?):aQ P W [pt g (.cells cs.toArray T fz)] (aG t (.pointer (some ⟨g,o,none⟩))) (.agg vs.toArray):=by
 have:=df (P:=P) (t:=t) (o:=0) (j:=o) (gP (W:=W) (g:=g) (T:=T) (fz:=fz) (cs:=cs) rfl) hn hc
 rwa [Nat.zero_add]at this
end Go.Proofs.YtdjkdjepjahjfaaGreatDoor.Sl
namespace Go.Proofs.YtdjkdjepjahjfaaGreatDoor.FD
open Go Go.Proofs Go.RowKit Sh Sl T
def gY (p l:List UInt8):Bool:=decide (l.take p.length=p)
theorem tU {p l:List UInt8}(h:gY p l=true):p.length<=l.length:=by
 have:=congrArg List.length (of_decide_eq_true h)
 rw[List.length_take]at this
 omega
theorem wY {W:World}{l p:List UInt8}(hl:l.length<=4611686018427387904)(hp:p.length<=4611686018427387904):Cn p_ 243 [ay l,ay p] W [] (fun _:Unit=> .bool (gY p l)) (fun _=>[]):=by
 (refine Shp.cn (Sg.g_ Tryz.call243 Tryz.func243) fun F=>?_;simp only[ca_,na_])
 refine o_ bu (o_ bu (bz dt .nil (fun h=>?_) (fun h=>?_)))
 ·have h2:p.length<=l.length:=Int.ofNat_le.1 h
  refine ab (ab (ab ?_))
  (try refine o_ bu ?_)
  refine ab (o_ (ny p.length rfl h2) ?_)
  refine ab (ab (o_ eo (o_ av (aR () ?_))))
  exact az
 ·have h2:l.length<p.length:=by simp at h;omega
  refine aj (aj (aj (aj (aj (aj (o_ ak ?_))))))
  have e:gY p l=false:=by
   cases hx:gY p l with
   |false=>rfl
   |true=>have:=tU hx;omega
  rw[e]
  refine aR () ?_
  exact az
theorem AJ {W:World}{l p:List UInt8}(hl:l.length<=4611686018427387904)(hp:p.length<=4611686018427387904):Cn p_ 245 [ay l,ay p] W [] (fun _:Unit=> .tuple #[ay (if gY p l then l.drop p.length else l),.bool (gY p l)]) (fun _=>[]):=by
 (refine Shp.cn (Sg.g_ Tryz.call245 Tryz.func245) fun F=>?_;simp only[ca_,na_])
 refine c_ (wY hl hp) fun _=>?_
 refine o_ fx ?_
 cases h:gY p l with
 |true=>
  have h2:=tU h
  refine af (o_ bu (o_ (jn p.length rfl h2) ?_))
  refine aR () ?_
  exact az
 |false=>
  refine ai (aR () ?_)
  exact az
theorem DX {W:World}{l p:List UInt8}(hl:l.length<=4611686018427387904)(hp:p.length<=4611686018427387904):Cn p_ 152 [ay l,ay p] W [] (fun _:Unit=> .tuple #[ay (if gY p l then l.drop p.length else l),.bool (gY p l)]) (fun _=>[]):=by
 (refine Shp.cn (Sg.g_ Tryz.call152 Tryz.func152) fun F=>?_;simp only[ca_,na_])
 refine c_ (AJ hl hp) fun _=>?_
 refine bE ?_;refine bE ?_
 refine aR () ?_
 exact az
theorem H0 {W:World}{l:List UInt8}{c:UInt8}(hl:l.length<=4611686018427387904):Cn p_ 401 [ay l,ay [c]] W [] (fun _:Unit=> .int .i64 (lB l c)) (fun _=>[]):=by
 (refine Shp.cn (Sg.g_ Tryz.call401 Tryz.func401) fun F=>?_;simp only[ca_,na_])
 refine c_ (Ax hl) fun _=>?_
 refine aR () ?_
 exact az
def cy (c:UInt8):Nat->List UInt8->List (List UInt8)
 |0,_=>[]
 |1,l=>[l]
 |n+2,l=>if fZ c l then cu c l::cy c (n+1) (bS c l)else [l]
end Go.Proofs.YtdjkdjepjahjfaaGreatDoor.FD
namespace Go.Proofs.YtdjkdjepjahjfaaGreatDoor.TP
open Go Go.Proofs Go.RowKit Sh Sl T FD
theorem eK {W:World}{e:Int}:Cn p_ 189 [.bool true,.int .i64 e] W [] (fun _:Unit=> .tuple #[]) (fun _=>[]):=by
 (refine Shp.cn (Sg.g_ Tryz.call189 Tryz.func189) fun F=>?_;simp only[ca_,na_])
 refine o_ bB (af (aR () ?_))
 exact .refl
theorem DY:∀c:UInt8,h_ .and .i64 (s6 c.toNat) 2=0↔vH c=false:=by
 have h:∀n:Nat,n<256->(decide (h_ .and .i64 (s6 n) 2=0)= !vH (UInt8.ofNat n)):=by decide+kernel
 intro c
 have:=h c.toNat c.toNat_lt
 rw[show UInt8.ofNat c.toNat=c by simp]at this
 cases hv:vH c <;> simp_all
theorem AK {W:World}{l:List UInt8}(hl:l.length<=4611686018427387904):Cn p_ 303 [ay l] W [] (fun _:Unit=> .bool (DW l)) (fun _=>[]):=by
 (refine Shp.cn (Sg.g_ Tryz.call303 Tryz.func303) fun F=>?_;simp only[ca_,na_])
 refine c_ (yp (l:=l) (bit:=2) (p:=vH) DY hl) fun _=>?_
 rw[show l.all vH=AI l from rfl]
 unfold DW
 cases hv:AI l with
 |false=>
  refine aj (aj (aj (aj (o_ ak (aR () ?_)))))
  exact az
 |true=>
  refine ab (ab (c_ (tO hl) fun _=>?_))
  refine ab (ab (o_ eo (o_ av (aR () ?_))))
  exact az
def Vv (g:Nat):Nx->Value
 | .req=> .func (.func 113) #[.pointer (some ⟨g,0,none⟩)] #[]
 | .res=> .func (.func 114) #[.pointer (some ⟨g,0,none⟩)] #[]
 | .fld=> .func (.func 187) #[.pointer (some ⟨g,0,none⟩)] #[]
def ov (g:Nat)(p:Ps)(l f:Option Addr × Nat):List Value:=[.bool true,.bool p.reply,.slice l.1 p.line.length l.2,.bool p.cr,.bool p.done,.int .i64 (p.all:Int),.int .i64 (p.empty:Int),.int .i64 0,Vv g p.nx,ay p.meth,ay p.targ,.int .i64 p.minor,.slice none 0 0,.int .i64 p.status,ay p.reason,.slice f.1 p.fs.length f.2]
def cV (g:Nat)(p:Ps):HP:=ex fun q:(Option Addr × Nat) × (Option Addr × Nat)=>all [pt g (.cells (ov g p q.1 q.2).toArray 230),Sl 1 5 q.1.1 q.1.2 p.line.length (p.line.map Sl.B),Sl 2 192 q.2.1 q.2.2 p.fs.length (p.fs.flatMap cS)]
theorem tV {W:World}{s:List UInt8}{m:Int}(h:DV s=some m)(hs:s.length<=1048576):Cn p_ 191 [ay s] W [] (fun _:Unit=> .tuple #[.int .i64 m,.bool true]) (fun _=>[]):=by
 obtain⟨d,hd,hp,hdg,rfl⟩:∃d,s.drop 7=[d]/\s.take 7=tS/\kG d=true/\m=(d.toNat:Int)-48:=by
  unfold DV at h
  split at h
  ·rename_i d hd
   split at h
   ·rename_i hc
    cases h
    exact⟨d,hd,hc.1,hc.2,rfl⟩
   ·cases h
  ·cases h
 have hdn:48<=d.toNat/\d.toNat<=57:=by
  unfold kG at hdg
  have:=of_decide_eq_true hdg
  exact⟨this.1,this.2⟩
 have hpre:gY tS s=true:=dT_ hp
 (refine Shp.cn (Sg.g_ Tryz.call191 Tryz.func191) fun F=>?_;simp only[ca_,na_])
 refine c_ (DX (l:=s) (p:=tS) (by omega) (by decide)) fun _=>?_
 rw[hpre,if_pos rfl,show s.drop tS.length=[d]from hd]
 refine bE ?_;refine bE ?_;refine o_ bB (ab (ab (o_ bu (ab (o_ oX ?_)))))
 rw[dF_ (by simp)]
 refine o_ ak (ab (ab (o_ (ew 0 rfl (by simp)) ?_)))
 rw[show Sl.B ([d]:List UInt8)[0]= .int .u8 (d.toNat:Int)from rfl]
 refine ab (o_ bD ?_)
 rw[dF_ (by omega)]
 refine o_ ak (ab (ab (o_ (ew 0 rfl (by simp)) ?_)))
 rw[show Sl.B ([d]:List UInt8)[0]= .int .u8 (d.toNat:Int)from rfl]
 refine ab (o_ eu ?_)
 rw[dF_ (by omega)]
 refine o_ ak (af (o_ (ew 0 rfl (by simp)) ?_))
 rw[show Sl.B ([d]:List UInt8)[0]= .int .u8 (d.toNat:Int)from rfl]
 refine o_ vm ?_
 rw[show IntKind.u8.wrap ((d.toNat:Int)-48)=(d.toNat:Int)-48 by simp only[IntKind.wrap,IntKind.bits,IntKind.signed];simp;omega]
 refine o_ (eN (q:= .i64)) ?_
 rw[Kb (by omega) (by omega)]
 refine aR () ?_
 exact az
theorem AL:(Value.string ⟨#[]⟩)=ay []:=rfl
theorem lT {W:World}{g:Nat}{p:Ps}{L L':List HP}{S:WP}(q:Pick L (cV g p) L')(h:∀(l f:Option Addr × Nat),aJ W (pt g (.cells (ov g p l f).toArray 230)::Sl 1 5 l.1 l.2 p.line.length (p.line.map Sl.B)::Sl 2 192 f.1 f.2 p.fs.length (p.fs.flatMap cS)::L') S):aJ W L S:=
 zX q (a8 .here fun x=>aB .here (h x.1 x.2))
theorem jw {W:World}{g:Nat}{p:Ps}{L L1 L2 L' M:List HP}{l f:Option Addr × Nat}(q:Pick L (pt g (.cells (ov g p l f).toArray 230)) L1)(q1:Pick L1 (Sl 1 5 l.1 l.2 p.line.length (p.line.map Sl.B)) L2)(q2:Pick L2 (Sl 2 192 f.1 f.2 p.fs.length (p.fs.flatMap cS)) L')(h:Imp W L' M):Imp W L (cV g p::M):=
 .ex (l,f) (.all (.pick q (.pick q1 (.pick q2 h))))
theorem H3 {W:World}{g:Nat}{p p':Ps}{s:List UInt8}(h:HZ p s=some p')(hs:s.length<=1048576):Cn p_ 187 [.pointer (some ⟨g,0,none⟩),ay s] W [cV g p] (fun _:Unit=> .tuple #[]) (fun _=>[cV g p']):=by
 unfold HZ at h
 (refine Shp.cn (Sg.g_ Tryz.call187 Tryz.func187) fun F=>?_;simp only[ca_,na_])
 rw[AL]
 refine lT (g:=g) (p:=p) .here fun l f=>?_
 unfold ov
 refine o_ eo ?_
 by_cases h0:s=[]
 ·rw[if_pos h0]at h
  cases h
  rw[dT_ h0]
  refine ai (o_ ag (o_ ae (bR ?_)))
  refine aR () ?_
  exact jw (p:={p with done:=true}) (l:=l) (f:=f) (by repeat constructor) (by repeat constructor) (by repeat constructor) .refl
 rw[if_neg h0]at h
 rw[dF_ h0]
 split at h
 rotate_left
 ·cases h
 rename_i hc
 cases h
 simp only[Bool.and_eq_true,decide_eq_true_eq]at hc
 obtain⟨⟨⟨h1,h2⟩,h3⟩,h4⟩:=hc
 have hl1:=gR (c:=58) s
 have hl2:=f6 (c:=58) s
 have htl:=o4 (bS 58 s)
 refine af (c_ (Ay (l:=s) (c:=58) (by omega)) fun _=>?_)
 refine bE ?_;refine bE ?_;refine bE ?_
 refine c_ (tO (l:=bS 58 s) (by omega)) fun _=>?_
 rw[h1]
 refine ab (ab (c_ (nC (l:=cu 58 s) (by omega)) fun _=>?_))
 rw[h2]
 refine o_ av (ab (ab (c_ (AK (l:=cK (bS 58 s)) (by omega)) fun _=>?_)))
 rw[h3]
 refine o_ av (c_ eK fun _=>?_)
 refine o_ ag (o_ ae (aH ?_));refine o_ aI (o_ bD ?_)
 rw[dT_ (by omega)]
 refine c_ eK fun _=>?_
 refine o_ ag (o_ ae (aH ?_));refine o_ bO ?_
 refine dS (n:=1) (vs:=[vF (cu 58 s,cK (bS 58 s))]) rfl (by decide) rfl (by intro v hv;rw[List.mem_singleton.1 hv];rfl) (by decide) fun gb=>?_
 refine bQ (m:=1) (news:=cS (cu 58 s,cK (bS 58 s))) (by(repeat constructor):Pick _ (Sl 2 192 f.1 f.2 p.fs.length (p.fs.flatMap cS)) _) (bL (s:=2) (e':=192) (by kernel_rfl) .here (by rfl) (by intro u hu;simp[vF,Value.cells]at hu;rcases hu with rfl|rfl <;> rfl)) (by omega) (by omega) fun a' c'=>?_
 rw[show p.fs.length+1=(p.fs++[(cu 58 s,cK (bS 58 s))]).length by simp,show p.fs.flatMap cS++cS (cu 58 s,cK (bS 58 s))=(p.fs++[(cu 58 s,cK (bS 58 s))]).flatMap cS by simp]
 refine o_ ag (o_ ae (bR ?_))
 refine aR () ?_
 exact jw (p:={p with fs:=p.fs++[(cu 58 s,cK (bS 58 s))]}) (l:=l) (f:=(a',c')) (by repeat constructor) (by repeat constructor) (by repeat constructor) az
end Go.Proofs.YtdjkdjepjahjfaaGreatDoor.TP
namespace Go.Proofs.YtdjkdjepjahjfaaGreatDoor.FD
open Go Go.Proofs Go.RowKit Sh Sl T
theorem H4 {W:World}{l:List UInt8}{c:UInt8}(hl:l.length<=4611686018427387904):Cn p_ 400 [ay l,ay [c]] W [] (fun _:Unit=> .int .i64 (l.count c:Int)) (fun _=>[]):=by
 have ext:aQ p_ W [] (bG (fn 467) [ay l,B c]) (.int .i64 (l.count c:Int)):=fun w _=>by
  have hr:(callFunc 467 #[ay l,B c]).run p_ w= .ok (.value (.int .i64 (l.count c:Int))) w:=by
   rw[run_callFunc_extern Tryz.func467 (by kernel_rfl) (by kernel_rfl) (by kernel_rfl) (e:=Extern.BytealgCount.count) (by kernel_rfl)]
   have:=Lib.run_countString (P:=p_) ⟨l.toArray⟩ (c.toNat:Int) w
   unfold ay Sl.B
   rw[this]
   simp only[Result.andThen_ok]
   rw[show(↑c.toNat:Int).toNat.toUInt8=c by simp]
   rfl
  simp[bG,Deferred.ofValue,invoke,fn,hr]
 (refine Shp.cn (Sg.g_ Tryz.call400 Tryz.func400 (an:={loops:=[(6,[0,5])]})) fun F=>?_;simp only[ca_,na_])
 refine o_ bu (o_ cH ?_)
 rw[dF_ (by simp)]
 refine af (o_ bu (o_ cH ?_))
 rw[dT_ (by simp)]
 refine ai (o_ (ew (l:=[c]) 0 rfl (by simp)) ?_)
 rw[show([c]:List UInt8)[0]'(by simp)=c from rfl]
 refine o_ ext ?_
 refine aR () ?_
 exact az
theorem lh {c:UInt8}{l:List UInt8}(h:fZ c l=false):∀ {n:Nat},0<n->cy c n l=[l]
 |1,_=>rfl
 |n+2,_=>by rw[cy,h,if_neg (by simp)]
theorem yz {c:UInt8}{l:List UInt8}:cy c 1 l=[l]:=rfl
theorem jf {c:UInt8}{l:List UInt8}{n:Nat}(h:fZ c l=true):cy c (n+2) l=cu c l::cy c (n+1) (bS c l):=by rw[cy,if_pos h]
theorem wZ {c:UInt8}:∀ {s:List UInt8},fZ c s=true->(bS c s).length<s.length:=by
 intro s h
 by_cases hm:c∈s
 ·obtain⟨_,_,h3⟩:=(jd (c:=c) (l:=s)).1 hm
  rw[<- h3,List.length_drop]
  have:0<s.length:=List.length_pos_of_mem hm
  omega
 ·rw[((jd (c:=c) (l:=s)).2 hm).1]at h
  cases h
theorem tW {W:World}{l:List UInt8}{c:UInt8}{n:Nat}{v:Int}(hn:0<n)(hl:l.length<=1048576)(hv:v=n\/v= -1/\l.count c+1=n):Cn p_ 304 [ay l,ay [c],.int .i64 0,.int .i64 v] W [] (fun r:Option Addr × Nat=> .slice r.1 (cy c n l).length r.2) (fun r=>[Sl 1 9 r.1 r.2 (cy c n l).length ((cy c n l).map ay)]):=by
 obtain⟨N,hN,hN0,hNn,hNl⟩:∃N:Nat,(if(l.length:Int)+1<(n:Int)then(l.length:Int)+1 else(n:Int))=(N:Int)/\0<N/\N<=n/\(N=n\/N=l.length+1)/\N<=l.length+1:=by
  by_cases h:(l.length:Int)+1<(n:Int)
  ·exact⟨l.length+1,by rw[if_pos h];omega,by omega,by omega,.inr rfl,by omega⟩
  ·exact⟨n,by rw[if_neg h],hn,Nat.le_refl _,.inl rfl,by omega⟩
 (refine Shp.cn (Sg.g_ Tryz.call304 Tryz.func304 (an:={cuts:=[(7,[3]),(17,[0,10])],loops:=[(11,[0,10])]})) fun F=>?_;simp only[ca_,na_])
 refine o_ cH ?_
 rw[dF_ (by rcases hv with hv|⟨hv,hc⟩ <;> omega)]
 refine af (o_ (eo (m:=[])) ?_)
 rw[dF_ (by simp)]
 refine af (dK (fun x=>pu (x= .int .i64 (n:Int))::F) ?_ ?_)
 rotate_left
 ·refine o_ bD ?_
  rcases hv with hv|⟨hv,hc⟩
  ·rw[dF_ (by omega),hv]
   refine af (aN (.pu rfl ?_))
   exact az
  ·rw[dT_ (by omega)]
   refine ai (c_ (H4 (by omega)) fun _=>?_)
   have hcl:=List.count_le_length (a:=c) (l:=l)
   refine bP ?_
   refine aN (.pu ?_ ?_)
   ·rw[<- hc];rfl
   exact az
 intro ds z3
 refine aT .here fun hz=>?_
 subst hz
 refine o_ bu (bP ?_)
 refine o_ qH ?_
 rw[hN]
 refine HM N N rfl rfl (Nat.le_refl _) (by omega) (by unfold maxLen;omega) fun g=>?_
 refine rZ ?_
 refine fJ (fun x y=>(ex fun st:List UInt8 × List (List UInt8)=>all [pu (x=ay st.1/\y= .int .i64 (st.2.length:Int)/\st.2.length<N/\cy c n l=st.2++[st.1]),Sl 1 9 (some ⟨g,0,none⟩) N N (st.2.map ay++List.replicate (N-st.2.length) (ay []))])::F) ?_ ?_
 rotate_left
 ·refine cp (fun m x y=>(ex fun st:List UInt8 × List (List UInt8)=>all [pu (m+st.2.length=N/\x=ay st.1/\y= .int .i64 (st.2.length:Int)/\st.2.length<N/\cy c n l=st.2++cy c (n-st.2.length) st.1/\st.1.length+st.2.length<=l.length),Sl 1 9 (some ⟨g,0,none⟩) N N (st.2.map ay++List.replicate (N-st.2.length) (ay []))])::F) N ?_ ?_
  ·refine .ex (l,[]) (.all ?_)
   refine am ?_
   refine .pu ⟨rfl,rfl,rfl,hN0,by simp,by simp⟩ ?_
   exact az
  intro m ds x y
  refine a8 .here fun st=>aB .here ?_
  obtain⟨r,out⟩:=st
  refine am ?_
  refine aT .here fun hi=>?_
  (try dsimp only at hi)
  obtain⟨hm,rfl,rfl,hlt,hp,hle⟩:=hi
  (try dsimp only)
  refine o_ bD ?_
  by_cases hc1:out.length=N-1
  ·rw[dF_ (by omega)]
   refine af (aN (.ex (r,out) (.all ?_)))
   refine am ?_
   refine .pu ⟨rfl,rfl,hlt,?_⟩ az
   rw[hp]
   congr 1
   rcases hNl.1 with h|h
   ·rw[show n-out.length=1 by omega];rfl
   ·have:r=[]:=List.eq_nil_of_length_eq_zero (by omega)
    subst this
    exact lh rfl (by omega)
  rw[dT_ (by omega)]
  refine ai (c_ (H0 (l:=r) (c:=c) (by omega)) fun _=>?_)
  obtain⟨k1,k2⟩:=jd (c:=c) (l:=r)
  refine bz bD .nil (fun h=>?_) (fun h=>?_)
  ·have hmm:c∉r:=fun d=>by have:=eO.2 d;omega
   refine ai (aN (.ex (r,out) (.all ?_)))
   refine am ?_
   refine .pu ⟨rfl,rfl,hlt,?_⟩ az
   rw[hp,lh (k2 hmm).1 (by omega)]
  ·have hmm:c∈r:=eO.1 (by omega)
   obtain⟨q0,q1,q2⟩:=k1 hmm
   have hix:lB r c=((r.findIdx (· ==c):Nat):Int):=by unfold lB;rw[if_pos hmm]
   have hfl:r.findIdx (· ==c)<r.length:=List.findIdx_lt_length_of_exists ⟨c,hmm,by simp⟩
   rw[hix]
   refine af (bP ?_)
   refine o_ (ny (r.findIdx (· ==c)) (by omega) (by omega)) ?_
   refine o_ (bq out.length rfl hlt) ?_
   refine d7 (by repeat constructor) (by simp;omega) ?_
   refine o_ bu ?_
   rw[show(([c].length:Nat):Int)=1 from rfl]
   refine bP ?_
   refine o_ (jn (r.findIdx (· ==c)+1) (by norm_cast) (by omega)) ?_
   refine bP ?_
   rw[q1,q2]
   have hset:(out.map ay++List.replicate (N-out.length) (ay [])).set (0+out.length) (ay (cu c r))=(out++[cu c r]).map ay++List.replicate (N-(out++[cu c r]).length) (ay []):=by
    rw[List.set_append_right _ _ (by simp),show N-out.length=(N-(out++[cu c r]).length)+1 by simp;omega,List.replicate_succ]
    simp
   rw[hset]
   have hBl:=wZ q0
   refine bI (m-1) (by omega) (.ex (bS c r,out++[cu c r]) (.all ?_))
   refine am ?_
   refine .pu ⟨by simp;omega,rfl,by simp,by simp;omega,?_,by simp;omega⟩ az
   rw[hp]
   obtain⟨q,hq⟩:∃q,n-out.length=q+2:=⟨n-out.length-2,by omega⟩
   rw[hq,jf q0,List.append_assoc]
   rw[show n-(out++[cu c r]).length=q+1 by simp;omega]
   rfl
 intro ds z0 z10
 refine a8 .here fun st=>aB .here ?_
 obtain⟨r,out⟩:=st
 refine am ?_
 refine aT .here fun hi=>?_
 (try dsimp only at hi)
 obtain⟨rfl,rfl,hlt,hp⟩:=hi
 (try dsimp only)
 refine o_ (bq out.length rfl hlt) ?_
 refine d7 (by repeat constructor) (by simp;omega) ?_
 refine bP ?_
 have hset:(out.map ay++List.replicate (N-out.length) (ay [])).set (0+out.length) (ay r)=(out++[r]).map ay++List.replicate (N-(out++[r]).length) (ay []):=by
  rw[List.set_append_right _ _ (by simp),show N-out.length=(N-(out++[r]).length)+1 by simp;omega,List.replicate_succ]
  simp
 rw[hset]
 refine o_ (mD (out.length+1) (by simp) (by omega)) ?_
 refine i9 (m:=out.length+1) (by repeat constructor) (by omega) ?_
 rw[hp,show((out++[r]).map ay++List.replicate (N-(out++[r]).length) (ay [])).take ((out.length+1) * 1)=(out++[r]).map ay by rw[List.take_append_of_le_length (by simp),List.take_of_length_le (by simp)],show out.length+1=(out++[r]).length by simp]
 refine aR ((some ⟨g,0,none⟩,N)) ?_
 exact az
theorem vI {W:World}{l:List UInt8}{c:UInt8}{n:Nat}(hn:0<n)(hl:l.length<=1048576):Cn p_ 188 [ay l,ay [c],.int .i64 (n:Int)] W [] (fun r:Option Addr × Nat=> .slice r.1 (cy c n l).length r.2) (fun r=>[Sl 1 9 r.1 r.2 (cy c n l).length ((cy c n l).map ay)]):=by
 (refine Shp.cn (Sg.g_ Tryz.call188 Tryz.func188) fun F=>?_;simp only[ca_,na_])
 refine' ah (tW (l:=l) (c:=c) (n:=n) hn hl (.inl rfl)) ?hp fun r=>?_
 case hp=>(repeat(first|exact Picks.nil|(apply Picks.cons;(focus repeat constructor))))
 refine am ?_
 refine aR r ?_
 exact az
theorem H5 {W:World}{l:List UInt8}{c:UInt8}{n:Nat}(hl:l.length<=1048576)(hn:l.count c+1=n):Cn p_ 252 [ay l,ay [c]] W [] (fun r:Option Addr × Nat=> .slice r.1 (cy c n l).length r.2) (fun r=>[Sl 1 9 r.1 r.2 (cy c n l).length ((cy c n l).map ay)]):=by
 (refine Shp.cn (Sg.g_ Tryz.call252 Tryz.func252) fun F=>?_;simp only[ca_,na_])
 refine' ah (tW (l:=l) (c:=c) (n:=n) (by omega) hl (.inr ⟨rfl,hn⟩)) ?hp fun r=>?_
 case hp=>(repeat(first|exact Picks.nil|(apply Picks.cons;(focus repeat constructor))))
 refine am ?_
 refine aR r ?_
 exact az
end Go.Proofs.YtdjkdjepjahjfaaGreatDoor.FD
namespace Go.Proofs.YtdjkdjepjahjfaaGreatDoor.Sl
open Go Go.RowKit Sh
variable {P:Program} {W:World} {t:TypeId} {ox oy:Operand} {q:IntKind} {a b:Int} {l m:List UInt8}
theorem bY (h:a<b):aQ P W [] (a_ .lss t (.int q a) (.int q b)) (.bool true):=dT_ h▸bD
theorem bF (h:¬a<b):aQ P W [] (a_ .lss t (.int q a) (.int q b)) (.bool false):=dF_ h▸bD
theorem f7 (h:a<=b):aQ P W [] (a_ .leq t (.int q a) (.int q b)) (.bool true):=dT_ h▸iF
theorem tX (h:¬a<=b):aQ P W [] (a_ .leq t (.int q a) (.int q b)) (.bool false):=dF_ h▸iF
theorem gi (h:b<a):aQ P W [] (a_ .gtr t (.int q a) (.int q b)) (.bool true):=dT_ h▸eu
theorem cf (h:¬b<a):aQ P W [] (a_ .gtr t (.int q a) (.int q b)) (.bool false):=dF_ h▸eu
theorem iP (h:b<=a):aQ P W [] (a_ .geq t (.int q a) (.int q b)) (.bool true):=dT_ h▸dt
theorem eS (h:¬b<=a):aQ P W [] (a_ .geq t (.int q a) (.int q b)) (.bool false):=dF_ h▸dt
theorem ce (h:a=b):aQ P W [] (dY .eql t ox oy (.int q a) (.int q b)) (.bool true):=dT_ h▸cH
theorem bA (h:¬a=b):aQ P W [] (dY .eql t ox oy (.int q a) (.int q b)) (.bool false):=dF_ h▸cH
theorem eI (h:a≠b):aQ P W [] (dY .neq t ox oy (.int q a) (.int q b)) (.bool true):=dT_ h▸oX
theorem cq (h:¬a≠b):aQ P W [] (dY .neq t ox oy (.int q a) (.int q b)) (.bool false):=dF_ h▸oX
theorem jq (h:l=m):aQ P W [] (dY .eql t ox oy (ay l) (ay m)) (.bool true):=dT_ h▸eo
theorem fB (h:¬l=m):aQ P W [] (dY .eql t ox oy (ay l) (ay m)) (.bool false):=dF_ h▸eo
theorem Gh (h:l≠m):aQ P W [] (dY .neq t ox oy (ay l) (ay m)) (.bool true):=dT_ h▸ep
theorem qT (h:¬l≠m):aQ P W [] (dY .neq t ox oy (ay l) (ay m)) (.bool false):=dF_ h▸ep
end Go.Proofs.YtdjkdjepjahjfaaGreatDoor.Sl
namespace Go.Proofs.YtdjkdjepjahjfaaGreatDoor.TP
open Go Go.Proofs Go.RowKit Sh Sl T FD
theorem AM {c:UInt8}{l:List UInt8}(h1:fZ c l=true)(h2:fZ c (bS c l)=true):cy c 3 l=[cu c l,cu c (bS c l),bS c (bS c l)]:=by
 rw[jf h1,jf h2,yz]
theorem w4 {W:World}{s:List UInt8}(hs:s.length<=4611686018427387904):Cn p_ 190 [ay s] W [] (fun _:Unit=> .bool (nP s)) (fun _=>[]):=by
 (refine Shp.cn (Sg.g_ Tryz.call190 Tryz.func190 (an:={loops:=[(2,[8])]})) fun F=>?_;simp only[ca_,na_])
 refine o3 Tryz.underlying35 Tryz.underlying5 fun b c rest fz=>?_
 refine o_ aI (aY (fun m y=>[ex fun i:Nat=>all [pu (m+i=s.length/\y= .int .i64 (i:Int)/\(s.take i).all vG=true),pt b (.cells (s.map B++rest).toArray 5 fz)]]++F) s.length ?_ ?_)
 ·refine Imp.ex 0 (.all ?_)
  refine am ?_
  exact .pu ⟨by omega,rfl,rfl⟩ .refl
 intro m ds y
 refine am ?_
 refine a8 Pick.here fun i=>aB Pick.here ?_
 refine am ?_
 refine aT .here fun hi=>?_
 obtain⟨hm,rfl,hal⟩:=hi
 refine o_ bD ?_
 by_cases hlt:i<s.length
 ·rw[dT_ (by omega)]
  have hv:(s.map B)[i]? =some (.int .u8 (s[i].toNat:Int)):=by simp[hlt,B]
  have hcn:=s[i].toNat_lt
  refine ai (o_ (bq i rfl hlt) ?_)
  refine aE (dv (vt (cs:=s.map B)) hv) az ?_
  have hstep:(s.take (i+1)).all vG=((s.take i).all vG&&vG s[i]):=by
   rw[List.take_succ_eq_append_getElem hlt,List.all_append];simp
  by_cases hb:vG s[i]=true
  ·have hb':=of_decide_eq_true hb
   have h1:32<s[i].toNat:=by have:=UInt8.lt_iff_toNat_lt.1 hb'.1;simpa using this
   have h2:s[i].toNat<127:=by have:=UInt8.lt_iff_toNat_lt.1 hb'.2;simpa using this
   (((refine o_ (Sl.tX ?hcq) ?_);(case hcq=>(first|omega|(simp only[List.length_nil,List.length_cons];omega)))));refine ab ?_;refine ab ?_;(((refine o_ (Sl.eS ?hcq) ?_);(case hcq=>(first|omega|(simp only[List.length_nil,List.length_cons];omega)))));refine o_ ak ?_;refine af ?_;refine bP ?_
   refine aZ (m-1) ?_ ?_
   ·omega
   refine am ?_
   refine .ex (i+1) (.all ?_)
   refine am ?_
   refine .pu ?_ .refl
   exact⟨by omega,by simp,by rw[hstep,hal,hb];rfl⟩
  ·have hb2:vG s[i]=false:=by simpa using hb
   have hn:s[i].toNat<=32\/127<=s[i].toNat:=by
    have:=of_decide_eq_false hb2
    rw[UInt8.lt_iff_toNat_lt,UInt8.lt_iff_toNat_lt]at this
    simp at this
    omega
   have hF:nP s=false:=by
    unfold nP
    rw[Bool.and_eq_false_iff]
    left
    rw[List.all_eq_false]
    exact⟨s[i],List.getElem_mem hlt,by simp[hb2]⟩
   rw[hF]
   by_cases h1:s[i].toNat<=32
   ·(((refine o_ (Sl.f7 ?hcq) ?_);(case hcq=>(first|omega|(simp only[List.length_nil,List.length_cons];omega)))));refine aC ?_;refine aC ?_;refine o_ av ?_;refine ai ?_
    refine aR () ?_
    exact az
   ·(((refine o_ (Sl.tX ?hcq) ?_);(case hcq=>(first|omega|(simp only[List.length_nil,List.length_cons];omega)))));refine ab ?_;refine ab ?_;(((refine o_ (Sl.iP ?hcq) ?_);(case hcq=>(first|omega|(simp only[List.length_nil,List.length_cons];omega)))));refine o_ ak ?_;refine ai ?_
    refine aR () ?_
    exact az
 ·rw[dF_ (by omega)]
  rw[List.take_of_length_le (by omega)]at hal
  refine af (o_ (ep (m:=[])) ?_)
  unfold nP
  rw[hal,show decide (s≠[])=nb s by unfold nb;cases s <;> simp]
  refine aR () ?_
  exact az
theorem AN {W:World}{g:Nat}{p p':Ps}{s:List UInt8}(h:HX p s=some p')(hs:s.length<=1048576):Cn p_ 113 [.pointer (some ⟨g,0,none⟩),ay s] W [cV g p] (fun _:Unit=> .tuple #[]) (fun _=>[cV g p']):=by
 unfold HX at h
 (refine Shp.cn (Sg.g_ Tryz.call113 Tryz.func113 (an:={drs:=[(7,.ofL [(0,1),(1,1),(2,1),(3,1),(4,1),(5,1),(6,1),(7,1),(8,1),(9,1),(10,1),(11,0)])]})) fun F=>?_;simp only[ca_,na_])
 rw[AL]
 refine lT (g:=g) (p:=p) .here fun l f=>?_
 unfold ov
 by_cases h0:s=[]/\p.empty<4
 ·rw[if_pos h0]at h
  cases h
  obtain⟨rfl,h4⟩:=h0
  (((refine' aE (Sl.jq ?hcq) .nil ?_);(case hcq=>(first|rfl|assumption))));refine ab ?_;refine ab ?_;refine o_ ag ?_;refine ab ?_;refine o_ ae ?_;refine ab ?_;refine aH ?_;refine ab ?_;(((refine o_ (Sl.bY ?hcq) ?_);(case hcq=>(first|omega|(simp only[List.length_nil,List.length_cons];omega)))));refine o_ av ?_;refine ai ?_;refine o_ ag ?_;refine o_ ae ?_;refine aH ?_;refine bP ?_;refine o_ ag ?_;refine o_ ae ?_;refine bR ?_
  refine aR () ?_
  exact jw (p:={p with empty:=p.empty+1}) (l:=l) (f:=f) (by repeat constructor) (by repeat constructor) (by repeat constructor) .refl
 rw[if_neg h0]at h
 simp only at h
 split at h
 rotate_left
 ·cases h
 rename_i hc
 simp only[Bool.and_eq_true,decide_eq_true_eq]at hc
 obtain⟨⟨⟨⟨h1,h2⟩,h3⟩,h4⟩,h5⟩:=hc
 split at h
 rotate_left
 ·cases h
 rename_i m hm
 cases h
 have hl1:=gR (c:=32) s
 have hl2:=f6 (c:=32) s
 have hl3:=gR (c:=32) (bS 32 s)
 have hl4:=f6 (c:=32) (bS 32 s)
 have hs0:¬s=[]:=fun e=>by rw[e]at h1;cases h1
 (((refine' aE (Sl.fB ?hcq) .nil ?_);(case hcq=>(first|assumption|simp_all;done))));refine aj ?_;refine aj ?_;refine aj ?_;refine aj ?_;refine aj ?_;refine o_ ak ?_;refine af ?_;refine o_ bC ?_;refine o_ ag ?_;refine o_ ae ?_;refine bR ?_
 refine' ah (vI (l:=s) (c:=32) (n:=3) (by decide) hs) ?hp fun r=>?_
 case hp=>(repeat(first|exact Picks.nil|(apply Picks.cons;(focus repeat constructor))))
 rw[AM h1 h2]
 obtain⟨ra,rc⟩:=r
 refine am ?_
 refine a9 .here (by simp) fun gr hgr=>?_
 (try dsimp only at hgr)
 subst hgr
 simp only[List.map_cons,List.map_nil,List.length_cons,List.length_nil,Nat.zero_add]
 refine o_ aI ?_;(((refine o_ (Sl.ce ?hcq) ?_);(case hcq=>(first|omega|(simp only[List.length_nil,List.length_cons];omega)))));refine ab (ab ?_);(((refine' aE (bq 0 rfl ?hcq) .nil ?_);(case hcq=>(first|omega|decide|(simp;done)))));refine ab ?_;(((refine' aE (bw ?hc) ?hi ?_);(case hi=>exact az);(case hc=>rfl)));refine ab (o_ bu (ab ?_));(((refine o_ (Sl.f7 ?hcq) ?_);(case hcq=>(first|omega|(simp only[List.length_nil,List.length_cons];omega)))));refine o_ av (ab (ab ?_));(((refine' aE (bq 0 rfl ?hcq) .nil ?_);(case hcq=>(first|omega|decide|(simp;done)))));refine ab ?_;(((refine' aE (bw ?hc) ?hi ?_);(case hi=>exact az);(case hc=>rfl)));refine ab (c_ (nC (l:=cu 32 s) (by omega)) fun _=>?_)
 rw[h4]
 refine o_ av (ab (ab ?_));(((refine' aE (bq 1 rfl ?hcq) .nil ?_);(case hcq=>(first|omega|decide|(simp;done)))));refine ab ?_;(((refine' aE (bw ?hc) ?hi ?_);(case hi=>exact az);(case hc=>rfl)));refine ab (c_ (w4 (s:=cu 32 (bS 32 s)) (by omega)) fun _=>?_)
 rw[h5]
 refine o_ av (c_ eK fun _=>?_)
 (((refine' aE (bq 2 rfl ?hcq) .nil ?_);(case hcq=>(first|omega|decide|(simp;done)))));(((refine' aE (bw ?hc) ?hi ?_);(case hi=>exact az);(case hc=>rfl)))
 refine c_ (tV hm (by omega)) fun _=>?_
 refine bE ?_;refine bE ?_
 refine c_ eK fun _=>?_
 refine aW ?_;(((refine' be (bq 0 rfl ?hcq) .nil ?_);(case hcq=>(first|omega|decide|(simp;done)))));(((refine' be (bw ?hc) ?hi ?_);(case hi=>exact az);(case hc=>rfl)));(((refine' be (bq 1 rfl ?hcq) .nil ?_);(case hcq=>(first|omega|decide|(simp;done)))));(((refine' be (bw ?hc) ?hi ?_);(case hi=>exact az);(case hc=>rfl)));refine t_ bO ?_;refine t_ ag (t_ ae (pf (by repeat constructor) (n:=4) (vs:=[ay (cu 32 s),ay (cu 32 (bS 32 s)),.int .i64 m,.slice none 0 0]) rfl (by simp) (by simp[Value.oneCell',ay]) rfl ?_))
 refine aR () ?_
 exact jw (p:={p with nx:= .fld,meth:=cu 32 s,targ:=cu 32 (bS 32 s),minor:=m}) (l:=l) (f:=f) (by repeat constructor) (by repeat constructor) (by repeat constructor) az
theorem yA {W:World}[hG:Gl W]{g:Nat}{p p':Ps}{s:List UInt8}(h:HY p s=some p')(hs:s.length<=1048576):Cn p_ 114 [.pointer (some ⟨g,0,none⟩),ay s] W [cV g p] (fun _:Unit=> .tuple #[]) (fun _=>[cV g p']):=by
 unfold HY at h
 (refine Shp.cn (Sg.g_ Tryz.call114 Tryz.func114) fun F=>?_;simp only[ca_,na_])
 refine lT (g:=g) (p:=p) .here fun l f=>?_
 unfold ov
 simp only at h
 split at h
 rotate_left
 ·cases h
 rename_i hc
 simp only[Bool.and_eq_true,decide_eq_true_eq]at hc
 obtain⟨⟨h1,h2⟩,h3⟩:=hc
 split at h
 rotate_left
 ·cases h
 rename_i m hm
 split at h
 rotate_left
 ·cases h
 rename_i hd
 obtain⟨hd1,hd2,hd3⟩:=hd
 cases h
 have hl1:=gR (c:=32) s
 have hl2:=f6 (c:=32) s
 have hl3:=gR (c:=32) (bS 32 s)
 have hl4:=f6 (c:=32) (bS 32 s)
 refine o_ bC (o_ ag (o_ ae (bR ?_)))
 refine' ah (vI (l:=s) (c:=32) (n:=3) (by decide) hs) ?hp fun r=>?_
 case hp=>(repeat(first|exact Picks.nil|(apply Picks.cons;(focus repeat constructor))))
 rw[AM h1 h2]
 obtain⟨ra,rc⟩:=r
 refine am ?_
 refine a9 .here (by simp) fun gr hgr=>?_
 (try dsimp only at hgr)
 subst hgr
 simp only[List.map_cons,List.map_nil,List.length_cons,List.length_nil,Nat.zero_add]
 refine o_ aI ?_;(((refine o_ (Sl.ce ?hcq) ?_);(case hcq=>(first|omega|(simp only[List.length_nil,List.length_cons];omega)))));refine ab (ab ?_);(((refine' aE (bq 1 rfl ?hcq) .nil ?_);(case hcq=>(first|omega|decide|(simp;done)))));refine ab ?_;(((refine' aE (bw ?hc) ?hi ?_);(case hi=>exact az);(case hc=>rfl)));refine ab (o_ bu (ab ?_));(((refine o_ (Sl.ce ?hcq) ?_);(case hcq=>(first|omega|(simp only[List.length_nil,List.length_cons];omega)))));refine o_ av (c_ eK fun _=>?_)
 (((refine' aE (bq 0 rfl ?hcq) .nil ?_);(case hcq=>(first|omega|decide|(simp;done)))));(((refine' aE (bw ?hc) ?hi ?_);(case hi=>exact az);(case hc=>rfl)))
 refine c_ (tV hm (by omega)) fun _=>?_
 refine bE ?_;refine bE ?_;(((refine' aE (bq 1 rfl ?hcq) .nil ?_);(case hcq=>(first|omega|decide|(simp;done)))));(((refine' aE (bw ?hc) ?hi ?_);(case hi=>exact az);(case hc=>rfl)))
 refine c_ (lS (l:=cu 32 (bS 32 s)) (by omega)) fun _=>?_
 refine bE ?_;refine bE ?_;refine ab (ab ?_);(((refine o_ (Sl.ce ?hcq) ?_);(case hcq=>(first|omega|(simp only[List.length_nil,List.length_cons];omega)))));refine o_ av (ab (ab ?_));(((refine o_ (Sl.iP ?hcq) ?_);(case hcq=>(first|omega|(simp only[List.length_nil,List.length_cons];omega)))));refine o_ av (ab (ab ?_));(((refine o_ (Sl.f7 ?hcq) ?_);(case hcq=>(first|omega|(simp only[List.length_nil,List.length_cons];omega)))));refine o_ av (c_ eK fun _=>?_)
 (((refine' aE (bq 2 rfl ?hcq) .nil ?_);(case hcq=>(first|omega|decide|(simp;done)))));(((refine' aE (bw ?hc) ?hi ?_);(case hi=>exact az);(case hc=>rfl)));refine o_ ag ?_;refine o_ ae ?_;refine o_ dm ?_;refine bR ?_;refine o_ ag ?_;refine o_ ae ?_;refine bR ?_;refine o_ ag ?_;refine o_ ae ?_;refine bR ?_
 refine aR () ?_
 exact jw (p:={p with nx:= .fld,minor:=m,status:=(dh (cu 32 (bS 32 s))).1,reason:=bS 32 (bS 32 s)}) (l:=l) (f:=f) (by repeat constructor) (by repeat constructor) (by repeat constructor) az
end Go.Proofs.YtdjkdjepjahjfaaGreatDoor.TP
namespace Go.Proofs.YtdjkdjepjahjfaaGreatDoor.Sl
open Go Go.RowKit Sh
theorem Gi {W:World} {L L':List HP} {s:Nat} {e:TypeId} {a:Option Addr} {cap n:Nat} {cs:List Value} {S:WP} (p:Pick L (Sl s e a cap n cs) L')
  (h:((a=none/\cap=0)\/∃g,a=some ⟨g,0,none⟩)->aJ W L S):aJ W L S:=fun w hw=>by
 obtain⟨f,⟨h1,h2,h3,h4⟩,_⟩:=(hw.pick p).fst
 exact h (h4.imp id fun⟨g,_,hg,_⟩=>⟨g,hg⟩) w hw
theorem AO {a:Option Addr}{cap:Nat}(h:(a=none/\cap=0)\/∃g,a=some ⟨g,0,none⟩):(if cap=0 then a else a.map (·.add (0 * 1)))=a:=by
 rcases h with ⟨rfl,rfl⟩|⟨g,rfl⟩
 ·rfl
 ·split <;> rfl
theorem sq {P:Program}{W:World}{s t e:TypeId}{a:Option Addr}{cap n:Nat}{l:List UInt8}[hs:BytesT P s][ht:StrT P t]:aQ P W [Sl 1 e a cap n (l.map B)] (ei s t (.slice a n cap)) (ay l):=fun w hw=>by
 obtain⟨f,⟨h1,h2,h3,h4⟩,_⟩:=hw.fst
 refine tA (gO (by omega) fun hn=>?_) (fun ha=>?_) w hw
 ·rcases h4 with ⟨rfl,h0⟩|⟨g,_,hg,_⟩
  ·omega
  ·exact⟨g,hg⟩
 ·rcases h4 with ⟨rfl,h0⟩|⟨g,_,hg,_⟩
  ·omega
  ·rw[ha]at hg;cases hg
end Go.Proofs.YtdjkdjepjahjfaaGreatDoor.Sl
namespace Go.Proofs.YtdjkdjepjahjfaaGreatDoor.TP
open Go Go.Proofs Go.RowKit Sh Sl T FD
theorem Pf {W:World}[hG:Gl W]{g:Nat}{p p':Ps}{s:List UInt8}(h:Um p s=some p')(hs:s.length<=1048576){L F:List HP}{k:Value->WP}(q:Picks L [cV g p] F)(hk:aJ W ([cV g p']++F) (k (.tuple #[]))):aJ W L (opN p_ (bG (Vv g p.nx) [ay s]) wD k):=by
 unfold Um at h
 cases hn:p.nx with
 |req=>rw[hn]at h;exact dW (cap:=[]) (AN h hs) q fun _=>hk
 |res=>rw[hn]at h;exact dW (cap:=[]) (yA h hs) q fun _=>hk
 |fld=>rw[hn]at h;exact dW (cap:=[]) (H3 h hs) q fun _=>hk
theorem Gj {W:World}[hG:Gl W]{g:Nat}{p p':Ps}{c:UInt8}(h:sj p c=some p'):Cn p_ 116 [.pointer (some ⟨g,0,none⟩),.int .u8 (c.toNat:Int)] W [cV g p] (fun _:Unit=> .tuple #[]) (fun _=>[cV g p']):=by
 unfold sj at h
 have hcn:=c.toNat_lt
 (refine Shp.cn (Sg.g_ Tryz.call116 Tryz.func116) fun F=>?_;simp only[ca_,na_])
 refine lT (g:=g) (p:=p) .here fun l f=>?_
 unfold ov
 refine Gi (a:=l.1) (by repeat constructor) fun hla=>?_
 by_cases ha:32768<=p.all\/8192<p.line.length
 ·rw[if_pos ha]at h;cases h
 rw[if_neg ha]at h
 refine o_ ag (o_ ae (aH ?_));refine bP ?_;refine o_ ag (o_ ae (bR ?_));refine o_ ag (o_ ae (aH ?_));(((refine o_ (Sl.f7 ?hcq) ?_);(case hcq=>(first|omega|(simp only[List.length_nil,List.length_cons];omega)))))
 refine c_ eK fun _=>?_
 refine o_ ag (o_ ae (aH ?_))
 cases hcr:p.cr with
 |true=>
  rw[if_pos hcr]at h
  by_cases hc:c=10
  ·rw[if_pos hc]at h
   have hc':c.toNat=10:=by rw[hc];rfl
   refine ai (o_ ag (o_ ae (bR ?_)));(((refine o_ (Sl.ce ?hcq) ?_);(case hcq=>(first|omega|(simp only[List.length_nil,List.length_cons];omega)))))
   refine c_ eK fun _=>?_
   refine o_ ag (o_ ae (aH ?_))
   refine aE sq az ?_
   refine o_ ag (o_ ae (aH ?_))
   refine o_ (wI 0 rfl (by omega)) ?_
   rw[AO hla]
   refine i9 (m:=0) (by(repeat constructor):Pick _ (Sl 1 5 l.1 l.2 p.line.length (p.line.map Sl.B)) _) (by omega) ?_
   refine o_ ag (o_ ae (bR ?_));refine o_ ag (o_ ae (aH ?_))
   refine bf (jw (p:={p with all:=p.all+1,cr:=false,line:=[]}) (l:=l) (f:=f) (by repeat constructor) (by repeat constructor) (by repeat constructor) .refl) ?_
   refine Pf h (by omega) (by(repeat(first|exact Picks.nil|(apply Picks.cons;(focus repeat constructor))))) ?_
   refine aR () ?_
   exact az
  ·rw[if_neg hc]at h;cases h
 |false=>
  rw[if_neg (by rw[hcr];simp)]at h
  by_cases hc:c=13
  ·rw[if_pos hc]at h
   have hc':c.toNat=13:=by rw[hc];rfl
   cases h
   refine af ?_;(((refine o_ (Sl.ce ?hcq) ?_);(case hcq=>(first|omega|(simp only[List.length_nil,List.length_cons];omega)))));refine ai (o_ ag (o_ ae (bR ?_)))
   refine aR () ?_
   exact jw (p:={p with all:=p.all+1,cr:=true}) (l:=l) (f:=f) (by repeat constructor) (by repeat constructor) (by repeat constructor) .refl
  ·rw[if_neg hc]at h
   have hc':¬(c.toNat:Int)=13:=fun e=>hc (UInt8.toNat_inj.1 (by show c.toNat=13;omega))
   split at h
   rotate_left
   ·cases h
   rename_i hv
   simp only[Bool.and_eq_true,decide_eq_true_eq]at hv
   obtain⟨hv,hll⟩:=hv
   obtain rfl:({p with cr:=false,all:=p.all+1,line:=p.line++[c]}:Ps)=p':=by rw[<- Option.some.inj h];simp[hcr]
   have hv':c.toNat=9\/(32<=c.toNat/\c.toNat≠127):=by
    rcases of_decide_eq_true hv with h|⟨h,h2⟩
    ·left;rw[h];rfl
    ·right;exact⟨by have:=UInt8.le_iff_toNat_le.1 h;simpa using this,fun e=>h2 (UInt8.toNat_inj.1 (by show c.toNat=127;omega))⟩
   rcases hv' with h9|⟨h1,h2⟩
   all_goals
    (first|((refine af ?_);(((refine o_ (Sl.bA ?hcq) ?_);(case hcq=>(first|omega|(simp only[List.length_nil,List.length_cons];omega)))));refine af ?_;(((refine o_ (Sl.ce ?hcq) ?_);(case hcq=>(first|omega|(simp only[List.length_nil,List.length_cons];omega)))));refine aC ?_;refine aC ?_;refine aC ?_;refine bT ?_;refine bT ?_;refine aC ?_;(refine o_ av ?_))|((refine af ?_);(((refine o_ (Sl.bA ?hcq) ?_);(case hcq=>(first|omega|(simp only[List.length_nil,List.length_cons];omega)))));refine af ?_;(((refine o_ (Sl.bA ?hcq) ?_);(case hcq=>(first|omega|(simp only[List.length_nil,List.length_cons];omega)))));refine ab ?_;refine ab ?_;(((refine o_ (Sl.iP ?hcq) ?_);(case hcq=>(first|omega|(simp only[List.length_nil,List.length_cons];omega)))));refine ab ?_;refine ab ?_;refine ab ?_;(((refine o_ (Sl.eI ?hcq) ?_);(case hcq=>(first|omega|(simp only[List.length_nil,List.length_cons];omega)))));refine ab ?_;refine o_ av ?_;(refine o_ ak ?_)))
    refine c_ eK fun _=>?_
    refine o_ ag (o_ ae (aH ?_));refine o_ aI ?_;(((refine o_ (Sl.bY ?hcq) ?_);(case hcq=>(first|omega|(simp only[List.length_nil,List.length_cons];omega)))))
    refine c_ eK fun _=>?_
    refine o_ ag (o_ ae (aH ?_));refine cI fun g=>?_
    refine bQ (m:=1) (news:=[.int .u8 (c.toNat:Int)]) (by(repeat constructor):Pick _ (Sl 1 5 l.1 l.2 p.line.length (p.line.map Sl.B)) _) (bL (s:=1) (e':=5) (by kernel_rfl) .here (by rfl) (by intro u hu;rw[List.mem_singleton.1 hu];rfl)) (by omega) (by omega) fun a' c'=>?_
    rw[show p.line.length+1=(p.line++[c]).length by simp,show p.line.map Sl.B++[.int .u8 (c.toNat:Int)]=(p.line++[c]).map Sl.B by simp[Sl.B]]
    refine o_ ag (o_ ae (bR ?_))
    refine aR () ?_
    exact jw (p:={p with cr:=false,all:=p.all+1,line:=p.line++[c]}) (l:=(a',c')) (f:=f) (by repeat constructor) (by repeat constructor) (by repeat constructor) az
end Go.Proofs.YtdjkdjepjahjfaaGreatDoor.TP
namespace Go.Proofs.YtdjkdjepjahjfaaGreatDoor.TP
open Go Go.Proofs Go.RowKit Sh Sl T FD
theorem H6 {L:List FD.Fd}:∀u∈L.flatMap cS,u.oneCell'=true:=fun u hu=>by
 obtain⟨x,_,hx⟩:=List.mem_flatMap.1 hu
 simp[cS]at hx
 rcases hx with rfl|rfl <;> rfl
theorem AP {W:World}{L:List HP}{g:Nat}{r:Bool}:Imp W (pt g (.cells (ov g (ef r) (none,0) (none,0)).toArray 230)::L) (cV g (ef r)::L):=
 .ex ((none,0),(none,0)) (.all (.pick .here (bJ (bJ .refl))))
theorem DZ {W:World}{r:Bool}:Cn p_ 47 [.bool r] W [] (fun g:Nat=> .pointer (some ⟨g,0,none⟩)) (fun g=>[cV g (ef r)]):=by
 (refine Shp.cn (Sg.g_ Tryz.call47 Tryz.func47) fun F=>?_;simp only[ca_,na_])
 cases r with
 |true=>
  refine o_ bO ?_;refine aX fun g=>?_;refine o_ bC (o_ ag (o_ ae (bR ?_)));refine ai (o_ bC (o_ ag (o_ ae (bR ?_))))
  refine aR g ?_
  exact AP (r:=true)
 |false=>
  refine o_ bO ?_;refine aX fun g=>?_;refine o_ bC (o_ ag (o_ ae (bR ?_)));refine af (aR g ?_)
  exact AP (r:=false)
theorem AQ {W:World}{fs:List FD.Fd}{a:Option Addr}{c:Nat}(hn:fs.length<=1048576):Cn p_ 117 [.slice a fs.length c] W [Sl 2 192 a c fs.length (fs.flatMap cS)] (fun r:Option Addr × Nat=> .slice r.1 fs.length r.2) (fun r=>[Sl 2 192 a c fs.length (fs.flatMap cS),Sl 2 192 r.1 r.2 fs.length (fs.flatMap cS)]):=by
 (refine Shp.cn (Sg.g_ Tryz.call117 Tryz.func117) fun F=>?_;simp only[ca_,na_])
 refine bf (bJ (s:=2) (e:=192) .refl) ?_
 refine bQ (m:=fs.length) (news:=fs.flatMap cS) .here (oZ (s:=2) (e':=192) (by kernel_rfl) (by(repeat constructor):Pick _ (Sl 2 192 a c fs.length (fs.flatMap cS)) _) H6) (by omega) (by omega) fun a' c'=>?_
 rw[Nat.zero_add,List.nil_append]
 refine aR ((a',c')) ?_
 exact az
theorem mR {W:World}{g:Nat}{p:Ps}(hd:p.done=true)(hr:p.reply=true)(hn:p.fs.length<=1048576):Cn p_ 49 [.pointer (some ⟨g,0,none⟩)] W [cV g p] (fun r:Option Addr × Nat=> .tuple #[.int .i64 p.status,.int .i64 p.minor,ay p.reason,.slice r.1 p.fs.length r.2]) (fun r=>[cV g p,Sl 2 192 r.1 r.2 p.fs.length (p.fs.flatMap cS)]):=by
 (refine Shp.cn (Sg.g_ Tryz.call49 Tryz.func49 (an:={drs:=[(3,.ofL [(0,2),(1,3),(2,3),(3,3),(4,2),(5,3),(6,3),(7,3),(8,3),(9,2),(10,3),(11,3),(12,3),(13,1),(14,1),(15,1),(16,1),(17,0),(18,1),(19,1),(20,1),(21,1)])]}) (os:=[(3,[(17,[12,11,10,8,7,6,5,3,2,1])])])) fun F=>?_;simp only[ca_,na_])
 refine lT (g:=g) (p:=p) .here fun l f=>?_
 unfold ov
 obtain⟨reply,line,cr,done,yp,empty,nx,meth,targ,minor,status,reason,fs⟩:=p
 dsimp only at hd hr hn ⊢
 subst hd hr
 refine o_ bM ?_;refine ab (ab (o_ ag (ab (o_ ae (ab (aH ?_))))));refine ab (o_ bB (o_ ak (ab (ab (o_ ag (ab (o_ ae (ab (aH ?_)))))))));refine ab (o_ bB (o_ ak (af (aW (aq ag .nil ?_)))));refine aq ae .nil ?_;(((refine' aq (aS ?hc) ?hi ?_);(case hi=>exact .pick (by repeat constructor) .nil);(case hc=>repeat constructor)));refine aq ag .nil ?_;refine aq ae .nil ?_;refine aq dm .nil ?_;(((refine' aq (aS ?hc) ?hi ?_);(case hi=>exact .pick (by repeat constructor) .nil);(case hc=>repeat constructor)));refine aq ag .nil ?_;refine aq ae .nil ?_;(((refine' aq (aS ?hc) ?hi ?_);(case hi=>exact .pick (by repeat constructor) .nil);(case hc=>repeat constructor)));refine t_ ag (t_ ae (cm ?_))
 refine' ah (AQ (fs:=fs) (a:=f.1) (c:=f.2) hn) ?hp fun r=>?_
 case hp=>(repeat(first|exact Picks.nil|(apply Picks.cons;(focus repeat constructor))))
 refine am ?_
 refine bj ?_;refine bj ?_;refine bj ?_;refine bj ?_;refine bj ?_;refine bj ?_;refine bj ?_;refine bj ?_;refine bj ?_;refine bj ?_
 refine aR r ?_
 exact jw (p:=⟨true,line,cr,true,yp,empty,nx,meth,targ,minor,status,reason,fs⟩) (l:=l) (f:=f) (by repeat constructor) (by repeat constructor) (by repeat constructor) az
theorem AR {W:World}{g:Nat}{p:Ps}(hd:p.done=true)(hr:p.reply=false)(hn:p.fs.length<=1048576):Cn p_ 235 [.pointer (some ⟨g,0,none⟩)] W [cV g p] (fun r:Option Addr × Nat=> .agg #[ay p.meth,ay p.targ,.int .i64 p.minor,.slice r.1 p.fs.length r.2]) (fun r=>[cV g p,Sl 2 192 r.1 r.2 p.fs.length (p.fs.flatMap cS)]):=by
 (refine Shp.cn (Sg.g_ Tryz.call235 Tryz.func235) fun F=>?_;simp only[ca_,na_])
 refine lT (g:=g) (p:=p) .here fun l f=>?_
 unfold ov
 obtain⟨reply,line,cr,done,yp,empty,nx,meth,targ,minor,status,reason,fs⟩:=p
 dsimp only at hd hr hn ⊢
 subst hd hr
 refine aU fun g=>?_;refine o_ bM ?_;refine ab (ab (o_ ag (ab (o_ ae (ab (aH ?_))))));refine ab (o_ bB (o_ ak (ab (ab (o_ ag (ab (o_ ae (ab (aH ?_)))))))));refine o_ ak (af (o_ ag (o_ ae ?_)))
 refine' aE (iO (n:=4) (o:=9) (vs:=[ay meth,ay targ,.int .i64 minor,.slice none 0 0]) rfl ?hcv) ?hiv ?_
 case hiv=>(repeat(first|exact .refl|exact .nil|(apply Imp.pick;(focus ((repeat constructor);done)))|refine .drop ?_))
 case hcv=>intro i hi;match i,hi with|0,_=>rfl|1,_=>rfl|2,_=>rfl|3,_=>rfl
 refine aU fun g=>?_;(((refine' aK ?hp ?hn ?hv ?h1 ?_);(case hp=>(repeat constructor));(case hn=>rfl);(case hv=>rfl);(case h1=>simp[Value.oneCell',ay])));refine o_ ag (o_ ae (aH ?_))
 refine' ah (AQ (fs:=fs) (a:=f.1) (c:=f.2) hn) ?hp fun r=>?_
 case hp=>(repeat(first|exact Picks.nil|(apply Picks.cons;(focus repeat constructor))))
 refine am ?_
 refine o_ ae (bR ?_);refine jL ?_;(((refine' aK ?hp ?hn ?hv ?h1 ?_);(case hp=>(repeat constructor));(case hn=>rfl);(case hv=>rfl);(case h1=>simp[Value.oneCell',ay])));(((refine' be (cQ ?hn) ?hi ?_);(case hi=>exact az);(case hn=>rfl)))
 refine aR r ?_
 exact jw (p:=⟨false,line,cr,true,yp,empty,nx,meth,targ,minor,status,reason,fs⟩) (l:=l) (f:=f) (by repeat constructor) (by repeat constructor) (by repeat constructor) az
theorem qU {p q:Ps}{c:UInt8}{r:List UInt8}(h:sj p c=some q):dM p (c::r)=if q.done then some (q,r)else dM q r:=by
 rw[dM,h]
theorem qV {p:Ps}{c:UInt8}{r:List UInt8}(h:sj p c=none):dM p (c::r)=none:=by
 rw[dM,h]
theorem AS {W:World}[hG:Gl W]{G:Nat}{p p':Ps}{b rest:List UInt8}{a:Option Addr}{cap:Nat}{A:HP}(hA:RdB W A a b.length (b.map Sl.B))(h:dM p b=some (p',rest))(hd:p.done=false)(hb:b.length<=1048576):
  Cn p_ 48 [.pointer (some ⟨G,0,none⟩),.slice a b.length cap] W [cV G p,A] (fun _:Unit=> .tuple #[.int .i64 ((b.length:Int)-(rest.length:Int)),.bool p'.done,.int .i64 0]) (fun _=>[cV G p',A]):=by
 (refine S.gS.cn fun F=>?_;unfold S.fM;simp only[ca_,na_])
 refine lT (g:=G) (p:=p) .here fun l f=>?_
 unfold ov
 rw[hd]
 refine b_ fun g=>?_;refine de fun g=>?_;refine de fun g=>?_;refine aH ?_;refine o_ bM ?_;refine ab (aH ?_);refine ab (o_ ag (ab (o_ ae (ab (aH ?_)))));refine ab (o_ bB (o_ ak (af (aH ?_))));refine o_ ag (o_ ae (aH ?_));refine ab (aH ?_);refine ab (o_ ag (ab (o_ ae (ab (aH ?_)))));refine ab ?_;(((refine o_ (Sl.cq ?hcq) ?_);(case hcq=>(first|omega|(simp only[List.length_nil,List.length_cons];omega)))));refine o_ ak (af (o_ bC ?_))
 rename_i b2 b5
 refine k7 ?_
 refine dK (fun z=>pu (z= .int .i64 ((b.length:Int)-(rest.length:Int)))::cV G p'::A::pt g (.cells #[.int .i64 0] 29)::pt b5 (.cells #[.bool false] 4)::pt b2 (.cells #[.pointer (some ⟨G,0,none⟩)] 119)::F) ?_ ?_
 rotate_left
 ·(refine o_ aI ?_)
  refine cp (fun m y4 y40=>(ex fun s:Nat × Ps=>all [pu (m+s.1=b.length/\y4= .int .i64 (s.1:Int)/\y40= .int .i64 (s.1:Int)/\dM s.2 (b.drop s.1)=some (p',rest)/\s.2.done=false),cV G s.2])::A::pt g (.cells #[.int .i64 0] 29)::pt b5 (.cells #[.bool false] 4)::pt b2 (.cells #[.pointer (some ⟨G,0,none⟩)] 119)::F) b.length ?_ ?_
  ·refine .ex (0,p) (.all ?_)
   refine am ?_
   refine .pu ⟨rfl,rfl,rfl,h,hd⟩ ?_
   exact jw (p:=p) (l:=l) (f:=f) (by unfold ov;rw[hd];(repeat constructor)) (by repeat constructor) (by repeat constructor) az
  intro m ds y4 y40
  refine am ?_
  refine a8 .here fun st=>aB .here ?_
  obtain⟨i,q⟩:=st
  refine am ?_
  refine aT .here fun hi=>?_
  (try dsimp only at hi)
  obtain⟨hm,rfl,rfl,hf,hqd⟩:=hi
  (try dsimp only)
  refine o_ bD ?_
  by_cases hlt:i<b.length
  ·rw[dT_ (by omega)]
   have hv:(b.map Sl.B)[i]? =some (.int .u8 (b[i].toNat:Int)):=by simp[hlt,Sl.B]
   have hA':=hA
   obtain⟨ga,oa,ha,_⟩:=hA'.at_ (by omega)
   subst ha
   rw[List.drop_eq_getElem_cons hlt]at hf
   cases hb1:sj q b[i]with
   |none=>rw[qV hb1]at hf;cases hf
   |some q1=>
    rw[qU hb1]at hf
    refine ai (o_ (bq i rfl hlt) ?_)
    refine aE (dv hA hv) az ?_
    refine bP ?_;refine aH ?_
    refine c_ (Gj hb1) fun _=>?_
    refine aH ?_;refine o_ ag (o_ ae (lT (g:=G) (p:=q1) .here fun l f=>?_))
    unfold ov
    refine aH ?_
    cases hq1:q1.done with
    |true=>
     rw[if_pos hq1]at hf
     cases hf
     refine ai (aN (.pu (by rw[List.length_drop];congr 1;omega) ?_))
     exact jw (p:=p') (l:=l) (f:=f) (by unfold ov;rw[hq1];(repeat constructor)) (by repeat constructor) (by repeat constructor) az
    |false=>
     rw[if_neg (by rw[hq1];simp)]at hf
     refine af (bP ?_)
     refine bI (m-1) ?_ ?_
     ·omega
     refine .ex (i+1,q1) (.all ?_)
     refine am ?_
     refine .pu ⟨by omega,by simp,by simp,hf,hq1⟩ ?_
     exact jw (p:=q1) (l:=l) (f:=f) (by unfold ov;rw[hq1];(repeat constructor)) (by repeat constructor) (by repeat constructor) az
  ·rw[dF_ (by omega)]
   rw[List.drop_eq_nil_of_le (by omega)]at hf
   cases hf
   refine af (aN (.pu (by simp;omega) ?_))
   exact az
 intro ds z
 refine aT .here fun hz=>?_
 subst hz
 refine lT (g:=G) (p:=p') .here fun l f=>?_
 unfold ov
 refine aW (cm ?_);refine t_ ag (t_ ae (cm ?_));refine bR ?_;refine bR ?_
 refine tz (f:=115) (A:=[.pointer (some ⟨b2,0,none⟩),.pointer (some ⟨b5,0,none⟩),.pointer (some ⟨g,0,none⟩)]) (shape:=fun rv=>S.cM (.pointer (some ⟨b2,0,none⟩)) (.pointer (some ⟨b5,0,none⟩)) (.pointer (some ⟨g,0,none⟩)) rv) (fun c=>by cases c) ⟨_,_,rfl⟩ (fX (cs:=[.pointer (some ⟨b2,0,none⟩),.pointer (some ⟨b5,0,none⟩),.pointer (some ⟨g,0,none⟩)]) (bs:=[]) Tryz.call115) (fun h=>S.f5 h) ?_
 unfold S.cM
 rw[oe,rT]
 refine o_ (ku (by kernel_rfl)) ?_
 refine af ?_
 unfold S.dD
 (((refine' be (cX ?hc) ?hi ?_);(case hi=>exact az);(case hc=>repeat constructor)));(((refine' be (cX ?hc) ?hi ?_);(case hi=>exact az);(case hc=>repeat constructor)))
 refine aR () ?_
 exact jw (p:=p') (l:=l) (f:=f) (by repeat constructor) (by repeat constructor) (by repeat constructor) az
end Go.Proofs.YtdjkdjepjahjfaaGreatDoor.TP
namespace Go.Proofs.YtdjkdjepjahjfaaGreatDoor.FD
open Go Go.Proofs Go.RowKit Sh Sl T
theorem AT:(p_.info? 460).map (·.size)=some 2:=by kernel_rfl
theorem H7:liesAt p_ p_.depth 460 (2 / p_.cellsOf 460) 0 460 1=true:=by kernel_rfl
set_option maxHeartbeats 1000000 in
set_option maxRecDepth 100000 in
theorem D8 (b:Nat)(w:World)(h0:w.cell? ⟨b,0,none⟩=some (.pointer (some ⟨b,0,none⟩))):
  Calls p_ 402 #[.pointer (some ⟨b,0,none⟩)] w fun e w'=>e= .returned (.tuple #[])/\w'=w:=by
 obtain⟨j,hj,_⟩:=Option.map_eq_some_iff.1 AT
 go_enter Tryz.func402,Tryz.ntmps402
 go_wp2
 rw[Lib.run_neq_ptr_same w _ Tryz.underlying458 hj]
 go_wp2
 go_end0
 exact⟨rfl,rfl⟩
set_option maxHeartbeats 1000000 in
set_option maxRecDepth 100000 in
theorem AU (b:Nat)(w:World)(h0:w.cell? ⟨b,0,none⟩=some (.pointer none))(hsh:w.shape? b=some (460,2))(hfz:w.frozen? ⟨b,0,none⟩=false):
  Calls p_ 402 #[.pointer (some ⟨b,0,none⟩)] w fun e w'=>e= .returned (.tuple #[])/\w'=w.setCell ⟨b,0,none⟩ (.pointer (some ⟨b,0,none⟩)):=by
 obtain⟨j,hj,hjs⟩:=Option.map_eq_some_iff.1 AT
 go_enter Tryz.func402,Tryz.ntmps402
 go_wp2
 rw[Lib.run_to_unsafe w ⟨b,0,none⟩ Tryz.underlying458 Tryz.underlying596 hj (by rw[hjs];decide) hsh (Nat.zero_lt_succ 1)]
 simp only[Result.andThen]
 rw[Oper.upon_value]
 go_wp2
 rw[run_callFunc_extern Tryz.func468 (by kernel_rfl) (by kernel_rfl) (by kernel_rfl) (e:=Extern.AbiNoEscape.same) (by kernel_rfl)]
 rw[Lib.run_noEscape]
 simp only[Result.andThen]
 rw[Oper.upon_value]
 go_wp2
 rw[Lib.run_from_unsafe w ⟨b,0,none⟩ Tryz.underlying596 Tryz.underlying458 hj hsh H7]
 simp only[Result.andThen]
 rw[Oper.upon_value]
 go_wp2
 go_end0
 exact⟨rfl,rfl⟩
def MA (b:Nat):HP:=pt b (.cells #[.pointer none,.slice none 0 0] 460 (0,0))
def bd (b:Nat)(r:Option Addr × Nat)(l:List UInt8):HP:=all [pt b (.cells #[.pointer (some ⟨b,0,none⟩),.slice r.1 l.length r.2] 460 (0,0)),Sl 1 5 r.1 r.2 l.length (l.map B)]
theorem vJ {W : World} {b : Nat} {v : Value} : Cn p_ 402 [.pointer (some ⟨b, 0, none⟩)] W [pt b (.cells #[.pointer none, v] 460 (0, 0))] (fun _ : Unit => .tuple #[]) (fun _ => [pt b (.cells #[.pointer (some ⟨b, 0, none⟩), v] 460 (0, 0))]) :=
 ⟨Tryz.call402, fun F w hw => (AU b w (by rw [(show sat W (pt b _ :: F) w from hw).cell]; rfl) (by rw [World.shape?, (show sat W (pt b _ :: F) w from hw).pt_.1]; rfl) (show sat W (pt b _ :: F) w from hw).free).mono fun e w' ⟨he, hb⟩ => ⟨(), he, by
  rw [hb]
  exact (show sat W (pt b _ :: F) w from hw).setCell (o := 0) (.pointer (some ⟨b, 0, none⟩))⟩⟩
theorem AV {W:World}{b:Nat}{v:Value}:Cn p_ 402 [.pointer (some ⟨b,0,none⟩)] W [pt b (.cells #[.pointer (some ⟨b,0,none⟩),v] 460 (0,0))] (fun _:Unit=> .tuple #[]) (fun _=>[pt b (.cells #[.pointer (some ⟨b,0,none⟩),v] 460 (0,0))]):=
 ⟨Tryz.call402,fun F w hw=>(D8 b w (by rw[(show sat W (pt b _::F) w from hw).cell];rfl)).mono fun e w' ⟨he,hb⟩=>⟨(),he,by rw[hb];exact hw⟩⟩
set_option maxHeartbeats 2000000 in
set_option maxRecDepth 100000 in
theorem D9 (b g cap:Nat) (cur:Array Value) (l:List UInt8) (w:World) (hb:w.cell? ⟨b,1,none⟩=some (.slice (some ⟨g,0,none⟩) l.length cap)) (hg:w.heap[g]? =some (.cells cur 5 (0,0))) (h0:l≠[]) (hc:l.length<=cap) (hcs:cap<=cur.size) (hcm:cap<=maxLen)
  (hcell:∀j x,l[j]? =some x->w.cell? ⟨g,j,none⟩=some (B x)):
  Calls p_ 310 #[.pointer (some ⟨b,0,none⟩)] w fun e w'=>e= .returned (.string ⟨l.toArray⟩)/\w'=w.drew.freeze ⟨g,0,none⟩ l.length:=by
 have hl0:l.length≠0:=by simpa using h0
 have c1:w.drew.cell? ⟨b,1,none⟩=some (.slice (some ⟨g,0,none⟩) l.length cap):=hb
 have hSD:(Builtin.unsafeSliceData_ #[35] 544 #[.slice (some ⟨g,0,none⟩) l.length cap]).run p_ w.drew= .ok (.pointer (some ⟨g,0,none⟩)) w.drew:=
  Lib.run_unsafeSliceData_row _ _ _ _ _ _ (by omega)
 have hUS:(Builtin.unsafeString_ #[544,3] 9 #[.pointer (some ⟨g,0,none⟩),.int .i64 l.length]).run p_ w.drew= .ok (.string ⟨l.toArray⟩) (w.drew.freeze ⟨g,0,none⟩ l.length):=by
  refine Lib.run_unsafeString_row w.drew 544 3 9 5 Tryz.underlying544 (by kernel_rfl) g cur.size (by have hg':w.drew.heap[g]? =some (.cells cur 5 (0,0)):=hg;simp[World.shape?,hg']) l h0 (by omega) (by unfold maxLen at hcm;omega) ?_
  intro j x hx
  rw[du,Nat.zero_add]
  exact hcell j x hx
 have mixed:=S.wide
 go_enter Tryz.func310,Tryz.ntmps310
 go_wp2
 go_region_o
 all_goals (go_wp2;go_ret;exact⟨rfl,rfl⟩)
theorem pg {W : World} {b : Nat} {r : Option Addr × Nat} {l : List UInt8} (h0 : l ≠ []) : Cn p_ 310 [.pointer (some ⟨b, 0, none⟩)] W [bd b r l] (fun _ : Unit => ay l) (fun _ => []) :=
 ⟨Tryz.call310, fun F w hw => by
  have hl0 : 0 < l.length := List.length_pos_iff.2 h0
  obtain ⟨ra, rc⟩ := r
  have h1 : sat W ([pt b (.cells #[.pointer (some ⟨b, 0, none⟩), .slice ra l.length rc] 460 (0, 0)), Sl 1 5 ra rc l.length (l.map B)] ++ F) w :=
   sat.map (L := all [pt b (.cells #[.pointer (some ⟨b, 0, none⟩), .slice ra l.length rc] 460 (0, 0)), Sl 1 5 ra rc l.length (l.map B)] :: F) (fun _ H => bZ H) hw
  simp only [ca_, na_] at h1
  have h2 := h1.pick (.there .here)
  obtain ⟨g, hg⟩ : ∃ g, ra = some ⟨g, 0, none⟩ := by
   obtain ⟨f, ⟨l1, l2, l3, hd⟩, _⟩ := h2.fst
   rcases hd with ⟨_, hc0⟩ | ⟨g, rest, hr, _, _⟩
   ·omega
   ·exact ⟨g, hr⟩
  subst hg
  obtain ⟨rest, r1, r2, r3, r4, hp⟩ := i8 h2
  have hcur : (l.map B ++ rest).length = rc := by rw [List.length_append, r1]; simp; omega
  refine (D9 b g rc (l.map B ++ rest).toArray l w (by rw [h1.cell]; rfl) hp.pt_.1 h0 r3 (by simpa using Nat.le_of_eq hcur.symm) r4 (fun j x hx => ?_)).mono fun e w' ⟨he, hb⟩ => ⟨(), he, ?_⟩
  ·rw [hp.cell]
   have hj : j < l.length := by
    rcases Nat.lt_or_ge j l.length with c | c
    ·exact c
    ·rw [List.getElem?_eq_none c] at hx; cases hx
   rw [List.getElem?_toArray, List.getElem?_append_left (by simpa using hj), List.getElem?_map, hx]; rfl
  ·subst hb
   have h3 := hp.drew
   have h4 : sat W (pt g (.cells (l.map B ++ rest).toArray 5 (0, l.length)) :: _) (w.drew.freeze ⟨g, 0, none⟩ l.length) := h3.turn (by simp [World.freeze]; split <;> rfl) (by simp [World.freeze]; split <;> rfl) (by simp [World.freeze]; split <;> rfl) (by simp [World.freeze]; split <;> simp) (by
    rw [World.freeze, if_neg (by omega)]
    simp only [Array.getElem?_modify, if_pos, h3.pt_.1]
    simp) (fun i hi => by
    rw [World.freeze, if_neg (by omega)]
    simp only [Array.getElem?_modify]
    rw [if_neg (fun c => hi c.symm)])
   exact h4.drop.drop⟩
section
variable {P:Program} {W:World} {L L':List HP} {Kp:PK} {k:Value->WP}
theorem H8 {s:Nat}{e:TypeId}{g:Nat}{cs:List Value}{n:Nat}{S:WP}(p:Pick L (pt g (.cells cs.toArray e (0,0))) L')(hn:cs.length=n * s)(hm:n<=maxLen)(h:aJ W (Sl s e (some ⟨g,0,none⟩) n 0 []::L') S):aJ W L S:=
 mC p (fun h hh=>⟨by simp,Nat.zero_le _,hm,.inr ⟨g,cs,rfl,by simpa using hn,hh⟩⟩) h
theorem D_ {dT sT ty e:TypeId}{b:Nat}{d a:Option Addr}{dLen dCap gB yj:Nat}[ht:SlT P dT e 1 b](hn:Nat.min gB dLen=0):aQ P W [] (zP #[dT,sT] ty [.slice d dLen dCap,.slice a gB yj]) (.int .i64 0):=fun w _=>by
 obtain⟨i,z,hi,hz,hsz,hb,hzs⟩:=ht.info
 have hr:=run_copy_none (P:=P) w dT sT ty e d a dLen dCap gB yj ht.ut (by rw[hi];simp[hsz]) hn
 simp[zP,hr,goInt]
theorem w5 {tx:TypeId}{l:List UInt8}(hk:P.underlying tx=some .string):∀w,sat W L w->Src P 1 tx (ay l) l.length (l.map B) w:=fun w _=>Src.ofString w hk ⟨l.toArray⟩
end
theorem Pg {W:World}{L:List HP}{Kp:PK}{k:Value->WP}{n:Nat}(hn:n<=281474976710656)(h:∀g (cs:List Value),n<=cs.length->cs.length<=maxLen->aJ W (pt g (.cells cs.toArray 5 (0,0))::L) (k (.slice (some ⟨g,0,none⟩) n cs.length))):
  aJ W L (opN p_ (bG (fn 469) [.int .i64 (n:Int)]) Kp k):=fun w hw=>by
 obtain⟨cs,hrun,hle,hmx⟩:=Lib.run_makeNoZero (P:=p_) w #[3] 35 5 Tryz.underlying35 n hn
 have hr:(callFunc 469 #[.int .i64 (n:Int)]).run p_ w= .ok (.value (.slice (some ⟨w.heap.size,0,none⟩) n cs.size)) (w.drew.drew.alloc (.cells cs 5)):=by
  rw[run_callFunc_extern Tryz.func469 (by kernel_rfl) (by kernel_rfl) (by kernel_rfl) (e:=Extern.BytealgMakeNoZero.makeNoZero #[3] #[35]) (by kernel_rfl),hrun]
  rfl
 refine⟨?_⟩
 rw[show(bG (fn 469) [.int .i64 (n:Int)]).run p_ w= .ok (.value (.slice (some ⟨w.heap.size,0,none⟩) n cs.size)) (w.drew.drew.alloc (.cells cs 5)) by simp[bG,Deferred.ofValue,invoke,fn,hr]]
 have:=h w.heap.size cs.toList (by simpa using hle) (by simpa using hmx (by unfold maxLen;omega))
 simp only[Array.toArray_toList,Array.length_toList]at this
 exact this _ ((hw.drew.drew).alloc (.cells cs 5))
theorem Ph {W:World}{b n:Nat}{p:Value}(hn:n<=4194304):Cn p_ 403 [.pointer (some ⟨b,0,none⟩),.int .i64 (n:Int)] W [pt b (.cells #[p,.slice none 0 0] 460 (0,0))] (fun _:Nat × Nat=> .tuple #[])
  (fun r=>[pt b (.cells #[p,.slice (some ⟨r.1,0,none⟩) 0 r.2] 460 (0,0)),Sl 1 5 (some ⟨r.1,0,none⟩) r.2 0 []]):=by
 (refine Shp.cn (Sg.g_ Tryz.call403 Tryz.func403 (an:={drs:=[(0,.ofL [(0,1),(1,1),(2,1),(3,1),(4,1),(5,1),(6,1),(7,1),(9,2),(10,3),(11,3),(12,3),(13,3),(8,0),(14,1),(15,1)])]}) (os:=[(0,[(8,[13,12,11,10])])])) fun F=>?_;simp only[ca_,na_])
 refine aW (t_ ag (t_ ae (be (aS (.there .here)) (.pick .here .nil) ?_)))
 refine t_ Ad ?_
 refine t_ (tq (by decide) (by decide)) ?_
 refine t_ (g9 (by omega) (by omega)) ?_
 refine aq ag .nil ?_
 refine aq ae .nil ?_
 refine aq (aS (.there .here)) (.pick .here .nil) ?_
 refine aq aI .nil ?_
 rw[show(2 * ((0:Nat):Int)+(n:Int))=((n:Nat):Int) by omega]
 refine Pg (by omega) fun g cs h1 h2=>?_
 refine nw az ?_
 refine nw az ?_
 refine nw az ?_
 refine nw az ?_
 refine t_ (mD 0 rfl (Nat.zero_le _)) ?_
 refine o_ ag (o_ ae (cO (aS (.there .here)) ?_))
 refine o_ (D_ rfl) ?_
 refine o_ ag (o_ ae (iJ (.there .here) (.there .here) ?_))
 refine H8 (s:=1) (n:=cs.length) (.there .here) (by omega) h2 ?_
 refine aR ((g,cs.length)) ?_
 refine .pick (by repeat constructor) ?_
 exact az
theorem Pi {W:World}{b n:Nat}(hn:0<n)(hm:n<=4194304):Cn p_ 311 [.pointer (some ⟨b,0,none⟩),.int .i64 (n:Int)] W [pt b (.cells #[.pointer none,.slice none 0 0] 460 (0,0))] (fun _:Nat × Nat=> .tuple #[])
  (fun r=>[bd b (some ⟨r.1,0,none⟩,r.2) []]):=by
 (refine Shp.cn (Sg.g_ Tryz.call311 Tryz.func311 (an:={cuts:=[(3,[])],drs:=[(3,.ofL [(0,1),(1,1),(2,1),(3,1),(4,1),(5,1),(6,1),(7,1),(8,1),(9,1),(10,1),(11,1),(12,1)])]})) fun F=>?_;simp only[ca_,na_])
 refine ah vJ (.cons .here .nil) fun _=>?_
 refine am ?_
 refine dP ?_
 refine o_ bD ?_
 rw[dF_ (by omega)]
 refine af (i6 fun ds=>?_)
 refine aW (t_ ag (t_ ae (be (aS (.there .here)) (.pick .here .nil) ?_)))
 refine t_ Ad ?_
 refine t_ ag (t_ ae (be (aS (.there .here)) (.pick .here .nil) ?_))
 refine t_ aI (t_ (hO (by decide) (by decide)) ?_)
 refine t_ bD ?_
 rw[dT_ (by omega)]
 refine ai (ah (Ph hm) (.cons .here .nil) fun r=>?_)
 refine am ?_
 refine ip r ?_
 unfold bd
 refine .all ?_
 refine am ?_
 exact .refl
theorem lU {W:World}{b:Nat}{r:Option Addr × Nat}{l m:List UInt8}(hl:l.length+m.length<=16777216):Cn p_ 309 [.pointer (some ⟨b,0,none⟩),ay m] W [bd b r l] (fun _:Option Addr × Nat=> .tuple #[.int .i64 (m.length:Int),.nilIface]) (fun r'=>[bd b r' (l++m)]):=by
 (refine Shp.cn (Sg.g_ Tryz.call309 Tryz.func309) fun F=>?_;simp only[ca_,na_])
 unfold bd
 refine aB .here ?_
 refine am ?_
 refine ah AV (.cons .here .nil) fun _=>?_
 refine am ?_
 refine o_ ag (o_ ae (aE (aS (.there .here)) (.pick .here .nil) ?_))
 refine bQ (m:=m.length) (news:=m.map B) (by repeat constructor) (w5 (by kernel_rfl)) (by omega) (by omega) fun a' c'=>?_
 refine o_ ag (o_ ae (iJ (.there .here) (.there .here) ?_))
 refine o_ bu (aR ((a',c')) ?_)
 refine .all ?_
 refine am ?_
 rw[List.length_append,List.map_append]
 refine .pick (by repeat constructor) ?_
 exact az
end Go.Proofs.YtdjkdjepjahjfaaGreatDoor.FD
namespace Go.Proofs.YtdjkdjepjahjfaaGreatDoor.Sl
open Go Go.RowKit Sh
variable {P:Program} {W:World} {L L':List HP} {Kp:PK} {k:Value->WP}
def jr (s:Nat)(e:TypeId)(a:Option Addr)(cap n:Nat)(cs:List Value):HP:=fun _ h=>
 cs.length=n * s/\n<=cap/\cap<=maxLen/\((a=none/\cap=0)\/∃g o pre rest,a=some ⟨g,o,none⟩/\pre.length=o/\(cap-n) * s<=rest.length/\∃fz:Nat × Nat,(fz=(0,0)\/(pre++cs++rest).length<=fz.1)/\h g=some (.cells (pre++cs++rest).toArray e fz))
theorem jr.nil (s:Nat)(e:TypeId)(W:World)(h:e8):jr s e none 0 0 [] W h:=⟨by simp,Nat.le_refl _,by unfold maxLen;omega,.inl ⟨rfl,rfl⟩⟩
theorem ph {s:Nat}{e:TypeId}{M:List HP}(h:Imp W L M):Imp W L (jr s e none 0 0 []::M):= .conv (B:=pu True) (fun h _=>jr.nil s e W h) (.pu trivial h)
theorem ow {s:Nat}{e:TypeId}{g o cap n:Nat}{cs:List Value}{w:World}(H:sat W (jr s e (some ⟨g,o,none⟩) cap n cs::L) w):
  ∃pre rest,∃fz:Nat × Nat,pre.length=o/\(cap-n) * s<=rest.length/\cs.length=n * s/\n<=cap/\cap<=maxLen/\(fz=(0,0)\/(pre++cs++rest).length<=fz.1)/\sat W (pt g (.cells (pre++cs++rest).toArray e fz)::L) w:=by
 obtain⟨f,⟨h1,h2,⟨l1,l2,l3,hd⟩,r⟩,b⟩:=H.heap
 rcases hd with ⟨c,_⟩|⟨g',o',pre,rest,c,e0,e1,fz,e3,e2⟩
 ·cases c
 ·injection c with c;injection c with c c2;subst c;subst c2
  exact⟨pre,rest,fz,e0,e1,l1,l2,l3,e3,H.base,f,⟨h1,h2,e2,r⟩,b⟩
theorem pi {s:Nat} {e:TypeId} {g o cap n:Nat} {cs pre rest:List Value} {fz:Nat × Nat} {w:World} (hz:fz=(0,0)\/(pre++cs++rest).length<=fz.1) (hp:pre.length=o) (hr:(cap-n) * s<=rest.length) (hc:cs.length=n * s) (hn:n<=cap) (hm:cap<=maxLen)
  (H:sat W (pt g (.cells (pre++cs++rest).toArray e fz)::L) w):sat W (jr s e (some ⟨g,o,none⟩) cap n cs::L) w:=by
 obtain⟨f,⟨h1,h2,ha,r⟩,b⟩:=H.heap
 exact⟨H.base,f,⟨h1,h2,⟨hc,hn,hm,.inr ⟨g,o,pre,rest,rfl,hp,hr,fz,hz,ha⟩⟩,r⟩,b⟩
theorem eP {s:Nat} {e:TypeId} {a:Option Addr} {cap n:Nat} {cs:List Value} {S:WP} (p:Pick L (jr s e a cap n cs) L')
  (h:cs.length=n * s->n<=cap->cap<=maxLen->(0<n->∃g o,a=some ⟨g,o,none⟩)->aJ W L S):aJ W L S:=fun w hw=>by
 obtain⟨f,⟨h1,h2,h3,h4⟩,_⟩:=(hw.pick p).fst
 refine h h1 h2 h3 (fun hn=>?_) w hw
 rcases h4 with ⟨rfl,rfl⟩|⟨g,o,pre,rest,rfl,_⟩
 ·omega
 ·exact⟨g,o,rfl⟩
theorem sr {t e:TypeId}{s:Nat}{g o j cap n:Nat}{cs:List Value}{v:Value}[ht:OneT P t](hc:cs[j]? =some v):aQ P W [jr s e (some ⟨g,o,none⟩) cap n cs] (aG t (.pointer (some ⟨g,o+j,none⟩))) v:=fun w hw=>by
 obtain⟨pre,rest,fz,r0,_,_,_,_,_,hw'⟩:=ow hw
 refine iI (fz:=fz) ?_ w hw'
 have hj:j<cs.length:=by
  rcases Nat.lt_or_ge j cs.length with h|h
  ·exact h
  ·rw[List.getElem?_eq_none h]at hc;cases hc
 subst r0
 simp only[List.getElem?_toArray,List.append_assoc]
 rw[List.getElem?_append_right (by omega),show pre.length+j-pre.length=j by omega,List.getElem?_append_left hj,hc]
theorem tY {s:Nat} {e:TypeId} {a:Option Addr} {cap n l:Nat} {cs:List Value} {S:WP} (p:Pick L (jr s e a cap n cs) L') (hl:l<=n)
  (h:aJ W (jr s e (if cap=l then a else a.map (·.add (l * s))) (cap-l) (n-l) (cs.drop (l * s))::L') S):aJ W L S:=by
 refine mC p (fun hh ⟨h1,h2,h3,h4⟩=>⟨by rw[List.length_drop,h1,Nat.sub_mul],by omega,by omega,?_⟩) h
 rcases h4 with ⟨rfl,rfl⟩|⟨g,o,pre,rest,rfl,hp,hr,fz,hz,hg⟩
 ·have:l=0:=by omega
  subst this
  exact .inl ⟨rfl,rfl⟩
 ·have hle:l * s<=cs.length:=by rw[h1];exact Nat.mul_le_mul_right _ hl
  refine .inr ?_
  by_cases hc:cap=l
  ·have hn:n=l:=by omega
   rw[if_pos hc]
   have he:pre++cs++rest=pre++cs.drop (l * s)++(cs++rest):=by rw[List.drop_eq_nil_of_le (by rw[h1,hn];exact Nat.le_refl _)];simp
   exact⟨g,o,pre,cs++rest,rfl,hp,by rw[hc,hn];simp,fz,he▸hz,he▸hg⟩
  ·rw[if_neg hc]
   have he:pre++cs++rest=pre++cs.take (l * s)++cs.drop (l * s)++rest:=by simp[List.append_assoc]
   exact⟨g,o+l * s,pre++cs.take (l * s),rest,by simp[du],by simp[hp];omega,by rw[show cap-l-(n-l)=cap-n by omega];exact hr,fz,he▸hz,he▸hg⟩
theorem yB (g o:Nat){fz:Nat × Nat}:∀(vs:List Value) (w:World) (cs:Array Value) (T:TypeId),sat W (pt g (.cells cs T fz)::L) w->∃cs':Array Value,sat W (pt g (.cells cs' T fz)::L) (w.setCells g o vs)/\cs'.size=cs.size/\∀i,cs'[i]? =if o<=i/\i<o+vs.length/\i<cs.size then vs[i-o]? else cs[i]? :=by
 intro vs
 induction vs generalizing o with
 |nil=>intro w cs T H;exact⟨cs,H,rfl,fun i=>by rw[if_neg (by simp;omega)]⟩
 |cons v vs ih=>
  intro w cs T H
  obtain⟨cs',h1,h2,h3⟩:=ih (o+1) _ _ _ (H.setCell (o:=o) v)
  refine⟨cs',h1,by simpa using h2,fun i=>?_⟩
  rw[h3]
  simp only[Array.size_setIfInBounds,List.length_cons]
  by_cases hi:i=o
  ·subst hi
   rw[if_neg (by omega)]
   by_cases hs:i<cs.size
   ·rw[if_pos ⟨Nat.le_refl _,by omega,hs⟩];simp[hs]
   ·rw[if_neg (fun c=>hs c.2.2)];simp[hs]
  ·by_cases hc:o+1<=i/\i<o+1+vs.length/\i<cs.size
   ·rw[if_pos hc,if_pos ⟨by omega,by omega,hc.2.2⟩]
    rw[show i-o=(i-(o+1))+1 from by omega,List.getElem?_cons_succ]
   ·rw[if_neg hc,if_neg (fun c=>hc ⟨by omega,by omega,c.2.2⟩),Array.getElem?_setIfInBounds_ne (fun c=>hi c.symm)]
theorem Pj {w:World}{g j:Nat}{cs:Array Value}{T:TypeId}{fz:Nat × Nat}(H:sat W (pt g (.cells cs T fz)::L) w)(hz:fz=(0,0)\/cs.size<=fz.1)(hj:j<cs.size):w.frozen? ⟨g,j,none⟩=false:=by
 simp only[World.frozen?,H.pt_.1]
 rcases hz with rfl|h
 ·simp
 ·have:¬fz.1<=j:=by omega
  simp[this]
theorem pj {t tx ty e:TypeId} {s bytes:Nat} {a:Option Addr} {cap n m:Nat} {cs news:List Value} {y:Value} [ht:SlT P t e s bytes] (p:Pick L (jr s e a cap n cs) L')
  (hsrc:∀w,sat W L w->Src P s tx y m news w) (h1:(n+m) * bytes<=140737488355328) (h2:n+m<=4611686018427387904)
  (h:∀a' cap',aJ W (jr s e a' cap' (n+m) (cs++news)::L') (k (.slice a' (n+m) cap'))):aJ W L (opN P (ju #[t,tx] ty [.slice a n cap,y]) Kp k):=fun w hw=>by
 obtain⟨i,z,hi,hz,hs,hb,hzs⟩:=ht.info
 subst hs;subst hb
 have S:=hsrc w hw
 have hw':=hw.pick p
 have hnl:=S.newsLen
 refine⟨?_⟩
 have hrun:∃a' cap' w',(Builtin.append_ #[t,tx] ty #[.slice a n cap,y]).run P w= .ok (.slice a' (n+m) cap') w'/\sat W (jr i.size e a' cap' (n+m) (cs++news)::L') w':=by
  obtain⟨f,⟨l1,l2,l3,hd⟩,_⟩:=hw'.fst
  have grow:cap<n+m->(Builtin.firstCells i.size n (.slice a n cap)).run P w.drew= .ok cs.toArray w.drew->∃a' cap' w',(Builtin.append_ #[t,tx] ty #[.slice a n cap,y]).run P w= .ok (.slice a' (n+m) cap') w'/\sat W (jr i.size e a' cap' (n+m) (cs++news)::L') w':=by
   intro hg hold
   have hr:=run_append_grow_src (P:=P) w t tx ty e i z ht.ut hi hz a n cap cs hold y m news S hg (by omega) (growslice_fits hg h1)
   refine⟨_,_,_,hr,?_⟩
   have hge:=grownCap_ge w (n+m) cap e
   have hle:=grownCap_le_maxLen w (n+m) cap e (by unfold maxLen;omega)
   have ha:=(hw'.drop.drew).alloc (.cells ((cs++news).toArray++Builtin.zeroCells z.cells (grownCap w (n+m) cap e-(n+m))) e)
   have he:(cs++news).toArray++Builtin.zeroCells z.cells (grownCap w (n+m) cap e-(n+m))=([]++(cs++news)++(Builtin.zeroCells z.cells (grownCap w (n+m) cap e-(n+m))).toList).toArray:=by
    apply Array.ext';simp
   rw[he]at ha ⊢
   refine pi (g:=w.heap.size) (o:=0) (fz:=(0,0)) (.inl rfl) rfl ?_ ?_ hge hle ha
   ·rw[Array.length_toList,size_zeroCells,hzs];exact Nat.le_refl _
   ·rw[List.length_append,l1,hnl,Nat.add_mul]
  by_cases hfit:n+m<=cap
  ·rcases hd with ⟨rfl,hc0⟩|⟨g,o,pre0,rest0,rfl,_,_,_,_,_⟩
   ·have hn0:n=0:=by omega
    have hm0:m=0:=by omega
    subst hn0;subst hm0;subst hc0
    have hnews:news=[]:=List.eq_nil_of_length_eq_zero (by simpa using hnl)
    have hcs:cs=[]:=List.eq_nil_of_length_eq_zero (by simpa using l1)
    subst hnews;subst hcs
    refine⟨none,0,w,?_,hw'⟩
    rcases S.kind with ⟨e',hk⟩|hk <;> simp[Builtin.append_,run_underlying ht.ut,run_underlying hk,sizeOf,typeInfo,hi,S.len,S.cells]
   ·obtain⟨pre,rest,fz,r0,r1,r2,r3,r4,hz0,hp⟩:=ow hw'
    have hmm:m * i.size<=rest.length:=Nat.le_trans (Nat.mul_le_mul_right _ (by omega)) r1
    have hsz:(pre++cs++rest).length=o+n * i.size+rest.length:=by rw[List.length_append,List.length_append,r0,r2]
    have hr:=run_append_room_src (P:=P) w t tx ty e i ht.ut hi g o n cap y m news S hfit (fun j hj=>by
      rw[hp.cell,Array.getElem?_eq_getElem (by simp only[List.size_toArray,hsz];omega)];rfl) (fun j hj=>Pj hp (by simpa using hz0) (by simp only[List.size_toArray,hsz];omega))
    refine⟨_,_,_,hr,?_⟩
    obtain⟨cs',c1,c2,c3⟩:=yB g (o+n * i.size) news w _ _ hp
    have he:cs'=(pre++(cs++news)++rest.drop news.length).toArray:=by
     apply Array.ext_getElem?
     intro j
     rw[c3]
     simp only[List.size_toArray,hsz,List.getElem?_toArray]
     have e1:pre++(cs++news)++rest.drop news.length=(pre++cs)++(news++rest.drop news.length):=by simp[List.append_assoc]
     have hpc:(pre++cs).length=o+n * i.size:=by rw[List.length_append,r0,r2]
     rw[e1]
     by_cases hj:o+n * i.size<=j/\j<o+n * i.size+news.length/\j<o+n * i.size+rest.length
     ·rw[if_pos hj,List.getElem?_append_right (by omega),List.getElem?_append_left (by omega),hpc]
     ·rw[if_neg hj]
      by_cases hj1:j<o+n * i.size
      ·rw[List.getElem?_append_left (l₁:=pre++cs) (l₂:=rest) (by omega),List.getElem?_append_left (l₁:=pre++cs) (l₂:=news++_) (by omega)]
      ·rw[List.getElem?_append_right (l₁:=pre++cs) (l₂:=rest) (by omega),List.getElem?_append_right (l₁:=pre++cs) (l₂:=news++_) (by omega),List.getElem?_append_right (l₁:=news) (by omega),List.getElem?_drop]
       congr 1;omega
    rw[he]at c1
    refine pi (hz0.imp id fun h=>by simp only[List.length_append,List.length_drop]at h ⊢;omega) r0 ?_ ?_ hfit r4 c1
    ·rw[List.length_drop,hnl]
     have:(cap-(n+m)) * i.size+m * i.size=(cap-n) * i.size:=by rw[<- Nat.add_mul];congr 1;omega
     omega
    ·rw[List.length_append,r2,hnl,Nat.add_mul]
  ·refine grow (by omega) ?_
   rcases hd with ⟨rfl,hc0⟩|⟨g,o,pre0,rest0,rfl,_,_,_,_,_⟩
   ·have hcs:cs=[]:=List.eq_nil_of_length_eq_zero (by rw[l1,show n=0 by omega];simp)
    subst hcs
    simp[Builtin.firstCells]
   ·obtain⟨pre,rest,fz,r0,r1,r2,r3,r4,hz0,hp⟩:=ow hw'
    refine run_firstCells_some w.drew i.size n ⟨g,o,none⟩ n cap cs l1 fun j u hu=>?_
    rw[du]
    show w.cell? ⟨g,o+j,none⟩=some u
    rw[hp.cell]
    have hj:j<cs.length:=by
     rcases Nat.lt_or_ge j cs.length with c|c
     ·exact c
     ·rw[List.getElem?_eq_none c]at hu;cases hu
    simp only[List.getElem?_toArray,List.append_assoc]
    rw[List.getElem?_append_right (by omega),show o+j-pre.length=j by omega,List.getElem?_append_left hj,hu]
 obtain⟨a',cap',w',hr,hs⟩:=hrun
 have:(ju #[t,tx] ty [.slice a n cap,y]).run P w= .ok (.value (.slice a' (n+m) cap')) w':=by simp[ju,hr]
 rw[this]
 exact h a' cap' w' hs
theorem iQ {s t e:TypeId} {l:List UInt8} [hs:StrT P s] (ht:P.underlying t=some (.slice e)) (he:P.underlying e=some (.int .u8)) (hl:l.length<=1073741824)
  (h:∀r:Option Addr × Nat,aJ W (jr 1 e r.1 r.2 l.length (l.map B)::L) (k (.slice r.1 l.length r.2))):aJ W L (opN P (ei s t (ay l)) Kp k):=fun w hw=>by
 refine⟨?_⟩
 have hr:=run_bytes_of_string (P:=P) w s t e ⟨l.toArray⟩ hs.ut ht he
 have hge:l.length<=grownCap w l.length 0 e:=grownCap_ge w l.length 0 e
 have hle:grownCap w l.length 0 e<=maxLen:=grownCap_le_maxLen w l.length 0 e (by unfold maxLen;omega)
 have hb:bytesRow ⟨l.toArray⟩ (grownCap w l.length 0 e)=([]++l.map B++(Array.replicate (grownCap w l.length 0 e-l.length) (Value.int .u8 0)).toList).toArray:=by
  apply Array.ext'
  simp[bytesRow,B,ByteArray.size]
 have:(ei s t (ay l)).run P w= .ok (.value (.slice (some ⟨w.heap.size,0,none⟩) l.length (grownCap w l.length 0 e))) (w.drew.alloc (.cells (bytesRow ⟨l.toArray⟩ (grownCap w l.length 0 e)) e ((bytesRow ⟨l.toArray⟩ (grownCap w l.length 0 e)).size,(bytesRow ⟨l.toArray⟩ (grownCap w l.length 0 e)).size+1))):=by
  simp[ei,ay,hr,ByteArray.size]
 rw[this]
 have h2:=(hw.drew).alloc (.cells (bytesRow ⟨l.toArray⟩ (grownCap w l.length 0 e)) e ((bytesRow ⟨l.toArray⟩ (grownCap w l.length 0 e)).size,(bytesRow ⟨l.toArray⟩ (grownCap w l.length 0 e)).size+1))
 rw[hb]at h2 ⊢
 exact h (some ⟨w.drew.heap.size,0,none⟩,grownCap w l.length 0 e) _ (pi (.inr (by simp)) rfl (by simp) (by simp) hge hle h2)
theorem vK {e:TypeId}{g o cap n:Nat}{s:Nat}{cs:List Value}(hl:cs.length=n * s):RdB W (jr s e (some ⟨g,o,none⟩) cap n cs) (some ⟨g,o,none⟩) (n * s) cs:=⟨hl,fun _=>⟨g,o,rfl,fun w L hw j v hv=>by
 obtain⟨pre,rest,fz,r0,r1,r2,r3,r4,hz,hp⟩:=ow hw
 rw[hp.cell]
 have hj:j<cs.length:=by
  rcases Nat.lt_or_ge j cs.length with c|c
  ·exact c
  ·rw[List.getElem?_eq_none c]at hv;cases hv
 subst r0
 simp only[List.getElem?_toArray,List.append_assoc]
 rw[List.getElem?_append_right (by omega),show pre.length+j-pre.length=j by omega,List.getElem?_append_left hj,hv]⟩⟩
end Go.Proofs.YtdjkdjepjahjfaaGreatDoor.Sl
namespace Go.Proofs.YtdjkdjepjahjfaaGreatDoor.Sl
open Go Go.RowKit Sh
theorem Pk {n:Nat}(h:n<18446744073709551616):IntKind.u64.wrap (n:Int)=n:=by
 simp only[IntKind.wrap,IntKind.bits,IntKind.signed]
 simp;omega
theorem gj {n:Nat}(h:n<4294967296):IntKind.u32.wrap (n:Int)=n:=by
 simp only[IntKind.wrap,IntKind.bits,IntKind.signed]
 simp;omega
theorem Pm {n:Nat}(h:n<256):IntKind.u8.wrap (n:Int)=n:=by
 simp only[IntKind.wrap,IntKind.bits,IntKind.signed]
 simp;omega
theorem li {P:Program}{W:World}{t:TypeId}{q:IntKind}{a b:Nat}(hb:0<b)(hw:q.wrap ((a / b:Nat):Int)=((a / b:Nat):Int)):aQ P W [] (a_ .quo t (.int q (a:Int)) (.int q (b:Int))) (.int q ((a / b:Nat):Int)):=fun w _=>by
 have h0:¬(b:Int)=0:=by omega
 have hw':q.wrap ((a:Int) / (b:Int))=(a:Int) / (b:Int):=by rw[show(a:Int) / (b:Int)=((a / b:Nat):Int) by norm_cast,hw]
 simp[a_,sv,eqGuard,binOp,Op.intDiv,h0,show ¬b=0 by omega,hw']
theorem lj {P:Program}{W:World}{t:TypeId}{q:IntKind}{a b:Nat}(hb:0<b):aQ P W [] (a_ .rem t (.int q (a:Int)) (.int q (b:Int))) (.int q ((a%b:Nat):Int)):=by
 have:=tu (P:=P) (W:=W) (t:=t) (q:=q) (a:=(a:Int)) (b:=(b:Int)) (by omega) (by omega)
 rw[show(a:Int)%(b:Int)=((a%b:Nat):Int) by norm_cast]at this
 exact this
theorem ll {P:Program}{W:World}{t:TypeId}{q:IntKind}{a b:Nat}(hw:q.wrap ((a * b:Nat):Int)=((a * b:Nat):Int)):aQ P W [] (a_ .mul t (.int q (a:Int)) (.int q (b:Int))) (.int q ((a * b:Nat):Int)):=by
 have:=zY (P:=P) (W:=W) (t:=t) (q:=q) (a:=(a:Int)) (b:=(b:Int))
 rw[show(a:Int) * (b:Int)=((a * b:Nat):Int) by norm_cast,hw]at this
 exact this
theorem AW {P:Program}{W:World}{t:TypeId}{q:IntKind}{a b:Nat}(hw:q.wrap ((a+b:Nat):Int)=((a+b:Nat):Int)):aQ P W [] (a_ .add t (.int q (a:Int)) (.int q (b:Int))) (.int q ((a+b:Nat):Int)):=by
 have:=vk (P:=P) (W:=W) (t:=t) (q:=q) (a:=(a:Int)) (b:=(b:Int))
 rw[show(a:Int)+(b:Int)=((a+b:Nat):Int) by norm_cast,hw]at this
 exact this
theorem vL {P:Program}{W:World}{t:TypeId}{r:IntKind}{a k:Nat}(hk:k<=64):aQ P W [] (a_ .shr t (.int .u64 (a:Int)) (.int r (k:Int))) (.int .u64 ((a / 2^k:Nat):Int)):=by
 have:=FP (P:=P) (W:=W) (t:=t) (q:= .u64) (r:=r) (a:=(a:Int)) (b:=(k:Int)) (by omega)
 rw[show min ((k:Int)).toNat IntKind.u64.bits=k by simp only[IntKind.bits,Int.toNat_natCast];omega,Int.fdiv_eq_ediv_of_nonneg _ (Int.le_of_lt (Int.pow_pos (by decide))),show(a:Int) / 2^k=((a / 2^k:Nat):Int) by norm_cast]at this
 exact this
theorem Pn {P:Program}{W:World}{q:IntKind}{a:Int}:aQ P W [] (zu .neg (.int q a)) (.int q (q.wrap (-a))):=fun w _=>by
 simp[zu,Op.unary,Op.intArith]
theorem AY {P:Program}{W:World}{t e:TypeId}{s len:Nat}{g l:Nat}{q r:IntKind}{i j:Int}(h:Nat)[ht:ArrT P t len e s](hi:i=(l:Int))(hj:j=(h:Int))(hlh:l<=h)(hl:h<=len)(h0:l<len):aQ P W [] (n8 t (.pointer (some ⟨g,0,none⟩)) (some (.int q i)) (some (.int r j)) none) (.slice (some ⟨g,l * s,none⟩) (h-l) (len-l)):=fun w _=>by
 have hne:¬len=l:=by omega
 simp[n8,Instr.sliceAt,Instr.sliceBounds,ht.ut,ht.size,iK h hj hl,iK l hi hlh,Instr.sureAddr,hne,Addr.add]
 exact fun h=>h.symm
theorem Ea {P:Program}{W:World}{t e:TypeId}{s len:Nat}{g:Nat}{q:IntKind}{j:Int}(h:Nat)[ht:ArrT P t len e s](hj:j=(h:Int))(hl:h<=len)(h0:0<len):aQ P W [] (n8 t (.pointer (some ⟨g,0,none⟩)) none (some (.int q j)) none) (.slice (some ⟨g,0,none⟩) h len):=fun w _=>by
 have hne:len≠0:=by omega
 simp[n8,Instr.sliceAt,Instr.sliceBounds,ht.ut,ht.size,iK h hj hl,Instr.sureAddr,hne,Addr.add]
theorem Gk {P:Program}{W:World}{t:TypeId}{l:List UInt8}{q r:IntKind}{i j:Int}(a b:Nat)[ht:StrT P t](hi:i=(a:Int))(hj:j=(b:Int))(hab:a<=b)(hb:b<=l.length):aQ P W [] (n8 t (ay l) (some (.int q i)) (some (.int r j)) none) (ay ((l.take b).drop a)):=fun w _=>by
 have e:(⟨l.toArray⟩:ByteArray).extract a b=⟨((l.take b).drop a).toArray⟩:=by
  apply ByteArray.ext
  apply Array.ext'
  rw[ByteArray.data_extract]
  simp[List.extract_eq_take_drop,List.drop_take]
 have h1:=mE (P:=P) (q:=q) (w:=w) (i:=i) (y:=b) (c:= .sliceB) a hi hab
 have h2:=mE (P:=P) (q:=r) (w:=w) (i:=j) (y:=l.length) (c:= .sliceAlen) b hj hb
 have e0:(⟨l.toArray⟩:ByteArray).size=l.length:=rfl
 simp[n8,Instr.sliceAt,Instr.slice,Instr.sliceBounds,run_underlying ht.ut,ay,e0,h1,h2,e]
theorem AZ {W:World}{g o n:Nat}{cs:Array Value}{ds:List Value}{T:TypeId}{fz:Nat × Nat}(hl:ds.length=n)(h:∀(j:Nat) (v:Value),ds[j]? =some v->cs[o+j]? =some v):RdB W (pt g (.cells cs T fz)) (some ⟨g,o,none⟩) n ds:=⟨hl,fun _=>⟨g,o,rfl,fun w L hw j v hv=>by rw[hw.cell];exact h j v hv⟩⟩
end Go.Proofs.YtdjkdjepjahjfaaGreatDoor.Sl
namespace Go.Proofs.YtdjkdjepjahjfaaGreatDoor.FD
open Go Go.Proofs Go.RowKit Sh Sl T
class Gp (W:World):Prop where
 lt:0<W.heap.size
 at_:∀j,j<20->W.cell? ⟨0,j,none⟩=some (.int .u64 ((10^j:Nat):Int))
def jY (u n:Nat):Prop:=u<2^n/\(n=0\/2^(n-1)<=u)
theorem jZ {u k n:Nat}(h:jY (u / 2^k) n)(hk:2^k<=u):jY u (n+k):=by
 obtain⟨h1,h2⟩:=h
 have h0:0<u / 2^k:=Nat.div_pos hk (Nat.pow_pos (by decide))
 refine⟨?_,.inr ?_⟩
 ·rw[Nat.pow_add];exact(Nat.div_lt_iff_lt_mul (Nat.pow_pos (by decide))).1 h1
 ·rcases h2 with h2|h2
  ·subst h2;simp at h1;omega
  ·have hn:n≠0:=fun c=>by subst c;simp at h1;omega
   rw[show n+k-1=(n-1)+k by omega,Nat.pow_add]
   exact(Nat.le_div_iff_mul_le (Nat.pow_pos (by decide))).1 h2
theorem Un:∀x,x<256->∃n,S.o6[x]? =some (UInt8.ofNat n)/\n<=8/\jY x n:=by
 have:∀x,x<256->((S.o6[x]?.map UInt8.toNat).getD 9<=8/\x<2^((S.o6[x]?.map UInt8.toNat).getD 9)/\((S.o6[x]?.map UInt8.toNat).getD 9=0\/2^((S.o6[x]?.map UInt8.toNat).getD 9-1)<=x)):=by decide+kernel
 intro x hx
 obtain⟨h1,h2,h3⟩:=this x hx
 have hl:x<S.o6.length:=by rw[show S.o6.length=256 by decide+kernel];exact hx
 refine⟨S.o6[x].toNat,?_,?_,?_,?_⟩
 ·rw[List.getElem?_eq_getElem hl,UInt8.ofNat_toNat]
 all_goals rw[List.getElem?_eq_getElem hl]at h1 h2 h3
 ·exact h1
 ·exact h2
 ·exact h3
theorem Po {W:World}{u:Nat}(hu:u<18446744073709551616):Cn p_ 349 [.int .u64 (u:Int)] W [] (fun n:{n:Nat // n<=64/\jY u n}=> .int .i64 (n.1:Int)) (fun _=>[]):=by
 (refine S.lP.cn fun F=>?_;unfold S.jp;simp only[ca_,na_])
 refine fJ (fun x y=>pu (∃v s:Nat,x= .int .u64 (v:Int)/\y= .int .i64 (s:Int)/\v<4294967296/\s<=32/\∀n,jY v n->jY u (n+s))::F) ?_ ?_
 rotate_left
 ·refine bz dt .nil (fun h=>?_) (fun h=>?_)
  ·refine ai (o_ (vL (k:=32) (by decide)) ?_)
   refine aN (.pu ⟨_,32,rfl,rfl,by omega,by omega,fun n hn=>jZ hn (by omega)⟩ .refl)
  ·refine af (aN (.pu ⟨u,0,rfl,rfl,by omega,by omega,fun n hn=>hn⟩ .refl))
 intro ds x y
 refine aT .here fun hi=>?_
 obtain⟨v,s,rfl,rfl,hv,hs,hL⟩:=hi
 refine fJ (fun x y=>pu (∃v s:Nat,x= .int .u64 (v:Int)/\y= .int .i64 (s:Int)/\v<65536/\s<=48/\∀n,jY v n->jY u (n+s))::F) ?_ ?_
 rotate_left
 ·refine bz dt .nil (fun h=>?_) (fun h=>?_)
  ·refine ai (o_ (vL (k:=16) (by decide)) ?_)
   refine bP ?_
   refine aN (.pu ⟨_,s+16,rfl,by norm_cast,by omega,by omega,fun n hn=>by rw[show n+(s+16)=(n+16)+s by omega];exact hL _ (jZ hn (by omega))⟩ .refl)
  ·refine af (aN (.pu ⟨v,s,rfl,rfl,by omega,by omega,hL⟩ .refl))
 intro ds2 x y
 refine aT .here fun hi=>?_
 obtain⟨v2,s2,rfl,rfl,hv2,hs2,hL2⟩:=hi
 refine fJ (fun x y=>pu (∃v s:Nat,x= .int .u64 (v:Int)/\y= .int .i64 (s:Int)/\v<256/\s<=56/\∀n,jY v n->jY u (n+s))::F) ?_ ?_
 rotate_left
 ·refine bz dt .nil (fun h=>?_) (fun h=>?_)
  ·refine ai (o_ (vL (k:=8) (by decide)) ?_)
   refine bP ?_
   refine aN (.pu ⟨_,s2+8,rfl,by norm_cast,by omega,by omega,fun n hn=>by rw[show n+(s2+8)=(n+8)+s2 by omega];exact hL2 _ (jZ hn (by omega))⟩ .refl)
  ·refine af (aN (.pu ⟨v2,s2,rfl,rfl,by omega,by omega,hL2⟩ .refl))
 intro ds3 x y
 refine aT .here fun hi=>?_
 obtain⟨v3,s3,rfl,rfl,hv3,hs3,hL3⟩:=hi
 refine o_ (eN (q:= .u8)) ?_
 rw[Pm hv3]
 obtain⟨n,h1,h2,h3⟩:=Un v3 hv3
 have hl:v3<S.o6.length:=by rw[show S.o6.length=256 by decide+kernel];exact hv3
 rw[List.getElem?_eq_getElem hl]at h1
 have h1:=Option.some.inj h1
 refine o_ (ew v3 rfl hl) ?_
 rw[h1,show Sl.B (UInt8.ofNat n)= .int .u8 (n:Int) by unfold Sl.B;rw[UInt8.toNat_ofNat'];rw[Nat.mod_eq_of_lt (by omega)]]
 refine o_ (eN (q:= .i64)) ?_
 rw[Kb (by omega) (by omega)]
 refine bP ?_
 refine bK ⟨n+s3,by omega,hL3 n h3⟩ (by(try dsimp only);congr 1;omega) ?_
 exact .refl
def H9 (u n:Nat):Prop:=1<=n/\n<=20/\10^(n-1)<=u/\u<10^n
theorem A0:∀b,b<=64->b * 78913 / 262144<=19/\2^b<=10^(b * 78913 / 262144+1)/\(b * 78913 / 262144≠0->10^(b * 78913 / 262144-1)<=2^(b-1)):=by decide+kernel
theorem Pp {u b:Nat}(hu:u≠0)(hb:b<=64)(h:jY u b):H9 u (b * 78913 / 262144+(if 10^(b * 78913 / 262144)<=u then 1 else 0)):=by
 obtain⟨h1,h2⟩:=h
 obtain⟨t1,t2,t3⟩:=A0 b hb
 generalize b * 78913 / 262144=k at t1 t2 t3 ⊢
 by_cases c:10^k<=u
 ·rw[if_pos c]
  exact⟨by omega,by omega,by rw[Nat.add_sub_cancel];exact c,by omega⟩
 ·rw[if_neg c]
  have hk:k≠0:=fun e=>c (by subst e;simp;omega)
  have hb0:b≠0:=fun e=>by subst e;simp at h1;omega
  exact⟨by omega,by omega,by have:=t3 hk;rw[Nat.add_zero];omega,by rw[Nat.add_zero];omega⟩
theorem yC {W:World}[hG:Gp W]{u:Nat}(hu:u<18446744073709551616)(h0:u≠0):Cn p_ 240 [.int .u64 (u:Int)] W [] (fun n:{n:Nat // H9 u n}=> .int .i64 (n.1:Int)) (fun _=>[]):=by
 have hlog:∀b:Nat,b<=64->Cn p_ 348 [.int .i64 (b:Int)] W [] (fun _:Unit=> .int .i64 ((b * 78913 / 262144:Nat):Int)) (fun _=>[]):=fun b hb=>by
  (refine Shp.cn (Sg.g_ Tryz.call348 Tryz.func348) fun F=>?_;simp only[ca_,na_])
  refine o_ (tq (by omega) (by omega)) ?_
  refine o_ (FP (by decide)) ?_
  rw[show min (18:Int).toNat IntKind.i64.bits=18 from rfl,Int.fdiv_eq_ediv_of_nonneg _ (by decide),show((b:Int) * 78913) / 2^18=((b * 78913 / 262144:Nat):Int) by omega]
  refine aR () ?_
  exact .refl
 have hbool:∀b:Bool,Cn p_ 350 [.bool b] W [] (fun _:Unit=> .int .i64 (if b then 1 else 0)) (fun _=>[]):=fun b=>by
  (refine Shp.cn (Sg.g_ Tryz.call350 Tryz.func350) fun F=>?_;simp only[ca_,na_])
  cases b with
  |true=>
   refine ai (aR () ?_)
   exact .refl
  |false=>
   refine af (aR () ?_)
   exact .refl
 (refine Shp.cn (Sg.g_ Tryz.call240 Tryz.func240) fun F=>?_;simp only[ca_,na_])
 refine c_ (Po hu) fun _=>?_
 rename_i b
 obtain⟨b,hb,hL⟩:=b
 (try dsimp only)
 refine c_ (hlog b hb) fun _=>?_
 have hnd:=Pp h0 hb hL
 have hk:=(A0 b hb).1
 generalize b * 78913 / 262144=k at hk hnd ⊢
 refine o_ (ib k rfl (by omega)) ?_
 rw[Nat.zero_add,Nat.mul_one]
 refine o_ (wT hG.lt (hG.at_ k (by omega))) ?_
 refine o_ dt (c_ (hbool _) fun _=>?_)
 refine o_ (g9 (by split <;> omega) (by split <;> omega)) ?_
 refine bK ⟨_,hnd⟩ ?_ .refl
 (try dsimp only)
 congr 1
 by_cases c:10^k<=u
 ·rw[if_pos c,if_pos (dT_ (by norm_cast))];norm_cast
 ·rw[if_neg c,if_neg (fun d=>c (by have:=of_decide_eq_true d;norm_cast at this))];norm_cast
end Go.Proofs.YtdjkdjepjahjfaaGreatDoor.FD
namespace Go.Proofs.YtdjkdjepjahjfaaGreatDoor.FD
open Go Go.Proofs Go.RowKit Sh Sl T
def Dn (f:Nat->Nat):Array Value:=((List.range 24).map fun j=>Value.int .u8 (f j:Int)).toArray
theorem ij (f:Nat->Nat):(Dn f).size=24:=by simp[Dn]
theorem pk {j:Nat}{f:Nat->Nat}(h:j<24):(Dn f)[j]? =some (.int .u8 (f j:Int)):=by simp[Dn,h]
def ss (f:Nat->Nat)(j v:Nat):Nat->Nat:=fun i=>if i=j then v else f i
theorem su {j:Nat}{f:Nat->Nat}{v:Nat}:(Dn f).setIfInBounds j (.int .u8 (v:Int))=Dn (ss f j v):=by
 apply Array.ext_getElem?
 intro i
 rw[Array.getElem?_setIfInBounds]
 by_cases h:i<24
 ·rw[pk h,pk h]
  unfold ss
  by_cases c:j=i
  ·subst c;rw[if_pos rfl,if_pos (by rw[ij];exact h),if_pos rfl]
  ·rw[if_neg c,if_neg (fun e=>c e.symm)]
 ·rw[Array.getElem?_eq_none (xs:=Dn f) (by rw[ij];omega),Array.getElem?_eq_none (xs:=Dn (ss f j v)) (by rw[ij];omega)]
  by_cases c:j=i
  ·subst c;rw[if_pos rfl,if_neg (by rw[ij];exact h)]
  ·rw[if_neg c]
def f8 (u n k:Nat)(f:Nat->Nat):Nat->Nat:=fun j=>if k<j/\j<=n then 48+u / 10^(n-j)%10 else f j
theorem A1 (u n:Nat)(f:Nat->Nat):f8 u n n f=f:=by
 funext j
 unfold f8
 rw[if_neg (by omega)]
theorem w6 (u a b:Nat):u / 10^(a+b)=u / 10^a / 10^b:=by rw[Nat.pow_add,Nat.div_div_eq_div_mul]
theorem pm {u n k:Nat}{f:Nat->Nat}(h1:1<=k)(h2:k<=n):ss (f8 u n k f) k (48+u / 10^(n-k)%10)=f8 u n (k-1) f:=by
 funext j
 unfold ss f8
 by_cases c:j=k
 ·subst c;rw[if_pos rfl,if_pos (by omega)]
 ·rw[if_neg c]
  by_cases d:k<j/\j<=n
  ·rw[if_pos d,if_pos (by omega)]
  ·rw[if_neg d,if_neg (by omega)]
theorem yD {u n k y:Nat}{f:Nat->Nat}(h1:2<=k)(h2:k<=n)(hy:y=u / 10^(n-k)%100):ss (ss (f8 u n k f) k (48+y%10)) (k-1) (48+y / 10)=f8 u n (k-2) f:=by
 have e1:48+y%10=48+u / 10^(n-k)%10:=by omega
 have e2:48+y / 10=48+u / 10^(n-(k-1))%10:=by
  rw[show n-(k-1)=(n-k)+1 by omega,w6,Nat.pow_one];omega
 rw[e1,e2,pm (by omega) h2,pm (by omega) (by omega)]
 rfl
theorem A2:∀y,y<100->S.fL[y * 2]? =some (UInt8.ofNat (48+y / 10))/\S.fL[y * 2+1]? =some (UInt8.ofNat (48+y%10)):=by decide+kernel
theorem pn:S.fL.length=200:=by decide+kernel
theorem w7 {n:Nat}(h:n<256):Sl.B (UInt8.ofNat n)= .int .u8 (n:Int):=by unfold Sl.B;rw[UInt8.toNat_ofNat'];rw[Nat.mod_eq_of_lt h]
theorem Pq {W:World}{y:Nat}(hy:y<100):aQ p_ W [] (mB 9 (ay S.fL) (.int .u32 ((y * 2:Nat):Int))) (.int .u8 ((48+y / 10:Nat):Int)):=by
 have hl:y * 2<S.fL.length:=by rw[pn];omega
 have h:=(A2 y hy).1
 rw[List.getElem?_eq_getElem hl]at h
 have:=ew (P:=p_) (W:=W) (t:=9) (l:=S.fL) (q:= .u32) (i:=((y * 2:Nat):Int)) (y * 2) rfl hl
 rw[Option.some.inj h,w7 (by omega)]at this
 exact this
theorem Pt {W:World}{y:Nat}(hy:y<100):aQ p_ W [] (mB 9 (ay S.fL) (.int .u32 ((y * 2+1:Nat):Int))) (.int .u8 ((48+y%10:Nat):Int)):=by
 have hl:y * 2+1<S.fL.length:=by rw[pn];omega
 have h:=(A2 y hy).2
 rw[List.getElem?_eq_getElem hl]at h
 have:=ew (P:=p_) (W:=W) (t:=9) (l:=S.fL) (q:= .u32) (i:=((y * 2+1:Nat):Int)) (y * 2+1) rfl hl
 rw[Option.some.inj h,w7 (by omega)]at this
 exact this
theorem lr {W:World} {L:List HP} {Kp:PK} {REST:WP} {g n c k u y:Nat} {K c1 c2:Int} {f:Nat->Nat} {T:TypeId} (hK1:K-c1=((k-1:Nat):Int)) (hK2:K-c2=((k-2:Nat):Int)) (h1:2<=k) (h2:k<=n) (h3:n<=20) (hy:y=u / 10^(n-k)%100)
    (h:aJ W (pt g (.cells (Dn (f8 u n (k-2) f)) T (0,0))::L) REST):
    aJ W (pt g (.cells (Dn (f8 u n k f)) T (0,0))::L) (n5 (stS p_ (a_ .sub 3 (.int .i64 K) (.int .i64 c1)) fun x44=>
     stD p_ (a_ .sub 3 (.int .i64 K) (.int .i64 c2)) fun D5 x47=>
     stS p_ (a_ .add 484 (.int .u32 ((y * 2:Nat):Int)) (.int .u32 1)) fun x49=>
     stS p_ (mB 9 (ay S.fL) x49) fun x50=>
     stD p_ (mB 9 (ay S.fL) (.int .u32 ((y * 2:Nat):Int))) fun D10 x52=>
     stS p_ (kL 35 (.slice (some ⟨g,1,none⟩) n c) x44) fun x53=>
     opN p_ (aM 5 x53 x50) Kp fun _=>
     (fun w=>D10 w/\(fun w=>D5 w/\(stS p_ (kL 35 (.slice (some ⟨g,1,none⟩) n c) x47) fun x54=>
        opN p_ (aM 5 x54 x52) Kp fun _=>REST) w) w))):=by
  have hy100:y<100:=by omega
  refine aW (t_ (hO (by omega) (by omega)) ?_)
  refine aq (hO (by omega) (by omega)) .nil ?_
  refine t_ (AW (a:=y * 2) (b:=1) (gj (by omega))) ?_
  refine t_ (Pt hy100) ?_
  refine aq (Pq hy100) .nil ?_
  refine t_ (bq (k-1) hK1 (by omega)) ?_
  refine qj .here (by rw[ij];omega) ?_
  refine nw Imp.nil (nw .nil ?_)
  refine t_ (bq (k-2) hK2 (by omega)) ?_
  refine qj .here (by rw[Array.size_setIfInBounds,ij];omega) ?_
  rw[su,su,show 1+(k-1)=k by omega,show 1+(k-2)=k-1 by omega,yD h1 h2 hy]
  exact h
theorem w8 {W:World}{n:Nat}(h:n<4294967296):aQ p_ W [] (ei 374 484 (.int .u64 (n:Int))) (.int .u32 (n:Int)):=by
 have:=eN (P:=p_) (W:=W) (s:=374) (t:=484) (p:= .u64) (q:= .u32) (r:= .u64) (n:=(n:Int))
 rw[gj h]at this
 exact this
theorem A3 {W:World}{g n c u:Nat}{f:Nat->Nat}{T:TypeId}(h1:1<=n)(h3:n<=20)(hu:u<10^n)(hu64:u<18446744073709551616):
  Cn p_ 241 [.slice (some ⟨g,1,none⟩) n c,.int .u64 (u:Int)] W [pt g (.cells (Dn f) T (0,0))] (fun _:Unit=> .tuple #[]) (fun _=>[pt g (.cells (Dn (f8 u n 0 f)) T (0,0))]):=by
 (refine S.iN.cn fun F=>?_;unfold S.fA;simp only[ca_,na_])
 refine o_ aI (cp (fun m x y=>(ex fun k:Nat=>all [pu (m=k/\y= .int .i64 (k:Int)/\x= .int .u64 ((u / 10^(n-k):Nat):Int)/\k<=n),pt g (.cells (Dn (f8 u n k f)) T (0,0))])::F) n ?_ ?_)
 ·refine .ex n (.all ?_)
  refine am ?_
  refine .pu ⟨rfl,rfl,by rw[Nat.sub_self];simp,Nat.le_refl _⟩ ?_
  rw[A1]
  exact az
 intro m ds x y
 refine a8 .here fun k=>aB .here ?_
 refine am ?_
 refine aT .here fun hi=>?_
 obtain⟨rfl,rfl,rfl,hk⟩:=hi
 obtain⟨v,hv⟩:∃v,v=u / 10^(n-m):=⟨_,rfl⟩
 have hvu:v<18446744073709551616:=Nat.lt_of_le_of_lt (by rw[hv];exact Nat.div_le_self _ _) hu64
 have hvk:v<10^m:=by
  rw[hv,Nat.div_lt_iff_lt_mul (Nat.pow_pos (by decide)),<- Nat.pow_add,show m+(n-m)=n by omega];exact hu
 rw[<- hv]
 refine bz dt .nil (fun h=>?_) (fun h=>?_)
 ·have h8:8<=m:=by omega
  have hs:∀i,i<=m->u / 10^(n-(m-i))=v / 10^i:=fun i hi=>by rw[show n-(m-i)=(n-m)+i by omega,w6,<- hv]
  refine ai (o_ (lj (b:=100000000) (by decide)) ?_)
  refine o_ (w8 (by omega)) ?_
  refine o_ (li (b:=100000000) (by decide) (Pk (by omega))) ?_
  refine o_ (li (b:=10000) (by decide) (gj (by omega))) ?_
  refine o_ (lj (b:=10000) (by decide)) ?_
  refine o_ (li (b:=100) (by decide) (gj (by omega))) ?_
  refine o_ (ll (b:=2) (gj (by omega))) ?_
  refine o_ (lj (b:=100) (by decide)) ?_
  refine o_ (ll (b:=2) (gj (by omega))) ?_
  refine o_ (li (b:=100) (by decide) (gj (by omega))) ?_
  refine o_ (ll (b:=2) (gj (by omega))) ?_
  refine o_ (lj (b:=100) (by decide)) ?_
  refine o_ (ll (b:=2) (gj (by omega))) ?_
  refine lr (u:=u) (n:=n) (k:=m) (by omega) (by omega) (by omega) hk h3 (by rw[<- hv];omega) ?_
  refine lr (u:=u) (n:=n) (k:=m-2) (by omega) (by omega) (by omega) (by omega) h3 (by rw[hs 2 (by omega)];omega) ?_
  refine lr (u:=u) (n:=n) (k:=m-2-2) (by omega) (by omega) (by omega) (by omega) h3 (by rw[show m-2-2=m-4 by omega,hs 4 (by omega)];omega) ?_
  refine lr (u:=u) (n:=n) (k:=m-2-2-2) (by omega) (by omega) (by omega) (by omega) h3 (by rw[show m-2-2-2=m-6 by omega,hs 6 (by omega)];omega) ?_
  refine rZ ?_
  refine bI (m-8) (by omega) (.ex (m-8) (.all ?_))
  refine am ?_
  refine .pu ⟨rfl,by congr 1;omega,by rw[hs 8 h8],by omega⟩ ?_
  rw[show m-2-2-2-2=m-8 by omega]
  exact az
 ·have h8:m<8:=by omega
  have hv8:v<100000000:=Nat.lt_of_lt_of_le hvk (Nat.pow_le_pow_right (by decide) (show m<=8 by omega))
  refine af (o_ (w8 (by omega)) ?_)
  refine fJ (fun x y=>(ex fun k:Nat=>all [pu (x= .int .i64 (k:Int)/\y= .int .u32 ((u / 10^(n-k):Nat):Int)/\k<=n/\k<4/\u / 10^(n-k)<10^k),pt g (.cells (Dn (f8 u n k f)) T (0,0))])::F) ?_ ?_
  rotate_left
  ·refine bz dt .nil (fun h=>?_) (fun h=>?_)
   ·have h4:4<=m:=by omega
    have hs:∀i,i<=m->u / 10^(n-(m-i))=v / 10^i:=fun i hi=>by rw[show n-(m-i)=(n-m)+i by omega,w6,<- hv]
    refine ai (o_ (lj (b:=10000) (by decide)) ?_)
    refine o_ (li (b:=10000) (by decide) (gj (by omega))) ?_
    refine o_ (li (b:=100) (by decide) (gj (by omega))) ?_
    refine o_ (ll (b:=2) (gj (by omega))) ?_
    refine o_ (lj (b:=100) (by decide)) ?_
    refine o_ (ll (b:=2) (gj (by omega))) ?_
    refine lr (u:=u) (n:=n) (k:=m) (by omega) (by omega) (by omega) hk h3 (by rw[<- hv];omega) ?_
    refine lr (u:=u) (n:=n) (k:=m-2) (by omega) (by omega) (by omega) (by omega) h3 (by rw[hs 2 (by omega)];omega) ?_
    refine rZ ?_
    refine aN (.ex (m-4) (.all ?_))
    refine am ?_
    rw[hs 4 h4]
    refine .pu ⟨by congr 1;omega,rfl,by omega,by omega,?_⟩ ?_
    ·rw[Nat.div_lt_iff_lt_mul (Nat.pow_pos (by decide)),<- Nat.pow_add,show m-4+4=m by omega];exact hvk
    rw[show m-2-2=m-4 by omega]
    exact az
   ·refine af (aN (.ex m (.all ?_)))
    refine am ?_
    rw[<- hv]
    refine .pu ⟨rfl,rfl,hk,by omega,hvk⟩ ?_
    exact az
  clear hvk hv8 hvu hv h8 hk
  clear v
  intro ds2 x y
  refine a8 .here fun k=>aB .here ?_
  refine am ?_
  refine aT .here fun hi=>?_
  obtain⟨rfl,rfl,hk,hk4,hvk⟩:=hi
  obtain⟨v,hv⟩:∃v,v=u / 10^(n-k):=⟨_,rfl⟩
  rw[<- hv]at hvk ⊢
  have hv4:v<10000:=Nat.lt_of_lt_of_le hvk (Nat.pow_le_pow_right (by decide) (show k<=4 by omega))
  refine fJ (fun x y=>(ex fun k:Nat=>all [pu (x= .int .i64 (k:Int)/\y= .int .u32 ((u / 10^(n-k):Nat):Int)/\k<=n/\k<2/\u / 10^(n-k)<10^k),pt g (.cells (Dn (f8 u n k f)) T (0,0))])::F) ?_ ?_
  rotate_left
  ·refine bz dt .nil (fun h=>?_) (fun h=>?_)
   ·have h2:2<=k:=by omega
    have hs:∀i,i<=k->u / 10^(n-(k-i))=v / 10^i:=fun i hi=>by rw[show n-(k-i)=(n-k)+i by omega,w6,<- hv]
    refine ai (o_ (lj (b:=100) (by decide)) ?_)
    refine o_ (ll (b:=2) (gj (by omega))) ?_
    refine o_ (li (b:=100) (by decide) (gj (by omega))) ?_
    refine lr (u:=u) (n:=n) (k:=k) (by omega) (by omega) (by omega) hk h3 (by rw[<- hv]) ?_
    refine rZ ?_
    refine aN (.ex (k-2) (.all ?_))
    refine am ?_
    rw[hs 2 h2]
    refine .pu ⟨by congr 1;omega,rfl,by omega,by omega,?_⟩ ?_
    ·rw[Nat.div_lt_iff_lt_mul (Nat.pow_pos (by decide)),<- Nat.pow_add,show k-2+2=k by omega];exact hvk
    exact az
   ·refine af (aN (.ex k (.all ?_)))
    refine am ?_
    rw[<- hv]
    refine .pu ⟨rfl,rfl,hk,by omega,hvk⟩ ?_
    exact az
  clear hvk hv4 hv hk hk4
  clear v k
  intro ds3 x y
  refine a8 .here fun k=>aB .here ?_
  refine am ?_
  refine aT .here fun hi=>?_
  obtain⟨rfl,rfl,hk,hk2,hvk⟩:=hi
  refine bz eu .nil (fun h=>?_) (fun h=>?_)
  ·obtain rfl:k=1:=by omega
   have hv1:u / 10^(n-1)<10:=by simpa using hvk
   refine ai (o_ (AW (a:=48) (gj (by omega))) ?_)
   refine o_ (eN (q:= .u8)) ?_
   rw[Pm (by omega)]
   refine o_ (bq 0 rfl (by omega)) ?_
   refine qj .here (by rw[ij];omega) ?_
   rw[su,Nat.add_zero,show 48+u / 10^(n-1)=48+u / 10^(n-1)%10 by rw[Nat.mod_eq_of_lt hv1],pm (by omega) h1]
   refine aR () ?_
   exact az
  ·obtain rfl:k=0:=by omega
   refine af (aR () ?_)
   exact az
def sw (u n:Nat):List UInt8:=(List.range n).map fun j=>UInt8.ofNat (48+u / 10^(n-1-j)%10)
def MB (u:Nat):Nat:=((List.range 21).find? fun n=>decide (u<10^n)).getD 20
theorem H_ {u n:Nat}(h:H9 u n):MB u=n:=by
 obtain⟨h1,h2,h3,h4⟩:=h
 have:(List.range 21).find? (fun n=>decide (u<10^n))=some n:=by
  rw[List.find?_range_eq_some]
  refine⟨by simpa using h4,by simp;omega,fun j hj=>?_⟩
  have:10^j<=10^(n-1):=Nat.pow_le_pow_right (by decide) (by omega)
  simp;omega
 unfold MB
 rw[this];rfl
def eg (i:Int):List UInt8:=
 if 0<=i/\i<100 then(if i<10 then [UInt8.ofNat (48+i.toNat)]else [UInt8.ofNat (48+i.toNat / 10),UInt8.ofNat (48+i.toNat%10)])
 else if i<0 then 45::sw i.natAbs (MB i.natAbs)else sw i.natAbs (MB i.natAbs)
theorem iR (u n:Nat):(sw u n).length=n:=by simp[sw]
theorem eL {i:Int}(h: -9223372036854775808<=i)(h2:i<=9223372036854775807):(eg i).length<=21:=by
 have hn:MB i.natAbs<=20:=by
  unfold MB
  cases hf:(List.range 21).find? fun n=>decide (i.natAbs<10^n)with
  |none=>exact Nat.le_refl _
  |some n=>
   have:=List.mem_range.1 (List.mem_of_find?_eq_some hf)
   simp only[Option.getD_some];omega
 unfold eg
 split
 ·split <;> simp
 ·split
  ·rw[List.length_cons,iR];omega
  ·rw[iR];omega
theorem Ia {W:World}{g u n:Nat}{f:Nat->Nat}{T:TypeId}(h3:n<=20):RdB W (pt g (.cells (Dn (f8 u n 0 f)) T (0,0))) (some ⟨g,1,none⟩) n ((sw u n).map Sl.B):=by
 refine AZ (by rw[List.length_map,iR]) fun j v hv=>?_
 have hj:j<n:=by
  rcases Nat.lt_or_ge j n with c|c
  ·exact c
  ·rw[List.getElem?_eq_none (by rw[List.length_map,iR];exact c)]at hv;cases hv
 rw[List.getElem?_map]at hv
 unfold sw at hv
 rw[List.getElem?_map,List.getElem?_range hj]at hv
 simp only[Option.map_some]at hv
 rw[w7 (by omega)]at hv
 rw[pk (by omega),<- hv]
 unfold f8
 rw[if_pos (by omega),show n-(1+j)=n-1-j by omega]
theorem Gm {G H:Prop}(k:G->H)(m:G):H:=k m
theorem Pu {W:World}{n:Nat}(h:n<100):Cn p_ 239 [.int .i64 (n:Int)] W [] (fun _:Unit=>ay (eg n)) (fun _=>[]):=by
 have hd:eg (n:Int)=if n<10 then [UInt8.ofNat (48+n)]else [UInt8.ofNat (48+n / 10),UInt8.ofNat (48+n%10)]:=by
  unfold eg
  rw[if_pos (by omega),Int.toNat_natCast]
  by_cases c:n<10
  ·rw[if_pos (by omega),if_pos c]
  ·rw[if_neg (by omega),if_neg c]
 (refine S.mL.cn fun F=>?_;unfold S.jV;simp only[ca_,na_])
 refine bz bD .nil (fun h=>?_) (fun h=>?_)
 ·have h10:n<10:=by omega
  rw[hd,if_pos h10]
  refine ai (bP ?_)
  refine o_ (Gk (l:=[48,49,50,51,52,53,54,55,56,57,97,98,99,100,101,102,103,104,105,106,107,108,109,110,111,112,113,114,115,116,117,118,119,120,121,122]) n (n+1) rfl (by omega) (by omega) (by simp;omega)) ?_
  have:∀n,n<10->((([48,49,50,51,52,53,54,55,56,57,97,98,99,100,101,102,103,104,105,106,107,108,109,110,111,112,113,114,115,116,117,118,119,120,121,122]:List UInt8).take (n+1)).drop n)=[UInt8.ofNat (48+n)]:=by decide+kernel
  rw[this n h10]
  refine aR () ?_
  exact .refl
 ·have h10:¬n<10:=by omega
  rw[hd,if_neg h10]
  refine af (o_ (tq (by omega) (by omega)) ?_)
  refine o_ (tq (by omega) (by omega)) ?_
  refine bP ?_
  refine o_ (Gk (n * 2) (n * 2+2) (by omega) (by omega) (by omega) (by rw[pn];omega)) ?_
  have:∀n,n<100->((S.fL.take (n * 2+2)).drop (n * 2))=[UInt8.ofNat (48+n / 10),UInt8.ofNat (48+n%10)]:=by decide+kernel
  rw[this n (by omega)]
  refine aR () ?_
  exact .refl
theorem yE {W:World}[hG:Gp W]{i:Int}(h1: -9223372036854775808<=i)(h2:i<=9223372036854775807):Cn p_ 147 [.int .i64 i,.int .i64 10] W [] (fun _:Unit=>ay (eg i)) (fun _=>[]):=by
 (refine Shp.cn (Sg.g_ Tryz.call147 Tryz.func147 (an:={cuts:=[(8,[6])]})) fun F=>?_;simp only[ca_,na_])
 refine o_ cH ?_
 rw[dT_ rfl]
 refine ai ?_
 by_cases hs:0<=i/\i<100
 ·obtain⟨n,rfl⟩:=Int.eq_ofNat_of_zero_le hs.1
  refine o_ iF ?_
  rw[dT_ hs.1]
  refine ab (ab (o_ bD ?_))
  rw[dT_ hs.2]
  refine o_ av (ai (c_ (Pu (n:=n) (by omega)) fun _=>?_))
  refine aR () ?_
  exact .refl
 have hu:i.natAbs<18446744073709551616:=by omega
 have hu0:i.natAbs≠0:=by omega
 have d1:i<0->decide (0<=i)=false:=fun h=>dF_ (by omega)
 have d2:¬i<0->decide (0<=i)=true:=fun h=>dT_ (by omega)
 have d3:¬i<0->decide (i<100)=false:=fun h=>dF_ (by omega)
 refine' Gm ?_ ?_
 rotate_left
 ·intro main
  by_cases h0:i<0
  ·refine o_ iF ?_
   rw[d1 h0]
   exact aj (aj (o_ ak main))
  ·refine o_ iF ?_
   rw[d2 h0]
   refine ab (ab (o_ bD ?_))
   rw[d3 h0]
   exact o_ av main
 refine af (aU fun g=>?_)
 refine bf (M:=pt g (.cells (Dn fun _=>0) 373 (0,0))::F) .refl ?_
 refine o_ (eN (q:= .u64)) ?_
 refine dK (fun x=>pu (x= .int .u64 (i.natAbs:Int))::pt g (.cells (Dn fun _=>0) 373 (0,0))::F) ?_ ?_
 rotate_left
 ·refine bz bD .nil (fun h=>?_) (fun h=>?_)
  ·refine ai (o_ Pn ?_)
   refine aN (.pu ?_ .refl)
   congr 1
   simp only[IntKind.wrap,IntKind.bits,IntKind.signed]
   simp;omega
  ·refine af (aN (.pu ?_ .refl))
   congr 1
   simp only[IntKind.wrap,IntKind.bits,IntKind.signed]
   simp;omega
 intro ds x
 refine aT .here fun hx=>?_
 subst hx
 refine c_ (yC hu hu0) fun _=>?_
 rename_i n
 obtain⟨n,hn⟩:=n
 have hnd:=H_ hn
 obtain⟨n1,n2,n3,n4⟩:=hn
 (try dsimp only)
 refine bP ?_
 refine o_ (AY (l:=1) (1+n) rfl (by norm_cast) (by omega) (by omega) (by omega)) ?_
 rw[Nat.one_mul,Nat.add_sub_cancel_left]
 refine c_ (A3 (f:=fun _=>0) n1 n2 n4 hu) fun _=>?_
 have hrd:=Ia (W:=W) (g:=g) (u:=i.natAbs) (n:=n) (f:=fun _=>0) (T:=373) n2
 have hdg:eg i=if i<0 then 45::sw i.natAbs n else sw i.natAbs n:=by
  unfold eg
  rw[if_neg hs,hnd]
 by_cases h0:i<0
 ·rw[if_pos h0]at hdg
  refine o_ bD ?_
  rw[dT_ h0]
  refine ai (o_ (ib 0 rfl (by decide)) ?_)
  refine qj .here (by rw[ij];decide) ?_
  rw[show(Value.int .u8 45)= .int .u8 ((45:Nat):Int)from rfl,su]
  refine bP ?_
  refine o_ (Ea (1+n) (by norm_cast) (by omega) (by decide)) ?_
  have hr2:RdB W (pt g (.cells (Dn (ss (f8 i.natAbs n 0 fun _=>0) (0+0 * 1) 45)) 373 (0,0))) (some ⟨g,0,none⟩) (1+n) ((eg i).map Sl.B):=by
   rw[hdg]
   refine AZ (by rw[List.length_map,List.length_cons,iR];omega) fun j v hv=>?_
   cases j with
   |zero=>
    rw[<- hv,pk (by omega)]
    rfl
   |succ j=>
    obtain⟨_,_,he,hc⟩:=hrd.at_ (by omega)
    have hj:j<n:=by
     rcases Nat.lt_or_ge j n with c|c
     ·exact c
     ·rw[List.getElem?_eq_none (by rw[List.length_map,List.length_cons,iR];omega)]at hv;cases hv
    rw[List.map_cons,List.getElem?_cons_succ,List.getElem?_map]at hv
    unfold sw at hv
    rw[List.getElem?_map,List.getElem?_range hj]at hv
    simp only[Option.map_some]at hv
    rw[w7 (by omega)]at hv
    rw[pk (by omega),<- hv]
    unfold ss f8
    rw[if_neg (by omega),if_pos (by omega),show n-(0+(j+1))=n-1-j by omega]
  refine cO (tA hr2 (fun c=>by cases c)) ?_
  refine aR () ?_
  exact az
 ·rw[if_neg h0]at hdg
  refine o_ bD ?_
  rw[dF_ h0]
  refine af (bP ?_)
  refine o_ (AY (l:=1) (1+n) rfl (by norm_cast) (by omega) (by omega) (by omega)) ?_
  rw[Nat.one_mul,Nat.add_sub_cancel_left]
  rw[<- hdg]at hrd
  refine cO (tA hrd (fun c=>by cases c)) ?_
  refine aR () ?_
  exact az
theorem fP {W:World}[hG:Gp W]{i:Int}(h1: -9223372036854775808<=i)(h2:i<=9223372036854775807):Cn p_ 12 [.int .i64 i] W [] (fun _:Unit=>ay (eg i)) (fun _=>[]):=by
 have a1:Cn p_ 80 [.int .i64 i] W [] (fun _:Unit=>ay (eg i)) (fun _=>[]):=by
  (refine Shp.cn (Sg.g_ Tryz.call80 Tryz.func80) fun F=>?_;simp only[ca_,na_])
  refine c_ (yE h1 h2) fun _=>?_
  refine aR () ?_
  exact az
 have a2:Cn p_ 34 [.int .i64 i] W [] (fun _:Unit=>ay (eg i)) (fun _=>[]):=by
  (refine Shp.cn (Sg.g_ Tryz.call34 Tryz.func34) fun F=>?_;simp only[ca_,na_])
  refine c_ a1 fun _=>?_
  refine aR () ?_
  exact az
 (refine Shp.cn (Sg.g_ Tryz.call12 Tryz.func12) fun F=>?_;simp only[ca_,na_])
 refine c_ a2 fun _=>?_
 refine aR () ?_
 exact az
end Go.Proofs.YtdjkdjepjahjfaaGreatDoor.FD
namespace Go.Proofs.YtdjkdjepjahjfaaGreatDoor.TP
open Go Go.Proofs Go.RowKit Sh Sl T FD
theorem yF {W:World}{b:Nat}{m:List UInt8}(hl:m.length<=16777216):Cn p_ 309 [.pointer (some ⟨b,0,none⟩),ay m] W [MA b] (fun _:Option Addr × Nat=> .tuple #[.int .i64 (m.length:Int),.nilIface]) (fun r'=>[bd b r' m]):=by
 (refine Shp.cn (Sg.g_ Tryz.call309 Tryz.func309) fun F=>?_;simp only[ca_,na_])
 unfold MA bd
 refine ah vJ (.cons .here .nil) fun _=>?_
 refine o_ ag (o_ ae (aH ?_))
 refine bf (bJ (s:=1) (e:=5) .refl) ?_
 refine bQ (m:=m.length) (news:=m.map B) .here (w5 (by kernel_rfl)) (by omega) (by omega) fun a' c'=>?_
 refine o_ ag (o_ ae (bR ?_));refine o_ bu (aR ((a',c')) ?_)
 refine .all ?_
 refine am ?_
 rw[Nat.zero_add]
 exact az
theorem A4 {W:World}{first:List UInt8}{fs:List FD.Fd}{a:Option Addr}{c:Nat}{A:HP}(hA:gX W A a fs)(h:kI first fs=true):Cn p_ 203 [ay first,.slice a fs.length c] W [A] (fun r:Option Addr × Nat=> .tuple #[.slice r.1 (mQ first fs).length r.2,.int .i64 0]) (fun r=>[A,jr 1 5 r.1 r.2 (mQ first fs).length ((mQ first fs).map Sl.B)]):=by
 unfold kI at h
 simp only[Bool.and_eq_true,decide_eq_true_eq]at h
 obtain⟨⟨⟨h1,h2⟩,h3⟩,h4⟩:=h
 rw[wX]at h4
 have hall:=List.all_eq_true.1 h3
 (refine Shp.cn (Sg.g_ Tryz.call203 Tryz.func203 (an:={loops:=[(4,[6,7,27]),(18,[72])]})) fun F=>?_;simp only[ca_,na_])
 refine o_ bu (bP ?_);refine o_ bu ?_;(((refine o_ (Sl.cf ?hcq) ?_);(case hcq=>(first|omega|(simp only[List.length_nil,List.length_cons];omega)))));refine ab (ab (o_ aI (ab ?_)));(((refine o_ (Sl.cf ?hcq) ?_);(case hcq=>(first|omega|(simp only[List.length_nil,List.length_cons];omega)))));refine o_ ak (o_ aI (gC (fun m x y z=>[ex fun i:Nat=>all [pu (m+i=fs.length/\x= .int .i64 ((first.length:Int)+4+(((fs.take i).flatMap jX).length:Int))/\y= .bool false/\z= .int .i64 (i:Int)),A]]++F) fs.length ?_ ?_))
 ·refine Imp.ex 0 (.all ?_)
  refine am ?_
  exact .pu ⟨by omega,by simp,rfl,rfl⟩ .refl
 intro m ds x y z
 refine am ?_
 refine a8 Pick.here fun i=>aB Pick.here ?_
 refine am ?_
 refine aT .here fun hi=>?_
 obtain⟨hm,rfl,rfl,rfl⟩:=hi
 have hle:=ii (fs:=fs) (i:=i)
 refine o_ bD ?_
 by_cases hlt:i<fs.length
 ·rw[dT_ (by omega)]
  have hf:=hall _ (List.getElem_mem hlt)
  unfold Pe at hf
  simp only[Bool.and_eq_true,decide_eq_true_eq]at hf
  obtain⟨⟨f1,f2⟩,f3⟩:=hf
  have hst:=congrArg List.length (tT hlt)
  rw[List.length_append,sl]at hst
  have hle2:=ii (fs:=fs) (i:=i+1)
  obtain⟨g,o,rfl⟩:=mO hA (Nat.zero_lt_of_lt hlt)
  refine ai (o_ (dR i rfl hlt) ?_)
  refine aE (mP hA hlt) az ?_
  generalize fs[i]=x at f1 f2 f3 hst ⊢
  unfold vF
  refine aU fun g=>?_;(((refine' aK ?hp ?hn ?hv ?h1 ?_);(case hp=>(repeat constructor));(case hn=>rfl);(case hv=>rfl);(case h1=>simp[Value.oneCell',ay])));refine o_ ae (aH ?_)
  refine c_ (nC (l:=x.1) (by omega)) fun _=>?_
  rw[f1]
  refine o_ bB (ab (o_ ae (ab (aH ?_))));refine ab (c_ (AK (l:=x.2) (by omega)) fun _=>?_)
  rw[f2]
  refine ab (o_ bB (o_ ak (af (o_ ae (aH ?_)))));refine o_ bu (bP ?_);refine o_ ae (aH ?_);refine o_ bu (bP ?_);refine ab (ab ?_);(((refine o_ (Sl.cf ?hcq) ?_);(case hcq=>(first|omega|(simp only[List.length_nil,List.length_cons];omega)))));refine o_ ak ?_;(((refine o_ (Sl.f7 ?hcq) ?_);(case hcq=>(first|omega|(simp only[List.length_nil,List.length_cons];omega)))));refine ai (o_ qH ?_)
  rw[if_neg (by omega)]
  refine bP ?_;refine bP ?_;refine bP ?_
  refine cC (m-1) ?_ ?_
  ·omega
  refine .ex (i+1) (.all ?_)
  refine am ?_
  refine .pu ⟨by omega,by rw[hst];push_cast;congr 1;omega,rfl,by simp⟩ ?_
  exact az
 ·rw[dF_ (by omega)]
  rw[List.take_of_length_le (by omega)]
  refine af (ab (ab ?_));(((refine o_ (Sl.cf ?hcq) ?_);(case hcq=>(first|omega|(simp only[List.length_nil,List.length_cons];omega)))));refine o_ ak (af (aU fun g=>?_))
  refine o_ (cA (b:=iu) (by simp[iu];omega)) ?_
  refine' ah (yF (b:=_) (m:=first++iu) (by simp[iu];omega)) ?hp fun r=>?_
  case hp=>exact .cons .here .nil
  refine am ?_
  rename Nat=>bb
  refine o_ aI (aY (fun m y=>[ex fun st:Nat × (Option Addr × Nat)=>all [pu (m+st.1=fs.length/\y= .int .i64 (st.1:Int)),bd bb st.2 (first++iu++(fs.take st.1).flatMap jX),A]]++F) fs.length ?_ ?_)
  ·refine Imp.ex (0,r) (.all ?_)
   refine am ?_
   refine .pu ⟨by omega,rfl⟩ ?_
   simp only[List.take_zero,List.flatMap_nil,List.append_nil]
   exact az
  intro m ds y
  refine am ?_
  refine a8 Pick.here fun st=>aB Pick.here ?_
  obtain⟨j,r2⟩:=st
  refine am ?_
  refine aT .here fun hi=>?_
  (try dsimp only at hi)
  obtain⟨hm,rfl⟩:=hi
  (try dsimp only)
  have hle:=ii (fs:=fs) (i:=j)
  refine o_ bD ?_
  by_cases hlt:j<fs.length
  ·rw[dT_ (by omega)]
   have hst:=tT hlt
   have hle2:=ii (fs:=fs) (i:=j+1)
   rw[hst,List.length_append,sl]at hle2
   obtain⟨g',o,rfl⟩:=mO hA (Nat.zero_lt_of_lt hlt)
   refine ai (o_ (dR j rfl hlt) ?_)
   refine aE (mP hA hlt) az ?_
   generalize fs[j]=x at hst hle2 ⊢
   unfold vF
   refine aU fun g=>?_;(((refine' aK ?hp ?hn ?hv ?h1 ?_);(case hp=>(repeat constructor));(case hn=>rfl);(case hv=>rfl);(case h1=>simp[Value.oneCell',ay])));refine o_ ae (aH ?_)
   refine o_ (cA (b:=[58,32]) (by simp;omega)) ?_
   refine o_ ae (aH ?_)
   refine o_ (cA (by simp;omega)) ?_
   refine o_ (cA (b:=iu) (by simp[iu];omega)) ?_
   rw[show x.1++[58,32]++x.2++iu=jX x by simp[jX]]
   refine' ah (lU (b:=bb) (r:=r2) (l:=first++iu++(fs.take j).flatMap jX) (m:=jX x) (by simp only[List.length_append,sl,iu,List.length_cons,List.length_nil];omega)) ?hp fun r3=>?_
   case hp=>(repeat(first|exact Picks.nil|(apply Picks.cons;(focus repeat constructor))))
   refine am ?_
   refine bP ?_
   refine aZ (m-1) ?_ ?_
   ·omega
   refine .ex (j+1,r3) (.all ?_)
   refine am ?_
   (try dsimp only)
   rw[hst,<- List.append_assoc]
   refine .pu ⟨by omega,by simp⟩ ?_
   exact az
  ·rw[dF_ (by omega)]
   rw[List.take_of_length_le (by omega)]
   refine af (c_ (pg (b:=bb) (r:=r2) (l:=first++iu++fs.flatMap jX) (by simp[iu])) fun _=>?_)
   refine o_ (cA (b:=iu) (by simp only[List.length_append,iu,List.length_cons,List.length_nil];omega)) ?_
   rw[show first++iu++fs.flatMap jX++iu=mQ first fs from rfl]
   refine iQ Tryz.underlying35 Tryz.underlying5 (by rw[wX];omega) fun rr=>?_
   refine aR rr ?_
   exact az
theorem qm {W:World} [hG:Gp W] {m tg:List UInt8} {mi:Int} {fs:List FD.Fd} {a:Option Addr} {c:Nat} {A:HP} (hA:gX W A a fs) (hm:kF m=true) (hml:m.length<=32) (ht:nP tg=true) (htl:tg.length<=8192) (h0:0<=mi) (h9:mi<=9)
  (h:kI (m++[32]++tg++[32,72,84,84,80,47,49,46]++eg mi) fs=true):Cn p_ 128 [.agg #[ay m,ay tg,.int .i64 mi,.slice a fs.length c]] W [A] (fun r:Option Addr × Nat=> .tuple #[.slice r.1 (mQ (m++[32]++tg++[32,72,84,84,80,47,49,46]++eg mi) fs).length r.2,.int .i64 0])
  (fun r=>[A,jr 1 5 r.1 r.2 (mQ (m++[32]++tg++[32,72,84,84,80,47,49,46]++eg mi) fs).length ((mQ (m++[32]++tg++[32,72,84,84,80,47,49,46]++eg mi) fs).map Sl.B)]):=by
 have hdl:=eL (i:=mi) (by omega) (by omega)
 (refine Shp.cn (Sg.g_ Tryz.call128 Tryz.func128 (an:={drs:=[(3,.ofL [(0,3),(1,3),(2,3),(3,3),(4,3),(5,3),(6,3),(7,1),(8,1),(11,3),(12,3),(9,0),(10,1),(13,0),(14,1),(15,1),(16,1),(17,1)])]}) (os:=[(3,[(9,[12,11,6,5,4,3,2,1,0])])])) fun F=>?_;simp only[ca_,na_])
 refine aX fun g=>?_;refine o_ ae (aH ?_)
 refine c_ (nC (l:=m) (by omega)) fun _=>?_
 rw[hm]
 refine o_ bB (ab (o_ ae (ab (aH ?_))));refine ab (o_ bu (ab ?_));(((refine o_ (Sl.cf ?hcq) ?_);(case hcq=>(first|omega|(simp only[List.length_nil,List.length_cons];omega)))));refine o_ ak (ab (o_ ae (ab (aH ?_))));refine ab (c_ (w4 (s:=tg) (by omega)) fun _=>?_)
 rw[ht]
 refine ab (o_ bB (o_ ak (ab (o_ ae (ab (aH ?_))))));refine ab ?_;(((refine o_ (Sl.bF ?hcq) ?_);(case hcq=>(first|omega|(simp only[List.length_nil,List.length_cons];omega)))));refine o_ ak (ab (o_ ae (ab (aH ?_))));refine ab ?_;(((refine o_ (Sl.cf ?hcq) ?_);(case hcq=>(first|omega|(simp only[List.length_nil,List.length_cons];omega)))));refine o_ ak (af (aW (aq ae .nil ?_)));(((refine' aq (aS ?hc) ?hi ?_);(case hi=>exact .pick (by repeat constructor) .nil);(case hc=>repeat constructor)))
 refine aq (cA (b:=[32]) (by simp;omega)) .nil ?_
 refine aq ae .nil ?_;(((refine' aq (aS ?hc) ?hi ?_);(case hi=>exact .pick (by repeat constructor) .nil);(case hc=>repeat constructor)))
 refine aq (cA (by simp;omega)) .nil ?_
 refine aq (cA (b:=[32,72,84,84,80,47,49,46]) (by simp;omega)) .nil ?_
 refine t_ ae (cm ?_);refine aq ae .nil ?_;(((refine' aq (aS ?hc) ?hi ?_);(case hi=>exact .pick (by repeat constructor) .nil);(case hc=>repeat constructor)))
 refine c_ (fP (i:=mi) (by omega) (by omega)) fun _=>?_
 refine bj ?_;refine bj ?_;refine bj ?_;refine bj ?_;refine bj ?_;refine bj ?_;refine bj ?_;refine bj ?_;refine bj ?_
 refine t_ (cA (by simp;omega)) ?_
 refine' ah (A4 (a:=a) (c:=c) hA h) ?hp fun r=>?_
 case hp=>(repeat(first|exact Picks.nil|(apply Picks.cons;(focus repeat constructor))))
 refine am ?_
 refine rY ?_;refine rY ?_
 refine aR r ?_
 exact az
def VO:List UInt8:=[79,75]
def MC:List UInt8:=[49,48,48,32,67,111,110,116,105,110,117,101,124,50,48,48,32,79,75,124,50,48,49,32,67,114,101,97,116,101,100,124,50,48,52,32,78,111,32,67,111,110,116,101,110,116,124,50,48,54,32,80,97,114,116,105,97,108,32,67,111,110,116,101,110,116,124,51,48,49,32,77,111,118,101,100,32,80,101,114,109,97,110,101,110,116,108,121,124,51,48,50,32,70,111,117,110,100,124,51,48,52,32,78,111,116,32,77,111,100,105,102,105,101,100,124,52,48,48,32,66,97,100,32,82,101,113,117,101,115,116,124,52,48,51,32,70,111,114,98,105,100,100,101,110,124,52,48,52,32,78,111,116,32,70,111,117,110,100,124,52,48,53,32,77,101,116,104,111,100,32,78,111,116,32,65,108,108,111,119,101,100,124,52,48,56,32,82,101,113,117,101,115,116,32,84,105,109,101,111,117,116,124,52,49,50,32,80,114,101,99,111,110,100,105,116,105,111,110,32,70,97,105,108,101,100,124,52,49,51,32,67,111,110,116,101,110,116,32,84,111,111,32,76,97,114,103,101,124,52,49,52,32,85,82,73,32,84,111,111,32,76,111,110,103,124,52,49,54,32,82,97,110,103,101,32,78,111,116,32,83,97,116,105,115,102,105,97,98,108,101,124,52,49,55,32,69,120,112,101,99,116,97,116,105,111,110,32,70,97,105,108,101,100,124,52,50,57,32,84,111,111,32,77,97,110,121,32,82,101,113,117,101,115,116,115,124,52,51,49,32,82,101,113,117,101,115,116,32,72,101,97,100,101,114,32,70,105,101,108,100,115,32,84,111,111,32,76,97,114,103,101,124,53,48,48,32,73,110,116,101,114,110,97,108,32,83,101,114,118,101,114,32,69,114,114,111,114,124,53,48,49,32,78,111,116,32,73,109,112,108,101,109,101,110,116,101,100,124,53,48,50,32,66,97,100,32,71,97,116,101,119,97,121,124,53,48,51,32,83,101,114,118,105,99,101,32,85,110,97,118,97,105,108,97,98,108,101,124,53,48,52,32,71,97,116,101,119,97,121,32,84,105,109,101,111,117,116]
def vM:List (List UInt8):=cy 124 25 MC
theorem Ib:MC.length=478:=by kernel_rfl
theorem Ic:MC.count 124+1=25:=by kernel_rfl
theorem Id:vM.length=25:=by kernel_rfl
theorem Uo {W:World}{f:FuncId}{v v':Value}{l:List Value}{A:List HP}{α:Type}{r:α->Value}{B:α->List HP}(hc:Cn p_ f (v'::l) W A r B)(h:v=v'):Cn p_ f (v::l) W A r B:=h▸hc
theorem Eb {W:World}:Cn p_ 252 [ay MC,ay [124]] W [] (fun r:Option Addr × Nat=> .slice r.1 25 r.2) (fun r=>[Sl 1 9 r.1 r.2 25 (vM.map ay)]):=by
 have h:=H5 (W:=W) (l:=MC) (c:=124) (n:=25) (by rw[Ib];decide) Ic
 rw[show cy 124 25 MC=vM from rfl,Id]at h
 exact h
def vN (n:Int)(j:Nat)(m:List UInt8):Bool:=(List.range j).all (fun k=>decide (cu 32 (vM.getD k [])≠eg n))&&(decide (cu 32 (vM.getD j [])=eg n)&&(decide (bS 32 (vM.getD j [])=m)&&decide (j<25)))
theorem Ie:(List.range 25).all (fun k=>decide (vM[k]? =some (vM.getD k [])/\(vM.getD k []).length<=512))=true:=by decide+kernel
theorem oz {W:World}[hP:Gp W]{n:Int}{j:Nat}{m:List UInt8}(h:vN n j m=true)(h1:0<=n)(h2:n<=999):Cn p_ 161 [.int .i64 n] W [] (fun _:Unit=>ay m) (fun _=>[]):=by
 simp only[vN,Bool.and_eq_true,decide_eq_true_eq,List.all_eq_true,List.mem_range]at h
 obtain⟨ha,hb,hc,hj⟩:=h
 have hall:∀k,k<25->vM[k]? =some (vM.getD k [])/\(vM.getD k []).length<=512:=fun k hk=>by
  have:=Ie
  simp only[List.all_eq_true,List.mem_range,decide_eq_true_eq]at this
  exact this k hk
 (refine Shp.cn (Sg.g_ Tryz.call161 Tryz.func161 (an:={loops:=[(2,[10])]})) fun F=>?_;simp only[ca_,na_])
 refine' ah (Uo Eb ?heq) ?hp fun q=>?_
 case heq=>kernel_rfl
 case hp=>(repeat(first|exact Picks.nil|(apply Picks.cons;(focus repeat constructor))))
 obtain⟨qa,qc⟩:=q
 refine am ?_
 (try dsimp only)
 refine a9 .here (by decide) fun g hg=>?_
 subst hg
 refine o_ aI (aY (fun m y=>[ex fun k:Nat=>pu (m+k=j/\y= .int .i64 (k:Int))]++(Sl 1 9 (some ⟨g,0,none⟩) qc 25 (vM.map ay)::F)) j ?_ ?_)
 ·exact .ex 0 (.pu ⟨rfl,rfl⟩ .refl)
 intro m ds y
 refine am ?_
 refine a8 Pick.here fun k=>aT Pick.here fun hi=>?_
 obtain⟨hm,rfl⟩:=hi
 obtain⟨hk1,hk2⟩:=hall k (by omega)
 refine o_ (Sl.bY (by omega)) ?_
 refine ai (o_ (dR k rfl (by omega)) ?_)
 rw[Nat.mul_one]
 refine aE (bw (v:=ay (vM.getD k [])) (by rw[Nat.zero_add,List.getElem?_map,hk1];rfl)) az ?_
 refine c_ (Ay (c:=32) (l:=vM.getD k []) (by omega)) fun _=>?_
 refine bE ?_;refine bE ?_;refine bE ?_
 refine c_ (fP (i:=n) (by omega) (by omega)) fun _=>?_
 by_cases hkj:k=j
 ·subst hkj
  refine o_ (Sl.jq hb) ?_
  rw[hc]
  refine ai (aR () ?_)
  exact az
 ·refine o_ (Sl.fB (ha k (by omega))) ?_
  refine af (bP ?_)
  refine aZ (m-1) ?_ ?_
  ·omega
  exact .ex (k+1) (.pu ⟨by omega,by norm_cast⟩ .refl)
theorem reason {W:World}[hP:Gp W]:Cn p_ 161 [.int .i64 200] W [] (fun _:Unit=>ay VO) (fun _=>[]):=oz (j:=1) (by decide+kernel) (by decide) (by decide)
def zB:List UInt8:=[72,84,84,80,47,49,46,49,32,50,48,48,32,79,75]
def jx (k n most al:Int)(bo:Option Addr × Nat)(bn:Nat)(done:Bool):List Value:=[.int .i64 k,.int .i64 n,.int .i64 most,.int .i64 al,.int .i64 0,.int .i64 0,.slice none 0 0,.bool false,.slice none 0 0,.bool true,.bool done,.int .i64 0,.slice bo.1 bn bo.2]
theorem w9 {W:World}{e:Int}:Cn p_ 306 [.bool true,.int .i64 e] W [] (fun _:Unit=> .tuple #[]) (fun _=>[]):=by
 (refine Shp.cn (Sg.g_ Tryz.call306 Tryz.func306) fun F=>?_;simp only[ca_,na_])
 refine o_ bB (af (aR () ?_))
 exact .refl
theorem If {W:World}{k n most:Int}(hk:k=0/\n=0\/k=1/\0<=n)(h0:0<=most)(h1:most<=1048576):Cn p_ 51 [.agg #[.int .i64 k,.int .i64 n],.int .i64 most] W [] (fun g:Nat=> .tuple #[.pointer (some ⟨g,0,none⟩),.int .i64 0]) (fun g=>[pt g (.cells (jx k n most 0 (none,0) 0 false).toArray 234)]):=by
 (refine Shp.cn (Sg.g_ Tryz.call51 Tryz.func51) fun F=>?_;simp only[ca_,na_])
 rcases hk with ⟨rfl,rfl⟩|⟨rfl,hn⟩
 ·(refine aX fun g=>?_);refine o_ ae ?_;refine aH ?_;(((refine o_ (Sl.bF ?hcq) ?_);(case hcq=>(first|omega|(simp only[List.length_nil,List.length_cons];omega)))));refine ab ?_;refine o_ ae ?_;refine ab ?_;refine aH ?_;refine ab ?_;(((refine o_ (Sl.cf ?hcq) ?_);(case hcq=>(first|omega|(simp only[List.length_nil,List.length_cons];omega)))));refine o_ ak ?_;refine ab ?_;refine o_ ae ?_;refine ab ?_;refine aH ?_;refine ab ?_;(((refine o_ (Sl.bF ?hcq) ?_);(case hcq=>(first|omega|(simp only[List.length_nil,List.length_cons];omega)))));refine o_ ak ?_;refine ab ?_;refine o_ ae ?_;refine ab ?_;refine aH ?_;refine ab ?_;(((refine o_ (Sl.cf ?hcq) ?_);(case hcq=>(first|omega|(simp only[List.length_nil,List.length_cons];omega)))));refine ab ?_;refine aj ?_;refine aj ?_;refine aj ?_;refine ab ?_;refine o_ ak ?_;refine o_ ak ?_;refine ab ?_;refine ab ?_;(((refine o_ (Sl.bF ?hcq) ?_);(case hcq=>(first|omega|(simp only[List.length_nil,List.length_cons];omega)))));refine o_ ak ?_;refine ab ?_;refine ab ?_;(((refine o_ (Sl.cf ?hcq) ?_);(case hcq=>(first|omega|(simp only[List.length_nil,List.length_cons];omega)))));refine o_ ak ?_;refine af ?_;refine jL ?_;refine o_ bO ?_;refine aX fun g=>?_;refine o_ ae ?_;refine aH ?_;(((refine o_ (Sl.bA ?hcq) ?_);(case hcq=>(first|omega|(simp only[List.length_nil,List.length_cons];omega)))));refine af ?_
  refine aR g ?_
  exact .pick .here az
 ·rcases Int.lt_or_le 0 n with h|h
  ·(refine aX fun g=>?_);refine o_ ae ?_;refine aH ?_;(((refine o_ (Sl.bF ?hcq) ?_);(case hcq=>(first|omega|(simp only[List.length_nil,List.length_cons];omega)))));refine ab ?_;refine o_ ae ?_;refine ab ?_;refine aH ?_;refine ab ?_;(((refine o_ (Sl.cf ?hcq) ?_);(case hcq=>(first|omega|(simp only[List.length_nil,List.length_cons];omega)))));refine o_ ak ?_;refine ab ?_;refine o_ ae ?_;refine ab ?_;refine aH ?_;refine ab ?_;(((refine o_ (Sl.bF ?hcq) ?_);(case hcq=>(first|omega|(simp only[List.length_nil,List.length_cons];omega)))));refine o_ ak ?_;refine ab ?_;refine o_ ae ?_;refine ab ?_;refine aH ?_;refine ab ?_;(((refine o_ (Sl.gi ?hcq) ?_);(case hcq=>(first|omega|(simp only[List.length_nil,List.length_cons];omega)))));refine ab ?_;refine ab ?_;refine o_ ae ?_;refine ab ?_;refine aH ?_;refine ab ?_;(((refine o_ (Sl.cq ?hcq) ?_);(case hcq=>(first|omega|(simp only[List.length_nil,List.length_cons];omega)))));refine ab ?_;refine o_ av ?_;refine o_ ak ?_;refine ab ?_;refine ab ?_;(((refine o_ (Sl.bF ?hcq) ?_);(case hcq=>(first|omega|(simp only[List.length_nil,List.length_cons];omega)))));refine o_ ak ?_;refine ab ?_;refine ab ?_;(((refine o_ (Sl.cf ?hcq) ?_);(case hcq=>(first|omega|(simp only[List.length_nil,List.length_cons];omega)))));refine o_ ak ?_;refine af ?_;refine jL ?_;refine o_ bO ?_;refine aX fun g=>?_;refine o_ ae ?_;refine aH ?_;(((refine o_ (Sl.bA ?hcq) ?_);(case hcq=>(first|omega|(simp only[List.length_nil,List.length_cons];omega)))));refine af ?_
   refine aR g ?_
   exact .pick .here az
  ·obtain rfl:n=0:=by omega
   refine aX fun g=>?_;refine o_ ae (aH ?_);(((refine o_ (Sl.bF ?hcq) ?_);(case hcq=>(first|omega|(simp only[List.length_nil,List.length_cons];omega)))));refine ab (o_ ae (ab (aH ?_)));refine ab ?_;(((refine o_ (Sl.cf ?hcq) ?_);(case hcq=>(first|omega|(simp only[List.length_nil,List.length_cons];omega)))));refine o_ ak (ab (o_ ae (ab (aH ?_))));refine ab ?_;(((refine o_ (Sl.bF ?hcq) ?_);(case hcq=>(first|omega|(simp only[List.length_nil,List.length_cons];omega)))));refine o_ ak (ab (o_ ae (ab (aH ?_))));refine ab ?_;(((refine o_ (Sl.cf ?hcq) ?_);(case hcq=>(first|omega|(simp only[List.length_nil,List.length_cons];omega)))));refine ab (aj (aj (aj (ab (o_ ak (o_ ak (ab (ab ?_))))))));(((refine o_ (Sl.bF ?hcq) ?_);(case hcq=>(first|omega|(simp only[List.length_nil,List.length_cons];omega)))));refine o_ ak (ab (ab ?_));(((refine o_ (Sl.cf ?hcq) ?_);(case hcq=>(first|omega|(simp only[List.length_nil,List.length_cons];omega)))));refine o_ ak (af (jL ?_));refine o_ bO ?_;refine aX fun g=>?_;refine o_ ae (aH ?_);(((refine o_ (Sl.bA ?hcq) ?_);(case hcq=>(first|omega|(simp only[List.length_nil,List.length_cons];omega)))));refine af (aR g ?_)
   exact .pick .here az
theorem vO {W:World}{g:Nat}{k n most:Int}(hk:k=0/\n=0\/k=1/\0<=n)(h1:n<=most):Cn p_ 195 [.pointer (some ⟨g,0,none⟩)] W [pt g (.cells (jx k n most 0 (none,0) 0 false).toArray 234)] (fun _:Unit=> .tuple #[]) (fun _=>[pt g (.cells (jx k n most 0 (none,0) 0 (decide (n=0))).toArray 234)]):=by
 (refine Shp.cn (Sg.g_ Tryz.call195 Tryz.func195 (an:={drs:=[(4,.ofL [(0,1),(1,1),(2,1),(3,1),(4,1),(5,1),(6,1),(7,1),(8,1),(9,1),(10,0)]),(5,.ofL [(0,1),(1,1),(2,1),(3,1),(4,1),(5,1),(6,1),(7,1),(8,1),(9,1),(10,1),(11,1),(12,1),(13,0)])]})) fun F=>?_;simp only[ca_,na_])
 unfold jx
 rcases hk with ⟨rfl,rfl⟩|⟨rfl,hn⟩
 ·(refine o_ ag ?_);refine o_ ae ?_;refine o_ ae ?_;refine aH ?_;(((refine o_ (Sl.ce ?hcq) ?_);(case hcq=>(first|omega|(simp only[List.length_nil,List.length_cons];omega)))));refine ai ?_;refine o_ ag ?_;refine o_ ae ?_;refine bR ?_
  refine aR () ?_
  exact .refl
 ·(refine o_ ag ?_);refine o_ ae ?_;refine o_ ae ?_;refine aH ?_;(((refine o_ (Sl.bA ?hcq) ?_);(case hcq=>(first|omega|(simp only[List.length_nil,List.length_cons];omega)))));refine af ?_;(((refine o_ (Sl.ce ?hcq) ?_);(case hcq=>(first|omega|(simp only[List.length_nil,List.length_cons];omega)))));refine ai ?_;refine aW ?_;refine t_ ag ?_;refine t_ ae ?_;refine t_ ae ?_;refine cm ?_;refine t_ ag ?_;refine t_ ae ?_;refine cm ?_;(((refine t_ (Sl.f7 ?hcq) ?_);(case hcq=>(first|omega|(simp only[List.length_nil,List.length_cons];omega)))))
  refine c_ w9 fun _=>?_
  refine aW (t_ ag (t_ ae (cm ?_)));refine t_ ag (t_ ae (t_ ae (cm ?_)))
  refine t_ cH ?_
  rw[show decide ((0:Int)=n)=decide (n=0)from decide_eq_decide.2 eq_comm]
  refine t_ ag (t_ ae (bR ?_))
  refine aR () ?_
  exact .pick .here az
theorem A5 {W:World}{g:Nat}{n most:Int}{i:Nat}{bo:Option Addr × Nat}{cs:List Value}{c:UInt8}(hi:(i:Int)<n)(hm:n<=most)(h1:most<=1048576):Cn p_ 196 [.pointer (some ⟨g,0,none⟩),.int .u8 (c.toNat:Int)] W [pt g (.cells (jx 1 n most i bo i false).toArray 234),Sl 1 5 bo.1 bo.2 i cs] (fun _:Option Addr × Nat=> .tuple #[])
  (fun r=>[pt g (.cells (jx 1 n most ((i:Int)+1) r (i+1) (decide ((i:Int)+1=n))).toArray 234),Sl 1 5 r.1 r.2 (i+1) (cs++[.int .u8 (c.toNat:Int)])]):=by
 (refine Shp.cn (Sg.g_ Tryz.call196 Tryz.func196 (an:={drs:=[(0,.ofL [(0,1),(1,1),(2,1),(3,1),(4,1),(5,1),(6,1),(7,1),(8,1),(9,0)]),(3,.ofL [(0,1),(1,1),(2,1),(3,1),(4,1),(5,1),(6,1),(7,1),(8,1),(9,1),(10,1),(11,1),(12,1),(13,1),(14,1),(15,1),(16,1),(17,1),(18,1),(19,1),(20,1),(21,0)])]})) fun F=>?_;simp only[ca_,na_])
 unfold jx
 refine aW (t_ ag (t_ ae (cm ?_)));refine t_ ag (t_ ae (cm ?_));(((refine t_ (Sl.bY ?hcq) ?_);(case hcq=>(first|omega|(simp only[List.length_nil,List.length_cons];omega)))))
 refine c_ w9 fun _=>?_
 refine o_ ag (o_ ae (aH ?_));refine bP ?_;refine o_ ag (o_ ae (bR ?_));refine o_ ag (o_ ae (aH ?_));refine cI fun g=>?_
 refine bQ (m:=1) (news:=[.int .u8 (c.toNat:Int)]) (by(repeat constructor):Pick _ (Sl 1 5 bo.1 bo.2 i cs) _) (bL (s:=1) (e':=5) (by kernel_rfl) .here (by rfl) (by intro u hu;rw[List.mem_singleton.1 hu];rfl)) (by omega) (by omega) fun a' c'=>?_
 refine o_ ag (o_ ae (bR ?_));refine aW (t_ ag (t_ ae (t_ ae (cm ?_))));(((refine t_ (Sl.ce ?hcq) ?_);(case hcq=>(first|omega|(simp only[List.length_nil,List.length_cons];omega)))));refine ab (ab (t_ ag (ab (t_ ae (ab (cm ?_))))));refine ab (ab (t_ ag (ab (t_ ae (ab (t_ ae (ab (cm ?_))))))));refine ab (t_ cH (t_ av (t_ ag (t_ ae (bR ?_)))))
 refine aR ((a',c')) ?_
 exact .pick .here az
theorem Ec {W:World}{L:List HP}{b2:Nat}{Kret:WP}{Kp:PK}(h:aJ W L Kret):aJ W L (dfS p_ {target:= .fn (.func 194) #[.pointer (some ⟨b2,0,none⟩)],args:=#[]++ #[]} .returning Kret Kp):=by
 refine tz (f:=194) (A:=[.pointer (some ⟨b2,0,none⟩)]) (shape:=fun rv=>S.dz (.pointer (some ⟨b2,0,none⟩)) rv) (fun c=>by cases c) ⟨_,_,rfl⟩ (fX (cs:=[.pointer (some ⟨b2,0,none⟩)]) (bs:=[]) Tryz.call194) (fun h=>S.iM h) ?_
 unfold S.dz
 rw[oe,rT]
 refine o_ (ku (by kernel_rfl)) ?_
 exact af h
theorem Ig {W:World}{G:Nat}{most:Int}(hm:0<=most){a:Option Addr}{cap:Nat}:Cn p_ 119 [.pointer (some ⟨G,0,none⟩),.slice a 0 cap] W [pt G (.cells (jx 0 0 most 0 (none,0) 0 false).toArray 234)] (fun _:Unit=> .int .i64 0) (fun _=>[pt G (.cells (jx 0 0 most 0 (none,0) 0 true).toArray 234)]):=by
 (refine S.d9.cn fun F=>?_;unfold S.dJ;simp only[ca_,na_])
 unfold jx
 refine b_ fun g=>?_;refine aH ?_;refine o_ ag (o_ ae (aH ?_));refine ab (aH ?_);refine ab (o_ ag (ab (o_ ae (ab (aH ?_)))));refine ab ?_;(((refine o_ (Sl.cq ?hcq) ?_);(case hcq=>(first|omega|(simp only[List.length_nil,List.length_cons];omega)))));refine o_ ak (af (o_ bC (k7 ?_)))
 refine aH ?_
 refine' ah (vO (g:=G) (k:=0) (n:=0) (most:=most) (.inl ⟨rfl,rfl⟩) hm) ?hp fun _=>?_
 case hp=>exact .cons (by repeat constructor) .nil
 rw[dT_ (rfl:(0:Int)=0)]
 unfold jx
 refine am ?_
 refine aH ?_;refine o_ bC (aH ?_);refine o_ bC (aH ?_);refine o_ bC (aH ?_);refine o_ bC (aH ?_);refine o_ bC (o_ bO ?_);refine aU fun g=>?_;(((refine' aK ?hp ?hn ?hv ?h1 ?_);(case hp=>(repeat constructor));(case hn=>rfl);(case hv=>rfl);(case h1=>simp[Value.oneCell',ay])));refine o_ aI (cp (fun m x y=>pu (x= .int .i64 0/\y= .int .i64 0)::_) 0 (.pu ⟨rfl,rfl⟩ .refl) ?_)
 intro m ds x y
 refine aT .here fun hz=>?_
 obtain⟨rfl,rfl⟩:=hz
 (((refine o_ (Sl.bF ?hcq) ?_);(case hcq=>(first|omega|(simp only[List.length_nil,List.length_cons];omega)))));refine af ?_
 refine Ec ?_
 unfold S.bV
 refine aR () ?_
 exact az
theorem Pv {W:World}{G:Nat}{most:Int}{l:List UInt8}{a:Option Addr}{cap:Nat}{A:HP}(hA:RdB W A a l.length (l.map Sl.B))(h0:0<l.length)(hm:(l.length:Int)<=most)(h1:most<=1048576):Cn p_ 119 [.pointer (some ⟨G,0,none⟩),.slice a l.length cap] W [pt G (.cells (jx 1 l.length most 0 (none,0) 0 false).toArray 234),A] (fun _:Option Addr × Nat=> .int .i64 (l.length:Int))
  (fun r=>[pt G (.cells (jx 1 l.length most l.length r l.length true).toArray 234),Sl 1 5 r.1 r.2 l.length (l.map Sl.B),A]):=by
 obtain⟨ga,oa,rfl,_⟩:=hA.at_ h0
 (refine S.d9.cn fun F=>?_;unfold S.dJ;simp only[ca_,na_])
 unfold jx
 refine b_ fun g=>?_;refine aH ?_;refine o_ ag (o_ ae (aH ?_));refine ab (aH ?_);refine ab (o_ ag (ab (o_ ae (ab (aH ?_)))));refine ab ?_;(((refine o_ (Sl.cq ?hcq) ?_);(case hcq=>(first|omega|(simp only[List.length_nil,List.length_cons];omega)))));refine o_ ak (af (o_ bC (k7 ?_)))
 refine aH ?_
 refine' ah (vO (g:=G) (k:=1) (n:=l.length) (most:=most) (.inr ⟨rfl,by omega⟩) hm) ?hp fun _=>?_
 case hp=>exact .cons (by repeat constructor) .nil
 rw[dF_ (by omega:¬(l.length:Int)=0)]
 unfold jx
 refine am ?_
 refine aH ?_;refine o_ bC (aH ?_);refine o_ bC (aH ?_);refine o_ bC (aH ?_);refine o_ bC (aH ?_);refine o_ bC (o_ bO ?_);refine aU fun g=>?_;(((refine' aK ?hp ?hn ?hv ?h1 ?_);(case hp=>(repeat constructor));(case hn=>rfl);(case hv=>rfl);(case h1=>simp[Value.oneCell',ay])));refine o_ aI ?_
 rename_i bx _
 refine cp (fun m y4 y35=>(ex fun st:Nat × (Option Addr × Nat)=>all [pu (m+st.1=l.length/\y4= .int .i64 (st.1:Int)/\y35= .int .i64 (st.1:Int)),pt G (.cells (jx 1 l.length most st.1 st.2 st.1 (decide ((st.1:Int)=l.length))).toArray 234),Sl 1 5 st.2.1 st.2.2 st.1 ((l.take st.1).map Sl.B)])::pt g (.cells #[.func (.func 196) #[.pointer (some ⟨G,0,none⟩)] #[],.func (.func 197) #[.pointer (some ⟨G,0,none⟩)] #[],.func (.func 198) #[.pointer (some ⟨G,0,none⟩)] #[],.func (.func 199) #[.pointer (some ⟨G,0,none⟩)] #[],.func (.func 200) #[.pointer (some ⟨G,0,none⟩)] #[]] 332)::pt bx (.cells #[.pointer (some ⟨G,0,none⟩)] 120)::A::F) l.length ?_ ?_
 ·refine .ex (0,(none,0)) (.all ?_)
  refine am ?_
  refine .pu ⟨by omega,rfl,rfl⟩ ?_
  rw[show decide (((0:Nat):Int)=(l.length:Int))=false from dF_ (by omega)]
  refine .pick (by(repeat constructor):Pick _ (pt G _) _) (bJ ?_)
  exact az
 intro m ds y4 y35
 refine a8 .here fun st=>aB .here ?_
 obtain⟨i,r⟩:=st
 refine am ?_
 refine aT .here fun hi=>?_
 (try dsimp only at hi)
 obtain⟨hmi,rfl,rfl⟩:=hi
 (try dsimp only)
 by_cases hlt:i<l.length
 ·rw[dF_ (by omega:¬(i:Int)=(l.length:Int))]
  have hv:(l.map Sl.B)[i]? =some (.int .u8 (l[i].toNat:Int)):=by simp[hlt,Sl.B]
  unfold jx
  (((refine o_ (Sl.bY ?hcq) ?_);(case hcq=>(first|omega|(simp only[List.length_nil,List.length_cons];omega)))));refine ai ?_
  refine o_ (bq i rfl hlt) ?_
  refine aE (dv hA hv) az ?_
  refine aH ?_;refine o_ ag (o_ ae (aH ?_));refine af (bP ?_);refine aH ?_;refine o_ ag (o_ ae (aH ?_))
  refine o_ (ib 0 rfl (by decide)) ?_
  refine aH ?_
  refine dW (first:=[.pointer (some ⟨G,0,none⟩)]) (cap:=[]) (A5 (g:=G) (n:=l.length) (most:=most) (i:=i) (bo:=r) (cs:=(l.take i).map Sl.B) (c:=l[i]) (by omega) hm h1) (.cons (by repeat constructor) (.cons (by repeat constructor) .nil)) fun r2=>?_
  refine am ?_
  refine bP ?_
  refine bI (m-1) ?_ ?_
  ·omega
  refine .ex (i+1,r2) (.all ?_)
  refine am ?_
  refine .pu ⟨by omega,by simp,by simp⟩ ?_
  (try dsimp only)
  have e1:((i+1:Nat):Int)=(i:Int)+1:=by omega
  rw[e1,List.take_succ_eq_append_getElem hlt,List.map_append]
  exact .pick .here (.pick .here az)
 ·have he:i=l.length:=by omega
  subst he
  rw[dT_ (rfl:(l.length:Int)=(l.length:Int)),List.take_length]
  (((refine o_ (Sl.bF ?hcq) ?_);(case hcq=>(first|omega|(simp only[List.length_nil,List.length_cons];omega)))));refine af ?_
  refine Ec ?_
  unfold S.bV
  refine aR r ?_
  exact az
theorem Ih {W:World}{G:Nat}{most:Int}(hm:0<=most){a:Option Addr}{cap:Nat}:Cn p_ 52 [.pointer (some ⟨G,0,none⟩),.slice a 0 cap] W [pt G (.cells (jx 0 0 most 0 (none,0) 0 false).toArray 234)] (fun _:Unit=> .tuple #[.int .i64 0,.slice none 0 0,.bool true,.int .i64 0]) (fun _=>[pt G (.cells (jx 0 0 most 0 (none,0) 0 true).toArray 234)]):=by
 (refine Shp.cn (Sg.g_ Tryz.call52 Tryz.func52 (an:={drs:=[(5,.ofL [(0,1),(1,1),(2,1),(3,1),(4,1),(5,1),(6,1),(7,1),(8,1),(9,1),(10,1),(11,1),(12,1),(13,1)])]})) fun F=>?_;simp only[ca_,na_])
 unfold jx
 refine o_ bM ?_;refine ab (ab (o_ ag (ab (o_ ae (ab (aH ?_))))));refine ab (o_ bB (o_ ak (af ?_)))
 refine' ah (Ig (G:=G) (most:=most) (a:=a) (cap:=cap) hm) ?hp fun _=>?_
 case hp=>exact .cons (by repeat constructor) .nil
 unfold jx
 refine am ?_
 refine o_ ag (o_ ae (aH ?_));refine o_ ag (o_ ae (bR ?_));refine aW (t_ ag (t_ ae (cm ?_)));refine t_ ag (t_ ae (cm ?_))
 refine aR () ?_
 exact az
theorem Pw {W:World}{G:Nat}{most:Int}{l:List UInt8}{a:Option Addr}{cap:Nat}{A:HP}(hA:RdB W A a l.length (l.map Sl.B))(h0:0<l.length)(hm:(l.length:Int)<=most)(h1:most<=1048576):Cn p_ 52 [.pointer (some ⟨G,0,none⟩),.slice a l.length cap] W [pt G (.cells (jx 1 l.length most 0 (none,0) 0 false).toArray 234),A] (fun r:Option Addr × Nat=> .tuple #[.int .i64 (l.length:Int),.slice r.1 l.length r.2,.bool true,.int .i64 0])
  (fun r=>[Sl 1 5 r.1 r.2 l.length (l.map Sl.B),A]):=by
 (refine Shp.cn (Sg.g_ Tryz.call52 Tryz.func52 (an:={drs:=[(5,.ofL [(0,1),(1,1),(2,1),(3,1),(4,1),(5,1),(6,1),(7,1),(8,1),(9,1),(10,1),(11,1),(12,1),(13,1)])]})) fun F=>?_;simp only[ca_,na_])
 unfold jx
 refine o_ bM ?_;refine ab (ab (o_ ag (ab (o_ ae (ab (aH ?_))))));refine ab (o_ bB (o_ ak (af ?_)))
 refine' ah (Pv (G:=G) (most:=most) (a:=a) (cap:=cap) hA h0 hm h1) ?hp fun r=>?_
 case hp=>exact .cons (by repeat constructor) (.cons (by repeat constructor) .nil)
 unfold jx
 refine am ?_
 refine o_ ag (o_ ae (aH ?_));refine o_ ag (o_ ae (bR ?_));refine aW (t_ ag (t_ ae (cm ?_)));refine t_ ag (t_ ae (cm ?_))
 refine aR r ?_
 exact az
theorem gK:∀(A F:List HP),Picks (A++F) A F
 |[],F=> .nil
 |a::A,F=> .cons .here (gK A F)
theorem oA {W:World}{l p:List UInt8}(hl:l.length<=4611686018427387904)(hp:p.length<=4611686018427387904):Cn p_ 148 [ay l,ay p] W [] (fun _:Unit=> .bool (gY p l)) (fun _=>[]):=by
 (refine Shp.cn (Sg.g_ Tryz.call148 Tryz.func148) fun F=>?_;simp only[ca_,na_])
 refine c_ (wY hl hp) fun _=>?_
 refine aR () ?_
 exact az
theorem Ii {W:World}{l:List UInt8}{f:FuncId}{cap:List Value}{A:List HP}(hl:l.length<=4611686018427387904)(hf:∀c∈l,Cn p_ f ([.int .u8 (c.toNat:Int)]++cap) W A (fun _:Unit=> .bool true) (fun _=>A)):Cn p_ 85 [ay l,.func (.func f) #[] cap.toArray] W A (fun _:Unit=> .bool true) (fun _=>A):=by
 (refine Shp.cn (Sg.g_ Tryz.call85 Tryz.func85 (an:={loops:=[(2,[8])]})) fun F=>?_;simp only[ca_,na_])
 refine o_ bu (aY (fun m y=>[ex fun i:Nat=>pu (m+i=l.length/\y= .int .i64 (i:Int))]++(A++F)) l.length ?_ ?_)
 ·exact Imp.ex 0 (.pu ⟨by omega,rfl⟩ .refl)
 intro m ds y
 refine am ?_
 refine a8 Pick.here fun i=>aT .here fun hi=>?_
 obtain⟨hm,rfl⟩:=hi
 by_cases hlt:i<l.length
 ·(((refine o_ (Sl.bY ?hcq) ?_);(case hcq=>(first|omega|(simp only[List.length_nil,List.length_cons];omega)))));refine ai ?_
  refine o_ (ew i rfl hlt) ?_
  refine bt (hf _ (List.getElem_mem hlt)) (gK A F) fun _=>?_
  refine o_ bB (af (bP ?_))
  refine aZ (m-1) ?_ ?_
  ·omega
  exact .ex (i+1) (.pu ⟨by omega,by simp⟩ .refl)
 ·(((refine o_ (Sl.bF ?hcq) ?_);(case hcq=>(first|omega|(simp only[List.length_nil,List.length_cons];omega)))));refine af ?_
  refine aR () ?_
  exact .refl
def r7 (c:UInt8):Bool:=decide (97<=c/\c<=122\/65<=c/\c<=90\/48<=c/\c<=57)
theorem Ed {a b:UInt8}(h:a<=b):(a.toNat:Int)<=b.toNat:=by have:=UInt8.le_iff_toNat_le.1 h;omega
theorem Ij {W:World}{c:UInt8}(h:r7 c=true):Cn p_ 151 [.int .u8 (c.toNat:Int)] W [] (fun _:Unit=> .bool true) (fun _=>[]):=by
 have hc:=of_decide_eq_true h
 (refine Shp.cn (Sg.g_ Tryz.call151 Tryz.func151) fun F=>?_;simp only[ca_,na_])
 rcases hc with ⟨h1,h2⟩|⟨h1,h2⟩|⟨h1,h2⟩
 all_goals
  replace h1:=Ed h1
  replace h2:=Ed h2
  simp at h1 h2
  (first|((((refine o_ (Sl.iP ?hcq) ?_);(case hcq=>(first|omega|(simp only[List.length_nil,List.length_cons];omega)))));refine ab ?_;refine ab ?_;(((refine o_ (Sl.f7 ?hcq) ?_);(case hcq=>(first|omega|(simp only[List.length_nil,List.length_cons];omega)))));refine o_ av ?_;refine aC ?_;refine aC ?_;refine aC ?_;refine bT ?_;refine bT ?_;refine aC ?_;refine o_ av ?_;refine aC ?_;refine aC ?_;refine aC ?_;refine bT ?_;refine bT ?_;refine aC ?_;refine o_ av ?_;refine aC ?_;refine aC ?_;refine aC ?_;(refine o_ av ?_))|((((refine o_ (Sl.eS ?hcq) ?_);(case hcq=>(first|omega|(simp only[List.length_nil,List.length_cons];omega)))));refine aj ?_;refine aj ?_;refine o_ ak ?_;refine ab ?_;refine ab ?_;(((refine o_ (Sl.iP ?hcq) ?_);(case hcq=>(first|omega|(simp only[List.length_nil,List.length_cons];omega)))));refine ab ?_;refine ab ?_;refine ab ?_;(((refine o_ (Sl.f7 ?hcq) ?_);(case hcq=>(first|omega|(simp only[List.length_nil,List.length_cons];omega)))));refine ab ?_;refine o_ av ?_;refine o_ ak ?_;refine aC ?_;refine aC ?_;refine aC ?_;refine bT ?_;refine bT ?_;refine aC ?_;refine o_ av ?_;refine aC ?_;refine aC ?_;refine aC ?_;(refine o_ av ?_))|((((refine o_ (Sl.eS ?hcq) ?_);(case hcq=>(first|omega|(simp only[List.length_nil,List.length_cons];omega)))));refine aj ?_;refine aj ?_;refine o_ ak ?_;refine ab ?_;refine ab ?_;(((refine o_ (Sl.eS ?hcq) ?_);(case hcq=>(first|omega|(simp only[List.length_nil,List.length_cons];omega)))));refine ab ?_;refine aj ?_;refine aj ?_;refine ab ?_;refine o_ ak ?_;refine o_ ak ?_;refine ab ?_;refine ab ?_;(((refine o_ (Sl.iP ?hcq) ?_);(case hcq=>(first|omega|(simp only[List.length_nil,List.length_cons];omega)))));refine ab ?_;refine ab ?_;refine ab ?_;(((refine o_ (Sl.f7 ?hcq) ?_);(case hcq=>(first|omega|(simp only[List.length_nil,List.length_cons];omega)))));refine ab ?_;refine o_ av ?_;refine o_ ak ?_;refine aC ?_;refine aC ?_;refine aC ?_;(refine o_ av ?_)))
  refine aR () ?_
  exact .refl
def A6:List UInt8:=[34,35,60,62,63,92,94,96,123,124,125]
def tZ (c:UInt8):Bool:=decide (33<=c/\c<=126)&&!A6.contains c
theorem Px {W:World}{c:UInt8}{b:Nat}{A:HP}(h:tZ c=true):Cn p_ 160 ([.int .u8 (c.toNat:Int)]++[.pointer (some ⟨b,0,none⟩)]) W [A] (fun _:Unit=> .bool true) (fun _=>[A]):=by
 simp only[tZ,Bool.and_eq_true,Bool.not_eq_true',List.contains_eq_mem,decide_eq_true_eq,decide_eq_false_iff_not]at h
 obtain⟨⟨h1,h2⟩,h3⟩:=h
 replace h1:=Ed h1
 replace h2:=Ed h2
 simp at h1 h2
 have hx:lB A6 c<0:=by
  have:=mt eO.1 h3
  omega
 (refine Shp.cn (Sg.g_ Tryz.call160 Tryz.func160) fun F=>?_;simp only[ca_,na_])
 (((refine o_ (Sl.gi ?hcq) ?_);(case hcq=>(first|omega|(simp only[List.length_nil,List.length_cons];omega)))));refine ab ?_;refine ab ?_;(((refine o_ (Sl.bY ?hcq) ?_);(case hcq=>(first|omega|(simp only[List.length_nil,List.length_cons];omega)))));refine o_ av ?_;refine ab ?_;refine ab ?_
 refine' ah (indexByte (l:=A6) (c:=c)) ?hp fun _=>?_
 case hp=>(repeat(first|exact Picks.nil|(apply Picks.cons;(focus repeat constructor))))
 refine am ?_
 refine ab ?_;(((refine o_ (Sl.bY ?hcq) ?_);(case hcq=>(first|omega|(simp only[List.length_nil,List.length_cons];omega)))));refine o_ av (aC (aC (aC (aC (o_ av (aR () ?_))))))
 exact .refl
theorem Gn {W:World}{l:List UInt8}(h0:0<l.length)(h1:l.length<=255)(hl:∀c∈l,r7 c=true):Cn p_ 81 [ay l] W [] (fun _:Unit=> .tuple #[ay (fK l),.int .i64 (-1),.int .i64 0]) (fun _=>[]):=by
 have hp:gY [91] l=false:=by
  cases l with
  |nil=>cases h0
  |cons c r=>
   have:=hl c List.mem_cons_self
   unfold gY
   simp only[List.length_cons,List.length_nil,Nat.zero_add,List.take_succ_cons,List.take_zero,List.cons.injEq,and_true,decide_eq_false_iff_not]
   rintro rfl
   revert this;decide
 have hx:lB l 58= -1:=by
  unfold lB
  rw[if_neg]
  intro hm
  have:=hl _ hm
  revert this;decide
 (refine Shp.cn (Sg.g_ Tryz.call81 Tryz.func81 (an:={cuts:=[(10,[7]),(13,[2,5]),(20,[2,3])],drs:=[(10,.ofL [(0,1),(1,1),(2,1),(3,1),(4,1),(5,1),(6,1),(7,1)])]})) fun F=>?_;simp only[ca_,na_])
 refine fJ (fun x y=>pu (x=ay l/\y=ay [])::F) ?_ ?_
 rotate_left
 ·refine' ah (oA (l:=l) (p:=[91]) (by omega) (by decide)) ?hp fun _=>?_
  case hp=>exact .nil
  rw[hp]
  refine am ?_
  refine af ?_
  refine' ah (indexByte (l:=l) (c:=58)) ?hp fun _=>?_
  case hp=>exact .nil
  rw[hx]
  refine am ?_
  refine dK (fun x=>pu (x= .int .i64 (l.length:Int))::F) ?_ ?_
  rotate_left
  ·(((refine o_ (Sl.bY ?hcq) ?_);(case hcq=>(first|omega|(simp only[List.length_nil,List.length_cons];omega)))));refine ai ?_;refine o_ bu ?_
   refine aN (.pu rfl .refl)
  intro ds z
  refine aT .here fun hz=>?_
  subst hz
  refine aW (t_ (ny l.length rfl (Nat.le_refl _)) ?_)
  refine t_ (jn l.length rfl (Nat.le_refl _)) ?_
  rw[List.take_length,List.drop_length]
  (((refine o_ (Sl.bF ?hcq) ?_);(case hcq=>(first|omega|(simp only[List.length_nil,List.length_cons];omega)))));refine ab ?_;refine ab ?_;(((refine o_ (Sl.cf ?hcq) ?_);(case hcq=>(first|omega|(simp only[List.length_nil,List.length_cons];omega)))));refine o_ ak ?_;refine ab ?_;refine ab ?_
  refine' ah (Ii (l:=l) (f:=151) (cap:=[]) (A:=[]) (by omega) (fun c hc=>Ij (hl c hc))) ?hp fun _=>?_
  case hp=>exact .nil
  refine am ?_
  exact ab (o_ bB (o_ ak (af (aN (.pu ⟨rfl,rfl⟩ .refl)))))
 intro ds z2 z5
 refine aT .here fun hz=>?_
 obtain⟨rfl,rfl⟩:=hz
 refine fJ (fun x y=>pu (x=ay l/\y= .int .i64 (-1))::F) ?_ ?_
 rotate_left
 ·refine o_ (Sl.qT (m:=[]) (by simp)) ?_
  exact af (aN (.pu ⟨rfl,rfl⟩ .refl))
 intro ds z2 z3
 refine aT .here fun hz=>?_
 obtain⟨rfl,rfl⟩:=hz
 refine' ah (pb (l:=l) (by omega)) ?hp fun _=>?_
 case hp=>exact .nil
 refine am ?_
 refine aR () ?_
 exact .refl
theorem A7 {W:World}{m:List UInt8}:Cn p_ 86 [ay m] W [] (fun b:Nat=> .func (.func 160) #[] #[.pointer (some ⟨b,0,none⟩)]) (fun b=>[pt b (.cells #[ay m] 9)]):=by
 (refine Shp.cn (Sg.g_ Tryz.call86 Tryz.func86) fun F=>?_;simp only[ca_,na_])
 refine b_ fun g=>?_;refine o_ bC (aR g ?_)
 exact .refl
def Ik (p:List UInt8):Value:= .agg #[.int .i64 1,ay [],.int .i64 (-1),ay p,ay [],.bool false]
theorem A8 {W:World}{m p r:List UInt8}(hm:m=cU)(h0:p=47::r)(hp:p.all tZ=true)(hl:p.length<=8192):Cn p_ 35 [ay m,ay p] W [] (fun _:Unit=> .tuple #[Ik p,.int .i64 0]) (fun _=>[]):=by
 subst hm
 have hne:p≠[]:=by rintro rfl;cases h0
 have hlen:0<p.length:=List.length_pos_iff.2 hne
 have hp0:Sl.B p[0]= .int .u8 47:=by subst h0;rfl
 have hall:=List.all_eq_true.1 hp
 have hcut:fZ 63 p=false/\cu 63 p=p/\bS 63 p=[]:=(jd (c:=63) (l:=p)).2 (fun hx=>by have:=hall _ hx;revert this;decide)
 have heq:gD (p.take 7) [104,116,116,112,58,47,47]=false:=by
  subst h0
  have h1:fK [104,116,116,112,58,47,47]=[104,116,116,112,58,47,47]:=by decide
  have h2:gQ 47=47:=by decide
  cases hx:gD ((47::r).take 7) [104,116,116,112,58,47,47]with
  |false=>rfl
  |true=>
   unfold gD at hx
   simp only[List.take_succ_cons,fK,List.map_cons,h2,Bool.and_eq_true,decide_eq_true_eq]at hx
   revert hx
   simp
   intro _ h
   exact absurd h (by decide)
 (refine Shp.cn (Sg.g_ Tryz.call35 Tryz.func35 (an:={cuts:=[(19,[12]),(24,[8])],drs:=[(23,.ofL [(0,2),(1,2),(2,3),(3,1),(4,0),(5,1)]),(27,.ofL [(0,3),(1,3),(2,0),(3,0),(4,1),(5,1),(6,3),(7,3),(8,0),(9,0),(10,1),(11,1)])]}) (os:=[(23,[(4,[2])]),(27,[(2,[1,0]),(8,[7,6])])])) fun F=>?_;simp only[ca_,na_])
 refine aU fun gr=>?_
 refine o_ bO ?_;refine aU fun g=>?_;(((refine' aK ?hp ?hn ?hv ?h1 ?_);(case hp=>(repeat constructor));(case hn=>rfl);(case hv=>rfl);(case h1=>simp[Value.oneCell',ay])));refine o_ bu ?_;(((refine o_ (Sl.cf ?hcq) ?_);(case hcq=>(first|omega|(simp only[List.length_nil,List.length_cons];omega)))));refine ab (ab ?_);(((refine' aE (Sl.fB ?hcq) .nil ?_);(case hcq=>(first|assumption|simp_all;done))));refine o_ ak (af (o_ bO ?_));refine aU fun g=>?_;(((refine' aK ?hp ?hn ?hv ?h1 ?_);(case hp=>(repeat constructor));(case hn=>rfl);(case hv=>rfl);(case h1=>simp[Value.oneCell',ay])))
 rename_i g6
 refine dK (fun x=>pu (x=ay p)::pt g (.cells #[.int .i64 1,ay [],.int .i64 (-1),ay [],ay [],.bool false] 99)::pt g6 (.cells #[.int .i64 0,ay [],.int .i64 0,ay [],ay [],.bool false] 99)::pt gr (.cells #[.int .i64 0,ay [],.int .i64 0,ay [],ay [],.bool false] 99)::F) ?_ ?_
 rotate_left
 ·refine o_ (Sl.fB (l:=cU) (m:=[67,79,78,78,69,67,84]) (by decide)) ?_
  refine af (o_ (Sl.fB (l:=cU) (m:=[79,80,84,73,79,78,83]) (by decide)) ?_)
  refine aj (aj (o_ ak (af (o_ bu ?_))))
  by_cases h7:7<=p.length
  ·(((refine o_ (Sl.iP ?hcq) ?_);(case hcq=>(first|omega|(simp only[List.length_nil,List.length_cons];omega)))));refine ab ?_;refine ab ?_
   refine o_ (ny 7 rfl h7) ?_
   refine ab ?_
   refine' ah (equal (a:=p.take 7) (b:=[104,116,116,112,58,47,47]) (by simp;omega) (by decide)) ?hp fun _=>?_
   case hp=>exact .nil
   rw[heq]
   refine am ?_
   exact o_ av (af (aN (.pu rfl .refl)))
  ·(((refine o_ (Sl.eS ?hcq) ?_);(case hcq=>(first|omega|(simp only[List.length_nil,List.length_cons];omega)))));refine aj ?_;refine aj ?_;refine aj ?_;refine o_ ak ?_;refine af ?_
   exact aN (.pu rfl .refl)
 intro ds z
 refine aT .here fun hz=>?_
 subst hz
 refine o_ ae (aH ?_);(((refine o_ (Sl.ce ?hcq) ?_);(case hcq=>(first|omega|(simp only[List.length_nil,List.length_cons];omega)))));refine ab (ab (o_ (ew 0 rfl hlen) ?_))
 rw[hp0]
 refine ab ?_;(((refine o_ (Sl.cq ?hcq) ?_);(case hcq=>(first|omega|(simp only[List.length_nil,List.length_cons];omega)))));refine o_ av (af ?_)
 refine' ah (Ay (l:=p) (c:=63) (by omega)) ?hp fun _=>?_
 case hp=>exact .nil
 rw[hcut.1,hcut.2.1,hcut.2.2]
 refine am ?_
 refine bE ?_;refine bE ?_;refine bE ?_;refine o_ ae (bR ?_);refine o_ ae (bR ?_);refine o_ ae (bR ?_);refine aW (aq ae .nil ?_);(((refine' aq (aS ?hc) ?hi ?_);(case hi=>exact .pick (by repeat constructor) .nil);(case hc=>repeat constructor)))
 refine' ah (A7 (m:=[])) ?hp fun bp=>?_
 case hp=>exact .nil
 refine am ?_
 refine bj ?_;refine bj ?_
 refine' ah (Ii (l:=p) (f:=160) (cap:=[.pointer (some ⟨bp,0,none⟩)]) (A:=[_]) (by omega) (fun c hc=>Px (hall c hc))) ?hp fun _=>?_
 case hp=>exact .cons .here .nil
 refine am ?_
 refine t_ bB (db (aq ae .nil ?_));refine db ?_;(((refine' aq (aS ?hc) ?hi ?_);(case hi=>exact .pick (by repeat constructor) .nil);(case hc=>repeat constructor)));refine ab ?_
 refine' ah (A7 (m:=[63])) ?hp fun bp=>?_
 case hp=>exact .nil
 refine am ?_
 refine bj ?_;refine bj ?_;refine ab ?_
 refine' ah (Ii (l:=[]) (f:=160) (cap:=[.pointer (some ⟨bp,0,none⟩)]) (A:=[]) (by decide) (fun c hc=>by cases hc)) ?hp fun _=>?_
 case hp=>exact .nil
 refine am ?_
 refine ab (t_ bB (t_ ak (af (o_ ae (aH ?_)))));(((refine' aE (Sl.fB ?hcq) .nil ?_);(case hcq=>(first|assumption|simp_all;done))));refine af (jL ?_);(((refine' aK ?hp ?hn ?hv ?h1 ?_);(case hp=>(repeat constructor));(case hn=>rfl);(case hv=>rfl);(case h1=>simp[Value.oneCell',ay])));(((refine' be (cQ ?hn) ?hi ?_);(case hi=>exact az);(case hn=>rfl)))
 refine aR () ?_
 exact az
structure CnS where
 bo:Int
 ke:Int
 ck:Int
 si:Int
 rd:Bool
 bg:Bool
 nx:Value
 hd:Value
 rr:Value
 ln:Int
 q0:Value
 q1:Value
 q2:Value
 q3:Value
 got:Value
 ev:Value
 row:Value
 nu:Int
 out:Value
def oB (s:CnS):List Value:=[.int .i64 s.bo,.int .i64 s.ke,.int .i64 s.ck,.int .i64 s.si,.bool s.rd,.bool s.bg,s.nx,s.hd,s.rr,.int .i64 s.ln,s.q0,s.q1,s.q2,s.q3,s.got,s.ev,s.row,.int .i64 s.nu,s.out]
def cD (c:Nat)(s:CnS):HP:=pt c (.cells (oB s).toArray 175)
abbrev pC (c:Nat):Value:= .pointer (some ⟨c,0,none⟩)
abbrev Il (c:Nat):Value:= .func (.func 75) #[pC c] #[]
abbrev Vw (c:Nat):Value:= .func (.func 238) #[pC c] #[]
theorem Ee {a b:Int}(h:a<=b):(if a<b then b else a)=b:=by split <;> omega
def Py (t:Option TypeDesc):Bool:=match t with|some (.func ..)=>true|_=>false
theorem Ef {P:Program}{W:World}{t:TypeId}{ox oy:Operand}{f:Fn}{a b:Array Value}(hu:Py (P.underlying t)=true):aQ P W [] (dY .eql t ox oy (.func f a b) .nilFunc) (.bool false):=fun w _=>by
 unfold Py at hu
 split at hu
 ·rename_i hx
  have h:(Op.equal t (.func f a b) .nilFunc).run P w= .ok false w:=by
   unfold Op.equal Op.maxDepth Op.equalIn
   simp only[Sem.run_bind,run_underlying hx,Result.andThen_ok]
   rfl
  simp[dY,sv,eqGuard,binOp,h,Result.andThen]
 ·cases hu
theorem A9 {W:World}{c:Nat}{s:CnS}{now:Int}(h:s.ck<=now)(h1:now<=1099511627776):Cn p_ 76 [pC c,.int .i64 now] W [cD c s] (fun _:Unit=> .tuple #[]) (fun _=>[cD c {s with ck:=now}]):=by
 (refine Shp.cn (Sg.g_ Tryz.call76 Tryz.func76) fun F=>?_;simp only[ca_,na_])
 cases s
 (try dsimp only at *)
 unfold cD oB
 (try dsimp only)
 refine o_ ag (o_ ae (aH ?_))
 refine o_ qH ?_
 rw[if_neg (by omega)]
 refine o_ tw ?_
 rw[Ee h]
 refine o_ ag (o_ ae (bR ?_))
 refine aR () ?_
 exact .refl
theorem t6 {W:World}{c:Nat}{s:CnS}{f:Fn}{a b:Array Value}(h:s.nx= .func f a b):Cn p_ 74 [pC c] W [cD c s] (fun _:Unit=> .bool false) (fun _=>[cD c s]):=by
 (refine Shp.cn (Sg.g_ Tryz.call74 Tryz.func74) fun F=>?_;simp only[ca_,na_])
 cases s
 (try dsimp only at *)
 unfold cD oB
 (try dsimp only)
 subst h
 refine o_ bM ?_;refine ab (ab (o_ ag (ab (o_ ae (ab (aH ?_))))));refine ab (o_ (Ef (by kernel_rfl)) ?_)
 refine o_ ak (aR () ?_)
 exact .refl
theorem Up {W:World}{a:Option Addr}{c:Nat}{v:Value}:Cn p_ 177 [.slice a 0 c,v] W [] (fun _:Unit=> .int .i64 (-1)) (fun _=>[]):=by
 (refine Shp.cn (Sg.g_ Tryz.call177 Tryz.func177 (an:={loops:=[(2,[8])]})) fun F=>?_;simp only[ca_,na_])
 refine o_ aI (aY (fun m y=>pu (y= .int .i64 0)::_) 0 (.pu rfl .refl) ?_)
 intro m ds y
 refine aT .here fun hz=>?_
 subst hz
 (((refine o_ (Sl.bF ?hcq) ?_);(case hcq=>(first|omega|(simp only[List.length_nil,List.length_cons];omega)))));refine af ?_
 refine aR () ?_
 exact az
theorem Pz {W:World}{a:Option Addr}{c:Nat}{v:Value}:Cn p_ 104 [.slice a 0 c,v] W [] (fun _:Unit=> .bool false) (fun _=>[]):=by
 (refine Shp.cn (Sg.g_ Tryz.call104 Tryz.func104) fun F=>?_;simp only[ca_,na_])
 refine c_ Up fun _=>?_
 (((refine o_ (Sl.eS ?hcq) ?_);(case hcq=>(first|omega|(simp only[List.length_nil,List.length_cons];omega)))))
 refine aR () ?_
 exact az
theorem PA {W:World}{fs:List FD.Fd}{a:Option Addr}{c:Nat}{A:HP}{n w:List UInt8}(hA:gX W A a fs)(hl:qS fs)(hn:n.length<=4194304)(h:bW fs n=[]):Cn p_ 473 [.slice a fs.length c,ay n,ay w] W [A] (fun _:Unit=> .bool false) (fun _=>[A]):=by
 (refine Shp.cn (Sg.g_ Tryz.call473 Tryz.func473) fun F=>?_;simp only[ca_,na_])
 refine b_ fun g=>?_
 refine' ah (fO hA hl hn) ?hp fun q=>?_
 case hp=>(repeat(first|exact Picks.nil|(apply Picks.cons;(focus repeat constructor))))
 rw[h]
 refine am ?_
 refine o_ bC (c_ Pz fun _=>?_)
 refine aR () ?_
 exact az
def mS:List UInt8:=[67,111,110,110,101,99,116,105,111,110]
def qW:List UInt8:=[72,111,115,116]
theorem A_ {W:World}{fs:List FD.Fd}{a:Option Addr}{c:Nat}{A:HP}{m t:List UInt8}(hA:gX W A a fs)(hl:qS fs)(h:bW fs mS=[]):Cn p_ 417 [.agg #[ay m,ay t,.int .i64 1,.slice a fs.length c]] W [A] (fun _:Unit=> .bool true) (fun _=>[A]):=by
 (refine Shp.cn (Sg.g_ Tryz.call417 Tryz.func417) fun F=>?_;simp only[ca_,na_])
 refine aX fun g=>?_;refine o_ ae (aH ?_);(((refine o_ (Sl.bA ?hcq) ?_);(case hcq=>(first|omega|(simp only[List.length_nil,List.length_cons];omega)))));refine af (o_ ae (aH ?_))
 refine' ah (PA (n:=mS) hA hl (by decide) h) ?hp fun _=>?_
 case hp=>(repeat(first|exact Picks.nil|(apply Picks.cons;(focus repeat constructor))))
 refine am ?_
 refine o_ cL (aR () ?_)
 exact az
theorem Eg {W:World}{fs:List FD.Fd}{a:Option Addr}{c:Nat}{A:HP}{m t l:List UInt8}{mi:Int}(hA:gX W A a fs)(hl:qS fs)(h:bW fs qW=[l])(h0:0<l.length)(h1:l.length<=255)(ha:∀c∈l,r7 c=true):Cn p_ 236 [.agg #[ay m,ay t,.int .i64 mi,.slice a fs.length c]] W [A] (fun _:Unit=> .bool true) (fun _=>[A]):=by
 (refine Shp.cn (Sg.g_ Tryz.call236 Tryz.func236) fun F=>?_;simp only[ca_,na_])
 refine aX fun g=>?_;refine o_ ae (aH ?_)
 refine' ah (fO (n:=qW) hA hl (by decide)) ?hp fun q=>?_
 case hp=>(repeat(first|exact Picks.nil|(apply Picks.cons;(focus repeat constructor))))
 obtain⟨qa,qc⟩:=q
 rw[h]
 refine am ?_
 (try dsimp only[List.length_cons,List.length_nil,List.map_cons,List.map_nil])
 refine a9 (by(repeat constructor):Pick _ (Sl 1 9 qa qc _ _) _) (by decide) fun g hg=>?_
 subst hg
 refine o_ aI ?_;(((refine o_ (Sl.cq ?hcq) ?_);(case hcq=>(first|omega|(simp only[List.length_nil,List.length_cons];omega)))));refine af ?_;(((refine' aE (bq 0 rfl ?hcq) .nil ?_);(case hcq=>(first|omega|decide|(simp;done)))));(((refine' aE (bw ?hc) ?hi ?_);(case hi=>exact az);(case hc=>rfl)))
 refine c_ (Gn h0 h1 ha) fun _=>?_
 refine bE ?_;refine bE ?_;refine bE ?_;(((refine' aE (bq 0 rfl ?hcq) .nil ?_);(case hcq=>(first|omega|decide|(simp;done)))));(((refine' aE (bw ?hc) ?hi ?_);(case hi=>exact az);(case hc=>rfl)))
 refine o_ (Sl.fB (m:=[]) (by rintro rfl;cases h0)) ?_
 refine ab (ab ?_);(((refine o_ (Sl.ce ?hcq) ?_);(case hcq=>(first|omega|(simp only[List.length_nil,List.length_cons];omega)))));refine o_ ak (aR () ?_)
 exact az
theorem cB {W:World}{L:List HP}{A B:WP}(h1:aJ W L A)(h2:aJ W L B):aJ W L (fun w=>A w/\B w):=fun w hw=>⟨h1 w hw,h2 w hw⟩
theorem iv {W:World} {L L':List HP} {S:WP} {c:Nat} {bo ke ck si ln nu:Int} {rd bg:Bool} {nx hd rr q0 q1 q2 q3 got ev row out:Value} (p:Pick L (pt c (.cells #[.int .i64 bo,.int .i64 ke,.int .i64 ck,.int .i64 si,.bool rd,.bool bg,nx,hd,rr,.int .i64 ln,q0,q1,q2,q3,got,ev,row,.int .i64 nu,out] 175)) L')
  (h:aJ W (cD c ⟨bo,ke,ck,si,rd,bg,nx,hd,rr,ln,q0,q1,q2,q3,got,ev,row,nu,out⟩::L') S):aJ W L S:=bf (.pick p .refl) h
def Eh (c hd:Nat)(bo ke now:Int):CnS:=⟨bo,ke,now,now,true,false,Il c,pC hd,.pointer none,0,ay [],ay [],.int .i64 0,.slice none 0 0,.slice none 0 0,.slice none 0 0,.slice none 0 0,0,.slice none 0 0⟩
theorem Uq {W:World}{bo ke now:Int}(h0:0<=bo)(h1:bo<=1048576)(h2:0<=ke)(h3:ke<=3600)(h4:0<=now)(h5:now<=1099511627776):Cn p_ 30 [.agg #[.int .i64 bo,.int .i64 ke],.int .i64 now] W [] (fun q:Nat × Nat=> .tuple #[pC q.1,.int .i64 0]) (fun q=>[cD q.1 (Eh q.1 q.2 bo ke now),cV q.2 (ef false)]):=by
 (refine Shp.cn (Sg.g_ Tryz.call30 Tryz.func30 (an:={drs:=[(3,.ofL [(0,3),(1,0),(2,1),(3,0),(4,1)])]}) (os:=[(3,[(1,[0])])])) fun F=>?_;simp only[ca_,na_])
 refine aX fun x=>?_
 refine o_ ae (aH ?_);(((refine o_ (Sl.bF ?hcq) ?_);(case hcq=>(first|omega|(simp only[List.length_nil,List.length_cons];omega)))));refine ab (o_ ae (ab (aH ?_)));refine ab ?_;(((refine o_ (Sl.cf ?hcq) ?_);(case hcq=>(first|omega|(simp only[List.length_nil,List.length_cons];omega)))));refine o_ ak (ab (o_ ae (ab (aH ?_))));refine ab ?_;(((refine o_ (Sl.bF ?hcq) ?_);(case hcq=>(first|omega|(simp only[List.length_nil,List.length_cons];omega)))));refine o_ ak (ab (o_ ae (ab (aH ?_))));refine ab ?_;(((refine o_ (Sl.cf ?hcq) ?_);(case hcq=>(first|omega|(simp only[List.length_nil,List.length_cons];omega)))));refine o_ ak (af (aW ?_));(((refine' aq (bN ?hn) ?hi ?_);(case hi=>exact .pick (by repeat constructor) .nil);(case hn=>rfl)))
 refine' ah (DZ (r:=false)) ?hp fun hd=>?_
 case hp=>(repeat(first|exact Picks.nil|(apply Picks.cons;(focus repeat constructor))))
 refine am ?_
 refine cB (aN az) ?_
 refine t_ bO ?_;refine aX fun g=>?_;refine o_ bC (o_ ag (o_ ae (bR ?_)))
 refine iv (by repeat constructor) ?_
 refine' ah (A9 (c:=g) ?hck h5) ?hp fun _=>?_
 case hp=>(repeat(first|exact Picks.nil|(apply Picks.cons;(focus repeat constructor))))
 case hck=>exact h4
 refine am ?_
 (unfold cD oB;(try dsimp only))
 refine o_ ag (o_ ae (aH ?_));refine o_ ag (o_ ae (bR ?_))
 refine aR ((g,hd)) ?_
 exact az
end Go.Proofs.YtdjkdjepjahjfaaGreatDoor.TP
