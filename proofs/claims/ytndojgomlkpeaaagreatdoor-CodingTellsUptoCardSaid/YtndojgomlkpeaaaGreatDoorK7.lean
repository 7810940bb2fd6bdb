/- What is done to a response for a client: the program's answer is the plain one. Heads of at most 1100000 bytes. (36 texts made one; each says below what it is.) -/
import Derived.Test.YtndojgomlkpeaaaGreatDoorK6
import Derived.KernelRfl
import Derived.Test.YtndojgomlkpeaaaGreatDoorRows
import Derived.Deep.DeepHandedRow
import Derived.LaidMore
import Derived.Lay
import Derived.MakeChecks
set_option linter.unusedVariables false
set_option linter.unusedSimpArgs false
set_option linter.unusedSectionVars false
namespace Go.Proofs.YtndojgomlkpeaaaGreatDoor
set_option maxRecDepth 9999
namespace FD
open Go Go.Proofs Go.RowKit Sh Sl T IF GZ
theorem Lx {W:World}{bl bx:Nat}{level st:Int}{X:List Fd}{D:List UInt8}{ax ad:Option Addr}{cx cd:Nat}{A:HP}(hA:k9 W A ax X)(hX:zF X<=1100000)(hD:D.length<=4611686018427387904):
  Cn p_ 28 [.pointer (some ⟨bl,0,none⟩),.pointer (some ⟨bx,0,none⟩)] W [pt bl (.cells #[.int .i64 level] 3),pt bx (.cells #[.int .i64 st,.slice ax X.length cx,.slice ad D.length cd] 25),A]
   (fun _:Unit=> .bool ((decide (1<=level)&&decide (level<=9))&&r6 st X D)) (fun _=>[pt bl (.cells #[.int .i64 level] 3),pt bx (.cells #[.int .i64 st,.slice ax X.length cx,.slice ad D.length cd] 25),A]):=by
 (refine Shp.cn (Sg.g_ Tryz.call28 Tryz.func28) fun F=>?_;simp only[ca_,na_])
 refine bJ ?_
 refine o_ cH ?_
 by_cases h1:1<=level
 rotate_left
 ·rw[dF_ h1]
  simp only[Bool.false_and]
  refine af (af (o_ ag (af (af (o_ ag (bq () ?_))))))
  exact aw
 rw[dT_ h1]
 refine ae (bJ ?_);refine ae (o_ cZ ?_)
 by_cases h2:level<=9
 rotate_left
 ·rw[dF_ h2]
  simp only[Bool.and_false,Bool.false_and]
  refine o_ ah (af (af (o_ ag (bq () ?_))))
  exact aw
 rw[dT_ h2]
 simp only[Bool.true_and]
 refine o_ ah (ae (lG ?_));refine ae (c_ (fit hA hX hD) fun _=>?_)
 refine o_ ah (bq () ?_)
 exact aw
theorem Ly {W:World}{o:Nat}{st:Int}{X:List Fd}{a:Option Addr}{c:Nat}{bd:Value}[OC bd](hX:zF X<=1100000):
  Cn p_ 29 [.pointer (some ⟨o,0,none⟩)] W [pt o (.cells #[.int .i64 st,.slice a X.length c,bd] 25),Sl 2 52 a c X.length (X.flatMap dO)] (fun _:Option Addr × Nat=> .bool true)
   (fun q=>[pt o (.cells #[.int .i64 st,.slice q.1 (cN X).length q.2,bd] 25),Sl 2 52 q.1 q.2 (cN X).length ((cN X).flatMap dO)]):=by
 (refine Shp.cn (Sg.g_ Tryz.call29 Tryz.func29) fun F=>?_;simp only[ca_,na_])
 refine c_ (SD (bd:=bd) hX) fun _=>?_
 rename_i q
 refine bq q ?_
 exact aw
theorem Lz {W:World}[hG:Gl W]{l:List Fd}{g c:Nat}{a:Option Addr}{A:HP}(hA:k9 W A a l)(hl:zF l<=1100000):
  Cn p_ 31 [.pointer (some ⟨g,0,none⟩)] W [pt g (.cells #[.slice a l.length c] 22),A] (fun _:Unit=> .bool (j6 l)) (fun _=>[pt g (.cells #[.slice a l.length c] 22),A]):=by
 (refine Shp.cn (Sg.g_ Tryz.call31 Tryz.func31) fun F=>?_;simp only[ca_,na_])
 refine bJ ?_
 refine c_ (choose hA hl) fun _=>?_
 refine o_ (cS (m:=ie)) ?_
 rw[show decide (pG l=ie)=j6 l by unfold pG;cases j6 l <;> decide]
 refine bq () ?_
 exact aw
theorem LA {W : World} [hG : Gp W] {o g : Nat} {st level : Int} {X : List Fd} {D : List UInt8} {a ad : Option Addr} {c cd : Nat} {AX AD : HP} (hA : k9 W AX a X) (hX : zF X ≤ 2097152) (hB : RdB W AD ad D.length (D.map Sl.B)) (hc : D.length ≤ cd) (hD : D.length ≤ 4611686018427387904) :
  Cn p_ 32 [.pointer (some ⟨o, 0, none⟩), .pointer (some ⟨g, 0, none⟩)] W [pt g (.cells #[.int .i64 level] 3), pt o (.cells #[.int .i64 st, .slice a X.length c, .slice ad D.length cd] 25), AX, AD]
   (fun _ : (Option Addr × Nat) × (Option Addr × Nat) => .bool (decide (r5 D level 0 = 0)))
   (fun q => if r5 D level 0 = 0 then [pt g (.cells #[.int .i64 level] 3), pt o (.cells #[.int .i64 st, .slice q.1.1 (kg X (gS D level 0)).length q.1.2, .slice q.2.1 (gS D level 0).length q.2.2] 25), Sl 2 52 q.1.1 q.1.2 (kg X (gS D level 0)).length ((kg X (gS D level 0)).flatMap dO), Sl 1 5 q.2.1 q.2.2 (gS D level 0).length ((gS D level 0).map Sl.B)]
    else [pt g (.cells #[.int .i64 level] 3), pt o (.cells #[.int .i64 st, .slice a X.length c, .slice ad D.length cd] 25), AX, AD]) := by
 (refine Shp.cn (Sg.g_ Tryz.call32 Tryz.func32) fun F => ?_; simp only [ca_, na_])
 refine bJ ?_
 refine aB (PI (level := level) (st := st) (o := o) (c := c) hA hX hB hc hD) (.cons (by repeat constructor) (.cons (by repeat constructor) (.cons (by repeat constructor) .nil))) fun q => ?_
 by_cases hE : r5 D level 0 = 0
 ·simp only [if_pos hE]
  refine aq ?_
  refine bq q ?_
  exact aw
 ·simp only [if_neg hE]
  refine aq ?_
  refine bq q ?_
  exact aw
def Jv (X:List Fd)(D:List UInt8)(level:Int)(i:Nat):List Fd:=if i<=1 then X else if i<=3 then cN X else kg (cN X) (gS D level 0)
def xK (D:List UInt8)(level:Int)(i:Nat):List UInt8:=if i<=3 then D else gS D level 0
theorem PJ (a b:List Fd):zF (a++b)=zF a+zF b:=by
 induction a with
 |nil=>rw[List.nil_append];show zF b=0+zF b;omega
 |cons f r ih=>rw[List.cons_append,p8,p8,ih];omega
theorem LB (X:List Fd):zF (cN X)<=zF X+64:=by
 unfold cN
 split
 ·omega
 ·rw[PJ]
  have:zF [(fJ,iP)]<=64:=by decide
  omega
theorem apply {W : World} [hG : Gl W] [hP : Gp W] {l X : List Fd} {D : List UInt8} {st level : Int} {al ax ad : Option Addr} {cl cx cd : Nat} {AL AX AD : HP} (hl : k9 W AL al l) (hl1 : zF l <= 1100000)
  (hA : k9 W AX ax X) (ha : ax = none -> X.length = 0) (hX : zF X <= 1100000) (hB : RdB W AD ad D.length (D.map Sl.B)) (hb : ad = none -> D.length = 0) (hD : D.length <= 1099511627776) :
  Cn p_ 14 [.slice al l.length cl, .agg #[.int .i64 st, .slice ax X.length cx, .slice ad D.length cd], .int .i64 level] W [AL, AX, AD]
   (fun q : (Option Addr × Nat) × (Option Addr × Nat) => .agg #[.int .i64 st, .slice q.1.1 (jv l level st X D).X.length q.1.2, .slice q.2.1 (jv l level st X D).D.length q.2.2])
   (fun q => [AL, AX, AD, Sl 2 52 q.1.1 q.1.2 (jv l level st X D).X.length ((jv l level st X D).X.flatMap dO), Sl 1 5 q.2.1 q.2.2 (jv l level st X D).D.length ((jv l level st X D).D.map Sl.B)]) := by
 have hzl := m6 X
 have hvz := LB X
 (refine S.qI.cn fun F => ?_; unfold S.mP; simp only [ca_, na_])
 refine fb fun bl => ?_
 refine bV fun bx => ?_
 refine fb fun bv => ?_
 refine bp fun b6 => ?_
 refine dD (fun z => (ex fun q : (Option Addr × Nat) × (Option Addr × Nat) => ex fun o : Nat => all [pu (z = .pointer (some ⟨o, 0, none⟩)), pt o (.cells #[.int .i64 st, .slice q.1.1 X.length q.1.2, .slice q.2.1 D.length q.2.2] 25), Sl 2 52 q.1.1 q.1.2 X.length (X.flatMap dO), Sl 1 5 q.2.1 q.2.2 D.length (D.map Sl.B)])
   :: pt bl (.cells #[.slice al l.length cl] 22) :: pt bx (.cells #[.int .i64 st, .slice ax X.length cx, .slice ad D.length cd] 25) :: pt bv (.cells #[.int .i64 level] 3) :: pt b6 (.cells #[.int .i64 0, .slice none 0 0, .slice none 0 0] 25) :: AL :: AX :: AD :: F) ?_ ?_
 rotate_left
 ·(refine bA ?_); refine bh aj .nil ?_; (((refine' bh (bC ?hc) ?hi ?_); (case hi => exact .pick (by repeat constructor) .nil); (case hc => repeat constructor))); refine bh aj .nil ?_; (((refine' bh (bC ?hc) ?hi ?_); (case hi => exact .pick (by repeat constructor) .nil); (case hc => repeat constructor))); refine bh aj .nil ?_; (((refine' bh (bC ?hc) ?hi ?_); (case hi => exact .pick (by repeat constructor) .nil); (case hc => repeat constructor)))
  refine gY ?_ ?_
  ·refine cU (s := 2) (e := 52) ?_
   refine bO (m := X.length) (news := X.flatMap dO) (by (repeat constructor) : Pick _ (Sl 2 52 none 0 0 []) _) (mI (s := 2) (e' := 52) (by kernel_rfl) (by decide) (by (repeat constructor) : Pick _ AX _) hA ha m_) (by omega) (by omega) fun a1 c1 => ?_
   rw [Nat.zero_add, List.nil_append]
   (((refine bZ ?hi ?_); (case hi => (repeat (first | exact .refl | exact .nil | (apply Imp.pick; (focus ((repeat constructor); done))) | refine .drop ?_))))); (((refine bZ ?hi ?_); (case hi => (repeat (first | exact .refl | exact .nil | (apply Imp.pick; (focus ((repeat constructor); done))) | refine .drop ?_))))); (((refine bZ ?hi ?_); (case hi => (repeat (first | exact .refl | exact .nil | (apply Imp.pick; (focus ((repeat constructor); done))) | refine .drop ?_))))); (((refine bZ ?hi ?_); (case hi => (repeat (first | exact .refl | exact .nil | (apply Imp.pick; (focus ((repeat constructor); done))) | refine .drop ?_)))))
   refine gY ?_ ?_
   ·refine cU (s := 1) (e := 5) ?_
    refine bO (m := D.length) (news := D.map Sl.B) (by (repeat constructor) : Pick _ (Sl 1 5 none 0 0 []) _) (dF (e' := 5) (by kernel_rfl) (by (repeat constructor) : Pick _ AD _) hB hb dY) (by omega) (by omega) fun a2 c2 => ?_
    rw [Nat.zero_add, List.nil_append]
    (((refine bZ ?hi ?_); (case hi => (repeat (first | exact .refl | exact .nil | (apply Imp.pick; (focus ((repeat constructor); done))) | refine .drop ?_))))); (((refine bZ ?hi ?_); (case hi => (repeat (first | exact .refl | exact .nil | (apply Imp.pick; (focus ((repeat constructor); done))) | refine .drop ?_))))); refine bh b_ .nil ?_; refine bp fun g => ?_; (((refine bZ ?hi ?_); (case hi => (repeat (first | exact .refl | exact .nil | (apply Imp.pick; (focus ((repeat constructor); done))) | refine .drop ?_))))); (((refine bZ ?hi ?_); (case hi => (repeat (first | exact .refl | exact .nil | (apply Imp.pick; (focus ((repeat constructor); done))) | refine .drop ?_))))); (((refine bZ ?hi ?_); (case hi => (repeat (first | exact .refl | exact .nil | (apply Imp.pick; (focus ((repeat constructor); done))) | refine .drop ?_))))); (((refine bZ ?hi ?_); (case hi => (repeat (first | exact .refl | exact .nil | (apply Imp.pick; (focus ((repeat constructor); done))) | refine .drop ?_))))); (((refine bZ ?hi ?_); (case hi => (repeat (first | exact .refl | exact .nil | (apply Imp.pick; (focus ((repeat constructor); done))) | refine .drop ?_))))); (((refine bZ ?hi ?_); (case hi => (repeat (first | exact .refl | exact .nil | (apply Imp.pick; (focus ((repeat constructor); done))) | refine .drop ?_))))); (((refine bZ ?hi ?_); (case hi => (repeat (first | exact .refl | exact .nil | (apply Imp.pick; (focus ((repeat constructor); done))) | refine .drop ?_))))); (((refine' bS ?hp ?hn ?hv ?h1 ?_); (case hp => (repeat constructor)); (case hn => rfl); (case hv => rfl); (case h1 => simp [Value.oneCell'])))
    rename Nat => b7
    refine aD (.ex ((a1, c1), (a2, c2)) (.ex b7 (.all ?_)))
    (try simp only [ca_, na_, -eq_self])
    refine .pu rfl ?_
    (repeat (first | exact .refl | exact .nil | (apply Imp.pick; (focus ((repeat constructor); done))) | refine .drop ?_))
   ·refine bp fun b7 => ?_
    (((refine bZ ?hi ?_); (case hi => (repeat (first | exact .refl | exact .nil | (apply Imp.pick; (focus ((repeat constructor); done))) | refine .drop ?_))))); (((refine bZ ?hi ?_); (case hi => (repeat (first | exact .refl | exact .nil | (apply Imp.pick; (focus ((repeat constructor); done))) | refine .drop ?_))))); (((refine bZ ?hi ?_); (case hi => (repeat (first | exact .refl | exact .nil | (apply Imp.pick; (focus ((repeat constructor); done))) | refine .drop ?_))))); (((refine bZ ?hi ?_); (case hi => (repeat (first | exact .refl | exact .nil | (apply Imp.pick; (focus ((repeat constructor); done))) | refine .drop ?_))))); (((refine bZ ?hi ?_); (case hi => (repeat (first | exact .refl | exact .nil | (apply Imp.pick; (focus ((repeat constructor); done))) | refine .drop ?_))))); (((refine bZ ?hi ?_); (case hi => (repeat (first | exact .refl | exact .nil | (apply Imp.pick; (focus ((repeat constructor); done))) | refine .drop ?_)))))
    refine cU (s := 1) (e := 5) ?_
    refine bO (m := D.length) (news := D.map Sl.B) (by (repeat constructor) : Pick _ (Sl 1 5 none 0 0 []) _) (dF (e' := 5) (by kernel_rfl) (by (repeat constructor) : Pick _ AD _) hB hb dY) (by omega) (by omega) fun a2 c2 => ?_
    rw [Nat.zero_add, List.nil_append]
    (((refine bZ ?hi ?_); (case hi => (repeat (first | exact .refl | exact .nil | (apply Imp.pick; (focus ((repeat constructor); done))) | refine .drop ?_))))); (((refine bZ ?hi ?_); (case hi => (repeat (first | exact .refl | exact .nil | (apply Imp.pick; (focus ((repeat constructor); done))) | refine .drop ?_))))); refine aT b_ .nil ?_; (((refine' bS ?hp ?hn ?hv ?h1 ?_); (case hp => (repeat constructor)); (case hn => rfl); (case hv => rfl); (case h1 => simp [Value.oneCell'])))
    refine aD (.ex ((a1, c1), (a2, c2)) (.ex b7 (.all ?_)))
    (try simp only [ca_, na_, -eq_self])
    refine .pu rfl ?_
    (repeat (first | exact .refl | exact .nil | (apply Imp.pick; (focus ((repeat constructor); done))) | refine .drop ?_))
  ·refine bp fun b7 => ?_
   (((refine bZ ?hi ?_); (case hi => (repeat (first | exact .refl | exact .nil | (apply Imp.pick; (focus ((repeat constructor); done))) | refine .drop ?_))))); (((refine bZ ?hi ?_); (case hi => (repeat (first | exact .refl | exact .nil | (apply Imp.pick; (focus ((repeat constructor); done))) | refine .drop ?_))))); (((refine bZ ?hi ?_); (case hi => (repeat (first | exact .refl | exact .nil | (apply Imp.pick; (focus ((repeat constructor); done))) | refine .drop ?_))))); (((refine bZ ?hi ?_); (case hi => (repeat (first | exact .refl | exact .nil | (apply Imp.pick; (focus ((repeat constructor); done))) | refine .drop ?_))))); (((refine bZ ?hi ?_); (case hi => (repeat (first | exact .refl | exact .nil | (apply Imp.pick; (focus ((repeat constructor); done))) | refine .drop ?_))))); (((refine bZ ?hi ?_); (case hi => (repeat (first | exact .refl | exact .nil | (apply Imp.pick; (focus ((repeat constructor); done))) | refine .drop ?_)))))
   refine cU (s := 2) (e := 52) ?_
   refine bO (m := X.length) (news := X.flatMap dO) (by (repeat constructor) : Pick _ (Sl 2 52 none 0 0 []) _) (mI (s := 2) (e' := 52) (by kernel_rfl) (by decide) (by (repeat constructor) : Pick _ AX _) hA ha m_) (by omega) (by omega) fun a1 c1 => ?_
   rw [Nat.zero_add, List.nil_append]
   (((refine bZ ?hi ?_); (case hi => (repeat (first | exact .refl | exact .nil | (apply Imp.pick; (focus ((repeat constructor); done))) | refine .drop ?_))))); (((refine bZ ?hi ?_); (case hi => (repeat (first | exact .refl | exact .nil | (apply Imp.pick; (focus ((repeat constructor); done))) | refine .drop ?_))))); (((refine bZ ?hi ?_); (case hi => (repeat (first | exact .refl | exact .nil | (apply Imp.pick; (focus ((repeat constructor); done))) | refine .drop ?_))))); (((refine bZ ?hi ?_); (case hi => (repeat (first | exact .refl | exact .nil | (apply Imp.pick; (focus ((repeat constructor); done))) | refine .drop ?_)))))
   refine cU (s := 1) (e := 5) ?_
   refine bO (m := D.length) (news := D.map Sl.B) (by (repeat constructor) : Pick _ (Sl 1 5 none 0 0 []) _) (dF (e' := 5) (by kernel_rfl) (by (repeat constructor) : Pick _ AD _) hB hb dY) (by omega) (by omega) fun a2 c2 => ?_
   rw [Nat.zero_add, List.nil_append]
   (((refine bZ ?hi ?_); (case hi => (repeat (first | exact .refl | exact .nil | (apply Imp.pick; (focus ((repeat constructor); done))) | refine .drop ?_))))); (((refine bZ ?hi ?_); (case hi => (repeat (first | exact .refl | exact .nil | (apply Imp.pick; (focus ((repeat constructor); done))) | refine .drop ?_))))); refine aT b_ .nil ?_; (((refine' bS ?hp ?hn ?hv ?h1 ?_); (case hp => (repeat constructor)); (case hn => rfl); (case hv => rfl); (case h1 => simp [Value.oneCell'])))
   refine aD (.ex ((a1, c1), (a2, c2)) (.ex b7 (.all ?_)))
   (try simp only [ca_, na_, -eq_self])
   refine .pu rfl ?_
   (repeat (first | exact .refl | exact .nil | (apply Imp.pick; (focus ((repeat constructor); done))) | refine .drop ?_))
 intro ds z
 refine aH .here fun q => aH .here fun o => ap .here ?_
 obtain ⟨⟨a1, c1⟩, ⟨a2, c2⟩⟩ := q
 (try simp only [ca_, na_, -eq_self])
 refine aG .here fun hz => ?_
 subst hz
 refine am gI .nil ?_
 refine am gI .nil ?_
 refine am gI .nil ?_
 refine am gI .nil ?_
 refine am b_ .nil ?_; refine bp fun g => ?_; (((refine' bS ?hp ?hn ?hv ?h1 ?_); (case hp => (repeat constructor)); (case hn => rfl); (case hv => rfl); (case h1 => simp [Value.oneCell']))); (((refine' am (cg ?hn) ?hi ?_); (case hi => exact .pick (by repeat constructor) .nil); (case hn => rfl)))
 rename Nat => b8
 obtain ⟨ok, hok⟩ : ∃ ok, ok = ((decide (1 <= level) && decide (level <= 9)) && r6 st X D) := ⟨_, rfl⟩
 have hap : jv l level st X D = if ok then if j6 l then if r5 D level 0 = 0 then ⟨kg (cN X) (gS D level 0), gS D level 0⟩ else ⟨cN X, D⟩ else ⟨cN X, D⟩ else ⟨X, D⟩ := by rw [hok]; rfl
 refine a_ (fun k y => (ex fun q : (Option Addr × Nat) × (Option Addr × Nat) => ex fun i : Nat => all [pu (k + i = 4 /\ y = .int .i64 (i : Int) /\ (1 <= i -> ok = true) /\ (3 <= i -> j6 l = true) /\ (4 <= i -> r5 D level 0 = 0)), pt o (.cells #[.int .i64 st, .slice q.1.1 (Jv X D level i).length q.1.2, .slice q.2.1 (xK D level i).length q.2.2] 25), Sl 2 52 q.1.1 q.1.2 (Jv X D level i).length ((Jv X D level i).flatMap dO), Sl 1 5 q.2.1 q.2.2 (xK D level i).length ((xK D level i).map Sl.B)])
  :: pt bl (.cells #[.slice al l.length cl] 22) :: pt bx (.cells #[.int .i64 st, .slice ax X.length cx, .slice ad D.length cd] 25) :: pt bv (.cells #[.int .i64 level] 3) :: pt b6 (.cells #[.int .i64 0, .slice none 0 0, .slice none 0 0] 25) :: AL :: AX :: AD :: F) 4 ?_ ?_
 ·refine .ex ((a1, c1), (a2, c2)) (.ex 0 (.all ?_))
  (try simp only [ca_, na_, -eq_self])
  refine .pu ⟨rfl, rfl, by omega, by omega, by omega⟩ ?_
  show Imp W _ ([pt o (.cells #[.int .i64 st, .slice a1 X.length c1, .slice a2 D.length c2] 25), Sl 2 52 a1 c1 X.length (X.flatMap dO), Sl 1 5 a2 c2 D.length (D.map Sl.B)] ++ _)
  (try simp only [ca_, na_, -eq_self])
  (repeat (first | exact .refl | exact .nil | (apply Imp.pick; (focus ((repeat constructor); done))) | refine .drop ?_))
 intro k ds2 y
 refine aH .here fun q => aH .here fun i => ap .here ?_
 obtain ⟨⟨a3, c3⟩, ⟨a4, c4⟩⟩ := q
 (try simp only [ca_, na_, -eq_self])
 refine aG .here fun hi => ?_
 obtain ⟨hki, rfl, h1, h3, h4⟩ := hi
 (try dsimp only)
 refine am az .nil ?_
 rcases (show i = 0 \/ i = 1 \/ i = 2 \/ i = 3 \/ i = 4 by omega) with rfl | rfl | rfl | rfl | rfl
 ·rw [dT_ (by decide), show Jv X D level 0 = X from rfl, show xK D level 0 = D from rfl]
  refine ab ?_
  refine am (lH 0 rfl (by decide) rfl) .nil ?_
  refine dS (cap := [.pointer (some ⟨bv, 0, none⟩), .pointer (some ⟨bx, 0, none⟩)]) (Lx (level := level) (st := st) (D := D) (cx := cx) (cd := cd) (ad := ad) hA hX (by omega)) (by (repeat (first | exact Picks.nil | (apply Picks.cons; (focus repeat constructor))))) fun _ => ?_
  rw [<- hok]
  (try simp only [ca_, na_, -eq_self])
  cases hk : ok with
  | false =>
   rw [hk] at hap
   simp only [Bool.false_eq_true, if_false] at hap
   rw [hap]
   refine am dh .nil ?_; refine ab ?_; (((refine' am (cg ?hn) ?hi ?_); (case hi => exact .pick (by repeat constructor) .nil); (case hn => rfl))); (((refine' bS ?hp ?hn ?hv ?h1 ?_); (case hp => (repeat constructor)); (case hn => rfl); (case hv => rfl); (case h1 => simp [Value.oneCell']))); (((refine' aT (cG ?hn) ?hi ?_); (case hi => (repeat (first | exact .refl | exact .nil | (apply Imp.pick; (focus ((repeat constructor); done))) | refine .drop ?_))); (case hn => rfl)))
   refine aR ((a3, c3), (a4, c4)) rfl ?_
   (repeat (first | exact .refl | exact .nil | (apply Imp.pick; (focus ((repeat constructor); done))) | refine .drop ?_))
  | true =>
   refine am dJ .nil ?_; refine aa ?_; (refine am (bU (by omega) (by omega)) .nil ?_)
   (try refine am (bU (by omega) (by omega)) .nil ?_)
   refine aK (k - 1) (by omega) (.ex ((a3, c3), (a4, c4)) (.ex 1 (.all ?_)))
   (try simp only [ca_, na_, -eq_self])
   refine .pu ⟨by omega, rfl, fun _ => rfl, by omega, by omega⟩ ?_
   show Imp W _ ([pt o (.cells #[.int .i64 st, .slice a3 X.length c3, .slice a4 D.length c4] 25), Sl 2 52 a3 c3 X.length (X.flatMap dO), Sl 1 5 a4 c4 D.length (D.map Sl.B)] ++ _)
   (try simp only [ca_, na_, -eq_self])
   (repeat (first | exact .refl | exact .nil | (apply Imp.pick; (focus ((repeat constructor); done))) | refine .drop ?_))
 ·rw [dT_ (by decide), show Jv X D level 1 = X from rfl, show xK D level 1 = D from rfl]
  refine ab ?_
  refine am (lH 1 rfl (by decide) rfl) .nil ?_
  refine dS (cap := [.pointer (some ⟨o, 0, none⟩)]) (Ly (st := st) (bd := .slice a4 D.length c4) hX) (by (repeat (first | exact Picks.nil | (apply Picks.cons; (focus repeat constructor))))) fun r => ?_
  obtain ⟨a5, c5⟩ := r
  (try simp only [ca_, na_, -eq_self])
  (try dsimp only)
  refine am dJ .nil ?_; refine aa ?_; (refine am (bU (by omega) (by omega)) .nil ?_)
  (try refine am (bU (by omega) (by omega)) .nil ?_)
  refine aK (k - 1) (by omega) (.ex ((a5, c5), (a4, c4)) (.ex 2 (.all ?_)))
  (try simp only [ca_, na_, -eq_self])
  refine .pu ⟨by omega, rfl, fun _ => h1 (by omega), by omega, by omega⟩ ?_
  show Imp W _ ([pt o (.cells #[.int .i64 st, .slice a5 (cN X).length c5, .slice a4 D.length c4] 25), Sl 2 52 a5 c5 (cN X).length ((cN X).flatMap dO), Sl 1 5 a4 c4 D.length (D.map Sl.B)] ++ _)
  (try simp only [ca_, na_, -eq_self])
  (repeat (first | exact .refl | exact .nil | (apply Imp.pick; (focus ((repeat constructor); done))) | refine .drop ?_))
 ·rw [dT_ (by decide), show Jv X D level 2 = cN X from rfl, show xK D level 2 = D from rfl]
  refine ab ?_
  refine am (lH 2 rfl (by decide) rfl) .nil ?_
  refine dS (cap := [.pointer (some ⟨bl, 0, none⟩)]) (Lz (c := cl) hl hl1) (by (repeat (first | exact Picks.nil | (apply Picks.cons; (focus repeat constructor))))) fun _ => ?_
  (try simp only [ca_, na_, -eq_self])
  rw [h1 (by omega)] at hap
  simp only [if_true] at hap
  cases hk : j6 l with
  | false =>
   rw [hk] at hap
   simp only [Bool.false_eq_true, if_false] at hap
   rw [hap]
   refine am dh .nil ?_; refine ab ?_; (((refine' am (cg ?hn) ?hi ?_); (case hi => exact .pick (by repeat constructor) .nil); (case hn => rfl))); (((refine' bS ?hp ?hn ?hv ?h1 ?_); (case hp => (repeat constructor)); (case hn => rfl); (case hv => rfl); (case h1 => simp [Value.oneCell']))); (((refine' aT (cG ?hn) ?hi ?_); (case hi => (repeat (first | exact .refl | exact .nil | (apply Imp.pick; (focus ((repeat constructor); done))) | refine .drop ?_))); (case hn => rfl)))
   refine aR ((a3, c3), (a4, c4)) rfl ?_
   (repeat (first | exact .refl | exact .nil | (apply Imp.pick; (focus ((repeat constructor); done))) | refine .drop ?_))
  | true =>
   refine am dJ .nil ?_; refine aa ?_; (refine am (bU (by omega) (by omega)) .nil ?_)
   (try refine am (bU (by omega) (by omega)) .nil ?_)
   refine aK (k - 1) (by omega) (.ex ((a3, c3), (a4, c4)) (.ex 3 (.all ?_)))
   (try simp only [ca_, na_, -eq_self])
   refine .pu ⟨by omega, rfl, fun _ => h1 (by omega), fun _ => rfl, by omega⟩ ?_
   show Imp W _ ([pt o (.cells #[.int .i64 st, .slice a3 (cN X).length c3, .slice a4 D.length c4] 25), Sl 2 52 a3 c3 (cN X).length ((cN X).flatMap dO), Sl 1 5 a4 c4 D.length (D.map Sl.B)] ++ _)
   (try simp only [ca_, na_, -eq_self])
   (repeat (first | exact .refl | exact .nil | (apply Imp.pick; (focus ((repeat constructor); done))) | refine .drop ?_))
 ·rw [dT_ (by decide), show Jv X D level 3 = cN X from rfl, show xK D level 3 = D from rfl]
  refine ab ?_
  refine am (lH 3 rfl (by decide) rfl) .nil ?_
  rw [h1 (by omega), h3 (by omega)] at hap
  simp only [if_true] at hap
  refine aF (by (repeat constructor) : Pick _ (Sl 2 52 a3 c3 (cN X).length ((cN X).flatMap dO)) _) fun _ _ _ hs => ?_
  refine aF (by (repeat constructor) : Pick _ (Sl 1 5 a4 c4 D.length (D.map Sl.B)) _) fun _ k2 _ k4 => ?_
  refine dS (cap := [.pointer (some ⟨o, 0, none⟩), .pointer (some ⟨bv, 0, none⟩)]) (LA (level := level) (st := st) (c := c3) (cd := c4) (nf hs) (by omega) (cq (e := 5) (a := a4) (cap := c4) (by rw [List.length_map]) k4) k2 (by omega)) (by (repeat (first | exact Picks.nil | (apply Picks.cons; (focus repeat constructor))))) fun r => ?_
  obtain ⟨⟨a5, c5⟩, ⟨a6, c6⟩⟩ := r
  by_cases hE : r5 D level 0 = 0
  ·simp only [if_pos hE]
   rw [dT_ hE]
   (try simp only [ca_, na_, -eq_self])
   refine am dJ .nil ?_; refine aa ?_; (refine am (bU (by omega) (by omega)) .nil ?_)
   (try refine am (bU (by omega) (by omega)) .nil ?_)
   refine aK (k - 1) (by omega) (.ex ((a5, c5), (a6, c6)) (.ex 4 (.all ?_)))
   (try simp only [ca_, na_, -eq_self])
   refine .pu ⟨by omega, rfl, fun _ => h1 (by omega), fun _ => h3 (by omega), fun _ => hE⟩ ?_
   show Imp W _ ([pt o (.cells #[.int .i64 st, .slice a5 (kg (cN X) (gS D level 0)).length c5, .slice a6 (gS D level 0).length c6] 25), Sl 2 52 a5 c5 (kg (cN X) (gS D level 0)).length ((kg (cN X) (gS D level 0)).flatMap dO), Sl 1 5 a6 c6 (gS D level 0).length ((gS D level 0).map Sl.B)] ++ _)
   (try simp only [ca_, na_, -eq_self])
   (repeat (first | exact .refl | exact .nil | (apply Imp.pick; (focus ((repeat constructor); done))) | refine .drop ?_))
  ·simp only [if_neg hE]
   rw [if_neg hE] at hap
   rw [dF_ hE, hap]
   (try simp only [ca_, na_, -eq_self])
   refine am dh .nil ?_; refine ab ?_; (((refine' am (cg ?hn) ?hi ?_); (case hi => exact .pick (by repeat constructor) .nil); (case hn => rfl))); (((refine' bS ?hp ?hn ?hv ?h1 ?_); (case hp => (repeat constructor)); (case hn => rfl); (case hv => rfl); (case h1 => simp [Value.oneCell']))); (((refine' aT (cG ?hn) ?hi ?_); (case hi => (repeat (first | exact .refl | exact .nil | (apply Imp.pick; (focus ((repeat constructor); done))) | refine .drop ?_))); (case hn => rfl)))
   refine aR ((a3, c3), (a4, c4)) rfl ?_
   (repeat (first | exact .refl | exact .nil | (apply Imp.pick; (focus ((repeat constructor); done))) | refine .drop ?_))
 ·rw [dF_ (by decide), show Jv X D level 4 = kg (cN X) (gS D level 0) from rfl, show xK D level 4 = gS D level 0 from rfl]
  rw [h1 (by omega), h3 (by omega)] at hap
  simp only [if_true] at hap
  rw [if_pos (h4 (by omega))] at hap
  rw [hap]
  refine aa ?_; (((refine' am (cg ?hn) ?hi ?_); (case hi => exact .pick (by repeat constructor) .nil); (case hn => rfl))); (((refine' bS ?hp ?hn ?hv ?h1 ?_); (case hp => (repeat constructor)); (case hn => rfl); (case hv => rfl); (case h1 => simp [Value.oneCell']))); (((refine' aT (cG ?hn) ?hi ?_); (case hi => (repeat (first | exact .refl | exact .nil | (apply Imp.pick; (focus ((repeat constructor); done))) | refine .drop ?_))); (case hn => rfl)))
  refine aR ((a3, c3), (a4, c4)) rfl ?_
  (repeat (first | exact .refl | exact .nil | (apply Imp.pick; (focus ((repeat constructor); done))) | refine .drop ?_))
end FD
namespace GZ
open Go Go.Proofs Go.RowKit Sh Sl T IF B M
def yg (W:World)(A:HP)(p:Nat)(l:List UInt8):HP:=ex fun q:Option Addr × Nat=>all [pt p (.cells #[.slice q.1 l.length q.2] 107),pu (RdB W A q.1 l.length (l.map Sl.B)/\l.length<=q.2)]
theorem ql {W:World}{b:Bool}:CnP p_ 69 [.bool b] W [] (fun _:If (b=true)=> .tuple #[]) (fun _=>[]) (fun _:If (b=false)=>pn 32) (fun _=>[]):=by
 (refine Shp.cnP (Sg.g_ Tryz.call69 Tryz.func69) fun F=>?_;simp only[ca_,na_,-eq_self])
 cases b with
 |true=>
  refine o_ dJ (aa (bq (mh (rfl)) ?_))
  exact .refl
 |false=>
  refine o_ dh (ab (o_ lE (jD ?_)))
  exact bT (mh (rfl)) rfl .refl
theorem sm {W:World}{A:HP}{p n:Nat}{l:List UInt8}:CnP p_ 68 [.pointer (some ⟨p,0,none⟩),.int .i64 (n:Int)] W [yg W A p l]
  (fun x:{q:Option Addr × Nat // n<=l.length/\RdB W A q.1 n ((l.take n).map Sl.B)/\n<=q.2}=> .slice x.1.1 n x.1.2) (fun _=>[yg W A p (l.drop n)]) (fun _:If (l.length<n)=>pn 20) (fun _=>[]):=by
 (refine Shp.cnP (Sg.g_ Tryz.call68 Tryz.func68 (an:={cuts:=[(3,[])]})) fun F=>?_;simp only[ca_,na_,-eq_self])
 refine aH .here fun q=>ap .here ?_
 obtain⟨qa,qc⟩:=q
 refine aq ?_
 refine aG (.there .here) fun hq=>?_
 obtain⟨hr,hc⟩:=hq
 (try dsimp only at hr hc)
 (try dsimp only)
 refine cP (pu (n<=l.length)::pt p (.cells #[.slice qa l.length qc] 107)::F) ?_ ?_
 rotate_left
 ·(refine o_ au ?_);refine o_ aj ?_;refine bJ ?_;refine o_ aC ?_
  refine o_ aV ?_
  by_cases h:(l.length:Int)<(n:Int)
  ·rw[dT_ h]
   refine ab (o_ lE (jD ?_))
   refine bT (mh (by omega)) rfl ?_
   exact aw
  ·rw[dF_ h]
   refine aa (aD (.pu (by omega) ?_))
   exact aw
 intro ds
 refine aG .here fun hn=>?_
 have h1:=hr.cut (cap:=qc) (l:=0) (h:=n) (by omega) (by omega) hc
 have h2:=hr.cut (cap:=qc) (l:=n) (h:=l.length) (by omega) (by omega) hc
 rw[List.drop_zero,Nat.sub_zero,<- List.map_take]at h1
 rw[<- List.map_drop,<- List.map_take,List.take_of_length_le (by rw[List.length_drop];omega)]at h2
 refine o_ au (o_ aj (bJ ?_))
 refine o_ (qB n rfl (by omega)) ?_
 refine o_ au (o_ aj (bJ ?_))
 refine o_ (ph n rfl hn) ?_
 refine o_ au (o_ aj (eE ?_))
 refine bq (⟨((if qc=0 then qa else qa.map (·.add (0 * 1))),qc),hn,h1,by omega⟩) ?_
 refine .ex ((if qc=n then qa else qa.map (·.add (n * 1))),qc-n) (.all ?_)
 refine aq ?_
 rw[List.length_drop]
 refine .pick (by repeat constructor) (.pu ⟨h2,by omega⟩ ?_)
 exact aw
theorem PL:∀n:Nat,n<256->co .or .i64 0 (n:Int)=(n:Int):=by decide+kernel
theorem zm {P:Program}{W:World}{t e:TypeId}{n s:Nat}{cs:Array Value}{q:IntKind}{i:Int}(j:Nat)[ht:ArrT P t n e s][ha:AggT P e s](hi:i=(j:Int))(hj:j<n):bg P W [] (nQ t (.agg cs) (.int q i)) (.agg (cs.extract (j * s) (j * s+s))):=fun w _=>by
 subst hi
 simp[nQ,Instr.index,asIntOf,ht.ut,ht.size,hj,part,ha.agg,ha.size]
theorem Im {W:World}{a b:Option Addr}{ca cb:Nat}{x y:List UInt8}{A C:HP}(hx:RdB W A a x.length (x.map Sl.B))(ha:a=none->x.length=0)(hy:RdB W C b y.length (y.map Sl.B))(hb:b=none->y.length=0):
  Cn p_ 70 [.slice a x.length ca,.slice b y.length cb] W [A,C] (fun _:Unit=> .bool (decide (x=y))) (fun _=>[A,C]):=by
 (refine Shp.cn (Sg.g_ Tryz.call70 Tryz.func70) fun F=>?_;simp only[ca_,na_])
 refine bt (iF hx ha) ?_
 refine bt (iF hy hb) ?_
 refine o_ cS (bq () ?_)
 exact aw
theorem Fj {W:World}{A:HP}{p:Nat}{l:List UInt8}{L L':List HP}{S:WP}(q:Pick L (yg W A p l) L')(h:∀(qa:Option Addr) (qc:Nat),RdB W A qa l.length (l.map Sl.B)->l.length<=qc->aZ W (pt p (.cells #[.slice qa l.length qc] 107)::L') S):aZ W L S:=
 yw q (aH .here fun x=>ap .here (aG (.there .here) fun hq=>h x.1 x.2 hq.1 hq.2))
theorem zn {W:World}{A:HP}{p:Nat}{l:List UInt8}{L L':List HP}{S:WP}{qa:Option Addr}{qc:Nat}(q:Pick L (pt p (.cells #[.slice qa l.length qc] 107)) L')(hr:RdB W A qa l.length (l.map Sl.B))(hc:l.length<=qc)(h:aZ W (yg W A p l::L') S):aZ W L S:=
 bF (.ex (qa,qc) (.all (.pick q (.pu ⟨hr,hc⟩ .refl)))) h
def rO (R:Except Int (List UInt8 × Nat)):List UInt8:=match R with
 | .ok x=>x.1
 | .error _=>[]
def rN (R:Except Int (List UInt8 × Nat)):Int:=match R with
 | .ok x=>x.2
 | .error _=>0
def rE (R:Except Int (List UInt8 × Nat)):Int:=match R with
 | .ok _=>0
 | .error e=>e
theorem Ag {G H:Prop}(k:G->H)(m:G):H:=k m
theorem LC {W:World} {F:List HP} {g4 g5 g6:Nat} {v4 v5 v6:Value} {e:Int} {K:Value->WP} {Kq:PK}
  (h:aZ W (pt g4 (.cells #[.slice none 0 0] 23)::pt g5 (.cells #[.int .i64 0] 3)::pt g6 (.cells #[.int .i64 e] 27)::F) (K (.tuple #[.slice none 0 0,.int .i64 0,.int .i64 e]))):
  aZ W (pt g4 (.cells #[v4] 23)::pt g5 (.cells #[v5] 3)::pt g6 (.cells #[v6] 27)::F)
   (fy p_ {target:= .fn (.func 65) ([.pointer (some ⟨g4,0,none⟩),.pointer (some ⟨g5,0,none⟩),.pointer (some ⟨g6,0,none⟩)]:List Value).toArray,args:=([]:List Value).toArray} (S.aA (.pointer (some ⟨g4,0,none⟩)) (.pointer (some ⟨g5,0,none⟩)) (.pointer (some ⟨g6,0,none⟩)) K) Kq (pn e)):=by
 unfold fy
 refine zO (f:=65) (A:=[.pointer (some ⟨g4,0,none⟩),.pointer (some ⟨g5,0,none⟩),.pointer (some ⟨g6,0,none⟩)]) (shape:=fun rv=>S.ec (.pointer (some ⟨g4,0,none⟩)) (.pointer (some ⟨g5,0,none⟩)) (.pointer (some ⟨g6,0,none⟩)) rv) (fun c=>by cases c) ⟨_,_,rfl⟩ (iY (cs:=[.pointer (some ⟨g4,0,none⟩),.pointer (some ⟨g5,0,none⟩),.pointer (some ⟨g6,0,none⟩)]) (bs:=[]) Tryz.call65) (fun h=>S.jR h) ?_
 unfold S.ec pn
 rw[zQ,C1]
 refine o_ (uJ (by kernel_rfl)) ?_
 refine ab (bA (bh (OV (k:= .i64) (by kernel_rfl)) .nil ?_))
 refine eE ?_;refine cf ?_;refine eE ?_;refine cf ?_;refine eE ?_
 unfold S.aA
 (((refine' aT (cB ?hc) ?hi ?_);(case hi=>exact aw);(case hc=>repeat constructor)));(((refine' aT (cB ?hc) ?hi ?_);(case hi=>exact aw);(case hc=>repeat constructor)));(((refine' aT (cB ?hc) ?hi ?_);(case hi=>exact aw);(case hc=>repeat constructor)))
 exact bF aw h
end GZ
namespace FD
open Go Go.Proofs Go.RowKit Sh Sl T IF GZ
def In (V:List (List UInt8))(D:List UInt8)(most:Int)(U:Except Int (List UInt8 × Nat)):List UInt8 × Int:=
 match V with
 |[]=>if most<(D.length:Int)then([],6)else(D,0)
 |[v]=>if dy v ie then(rO U,rE U)else([],46)
 |_::_::_=>([],46)
def sU (V:List (List UInt8))(D:List UInt8)(most:Int)(U:Except Int (List UInt8 × Nat)):List UInt8 × Int:=
 if most<0\/1048576<most then([],1)else if 1048576<(D.length:Int)then([],6)else In V D most U
theorem xL {W:World} {st most:Int} {Y:List Fd} {D:List UInt8} {ax ad:Option Addr} {cx cd:Nat} {AX AD:HP} {U:Except Int (List UInt8 × Nat)} (hA:k9 W AX ax Y) (hY:zF Y<=2097152) (hB:RdB W AD ad D.length (D.map Sl.B)) (hb:ad=none->D.length=0) (hD:D.length<=1099511627776)
  (hU:∀v,bz Y jA=[v]->dy v ie=true->0<=most->most<=1048576->D.length<=1048576->Cn p_ 23 [.slice ad D.length cd,.int .i64 most] W [AD] (fun q:Option Addr × Nat=> .tuple #[.slice q.1 (rO U).length q.2,.int .i64 (rE U)]) (fun q=>[Sl 1 5 q.1 q.2 (rO U).length ((rO U).map Sl.B),AD])):
  Cn p_ 8 [.agg #[.int .i64 st,.slice ax Y.length cx,.slice ad D.length cd],.int .i64 most] W [AX,AD]
   (fun q:Option Addr × Nat=> .tuple #[.slice q.1 (sU (bz Y jA) D most U).1.length q.2,.int .i64 (sU (bz Y jA) D most U).2])
   (fun q=>[Sl 1 5 q.1 q.2 (sU (bz Y jA) D most U).1.length ((sU (bz Y jA) D most U).1.map Sl.B),AX,AD]):=by
 have hok:=BM (l:=Y) (by omega)
 have hvz:=m7 Y jA
 have hvl:=jo Y jA
 have hzl:=m6 Y
 (refine Shp.cn (Sg.g_ Tryz.call8 Tryz.func8 (an:={cuts:=[(4,[10])]})) fun F=>?_;simp only[ca_,na_])
 refine bV fun b=>?_
 refine o_ aj (bJ ?_)
 refine aB (uK (n:=jA) hA hok (by decide)) (.cons (by repeat constructor) .nil) fun r=>?_
 obtain⟨va,vc⟩:=r
 refine aq ?_
 (try dsimp only)
 obtain⟨V,hV⟩:∃V,V=bz Y jA:=⟨_,rfl⟩
 rw[<- hV]at hU hvz hvl ⊢
 obtain⟨I,hI⟩:∃I,I=sU V D most U:=⟨_,rfl⟩
 rw[<- hI]
 refine pV ?_
 refine o_ az ?_
 by_cases c1:most<0
 ·obtain rfl:I=([],1):=by rw[hI];unfold sU;rw[if_pos (.inl c1)]
  rw[dT_ c1]
  refine ab (fB fun ds=>?_)
  refine ab (cU (s:=1) (e:=5) ?_)
  refine aR (none,0) rfl ?_
  exact aw
 rw[dF_ c1]
 refine aa (o_ aV (fB fun ds=>?_))
 by_cases c2:1048576<most
 ·obtain rfl:I=([],1):=by rw[hI];unfold sU;rw[if_pos (.inr c2)]
  rw[dT_ c2]
  refine ab (cU (s:=1) (e:=5) ?_)
  refine aR (none,0) rfl ?_
  exact aw
 rw[dF_ c2]
 refine aa (o_ aj (bJ ?_));refine o_ aC (o_ aV ?_)
 by_cases c3:1048576<(D.length:Int)
 ·obtain rfl:I=([],6):=by rw[hI];unfold sU;rw[if_neg (by omega),if_pos c3]
  rw[dT_ c3]
  refine ab (cU (s:=1) (e:=5) ?_)
  refine aR (none,0) rfl ?_
  exact aw
 have hIV:I=In V D most U:=by rw[hI];unfold sU;rw[if_neg (by omega),if_neg c3]
 clear hI
 rw[dF_ c3]
 refine aa (o_ aC (o_ aP ?_))
 match hVV:V with
 |[]=>
  unfold In at hIV
  rw[dF_ (by simp)]
  refine af (af (af (af (o_ ag (aa (o_ aC (o_ aV ?_)))))))
  rw[dF_ (by simp)]
  refine aa (o_ aj (bJ ?_));refine o_ aC (o_ aV ?_)
  by_cases c4:most<(D.length:Int)
  ·rw[if_pos c4]at hIV
   subst hIV
   rw[dT_ c4]
   refine ab (cU (s:=1) (e:=5) ?_)
   refine aR (none,0) rfl ?_
   exact aw
  ·rw[if_neg c4]at hIV
   subst hIV
   rw[dF_ c4]
   refine aa (o_ aj (bJ ?_))
   refine cU (s:=1) (e:=5) ?_
   refine bO (m:=D.length) (news:=D.map Sl.B) (by(repeat constructor):Pick _ (Sl 1 5 none 0 0 []) _) (dF (e':=5) (by kernel_rfl) (by(repeat constructor):Pick _ AD _) hB hb dY) (by omega) (by omega) fun a2 c2=>?_
   rw[Nat.zero_add,List.nil_append]
   refine aR (a2,c2) rfl ?_
   exact aw
 |[v]=>
  unfold In at hIV
  have hvv:=uM (show v∈bz Y jA by rw[<- hV];exact List.mem_singleton.2 rfl)
  rw[<- hV]at hvv
  rw[dT_ (by simp)]
  refine aF (by(repeat constructor):Pick _ (Sl 1 9 va vc [v].length ([v].map bm)) _) fun _ _ _ hs=>?_
  have hN:RdB W (Sl 1 9 va vc [v].length ([v].map bm)) va [v].length ([v].map bm):=cq (by rw[List.length_map]) hs
  obtain⟨ng,rfl⟩:=hs (by simp)
  refine ae (ae (o_ (bj 0 rfl (by simp)) ?_))
  refine ae ?_;(((refine' am (cI ?hc) ?hi ?_);(case hi=>exact aw);(case hc=>rfl)));refine ae ?_
  (try refine bt (qU hN (j:=0) (by simp)) ?_)
  refine aB (equal (a:=v) (b:=ie) (by omega) (by decide)) .nil fun _=>?_
  refine aq ?_
  cases he:dy v ie with
  |true=>
   simp only[he,if_true]at hIV
   subst hIV
   refine o_ ah (ab (o_ aj (bJ ?_)))
   refine aB (hU v rfl he (by omega) (by omega) (by omega)) (.cons (by repeat constructor) .nil) fun r=>?_
   obtain⟨ua,uc⟩:=r
   refine aq ?_
   (try dsimp only)
   refine o_ (bk (v:= .slice ua (rO U).length uc) rfl) ?_
   refine o_ (bk (v:= .int .i64 (rE U)) rfl) ?_
   refine aR (ua,uc) rfl ?_
   exact aw
  |false=>
   simp only[he,Bool.false_eq_true,if_false]at hIV
   subst hIV
   refine o_ ah (aa (o_ aC (o_ aV ?_)))
   rw[dT_ (by simp)]
   refine ab (cU (s:=1) (e:=5) ?_)
   refine aR (none,0) rfl ?_
   exact aw
 |v::u::r=>
  unfold In at hIV
  subst hIV
  rw[dF_ (by simp only[List.length_cons];omega)]
  refine af (af (af (af (o_ ag (aa (o_ aC (o_ aV ?_)))))))
  rw[dT_ (by simp only[List.length_cons];omega)]
  refine ab (cU (s:=1) (e:=5) ?_)
  refine aR (none,0) rfl ?_
  exact aw
end FD
namespace FD
open Go Go.Proofs Go.RowKit Sh Sl T
theorem SJ (x y:Fd):∀w,(Op.eqFields 9999 (dO x).toArray (dO y).toArray (p_.fieldsOf 52).toList).run p_ w= .ok (decide (x.1=y.1)&&(decide (x.2=y.2)&&(true))) w:=fun w=>by
 have hf:(p_.fieldsOf 52).toList=(#[⟨"Name",9,0,false,"","",0⟩,⟨"Value",9,1,false,"","",16⟩]:Array Field).toList:=by kernel_rfl
 rw[hf]
 exact Tg x.1 y.1 (by decide) (by rfl) (by rfl) (by rfl) (Tg x.2 y.2 (by decide) (by rfl) (by rfl) (by rfl) (O0))
theorem LD {W:World}{ox oy:Operand}(x y:Fd):bg p_ W [] (kj .neq 52 ox oy (wC x) (wC y)) (.bool (!decide (x=y))):=by
 have h:=Kt (W:=W) (t:=52) (ox:=ox) (oy:=oy) (by kernel_rfl) (by kernel_rfl) (by kernel_rfl) (SJ x y)
 have e:decide (x=y)=(decide (x.1=y.1)&&(decide (x.2=y.2)&&(true))):=by
  rw[Bool.eq_iff_iff]
  simp[Prod.ext_iff]
 rw[e]
 exact h
theorem Fk {W:World}{l m:List Fd}{a b:Option Addr}{c d:Nat}{A B:HP}(hA:k9 W A a l)(hB:k9 W B b m)(hl:l.length<=1099511627776)(hm:m.length<=1099511627776):Cn p_ 26 [.slice a l.length c,.slice b m.length d] W [A,B] (fun _:Unit=> .bool (decide (l=m))) (fun _=>[A,B]):=by
 (refine Shp.cn (Sg.g_ Tryz.call26 Tryz.func26 (an:={loops:=[(4,[5])],drs:=[(6,.ofL [(0,1),(1,1),(2,1),(3,1),(4,1),(5,1),(6,1),(7,1),(8,1)])]})) fun F=>?_;simp only[ca_,na_])
 refine o_ aC (o_ aC (ay bK .nil (fun h=>?_) (fun h=>?_)))
 ·refine ab (aR () (by rw[dF_];intro e;apply h;rw[e]) ?_)
  exact aw
 have cL:l.length=m.length:=by omega
 refine aa (a_ (fun k y=>pu (∃i:Nat,k+i=l.length/\y= .int .i64 (i:Int)/\l.take i=m.take i)::A::B::F) l.length ?_ ?_)
 ·refine .pu ⟨0,rfl,rfl,rfl⟩ ?_
  exact aw
 intro k ds y
 refine aG .here fun hi=>?_
 obtain⟨i,hki,rfl,heq⟩:=hi
 refine o_ aC (ay az .nil (fun h=>?_) (fun h=>?_))
 ·have hil:i<l.length:=by omega
  have him:i<m.length:=by omega
  obtain⟨ga,oa,rfl⟩:=qP hA (by omega)
  obtain⟨gb,ob,rfl⟩:=qP hB (by omega)
  refine ab (bA (t_ (cR i rfl hil) ?_))
  refine eJ (qQ hA hil) ?_
  refine t_ (cR i rfl him) ?_
  refine eJ (qQ hB him) ?_
  refine t_ (LD l[i] m[i]) ?_
  by_cases hx:l[i]=m[i]
  ·rw[dT_ hx]
   refine aa (bG ?_)
   refine aK (k-1) (by omega) (.pu ⟨i+1,by omega,by norm_cast,by rw[List.take_succ_eq_append_getElem hil,List.take_succ_eq_append_getElem him,heq,hx]⟩ ?_)
   exact aw
  ·rw[dF_ hx]
   refine ab (aR () (by rw[dF_];rintro rfl;exact hx rfl) ?_)
   exact aw
 ·have:i=l.length:=by omega
  subst this
  rw[List.take_length,cL,List.take_length]at heq
  refine aa (aR () (by rw[dT_ heq]) ?_)
  exact aw
theorem LE {W:World} {s t:Int} {l m:List Fd} {x y:List UInt8} {a b xa ya:Option Addr} {c d xc yc:Nat} {A B C D:HP} (hA:k9 W A a l) (hB:k9 W B b m) (hl:l.length<=1099511627776) (hm:m.length<=1099511627776)
  (hC:RdB W C xa x.length (x.map Sl.B)) (hxa:xa=none->x.length=0) (hD:RdB W D ya y.length (y.map Sl.B)) (hya:ya=none->y.length=0):
  Cn p_ 11 [.agg #[.int .i64 s,.slice a l.length c,.slice xa x.length xc],.agg #[.int .i64 t,.slice b m.length d,.slice ya y.length yc]] W [A,B,C,D] (fun _:Unit=> .bool (decide (s=t)&&(decide (l=m)&&decide (x=y)))) (fun _=>[A,B,C,D]):=by
 (refine Shp.cn (Sg.g_ Tryz.call11 Tryz.func11) fun F=>?_;simp only[ca_,na_])
 refine bV fun b2=>?_
 refine bV fun b3=>?_
 refine o_ aj (bJ ?_);refine o_ aj (bJ ?_)
 refine ay aP .nil (fun h1=>?_) (fun h1=>?_)
 rotate_left
 ·rw[dF_ h1]
  refine af (af (af (af (af (o_ ag (af (af (af (af (af (af (af (o_ ag (aR () rfl ?_))))))))))))))
  exact aw
 rw[dT_ h1]
 refine ae (o_ aj (ae (bJ ?_)));refine ae (o_ aj (ae (bJ ?_)));refine ae (aB (Fk hA hB hl hm) (.cons (by repeat constructor) (.cons (by repeat constructor) .nil)) fun _=>?_)
 refine aq ?_
 by_cases h2:l=m
 rotate_left
 ·rw[dF_ h2]
  refine o_ ah (af (af (af (af (af (af (af (o_ ag (aR () rfl ?_)))))))))
  exact aw
 rw[dT_ h2]
 refine o_ ah (ae (o_ aj (ae (bJ ?_))));refine ae (bt (iF hC hxa) ?_)
 refine ae (o_ aj (ae (bJ ?_)));refine ae (bt (iF hD hya) ?_)
 refine ae (o_ cS (o_ ah (aR () (by simp) ?_)))
 exact aw
end FD
namespace Sl
open Go Go.RowKit Sh
variable {P:Program} {W:World} {L L':List HP} {Kp:PK} {k:Value->WP}
theorem Fl {t e e':TypeId} {g n c:Nat} {cs:Array Value} (ht:P.underlying t=some (.slice e)) (he:P.underlying e=some (.int .u8)) (p:Pick L (pt g (.cells cs e' (0,0))) L')
  (h:aZ W (pt g (.cells cs e' (cs.size,cs.size+1))::L') (k (.slice (some ⟨g,0,none⟩) n c))):aZ W L (opN P (fR t t (.slice (some ⟨g,0,none⟩) n c)) Kp k):=fun w hw=>by
 have hp:=hw.pick p
 have hg:=hp.pt_.1
 have hsh:w.shape? g=some (e',cs.size):=by unfold World.shape?;rw[hg]
 have hrun:(fR t t (.slice (some ⟨g,0,none⟩) n c)).run P w= .ok (.value (.slice (some ⟨g,0,none⟩) n c)) (w.freeze ⟨g,cs.size,none⟩ 1):=by
  simp[fR,convert,run_underlying ht,run_underlying he,markStringish,hsh]
 refine⟨?_⟩
 rw[hrun]
 refine h _ (hp.turn (w':=w.freeze ⟨g,cs.size,none⟩ 1) rfl rfl rfl ?_ ?_ ?_)
 ·simp[World.freeze]
 ·simp[World.freeze,Array.getElem?_modify,hg]
 ·intro i hi
  simp only[World.freeze]
  rw[if_neg (by decide),Array.getElem?_modify,if_neg (fun c=>hi c.symm)]
end Sl
namespace FD
open Go Go.Proofs Go.RowKit Sh Sl T IF GZ
theorem Jw {W:World}{n:Int}:Cn p_ 10 [.int .i64 n] W [] (fun _:Unit=> .int .i64 n) (fun _=>[]):=by
 (refine Shp.cn (Sg.g_ Tryz.call10 Tryz.func10) fun F=>?_;simp only[ca_,na_])
 refine bq () ?_
 exact .refl
theorem vE {W:World}{g:Nat}{l:List Fd}{T:TypeId}{fz:Nat × Nat}:k9 W (pt g (.cells (l.flatMap dO).toArray T fz)) (some ⟨g,0,none⟩) l:=tm (dp (f:=dO) (s:=2) (fun _=>rfl) l)
theorem vF {W:World}{s:List UInt8}:Cn p_ 27 [bm s] W [] (fun g:Nat=> .slice (some ⟨g,0,none⟩) 1 1) (fun g=>[pt g (.cells ([(iP,s)].flatMap dO).toArray 52)]):=by
 (refine Shp.cn (Sg.g_ Tryz.call27 Tryz.func27) fun F=>?_;simp only[ca_,na_])
 refine o_ b_ ?_
 refine eL (n:=1) (vs:=[wC (iP,s)]) rfl (by decide) rfl (by intro v hv;rw[List.mem_singleton.1 hv];rfl) (by decide) fun g=>?_
 refine aR g rfl ?_
 exact aw
def kA:List UInt8:=[97,97,97,97,97,97,97,97,97,97,97,97,97,97,97,97,97,97,97,97,97,97,97,97,97,97,97,97,97,97,97,97,97,97,97,97,97,97,97,97]
def yh:List UInt8:=[116,101,120,116,47,112,108,97,105,110]
def kQ:List UInt8:=[103,122,105,112,59,113,61,48,46,53,44,32,105,100,101,110,116,105,116,121,59,113,61,48,46,54]
set_option maxRecDepth 100000 in
theorem Jx:r5 kA 6 0=0/\(gS kA 6 0).length<40:=by
 have:decide (r5 kA 6 0=0/\(gS kA 6 0).length<40)=true:=by decide+kernel
 exact of_decide_eq_true this
theorem Jy:j6 [(iP,ie)]=true/\pG [(iP,kQ)]=ze/\pG [(iP,ie)]=ie:=by
 have:decide (j6 [(iP,ie)]=true/\pG [(iP,kQ)]=ze/\pG [(iP,ie)]=ie)=true:=by decide+kernel
 exact of_decide_eq_true this
theorem Fm:r6 200 [(pF,yh)] kA=true:=by decide+kernel
theorem LF:(jv [(iP,ie)] 6 200 [(pF,yh)] kA).D=gS kA 6 0/\bz (jv [(iP,ie)] 6 200 [(pF,yh)] kA).X jA=[ie]:=by
 have h:=EU (l:=[(iP,ie)]) (level:=6) (st:=200) (D:=kA) (Lm Fm)
 rcases h with ⟨h1,h2⟩|⟨h1,_,_,h2,_⟩
 ·exfalso
  have:(jv [(iP,ie)] 6 200 [(pF,yh)] kA).X=kg (cN [(pF,yh)]) (gS kA 6 0):=by
   unfold jv
   rw[Fm,Jy.1,if_pos (by decide),if_pos rfl,if_pos Jx.1]
  rw[this]at h1
  unfold kg at h1
  rw[m0]at h1
  have h3:=(List.append_eq_nil_iff.1 h1).2
  rw[gj,nK,if_pos (by decide)]at h3
  cases h3
 ·exact⟨h2,h1⟩
end FD
namespace FD
open Go Go.Proofs Go.RowKit Sh Sl T
theorem LG {W:World}{st:Int}{l:List Fd}{D:List UInt8}{a b:Option Addr}{c d:Nat}{A B:HP}(hA:k9 W A a l)(ha:a=none->l.length=0)(hl:l.length<=1099511627776)(hB:RdB W B b D.length (D.map Sl.B))(hb:b=none->D.length=0)(hD:D.length<=1099511627776):
  Cn p_ 7 [.agg #[.int .i64 st,.slice a l.length c,.slice b D.length d]] W [A,B] (fun q:(Option Addr × Nat) × (Option Addr × Nat)=> .agg #[.int .i64 st,.slice q.1.1 l.length q.1.2,.slice q.2.1 D.length q.2.2])
   (fun q=>[A,B,Sl 2 52 q.1.1 q.1.2 l.length (l.flatMap dO),Sl 1 5 q.2.1 q.2.2 D.length (D.map Sl.B)]):=by
 (refine Shp.cn (Sg.g_ Tryz.call7 Tryz.func7 (an:={drs:=[(1,(.op 0 3 (.op 1 3 (.op 3 3 (.op 4 3 (.op 7 3 (.op 8 3 (.alt ((.op 2 0 (.alt (.ofL [(5,0),(6,0),(9,0),(10,1),(11,0)]) (.ofL [(6,0),(5,0),(9,0),(10,1),(11,0)])))) (.ofL [(6,0),(2,0),(5,0),(9,0),(10,1),(11,0)])))))))))]}) (os:=[(1,[(2,[8,7,4,3,1,0]),(5,[8,7,1,0]),(6,[8,7,4,3,1,0]),(9,[1,0])])])) fun F=>?_;simp only[ca_,na_])
 refine bV fun b1=>?_
 refine bp fun g=>?_;refine bA (bh aj .nil ?_);(((refine' bh (bC ?hc) ?hi ?_);(case hi=>exact .pick (by repeat constructor) .nil);(case hc=>repeat constructor)));refine bh aj .nil ?_;(((refine' bh (bC ?hc) ?hi ?_);(case hi=>exact .pick (by repeat constructor) .nil);(case hc=>repeat constructor)));refine bh aj .nil ?_;(((refine' bh (bC ?hc) ?hi ?_);(case hi=>exact .pick (by repeat constructor) .nil);(case hc=>repeat constructor)))
 refine gY ?_ ?_
 ·refine nW fun g=>?_
  refine cf ?_;refine cf ?_;refine cf ?_;refine cf ?_;refine cf ?_;refine cf ?_
  refine gY ?_ ?_
  ·refine bO (m:=l.length) (news:=l.flatMap dO) (by(repeat constructor):Pick _ (Sl 2 52 (some ⟨g,0,none⟩) 0 0 []) _) (mI (s:=2) (e':=52) (by kernel_rfl) (by decide) (by(repeat constructor):Pick _ A _) hA ha m_) (by omega) (by omega) fun a' c'=>?_
   rw[Nat.zero_add,List.nil_append]
   refine cf ?_;refine cf ?_;refine cf ?_;refine cf ?_
   refine nW fun g2=>?_
   refine cf ?_;refine cf ?_;refine cf ?_;refine cf ?_;refine cf ?_;refine cf ?_
   refine bO (m:=D.length) (news:=D.map Sl.B) (by(repeat constructor):Pick _ (Sl 1 5 (some ⟨g2,0,none⟩) 0 0 []) _) (dF (e':=5) (by kernel_rfl) (by(repeat constructor):Pick _ B _) hB hb dY) (by omega) (by omega) fun a2 c2=>?_
   rw[Nat.zero_add,List.nil_append]
   refine cf ?_;refine cf ?_;refine t_ b_ ?_;refine fO ?_;(((refine' aT (cG ?hn) ?hi ?_);(case hi=>exact aw);(case hn=>rfl)))
   refine aR ((a',c'),(a2,c2)) rfl ?_
   exact aw
  ·refine nW fun g2=>?_
   refine cf ?_;refine cf ?_;refine cf ?_;refine cf ?_;refine cf ?_;refine cf ?_
   refine bO (m:=l.length) (news:=l.flatMap dO) (by(repeat constructor):Pick _ (Sl 2 52 (some ⟨g,0,none⟩) 0 0 []) _) (mI (s:=2) (e':=52) (by kernel_rfl) (by decide) (by(repeat constructor):Pick _ A _) hA ha m_) (by omega) (by omega) fun a' c'=>?_
   rw[Nat.zero_add,List.nil_append]
   refine cf ?_;refine cf ?_;refine cf ?_;refine cf ?_
   refine bO (m:=D.length) (news:=D.map Sl.B) (by(repeat constructor):Pick _ (Sl 1 5 (some ⟨g2,0,none⟩) 0 0 []) _) (dF (e':=5) (by kernel_rfl) (by(repeat constructor):Pick _ B _) hB hb dY) (by omega) (by omega) fun a2 c2=>?_
   rw[Nat.zero_add,List.nil_append]
   refine cf ?_;refine cf ?_;refine t_ b_ ?_;refine fO ?_;(((refine' aT (cG ?hn) ?hi ?_);(case hi=>exact aw);(case hn=>rfl)))
   refine aR ((a',c'),(a2,c2)) rfl ?_
   exact aw
 ·refine nW fun g2=>?_
  refine cf ?_;refine cf ?_;refine cf ?_;refine cf ?_;refine cf ?_;refine cf ?_
  refine nW fun g=>?_
  refine cf ?_;refine cf ?_;refine cf ?_;refine cf ?_;refine cf ?_;refine cf ?_
  refine bO (m:=l.length) (news:=l.flatMap dO) (by(repeat constructor):Pick _ (Sl 2 52 (some ⟨g,0,none⟩) 0 0 []) _) (mI (s:=2) (e':=52) (by kernel_rfl) (by decide) (by(repeat constructor):Pick _ A _) hA ha m_) (by omega) (by omega) fun a' c'=>?_
  rw[Nat.zero_add,List.nil_append]
  refine cf ?_;refine cf ?_;refine cf ?_;refine cf ?_
  refine bO (m:=D.length) (news:=D.map Sl.B) (by(repeat constructor):Pick _ (Sl 1 5 (some ⟨g2,0,none⟩) 0 0 []) _) (dF (e':=5) (by kernel_rfl) (by(repeat constructor):Pick _ B _) hB hb dY) (by omega) (by omega) fun a2 c2=>?_
  rw[Nat.zero_add,List.nil_append]
  refine cf ?_;refine cf ?_;refine t_ b_ ?_;refine fO ?_;(((refine' aT (cG ?hn) ?hi ?_);(case hi=>exact aw);(case hn=>rfl)))
  refine aR ((a',c'),(a2,c2)) rfl ?_
  exact aw
end FD
namespace FD
open Go Go.Proofs Go.RowKit Sh Sl T IF GZ
set_option maxRecDepth 100000 in
theorem SK:zF (jv [(iP,ie)] 6 200 [(pF,yh)] kA).X<=2097152:=by
 have:decide (zF (jv [(iP,ie)] 6 200 [(pF,yh)] kA).X<=2097152)=true:=by decide+kernel
 exact of_decide_eq_true this
theorem LH {G b:List UInt8}{most:Int}(h0:0<=most)(h1:most<=1048576)(hG:G.length<=1048576):sU [ie] G most (.ok (b,1))=(b,0):=by
 unfold sU
 rw[if_neg (by omega),if_neg (by omega)]
 show(if dy ie ie=true then(rO (.ok (b,1)),rE (.ok (b,1)))else(([],46):List UInt8 × Int))=_
 rw[if_pos (by decide)]
 rfl
end FD
namespace Sl
open Go Go.RowKit Sh
variable {P:Program} {H:Type} {enc:TypeId × Value->H} {W:World}
theorem Old.flat {α:Type}{s n:Nat}{f:α->List Value}{a:Option Addr}{xs:List α}(hf:∀x,(f x).length=s)(h0:0<s)(h:Old W s (fun x cs=>cs=f x) a n xs)(A:HP):RdB W A a (n * s) (xs.flatMap f):=by
 have hl:=h.len
 refine⟨by rw[dp hf,hl],fun hn=>?_⟩
 obtain⟨g,o,rfl,hg,hc⟩:=h.at_ (by
  rcases Nat.eq_zero_or_pos n with z|z
  ·subst z;simp at hn
  ·exact z)
 refine⟨g,o,rfl,fun w L hw j v hv=>?_⟩
 have hj:j<xs.length * s:=by
  rcases Nat.lt_or_ge j (xs.flatMap f).length with c|c
  ·rwa [dp hf]at c
  ·rw[List.getElem?_eq_none c]at hv;cases hv
 have hi:j / s<xs.length:=Nat.div_lt_of_lt_mul (by rwa [Nat.mul_comm]at hj)
 have hm:j%s<s:=Nat.mod_lt _ h0
 have hd:j=j / s * s+j%s:=by rw[Nat.mul_comm];exact(Nat.div_add_mod j s).symm
 obtain⟨cs,h1,h2,h3⟩:=hc (j / s) hi
 subst h2
 rw[hd,et hf xs _ _ hi hm]at hv
 have:=h3 (j%s) v hv
 rw[hw.base.cell (p:=⟨g,o+j,none⟩) hg]
 rwa [<- hd]at this
end Sl
namespace FD
open Go Go.Proofs Go.RowKit Go.ChangeShapes Sh Sl T
theorem ms {H : Type} {enc : TypeId × Value → H} {C : Checked} {os : Os} {f : FuncId} {fn : Func} {s : OpenSpec} {conds : List PathCond} {apart : Bool} {laid : List (String × DataW Unit)} (modest : Bool) (w0 : World) (args : Array Value) (hos : w0.os = os)
  (hsh : (w0.forCall (fun _ _ => 0) ⟨#[], args, []⟩).Shaped C.prog)
  (hok : Input.okWideB C.prog (w0.forCall (fun _ _ => 0) ⟨#[], args, []⟩) f ⟨#[], args, []⟩ = true)
  (hrow : s.preRow enc C.prog fn conds apart laid (w0.forCall (fun _ _ => 0) ⟨#[], args, []⟩).memory args) :
  ∃ (w : World) (tape : Tape) (i : Input), w.os = os ∧ (w.forCall tape i).Shaped C.prog ∧ i.vars = [] ∧ Input.okWide C.prog (w.forCall tape i) .any w.heap.size f i ∧
   s.preRow enc C.prog fn conds apart laid (w.forCall tape i).memory i.args ∧ ({ modest := modest } : Assume).holds C.prog (lone (Frame.enter C.prog f i.args .normal) [] (w.forCall tape i)) :=
 ⟨w0, fun _ _ => 0, ⟨#[], args, []⟩, hos, hsh, (Input.okWide_of_okWideB (base := 0) hok).1, (Input.okWide_of_okWideB hok).2, hrow, by
  simp only [Assume.holds]
  exact ⟨by simp, by simp, fun _ => Modest.zero, by simp, by simp⟩⟩
theorem vG {P:Program}{W:World}{n:String}{d:DataW Unit}:∀ {l:List (String × DataW Unit)} {ps:List MemPlace},DataW.LaidVars P W l ps->(n,d)∈l->
  ∃g t cs fuel p,P.globalNamed n=some g/\(P.globals[g]?).map (·.type)=some t/\W.var? P n=some cs/\DataW.trod (fun _=>()) P W 0 (fun _=>true) false fuel t cs.toList=some (d,p)
 |[],_,_,h=>by cases h
 |(n',d')::r,ps,h,hm=>by
  obtain⟨g,t,cs,fuel,p,q,h1,h2,h3,h4,h5,_⟩:=h
  rcases List.mem_cons.1 hm with e|hm
  ·obtain⟨rfl,rfl⟩:=Prod.mk.inj e
   exact⟨g,t,cs,fuel,p,h1,h2,h3,h4⟩
  ·exact vG h5 hm
set_option maxRecDepth 20000 in
theorem Io {H:Type}{enc:TypeId × Value->H}{W:World}{sp:Nat->Bool}{held:Bool}(n:Nat)(cs:List Value)(x:DataW H × List MemPlace)(h:DataW.trod enc p_ W 0 sp held n 52 cs=some x):∃a:Fd,cs=dO a/\a.1.length+a.2.length+3<=Rows.uptoBulk x.1:=by
 obtain⟨xs,m,rfl,rfl,hl,hs,hf⟩:=DataW.trod_struct (fs:=#[⟨"Name",9,0,false,"","",0⟩,⟨"Value",9,1,false,"","",16⟩]) (by kernel_rfl) h
 rw[show p_.cellsOf 52=2 by kernel_rfl]at hl
 obtain⟨c0,c1,rfl⟩:∃c0 c1,cs=[c0,c1]:=by
  match cs,hl with
  |[a,b],_=>exact⟨a,b,rfl⟩
 obtain⟨x0,x1,rfl⟩:∃x0 x1,xs=[x0,x1]:=by
  match xs,hs with
  |[a,b],_=>exact⟨a,b,rfl⟩
 have e1:p_.cellsOf 9=1:=by kernel_rfl
 have f0:=hf 0 _ rfl
 have f1:=hf 1 _ rfl
 simp only[e1,List.drop_zero,List.drop_succ_cons,List.take_succ_cons,List.take_zero,List.getElem?_cons_zero,List.getElem?_cons_succ]at f0 f1
 obtain⟨n0,h0,hx0,_⟩:=DataW.trod_string (by kernel_rfl) f0
 obtain⟨n1,h1,hx1,_⟩:=DataW.trod_string (by kernel_rfl) f1
 have k0:c0= .string n0:=by injection h0
 have k1:c1= .string n1:=by injection h1
 subst k0;subst k1
 refine⟨(n0.data.toList,n1.data.toList),by unfold dO bm;simp,?_⟩
 have h2:=(Prod.mk.inj hx0).1
 have h3:=(Prod.mk.inj hx1).1
 simp only[List.map_cons,List.map_nil,Rows.uptoBulk,Rows.uptoBulkAll]
 rw[h2,h3]
 simp[Rows.uptoBulk]
 omega
theorem PN (l:List Fd):(l.map fun f=>f.1.length+f.2.length+3).sum=zF l:=by
 induction l with
 |nil=>rfl
 |cons f r ih=>rw[List.map_cons,List.sum_cons,ih,p8]
theorem xM {α β:Type}{f:α->Option β}:∀ {l:List α} {ys:List β},l.mapM f=some ys->ys.length=l.length/\∀(i:Nat) (a:α),l[i]? =some a->∃y,ys[i]? =some y/\f a=some y
 |[],ys,h=>by
  simp at h
  subst h
  exact⟨rfl,fun i a hi=>by simp at hi⟩
 |a::l,ys,h=>by
  rw[List.mapM_cons]at h
  cases ha:f a with
  |none=>rw[ha]at h;cases h
  |some y=>
   cases hl:l.mapM f with
   |none=>rw[ha,hl]at h;cases h
   |some zs=>
    rw[ha,hl]at h
    have h:some (y::zs)=some ys:=h
    obtain rfl:=Option.some.inj h
    obtain⟨h1,h2⟩:=xM hl
    refine⟨by rw[List.length_cons,List.length_cons,h1],fun i b hi=>?_⟩
    cases i with
    |zero=>exact⟨y,rfl,by rw[<- ha];congr 1;simpa using hi.symm⟩
    |succ i=>exact h2 i b (by simpa using hi)
theorem Fo {P:Program}{H:Type}{enc:TypeId × Value->H}{W:World}{sp:Nat->Bool}{held:Bool}{t e:TypeId}{n fuel:Nat}{cs:List Value}{x:DataW H × List MemPlace}(ht:P.underlying t=some (.array n e))(hce:P.cellsOf e=1)(h:DataW.trod enc P W 0 sp held fuel t cs=some x):
  ∃(xs:List (DataW H × List MemPlace)) (m:Nat),x.1= .agg (xs.map (·.1))/\xs.length=n/\∀i,i<n->∃y,xs[i]? =some y/\DataW.trod enc P W 0 sp held m e ((cs.drop i).take 1)=some y:=by
 cases fuel with
 |zero=>simp[DataW.trod]at h
 |succ m=>
  unfold DataW.trod at h
  rw[ht]at h
  simp only[hce,Nat.mul_one]at h
  split at h
  ·cases hm:(List.range n).mapM fun i=>DataW.trod enc P W 0 sp held m e ((cs.drop i).take 1)with
   |none=>rw[hm]at h;cases h
   |some xs=>
    rw[hm]at h
    have h:=Option.some.inj h
    obtain⟨h1,h2⟩:=xM hm
    refine⟨xs,m,by rw[<- h],by rw[h1,List.length_range],fun i hi=>h2 i i (List.getElem?_range hi)⟩
  ·cases h
theorem PO {W:World}{l:List (String × DataW Unit)}(h:laidMet p_ l W)(hm:("internal/strconv.uint64pow10",Rows.laid_internal_strconv_uint64pow10)∈l):Gp W:=by
 obtain⟨ps,hv,_,_⟩:=h
 obtain⟨g,t,cs,fuel,p,h1,h2,h3,h4⟩:=vG hv hm
 obtain rfl:=Option.some.inj ((show p_.globalNamed "internal/strconv.uint64pow10" =some 1 by kernel_rfl).symm.trans h1)
 obtain rfl:=Option.some.inj ((show(p_.globals[1]?).map (·.type)=some 220 by kernel_rfl).symm.trans h2)
 obtain⟨xs,m,hx,hl,hf⟩:=Fo (n:=20) (e:=170) (by kernel_rfl) (by kernel_rfl) h4
 have key:∀j,j<20->cs[j]? =some (.int .u64 ((10^j:Nat):Int)):=by
  intro j hj
  obtain⟨y,hy,hyt⟩:=hf j hj
  have hlt:∃c,(cs.toList.drop j).take 1=[c]:=by
   cases hd:(cs.toList.drop j).take 1 with
   |nil=>rw[hd]at hyt;cases m <;> simp[DataW.trod]at hyt <;> (split at hyt <;> simp_all)
   |cons c r=>
    have:((cs.toList.drop j).take 1).length<=1:=by rw[List.length_take];omega
    rw[hd]at this
    simp at this
    subst this
    exact⟨c,rfl⟩
  obtain⟨c,hc⟩:=hlt
  rw[hc]at hyt
  obtain⟨n,h0,hx0,_⟩:=DataW.trod_int (by kernel_rfl:p_.underlying 170=some (.int .u64)) hyt
  have hcj:cs[j]? =some c:=by
   have:=congrArg (fun l=>l[0]?) hc
   simpa using this
  have hya:(xs.map (·.1))[j]? =some (.lit (.int .u64 n)):=by rw[List.getElem?_map,hy];simp only[Option.map_some];rw[(Prod.mk.inj hx0).1]
  have hlist:xs.map (·.1)=(List.range 20).map fun j=>(.lit (.int .u64 ((10^j:Nat):Int)):DataW Unit):=by
   have:(DataW.agg (xs.map (·.1)))= .agg ((List.range 20).map fun j=>(.lit (.int .u64 ((10^j:Nat):Int)):DataW Unit)):=by rw[<- hx];rfl
   injection this
  rw[hlist,List.getElem?_map,List.getElem?_range hj]at hya
  simp only[Option.map_some,Option.some.injEq,DataW.lit.injEq,Lit.int.injEq,true_and]at hya
  rw[hcj,hya]
  have:c= .int .u64 n:=by injection h0
  rw[this]
 have hc:=fun j=>World.var?_cell h1 h3 j
 refine⟨?_,fun j hj=>?_⟩
 ·have h0:=hc 0
  rw[key 0 (by decide)]at h0
  unfold World.cell? at h0
  rcases Nat.lt_or_ge 1 W.heap.size with c|c
  ·exact c
  ·rw[Array.getElem?_eq_none c]at h0;cases h0
 ·rw[hc j,key j hj]
set_option maxRecDepth 20000 in
theorem Fp {H:Type}{enc:TypeId × Value->H}{W:World}{sp:Nat->Bool}{held:Bool}(n:Nat)(cs:List Value)(x:DataW H × List MemPlace)(hl:DataW.trod enc p_ W 0 sp held n 25 cs=some x):
  ∃(st:Int) (a b:Option Addr) (c d:Nat) (l:List Fd) (D:List UInt8),cs=[.int .i64 st,.slice a l.length c,.slice b D.length d]/\(∀A,k9 W A a l)/\(a=none->l.length=0)/\(∀A,RdB W A b D.length (D.map Sl.B))/\(b=none->D.length=0)/\zF l+D.length+1<=Rows.uptoBulk x.1/\D.length<=d:=by
 obtain⟨xs,m,rfl,rfl,hsz,hs,hf⟩:=DataW.trod_struct (fs:=#[⟨"Status",3,0,false,"","",0⟩,⟨"Fields",22,1,false,"","",8⟩,⟨"Body",23,2,false,"","",32⟩]) (by kernel_rfl) hl
 rw[show p_.cellsOf 25=3 by kernel_rfl]at hsz
 obtain⟨c0,c1,c2,rfl⟩:∃c0 c1 c2,cs=[c0,c1,c2]:=by
  match cs,hsz with
  |[a,b,c],_=>exact⟨a,b,c,rfl⟩
 obtain⟨x0,x1,x2,rfl⟩:∃x0 x1 x2,xs=[x0,x1,x2]:=by
  match xs,hs with
  |[a,b,c],_=>exact⟨a,b,c,rfl⟩
 have e1:p_.cellsOf 3=1:=by kernel_rfl
 have e2:p_.cellsOf 22=1:=by kernel_rfl
 have e3:p_.cellsOf 23=1:=by kernel_rfl
 have f0:=hf 0 _ rfl
 have f1:=hf 1 _ rfl
 have f2:=hf 2 _ rfl
 simp only[e1,e2,e3,List.drop_zero,List.drop_succ_cons,List.take_succ_cons,List.take_zero,List.getElem?_cons_zero,List.getElem?_cons_succ]at f0 f1 f2
 obtain⟨st,h0,_,_⟩:=DataW.trod_int Tryz.underlying3 f0
 obtain⟨a,n,c,fs,e,g1,g2,g3,g4,g5⟩:=ww (e:=52) (s:=2) (rd:=fun(x:Fd) cs=>cs=dO x) (m:=fun f=>f.1.length+f.2.length+3) (by kernel_rfl) (by kernel_rfl) (by omega) (fun n cs x h=>Io n cs x h) f1
 obtain⟨b,d,D,j0,j1,j2,j3,j4,j5⟩:=yB (e:=5) (by kernel_rfl) (by kernel_rfl) (by kernel_rfl) f2
 have hln:=g4.len
 subst hln
 rw[PN]at g5
 have k0:c0= .int .i64 st:=by injection h0
 have k1:c1= .slice a fs.length c:=by injection e
 have k2:c2= .slice b D.length d:=by injection j0
 subst k0;subst k1;subst k2
 refine⟨st,a,b,c,d,fs,D,rfl,fun A=>g4.flat (f:=dO) (fun _=>rfl) (by omega) A,?_,j4,j3,?_,j1⟩
 ·intro ha
  rcases Nat.eq_zero_or_pos fs.length with z|z
  ·exact z
  ·obtain⟨g,o,hg,_⟩:=g4.at_ z;rw[hg]at ha;cases ha
 simp only[List.map_cons,List.map_nil,Rows.uptoBulk,Rows.uptoBulkAll]
 (try simp at g5)
 (try simp at j5)
 omega
theorem PP {W:World}{l:List (String × DataW Unit)}(h:laidMet p_ l W)(hm:("strconv.ErrRange",Rows.laid_strconv_ErrRange)∈l):Gl W:=by
 obtain⟨ps,hv,_,_⟩:=h
 obtain⟨g,t,cs,fuel,p,h1,h2,h3,h4⟩:=vG hv hm
 obtain rfl:=Option.some.inj ((show p_.globalNamed "strconv.ErrRange" =some 7 by kernel_rfl).symm.trans h1)
 obtain rfl:=Option.some.inj ((show(p_.globals[7]?).map (·.type)=some 124 by kernel_rfl).symm.trans h2)
 obtain⟨f1,u,v,hcs,_,_⟩:=iface_of_trod Tryz.underlying124 h4
 have hc:=World.var?_cell h1 h3 0
 have hc0:cs[0]? =some (.iface u v):=by
  rw[<- Array.getElem?_toList,hcs];rfl
 rw[hc0]at hc
 refine⟨?_,u,v,hc⟩
 unfold World.cell? at hc
 rcases Nat.lt_or_ge 7 W.heap.size with c|c
 ·exact c
 ·rw[Array.getElem?_eq_none c]at hc;cases hc
set_option maxRecDepth 20000 in
theorem Ip {H:Type}{enc:TypeId × Value->H}{W:World}{sp:Nat->Bool}{held:Bool}{v:Value}{d:DataW H}{ps:List MemPlace}{r:Reach}{b0:Nat}(hval:Value.okWide p_ W r b0 25 v)(hd:DataW.Trod enc p_ W 0 sp held 25 v d ps):
  ∃(st:Int) (a b:Option Addr) (c k:Nat) (l:List Fd) (D:List UInt8),v= .agg #[.int .i64 st,.slice a l.length c,.slice b D.length k]/\(∀A,k9 W A a l)/\(a=none->l.length=0)/\(∀A,RdB W A b D.length (D.map Sl.B))/\(b=none->D.length=0)/\zF l+D.length+1<=Rows.uptoBulk d/\D.length<=k:=by
 obtain⟨cs,rfl,hsz⟩:=WideShapes.okWide_struct (fs:=#[⟨"Status",3,0,false,"","",0⟩,⟨"Fields",22,1,false,"","",8⟩,⟨"Body",23,2,false,"","",32⟩]) (by kernel_rfl) hval
 obtain⟨fuel,hf⟩:=hd
 obtain⟨l⟩:=cs
 rw[show(Value.agg ⟨l⟩).cells.toList=l from rfl]at hf
 obtain⟨st,a,b,c,k,X,D,h1,h2,h3,h4,h5,h6⟩:=Fp _ _ _ hf
 subst h1
 exact⟨st,a,b,c,k,X,D,rfl,h2,h3,h4,h5,h6⟩
end FD
namespace FD
open Go Go.Proofs Go.RowKit Sh Sl T IF GZ
theorem zo {P:Program}{W:World}{α:Type}{f:FuncId}{args:List Value}{A A':List HP}{r:α->Value}{B B':α->List HP}(h:Cn P f args W A r B)(hi:∀F,Imp W (A'++F) (A++F))(ho:∀x F,Imp W (B x++F) (B' x++F)):Cn P f args W A' r B':=
 ⟨h.call,fun F w hw=>(h.run F w ((hi F).sat hw)).mono fun e w' ⟨x,he,hs⟩=>⟨x,he,(ho x F).sat hs⟩⟩
theorem Iq {W:World}{st:Int}{l:List Fd}{D:List UInt8}{a b:Option Addr}{c d:Nat}(hA:∀A,k9 W A a l)(ha:a=none->l.length=0)(hl:l.length<=1099511627776)(hB:∀A,RdB W A b D.length (D.map Sl.B))(hb:b=none->D.length=0)(hD:D.length<=1099511627776):
  Cn p_ 7 [.agg #[.int .i64 st,.slice a l.length c,.slice b D.length d]] W [] (fun q:(Option Addr × Nat) × (Option Addr × Nat)=> .agg #[.int .i64 st,.slice q.1.1 l.length q.1.2,.slice q.2.1 D.length q.2.2])
   (fun q=>[Sl 2 52 q.1.1 q.1.2 l.length (l.flatMap dO),Sl 1 5 q.2.1 q.2.2 D.length (D.map Sl.B)]):=
 zo (LG (A:=pu True) (B:=pu True) (hA _) ha hl (hB _) hb hD) (fun F=> .pu trivial (.pu trivial .refl)) (fun x F=> .drop (.drop .refl))
theorem Bg {α:Type}{a:Option Addr}{l:List α}(h:0<l.length->∃g,a=some ⟨g,0,none⟩):a=none->l.length=0:=fun c=>by
 rcases Nat.eq_zero_or_pos l.length with h0|h0
 ·exact h0
 ·obtain⟨g,hg⟩:=h h0;rw[hg]at c;cases c
theorem PQ {W:World} {s t:Int} {l m:List Fd} {x y:List UInt8} {a b xa ya:Option Addr} {c d xc yc:Nat} (hA:0<l.length->∃g,a=some ⟨g,0,none⟩) (hB:∀A,k9 W A b m) (hl:l.length<=1099511627776) (hm:m.length<=1099511627776)
  (hC:0<x.length->∃g,xa=some ⟨g,0,none⟩) (hD:∀A,RdB W A ya y.length (y.map Sl.B)) (hya:ya=none->y.length=0):
  Cn p_ 11 [.agg #[.int .i64 s,.slice a l.length c,.slice xa x.length xc],.agg #[.int .i64 t,.slice b m.length d,.slice ya y.length yc]] W [Sl 2 52 a c l.length (l.flatMap dO),Sl 1 5 xa xc x.length (x.map Sl.B)] (fun _:Unit=> .bool (decide (s=t)&&(decide (l=m)&&decide (x=y)))) (fun _=>[]):=
 zo (LE (B:=pu True) (D:=pu True) (nf hA) (hB _) hl hm (cq (e:=5) (a:=xa) (cap:=xc) (by rw[List.length_map]) hC) (Bg hC) (hD _) hya) (fun F=> .pick .here (.pu trivial (.pick .here (.pu trivial .refl)))) (fun x F=> .drop (.drop (.drop (.drop .refl))))
theorem Tt {a:Int}{b:List Fd}{c:List UInt8}:(decide (a=a)&&(decide (b=b)&&decide (c=c)))=true:=by simp
def Tk:List UInt8:=[99,111,110,116,101,110,116,45,101,110,99,111,100,105,110,103]
end FD
namespace GZ
open Go Sl
abbrev Hd:=Except Int (List UInt8)
def mt:List UInt8->List UInt8->Hd
 |[],l=> .ok l
 |_::_,[]=> .error 20
 |c::cs,x::r=>if x=c then mt cs r else .error 32
def Fq (l:List UInt8):Hd:=if 6<=l.length then .ok (l.drop 6)else .error 20
def nS (a b:UInt8):Nat:=a.toNat+256 * b.toNat
def mu:List UInt8->Hd
 |a::b::r=>if nS a b<=r.length then .ok (r.drop (nS a b))else .error 20
 |_=> .error 20
def fh:List UInt8->Hd
 |[]=> .error 20
 |x::r=>if x=0 then .ok r else fh r
def sV (all:List UInt8):List UInt8->Hd
 |a::b::r=>if nS a b=pE all%65536 then .ok r else .error 32
 |_=> .error 20
def has (x:UInt8)(k:Int):Bool:=decide (co .and .i64 (x.toNat:Int) k≠0)
def d_ (x:UInt8)(k:Int)(f:List UInt8->Hd)(l:List UInt8):Hd:=if has x k then f l else .ok l
def eo (r:Hd)(f:List UInt8->Hd):Hd:=match r with
 | .ok l=>f l
 | .error e=> .error e
def sn (b:List UInt8)(x:UInt8)(l:List UInt8):Hd:=
 eo (Fq l) fun l=>eo (d_ x 4 mu l) fun l=>eo (d_ x 8 fh l) fun l=>eo (d_ x 16 fh l) fun l=>if has x 2 then sV (b.take (b.length-l.length)) l else .ok l
def Fr (b:List UInt8):List UInt8->Hd
 |[]=> .error 20
 |x::r=>if x.toNat<32 then sn b x r else .error 32
def eb (b:List UInt8):Hd:=eo (mt [31,139,8] b) (Fr b)
theorem vH {r:Hd}{f:List UInt8->Hd}{n:Nat}{l:List UInt8}(h:eo r f= .ok l)(hr:∀l',r= .ok l'->l'.length<=n)(hf:∀l' l,l'.length<=n->f l'= .ok l->l.length<=n):l.length<=n:=by
 cases r with
 |error e=>cases h
 |ok l'=>exact hf l' l (hr l' rfl) h
theorem Fs:∀(c b:List UInt8) {l:List UInt8},mt c b= .ok l->l.length<=b.length
 |[],b,l,h=>by cases h;exact Nat.le_refl _
 |_::_,[],l,h=>by cases h
 |c::cs,x::r,l,h=>by
  unfold mt at h
  split at h
  ·have:=Fs cs r h
   simp only[List.length_cons];omega
  ·cases h
theorem mw:∀(b:List UInt8) {l:List UInt8},fh b= .ok l->l.length<=b.length
 |[],l,h=>by cases h
 |x::r,l,h=>by
  unfold fh at h
  split at h
  ·cases h;simp
  ·have:=mw r h
   simp only[List.length_cons];omega
theorem zp:∀(b:List UInt8) {l:List UInt8},mu b= .ok l->l.length<=b.length
 |[],l,h=>by simp[mu]at h
 |[_],l,h=>by simp[mu]at h
 |a::b::r,l,h=>by
  have h:(if nS a b<=r.length then(.ok (r.drop (nS a b)):Hd)else .error 20)= .ok l:=h
  split at h
  ·cases h;simp only[List.length_drop,List.length_cons];omega
  ·cases h
theorem LI (w:List UInt8):∀(b:List UInt8) {l:List UInt8},sV w b= .ok l->l.length<=b.length
 |[],l,h=>by simp[sV]at h
 |[_],l,h=>by simp[sV]at h
 |a::b::r,l,h=>by
  have h:(if nS a b=pE w%65536 then(.ok r:Hd)else .error 32)= .ok l:=h
  split at h
  ·cases h;simp only[List.length_cons];omega
  ·cases h
theorem oR {x:UInt8}{k:Int}{f:List UInt8->Hd}(hf:∀(b:List UInt8) {l:List UInt8},f b= .ok l->l.length<=b.length){n:Nat}{b l:List UInt8}(hb:b.length<=n)(h:d_ x k f b= .ok l):l.length<=n:=by
 unfold d_ at h
 split at h
 ·exact Nat.le_trans (hf b h) hb
 ·cases h;exact hb
theorem Ir {b r l:List UInt8}{x:UInt8}(h:sn b x r= .ok l):l.length<=r.length:=by
 unfold sn at h
 refine vH h (fun l' hl=>?_) fun l1 l h1 h=>vH h (fun l' hl=>oR (fun b _=>zp b) h1 hl) fun l1 l h1 h=>vH h (fun l' hl=>oR (fun b _=>mw b) h1 hl) fun l1 l h1 h=>vH h (fun l' hl=>oR (fun b _=>mw b) h1 hl) fun l1 l h1 h=>?_
 ·unfold Fq at hl
  split at hl
  ·cases hl;simp only[List.length_drop];omega
  ·cases hl
 ·split at h
  ·exact Nat.le_trans (LI _ _ h) h1
  ·cases h;exact h1
theorem vI {b l:List UInt8}(h:eb b= .ok l):l.length<b.length:=by
 unfold eb at h
 cases hm:mt [31,139,8] b with
 |error e=>rw[hm]at h;cases h
 |ok r=>
  rw[hm]at h
  have h1:=Fs _ _ hm
  cases r with
  |nil=>cases h
  |cons x r=>
   have h:(if x.toNat<32 then sn b x r else .error 32)= .ok l:=h
   split at h
   ·have:=Ir h
    simp only[List.length_cons]at h1
    omega
   ·cases h
end GZ
namespace IF
open Go Go.Proofs Go.RowKit Sh Sl T HM HF B M
def M_:Nat->Nat
 |0=>11
 |j+1=>M_ j+2^((265+j-261) / 4)
def Na:Nat->Nat
 |0=>5
 |j+1=>Na j+2^((4+j-2) / 2)
theorem LJ:∀j:Fin 20,bL ((265+j.1:Nat):Int)=((M_ j.1:Int),(((265+j.1-261) / 4:Nat):Int)):=by decide
theorem LK:∀j:Fin 26,bD ((4+j.1:Nat):Int)=((Na j.1:Int),(((4+j.1-2) / 2:Nat):Int)):=by decide
theorem Jz:∀j:Fin 20,M_ j.1<=258:=by decide
theorem JA:∀j:Fin 26,Na j.1<=32768:=by decide
abbrev SV:=Except Int (Nat × List UInt8)
def SL (p:Nat)(b:List UInt8)(at_:Nat)(out:List UInt8)(most e:Int):HP:=ex fun q:Nat × (Option Addr × Nat)=>all [pt p (.cells #[.pointer (some ⟨q.1,0,none⟩),.slice q.2.1 out.length q.2.2,.int .i64 most,.int .i64 e] 196),tK q.1 b at_,Sl 1 5 q.2.1 q.2.2 out.length (out.map Sl.B)]
def fM:SV->Int
 | .ok _=>0
 | .error e=>e
def fit (x : Nat × List UInt8) : SV -> Prop
 | .ok y => x = y
 | .error e => e ≠ 0
def el (p:Nat)(b:List UInt8)(most:Int)(s:SV):HP:=ex fun x:Nat × List UInt8=>all [pu (fit x s),SL p b x.1 x.2 most (fM s)]
def sF (s:SV)(e:Int):SV:=match s with
 | .ok _=> .error e
 | .error e=> .error e
def sT (b:List UInt8)(k:Int)(s:SV):SV:=match s with
 | .ok x=>if bQ b x.1 k≠0 then .error (bQ b x.1 k)else .ok (aN b x.1 k,x.2)
 | .error e=> .error e
def vT (b:List UInt8)(k:Int)(s:SV):Int:=match s with
 | .ok x=>(bE b x.1 k:Int)
 | .error e=>0
def sN (l:List Int)(b:List UInt8)(s:SV):SV:=match s with
 | .ok x=>if(cM l b x.1).2.1≠0 then .error (cM l b x.1).2.1 else .ok ((cM l b x.1).2.2,x.2)
 | .error e=> .error e
def vN (l:List Int)(b:List UInt8)(s:SV):Int:=match s with
 | .ok x=>(cM l b x.1).1
 | .error e=>0
theorem zq {W:World}{p:Nat}{b:List UInt8}{most:Int}{a:Nat}{o:List UInt8}{L M:List HP}(h:Imp W L (SL p b a o most 0::M)):Imp W L (el p b most (.ok (a,o))::M):=
 .ex (a,o) (.all (.pu rfl h))
theorem Is {W:World}{p:Nat}{b:List UInt8}{most e:Int}{L M:List HP}(a:Nat)(o:List UInt8)(he:e≠0)(h:Imp W L (SL p b a o most e::M)):Imp W L (el p b most (.error e)::M):=
 .ex (a,o) (.all (.pu he h))
theorem lD {W:World}{p:Nat}{b:List UInt8}{most e:Int}{s:SV}(he:e≠0):Cn p_ 148 [.pointer (some ⟨p,0,none⟩),.int .i64 e] W [el p b most s] (fun _:Unit=> .tuple #[]) (fun _=>[el p b most (sF s e)]):=by
 (refine Shp.cn (Sg.g_ Tryz.call148 Tryz.func148) fun F=>?_;simp only[ca_,na_])
 refine aH .here fun x=>ap .here (aG .here fun hx=>?_)
 refine aH .here fun q=>ap .here ?_
 obtain⟨r,qa,qc⟩:=q
 obtain⟨a,o⟩:=x
 refine aq ?_
 (try dsimp only)
 cases s with
 |ok y=>
  rw[show fM (.ok y)=0 from rfl]
  refine o_ au (o_ aj (bJ ?_))
  refine o_ aP ?_
  rw[dT_ rfl]
  refine ab (o_ au (o_ aj (eE ?_)))
  refine bq () ?_
  exact Is a o he (.ex (r,(qa,qc)) (.all (.pick (by repeat constructor) (.pick (by repeat constructor) (.pick (by repeat constructor) .refl)))))
 |error e1=>
  rw[show fM (.error e1)=e1 from rfl]
  refine o_ au (o_ aj (bJ ?_))
  refine o_ aP ?_
  rw[dF_ (show ¬e1=0 from hx)]
  refine aa (bq () ?_)
  exact Is a o hx (.ex (r,(qa,qc)) (.all (.pick (by repeat constructor) (.pick (by repeat constructor) (.pick (by repeat constructor) .refl)))))
theorem jx {W:World}{p:Nat}{b:List UInt8}{most k:Int}{s:SV}:Cn p_ 143 [.pointer (some ⟨p,0,none⟩),.int .i64 k] W [el p b most s] (fun _:Unit=> .int .i64 (vT b k s)) (fun _=>[el p b most (sT b k s)]):=by
 (refine Shp.cn (Sg.g_ Tryz.call143 Tryz.func143) fun F=>?_;simp only[ca_,na_])
 refine aH .here fun x=>ap .here (aG .here fun hx=>?_)
 refine aH .here fun q=>ap .here ?_
 obtain⟨r,qa,qc⟩:=q
 obtain⟨a,o⟩:=x
 refine aq ?_
 (try dsimp only)
 cases s with
 |ok y=>
  rw[show fM (.ok y)=0 from rfl]
  obtain rfl:(a,o)=y:=hx
  refine o_ au (o_ aj (bJ ?_))
  refine o_ bK ?_
  rw[dF_ (by decide)]
  refine aa (o_ au (o_ aj (bJ ?_)))
  refine c_ I9 fun _=>?_
  refine o_ (bk (v:= .int .i64 (bE b a k)) rfl) ?_
  refine o_ (bk (v:= .int .i64 (bQ b a k)) rfl) ?_
  refine bF (M:=el p b most (.ok (aN b a k,o))::F) (zq (.ex (r,(qa,qc)) (.all (.pick (by repeat constructor) (.pick (by repeat constructor) (.pick (by repeat constructor) .refl)))))) ?_
  refine ay bK .nil (fun h=>?_) (fun h=>?_)
  ·refine ab (c_ (lD h) fun _=>?_)
   rw[show vT b k (.ok (a,o))=(bE b a k:Int)from rfl,show sT b k (.ok (a,o))= .error (bQ b a k)from if_pos h]
   refine bq () ?_
   exact .refl
  ·refine aa ?_
   rw[show vT b k (.ok (a,o))=(bE b a k:Int)from rfl,show sT b k (.ok (a,o))= .ok (aN b a k,o)from if_neg h]
   refine bq () ?_
   exact .refl
 |error e1=>
  rw[show fM (.error e1)=e1 from rfl]
  refine o_ au (o_ aj (bJ ?_))
  refine o_ bK ?_
  rw[dT_ (show e1≠0 from hx)]
  refine ab (bq () ?_)
  exact Is a o hx (.ex (r,(qa,qc)) (.all (.pick (by repeat constructor) (.pick (by repeat constructor) (.pick (by repeat constructor) .refl)))))
theorem Ft {W:World}{p d:Nat}{l:List Int}{b:List UInt8}{most:Int}{s:SV}(hl:l.length<=1099511627776):Cn p_ 189 [.pointer (some ⟨p,0,none⟩),.pointer (some ⟨d,0,none⟩)] W [el p b most s,cW d l] (fun _:Unit=> .int .i64 (vN l b s)) (fun _=>[el p b most (sN l b s),cW d l]):=by
 (refine Shp.cn (Sg.g_ Tryz.call189 Tryz.func189) fun F=>?_;simp only[ca_,na_])
 refine aH .here fun x=>ap .here (aG .here fun hx=>?_)
 refine aH .here fun q=>ap .here ?_
 obtain⟨r,qa,qc⟩:=q
 obtain⟨a,o⟩:=x
 refine aq ?_
 (try dsimp only)
 cases s with
 |ok y=>
  rw[show fM (.ok y)=0 from rfl]
  obtain rfl:(a,o)=y:=hx
  refine o_ au (o_ aj (bJ ?_))
  refine o_ bK ?_
  rw[dF_ (by decide)]
  refine aa (o_ au (o_ aj (bJ ?_)))
  refine c_ (Hb hl) fun _=>?_
  refine o_ (bk (v:= .int .i64 (cM l b a).1) rfl) ?_
  refine o_ (bk (v:= .int .i64 (cM l b a).2.1) rfl) ?_
  refine bF (M:=el p b most (.ok ((cM l b a).2.2,o))::cW d l::F) (zq (.ex (r,(qa,qc)) (.all (.pick (by repeat constructor) (.pick (by repeat constructor) (.pick (by repeat constructor) .refl)))))) ?_
  refine ay bK .nil (fun h=>?_) (fun h=>?_)
  ·refine ab (c_ (lD h) fun _=>?_)
   rw[show vN l b (.ok (a,o))=(cM l b a).1 from rfl,show sN l b (.ok (a,o))= .error (cM l b a).2.1 from if_pos h]
   refine bq () ?_
   exact .refl
  ·refine aa ?_
   rw[show vN l b (.ok (a,o))=(cM l b a).1 from rfl,show sN l b (.ok (a,o))= .ok ((cM l b a).2.2,o)from if_neg h]
   refine bq () ?_
   exact .refl
 |error e1=>
  rw[show fM (.error e1)=e1 from rfl]
  refine o_ au (o_ aj (bJ ?_))
  refine o_ bK ?_
  rw[dT_ (show e1≠0 from hx)]
  refine ab (bq () ?_)
  exact Is a o hx (.ex (r,(qa,qc)) (.all (.pick (by repeat constructor) (.pick (by repeat constructor) (.pick (by repeat constructor) .refl)))))
theorem cO {W:World}{p:Nat}{b:List UInt8}{most:Int}{s:SV}:bg p_ W [el p b most s] (aI 3 (.pointer (some ⟨p,3,none⟩))) (.int .i64 (fM s)):=fun w hw=>by
 have h:aZ W [el p b most s] (fun w=>(aI 3 (.pointer (some ⟨p,3,none⟩))).run p_ w= .ok (.value (.int .i64 (fM s))) w):=by
  refine aH .here fun x=>ap .here (aG .here fun hx=>?_)
  refine aH .here fun q=>ap .here ?_
  refine aq ?_
  intro w hw
  exact e_ (P:=p_) (fz:=(0,0)) rfl w ((Imp.pick .here (.drop (.drop .refl))).sat hw)
 exact h w hw
theorem fN {W:World}{L L':List HP}{S:WP}{p:Nat}{b:List UInt8}{most e:Int}(q:Pick L (el p b most (.error e)) L')(h:e≠0->aZ W L S):aZ W L S:=fun w hw=>by
 have k:aZ W L (fun _=>e≠0):=aH q fun x=>ap .here (aG .here fun hx=>fun _ _=>hx)
 exact h (k w hw) w hw
def sC (s:SV)(c:Nat × List UInt8->Prop)[DecidablePred c](e:Int):SV:=match s with
 | .ok x=>if c x then .error e else .ok x
 | .error e'=> .error e'
def sR (b:List UInt8)(n:Int)(s:SV):SV:=match s with
 | .ok x=>if ss b x.1 n≠0 then .error (ss b x.1 n)else .ok (jI b x.1 n,x.2++jz b x.1 n)
 | .error e=> .error e
theorem sW {b:List UInt8}{k:Nat}{s:SV}:0<=vT b k s/\vT b k s<((2^k:Nat):Int):=by
 unfold vT
 split
 ·rename_i x
  have:=jN (b:=b) (at_:=x.1) (k:=k)
  exact⟨by omega,Int.ofNat_lt.2 this⟩
 ·exact⟨by omega,Int.ofNat_lt.2 (Nat.pow_pos (by omega))⟩
theorem Iu {W:World}{p at_:Nat}{b out:List UInt8}{most:Int}(h1:0<=most/\most<=1048576)(h2:(out.length:Int)<=most):
  Cn p_ 144 [.pointer (some ⟨p,0,none⟩)] W [el p b most (.ok (at_,out))] (fun _:Unit=> .tuple #[]) (fun _=>[el p b most (ej b most at_ out)]):=by
 (refine Shp.cn (Sg.g_ Tryz.call144 Tryz.func144 (an:={cuts:=[(5,[]),(7,[])],drs:=[(5,.ofL [(0,1),(1,1),(2,1),(3,1),(4,1),(5,1),(6,1),(7,1),(8,1),(9,1),(10,1),(11,1),(12,1),(13,1),(14,1),(15,1),(16,1),(17,1),(18,1)])]})) fun F=>?_;simp only[ca_,na_])
 refine aH .here fun x=>ap .here (aG .here fun hx=>?_)
 obtain rfl:x=(at_,out):=hx
 refine aH .here fun q=>ap .here ?_
 obtain⟨r,qa,qc⟩:=q
 refine aq ?_
 (try dsimp only)
 refine o_ au (o_ aj (bJ ?_))
 refine c_ KL fun _=>?_
 obtain⟨a1,ha1⟩:∃a1,a1=(at_+7) / 8 * 8:=⟨_,rfl⟩
 rw[<- ha1]
 refine bF (M:=el p b most (.ok (a1,out))::F) (zq (.ex (r,(qa,qc)) (.all (.pick (by repeat constructor) (.pick (by repeat constructor) (.pick (by repeat constructor) .refl)))))) ?_
 refine c_ (jx (k:=16)) fun _=>?_
 refine c_ (jx (k:=16)) fun _=>?_
 obtain⟨s1,hs1⟩:∃s1,s1=sT b 16 (.ok (a1,out)):=⟨_,rfl⟩
 obtain⟨n,hn⟩:∃n,n=vT b 16 (.ok (a1,out)):=⟨_,rfl⟩
 rw[<- hs1,<- hn]
 obtain⟨s2,hs2⟩:∃s2,s2=sT b 16 s1:=⟨_,rfl⟩
 obtain⟨m,hm⟩:∃m,m=vT b 16 s1:=⟨_,rfl⟩
 rw[<- hs2,<- hm]
 have hnb:=sW (b:=b) (k:=16) (s:= .ok (a1,out))
 have hmb:=sW (b:=b) (k:=16) (s:=s1)
 rw[show vT b ((16:Nat):Int) (.ok (a1,out))=n from hn.symm]at hnb
 rw[show vT b ((16:Nat):Int) s1=m from hm.symm]at hmb
 obtain⟨s3,hs3⟩:∃s3,s3=sC s2 (fun _=>m≠65535-n) 31:=⟨_,rfl⟩
 refine cP (el p b most s3::F) ?_ ?_
 rotate_left
 ·refine o_ au (o_ cT (bt cO ?_))
  refine o_ aP ?_
  cases s2 with
  |ok x=>
   rw[dT_ (p:=fM (.ok x)=0) rfl]
   refine ae (ae (ae (dX ?_)))
   refine ae (o_ bK (o_ ah ?_))
   by_cases c:m≠65535-n
   ·rw[dT_ c]
    refine ab (c_ (lD (by decide)) fun _=>?_)
    rw[show sF (.ok x) 31=s3 by rw[hs3];exact(if_pos c).symm]
    exact aD .refl
   ·rw[dF_ c]
    refine aa ?_
    rw[show(.ok x:SV)=s3 by rw[hs3];exact(if_neg c).symm]
    exact aD .refl
  |error e=>
   refine fN .here fun he=>?_
   rw[dF_ (p:=fM (.error e)=0) he]
   refine af (af (af (af (o_ ag (aa ?_)))))
   rw[show(.error e:SV)=s3 by rw[hs3];rfl]
   exact aD .refl
 intro ds
 obtain⟨s4,hs4⟩:∃s4,s4=sC s3 (fun x=>most-(x.2.length:Int)<n) 6:=⟨_,rfl⟩
 refine cP (el p b most s4::F) ?_ ?_
 rotate_left
 ·refine bA (t_ au (t_ cT (eJ cO ?_)))
  refine t_ aP ?_
  clear hs3
  cases s3 with
  |ok x=>
   rw[dT_ (p:=fM (.ok x)=0) rfl]
   refine aH .here fun x1=>ap .here (aG .here fun hx1=>?_)
   obtain rfl:x1=x:=hx1
   refine aH .here fun q1=>ap .here ?_
   obtain⟨r1,qa1,qc1⟩:=q1
   obtain⟨a4,o4⟩:=x1
   refine aq ?_
   (try dsimp only)
   refine aF (.there (.there .here)) fun f1 f2 f3 f4=>?_
   have f5:o4.length<=9223372036854775807:=Nat.le_trans f2 f3
   refine ae (ae (ae (t_ au (ae (t_ aj (ae (ew ?_)))))));refine ae (ae (t_ au (ae (t_ aj (ae (ew ?_))))));refine ae (t_ aC (ae ?_));(refine t_ (dv (by omega) (by omega)) ?_);refine ae (t_ aV (t_ ah ?_))
   by_cases c:most-(o4.length:Int)<n
   ·rw[dT_ c]
    refine ab (bF (M:=el p b most (.ok (a4,o4))::F) (zq (.ex (r1,(qa1,qc1)) (.all (.pick (by repeat constructor) (.pick (by repeat constructor) (.pick (by repeat constructor) .refl)))))) ?_)
    refine c_ (lD (by decide)) fun _=>?_
    rw[show sF (.ok (a4,o4)) 6=s4 by rw[hs4];exact(if_pos c).symm]
    exact aD .refl
   ·rw[dF_ c]
    refine aa ?_
    rw[show s4=(.ok (a4,o4):SV) by rw[hs4];exact(if_neg c)]
    exact aD (zq (.ex (r1,(qa1,qc1)) (.all (.pick (by repeat constructor) (.pick (by repeat constructor) (.pick (by repeat constructor) .refl))))))
  |error e=>
   refine fN .here fun he=>?_
   rw[dF_ (p:=fM (.error e)=0) he]
   refine af (af (af (af (af (af (af (af (af (af (af (af (t_ ag (aa ?_)))))))))))))
   rw[show(.error e:SV)=s4 by rw[hs4];rfl]
   exact aD .refl
 intro ds
 have hM:sR b n s4=ej b most at_ out:=by
  rw[hs4,hs3,hm,hs2,hs1,hn]
  unfold ej
  rw[<- ha1]
  by_cases c1:bQ b a1 16=0
  ·by_cases c2:bQ b (aN b a1 16) 16=0
   ·simp only[sR,sT,vT,sC,c1,c2,ne_eq,not_true_eq_false,if_false,not_false_eq_true,if_true]
    by_cases c3:(bE b (aN b a1 16) 16:Int)=65535-(bE b a1 16:Int)
    ·simp only[c3,not_true_eq_false,if_false]
     by_cases c4:(bE b a1 16:Int)<=most-(out.length:Int)
     ·simp only[eq_false (show ¬most-(out.length:Int)<(bE b a1 16:Int) by omega),c4,if_false,not_true_eq_false]
      rfl
     ·simp only[eq_true (show most-(out.length:Int)<(bE b a1 16:Int) by omega),c4,if_true,not_false_eq_true]
    ·simp only[c3,not_false_eq_true,if_true]
   ·simp only[sR,sT,vT,sC,c1,c2,ne_eq,not_true_eq_false,if_false,not_false_eq_true,if_true]
  ·simp only[sR,sT,vT,sC,c1,ne_eq,not_true_eq_false,if_false,not_false_eq_true,if_true]
 refine o_ au (o_ cT (bt cO ?_))
 refine o_ bK ?_
 cases hx4:s4 with
 |ok x=>
  rw[hx4]at hM hs4
  unfold sR at hM
  have hle:n<=most-(x.2.length:Int):=by
   cases s3 with
   |ok y=>
    unfold sC at hs4
    by_cases c:most-(y.2.length:Int)<n
    ·simp only[c,if_true]at hs4;cases hs4
    ·simp only[c,if_false]at hs4;cases hs4;omega
   |error e=>cases hs4
  rw[dF_ (p:=fM (.ok x)≠0) (fun c=>c rfl)]
  refine aa (aH .here fun x1=>ap .here (aG .here fun hx1=>?_))
  obtain rfl:x1=x:=hx1
  refine aH .here fun q1=>ap .here ?_
  obtain⟨r1,qa1,qc1⟩:=q1
  obtain⟨a4,o4⟩:=x1
  refine aq ?_
  (try dsimp only)
  (try dsimp only at hM)
  (try dsimp only at hle)
  obtain⟨N,rfl⟩:=Int.eq_ofNat_of_zero_le hnb.1
  refine o_ au (o_ aj (bJ ?_))
  refine c_ Sx fun _=>?_
  rename_i u
  obtain⟨ua,uc⟩:=u
  (try dsimp only)
  refine o_ (bk (v:= .slice ua (jz b a4 N).length uc) rfl) ?_
  refine o_ (bk (v:= .int .i64 (ss b a4 N)) rfl) ?_
  refine ay bK .nil (fun h=>?_) (fun h=>?_)
  ·rw[if_pos h]at hM
   refine ab (bF (M:=el p b most (.ok (jI b a4 N,o4))::F) (zq (.ex (r1,(qa1,qc1)) (.all (.pick (by repeat constructor) (.pick (by repeat constructor) (.pick (by repeat constructor) aw)))))) ?_)
   refine c_ (lD h) fun _=>?_
   rw[<- hM]
   refine bq () ?_
   exact .refl
  ·rw[if_neg h]at hM
   refine aa (aF .here fun f1 f2 f3 f4=>?_)
   have hbl:(jz b a4 N).length<=65536:=by
    have:(jz b a4 N).length<=N:=by unfold jz;split;(rw[List.length_take];omega);simp
    omega
   refine o_ au (o_ aj (bJ ?_))
   refine bO (m:=(jz b a4 N).length) (news:=(jz b a4 N).map Sl.B) (by repeat constructor) (dF (e':=5) (by kernel_rfl) .here (cq (by simp) f4) (fun c=>(by
    rcases Nat.eq_zero_or_pos (jz b a4 N).length with z|z
    ·exact z
    ·obtain⟨_,e⟩:=f4 z;rw[c]at e;cases e)) dY) (by omega) (by omega) fun a' c'=>?_
   refine o_ au (o_ aj (eE ?_))
   rw[<- hM]
   refine bq () ?_
   refine zq (.ex (r1,(a',c')) (.all ?_))
   refine aq ?_
   rw[List.length_append,List.map_append]
   exact .pick (by repeat constructor) (.pick (by repeat constructor) (.pick (by repeat constructor) aw))
 |error e=>
  rw[hx4]at hM
  unfold sR at hM
  refine fN .here fun he=>?_
  rw[dT_ (p:=fM (.error e)≠0) he]
  refine ab ?_
  rw[<- hM]
  refine bq () ?_
  exact .refl
theorem LL (i:Nat)(h:i<288):eX[i]? =some (if 256<=i/\i<280 then 7 else if 144<=i/\i<256 then 9 else 8):=by
 have k:∀j:Fin 288,eX[j.1]? =some (if 256<=j.1/\j.1<280 then 7 else if 144<=j.1/\j.1<256 then 9 else 8):=by decide+kernel
 exact k ⟨i,h⟩
theorem LM (i:Nat)(h:i<32):fw[i]? =some 5:=by
 have k:∀j:Fin 32,fw[j.1]? =some 5:=by decide+kernel
 exact k ⟨i,h⟩
theorem oS {l:List Int}{i:Nat}{v:Int}(h:l[i]? =some v):l.take (i+1)=l.take i++[v]:=by
 rw[List.take_add_one,h];rfl
theorem LN {W:World}:Cn p_ 145 [] W [] (fun q:(Option Addr × Nat) × (Option Addr × Nat)=> .tuple #[.slice q.1.1 eX.length q.1.2,.slice q.2.1 fw.length q.2.2]) (fun q=>[Sl 1 3 q.1.1 q.1.2 eX.length (eX.map I),Sl 1 3 q.2.1 q.2.2 fw.length (fw.map I)]):=by
 have l1:eX.length=288:=by rw[lg]
 have l2:fw.length=32:=by rw[lh]
 rw[l1,l2]
 (refine Shp.cn (Sg.g_ Tryz.call145 Tryz.func145 (an:={cuts:=[(9,[5]),(11,[5])],loops:=[(4,[2,4]),(13,[3,6])]})) fun F=>?_;simp only[ca_,na_])
 refine bI (fun m x y=>(ex fun q:(Option Addr × Nat) × Nat=>all [pu (m+q.2=288/\x= .slice q.1.1 q.2 q.1.2/\y= .int .i64 (q.2:Int)),Sl 1 3 q.1.1 q.1.2 q.2 ((eX.take q.2).map I)])::F) 288 ?_ ?_
 ·refine .ex ((none,0),0) (.all ?_)
  refine aq ?_
  exact .pu ⟨rfl,rfl,rfl⟩ (bR .refl)
 intro m ds x y
 refine aH .here fun q=>ap .here ?_
 obtain⟨⟨qa,qc⟩,i⟩:=q
 refine aq ?_
 refine aG .here fun hi=>?_
 (try dsimp only at hi)
 (try dsimp only)
 obtain⟨hmi,rfl,rfl⟩:=hi
 refine ay az .nil (fun h=>?_) (fun h=>?_)
 ·have hi:i<288:=by omega
  have hv:=LL i hi
  refine ab (dD (fun v=>pu (v= .int .i64 (if 144<=i/\i<256 then 9 else 8))::Sl 1 3 qa qc i ((eX.take i).map I)::F) ?_ ?_)
  rotate_left
  ·refine ay cH .nil (fun h1=>?_) (fun h1=>?_)
   ·refine ae (ae (o_ az (o_ ah ?_)))
    by_cases c:(i:Int)<256
    ·rw[dT_ c]
     exact ab (aD (.pu (by rw[if_pos (show 144<=i/\i<256 by omega)]) .refl))
    ·rw[dF_ c]
     exact aa (aD (.pu (by rw[if_neg (show ¬(144<=i/\i<256) by omega)]) .refl))
   ·(refine af ?_);refine af ?_;refine o_ ag ?_;refine aa ?_
    exact aD (.pu (by rw[if_neg (show ¬(144<=i/\i<256) by omega)]) .refl)
  intro ds1 z
  refine aG .here fun hz=>?_
  subst hz
  refine dD (fun v=>pu (v= .int .i64 (if 256<=i/\i<280 then 7 else if 144<=i/\i<256 then 9 else 8))::Sl 1 3 qa qc i ((eX.take i).map I)::F) ?_ ?_
  rotate_left
  ·refine ay cH .nil (fun h1=>?_) (fun h1=>?_)
   ·refine ae (ae (o_ az (o_ ah ?_)))
    by_cases c:(i:Int)<280
    ·rw[dT_ c]
     exact ab (aD (.pu (by rw[if_pos (show 256<=i/\i<280 by omega)]) .refl))
    ·rw[dF_ c]
     exact aa (aD (.pu (by rw[if_neg (show ¬(256<=i/\i<280) by omega)]) .refl))
   ·(refine af ?_);refine af ?_;refine o_ ag ?_;refine aa ?_
    exact aD (.pu (by rw[if_neg (show ¬(256<=i/\i<280) by omega)]) .refl)
  intro ds2 z
  refine aG .here fun hz=>?_
  subst hz
  obtain⟨v,hvE⟩:∃v:Int,v=(if 256<=i/\i<280 then 7 else if 144<=i/\i<256 then 9 else 8):=⟨_,rfl⟩
  rw[<- hvE]at hv ⊢
  refine eI fun g=>?_
  refine bO (m:=1) (news:=[I v]) (by repeat constructor) (cA (e':=3) (by kernel_rfl) .here (by rfl) (mO (l:=[v]))) (by omega) (by omega) fun a' c'=>?_
  refine bG ?_
  refine bo (m-1) (by omega) (.ex ((a',c'),i+1) (.all ?_))
  refine aq ?_
  refine .pu ⟨by(try dsimp only);omega,rfl,rfl⟩ ?_
  (try dsimp only)
  rw[oS hv,List.map_append]
  exact .pick (by repeat constructor) aw
 have hie:i=288:=by omega
 subst hie
 refine aa ?_
 rw[List.take_of_length_le (by omega)]
 refine bI (fun m x y=>(ex fun q:(Option Addr × Nat) × Nat=>all [pu (m+q.2=32/\x= .slice q.1.1 q.2 q.1.2/\y= .int .i64 (q.2:Int)),Sl 1 3 q.1.1 q.1.2 q.2 ((fw.take q.2).map I)])::Sl 1 3 qa qc 288 (eX.map I)::F) 32 ?_ ?_
 ·refine .ex ((none,0),0) (.all ?_)
  refine aq ?_
  exact .pu ⟨rfl,rfl,rfl⟩ (bR .refl)
 intro m ds x y
 refine aH .here fun q=>ap .here ?_
 obtain⟨⟨ra,rc⟩,i⟩:=q
 refine aq ?_
 refine aG .here fun hi=>?_
 (try dsimp only at hi)
 (try dsimp only)
 obtain⟨hmi,rfl,rfl⟩:=hi
 refine ay az .nil (fun h=>?_) (fun h=>?_)
 ·have hi:i<32:=by omega
  have hv:=LM i hi
  refine ab (eI fun g=>?_)
  refine bO (m:=1) (news:=[I 5]) (by repeat constructor) (cA (e':=3) (by kernel_rfl) .here (by rfl) (mO (l:=[5]))) (by omega) (by omega) fun a' c'=>?_
  refine bG ?_
  refine bo (m-1) (by omega) (.ex ((a',c'),i+1) (.all ?_))
  refine aq ?_
  refine .pu ⟨by(try dsimp only);omega,rfl,rfl⟩ ?_
  (try dsimp only)
  rw[oS hv,List.map_append]
  exact .pick (by repeat constructor) aw
 have hie:i=32:=by omega
 subst hie
 refine aa ?_
 rw[List.take_of_length_le (show fw.length<=32 by omega)]
 refine aR ((qa,qc),(ra,rc)) rfl ?_
 exact aw
theorem xN {W:World}{s:Int}(h0:0<=s/\s<=1048576):Cn p_ 220 [.int .i64 s] W [] (fun _:Unit=> .tuple #[.int .i64 (bL s).1,.int .i64 (bL s).2]) (fun _=>[]):=by
 (refine Shp.cn (Sg.g_ Tryz.call220 Tryz.func220 (an:={loops:=[(10,[5,6])]})) fun F=>?_;simp only[ca_,na_])
 refine o_ az ?_
 by_cases c1:s<257
 ·rw[dT_ c1,show bL s=(0,0)from if_pos (by omega)]
  refine ao (ao (o_ ah (ab (bq () ?_))))
  exact .refl
 rw[dF_ c1]
 refine ae (ae (o_ aV (o_ ag ?_)))
 by_cases c2:285<s
 ·rw[dT_ c2,show bL s=(0,0)from if_pos (by omega)]
  refine ab (bq () ?_)
  exact .refl
 rw[dF_ c2]
 refine aa (o_ aP ?_)
 by_cases c3:s=285
 ·rw[dT_ c3]
  subst c3
  refine ab (bq () ?_)
  exact .refl
 rw[dF_ c3]
 refine aa (o_ az ?_)
 by_cases c4:s<265
 ·rw[dT_ c4,show bL s=(s-257+3,0) by unfold bL;rw[if_neg (by omega),if_neg (by omega),if_pos (by omega)]]
  refine ab (dX ?_)
  rw[show s-254=s-257+3 by omega]
  refine bq () ?_
  exact .refl
 rw[dF_ c4]
 refine aa ?_
 obtain⟨t,ht⟩:∃t:Nat,s=((265+t:Nat):Int):=⟨(s-265).toNat,by omega⟩
 have ht20:t<20:=by omega
 subst ht
 have hb:=LJ ⟨t,ht20⟩
 (try dsimp only at hb)
 refine dX ?_
 refine o_ (hH (by omega) (by omega) (by omega)) ?_
 rw[show(((265+t:Nat):Int)-261) / 4=(((265+t-261) / 4:Nat):Int) by omega,hb]
 refine bI (fun m x y=>(ex fun j:Nat=>pu (m+j=t/\x= .int .i64 (M_ j:Int)/\y= .int .i64 ((265+j:Nat):Int)))::F) t ?_ ?_
 ·exact .ex 0 (.pu ⟨rfl,rfl,rfl⟩ .refl)
 intro m ds x y
 refine aH .here fun j=>aG .here fun hj=>?_
 obtain⟨hmj,rfl,rfl⟩:=hj
 refine ay az .nil (fun h=>?_) (fun h=>?_)
 ·have hs:=Jz ⟨j,by omega⟩
  have hs1:=Jz ⟨j+1,by omega⟩
  (try dsimp only at hs)
  (try dsimp only at hs1)
  have e1:M_ (j+1)=M_ j+2^((265+j-261) / 4):=rfl
  refine ab (dX ?_)
  refine o_ (hH (by omega) (by omega) (by omega)) ?_
  rw[show(((265+j:Nat):Int)-261) / 4=(((265+j-261) / 4:Nat):Int) by omega]
  refine o_ br ?_
  rw[d7 (by omega) (by omega)]
  refine o_ (fS (by omega)) ?_
  rw[pB (by omega) (by omega) (by omega),Int.one_mul]
  generalize 2^((265+j-261) / 4)=Z at e1 ⊢
  refine bG ?_
  refine bG ?_
  exact bo (m-1) (by omega) (.ex (j+1) (.pu ⟨by omega,by rw[e1];rfl,rfl⟩ .refl))
 ·have hjt:j=t:=by omega
  subst hjt
  refine aa (bq () ?_)
  exact .refl
theorem sX {W:World}{s:Int}(h0:0<=s/\s<=1048576):Cn p_ 221 [.int .i64 s] W [] (fun _:Unit=> .tuple #[.int .i64 (bD s).1,.int .i64 (bD s).2]) (fun _=>[]):=by
 (refine Shp.cn (Sg.g_ Tryz.call221 Tryz.func221 (an:={loops:=[(8,[5,6])]})) fun F=>?_;simp only[ca_,na_])
 refine o_ az ?_
 rw[dF_ (show ¬s<0 by omega)]
 refine ae (ae (o_ aV (o_ ag ?_)))
 by_cases c2:29<s
 ·rw[dT_ c2,show bD s=(0,0)from if_pos (by omega)]
  refine ab (bq () ?_)
  exact .refl
 rw[dF_ c2]
 refine aa (o_ az ?_)
 by_cases c4:s<4
 ·rw[dT_ c4,show bD s=(s+1,0) by unfold bD;rw[if_neg (by omega),if_pos (by omega)]]
  refine ab (bG ?_)
  refine bq () ?_
  exact .refl
 rw[dF_ c4]
 refine aa ?_
 obtain⟨t,ht⟩:∃t:Nat,s=((4+t:Nat):Int):=⟨(s-4).toNat,by omega⟩
 have ht20:t<26:=by omega
 subst ht
 have hb:=LK ⟨t,ht20⟩
 (try dsimp only at hb)
 refine dX ?_
 refine o_ (hH (by omega) (by omega) (by omega)) ?_
 rw[show(((4+t:Nat):Int)-2) / 2=(((4+t-2) / 2:Nat):Int) by omega,hb]
 refine bI (fun m x y=>(ex fun j:Nat=>pu (m+j=t/\x= .int .i64 (Na j:Int)/\y= .int .i64 ((4+j:Nat):Int)))::F) t ?_ ?_
 ·exact .ex 0 (.pu ⟨rfl,rfl,rfl⟩ .refl)
 intro m ds x y
 refine aH .here fun j=>aG .here fun hj=>?_
 obtain⟨hmj,rfl,rfl⟩:=hj
 refine ay az .nil (fun h=>?_) (fun h=>?_)
 ·have hs:=JA ⟨j,by omega⟩
  have hs1:=JA ⟨j+1,by omega⟩
  (try dsimp only at hs)
  (try dsimp only at hs1)
  have e1:Na (j+1)=Na j+2^((4+j-2) / 2):=rfl
  refine ab (dX ?_)
  refine o_ (hH (by omega) (by omega) (by omega)) ?_
  rw[show(((4+j:Nat):Int)-2) / 2=(((4+j-2) / 2:Nat):Int) by omega]
  refine o_ br ?_
  rw[d7 (by omega) (by omega)]
  refine o_ (fS (by omega)) ?_
  rw[pB (by omega) (by omega) (by omega),Int.one_mul]
  generalize 2^((4+j-2) / 2)=Z at e1 ⊢
  refine bG ?_
  refine bG ?_
  exact bo (m-1) (by omega) (.ex (j+1) (.pu ⟨by omega,by rw[e1];rfl,rfl⟩ .refl))
 ·have hjt:j=t:=by omega
  subst hjt
  refine aa (bq () ?_)
  exact .refl
def kU (lb:List Int)(b:List UInt8)(most s:Int)(at_:Nat)(out:List UInt8):SV:=
 if ¬0<(bL s).1 then .error 30 else
 if bQ b at_ (bL s).2≠0 then .error (bQ b at_ (bL s).2)else
 let y:=cM lb b (aN b at_ (bL s).2)
 if y.2.1≠0 then .error y.2.1 else
 if ¬0<(bD y.1).1 then .error 30 else
 if bQ b y.2.2 (bD y.1).2≠0 then .error (bQ b y.2.2 (bD y.1).2)else
 if ¬(bD y.1).1+bE b y.2.2 (bD y.1).2<=out.length then .error 31 else
 if ¬(bL s).1+bE b at_ (bL s).2<=most-out.length then .error 6 else
 .ok (aN b y.2.2 (bD y.1).2,fW out ((bD y.1).1+bE b y.2.2 (bD y.1).2).toNat ((bL s).1+bE b at_ (bL s).2).toNat)
def sK (far n:Int)(s:SV):SV:=match s with
 | .ok x=> .ok (x.1,fW x.2 far.toNat n.toNat)
 | .error e=> .error e
theorem Fu {s:Int}(h:257<=s):(0<(bL s).1)↔s<=285:=by
 constructor
 ·intro c
  rcases Int.lt_or_le 285 s with k|k
  ·rw[show bL s=(0,0)from if_pos (by omega)]at c;omega
  ·exact k
 ·intro c
  obtain⟨t,ht⟩:∃t:Nat,s=((257+t:Nat):Int):=⟨(s-257).toNat,by omega⟩
  have k:∀j:Fin 29,0<(bL ((257+j.1:Nat):Int)).1:=by decide
  rw[ht]
  exact k ⟨t,by omega⟩
theorem oT {s:Int}(h:0<=s):(0<(bD s).1)↔s<=29:=by
 constructor
 ·intro c
  rcases Int.lt_or_le 29 s with k|k
  ·rw[show bD s=(0,0)from if_pos (by omega)]at c;omega
  ·exact k
 ·intro c
  obtain⟨t,ht⟩:∃t:Nat,s=((t:Nat):Int):=⟨s.toNat,by omega⟩
  have k:∀j:Fin 30,0<(bD ((j.1:Nat):Int)).1:=by decide
  rw[ht]
  exact k ⟨t,by omega⟩
theorem Iv {lb:List Int} {b:List UInt8} {most s:Int} {at_:Nat} {out:List UInt8} {s1 s2 s3 s4 s5 s6:SV} {n y far:Int} (h:257<=s) (hs:s<=285)
  (h1:s1=sT b (bL s).2 (.ok (at_,out))) (hn:n=(bL s).1+vT b (bL s).2 (.ok (at_,out))) (h2:s2=sN lb b s1) (hy:y=vN lb b s1) (h3:s3=sC s2 (fun _=>29<y) 30)
  (h4:s4=sT b (bD y).2 s3) (hf:far=(bD y).1+vT b (bD y).2 s3) (h5:s5=sC s4 (fun x=>(x.2.length:Int)<far) 31) (h6:s6=sC s5 (fun x=>most-(x.2.length:Int)<n) 6):
  sK far n s6=kU lb b most s at_ out:=by
 unfold kU
 rw[if_neg (not_not_intro ((Fu h).2 hs))]
 simp only
 by_cases c1:bQ b at_ (bL s).2=0
 rotate_left
 ·simp only[h6,h5,h4,h3,h2,h1,sK,sC,sT,sN,c1,ne_eq,not_false_eq_true,if_true]
 by_cases c2:(cM lb b (aN b at_ (bL s).2)).2.1=0
 rotate_left
 ·simp only[h6,h5,h4,h3,h2,h1,sK,sC,sT,sN,c1,c2,ne_eq,not_false_eq_true,not_true_eq_false,if_true,if_false]
 have hy':y=(cM lb b (aN b at_ (bL s).2)).1:=by
  rw[hy,h1];simp only[sT,c1,ne_eq,not_true_eq_false,if_false,vN]
 rw[<- hy']
 have hy0:0<=y:=by rw[hy'];exact(im _ _ _).1
 by_cases c3:y<=29
 rotate_left
 ·have d:29<y:=by omega
  simp only[h6,h5,h4,h3,h2,h1,sK,sC,sT,sN,c1,c2,d,(oT hy0),c3,ne_eq,not_false_eq_true,not_true_eq_false,if_true,if_false]
 have d3:¬29<y:=by omega
 have e3:s3= .ok ((cM lb b (aN b at_ (bL s).2)).2.2,out):=by
  simp only[h3,h2,h1,sC,sT,sN,c1,c2,d3,ne_eq,not_true_eq_false,if_false]
 obtain⟨z,hz⟩:∃z,z=(cM lb b (aN b at_ (bL s).2)).2.2:=⟨_,rfl⟩
 rw[<- hz]at e3 ⊢
 rw[e3]at h4 hf
 rw[show vT b (bD y).2 (.ok (z,out))=(bE b z (bD y).2:Int)from rfl]at hf
 rw[show vT b (bL s).2 (.ok (at_,out))=(bE b at_ (bL s).2:Int)from rfl]at hn
 rw[<- hf,<- hn]
 by_cases c4:bQ b z (bD y).2=0
 rotate_left
 ·simp only[h6,h5,h4,sK,sC,sT,c1,c2,c3,c4,(oT hy0),ne_eq,not_false_eq_true,not_true_eq_false,if_true,if_false]
 by_cases c5:far<=(out.length:Int)
 rotate_left
 ·have d:(out.length:Int)<far:=by omega
  simp only[h6,h5,h4,sK,sC,sT,c1,c2,c3,c4,c5,d,(oT hy0),ne_eq,not_false_eq_true,not_true_eq_false,if_true,if_false]
 have d5:¬(out.length:Int)<far:=by omega
 by_cases c6:n<=most-(out.length:Int)
 rotate_left
 ·have d:most-(out.length:Int)<n:=by omega
  simp only[h6,h5,h4,sK,sC,sT,c1,c2,c3,c4,c5,c6,d,d5,(oT hy0),ne_eq,not_false_eq_true,not_true_eq_false,if_true,if_false]
 have d6:¬most-(out.length:Int)<n:=by omega
 simp only[h6,h5,h4,sK,sC,sT,c1,c2,c3,c4,c5,c6,d5,d6,(oT hy0),ne_eq,not_false_eq_true,not_true_eq_false,if_true,if_false]
theorem LO {W:World}:Cn p_ 191 [] W [] (fun g:Nat=> .slice (some ⟨g,0,none⟩) 19 19) (fun g=>[pt g (.cells (((gO.map fun n:Nat=>(n:Int)).map I)).toArray 3 (0,0))]):=by
 (refine Shp.cn (Sg.g_ Tryz.call191 Tryz.func191) fun F=>?_;simp only[ca_,na_])
 refine f_ (vs:=(gO.map fun n:Nat=>(n:Int)).map I) rfl rfl (by intro v hv;obtain⟨c,_,rfl⟩:=List.mem_map.1 hv;rfl) (by omega) fun g=>?_
 refine aR g rfl ?_
 exact aw
def fY (l:List Int):Bool:=l.all fun x=>decide (0<x->x=1)
theorem oU (l:List Int)(x:Int):fY (l++[x])=(fY l&&decide (0<x->x=1)):=by simp[fY]
theorem xO:∀l:List Int,fY l=true->gM l=dL l
 |[],_=>rfl
 |x::l,h=>by
  unfold fY at h
  rw[List.all_cons,Bool.and_eq_true]at h
  have:=xO l h.2
  have hx:=of_decide_eq_true h.1
  simp only[gM,dL]
  split <;> omega
theorem Bh:∀l:List Int,dL l<=gM l/\(gM l=dL l->fY l=true)
 |[]=>by simp[dL,gM,fY]
 |x::l=>by
  have⟨h1,h2⟩:=Bh l
  constructor
  ·simp only[gM,dL];split <;> omega
  ·intro h
   unfold fY
   rw[List.all_cons,Bool.and_eq_true]
   simp only[gM,dL]at h
   refine⟨dT_ fun c=>?_,h2 ?_⟩
   ·rw[if_pos c,if_pos c]at h;omega
   ·split at h <;> omega
theorem xP (l:List Int):bY l=(decide (dL l=0)||(decide (dL l=1)&&fY l)||fq l):=by
 unfold bY
 have h:=Bh l
 by_cases c:dL l=1
 ·have:decide (gM l=1)=fY l:=by
   cases ho:fY l with
   |true=>exact dT_ (by have:=xO l ho;omega)
   |false=>exact dF_ fun e=>by have:=h.2 (by omega);rw[ho]at this;cases this
  rw[this]
 ·rw[dF_ c,Bool.false_and,Bool.false_and]
theorem Bi {W:World}{a:Option Addr}{cap:Nat}{l:List Int}{A:HP}(hr:RdB W A a l.length (l.map I))(hl:l.length<=1048576):
  Cn p_ 194 [.slice a l.length cap] W [A] (fun _:Unit=> .bool (bY l)) (fun _=>[A]):=by
 (refine Shp.cn (Sg.g_ Tryz.call194 Tryz.func194 (an:={loops:=[(4,[3,4,5])]})) fun F=>?_;simp only[ca_,na_])
 refine gD (fun m x y z=>(ex fun i:Nat=>pu (m+i=l.length/\x= .int .i64 (dL (l.take i))/\y= .bool (fY (l.take i))/\z= .int .i64 (i:Int)))::A::F) l.length ?_ ?_
 ·refine .ex 0 ?_
  exact .pu ⟨by omega,rfl,rfl,rfl⟩ .refl
 intro m ds x y z
 refine aH Pick.here fun i=>aG Pick.here fun hi=>?_
 obtain⟨hmi,rfl,rfl,rfl⟩:=hi
 have c1:=yV (l.take i)
 rw[List.length_take]at c1
 refine o_ aC (ay az .nil (fun h=>?_) (fun h=>?_))
 ·have hil:i<l.length:=by omega
  obtain⟨g,o,rfl,_⟩:=hr.at_ (by omega)
  have lf:bg p_ W [A] (aI 3 (.pointer (some ⟨g,o+i,none⟩))) (.int .i64 l[i]):=bP hr (dK hil)
  have t1:l.take (i+1)=l.take i++[l[i]]:=oS (List.getElem?_eq_getElem hil)
  refine ab (o_ (bj i (by rfl) hil) ?_)
  refine bt lf ?_
  refine ay aV .nil (fun h3=>?_) (fun h3=>?_)
  ·have s1:dL (l.take (i+1))=dL (l.take i)+1:=by rw[t1,gN];simp only[dL];rw[if_pos (by omega)];omega
   refine ab (bG ?_)
   cases ho:fY (l.take i)with
   |true=>
    have s2:fY (l.take (i+1))=decide (l[i]=1):=by
     rw[t1,oU,ho,Bool.true_and]
     exact decide_eq_decide.2 ⟨fun k=>k h3,fun k _=>k⟩
    refine ae (ae (ae (o_ (bj i (by rfl) hil) ?_)))
    refine ae (bt lf ?_)
    refine ae (o_ aP (o_ ah (bG ?_)))
    refine cr (m-1) (by omega) (.ex (i+1) (.pu ⟨by omega,by rw[s1],by rw[s2],rfl⟩ ?_))
    exact .refl
   |false=>
    have s2:fY (l.take (i+1))=false:=by rw[t1,oU,ho,Bool.false_and]
    refine af (af (af (af (af (o_ ag (bG ?_))))))
    refine cr (m-1) (by omega) (.ex (i+1) (.pu ⟨by omega,by rw[s1],by rw[s2],rfl⟩ ?_))
    exact .refl
  ·have s1:dL (l.take (i+1))=dL (l.take i):=by rw[t1,gN];simp only[dL];rw[if_neg (by omega)];omega
   have s2:fY (l.take (i+1))=fY (l.take i):=by
    rw[t1,oU,show decide (0<l[i]->l[i]=1)=true from dT_ fun k=>absurd k (by omega),Bool.and_true]
   refine aa (bG ?_)
   refine cr (m-1) (by omega) (.ex (i+1) (.pu ⟨by omega,by rw[s1],by rw[s2],rfl⟩ ?_))
   exact .refl
 ·have:i=l.length:=by omega
  subst this
  rw[List.take_length]
  refine aa ?_
  have fin:∀v:Bool,v=bY l->aZ W (A::F) (fun w=>∃x:Unit,(.bool v:Value)= .bool (bY l)/\sat W ([A]++F) w):=by
   intro v hv
   rw[hv]
   refine aR () rfl ?_
   exact .refl
  have he:=xP l
  refine o_ aP ?_
  by_cases h0:dL l=0
  ·rw[dT_ h0]at he ⊢
   exact ao (ao (ao (dg (ao (o_ ah (ao (ao (o_ ah (fin true (by rw[he];rfl))))))))))
  rw[dF_ h0]at he ⊢
  refine ae (ae (o_ aP ?_))
  by_cases h1:dL l=1
  ·rw[dT_ h1]at he ⊢
   cases ho:fY l with
   |true=>
    rw[ho]at he
    exact ae (ae (ae (o_ ah (o_ ag (ao (ao (o_ ah (fin true (by rw[he];rfl)))))))))
   |false=>
    rw[ho]at he
    refine ae (ae (ae (o_ ah (o_ ag (ae (ae (c_ (uY hr (by omega)) fun _=>?_)))))))
    exact o_ ag (fin _ (by rw[he];rfl))
  ·rw[dF_ h1]at he ⊢
   refine ae (af (ae (o_ ag (o_ ag (ae (ae (c_ (uY hr (by omega)) fun _=>?_)))))))
   exact o_ ag (fin _ (by rw[he];rfl))
theorem PR {b:List UInt8}{k:Int}{s:SV}:0<=vT b k s/\vT b k s<4294967296:=by
 unfold vT
 split
 ·rename_i x
  have:=oo b x.1 k
  exact⟨by omega,by omega⟩
 ·exact⟨by omega,by omega⟩
theorem SM {l:List Int}{b:List UInt8}{s:SV}:0<=vN l b s/\vN l b s<=l.length:=by
 unfold vN
 split
 ·exact im _ _ _
 ·exact⟨by omega,by omega⟩
theorem Iw {W:World}{p d at_:Nat}{lb:List Int}{b out:List UInt8}{most s:Int}(hlb:lb.length<=320)(h1:0<=most/\most<=1048576)(hs0:257<=s/\s<=1048576):
  Cn p_ 190 [.pointer (some ⟨p,0,none⟩),.int .i64 s,.pointer (some ⟨d,0,none⟩)] W [el p b most (.ok (at_,out)),cW d lb] (fun _:Unit=> .tuple #[]) (fun _=>[el p b most (kU lb b most s at_ out),cW d lb]):=by
 (refine Shp.cn (Sg.g_ Tryz.call190 Tryz.func190 (an:={cuts:=[(7,[]),(11,[]),(13,[])],loops:=[(14,[12])],drs:=[(11,.ofL [(0,1),(1,1),(2,1),(3,1),(4,1),(5,1),(6,1),(7,1),(8,1),(9,1),(10,1),(11,1),(12,1),(13,1),(14,1),(15,1),(16,1),(17,1),(18,1)]),(16,.ofL [(0,2),(1,2),(2,3),(3,3),(4,3),(5,1),(6,1),(7,1),(8,1),(9,1),(10,1),(11,1),(12,1),(13,1),(14,1),(15,1),(16,1),(17,1),(18,0),(19,0),(20,1),(21,1),(22,0)])]}) (os:=[(16,[(18,[4,3,2])])])) fun F=>?_;simp only[ca_,na_])
 refine o_ aV ?_
 by_cases hs:285<s
 ·rw[dT_ hs]
  refine ab (c_ (lD (by decide)) fun _=>?_)
  rw[show sF (.ok (at_,out)) 30=kU lb b most s at_ out from by
   unfold kU
   rw[if_pos (fun c=>by have:=(Fu hs0.1).1 c;omega)]
   rfl]
  refine bq () ?_
  exact .refl
 rw[dF_ hs]
 refine aa (c_ (xN ⟨by omega,hs0.2⟩) fun _=>?_)
 refine o_ (bk (v:= .int .i64 (bL s).1) rfl) ?_
 refine o_ (bk (v:= .int .i64 (bL s).2) rfl) ?_
 have hbl:=Pj s (by omega)
 refine c_ (jx (k:=(bL s).2)) fun _=>?_
 have hv1:=PR (b:=b) (k:=(bL s).2) (s:= .ok (at_,out))
 obtain⟨s1,hs1⟩:∃s1,s1=sT b (bL s).2 (.ok (at_,out)):=⟨_,rfl⟩
 refine bG ?_
 obtain⟨n,hn⟩:∃n,n=(bL s).1+vT b (bL s).2 (.ok (at_,out)):=⟨_,rfl⟩
 rw[<- hs1,<- hn]
 refine c_ (Ft (l:=lb) (by omega)) fun _=>?_
 obtain⟨s2,hs2⟩:∃s2,s2=sN lb b s1:=⟨_,rfl⟩
 obtain⟨y,hy⟩:∃y,y=vN lb b s1:=⟨_,rfl⟩
 have hyb:=SM (l:=lb) (b:=b) (s:=s1)
 rw[<- hy]at hyb
 rw[<- hs2,<- hy]
 obtain⟨s3,hs3⟩:∃s3,s3=sC s2 (fun _=>29<y) 30:=⟨_,rfl⟩
 refine cP (el p b most s3::cW d lb::F) ?_ ?_
 rotate_left
 ·refine o_ au (o_ cT (bt cO ?_))
  refine o_ aP ?_
  clear hs2
  cases s2 with
  |ok x=>
   rw[dT_ (p:=fM (.ok x)=0) rfl]
   refine ae (ae (o_ aV (o_ ah ?_)))
   by_cases c:29<y
   ·rw[dT_ c]
    refine ab (c_ (lD (by decide)) fun _=>?_)
    rw[show sF (.ok x) 30=s3 by rw[hs3];exact(if_pos c).symm]
    exact aD .refl
   ·rw[dF_ c]
    refine aa ?_
    rw[show(.ok x:SV)=s3 by rw[hs3];exact(if_neg c).symm]
    exact aD .refl
  |error e=>
   refine fN .here fun he=>?_
   rw[dF_ (p:=fM (.error e)=0) he]
   refine af (af (o_ ag (aa ?_)))
   rw[show(.error e:SV)=s3 by rw[hs3];rfl]
   exact aD .refl
 intro ds
 refine c_ (sX (s:=y) ⟨hyb.1,by omega⟩) fun _=>?_
 refine o_ (bk (v:= .int .i64 (bD y).1) rfl) ?_
 refine o_ (bk (v:= .int .i64 (bD y).2) rfl) ?_
 have hbd:=Pk y hyb.1
 refine c_ (jx (k:=(bD y).2)) fun _=>?_
 have hv2:=PR (b:=b) (k:=(bD y).2) (s:=s3)
 refine bG ?_
 obtain⟨s4,hs4⟩:∃s4,s4=sT b (bD y).2 s3:=⟨_,rfl⟩
 obtain⟨far,hf⟩:∃far,far=(bD y).1+vT b (bD y).2 s3:=⟨_,rfl⟩
 rw[<- hs4,<- hf]
 obtain⟨s5,hs5⟩:∃s5,s5=sC s4 (fun x=>(x.2.length:Int)<far) 31:=⟨_,rfl⟩
 refine cP (el p b most s5::cW d lb::F) ?_ ?_
 rotate_left
 ·refine o_ au (o_ cT (bt cO ?_))
  refine o_ aP ?_
  clear hs4
  cases s4 with
  |ok x=>
   rw[dT_ (p:=fM (.ok x)=0) rfl]
   refine aH .here fun x1=>ap .here (aG .here fun hx1=>?_)
   obtain rfl:x1=x:=hx1
   refine aH .here fun q1=>ap .here ?_
   obtain⟨r1,qa1,qc1⟩:=q1
   obtain⟨a4,o4⟩:=x1
   refine aq ?_
   (try dsimp only)
   refine ae (ae (ae (o_ au (ae (o_ aj (ae (bJ ?_)))))));refine ae (o_ aC (ae (o_ aV (o_ ah ?_))))
   by_cases c:(o4.length:Int)<far
   ·rw[dT_ c]
    refine ab (bF (M:=el p b most (.ok (a4,o4))::cW d lb::F) (zq (.ex (r1,(qa1,qc1)) (.all (.pick (by repeat constructor) (.pick (by repeat constructor) (.pick (by repeat constructor) aw)))))) ?_)
    refine c_ (lD (by decide)) fun _=>?_
    rw[show sF (.ok (a4,o4)) 31=s5 by rw[hs5];exact(if_pos c).symm]
    exact aD .refl
   ·rw[dF_ c]
    refine aa ?_
    rw[show s5=(.ok (a4,o4):SV) by rw[hs5];exact(if_neg c)]
    exact aD (zq (.ex (r1,(qa1,qc1)) (.all (.pick (by repeat constructor) (.pick (by repeat constructor) (.pick (by repeat constructor) aw))))))
  |error e=>
   refine fN .here fun he=>?_
   rw[dF_ (p:=fM (.error e)=0) he]
   refine af (af (af (af (af (af (af (o_ ag (aa ?_))))))))
   rw[show(.error e:SV)=s5 by rw[hs5];rfl]
   exact aD .refl
 intro ds
 obtain⟨s6,hs6⟩:∃s6,s6=sC s5 (fun x=>most-(x.2.length:Int)<n) 6:=⟨_,rfl⟩
 refine cP (el p b most s6::cW d lb::F) ?_ ?_
 rotate_left
 ·refine bA (t_ au (t_ cT (eJ cO ?_)))
  refine t_ aP ?_
  clear hs5
  cases s5 with
  |ok x=>
   rw[dT_ (p:=fM (.ok x)=0) rfl]
   refine aH .here fun x1=>ap .here (aG .here fun hx1=>?_)
   obtain rfl:x1=x:=hx1
   refine aH .here fun q1=>ap .here ?_
   obtain⟨r1,qa1,qc1⟩:=q1
   obtain⟨a4,o4⟩:=x1
   refine aq ?_
   (try dsimp only)
   refine aF (.there (.there .here)) fun f1 f2 f3 f4=>?_
   have f5:o4.length<=9223372036854775807:=Nat.le_trans f2 f3
   refine ae (ae (ae (t_ au (ae (t_ aj (ae (ew ?_)))))));refine ae (ae (t_ au (ae (t_ aj (ae (ew ?_))))));refine ae (t_ aC (ae ?_));(refine t_ (dv (by omega) (by omega)) ?_);refine ae (t_ aV (t_ ah ?_))
   by_cases c:most-(o4.length:Int)<n
   ·rw[dT_ c]
    refine ab (bF (M:=el p b most (.ok (a4,o4))::cW d lb::F) (zq (.ex (r1,(qa1,qc1)) (.all (.pick (by repeat constructor) (.pick (by repeat constructor) (.pick (by repeat constructor) aw)))))) ?_)
    refine c_ (lD (by decide)) fun _=>?_
    rw[show sF (.ok (a4,o4)) 6=s6 by rw[hs6];exact(if_pos c).symm]
    exact aD .refl
   ·rw[dF_ c]
    refine aa ?_
    rw[show s6=(.ok (a4,o4):SV) by rw[hs6];exact(if_neg c)]
    exact aD (zq (.ex (r1,(qa1,qc1)) (.all (.pick (by repeat constructor) (.pick (by repeat constructor) (.pick (by repeat constructor) aw))))))
  |error e=>
   refine fN .here fun he=>?_
   rw[dF_ (p:=fM (.error e)=0) he]
   refine af (af (af (af (af (af (af (af (af (af (af (af (t_ ag (aa ?_)))))))))))))
   rw[show(.error e:SV)=s6 by rw[hs6];rfl]
   exact aD .refl
 intro ds
 have hM:=Iv (lb:=lb) hs0.1 (by omega) hs1 hn hs2 hy hs3 hs4 hf hs5 hs6
 obtain⟨N,hN⟩:∃N:Nat,n=(N:Int):=⟨n.toNat,by omega⟩
 cases hx6:s6 with
 |error e=>
  rw[hx6]at hM
  unfold sK at hM
  rw[<- hM]
  refine fN .here fun he=>?_
  refine a_ (fun m x=>pu (x= .int .i64 0)::el p b most (.error e)::cW d lb::F) 0 (.pu rfl .refl) ?_
  intro m ds x
  refine aG .here fun hx=>?_
  subst hx
  refine ay az .nil (fun h=>?_) (fun h=>?_)
  ·refine ae (ae (o_ au (ae (o_ cT (ae (bt cO ?_))))))
   refine ae (o_ aP (o_ ah ?_))
   rw[dF_ (p:=fM (.error e)=0) he]
   refine aa (bq () ?_)
   exact .refl
  ·(refine af ?_);refine af ?_;refine af ?_;refine af ?_;refine af ?_;refine o_ ag ?_;refine aa ?_
   refine bq () ?_
   exact .refl
 |ok x=>
  have hle:n<=most-(x.2.length:Int)/\far<=(x.2.length:Int):=by
   rw[hx6]at hs6
   cases s5 with
   |ok y5=>
    unfold sC at hs6
    by_cases c:most-(y5.2.length:Int)<n
    ·simp only[c,if_true]at hs6;cases hs6
    ·simp only[c,if_false]at hs6
     cases hs6
     cases s4 with
     |ok y4=>
      unfold sC at hs5
      by_cases c':(y4.2.length:Int)<far
      ·simp only[c',if_true]at hs5;cases hs5
      ·simp only[c',if_false]at hs5;cases hs5;exact⟨by omega,by omega⟩
     |error e=>cases hs5
   |error e=>cases hs6
  have hfar:1<=far:=by
   cases s3 with
   |ok y3=>
    have:0<(bD y).1:=by
     refine(oT hyb.1).2 ?_
     cases s2 with
     |ok y2=>
      unfold sC at hs3
      by_cases c:29<y
      ·simp only[c,if_true]at hs3;cases hs3
      ·omega
     |error e=>cases hs3
    omega
   |error e=>
    rw[show sT b (bD y).2 (.error e)= .error e from rfl]at hs4
    rw[hs4]at hs5
    rw[show sC (.error e) (fun x=>(x.2.length:Int)<far) 31= .error e from rfl]at hs5
    rw[hs5,hx6]at hs6
    cases hs6
  rw[hx6]at hM
  unfold sK at hM
  rw[<- hM]
  obtain⟨a4,o4⟩:=x
  (try dsimp only at hle)
  (try dsimp only)
  refine a_ (fun m x=>(ex fun i:Nat=>all [pu (m+i=N/\x= .int .i64 (i:Int)),el p b most (.ok (a4,fW o4 far.toNat i))])::cW d lb::F) N ?_ ?_
  ·refine .ex 0 (.all ?_)
   refine aq ?_
   exact .pu ⟨rfl,rfl⟩ .refl
  intro m ds x
  refine aH .here fun i=>ap .here (aG .here fun hi=>?_)
  refine aq ?_
  obtain⟨hmi,rfl⟩:=hi
  refine ay az .nil (fun h=>?_) (fun h=>?_)
  ·refine ae (ae (o_ au (ae (o_ cT (ae (bt cO ?_))))))
   refine ae (o_ aP (o_ ah ?_))
   rw[dT_ (p:=fM (.ok (a4,fW o4 far.toNat i))=0) rfl]
   refine ab ?_
   have hcl:=li o4 far.toNat i
   obtain⟨o5,ho5⟩:∃o5,o5=fW o4 far.toNat i:=⟨_,rfl⟩
   rw[<- ho5]at hcl ⊢
   refine aH .here fun x1=>ap .here (aG .here fun hx1=>?_)
   obtain rfl:x1=(a4,o5):=hx1
   refine aH .here fun q1=>ap .here ?_
   obtain⟨r1,qa1,qc1⟩:=q1
   refine aq ?_
   (try dsimp only)
   refine dA (.there (.there .here)) (by omega) fun g hg=>?_
   subst hg
   refine aF (.there (.there .here)) fun f1 f2 f3 f4=>?_
   have hix:o5.length-far.toNat<o5.length:=by omega
   have ldb:bg p_ W [Sl 1 5 (some ⟨g,0,none⟩) qc1 o5.length (o5.map Sl.B)] (aI 5 (.pointer (some ⟨g,0+(o5.length-far.toNat),none⟩))) (Sl.B (o5.getD (o5.length-far.toNat) 0)):=by
    rw[Nat.zero_add]
    refine cI ?_
    rw[List.getElem?_map,List.getElem?_eq_getElem hix,List.getD_eq_getElem?_getD,List.getElem?_eq_getElem hix];rfl
   refine bA (bh au .nil ?_);refine bh aj .nil ?_;(((refine' bh (bC ?hc) ?hi ?_);(case hi=>exact .pick (by repeat constructor) .nil);(case hc=>repeat constructor)));refine t_ au (t_ aj (ew ?_));refine t_ au (t_ aj (ew ?_));refine t_ aC ?_;(refine t_ (dv (by omega) (by omega)) ?_)
   refine t_ (bj (o5.length-far.toNat) (by omega) hix) ?_
   refine eJ ldb ?_
   refine eI fun g2=>?_
   refine bZ aw ?_
   refine bZ aw ?_
   refine bZ aw ?_
   refine bO (m:=1) (news:=[Sl.B (o5.getD (o5.length-far.toNat) 0)]) (by repeat constructor) (cA (e':=5) (by kernel_rfl) .here (by rfl) (by intro z hz;simp at hz;subst hz;rfl)) (by omega) (by omega) fun a' c'=>?_
   refine t_ au (t_ cT (eE ?_));refine bG ?_
   have e1:fW o4 far.toNat (i+1)=o5++[o5.getD (o5.length-far.toNat) 0]:=by rw[fW,<- ho5]
   refine aK (m-1) (by omega) (.ex (i+1) (.all ?_))
   refine aq ?_
   refine .pu ⟨by omega,rfl⟩ ?_
   rw[e1]
   refine zq (.ex (r1,(a',c')) (.all ?_))
   refine aq ?_
   rw[List.length_append,List.map_append]
   exact .pick (by repeat constructor) (.pick (by repeat constructor) (.pick (by repeat constructor) aw))
  ·have hie:i=N:=by omega
   subst hie
   refine af (af (af (af (af (o_ ag (aa ?_))))))
   rw[hN,Int.toNat_natCast]
   refine bq () ?_
   exact .refl
def mp (s:SV):Except Int (Bool × Nat × List UInt8):=match s with
 | .ok x=> .ok (false,x.1,x.2)
 | .error e=> .error e
theorem LP {c:Prop}[Decidable c]{x y:SV}:mp (if c then x else y)=if c then mp x else mp y:=by split <;> rfl
theorem LQ {e:Int}:mp (.error e)= .error e:=rfl
theorem PS {x:Nat × List UInt8}:mp (.ok x)= .ok (false,x.1,x.2):=rfl
theorem xQ {la lb:List Int}{b:List UInt8}{most:Int}{at_:Nat}{out:List UInt8}(h0:(cM la b at_).2.1=0)(h1:256<(cM la b at_).1):
  gz la lb b most at_ out=mp (kU lb b most (cM la b at_).1 (cM la b at_).2.2 out):=by
 unfold gz kU
 simp only[LP,LQ,PS]
 rw[if_neg (not_not_intro h0),if_neg (show ¬(cM la b at_).1=256 by omega),if_neg (show ¬(cM la b at_).1<256 by omega)]
theorem Fv {lb:List Int}{b:List UInt8}{most s:Int}{at_:Nat}{out:List UInt8}{a:Nat}{o:List UInt8}(h:kU lb b most s at_ out= .ok (a,o)):at_<=a:=by
 unfold kU at h
 simp only at h
 obtain⟨_,h⟩:=aQ h
 obtain⟨_,h⟩:=aQ h
 obtain⟨_,h⟩:=aQ h
 obtain⟨_,h⟩:=aQ h
 obtain⟨_,h⟩:=aQ h
 obtain⟨_,h⟩:=aQ h
 obtain⟨_,h⟩:=aQ h
 rw[<- (Prod.mk.inj (Except.ok.inj h)).1]
 have l1:=cE b at_ (bL s).2
 have l2:=(jL lb b (aN b at_ (bL s).2)).1
 have l3:=cE b (cM lb b (aN b at_ (bL s).2)).2.2 (bD (cM lb b (aN b at_ (bL s).2)).1).2
 exact Nat.le_trans l1 (Nat.le_trans l2 l3)
theorem xR {W:World}{L L':List HP}{S:WP}{p at_:Nat}{b o:List UInt8}{most:Int}(q:Pick L (el p b most (.ok (at_,o))) L')(h:at_<=8 * b.length->aZ W L S):aZ W L S:=fun w hw=>by
 have e:aZ W L (fun _=>at_<=8 * b.length):=aH q fun x=>ap .here (aG .here fun hx=>by
  obtain rfl:x=(at_,o):=hx
  exact aH .here fun q=>ap .here (aH (.there .here) fun z=>ap .here (aG (.there (.there .here)) fun hz=>fun _ _=>hz.1)))
 exact h (e w hw) w hw
theorem Iy {W:World}{p:Nat}{b:List UInt8}{most e:Int}{v1 v2:Value}:Cn p_ 146 [.pointer (some ⟨p,0,none⟩),v1,v2] W [el p b most (.error e)] (fun _:Unit=> .tuple #[]) (fun _=>[el p b most (.error e)]):=by
 (refine Shp.cn (Sg.g_ Tryz.call146 Tryz.func146 (an:={loops:=[(3,[])],drs:=[(9,.ofL [(0,1),(1,1),(2,1),(3,1),(4,1),(5,1),(6,1),(7,1),(8,1),(9,1),(10,1)])]})) fun F=>?_;simp only[ca_,na_])
 refine fN .here fun he=>?_
 refine o_ au (o_ cT (bt cO ?_))
 refine o_ bK ?_
 rw[dT_ (p:=fM (.error e)≠0) he]
 refine ab (bq () ?_)
 exact .refl
def vU (la lb:List Int)(b:List UInt8)(most:Int)(R:SV)(m:Nat)(s:SV):Prop:=match s with
 | .ok x=>8 * b.length+1<=m+x.1/\R=lK la lb b most m x.1 x.2/\(x.2.length:Int)<=most
 | .error e=>R= .error e
theorem Fw {W:World} {p at_ c1 c2:Nat} {a1 a2:Option Addr} {la lb:List Int} {A:HP} {b out:List UInt8} {most:Int} (r1:RdB W A a1 la.length (la.map I)) (r2:RdB W A a2 lb.length (lb.map I)) (ok1:okL la) (ok2:okL lb)
  (hla:la.length<=320) (hlb:lb.length<=320) (h1:0<=most/\most<=1048576) (h2:(out.length:Int)<=most):
  Cn p_ 146 [.pointer (some ⟨p,0,none⟩),.slice a1 la.length c1,.slice a2 lb.length c2] W [el p b most (.ok (at_,out)),A] (fun _:Unit=> .tuple #[]) (fun _=>[el p b most (mS la lb b most at_ out),A]):=by
 (refine Shp.cn (Sg.g_ Tryz.call146 Tryz.func146 (an:={loops:=[(3,[])],drs:=[(9,.ofL [(0,1),(1,1),(2,1),(3,1),(4,1),(5,1),(6,1),(7,1),(8,1),(9,1),(10,1)])]})) fun F=>?_;simp only[ca_,na_])
 refine o_ au (o_ cT (bt cO ?_))
 refine o_ bK ?_
 rw[dF_ (p:=fM (.ok (at_,out))≠0) (fun c=>c rfl)]
 refine aa (c_ (yS r1 ok1) fun _=>?_)
 rename_i da
 refine o_ (bk (v:= .pointer (some ⟨da,0,none⟩)) rfl) ?_
 refine o_ (bk (v:= .int .i64 0) rfl) ?_
 refine c_ (yS r2 ok2) fun _=>?_
 rename_i db
 refine o_ (bk (v:= .pointer (some ⟨db,0,none⟩)) rfl) ?_
 refine o_ (bk (v:= .int .i64 0) rfl) ?_
 obtain⟨R,hR⟩:∃R,R=mS la lb b most at_ out:=⟨_,rfl⟩
 rw[<- hR]
 refine bF (M:=el p b most (.ok (at_,out))::cW da la::cW db lb::A::F) aw ?_
 refine xR .here fun hat0=>?_
 refine mG (fun m=>(ex fun s:SV=>all [pu (vU la lb b most R m s),el p b most s])::cW da la::cW db lb::A::F) (8 * b.length+1-at_) ?_ ?_
 ·refine .ex (.ok (at_,out)) (.all ?_)
  refine aq ?_
  exact .pu ⟨by(try dsimp only);omega,hR,h2⟩ .refl
 clear hR h2
 intro m ds
 refine aH .here fun s=>ap .here (aG .here fun hs=>?_)
 refine aq ?_
 refine o_ au (o_ cT (bt cO ?_))
 refine o_ aP ?_
 cases s with
 |error e=>
  refine fN .here fun he=>?_
  rw[dF_ (p:=fM (.error e)=0) he,show R= .error e from hs]
  refine aa (bq () ?_)
  exact aw
 |ok x=>
  obtain⟨at1,o1⟩:=x
  obtain⟨hm,hR,h2⟩:=hs
  (try dsimp only at hm)
  (try dsimp only at hR)
  (try dsimp only at h2)
  rw[dT_ (p:=fM (.ok (at1,o1))=0) rfl]
  refine ab (xR .here fun hat=>?_)
  obtain⟨m,rfl⟩:∃m',m=m'+1:=⟨m-1,by omega⟩
  rw[lK]at hR
  have hM:gz la lb b most at1 o1=gz la lb b most at1 o1:=rfl
  conv at hM=>rhs;unfold gz
  simp only at hM
  refine c_ (Ft (s:= .ok (at1,o1)) (l:=la) (by omega)) fun _=>?_
  by_cases c0:(cM la b at1).2.1=0
  rotate_left
  ·rw[if_pos c0]at hM
   rw[hM]at hR
   rw[show sN la b (.ok (at1,o1))= .error (cM la b at1).2.1 from if_pos c0,hR]
   refine o_ au (o_ cT (bt cO ?_))
   refine o_ bK ?_
   rw[dT_ (p:=fM (.error (cM la b at1).2.1)≠0) c0]
   refine ao (ao (o_ ah (ab (bq () ?_))))
   exact aw
  rw[if_neg (not_not_intro c0)]at hM
  have hv:=im la b at1
  have hlt:=(jL la b at1).2 c0
  have hcopy:=xQ (la:=la) (lb:=lb) (b:=b) (most:=most) (at_:=at1) (out:=o1) c0
  rw[show sN la b (.ok (at1,o1))= .ok ((cM la b at1).2.2,o1)from if_neg (not_not_intro c0),show vN la b (.ok (at1,o1))=(cM la b at1).1 from rfl]
  have hok:= @oq la lb b most at1 o1
  obtain⟨x,hx⟩:∃x,x=(cM la b at1).1:=⟨_,rfl⟩
  obtain⟨a2',ha2⟩:∃a2,a2=(cM la b at1).2.2:=⟨_,rfl⟩
  rw[<- hx]at hv
  rw[<- ha2]at hlt
  rw[<- hx,<- ha2]at hcopy
  rw[<- hx,<- ha2]at hM ⊢
  refine o_ au (o_ cT (bt cO ?_))
  refine o_ bK ?_
  rw[dF_ (p:=fM (.ok (a2',o1))≠0) (fun c=>c rfl)]
  refine ae (ae (o_ aP (o_ ag ?_)))
  by_cases h:x=256
  ·rw[if_pos h]at hM
   rw[hM]at hR
   rw[dT_ h,hR]
   refine ab (bq () ?_)
   exact aw
  rw[if_neg h]at hM
  rw[dF_ h]
  refine aa (o_ aV ?_)
  by_cases h3:256<x
  ·rw[dT_ h3]
   refine ab (c_ (Iw (lb:=lb) (s:=x) hlb h1 ⟨by omega,by omega⟩) fun _=>?_)
   rw[hcopy h3]at hR
   have hok2:=fun t a o=>hok (t:=t) (a:=a) (o:=o)
   rw[hcopy h3]at hok2
   refine iX m (by omega) (.ex (kU lb b most x a2' o1) (.all ?_))
   refine aq ?_
   refine .pu ?_ aw
   cases hC:kU lb b most x a2' o1 with
   |ok y=>
    obtain⟨a,o⟩:=y
    rw[hC]at hR hok2
    have:=Fv hC
    exact⟨by(try dsimp only);omega,hR,hok2 false a o rfl h2⟩
   |error e=>
    rw[hC]at hR
    exact hR
  rw[dF_ h3]
  refine aa ?_
  have h4:x<256:=by omega
  rw[if_pos h4]at hM
  refine aH .here fun x1=>ap .here (aG .here fun hx1=>?_)
  obtain rfl:x1=(a2',o1):=hx1
  refine aH .here fun q1=>ap .here ?_
  obtain⟨r1',qa1,qc1⟩:=q1
  refine aq ?_
  (try dsimp only)
  refine bA (t_ au (t_ aj (ew ?_)));refine t_ aC (t_ au (t_ aj (ew ?_)))
  refine t_ aP ?_
  by_cases h5:(o1.length:Int)=most
  ·rw[if_pos (show ¬(1:Int)<=most-(o1.length:Int) by omega)]at hM
   rw[hM]at hR
   rw[dT_ h5]
   refine ab (bF (M:=el p b most (.ok (a2',o1))::cW da la::cW db lb::A::F) (zq (.ex (r1',(qa1,qc1)) (.all (.pick (by repeat constructor) (.pick (by repeat constructor) (.pick (by repeat constructor) aw)))))) ?_)
   refine c_ (lD (by decide)) fun _=>?_
   refine iX m (by omega) (.ex (.error 6) (.all ?_))
   refine aq ?_
   exact .pu hR .refl
  ·rw[if_neg (show ¬ ¬(1:Int)<=most-(o1.length:Int) by omega)]at hM
   rw[hM]at hR
   rw[dF_ h5]
   refine aa ?_
   clear hcopy hok hx
   obtain⟨X,rfl⟩:=Int.eq_ofNat_of_zero_le hv.1
   rw[Int.toNat_natCast]at hR
   refine o_ au (o_ aj (bJ ?_))
   refine o_ br ?_
   rw[Ah (by omega),<- eZ (by omega)]
   refine eI fun g=>?_
   refine bO (m:=1) (news:=[Sl.B (UInt8.ofNat X)]) (by repeat constructor) (cA (e':=5) (by kernel_rfl) .here (by rfl) (dY (l:=[UInt8.ofNat X]))) (by omega) (by omega) fun a' c'=>?_
   refine o_ au (o_ aj (eE ?_))
   refine iX m (by omega) (.ex (.ok (a2',o1++[UInt8.ofNat X])) (.all ?_))
   refine aq ?_
   refine .pu ⟨by(try dsimp only);omega,hR,by(try dsimp only);rw[List.length_append,List.length_singleton];omega⟩ ?_
   refine zq (.ex (r1',(a',c')) (.all ?_))
   refine aq ?_
   rw[List.length_append,List.map_append,List.length_singleton]
   exact .pick (by repeat constructor) (.pick (by repeat constructor) (.pick (by repeat constructor) aw))
def LR (p:Nat)(b:List UInt8)(most:Int)(out:List UInt8)(n:Nat)(q:(Option Addr × Nat) × Nat)(R:Except Int (Nat × List Int)):HP:=match R with
 | .ok x=>all [pu (q.2=n/\x.2.length=n),Sl 1 3 q.1.1 q.1.2 n (x.2.map I),el p b most (.ok (x.1,out))]
 | .error e=>el p b most (.error e)
def PT (l:List Int)(b:List UInt8)(n:Nat)(out:List UInt8)(R:Except Int (Nat × List Int))(acc:List Int)(m:Nat)(s:SV):Prop:=match s with
 | .ok x=>x.2=out/\8 * b.length+1<=m+x.1/\R=pO l b n m x.1 acc/\acc.length<=n/\∀x∈acc,0<=x/\x<=320
 | .error e=>R= .error e
def PU (l:List Int)(b:List UInt8)(out:List UInt8)(at1:Nat)(acc:List Int)(t v:Int)(s:SV):Prop:=match s with
 | .ok x=>x.2=out/\iU l b at1 acc= .ok (v,t,x.1)/\t<=1000
 | .error e=>iU l b at1 acc= .error e
theorem SN {W:World}{p d at_ n:Nat}{l:List Int}{b out:List UInt8}{most:Int}(hl:l.length<=320)(hn:n<=1048576):
  Cn p_ 193 [.pointer (some ⟨p,0,none⟩),.pointer (some ⟨d,0,none⟩),.int .i64 (n:Int)] W [el p b most (.ok (at_,out)),cW d l] (fun q:(Option Addr × Nat) × Nat=> .slice q.1.1 q.2 q.1.2) (fun q=>[LR p b most out n q (KW l b n at_),cW d l]):=by
 (refine Shp.cn (Sg.g_ Tryz.call193 Tryz.func193 (an:={cuts:=[(20,[9,10]),(22,[])],loops:=[(2,[7]),(23,[7,11])]})) fun F=>?_;simp only[ca_,na_])
 obtain⟨R,hR⟩:∃R,R=KW l b n at_:=⟨_,rfl⟩
 rw[<- hR]
 refine xR .here fun hat0=>?_
 have retE:∀(e:Int),R= .error e->∀(qa:Option Addr) (qc k:Nat),aZ W (el p b most (.error e)::cW d l::F) (fun w=>∃x:(Option Addr × Nat) × Nat,(.slice qa k qc:Value)= .slice x.1.1 x.2 x.1.2/\sat W ([LR p b most out n x R,cW d l]++F) w):=by
  intro e he qa qc k
  refine aR ((qa,qc),k) rfl ?_
  rw[he]
  exact .refl
 refine a_ (fun m y=>(ex fun st:((Option Addr × Nat) × List Int) × SV=>all [pu (y= .slice st.1.1.1 st.1.2.length st.1.1.2/\PT l b n out R st.1.2 m st.2),Sl 1 3 st.1.1.1 st.1.1.2 st.1.2.length (st.1.2.map I),el p b most st.2])::cW d l::F) (8 * b.length+1-at_) ?_ ?_
 ·refine .ex (((none,0),[]),.ok (at_,out)) (.all ?_)
  refine aq ?_
  exact .pu ⟨rfl,rfl,by(try dsimp only);omega,hR,Nat.zero_le _,fun x hx=>by simp at hx⟩ (bR .refl)
 clear hR
 intro m ds y
 refine aH .here fun st=>ap .here (aG .here fun hi=>?_)
 obtain⟨⟨⟨qa,qc⟩,acc⟩,s⟩:=st
 refine aq ?_
 (try dsimp only at hi)
 (try dsimp only)
 obtain⟨rfl,hs⟩:=hi
 refine o_ aC (o_ az ?_)
 cases s with
 |error e=>
  have hR:R= .error e:=hs
  refine fN (.there .here) fun he=>?_
  by_cases c:(acc.length:Int)<(n:Int)
  ·rw[dT_ c]
   refine ae (ae (o_ au (ae (o_ cT (ae (bt cO ?_))))))
   refine ae (o_ aP (o_ ah ?_))
   rw[dF_ (p:=fM (.error e)=0) he]
   exact aa (bF aw (retE e hR qa qc _))
  ·rw[dF_ c]
   exact af (af (af (af (af (o_ ag (aa (bF aw (retE e hR qa qc _))))))))
 |ok x=>
  obtain⟨at1,o1⟩:=x
  obtain⟨ho,hm,hR,hal,hab⟩:=hs
  (try dsimp only at ho)
  (try dsimp only at hm)
  (try dsimp only at hR)
  subst ho
  refine xR (.there .here) fun hat=>?_
  obtain⟨m,rfl⟩:∃m',m=m'+1:=⟨m-1,by omega⟩
  rw[pO]at hR
  by_cases c:(acc.length:Int)<(n:Int)
  rotate_left
  ·rw[if_neg (show ¬acc.length<n by omega)]at hR
   rw[dF_ c]
   refine af (af (af (af (af (o_ ag (aa (aR ((qa,qc),acc.length) rfl ?_)))))))
   have han:acc.length=n:=by omega
   rw[hR]
   refine .all ?_
   refine aq ?_
   (try dsimp only)
   refine .pu ⟨han,han⟩ ?_
   rw[<- han]
   exact aw
  rw[if_pos (show acc.length<n by omega)]at hR
  rw[dT_ c]
  refine ae (ae (o_ au (ae (o_ cT (ae (bt cO ?_))))))
  refine ae (o_ aP (o_ ah ?_))
  rw[dT_ (p:=fM (.ok (at1,o1))=0) rfl]
  refine ab ?_
  have hM:iU l b at1 acc=iU l b at1 acc:=rfl
  conv at hM=>rhs;unfold iU
  simp only at hM
  refine c_ (Ft (s:= .ok (at1,o1)) (l:=l) (by omega)) fun _=>?_
  refine ja (fun z9 z10=>(ex fun st:(Int × Int) × SV=>all [pu (z9= .int .i64 st.1.1/\z10= .int .i64 st.1.2/\PU l b o1 at1 acc st.1.1 st.1.2 st.2),el p b most st.2])::Sl 1 3 qa qc acc.length (acc.map I)::cW d l::F) ?_ ?_
  rotate_left
  ·by_cases c0:(cM l b at1).2.1=0
   rotate_left
   ·rw[if_pos c0]at hM
    rw[hM]at hR
    rw[show sN l b (.ok (at1,o1))= .error (cM l b at1).2.1 from if_pos c0]
    refine o_ au (o_ cT (bt cO ?_))
    refine o_ bK ?_
    rw[dT_ (p:=fM (.error (cM l b at1).2.1)≠0) c0]
    exact ab (bF aw (retE _ hR none 0 0))
   rw[if_neg (not_not_intro c0)]at hM
   have hv:=im l b at1
   rw[show sN l b (.ok (at1,o1))= .ok ((cM l b at1).2.2,o1)from if_neg (not_not_intro c0),show vN l b (.ok (at1,o1))=(cM l b at1).1 from rfl]
   obtain⟨x,hx⟩:∃x,x=(cM l b at1).1:=⟨_,rfl⟩
   obtain⟨a2,ha2⟩:∃a2,a2=(cM l b at1).2.2:=⟨_,rfl⟩
   rw[<- hx]at hv
   rw[<- hx,<- ha2]at hM ⊢
   refine o_ au (o_ cT (bt cO ?_))
   refine o_ bK ?_
   rw[dF_ (p:=fM (.ok (a2,o1))≠0) (fun c=>c rfl)]
   refine aa (o_ aP ?_)
   have tk:∀(k:Nat) (base v:Int) (hb:0<=base/\base<=11) (hk:k<=7),iU l b at1 acc=(if bQ b a2 k≠0 then .error (bQ b a2 k)else .ok (v,base+(bE b a2 k:Int),aN b a2 k))->PU l b o1 at1 acc (base+vT b k (.ok (a2,o1))) v (sT b k (.ok (a2,o1))):=by
    intro k base v hb hk h
    rw[show vT b k (.ok (a2,o1))=(bE b a2 k:Int)from rfl]
    by_cases c:bQ b a2 k=0
    ·rw[if_neg (not_not_intro c)]at h
     rw[show sT b k (.ok (a2,o1))= .ok (aN b a2 k,o1)from if_neg (not_not_intro c)]
     have h7:=jN (b:=b) (at_:=a2) (k:=k)
     have:2^k<=2^7:=Nat.pow_le_pow_right (by omega) hk
     exact⟨rfl,h,by omega⟩
    ·rw[if_pos c]at h
     rw[show sT b k (.ok (a2,o1))= .error (bQ b a2 k)from if_pos c]
     exact h
   by_cases c16:x=16
   ·rw[if_pos c16]at hM
    rw[dT_ c16]
    refine ab (c_ (jx (k:=((2:Nat):Int)) (s:= .ok (a2,o1))) fun _=>?_)
    have hvb:=sW (b:=b) (k:=2) (s:= .ok (a2,o1))
    refine bG ?_
    refine o_ aC (o_ aP ?_)
    by_cases c3:(acc.length:Int)=0
    ·rw[dT_ c3]
     refine ab (c_ (lD (by decide)) fun _=>?_)
     have hF:∃e,sF (sT b ((2:Nat):Int) (.ok (a2,o1))) 30= .error e/\R= .error e:=by
      by_cases c:bQ b a2 2=0
      ·rw[if_neg (not_not_intro c),if_pos (show ¬0<acc.length by omega)]at hM
       rw[hM]at hR
       exact⟨30,by rw[show sT b ((2:Nat):Int) (.ok (a2,o1))= .ok (aN b a2 2,o1)from if_neg (not_not_intro c)];rfl,hR⟩
      ·rw[if_pos c]at hM
       rw[hM]at hR
       exact⟨bQ b a2 2,by rw[show sT b ((2:Nat):Int) (.ok (a2,o1))= .error (bQ b a2 2)from if_pos c];rfl,hR⟩
     obtain⟨e,hF1,hF2⟩:=hF
     rw[hF1]
     exact bF aw (retE e hF2 none 0 0)
    ·rw[dF_ c3]
     refine aa (dA (a:=qa) (by repeat constructor) (by omega) fun g hg=>?_)
     subst hg
     have hix:acc.length-1<acc.length:=by omega
     have ldl:bg p_ W [Sl 1 3 (some ⟨g,0,none⟩) qc acc.length (acc.map I)] (aI 3 (.pointer (some ⟨g,0+(acc.length-1),none⟩))) (.int .i64 (acc.getD (acc.length-1) 0)):=by
      rw[Nat.zero_add]
      refine cI ?_
      rw[List.getElem?_map,List.getElem?_eq_getElem hix,List.getD_eq_getElem?_getD,List.getElem?_eq_getElem hix];rfl
     refine o_ aC (dX ?_)
     refine o_ (bj (acc.length-1) (by omega) hix) ?_
     refine bt ldl ?_
     refine aD (.ex ((3+vT b ((2:Nat):Int) (.ok (a2,o1)),acc.getD (acc.length-1) 0),sT b ((2:Nat):Int) (.ok (a2,o1))) (.all ?_))
     refine aq ?_
     refine .pu ⟨rfl,rfl,tk 2 3 _ (by omega) (by omega) ?_⟩ aw
     rw[hM]
     rw[if_neg (show ¬ ¬0<acc.length by omega)]
     rfl
   rw[if_neg c16]at hM
   rw[dF_ c16]
   refine aa (o_ aP ?_)
   by_cases c17:x=17
   ·rw[if_pos c17]at hM
    rw[dT_ c17]
    refine ab (c_ (jx (k:=((3:Nat):Int)) (s:= .ok (a2,o1))) fun _=>?_)
    have hvb:=sW (b:=b) (k:=3) (s:= .ok (a2,o1))
    refine bG ?_
    refine aD (.ex ((3+vT b ((3:Nat):Int) (.ok (a2,o1)),0),sT b ((3:Nat):Int) (.ok (a2,o1))) (.all ?_))
    refine aq ?_
    exact .pu ⟨rfl,rfl,tk 3 3 _ (by omega) (by omega) hM⟩ aw
   rw[if_neg c17]at hM
   rw[dF_ c17]
   refine aa (o_ aP ?_)
   by_cases c18:x=18
   ·rw[if_pos c18]at hM
    rw[dT_ c18]
    refine ab (c_ (jx (k:=((7:Nat):Int)) (s:= .ok (a2,o1))) fun _=>?_)
    have hvb:=sW (b:=b) (k:=7) (s:= .ok (a2,o1))
    refine bG ?_
    refine aD (.ex ((11+vT b ((7:Nat):Int) (.ok (a2,o1)),0),sT b ((7:Nat):Int) (.ok (a2,o1))) (.all ?_))
    refine aq ?_
    exact .pu ⟨rfl,rfl,tk 7 11 _ (by omega) (by omega) hM⟩ aw
   rw[if_neg c18]at hM
   rw[dF_ c18]
   refine aa (aD (.ex ((1,x),.ok (a2,o1)) (.all ?_)))
   refine aq ?_
   exact .pu ⟨rfl,rfl,rfl,hM,by(try dsimp only);omega⟩ aw
  intro ds2 z9 z10
  refine aH .here fun st=>ap .here (aG .here fun hz=>?_)
  obtain⟨⟨t,v⟩,s1⟩:=st
  refine aq ?_
  (try dsimp only at hz)
  (try dsimp only)
  obtain⟨rfl,rfl,hrun⟩:=hz
  clear hM
  obtain⟨s2,hs2⟩:∃s2,s2=sC s1 (fun _=>(n:Int)-(acc.length:Int)<t) 30:=⟨_,rfl⟩
  refine cP (el p b most s2::Sl 1 3 qa qc acc.length (acc.map I)::cW d l::F) ?_ ?_
  rotate_left
  ·refine o_ au (o_ cT (bt cO ?_))
   refine o_ aP ?_
   cases s1 with
   |ok x=>
    rw[dT_ (p:=fM (.ok x)=0) rfl]
    refine ae (ae (ae (ae (o_ aC (ae (dX ?_))))))
    refine ae (o_ aV (o_ ah ?_))
    by_cases c:(n:Int)-(acc.length:Int)<t
    ·rw[dT_ c]
     refine ab (c_ (lD (by decide)) fun _=>?_)
     rw[show sF (.ok x) 30=s2 by rw[hs2];exact(if_pos c).symm]
     exact aD .refl
    ·rw[dF_ c]
     refine aa ?_
     rw[show(.ok x:SV)=s2 by rw[hs2];exact(if_neg c).symm]
     exact aD .refl
   |error e=>
    refine fN .here fun he=>?_
    rw[dF_ (p:=fM (.error e)=0) he]
    refine af (af (af (af (af (af (o_ ag (aa ?_)))))))
    rw[show(.error e:SV)=s2 by rw[hs2];rfl]
    exact aD .refl
  intro ds3
  cases hx2:s2 with
  |error e=>
   have hR2:R= .error e:=by
    rw[hx2]at hs2
    cases s1 with
    |ok x=>
     obtain⟨_,hr,_⟩:=hrun
     rw[hr]at hR
     unfold sC at hs2
     by_cases c:(n:Int)-(acc.length:Int)<t
     ·simp only[c,if_true]at hs2
      cases hs2
      rw[hR]
      exact if_pos (by omega)
     ·simp only[c,if_false]at hs2;cases hs2
    |error e1=>
     have:e=e1:=Except.error.inj hs2
     rw[this]
     have hr:iU l b at1 acc= .error e1:=hrun
     rw[hr]at hR
     exact hR
   refine fN .here fun he=>?_
   refine bI (fun m x y=>pu (x= .slice qa acc.length qc/\y= .int .i64 0)::el p b most (.error e)::Sl 1 3 qa qc acc.length (acc.map I)::cW d l::F) 0 (.pu ⟨rfl,rfl⟩ .refl) ?_
   intro m2 ds4 x y
   refine aG .here fun hxy=>?_
   obtain⟨rfl,rfl⟩:=hxy
   have nx:aZ W (el p b most (.error e)::Sl 1 3 qa qc acc.length (acc.map I)::cW d l::F) (iD (fun m y w=>sat W ((ex fun st:((Option Addr × Nat) × List Int) × SV=>all [pu (y= .slice st.1.1.1 st.1.2.length st.1.1.2/\PT l b n o1 R st.1.2 m st.2),Sl 1 3 st.1.1.1 st.1.1.2 st.1.2.length (st.1.2.map I),el p b most st.2])::cW d l::F) w) (m+1) (.slice qa acc.length qc)):=by
    refine aK m (by omega) (.ex (((qa,qc),acc),.error e) (.all ?_))
    refine aq ?_
    exact .pu ⟨rfl,hR2⟩ aw
   refine ay az .nil (fun h=>?_) (fun h=>?_)
   ·refine ae (ae (o_ au (ae (o_ cT (ae (bt cO ?_))))))
    refine ae (o_ aP (o_ ah ?_))
    rw[dF_ (p:=fM (.error e)=0) he]
    exact aa nx
   ·(refine af ?_);refine af ?_;refine af ?_;refine af ?_;refine af ?_;refine o_ ag ?_;refine aa ?_
    exact nx
  |ok x2=>
   have hall:x2.2=o1/\t<=(n:Int)-(acc.length:Int)/\iU l b at1 acc= .ok (v,t,x2.1):=by
    rw[hx2]at hs2
    cases s1 with
    |ok x=>
     obtain⟨ho,hr,_⟩:=hrun
     unfold sC at hs2
     by_cases c:(n:Int)-(acc.length:Int)<t
     ·simp only[c,if_true]at hs2;cases hs2
     ·simp only[c,if_false]at hs2
      cases hs2
      exact⟨ho,by omega,hr⟩
    |error e1=>cases hs2
   obtain⟨a4,o4⟩:=x2
   obtain⟨ho4,htn,hrun2⟩:=hall
   (try dsimp only at ho4)
   (try dsimp only at hrun2)
   subst ho4
   have hro:=u_ (B:=320) hrun2 hab (by omega)
   rw[hrun2]at hR
   simp only at hR
   rw[if_neg (not_not_intro htn)]at hR
   obtain⟨N,rfl⟩:=Int.eq_ofNat_of_zero_le (show 0<=t by omega)
   refine bI (fun m x y=>(ex fun st:(Option Addr × Nat) × Nat=>all [pu (m+st.2=N/\x= .slice st.1.1 (acc.length+st.2) st.1.2/\y= .int .i64 (st.2:Int)),Sl 1 3 st.1.1 st.1.2 (acc.length+st.2) ((acc++List.replicate st.2 v).map I)])::el p b most (.ok (a4,o4))::cW d l::F) N ?_ ?_
   ·refine .ex ((qa,qc),0) (.all ?_)
    refine aq ?_
    refine .pu ⟨rfl,rfl,rfl⟩ ?_
    rw[List.replicate_zero,List.append_nil]
    exact aw
   intro m2 ds4 x y
   refine aH .here fun st=>ap .here (aG .here fun hi=>?_)
   obtain⟨⟨ra,rc⟩,i⟩:=st
   refine aq ?_
   (try dsimp only at hi)
   (try dsimp only)
   obtain⟨hmi,rfl,rfl⟩:=hi
   refine ay az .nil (fun h=>?_) (fun h=>?_)
   ·refine ae (ae (o_ au (ae (o_ cT (ae (bt cO ?_))))))
    refine ae (o_ aP (o_ ah ?_))
    rw[dT_ (p:=fM (.ok (a4,o4))=0) rfl]
    refine ab (eI fun g=>?_)
    refine bO (m:=1) (news:=[I v]) (by repeat constructor) (cA (e':=3) (by kernel_rfl) .here (by rfl) (mO (l:=[v]))) (by omega) (by omega) fun a' c'=>?_
    refine bG ?_
    refine bo (m2-1) (by omega) (.ex ((a',c'),i+1) (.all ?_))
    refine aq ?_
    refine .pu ⟨by(try dsimp only);omega,rfl,rfl⟩ ?_
    (try dsimp only)
    rw[List.replicate_succ',<- List.append_assoc,List.map_append (l₁:=acc++List.replicate i v),<- Nat.add_assoc]
    exact .pick (by repeat constructor) aw
   ·have hiN:i=N:=by omega
    subst hiN
    refine af (af (af (af (af (o_ ag (aa ?_))))))
    have e1:acc.length+i=(acc++List.replicate i v).length:=by simp
    rw[e1]
    refine aK m (by omega) (.ex (((ra,rc),acc++List.replicate i v),.ok (a4,o4)) (.all ?_))
    refine aq ?_
    (try dsimp only)
    refine .pu ⟨rfl,rfl,by(try dsimp only);omega,by rw[hR,Int.toNat_natCast],by rw[<- e1];omega,qd hab ⟨hro.1,hro.2.1⟩⟩ aw
theorem Fx:∀l:List Int,(wk l 15:Int)<=16384 * dL l
 |[]=>by simp[wk,dL]
 |x::l=>by
  have ih:=Fx l
  simp only[wk,dL]
  by_cases c:0<x/\x<=((15:Nat):Int)
  ·rw[if_pos c,if_pos c.1]
   have h:2^(15-x.toNat)<=2^14:=Nat.pow_le_pow_right (by omega) (by omega)
   have e:2^14=16384:=rfl
   rw[e]at h
   generalize 2^(15-x.toNat)=Z at h ⊢
   push_cast
   omega
  ·rw[if_neg c]
   split <;> omega
theorem ue {l:List Int}(h:bY l=true)(hl:l.length<=320)(hin:vR l):okL l:=by
 unfold bY at h
 rw[Bool.or_eq_true,Bool.or_eq_true,Bool.and_eq_true]at h
 have hw:=Fx l
 rcases h with (h|h)|h
 ·have:=of_decide_eq_true h
  exact nl.2 ⟨hl,hin,by omega⟩
 ·have:=of_decide_eq_true h.1
  exact nl.2 ⟨hl,hin,by omega⟩
 ·unfold fq at h
  rw[Bool.and_eq_true]at h
  exact of_decide_eq_true h.1
theorem Fy (l:List Int)(b:List UInt8):∀f n c at_,(rh l b f n c at_).2.1=0->(rh l b f n c at_).1<l.length
 |0,n,c,at_,h=>by simp[rh]at h
 |f+1,n,c,at_,h=>by
  unfold rh at h ⊢
  split at h
  ·rename_i h1
   rw[if_pos h1]
   cases hf:fL l ((n+1:Nat):Int) ((2 * c+bE b at_ 1:Nat):Int) l.length with
   |some i=>have:=(nn hf).1;simp only;omega
   |none=>
    rw[hf]at h
    simp only at h ⊢
    exact Fy l b f _ _ _ h
  ·rename_i h1
   exact absurd h h1
theorem LS {l:List Int}{b:List UInt8}{at_:Nat}(h:(cM l b at_).2.1=0):(cM l b at_).1<l.length:=by
 unfold cM at h ⊢
 split at h
 ·rename_i h1
  rw[if_pos h1]
  exact Fy l b 15 0 0 at_ h
 ·cases h
theorem LT {l:List Int}{b:List UInt8}{at_:Nat}{acc:List Int}{v t:Int}{a:Nat}(h:iU l b at_ acc= .ok (v,t,a))(h0:vR acc)(hl:l.length=19):0<=v/\v<=15:=by
 have ho:∀ {v' t':Int} {a':Nat},(Except.ok (v',t',a'):Except Int (Int × Int × Nat))= .ok (v,t,a)->v'=v:=fun e=>(Prod.mk.inj (Except.ok.inj e)).1
 unfold iU at h
 simp only at h
 obtain⟨c0,h⟩:=aQ h
 have hlt:=LS (Decidable.not_not.1 c0)
 have hv:=im l b at_
 by_cases c1:(cM l b at_).1=16
 ·rw[if_pos c1]at h
  obtain⟨_,h⟩:=aQ h
  obtain⟨c2,h⟩:=aQ h
  rw[<- ho h]
  have c3:acc.length-1<acc.length:=by omega
  have hm:=h0 _ (List.getElem_mem c3)
  rw[List.getD_eq_getElem?_getD,List.getElem?_eq_getElem c3]
  exact hm
 rw[if_neg c1]at h
 by_cases c2:(cM l b at_).1=17
 ·rw[if_pos c2]at h
  obtain⟨_,h⟩:=aQ h
  rw[<- ho h];omega
 rw[if_neg c2]at h
 by_cases c3:(cM l b at_).1=18
 ·rw[if_pos c3]at h
  obtain⟨_,h⟩:=aQ h
  rw[<- ho h];omega
 rw[if_neg c3]at h
 rw[<- ho h];omega
theorem Fz {l:List Int}{b:List UInt8}{n:Nat}(hl:l.length=19):∀(f:Nat) {at_:Nat} {acc:List Int} {a:Nat} {r:List Int},pO l b n f at_ acc= .ok (a,r)->acc.length<=n->vR acc->r.length=n/\vR r
 |0,_,_,_,_,h,_,_=>by cases h
 |f+1,at_,acc,a,r,h,h1,h0=>by
  rw[pO]at h
  by_cases c:acc.length<n
  ·rw[if_pos c]at h
   cases hr:iU l b at_ acc with
   |error e=>rw[hr]at h;cases h
   |ok q=>
    obtain⟨v,t,a1⟩:=q
    rw[hr]at h
    simp only at h
    obtain⟨c1,h⟩:=aQ h
    have ho:=LT hr h0 hl
    refine Fz hl f h ?_ (qd h0 ho)
    rw[List.length_append,List.length_replicate];omega
  ·rw[if_neg c]at h
   have:=Prod.mk.inj (Except.ok.inj h)
   rw[<- this.2]
   exact⟨by omega,h0⟩
abbrev DZ:=Except Int ((Nat × Nat × Nat) × (List Int × List Int))
def PV (p:Nat)(b:List UInt8)(most:Int)(out:List UInt8)(R:SV)(q:((Option Addr × Nat) × Nat) × ((Option Addr × Nat) × Nat))(z:DZ):HP:=match z with
 | .error e=>all [pu (R= .error e),el p b most (.error e)]
 | .ok z=>all [pu (R=mS z.2.1 z.2.2 b most z.1.1 out/\okL z.2.1/\okL z.2.2/\0<z.2.1.length/\0<z.2.2.length/\q=(((some ⟨z.1.2.1,0,none⟩,z.1.2.2),z.2.1.length),((some ⟨z.1.2.1,z.2.1.length,none⟩,z.1.2.2-z.2.1.length),z.2.2.length))),Sl 1 3 (some ⟨z.1.2.1,0,none⟩) z.1.2.2 (z.2.1.length+z.2.2.length) ((z.2.1++z.2.2).map I),el p b most (.ok (z.1.1,out))]
def SO (b:List UInt8)(K:Nat)(out:List UInt8)(M:Except Int (Nat × List Int))(i:Nat)(l:List Int)(s:SV):Prop:=match s with
 | .ok x=>x.2=out/\M=B9 b ((gO.take K).drop i) x.1 l/\l.length=19
 | .error e=>M= .error e/\l.length=19
def PW (b:List UInt8)(most:Int)(out:List UInt8)(R:SV)(nh nd nc:Int)(s:SV):Prop:=match s with
 | .ok x=>x.2=out/\nh<=29/\nd<=29/\R=(match B9 b (gO.take (nc.toNat+4)) x.1 (List.replicate 19 0)with
  | .error e=> .error e
  | .ok (a4,l)=>if ¬fq l=true then .error 30 else tM b most (nh.toNat+257) (nh.toNat+257+nd.toNat+1) l a4 out)
 | .error e=>R= .error e
theorem FA {W:World}{p at_:Nat}{b out:List UInt8}{most:Int}(h1:0<=most/\most<=1048576)(h2:(out.length:Int)<=most):
  Cn p_ 147 [.pointer (some ⟨p,0,none⟩)] W [el p b most (.ok (at_,out))] (fun q:((Option Addr × Nat) × Nat) × ((Option Addr × Nat) × Nat)=> .tuple #[.slice q.1.1.1 q.1.2 q.1.1.2,.slice q.2.1.1 q.2.2 q.2.1.2]) (fun q=>[ex fun z=>PV p b most out (pP b most at_ out) q z]):=by
 (refine Shp.cn (Sg.g_ Tryz.call147 Tryz.func147 (an:={cuts:=[(6,[]),(14,[]),(22,[])],loops:=[(9,[9])],drs:=[(11,.ofL [(0,2),(1,2),(2,2),(3,3),(4,3),(5,1),(6,0),(7,1),(8,0)]),(22,.ofL [(0,1),(1,1),(2,1),(3,1),(4,1),(5,1),(6,1),(7,1),(8,1),(9,1)])]}) (os:=[(11,[(6,[4,3])])])) fun F=>?_;simp only[ca_,na_])
 obtain⟨R,hR⟩:∃R,R=pP b most at_ out:=⟨_,rfl⟩
 rw[<- hR]
 unfold pP at hR
 have retE:∀(e:Int) (L:List HP),R= .error e->Imp W L (el p b most (.error e)::F)->∀(a1 a2:Option Addr) (c1 n1 c2 n2:Nat),aZ W L (fun w=>∃q:((Option Addr × Nat) × Nat) × ((Option Addr × Nat) × Nat),(.tuple #[.slice a1 n1 c1,.slice a2 n2 c2]:Value)= .tuple #[.slice q.1.1.1 q.1.2 q.1.1.2,.slice q.2.1.1 q.2.2 q.2.1.2]/\sat W ([ex fun z=>PV p b most out R q z]++F) w):=by
  intro e L he hi a1 a2 c1 n1 c2 n2
  refine bF hi ?_
  refine aR (((a1,c1),n1),((a2,c2),n2)) rfl ?_
  refine .ex (.error e) (.all ?_)
  refine aq ?_
  exact .pu he .refl
 refine c_ (jx (k:=((5:Nat):Int)) (s:= .ok (at_,out))) fun _=>?_
 have hh:=sW (b:=b) (k:=5) (s:= .ok (at_,out))
 obtain⟨s1,hs1⟩:∃s,s=sT b ((5:Nat):Int) (.ok (at_,out)):=⟨_,rfl⟩
 obtain⟨nh,hnh⟩:∃s,s=vT b ((5:Nat):Int) (.ok (at_,out)):=⟨_,rfl⟩
 rw[<- hs1,<- hnh]
 rw[<- hnh]at hh
 refine c_ (jx (k:=((5:Nat):Int)) (s:=s1)) fun _=>?_
 have hd:=sW (b:=b) (k:=5) (s:=s1)
 obtain⟨s2,hs2⟩:∃s,s=sT b ((5:Nat):Int) s1:=⟨_,rfl⟩
 obtain⟨nd,hnd⟩:∃s,s=vT b ((5:Nat):Int) s1:=⟨_,rfl⟩
 rw[<- hs2,<- hnd]
 rw[<- hnd]at hd
 refine c_ (jx (k:=((4:Nat):Int)) (s:=s2)) fun _=>?_
 have hc:=sW (b:=b) (k:=4) (s:=s2)
 obtain⟨s3,hs3⟩:∃s,s=sT b ((4:Nat):Int) s2:=⟨_,rfl⟩
 obtain⟨nc,hnc⟩:∃s,s=vT b ((4:Nat):Int) s2:=⟨_,rfl⟩
 rw[<- hs3,<- hnc]
 rw[<- hnc]at hc
 obtain⟨s4,hs4⟩:∃s4,s4=sC s3 (fun _=>29<nh\/29<nd) 31:=⟨_,rfl⟩
 refine cP (el p b most s4::F) ?_ ?_
 rotate_left
 ·refine o_ au (o_ cT (bt cO ?_))
  refine o_ aP ?_
  clear hs3
  cases s3 with
  |ok x=>
   rw[dT_ (p:=fM (.ok x)=0) rfl]
   refine ae (ae (o_ aV ?_))
   have mh:(29<nh\/29<nd)->aZ W (el p b most (.ok x)::F) (opN p_ (bN (fn 148) [.pointer (some ⟨p,0,none⟩),.int .i64 31]) gH fun _ w=>sat W (el p b most s4::F) w):=by
    intro c
    refine c_ (lD (by decide)) fun _=>?_
    rw[show sF (.ok x) 31=s4 by rw[hs4];exact(if_pos c).symm]
    exact fun w hw=>hw
   by_cases c1:29<nh
   ·rw[dT_ c1]
    exact ae (ao (ao (ae (o_ ah (o_ ah (ab (mh (.inl c1))))))))
   ·rw[dF_ c1]
    refine ae (ae (ae (o_ aV ?_)))
    by_cases c2:29<nd
    ·rw[dT_ c2]
     exact ae (o_ ag (o_ ah (ab (mh (.inr c2)))))
    ·rw[dF_ c2]
     refine ae (o_ ag (o_ ah (aa ?_)))
     rw[show(.ok x:SV)=s4 by rw[hs4];exact(if_neg (fun c=>c.elim c1 c2)).symm]
     exact aD .refl
  |error e=>
   refine fN .here fun he=>?_
   rw[dF_ (p:=fM (.error e)=0) he]
   refine af (af (af (dg (dg (af (o_ ag (aa ?_)))))))
   rw[show(.error e:SV)=s4 by rw[hs4];rfl]
   exact aD .refl
 intro ds
 have h4:PW b most out R nh nd nc s4:=by
  by_cases c1:bQ b at_ 5=0
  rotate_left
  ·rw[if_pos c1]at hR
   rw[hs4,hs3,hs2,hs1,show sT b ((5:Nat):Int) (.ok (at_,out))= .error (bQ b at_ 5)from if_pos c1]
   exact hR
  rw[if_neg (not_not_intro c1)]at hR
  rw[show sT b ((5:Nat):Int) (.ok (at_,out))= .ok (aN b at_ 5,out)from if_neg (not_not_intro c1)]at hs1
  rw[show vT b ((5:Nat):Int) (.ok (at_,out))=(bE b at_ 5:Int)from rfl]at hnh
  obtain⟨N1,hN1⟩:∃n,n=bE b at_ 5:=⟨_,rfl⟩
  rw[<- hN1]at hnh hR
  subst hnh
  obtain⟨t1,ht1⟩:∃t,t=aN b at_ 5:=⟨_,rfl⟩
  rw[<- ht1]at hs1 hR
  rw[hs1]at hs2 hnd
  by_cases c2:bQ b t1 5=0
  rotate_left
  ·rw[if_pos c2]at hR
   rw[hs4,hs3,hs2,show sT b ((5:Nat):Int) (.ok (t1,out))= .error (bQ b t1 5)from if_pos c2]
   exact hR
  rw[if_neg (not_not_intro c2)]at hR
  rw[show sT b ((5:Nat):Int) (.ok (t1,out))= .ok (aN b t1 5,out)from if_neg (not_not_intro c2)]at hs2
  rw[show vT b ((5:Nat):Int) (.ok (t1,out))=(bE b t1 5:Int)from rfl]at hnd
  obtain⟨N2,hN2⟩:∃n,n=bE b t1 5:=⟨_,rfl⟩
  rw[<- hN2]at hnd hR
  subst hnd
  obtain⟨t2,ht2⟩:∃t,t=aN b t1 5:=⟨_,rfl⟩
  rw[<- ht2]at hs2 hR
  rw[hs2]at hs3 hnc
  by_cases c3:bQ b t2 4=0
  rotate_left
  ·rw[if_pos c3]at hR
   rw[hs4,hs3,show sT b ((4:Nat):Int) (.ok (t2,out))= .error (bQ b t2 4)from if_pos c3]
   exact hR
  rw[if_neg (not_not_intro c3)]at hR
  rw[show sT b ((4:Nat):Int) (.ok (t2,out))= .ok (aN b t2 4,out)from if_neg (not_not_intro c3)]at hs3
  rw[show vT b ((4:Nat):Int) (.ok (t2,out))=(bE b t2 4:Int)from rfl]at hnc
  obtain⟨N3,hN3⟩:∃n,n=bE b t2 4:=⟨_,rfl⟩
  rw[<- hN3]at hnc hR
  subst hnc
  obtain⟨t3,ht3⟩:∃t,t=aN b t2 4:=⟨_,rfl⟩
  rw[<- ht3]at hs3 hR
  rw[hs4,hs3]
  by_cases c4:N1<=29/\N2<=29
  ·rw[if_neg (not_not_intro c4)]at hR
   rw[show sC (.ok (t3,out)) (fun _=>29<(N1:Int)\/29<(N2:Int)) 31= .ok (t3,out)from if_neg (by omega)]
   exact⟨rfl,by omega,by omega,hR⟩
  ·rw[if_pos c4]at hR
   rw[show sC (.ok (t3,out)) (fun _=>29<(N1:Int)\/29<(N2:Int)) 31= .error 31 from if_pos (by omega)]
   exact hR
 clear hs4 hs3 hs2 hs1 hR hnh hnd hnc
 refine ep 19 19 (by rfl) (by rfl) (by omega) (by omega) (by decide) fun gl=>?_
 refine c_ LO fun _=>?_
 rename_i go
 cases hx4:s4 with
 |error e=>
  rw[hx4]at h4
  have he4:R= .error e:=h4
  refine fN (.there (.there .here)) fun he=>?_
  refine a_ (fun m y=>pu (y= .int .i64 0)::el p b most (.error e)::F) 0 (.pu rfl aw) ?_
  intro m ds y
  refine aG .here fun hy=>?_
  subst hy
  refine bG ?_
  refine o_ az ?_
  rw[dT_ (by omega)]
  refine ae (ae (o_ au (ae (o_ cT (ae (bt cO ?_))))))
  refine ae (o_ aP (o_ ah ?_))
  rw[dF_ (p:=fM (.error e)=0) he]
  refine aa (cP (el p b most (.error e)::F) ?_ ?_)
  ·intro ds
   refine o_ au (o_ cT (bt cO ?_))
   refine o_ bK ?_
   rw[dT_ (p:=fM (.error e)≠0) he]
   exact ab (retE e _ he4 .refl none none 0 0 0 0)
  ·refine o_ au (o_ cT (bt cO ?_))
   refine o_ aP ?_
   rw[dF_ (p:=fM (.error e)=0) he]
   exact af (af (af (o_ ag (aa (aD .refl)))))
 |ok x=>
 rw[hx4]at h4
 obtain⟨a3,o3⟩:=x
 obtain⟨ho,hq1,hq2,hR⟩:=h4
 (try dsimp only at ho)
 (try dsimp only at hR)
 subst ho
 obtain⟨H,rfl⟩:=Int.eq_ofNat_of_zero_le hh.1
 obtain⟨D,rfl⟩:=Int.eq_ofNat_of_zero_le hd.1
 obtain⟨C,rfl⟩:=Int.eq_ofNat_of_zero_le hc.1
 rw[Int.toNat_natCast,Int.toNat_natCast,Int.toNat_natCast]at hR
 obtain⟨K,hK⟩:∃K,K=C+4:=⟨_,rfl⟩
 rw[<- hK]at hR
 have hK19:K<=19:=by omega
 obtain⟨M,hM⟩:∃M,M=B9 b (gO.take K) a3 (List.replicate 19 0):=⟨_,rfl⟩
 rw[<- hM]at hR
 refine a_ (fun m y=>(ex fun st:(Nat × List Int) × SV=>all [pu (m+st.1.1=K/\y= .int .i64 (st.1.1:Int)/\SO b K o3 M st.1.1 st.1.2 st.2),Sl 1 3 (some ⟨gl,0,none⟩) 19 19 (st.1.2.map I),el p b most st.2])::pt go (.cells (((gO.map fun n:Nat=>(n:Int)).map I)).toArray 3 (0,0))::F) K ?_ ?_
 ·refine .ex ((0,List.replicate 19 0),.ok (a3,o3)) (.all ?_)
  refine aq ?_
  refine .pu ⟨by omega,rfl,rfl,hM,by simp⟩ ?_
  rw[List.map_replicate]
  exact .pick (by repeat constructor) aw
 clear hM
 intro m ds y
 refine aH .here fun st=>ap .here (aG .here fun hi=>?_)
 obtain⟨⟨i,l⟩,s⟩:=st
 refine aq ?_
 (try dsimp only at hi)
 (try dsimp only)
 obtain⟨hmi,rfl,hs⟩:=hi
 refine bG ?_
 refine o_ az ?_
 cases s with
 |error e=>
  obtain⟨hs,hl19⟩:=hs
  rw[hs]at hR
  have he4:R= .error e:=hR
  refine fN (.there .here) fun he=>?_
  refine bF (M:=el p b most (.error e)::F) aw ?_
  by_cases c:(i:Int)<(C:Int)+4
  ·rw[dT_ c]
   refine ae (ae (o_ au (ae (o_ cT (ae (bt cO ?_))))))
   refine ae (o_ aP (o_ ah ?_))
   rw[dF_ (p:=fM (.error e)=0) he]
   refine aa (cP (el p b most (.error e)::F) ?_ ?_)
   ·intro ds
    refine o_ au (o_ cT (bt cO ?_))
    refine o_ bK ?_
    rw[dT_ (p:=fM (.error e)≠0) he]
    exact ab (retE e _ he4 .refl none none 0 0 0 0)
   ·refine o_ au (o_ cT (bt cO ?_))
    refine o_ aP ?_
    rw[dF_ (p:=fM (.error e)=0) he]
    exact af (af (af (o_ ag (aa (aD .refl)))))
  ·rw[dF_ c]
   refine af (af (af (af (af (o_ ag (aa (cP (el p b most (.error e)::F) ?_ ?_)))))))
   ·intro ds
    refine o_ au (o_ cT (bt cO ?_))
    refine o_ bK ?_
    rw[dT_ (p:=fM (.error e)≠0) he]
    exact ab (retE e _ he4 .refl none none 0 0 0 0)
   ·refine o_ au (o_ cT (bt cO ?_))
    refine o_ aP ?_
    rw[dF_ (p:=fM (.error e)=0) he]
    exact af (af (af (o_ ag (aa (aD .refl)))))
 |ok x=>
 obtain⟨at1,o1⟩:=x
 obtain⟨ho,hM,hl19⟩:=hs
 (try dsimp only at ho)
 (try dsimp only at hM)
 subst ho
 by_cases c:(i:Int)<(C:Int)+4
 ·have hiK:i<K:=by omega
  have hog:(gO.take K).drop i=gO.getD i 0::(gO.take K).drop (i+1):=by
   have cL:i<(gO.take K).length:=by rw[List.length_take,show gO.length=19 from rfl];omega
   rw[List.drop_eq_getElem_cons cL,List.getElem_take,List.getD_eq_getElem?_getD,List.getElem?_eq_getElem]
   rfl
  rw[hog,B9]at hM
  obtain⟨o,hoE⟩:∃o,o=gO.getD i 0:=⟨_,rfl⟩
  rw[<- hoE]at hM
  have hov:(((gO.map fun n:Nat=>(n:Int)).map I)).toArray[0+i]? =some (.int .i64 (o:Int))/\o<19:=by
   rw[hoE]
   have:i=0\/i=1\/i=2\/i=3\/i=4\/i=5\/i=6\/i=7\/i=8\/i=9\/i=10\/i=11\/i=12\/i=13\/i=14\/i=15\/i=16\/i=17\/i=18:=by omega
   rcases this with rfl|rfl|rfl|rfl|rfl|rfl|rfl|rfl|rfl|rfl|rfl|rfl|rfl|rfl|rfl|rfl|rfl|rfl|rfl <;> exact⟨rfl,by decide⟩
  rw[dT_ c]
  refine ae (ae (o_ au (ae (o_ cT (ae (bt cO ?_))))))
  refine ae (o_ aP (o_ ah ?_))
  rw[dT_ (p:=fM (.ok (at1,o1))=0) rfl]
  refine ab (bA (bh (bj i (by rfl) (by omega)) .nil ?_))
  refine bh (e_ hov.1) (.pick (by repeat constructor) .nil) ?_
  refine c_ (jx (k:=((3:Nat):Int)) (s:= .ok (at1,o1))) fun _=>?_
  refine bZ aw ?_
  refine bZ aw ?_
  refine t_ (bj o (by rfl) hov.2) ?_
  rw[Nat.zero_add]
  refine fZ (by repeat constructor) (by rw[List.length_map];omega) ?_
  refine bG ?_
  refine aK (m-1) (by omega) (.ex ((i+1,l.set o (vT b ((3:Nat):Int) (.ok (at1,o1)))),sT b ((3:Nat):Int) (.ok (at1,o1))) (.all ?_))
  refine aq ?_
  (try dsimp only)
  refine .pu ⟨by omega,rfl,?_⟩ ?_
  ·by_cases c3:bQ b at1 3=0
   ·rw[if_neg (not_not_intro c3)]at hM
    rw[show sT b ((3:Nat):Int) (.ok (at1,o1))= .ok (aN b at1 3,o1)from if_neg (not_not_intro c3)]
    exact⟨rfl,hM,by rw[List.length_set];omega⟩
   ·rw[if_pos c3]at hM
    rw[show sT b ((3:Nat):Int) (.ok (at1,o1))= .error (bQ b at1 3)from if_pos c3]
    exact⟨hM,by rw[List.length_set];omega⟩
  ·rw[List.map_set]
   exact .pick (by repeat constructor) aw
 have hiK:i=K:=by omega
 subst hiK
 rw[List.drop_eq_nil_of_le (by rw[List.length_take];omega),B9]at hM
 rw[hM]at hR
 simp only at hR
 rw[dF_ c]
 refine bF (M:=el p b most (.ok (at1,o1))::Sl 1 3 (some ⟨gl,0,none⟩) 19 19 (l.map I)::F) aw ?_
 have hsl:RdB W (Sl 1 3 (some ⟨gl,0,none⟩) 19 19 (l.map I)) (some ⟨gl,0,none⟩) l.length (l.map I):=by
  rw[hl19];exact cq (by rw[List.length_map,hl19]) (fun _=>⟨gl,rfl⟩)
 rw[show(Value.slice (some ⟨gl,0,none⟩) 19 19)= .slice (some ⟨gl,0,none⟩) l.length 19 by rw[hl19]]
 refine af (af (af (af (af (o_ ag (aa ?_))))))
 obtain⟨s5,hs5⟩:∃s5:SV,s5=if fq l=true then .ok (at1,o1)else .error 30:=⟨_,rfl⟩
 refine cP (el p b most s5::Sl 1 3 (some ⟨gl,0,none⟩) 19 19 (l.map I)::F) ?_ ?_
 rotate_left
 ·refine o_ au (o_ cT (bt cO ?_))
  refine o_ aP ?_
  rw[dT_ (p:=fM (.ok (at1,o1))=0) rfl]
  refine ae (ae (c_ (uY hsl (by omega)) fun _=>?_))
  cases hf:fq l with
  |true=>
   rw[hf,if_pos rfl]at hs5
   refine ae (o_ dJ (o_ ah (aa ?_)))
   rw[hs5]
   exact aD aw
  |false=>
   rw[hf,if_neg (by decide)]at hs5
   refine ae (o_ dh (o_ ah (ab (c_ (lD (by decide)) fun _=>?_))))
   rw[hs5]
   exact aD aw
 intro ds
 refine o_ au (o_ cT (bt cO ?_))
 refine o_ bK ?_
 cases hf:fq l with
 |false=>
  rw[hf,if_neg (by decide)]at hs5
  rw[hf,if_pos (by decide)]at hR
  rw[hs5,dT_ (p:=fM (.error 30)≠0) (by decide)]
  exact ab (retE 30 _ hR aw none none 0 0 0 0)
 |true=>
 rw[hf,if_pos rfl]at hs5
 rw[hf,if_neg (by decide)]at hR
 rw[hs5,dF_ (p:=fM (.ok (at1,o1))≠0) (fun c=>c rfl)]
 refine aa ?_
 have hokl:okL l:=by
  unfold fq at hf
  rw[Bool.and_eq_true]at hf
  exact of_decide_eq_true hf.1
 refine c_ (yS hsl hokl) fun _=>?_
 rename_i dl
 refine o_ (bk (v:= .pointer (some ⟨dl,0,none⟩)) rfl) ?_
 refine o_ (bk (v:= .int .i64 0) rfl) ?_
 refine bG ?_
 refine bG ?_
 refine bG ?_
 rw[show(H:Int)+257+(D:Int)+1=((H+257+D+1:Nat):Int) by omega]
 obtain⟨n,hn⟩:∃n,n=H+257+D+1:=⟨_,rfl⟩
 obtain⟨k,hk⟩:∃n,n=H+257:=⟨_,rfl⟩
 rw[<- hn,<- hk]at hR
 rw[<- hn]
 unfold tM at hR
 refine c_ (SN (n:=n) (l:=l) (out:=o1) (by omega) (by omega)) fun _=>?_
 rename_i q
 obtain⟨⟨qa,qc⟩,qn⟩:=q
 (try dsimp only)
 cases hrow:KW l b n at1 with
 |error e=>
  rw[hrow]at hR
  have he4:R= .error e:=hR
  rw[show LR p b most o1 n ((qa,qc),qn) (.error e)=el p b most (.error e)from rfl]
  refine o_ au (o_ cT (bt cO ?_))
  refine o_ bK (fN .here fun he=>?_)
  rw[dT_ (p:=fM (.error e)≠0) he]
  exact ab (retE e _ he4 aw none none 0 0 0 0)
 |ok pW=>
 obtain⟨a5,r⟩:=pW
 rw[hrow]at hR
 simp only at hR
 refine ap .here (aG .here fun hrp=>?_)
 refine aq ?_
 (try dsimp only at hrp)
 (try dsimp only)
 obtain⟨rfl,hrl⟩:=hrp
 obtain⟨_,hin⟩:=Fz hl19 _ hrow (Nat.zero_le _) (fun x hx=>by cases hx)
 refine o_ au (o_ cT (bt cO ?_))
 refine o_ bK ?_
 rw[dF_ (p:=fM (.ok (a5,o1))≠0) (fun c=>c rfl)]
 refine aa (dA (a:=qa) .here (by omega) fun g hg=>?_)
 subst hg
 refine aF .here fun f1 f2 f3 f4=>?_
 have hrd:=cq (W:=W) (e:=3) (cap:=qc) (cs:=r.map I) (n:=qn) (by rw[List.length_map,hrl]) f4
 have hA0:Option.map (fun x:Addr=>x.add (0 * 1)) (some ⟨g,0,none⟩)=some ⟨g,0,none⟩:=by simp[cp]
 have hAk:Option.map (fun x:Addr=>x.add (k * 1)) (some ⟨g,0,none⟩)=some ⟨g,k,none⟩:=by simp[cp]
 have hla:(r.take k).length=k:=by rw[List.length_take];omega
 have hlb:(r.drop k).length=qn-k:=by rw[List.length_drop,hrl]
 have hRa:=hrd.cut (l:=0) (h:=k) (cap:=qc) (by omega) (by omega) f2
 rw[if_neg (by omega),hA0,List.drop_zero,<- List.map_take,Nat.sub_zero]at hRa
 have hRb:=hrd.cut (l:=k) (h:=qn) (cap:=qc) (by omega) (by omega) f2
 rw[if_neg (by omega),hAk,List.take_of_length_le (by rw[List.length_drop,List.length_map];omega),<- List.map_drop]at hRb
 have h256:256<r.length:=by omega
 have hg:r.getD 256 0=r[256]:=by rw[List.getD_eq_getElem?_getD,List.getElem?_eq_getElem h256];rfl
 have hlow:=hin r[256] (List.getElem_mem h256)
 rw[hg]at hR
 have hcat:r=r.take k++r.drop k:=(List.take_append_drop k r).symm
 obtain⟨la,hlaE⟩:∃la,la=r.take k:=⟨_,rfl⟩
 obtain⟨lb,hlbE⟩:∃lb,lb=r.drop k:=⟨_,rfl⟩
 have hinA:vR la:=fun x hx=>hin x (List.mem_of_mem_take (by rw[<- hlaE];exact hx))
 have hinB:vR lb:=fun x hx=>hin x (List.mem_of_mem_drop (by rw[<- hlbE];exact hx))
 rw[<- hlaE]at hR hRa hla hcat
 rw[<- hlbE]at hR hRb hlb hcat
 have sl1:bg p_ W [] (ly 197 (.slice (some ⟨g,0,none⟩) qn qc) none (some (.int .i64 ((H:Int)+257))) none) (.slice (some ⟨g,0,none⟩) la.length qc):=by
  have:=qB (P:=p_) (W:=W) (t:=197) (n:=qn) (a:=some ⟨g,0,none⟩) (r:= .i64) (j:=(H:Int)+257) k (by omega) (show k<=qc by omega)
  rw[if_neg (by omega),hA0,<- hla]at this
  exact this
 have sl2:bg p_ W [] (ly 197 (.slice (some ⟨g,0,none⟩) qn qc) (some (.int .i64 ((H:Int)+257))) none none) (.slice (some ⟨g,k,none⟩) lb.length (qc-k)):=by
  have:=ph (P:=p_) (W:=W) (t:=197) (n:=qn) (cap:=qc) (a:=some ⟨g,0,none⟩) (q:= .i64) (i:=(H:Int)+257) k (by omega) (show k<=qn by omega)
  rw[if_neg (by omega),hAk,<- hlb]at this
  exact this
 rw[<- hlb]at hRb
 have hRa':RdB W (Sl 1 3 (some ⟨g,0,none⟩) qc qn (r.map I)) (some ⟨g,0,none⟩) la.length (la.map I):=by rw[hla];exact hRa
 obtain⟨s6,hs6⟩:∃s6:SV,s6=if((0:Int)<r[256]/\bY la=true/\bY lb=true)then .ok (a5,o1)else .error 30:=⟨_,rfl⟩
 refine cP (el p b most s6::Sl 1 3 (some ⟨g,0,none⟩) qc qn (r.map I)::F) ?_ ?_
 rotate_left
 ·have mh:∀L:List HP,Imp W L (el p b most (.ok (a5,o1))::Sl 1 3 (some ⟨g,0,none⟩) qc qn (r.map I)::F)->¬((0:Int)<r[256]/\bY la=true/\bY lb=true)->aZ W L (opN p_ (bN (fn 148) [.pointer (some ⟨p,0,none⟩),.int .i64 30]) gH fun _ w=>sat W (el p b most s6::Sl 1 3 (some ⟨g,0,none⟩) qc qn (r.map I)::F) w):=by
   intro L hi c
   refine bF hi ?_
   refine c_ (lD (by decide)) fun _=>?_
   rw[hs6,if_neg c]
   exact fun w hw=>hw
  refine o_ (bj 256 (by rfl) (by omega)) ?_
  refine bt (cI (v:=I r[256]) (by rw[Nat.zero_add];exact dK h256)) ?_
  refine o_ aP ?_
  by_cases c1:r[256]=0
  ·rw[dT_ c1]
   exact ao (ao (ao (ao (ao (ao (o_ ah (ao (ao (ao (ao (ao (ao (o_ ah (ab (mh _ aw (fun c=>by omega))))))))))))))))
  rw[dF_ c1]
  refine ae (ae (ae (bG ?_)))
  refine ae (o_ sl1 ?_)
  refine ae (c_ (Bi hRa' (by omega)) fun _=>?_)
  cases c2:bY la with
  |false=>
   exact ae (o_ dh (o_ ag (ao (ao (ao (ao (ao (ao (o_ ah (ab (mh _ aw (fun c=>by rw[c2]at c;exact absurd c.2.1 (by decide)))))))))))))
  |true=>
  refine ae (o_ dJ (o_ ag (ae (ae (ae (bG ?_))))))
  refine ae (o_ sl2 ?_)
  refine ae (c_ (Bi hRb (by omega)) fun _=>?_)
  cases c3:bY lb with
  |false=>
   exact ae (o_ dh (o_ ag (ab (mh _ aw (fun c=>by rw[c3]at c;exact absurd c.2.2 (by decide))))))
  |true=>
  refine ae (o_ dJ (o_ ag (aa ?_)))
  rw[hs6,if_pos ⟨by omega,c2,c3⟩]
  exact aD aw
 intro ds
 refine bA (t_ (bU (by omega) (by omega)) ?_)
 refine t_ sl1 ?_
 refine t_ (bU (by omega) (by omega)) ?_
 refine t_ sl2 ?_
 by_cases c:(0:Int)<r[256]/\bY la=true/\bY lb=true
 rotate_left
 ·rw[if_neg c]at hs6
  rw[if_pos c]at hR
  rw[hs6]
  exact retE 30 _ hR aw _ _ _ _ _ _
 rw[if_pos c]at hs6
 rw[if_neg (not_not_intro c)]at hR
 have okA:okL la:=ue c.2.1 (by omega) hinA
 have HC:okL lb:=ue c.2.2 (by omega) hinB
 rw[if_neg (not_not_intro okA),if_neg (not_not_intro HC)]at hR
 rw[hs6]
 refine aR (((some ⟨g,0,none⟩,qc),la.length),((some ⟨g,k,none⟩,qc-k),lb.length)) rfl ?_
 refine .ex (.ok ((a5,g,qc),(la,lb))) (.all ?_)
 refine aq ?_
 refine .pu ⟨hR,okA,HC,by(try dsimp only);omega,by(try dsimp only);omega,by(try dsimp only);rw[hla]⟩ ?_
 (try dsimp only)
 rw[<- hcat,show la.length+lb.length=qn by omega]
 exact aw
theorem Iz {W : World} {A B : HP} {a : Option Addr} {n : Nat} {cs : List Value} (h : RdB W A a n cs) : RdB W (all [A, B]) a n cs :=
 ⟨h.1, fun hn => by
  obtain ⟨g, o, e, hc⟩ := h.2 hn
  refine ⟨g, o, e, fun w L hw j v hv => hc w (B :: L) ?_ j v hv⟩
  exact (ap (S := fun w => sat W (A :: B :: L) w) .here (fun w hw => hw)) w hw⟩
theorem Bj {W : World} {A B : HP} {a : Option Addr} {n : Nat} {cs : List Value} (h : RdB W B a n cs) : RdB W (all [A, B]) a n cs :=
 ⟨h.1, fun hn => by
  obtain ⟨g, o, e, hc⟩ := h.2 hn
  refine ⟨g, o, e, fun w L hw j v hv => hc w (A :: L) ?_ j v hv⟩
  exact (ap (S := fun w => sat W (B :: A :: L) w) .here (fun w hw => (Imp.pick (.there .here) .refl).sat hw)) w hw⟩
abbrev AL:=Except Int (Nat × List UInt8 × List (Int × Int))
def SP (k:Nat)(b:List UInt8)(most:Int)(s:SV):SV:=match s with
 | .ok y=>gQ k b most y.1 y.2
 | .error e=> .error e
def SQ (b:List UInt8)(most:Int)(T:AL)(m:Nat)(l:List (Int × Int))(last:Int)(s:SV):Prop:=match s with
 | .ok x=>(x.2.length:Int)<=most/\((last=0/\T=kF b most m x.1 x.2 l/\8 * b.length+1<=m+x.1)\/(last≠0/\T= .ok (x.1,x.2,l)))
 | .error e=>T= .error e
def PY (b:List UInt8)(most:Int)(T:AL)(m:Nat)(l:List (Int × Int))(at1:Nat)(o1:List UInt8)(lv:Int)(kk:Nat)(s:SV):Prop:=match s with
 | .ok y=>y.2=o1/\at1<y.1/\T=(match gQ kk b most y.1 o1 with
  | .error e=> .error e
  | .ok (a,o)=>if lv=0 then kF b most m a o (l++[((kk:Int),(o.length:Int)-(o1.length:Int))])else .ok (a,o,l++[((kk:Int),(o.length:Int)-(o1.length:Int))]))
 | .error e=>T= .error e
theorem SS {W : World} {a : Option Addr} {cap : Nat} {b : List UInt8} {A : HP} {most : Int} (hr : RdB W A a b.length (b.map B)) (ha : a = none → b.length = 0) (hb : b.length ≤ 140737488355328) :
  Cn p_ 107 [.slice a b.length cap, .int .i64 most] W [A]
   (fun q : (Option Addr × Nat) × Value => .tuple #[.slice q.1.1 (aO b most).length q.1.2, q.2, .int .i64 (aU b most), .int .i64 (aE b most)])
   (fun q => [Sl 1 5 q.1.1 q.1.2 (aO b most).length ((aO b most).map B), pu (aU b most ≤ (b.length : Int)), A]) := by
 (refine Shp.cn (Sg.g_ Tryz.call107 Tryz.func107 (an := { cuts := [(22, [])], loops := [(8, [9, 10])], drs := [(24, .ofL [(0, 1), (1, 1), (2, 1), (3, 1), (4, 1), (5, 1), (6, 1), (7, 1)]), (25, .ofL [(0, 1), (1, 1), (2, 1), (3, 1), (4, 1), (5, 1), (6, 1), (7, 1), (8, 1), (9, 1), (10, 1), (11, 1), (12, 1), (13, 1), (14, 1), (15, 1), (16, 1), (17, 1)])] })) fun F => ?_; simp only [ca_, na_])
 obtain ⟨T, hT⟩ : ∃ T, T = sO b most := ⟨_, rfl⟩
 have bad : ∀ (e : Int) (L : List HP), T = .error e → Imp W L (A :: F) → aZ W L (fun w => ∃ q : (Option Addr × Nat) × Value, (.tuple #[.slice none 0 0, .slice none 0 0, .int .i64 0, .int .i64 e] : Value) = .tuple #[.slice q.1.1 (aO b most).length q.1.2, q.2, .int .i64 (aU b most), .int .i64 (aE b most)] ∧ sat W ([Sl 1 5 q.1.1 q.1.2 (aO b most).length ((aO b most).map B), pu (aU b most ≤ (b.length : Int)), A] ++ F) w) := by
  intro e L he hi
  rw [hT] at he
  rw [show aO b most = [] by simp [aO, he], show aE b most = e by simp [aE, he], show aU b most = 0 by simp [aU, he]]
  refine bF hi ?_
  refine aR ((none, 0), .slice none 0 0) rfl ?_
  exact bR (.pu (by omega) .refl)
 have hTT := hT
 unfold sO at hT
 refine o_ az ?_
 by_cases c1 : most < 0
 ·rw [if_pos (.inl c1)] at hT
  rw [dT_ c1]
  exact ao (ao (o_ ah (ab (bad 1 _ hT .refl))))
 rw [dF_ c1]
 refine ae (ae (o_ aV (o_ ag ?_)))
 by_cases c2 : 1048576 < most
 ·rw [if_pos (.inr c2)] at hT
  rw [dT_ c2]
  exact ab (bad 1 _ hT .refl)
 rw [if_neg (fun c => c.elim c1 c2)] at hT
 rw [dF_ c2]
 refine aa (o_ aC (o_ aV ?_))
 by_cases c3 : 1048576 < b.length
 ·rw [if_pos c3] at hT
  rw [dT_ (by omega)]
  exact ab (bad 6 _ hT .refl)
 rw [if_neg c3] at hT
 rw [dF_ (by omega)]
 refine aa (c_ (Sw hr ha (by omega)) fun _ => ?_)
 rename_i rq
 refine o_ b_ ?_; refine bV fun g => ?_
 refine bF (M := el g b most (.ok (0, [])) :: A :: F) (zq (.ex (rq, (none, 0)) (.all (.pick (by repeat constructor) (.pick (by repeat constructor) (bR .refl)))))) ?_
 refine bI (fun m x y => (ex fun st : (((Option Addr × Nat) × List (Int × Int)) × Int) × SV => all [pu (x = .slice st.1.1.1.1 st.1.1.2.length st.1.1.1.2 ∧ y = .int .i64 st.1.2 ∧ st.1.1.2.length + m = 8 * b.length + 1 ∧ SQ b most T m st.1.1.2 st.1.2 st.2), Sl 2 201 st.1.1.1.1 st.1.1.1.2 st.1.1.2.length (st.1.1.2.flatMap blk), el g b most st.2]) :: A :: F) (8 * b.length + 1) ?_ ?_
 ·refine .ex ((((none, 0), []), 0), .ok (0, [])) (.all ?_)
  refine aq ?_
  exact .pu ⟨rfl, rfl, by simp, by simp; omega, .inl ⟨rfl, hT, by (try dsimp only); omega⟩⟩ (bR .refl)
 clear hT
 intro m ds x y
 refine aH .here fun st => ap .here (aG .here fun hi => ?_)
 obtain ⟨⟨⟨⟨la, lc⟩, l⟩, last⟩, s⟩ := st
 refine aq ?_
 (try dsimp only at hi)
 (try dsimp only)
 obtain ⟨rfl, rfl, hlm, hs⟩ := hi
 refine o_ aP ?_
 -- what is done when nothing is to be done
 have done : (last ≠ 0 ∨ fM s ≠ 0) → aZ W (Sl 2 201 la lc l.length (l.flatMap blk) :: el g b most s :: A :: F) (opN p_ (j8 (.pointer (some ⟨g, 0, none⟩))) gH fun x98 =>
   opN p_ (jf 196 x98 3) gH fun x99 =>
   opN p_ (aI 3 x99) gH fun x100 =>
   opN p_ (kj .neq 3 (.tmp 100) (.const (.int .i64 0)) x100 (.int .i64 0)) gH fun x101 =>
   condS x101
   (oW (stS p_ (j8 (.pointer (some ⟨g, 0, none⟩))) fun x103 =>
    stS p_ (jf 196 x103 3) fun x104 =>
    stS p_ (aI 3 x104) fun x105 w =>
     ∃ q : (Option Addr × Nat) × Value, (.tuple #[.slice none 0 0, .slice none 0 0, .int .i64 0, x105] : Value) = .tuple #[.slice q.1.1 (aO b most).length q.1.2, q.2, .int .i64 (aU b most), .int .i64 (aE b most)] ∧ sat W (Sl 1 5 q.1.1 q.1.2 (aO b most).length ((aO b most).map B) :: pu (aU b most ≤ (b.length : Int)) :: A :: F) w))
   (oW (stS p_ (j8 (.pointer (some ⟨g, 0, none⟩))) fun x107 =>
    stS p_ (jf 196 x107 1) fun x108 =>
    stS p_ (aI 23 x108) fun x109 =>
    stS p_ (j8 (.pointer (some ⟨g, 0, none⟩))) fun x112 =>
    stS p_ (jf 196 x112 0) fun x113 =>
    stS p_ (aI 193 x113) fun x114 =>
    stS p_ (j8 x114) fun x115 =>
    stS p_ (jf 203 x115 1) fun x116 =>
    stS p_ (aI 3 x116) fun x117 =>
    stS p_ (aY .add 3 x117 (.int .i64 7)) fun x118 =>
    stS p_ (aY .quo 3 x118 (.int .i64 8)) fun x119 w =>
     ∃ q : (Option Addr × Nat) × Value, (.tuple #[x109, .slice la l.length lc, x119, .int .i64 0] : Value) = .tuple #[.slice q.1.1 (aO b most).length q.1.2, q.2, .int .i64 (aU b most), .int .i64 (aE b most)] ∧ sat W (Sl 1 5 q.1.1 q.1.2 (aO b most).length ((aO b most).map B) :: pu (aU b most ≤ (b.length : Int)) :: A :: F) w))) := by
  intro hc
  refine o_ au (o_ cT (bt cO ?_))
  refine o_ bK ?_
  cases s with
  | error e =>
   refine fN (.there .here) fun he => ?_
   rw [dT_ (p := fM (.error e) ≠ 0) he]
   refine ab (bA (t_ au (t_ cT (eJ cO ?_))))
   exact bad e _ hs aw
  | ok x =>
   obtain ⟨at1, o1⟩ := x
   obtain ⟨_, hd⟩ := hs
   have hl0 : last ≠ 0 := hc.elim id fun c => absurd rfl c
   have hT : T = .ok (at1, o1, l) := by
    rcases hd with ⟨h0, _⟩ | ⟨_, h⟩
    ·exact absurd h0 hl0
    ·exact h
   rw [dF_ (p := fM (.ok (at1, o1)) ≠ 0) (fun c => c rfl)]
   refine aa (aH (.there .here) fun x1 => ap .here (aG .here fun hx1 => ?_))
   obtain rfl : x1 = (at1, o1) := hx1
   refine aH .here fun q1 => ap .here ?_
   obtain ⟨r1, qa1, qc1⟩ := q1
   refine aH (.there .here) fun z => ap .here (aG (.there (.there .here)) fun hz => ?_)
   refine aq ?_
   (try dsimp only)
   refine bA (t_ au (t_ aj (ew ?_))); refine t_ au (t_ aj (ew ?_)); refine t_ au (t_ aj (ew ?_)); (refine t_ (bU (by omega) (by omega)) ?_); (((refine t_ (hH ?h1 ?h2 ?h3) ?_); (case h1 => omega); (case h2 => omega); (case h3 => omega)))
   have hM : sO b most = .ok (at1, o1, l) := by rw [← hTT]; exact hT
   have hz1 := hz.1
   have hU : aU b most = ((at1 : Int) + 7) / 8 := by simp [aU, hM]; omega
   rw [show aO b most = o1 by simp [aO, hM], show aE b most = 0 by simp [aE, hM], hU]
   refine aR ((qa1, qc1), .slice la l.length lc) rfl ?_
   refine .pick (by repeat constructor) (.pu (by omega) ?_)
   exact aw
 by_cases hl0 : last = 0
 rotate_left
 ·rw [dF_ hl0]
  iterate 5 refine af ?_
  exact o_ ag (aa (done (.inl hl0)))
 rw [dT_ hl0]
 refine ae (ae (o_ au (ae (o_ cT (ae (bt cO ?_))))))
 refine ae (o_ aP (o_ ah ?_))
 by_cases he0 : fM s = 0
 rotate_left
 ·rw [dF_ he0]
  exact aa (done (.inr he0))
 rw [dT_ he0]
 refine ab ?_
 clear done
 cases s with
 | error e =>
  refine fN (.there .here) fun he => ?_
  exact absurd he0 he
 | ok x =>
 obtain ⟨at1, o1⟩ := x
 obtain ⟨ho, hd⟩ := hs
 (try dsimp only at ho)
 obtain ⟨_, hT, hm⟩ : last = 0 ∧ T = kF b most m at1 o1 l ∧ 8 * b.length + 1 ≤ m + at1 := by
  rcases hd with h | ⟨h, _⟩
  ·exact h
  ·exact absurd hl0 h
 refine xR (.there .here) fun hat => ?_
 obtain ⟨m, rfl⟩ : ∃ m', m = m' + 1 := ⟨m - 1, by omega⟩
 rw [kF] at hT
 refine c_ (jx (k := ((1 : Nat) : Int)) (s := .ok (at1, o1))) fun _ => ?_
 have hv1 := sW (b := b) (k := 1) (s := .ok (at1, o1))
 obtain ⟨s1, hs1⟩ : ∃ s, s = sT b ((1 : Nat) : Int) (.ok (at1, o1)) := ⟨_, rfl⟩
 obtain ⟨lv, hlv⟩ : ∃ s, s = vT b ((1 : Nat) : Int) (.ok (at1, o1)) := ⟨_, rfl⟩
 rw [← hs1, ← hlv]
 rw [← hlv] at hv1
 refine c_ (jx (k := ((2 : Nat) : Int)) (s := s1)) fun _ => ?_
 have hv2 := sW (b := b) (k := 2) (s := s1)
 obtain ⟨s2, hs2⟩ : ∃ s, s = sT b ((2 : Nat) : Int) s1 := ⟨_, rfl⟩
 obtain ⟨kd, hkd⟩ : ∃ s, s = vT b ((2 : Nat) : Int) s1 := ⟨_, rfl⟩
 rw [← hs2, ← hkd]
 rw [← hkd] at hv2
 obtain ⟨kk, rfl⟩ := Int.eq_ofNat_of_zero_le hv2.1
 -- the state's nS faces
 have hhead : PY b most T m l at1 o1 lv kk s2 := by
  by_cases c1 : bQ b at1 1 = 0
  rotate_left
  ·rw [if_pos c1] at hT
   rw [hs2, hs1, show sT b ((1 : Nat) : Int) (.ok (at1, o1)) = .error (bQ b at1 1) from if_pos c1]
   exact hT
  rw [if_neg (not_not_intro c1)] at hT
  have ht1 : aN b at1 1 = at1 + 1 := by unfold aN; rw [if_pos c1]; rfl
  rw [show sT b ((1 : Nat) : Int) (.ok (at1, o1)) = .ok (aN b at1 1, o1) from if_neg (not_not_intro c1)] at hs1
  rw [show vT b ((1 : Nat) : Int) (.ok (at1, o1)) = (bE b at1 1 : Int) from rfl] at hlv
  obtain ⟨N1, hN1⟩ : ∃ n, n = bE b at1 1 := ⟨_, rfl⟩
  rw [← hN1] at hlv hT
  subst hlv
  obtain ⟨t1, ht1E⟩ : ∃ t, t = aN b at1 1 := ⟨_, rfl⟩
  rw [← ht1E] at hs1 hT ht1
  rw [hs1] at hs2 hkd
  by_cases c2 : bQ b t1 2 = 0
  rotate_left
  ·rw [if_pos c2] at hT
   rw [hs2, show sT b ((2 : Nat) : Int) (.ok (t1, o1)) = .error (bQ b t1 2) from if_pos c2]
   exact hT
  rw [if_neg (not_not_intro c2)] at hT
  have ht2 := cE b t1 2
  rw [hs2, show sT b ((2 : Nat) : Int) (.ok (t1, o1)) = .ok (aN b t1 2, o1) from if_neg (not_not_intro c2)]
  rw [show vT b ((2 : Nat) : Int) (.ok (t1, o1)) = (bE b t1 2 : Int) from rfl] at hkd
  have hkk : kk = bE b t1 2 := by omega
  rw [← hkk] at hT
  refine ⟨rfl, by (try dsimp only); omega, ?_⟩
  (try dsimp only)
  rw [hT]
  cases gQ kk b most (aN b t1 2) o1 with
  | error e => rfl
  | ok y =>
   obtain ⟨a, o⟩ := y
   by_cases cz : N1 = 0
   ·simp only [cz, if_true]; rfl
   ·simp only [cz, if_false, show ¬ ((N1 : Int) = 0) from fun c => cz (by omega)]
 clear hT hs1 hs2 hlv hkd
 have hkb : (kk : Int) < 4 := hv2.2
 refine o_ au (aH .here fun x2 => ap .here (aG .here fun hx2 => ?_))
 refine aH .here fun q2 => ap .here ?_
 obtain ⟨r2, qa2, qc2⟩ := q2
 obtain ⟨a2, o2⟩ := x2
 refine aq ?_
 (try dsimp only)
 refine aF (.there (.there .here)) fun f1 f2 f3 f4 => ?_
 have f5 : o2.length ≤ 9223372036854775807 := Nat.le_trans f2 f3
 refine o_ cT (am (e_ (fz := (0, 0)) rfl) (.pick .here .nil) ?_)
 refine o_ aC (bF (M := el g b most s2 :: Sl 2 201 la lc l.length (l.flatMap blk) :: A :: F) (.ex (a2, o2) (.all (.pu hx2 (.ex (r2, (qa2, qc2)) (.all (.pick (by repeat constructor) (.pick (by repeat constructor) (.pick (by repeat constructor) aw)))))))) ?_)
 obtain ⟨s3, hs3⟩ : ∃ s, s = SP kk b most s2 := ⟨_, rfl⟩
 refine cP (el g b most s3 :: Sl 2 201 la lc l.length (l.flatMap blk) :: A :: F) ?_ ?_
 rotate_left
 ·refine o_ au (o_ cT (bt cO ?_))
  refine o_ bK ?_
  cases s2 with
  | error e =>
   refine fN .here fun he => ?_
   rw [dT_ (p := fM (.error e) ≠ 0) he]
   refine ab ?_
   rw [hs3]
   exact aD .refl
  | ok y =>
   obtain ⟨t2, oy⟩ := y
   obtain ⟨hoy, _, _⟩ := hhead
   (try dsimp only at hoy)
   subst hoy
   rw [show SP kk b most (.ok (t2, oy)) = gQ kk b most t2 oy from rfl] at hs3
   unfold gQ at hs3
   rw [dF_ (p := fM (.ok (t2, oy)) ≠ 0) (fun c => c rfl)]
   refine aa (o_ aP ?_)
   by_cases k0 : kk = 0
   ·rw [if_pos k0] at hs3
    rw [dT_ (by omega)]
    refine ab (c_ (Iu ⟨by omega, by omega⟩ ho) fun _ => ?_)
    rw [hs3]
    exact aD .refl
   rw [if_neg k0] at hs3
   rw [dF_ (by omega)]
   refine aa (o_ aP ?_)
   by_cases k1 : kk = 1
   ·rw [if_pos k1] at hs3
    rw [dT_ (by omega)]
    refine ab (c_ LN fun _ => ?_)
    rename_i q
    obtain ⟨⟨la1, lc1⟩, ⟨da1, dc1⟩⟩ := q
    (try dsimp only)
    refine o_ (bk (v := .slice la1 eX.length lc1) rfl) ?_
    refine o_ (bk (v := .slice da1 fw.length dc1) rfl) ?_
    refine aF (.here) fun g1 g2 g3 g4 => ?_
    refine aF (.there .here) fun j1 j2 j3 j4 => ?_
    have rd1 := Iz (B := Sl 1 3 da1 dc1 fw.length (fw.map I)) (cq (W := W) (e := 3) (cap := lc1) (cs := eX.map I) (n := eX.length) (by rw [List.length_map]) g4)
    have rd2 := Bj (A := Sl 1 3 la1 lc1 eX.length (eX.map I)) (cq (W := W) (e := 3) (cap := dc1) (cs := fw.map I) (n := fw.length) (by rw [List.length_map]) j4)
    refine bF (M := el g b most (.ok (t2, oy)) :: all [Sl 1 3 la1 lc1 eX.length (eX.map I), Sl 1 3 da1 dc1 fw.length (fw.map I)] :: Sl 2 201 la lc l.length (l.flatMap blk) :: A :: F) (.pick (by repeat constructor) (.all aw)) ?_
    refine aB (Fw rd1 rd2 Eq Es (by rw [lg]; omega) (by rw [lh]; omega) ⟨by omega, by omega⟩ ho) (.cons .here (.cons .here .nil)) fun _ => ?_
    refine aq ?_
    rw [hs3]
    exact aD (.pick .here (.drop .refl))
   rw [if_neg k1] at hs3
   rw [dF_ (by omega)]
   refine aa (o_ aP ?_)
   by_cases k2 : kk = 2
   ·rw [if_pos k2] at hs3
    rw [dT_ (by omega)]
    refine ab (c_ (FA ⟨by omega, by omega⟩ ho) fun _ => ?_)
    rename_i q
    obtain ⟨⟨⟨u1, v1⟩, n1⟩, ⟨⟨u2, v2⟩, n2⟩⟩ := q
    (try dsimp only)
    refine o_ (bk (v := .slice u1 n1 v1) rfl) ?_
    refine o_ (bk (v := .slice u2 n2 v2) rfl) ?_
    refine aH .here fun z => ?_
    cases z with
    | error e =>
     refine ap .here (aG .here fun hz => ?_)
     refine aq ?_
     refine c_ Iy fun _ => ?_
     rw [hs3, hz]
     exact aD .refl
    | ok z =>
     obtain ⟨⟨a5, gg, cc⟩, ⟨ll, lb⟩⟩ := z
     refine ap .here (aG .here fun hz => ?_)
     refine aq ?_
     (try dsimp only at hz)
     (try dsimp only)
     obtain ⟨hR, okA, HC, p1, p2, hq⟩ := hz
     injection hq with hqa hqb
     injection hqa with hqa1 hqa2
     injection hqb with hqb1 hqb2
     injection hqa1 with hqa3 hqa4
     injection hqb1 with hqb3 hqb4
     subst hqa3; subst hqa4; subst hqa2; subst hqb3; subst hqb4; subst hqb2
     refine aF .here fun g1 g2 g3 g4 => ?_
     have hrd := cq (W := W) (e := 3) (cap := v1) (cs := (ll ++ lb).map I) (n := ll.length + lb.length) (by simp) (fun _ => ⟨gg, rfl⟩)
     have hA0 : Option.map (fun x : Addr => x.add (0 * 1)) (some ⟨gg, 0, none⟩) = some ⟨gg, 0, none⟩ := by simp [cp]
     have hAk : Option.map (fun x : Addr => x.add (ll.length * 1)) (some ⟨gg, 0, none⟩) = some ⟨gg, ll.length, none⟩ := by simp [cp]
     have hRa := hrd.cut (l := 0) (h := ll.length) (cap := v1) (by omega) (by omega) g2
     rw [if_neg (by omega), hA0, List.drop_zero, ← List.map_take, Nat.sub_zero, List.take_left] at hRa
     have hRb := hrd.cut (l := ll.length) (h := ll.length + lb.length) (cap := v1) (by omega) (by omega) g2
     rw [if_neg (by omega), hAk, List.take_of_length_le (by simp), ← List.map_drop, List.drop_left, Nat.add_sub_cancel_left] at hRb
     refine aq ?_
     refine aB (Fw hRa hRb okA HC okA.len HC.len ⟨by omega, by omega⟩ ho) (.cons (by repeat constructor) (.cons (by repeat constructor) .nil)) fun _ => ?_
     refine aq ?_
     rw [hs3, hR]
     exact aD (.pick .here (.drop .refl))
   rw [if_neg k2] at hs3
   rw [dF_ (by omega)]
   refine aa (c_ (lD (by decide)) fun _ => ?_)
   rw [hs3]
   exact aD .refl
 intro ds
 refine o_ au (aH .here fun x3 => ap .here (aG .here fun hx3 => ?_))
 refine aH .here fun q3 => ap .here ?_
 obtain ⟨r3, qa3, qc3⟩ := q3
 obtain ⟨a3, o3⟩ := x3
 refine aq ?_
 (try dsimp only)
 refine aF (.there (.there .here)) fun g1 g2 g3 g4 => ?_
 have g5 : o3.length ≤ 9223372036854775807 := Nat.le_trans g2 g3
 refine o_ cT (am (e_ (fz := (0, 0)) rfl) (.pick .here .nil) ?_)
 refine o_ aC (bF (M := el g b most s3 :: Sl 2 201 la lc l.length (l.flatMap blk) :: A :: F) (.ex (a3, o3) (.all (.pu hx3 (.ex (r3, (qa3, qc3)) (.all (.pick (by repeat constructor) (.pick (by repeat constructor) (.pick (by repeat constructor) aw)))))))) ?_)
 refine dX ?_
 obtain ⟨df, hdf⟩ : ∃ d, d = (o3.length : Int) - (o2.length : Int) := ⟨_, rfl⟩
 rw [← hdf]
 refine o_ b_ ?_
 refine eL (s := 2) (vs := [.agg #[.int .i64 (kk : Int), .int .i64 df]]) rfl (by omega) rfl (by intro z hz; simp at hz; subst hz; rfl) (by omega) fun g4' => ?_
 refine bO (m := 1) (news := blk ((kk : Int), df)) (by repeat constructor) (cA (s := 2) (e' := 201) (by kernel_rfl) .here (by rfl) (by intro z hz; simp [blk] at hz; rcases hz with rfl | rfl <;> rfl)) (by omega) (by omega) fun a' c' => ?_
 refine bo m (by omega) (.ex ((((a', c'), l ++ [((kk : Int), df)]), lv), s3) (.all ?_))
 refine aq ?_
 (try dsimp only)
 refine .pu ⟨by simp, rfl, by simp; omega, ?_⟩ ?_
 ·cases s2 with
  | error e => rw [hs3]; exact hhead
  | ok y =>
   obtain ⟨t2, oy⟩ := y
   obtain ⟨hoy, hat2, hT⟩ := hhead
   (try dsimp only at hoy)
   (try dsimp only at hT)
   subst hoy
   have e2 : o2 = oy := (Prod.mk.inj hx2).2
   subst e2
   rw [show SP kk b most (.ok (t2, o2)) = gQ kk b most t2 o2 from rfl] at hs3
   cases hK : gQ kk b most t2 o2 with
   | error e =>
    rw [hK] at hT hs3
    rw [hs3]
    exact hT
   | ok z =>
    obtain ⟨a6, o6⟩ := z
    have hle := ry hK ho
    have hat6 := wP hK
    rw [hK] at hT hs3
    subst hs3
    have e3 : o3 = o6 := (Prod.mk.inj hx3).2
    subst e3
    simp only at hT
    refine ⟨hle, ?_⟩
    by_cases cl : lv = 0
    ·rw [if_pos cl] at hT
     exact .inl ⟨cl, by rw [hdf]; exact hT, by (try dsimp only at hat2); (try dsimp only); omega⟩
    ·rw [if_neg cl] at hT
     exact .inr ⟨cl, by rw [hdf]; exact hT⟩
 ·rw [List.length_append, List.flatMap_append, List.length_singleton, List.flatMap_singleton]
  exact aw
theorem FB {W:World}{a:Option Addr}{cap:Nat}{b:List UInt8}{A:HP}{most:Int}(hr:RdB W A a b.length (b.map B))(ha:a=none->b.length=0)(hb:b.length<=140737488355328):
  Cn p_ 74 [.slice a b.length cap,.int .i64 most] W [A] (fun q:Option Addr × Nat=> .tuple #[.slice q.1 (aO b most).length q.2,.int .i64 (aU b most),.int .i64 (aE b most)]) (fun q=>[Sl 1 5 q.1 q.2 (aO b most).length ((aO b most).map B),pu (aU b most<=(b.length:Int)),A]):=by
 (refine Shp.cn (Sg.g_ Tryz.call74 Tryz.func74) fun F=>?_;simp only[ca_,na_])
 refine c_ (SS hr ha hb) fun _=>?_
 rename_i q
 obtain⟨⟨oa,oc⟩,v0⟩:=q
 (try dsimp only)
 refine o_ (bk (v:= .slice oa (aO b most).length oc) rfl) ?_
 refine o_ (bk (v:=v0) rfl) ?_
 refine o_ (bk (v:= .int .i64 (aU b most)) rfl) ?_
 refine o_ (bk (v:= .int .i64 (aE b most)) rfl) ?_
 refine bq ((oa,oc)) ?_
 exact aw
end IF
namespace GZ
open Go Go.Proofs Go.RowKit Sl IF
theorem xS (a b:Nat):(a ^^^ b) / 2=a / 2 ^^^ b / 2:=by
 apply Nat.eq_of_testBit_eq
 intro i
 simp only[Nat.testBit_xor,Nat.testBit_div_two]
theorem IA (a b:Nat):(a ^^^ b)%2=(a%2+b%2)%2:=by
 have h:=Nat.testBit_xor a b 0
 simp only[Nat.testBit_zero]at h
 have e:∀n:Nat,decide (n%2=1)=true↔n%2=1:=fun n=>decide_eq_true_iff
 rcases Nat.mod_two_eq_zero_or_one a with ha|ha <;> rcases Nat.mod_two_eq_zero_or_one b with hb|hb <;> rcases Nat.mod_two_eq_zero_or_one (a ^^^ b)with hc|hc <;> simp_all
theorem PZ (r:Nat){x:Nat}(hx:x<256):(r ^^^ x)%256=(r%256) ^^^ x/\(r ^^^ x) / 256=r / 256:=by
 have hbig:∀i,8<=i->x.testBit i=false:=fun i hi=>Nat.testBit_lt_two_pow (Nat.lt_of_lt_of_le hx (Nat.pow_le_pow_right (n:=2) (by decide) hi))
 constructor
 ·apply Nat.eq_of_testBit_eq
  intro i
  rw[show(256:Nat)=2^8 from rfl]
  simp only[Nat.testBit_mod_two_pow,Nat.testBit_xor]
  by_cases h:i<8
  ·simp[h]
  ·simp[h,hbig i (by omega)]
 ·apply Nat.eq_of_testBit_eq
  intro i
  rw[show(256:Nat)=2^8 from rfl]
  simp only[Nat.testBit_div_two_pow,Nat.testBit_xor]
  rw[hbig _ (by omega)]
  simp
theorem FC (a b:Nat):CK (a ^^^ (2 * b))=CK a ^^^ b:=by
 have h1:(a ^^^ (2 * b)) / 2=a / 2 ^^^ b:=by rw[xS,Nat.mul_div_cancel_left _ (by decide)]
 have h2:(a ^^^ (2 * b))%2=a%2:=by rw[IA];omega
 unfold CK
 rw[h1,h2]
 split
 ·rw[Nat.xor_assoc,Nat.xor_comm b HK,<- Nat.xor_assoc]
 ·rfl
theorem uf:∀(k a b:Nat),ju k (a ^^^ (2^k * b))=ju k a ^^^ b
 |0,a,b=>by simp[ju]
 |k+1,a,b=>by
  rw[ju,ju,show 2^(k+1) * b=2 * (2^k * b) by rw[Nat.pow_succ,Nat.mul_comm (2^k) 2,Nat.mul_assoc],FC,uf k]
theorem LU (c:Nat):c=(c%256) ^^^ (2^8 * (c / 256)):=by
 apply Nat.eq_of_testBit_eq
 intro i
 rw[show(256:Nat)=2^8 from rfl,Nat.mul_comm]
 simp only[Nat.testBit_xor,Nat.testBit_mod_two_pow,Nat.testBit_mul_two_pow,Nat.testBit_div_two_pow]
 by_cases h:i<8
 ·simp[h,show ¬8<=i by omega]
 ·simp[h,show 8<=i by omega]
theorem CD (r:Nat){x:Nat}(hx:x<256):ju 8 (r ^^^ x)=sw ((r%256) ^^^ x) ^^^ (r / 256):=by
 obtain⟨h1,h2⟩:=PZ r hx
 rw[LU (r ^^^ x),uf,h1,h2,zd]
def jy (r x k:Nat):Nat:=ju k (r ^^^ x) ^^^ (x / 2^k)
theorem LV (r x:Nat):jy r x 0=r:=by
 unfold jy
 rw[ju,Nat.pow_zero,Nat.div_one,Nat.xor_assoc,Nat.xor_self,Nat.xor_zero]
theorem LW (r:Nat){x:Nat}(hx:x<256):jy r x 8=sw ((r%256) ^^^ x) ^^^ (r / 256):=by
 unfold jy
 rw[CD r hx,show x / 2^8=0 by omega,Nat.xor_zero]
theorem IB {r x k:Nat}(hr:r<4294967296)(hx:x<256):jy r x k<4294967296:=by
 unfold jy
 exact iN (qi k (iN hr (by omega))) (Nat.lt_of_le_of_lt (Nat.div_le_self _ _) (by omega))
theorem LX (r x k:Nat):jy r x k ^^^ (x / 2^k)=ju k (r ^^^ x):=by
 unfold jy;rw[Nat.xor_assoc,Nat.xor_self,Nat.xor_zero]
theorem CE (r x k:Nat):jy r x (k+1)=if(jy r x k ^^^ (x / 2^k))%2=1 then(jy r x k / 2) ^^^ HK else jy r x k / 2:=by
 have e:x / 2^(k+1)=x / 2^k / 2:=by rw[Nat.pow_succ,Nat.div_div_eq_div_mul]
 rw[LX]
 have h:jy r x (k+1)=CK (ju k (r ^^^ x)) ^^^ (x / 2^k / 2):=by unfold jy;rw[oK,e]
 have h2:jy r x k / 2=ju k (r ^^^ x) / 2 ^^^ (x / 2^k / 2):=by unfold jy;rw[xS]
 rw[h,h2]
 unfold CK
 split
 ·rw[Nat.xor_assoc,Nat.xor_comm HK,<- Nat.xor_assoc]
 ·rfl
end GZ
namespace GZ
open Go Go.Proofs Go.RowKit Sh Sl T IF
theorem P1 {n:Nat}:((n:Int).fdiv (2^(min ((1:Int)).toNat IntKind.u32.bits)))=((n / 2:Nat):Int):=lP (n:=n) (k:=1) (by decide)
theorem ST {W:World}{s:Nat}{a:Option Addr}{c:Nat}{b:List UInt8}{A:HP}(hs:s<4294967296)(hr:RdB W A a b.length (b.map Sl.B))(hb:b.length<=4611686018427387904):
  Cn p_ 141 [.int .u32 (s:Int),.slice a b.length c] W [A] (fun _:Unit=> .int .u32 (HL s b:Int)) (fun _=>[A]):=by
 (refine Shp.cn (Sg.g_ Tryz.call141 Tryz.func141 (an:={loops:=[(3,[5,6]),(7,[5,7,8])]})) fun F=>?_;simp only[ca_,na_])
 refine o_ (Be hs) ?_
 refine bI (fun m y z=>pu (∃i:Nat,m+i=b.length/\y= .int .u32 (iO (vU s) (b.take i):Int)/\z= .int .i64 (i:Int))::A::F) b.length ?_ ?_
 ·refine .pu ⟨0,by omega,rfl,rfl⟩ ?_
  exact aw
 intro m ds y z
 refine aG .here fun hk=>?_
 obtain⟨i,hmi,rfl,rfl⟩:=hk
 refine o_ aC (o_ az ?_)
 by_cases hlt:(i:Int)<(b.length:Int)
 ·rw[dT_ hlt]
  have hi:i<b.length:=by omega
  obtain⟨g,o,rfl,_⟩:=hr.at_ (by omega)
  have hst:iO (vU s) (b.take (i+1))=sw ((iO (vU s) (b.take i)%256) ^^^ b[i].toNat) ^^^ (iO (vU s) (b.take i) / 256):=by
   rw[List.take_succ_eq_append_getElem hi,tZ]
  have hcl:=lw (b.take i) (oL hs)
  obtain⟨C,hC⟩:∃C,C=iO (vU s) (b.take i):=⟨_,rfl⟩
  rw[<- hC]at hst hcl ⊢
  have hx:=b[i].toNat_lt
  refine ab (o_ (bj i rfl hi) ?_)
  refine bt (bP hr (v:= .int .u8 (b[i].toNat:Int)) (wi hi)) ?_
  refine o_ (br (q:= .u32)) ?_
  obtain⟨x,hxe⟩:∃x,x=b[i].toNat:=⟨_,rfl⟩
  rw[<- hxe]at hst hx ⊢
  rw[lu (by omega)]
  refine gD (fun m y z u=>pu (∃k:Nat,m+k=8/\y= .int .u32 (jy C x k:Int)/\z= .int .u32 ((x / 2^k:Nat):Int)/\u= .int .i64 (k:Int))::A::F) 8 ?_ ?_
  ·refine .pu ⟨0,rfl,by rw[LV],by rw[Nat.pow_zero,Nat.div_one],rfl⟩ ?_
   exact aw
  intro m8 ds8 y z u
  refine aG .here fun hk=>?_
  obtain⟨k,hmk,rfl,rfl,rfl⟩:=hk
  refine o_ az ?_
  by_cases hk8:(k:Int)<8
  ·rw[dT_ hk8]
   refine ab ?_
   have hbl:=IB (k:=k) hcl (show x<256 from hx)
   have hxl:x / 2^k<4294967296:=Nat.lt_of_le_of_lt (Nat.div_le_self _ _) (by omega)
   have hsu:=CE C x k
   have hx2:x / 2^k / 2=x / 2^(k+1):=by rw[Nat.pow_succ,Nat.div_div_eq_div_mul]
   refine o_ we ?_
   rw[xt hbl hxl]
   refine o_ fT ?_
   rw[AV (iN hbl hxl)]
   refine o_ aP (o_ (eQ (by decide)) ?_)
   rw[P1]
   refine o_ (eQ (by decide)) ?_
   rw[P1,hx2]
   obtain⟨X,hX⟩:∃X,X=jy C x k ^^^ x / 2^k:=⟨_,rfl⟩
   rw[<- hX]at hsu ⊢
   by_cases hp:X%2=1
   ·rw[if_pos hp]at hsu
    rw[dT_ (by omega)]
    refine ab (o_ we ?_)
    rw[show(3988292384:Int)=((3988292384:Nat):Int)from rfl,xt (by omega) (by decide),show jy C x k / 2 ^^^ 3988292384=jy C x (k+1)from hsu.symm]
    refine bG ?_
    refine cr (m8-1) (by omega) (.pu ⟨k+1,by omega,rfl,rfl,by rfl⟩ ?_)
    exact aw
   ·rw[if_neg hp]at hsu
    rw[dF_ (by omega),<- hsu]
    refine aa (bG ?_)
    refine cr (m8-1) (by omega) (.pu ⟨k+1,by omega,rfl,rfl,by rfl⟩ ?_)
    exact aw
  obtain rfl:k=8:=by omega
  rw[dF_ hk8,LW C hx,<- hst]
  refine aa (bG ?_)
  refine bo (m-1) (by omega) (.pu ⟨i+1,by omega,rfl,by rfl⟩ ?_)
  exact aw
 have hie:i=b.length:=by omega
 subst hie
 have hcl:=lw b (oL hs)
 rw[dF_ hlt,List.take_length]
 refine aa (o_ (Be hcl) ?_)
 refine bq () ?_
 exact aw
theorem P2 {W:World}{a:Option Addr}{c:Nat}{b:List UInt8}{A:HP}(hr:RdB W A a b.length (b.map Sl.B))(hb:b.length<=4611686018427387904):
  Cn p_ 106 [.slice a b.length c] W [A] (fun _:Unit=> .int .u32 (pE b:Int)) (fun _=>[A]):=by
 (refine Shp.cn (Sg.g_ Tryz.call106 Tryz.func106) fun F=>?_;simp only[ca_,na_])
 refine c_ (ST (s:=0) (by decide) hr hb) fun _=>?_
 refine bq () ?_
 exact .refl
theorem JB {W:World}{n:Nat}(hn:n<4294967296):
  Cn p_ 108 [.int .u32 (n:Int)] W [] (fun q:Nat=> .slice (some ⟨q,0,none⟩) (du n).length (du n).length) (fun q=>[Sl 1 5 (some ⟨q,0,none⟩) (du n).length (du n).length ((du n).map Sl.B)]):=by
 (refine Shp.cn (Sg.g_ Tryz.call108 Tryz.func108) fun F=>?_;simp only[ca_,na_])
 refine o_ (br (q:= .u8)) ?_
 rw[gG]
 refine o_ (eQ (by decide)) ?_
 rw[show(8:Int)=((8:Nat):Int)from rfl,lP (by omega)]
 refine o_ (br (q:= .u8)) ?_
 rw[gG]
 refine o_ (eQ (by decide)) ?_
 rw[show(16:Int)=((16:Nat):Int)from rfl,lP (by omega)]
 refine o_ (br (q:= .u8)) ?_
 rw[gG]
 refine o_ (eQ (by decide)) ?_
 rw[show(24:Int)=((24:Nat):Int)from rfl,lP (by omega)]
 refine o_ (br (q:= .u8)) ?_
 rw[gG]
 have hf:(du n).map Sl.B=[.int .u8 ((n%256:Nat):Int),.int .u8 ((n / 2^8%256:Nat):Int),.int .u8 ((n / 2^16%256:Nat):Int),.int .u8 ((n / 2^24%256:Nat):Int)]:=by
  unfold du
  simp only[List.map_cons,List.map_nil]
  rw[Go.Proofs.YtndojgomlkpeaaaGreatDoor.M.eZ (by omega),Go.Proofs.YtndojgomlkpeaaaGreatDoor.M.eZ (by omega),Go.Proofs.YtndojgomlkpeaaaGreatDoor.M.eZ (by omega),Go.Proofs.YtndojgomlkpeaaaGreatDoor.M.eZ (by omega)]
 refine f_ (vs:=(du n).map Sl.B) rfl (by rw[hf];rfl) (by intro v hv;obtain⟨c,_,rfl⟩:=List.mem_map.1 hv;rfl) (by omega) fun gd=>?_
 refine tj (s:=1) (e:=5) (cs:=(du n).map Sl.B) (n:=4) .here rfl (by decide) ?_
 refine bq gd ?_
 exact aw
theorem LY (b:List UInt8):(rZ b).length=8:=rfl
theorem P3 {W:World}{a:Option Addr}{c:Nat}{b:List UInt8}{A:HP}(hr:RdB W A a b.length (b.map Sl.B))(hb:b.length<=4611686018427387904):
  Cn p_ 77 [.slice a b.length c] W [A] (fun q:Option Addr × Nat=> .slice q.1 (rZ b).length q.2) (fun q=>[Sl 1 5 q.1 q.2 (rZ b).length ((rZ b).map Sl.B),A]):=by
 (refine Shp.cn (Sg.g_ Tryz.call77 Tryz.func77) fun F=>?_;simp only[ca_,na_])
 refine aB (P2 (c:=c) hr hb) (.cons (by repeat constructor) .nil) fun _=>?_
 refine aq ?_
 refine c_ (JB (rY b)) fun _=>?_
 rename_i g4
 refine o_ aC (o_ (br (q:= .u32)) ?_)
 rw[rX,show((b.length:Int)%4294967296).toNat=b.length%4294967296 by omega]
 refine c_ (JB (n:=b.length%4294967296) (by omega)) fun _=>?_
 rename_i g5
 refine bO (m:=4) (news:=(du (b.length%4294967296)).map Sl.B) (by(repeat constructor):Pick _ (Sl 1 5 (some ⟨g4,0,none⟩) (du (pE b)).length (du (pE b)).length ((du (pE b)).map Sl.B)) _) (dF (A:=Sl 1 5 (some ⟨g5,0,none⟩) (du (b.length%4294967296)).length (du (b.length%4294967296)).length ((du (b.length%4294967296)).map Sl.B)) (e':=5) (by kernel_rfl) (by repeat constructor) (cq (by rfl) (fun _=>⟨g5,rfl⟩)) (fun c=>by cases c) dY) (by rw[show(du (pE b)).length=4 from rfl];decide) (by rw[show(du (pE b)).length=4 from rfl];decide) fun a3 c3=>?_
 rw[<- List.map_append,show(du (pE b)).length+4=(rZ b).length from rfl,show du (pE b)++du (b.length%4294967296)=rZ b from rfl]
 refine bq ((a3,c3)) ?_
 exact aw
end GZ
namespace GZ
open Go Sl IF B M HM HF
def so (most:Int)(b out:List UInt8):Except Int (List UInt8 × List UInt8):=
 match eb b with
 | .error e=> .error e
 | .ok l=>
  if aE l (most-out.length)≠0 then .error (aE l (most-out.length))else
  if l.length<(aU l (most-out.length)).toNat+8 then .error 20 else
  if(l.drop (aU l (most-out.length)).toNat).take 8≠rZ (aO l (most-out.length))then .error 32 else
  .ok ((l.drop (aU l (most-out.length)).toNat).drop 8,out++aO l (most-out.length))
def Gc (most:Int):Nat->List UInt8->List UInt8->Nat->Except Int (List UInt8 × Nat)
 |0,_,_,_=> .error 0
 |f+1,b,out,n=>if n≠0/\b=[]then .ok (out,n)else match so most b out with
  | .error e=> .error e
  | .ok x=>Gc most f x.1 x.2 (n+1)
def Nb (most:Int)(b:List UInt8):Except Int (List UInt8 × Nat):=Gc most (b.length+1) b [] 0
theorem FE {most:Int}{b out r o:List UInt8}(h:so most b out= .ok (r,o)):r.length<b.length:=by
 unfold so at h
 cases hh:eb b with
 |error e=>rw[hh]at h;cases h
 |ok l=>
  rw[hh]at h
  have:=vI hh
  dsimp only at h
  split at h
  ·cases h
  ·split at h
   ·cases h
   ·split at h
    ·cases h
    ·injection h with h
     injection h with h1 h2
     subst h1
     simp only[List.length_drop]
     omega
theorem sq {most:Int}:∀(f g:Nat) {b out:List UInt8} {n:Nat},b.length<f->b.length<g->Gc most f b out n=Gc most g b out n
 |0,_,b,out,n,h,_=>by omega
 |_,0,b,out,n,_,h=>by omega
 |f+1,g+1,b,out,n,hf,hg=>by
  unfold Gc
  split
  ·rfl
  ·cases hm:so most b out with
   |error e=>rfl
   |ok x=>
    obtain⟨r,o⟩:=x
    have:=FE hm
    exact sq f g (by dsimp only;omega) (by dsimp only;omega)
def Bk (most:Int)(b out:List UInt8)(n:Nat)(R:Except Int (List UInt8 × Nat)):Prop:=∀f,b.length<f->Gc most f b out n=R
theorem vJ {most:Int}{b:List UInt8}:Bk most b [] 0 (Nb most b):=fun f h=>sq f (b.length+1) h (Nat.lt_succ_self _)
theorem Bk.nil {most:Int}{out:List UInt8}{n:Nat}{R:Except Int (List UInt8 × Nat)}(h:Bk most [] out n R)(hn:n≠0):R= .ok (out,n):=by
 rw[<- h 1 (by simp)]
 unfold Gc
 rw[if_pos ⟨hn,rfl⟩]
theorem Bk.step {most:Int}{b out:List UInt8}{n:Nat}{R:Except Int (List UInt8 × Nat)}(h:Bk most b out n R)(hn:¬(n≠0/\b=[])):(∃e,so most b out= .error e/\R= .error e)\/∃r o,so most b out= .ok (r,o)/\Bk most r o (n+1) R:=by
 cases hm:so most b out with
 |error e=>
  refine .inl ⟨e,rfl,?_⟩
  rw[<- h (b.length+1) (Nat.lt_succ_self _)]
  unfold Gc
  rw[if_neg hn,hm]
 |ok x=>
  obtain⟨r,o⟩:=x
  refine .inr ⟨r,o,rfl,fun f hf=>?_⟩
  have hlt:=FE hm
  rw[<- h (b.length+1) (Nat.lt_succ_self _),show Gc most (b.length+1) b out n=Gc most b.length r o (n+1) by
   show(if n≠0/\b=[]then _ else _)=_
   rw[if_neg hn,hm]]
  exact sq _ _ hf hlt
def FF (most:Int)(l out:List UInt8):Except Int (List UInt8 × List UInt8):=
  if aE l (most-out.length)≠0 then .error (aE l (most-out.length))else
  if l.length<(aU l (most-out.length)).toNat+8 then .error 20 else
  if(l.drop (aU l (most-out.length)).toNat).take 8≠rZ (aO l (most-out.length))then .error 32 else
  .ok ((l.drop (aU l (most-out.length)).toNat).drop 8,out++aO l (most-out.length))
theorem FG {most:Int}{b out:List UInt8}{e:Int}(h:eb b= .error e):so most b out= .error e:=by
 unfold so;rw[h]
theorem FH {most:Int}{b l out:List UInt8}(h:eb b= .ok l):so most b out=FF most l out:=by
 unfold so;rw[h];rfl
theorem FI {b:List UInt8}{most:Int}:aU b most=((aU b most).toNat:Int):=by
 have:0<=aU b most:=by
  unfold aU
  split
  ·omega
  ·exact Int.le_refl _
 omega
theorem ug {b:List UInt8}{most:Int}:∀(f:Nat) {at_:Nat} {out:List UInt8} {l:List (Int × Int)} {v:Nat × List UInt8 × List (Int × Int)},(out.length:Int)<=most->kF b most f at_ out l= .ok v->(v.2.1.length:Int)<=most
 |0,_,_,_,_,_,h=>by cases h
 |f+1,at_,out,l,v,h0,h=>by
  rw[kF]at h
  obtain⟨d1,h⟩:=aQ h
  obtain⟨d2,h⟩:=aQ h
  cases hr:gQ (bE b (aN b at_ 1) 2) b most (aN b (aN b at_ 1) 2) out with
  |error e=>rw[hr]at h;cases h
  |ok q=>
   obtain⟨a,o⟩:=q
   have ho:=ry hr h0
   rw[hr]at h
   simp only at h
   split at h
   ·exact ug f ho h
   ·cases h;exact ho
theorem JC {b:List UInt8}{most:Int}(h0:0<=most):((aO b most).length:Int)<=most:=by
 unfold aO
 split
 ·rename_i v hv
  unfold sO at hv
  obtain⟨_,hv⟩:=aQ hv
  obtain⟨_,hv⟩:=aQ hv
  exact ug _ (by simpa using h0) hv
 ·simpa using h0
end GZ
namespace GZ
open Go Go.Proofs Go.RowKit Sh Sl T IF B M
def dE:Hd->Int
 | .ok _=>0
 | .error e=>e
def FJ (b:List UInt8)(a:Int):Hd->Prop
 | .ok l=>∃k:Nat,k<=b.length/\a=(k:Int)/\l=b.drop k
 | .error e=>e≠0
def vW (W:World)(A:HP)(p:Nat)(b:List UInt8)(s:Hd):HP:=ex fun q:(Option Addr × Nat) × Int=>all [pt p (.cells #[.slice q.1.1 b.length q.1.2,.int .i64 q.2,.int .i64 (dE s)] 116),pu (RdB W A q.1.1 b.length (b.map Sl.B)/\b.length<=q.1.2/\FJ b q.2 s)]
theorem sY {W:World}{A:HP}{p:Nat}{b:List UInt8}{s:Hd}{L L':List HP}{S:WP}(q:Pick L (vW W A p b s) L')(h:∀(qa:Option Addr) (qc:Nat) (k:Int),RdB W A qa b.length (b.map Sl.B)->b.length<=qc->FJ b k s->aZ W (pt p (.cells #[.slice qa b.length qc,.int .i64 k,.int .i64 (dE s)] 116)::L') S):aZ W L S:=
 yw q (aH .here fun x=>ap .here (aG (.there .here) fun hq=>h x.1.1 x.1.2 x.2 hq.1 hq.2.1 hq.2.2))
theorem vK {W:World}{A:HP}{p:Nat}{b:List UInt8}{s:Hd}{L L' M:List HP}{qa:Option Addr}{qc:Nat}{k e:Int}(he:e=dE s)(q:Pick L (pt p (.cells #[.slice qa b.length qc,.int .i64 k,.int .i64 e] 116)) L')(hr:RdB W A qa b.length (b.map Sl.B))(hc:b.length<=qc)(hf:FJ b k s)(h:Imp W L' M):Imp W L (vW W A p b s::M):=by
 subst he
 exact .ex ((qa,qc),k) (.all (.pick q (.pu ⟨hr,hc,hf⟩ h)))
theorem FK {W:World}{A:HP}{p:Nat}{b:List UInt8}{s:Hd}{L L':List HP}{S:WP}{qa:Option Addr}{qc:Nat}{k e:Int}(he:e=dE s)(q:Pick L (pt p (.cells #[.slice qa b.length qc,.int .i64 k,.int .i64 e] 116)) L')(hr:RdB W A qa b.length (b.map Sl.B))(hc:b.length<=qc)(hf:FJ b k s)(h:aZ W (vW W A p b s::L') S):aZ W L S:=
 bF (vK he q hr hc hf .refl) h
def lR (n:Nat)(s:Hd):Hd:=eo s fun l=>if n<=l.length then .ok (l.drop n)else .error 20
def xT (n:Nat):Hd->List UInt8
 | .ok l=>if n<=l.length then l.take n else List.replicate n 0
 | .error _=>List.replicate n 0
def Ge (w:Bool)(s:Hd):Hd:=eo s fun l=>if w then .error 32 else .ok l
theorem vL (n:Nat)(s:Hd):(xT n s).length=n:=by
 unfold xT
 split
 ·split
  ·rw[List.length_take];omega
  ·rw[List.length_replicate]
 ·rw[List.length_replicate]
theorem Bl {W:World}{A:HP}{p:Nat}{b:List UInt8}{s:Hd}{w:Bool}:Cn p_ 76 [.pointer (some ⟨p,0,none⟩),.bool w] W [vW W A p b s] (fun _:Unit=> .tuple #[]) (fun _=>[vW W A p b (Ge w s)]):=by
 (refine Shp.cn (Sg.g_ Tryz.call76 Tryz.func76) fun F=>?_;simp only[ca_,na_])
 refine sY (A:=A) (p:=p) (b:=b) (s:=s) .here fun qa qc k hr hc hf=>?_
 cases s with
 |ok l=>
  rw[show dE (.ok l)=0 from rfl]
  refine o_ au (o_ aj (bJ ?_))
  refine o_ aP ?_
  rw[dT_ rfl]
  cases w with
  |true=>
   refine ae (o_ ah (ab (o_ au (o_ aj (eE ?_)))))
   refine bq () ?_
   exact vK (by rfl) (by repeat constructor) hr hc (show(32:Int)≠0 by decide) .refl
  |false=>
   refine ae (o_ ah (aa (bq () ?_)))
   exact vK (s:= .ok l) (by rfl) (by repeat constructor) hr hc hf .refl
 |error e=>
  rw[show dE (.error e)=e from rfl]
  refine o_ au (o_ aj (bJ ?_))
  refine o_ aP ?_
  rw[dF_ (show ¬e=0 from hf)]
  refine af (o_ ag (aa (bq () ?_)))
  exact vK (s:= .error e) (by rfl) (by repeat constructor) hr hc hf .refl
theorem pH {W:World}{A:HP}{p n:Nat}{b:List UInt8}{s:Hd}(hn:n<=100000)(hb:b.length<=1048576):Cn p_ 75 [.pointer (some ⟨p,0,none⟩),.int .i64 (n:Int)] W [vW W A p b s,A]
  (fun x:{q:(Option Addr × Nat) × HP // RdB W q.2 q.1.1 n ((xT n s).map Sl.B)/\∀ {L L':List HP} {S:WP},Pick L q.2 L'->aZ W (A::L') S->aZ W L S}=> .slice x.1.1.1 n x.1.1.2) (fun x=>[vW W A p b (lR n s),x.1.2]):=by
 (refine Shp.cn (Sg.g_ Tryz.call75 Tryz.func75 (an:={cuts:=[(3,[])],drs:=[(1,.ofL [(0,1),(1,1),(2,1),(3,1),(4,1),(5,1),(6,1),(7,1),(8,1),(9,1),(10,1),(11,1),(12,1),(13,1),(14,1),(15,1),(16,1),(17,1),(18,1)]),(6,.ofL [(0,1),(1,1),(2,1),(3,1),(4,1),(5,1),(6,1),(7,1),(8,1),(9,1),(10,1),(11,1),(12,1),(13,1),(14,1),(15,1)])]})) fun F=>?_;simp only[ca_,na_])
 refine sY (A:=A) (p:=p) (b:=b) (s:=s) .here fun qa qc k hr hc hf=>?_
 obtain⟨s1,hs1⟩:∃s1:Hd,s1=eo s fun l=>if n<=l.length then .ok l else .error 20:=⟨_,rfl⟩
 refine cP (pu (FJ b k s1)::pt p (.cells #[.slice qa b.length qc,.int .i64 k,.int .i64 (dE s1)] 116)::A::F) ?_ ?_
 rotate_left
 ·refine bA ?_
  cases s with
  |ok l=>
   obtain⟨j,hj,rfl,rfl⟩:=hf
   rw[show dE (.ok (b.drop j))=0 from rfl]
   have hs1:s1=if n<=(b.drop j).length then .ok (b.drop j)else .error 20:=hs1
   rw[List.length_drop]at hs1
   refine t_ au (t_ aj (ew ?_))
   refine t_ aP ?_
   rw[dT_ rfl]
   refine ae (ae (ae (t_ au (ae (t_ aj (ae (ew ?_)))))));refine ae (t_ aC (ae (ae (t_ au (ae (t_ aj (ae (ew ?_))))))));refine ae ?_;(refine t_ (dv (by omega) (by omega)) ?_);refine ae (t_ aV ?_)
   by_cases h:((b.length:Int)-(j:Int))<(n:Int)
   ·rw[if_neg (by omega)]at hs1
    subst hs1
    rw[dT_ h]
    refine t_ ah (ab (o_ au (o_ aj (eE ?_))))
    refine aD (.pu (show(20:Int)≠0 by decide) ?_)
    exact aw
   ·rw[if_pos (by omega)]at hs1
    subst hs1
    rw[dF_ h]
    refine t_ ah (aa (aD (.pu ⟨j,hj,rfl,rfl⟩ ?_)))
    exact aw
  |error e=>
   obtain rfl:s1= .error e:=hs1
   rw[show dE (.error e)=e from rfl]
   refine t_ au (t_ aj (ew ?_))
   refine t_ aP ?_
   rw[dF_ (show ¬e=0 from hf)]
   refine af (af (af (af (af (af (af (af (af (af (af (af (t_ ag (aa (aD (.pu hf ?_)))))))))))))))
   exact aw
 intro ds
 refine aG .here fun hf1=>?_
 have hz:∀ {e:Int},s1= .error e->lR n s= .error e/\xT n s=List.replicate n 0:=by
  intro e h
  rw[h]at hs1
  cases s with
  |ok l=>
   have hs1:Except.error e=if n<=l.length then(.ok l:Hd)else .error 20:=hs1
   by_cases c:n<=l.length
   ·rw[if_pos c]at hs1;cases hs1
   ·rw[if_neg c]at hs1
    cases hs1
    exact⟨if_neg c,if_neg c⟩
  |error e2=>
   have hs1:Except.error e=(.error e2:Hd):=hs1
   cases hs1
   exact⟨rfl,rfl⟩
 cases hs:s1 with
 |error e=>
  obtain⟨z1,z2⟩:=hz hs
  rw[z1,z2]
  rw[hs]at hf1
  have hf1:e≠0:=hf1
  rw[show dE (.error e)=e from rfl]
  refine o_ au (o_ aj (bJ ?_))
  refine o_ bK ?_
  rw[dT_ hf1]
  refine ab (ep (e:=5) (b:=1) n n rfl rfl (Nat.le_refl _) (by omega) (by unfold maxLen;omega) fun g=>?_)
  refine aR ⟨((some ⟨g,0,none⟩,n),all [A,Sl 1 5 (some ⟨g,0,none⟩) n n (List.replicate n (.int .u8 0))]),?_,?_⟩ rfl ?_
  ·rw[List.map_replicate]
   exact Bj (cq (by rw[List.length_replicate]) fun _=>⟨g,rfl⟩)
  ·exact fun q h=>ap q (bF (.pick .here (.drop .refl)) h)
  ·refine vK (s:= .error e) (by rfl) (by repeat constructor) hr hc hf1 (.all ?_)
   exact aw
 |ok l=>
  rw[hs]at hf1 hs1
  have hkey:s= .ok l/\n<=l.length:=by
   cases s with
   |ok l2=>
    have hs1:Except.ok l=if n<=l2.length then(.ok l2:Hd)else .error 20:=hs1
    by_cases c:n<=l2.length
    ·rw[if_pos c]at hs1;cases hs1;exact⟨rfl,c⟩
    ·rw[if_neg c]at hs1;cases hs1
   |error e2=>cases hs1
  obtain⟨rfl,hnl⟩:=hkey
  obtain⟨j,hj,rfl,rfl⟩:=hf1
  rw[List.length_drop]at hnl
  rw[show dE (.ok (b.drop j))=0 from rfl,show lR n (.ok (b.drop j))= .ok (b.drop (j+n)) by show(if n<=(b.drop j).length then _ else _)=_;rw[if_pos (by rw[List.length_drop];omega),List.drop_drop],show xT n (.ok (b.drop j))=(b.drop j).take n by show(if n<=(b.drop j).length then _ else _)=_;rw[if_pos (by rw[List.length_drop];omega)]]
  have h1:=hr.cut (cap:=qc) (l:=j) (h:=j+n) (by omega) (by omega) hc
  rw[<- List.map_drop,<- List.map_take,show j+n-j=n by omega]at h1
  refine o_ au (o_ aj (bJ ?_))
  refine o_ bK ?_
  rw[dF_ (by decide)]
  refine aa (o_ au (o_ aj (bJ ?_)));refine bG ?_;refine o_ au (o_ aj (eE ?_));refine bA (t_ au (t_ aj (ew ?_)));refine t_ au (t_ aj (ew ?_));(refine t_ (dv (by omega) (by omega)) ?_);refine t_ au (t_ aj (ew ?_))
  refine t_ (tq j (j+n) (by omega) (by omega) (by omega) (by omega)) ?_
  refine aR ⟨((if qc=j then qa else qa.map (·.add (j * 1)),qc-j),A),h1,fun q h=>yw q h⟩ (by rw[show j+n-j=n by omega]) ?_
  refine vK (s:= .ok (b.drop (j+n))) (by rfl) (by repeat constructor) hr hc ⟨j+n,by omega,by norm_cast,rfl⟩ ?_
  exact aw
end GZ
end Go.Proofs.YtndojgomlkpeaaaGreatDoor
