/- What is handed on: fields without those that are for one hop. Plain; no program in sight. No conditions but those that each names. (19 texts made one; each says below what it is.) -/
import Derived.Test.YthomhkpedghhgaaDoorK2
import Derived.KernelRfl
import Derived.Test.YthomhkpedghhgaaDoorRows
import Derived.Deep.DeepHandedRow
import Derived.LaidMore
import Derived.Lay
import Derived.MakeChecks
import Derived.Laws.StructEq
set_option linter.unusedVariables false
set_option linter.unusedSimpArgs false
set_option linter.unusedSectionVars false
namespace Go.Proofs.YthomhkpedghhgaaDoor.FD
open Go Go.Proofs Go.RowKit
def bs (s : String) : List UInt8 := s.toUTF8.toList
def tokL (v : List UInt8) : List (List UInt8) := (lsF (listF tokenF (elemsF false false v))).1
def sConnection : List UInt8 := [67, 111, 110, 110, 101, 99, 116, 105, 111, 110]
def sKeepAlive : List UInt8 := [75, 101, 101, 112, 45, 65, 108, 105, 118, 101]
def sProxyConn : List UInt8 := [80, 114, 111, 120, 121, 45, 67, 111, 110, 110, 101, 99, 116, 105, 111, 110]
def sProxyAuthe : List UInt8 := [80, 114, 111, 120, 121, 45, 65, 117, 116, 104, 101, 110, 116, 105, 99, 97, 116, 101]
def sProxyAutho : List UInt8 := [80, 114, 111, 120, 121, 45, 65, 117, 116, 104, 111, 114, 105, 122, 97, 116, 105, 111, 110]
def sTE : List UInt8 := [84, 69]
def sTrailer : List UInt8 := [84, 114, 97, 105, 108, 101, 114]
def sTransfer : List UInt8 := [84, 114, 97, 110, 115, 102, 101, 114, 45, 69, 110, 99, 111, 100, 105, 110, 103]
def sUpgrade : List UInt8 := [85, 112, 103, 114, 97, 100, 101]
def sHost : List UInt8 := [72, 111, 115, 116]
def shost : List UInt8 := [104, 111, 115, 116]
def sCL : List UInt8 := [67, 111, 110, 116, 101, 110, 116, 45, 76, 101, 110, 103, 116, 104]
def sExpect : List UInt8 := [69, 120, 112, 101, 99, 116]
def sVia : List UInt8 := [86, 105, 97]
def hop9 : List (List UInt8) := [sConnection, sKeepAlive, sProxyConn, sProxyAuthe, sProxyAutho, sTE, sTrailer, sTransfer, sUpgrade]
def tokNames (v : List UInt8) : List (List UInt8) := (tokL v).filter fun n => decide (n ≠ shost)
def hopN (l : List Fd) : List (List UInt8) := hop9 ++ (valsF l sConnection).flatMap tokNames
def stripF (l : List Fd) : List Fd := withF l (hopN l)
def own4 : List (List UInt8) := [sHost, sCL, sExpect, sVia]
def mark10 : List UInt8 := [49, 46, 48, 32, 103, 97, 116, 101, 104, 111, 117, 115, 101]
def mark11 : List UInt8 := [49, 46, 49, 32, 103, 97, 116, 101, 104, 111, 117, 115, 101]
def viaF (l : List Fd) (minor : Int) : List UInt8 := joinF [44, 32] (valsF l sVia ++ [if minor = 0 then mark10 else mark11])
def fwdF (l : List Fd) (host : List UInt8) (minor : Int) (dg : Option (List UInt8)) : List Fd :=
 (sHost, host) :: withF (stripF l) own4 ++ (sVia, viaF l minor) :: (match dg with | some d => [(sCL, d)] | none => [])
theorem vals_app (a b : List Fd) (n : List UInt8) : valsF (a ++ b) n = valsF a n ++ valsF b n := by unfold valsF; rw [List.filter_append, List.map_append]
theorem vals_cons (f : Fd) (l : List Fd) (n : List UInt8) : valsF (f :: l) n = if eqlF f.1 n then f.2 :: valsF l n else valsF l n := by
 unfold valsF
 rw [List.filter_cons]
 split <;> simp
theorem vals_none {l : List Fd} {n : List UInt8} (h : ∀ f ∈ l, eqlF f.1 n = false) : valsF l n = [] := by
 unfold valsF
 rw [List.filter_eq_nil_iff.2 (fun f hf => by rw [h f hf]; decide)]; rfl
theorem eql_low {a m n : List UInt8} (h : lowF m = lowF n) : eqlF a n = eqlF a m := by
 have hl : m.length = n.length := by have := congrArg List.length h; simpa [lowF] using this
 unfold eqlF
 rw [h, hl]
theorem vals_with {l : List Fd} {N : List (List UInt8)} {m n : List UInt8} (hm : m ∈ N) (h : lowF m = lowF n) : valsF (withF l N) n = [] := vals_none fun f hf => by
 have h2 := (List.mem_filter.1 hf).2
 rw [eql_low h]
 unfold noneF at h2
 cases he : eqlF f.1 m with
 | false => rfl
 | true =>
  have : N.any (fun n => eqlF f.1 n) = true := List.any_eq_true.2 ⟨m, hm, he⟩
  rw [this] at h2; cases h2
theorem vals_sub {l : List Fd} {p : Fd -> Bool} {n : List UInt8} (h : valsF l n = []) : valsF (l.filter p) n = [] := vals_none fun f hf => by
 have hm := (List.mem_filter.1 hf).1
 cases he : eqlF f.1 n with
 | false => rfl
 | true =>
  have : f.2 ∈ valsF l n := List.mem_map.2 ⟨f, List.mem_filter.2 ⟨hm, he⟩, rfl⟩
  rw [h] at this; cases this
theorem fwd_vals {l : List Fd} {host : List UInt8} {minor : Int} {dg : Option (List UInt8)} {n : List UInt8} (h0 : eqlF sHost n = false) (h1 : eqlF sVia n = false) (h2 : eqlF sCL n = false) (hn : (∃ m ∈ hop9, lowF m = lowF n) \/ ∃ m ∈ own4, lowF m = lowF n) : valsF (fwdF l host minor dg) n = [] := by
 have hmid : valsF (withF (stripF l) own4) n = [] := by
  rcases hn with ⟨m, hm, e⟩ | ⟨m, hm, e⟩
  ·exact vals_sub (vals_with (List.mem_append_left _ hm) e)
  ·exact vals_with hm e
 unfold fwdF
 rw [vals_app, vals_cons, vals_cons, hmid]
 simp only [h0, h1, Bool.false_eq_true, if_false, List.nil_append]
 cases dg with
 | none => rfl
 | some d => simp only [vals_cons, h2, Bool.false_eq_true, if_false]; rfl
theorem fwd_via {l : List Fd} {host : List UInt8} {minor : Int} {dg : Option (List UInt8)} {n : List UInt8} (h0 : eqlF sHost n = false) (h1 : eqlF sVia n = true) (h2 : eqlF sCL n = false) (hn : lowF sVia = lowF n) : valsF (fwdF l host minor dg) n = [viaF l minor] := by
 have hmid : valsF (withF (stripF l) own4) n = [] := vals_with (m := sVia) (by decide) hn
 unfold fwdF
 rw [vals_app, vals_cons, vals_cons, hmid]
 simp only [h0, h1, Bool.false_eq_true, if_false, if_true, List.nil_append]
 cases dg with
 | none => rfl
 | some d => simp only [vals_cons, h2, Bool.false_eq_true, if_false]; rfl
theorem fwd_host {l : List Fd} {host : List UInt8} {minor : Int} {dg : Option (List UInt8)} {n : List UInt8} (h0 : eqlF sHost n = true) (h1 : eqlF sVia n = false) (h2 : eqlF sCL n = false) (hn : lowF sHost = lowF n) : valsF (fwdF l host minor dg) n = [host] := by
 have hmid : valsF (withF (stripF l) own4) n = [] := vals_with (m := sHost) (by decide) hn
 unfold fwdF
 rw [vals_app, vals_cons, vals_cons, hmid]
 simp only [h0, h1, Bool.false_eq_true, if_false, if_true]
 cases dg with
 | none => rfl
 | some d => simp only [vals_cons, h2, Bool.false_eq_true, if_false]; rfl
theorem fwd_cl {l : List Fd} {host : List UInt8} {minor : Int} {dg : Option (List UInt8)} {n : List UInt8} (h0 : eqlF sHost n = false) (h1 : eqlF sVia n = false) (h2 : eqlF sCL n = true) (hn : lowF sCL = lowF n) : valsF (fwdF l host minor dg) n = dg.toList := by
 have hmid : valsF (withF (stripF l) own4) n = [] := vals_with (m := sCL) (by decide) hn
 unfold fwdF
 rw [vals_app, vals_cons, vals_cons, hmid]
 simp only [h0, h1, Bool.false_eq_true, if_false, List.nil_append]
 cases dg with
 | none => rfl
 | some d => simp only [vals_cons, h2, if_true]; rfl
def sGate : List UInt8 := [103, 97, 116, 101, 104, 111, 117, 115, 101]
theorem via_end (l : List Fd) (minor : Int) : ∃ x, viaF l minor = x ++ sGate := by
 obtain ⟨m, hm, hm2⟩ : ∃ m : List UInt8, (if minor = 0 then mark10 else mark11) = m /\ ∃ y, m = y ++ sGate := by
  split
  ·exact ⟨_, rfl, [49, 46, 48, 32], rfl⟩
  ·exact ⟨_, rfl, [49, 46, 49, 32], rfl⟩
 obtain ⟨y, rfl⟩ := hm2
 unfold viaF
 rw [hm]
 cases valsF l sVia with
 | nil => exact ⟨y, by simp [joinF]⟩
 | cons v r => exact ⟨v ++ r.flatMap (fun w => [44, 32] ++ w) ++ [44, 32] ++ y, by simp [joinF, List.flatMap_append]⟩
def zF : List Fd -> Nat
 | [] => 0
 | f :: r => f.1.length + f.2.length + 3 + zF r
theorem zF_cons (f : Fd) (r : List Fd) : zF (f :: r) = f.1.length + f.2.length + 3 + zF r := rfl
theorem z_mem {l : List Fd} {f : Fd} (h : f ∈ l) : f.1.length + f.2.length + 3 <= zF l := by
 induction l with
 | nil => cases h
 | cons g r ih =>
  unfold zF
  rcases List.mem_cons.1 h with rfl | h
  ·omega
  ·have := ih h; omega
theorem z_len (l : List Fd) : 3 * l.length <= zF l := by
 induction l with
 | nil => simp [zF]
 | cons g r ih => unfold zF; rw [List.length_cons]; omega
theorem z_ok {l : List Fd} (h : zF l <= 2097152) : hOK l := ⟨by have := z_len l; omega, fun f hf => by have := z_mem hf; omega⟩
theorem z_filter (p : Fd -> Bool) (l : List Fd) : zF (l.filter p) <= zF l := by
 induction l with
 | nil => simp [zF]
 | cons g r ih =>
  rw [List.filter_cons, zF_cons]
  split
  ·rw [zF_cons]; omega
  ·omega
def zL : List (List UInt8) -> Nat
 | [] => 0
 | v :: r => v.length + 1 + zL r
theorem zL_cons (v : List UInt8) (r : List (List UInt8)) : zL (v :: r) = v.length + 1 + zL r := rfl
theorem zL_app (a b : List (List UInt8)) : zL (a ++ b) = zL a + zL b := by
 induction a with
 | nil => simp [zL]
 | cons v r ih => rw [List.cons_append, zL_cons, zL_cons, ih]; omega
theorem zL_mem {l : List (List UInt8)} {v : List UInt8} (h : v ∈ l) : v.length + 1 <= zL l := by
 induction l with
 | nil => cases h
 | cons g r ih =>
  unfold zL
  rcases List.mem_cons.1 h with rfl | h
  ·omega
  ·have := ih h; omega
theorem zL_vals (l : List Fd) (n : List UInt8) : zL (valsF l n) <= zF l := by
 induction l with
 | nil => simp [valsF, zL, zF]
 | cons g r ih =>
  rw [vals_cons, zF_cons]
  split
  ·rw [zL_cons]; omega
  ·omega
theorem tokL_len (v : List UInt8) : (tokL v).length <= v.length + 1 /\ ∀ w ∈ tokL v, w.length <= v.length := by
 have h1 := elems_num (q := false) (e := false) (l := v)
 unfold tokL listF
 split
 ·refine ⟨by simp [lsF]; omega, fun w hw => ?_⟩
  simp only [lsF, List.mem_map] at hw
  obtain ⟨x, hx, rfl⟩ := hw
  have := elems_len hx
  simpa [tokenF, lowF] using this
 ·exact ⟨by simp [lsF], fun w hw => by simp [lsF] at hw⟩
theorem names_len : ∀ V : List (List UInt8), (V.flatMap tokNames).length <= zL V
 | [] => Nat.zero_le _
 | v :: r => by
  have h1 := (tokL_len v).1
  have h2 := names_len r
  have h3 : (tokNames v).length <= (tokL v).length := List.length_filter_le _ _
  rw [List.flatMap_cons, List.length_append]
  unfold zL
  omega
theorem hopN_ok {l : List Fd} (h : zF l <= 2097152) : (hopN l).length <= 2097161 /\ ∀ n ∈ hopN l, n.length <= 4194304 := by
 have hv := zL_vals l sConnection
 refine ⟨?_, fun n hn => ?_⟩
 ·unfold hopN
  have := names_len (valsF l sConnection)
  rw [List.length_append, show hop9.length = 9 from rfl]; omega
 ·unfold hopN at hn
  rcases List.mem_append.1 hn with c | c
  ·have : ∀ n ∈ hop9, n.length <= 20 := by decide
   have := this n c; omega
  ·obtain ⟨v, hv1, hv2⟩ := List.mem_flatMap.1 c
   have h1 := (tokL_len v).2 n (List.mem_filter.1 hv2).1
   have h2 := zL_mem hv1
   omega
end Go.Proofs.YthomhkpedghhgaaDoor.FD
namespace Go.Proofs.YthomhkpedghhgaaDoor.FD
open Go Go.Proofs Go.RowKit Sh Sl T
theorem none_take {N : List (List UInt8)} {f : Fd} {j : Nat} (h : j < N.length) : noneF (N.take (j + 1)) f = (noneF (N.take j) f && !eqlF f.1 N[j]) := by
 unfold noneF
 rw [List.take_succ_eq_append_getElem h, List.any_append]
 simp
theorem txt_at {W : World} {A : HP} {g o n j : Nat} {N : List (List UInt8)} (hN : RdB W A (some ⟨g, o, none⟩) n (N.map txt)) (h : j < N.length) : RunV p_ W [A] (sLoad 9 (.pointer (some ⟨g, o + j, none⟩))) (txt N[j]) :=
 v_ldRd hN (by rw [List.getElem?_map, List.getElem?_eq_getElem h]; rfl)
theorem without {W : World} {l : List Fd} {N : List (List UInt8)} {a na : Option Addr} {c nc : Nat} {A NA : HP} (hA : RdF W A a l) (hl : hOK l) (hN : RdB W NA na N.length (N.map txt)) (hn : ∀ n ∈ N, n.length <= 4194304) (hNl : N.length <= 1099511627776) :
  Cn p_ 10 [.slice a l.length c, .slice na N.length nc] W [A, NA] (fun r : Option Addr × Nat => .slice r.1 (withF l N).length r.2)
  (fun r => [A, NA, Sl 2 35 r.1 r.2 (withF l N).length ((withF l N).flatMap pFd)]) := by
 (refine S.head_Without_s.cn fun F => ?_; unfold S.head_Without; simp only [ca_, na_])
 refine o_ v_len (e_loop2 (fun m x y => [ex fun st : (Option Addr × Nat) × Nat => all [pu (m + st.2 = l.length /\ x = .slice st.1.1 (withF (l.take st.2) N).length st.1.2 /\ y = .int .i64 (st.2 : Int)), Sl 2 35 st.1.1 st.1.2 (withF (l.take st.2) N).length ((withF (l.take st.2) N).flatMap pFd), A, NA]] ++ F) l.length ?_ ?_)
 ·refine Imp.ex ((none, 0), 0) (.all ?_)
  refine nr_ ?_
  refine .pu ⟨rfl, rfl, rfl⟩ ?_
  exact imp_nil .refl
 intro m ds x y
 refine nr_ ?_
 refine e_ex Pick.here fun st => e_all Pick.here ?_
 obtain ⟨⟨sa, sc⟩, i⟩ := st
 refine nr_ ?_
 refine e_pu Pick.here fun hi => ?_
 (try dsimp only at hi)
 obtain ⟨hmi, rfl, rfl⟩ := hi
 refine e_ask v_lss .nil (fun h => ?_) (fun h => ?_)
 ·have hil : i < l.length := by omega
  have hb := hl.2 _ (List.getElem_mem hil)
  have hv := with_take (N := N) hil
  have hvl := with_len (l.take i) N
  have hl1 := hl.1
  rw [List.length_take] at hvl
  refine e_condT ?_
  obtain ⟨g, o, rfl⟩ := rdF_at hA (Nat.zero_lt_of_lt hil)
  refine o_ (v_ia i rfl hil) ?_
  refine p_op (ld_fdA hA hil) ?_
  generalize l[i] = f at hb hv ⊢
  unfold vFd
  refine e_newA fun b7 => ?_
  refine e_stAgg .here (by rfl) (by rfl) (by intro u hu; simp at hu; rcases hu with rfl | rfl <;> rfl) ?_
  refine o_ v_len (e_loop1 (fun k y => pu (∃ j : Nat, k + j = N.length /\ y = .int .i64 (j : Int) /\ noneF (N.take j) f = true) :: pt b7 (.cells #[txt f.1, txt f.2] 35) :: Sl 2 35 sa sc (withF (l.take i) N).length ((withF (l.take i) N).flatMap pFd) :: A :: NA :: F) N.length ?_ ?_)
  ·refine .pu ⟨0, rfl, rfl, by simp [noneF]⟩ ?_
   exact im_
  intro k ds2 y
  refine e_pu .here fun hj => ?_
  obtain ⟨j, hkj, rfl, hno⟩ := hj
  refine e_ask v_lss .nil (fun h2 => ?_) (fun h2 => ?_)
  ·have hjl : j < N.length := by omega
   have hnl := hn _ (List.getElem_mem hjl)
   have hnt := none_take (f := f) hjl
   refine e_condT ?_
   obtain ⟨ng, no, rfl, _⟩ := hN.at_ (by omega)
   refine o_ (v_ia1 j rfl hjl) ?_
   refine p_op (txt_at hN hjl) ?_
   refine o_ v_fa0 (ln_ ?_)
   refine e_call (equal (a := f.1) (b := N[j]) (by omega) (by omega)) .nil fun _ => ?_
   refine nr_ ?_
   cases he : eqlF f.1 N[j] with
   | true =>
    refine e_condT (ad_ ?_)
    have hbad : noneF N f = false := by
     unfold noneF
     rw [List.any_eq_true.2 ⟨_, List.getElem_mem hjl, he⟩]; rfl
    rw [hbad, if_neg (by decide), List.append_nil] at hv
    refine e_next2 (m - 1) (by omega) (.ex ((sa, sc), i + 1) (.all ?_))
    refine nr_ ?_
    (try dsimp only)
    rw [hv]
    refine .pu ⟨by omega, rfl, by norm_cast⟩ ?_
    exact im_
   | false =>
    refine e_condF (ad_ ?_)
    refine e_next1 (k - 1) (by omega) (.pu ⟨j + 1, by omega, by norm_cast, by rw [hnt, hno, he]; rfl⟩ ?_)
    exact im_
  ·have hjl : j = N.length := by omega
   subst hjl
   rw [List.take_length] at hno
   rw [hno, if_pos rfl] at hv
   refine e_condF (lg_ ?_)
   refine e_bslS (n := 1) (vs := [vFd f]) rfl (by omega) rfl (by intro v hv; rw [List.mem_singleton.1 hv]; rfl) (by omega) fun gb => ?_
   refine e_app (m := 1) (news := pFd f) (by (repeat constructor) : Pick _ (Sl 2 35 sa sc (withF (l.take i) N).length ((withF (l.take i) N).flatMap pFd)) _) (src_pt (s := 2) (e' := 35) (by kernel_rfl) .here (by rfl) (by intro u hu; simp [vFd, Value.cells] at hu; rcases hu with rfl | rfl <;> rfl)) (by omega) (by omega) fun a' c' => ?_
   refine ad_ ?_
   refine e_next2 (m - 1) (by omega) (.ex ((a', c'), i + 1) (.all ?_))
   refine nr_ ?_
   (try dsimp only)
   rw [hv, List.length_append, List.flatMap_append, List.length_singleton, List.flatMap_cons, List.flatMap_nil, List.append_nil]
   refine .pu ⟨by omega, rfl, by norm_cast⟩ ?_
   exact im_
 ·have : i = l.length := by omega
  subst this
  rw [List.take_length]
  refine e_condF (rt_ ((sa, sc)) ?_)
  exact im_
theorem ptokens {W : World} {l : List UInt8} (hl : l.length <= 2097152) : Cn p_ 23 [txt l] W [] (fun r : Option Addr × Nat => .tuple #[.slice r.1 (tokL l).length r.2, .int .i64 (lsF (tokensF l)).2])
  (fun r => [Sl 1 9 r.1 r.2 (tokL l).length ((tokL l).map txt)]) := by
 have e : ∀ L : List (List UInt8), L.flatMap pstring = L.map txt := fun L => by
  induction L with
  | nil => rfl
  | cons x r ih => rw [List.flatMap_cons, ih]; rfl
 (refine S.fields_Tokens_s.cn fun F => ?_; unfold S.fields_Tokens; simp only [ca_, na_])
 refine o_ v_rv ?_
 refine e_call (list_string hl fun w hw => token1 (by omega)) .nil fun r => ?_
 refine nr_ ?_
 refine o_ (v_extN (vs := [_, _]) .here) ?_
 refine o_ (v_extN (vs := [_, _]) (.there .here)) ?_
 refine rt_ r ?_
 rw [e]
 exact .refl
theorem filter_take {T : List (List UInt8)} {p : List UInt8 -> Bool} {j : Nat} (h : j < T.length) : (T.take (j + 1)).filter p = (T.take j).filter p ++ (if p T[j] then [T[j]] else []) := by
 rw [List.take_succ_eq_append_getElem h, List.filter_append]
 congr 1
 cases he : p T[j] <;> simp [he]
theorem flat_take {V : List (List UInt8)} {f : List UInt8 -> List (List UInt8)} {i : Nat} (h : i < V.length) : (V.take (i + 1)).flatMap f = (V.take i).flatMap f ++ f V[i] := by
 rw [List.take_succ_eq_append_getElem h, List.flatMap_append]; simp
theorem flat_take_len {V : List (List UInt8)} {f : List UInt8 -> List (List UInt8)} {i : Nat} : ((V.take i).flatMap f).length <= (V.flatMap f).length := by
 have : V.flatMap f = (V.take i).flatMap f ++ (V.drop i).flatMap f := by rw [<- List.flatMap_append, List.take_append_drop]
 rw [this, List.length_append]; omega
theorem strip {W : World} {l : List Fd} {a : Option Addr} {c : Nat} {A : HP} (hA : RdF W A a l) (hl : zF l <= 2097152) :
  Cn p_ 11 [.slice a l.length c] W [A] (fun r : Option Addr × Nat => .slice r.1 (stripF l).length r.2)
  (fun r => [A, Sl 2 35 r.1 r.2 (stripF l).length ((stripF l).flatMap pFd)]) := by
 have hok := z_ok hl
 obtain ⟨hn1, hn2⟩ := hopN_ok hl
 (refine S.pool_Strip_s.cn fun F => ?_; unfold S.pool_Strip; simp only [ca_, na_])
 refine e_bslN (n := 9) (vs := hop9.map txt) rfl rfl (by intro v hv; obtain ⟨c, _, rfl⟩ := List.mem_map.1 hv; rfl) (by omega) fun g0 => ?_
 refine e_own (s := 1) (n := 9) .here rfl (by decide) ?_
 refine e_call (values (n := sConnection) hA hok (by decide)) (.cons (by repeat constructor) .nil) fun r => ?_
 obtain ⟨va, vc⟩ := r
 refine nr_ ?_
 obtain ⟨V, hV⟩ : ∃ V, V = valsF l sConnection := ⟨_, rfl⟩
 have hzV : zL V <= zF l := by rw [hV]; exact zL_vals l sConnection
 have hVn := names_len V
 rw [<- hV]
 have hVl : V.length <= 4194304 := by rw [hV]; have := vals_len l sConnection; have := hok.1; omega
 refine o_ v_len (e_slfacts (by (repeat constructor) : Pick _ (Sl 1 9 va vc V.length (V.map txt)) _) fun _ _ _ hsV => ?_)
 refine e_loop2 (fun m x y => [ex fun st : (Option Addr × Nat) × Nat => all [pu (m + st.2 = V.length /\ x = .slice st.1.1 (hop9 ++ (V.take st.2).flatMap tokNames).length st.1.2 /\ y = .int .i64 (st.2 : Int)), Sl 1 9 st.1.1 st.1.2 (hop9 ++ (V.take st.2).flatMap tokNames).length ((hop9 ++ (V.take st.2).flatMap tokNames).map txt), Sl 1 9 va vc V.length (V.map txt), A]] ++ F) V.length ?_ ?_
 ·refine Imp.ex ((some ⟨g0, 0, none⟩, 9), 0) (.all ?_)
  refine nr_ ?_
  refine .pu ⟨rfl, rfl, rfl⟩ ?_
  (try dsimp only)
  exact im_
 intro m ds x y
 refine nr_ ?_
 refine e_ex Pick.here fun st => e_all Pick.here ?_
 obtain ⟨⟨sa, sc⟩, i⟩ := st
 refine nr_ ?_
 refine e_pu Pick.here fun hi => ?_
 (try dsimp only at hi)
 obtain ⟨hmi, rfl, rfl⟩ := hi
 (try dsimp only)
 refine e_ask v_lss .nil (fun h => ?_) (fun h => ?_)
 ·have hil : i < V.length := by omega
  obtain ⟨gv, rfl⟩ := hsV (by omega)
  have hft := flat_take (f := tokNames) hil
  have hzi := zL_mem (List.getElem_mem hil)
  have hfl := flat_take_len (V := V) (f := tokNames) (i := i)
  refine e_condT (o_ (v_ia1 i rfl hil) ?_)
  rw [Nat.zero_add]
  have hld : (V.map txt)[i]? = some (txt V[i]) := by rw [List.getElem?_map, List.getElem?_eq_getElem hil]; rfl
  refine p_op (v_ldSl hld) ?_
  generalize V[i] = v at hft hzi ⊢
  refine e_call (ptokens (l := v) (by omega)) .nil fun r => ?_
  obtain ⟨ta, tc⟩ := r
  refine nr_ ?_
  (try dsimp only)
  refine o_ (v_extN (vs := [_, _]) .here) ?_
  refine o_ (v_extN (vs := [_, _]) (.there .here)) ?_
  refine o_ v_len ?_
  obtain ⟨T, hT⟩ : ∃ T, T = tokL v := ⟨_, rfl⟩
  have hTl := (tokL_len v).1
  rw [<- hT] at hTl ⊢
  obtain ⟨P, hP⟩ : ∃ P, P = hop9 ++ (V.take i).flatMap tokNames := ⟨_, rfl⟩
  have hPl : P.length <= 9 + (V.flatMap tokNames).length := by rw [hP, List.length_append, show hop9.length = 9 from rfl]; omega
  rw [<- hP]
  refine e_slfacts .here fun _ _ _ hsT => ?_
  refine e_loop2 (fun k x y => [ex fun st : (Option Addr × Nat) × Nat => all [pu (k + st.2 = T.length /\ x = .slice st.1.1 (P ++ (T.take st.2).filter fun n => decide (n ≠ shost)).length st.1.2 /\ y = .int .i64 (st.2 : Int)), Sl 1 9 st.1.1 st.1.2 (P ++ (T.take st.2).filter fun n => decide (n ≠ shost)).length ((P ++ (T.take st.2).filter fun n => decide (n ≠ shost)).map txt), Sl 1 9 ta tc T.length (T.map txt), Sl 1 9 (some ⟨gv, 0, none⟩) vc V.length (V.map txt), A]] ++ F) T.length ?_ ?_
  ·refine Imp.ex ((sa, sc), 0) (.all ?_)
   refine nr_ ?_
   refine .pu ⟨rfl, by rw [List.take_zero, List.filter_nil, List.append_nil], rfl⟩ ?_
   rw [List.take_zero, List.filter_nil, List.append_nil]
   exact im_
  intro k ds2 x y
  refine nr_ ?_
  refine e_ex Pick.here fun st => e_all Pick.here ?_
  obtain ⟨⟨ua, uc⟩, j⟩ := st
  refine nr_ ?_
  refine e_pu Pick.here fun hj => ?_
  (try dsimp only at hj)
  obtain ⟨hkj, rfl, rfl⟩ := hj
  (try dsimp only)
  refine e_ask v_lss .nil (fun h2 => ?_) (fun h2 => ?_)
  ·have hjl : j < T.length := by omega
   obtain ⟨gt, rfl⟩ := hsT (by omega)
   have hfj := filter_take (p := fun n => decide (n ≠ shost)) hjl
   have hfjl : ((T.take j).filter fun n => decide (n ≠ shost)).length <= T.length := Nat.le_trans (List.length_filter_le _ _) (by rw [List.length_take]; omega)
   refine e_condT (o_ (v_ia1 j rfl hjl) ?_)
   rw [Nat.zero_add]
   have hlt : (T.map txt)[j]? = some (txt T[j]) := by rw [List.getElem?_map, List.getElem?_eq_getElem hjl]; rfl
   refine p_op (v_ldSl hlt) ?_
   generalize T[j] = t at hfj ⊢
   refine o_ (v_strne (l := t) (m := shost)) ?_
   by_cases hh : t = shost
   ·rw [if_neg (by simpa using hh), List.append_nil] at hfj
    rw [dF_ (fun c => c hh)]
    refine e_condF (ad_ ?_)
    refine e_next2 (k - 1) (by omega) (.ex ((ua, uc), j + 1) (.all ?_))
    refine nr_ ?_
    (try dsimp only)
    rw [hfj]
    refine .pu ⟨by omega, rfl, by norm_cast⟩ ?_
    exact im_
   ·rw [if_pos (by simpa using hh)] at hfj
    rw [dT_ hh]
    refine e_condT (e_bslN (n := 1) (vs := [txt t]) rfl rfl (by intro v hv; rw [List.mem_singleton.1 hv]; rfl) (by omega) fun gb => ?_)
    refine e_app (m := 1) (news := [txt t]) (by (repeat constructor) : Pick _ (Sl 1 9 ua uc (P ++ (T.take j).filter fun n => decide (n ≠ shost)).length ((P ++ (T.take j).filter fun n => decide (n ≠ shost)).map txt)) _) (src_pt (s := 1) (e' := 9) (by kernel_rfl) .here (by rfl) (by intro u hu; rw [List.mem_singleton.1 hu]; rfl)) (by rw [List.length_append]; omega) (by rw [List.length_append]; omega) fun a' c' => ?_
    refine ad_ ?_
    refine e_next2 (k - 1) (by omega) (.ex ((a', c'), j + 1) (.all ?_))
    refine nr_ ?_
    (try dsimp only)
    rw [hfj, <- List.append_assoc, List.length_append (bs := [t]), List.map_append (l₂ := [t])]
    refine .pu ⟨by omega, rfl, by norm_cast⟩ ?_
    exact im_
  ·have hjl : j = T.length := by omega
   subst hjl
   rw [List.take_length]
   refine e_condF (ad_ ?_)
   refine e_next2 (m - 1) (by omega) (.ex ((ua, uc), i + 1) (.all ?_))
   refine nr_ ?_
   (try dsimp only)
   rw [hft, <- List.append_assoc, <- hP, show tokNames v = T.filter fun n => decide (n ≠ shost) by rw [hT]; rfl]
   refine .pu ⟨by omega, rfl, by norm_cast⟩ ?_
   exact im_
 ·have : i = V.length := by omega
  subst this
  rw [List.take_length]
  refine e_condF ?_
  have hN : hop9 ++ V.flatMap tokNames = hopN l := by unfold hopN; rw [hV]
  rw [hN]
  refine e_slfacts .here fun _ _ _ hs => ?_
  refine e_call (without (N := hopN l) hA hok (rd_sl (e := 9) (a := sa) (cap := sc) (by rw [List.length_map]) hs) hn2 (by omega)) (.cons (by repeat constructor) (.cons (by repeat constructor) .nil)) fun r => ?_
  refine nr_ ?_
  refine rt_ r ?_
  unfold stripF
  exact im_
end Go.Proofs.YthomhkpedghhgaaDoor.FD
namespace Go.Proofs.YthomhkpedghhgaaDoor.Sl
open Go Go.RowKit Sh
theorem wrU64 {n : Nat} (h : n < 18446744073709551616) : IntKind.u64.wrap (n : Int) = n := by
 simp only [IntKind.wrap, IntKind.bits, IntKind.signed]
 simp; omega
theorem wrU32 {n : Nat} (h : n < 4294967296) : IntKind.u32.wrap (n : Int) = n := by
 simp only [IntKind.wrap, IntKind.bits, IntKind.signed]
 simp; omega
theorem wrU8 {n : Nat} (h : n < 256) : IntKind.u8.wrap (n : Int) = n := by
 simp only [IntKind.wrap, IntKind.bits, IntKind.signed]
 simp; omega
theorem v_quoU {P : Program} {W : World} {t : TypeId} {q : IntKind} {a b : Nat} (hb : 0 < b) (hw : q.wrap ((a / b : Nat) : Int) = ((a / b : Nat) : Int)) : RunV P W [] (sBin .quo t (.int q (a : Int)) (.int q (b : Int))) (.int q ((a / b : Nat) : Int)) := fun w _ => by
 have h0 : ¬ (b : Int) = 0 := by omega
 have hw' : q.wrap ((a : Int) / (b : Int)) = (a : Int) / (b : Int) := by rw [show (a : Int) / (b : Int) = ((a / b : Nat) : Int) by norm_cast, hw]
 simp [sBin, sv, eqGuard, binOp, Op.intDiv, h0, show ¬ b = 0 by omega, hw']
theorem v_remU {P : Program} {W : World} {t : TypeId} {q : IntKind} {a b : Nat} (hb : 0 < b) : RunV P W [] (sBin .rem t (.int q (a : Int)) (.int q (b : Int))) (.int q ((a % b : Nat) : Int)) := by
 have := v_rem (P := P) (W := W) (t := t) (q := q) (a := (a : Int)) (b := (b : Int)) (by omega) (by omega)
 rw [show (a : Int) % (b : Int) = ((a % b : Nat) : Int) by norm_cast] at this
 exact this
theorem v_mulU {P : Program} {W : World} {t : TypeId} {q : IntKind} {a b : Nat} (hw : q.wrap ((a * b : Nat) : Int) = ((a * b : Nat) : Int)) : RunV P W [] (sBin .mul t (.int q (a : Int)) (.int q (b : Int))) (.int q ((a * b : Nat) : Int)) := by
 have := v_mulw (P := P) (W := W) (t := t) (q := q) (a := (a : Int)) (b := (b : Int))
 rw [show (a : Int) * (b : Int) = ((a * b : Nat) : Int) by norm_cast, hw] at this
 exact this
theorem v_addU {P : Program} {W : World} {t : TypeId} {q : IntKind} {a b : Nat} (hw : q.wrap ((a + b : Nat) : Int) = ((a + b : Nat) : Int)) : RunV P W [] (sBin .add t (.int q (a : Int)) (.int q (b : Int))) (.int q ((a + b : Nat) : Int)) := by
 have := v_addw (P := P) (W := W) (t := t) (q := q) (a := (a : Int)) (b := (b : Int))
 rw [show (a : Int) + (b : Int) = ((a + b : Nat) : Int) by norm_cast, hw] at this
 exact this
theorem v_shrU {P : Program} {W : World} {t : TypeId} {r : IntKind} {a k : Nat} (hk : k <= 64) : RunV P W [] (sBin .shr t (.int .u64 (a : Int)) (.int r (k : Int))) (.int .u64 ((a / 2 ^ k : Nat) : Int)) := by
 have := v_shr (P := P) (W := W) (t := t) (q := .u64) (r := r) (a := (a : Int)) (b := (k : Int)) (by omega)
 rw [show min ((k : Int)).toNat IntKind.u64.bits = k by simp only [IntKind.bits, Int.toNat_natCast]; omega, Int.fdiv_eq_ediv_of_nonneg _ (Int.le_of_lt (Int.pow_pos (by decide))), show (a : Int) / 2 ^ k = ((a / 2 ^ k : Nat) : Int) by norm_cast] at this
 exact this
theorem v_neg {P : Program} {W : World} {q : IntKind} {a : Int} : RunV P W [] (sUn .neg (.int q a)) (.int q (q.wrap (-a))) := fun w _ => by
 simp [sUn, Op.unary, Op.intArith]
theorem v_slAB {P : Program} {W : World} {t e : TypeId} {s len : Nat} {g l : Nat} {q r : IntKind} {i j : Int} (h : Nat) [ht : ArrT P t len e s] (hi : i = (l : Int)) (hj : j = (h : Int)) (hlh : l <= h) (hl : h <= len) (h0 : l < len) : RunV P W [] (sSl t (.pointer (some ⟨g, 0, none⟩)) (some (.int q i)) (some (.int r j)) none) (.slice (some ⟨g, l * s, none⟩) (h - l) (len - l)) := fun w _ => by
 have hne : ¬ len = l := by omega
 simp [sSl, Instr.sliceAt, Instr.sliceBounds, ht.ut, ht.size, run_bound h hj hl, run_bound l hi hlh, Instr.sureAddr, hne, Addr.add]
 exact fun h => h.symm
theorem v_slAh0 {P : Program} {W : World} {t e : TypeId} {s len : Nat} {g : Nat} {q : IntKind} {j : Int} (h : Nat) [ht : ArrT P t len e s] (hj : j = (h : Int)) (hl : h <= len) (h0 : 0 < len) : RunV P W [] (sSl t (.pointer (some ⟨g, 0, none⟩)) none (some (.int q j)) none) (.slice (some ⟨g, 0, none⟩) h len) := fun w _ => by
 have hne : len ≠ 0 := by omega
 simp [sSl, Instr.sliceAt, Instr.sliceBounds, ht.ut, ht.size, run_bound h hj hl, Instr.sureAddr, hne, Addr.add]
theorem v_ssb {P : Program} {W : World} {t : TypeId} {l : List UInt8} {q r : IntKind} {i j : Int} (a b : Nat) [ht : StrT P t] (hi : i = (a : Int)) (hj : j = (b : Int)) (hab : a <= b) (hb : b <= l.length) : RunV P W [] (sSl t (txt l) (some (.int q i)) (some (.int r j)) none) (txt ((l.take b).drop a)) := fun w _ => by
 have e : (⟨l.toArray⟩ : ByteArray).extract a b = ⟨((l.take b).drop a).toArray⟩ := by
  apply ByteArray.ext
  apply Array.ext'
  rw [ByteArray.data_extract]
  simp [List.extract_eq_take_drop, List.drop_take]
 have h1 := run_sb (P := P) (q := q) (w := w) (i := i) (y := b) (c := .sliceB) a hi hab
 have h2 := run_sb (P := P) (q := r) (w := w) (i := j) (y := l.length) (c := .sliceAlen) b hj hb
 have e0 : (⟨l.toArray⟩ : ByteArray).size = l.length := rfl
 simp [sSl, Instr.sliceAt, Instr.slice, Instr.sliceBounds, run_underlying ht.ut, txt, e0, h1, h2, e]
theorem rd_off {W : World} {g o n : Nat} {cs : Array Value} {ds : List Value} {T : TypeId} {fz : Nat × Nat} (hl : ds.length = n) (h : ∀ (j : Nat) (v : Value), ds[j]? = some v -> cs[o + j]? = some v) : RdB W (pt g (.cells cs T fz)) (some ⟨g, o, none⟩) n ds := ⟨hl, fun _ => ⟨g, o, rfl, fun w L hw j v hv => by rw [hw.cell]; exact h j v hv⟩⟩
end Go.Proofs.YthomhkpedghhgaaDoor.Sl
namespace Go.Proofs.YthomhkpedghhgaaDoor.FD
open Go Go.Proofs Go.RowKit Sh Sl T
class Gp (W : World) : Prop where
 lt : 1 < W.heap.size
 at_ : ∀ j, j < 20 -> W.cell? ⟨1, j, none⟩ = some (.int .u64 ((10 ^ j : Nat) : Int))
def IsLen (u n : Nat) : Prop := u < 2 ^ n /\ (n = 0 \/ 2 ^ (n - 1) <= u)
theorem isLen_shift {u k n : Nat} (h : IsLen (u / 2 ^ k) n) (hk : 2 ^ k <= u) : IsLen u (n + k) := by
 obtain ⟨h1, h2⟩ := h
 have h0 : 0 < u / 2 ^ k := Nat.div_pos hk (Nat.pow_pos (by decide))
 refine ⟨?_, .inr ?_⟩
 ·rw [Nat.pow_add]; exact (Nat.div_lt_iff_lt_mul (Nat.pow_pos (by decide))).1 h1
 ·rcases h2 with h2 | h2
  ·subst h2; simp at h1; omega
  ·have hn : n ≠ 0 := fun c => by subst c; simp at h1; omega
   rw [show n + k - 1 = (n - 1) + k by omega, Nat.pow_add]
   exact (Nat.le_div_iff_mul_le (Nat.pow_pos (by decide))).1 h2
theorem len8 : ∀ x, x < 256 -> ∃ n, S.lit1[x]? = some (UInt8.ofNat n) /\ n <= 8 /\ IsLen x n := by
 have : ∀ x, x < 256 -> ((S.lit1[x]?.map UInt8.toNat).getD 9 <= 8 /\ x < 2 ^ ((S.lit1[x]?.map UInt8.toNat).getD 9) /\ ((S.lit1[x]?.map UInt8.toNat).getD 9 = 0 \/ 2 ^ ((S.lit1[x]?.map UInt8.toNat).getD 9 - 1) <= x)) := by decide +kernel
 intro x hx
 obtain ⟨h1, h2, h3⟩ := this x hx
 have hl : x < S.lit1.length := by rw [show S.lit1.length = 256 by decide +kernel]; exact hx
 refine ⟨S.lit1[x].toNat, ?_, ?_, ?_, ?_⟩
 ·rw [List.getElem?_eq_getElem hl, UInt8.ofNat_toNat]
 all_goals rw [List.getElem?_eq_getElem hl] at h1 h2 h3
 ·exact h1
 ·exact h2
 ·exact h3
theorem len64 {W : World} {u : Nat} (hu : u < 18446744073709551616) : Cn p_ 54 [.int .u64 (u : Int)] W [] (fun n : { n : Nat // n <= 64 /\ IsLen u n } => .int .i64 (n.1 : Int)) (fun _ => []) := by
 (refine S.math_bits_Len64_s.cn fun F => ?_; unfold S.math_bits_Len64; simp only [ca_, na_])
 refine e_cut2 (fun x y => pu (∃ v s : Nat, x = .int .u64 (v : Int) /\ y = .int .i64 (s : Int) /\ v < 4294967296 /\ s <= 32 /\ ∀ n, IsLen v n -> IsLen u (n + s)) :: F) ?_ ?_
 rotate_left
 ·refine e_ask v_geq .nil (fun h => ?_) (fun h => ?_)
  ·refine e_condT (o_ (v_shrU (k := 32) (by decide)) ?_)
   refine e_sat (.pu ⟨_, 32, rfl, rfl, by omega, by omega, fun n hn => isLen_shift hn (by omega)⟩ .refl)
  ·refine e_condF (e_sat (.pu ⟨u, 0, rfl, rfl, by omega, by omega, fun n hn => hn⟩ .refl))
 intro ds x y
 refine e_pu .here fun hi => ?_
 obtain ⟨v, s, rfl, rfl, hv, hs, hL⟩ := hi
 refine e_cut2 (fun x y => pu (∃ v s : Nat, x = .int .u64 (v : Int) /\ y = .int .i64 (s : Int) /\ v < 65536 /\ s <= 48 /\ ∀ n, IsLen v n -> IsLen u (n + s)) :: F) ?_ ?_
 rotate_left
 ·refine e_ask v_geq .nil (fun h => ?_) (fun h => ?_)
  ·refine e_condT (o_ (v_shrU (k := 16) (by decide)) ?_)
   refine ad_ ?_
   refine e_sat (.pu ⟨_, s + 16, rfl, by norm_cast, by omega, by omega, fun n hn => by rw [show n + (s + 16) = (n + 16) + s by omega]; exact hL _ (isLen_shift hn (by omega))⟩ .refl)
  ·refine e_condF (e_sat (.pu ⟨v, s, rfl, rfl, by omega, by omega, hL⟩ .refl))
 intro ds2 x y
 refine e_pu .here fun hi => ?_
 obtain ⟨v2, s2, rfl, rfl, hv2, hs2, hL2⟩ := hi
 refine e_cut2 (fun x y => pu (∃ v s : Nat, x = .int .u64 (v : Int) /\ y = .int .i64 (s : Int) /\ v < 256 /\ s <= 56 /\ ∀ n, IsLen v n -> IsLen u (n + s)) :: F) ?_ ?_
 rotate_left
 ·refine e_ask v_geq .nil (fun h => ?_) (fun h => ?_)
  ·refine e_condT (o_ (v_shrU (k := 8) (by decide)) ?_)
   refine ad_ ?_
   refine e_sat (.pu ⟨_, s2 + 8, rfl, by norm_cast, by omega, by omega, fun n hn => by rw [show n + (s2 + 8) = (n + 8) + s2 by omega]; exact hL2 _ (isLen_shift hn (by omega))⟩ .refl)
  ·refine e_condF (e_sat (.pu ⟨v2, s2, rfl, rfl, by omega, by omega, hL2⟩ .refl))
 intro ds3 x y
 refine e_pu .here fun hi => ?_
 obtain ⟨v3, s3, rfl, rfl, hv3, hs3, hL3⟩ := hi
 refine o_ (v_conv (q := .u8)) ?_
 rw [wrU8 hv3]
 obtain ⟨n, h1, h2, h3⟩ := len8 v3 hv3
 have hl : v3 < S.lit1.length := by rw [show S.lit1.length = 256 by decide +kernel]; exact hv3
 rw [List.getElem?_eq_getElem hl] at h1
 have h1 := Option.some.inj h1
 refine o_ (v_ixS v3 rfl hl) ?_
 rw [h1, show Sl.B (UInt8.ofNat n) = .int .u8 (n : Int) by unfold Sl.B; rw [UInt8.toNat_ofNat']; rw [Nat.mod_eq_of_lt (by omega)]]
 refine o_ (v_conv (q := .i64)) ?_
 rw [w64 (by omega) (by omega)]
 refine ad_ ?_
 refine e_ret ⟨n + s3, by omega, hL3 n h3⟩ (by (try dsimp only); congr 1; omega) ?_
 exact .refl
def IsNd (u n : Nat) : Prop := 1 <= n /\ n <= 20 /\ 10 ^ (n - 1) <= u /\ u < 10 ^ n
theorem nd_tab : ∀ b, b <= 64 -> b * 78913 / 262144 <= 19 /\ 2 ^ b <= 10 ^ (b * 78913 / 262144 + 1) /\ (b * 78913 / 262144 ≠ 0 -> 10 ^ (b * 78913 / 262144 - 1) <= 2 ^ (b - 1)) := by decide +kernel
theorem nd_of {u b : Nat} (hu : u ≠ 0) (hb : b <= 64) (h : IsLen u b) : IsNd u (b * 78913 / 262144 + (if 10 ^ (b * 78913 / 262144) <= u then 1 else 0)) := by
 obtain ⟨h1, h2⟩ := h
 obtain ⟨t1, t2, t3⟩ := nd_tab b hb
 generalize b * 78913 / 262144 = k at t1 t2 t3 ⊢
 by_cases c : 10 ^ k <= u
 ·rw [if_pos c]
  exact ⟨by omega, by omega, by rw [Nat.add_sub_cancel]; exact c, by omega⟩
 ·rw [if_neg c]
  have hk : k ≠ 0 := fun e => c (by subst e; simp; omega)
  have hb0 : b ≠ 0 := fun e => by subst e; simp at h1; omega
  exact ⟨by omega, by omega, by have := t3 hk; rw [Nat.add_zero]; omega, by rw [Nat.add_zero]; omega⟩
theorem numDigits {W : World} [hG : Gp W] {u : Nat} (hu : u < 18446744073709551616) (h0 : u ≠ 0) : Cn p_ 47 [.int .u64 (u : Int)] W [] (fun n : { n : Nat // IsNd u n } => .int .i64 (n.1 : Int)) (fun _ => []) := by
 have hlog : ∀ b : Nat, b <= 64 -> Cn p_ 53 [.int .i64 (b : Int)] W [] (fun _ : Unit => .int .i64 ((b * 78913 / 262144 : Nat) : Int)) (fun _ => []) := fun b hb => by
  (refine S.istrconv_log10Pow2_s.cn fun F => ?_; unfold S.istrconv_log10Pow2; simp only [ca_, na_])
  refine o_ (v_mul (by omega) (by omega)) ?_
  refine o_ (v_shr (by decide)) ?_
  rw [show min (18 : Int).toNat IntKind.i64.bits = 18 from rfl, Int.fdiv_eq_ediv_of_nonneg _ (by decide), show ((b : Int) * 78913) / 2 ^ 18 = ((b * 78913 / 262144 : Nat) : Int) by omega]
  refine rt_ () ?_
  exact .refl
 have hbool : ∀ b : Bool, Cn p_ 55 [.bool b] W [] (fun _ : Unit => .int .i64 (if b then 1 else 0)) (fun _ => []) := fun b => by
  (refine S.istrconv_bool2_int_s.cn fun F => ?_; unfold S.istrconv_bool2_int; simp only [ca_, na_])
  cases b with
  | true =>
   refine e_condT (rt_ () ?_)
   exact .refl
  | false =>
   refine e_condF (rt_ () ?_)
   exact .refl
 (refine S.istrconv_numDigits_s.cn fun F => ?_; unfold S.istrconv_numDigits; simp only [ca_, na_])
 refine c_ (len64 hu) fun _ => ?_
 rename_i b
 obtain ⟨b, hb, hL⟩ := b
 (try dsimp only)
 refine c_ (hlog b hb) fun _ => ?_
 have hnd := nd_of h0 hb hL
 have hk := (nd_tab b hb).1
 generalize b * 78913 / 262144 = k at hk hnd ⊢
 refine o_ (v_iaA k rfl (by omega)) ?_
 rw [Nat.zero_add, Nat.mul_one]
 refine o_ (v_ldOld hG.lt (hG.at_ k (by omega))) ?_
 refine o_ v_geq (c_ (hbool _) fun _ => ?_)
 refine o_ (v_add (by split <;> omega) (by split <;> omega)) ?_
 refine e_ret ⟨_, hnd⟩ ?_ .refl
 (try dsimp only)
 congr 1
 by_cases c : 10 ^ k <= u
 ·rw [if_pos c, if_pos (dT_ (by norm_cast))]; norm_cast
 ·rw [if_neg c, if_neg (fun d => c (by have := of_decide_eq_true d; norm_cast at this))]; norm_cast
end Go.Proofs.YthomhkpedghhgaaDoor.FD
namespace Go.Proofs.YthomhkpedghhgaaDoor.FD
open Go Go.Proofs Go.RowKit Sh Sl T
def Dn (f : Nat -> Nat) : Array Value := ((List.range 24).map fun j => Value.int .u8 (f j : Int)).toArray
theorem Dn_size (f : Nat -> Nat) : (Dn f).size = 24 := by simp [Dn]
theorem Dn_get {j : Nat} {f : Nat -> Nat} (h : j < 24) : (Dn f)[j]? = some (.int .u8 (f j : Int)) := by simp [Dn, h]
def updN (f : Nat -> Nat) (j v : Nat) : Nat -> Nat := fun i => if i = j then v else f i
theorem Dn_set {j : Nat} {f : Nat -> Nat} {v : Nat} : (Dn f).setIfInBounds j (.int .u8 (v : Int)) = Dn (updN f j v) := by
 apply Array.ext_getElem?
 intro i
 rw [Array.getElem?_setIfInBounds]
 by_cases h : i < 24
 ·rw [Dn_get h, Dn_get h]
  unfold updN
  by_cases c : j = i
  ·subst c; rw [if_pos rfl, if_pos (by rw [Dn_size]; exact h), if_pos rfl]
  ·rw [if_neg c, if_neg (fun e => c e.symm)]
 ·rw [Array.getElem?_eq_none (xs := Dn f) (by rw [Dn_size]; omega), Array.getElem?_eq_none (xs := Dn (updN f j v)) (by rw [Dn_size]; omega)]
  by_cases c : j = i
  ·subst c; rw [if_pos rfl, if_neg (by rw [Dn_size]; exact h)]
  ·rw [if_neg c]
def partW (u n k : Nat) (f : Nat -> Nat) : Nat -> Nat := fun j => if k < j /\ j <= n then 48 + u / 10 ^ (n - j) % 10 else f j
theorem part_all (u n : Nat) (f : Nat -> Nat) : partW u n n f = f := by
 funext j
 unfold partW
 rw [if_neg (by omega)]
theorem pow_s (u a b : Nat) : u / 10 ^ (a + b) = u / 10 ^ a / 10 ^ b := by rw [Nat.pow_add, Nat.div_div_eq_div_mul]
theorem part_one {u n k : Nat} {f : Nat -> Nat} (h1 : 1 <= k) (h2 : k <= n) : updN (partW u n k f) k (48 + u / 10 ^ (n - k) % 10) = partW u n (k - 1) f := by
 funext j
 unfold updN partW
 by_cases c : j = k
 ·subst c; rw [if_pos rfl, if_pos (by omega)]
 ·rw [if_neg c]
  by_cases d : k < j /\ j <= n
  ·rw [if_pos d, if_pos (by omega)]
  ·rw [if_neg d, if_neg (by omega)]
theorem part_pair {u n k y : Nat} {f : Nat -> Nat} (h1 : 2 <= k) (h2 : k <= n) (hy : y = u / 10 ^ (n - k) % 100) : updN (updN (partW u n k f) k (48 + y % 10)) (k - 1) (48 + y / 10) = partW u n (k - 2) f := by
 have e1 : 48 + y % 10 = 48 + u / 10 ^ (n - k) % 10 := by omega
 have e2 : 48 + y / 10 = 48 + u / 10 ^ (n - (k - 1)) % 10 := by
  rw [show n - (k - 1) = (n - k) + 1 by omega, pow_s, Nat.pow_one]; omega
 rw [e1, e2, part_one (by omega) h2, part_one (by omega) (by omega)]
 rfl
theorem sm_tab : ∀ y, y < 100 -> S.lit0[y * 2]? = some (UInt8.ofNat (48 + y / 10)) /\ S.lit0[y * 2 + 1]? = some (UInt8.ofNat (48 + y % 10)) := by decide +kernel
theorem lit0_len : S.lit0.length = 200 := by decide +kernel
theorem B_nat {n : Nat} (h : n < 256) : Sl.B (UInt8.ofNat n) = .int .u8 (n : Int) := by unfold Sl.B; rw [UInt8.toNat_ofNat']; rw [Nat.mod_eq_of_lt h]
theorem ix_lo {W : World} {y : Nat} (hy : y < 100) : RunV p_ W [] (sIx 9 (txt S.lit0) (.int .u32 ((y * 2 : Nat) : Int))) (.int .u8 ((48 + y / 10 : Nat) : Int)) := by
 have hl : y * 2 < S.lit0.length := by rw [lit0_len]; omega
 have h := (sm_tab y hy).1
 rw [List.getElem?_eq_getElem hl] at h
 have := v_ixS (P := p_) (W := W) (t := 9) (l := S.lit0) (q := .u32) (i := ((y * 2 : Nat) : Int)) (y * 2) rfl hl
 rw [Option.some.inj h, B_nat (by omega)] at this
 exact this
theorem ix_hi {W : World} {y : Nat} (hy : y < 100) : RunV p_ W [] (sIx 9 (txt S.lit0) (.int .u32 ((y * 2 + 1 : Nat) : Int))) (.int .u8 ((48 + y % 10 : Nat) : Int)) := by
 have hl : y * 2 + 1 < S.lit0.length := by rw [lit0_len]; omega
 have h := (sm_tab y hy).2
 rw [List.getElem?_eq_getElem hl] at h
 have := v_ixS (P := p_) (W := W) (t := 9) (l := S.lit0) (q := .u32) (i := ((y * 2 + 1 : Nat) : Int)) (y * 2 + 1) rfl hl
 rw [Option.some.inj h, B_nat (by omega)] at this
 exact this
theorem e_pair {W : World} {L : List HP} {Kp : PK} {REST : WP} {g n c k u y : Nat} {K c1 c2 : Int} {f : Nat -> Nat} {T : TypeId} (hK1 : K - c1 = ((k - 1 : Nat) : Int)) (hK2 : K - c2 = ((k - 2 : Nat) : Int)) (h1 : 2 <= k) (h2 : k <= n) (h3 : n <= 20) (hy : y = u / 10 ^ (n - k) % 100)
    (h : Ent W (pt g (.cells (Dn (partW u n (k - 2) f)) T (0, 0)) :: L) REST) :
    Ent W (pt g (.cells (Dn (partW u n k f)) T (0, 0)) :: L) (drS (stS p_ (sBin .sub 3 (.int .i64 K) (.int .i64 c1)) fun x44 =>
     stD p_ (sBin .sub 3 (.int .i64 K) (.int .i64 c2)) fun D5 x47 =>
     stS p_ (sBin .add 116 (.int .u32 ((y * 2 : Nat) : Int)) (.int .u32 1)) fun x49 =>
     stS p_ (sIx 9 (txt S.lit0) x49) fun x50 =>
     stD p_ (sIx 9 (txt S.lit0) (.int .u32 ((y * 2 : Nat) : Int))) fun D10 x52 =>
     stS p_ (sIA 64 (.slice (some ⟨g, 1, none⟩) n c) x44) fun x53 =>
     opN p_ (sStore 5 x53 x50) Kp fun _ =>
     (fun w => D10 w /\ (fun w => D5 w /\ (stS p_ (sIA 64 (.slice (some ⟨g, 1, none⟩) n c) x47) fun x54 =>
        opN p_ (sStore 5 x54 x52) Kp fun _ => REST) w) w))) := by
  have hy100 : y < 100 := by omega
  refine e_drS (t_ (v_sub (by omega) (by omega)) ?_)
  refine e_stD (v_sub (by omega) (by omega)) .nil ?_
  refine t_ (v_addU (a := y * 2) (b := 1) (wrU32 (by omega))) ?_
  refine t_ (ix_hi hy100) ?_
  refine e_stD (ix_lo hy100) .nil ?_
  refine t_ (v_ia1 (k - 1) hK1 (by omega)) ?_
  refine e_st .here (by rw [Dn_size]; omega) ?_
  refine e_obl Imp.nil (e_obl .nil ?_)
  refine t_ (v_ia1 (k - 2) hK2 (by omega)) ?_
  refine e_st .here (by rw [Array.size_setIfInBounds, Dn_size]; omega) ?_
  rw [Dn_set, Dn_set, show 1 + (k - 1) = k by omega, show 1 + (k - 2) = k - 1 by omega, part_pair h1 h2 hy]
  exact h
theorem u32conv {W : World} {n : Nat} (h : n < 4294967296) : RunV p_ W [] (sConv 108 116 (.int .u64 (n : Int))) (.int .u32 (n : Int)) := by
 have := v_conv (P := p_) (W := W) (s := 108) (t := 116) (p := .u64) (q := .u32) (r := .u64) (n := (n : Int))
 rw [wrU32 h] at this
 exact this
theorem format10 {W : World} {g n c u : Nat} {f : Nat -> Nat} {T : TypeId} (h1 : 1 <= n) (h3 : n <= 20) (hu : u < 10 ^ n) (hu64 : u < 18446744073709551616) :
  Cn p_ 48 [.slice (some ⟨g, 1, none⟩) n c, .int .u64 (u : Int)] W [pt g (.cells (Dn f) T (0, 0))] (fun _ : Unit => .tuple #[]) (fun _ => [pt g (.cells (Dn (partW u n 0 f)) T (0, 0))]) := by
 (refine S.istrconv_formatBase10_s.cn fun F => ?_; unfold S.istrconv_formatBase10; simp only [ca_, na_])
 refine o_ v_len (e_loop2 (fun m x y => (ex fun k : Nat => all [pu (m = k /\ y = .int .i64 (k : Int) /\ x = .int .u64 ((u / 10 ^ (n - k) : Nat) : Int) /\ k <= n), pt g (.cells (Dn (partW u n k f)) T (0, 0))]) :: F) n ?_ ?_)
 ·refine .ex n (.all ?_)
  refine nr_ ?_
  refine .pu ⟨rfl, rfl, by rw [Nat.sub_self]; simp, Nat.le_refl _⟩ ?_
  rw [part_all]
  exact im_
 intro m ds x y
 refine e_ex .here fun k => e_all .here ?_
 refine nr_ ?_
 refine e_pu .here fun hi => ?_
 obtain ⟨rfl, rfl, rfl, hk⟩ := hi
 obtain ⟨v, hv⟩ : ∃ v, v = u / 10 ^ (n - m) := ⟨_, rfl⟩
 have hvu : v < 18446744073709551616 := Nat.lt_of_le_of_lt (by rw [hv]; exact Nat.div_le_self _ _) hu64
 have hvk : v < 10 ^ m := by
  rw [hv, Nat.div_lt_iff_lt_mul (Nat.pow_pos (by decide)), <- Nat.pow_add, show m + (n - m) = n by omega]; exact hu
 rw [<- hv]
 refine e_ask v_geq .nil (fun h => ?_) (fun h => ?_)
 ·have h8 : 8 <= m := by omega
  have hs : ∀ i, i <= m -> u / 10 ^ (n - (m - i)) = v / 10 ^ i := fun i hi => by rw [show n - (m - i) = (n - m) + i by omega, pow_s, <- hv]
  refine e_condT (o_ (v_remU (b := 100000000) (by decide)) ?_)
  refine o_ (u32conv (by omega)) ?_
  refine o_ (v_quoU (b := 100000000) (by decide) (wrU64 (by omega))) ?_
  refine o_ (v_quoU (b := 10000) (by decide) (wrU32 (by omega))) ?_
  refine o_ (v_remU (b := 10000) (by decide)) ?_
  refine o_ (v_quoU (b := 100) (by decide) (wrU32 (by omega))) ?_
  refine o_ (v_mulU (b := 2) (wrU32 (by omega))) ?_
  refine o_ (v_remU (b := 100) (by decide)) ?_
  refine o_ (v_mulU (b := 2) (wrU32 (by omega))) ?_
  refine o_ (v_quoU (b := 100) (by decide) (wrU32 (by omega))) ?_
  refine o_ (v_mulU (b := 2) (wrU32 (by omega))) ?_
  refine o_ (v_remU (b := 100) (by decide)) ?_
  refine o_ (v_mulU (b := 2) (wrU32 (by omega))) ?_
  refine e_pair (u := u) (n := n) (k := m) (by omega) (by omega) (by omega) hk h3 (by rw [<- hv]; omega) ?_
  refine e_pair (u := u) (n := n) (k := m - 2) (by omega) (by omega) (by omega) (by omega) h3 (by rw [hs 2 (by omega)]; omega) ?_
  refine e_pair (u := u) (n := n) (k := m - 2 - 2) (by omega) (by omega) (by omega) (by omega) h3 (by rw [show m - 2 - 2 = m - 4 by omega, hs 4 (by omega)]; omega) ?_
  refine e_pair (u := u) (n := n) (k := m - 2 - 2 - 2) (by omega) (by omega) (by omega) (by omega) h3 (by rw [show m - 2 - 2 - 2 = m - 6 by omega, hs 6 (by omega)]; omega) ?_
  refine sb_ ?_
  refine e_next2 (m - 8) (by omega) (.ex (m - 8) (.all ?_))
  refine nr_ ?_
  refine .pu ⟨rfl, by congr 1; omega, by rw [hs 8 h8], by omega⟩ ?_
  rw [show m - 2 - 2 - 2 - 2 = m - 8 by omega]
  exact im_
 ·have h8 : m < 8 := by omega
  have hv8 : v < 100000000 := Nat.lt_of_lt_of_le hvk (Nat.pow_le_pow_right (by decide) (show m <= 8 by omega))
  refine e_condF (o_ (u32conv (by omega)) ?_)
  refine e_cut2 (fun x y => (ex fun k : Nat => all [pu (x = .int .i64 (k : Int) /\ y = .int .u32 ((u / 10 ^ (n - k) : Nat) : Int) /\ k <= n /\ k < 4 /\ u / 10 ^ (n - k) < 10 ^ k), pt g (.cells (Dn (partW u n k f)) T (0, 0))]) :: F) ?_ ?_
  rotate_left
  ·refine e_ask v_geq .nil (fun h => ?_) (fun h => ?_)
   ·have h4 : 4 <= m := by omega
    have hs : ∀ i, i <= m -> u / 10 ^ (n - (m - i)) = v / 10 ^ i := fun i hi => by rw [show n - (m - i) = (n - m) + i by omega, pow_s, <- hv]
    refine e_condT (o_ (v_remU (b := 10000) (by decide)) ?_)
    refine o_ (v_quoU (b := 10000) (by decide) (wrU32 (by omega))) ?_
    refine o_ (v_quoU (b := 100) (by decide) (wrU32 (by omega))) ?_
    refine o_ (v_mulU (b := 2) (wrU32 (by omega))) ?_
    refine o_ (v_remU (b := 100) (by decide)) ?_
    refine o_ (v_mulU (b := 2) (wrU32 (by omega))) ?_
    refine e_pair (u := u) (n := n) (k := m) (by omega) (by omega) (by omega) hk h3 (by rw [<- hv]; omega) ?_
    refine e_pair (u := u) (n := n) (k := m - 2) (by omega) (by omega) (by omega) (by omega) h3 (by rw [hs 2 (by omega)]; omega) ?_
    refine sb_ ?_
    refine e_sat (.ex (m - 4) (.all ?_))
    refine nr_ ?_
    rw [hs 4 h4]
    refine .pu ⟨by congr 1; omega, rfl, by omega, by omega, ?_⟩ ?_
    ·rw [Nat.div_lt_iff_lt_mul (Nat.pow_pos (by decide)), <- Nat.pow_add, show m - 4 + 4 = m by omega]; exact hvk
    rw [show m - 2 - 2 = m - 4 by omega]
    exact im_
   ·refine e_condF (e_sat (.ex m (.all ?_)))
    refine nr_ ?_
    rw [<- hv]
    refine .pu ⟨rfl, rfl, hk, by omega, hvk⟩ ?_
    exact im_
  clear hvk hv8 hvu hv h8 hk
  clear v
  intro ds2 x y
  refine e_ex .here fun k => e_all .here ?_
  refine nr_ ?_
  refine e_pu .here fun hi => ?_
  obtain ⟨rfl, rfl, hk, hk4, hvk⟩ := hi
  obtain ⟨v, hv⟩ : ∃ v, v = u / 10 ^ (n - k) := ⟨_, rfl⟩
  rw [<- hv] at hvk ⊢
  have hv4 : v < 10000 := Nat.lt_of_lt_of_le hvk (Nat.pow_le_pow_right (by decide) (show k <= 4 by omega))
  refine e_cut2 (fun x y => (ex fun k : Nat => all [pu (x = .int .i64 (k : Int) /\ y = .int .u32 ((u / 10 ^ (n - k) : Nat) : Int) /\ k <= n /\ k < 2 /\ u / 10 ^ (n - k) < 10 ^ k), pt g (.cells (Dn (partW u n k f)) T (0, 0))]) :: F) ?_ ?_
  rotate_left
  ·refine e_ask v_geq .nil (fun h => ?_) (fun h => ?_)
   ·have h2 : 2 <= k := by omega
    have hs : ∀ i, i <= k -> u / 10 ^ (n - (k - i)) = v / 10 ^ i := fun i hi => by rw [show n - (k - i) = (n - k) + i by omega, pow_s, <- hv]
    refine e_condT (o_ (v_remU (b := 100) (by decide)) ?_)
    refine o_ (v_mulU (b := 2) (wrU32 (by omega))) ?_
    refine o_ (v_quoU (b := 100) (by decide) (wrU32 (by omega))) ?_
    refine e_pair (u := u) (n := n) (k := k) (by omega) (by omega) (by omega) hk h3 (by rw [<- hv]) ?_
    refine sb_ ?_
    refine e_sat (.ex (k - 2) (.all ?_))
    refine nr_ ?_
    rw [hs 2 h2]
    refine .pu ⟨by congr 1; omega, rfl, by omega, by omega, ?_⟩ ?_
    ·rw [Nat.div_lt_iff_lt_mul (Nat.pow_pos (by decide)), <- Nat.pow_add, show k - 2 + 2 = k by omega]; exact hvk
    exact im_
   ·refine e_condF (e_sat (.ex k (.all ?_)))
    refine nr_ ?_
    rw [<- hv]
    refine .pu ⟨rfl, rfl, hk, by omega, hvk⟩ ?_
    exact im_
  clear hvk hv4 hv hk hk4
  clear v k
  intro ds3 x y
  refine e_ex .here fun k => e_all .here ?_
  refine nr_ ?_
  refine e_pu .here fun hi => ?_
  obtain ⟨rfl, rfl, hk, hk2, hvk⟩ := hi
  refine e_ask v_gtr .nil (fun h => ?_) (fun h => ?_)
  ·obtain rfl : k = 1 := by omega
   have hv1 : u / 10 ^ (n - 1) < 10 := by simpa using hvk
   refine e_condT (o_ (v_addU (a := 48) (wrU32 (by omega))) ?_)
   refine o_ (v_conv (q := .u8)) ?_
   rw [wrU8 (by omega)]
   refine o_ (v_ia1 0 rfl (by omega)) ?_
   refine e_st .here (by rw [Dn_size]; omega) ?_
   rw [Dn_set, Nat.add_zero, show 48 + u / 10 ^ (n - 1) = 48 + u / 10 ^ (n - 1) % 10 by rw [Nat.mod_eq_of_lt hv1], part_one (by omega) h1]
   refine rt_ () ?_
   exact im_
  ·obtain rfl : k = 0 := by omega
   refine e_condF (rt_ () ?_)
   exact im_
def decW (u n : Nat) : List UInt8 := (List.range n).map fun j => UInt8.ofNat (48 + u / 10 ^ (n - 1 - j) % 10)
def ndF (u : Nat) : Nat := ((List.range 21).find? fun n => decide (u < 10 ^ n)).getD 20
theorem ndF_of {u n : Nat} (h : IsNd u n) : ndF u = n := by
 obtain ⟨h1, h2, h3, h4⟩ := h
 have : (List.range 21).find? (fun n => decide (u < 10 ^ n)) = some n := by
  rw [List.find?_range_eq_some]
  refine ⟨by simpa using h4, by simp; omega, fun j hj => ?_⟩
  have : 10 ^ j <= 10 ^ (n - 1) := Nat.pow_le_pow_right (by decide) (by omega)
  simp; omega
 unfold ndF
 rw [this]; rfl
def dig (i : Int) : List UInt8 :=
 if 0 <= i /\ i < 100 then (if i < 10 then [UInt8.ofNat (48 + i.toNat)] else [UInt8.ofNat (48 + i.toNat / 10), UInt8.ofNat (48 + i.toNat % 10)])
 else if i < 0 then 45 :: decW i.natAbs (ndF i.natAbs) else decW i.natAbs (ndF i.natAbs)
theorem decW_len (u n : Nat) : (decW u n).length = n := by simp [decW]
theorem dig_len {i : Int} (h : -9223372036854775808 <= i) (h2 : i <= 9223372036854775807) : (dig i).length <= 21 := by
 have hn : ndF i.natAbs <= 20 := by
  unfold ndF
  cases hf : (List.range 21).find? fun n => decide (i.natAbs < 10 ^ n) with
  | none => exact Nat.le_refl _
  | some n =>
   have := List.mem_range.1 (List.mem_of_find?_eq_some hf)
   simp only [Option.getD_some]; omega
 unfold dig
 split
 ·split <;> simp
 ·split
  ·rw [List.length_cons, decW_len]; omega
  ·rw [decW_len]; omega
theorem rd_dig {W : World} {g u n : Nat} {f : Nat -> Nat} {T : TypeId} (h3 : n <= 20) : RdB W (pt g (.cells (Dn (partW u n 0 f)) T (0, 0))) (some ⟨g, 1, none⟩) n ((decW u n).map Sl.B) := by
 refine rd_off (by rw [List.length_map, decW_len]) fun j v hv => ?_
 have hj : j < n := by
  rcases Nat.lt_or_ge j n with c | c
  ·exact c
  ·rw [List.getElem?_eq_none (by rw [List.length_map, decW_len]; exact c)] at hv; cases hv
 rw [List.getElem?_map] at hv
 unfold decW at hv
 rw [List.getElem?_map, List.getElem?_range hj] at hv
 simp only [Option.map_some] at hv
 rw [B_nat (by omega)] at hv
 rw [Dn_get (by omega), <- hv]
 unfold partW
 rw [if_pos (by omega), show n - (1 + j) = n - 1 - j by omega]
theorem both_ {G H : Prop} (k : G -> H) (m : G) : H := k m
theorem small {W : World} {n : Nat} (h : n < 100) : Cn p_ 46 [.int .i64 (n : Int)] W [] (fun _ : Unit => txt (dig n)) (fun _ => []) := by
 have hd : dig (n : Int) = if n < 10 then [UInt8.ofNat (48 + n)] else [UInt8.ofNat (48 + n / 10), UInt8.ofNat (48 + n % 10)] := by
  unfold dig
  rw [if_pos (by omega), Int.toNat_natCast]
  by_cases c : n < 10
  ·rw [if_pos (by omega), if_pos c]
  ·rw [if_neg (by omega), if_neg c]
 (refine S.istrconv_small_s.cn fun F => ?_; unfold S.istrconv_small; simp only [ca_, na_])
 refine e_ask v_lss .nil (fun h => ?_) (fun h => ?_)
 ·have h10 : n < 10 := by omega
  rw [hd, if_pos h10]
  refine e_condT (ad_ ?_)
  refine o_ (v_ssb (l := [48, 49, 50, 51, 52, 53, 54, 55, 56, 57, 97, 98, 99, 100, 101, 102, 103, 104, 105, 106, 107, 108, 109, 110, 111, 112, 113, 114, 115, 116, 117, 118, 119, 120, 121, 122]) n (n + 1) rfl (by omega) (by omega) (by simp; omega)) ?_
  have : ∀ n, n < 10 -> ((([48, 49, 50, 51, 52, 53, 54, 55, 56, 57, 97, 98, 99, 100, 101, 102, 103, 104, 105, 106, 107, 108, 109, 110, 111, 112, 113, 114, 115, 116, 117, 118, 119, 120, 121, 122] : List UInt8).take (n + 1)).drop n) = [UInt8.ofNat (48 + n)] := by decide +kernel
  rw [this n h10]
  refine rt_ () ?_
  exact .refl
 ·have h10 : ¬ n < 10 := by omega
  rw [hd, if_neg h10]
  refine e_condF (o_ (v_mul (by omega) (by omega)) ?_)
  refine o_ (v_mul (by omega) (by omega)) ?_
  refine ad_ ?_
  refine o_ (v_ssb (n * 2) (n * 2 + 2) (by omega) (by omega) (by omega) (by rw [lit0_len]; omega)) ?_
  have : ∀ n, n < 100 -> ((S.lit0.take (n * 2 + 2)).drop (n * 2)) = [UInt8.ofNat (48 + n / 10), UInt8.ofNat (48 + n % 10)] := by decide +kernel
  rw [this n (by omega)]
  refine rt_ () ?_
  exact .refl
theorem formatInt {W : World} [hG : Gp W] {i : Int} (h1 : -9223372036854775808 <= i) (h2 : i <= 9223372036854775807) : Cn p_ 39 [.int .i64 i, .int .i64 10] W [] (fun _ : Unit => txt (dig i)) (fun _ => []) := by
 (refine S.istrconv_FormatInt_s.cn fun F => ?_; unfold S.istrconv_FormatInt; simp only [ca_, na_])
 refine o_ v_eql ?_
 rw [dT_ rfl]
 refine e_condT ?_
 by_cases hs : 0 <= i /\ i < 100
 ·obtain ⟨n, rfl⟩ := Int.eq_ofNat_of_zero_le hs.1
  refine o_ v_leq ?_
  rw [dT_ hs.1]
  refine e_gdT (e_gdT (o_ v_lss ?_))
  rw [dT_ hs.2]
  refine o_ v_pickT (e_condT (c_ (small (n := n) (by omega)) fun _ => ?_))
  refine rt_ () ?_
  exact .refl
 have hu : i.natAbs < 18446744073709551616 := by omega
 have hu0 : i.natAbs ≠ 0 := by omega
 have d1 : i < 0 -> decide (0 <= i) = false := fun h => dF_ (by omega)
 have d2 : ¬ i < 0 -> decide (0 <= i) = true := fun h => dT_ (by omega)
 have d3 : ¬ i < 0 -> decide (i < 100) = false := fun h => dF_ (by omega)
 refine' both_ ?_ ?_
 rotate_left
 ·intro main
  by_cases h0 : i < 0
  ·refine o_ v_leq ?_
   rw [d1 h0]
   exact e_gdF2 (e_gdF2 (o_ v_pickF main))
  ·refine o_ v_leq ?_
   rw [d2 h0]
   refine e_gdT (e_gdT (o_ v_lss ?_))
   rw [d3 h0]
   exact o_ v_pickT main
 refine e_condF (e_newA fun g => ?_)
 refine e_imp (M := pt g (.cells (Dn fun _ => 0) 107 (0, 0)) :: F) .refl ?_
 refine o_ (v_conv (q := .u64)) ?_
 refine e_cut1 (fun x => pu (x = .int .u64 (i.natAbs : Int)) :: pt g (.cells (Dn fun _ => 0) 107 (0, 0)) :: F) ?_ ?_
 rotate_left
 ·refine e_ask v_lss .nil (fun h => ?_) (fun h => ?_)
  ·refine e_condT (o_ v_neg ?_)
   refine e_sat (.pu ?_ .refl)
   congr 1
   simp only [IntKind.wrap, IntKind.bits, IntKind.signed]
   simp; omega
  ·refine e_condF (e_sat (.pu ?_ .refl))
   congr 1
   simp only [IntKind.wrap, IntKind.bits, IntKind.signed]
   simp; omega
 intro ds x
 refine e_pu .here fun hx => ?_
 subst hx
 refine c_ (numDigits hu hu0) fun _ => ?_
 rename_i n
 obtain ⟨n, hn⟩ := n
 have hnd := ndF_of hn
 obtain ⟨n1, n2, n3, n4⟩ := hn
 (try dsimp only)
 refine ad_ ?_
 refine o_ (v_slAB (l := 1) (1 + n) rfl (by norm_cast) (by omega) (by omega) (by omega)) ?_
 rw [Nat.one_mul, Nat.add_sub_cancel_left]
 refine c_ (format10 (f := fun _ => 0) n1 n2 n4 hu) fun _ => ?_
 have hrd := rd_dig (W := W) (g := g) (u := i.natAbs) (n := n) (f := fun _ => 0) (T := 107) n2
 have hdg : dig i = if i < 0 then 45 :: decW i.natAbs n else decW i.natAbs n := by
  unfold dig
  rw [if_neg hs, hnd]
 by_cases h0 : i < 0
 ·rw [if_pos h0] at hdg
  refine o_ v_lss ?_
  rw [dT_ h0]
  refine e_condT (o_ (v_iaA 0 rfl (by decide)) ?_)
  refine e_st .here (by rw [Dn_size]; decide) ?_
  rw [show (Value.int .u8 45) = .int .u8 ((45 : Nat) : Int) from rfl, Dn_set]
  refine ad_ ?_
  refine o_ (v_slAh0 (1 + n) (by norm_cast) (by omega) (by decide)) ?_
  have hr2 : RdB W (pt g (.cells (Dn (updN (partW i.natAbs n 0 fun _ => 0) (0 + 0 * 1) 45)) 107 (0, 0))) (some ⟨g, 0, none⟩) (1 + n) ((dig i).map Sl.B) := by
   rw [hdg]
   refine rd_off (by rw [List.length_map, List.length_cons, decW_len]; omega) fun j v hv => ?_
   cases j with
   | zero =>
    rw [<- hv, Dn_get (by omega)]
    rfl
   | succ j =>
    obtain ⟨_, _, he, hc⟩ := hrd.at_ (by omega)
    have hj : j < n := by
     rcases Nat.lt_or_ge j n with c | c
     ·exact c
     ·rw [List.getElem?_eq_none (by rw [List.length_map, List.length_cons, decW_len]; omega)] at hv; cases hv
    rw [List.map_cons, List.getElem?_cons_succ, List.getElem?_map] at hv
    unfold decW at hv
    rw [List.getElem?_map, List.getElem?_range hj] at hv
    simp only [Option.map_some] at hv
    rw [B_nat (by omega)] at hv
    rw [Dn_get (by omega), <- hv]
    unfold updN partW
    rw [if_neg (by omega), if_pos (by omega), show n - (0 + (j + 1)) = n - 1 - j by omega]
  refine p_op (v_str hr2 (fun c => by cases c)) ?_
  refine rt_ () ?_
  exact im_
 ·rw [if_neg h0] at hdg
  refine o_ v_lss ?_
  rw [dF_ h0]
  refine e_condF (ad_ ?_)
  refine o_ (v_slAB (l := 1) (1 + n) rfl (by norm_cast) (by omega) (by omega) (by omega)) ?_
  rw [Nat.one_mul, Nat.add_sub_cancel_left]
  rw [<- hdg] at hrd
  refine p_op (v_str hrd (fun c => by cases c)) ?_
  refine rt_ () ?_
  exact im_
theorem digits {W : World} [hG : Gp W] {i : Int} (h1 : -9223372036854775808 <= i) (h2 : i <= 9223372036854775807) : Cn p_ 6 [.int .i64 i] W [] (fun _ : Unit => txt (dig i)) (fun _ => []) := by
 have a1 : Cn p_ 28 [.int .i64 i] W [] (fun _ : Unit => txt (dig i)) (fun _ => []) := by
  (refine S.istrconv_Itoa_s.cn fun F => ?_; unfold S.istrconv_Itoa; simp only [ca_, na_])
  refine c_ (formatInt h1 h2) fun _ => ?_
  refine rt_ () ?_
  exact im_
 have a2 : Cn p_ 15 [.int .i64 i] W [] (fun _ : Unit => txt (dig i)) (fun _ => []) := by
  (refine S.strconv_Itoa_s.cn fun F => ?_; unfold S.strconv_Itoa; simp only [ca_, na_])
  refine c_ a1 fun _ => ?_
  refine rt_ () ?_
  exact im_
 (refine S.ascii_Digits_s.cn fun F => ?_; unfold S.ascii_Digits; simp only [ca_, na_])
 refine c_ a2 fun _ => ?_
 refine rt_ () ?_
 exact im_
theorem pFd_one {L : List Fd} : ∀ u ∈ L.flatMap pFd, u.oneCell' = true := fun u hu => by
 obtain ⟨f, _, hf⟩ := List.mem_flatMap.1 hu
 simp [pFd] at hf
 rcases hf with rfl | rfl <;> rfl
theorem rdF_any {W : World} {a : Option Addr} {c : Nat} {l : List Fd} (h : 0 < l.length -> ∃ g, a = some ⟨g, 0, none⟩) : RdF W (Sl 2 35 a c l.length (l.flatMap pFd)) a l := rd_slG (flat_len (f := pFd) (s := 2) (fun _ => rfl) l) h
theorem e_andS {W : World} {L : List HP} {A B : WP} (h1 : Ent W L A) (h2 : Ent W L B) : Ent W L (andS A B) := fun w hw => ⟨h1 w hw, h2 w hw⟩
theorem fadd {W : World} {g : Nat} {x0 x1 x2 : Value} {q : Option Addr × Nat} {fs : List Fd} {n v : List UInt8} (hl : fs.length <= 1099511627776) :
  Cn p_ 8 ([txt n, txt v] ++ [.pointer (some ⟨g, 0, none⟩)]) W [pt g (.cells #[x0, x1, x2, .slice q.1 fs.length q.2] 24), Sl 2 35 q.1 q.2 fs.length (fs.flatMap pFd)]
   (fun _ : Option Addr × Nat => .tuple #[]) (fun r => [pt g (.cells #[x0, x1, x2, .slice r.1 (fs ++ [(n, v)]).length r.2] 24), Sl 2 35 r.1 r.2 (fs ++ [(n, v)]).length ((fs ++ [(n, v)]).flatMap pFd)]) := by
 (refine S.pool_Forward_1_s.cn fun F => ?_; unfold S.pool_Forward_1; simp only [ca_, na_])
 refine o_ v_fa0 (ln_ ?_); refine o_ v_rv ?_
 refine e_bslS (n := 1) (vs := [vFd (n, v)]) rfl (by omega) rfl (by intro v hv; rw [List.mem_singleton.1 hv]; rfl) (by omega) fun gb => ?_
 refine e_app (m := 1) (news := pFd (n, v)) (by (repeat constructor) : Pick _ (Sl 2 35 q.1 q.2 fs.length (fs.flatMap pFd)) _) (src_pt (s := 2) (e' := 35) (by kernel_rfl) .here (by rfl) (by intro u hu; simp [vFd, Value.cells] at hu; rcases hu with rfl | rfl <;> rfl)) (by omega) (by omega) fun a' c' => ?_
 rw [show fs.length + 1 = (fs ++ [(n, v)]).length by simp, show fs.flatMap pFd ++ pFd (n, v) = (fs ++ [(n, v)]).flatMap pFd by simp [List.flatMap_append]]
 refine o_ v_fa0 (sn_ ?_)
 refine e_retT (a', c') ?_
 exact im_
def tgF (pa qu : List UInt8) (asked : Bool) : List UInt8 := if asked then pa ++ (63 :: qu) else pa
def hoF (l : List Fd) (fo : Int) (ho : List UInt8) (po : Int) : List UInt8 := if fo = 2 then (if 0 <= po then ho ++ (58 :: dig po) else ho) else (firstF l sHost).1
theorem joinF_len (sep : List UInt8) : ∀ V : List (List UInt8), (joinF sep V).length <= zL V + sep.length * V.length
 | [] => Nat.zero_le _
 | v :: r => by
  have h := flat_sum sep r
  have h2 : sumL r <= zL r := by
   clear h
   induction r with
   | nil => exact Nat.le_refl _
   | cons w r ih => rw [zL_cons]; unfold sumL; omega
  unfold joinF
  rw [List.length_append, h, zL_cons, List.length_cons, Nat.mul_add, Nat.mul_one]
  omega
theorem via_len {l : List Fd} {minor : Int} (hl : zF l <= 1048576) : (viaF l minor).length <= 4194304 /\ (valsF l sVia).length <= 1048576 := by
 have h1 := zL_vals l sVia
 have h2 := vals_len l sVia
 have h3 := z_len l
 have h4 := joinF_len [44, 32] (valsF l sVia ++ [if minor = 0 then mark10 else mark11])
 rw [zL_app, List.length_append] at h4
 have h5 : zL [if minor = 0 then mark10 else mark11] = 14 := by split <;> rfl
 rw [h5] at h4
 simp only [List.length_cons, List.length_nil] at h4
 unfold viaF
 omega
theorem forward {W : World} [hG : Gp W] {m tg ho pa qu : List UInt8} {mi fo po sz : Int} {l : List Fd} {asked sized : Bool} {a : Option Addr} {c : Nat} {A : HP} (hA : RdF W A a l) (hl : zF l <= 1048576) (hpq : pa.length + qu.length <= 1048576) (hho : ho.length <= 1048576)
  (hp1 : -9223372036854775808 <= po) (hp2 : po <= 9223372036854775807) (hz1 : -9223372036854775808 <= sz) (hz2 : sz <= 9223372036854775807) :
  Cn p_ 4 [.agg #[txt m, txt tg, .int .i64 mi, .slice a l.length c], .agg #[.int .i64 fo, txt ho, .int .i64 po, txt pa, txt qu, .bool asked], .int .i64 sz, .bool sized] W [A]
   (fun r : Option Addr × Nat => .agg #[txt m, txt (tgF pa qu asked), .int .i64 1, .slice r.1 (fwdF l (hoF l fo ho po) mi (if sized then some (dig sz) else none)).length r.2])
   (fun r => [A, Sl 2 35 r.1 r.2 (fwdF l (hoF l fo ho po) mi (if sized then some (dig sz) else none)).length ((fwdF l (hoF l fo ho po) mi (if sized then some (dig sz) else none)).flatMap pFd)]) := by
 have hok := z_ok (l := l) (by omega)
 have hzl := z_len l
 (refine S.pool_Forward_s.cn fun F => ?_; unfold S.pool_Forward; simp only [ca_, na_])
 refine e_boxA fun b4 => ?_
 refine e_boxA fun b5 => ?_
 refine e_newA fun b8 => ?_
 refine o_ v_fa0 (ln_ ?_); refine o_ v_fa0 (ln_ ?_); refine o_ v_rv ?_; refine e_newA fun g => ?_
 refine e_stAgg (by repeat constructor) (by rfl) (by rfl) (by intro u hu; simp at hu; rcases hu with rfl | rfl | rfl | rfl <;> rfl) ?_
 rename Nat => b9
 refine e_cut0 ([pt b9 (.cells #[txt m, txt (tgF pa qu asked), .int .i64 1, .slice none 0 0] 24), pt b8 (.cells #[.string .empty, .string .empty, .int .i64 0, .slice none 0 0] 24), pt b5 (.cells #[.int .i64 fo, txt ho, .int .i64 po, txt pa, txt qu, .bool asked] 27), pt b4 (.cells #[txt m, txt tg, .int .i64 mi, .slice a l.length c] 24), A] ++ F) ?_ ?_
 rotate_left
 ·cases asked with
  | true =>
   refine o_ v_fa0 (ln_ ?_); refine e_condT (o_ v_fa0 (ln_ ?_)); refine o_ v_fa0 (ln_ ?_)
   refine o_ (v_cat (a := [63]) (by simp; omega)) ?_
   refine o_ (v_cat (by simp; omega)) ?_
   refine o_ v_fa0 (sn_ ?_)
   refine e_sat ?_
   exact im_
  | false =>
   refine o_ v_fa0 (ln_ ?_); refine e_condF (e_sat ?_)
   exact im_
 intro ds
 refine nr_ ?_
 refine o_ v_mkF (o_ v_fa0 (ln_ ?_))
 refine e_call (first (n := sHost) hA hok (by decide)) (.cons (by repeat constructor) .nil) fun _ => ?_
 refine nr_ ?_
 refine o_ (v_extN (vs := [_, _]) .here) ?_
 refine o_ (v_extN (vs := [_, _]) (.there .here)) ?_
 obtain ⟨H, hH⟩ : ∃ H, H = hoF l fo ho po := ⟨_, rfl⟩
 refine e_cut1 (fun z => [pu (z = txt H), A, pt b9 (.cells #[txt m, txt (tgF pa qu asked), .int .i64 1, .slice none 0 0] 24), pt b8 (.cells #[.string .empty, .string .empty, .int .i64 0, .slice none 0 0] 24), pt b5 (.cells #[.int .i64 fo, txt ho, .int .i64 po, txt pa, txt qu, .bool asked] 27), pt b4 (.cells #[txt m, txt tg, .int .i64 mi, .slice a l.length c] 24)] ++ F) ?_ ?_
 rotate_left
 ·(refine o_ v_fa0 ?_); refine ln_ ?_
  refine e_ask v_eql .nil (fun h => ?_) (fun h => ?_)
  ·rw [show H = if 0 <= po then ho ++ (58 :: dig po) else ho by rw [hH]; unfold hoF; rw [if_pos h]]
   refine e_condT (o_ v_fa0 (ln_ ?_)); refine o_ v_fa0 (ln_ ?_)
   refine e_ask v_geq .nil (fun h2 => ?_) (fun h2 => ?_)
   ·rw [if_pos h2]
    have hdl := dig_len hp1 hp2
    refine e_condT (o_ v_fa0 (ln_ ?_))
    refine c_ (digits hp1 hp2) fun _ => ?_
    refine o_ (v_cat (a := [58]) (by simp; omega)) ?_
    refine o_ (v_cat (by simp; omega)) ?_
    refine e_sat (.pu rfl ?_)
    exact im_
   ·rw [if_neg h2]
    refine e_condF (e_sat (.pu rfl ?_))
    exact im_
  ·rw [show H = (firstF l sHost).1 by rw [hH]; unfold hoF; rw [if_neg h]]
   refine e_condF (e_sat (.pu rfl ?_))
   exact im_
 intro ds2 z
 refine nr_ ?_
 refine e_pu .here fun hz => ?_
 subst hz
 refine e_nil (s := 2) (e := 35) ?_
 refine e_callC (cap := [.pointer (some ⟨b9, 0, none⟩)]) (fadd (g := b9) (q := (none, 0)) (fs := []) (n := sHost) (v := H) (by decide)) (by (repeat (first | exact Picks.nil | (apply Picks.cons; (focus repeat constructor))))) fun r => ?_
 obtain ⟨ra, rc⟩ := r
 refine nr_ ?_
 (try dsimp only)
 have hsl : (stripF l).length <= l.length := with_len l _
 have hsz : hOK (stripF l) := z_ok (Nat.le_trans (z_filter _ l) (by omega))
 have hwl : (withF (stripF l) own4).length <= l.length := Nat.le_trans (with_len _ _) hsl
 obtain ⟨M, hM⟩ : ∃ M, M = withF (stripF l) own4 := ⟨_, rfl⟩
 rw [<- hM] at hwl
 refine e_cut0 ([ex fun q : Option Addr × Nat => all [pt b9 (.cells #[txt m, txt (tgF pa qu asked), .int .i64 1, .slice q.1 ([(sHost, H)] ++ M).length q.2] 24), Sl 2 35 q.1 q.2 ([(sHost, H)] ++ M).length (([(sHost, H)] ++ M).flatMap pFd)], A, pt b8 (.cells #[.string .empty, .string .empty, .int .i64 0, .slice none 0 0] 24), pt b5 (.cells #[.int .i64 fo, txt ho, .int .i64 po, txt pa, txt qu, .bool asked] 27), pt b4 (.cells #[txt m, txt tg, .int .i64 mi, .slice a l.length c] 24)] ++ F) ?_ ?_
 rotate_left
 ·refine e_drS (e_stD v_fa0 .nil ?_); (((refine' e_stD (v_ldN ?hc) ?hi ?_); (case hi => exact .pick (by repeat constructor) .nil); (case hc => repeat constructor))); refine e_stD v_fa0 .nil ?_; (((refine' e_stD (v_ldN ?hc) ?hi ?_); (case hi => exact .pick (by repeat constructor) .nil); (case hc => repeat constructor)))
  refine e_andS ?_ ?_
  ·refine e_call (strip hA (by omega)) (.cons (by repeat constructor) .nil) fun s => ?_
   obtain ⟨s1, s2⟩ := s
   refine nr_ ?_
   (try dsimp only)
   refine ob_ ?_; refine ob_ ?_
   refine e_bslN (n := 4) (vs := own4.map txt) rfl rfl (by intro v hv; obtain ⟨c, _, rfl⟩ := List.mem_map.1 hv; rfl) (by omega) fun g4 => ?_
   refine ob_ ?_; refine ob_ ?_; refine ob_ ?_; refine ob_ ?_
   refine e_slfacts (by (repeat constructor) : Pick _ (Sl 2 35 s1 s2 (stripF l).length ((stripF l).flatMap pFd)) _) fun _ _ _ hs => ?_
   refine e_call (without (l := stripF l) (c := s2) (N := own4) (nc := 4) (NA := pt g4 (.cells (own4.map txt).toArray 9)) (rdF_any hs) hsz (rd_pt (by rfl)) (by decide) (by decide)) (.cons (by repeat constructor) (.cons (by repeat constructor) .nil)) fun w => ?_
   obtain ⟨w1, w2⟩ := w
   refine nr_ ?_
   (try dsimp only)
   rw [<- hM]
   refine ob_ ?_; refine ob_ ?_
   refine e_app (m := M.length) (news := M.flatMap pFd) (by (repeat constructor) : Pick _ (Sl 2 35 ra rc [(sHost, H)].length ([(sHost, H)].flatMap pFd)) _) (src_sl (s := 2) (e' := 35) (by kernel_rfl) (by (repeat constructor) : Pick _ (Sl 2 35 w1 w2 M.length (M.flatMap pFd)) _) pFd_one) (by simp; omega) (by simp; omega) fun a' c' => ?_
   rw [<- List.length_append, <- List.flatMap_append]
   refine t_ v_fa0 (sn_ ?_)
   refine e_sat (.ex (a', c') (.all ?_))
   refine nr_ ?_
   exact im_
  ·refine e_bslN (n := 4) (vs := own4.map txt) rfl rfl (by intro v hv; obtain ⟨c, _, rfl⟩ := List.mem_map.1 hv; rfl) (by omega) fun g4 => ?_
   refine ob_ ?_; refine ob_ ?_; refine ob_ ?_; refine ob_ ?_
   refine e_call (strip hA (by omega)) (.cons (by repeat constructor) .nil) fun s => ?_
   obtain ⟨s1, s2⟩ := s
   refine nr_ ?_
   (try dsimp only)
   refine ob_ ?_; refine ob_ ?_
   refine e_slfacts (by (repeat constructor) : Pick _ (Sl 2 35 s1 s2 (stripF l).length ((stripF l).flatMap pFd)) _) fun _ _ _ hs => ?_
   refine e_call (without (l := stripF l) (c := s2) (N := own4) (nc := 4) (NA := pt g4 (.cells (own4.map txt).toArray 9)) (rdF_any hs) hsz (rd_pt (by rfl)) (by decide) (by decide)) (.cons (by repeat constructor) (.cons (by repeat constructor) .nil)) fun w => ?_
   obtain ⟨w1, w2⟩ := w
   refine nr_ ?_
   (try dsimp only)
   rw [<- hM]
   refine ob_ ?_; refine ob_ ?_
   refine e_app (m := M.length) (news := M.flatMap pFd) (by (repeat constructor) : Pick _ (Sl 2 35 ra rc [(sHost, H)].length ([(sHost, H)].flatMap pFd)) _) (src_sl (s := 2) (e' := 35) (by kernel_rfl) (by (repeat constructor) : Pick _ (Sl 2 35 w1 w2 M.length (M.flatMap pFd)) _) pFd_one) (by simp; omega) (by simp; omega) fun a' c' => ?_
   rw [<- List.length_append, <- List.flatMap_append]
   refine t_ v_fa0 (sn_ ?_)
   refine e_sat (.ex (a', c') (.all ?_))
   refine nr_ ?_
   exact im_
 intro ds3
 refine nr_ ?_
 refine e_ex .here fun q => e_all .here ?_
 obtain ⟨ma, mc⟩ := q
 refine nr_ ?_
 obtain ⟨mk, hmk⟩ : ∃ mk, mk = if mi = 0 then mark10 else mark11 := ⟨_, rfl⟩
 refine e_cut1 (fun z => pu (z = txt mk) :: pt b9 (.cells #[txt m, txt (tgF pa qu asked), .int .i64 1, .slice ma ((sHost, H) :: M).length mc] 24) :: Sl 2 35 ma mc ((sHost, H) :: M).length (((sHost, H) :: M).flatMap pFd) :: A :: pt b8 (.cells #[.string .empty, .string .empty, .int .i64 0, .slice none 0 0] 24) :: pt b4 (.cells #[txt m, txt tg, .int .i64 mi, .slice a l.length c] 24) :: F) ?_ ?_
 rotate_left
 ·(refine o_ v_fa0 ?_); refine ln_ ?_
  refine e_ask v_eql .nil (fun h => ?_) (fun h => ?_)
  ·rw [hmk, if_pos h]
   refine e_condT (e_sat (.pu rfl ?_))
   exact im_
  ·rw [hmk, if_neg h]
   refine e_condF (e_sat (.pu rfl ?_))
   exact im_
 intro ds4 z
 refine e_pu .here fun hz => ?_
 subst hz
 refine o_ v_fa0 (ln_ ?_)
 refine e_call (values (n := sVia) hA hok (by decide)) (.cons (by repeat constructor) .nil) fun r => ?_
 obtain ⟨va, vc⟩ := r
 refine nr_ ?_
 (try dsimp only)
 obtain ⟨hvl, hvn⟩ := via_len (minor := mi) hl
 obtain ⟨V, hV⟩ : ∃ V, V = valsF l sVia := ⟨_, rfl⟩
 have hvia : viaF l mi = joinF [44, 32] (V ++ [mk]) := by rw [hV, hmk]; rfl
 rw [<- hV] at hvn ⊢
 rw [hvia] at hvl
 refine e_bslN (n := 1) (vs := [txt mk]) rfl rfl (by intro v hv; rw [List.mem_singleton.1 hv]; rfl) (by omega) fun gm => ?_
 refine e_app (m := 1) (news := [txt mk]) (by (repeat constructor) : Pick _ (Sl 1 9 va vc V.length (V.map txt)) _) (src_pt (s := 1) (e' := 9) (by kernel_rfl) .here (by rfl) (by intro u hu; rw [List.mem_singleton.1 hu]; rfl)) (by omega) (by omega) fun ja jc => ?_
 rw [show V.map txt ++ [txt mk] = (V ++ [mk]).map txt by simp, show V.length + 1 = (V ++ [mk]).length by simp]
 refine e_call (join (sep := [44, 32]) (V := V ++ [mk]) (by decide) (by decide) hvl (by simp; omega)) (.cons (by repeat constructor) .nil) fun _ => ?_
 refine nr_ ?_
 rw [<- hvia]
 refine e_callC (cap := [.pointer (some ⟨b9, 0, none⟩)]) (fadd (g := b9) (q := (ma, mc)) (fs := (sHost, H) :: M) (n := sVia) (v := viaF l mi) (by rw [List.length_cons]; omega)) (by (repeat (first | exact Picks.nil | (apply Picks.cons; (focus repeat constructor))))) fun r => ?_
 obtain ⟨na, nc⟩ := r
 refine nr_ ?_
 (try dsimp only)
 cases sized with
 | false =>
  have hfw : (sHost, H) :: M ++ [(sVia, viaF l mi)] = fwdF l H mi none := by unfold fwdF; rw [hM]
  simp only [Bool.false_eq_true, if_false]
  rw [<- hH, <- hfw]
  refine e_condF (lg_ ?_)
  refine e_stAgg (by repeat constructor) (by rfl) (by rfl) (by intro u hu; simp at hu; rcases hu with rfl | rfl | rfl | rfl <;> rfl) ?_
  (((refine' e_stS (v_resA ?hn) ?hi ?_); (case hi => exact im_); (case hn => rfl)))
  refine rt_ ((na, nc)) ?_
  exact im_
 | true =>
  have hfw : (sHost, H) :: M ++ [(sVia, viaF l mi)] ++ [(sCL, dig sz)] = fwdF l H mi (some (dig sz)) := by unfold fwdF; rw [hM]; simp
  simp only [if_true]
  rw [<- hH, <- hfw]
  refine e_condT (c_ (digits hz1 hz2) fun _ => ?_)
  refine e_callC (cap := [.pointer (some ⟨b9, 0, none⟩)]) (fadd (g := b9) (q := (na, nc)) (fs := (sHost, H) :: M ++ [(sVia, viaF l mi)]) (n := sCL) (v := dig sz) (by simp; omega)) (by (repeat (first | exact Picks.nil | (apply Picks.cons; (focus repeat constructor))))) fun r => ?_
  obtain ⟨oa, oc⟩ := r
  refine nr_ ?_
  (try dsimp only)
  refine lg_ ?_
  refine e_stAgg (by repeat constructor) (by rfl) (by rfl) (by intro u hu; simp at hu; rcases hu with rfl | rfl | rfl | rfl <;> rfl) ?_
  (((refine' e_stS (v_resA ?hn) ?hi ?_); (case hi => exact im_); (case hn => rfl)))
  refine rt_ ((oa, oc)) ?_
  exact im_
end Go.Proofs.YthomhkpedghhgaaDoor.FD
namespace Go.Proofs.YthomhkpedghhgaaDoor.Sl
open Go Go.RowKit Sh
variable {P : Program} {H : Type} {enc : TypeId × Value -> H} {W : World}
theorem Old.flat {α : Type} {s n : Nat} {f : α -> List Value} {a : Option Addr} {xs : List α} (hf : ∀ x, (f x).length = s) (h0 : 0 < s) (h : Old W s (fun x cs => cs = f x) a n xs) (A : HP) : RdB W A a (n * s) (xs.flatMap f) := by
 have hl := h.len
 refine ⟨by rw [flat_len hf, hl], fun hn => ?_⟩
 obtain ⟨g, o, rfl, hg, hc⟩ := h.at_ (by
  rcases Nat.eq_zero_or_pos n with z | z
  ·subst z; simp at hn
  ·exact z)
 refine ⟨g, o, rfl, fun w L hw j v hv => ?_⟩
 have hj : j < xs.length * s := by
  rcases Nat.lt_or_ge j (xs.flatMap f).length with c | c
  ·rwa [flat_len hf] at c
  ·rw [List.getElem?_eq_none c] at hv; cases hv
 have hi : j / s < xs.length := Nat.div_lt_of_lt_mul (by rwa [Nat.mul_comm] at hj)
 have hm : j % s < s := Nat.mod_lt _ h0
 have hd : j = j / s * s + j % s := by rw [Nat.mul_comm]; exact (Nat.div_add_mod j s).symm
 obtain ⟨cs, h1, h2, h3⟩ := hc (j / s) hi
 subst h2
 rw [hd, flat_get hf xs _ _ hi hm] at hv
 have := h3 (j % s) v hv
 rw [hw.base.cell (p := ⟨g, o + j, none⟩) hg]
 rwa [<- hd] at this
end Go.Proofs.YthomhkpedghhgaaDoor.Sl
namespace Go.Proofs.YthomhkpedghhgaaDoor.FD
open Go Go.Proofs Go.RowKit Go.ChangeShapes Sh Sl T
theorem witness_row_shaped {H : Type} {enc : TypeId × Value → H} {C : Checked} {os : Os} {f : FuncId} {fn : Func} {s : OpenSpec} {conds : List PathCond} {apart : Bool} {laid : List (String × DataW Unit)} (modest : Bool) (w0 : World) (args : Array Value) (hos : w0.os = os)
  (hsh : (w0.forCall (fun _ _ => 0) ⟨#[], args, []⟩).Shaped C.prog)
  (hok : Input.okWideB C.prog (w0.forCall (fun _ _ => 0) ⟨#[], args, []⟩) f ⟨#[], args, []⟩ = true)
  (hrow : s.preRow enc C.prog fn conds apart laid (w0.forCall (fun _ _ => 0) ⟨#[], args, []⟩).memory args) :
  ∃ (w : World) (tape : Tape) (i : Input), w.os = os ∧ (w.forCall tape i).Shaped C.prog ∧ i.vars = [] ∧ Input.okWide C.prog (w.forCall tape i) .any w.heap.size f i ∧
   s.preRow enc C.prog fn conds apart laid (w.forCall tape i).memory i.args ∧ ({ modest := modest } : Assume).holds C.prog (lone (Frame.enter C.prog f i.args .normal) [] (w.forCall tape i)) :=
 ⟨w0, fun _ _ => 0, ⟨#[], args, []⟩, hos, hsh, (Input.okWide_of_okWideB (base := 0) hok).1, (Input.okWide_of_okWideB hok).2, hrow, by
  simp only [Assume.holds]
  exact ⟨by simp, by simp, fun _ => Modest.zero, by simp, by simp⟩⟩
theorem laid_at {P : Program} {W : World} {n : String} {d : DataW Unit} : ∀ {l : List (String × DataW Unit)} {ps : List MemPlace}, DataW.LaidVars P W l ps -> (n, d) ∈ l ->
  ∃ g t cs fuel p, P.globalNamed n = some g /\ (P.globals[g]?).map (·.type) = some t /\ W.var? P n = some cs /\ DataW.trod (fun _ => ()) P W 0 (fun _ => true) false fuel t cs.toList = some (d, p)
 | [], _, _, h => by cases h
 | (n', d') :: r, ps, h, hm => by
  obtain ⟨g, t, cs, fuel, p, q, h1, h2, h3, h4, h5, _⟩ := h
  rcases List.mem_cons.1 hm with e | hm
  ·obtain ⟨rfl, rfl⟩ := Prod.mk.inj e
   exact ⟨g, t, cs, fuel, p, h1, h2, h3, h4⟩
  ·exact laid_at h5 hm
set_option maxRecDepth 20000 in
theorem open_fd {H : Type} {enc : TypeId × Value -> H} {W : World} {sp : Nat -> Bool} {held : Bool} (n : Nat) (cs : List Value) (x : DataW H × List MemPlace) (h : DataW.trod enc p_ W 0 sp held n 35 cs = some x) : ∃ a : Fd, cs = pFd a /\ a.1.length + a.2.length + 3 <= Rows.uptoBulk x.1 := by
 obtain ⟨xs, m, rfl, rfl, hl, hs, hf⟩ := DataW.trod_struct (fs := #[⟨"Name", 9, 0, false, "", "", 0⟩, ⟨"Value", 9, 1, false, "", "", 16⟩]) (by kernel_rfl) h
 rw [show p_.cellsOf 35 = 2 by kernel_rfl] at hl
 obtain ⟨c0, c1, rfl⟩ : ∃ c0 c1, cs = [c0, c1] := by
  match cs, hl with
  | [a, b], _ => exact ⟨a, b, rfl⟩
 obtain ⟨x0, x1, rfl⟩ : ∃ x0 x1, xs = [x0, x1] := by
  match xs, hs with
  | [a, b], _ => exact ⟨a, b, rfl⟩
 have e1 : p_.cellsOf 9 = 1 := by kernel_rfl
 have f0 := hf 0 _ rfl
 have f1 := hf 1 _ rfl
 simp only [e1, List.drop_zero, List.drop_succ_cons, List.take_succ_cons, List.take_zero, List.getElem?_cons_zero, List.getElem?_cons_succ] at f0 f1
 obtain ⟨n0, h0, hx0, _⟩ := DataW.trod_string (by kernel_rfl) f0
 obtain ⟨n1, h1, hx1, _⟩ := DataW.trod_string (by kernel_rfl) f1
 have k0 : c0 = .string n0 := by injection h0
 have k1 : c1 = .string n1 := by injection h1
 subst k0; subst k1
 refine ⟨(n0.data.toList, n1.data.toList), by unfold pFd txt; simp, ?_⟩
 have h2 := (Prod.mk.inj hx0).1
 have h3 := (Prod.mk.inj hx1).1
 simp only [List.map_cons, List.map_nil, Rows.uptoBulk, Rows.uptoBulkAll]
 rw [h2, h3]
 simp [Rows.uptoBulk]
 omega
theorem z_sum (l : List Fd) : (l.map fun f => f.1.length + f.2.length + 3).sum = zF l := by
 induction l with
 | nil => rfl
 | cons f r ih => rw [List.map_cons, List.sum_cons, ih, zF_cons]
theorem mapM_get {α β : Type} {f : α -> Option β} : ∀ {l : List α} {ys : List β}, l.mapM f = some ys -> ys.length = l.length /\ ∀ (i : Nat) (a : α), l[i]? = some a -> ∃ y, ys[i]? = some y /\ f a = some y
 | [], ys, h => by
  simp at h
  subst h
  exact ⟨rfl, fun i a hi => by simp at hi⟩
 | a :: l, ys, h => by
  rw [List.mapM_cons] at h
  cases ha : f a with
  | none => rw [ha] at h; cases h
  | some y =>
   cases hl : l.mapM f with
   | none => rw [ha, hl] at h; cases h
   | some zs =>
    rw [ha, hl] at h
    have h : some (y :: zs) = some ys := h
    obtain rfl := Option.some.inj h
    obtain ⟨h1, h2⟩ := mapM_get hl
    refine ⟨by rw [List.length_cons, List.length_cons, h1], fun i b hi => ?_⟩
    cases i with
    | zero => exact ⟨y, rfl, by rw [<- ha]; congr 1; simpa using hi.symm⟩
    | succ i => exact h2 i b (by simpa using hi)
theorem trod_arr {P : Program} {H : Type} {enc : TypeId × Value -> H} {W : World} {sp : Nat -> Bool} {held : Bool} {t e : TypeId} {n fuel : Nat} {cs : List Value} {x : DataW H × List MemPlace} (ht : P.underlying t = some (.array n e)) (hce : P.cellsOf e = 1) (h : DataW.trod enc P W 0 sp held fuel t cs = some x) :
  ∃ (xs : List (DataW H × List MemPlace)) (m : Nat), x.1 = .agg (xs.map (·.1)) /\ xs.length = n /\ ∀ i, i < n -> ∃ y, xs[i]? = some y /\ DataW.trod enc P W 0 sp held m e ((cs.drop i).take 1) = some y := by
 cases fuel with
 | zero => simp [DataW.trod] at h
 | succ m =>
  unfold DataW.trod at h
  rw [ht] at h
  simp only [hce, Nat.mul_one] at h
  split at h
  ·cases hm : (List.range n).mapM fun i => DataW.trod enc P W 0 sp held m e ((cs.drop i).take 1) with
   | none => rw [hm] at h; cases h
   | some xs =>
    rw [hm] at h
    have h := Option.some.inj h
    obtain ⟨h1, h2⟩ := mapM_get hm
    refine ⟨xs, m, by rw [<- h], by rw [h1, List.length_range], fun i hi => h2 i i (List.getElem?_range hi)⟩
  ·cases h
theorem gp_of {W : World} {l : List (String × DataW Unit)} (h : laidMet p_ l W) (hm : ("internal/strconv.uint64pow10", Rows.laid_internal_strconv_uint64pow10) ∈ l) : Gp W := by
 obtain ⟨ps, hv, _, _⟩ := h
 obtain ⟨g, t, cs, fuel, p, h1, h2, h3, h4⟩ := laid_at hv hm
 obtain rfl := Option.some.inj ((show p_.globalNamed "internal/strconv.uint64pow10" = some 1 by kernel_rfl).symm.trans h1)
 obtain rfl := Option.some.inj ((show (p_.globals[1]?).map (·.type) = some 115 by kernel_rfl).symm.trans h2)
 obtain ⟨xs, m, hx, hl, hf⟩ := trod_arr (n := 20) (e := 108) (by kernel_rfl) (by kernel_rfl) h4
 have key : ∀ j, j < 20 -> cs[j]? = some (.int .u64 ((10 ^ j : Nat) : Int)) := by
  intro j hj
  obtain ⟨y, hy, hyt⟩ := hf j hj
  have hlt : ∃ c, (cs.toList.drop j).take 1 = [c] := by
   cases hd : (cs.toList.drop j).take 1 with
   | nil => rw [hd] at hyt; cases m <;> simp [DataW.trod] at hyt <;> (split at hyt <;> simp_all)
   | cons c r =>
    have : ((cs.toList.drop j).take 1).length <= 1 := by rw [List.length_take]; omega
    rw [hd] at this
    simp at this
    subst this
    exact ⟨c, rfl⟩
  obtain ⟨c, hc⟩ := hlt
  rw [hc] at hyt
  obtain ⟨n, h0, hx0, _⟩ := DataW.trod_int (by kernel_rfl : p_.underlying 108 = some (.int .u64)) hyt
  have hcj : cs[j]? = some c := by
   have := congrArg (fun l => l[0]?) hc
   simpa using this
  have hya : (xs.map (·.1))[j]? = some (.lit (.int .u64 n)) := by rw [List.getElem?_map, hy]; simp only [Option.map_some]; rw [(Prod.mk.inj hx0).1]
  have hlist : xs.map (·.1) = (List.range 20).map fun j => (.lit (.int .u64 ((10 ^ j : Nat) : Int)) : DataW Unit) := by
   have : (DataW.agg (xs.map (·.1))) = .agg ((List.range 20).map fun j => (.lit (.int .u64 ((10 ^ j : Nat) : Int)) : DataW Unit)) := by rw [<- hx]; rfl
   injection this
  rw [hlist, List.getElem?_map, List.getElem?_range hj] at hya
  simp only [Option.map_some, Option.some.injEq, DataW.lit.injEq, Lit.int.injEq, true_and] at hya
  rw [hcj, hya]
  have : c = .int .u64 n := by injection h0
  rw [this]
 have hc := fun j => World.var?_cell h1 h3 j
 refine ⟨?_, fun j hj => ?_⟩
 ·have h0 := hc 0
  rw [key 0 (by decide)] at h0
  unfold World.cell? at h0
  rcases Nat.lt_or_ge 1 W.heap.size with c | c
  ·exact c
  ·rw [Array.getElem?_eq_none c] at h0; cases h0
 ·rw [hc j, key j hj]
set_option maxRecDepth 20000 in
theorem open_req {H : Type} {enc : TypeId × Value -> H} {W : World} {sp : Nat -> Bool} {held : Bool} {v : Value} {d : DataW H} {ps : List MemPlace} {r : Reach} {b0 : Nat} (hval : Value.okWide p_ W r b0 24 v) (hd : DataW.Trod enc p_ W 0 sp held 24 v d ps) :
  ∃ (m t : List UInt8) (mi : Int) (a : Option Addr) (c : Nat) (l : List Fd), v = .agg #[txt m, txt t, .int .i64 mi, .slice a l.length c] /\ (∀ A, RdF W A a l) /\ (a = none -> l.length = 0) /\ m.length + t.length + zF l + 1 <= Rows.uptoBulk d := by
 obtain ⟨cs, rfl, hsz⟩ := WideShapes.okWide_struct (fs := #[⟨"Method", 9, 0, false, "", "", 0⟩, ⟨"Target", 9, 1, false, "", "", 16⟩, ⟨"Minor", 3, 2, false, "", "", 32⟩, ⟨"Fields", 22, 3, false, "", "", 40⟩]) (by kernel_rfl) hval
 rw [show p_.cellsOf 24 = 4 by kernel_rfl] at hsz
 obtain ⟨fuel, hf⟩ := hd
 obtain ⟨l⟩ := cs
 obtain ⟨c0, c1, c2, c3, rfl⟩ : ∃ c0 c1 c2 c3, l = [c0, c1, c2, c3] := by
  match l, hsz with
  | [a, b, c, d], _ => exact ⟨a, b, c, d, rfl⟩
 rw [show (Value.agg ⟨[c0, c1, c2, c3]⟩).cells.toList = [c0, c1, c2, c3] from rfl] at hf
 obtain ⟨xs, m, rfl, hx, hl, hs, hf⟩ := DataW.trod_struct (fs := #[⟨"Method", 9, 0, false, "", "", 0⟩, ⟨"Target", 9, 1, false, "", "", 16⟩, ⟨"Minor", 3, 2, false, "", "", 32⟩, ⟨"Fields", 22, 3, false, "", "", 40⟩]) (by kernel_rfl) hf
 obtain ⟨x0, x1, x2, x3, rfl⟩ : ∃ x0 x1 x2 x3, xs = [x0, x1, x2, x3] := by
  match xs, hs with
  | [a, b, c, d], _ => exact ⟨a, b, c, d, rfl⟩
 have e1 : p_.cellsOf 3 = 1 := by kernel_rfl
 have e2 : p_.cellsOf 22 = 1 := by kernel_rfl
 have e3 : p_.cellsOf 9 = 1 := by kernel_rfl
 have f0 := hf 0 _ rfl
 have f1 := hf 1 _ rfl
 have f2 := hf 2 _ rfl
 have f3 := hf 3 _ rfl
 simp only [e1, e2, e3, List.drop_zero, List.drop_succ_cons, List.take_succ_cons, List.take_zero, List.getElem?_cons_zero, List.getElem?_cons_succ] at f0 f1 f2 f3
 obtain ⟨n0, h0, hx0, _⟩ := DataW.trod_string (by kernel_rfl) f0
 obtain ⟨n1, h1, hx1, _⟩ := DataW.trod_string (by kernel_rfl) f1
 obtain ⟨mi, h2, _, _⟩ := DataW.trod_int Tryd.underlying3 f2
 obtain ⟨a, n, c, fs, e, g1, g2, g3, g4, g5⟩ := open_old (e := 35) (s := 2) (rd := fun (x : Fd) cs => cs = pFd x) (m := fun f => f.1.length + f.2.length + 3) (by kernel_rfl) (by kernel_rfl) (by omega) (fun n cs x h => open_fd n cs x h) f3
 have hln := g4.len
 subst hln
 rw [z_sum] at g5
 have k0 : c0 = .string n0 := by injection h0
 have k1 : c1 = .string n1 := by injection h1
 have k2 : c2 = .int .i64 mi := by injection h2
 have k3 : c3 = .slice a fs.length c := by injection e
 subst k0; subst k1; subst k2; subst k3
 refine ⟨n0.data.toList, n1.data.toList, mi, a, c, fs, by unfold txt; simp, fun A => g4.flat (f := pFd) (fun _ => rfl) (by omega) A, ?_, ?_⟩
 ·intro ha
  rcases Nat.eq_zero_or_pos fs.length with z | z
  ·exact z
  ·obtain ⟨g, o, hg, _⟩ := g4.at_ z; rw [hg] at ha; cases ha
 have h2 := (Prod.mk.inj hx).1
 have h3 := (Prod.mk.inj hx0).1
 have h4 := (Prod.mk.inj hx1).1
 rw [h2]
 simp only [List.map_cons, List.map_nil, Rows.uptoBulk, Rows.uptoBulkAll]
 rw [h3, h4]
 simp [Rows.uptoBulk]
 (try simp at g5)
 omega
set_option maxRecDepth 20000 in
theorem open_tgt {H : Type} {enc : TypeId × Value -> H} {W : World} {sp : Nat -> Bool} {held : Bool} {v : Value} {d : DataW H} {ps : List MemPlace} {r : Reach} {b0 : Nat} (hval : Value.okWide p_ W r b0 26 v) (hd : DataW.Trod enc p_ W 0 sp held 26 v d ps) :
  ∃ (fo po : Int) (ho pa qu : List UInt8) (as_ : Bool), v = .agg #[.int .i64 fo, txt ho, .int .i64 po, txt pa, txt qu, .bool as_] /\ (-9223372036854775808 <= po /\ po <= 9223372036854775807) /\ ho.length + pa.length + qu.length <= Rows.uptoBulk d := by
 obtain ⟨cs, rfl, hsz⟩ := WideShapes.okWide_struct (fs := #[⟨"Form", 3, 0, false, "", "", 0⟩, ⟨"Host", 9, 1, false, "", "", 8⟩, ⟨"Port", 3, 2, false, "", "", 24⟩, ⟨"Path", 9, 3, false, "", "", 32⟩, ⟨"Query", 9, 4, false, "", "", 48⟩, ⟨"Asked", 4, 5, false, "", "", 64⟩]) (by kernel_rfl) hval
 rw [show p_.cellsOf 26 = 6 by kernel_rfl] at hsz
 obtain ⟨fuel, hf⟩ := hd
 obtain ⟨l⟩ := cs
 obtain ⟨c0, c1, c2, c3, c4, c5, rfl⟩ : ∃ c0 c1 c2 c3 c4 c5, l = [c0, c1, c2, c3, c4, c5] := by
  match l, hsz with
  | [a, b, c, d, e, f], _ => exact ⟨a, b, c, d, e, f, rfl⟩
 rw [show (Value.agg ⟨[c0, c1, c2, c3, c4, c5]⟩).cells.toList = [c0, c1, c2, c3, c4, c5] from rfl] at hf
 obtain ⟨xs, m, rfl, hx, hl, hs, hf⟩ := DataW.trod_struct (fs := #[⟨"Form", 3, 0, false, "", "", 0⟩, ⟨"Host", 9, 1, false, "", "", 8⟩, ⟨"Port", 3, 2, false, "", "", 24⟩, ⟨"Path", 9, 3, false, "", "", 32⟩, ⟨"Query", 9, 4, false, "", "", 48⟩, ⟨"Asked", 4, 5, false, "", "", 64⟩]) (by kernel_rfl) hf
 obtain ⟨x0, x1, x2, x3, x4, x5, rfl⟩ : ∃ x0 x1 x2 x3 x4 x5, xs = [x0, x1, x2, x3, x4, x5] := by
  match xs, hs with
  | [a, b, c, d, e, f], _ => exact ⟨a, b, c, d, e, f, rfl⟩
 have e1 : p_.cellsOf 3 = 1 := by kernel_rfl
 have e2 : p_.cellsOf 4 = 1 := by kernel_rfl
 have e3 : p_.cellsOf 9 = 1 := by kernel_rfl
 have f0 := hf 0 _ rfl
 have f1 := hf 1 _ rfl
 have f2 := hf 2 _ rfl
 have f3 := hf 3 _ rfl
 have f4 := hf 4 _ rfl
 have f5 := hf 5 _ rfl
 simp only [e1, e2, e3, List.drop_zero, List.drop_succ_cons, List.take_succ_cons, List.take_zero, List.getElem?_cons_zero, List.getElem?_cons_succ] at f0 f1 f2 f3 f4 f5
 obtain ⟨fo, h0, _, _⟩ := DataW.trod_int Tryd.underlying3 f0
 obtain ⟨n1, h1, hx1, _⟩ := DataW.trod_string (by kernel_rfl) f1
 obtain ⟨po, h2, _, w2⟩ := DataW.trod_int Tryd.underlying3 f2
 obtain ⟨n3, h3, hx3, _⟩ := DataW.trod_string (by kernel_rfl) f3
 obtain ⟨n4, h4, hx4, _⟩ := DataW.trod_string (by kernel_rfl) f4
 obtain ⟨bb, h5, _⟩ := DataW.trod_bool (by kernel_rfl) f5
 have b2 : -9223372036854775808 <= po /\ po <= 9223372036854775807 := by simpa [Lit.wf, IntKind.min, IntKind.max, IntKind.signed, IntKind.bits] using w2
 have k0 : c0 = .int .i64 fo := by injection h0
 have k1 : c1 = .string n1 := by injection h1
 have k2 : c2 = .int .i64 po := by injection h2
 have k3 : c3 = .string n3 := by injection h3
 have k4 : c4 = .string n4 := by injection h4
 have k5 : c5 = .bool bb := by injection h5
 subst k0; subst k1; subst k2; subst k3; subst k4; subst k5
 refine ⟨fo, po, n1.data.toList, n3.data.toList, n4.data.toList, bb, by unfold txt; simp, b2, ?_⟩
 have q := (Prod.mk.inj hx).1
 have q1 := (Prod.mk.inj hx1).1
 have q3 := (Prod.mk.inj hx3).1
 have q4 := (Prod.mk.inj hx4).1
 rw [q]
 simp only [List.map_cons, List.map_nil, Rows.uptoBulk, Rows.uptoBulkAll]
 rw [q1, q3, q4]
 simp [Rows.uptoBulk]
 omega
end Go.Proofs.YthomhkpedghhgaaDoor.FD
namespace Go.Proofs.YthomhkpedghhgaaDoor.Sl
open Go Go.RowKit Sh
variable {P : Program} {W : World} {L L' : List HP} {Kp : PK} {k : Value -> WP}
def encI (n : Int) : Value := .int .i64 n
theorem keyI {kt : TypeId} (hk : P.underlying kt = some (.int .i64)) : KeyLaw P kt encI where
 check := fun b k w => MapKept.run_checkKey (n := 9999) (d := .int .i64) hk (by simp [MapKept.IsKey, encI]) b
 eq := fun k k' w => by
  unfold encI Op.equal Op.maxDepth
  have := run_equalIn_int (P := P) w 9999 kt .i64 .i64 k k' hk
  rw [this]
  by_cases h : k = k' <;> simp [h]
 now := ⟨.int .i64, hk, fun k k' => .inr (by
  by_cases h : k = k' <;> simp [Instr.sameNow, encI, h])⟩
 same := fun k => by simp [Instr.sameBits, encI]
variable {κ : Type} [DecidableEq κ] {enc : κ -> Value} {t kt : TypeId}
def delM (q : κ) (m : List (κ × Value)) : List (κ × Value) := match fnd q m 0 with
 | some (i, _) => m.eraseIdx i
 | none => m
theorem fnd_get (q : κ) : ∀ (m : List (κ × Value)) (i j : Nat) (v : Value), fnd q m i = some (j, v) -> i <= j /\ m[j - i]? = some (q, v)
 | [], i, j, v, h => by simp [fnd] at h
 | p :: m, i, j, v, h => by
  unfold fnd at h
  by_cases c : q = p.1
  ·rw [if_pos c] at h
   simp at h
   obtain ⟨rfl, rfl⟩ := h
   simp [c]
  ·rw [if_neg c] at h
   obtain ⟨h1, h2⟩ := fnd_get q m (i + 1) j v h
   refine ⟨by omega, ?_⟩
   rw [show j - i = (j - (i + 1)) + 1 by omega]; simpa using h2
theorem fnd_none (q : κ) : ∀ (m : List (κ × Value)) (i : Nat), fnd q m i = none ↔ q ∉ m.map (·.1)
 | [], i => by simp [fnd]
 | p :: m, i => by
  unfold fnd
  by_cases c : q = p.1
  ·rw [if_pos c]; simp [c]
  ·rw [if_neg c, fnd_none q m (i + 1)]; simp [c]
theorem fnd_shift (q : κ) : ∀ (m : List (κ × Value)) (i j : Nat), (fnd q m i).map (·.2) = (fnd q m j).map (·.2)
 | [], i, j => rfl
 | p :: m, i, j => by
  unfold fnd
  split
  ·rfl
  ·exact fnd_shift q m (i + 1) (j + 1)
theorem getM_cons (q : κ) (p : κ × Value) (m : List (κ × Value)) : getM q (p :: m) = if q = p.1 then some p.2 else getM q m := by
 unfold getM
 rw [fnd]
 split
 ·rfl
 ·exact fnd_shift q m 1 0
theorem getM_none {q : κ} {m : List (κ × Value)} : getM q m = none ↔ q ∉ m.map (·.1) := by
 unfold getM
 rw [Option.map_eq_none_iff, fnd_none]
theorem delM_cons (q : κ) (p : κ × Value) (m : List (κ × Value)) : delM q (p :: m) = if q = p.1 then m else p :: delM q m := by
 unfold delM
 rw [fnd]
 by_cases c : q = p.1
 ·simp [c]
 ·rw [if_neg c, if_neg c]
  have key : ∀ (m : List (κ × Value)) (i : Nat), (match fnd q m (i + 1) with | some (j, _) => (p :: m).eraseIdx (j - i) | none => p :: m) = p :: (match fnd q m i with | some (j, _) => m.eraseIdx (j - i) | none => m) := by
   intro m
   have sh : ∀ (m : List (κ × Value)) (i : Nat), fnd q m (i + 1) = (fnd q m i).map fun x => (x.1 + 1, x.2) := by
    intro m
    induction m with
    | nil => intro i; rfl
    | cons p m ih =>
     intro i
     unfold fnd
     split
     ·rfl
     ·exact ih (i + 1)
   intro i
   rw [sh]
   cases hf : fnd q m i with
   | none => rfl
   | some x =>
    obtain ⟨j, v⟩ := x
    have := (fnd_get q m i j v hf).1
    simp only [Option.map_some]
    rw [show j + 1 - i = (j - i) + 1 by omega]; rfl
  have := key m 0
  simpa using this
theorem delM_keys (q : κ) : ∀ m : List (κ × Value), ((delM q m).map (·.1)).Sublist (m.map (·.1))
 | [] => by simp [delM, fnd]
 | p :: m => by
  rw [delM_cons]
  split
  ·rw [List.map_cons]; exact List.sublist_cons_self _ _
  ·rw [List.map_cons, List.map_cons]; exact (delM_keys q m).cons_cons _
theorem getM_delM (q q' : κ) : ∀ m : List (κ × Value), (m.map (·.1)).Nodup -> getM q' (delM q m) = if q' = q then none else getM q' m
 | [], _ => by simp [delM, fnd, getM]
 | p :: m, h => by
  rw [List.map_cons, List.nodup_cons] at h
  have ih := getM_delM q q' m h.2
  rw [delM_cons]
  by_cases c : q = p.1
  ·rw [if_pos c, getM_cons]
   by_cases d : q' = q
   ·rw [if_pos d, d, c]
    exact getM_none.2 h.1
   ·rw [if_neg d, if_neg (by rw [<- c]; exact d)]
  ·rw [if_neg c, getM_cons, getM_cons, ih]
   by_cases d : q' = p.1
   ·rw [if_pos d, if_neg (by rw [d]; exact fun e => c e.symm), if_pos d]
   ·rw [if_neg d, if_neg d]
theorem setM_keys (q : κ) (v : Value) : ∀ m : List (κ × Value), (m.map (·.1)).Nodup -> ((setM q v m).map (·.1)).Nodup /\ ∀ x, x ∈ (setM q v m).map (·.1) -> x = q \/ x ∈ m.map (·.1)
 | [], _ => by simp [setM]
 | p :: m, h => by
  rw [List.map_cons, List.nodup_cons] at h
  have ih := setM_keys q v m h.2
  unfold setM
  by_cases c : q = p.1
  ·rw [if_pos c]
   refine ⟨by rw [List.map_cons, List.nodup_cons]; exact h, fun x hx => .inr hx⟩
  ·rw [if_neg c]
   refine ⟨?_, fun x hx => ?_⟩
   ·rw [List.map_cons, List.nodup_cons]
    refine ⟨fun hx => ?_, ih.1⟩
    rcases ih.2 _ hx with e | e
    ·exact c e.symm
    ·exact h.1 e
   ·rw [List.map_cons, List.mem_cons] at hx
    rcases hx with e | e
    ·exact .inr (by rw [List.map_cons, e]; exact List.mem_cons_self ..)
    ·rcases ih.2 _ e with e | e
     ·exact .inl e
     ·exact .inr (by rw [List.map_cons]; exact List.mem_cons_of_mem _ e)
theorem map_erase {α β : Type} (f : α -> β) : ∀ (l : List α) (i : Nat), (l.eraseIdx i).map f = (l.map f).eraseIdx i
 | [], _ => by simp
 | x :: l, 0 => by simp
 | x :: l, i + 1 => by simp [map_erase f l i]
theorem Ents.del {es : Array MapEntry} {c i : Nat} {m : List (κ × Value)} (h : Ents enc es c m) : Ents enc (es.eraseIdxIfInBounds i) c (m.eraseIdx i) := by
 have e0 : (es.eraseIdxIfInBounds i).toList = es.toList.eraseIdx i := by
  unfold Array.eraseIdxIfInBounds
  split
  ·simp
  ·rw [List.eraseIdx_of_length_le]; simpa using Nat.le_of_not_lt ‹_›
 refine ⟨?_, ?_, ?_⟩
 ·rw [e0, map_erase, map_erase, h.kvs]
 ·intro e he
  rw [e0] at he
  exact h.born e (List.mem_of_mem_eraseIdx he)
 ·rw [e0, map_erase]
  exact h.nodup.sublist (List.eraseIdx_sublist _ _)
theorem e_mapdel {e ty : TypeId} {g : Nat} {m : List (κ × Value)} {q : κ} {kt' : TypeId} [ht : MapT P t kt e] (K : KeyLaw P kt enc) (p : Pick L (MapIs g enc m) L') (h : Ent W (MapIs g enc (delM q m) :: L') (k (.tuple #[]))) : Ent W L (opN P (sDel #[t, kt'] ty [.map (some g), enc q]) Kp k) := fun w hw => by
 obtain ⟨es, c, he, hp⟩ := map_row (hw.pick p)
 have hg := hp.pt_.1
 have hf := findKey_run K q w he.kvs
 refine ⟨?_⟩
 cases hq : fnd q m 0 with
 | none =>
  have : (sDel #[t, kt'] ty [.map (some g), enc q]).run P w = .ok (.value (.tuple #[])) { w with heap := w.heap.setIfInBounds g (.map es c) } := by
   simp [sDel, Builtin.delete_, run_underlying ht.ut, MapKept.run_getObj_map hg, K.check, hf, hq, Result.andThen, MapKept.run_setObj_map _ hg]
  rw [this]
  refine h _ (map_back ?_ (hp.putObj _))
  rw [show delM q m = m by simp [delM, hq]]; exact he
 | some r =>
  obtain ⟨i, u⟩ := r
  have : (sDel #[t, kt'] ty [.map (some g), enc q]).run P w = .ok (.value (.tuple #[])) { w with heap := w.heap.setIfInBounds g (.map (es.eraseIdxIfInBounds i) c) } := by
   simp [sDel, Builtin.delete_, run_underlying ht.ut, MapKept.run_getObj_map hg, K.check, hf, hq, Result.andThen, MapKept.run_setObj_map _ hg]
  rw [this]
  refine h _ (map_back ?_ (hp.putObj _))
  rw [show delM q m = m.eraseIdx i by simp [delM, hq]]; exact he.del
def MapFn (g : Nat) (enc : κ -> Value) (f : κ -> Option Value) : HP := ex fun m => all [pu ((m.map (·.1)).Nodup /\ ∀ q, getM q m = f q), MapIs g enc m]
def updM (f : κ -> Option Value) (q : κ) (v : Option Value) : κ -> Option Value := fun x => if x = q then v else f x
theorem e_mf {g : Nat} {f : κ -> Option Value} {S : WP} (p : Pick L (MapFn g enc f) L') (h : ∀ m, (m.map (·.1)).Nodup -> (∀ q, getM q m = f q) -> Ent W (MapIs g enc m :: L') S) : Ent W L S := by
 refine e_ex p fun m => e_all .here ?_
 refine e_pu .here fun hm => h m hm.1 hm.2
theorem imp_mf {g : Nat} {f : κ -> Option Value} {M : List HP} {m : List (κ × Value)} (p : Pick L (MapIs g enc m) L') (h1 : (m.map (·.1)).Nodup) (h2 : ∀ q, getM q m = f q) (h : Imp W L' M) : Imp W L (MapFn g enc f :: M) :=
 .ex m (.all (.pu ⟨h1, h2⟩ (.pick p h)))
theorem e_lookF {e : TypeId} {z : Value} {g : Nat} {f : κ -> Option Value} {q : κ} [ht : MapT P t kt e] [hz : ZeroT P e z] (K : KeyLaw P kt enc) (p : Pick L (MapFn g enc f) L') (h : Ent W (MapFn g enc f :: L') (k ((f q).getD z))) : Ent W L (opN P (sLook t (.map (some g)) (enc q) false) Kp k) :=
 e_mf p fun m h1 h2 => e_opN (v_look K) (.pick .here .nil) (e_imp (imp_mf .here h1 h2 .refl) (by rw [h2]; exact h))
theorem e_setF {e : TypeId} {g : Nat} {f : κ -> Option Value} {q : κ} {v : Value} [ht : MapT P t kt e] (K : KeyLaw P kt enc) (p : Pick L (MapFn g enc f) L') (h : Ent W (MapFn g enc (updM f q (some v)) :: L') (k undef)) : Ent W L (opN P (sMapSet t (.map (some g)) (enc q) v) Kp k) :=
 e_mf p fun m h1 h2 => e_mapset K .here (e_imp (imp_mf .here (setM_keys q v m h1).1 (fun x => by rw [getM_setM, h2]; rfl) .refl) h)
theorem e_delF {e ty : TypeId} {g : Nat} {f : κ -> Option Value} {q : κ} {kt' : TypeId} [ht : MapT P t kt e] (K : KeyLaw P kt enc) (p : Pick L (MapFn g enc f) L') (h : Ent W (MapFn g enc (updM f q none) :: L') (k (.tuple #[]))) : Ent W L (opN P (sDel #[t, kt'] ty [.map (some g), enc q]) Kp k) :=
 e_mf p fun m h1 h2 => e_mapdel K .here (e_imp (imp_mf .here (h1.sublist (delM_keys q m)) (fun x => by rw [getM_delM q x m h1, h2]; rfl) .refl) h)
theorem e_mkF {e : TypeId} (enc : κ -> Value) [ht : MapT P t kt e] (h : ∀ g, Ent W (MapFn g enc (fun _ => none) :: L) (k (.map (some g)))) : Ent W L (opN P (sMkMap t none) Kp k) :=
 e_mkmap enc fun g => e_imp (imp_mf .here (by simp) (fun q => by simp [getM, fnd]) .refl) (h g)
theorem v_eqMap {P : Program} {W : World} {t kt e : TypeId} {ox oy : Operand} {g : Nat} [ht : MapT P t kt e] : RunV P W [] (sEq .eql t ox oy (.map (some g)) (.map none)) (.bool false) := fun w _ => by
 have h : (Op.equal t (.map (some g)) (.map none)).run P w = .ok false w := by
  unfold Op.equal Op.maxDepth Op.equalIn
  simp only [Sem.run_bind, run_underlying ht.ut, Result.andThen_ok]
  rfl
 simp [sEq, sv, eqGuard, binOp, h, Result.andThen]
end Go.Proofs.YthomhkpedghhgaaDoor.Sl
namespace Go.Proofs.YthomhkpedghhgaaDoor.PL
open Go Go.Proofs Go.RowKit Sh Sl T
structure Pr where
 id : Int
 max : Int
 idle : List Int
 busy : Int
 til : Int
structure Pl where
 n : Nat
 pr : Nat -> Pr
 bm : Int -> Option Nat
 im : Int -> Option Nat
 at_ : Nat
 num : Int
 tmo : Int
def pv (g : Nat) : Value := .pointer (some ⟨g, 0, none⟩)
instance {g : Nat} : OC (pv g) := ⟨rfl⟩
theorem key3 : KeyLaw p_ 3 encI := keyI (by kernel_rfl)
def IsPr (g : Nat) (x : Pr) : HP := ex fun q : Option Addr × Nat => all [pt g (.cells #[.int .i64 x.id, .int .i64 x.max, .slice q.1 x.idle.length q.2, .int .i64 x.busy, .int .i64 x.til] 84), Sl 1 3 q.1 q.2 x.idle.length (x.idle.map I)]
def mv (gs : Nat -> Nat) (f : Int -> Option Nat) : Int -> Option Value := fun k => (f k).map fun i => pv (gs i)
def ptrs (gs : Nat -> Nat) (n : Nat) : List Value := (List.range n).map fun i => pv (gs i)
def IsPl (p : Nat) (gs : Nat -> Nat) (Z : Pl) : HP := ex fun q : (Option Addr × Nat) × Nat × Nat => all [pt p (.cells #[.slice q.1.1 Z.n q.1.2, .map (some q.2.1), .map (some q.2.2), .int .i64 (Z.at_ : Int), .int .i64 Z.num, .int .i64 Z.tmo] 77), Sl 1 80 q.1.1 q.1.2 Z.n (ptrs gs Z.n), MapFn q.2.1 encI (mv gs Z.bm), MapFn q.2.2 encI (mv gs Z.im), BS Z.n (fun i => IsPr (gs i) (Z.pr i))]
theorem ptrs_get {gs : Nat -> Nat} {n i : Nat} (h : i < n) : (ptrs gs n)[i]? = some (pv (gs i)) := by simp [ptrs, h]
def fldP (x : Pr) : Nat -> Option Value
 | 0 => some (.int .i64 x.id)
 | 1 => some (.int .i64 x.max)
 | 3 => some (.int .i64 x.busy)
 | 4 => some (.int .i64 x.til)
 | _ => none
theorem v_pr {P : Program} {W : World} {t : TypeId} {gs : Nat -> Nat} {n off : Nat} {pr : Nat -> Pr} {v : Value} [ht : OneT P t] (i : Nat) (hi : i < n) (hf : fldP (pr i) off = some v) : RunV P W [BS n (fun i => IsPr (gs i) (pr i))] (sLoad t (.pointer (some ⟨gs i, off, none⟩))) v := by
 refine (e_big .here i hi (e_ex .here fun q => e_all .here ?_) : Ent W [BS n (fun i => IsPr (gs i) (pr i))] (fun w => (sLoad t (.pointer (some ⟨gs i, off, none⟩))).run P w = .ok (.value v) w))
 intro w hw
 have hw2 := hw.only
 match off, hf with
 | 0, hf => cases hf; exact v_ld (by rfl) w hw2
 | 1, hf => cases hf; exact v_ld (by rfl) w hw2
 | 3, hf => cases hf; exact v_ld (by rfl) w hw2
 | 4, hf => cases hf; exact v_ld (by rfl) w hw2
structure Wf (Z : Pl) : Prop where
 n1 : 1 <= Z.n
 n2 : Z.n <= 16
 at_ : Z.at_ < Z.n
 num : 0 <= Z.num /\ Z.num <= 1099511627776
 tmo : 1 <= Z.tmo /\ Z.tmo <= 3600
 pr : ∀ i, i < Z.n -> -1099511627776 <= (Z.pr i).busy /\ (Z.pr i).busy <= 1099511627776 /\ (Z.pr i).idle.length <= 1099511627776 /\ 1 <= (Z.pr i).max /\ (Z.pr i).max <= 64
 bm : ∀ q i, Z.bm q = some i -> i < Z.n
 im : ∀ q i, Z.im q = some i -> i < Z.n
theorem num_ {W : World} {n : Int} : Cn p_ 19 [.int .i64 n] W [] (fun _ : Unit => .int .i64 n) (fun _ => []) := by
 (refine S.law22_num_s.cn fun F => ?_; unfold S.law22_num; simp only [ca_, na_])
 refine rt_ () ?_
 exact .refl
theorem none_ {W : World} {p : Nat} {gs : Nat -> Nat} {Z : Pl} : Cn p_ 30 [pv p] W [IsPl p gs Z] (fun _ : Unit => .bool false) (fun _ => [IsPl p gs Z]) := by
 unfold pv
 (refine S.pool_Pool_none_s.cn fun F => ?_; unfold S.pool_Pool_none; simp only [ca_, na_])
 refine e_ex Pick.here fun q => e_all Pick.here ?_
 obtain ⟨⟨a, c⟩, mb, mi⟩ := q
 refine nr_ ?_
 refine o_ v_eqNil1 ?_; refine e_gdT (e_gdT (o_ v_nil (e_gdT (o_ v_fa0 (e_gdT (ln_ ?_)))))); refine e_gdT (o_ v_eqMap ?_)
 refine o_ v_pickF (rt_ () ?_)
 exact .ex ((a, c), mb, mi) (.all im_)
def far : Int := 1099511627776
def clk (n : Int) : Int := if -far < (if far < n then far else n) then (if far < n then far else n) else -far
theorem clock {W : World} {n : Int} : Cn p_ 32 [.int .i64 n] W [] (fun _ : Unit => .int .i64 (clk n)) (fun _ => []) := by
 (refine S.pool_clock_s.cn fun F => ?_; unfold S.pool_clock; simp only [ca_, na_])
 refine o_ v_min (o_ v_max (rt_ () ?_))
 exact .refl
def fdI (Z : Pl) (id : Int) : Nat -> Option Nat
 | 0 => none
 | k + 1 => match fdI Z id k with
  | some j => some j
  | none => if (Z.pr k).id = id then some k else none
def fd (Z : Pl) (id : Int) : Option Nat := fdI Z id Z.n
theorem fdI_up {Z : Pl} {id : Int} {k j : Nat} (h : fdI Z id k = some j) : ∀ m, fdI Z id (k + m) = some j
 | 0 => h
 | m + 1 => by rw [<- Nat.add_assoc, fdI, fdI_up h m]
def pvo (gs : Nat -> Nat) : Option Nat -> Value
 | some i => pv (gs i)
 | none => .pointer none
theorem peer {W : World} {p : Nat} {gs : Nat -> Nat} {Z : Pl} {id : Int} (hn : Z.n <= 1024) : Cn p_ 29 [pv p, .int .i64 id] W [IsPl p gs Z] (fun _ : Unit => pvo gs (fd Z id)) (fun _ => [IsPl p gs Z]) := by
 have upv : ∀ g, pv g = .pointer (some ⟨g, 0, none⟩) := fun _ => rfl
 rw [upv p]
 (refine S.pool_Pool_peer_s.cn fun F => ?_; unfold S.pool_Pool_peer; simp only [ca_, na_])
 refine e_ex Pick.here fun q => e_all Pick.here ?_
 obtain ⟨⟨a, c⟩, mb, mi⟩ := q
 refine nr_ ?_
 refine o_ v_nil (o_ v_fa0 (ln_ ?_)); refine o_ v_len ?_
 obtain ⟨n, hnE⟩ : ∃ n, n = Z.n := ⟨_, rfl⟩
 refine e_loop1 (fun m y => [ex fun i : Nat => pu (m + i = Z.n /\ y = .int .i64 (i : Int) /\ fdI Z id i = none), pt p (.cells #[.slice a Z.n c, .map (some mb), .map (some mi), .int .i64 (Z.at_ : Int), .int .i64 Z.num, .int .i64 Z.tmo] 77), Sl 1 80 a c Z.n (ptrs gs Z.n), MapFn mb encI (mv gs Z.bm), MapFn mi encI (mv gs Z.im), BS Z.n (fun i => IsPr (gs i) (Z.pr i))] ++ F) Z.n ?_ ?_
 ·refine .ex 0 (.pu ⟨by omega, rfl, rfl⟩ ?_)
  exact im_
 intro m ds y
 refine nr_ ?_
 refine e_ex Pick.here fun i => e_pu Pick.here fun hi => ?_
 obtain ⟨hmi, rfl, hf⟩ := hi
 refine e_ask v_lss .nil (fun h => ?_) (fun h => ?_)
 ·have hil : i < Z.n := by omega
  refine e_condT (e_slsome (.there .here) (by omega) fun g hg => ?_)
  subst hg
  refine o_ (v_ia1 i (by rfl) hil) ?_
  refine p_op (v_ldSl (v := pv (gs i)) (by rw [Nat.zero_add]; exact ptrs_get hil)) ?_
  rw [upv (gs i)]
  refine o_ v_nil (o_ v_fa0 (o_ v_fa0 (p_op (v_pr i hil (v := .int .i64 (Z.pr i).id) rfl) ?_)))
  refine e_ask v_eql .nil (fun h => ?_) (fun h => ?_)
  ·refine e_condT ?_
   have : fd Z id = some i := by
    have h1 : fdI Z id (i + 1) = some i := by rw [fdI, hf]; simp [h]
    have := fdI_up h1 (Z.n - (i + 1))
    rwa [show i + 1 + (Z.n - (i + 1)) = Z.n by omega] at this
   rw [this]
   refine e_ret () rfl ?_
   exact .ex ((some ⟨g, 0, none⟩, c), mb, mi) (.all im_)
  ·(refine e_condF ?_); refine ad_ ?_
   refine e_next1 (m - 1) (by omega) (.ex (i + 1) (.pu ⟨by omega, rfl, by rw [fdI, hf]; simp [h]⟩ ?_))
   exact im_
 ·have : i = Z.n := by omega
  subst this
  rw [show fd Z id = none from hf]
  refine e_condF (e_ret () rfl ?_)
  exact .ex ((a, c), mb, mi) (.all im_)
theorem pvo_nil {P : Program} {W : World} {t : TypeId} {ox oy : Operand} {gs : Nat -> Nat} {o : Option Nat} [ht : PtrT P t] : RunV P W [] (sEq .eql t ox oy (pvo gs o) (.pointer none)) (.bool o.isNone) := by
 cases o with
 | none => exact v_eqNil0
 | some i => exact v_eqNil1
theorem pvo_nonnil {P : Program} {W : World} {t : TypeId} {ox oy : Operand} {gs : Nat -> Nat} {o : Option Nat} [ht : PtrT P t] : RunV P W [] (sEq .neq t ox oy (pvo gs o) (.pointer none)) (.bool o.isSome) := by
 cases o with
 | none => exact v_neNil0
 | some i => exact v_neNil1
def updO (f : Int -> Option Nat) (q : Int) (v : Option Nat) : Int -> Option Nat := fun x => if x = q then v else f x
theorem mv_upd (gs : Nat -> Nat) (f : Int -> Option Nat) (q : Int) (v : Option Nat) : mv gs (updO f q v) = updM (mv gs f) q (v.map fun i => pv (gs i)) := by
 funext x
 unfold mv updO updM
 by_cases h : x = q <;> simp [h]
theorem mv_get (gs : Nat -> Nat) (f : Int -> Option Nat) (q : Int) : (mv gs f q).getD (.pointer none) = pvo gs (f q) := by
 unfold mv
 cases f q <;> rfl
def setP (pr : Nat -> Pr) (i : Nat) (x : Pr) : Nat -> Pr := fun j => if j = i then x else pr j
def done (Z : Pl) (id : Int) (keep : Bool) : Pl := match Z.bm id with
 | none => Z
 | some i => { Z with bm := updO Z.bm id none, im := if keep then updO Z.im id (some i) else Z.im, pr := setP Z.pr i { Z.pr i with busy := (Z.pr i).busy - 1, idle := if keep then (Z.pr i).idle ++ [id] else (Z.pr i).idle } }
def doneR (Z : Pl) (id : Int) : Int := match Z.bm id with
 | none => 3
 | some _ => 0
theorem done_ {W : World} {p : Nat} {gs : Nat -> Nat} {Z : Pl} {id : Int} {keep : Bool} (hz : Wf Z) : Cn p_ 21 [pv p, .int .i64 id, .bool keep] W [IsPl p gs Z] (fun _ : Unit => .int .i64 (doneR Z id)) (fun _ => [IsPl p gs (done Z id keep)]) := by
 (refine S.pool_Pool_Done_s.cn fun F => ?_; unfold S.pool_Pool_Done; simp only [ca_, na_])
 refine c_ none_ fun _ => ?_
 refine e_condF (e_ex Pick.here fun q => e_all Pick.here ?_)
 obtain ⟨⟨a, c⟩, mb, mi⟩ := q
 refine nr_ ?_
 unfold pv
 refine o_ v_nil (o_ v_fa0 (ln_ ?_))
 refine e_lookF (q := id) key3 (.there (.there .here)) ?_
 rw [mv_get]
 refine o_ (pvo_nil (P := p_) (t := 80)) ?_
 unfold done doneR
 cases hb : Z.bm id with
 | none =>
  simp only [Option.isNone_none]
  refine e_condT (rt_ () ?_)
  exact .ex ((a, c), mb, mi) (.all im_)
 | some i =>
  have hil := hz.bm _ _ hb
  have hpr := hz.pr i hil
  simp only [Option.isNone_some]
  unfold pvo pv
  refine e_condF (o_ v_nil (o_ v_fa0 (ln_ ?_)))
  refine e_delF (q := id) key3 (by repeat constructor) ?_
  refine o_ v_nil (o_ v_fa0 (e_big (.there (.there (.there (.there .here)))) i hil ?_))
  refine e_ex Pick.here fun q => e_all Pick.here ?_
  obtain ⟨qa, qc⟩ := q
  refine nr_ ?_
  refine ln_ ?_; refine sb_ ?_; refine o_ v_nil (o_ v_fa0 (sn_ ?_))
  cases keep with
  | false =>
   refine e_condF (rt_ () ?_)
   refine .ex ((a, c), mb, mi) (.all ?_)
   refine nr_ ?_
   refine .pick (by repeat constructor) (.pick (by repeat constructor) ?_)
   rw [mv_upd]
   refine .pick (by repeat constructor) (.pick (by repeat constructor) ?_)
   refine imp_big i hil (F := fun i => IsPr (gs i) (Z.pr i)) (fun j hj hji => by simp [setP, hji]) ?_
   simp only [setP, if_true]
   refine .ex (qa, qc) (.all ?_)
   refine nr_ ?_
   exact .pick (by repeat constructor) (.pick (by repeat constructor) (.pick (by repeat constructor) .refl))
  | true =>
   refine e_condT (o_ v_nil (o_ v_fa0 (ln_ ?_))); refine e_bsl1 fun g => ?_
   refine e_slfacts (.there (.there .here)) fun f1 f2 f3 f4 => ?_
   refine e_app (m := 1) (news := [I id]) (by repeat constructor) (src_pt (e' := 3) (by kernel_rfl) .here (by rfl) (I_one (l := [id]))) (by omega) (by omega) fun a' c' => ?_
   refine o_ v_nil (o_ v_fa0 (sn_ ?_)); refine o_ v_nil (o_ v_fa0 (ln_ ?_))
   refine e_setF (q := id) key3 (by repeat constructor) ?_
   refine rt_ () ?_
   refine .ex ((a, c), mb, mi) (.all ?_)
   refine nr_ ?_
   refine .pick (by repeat constructor) (.pick (by repeat constructor) ?_)
   rw [mv_upd]
   refine .pick (by repeat constructor) ?_
   simp only [if_true]
   rw [mv_upd]
   refine .pick (by repeat constructor) ?_
   refine imp_big i hil (F := fun i => IsPr (gs i) (Z.pr i)) (fun j hj hji => by simp [setP, hji]) ?_
   simp only [setP, if_true]
   refine .ex (a', c') (.all ?_)
   refine nr_ ?_
   rw [List.length_append, List.map_append, List.length_singleton]
   exact .pick (by repeat constructor) (.pick (by repeat constructor) (.pick (by repeat constructor) im_))
theorem round {W : World} {p : Nat} : Cn p_ 31 [pv p] W [] (fun c : Nat => .func (.func 40) #[] [pv c].toArray) (fun c => [pt c (.cells #[pv p] 43)]) := by
 (refine S.pool_Pool_round_s.cn fun F => ?_; unfold S.pool_Pool_round; simp only [ca_, na_])
 refine e_box1 fun c => ?_
 refine o_ v_mkF (rt_ c ?_)
 exact .refl
def ord (Z : Pl) (k : Nat) : Nat := (Z.at_ + k) % Z.n
theorem ord_lt {Z : Pl} (hz : Wf Z) (k : Nat) : ord Z k < Z.n := Nat.mod_lt _ hz.n1
def turns (gs : Nat -> Nat) (Z : Pl) : List (List Value) := (List.range Z.n).map fun k => [.int .i64 (ord Z k : Int), pv (gs (ord Z k))]
theorem turns_get {gs : Nat -> Nat} {Z : Pl} {k : Nat} (h : k < Z.n) : (turns gs Z)[k]? = some [.int .i64 (ord Z k : Int), pv (gs (ord Z k))] := by simp [turns, h]
theorem turns_len {gs : Nat -> Nat} {Z : Pl} : (turns gs Z).length = Z.n := by simp [turns]
theorem round1 {W : World} {p c l : Nat} {gs : Nat -> Nat} {Z : Pl} {G : Nat -> HP} {Gx T T' : HP} (hz : Wf Z)
  (hy : YieldC p_ l (turns gs Z) (fun k => all [T, all [pt c (.cells #[pv p] 43), IsPl p gs Z, G k]]) (all [T', Gx]) W) :
  Cn p_ 40 [yv l, pv c] W [all [T, all [pt c (.cells #[pv p] 43), IsPl p gs Z, G 0]]] (fun _ : Bool => .tuple #[]) (fun b => [if b then all [T, all [pt c (.cells #[pv p] 43), IsPl p gs Z, G Z.n]] else all [T', Gx]]) := by
 obtain ⟨n1, n2, at1⟩ : 1 <= Z.n /\ Z.n <= 16 /\ Z.at_ < Z.n := ⟨hz.n1, hz.n2, hz.at_⟩
 have upv : ∀ g, pv g = .pointer (some ⟨g, 0, none⟩) := fun _ => rfl
 (refine S.pool_Pool_round_1_s.cn fun F => ?_; unfold S.pool_Pool_round_1; simp only [ca_, na_])
 refine e_all .here ?_
 refine nr_ ?_
 refine e_all (.there .here) ?_
 refine nr_ ?_
 refine e_ex (.there .here) fun q => e_all Pick.here ?_
 obtain ⟨⟨a, cc⟩, mb, mi⟩ := q
 refine nr_ ?_
 rw [upv c, upv p]
 refine ln_ ?_; refine o_ v_nil (o_ v_fa0 (ln_ ?_)); refine o_ v_len (e_loop1 (fun m y => [ex fun k : Nat => all [pu (m + k = Z.n /\ y = .int .i64 (k : Int)), all [T, all [pt c (.cells #[pv p] 43), IsPl p gs Z, G k]]]] ++ F) Z.n ?_ ?_)
 ·refine .ex 0 (.all ?_)
  refine nr_ ?_
  refine .pu ⟨by omega, rfl⟩ (.all ?_)
  refine nr_ ?_
  refine .pick (by repeat constructor) (.all ?_)
  refine nr_ ?_
  refine .pick (by repeat constructor) (.ex ((a, cc), mb, mi) (.all ?_))
  refine nr_ ?_
  exact im_
 intro m ds y
 refine nr_ ?_
 refine e_ex Pick.here fun k => e_all Pick.here ?_
 refine nr_ ?_
 refine e_pu Pick.here fun hi => ?_
 obtain ⟨hmi, rfl⟩ := hi
 refine e_ask v_lss .nil (fun h => ?_) (fun h => ?_)
 ·have hkl : k < Z.n := by omega
  have hol := ord_lt hz k
  refine e_condT (e_drS (e_all .here ?_))
  refine nr_ ?_
  refine e_all (.there .here) ?_
  refine nr_ ?_
  refine e_ex (.there .here) fun q => e_all Pick.here ?_
  obtain ⟨⟨a, cc⟩, mb, mi⟩ := q
  refine nr_ ?_
  rw [upv p]
  refine ls_ ?_; refine t_ v_nil (t_ v_fa0 (ls_ ?_)); (refine t_ (v_add (by omega) (by omega)) ?_); refine ls_ ?_; refine t_ v_nil (t_ v_fa0 (ls_ ?_)); refine t_ v_len ?_; (((refine t_ (v_rem ?h1 ?h2) ?_); (case h1 => omega); (case h2 => omega))); refine ln_ ?_; refine o_ v_nil (o_ v_fa0 (ln_ ?_))
  have e1 : ((Z.at_ : Int) + (k : Int)) % (Z.n : Int) = (ord Z k : Int) := by unfold ord; norm_cast
  rw [e1]
  refine e_slsome (.there .here) (by omega) fun g hg => ?_
  subst hg
  refine o_ (v_ia1 (ord Z k) (by rfl) hol) ?_
  refine p_op (v_ldSl (v := pv (gs (ord Z k))) (by rw [Nat.zero_add]; exact ptrs_get hol)) ?_
  refine e_imp (M := all [T, all [pt c (.cells #[pv p] 43), IsPl p gs Z, G k]] :: F) ?_ ?_
  ·refine .all ?_
   refine nr_ ?_
   refine .pick (by repeat constructor) (.all ?_)
   refine nr_ ?_
   refine .pick (by repeat constructor) (.ex ((some ⟨g, 0, none⟩, cc), mb, mi) (.all ?_))
   refine nr_ ?_
   exact im_
  refine e_yield hy k (turns_get hkl) .here ?_ ?_
  ·refine o_ v_notT (e_condF (ad_ ?_))
   refine e_next1 (m - 1) (by omega) (.ex (k + 1) (.all ?_))
   refine nr_ ?_
   exact .pu ⟨by omega, rfl⟩ .refl
  ·refine o_ v_notF (e_condT (rt_ false ?_))
   exact .refl
 ·have : k = Z.n := by omega
  subst this
  refine e_condF (rt_ true ?_)
  exact .refl
def avail (Z : Pl) (now : Int) (i : Nat) : Prop := ¬ clk now < (Z.pr i).til /\ (0 < (Z.pr i).idle.length \/ (Z.pr i).busy < (Z.pr i).max)
instance (Z : Pl) (now : Int) (i : Nat) : Decidable (avail Z now i) := by unfold avail; infer_instance
def pkI (Z : Pl) (now : Int) : Nat -> Option Nat
 | 0 => none
 | k + 1 => match pkI Z now k with
  | some j => some j
  | none => if avail Z now (ord Z k) then some k else none
theorem pkI_up {Z : Pl} {now : Int} {k j : Nat} (h : pkI Z now k = some j) : ∀ m, pkI Z now (k + m) = some j
 | 0 => h
 | m + 1 => by rw [<- Nat.add_assoc, pkI, pkI_up h m]
def eC (Z : Pl) (now : Int) : Nat -> Int
 | 0 => 3
 | k + 1 => if clk now < (Z.pr (ord Z k)).til then eC Z now k else 63
def tkId (Z : Pl) (i : Nat) : Int := if 0 < (Z.pr i).idle.length then (Z.pr i).idle.getD ((Z.pr i).idle.length - 1) 0 else Z.num
def took (Z : Pl) (i : Nat) : Pl := { Z with pr := setP Z.pr i { Z.pr i with idle := (Z.pr i).idle.take ((Z.pr i).idle.length - 1), busy := (Z.pr i).busy + 1 }, im := if 0 < (Z.pr i).idle.length then updO Z.im (tkId Z i) none else Z.im, num := if 0 < (Z.pr i).idle.length then Z.num else Z.num + 1, bm := updO Z.bm (tkId Z i) (some i), at_ := (i + 1) % Z.n }
structure Tk where
 peer : Int
 id : Int
 fresh : Bool
 e : Int
def takeF (Z : Pl) (now : Int) : Tk × Pl := match pkI Z now Z.n with
 | some k => (⟨(Z.pr (ord Z k)).id, tkId Z (ord Z k), decide ((Z.pr (ord Z k)).idle.length = 0), 0⟩, took Z (ord Z k))
 | none => (⟨0, 0, false, eC Z now Z.n⟩, Z)
def tkV (t : Tk) : Value := .tuple #[.agg #[.int .i64 t.peer, .int .i64 t.id], .bool t.fresh, .int .i64 t.e]
theorem take {W : World} {p : Nat} {gs : Nat -> Nat} {Z : Pl} {now : Int} (hz : Wf Z) (hi : ∀ i, i < Z.n -> (Z.pr i).idle.length <= 1099511627776) : Cn p_ 20 [pv p, .int .i64 now] W [IsPl p gs Z] (fun _ : Unit => tkV (takeF Z now).1) (fun _ => [IsPl p gs (takeF Z now).2]) := by
 have upv : ∀ g, pv g = .pointer (some ⟨g, 0, none⟩) := fun _ => rfl
 obtain ⟨n1, n2, at1⟩ : 1 <= Z.n /\ Z.n <= 16 /\ Z.at_ < Z.n := ⟨hz.n1, hz.n2, hz.at_⟩
 (refine S.pool_Pool_Take_s.cn fun F => ?_; unfold S.pool_Pool_Take; simp only [ca_, na_])
 refine e_box1 fun b2 => ?_
 refine e_box1 fun b3 => ?_
 refine e_newA fun b4 => ?_
 refine e_new1 fun b5 => ?_
 refine e_new1 fun b6 => ?_
 refine ln_ ?_
 refine c_ none_ fun _ => ?_
 refine e_condF (sn_ ?_); refine ln_ ?_
 refine c_ round fun _ => ?_
 rename_i bc
 have G0 : True := trivial
 refine e_rf (f := 40) (cap := [pv bc]) (turns gs Z)
  (fun k => all [pt bc (.cells #[pv p] 43), IsPl p gs Z, all [pu (pkI Z now k = none /\ k <= Z.n), pt b2 (.cells #[pv p] 43), pt b3 (.cells #[.int .i64 now] 3), pt b4 (.cells #[.int .i64 0, .int .i64 0] 57), pt b5 (.cells #[.bool false] 4), pt b6 (.cells #[.int .i64 (eC Z now k)] 44), all F]])
  (all [ex fun k : Nat => all [pu (pkI Z now Z.n = some k), IsPl p gs (took Z (ord Z k)), pt b4 (.cells #[.int .i64 (Z.pr (ord Z k)).id, .int .i64 (tkId Z (ord Z k))] 57), pt b5 (.cells #[.bool (decide ((Z.pr (ord Z k)).idle.length = 0))] 4), pt b6 (.cells #[.int .i64 0] 44)], all F]) rfl ?_ ?_ ?_ ?_ ?_ ?_
 ·intro x hx
  obtain ⟨k, _, rfl⟩ := List.mem_map.1 hx
  rfl
 ·refine .all ?_
  refine nr_ ?_
  refine .pick (by repeat constructor) (.pick (by repeat constructor) (.all ?_))
  refine nr_ ?_
  refine .pu ⟨rfl, by omega⟩ ?_
  refine .pick (by repeat constructor) (.pick (by repeat constructor) (.pick (by repeat constructor) (.pick (by repeat constructor) (.pick (by repeat constructor) (.all ?_)))))
  rw [List.append_nil]
  exact .refl
 ·intro l T T' hy
  rw [turns_len]
  exact round1 hz hy
 ·intro k hk F2 T0 T1 B N J hB hN hJ
  rw [turns_len] at hk
  have e0 : ∀ h, (turns gs Z)[k]'h = [.int .i64 (ord Z k : Int), pv (gs (ord Z k))] := fun h => by
   have := turns_get (gs := gs) hk
   rw [List.getElem?_eq_getElem h] at this
   exact Option.some.inj this
  rw [e0]
  simp only [vapp, List.headD_cons, List.tail_cons]
  have hil := ord_lt hz k
  obtain ⟨i, hie⟩ : ∃ i, i = ord Z k := ⟨_, rfl⟩
  rw [<- hie] at hil ⊢
  have hpr := hz.pr i hil
  have hid := hi i hil
  have hnum := hz.num
  refine e_all (.there .here) ?_
  refine nr_ ?_
  refine e_all (.there (.there .here)) ?_
  refine nr_ ?_
  refine e_pu .here fun hp => ?_
  obtain ⟨hp, hkn⟩ := hp
  refine hB _ _ _ (by repeat constructor) ?_
  refine e_ex (A := fun q : (Option Addr × Nat) × Nat × Nat => all [pt p (.cells #[.slice q.1.1 Z.n q.1.2, .map (some q.2.1), .map (some q.2.2), .int .i64 (Z.at_ : Int), .int .i64 Z.num, .int .i64 Z.tmo] 77), Sl 1 80 q.1.1 q.1.2 Z.n (ptrs gs Z.n), MapFn q.2.1 encI (mv gs Z.bm), MapFn q.2.2 encI (mv gs Z.im), BS Z.n (fun i => IsPr (gs i) (Z.pr i))]) (by repeat constructor) fun q => e_all Pick.here ?_
  obtain ⟨⟨a, c⟩, mb, mi⟩ := q
  refine nr_ ?_
  unfold pv
  refine e_drS (ls_ ?_); refine e_stD v_nil .nil ?_; refine e_stD v_fa0 .nil ?_
  refine e_stD (v_pr i hil (v := .int .i64 (Z.pr i).til) rfl) (.pick (by repeat constructor) .nil) ?_
  refine c_ clock fun _ => ?_
  refine ob_ ?_; refine ob_ ?_; refine ob_ ?_
  refine e_askS v_lss .nil (fun h => ?_) (fun h => ?_)
  ·refine e_condT (hN _ ?_)
   refine .pick (by repeat constructor) (.all ?_)
   refine nr_ ?_
   refine .pick (by repeat constructor) (.ex ((a, c), mb, mi) (.all ?_))
   refine nr_ ?_
   refine .pick (by repeat constructor) (.pick (by repeat constructor) (.pick (by repeat constructor) (.pick (by repeat constructor) (.pick (by repeat constructor) (.all ?_)))))
   refine nr_ ?_
   have e1 : eC Z now (k + 1) = eC Z now k := by rw [eC, if_pos (by rw [<- hie]; exact h)]
   have e2 : pkI Z now (k + 1) = none := by
    rw [pkI, hp]
    simp only
    rw [if_neg (fun c => c.1 (by rw [<- hie]; exact h))]
   rw [e1]
   refine .pu ⟨e2, by omega⟩ ?_
   exact im_
  refine e_condF ?_
  have hclk := h
  have e1 : eC Z now (k + 1) = 63 := by rw [eC, if_neg (by rw [<- hie]; exact h)]
  refine e_big (by repeat constructor) i hil ?_
  refine e_ex Pick.here fun q => e_all Pick.here ?_
  obtain ⟨qa, qc⟩ := q
  refine nr_ ?_
  refine sn_ ?_; refine ln_ ?_; refine o_ v_nil (o_ v_fa0 (ln_ ?_)); refine o_ v_nil (o_ v_fa0 (ln_ ?_)); refine o_ v_len (e_slfacts (.there (.there .here)) fun f1 f2 f3 f4 => ?_)
  have hav : ∀ j, j = ord Z k -> (avail Z now j ↔ (0 < (Z.pr i).idle.length \/ (Z.pr i).busy < (Z.pr i).max)) := fun j hj => by
   rw [hj, <- hie]
   exact ⟨fun x => x.2, fun x => ⟨hclk, x⟩⟩
  refine e_cut1 (fun z => [ex fun q : Option Addr × Nat => all [pu (z = .int .i64 (tkId Z i) /\ (0 < (Z.pr i).idle.length \/ (Z.pr i).busy < (Z.pr i).max)),
    pt (gs i) (.cells #[.int .i64 (Z.pr i).id, .int .i64 (Z.pr i).max, .slice q.1 ((Z.pr i).idle.length - 1) q.2, .int .i64 (Z.pr i).busy, .int .i64 (Z.pr i).til] 84),
    Sl 1 3 q.1 q.2 ((Z.pr i).idle.length - 1) (((Z.pr i).idle.take ((Z.pr i).idle.length - 1)).map I),
    pt p (.cells #[.slice a Z.n c, .map (some mb), .map (some mi), .int .i64 (Z.at_ : Int), .int .i64 (took Z i).num, .int .i64 Z.tmo] 77),
    MapFn mi encI (mv gs (took Z i).im)], pt b6 (.cells #[.int .i64 63] 44), BH Z.n (fun i => IsPr (gs i) (Z.pr i)) i, Sl 1 80 a c Z.n (ptrs gs Z.n), MapFn mb encI (mv gs Z.bm), T1, pt b2 (.cells #[.pointer (some ⟨p, 0, none⟩)] 43), pt b3 (.cells #[.int .i64 now] 3), pt b4 (.cells #[.int .i64 0, .int .i64 0] 57), pt b5 (.cells #[.bool false] 4), all F, pt bc (.cells #[.pointer (some ⟨p, 0, none⟩)] 43)] ++ F2) ?_ ?_
  rotate_left
  ·refine o_ v_gtr ?_
   by_cases hn0 : 0 < (Z.pr i).idle.length
   ·rw [dT_ (by omega)]
    refine e_condT (e_drS ?_)
    obtain ⟨gq, rfl⟩ := f4 hn0
    have hlt : (Z.pr i).idle.length - 1 < (Z.pr i).idle.length := by omega
    refine t_ v_nil (t_ v_fa0 (ls_ ?_)); (refine t_ (v_sub (by omega) (by omega)) ?_)
    refine t_ (v_ia1 ((Z.pr i).idle.length - 1) (by omega) hlt) ?_
    refine p_st (v_ldSl (v := I (Z.pr i).idle[(Z.pr i).idle.length - 1]) (by rw [Nat.zero_add]; exact I_get hlt)) ?_
    refine t_ v_nil (t_ v_fa0 (ls_ ?_)); (refine t_ (v_sub (by omega) (by omega)) ?_)
    refine t_ (v_slh0 ((Z.pr i).idle.length - 1) (by omega) (by omega)) ?_
    refine t_ v_nil (t_ v_fa0 (sn_ ?_)); refine ln_ ?_; refine o_ v_nil (o_ v_fa0 (ln_ ?_))
    refine e_delF (q := (Z.pr i).idle[(Z.pr i).idle.length - 1]) key3 (by repeat constructor) ?_
    refine e_slcut (m := (Z.pr i).idle.length - 1) (L := _) (by repeat constructor) (by omega) ?_
    rw [Nat.mul_one, <- List.map_take]
    have ht : (Z.pr i).idle[(Z.pr i).idle.length - 1] = tkId Z i := by
     unfold tkId
     rw [if_pos hn0, List.getD_eq_getElem?_getD, List.getElem?_eq_getElem hlt]; rfl
    rw [ht]
    refine e_sat (.ex (some ⟨gq, 0, none⟩, qc) (.all ?_))
    refine nr_ ?_
    refine .pu ⟨by rw [<- ht]; rfl, .inl hn0⟩ ?_
    rw [show (took Z i).num = Z.num by simp [took, hn0], show (took Z i).im = updO Z.im (tkId Z i) none by simp [took, hn0], mv_upd]
    refine .pick (by repeat constructor) (.pick (by repeat constructor) (.pick (by repeat constructor) (.pick (by repeat constructor) ?_)))
    exact im_
   ·rw [dF_ (by omega)]
    refine e_condF (e_drS (t_ v_nil (t_ v_fa0 (ls_ ?_)))); refine t_ v_nil (t_ v_fa0 (t_ v_fa0 (ls_ ?_)))
    refine e_askS v_lss .nil (fun h => ?_) (fun h => ?_)
    ·(refine e_condT ?_); refine ln_ ?_; refine o_ v_nil ?_; refine o_ v_fa0 ?_; refine ln_ ?_; refine ad_ ?_; refine o_ v_nil ?_; refine o_ v_fa0 ?_; refine sn_ ?_
     have hl0 : (Z.pr i).idle = [] := List.eq_nil_of_length_eq_zero (by omega)
     have ht : tkId Z i = Z.num := by unfold tkId; rw [if_neg hn0]
     refine e_sat (.ex (qa, qc) (.all ?_))
     refine nr_ ?_
     refine .pu ⟨by rw [ht], .inr h⟩ ?_
     rw [show (took Z i).num = Z.num + 1 by simp [took, hn0], show (took Z i).im = Z.im by simp [took, hn0], hl0]
     refine .pick (by repeat constructor) (.pick (by repeat constructor) (.pick (by repeat constructor) (.pick (by repeat constructor) ?_)))
     exact im_
    ·refine e_condF (hN _ ?_)
     refine .pick (by repeat constructor) (.all ?_)
     refine nr_ ?_
     refine .pick (by repeat constructor) (.ex ((a, c), mb, mi) (.all ?_))
     refine nr_ ?_
     refine .pick (by repeat constructor) (.pick (by repeat constructor) (.pick (by repeat constructor) (.pick (by repeat constructor) ?_)))
     refine imp_big i hil (F := fun i => IsPr (gs i) (Z.pr i)) (fun j hj hji => rfl) ?_
     refine .ex (qa, qc) (.all ?_)
     refine nr_ ?_
     refine .pick (by repeat constructor) (.pick (by repeat constructor) (.pick (by repeat constructor) (.all ?_)))
     refine nr_ ?_
     have e2 : pkI Z now (k + 1) = none := by
      rw [pkI, hp]
      simp only
      rw [if_neg (fun c => by rcases (hav _ rfl).1 c with c | c <;> omega)]
     rw [e1]
     refine .pu ⟨e2, by omega⟩ ?_
     exact im_
  intro ds z
  refine nr_ ?_
  refine e_ex Pick.here fun q => e_all Pick.here ?_
  obtain ⟨qa, qc⟩ := q
  refine nr_ ?_
  refine e_pu .here fun hx => ?_
  obtain ⟨rfl, hx⟩ := hx
  refine o_ v_nil (o_ v_fa0 (ln_ ?_)); refine ad_ ?_; refine o_ v_nil (o_ v_fa0 (sn_ ?_)); refine ln_ ?_; refine o_ v_nil (o_ v_fa0 (ln_ ?_))
  refine e_setF (q := tkId Z i) key3 (by repeat constructor) ?_
  refine e_drS (ls_ ?_); (refine t_ (v_add (by omega) (by omega)) ?_); refine ls_ ?_; refine t_ v_nil (t_ v_fa0 (ls_ ?_)); refine t_ v_len ?_; (((refine t_ (v_rem ?h1 ?h2) ?_); (case h1 => omega); (case h2 => omega))); refine t_ v_nil (t_ v_fa0 (sn_ ?_)); refine o_ v_nil (o_ v_fa0 (o_ v_fa0 (ln_ ?_))); refine o_ v_rv ?_
  have e2 : ((i : Int) + 1) % (Z.n : Int) = (((i + 1) % Z.n : Nat) : Int) := by norm_cast
  rw [e2]
  refine o_ v_eql ?_
  rw [show decide (((Z.pr i).idle.length : Int) = 0) = decide ((Z.pr i).idle.length = 0) by simp]
  refine sg_ ?_; refine sn_ ?_; refine sn_ ?_
  refine hJ _ ?_
  have hpk : pkI Z now Z.n = some k := by
   have h1 : pkI Z now (k + 1) = some k := by
    rw [pkI, hp]
    simp only
    rw [if_pos ((hav _ rfl).2 hx)]
   have := pkI_up h1 (Z.n - (k + 1))
   rwa [show k + 1 + (Z.n - (k + 1)) = Z.n by omega] at this
  refine .pick (by repeat constructor) (.all ?_)
  refine nr_ ?_
  refine .ex k (.all ?_)
  refine nr_ ?_
  rw [<- hie]
  refine .pu hpk (.ex ((a, c), mb, mi) (.all ?_))
  refine nr_ ?_
  refine .pick (by repeat constructor) (.pick (by repeat constructor) ?_)
  rw [show (took Z i).bm = updO Z.bm (tkId Z i) (some i) from rfl, mv_upd]
  refine .pick (by repeat constructor) (.pick (by repeat constructor) ?_)
  refine imp_big i hil (F := fun i => IsPr (gs i) (Z.pr i)) (fun j hj hji => by simp [took, setP, hji]) ?_
  simp only [took, setP, if_true]
  refine .ex (qa, qc) (.all ?_)
  refine nr_ ?_
  rw [List.length_take, show min ((Z.pr i).idle.length - 1) (Z.pr i).idle.length = (Z.pr i).idle.length - 1 by omega]
  refine .pick (by repeat constructor) (.pick (by repeat constructor) (.pick (by repeat constructor) ?_))
  exact im_
 ·intro d
  refine e_all (.there .here) ?_
  refine nr_ ?_
  refine e_all (.there (.there .here)) ?_
  refine nr_ ?_
  refine e_pu .here fun hp => ?_
  rw [turns_len] at hp ⊢
  refine e_drS (t_ v_rv ?_); (((refine' e_stD (v_ldN ?hc) ?hi ?_); (case hi => exact .pick (by repeat constructor) .nil); (case hc => repeat constructor))); refine sg_ ?_; refine ob_ ?_; refine sn_ ?_; refine ob_ ?_; refine sn_ ?_
  refine e_tk (by repeat constructor) ?_
  (((refine' e_stS (v_resA ?hn) ?hi ?_); (case hi => exact im_); (case hn => rfl))); (((refine' e_stS (v_res1 ?hc) ?hi ?_); (case hi => exact im_); (case hc => repeat constructor))); (((refine' e_stS (v_res1 ?hc) ?hi ?_); (case hi => exact im_); (case hc => repeat constructor)))
  have ht : takeF Z now = (⟨0, 0, false, eC Z now Z.n⟩, Z) := by unfold takeF; rw [hp.1]
  rw [ht]
  refine e_rest (M := [IsPl p gs Z]) (F := F) im_ ?_
  refine nr_ ?_
  refine rt_ () ?_
  exact .refl
 ·intro d
  refine e_all (.there .here) ?_
  refine nr_ ?_
  refine e_ex .here fun k => e_all .here ?_
  refine nr_ ?_
  refine e_pu .here fun hp => ?_
  refine e_tk (by repeat constructor) ?_
  (((refine' e_stS (v_resA ?hn) ?hi ?_); (case hi => exact im_); (case hn => rfl))); (((refine' e_stS (v_res1 ?hc) ?hi ?_); (case hi => exact im_); (case hc => repeat constructor))); (((refine' e_stS (v_res1 ?hc) ?hi ?_); (case hi => exact im_); (case hc => repeat constructor)))
  have ht : takeF Z now = (⟨(Z.pr (ord Z k)).id, tkId Z (ord Z k), decide ((Z.pr (ord Z k)).idle.length = 0), 0⟩, took Z (ord Z k)) := by unfold takeF; rw [hp]
  rw [ht]
  refine e_rest (M := [IsPl p gs (took Z (ord Z k))]) (F := F) im_ ?_
  refine nr_ ?_
  refine rt_ () ?_
  exact .refl
def pr2 (x : Int × Int) : List Value := [I x.1, I x.2]
theorem pr2_get : ∀ (us : List (Int × Int)) (i : Nat) (h : i < us.length), (us.flatMap pr2)[i * 2]? = some (I us[i].1) /\ (us.flatMap pr2)[i * 2 + 1]? = some (I us[i].2)
 | x :: us, 0, _ => by simp [pr2]
 | x :: us, i + 1, h => by
  have ih := pr2_get us i (by simpa using h)
  rw [List.flatMap_cons, show (i + 1) * 2 = i * 2 + 2 by omega]
  simp only [pr2, ca_, na_, List.getElem_cons_succ]
  exact ⟨by rw [List.getElem?_cons_succ, List.getElem?_cons_succ]; exact ih.1, by rw [show i * 2 + 2 + 1 = i * 2 + 1 + 1 + 1 by omega, List.getElem?_cons_succ, List.getElem?_cons_succ]; exact ih.2⟩
def newI (us : List (Int × Int)) (tmo : Int) (i : Nat) : Pl := { n := i, pr := fun j => ⟨(us.getD j (0, 0)).1, (us.getD j (0, 0)).2, [], 0, -2199023255552⟩, bm := fun _ => none, im := fun _ => none, at_ := 0, num := 0, tmo }
def badU (us : List (Int × Int)) (tmo : Int) (i : Nat) : Prop := (us.getD i (0, 0)).2 < 1 \/ 64 < (us.getD i (0, 0)).2 \/ (fd (newI us tmo i) (us.getD i (0, 0)).1).isSome = true
instance (us : List (Int × Int)) (tmo : Int) (i : Nat) : Decidable (badU us tmo i) := by unfold badU; infer_instance
def okU (us : List (Int × Int)) (tmo : Int) : Prop := us.length ≠ 0 /\ us.length <= 16 /\ 1 <= tmo /\ tmo <= 3600 /\ ∀ i, i < us.length -> ¬ badU us tmo i
def NewR (us : List (Int × Int)) (tmo : Int) := { r : Option (Nat × (Nat -> Nat)) // match r with
 | some _ => okU us tmo
 | none => ¬ okU us tmo }
def newV {us : List (Int × Int)} {tmo : Int} (x : NewR us tmo) : Value := match x.1 with
 | some q => .tuple #[pv q.1, .int .i64 0]
 | none => .tuple #[.pointer none, .int .i64 1]
def newH {us : List (Int × Int)} {tmo : Int} (x : NewR us tmo) : HP := match x.1 with
 | some q => IsPl q.1 q.2 (newI us tmo us.length)
 | none => pu True
theorem new {W : World} {nm : Value} {a : Option Addr} {c : Nat} {us : List (Int × Int)} {tmo rt : Int} {A : HP} [OC nm] (hr : RdB W A a (us.length * 2) (us.flatMap pr2)) :
  Cn p_ 16 [.agg #[nm, .slice a us.length c, .int .i64 tmo, .int .i64 rt]] W [A] newV (fun x : NewR us tmo => [A, newH x]) := by
 (refine S.pool_New_s.cn fun F => ?_; unfold S.pool_New; simp only [ca_, na_])
 refine e_boxA fun g => ?_; refine o_ v_fa0 (ln_ ?_); refine o_ v_len ?_
 have bad : ∀ (L : List HP), ¬ okU us tmo -> Imp W L (A :: F) -> Ent W L (fun w => ∃ x : NewR us tmo, (.tuple #[.pointer none, .int .i64 1] : Value) = newV x /\ sat W (A :: newH x :: F) w) := fun L hb hi => by
  refine e_imp hi ?_
  refine e_ret (⟨none, hb⟩ : NewR us tmo) rfl ?_
  exact .pick (by repeat constructor) (.pu trivial .refl)
 refine o_ v_eql ?_
 by_cases h0 : us.length = 0
 ·rw [dT_ (by omega)]
  exact e_gdF1 (e_gdF1 (e_gdF1 (e_gdF1 (o_ v_pickT (e_gdF1 (e_gdF1 (e_gdF1 (o_ v_pickT (e_gdF1 (e_gdF1 (e_gdF1 (o_ v_pickT (e_condT (bad _ (fun c => c.1 h0) im_))))))))))))))
 rw [dF_ (by omega)]
 refine e_gdT (o_ v_fa0 (e_gdT (ln_ ?_))); refine e_gdT (o_ v_len (e_gdT (o_ v_gtr ?_)))
 by_cases h1 : 16 < us.length
 ·rw [dT_ (by omega)]
  exact o_ v_pickF (e_gdF1 (e_gdF1 (e_gdF1 (o_ v_pickT (e_gdF1 (e_gdF1 (e_gdF1 (o_ v_pickT (e_condT (bad _ (fun c => absurd c.2.1 (by omega)) im_))))))))))
 rw [dF_ (by omega)]
 refine o_ v_pickF (e_gdT (o_ v_fa0 (e_gdT (ln_ ?_)))); refine e_gdT (o_ v_lss ?_)
 by_cases h2 : tmo < 1
 ·rw [dT_ (by omega)]
  exact o_ v_pickF (e_gdF1 (e_gdF1 (e_gdF1 (o_ v_pickT (e_condT (bad _ (fun c => absurd c.2.2.1 (by omega)) im_))))))
 rw [dF_ (by omega)]
 refine o_ v_pickF (e_gdT (o_ v_fa0 (e_gdT (ln_ ?_)))); refine e_gdT (o_ v_gtr ?_)
 by_cases h3 : 3600 < tmo
 ·rw [dT_ (by omega)]
  exact o_ v_pickF (e_condT (bad _ (fun c => absurd c.2.2.2.1 (by omega)) im_))
 rw [dF_ (by omega)]
 refine o_ v_pickF (e_condF (e_mkF encI fun mb => ?_))
 refine e_mkF encI fun mi => ?_
 refine o_ v_fa0 (ln_ ?_); refine o_ v_rv ?_; refine e_boxA fun g => ?_; refine o_ v_fa0 (ln_ ?_); refine o_ v_len ?_
 rename Nat => p
 refine e_nil (s := 1) (e := 80) ?_
 refine e_loop1 (fun m y => [ex fun x : Nat × (Nat -> Nat) => all [pu (m + x.1 = us.length /\ y = .int .i64 (x.1 : Int) /\ ∀ j, j < x.1 -> ¬ badU us tmo j), IsPl p x.2 (newI us tmo x.1), A]] ++ F) us.length ?_ ?_
 ·refine .ex (0, fun _ => 0) (.all ?_)
  refine nr_ ?_
  refine .pu ⟨by omega, rfl, fun j hj => absurd hj (by omega)⟩ (.ex ((none, 0), mb, mi) (.all ?_))
  refine nr_ ?_
  refine .pick (by repeat constructor) (.pick (by repeat constructor) ?_)
  have e0 : ∀ gs : Nat -> Nat, mv gs (fun _ => none) = fun _ => none := fun gs => by funext x; rfl
  have e1 : (newI us tmo 0).bm = fun _ => none := rfl
  have e2 : (newI us tmo 0).im = fun _ => none := rfl
  rw [e1, e2, e0]
  refine .pick (by repeat constructor) (.pick (by repeat constructor) ?_)
  exact imp_bs0 im_
 intro m ds y
 refine nr_ ?_
 refine e_ex Pick.here fun x => e_all Pick.here ?_
 obtain ⟨i, gs⟩ := x
 refine nr_ ?_
 refine e_pu Pick.here fun hi => ?_
 obtain ⟨hmi, rfl, hgood⟩ := hi
 refine e_ask v_lss .nil (fun h => ?_) (fun h => ?_)
 ·have hil : i < us.length := by omega
  obtain ⟨g, o, rfl, _⟩ := hr.at_ (by omega)
  obtain ⟨u1, u2⟩ := pr2_get us i hil
  refine e_condT (o_ (v_ia i (by rfl) hil) ?_)
  refine p_op (v_ldRdG (vs := [.int .i64 us[i].1, .int .i64 us[i].2]) (n := 2) hr rfl ?_) ?_
  ·intro j hj
   have : j = 0 \/ j = 1 := by omega
   rcases this with rfl | rfl
   ·exact u1
   ·exact u2
  refine e_newA fun g => ?_; refine sg_ ?_; refine o_ v_fa0 (ln_ ?_)
  have hg2 : us.getD i (0, 0) = us[i] := by rw [List.getD_eq_getElem?_getD, List.getElem?_eq_getElem hil]; rfl
  have hgd : badU us tmo i ↔ (us[i].2 < 1 \/ 64 < us[i].2 \/ (fd (newI us tmo i) us[i].1).isSome = true) := by unfold badU; rw [hg2]
  refine o_ v_lss ?_
  by_cases b1 : us[i].2 < 1
  ·rw [dT_ b1]
   exact e_gdF1 (e_gdF1 (e_gdF1 (o_ v_pickT (e_gdF1 (e_gdF1 (e_gdF1 (e_gdF1 (e_gdF1 (o_ v_pickT (e_condT (bad _ (fun c => c.2.2.2.2 i hil (hgd.2 (.inl b1))) im_)))))))))))
  rw [dF_ b1]
  refine e_gdT (o_ v_fa0 (e_gdT (ln_ ?_))); refine e_gdT (o_ v_gtr ?_)
  by_cases b2 : 64 < us[i].2
  ·rw [dT_ b2]
   exact o_ v_pickF (e_gdF1 (e_gdF1 (e_gdF1 (e_gdF1 (e_gdF1 (o_ v_pickT (e_condT (bad _ (fun c => c.2.2.2.2 i hil (hgd.2 (.inr (.inl b2)))) im_))))))))
  rw [dF_ b2]
  refine o_ v_pickF (e_gdT (e_gdT (o_ v_fa0 (e_gdT (ln_ ?_))))); refine e_gdT (c_ (peer (p := p) (gs := gs) (Z := newI us tmo i) (id := us[i].1) (by show i <= 1024; omega)) fun _ => ?_)
  refine e_gdT (o_ (pvo_nonnil (P := p_) (t := 80)) ?_)
  by_cases b3 : (fd (newI us tmo i) us[i].1).isSome = true
  ·rw [b3]
   exact o_ v_pickF (e_condT (bad _ (fun c => c.2.2.2.2 i hil (hgd.2 (.inr (.inr b3)))) im_))
  rw [Bool.eq_false_iff.2 b3]
  refine o_ v_pickF (e_condF (e_drS (e_stD v_nil .nil ?_))); refine e_stD v_fa0 .nil ?_
  refine e_ex .here fun q => e_all .here ?_
  obtain ⟨⟨pa, pc⟩, mb, mi⟩ := q
  refine nr_ ?_
  (((refine' e_stD (v_ldN ?hc) ?hi ?_); (case hi => exact .pick (by repeat constructor) .nil); (case hc => repeat constructor))); (((refine' e_stS (v_ldAgg ?hn) ?hi ?_); (case hi => exact .pick (by repeat constructor) .nil); (case hn => rfl))); refine t_ v_rv ?_; refine e_boxA fun g => ?_; refine ob_ ?_; refine ob_ ?_; refine ob_ ?_; refine e_bsl1 fun g => ?_; refine ob_ ?_; refine ob_ ?_; refine ob_ ?_
  rename Nat => gn
  refine e_app (m := 1) (news := [pv g]) (by repeat constructor) (src_pt (e' := 80) (by kernel_rfl) .here (by rfl) (by intro u hu; simp at hu; rw [hu]; rfl)) (by show (i + 1) * 8 <= _; omega) (by show i + 1 <= _; omega) fun a' c' => ?_
  refine t_ v_nil (t_ v_fa0 (sn_ ?_)); refine ad_ ?_
  refine e_next1 (m - 1) (by omega) (.ex (i + 1, fun j => if j = i then g else gs j) (.all ?_))
  refine nr_ ?_
  refine .pu ⟨by omega, rfl, fun j hj => ?_⟩ (.ex ((a', c'), mb, mi) (.all ?_))
  ·by_cases c : j = i
   ·subst c
    exact fun hb => by
     rcases hgd.1 hb with h | h | h
     ·exact b1 h
     ·exact b2 h
     ·exact b3 h
   ·exact hgood j (by omega)
  refine nr_ ?_
  refine .pick (by repeat constructor) ?_
  have e0 : ∀ (gs : Nat -> Nat) (k : Nat), mv gs (newI us tmo k).bm = fun _ => none := fun gs k => by funext x; rfl
  have e1 : ∀ (gs : Nat -> Nat) (k : Nat), mv gs (newI us tmo k).im = fun _ => none := fun gs k => by funext x; rfl
  have e2 : ptrs (fun j => if j = i then g else gs j) (i + 1) = ptrs gs i ++ [pv g] := by
   unfold ptrs
   rw [List.range_succ, List.map_append]
   congr 1
   ·exact List.map_congr_left fun j hj => by
     have hj := List.mem_range.1 hj
     show pv (if j = i then g else gs j) = _
     rw [if_neg (by omega)]
   ·simp
  have e3 : (newI us tmo (i + 1)).n = i + 1 := rfl
  have e4 : (newI us tmo i).n = i := rfl
  rw [e0, e1, e0, e1, e3, e4, e2]
  refine .pick (by repeat constructor) (.pick (by repeat constructor) (.pick (by repeat constructor) ?_))
  refine imp_bsS (F := fun j => IsPr (gs j) ((newI us tmo i).pr j)) (fun j hj => ?_) ?_
  ·show _ = IsPr (if j = i then g else gs j) _
   rw [if_neg (by omega)]; rfl
  refine .pick (by repeat constructor) ?_
  simp only [if_true]
  have hp1 : (newI us tmo (i + 1)).pr i = ⟨us[i].1, us[i].2, [], 0, -2199023255552⟩ := by
   show (⟨(us.getD i (0, 0)).1, (us.getD i (0, 0)).2, [], 0, -2199023255552⟩ : Pr) = _
   rw [hg2]
  rw [hp1]
  refine .ex (none, 0) (.all ?_)
  refine nr_ ?_
  refine .pick (by repeat constructor) (imp_nil ?_)
  exact im_
 ·have : i = us.length := by omega
  subst this
  refine e_condF ?_
  have hok : okU us tmo := ⟨h0, by omega, by omega, by omega, hgood⟩
  refine e_ret (⟨some (p, gs), hok⟩ : NewR us tmo) rfl ?_
  unfold newH
  exact im_
theorem own {W : World} {nm : ByteArray} {a : Option Addr} {c : Nat} {us : List (Int × Int)} {tmo rt : Int} {A : HP} (hr : RdB W A a (us.length * 2) (us.flatMap pr2)) (hl : us.length <= 1099511627776) :
  Cn p_ 17 [.agg #[.string nm, .slice a us.length c, .int .i64 tmo, .int .i64 rt]] W [A] (fun q : Option Addr × Nat => .agg #[.string nm, .slice q.1 us.length q.2, .int .i64 tmo, .int .i64 rt]) (fun q => [A, Sl 2 79 q.1 q.2 us.length (us.flatMap pr2)]) := by
 (refine S.law22_own_s.cn fun F => ?_; unfold S.law22_own; simp only [ca_, na_])
 refine e_boxA fun b1 => ?_
 refine e_newA fun b2 => ?_
 refine o_ v_fa0 (ln_ ?_); refine o_ v_fa0 (ln_ ?_); refine o_ v_fa0 (ln_ ?_); refine o_ v_rv ?_; refine e_newA fun g => ?_; refine sg_ ?_
 rename Nat => b3
 refine e_nil (s := 2) (e := 79) ?_
 refine e_loop1 (fun m y => [ex fun i : Nat => ex fun q : Option Addr × Nat => all [pu (m + i = us.length /\ y = .int .i64 (i : Int)), Sl 2 79 q.1 q.2 i ((us.take i).flatMap pr2), pt b3 (.cells #[.string nm, .slice q.1 i q.2, .int .i64 tmo, .int .i64 rt] 49), pt b1 (.cells #[.string nm, .slice a us.length c, .int .i64 tmo, .int .i64 rt] 53), pt b2 (.cells #[.string .empty, .slice none 0 0, .int .i64 0, .int .i64 0] 49), A]] ++ F) us.length ?_ ?_
 ·refine .ex 0 (.ex (none, 0) (.all ?_))
  refine nr_ ?_
  refine .pu ⟨by omega, rfl⟩ ?_
  exact .pick (by repeat constructor) (.pick (by repeat constructor) (.pick (by repeat constructor) (.pick (by repeat constructor) (.pick (by repeat constructor) im_))))
 intro m ds y
 refine nr_ ?_
 refine e_ex Pick.here fun i => e_ex Pick.here fun q => e_all Pick.here ?_
 obtain ⟨qa, qc⟩ := q
 refine nr_ ?_
 refine e_pu Pick.here fun hi => ?_
 obtain ⟨hmi, rfl⟩ := hi
 refine o_ v_fa0 (ln_ ?_); refine o_ v_len (e_ask v_lss .nil (fun h => ?_) (fun h => ?_))
 ·have hil : i < us.length := by omega
  obtain ⟨g, o, rfl, _⟩ := hr.at_ (by omega)
  obtain ⟨u1, u2⟩ := pr2_get us i hil
  refine e_condT (e_drS (e_stD v_fa0 .nil ?_)); (((refine' e_stD (v_ldN ?hc) ?hi ?_); (case hi => exact .pick (by repeat constructor) .nil); (case hc => repeat constructor))); refine t_ v_fa0 (ls_ ?_)
  refine t_ (v_ia i (by rfl) hil) ?_
  refine t_ v_fa (p_st (v_ldRd2 hr (j := 0) u1) ?_)
  refine t_ v_fa0 (ls_ ?_)
  refine t_ (v_ia i (by rfl) hil) ?_
  refine t_ v_fa (p_st (v_ldRd2 hr (j := 1) u2) ?_)
  unfold I
  refine t_ v_rv ?_
  refine e_bslS (n := 1) (vs := [.agg #[.int .i64 us[i].1, .int .i64 us[i].2]]) rfl (by omega) rfl (by intro v hv; rw [List.mem_singleton.1 hv]; rfl) (by omega) fun gb => ?_
  refine ob_ ?_; refine ob_ ?_
  refine e_app (m := 1) (news := [I us[i].1, I us[i].2]) (by repeat constructor) (src_pt (e' := 79) (by kernel_rfl) .here (by rfl) (by simp [Value.cells, I, Value.oneCell'])) (by omega) (by omega) fun a' c' => ?_
  refine t_ v_fa0 (sn_ ?_); refine ad_ ?_
  have t1 : (us.take (i + 1)).flatMap pr2 = (us.take i).flatMap pr2 ++ [I us[i].1, I us[i].2] := by rw [List.take_add_one, List.getElem?_eq_getElem hil, List.flatMap_append]; simp [pr2]
  refine e_next1 (m - 1) (by omega) (.ex (i + 1) (.ex (a', c') (.all ?_)))
  refine nr_ ?_
  refine .pu ⟨by omega, rfl⟩ ?_
  rw [t1]
  exact .pick (by repeat constructor) (.pick (by repeat constructor) (.pick (by repeat constructor) (.pick (by repeat constructor) (.pick (by repeat constructor) im_))))
 ·have : i = us.length := by omega
  subst this
  rw [List.take_length]
  refine e_condF (lg_ ?_); refine sg_ ?_; (((refine' e_stS (v_resA ?hn) ?hi ?_); (case hi => exact im_); (case hn => rfl)))
  refine rt_ ((qa, qc)) ?_
  exact im_
structure WfB (Z : Pl) (N : Nat) : Prop where
 n1 : 1 <= Z.n
 n2 : Z.n <= 16
 at_ : Z.at_ < Z.n
 num : 0 <= Z.num /\ Z.num <= N
 tmo : 1 <= Z.tmo /\ Z.tmo <= 3600
 pr : ∀ i, i < Z.n -> -(N : Int) <= (Z.pr i).busy /\ (Z.pr i).busy <= N /\ (Z.pr i).idle.length <= N /\ 1 <= (Z.pr i).max /\ (Z.pr i).max <= 64
 bm : ∀ q i, Z.bm q = some i -> i < Z.n
 im : ∀ q i, Z.im q = some i -> i < Z.n
theorem WfB.wf {Z : Pl} {N : Nat} (h : WfB Z N) (hN : N <= 1099511627776) : Wf Z :=
 ⟨h.n1, h.n2, h.at_, ⟨h.num.1, by have := h.num.2; omega⟩, h.tmo, fun i hi => by have := h.pr i hi; omega, h.bm, h.im⟩
theorem newI_wf {us : List (Int × Int)} {tmo : Int} (h : okU us tmo) : WfB (newI us tmo us.length) 0 := by
 obtain ⟨h1, h2, h3, h4, h5⟩ := h
 refine ⟨by show 1 <= us.length; omega, h2, by show 0 < us.length; omega, ⟨Int.le_refl _, Int.le_refl _⟩, ⟨h3, h4⟩, fun i hi => ?_, fun q i c => (by cases c), fun q i c => (by cases c)⟩
 have hb := h5 i hi
 unfold badU at hb
 refine ⟨by show -((0 : Nat) : Int) <= 0; omega, by show (0 : Int) <= ((0 : Nat) : Int); omega, Nat.le_refl _, ?_, ?_⟩
 ·show 1 <= (us.getD i (0, 0)).2
  by_cases c : (us.getD i (0, 0)).2 < 1
  ·exact absurd (.inl c) hb
  ·omega
 ·show (us.getD i (0, 0)).2 <= 64
  by_cases c : 64 < (us.getD i (0, 0)).2
  ·exact absurd (.inr (.inl c)) hb
  ·omega
theorem updO_some {f : Int -> Option Nat} {q x : Int} {v : Option Nat} {i : Nat} (h : updO f q v x = some i) : v = some i \/ f x = some i := by
 unfold updO at h
 split at h
 ·exact .inl h
 ·exact .inr h
theorem took_wfb {Z : Pl} {N i : Nat} (h : WfB Z N) (hi : i < Z.n) : WfB (took Z i) (N + 1) := by
 have hn := h.n1
 refine ⟨h.n1, h.n2, Nat.mod_lt _ hn, ?_, h.tmo, fun j hj => ?_, fun q j c => ?_, fun q j c => ?_⟩
 ·have := h.num
  show 0 <= (if 0 < (Z.pr i).idle.length then Z.num else Z.num + 1) /\ (if 0 < (Z.pr i).idle.length then Z.num else Z.num + 1) <= ((N + 1 : Nat) : Int)
  split <;> omega
 ·have hj' := h.pr j hj
  show -((N + 1 : Nat) : Int) <= (setP Z.pr i _ j).busy /\ (setP Z.pr i _ j).busy <= ((N + 1 : Nat) : Int) /\ (setP Z.pr i _ j).idle.length <= N + 1 /\ 1 <= (setP Z.pr i _ j).max /\ (setP Z.pr i _ j).max <= 64
  unfold setP
  by_cases c : j = i
  ·subst c
   simp only [if_true, List.length_take]
   omega
  ·simp only [if_neg c]
   omega
 ·rcases updO_some c with e | e
  ·cases e; exact hi
  ·exact h.bm _ _ e
 ·have c : (if 0 < (Z.pr i).idle.length then updO Z.im (tkId Z i) none else Z.im) q = some j := c
  split at c
  ·rcases updO_some c with e | e
   ·cases e
   ·exact h.im _ _ e
  ·exact h.im _ _ c
theorem WfB.up {Z : Pl} {N M : Nat} (h : WfB Z N) (hm : N <= M) : WfB Z M :=
 ⟨h.n1, h.n2, h.at_, ⟨h.num.1, by have := h.num.2; omega⟩, h.tmo, fun i hi => by have := h.pr i hi; omega, h.bm, h.im⟩
theorem take_wfb {Z : Pl} {N : Nat} {now : Int} (h : WfB Z N) : WfB (takeF Z now).2 (N + 1) := by
 unfold takeF
 cases hk : pkI Z now Z.n with
 | none => exact h.up (by omega)
 | some k => exact took_wfb h (Nat.mod_lt _ h.n1)
theorem done_wfb {Z : Pl} {N : Nat} {id : Int} {keep : Bool} (h : WfB Z N) : WfB (done Z id keep) (N + 1) := by
 unfold done
 cases hb : Z.bm id with
 | none => exact h.up (by omega)
 | some i =>
  have hi := h.bm _ _ hb
  refine ⟨h.n1, h.n2, h.at_, ⟨h.num.1, by have := h.num.2; show Z.num <= _; omega⟩, h.tmo, fun j hj => ?_, fun q j c => ?_, fun q j c => ?_⟩
  ·have hj' := h.pr j hj
   simp only [setP]
   by_cases c : j = i
   ·subst c
    simp only [if_true]
    cases keep with
    | true => simp only [if_true, List.length_append, List.length_singleton]; omega
    | false => simp only [Bool.false_eq_true, if_false]; omega
   ·simp only [if_neg c]
    omega
  ·rcases updO_some c with e | e
   ·cases e
   ·exact h.bm _ _ e
  ·have c : (if keep = true then updO Z.im id (some i) else Z.im) q = some j := c
   split at c
   ·rcases updO_some c with e | e
    ·cases e; exact hi
    ·exact h.im _ _ e
   ·exact h.im _ _ c
theorem WfB.idle {Z : Pl} {N : Nat} (h : WfB Z N) (hN : N <= 1099511627776) : ∀ i, i < Z.n -> (Z.pr i).idle.length <= 1099511627776 := fun i hi => by have := h.pr i hi; omega
theorem two {W : World} : Cn p_ 18 [] W [] (fun g : Nat => .agg #[.string .empty, .slice (some ⟨g, 0, none⟩) 2 2, .int .i64 10, .int .i64 0]) (fun g => [pt g (.cells #[.int .i64 1, .int .i64 1, .int .i64 2, .int .i64 1] 85)]) := by
 (refine S.law22_two_s.cn fun F => ?_; unfold S.law22_two; simp only [ca_, na_])
 refine e_newA fun g => ?_; refine o_ v_rv ?_; refine o_ v_rv ?_
 refine e_bslS (n := 2) (vs := [.agg #[.int .i64 1, .int .i64 1], .agg #[.int .i64 2, .int .i64 1]]) rfl (by omega) rfl (by intro v hv; simp at hv; rcases hv with rfl | rfl <;> rfl) (by omega) fun gb => ?_
 refine o_ v_rv ?_; refine sg_ ?_; (((refine' e_stS (v_resA ?hn) ?hi ?_); (case hi => exact im_); (case hn => rfl)))
 refine rt_ gb ?_
 exact im_
def u2 : List (Int × Int) := [(1, 1), (2, 1)]
def k0 : Pl := newI u2 10 u2.length
def k1 : Pl := (takeF k0 0).2
def k2 : Pl := (takeF k1 0).2
def k3 : Pl := (takeF k2 0).2
def k4 : Pl := done k3 0 true
theorem ok2 : okU u2 10 := by
 refine ⟨by decide, by decide, by decide, by decide, fun i hi => ?_⟩
 have : i = 0 \/ i = 1 := by have : i < 2 := hi; omega
 rcases this with rfl | rfl <;> decide
theorem w0 : WfB k0 0 := newI_wf ok2
theorem w1 : WfB k1 1 := take_wfb w0
theorem w2 : WfB k2 2 := take_wfb w1
theorem w3 : WfB k3 3 := take_wfb w2
theorem w4 : WfB k4 4 := done_wfb w3
theorem Tk.ext' {t : Tk} {p i : Int} {f : Bool} {e : Int} (h : t.peer = p /\ t.id = i /\ t.fresh = f /\ t.e = e) : t = ⟨p, i, f, e⟩ := by
 obtain ⟨rfl, rfl, rfl, rfl⟩ := h; rfl
theorem t0 : (takeF k0 0).1 = ⟨1, 0, true, 0⟩ := Tk.ext' (by decide +kernel)
theorem t1 : (takeF k1 0).1 = ⟨2, 1, true, 0⟩ := Tk.ext' (by decide +kernel)
theorem t2 : (takeF k2 0).1 = ⟨0, 0, false, 63⟩ := Tk.ext' (by decide +kernel)
theorem t3 : doneR k3 0 = 0 := by decide +kernel
theorem t4 : (takeF k4 0).1 = ⟨1, 0, false, 0⟩ := Tk.ext' (by decide +kernel)
theorem knows {W : World} : Cn p_ 7 [] W [] (fun _ : Unit => .bool true) (fun _ => []) := by
 (refine S.law22_knows_s.cn fun F => ?_; unfold S.law22_knows; simp only [ca_, na_])
 refine c_ two fun _ => ?_
 rename_i g
 refine c_ (own (us := u2) (nm := .empty) (a := some ⟨g, 0, none⟩) (A := pt g (.cells #[.int .i64 1, .int .i64 1, .int .i64 2, .int .i64 1] 85)) (rd_pt (cs := u2.flatMap pr2) rfl) (by decide)) fun _ => ?_
 rename_i q
 obtain ⟨qa, qc⟩ := q
 (try dsimp only)
 refine e_slsome (.there .here) (by decide) fun g2 hg2 => ?_
 subst hg2
 refine c_ (new (us := u2) (nm := .string .empty) (a := some ⟨g2, 0, none⟩) (c := qc) (tmo := 10) (rt := 0) (A := Sl 2 79 (some ⟨g2, 0, none⟩) qc u2.length (u2.flatMap pr2)) (rd_slG rfl (fun _ => ⟨g2, rfl⟩))) fun _ => ?_
 rename_i x
 obtain ⟨r, hr⟩ := x
 cases r with
 | none => exact absurd ok2 hr
 | some pg =>
  obtain ⟨p, gs⟩ := pg
  simp only [newV, newH]
  rw [show newI u2 10 u2.length = k0 from rfl]
  refine o_ (v_ext (v := pv p) rfl) ?_
  refine o_ (v_ext (v := .int .i64 0) rfl) ?_
  refine c_ num_ fun _ => ?_
  refine o_ v_neq ?_
  rw [dF_ (by decide)]
  unfold pv
  refine e_gdT (e_gdT (o_ v_eqNil1 ?_)); refine o_ v_pickF (e_condF ?_)
  rw [show (.pointer (some ⟨p, 0, none⟩) : Value) = pv p from rfl]
  refine c_ (take (p := p) (gs := gs) (Z := k0) (now := 0) (w0.wf (by omega)) (w0.idle (by omega))) fun _ => ?_
  rw [t0, show (takeF k0 0).2 = k1 from rfl]
  unfold tkV
  refine xt_ ?_; refine xt_ ?_; refine xt_ ?_; refine e_newA fun g => ?_; refine sg_ ?_
  refine c_ (take (p := p) (gs := gs) (Z := k1) (now := 0) (w1.wf (by omega)) (w1.idle (by omega))) fun _ => ?_
  rw [t1, show (takeF k1 0).2 = k2 from rfl]
  unfold tkV
  refine xt_ ?_; refine xt_ ?_; refine xt_ ?_; refine e_newA fun g => ?_; refine sg_ ?_
  refine c_ (take (p := p) (gs := gs) (Z := k2) (now := 0) (w2.wf (by omega)) (w2.idle (by omega))) fun _ => ?_
  rw [t2, show (takeF k2 0).2 = k3 from rfl]
  unfold tkV
  refine xt_ ?_; refine xt_ ?_; refine xt_ ?_; refine e_newA fun g => ?_; refine sg_ ?_
  refine c_ (done_ (p := p) (gs := gs) (Z := k3) (id := 0) (keep := true) (w3.wf (by omega))) fun _ => ?_
  rw [t3, show done k3 0 true = k4 from rfl]
  refine c_ (take (p := p) (gs := gs) (Z := k4) (now := 0) (w4.wf (by omega)) (w4.idle (by omega))) fun _ => ?_
  rw [t4]
  unfold tkV
  refine xt_ ?_; refine xt_ ?_; refine xt_ ?_; refine e_newA fun g => ?_; refine sg_ ?_; refine o_ v_fa0 (ln_ ?_)
  refine o_ v_eql ?_
  rw [dT_ rfl]
  refine e_gdT (o_ v_pickT (e_gdT (o_ v_fa0 (e_gdT (ln_ ?_))))); refine e_gdT (o_ v_eql ?_)
  rw [dT_ rfl]
  refine o_ v_pickT (e_gdT (o_ v_fa0 (e_gdT (ln_ ?_)))); refine e_gdT (o_ v_eql ?_)
  rw [dT_ rfl]
  refine o_ v_pickT (e_gdT (o_ v_pickT (e_gdT (e_gdT (c_ num_ fun _ => ?_)))))
  refine e_gdT (o_ v_eql ?_)
  rw [dT_ rfl]
  refine o_ v_pickT (e_gdT (e_gdT (c_ num_ fun _ => ?_)))
  refine e_gdT (o_ v_eql ?_)
  rw [dT_ rfl]
  refine o_ v_pickT (e_gdT (o_ v_fa0 (e_gdT (ln_ ?_)))); refine e_gdT (o_ v_eql ?_)
  rw [dT_ rfl]
  refine o_ v_pickT (e_gdT (e_gdT (o_ v_notF (o_ v_pickT (rt_ () ?_)))))
  exact im_
end Go.Proofs.YthomhkpedghhgaaDoor.PL
namespace Go.Proofs.YthomhkpedghhgaaDoor.FD
open Go Go.Proofs Go.RowKit Sh Sl T
def hop8 : List (List UInt8) := [sConnection, sKeepAlive, sTE, sTrailer, sTransfer, sUpgrade, sProxyConn, sExpect]
theorem hop8_ok : ∀ n ∈ hop8, eqlF sHost n = false /\ eqlF sVia n = false /\ eqlF sCL n = false /\ n.length <= 20 /\ ((∃ m ∈ hop9, lowF m = lowF n) \/ ∃ m ∈ own4, lowF m = lowF n) := by decide +kernel
theorem host_len {l : List Fd} {fo po : Int} {ho : List UInt8} (hl : zF l <= 1048576) (hho : ho.length <= 1048576) (hp1 : -9223372036854775808 <= po) (hp2 : po <= 9223372036854775807) : (hoF l fo ho po).length <= 1048600 := by
 have hd := dig_len hp1 hp2
 unfold hoF
 split
 ·split
  ·simp; omega
  ·omega
 ·unfold firstF
  split
  ·simp
  ·rename_i v r hv
   have hm : v ∈ valsF l sHost := by rw [hv]; exact List.mem_cons_self
   have h1 := zL_mem hm
   have h2 := zL_vals l sHost
   simp only
   omega
theorem fwd_ok {l : List Fd} {host : List UInt8} {mi : Int} {dg : Option (List UInt8)} (hl : zF l <= 1048576) (hh : host.length <= 1048600) (hd : ∀ d ∈ dg, d.length <= 21) : hOK (fwdF l host mi dg) := by
 have hv := (via_len (minor := mi) hl).1
 have hz := z_ok (l := l) (by omega)
 have hsl : (stripF l).length <= l.length := with_len l _
 have hwl : (withF (stripF l) own4).length <= l.length := Nat.le_trans (with_len _ _) hsl
 have hzl := z_len l
 unfold fwdF
 constructor
 ·cases dg <;> simp <;> omega
 ·intro f hf
  rw [List.cons_append] at hf
  rcases List.mem_cons.1 hf with rfl | hf
  ·exact ⟨by simp [sHost], by simp only; omega⟩
  rcases List.mem_append.1 hf with hf | hf
  ·exact hz.2 f (List.mem_filter.1 (List.mem_filter.1 hf).1).1
  rcases List.mem_cons.1 hf with rfl | hf
  ·exact ⟨by simp [sVia], hv⟩
  cases dg with
  | none => cases hf
  | some d =>
   rw [List.mem_singleton.1 hf]
   have := hd d rfl
   exact ⟨by simp [sCL], by simp only; omega⟩
theorem poolPrivate {W : World} [hG : Gp W] {m tg ho pa qu : List UInt8} {mi fo po sz : Int} {l : List Fd} {asked sized : Bool} {a : Option Addr} {c : Nat} (hA : RdF W (pu True) a l) (hl : zF l <= 1048576) (hpq : pa.length + qu.length <= 1048576) (hho : ho.length <= 1048576)
  (hp1 : -9223372036854775808 <= po) (hp2 : po <= 9223372036854775807) (hz1 : -9223372036854775808 <= sz) (hz2 : sz <= 9223372036854775807) :
  Cn p_ 3 [.agg #[txt m, txt tg, .int .i64 mi, .slice a l.length c], .agg #[.int .i64 fo, txt ho, .int .i64 po, txt pa, txt qu, .bool asked], .int .i64 sz, .bool sized] W [] (fun _ : Unit => .bool true) (fun _ => []) := by
 (refine S.law22_PoolPrivate_s.cn fun F => ?_; unfold S.law22_PoolPrivate; simp only [ca_, na_])
 refine e_imp (M := pu True :: F) (.pu trivial .refl) ?_
 refine e_boxA fun b4 => ?_
 refine e_boxA fun b5 => ?_
 refine o_ v_fa0 (ln_ ?_); refine o_ v_fa0 (ln_ ?_); refine o_ v_fa0 (ln_ ?_); refine o_ v_fa0 (ln_ ?_); refine o_ v_fa0 (ln_ ?_); refine o_ v_fa0 (ln_ ?_); refine o_ v_rv ?_; refine e_newA fun g => ?_
 refine e_stAgg (by repeat constructor) (by rfl) (by rfl) (by intro u hu; simp at hu; rcases hu with rfl | rfl | rfl | rfl | rfl | rfl <;> rfl) ?_
 refine lg_ ?_; refine lg_ ?_
 refine e_call (forward (mi := mi) (sized := sized) hA hl hpq hho hp1 hp2 hz1 hz2) (.cons (by repeat constructor) .nil) fun r => ?_
 obtain ⟨ra, rc⟩ := r
 refine nr_ ?_
 (try dsimp only)
 have hok := fwd_ok (l := l) (mi := mi) (dg := if sized then some (dig sz) else none) hl (host_len (fo := fo) hl hho hp1 hp2) (by
  intro d hd
  cases sized with
  | true =>
   have : d = dig sz := (Option.some.inj hd).symm
   rw [this]; exact dig_len hz1 hz2
  | false => cases hd)
 obtain ⟨H, hH⟩ : ∃ H, H = hoF l fo ho po := ⟨_, rfl⟩
 rw [<- hH] at hok ⊢
 obtain ⟨dg, hdg⟩ : ∃ dg, dg = if sized then some (dig sz) else none := ⟨_, rfl⟩
 rw [<- hdg] at hok ⊢
 obtain ⟨X, hX⟩ : ∃ X, X = fwdF l H mi dg := ⟨_, rfl⟩
 have hX0 : 0 < X.length := by rw [hX]; unfold fwdF; simp
 rw [<- hX] at hok ⊢
 refine e_slsome (by (repeat constructor) : Pick _ (Sl 2 35 ra rc X.length (X.flatMap pFd)) _) hX0 fun gx hgx => ?_
 subst hgx
 have hR := rdF_sl (W := W) (g := gx) (c := rc) (l := X)
 refine e_newA fun g => ?_
 refine e_stAgg (by repeat constructor) (by rfl) (by rfl) (by intro u hu; simp at hu; rcases hu with rfl | rfl | rfl | rfl <;> rfl) ?_
 rename Nat => gr
 refine e_bslN (n := 8) (vs := hop8.map txt) rfl rfl (by intro v hv; obtain ⟨c, _, rfl⟩ := List.mem_map.1 hv; rfl) (by omega) fun g8 => ?_
 refine e_loop1 (fun k y => pu (∃ i : Nat, k + i = 8 /\ y = .int .i64 (i : Int)) :: pt g8 (.cells (hop8.map txt).toArray 9) :: pt gr (.cells #[txt m, txt (tgF pa qu asked), .int .i64 1, .slice (some ⟨gx, 0, none⟩) X.length rc] 24) :: Sl 2 35 (some ⟨gx, 0, none⟩) rc X.length (X.flatMap pFd) :: pt b4 (.cells #[txt m, txt tg, .int .i64 mi, .slice a l.length c] 24) :: F) 8 ?_ ?_
 ·refine .pu ⟨0, rfl, rfl⟩ ?_
  exact im_
 intro k ds y
 refine e_pu .here fun hi => ?_
 obtain ⟨i, hki, rfl⟩ := hi
 refine o_ v_len (e_ask v_lss .nil (fun h => ?_) (fun h => ?_))
 ·have hi8 : i < hop8.length := by rw [show hop8.length = 8 from rfl]; omega
  obtain ⟨q1, q2, q3, q4, q5⟩ := hop8_ok _ (List.getElem_mem hi8)
  have hld : (hop8.map txt).toArray[i]? = some (txt hop8[i]) := by rw [List.getElem?_toArray, List.getElem?_map, List.getElem?_eq_getElem hi8]; rfl
  refine e_condT (e_drS (t_ v_fa0 (ls_ ?_)))
  refine t_ (v_ia1 i rfl (by omega)) ?_
  rw [Nat.zero_add]
  refine p_st (v_ld hld) ?_
  generalize hop8[i] = n at q1 q2 q3 q4 q5 ⊢
  refine e_call (rvalues (n := n) hR hok (by omega)) (.cons (by repeat constructor) .nil) fun r => ?_
  obtain ⟨u1, u2⟩ := r
  refine nr_ ?_
  (try dsimp only)
  rw [show valsF X n = [] by rw [hX]; exact fwd_vals q1 q2 q3 q5]
  refine t_ v_len (t_ v_gtr ?_)
  rw [dF_ (by decide)]
  refine e_condF (ad_ ?_)
  refine e_next1 (k - 1) (by omega) (.pu ⟨i + 1, by omega, by norm_cast⟩ ?_)
  exact im_
 have hv1 : valsF X [99, 111, 110, 116, 101, 110, 116, 45, 108, 101, 110, 103, 116, 104] = dg.toList := by rw [hX]; exact fwd_cl (by decide +kernel) (by decide +kernel) (by decide +kernel) (by decide +kernel)
 have hv2 : valsF X [118, 105, 97] = [viaF l mi] := by rw [hX]; exact fwd_via (by decide +kernel) (by decide +kernel) (by decide +kernel) (by decide +kernel)
 have hv3 : valsF X [104, 111, 115, 116] = [H] := by rw [hX]; exact fwd_host (by decide +kernel) (by decide +kernel) (by decide +kernel) (by decide +kernel)
 obtain ⟨vx, hvx⟩ := via_end l mi
 have hvl := (via_len (minor := mi) hl).1
 rw [hvx] at hv2 hvl
 rw [List.length_append, show sGate.length = 9 from rfl] at hvl
 refine e_condF (o_ v_fa0 (ln_ ?_))
 refine e_call (rvalues (n := [99, 111, 110, 116, 101, 110, 116, 45, 108, 101, 110, 103, 116, 104]) hR hok (by decide)) (.cons (by repeat constructor) .nil) fun r => ?_
 obtain ⟨c1, c2⟩ := r
 refine nr_ ?_
 (try dsimp only)
 rw [hv1]
 refine o_ v_fa0 (ln_ ?_)
 refine e_call (rvalues (n := [118, 105, 97]) hR hok (by decide)) (.cons (by repeat constructor) .nil) fun r => ?_
 obtain ⟨v1, v2⟩ := r
 refine nr_ ?_
 (try dsimp only)
 rw [hv2]
 refine e_drS (t_ v_len (t_ v_neq ?_))
 rw [dF_ (by simp)]
 refine e_gdT (e_gdT (e_slsome (by (repeat constructor) : Pick _ (Sl 1 9 v1 v2 [vx ++ sGate].length ([vx ++ sGate].map txt)) _) (by simp) fun gv hgv => ?_))
 subst hgv
 refine t_ (v_ia1 0 rfl (by simp)) ?_
 rw [Nat.zero_add]
 refine e_gdT (p_st (v_ldSl (cs := [vx ++ sGate].map txt) (v := txt (vx ++ sGate)) rfl) ?_)
 refine e_gdT (t_ v_lent (e_gdT (t_ v_lss ?_)))
 rw [dF_ (by rw [List.length_append, show sGate.length = 9 from rfl]; omega)]
 refine t_ v_pickF (e_gdT (e_gdT (t_ (v_ia1 0 rfl (by simp)) ?_)))
 rw [Nat.zero_add]
 refine e_gdT (p_st (v_ldSl (cs := [vx ++ sGate].map txt) (v := txt (vx ++ sGate)) rfl) ?_)
 refine e_gdT (e_gdT (t_ (v_ia1 0 rfl (by simp)) ?_))
 rw [Nat.zero_add]
 refine e_gdT (p_st (v_ldSl (cs := [vx ++ sGate].map txt) (v := txt (vx ++ sGate)) rfl) ?_)
 refine e_gdT (t_ v_lent (e_gdT (t_ (v_sub (by omega) (by rw [List.length_append, show sGate.length = 9 from rfl]; omega)) ?_)))
 refine e_gdT (t_ (v_ssl vx.length (by rw [List.length_append, show sGate.length = 9 from rfl]; omega) (by rw [List.length_append]; omega)) ?_)
 rw [List.drop_left]
 refine e_gdT (t_ (v_strne (l := sGate) (m := sGate)) ?_)
 rw [dF_ (fun h => h rfl)]
 refine t_ v_pickF (e_gdT (t_ v_fa0 (e_gdT (ls_ ?_)))); refine e_gdT (e_call (rvalues (n := [104, 111, 115, 116]) hR hok (by decide)) (.cons (by repeat constructor) .nil) fun r => ?_)
 obtain ⟨h1, h2⟩ := r
 refine nr_ ?_
 (try dsimp only)
 rw [hv3]
 refine e_gdT (t_ v_len (e_gdT (t_ v_neq ?_)))
 rw [dF_ (by simp)]
 refine t_ v_pickF (e_condF (e_drS ?_))
 cases sized with
 | true =>
  rw [show dg = some (dig sz) by rw [hdg]; rfl]
  rw [show (some (dig sz)).toList = [dig sz] from rfl]
  refine e_slsome (by (repeat constructor) : Pick _ (Sl 1 9 c1 c2 [dig sz].length ([dig sz].map txt)) _) (by simp) fun gc hgc => ?_
  subst hgc
  refine e_gdT (e_gdT (t_ v_len (e_gdT (t_ v_eql ?_))))
  rw [dT_ (by simp)]
  refine t_ v_pickT (e_gdT (e_gdDT (e_stD (v_ia1 0 rfl (by simp)) .nil ?_)))
  rw [Nat.zero_add]
  refine e_gdDT (e_stD (v_ldSl (cs := [dig sz].map txt) (v := txt (dig sz)) rfl) (.pick (by repeat constructor) .nil) ?_)
  refine e_gdT (e_gdT (c_ (digits hz1 hz2) fun _ => ?_))
  refine ob_ ?_; refine ob_ ?_; refine e_gdT (t_ (v_streq (l := dig sz) (m := dig sz)) ?_)
  rw [dT_ rfl]
  refine t_ v_pickT (e_gdF1 (e_gdF1 (e_gdF1 (e_gdU (e_gdU (e_gdU (e_gdF1 (t_ v_pickT (e_gdT (t_ v_fa0 (e_gdT (ls_ ?_)))))))))))); refine e_gdT (t_ v_eql ?_)
  rw [dT_ rfl]
  refine t_ v_pickT (e_gdT (t_ v_fa0 (e_gdT (ls_ ?_)))); refine e_gdT (t_ v_fa0 (e_gdT (ls_ ?_))); refine e_gdT (t_ (v_streq (l := m) (m := m)) ?_)
  rw [dT_ rfl]
  refine t_ v_pickT (e_gdT (c_ PL.knows fun _ => ?_))
  refine t_ v_pickT (rt_ () ?_)
  exact im_
 | false =>
  rw [show dg = none by rw [hdg]; rfl]
  rw [show (none : Option (List UInt8)).toList = [] from rfl]
  refine e_gdF2 (e_gdF2 (e_gdF2 (t_ v_pickF (e_gdF2 (e_gdDF2 (e_gdDF2 (e_gdF2 (e_gdF2 (e_oblT (e_oblT (e_gdF2 (t_ v_pickF (e_gdT (e_gdT (t_ v_notF (e_gdT (e_gdT (e_gdT (t_ v_len (e_gdT (t_ v_eql ?_)))))))))))))))))))))
  rw [dT_ (by simp)]
  refine e_gdT (t_ v_pickT (t_ v_pickF (e_gdT (t_ v_fa0 (e_gdT (ls_ ?_)))))); refine e_gdT (t_ v_eql ?_)
  rw [dT_ rfl]
  refine t_ v_pickT (e_gdT (t_ v_fa0 (e_gdT (ls_ ?_)))); refine e_gdT (t_ v_fa0 (e_gdT (ls_ ?_))); refine e_gdT (t_ (v_streq (l := m) (m := m)) ?_)
  rw [dT_ rfl]
  refine t_ v_pickT (e_gdT (c_ PL.knows fun _ => ?_))
  refine t_ v_pickT (rt_ () ?_)
  exact im_
end Go.Proofs.YthomhkpedghhgaaDoor.FD
