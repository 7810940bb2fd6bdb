/- Maps as functions; keys that are numbers; delete. No conditions but those that each names. (16 texts made one; each says below what it is.) -/
import Derived.Laws.StructEq
import Derived.Test.YthomhkpedghhgaaGreatDoorK4
import Derived.LaidEqlPtr
import Derived.KernelRfl
import Derived.Test.YthomhkpedghhgaaGreatDoorRows
import Derived.Deep.DeepHandedRow
import Derived.LaidMore
import Derived.Lay
import Derived.MakeChecks
set_option linter.unusedVariables false
set_option linter.unusedSimpArgs false
set_option linter.unusedSectionVars false
namespace Go.Proofs.YthomhkpedghhgaaGreatDoor.Sl
open Go Go.RowKit Sh
variable {P : Program} {W : World} {L L' : List HP} {Kp : PK} {k : Value -> WP}
variable {κ : Type} [DecidableEq κ] {enc : κ -> Value} {t kt : TypeId}
def delM (q : κ) (m : List (κ × Value)) : List (κ × Value) := match fnd q m 0 with
 | some (i, _) => m.eraseIdx i
 | none => m
theorem fnd_get (q : κ) : ∀ (m : List (κ × Value)) (i j : Nat) (v : Value), fnd q m i = some (j, v) -> i <= j /\ m[j - i]? = some (q, v)
 | [], i, j, v, h => by simp [fnd] at h
 | p :: m, i, j, v, h => by
  unfold fnd at h
  by_cases c : q = p.1
  ·rw [if_pos c] at h
   simp at h
   obtain ⟨rfl, rfl⟩ := h
   simp [c]
  ·rw [if_neg c] at h
   obtain ⟨h1, h2⟩ := fnd_get q m (i + 1) j v h
   refine ⟨by omega, ?_⟩
   rw [show j - i = (j - (i + 1)) + 1 by omega]; simpa using h2
theorem fnd_none (q : κ) : ∀ (m : List (κ × Value)) (i : Nat), fnd q m i = none ↔ q ∉ m.map (·.1)
 | [], i => by simp [fnd]
 | p :: m, i => by
  unfold fnd
  by_cases c : q = p.1
  ·rw [if_pos c]; simp [c]
  ·rw [if_neg c, fnd_none q m (i + 1)]; simp [c]
theorem fnd_shift (q : κ) : ∀ (m : List (κ × Value)) (i j : Nat), (fnd q m i).map (·.2) = (fnd q m j).map (·.2)
 | [], i, j => rfl
 | p :: m, i, j => by
  unfold fnd
  split
  ·rfl
  ·exact fnd_shift q m (i + 1) (j + 1)
theorem getM_cons (q : κ) (p : κ × Value) (m : List (κ × Value)) : getM q (p :: m) = if q = p.1 then some p.2 else getM q m := by
 unfold getM
 rw [fnd]
 split
 ·rfl
 ·exact fnd_shift q m 1 0
theorem getM_none {q : κ} {m : List (κ × Value)} : getM q m = none ↔ q ∉ m.map (·.1) := by
 unfold getM
 rw [Option.map_eq_none_iff, fnd_none]
theorem delM_cons (q : κ) (p : κ × Value) (m : List (κ × Value)) : delM q (p :: m) = if q = p.1 then m else p :: delM q m := by
 unfold delM
 rw [fnd]
 by_cases c : q = p.1
 ·simp [c]
 ·rw [if_neg c, if_neg c]
  have key : ∀ (m : List (κ × Value)) (i : Nat), (match fnd q m (i + 1) with | some (j, _) => (p :: m).eraseIdx (j - i) | none => p :: m) = p :: (match fnd q m i with | some (j, _) => m.eraseIdx (j - i) | none => m) := by
   intro m
   have sh : ∀ (m : List (κ × Value)) (i : Nat), fnd q m (i + 1) = (fnd q m i).map fun x => (x.1 + 1, x.2) := by
    intro m
    induction m with
    | nil => intro i; rfl
    | cons p m ih =>
     intro i
     unfold fnd
     split
     ·rfl
     ·exact ih (i + 1)
   intro i
   rw [sh]
   cases hf : fnd q m i with
   | none => rfl
   | some x =>
    obtain ⟨j, v⟩ := x
    have := (fnd_get q m i j v hf).1
    simp only [Option.map_some]
    rw [show j + 1 - i = (j - i) + 1 by omega]; rfl
  have := key m 0
  simpa using this
theorem delM_keys (q : κ) : ∀ m : List (κ × Value), ((delM q m).map (·.1)).Sublist (m.map (·.1))
 | [] => by simp [delM, fnd]
 | p :: m => by
  rw [delM_cons]
  split
  ·rw [List.map_cons]; exact List.sublist_cons_self _ _
  ·rw [List.map_cons, List.map_cons]; exact (delM_keys q m).cons_cons _
theorem getM_delM (q q' : κ) : ∀ m : List (κ × Value), (m.map (·.1)).Nodup -> getM q' (delM q m) = if q' = q then none else getM q' m
 | [], _ => by simp [delM, fnd, getM]
 | p :: m, h => by
  rw [List.map_cons, List.nodup_cons] at h
  have ih := getM_delM q q' m h.2
  rw [delM_cons]
  by_cases c : q = p.1
  ·rw [if_pos c, getM_cons]
   by_cases d : q' = q
   ·rw [if_pos d, d, c]
    exact getM_none.2 h.1
   ·rw [if_neg d, if_neg (by rw [<- c]; exact d)]
  ·rw [if_neg c, getM_cons, getM_cons, ih]
   by_cases d : q' = p.1
   ·rw [if_pos d, if_neg (by rw [d]; exact fun e => c e.symm), if_pos d]
   ·rw [if_neg d, if_neg d]
theorem setM_keys (q : κ) (v : Value) : ∀ m : List (κ × Value), (m.map (·.1)).Nodup -> ((setM q v m).map (·.1)).Nodup /\ ∀ x, x ∈ (setM q v m).map (·.1) -> x = q \/ x ∈ m.map (·.1)
 | [], _ => by simp [setM]
 | p :: m, h => by
  rw [List.map_cons, List.nodup_cons] at h
  have ih := setM_keys q v m h.2
  unfold setM
  by_cases c : q = p.1
  ·rw [if_pos c]
   refine ⟨by rw [List.map_cons, List.nodup_cons]; exact h, fun x hx => .inr hx⟩
  ·rw [if_neg c]
   refine ⟨?_, fun x hx => ?_⟩
   ·rw [List.map_cons, List.nodup_cons]
    refine ⟨fun hx => ?_, ih.1⟩
    rcases ih.2 _ hx with e | e
    ·exact c e.symm
    ·exact h.1 e
   ·rw [List.map_cons, List.mem_cons] at hx
    rcases hx with e | e
    ·exact .inr (by rw [List.map_cons, e]; exact List.mem_cons_self ..)
    ·rcases ih.2 _ e with e | e
     ·exact .inl e
     ·exact .inr (by rw [List.map_cons]; exact List.mem_cons_of_mem _ e)
theorem map_erase {α β : Type} (f : α -> β) : ∀ (l : List α) (i : Nat), (l.eraseIdx i).map f = (l.map f).eraseIdx i
 | [], _ => by simp
 | x :: l, 0 => by simp
 | x :: l, i + 1 => by simp [map_erase f l i]
theorem Ents.del {es : Array MapEntry} {c i : Nat} {m : List (κ × Value)} (h : Ents enc es c m) : Ents enc (es.eraseIdxIfInBounds i) c (m.eraseIdx i) := by
 have e0 : (es.eraseIdxIfInBounds i).toList = es.toList.eraseIdx i := by
  unfold Array.eraseIdxIfInBounds
  split
  ·simp
  ·rw [List.eraseIdx_of_length_le]; simpa using Nat.le_of_not_lt ‹_›
 refine ⟨?_, ?_, ?_⟩
 ·rw [e0, map_erase, map_erase, h.kvs]
 ·intro e he
  rw [e0] at he
  exact h.born e (List.mem_of_mem_eraseIdx he)
 ·rw [e0, map_erase]
  exact h.nodup.sublist (List.eraseIdx_sublist _ _)
theorem e_mapdel {e ty : TypeId} {g : Nat} {m : List (κ × Value)} {q : κ} {kt' : TypeId} [ht : MapT P t kt e] (K : KeyLaw P kt enc) (p : Pick L (MapIs g enc m) L') (h : Ent W (MapIs g enc (delM q m) :: L') (k (.tuple #[]))) : Ent W L (opN P (sDel #[t, kt'] ty [.map (some g), enc q]) Kp k) := fun w hw => by
 obtain ⟨es, c, he, hp⟩ := map_row (hw.pick p)
 have hg := hp.pt_.1
 have hf := findKey_run K q w he.kvs
 refine ⟨?_⟩
 cases hq : fnd q m 0 with
 | none =>
  have : (sDel #[t, kt'] ty [.map (some g), enc q]).run P w = .ok (.value (.tuple #[])) { w with heap := w.heap.setIfInBounds g (.map es c) } := by
   simp [sDel, Builtin.delete_, run_underlying ht.ut, MapKept.run_getObj_map hg, K.check, hf, hq, Result.andThen, MapKept.run_setObj_map _ hg]
  rw [this]
  refine h _ (map_back ?_ (hp.putObj _))
  rw [show delM q m = m by simp [delM, hq]]; exact he
 | some r =>
  obtain ⟨i, u⟩ := r
  have : (sDel #[t, kt'] ty [.map (some g), enc q]).run P w = .ok (.value (.tuple #[])) { w with heap := w.heap.setIfInBounds g (.map (es.eraseIdxIfInBounds i) c) } := by
   simp [sDel, Builtin.delete_, run_underlying ht.ut, MapKept.run_getObj_map hg, K.check, hf, hq, Result.andThen, MapKept.run_setObj_map _ hg]
  rw [this]
  refine h _ (map_back ?_ (hp.putObj _))
  rw [show delM q m = m.eraseIdx i by simp [delM, hq]]; exact he.del
def MapFn (g : Nat) (enc : κ -> Value) (f : κ -> Option Value) : HP := ex fun m => all [pu ((m.map (·.1)).Nodup /\ ∀ q, getM q m = f q), MapIs g enc m]
def updM (f : κ -> Option Value) (q : κ) (v : Option Value) : κ -> Option Value := fun x => if x = q then v else f x
theorem e_mf {g : Nat} {f : κ -> Option Value} {S : WP} (p : Pick L (MapFn g enc f) L') (h : ∀ m, (m.map (·.1)).Nodup -> (∀ q, getM q m = f q) -> Ent W (MapIs g enc m :: L') S) : Ent W L S := by
 refine e_ex p fun m => e_all .here ?_
 refine e_pu .here fun hm => h m hm.1 hm.2
theorem imp_mf {g : Nat} {f : κ -> Option Value} {M : List HP} {m : List (κ × Value)} (p : Pick L (MapIs g enc m) L') (h1 : (m.map (·.1)).Nodup) (h2 : ∀ q, getM q m = f q) (h : Imp W L' M) : Imp W L (MapFn g enc f :: M) :=
 .ex m (.all (.pu ⟨h1, h2⟩ (.pick p h)))
theorem e_setF {e : TypeId} {g : Nat} {f : κ -> Option Value} {q : κ} {v : Value} [ht : MapT P t kt e] (K : KeyLaw P kt enc) (p : Pick L (MapFn g enc f) L') (h : Ent W (MapFn g enc (updM f q (some v)) :: L') (k undef)) : Ent W L (opN P (sMapSet t (.map (some g)) (enc q) v) Kp k) :=
 e_mf p fun m h1 h2 => e_mapset K .here (e_imp (imp_mf .here (setM_keys q v m h1).1 (fun x => by rw [getM_setM, h2]; rfl) .refl) h)
theorem e_delF {e ty : TypeId} {g : Nat} {f : κ -> Option Value} {q : κ} {kt' : TypeId} [ht : MapT P t kt e] (K : KeyLaw P kt enc) (p : Pick L (MapFn g enc f) L') (h : Ent W (MapFn g enc (updM f q none) :: L') (k (.tuple #[]))) : Ent W L (opN P (sDel #[t, kt'] ty [.map (some g), enc q]) Kp k) :=
 e_mf p fun m h1 h2 => e_mapdel K .here (e_imp (imp_mf .here (h1.sublist (delM_keys q m)) (fun x => by rw [getM_delM q x m h1, h2]; rfl) .refl) h)
theorem e_mkF {e : TypeId} (enc : κ -> Value) [ht : MapT P t kt e] (h : ∀ g, Ent W (MapFn g enc (fun _ => none) :: L) (k (.map (some g)))) : Ent W L (opN P (sMkMap t none) Kp k) :=
 e_mkmap enc fun g => e_imp (imp_mf .here (by simp) (fun q => by simp [getM, fnd]) .refl) (h g)
theorem v_eqMap {P : Program} {W : World} {t kt e : TypeId} {ox oy : Operand} {g : Nat} [ht : MapT P t kt e] : RunV P W [] (sEq .eql t ox oy (.map (some g)) (.map none)) (.bool false) := fun w _ => by
 have h : (Op.equal t (.map (some g)) (.map none)).run P w = .ok false w := by
  unfold Op.equal Op.maxDepth Op.equalIn
  simp only [Sem.run_bind, run_underlying ht.ut, Result.andThen_ok]
  rfl
 simp [sEq, sv, eqGuard, binOp, h, Result.andThen]
end Go.Proofs.YthomhkpedghhgaaGreatDoor.Sl
namespace Go.Proofs.YthomhkpedghhgaaGreatDoor.Sl
open Go Go.RowKit Sh
theorem ba_eq {l m : List UInt8} : ((⟨l.toArray⟩ : ByteArray) == (⟨m.toArray⟩ : ByteArray)) = decide (l = m) := by
 rw [<- txt_eq, beq_toListBytes]
theorem keyS {P : Program} {kt : TypeId} (hk : P.underlying kt = some .string) : KeyLaw P kt txt where
 check := fun b k w => MapKept.run_checkKey (n := 9999) (d := .string) hk (by simp [MapKept.IsKey, txt]) b
 eq := fun k k' w => by
  unfold txt Op.equal Op.maxDepth
  have := run_equalIn_string (P := P) (w := w) 9999 kt ⟨k.toArray⟩ ⟨k'.toArray⟩ hk
  rw [this, txt_eq]
 now := ⟨.string, hk, fun k k' => .inr (by unfold txt; simp only [Instr.sameNow]; rw [ba_eq])⟩
 same := fun k => by unfold txt; simp only [Instr.sameBits]; rw [ba_eq]; simp
end Go.Proofs.YthomhkpedghhgaaGreatDoor.Sl
namespace Go.Proofs.YthomhkpedghhgaaGreatDoor.FD
open Go Go.Proofs Go.RowKit Sh Sl T
abbrev Q2 := Option Addr × Nat
def IsE (g : Nat) (e : En) : HP := ex fun q : (Q2 × Q2) × (Q2 × Q2) => all [pt g (.cells #[txt e.key, txt e.met, .slice q.1.1.1 e.rf.length q.1.1.2, .slice q.1.2.1 e.vf.length q.1.2.2, .int .i64 e.st, .slice q.2.1.1 e.xf.length q.2.1.2, .slice q.2.2.1 e.xb.length q.2.2.2, .int .i64 e.asked, .int .i64 e.came, .int .i64 e.cost] 72),
 Sl 2 68 q.1.1.1 q.1.1.2 e.rf.length (e.rf.flatMap pFd), Sl 2 68 q.1.2.1 q.1.2.2 e.vf.length (e.vf.flatMap pFd), Sl 2 68 q.2.1.1 q.2.1.2 e.xf.length (e.xf.flatMap pFd), Sl 1 5 q.2.2.1 q.2.2.2 e.xb.length (e.xb.map Sl.B)]
def rowsF (Z : Cs) (rw : List UInt8 -> Q2) (k : List UInt8) : Option Value := if Z.of_ k = [] then none else some (.slice (rw k).1 (Z.of_ k).length (rw k).2)
def RowA (Z : Cs) (rw : List UInt8 -> Q2) (k : List UInt8) : HP := Sl 1 65 (rw k).1 (rw k).2 (Z.of_ k).length ((Z.of_ k).map pE)
def BE (al : List Nat) (E : Nat -> En) : HP := BL al (fun g => IsE g (E g))
def IsC (c : Nat) (Z : Cs) : HP := ex fun q : Q2 × Nat × (List UInt8 -> Q2) => all [pt c (.cells #[.slice q.1.1 Z.ord.length q.1.2, .map (some q.2.1), .int .i64 Z.bound, .int .i64 Z.bytes] 62), Sl 1 65 q.1.1 q.1.2 Z.ord.length (Z.ord.map pE), MapFn q.2.1 txt (rowsF Z q.2.2), BL Z.ks (RowA Z q.2.2), BE Z.al Z.E]
theorem fits {W : World} {g : Nat} {e : En} {T : Nat} {R : List Fd} {ar : Option Addr} {cr : Nat} {A : HP} (he : EnOk T e) (hT : T <= 1048576) (hA : RdF W A ar R) (hR : zF R <= 1048576) :
  Cn p_ 38 [pE g, .slice ar R.length cr] W [IsE g e, A] (fun _ : Unit => .bool (fitsF e R)) (fun _ => [IsE g e, A]) := by
 have hxf : zF e.xf <= 1048576 := by have := he.xf; omega
 have hvf : zF e.vf <= 1048576 := by have := he.vf; omega
 obtain ⟨n1, n2⟩ := varies_ok hxf
 have hRo := z_ok (l := R) (by omega)
 have hvo := z_ok (l := e.vf) (by omega)
 have hzv := z_len e.vf
 (refine S.cache_entry_fits_s.cn fun F => ?_; unfold S.cache_entry_fits; simp only [ca_, na_])
 refine e_ex .here fun q => e_all .here ?_
 obtain ⟨⟨⟨ra, rc⟩, va, vc⟩, ⟨xa, xc⟩, ba, bc⟩ := q
 refine nr_ ?_
 refine o_ v_nil (o_ v_fa0 (o_ v_fa (ln_ ?_)))
 refine e_slfacts (by (repeat constructor) : Pick _ (Sl 2 68 va vc e.vf.length (e.vf.flatMap pFd)) _) fun _ _ _ hv => ?_
 refine e_slfacts (by (repeat constructor) : Pick _ (Sl 2 68 xa xc e.xf.length (e.xf.flatMap pFd)) _) fun _ _ _ hx => ?_
 refine e_call (lvaries (rdF_any hx) hxf) (.cons (by repeat constructor) .nil) fun v => ?_
 obtain ⟨na, nc⟩ := v
 refine nr_ ?_
 (try dsimp only)
 have hfit : fitsF e R = (variesF e.xf).all fun n => decide (valsF e.vf n = valsF R n) := rfl
 rw [hfit]
 obtain ⟨V, hV⟩ : ∃ V, V = variesF e.xf := ⟨_, rfl⟩
 rw [<- hV] at n1 n2 ⊢
 refine e_slfacts (by (repeat constructor) : Pick _ (Sl 1 9 na nc V.length (V.map txt)) _) fun _ _ _ hs => ?_
 have hN : RdB W (Sl 1 9 na nc V.length (V.map txt)) na V.length (V.map txt) := rd_sl (by rw [List.length_map]) hs
 refine o_ v_len (e_loop1 (fun m y => pu (∃ i : Nat, m + i = V.length /\ y = .int .i64 (i : Int) /\ (V.take i).all (fun n => decide (valsF e.vf n = valsF R n)) = true) :: IsE g e :: A :: Sl 1 9 na nc V.length (V.map txt) :: F) V.length ?_ ?_)
 ·refine .pu ⟨0, rfl, rfl, rfl⟩ (.ex (((ra, rc), va, vc), (xa, xc), ba, bc) (.all ?_))
  refine nr_ ?_
  exact im_
 intro m ds y
 refine e_pu .here fun hi => ?_
 obtain ⟨i, hmi, rfl, hall⟩ := hi
 refine e_ask v_lss .nil (fun h => ?_) (fun h => ?_)
 ·have hin : i < V.length := by omega
  have hta := List.take_succ_eq_append_getElem hin
  have hvn := n2 _ (List.getElem_mem hin)
  obtain ⟨ng, rfl⟩ := hs (by omega)
  refine e_condT (o_ (v_ia1 i rfl hin) ?_)
  refine p_op (txt_at hN hin) ?_
  refine e_ex .here fun q => e_all .here ?_
  obtain ⟨⟨⟨ra, rc⟩, va, vc⟩, ⟨xa, xc⟩, ba, bc⟩ := q
  refine nr_ ?_
  refine o_ v_nil (o_ v_fa0 (ln_ ?_))
  refine e_slfacts (by (repeat constructor) : Pick _ (Sl 2 68 va vc e.vf.length (e.vf.flatMap pFd)) _) fun _ _ _ hv => ?_
  refine e_call (values (n := V[i]) (rdF_any hv) hvo (by omega)) (.cons (by repeat constructor) .nil) fun r => ?_
  obtain ⟨r1, r2⟩ := r
  refine nr_ ?_
  (try dsimp only)
  refine e_call (values (n := V[i]) hA hRo (by omega)) (.cons (by repeat constructor) .nil) fun s => ?_
  obtain ⟨s1, s2⟩ := s
  refine nr_ ?_
  (try dsimp only)
  have hvl := vals_len e.vf V[i]
  refine e_call (equalS (l := valsF e.vf V[i]) (m := valsF R V[i]) (a := r1) (b := s1) (c := r2) (d := s2) (by omega)) (.cons (by repeat constructor) (.cons (by repeat constructor) .nil)) fun _ => ?_
  refine nr_ ?_
  refine o_ v_not ?_
  by_cases hq : valsF e.vf V[i] = valsF R V[i]
  ·rw [dT_ hq]
   refine e_condF (ad_ ?_)
   refine e_next1 (m - 1) (by omega) (.pu ⟨i + 1, by omega, by norm_cast, by rw [hta, List.all_append, hall]; simp [hq]⟩ (.ex (((ra, rc), va, vc), (xa, xc), ba, bc) (.all ?_)))
   refine nr_ ?_
   exact im_
  ·rw [dF_ hq]
   refine e_condT (e_ret () (by rw [show (V.all fun n => decide (valsF e.vf n = valsF R n)) = false from Bool.eq_false_iff.2 fun c => hq (by simpa using List.all_eq_true.1 c _ (List.getElem_mem hin))]) ?_)
   refine .ex (((ra, rc), va, vc), (xa, xc), ba, bc) (.all ?_)
   refine nr_ ?_
   exact im_
 ·have : i = V.length := by omega
  subst this
  rw [List.take_length] at hall
  refine e_condF (e_ret () (by rw [hall]) ?_)
  exact im_
theorem none_ {W : World} {c : Nat} {Z : Cs} : Cn p_ 31 [pE c] W [IsC c Z] (fun _ : Unit => .bool false) (fun _ => [IsC c Z]) := by
 (refine S.cache_Cache_none_s.cn fun F => ?_; unfold S.cache_Cache_none; simp only [ca_, na_])
 refine e_ex .here fun q => e_all .here ?_
 obtain ⟨⟨oa, oc⟩, mg, rw_⟩ := q
 refine nr_ ?_
 refine o_ v_eqNil1 ?_; refine e_gdT (e_gdT (o_ v_nil (e_gdT (o_ v_fa0 (e_gdT (ln_ ?_)))))); refine e_gdT (o_ v_eqMap ?_)
 refine o_ v_pickF (e_ret () rfl ?_)
 refine .ex ((oa, oc), mg, rw_) (.all ?_)
 refine nr_ ?_
 exact im_
theorem bytes_ {W : World} {c : Nat} {Z : Cs} : Cn p_ 28 [pE c] W [IsC c Z] (fun _ : Unit => .int .i64 Z.bytes) (fun _ => [IsC c Z]) := by
 (refine S.cache_Cache_Bytes_s.cn fun F => ?_; unfold S.cache_Cache_Bytes; simp only [ca_, na_])
 refine c_ none_ fun _ => ?_
 refine e_condF (e_ex .here fun q => e_all .here ?_)
 obtain ⟨⟨oa, oc⟩, mg, rw_⟩ := q
 refine nr_ ?_
 refine o_ v_nil (o_ v_fa0 (ln_ ?_))
 refine e_ret () rfl ?_
 refine .ex ((oa, oc), mg, rw_) (.all ?_)
 refine nr_ ?_
 exact im_
theorem len_ {W : World} {c : Nat} {Z : Cs} : Cn p_ 29 [pE c] W [IsC c Z] (fun _ : Unit => .int .i64 (Z.ord.length : Nat)) (fun _ => [IsC c Z]) := by
 (refine S.cache_Cache_Len_s.cn fun F => ?_; unfold S.cache_Cache_Len; simp only [ca_, na_])
 refine c_ none_ fun _ => ?_
 refine e_condF (e_ex .here fun q => e_all .here ?_)
 obtain ⟨⟨oa, oc⟩, mg, rw_⟩ := q
 refine nr_ ?_
 refine o_ v_nil (o_ v_fa0 (o_ v_fa0 (ln_ ?_))); refine o_ v_len (e_ret () rfl ?_)
 refine .ex ((oa, oc), mg, rw_) (.all ?_)
 refine nr_ ?_
 exact im_
theorem new {W : World} {b : Int} (h0 : 0 <= b) (h1 : b <= 1048576) : Cn p_ 7 [.int .i64 b] W [] (fun c : Nat => .tuple #[pE c, .int .i64 0]) (fun c => [IsC c (emptyS b)]) := by
 (refine S.cache_New_s.cn fun F => ?_; unfold S.cache_New; simp only [ca_, na_])
 refine e_ask v_lss .nil (fun h => ?_) (fun h => ?_)
 ·omega
 refine e_gdT (e_gdT (o_ v_gtr ?_))
 rw [dF_ (by omega)]
 refine o_ v_pickF (e_condF (e_mkF txt fun mg => ?_))
 refine o_ v_rv ?_; refine e_boxA fun g => ?_
 rename Nat => c
 refine e_ret c rfl ?_
 refine .ex ((none, 0), mg, fun _ => (none, 0)) (.all ?_)
 refine nr_ ?_
 refine .pick (by repeat constructor) (imp_nil (.pick (by repeat constructor) (imp_bl0 (imp_bl0 ?_))))
 exact im_
section
variable {P : Program} {W : World} {L L' L'' : List HP} {Kp : PK} {k : Value -> WP}
theorem run_bl {α : Type} [DecidableEq α] {l : List α} {F : α -> HP} {i : α} {s : Sem Next} {v : Value} (hi : i ∈ l) (hn : l.Nodup) (H : RunV P W [F i] s v) : RunV P W [BL l F] s v := fun w hw => by
 refine H w (sat.map (fun f h => ?_) hw)
 obtain ⟨h1, h2, ha, _, d, s1, s2⟩ := h
 obtain ⟨k1, k2, b1, _, _, t1, _⟩ := Sl.bl_out l hi hn ha
 exact ⟨k1, fun _ => none, b1, trivial, fun _ => .inr rfl, fun i o c => s1 i o (t1 i o c), fun _ _ c => by cases c⟩
theorem run_ex {α : Type} {A : α -> HP} {s : Sem Next} {v : Value} (H : ∀ x, RunV P W [A x] s v) : RunV P W [ex A] s v := fun w hw => by
 obtain ⟨b, f, ⟨h1, h2, ⟨x, ha⟩, r⟩, c⟩ := hw
 exact H x w ⟨b, f, ⟨h1, h2, ha, r⟩, c⟩
theorem run_all {A : HP} {M : List HP} {s : Sem Next} {v : Value} (H : RunV P W [A] s v) : RunV P W [all (A :: M)] s v := fun w hw => by
 obtain ⟨b, f, ⟨h1, h2, ⟨k1, k2, ka, _, _, t1, _⟩, _, _, s1, _⟩, c⟩ := hw
 exact H w ⟨b, f, ⟨k1, fun _ => none, ka, trivial, fun _ => .inr rfl, fun i o e => s1 i o (t1 i o e), fun _ _ e => by cases e⟩, c⟩
theorem e_blb {α : Type} [DecidableEq α] {l : List α} {F F' : α -> HP} {S : WP} (i : α) (hi : i ∈ l) (hn : l.Nodup) (hF : ∀ j ∈ l, j ≠ i -> F j = F' j) (p : Pick L (F' i) L') (q : Pick L' (BO l F i) L'') (h : Ent W (BL l F' :: L'') S) : Ent W L S :=
 e_imp (imp_bl i hi hn hF (.pick p (.pick q .refl))) h
end
theorem ld_key {W : World} {al : List Nat} {E : Nat -> En} {g : Nat} (hg : g ∈ al) (hn : al.Nodup) : RunV p_ W [BE al E] (sLoad 9 (.pointer (some ⟨g, 0, none⟩))) (txt (E g).key) :=
 run_bl hg hn (run_ex fun q => run_all (v_ldN .here))
theorem ld_cost {W : World} {al : List Nat} {E : Nat -> En} {g : Nat} (hg : g ∈ al) (hn : al.Nodup) : RunV p_ W [BE al E] (sLoad 3 (.pointer (some ⟨g, 9, none⟩))) (.int .i64 (E g).cost) :=
 run_bl hg hn (run_ex fun q => run_all (v_ldN (by repeat constructor)))
theorem v_eqE {W : World} {al : List Nat} {E : Nat -> En} {ox oy : Operand} {a b : Nat} (ha : a ∈ al) (hb : b ∈ al) : RunV p_ W [BE al E] (sEq .eql 65 ox oy (pE a) (pE b)) (.bool (decide (a = b))) := fun w hw => by
 have cell : ∀ g ∈ al, ∃ ca ta, w.heap[g]? = some (.cells ca ta (0, 0)) := fun g hg => by
  obtain ⟨_, f, ⟨h1, h2, hb, _, _, s1, _⟩, hc⟩ := hw
  have key : ∀ (l : List Nat) (h : Frag), g ∈ l -> all (l.map fun g => IsE g (E g)) W h -> ∃ ca ta, h g = some (.cells ca ta (0, 0)) := by
   intro l
   induction l with
   | nil => intro h hg; cases hg
   | cons x r ih =>
    intro h hg H
    obtain ⟨k1, k2, ka, kb, _, t1, t2⟩ := H
    rcases List.mem_cons.1 hg with rfl | hg
    ·obtain ⟨q, m1, m2, ma, _, _, u1, _⟩ := ka
     exact ⟨_, _, t1 _ _ (u1 _ _ ma)⟩
    ·obtain ⟨ca, ta, e⟩ := ih k2 hg kb
     exact ⟨ca, ta, t2 _ _ e⟩
  obtain ⟨ca, ta, e⟩ := key al h1 hg hb
  exact ⟨ca, ta, (hc g _ (s1 _ _ e)).2⟩
 by_cases c : a = b
 ·subst c
  have := run_eql_ptr_same (P := p_) w (tp := 65) (te := 72) (j := Tryz.t72) ⟨a, 0, none⟩ (by kernel_rfl) (by kernel_rfl)
  simp [sEq, sv, eqGuard, this]
 ·obtain ⟨ca, ta, e1⟩ := cell a ha
  obtain ⟨cb, tb, e2⟩ := cell b hb
  have := run_eql_ptr_other (P := p_) w (tp := 65) (te := 72) (j := Tryz.t72) (a := ⟨a, 0, none⟩) (b := ⟨b, 0, none⟩) (by kernel_rfl) (by kernel_rfl) (by decide +kernel) (by simp [c]) e1 e2
  simp [sEq, sv, eqGuard, this, c]
theorem v_lookF {κ : Type} [DecidableEq κ] {P : Program} {W : World} {t kt e : TypeId} {enc : κ -> Value} {z : Value} {g : Nat} {f : κ -> Option Value} {q : κ} [ht : MapT P t kt e] [hz : ZeroT P e z] (K : KeyLaw P kt enc) : RunV P W [MapFn g enc f] (sLook t (.map (some g)) (enc q) false) ((f q).getD z) := fun w hw => by
 obtain ⟨b, fr, ⟨h1, h2, ⟨m, k1, k2, hp, ⟨j1, j2, jm, _, _, u1, _⟩, _, _, t2⟩, r⟩, c⟩ := hw
 rw [<- hp.2 q]
 exact v_look K w ⟨b, fr, ⟨j1, fun _ => none, jm, trivial, fun _ => .inr rfl, fun i o e => r.2.2.1 i o (t2 i o (u1 i o e)), fun _ _ e => by cases e⟩, c⟩
def rmL (L : List Nat) (g : Nat) : List Nat := L.filter fun x => !decide (x = g)
theorem leave {W : World} {c g : Nat} {oa : Option Addr} {oc : Nat} {M : List Nat} {m b y : Value} {al : List Nat} {E : Nat -> En} (hM : M.length <= 1099511627776) (ha : ∀ x ∈ M, x ∈ al) (hg : g ∈ al) :
  Cn p_ 78 [pE c, pE g] W [pt c (.cells #[.slice oa M.length oc, m, b, y] 62), Sl 1 65 oa oc M.length (M.map pE), BE al E] (fun _ : Unit => .tuple #[])
   (fun _ => [pt c (.cells #[.slice oa (rmL M g).length oc, m, b, y] 62), Sl 1 65 oa oc (rmL M g).length ((rmL M g).map pE), BE al E]) := by
 (refine S.cache_ring_leave_s.cn fun F => ?_; unfold S.cache_ring_leave; simp only [ca_, na_])
 refine e_box1 fun b3 => ?_
 refine o_ v_nil (o_ v_fa0 (ln_ ?_))
 refine o_ v_mkF (e_imp (M := all [pt b3 (.cells #[pE g] 65), BE al E] :: Sl 1 65 oa oc M.length (M.map pE) :: pt c (.cells #[.slice oa M.length oc, m, b, y] 62) :: F) (.all ?_) ?_)
 ·refine nr_ ?_
  exact im_
 refine e_call (delE (k := 104) (cap := [.pointer (some ⟨b3, 0, none⟩)]) (p := fun x => decide (x = g)) (C := all [pt b3 (.cells #[pE g] 65), BE al E]) hM (fun x hx => by
  (refine S.cache_ring_leave_1_s.cn fun F => ?_; unfold S.cache_ring_leave_1; simp only [ca_, na_])
  refine e_all .here ?_
  refine nr_ ?_
  refine ln_ ?_
  refine p_op (v_eqE (ha x hx) hg) ?_
  refine e_ret () rfl ?_
  refine .all ?_
  refine nr_ ?_
  (repeat (first | exact .refl | exact .nil | (apply Imp.pick; (focus ((repeat constructor); done))) | refine .drop ?_)))) (by (repeat (first | exact Picks.nil | (apply Picks.cons; (focus repeat constructor))))) fun _ => ?_
 refine nr_ ?_
 refine o_ v_nil (o_ v_fa0 (sn_ ?_))
 refine e_all (by (repeat constructor) : Pick _ (all [pt b3 (.cells #[pE g] 65), BE al E]) _) ?_
 refine nr_ ?_
 refine rt_ () ?_
 unfold rmL
 exact im_
theorem touchR {W : World} {c g : Nat} {oa : Option Addr} {oc : Nat} {M : List Nat} {m b y : Value} {al : List Nat} {E : Nat -> En} (hM : M.length <= 1048576) (ha : ∀ x ∈ M, x ∈ al) (hg : g ∈ al) :
  Cn p_ 40 [pE c, pE g] W [pt c (.cells #[.slice oa M.length oc, m, b, y] 62), Sl 1 65 oa oc M.length (M.map pE), BE al E] (fun _ : Q2 => .tuple #[])
   (fun q => [pt c (.cells #[.slice q.1 (rmL M g ++ [g]).length q.2, m, b, y] 62), Sl 1 65 q.1 q.2 (rmL M g ++ [g]).length ((rmL M g ++ [g]).map pE), BE al E]) := by
 have hr : (rmL M g).length <= M.length := List.length_filter_le _ _
 (refine S.cache_ring_touch_s.cn fun F => ?_; unfold S.cache_ring_touch; simp only [ca_, na_])
 refine e_call (leave (E := E) (by omega) ha hg) (by (repeat (first | exact Picks.nil | (apply Picks.cons; (focus repeat constructor))))) fun _ => ?_
 refine nr_ ?_
 refine o_ v_nil (o_ v_fa0 (ln_ ?_)); refine e_bsl1 fun g => ?_
 rename Nat => gb
 refine e_app (m := 1) (news := [pE g]) (by (repeat constructor) : Pick _ (Sl 1 65 oa oc (rmL M g).length ((rmL M g).map pE)) _) (src_pt (s := 1) (e' := 65) (by kernel_rfl) .here (by rfl) (by intro u hu; simp at hu; rw [hu]; rfl)) (by omega) (by omega) fun a' c' => ?_
 refine o_ v_nil (o_ v_fa0 (sn_ ?_))
 refine e_retT (a', c') ?_
 rw [List.length_append, List.map_append]
 exact im_
theorem drop_rows {Z : Cs} {g : Nat} {rw_ : List UInt8 -> Q2} {h : Z.of_ (Z.E g).key ≠ []} : rowsF (dropS Z g) rw_ = if rmL (Z.of_ (Z.E g).key) g = [] then updM (updM (rowsF Z rw_) (Z.E g).key (some (.slice (rw_ (Z.E g).key).1 (rmL (Z.of_ (Z.E g).key) g).length (rw_ (Z.E g).key).2))) (Z.E g).key none
  else updM (rowsF Z rw_) (Z.E g).key (some (.slice (rw_ (Z.E g).key).1 (rmL (Z.of_ (Z.E g).key) g).length (rw_ (Z.E g).key).2)) := by
 funext k
 by_cases c : k = (Z.E g).key
 ·subst c
  have e : (dropS Z g).of_ (Z.E g).key = rmL (Z.of_ (Z.E g).key) g := if_pos rfl
  by_cases d : rmL (Z.of_ (Z.E g).key) g = []
  ·rw [if_pos d]
   unfold rowsF updM
   rw [e, if_pos d, if_pos rfl]
  ·rw [if_neg d]
   unfold rowsF updM
   rw [e, if_neg d, if_pos rfl]
 ·have e : (dropS Z g).of_ k = Z.of_ k := if_neg c
  split <;> · unfold rowsF updM; rw [e]; simp [c]
theorem drop {W : World} {c g T : Nat} {Z : Cs} (hZ : CsOk T Z) (hg : g ∈ Z.ord) : Cn p_ 39 [pE c, pE g] W [IsC c Z] (fun _ : Unit => .tuple #[]) (fun _ => [IsC c (dropS Z g)]) := by
 have hga := hZ.oa g hg
 have hgb := hZ.fb g hg
 have hne : Z.of_ (Z.E g).key ≠ [] := fun e => by rw [e] at hgb; cases hgb
 have hks := hZ.fk _ hne
 have hol := hZ.ordl
 have hfl := hZ.ofl (Z.E g).key
 have hc1 := (hZ.en g hga).c1
 have hc2 := hZ.cost hg
 have hle := hZ.le
 have hb1 := hZ.b1
 have hrl : (rmL (Z.of_ (Z.E g).key) g).length <= (Z.of_ (Z.E g).key).length := List.length_filter_le _ _
 (refine S.cache_Cache_drop_s.cn fun F => ?_; unfold S.cache_Cache_drop; simp only [ca_, na_])
 refine e_box1 fun b3 => ?_
 refine e_ex (by (repeat constructor) : Pick _ (IsC c Z) _) fun q => e_all .here ?_
 obtain ⟨⟨oa, oc⟩, mg, rw_⟩ := q
 refine nr_ ?_
 refine e_drS (t_ v_nil (t_ v_fa0 (ls_ ?_)))
 refine e_call (leave (E := Z.E) (by omega) hZ.oa hga) (by (repeat (first | exact Picks.nil | (apply Picks.cons; (focus repeat constructor))))) fun _ => ?_
 refine nr_ ?_
 refine e_drS (t_ v_nil (t_ v_fa0 (ls_ ?_))); refine ls_ ?_; refine t_ v_nil (t_ v_fa0 (p_st (ld_cost hga hZ.aln) ?_))
 (refine t_ (v_sub (by omega) (by omega)) ?_); refine t_ v_nil ?_; refine t_ v_fa0 ?_; refine sn_ ?_; refine e_drS ?_; refine t_ v_nil ?_; refine t_ v_fa0 ?_; refine ls_ ?_; refine ls_ ?_; refine t_ v_nil ?_; refine t_ v_fa0 ?_
 refine p_st (ld_key hga hZ.aln) ?_
 refine p_st (v_lookF (keyS Tryz.underlying9)) ?_
 rw [show (rowsF Z rw_ (Z.E g).key).getD (.slice none 0 0) = .slice (rw_ (Z.E g).key).1 (Z.of_ (Z.E g).key).length (rw_ (Z.E g).key).2 by unfold rowsF; rw [if_neg hne]; rfl]
 refine t_ v_mkF (e_bl (by (repeat constructor) : Pick _ (BL Z.ks (RowA Z rw_)) _) (Z.E g).key hks hZ.ksn ?_)
 refine e_imp (M := all [pt b3 (.cells #[pE g] 65), BE Z.al Z.E] :: Sl 1 65 (rw_ (Z.E g).key).1 (rw_ (Z.E g).key).2 (Z.of_ (Z.E g).key).length ((Z.of_ (Z.E g).key).map pE) :: BO Z.ks (RowA Z rw_) (Z.E g).key :: MapFn mg txt (rowsF Z rw_) :: Sl 1 65 oa oc (rmL Z.ord g).length ((rmL Z.ord g).map pE) :: pt c (.cells #[.slice oa (rmL Z.ord g).length oc, .map (some mg), .int .i64 Z.bound, .int .i64 (Z.bytes - (Z.E g).cost)] 62) :: F) (.all ?_) ?_
 ·unfold RowA
  refine nr_ ?_
  exact im_
 refine e_call (delE (k := 80) (cap := [.pointer (some ⟨b3, 0, none⟩)]) (p := fun x => decide (x = g)) (C := all [pt b3 (.cells #[pE g] 65), BE Z.al Z.E]) (by omega) (fun x hx => by
  have hxa := hZ.oa x (hZ.fo _ x hx).1
  (refine S.cache_Cache_drop_1_s.cn fun F => ?_; unfold S.cache_Cache_drop_1; simp only [ca_, na_])
  refine e_all .here ?_
  refine nr_ ?_
  refine ln_ ?_
  refine p_op (v_eqE hxa hga) ?_
  refine e_ret () rfl ?_
  refine .all ?_
  refine nr_ ?_
  (repeat (first | exact .refl | exact .nil | (apply Imp.pick; (focus ((repeat constructor); done))) | refine .drop ?_)))) (by (repeat (first | exact Picks.nil | (apply Picks.cons; (focus repeat constructor))))) fun _ => ?_
 refine nr_ ?_
 refine e_all (by (repeat constructor) : Pick _ (all [pt b3 (.cells #[pE g] 65), BE Z.al Z.E]) _) ?_
 refine nr_ ?_
 have hrow : ((Z.of_ (Z.E g).key).filter fun x => !decide (x = g)) = rmL (Z.of_ (Z.E g).key) g := rfl
 rw [hrow]
 refine e_drS (t_ v_nil (t_ v_fa0 (ls_ ?_))); refine ls_ ?_; refine t_ v_nil (t_ v_fa0 (p_st (ld_key hga hZ.aln) ?_))
 refine e_setF (keyS Tryz.underlying9) (by (repeat constructor) : Pick _ (MapFn mg txt (rowsF Z rw_)) _) ?_
 refine o_ v_len ?_
 have hrows := drop_rows (Z := Z) (g := g) (rw_ := rw_) (h := hne)
 have hof : (dropS Z g).of_ (Z.E g).key = rmL (Z.of_ (Z.E g).key) g := if_pos rfl
 have hfin : ∀ (L L' L'' : List HP) (f : List UInt8 -> Option Value), f = rowsF (dropS Z g) rw_ -> Imp W L (MapFn mg txt f :: Sl 1 65 (rw_ (Z.E g).key).1 (rw_ (Z.E g).key).2 (rmL (Z.of_ (Z.E g).key) g).length ((rmL (Z.of_ (Z.E g).key) g).map pE) :: BO Z.ks (RowA Z rw_) (Z.E g).key :: BE Z.al Z.E :: Sl 1 65 oa oc (rmL Z.ord g).length ((rmL Z.ord g).map pE) :: pt c (.cells #[.slice oa (rmL Z.ord g).length oc, .map (some mg), .int .i64 Z.bound, .int .i64 (Z.bytes - (Z.E g).cost)] 62) :: F) -> Ent W L (fun w => ∃ x : Unit, True /\ sat W (IsC c (dropS Z g) :: F) w) := fun L _ _ f hf hi => by
  subst hf
  refine e_imp hi ?_
  refine e_retT () ?_
  refine .ex ((oa, oc), mg, rw_) (.all ?_)
  refine nr_ ?_
  refine .pick (by repeat constructor) (.pick (by repeat constructor) (.pick (by repeat constructor) (imp_bl (L := _) (F := RowA Z rw_) (Z.E g).key hks hZ.ksn ?_ ?_)))
  ·intro k _ hk
   unfold RowA
   rw [show (dropS Z g).of_ k = Z.of_ k from if_neg hk]
  unfold RowA
  rw [hof]
  exact im_
 refine o_ v_eql ?_
 by_cases hd : rmL (Z.of_ (Z.E g).key) g = []
 ·rw [if_pos hd] at hrows
  rw [dT_ (by rw [hd]; rfl)]
  refine e_condT (e_drS (t_ v_nil (t_ v_fa0 (ls_ ?_)))); refine ls_ ?_; refine t_ v_nil (t_ v_fa0 (p_st (ld_key hga hZ.aln) ?_))
  refine e_delF (keyS Tryz.underlying9) (by (repeat constructor) : Pick _ (MapFn mg txt _) _) ?_
  refine hfin _ [] [] _ hrows.symm ?_
  exact im_
 ·rw [if_neg hd] at hrows
  rw [dF_ (by intro h; apply hd; exact List.eq_nil_of_length_eq_zero (by omega))]
  refine e_condF (hfin _ [] [] _ hrows.symm ?_)
  exact im_
theorem find {W : World} {c T : Nat} {Z : Cs} {key : List UInt8} {R : List Fd} {ar : Option Addr} {cr : Nat} {A : HP} (hZ : CsOk T Z) (hA : RdF W A ar R) (hR : zF R <= 1048576) :
  Cn p_ 41 [pE c, txt key, .slice ar R.length cr] W [IsC c Z, A] (fun _ : Unit => match findF Z key R with | some g => pE g | none => .pointer none) (fun _ => [IsC c Z, A]) := by
 have hT := hZ.t
 have hfl := hZ.ofl key
 (refine S.cache_Cache_find_s.cn fun F => ?_; unfold S.cache_Cache_find; simp only [ca_, na_])
 refine e_ex (by (repeat constructor) : Pick _ (IsC c Z) _) fun q => e_all .here ?_
 obtain ⟨⟨oa, oc⟩, mg, rw_⟩ := q
 refine nr_ ?_
 refine o_ v_nil (o_ v_fa0 (ln_ ?_))
 refine p_op (v_lookF (keyS Tryz.underlying9)) ?_
 by_cases hne : Z.of_ key = []
 ·rw [show (rowsF Z rw_ key).getD (.slice none 0 0) = .slice none 0 0 by unfold rowsF; rw [if_pos hne]; rfl]
  have hf : findF Z key R = none := by unfold findF; rw [hne]; rfl
  rw [hf]
  refine o_ v_len (sb_ ?_)
  refine e_loop1 (fun m y => pu (y = .int .i64 (-1)) :: IsC c Z :: A :: F) 0 ?_ ?_
  ·refine .pu rfl (.ex ((oa, oc), mg, rw_) (.all ?_))
   refine nr_ ?_
   exact im_
  intro m ds y
  refine e_pu .here fun hi => ?_
  subst hi
  refine o_ v_geq ?_
  rw [dF_ (by decide)]
  refine e_condF (e_ret () rfl ?_)
  exact im_
 have hks := hZ.fk _ hne
 rw [show (rowsF Z rw_ key).getD (.slice none 0 0) = .slice (rw_ key).1 (Z.of_ key).length (rw_ key).2 by unfold rowsF; rw [if_neg hne]; rfl]
 refine o_ v_len (sb_ ?_)
 obtain ⟨ga, hga⟩ : ∃ ga, ga = rw_ := ⟨_, rfl⟩
 refine e_bl (by (repeat constructor) : Pick _ (BL Z.ks (RowA Z rw_)) _) key hks hZ.ksn ?_
 unfold RowA
 have hpos : 0 < (Z.of_ key).length := Nat.pos_of_ne_zero fun h => hne (List.eq_nil_of_length_eq_zero h)
 refine e_slsome .here hpos fun gr hgr => ?_
 rw [hgr]
 refine e_loop1 (fun m y => [ex fun i : Nat => all [pu (m = i /\ i <= (Z.of_ key).length /\ y = .int .i64 ((i : Int) - 1) /\ ∀ x ∈ (Z.of_ key).drop i, fitsF (Z.E x) R = false), Sl 1 65 (some ⟨gr, 0, none⟩) (rw_ key).2 (Z.of_ key).length ((Z.of_ key).map pE), BO Z.ks (RowA Z rw_) key, pt c (.cells #[.slice oa Z.ord.length oc, .map (some mg), .int .i64 Z.bound, .int .i64 Z.bytes] 62), Sl 1 65 oa oc Z.ord.length (Z.ord.map pE), MapFn mg txt (rowsF Z rw_), BE Z.al Z.E, A]] ++ F) (Z.of_ key).length ?_ ?_
 ·refine .ex (Z.of_ key).length (.all ?_)
  refine nr_ ?_
  refine .pu ⟨rfl, Nat.le_refl _, rfl, by simp⟩ ?_
  unfold RowA
  exact im_
 intro m ds y
 refine nr_ ?_
 refine e_ex Pick.here fun i => e_all Pick.here ?_
 refine nr_ ?_
 refine e_pu Pick.here fun hi => ?_
 obtain ⟨rfl, hil, rfl, hno⟩ := hi
 have fin : ∀ (L : List HP) (v : Value), (v = match findF Z key R with | some g => pE g | none => .pointer none) -> Imp W L (Sl 1 65 (some ⟨gr, 0, none⟩) (rw_ key).2 (Z.of_ key).length ((Z.of_ key).map pE) :: BO Z.ks (RowA Z rw_) key :: pt c (.cells #[.slice oa Z.ord.length oc, .map (some mg), .int .i64 Z.bound, .int .i64 Z.bytes] 62) :: Sl 1 65 oa oc Z.ord.length (Z.ord.map pE) :: MapFn mg txt (rowsF Z rw_) :: BE Z.al Z.E :: A :: F) -> Ent W L (fun w => ∃ x : Unit, v = (match findF Z key R with | some g => pE g | none => .pointer none) /\ sat W (IsC c Z :: A :: F) w) := fun L v hv hi => by
  refine e_imp hi ?_
  refine e_ret () hv ?_
  refine .ex ((oa, oc), mg, rw_) (.all ?_)
  refine nr_ ?_
  refine .pick (by repeat constructor) (.pick (by repeat constructor) (.pick (by repeat constructor) (imp_bl (L := _) (F := RowA Z rw_) key hks hZ.ksn (fun _ _ _ => rfl) ?_)))
  unfold RowA
  rw [hgr]
  exact im_
 refine e_ask v_geq .nil (fun h => ?_) (fun h => ?_)
 ·obtain ⟨i, rfl⟩ : ∃ j, m = j + 1 := ⟨m - 1, by omega⟩
  have hin : i < (Z.of_ key).length := by omega
  have hx := (Z.of_ key)[i]
  have hxm : (Z.of_ key)[i] ∈ Z.of_ key := List.getElem_mem hin
  have hxa := hZ.oa _ (hZ.fo _ _ hxm).1
  refine e_condT (o_ (v_ia1 i (by omega) hin) ?_)
  refine p_op (ld_pE hin) ?_
  refine e_bl (by (repeat constructor) : Pick _ (BE Z.al Z.E) _) (Z.of_ key)[i] hxa hZ.aln ?_
  refine e_call (fits (e := Z.E (Z.of_ key)[i]) (g := (Z.of_ key)[i]) (hZ.en _ hxa) hT hA hR) (.cons (by repeat constructor) (.cons (by repeat constructor) .nil)) fun _ => ?_
  refine nr_ ?_
  refine e_blb (l := Z.al) (F' := fun g => IsE g (Z.E g)) (Z.of_ key)[i] hxa hZ.aln (fun _ _ _ => rfl) (by repeat constructor) (by repeat constructor) ?_
  have hsplit : (Z.of_ key).drop i = (Z.of_ key)[i] :: (Z.of_ key).drop (i + 1) := (List.drop_eq_getElem_cons hin)
  cases hfit : fitsF (Z.E (Z.of_ key)[i]) R with
  | true =>
   have hf : findF Z key R = some (Z.of_ key)[i] := by
    unfold findF
    have e : (Z.of_ key).reverse = (((Z.of_ key).drop (i + 1)).reverse ++ [(Z.of_ key)[i]]) ++ ((Z.of_ key).take i).reverse := by rw [<- List.reverse_cons, <- hsplit, <- List.reverse_append, List.take_append_drop]
    rw [e, List.append_assoc, List.find?_append]
    rw [List.find?_eq_none.2 (by intro x hx; rw [hno x (List.mem_reverse.1 hx)]; simp)]
    simp [hfit]
   refine e_condT (o_ (v_ia1 i (by omega) hin) ?_)
   refine p_op (ld_pE hin) ?_
   exact fin _ _ (by rw [hf]) (by unfold BE; (repeat (first | exact .refl | exact .nil | (apply Imp.pick; (focus ((repeat constructor); done))) | refine .drop ?_)))
  | false =>
   refine e_condF (sb_ ?_)
   refine e_next1 i (by omega) (.ex i (.all ?_))
   refine nr_ ?_
   refine .pu ⟨rfl, by omega, by congr 1; omega, ?_⟩ ?_
   ·intro x hx
    rw [hsplit] at hx
    rcases List.mem_cons.1 hx with rfl | hx
    ·exact hfit
    ·exact hno x hx
   unfold BE
   exact im_
 ·have : m = 0 := by omega
  subst this
  refine e_condF ?_
  have hf : findF Z key R = none := by
   unfold findF
   exact List.find?_eq_none.2 (by intro x hx; rw [hno x (by simpa using hx)]; simp)
  exact fin _ _ (by rw [hf]) im_
end Go.Proofs.YthomhkpedghhgaaGreatDoor.FD
namespace Go.Proofs.YthomhkpedghhgaaGreatDoor.FD
open Go Go.Proofs Go.RowKit Sh Sl T
theorem e_getrow {W : World} {L L' : List HP} {S : WP} {T : Nat} {Z : Cs} {rw_ : List UInt8 -> Q2} {key : List UInt8} (hZ : CsOk T Z) (p : Pick L (BL Z.ks (RowA Z rw_)) L')
  (h : ∀ a cc, (rowsF Z rw_ key).getD (.slice none 0 0) = .slice a (Z.of_ key).length cc -> Ent W (Sl 1 65 a cc (Z.of_ key).length ((Z.of_ key).map pE) :: BO Z.ks (RowA Z rw_) key :: L') S) : Ent W L S := by
 by_cases hne : Z.of_ key = []
 ·have hv : (rowsF Z rw_ key).getD (.slice none 0 0) = .slice none (Z.of_ key).length 0 := by unfold rowsF; rw [if_pos hne, hne]; rfl
  have h := h none 0 hv
  rw [hne] at h
  by_cases hk : key ∈ Z.ks
  ·refine e_bl p key hk hZ.ksn ?_
   refine e_imp (imp_nil (.drop .refl)) h
  ·have e : BO Z.ks (RowA Z rw_) key = BL Z.ks (RowA Z rw_) := by
    unfold BO BL
    rw [List.filter_eq_self.2 fun x hx => by simp only [ne_eq, decide_not, Bool.not_eq_eq_eq_not, Bool.not_true, decide_eq_false_iff_not]; rintro rfl; exact hk hx]
   rw [e] at h
   exact e_pick p (e_imp (imp_nil .refl) h)
 ·refine e_bl p key (hZ.fk _ hne) hZ.ksn ?_
  exact h _ _ (by unfold rowsF; rw [if_neg hne]; rfl)
theorem imp_putrow {W : World} {L M : List HP} {Z Z' : Cs} {rw_ : List UInt8 -> Q2} {key : List UInt8} {a : Option Addr} {cc : Nat} (hn : Z.ks.Nodup) (hks : Z'.ks = if key ∈ Z.ks then Z.ks else key :: Z.ks) (hof : ∀ k, k ≠ key -> Z'.of_ k = Z.of_ k)
  (h : Imp W L (Sl 1 65 a cc (Z'.of_ key).length ((Z'.of_ key).map pE) :: BO Z.ks (RowA Z rw_) key :: M)) : Imp W L (BL Z'.ks (RowA Z' fun k => if k = key then (a, cc) else rw_ k) :: M) := by
 have hF : ∀ k, k ≠ key -> RowA Z rw_ k = RowA Z' (fun k => if k = key then (a, cc) else rw_ k) k := fun k hk => by
  unfold RowA
  rw [hof k hk]
  simp only [if_neg hk]
 have hK : RowA Z' (fun k => if k = key then (a, cc) else rw_ k) key = Sl 1 65 a cc (Z'.of_ key).length ((Z'.of_ key).map pE) := by
  unfold RowA
  simp only [if_true]
 rw [hks]
 split
 ·rename_i hk
  refine imp_bl key hk hn (F := RowA Z rw_) (fun j _ hj => hF j hj) ?_
  rw [hK]
  exact h
 ·rename_i hk
  refine imp_blC (F := RowA Z rw_) (fun j hj => hF j (by rintro rfl; exact hk hj)) ?_
  have e : BO Z.ks (RowA Z rw_) key = BL Z.ks (RowA Z rw_) := by
   unfold BO BL
   rw [List.filter_eq_self.2 fun x hx => by simp only [ne_eq, decide_not, Bool.not_eq_eq_eq_not, Bool.not_true, decide_eq_false_iff_not]; rintro rfl; exact hk hx]
  rw [hK, <- e]
  exact h
theorem imp_backrow {W : World} {L M : List HP} {Z : Cs} {rw_ : List UInt8 -> Q2} {key : List UInt8} {a : Option Addr} {cc : Nat} (hn : Z.ks.Nodup)
  (h : Imp W L (Sl 1 65 a cc (Z.of_ key).length ((Z.of_ key).map pE) :: BO Z.ks (RowA Z rw_) key :: M)) : Imp W L (BL Z.ks (RowA Z fun k => if k = key then (a, cc) else rw_ k) :: M) := by
 have hF : ∀ k, k ≠ key -> RowA Z rw_ k = RowA Z (fun k => if k = key then (a, cc) else rw_ k) k := fun k hk => by
  unfold RowA
  simp only [if_neg hk]
 have hK : RowA Z (fun k => if k = key then (a, cc) else rw_ k) key = Sl 1 65 a cc (Z.of_ key).length ((Z.of_ key).map pE) := by
  unfold RowA
  simp only [if_true]
 by_cases hk : key ∈ Z.ks
 ·refine imp_bl key hk hn (F := RowA Z rw_) (fun j _ hj => hF j hj) ?_
  rw [hK]
  exact h
 ·have e : BO Z.ks (RowA Z rw_) key = BL Z.ks (RowA Z rw_) := by
   unfold BO BL
   rw [List.filter_eq_self.2 fun x hx => by simp only [ne_eq, decide_not, Bool.not_eq_eq_eq_not, Bool.not_true, decide_eq_false_iff_not]; rintro rfl; exact hk hx]
  rw [BL.congr (F' := RowA Z rw_) fun j hj => (hF j (by rintro rfl; exact hk hj)).symm, <- e]
  refine .conv (B := all [Sl 1 65 a cc (Z.of_ key).length ((Z.of_ key).map pE), BO Z.ks (RowA Z rw_) key]) (fun f H => ?_) (.all h)
  obtain ⟨f', H', s⟩ := all_drop H
  obtain ⟨k1, _, kb, _, _, t1, _⟩ := H'
  exact all_up (L := (Z.ks.filter fun j => decide (j ≠ key)).map (RowA Z rw_)) kb fun i o e => s i o (t1 i o e)
theorem rows_same {Z : Cs} {rw_ : List UInt8 -> Q2} {key : List UInt8} {a : Option Addr} {cc : Nat} (h : (rowsF Z rw_ key).getD (.slice none 0 0) = .slice a (Z.of_ key).length cc) : rowsF Z (fun k => if k = key then (a, cc) else rw_ k) = rowsF Z rw_ := by
 funext k
 by_cases c : k = key
 ·subst c
  unfold rowsF at *
  split at h
  ·rename_i e; rw [if_pos e, if_pos e]
  ·rename_i e
   rw [if_neg e, if_neg e]
   simp only [if_true]
   exact congrArg some h.symm
 ·unfold rowsF
  simp only [if_neg c]
theorem e_clone {W : World} {L L' : List HP} {Kp : PK} {k : Value -> WP} {T c : Nat} {Z : Cs} {key : List UInt8} (hZ : CsOk T Z) (p : Pick L (IsC c Z) L')
  (h : ∀ a cc, Ent W (Sl 1 65 a cc (Z.of_ key).length ((Z.of_ key).map pE) :: IsC c Z :: L') (k (.slice a (Z.of_ key).length cc))) :
  Ent W L (opN p_ (sNil (pE c)) Kp fun x72 => opN p_ (sFA 62 x72 1) Kp fun x73 => opN p_ (sLoad 60 x73) Kp fun x74 => opN p_ (sLook 60 x74 (txt key) false) Kp fun x76 => opN p_ (sCall (fn 37) [x76]) Kp k) := by
 refine e_ex p fun q => e_all .here ?_
 obtain ⟨⟨oa, oc⟩, mg, rw_⟩ := q
 refine nr_ ?_
 refine o_ v_nil (o_ v_fa0 (ln_ ?_))
 refine p_op (v_lookF (keyS Tryz.underlying9)) ?_
 refine e_getrow (key := key) hZ (by (repeat constructor) : Pick _ (BL Z.ks (RowA Z rw_)) _) fun a cc hv => ?_
 rw [hv]
 have hfl := hZ.ofl key
 refine e_call (cloneE (l := Z.of_ key) (by omega)) (by (repeat (first | exact Picks.nil | (apply Picks.cons; (focus repeat constructor))))) fun r => ?_
 obtain ⟨ra, rc⟩ := r
 refine nr_ ?_
 (try dsimp only)
 refine e_imp ?_ (h ra rc)
 refine .pick (by repeat constructor) (.ex ((oa, oc), mg, fun k => if k = key then (a, cc) else rw_ k) (.all ?_))
 refine nr_ ?_
 rw [rows_same hv]
 refine .pick (by repeat constructor) (.pick (by repeat constructor) (.pick (by repeat constructor) (imp_backrow hZ.ksn ?_)))
 exact im_
theorem ld_bound {W : World} {c : Nat} {Z : Cs} : RunV p_ W [IsC c Z] (sLoad 3 (.pointer (some ⟨c, 2, none⟩))) (.int .i64 Z.bound) := run_ex fun q => run_all (v_ldN (by repeat constructor))
theorem ld_bytes {W : World} {c : Nat} {Z : Cs} : RunV p_ W [IsC c Z] (sLoad 3 (.pointer (some ⟨c, 3, none⟩))) (.int .i64 Z.bytes) := run_ex fun q => run_all (v_ldN (by repeat constructor))
theorem ld_ecost {W : World} {g : Nat} {e : En} : RunV p_ W [IsE g e] (sLoad 3 (.pointer (some ⟨g, 9, none⟩))) (.int .i64 e.cost) := run_ex fun q => run_all (v_ldN (by repeat constructor))
theorem e_neC {W : World} {L L' L'' : List HP} {S : WP} {g c : Nat} {o : Obj} {Z : Cs} (p : Pick L (pt g o) L') (q : Pick L' (IsC c Z) L'') (h : g ∉ Z.al -> Ent W L S) : Ent W L S := fun w hw => by
 refine h (fun hg => ?_) w hw
 obtain ⟨f, ⟨h1, h2, ha, hb, d, s1, s2⟩, _⟩ := (hw.pick p).heap
 obtain ⟨k1, k2, ⟨x, ka⟩, _, _, t1, _⟩ := q.all hb
 obtain ⟨_, m1, _, ⟨_, m2, _, ⟨_, m3, _, ⟨_, m4, _, ⟨m5, _, hbe, _, _, u5, _⟩, _, _, u4⟩, _, _, u3⟩, _, _, u2⟩, _, _, u1⟩ := ka
 obtain ⟨o', ho'⟩ := bl_has (W := W) (F := fun g => IsE g (Z.E g)) (g := fun j => j) (fun j h H => by
  obtain ⟨q, n1, n2, na, _, _, v1, _⟩ := H
  exact ⟨_, v1 _ _ na⟩) Z.al hg hbe
 have e1 : h1 g = some o := ha
 have e2 := t1 g o' (u1 _ _ (u2 _ _ (u3 _ _ (u4 _ _ (u5 _ _ ho')))))
 rcases d g with c | c
 ·rw [e1] at c; cases c
 ·rw [e2] at c; cases c
theorem rm_lt {L : List Nat} {g : Nat} (h : g ∈ L) : (rmL L g).length < L.length := by
 unfold rmL
 induction L with
 | nil => cases h
 | cons x r ih =>
  by_cases c : x = g
  ·rw [List.filter_cons_of_neg (by simp [c])]
   have := List.length_filter_le (fun y => !decide (y = g)) r
   simp only [List.length_cons]
   omega
  ·have hr : g ∈ r := by
    rcases List.mem_cons.1 h with e | e
    ·exact absurd e.symm c
    ·exact e
   rw [List.filter_cons_of_pos (by simpa using c)]
   have := ih hr
   simp only [List.length_cons]
   omega
def newE (key m : List UInt8) (R X : List Fd) (D : List UInt8) (st asked came : Int) : En := ⟨key, m, R, pickF R (variesF X), st, X, D, cl40 asked, cl40 came, ((key.length + D.length + 64 + cosF X + cosF (pickF R (variesF X)) : Nat) : Int)⟩
def stoB (bound : Int) (key m : List UInt8) (R X : List Fd) (D : List UInt8) (st : Int) : Bool := storF m st R X && decide ((newE key m R X D st 0 0).cost <= bound)
def StR (T : Nat) (Z : Cs) (key m : List UInt8) (R X : List Fd) (D : List UInt8) (st asked came : Int) (Z' : Cs) : Prop :=
 CsOk T Z' /\ if stoB Z.bound key m R X D st then ∃ g Y, Sub Y Z /\ g ∉ Y.al /\ Z' = addS Y g (newE key m R X D st asked came) else Z' = Z
theorem z_pick (R : List Fd) (V : List (List UInt8)) : zF (pickF R V) <= zF R := z_filter _ _
theorem newE_ok {key m : List UInt8} {R X : List Fd} {D : List UInt8} {st asked came : Int} {T : Nat} (hR : zF R <= T) (hX : zF X <= T) (hD : D.length <= T) : EnOk T (newE key m R X D st asked came) :=
 ⟨hR, Nat.le_trans (z_pick _ _) hR, hX, hD, by show (64 : Int) <= ((key.length + D.length + 64 + cosF X + cosF (pickF R (variesF X)) : Nat) : Int); omega⟩
set_option maxRecDepth 20000 in
theorem store {W : World} [hG : Gl W] {c T : Nat} {Z : Cs} {key m tg : List UInt8} {mi st asked came : Int} {R X : List Fd} {D : List UInt8} {ar ax ad : Option Addr} {cr cx cd : Nat} {A B G : HP} (hZ : CsOk T Z)
  (hA : RdF W A ar R) (har : ar = none -> R = []) (hB : RdF W B ax X) (hax : ax = none -> X = []) (hG : RdB W G ad D.length (D.map Sl.B)) (had : ad = none -> D = []) (hR : zF R <= T) (hX : zF X <= T) (hD : D.length <= T) (hk : key.length <= 1048576) :
  Cn p_ 10 [pE c, txt key, .agg #[txt m, txt tg, .int .i64 mi, .slice ar R.length cr], .agg #[.int .i64 st, .slice ax X.length cx, .slice ad D.length cd], .int .i64 asked, .int .i64 came] W [IsC c Z, A, B, G]
   (fun _ : { Z' : Cs // StR T Z key m R X D st asked came Z' } => .bool (stoB Z.bound key m R X D st)) (fun r => [IsC c r.1, A, B, G]) := by
 have hT := hZ.t
 (refine S.cache_Cache_Store_s.cn fun F => ?_; unfold S.cache_Cache_Store; simp only [ca_, na_])
 refine e_boxA fun b8 => ?_
 refine e_boxA fun b9 => ?_
 refine e_call none_ (by (repeat (first | exact Picks.nil | (apply Picks.cons; (focus repeat constructor))))) fun _ => ?_
 refine nr_ ?_
 refine e_gdT (lg_ ?_); refine e_gdT (lg_ ?_); refine e_gdT (e_call (storable (st := st) hA (by omega) hB (by omega)) (.cons (by repeat constructor) (.cons (by repeat constructor) .nil)) fun _ => ?_)
 refine nr_ ?_
 refine e_gdT (o_ v_not (o_ v_pickF ?_))
 cases hst : storF m st R X with
 | false =>
  have hb : stoB Z.bound key m R X D st = false := by unfold stoB; rw [hst]; rfl
  rw [Bool.not_false]
  refine e_condT (e_ret (⟨Z, hZ, by rw [hb]; rfl⟩ : { Z' : Cs // StR T Z key m R X D st asked came Z' }) (by rw [hb]) ?_)
  exact im_
 | true =>
 rw [Bool.not_true]
 refine e_condF (e_drS (e_stD v_fa0 .nil ?_)); (((refine' e_stD (v_ldN ?hc) ?hi ?_); (case hi => exact .pick (by repeat constructor) .nil); (case hc => repeat constructor))); refine t_ v_fa0 (ls_ ?_); refine e_stD v_fa0 .nil ?_; (((refine' e_stD (v_ldN ?hc) ?hi ?_); (case hi => exact .pick (by repeat constructor) .nil); (case hc => repeat constructor))); (((refine' e_stD (v_ldAgg ?hn) ?hi ?_); (case hi => exact .pick (by repeat constructor) .nil); (case hn => rfl))); (((refine' e_stD (v_ldAgg ?hn) ?hi ?_); (case hi => exact .pick (by repeat constructor) .nil); (case hn => rfl)))
 refine e_call (cloneF hA har (by have := z_len R; omega)) (.cons (by repeat constructor) .nil) fun q => ?_
 obtain ⟨ra, rc⟩ := q
 refine nr_ ?_
 (try dsimp only)
 refine ob_ ?_; refine ob_ ?_; refine ob_ ?_; refine ob_ ?_; refine ob_ ?_; refine ob_ ?_
 refine e_call (varied (st := st) hA (by omega) hB (by omega)) (.cons (by repeat constructor) (.cons (by repeat constructor) .nil)) fun q => ?_
 obtain ⟨va, vc⟩ := q
 refine nr_ ?_
 (try dsimp only)
 refine ob_ ?_; refine ob_ ?_; refine ob_ ?_
 refine e_call (own (st := st) hB hax (by have := z_len X; omega) hG had (by omega)) (.cons (by repeat constructor) (.cons (by repeat constructor) .nil)) fun q => ?_
 obtain ⟨⟨xa, xc⟩, da, dc⟩ := q
 refine nr_ ?_
 (try dsimp only)
 refine ob_ ?_; refine ob_ ?_
 refine c_ (lclock (n := asked)) fun _ => ?_
 rw [show max 0 (min asked 1099511627776) = cl40 asked from rfl]
 refine ob_ ?_; refine ob_ ?_
 refine c_ (lclock (n := came)) fun _ => ?_
 rw [show max 0 (min came 1099511627776) = cl40 came from rfl]
 refine ob_ ?_; refine ob_ ?_; refine t_ v_rv ?_; refine e_boxA fun g => ?_; refine e_drS (e_stD v_lent .nil ?_)
 have hcx := cos_z X
 have hcv := cos_z (pickF R (variesF X))
 have hpk := z_pick R (variesF X)
 refine e_stD v_fa0 .nil ?_; (((refine' e_stD (v_ldN ?hc) ?hi ?_); (case hi => exact .pick (by repeat constructor) .nil); (case hc => repeat constructor))); refine e_stD v_len .nil ?_; (refine e_stD (v_add (by omega) (by omega)) .nil ?_); (refine e_stD (v_add (by omega) (by omega)) .nil ?_); refine t_ v_fa0 (ls_ ?_); refine e_stD v_nil .nil ?_; refine e_stD v_fa0 .nil ?_; (((refine' e_stD (v_ldN ?hc) ?hi ?_); (case hi => exact .pick (by repeat constructor) .nil); (case hc => repeat constructor)))
 refine e_call (size_ hB (by omega)) (.cons (by repeat constructor) .nil) fun _ => ?_
 refine nr_ ?_
 refine ob_ ?_; refine ob_ ?_; refine ob_ ?_; refine ob_ ?_; refine ob_ ?_; refine ob_ ?_; refine ob_ ?_; refine ob_ ?_; refine ob_ ?_; (refine e_stD (v_add (by omega) (by omega)) .nil ?_)
 refine e_slfacts (by (repeat constructor) : Pick _ (Sl 2 68 va vc (pickF R (variesF X)).length ((pickF R (variesF X)).flatMap pFd)) _) fun _ _ _ hv => ?_
 refine e_call (size_ (rdF_any hv) (by omega)) (.cons (by repeat constructor) .nil) fun _ => ?_
 refine nr_ ?_
 refine ob_ ?_; refine ob_ ?_; refine ob_ ?_; refine ob_ ?_; refine ob_ ?_; refine ob_ ?_; refine ob_ ?_; (refine t_ (v_add (by omega) (by omega)) ?_); refine t_ v_nil (t_ v_fa0 (sn_ ?_)); refine e_drS (t_ v_nil (t_ v_fa0 (ls_ ?_))); refine t_ v_nil (t_ v_fa0 ?_)
 have hco : ((key.length : Int) + D.length + 64 + cosF X + cosF (pickF R (variesF X))) = (newE key m R X D st asked came).cost := by simp [newE]
 rw [hco]
 have hcs : (newE key m R X D st asked came).cost <= 9000000 := by rw [<- hco]; omega
 have hen : EnOk T (newE key m R X D st asked came) := newE_ok hR hX hD
 have hc64 := hen.c1
 obtain ⟨en, hen0⟩ : ∃ en, en = newE key m R X D st asked came := ⟨_, rfl⟩
 have hsb : stoB Z.bound key m R X D st = decide (en.cost <= Z.bound) := by unfold stoB; rw [hst, hen0]; rfl
 rw [hsb]
 refine e_neC (by (repeat constructor) : Pick _ (pt g _) _) (by (repeat constructor) : Pick _ (IsC c Z) _) fun hgal => ?_
 refine e_imp (M := IsE g en :: IsC c Z :: pt b8 (.cells #[txt m, txt tg, .int .i64 mi, .slice ar R.length cr] 31) :: A :: B :: G :: F) (.ex (((ra, rc), va, vc), (xa, xc), da, dc) (.all ?_)) ?_
 ·rw [hen0]
  refine nr_ ?_
  exact im_
 rw [<- hen0] at hcs hen hc64 ⊢
 refine p_st ld_bound ?_
 refine t_ v_gtr ?_
 by_cases hgt : Z.bound < en.cost
 ·rw [dT_ hgt]
  refine e_condT (e_ret (⟨Z, hZ, by rw [hsb, dF_ (by omega)]; rfl⟩ : { Z' : Cs // StR T Z key m R X D st asked came Z' }) (by rw [dF_ (by omega)]) ?_)
  exact im_
 rw [dF_ hgt]
 have hstr : ∀ Z', StR T Z key m R X D st asked came Z' ↔ CsOk T Z' /\ ∃ g Y, Sub Y Z /\ g ∉ Y.al /\ Z' = addS Y g en := fun Z' => by
  unfold StR
  rw [hsb, dT_ (by omega), hen0]
  rfl
 rw [dT_ (by omega)]
 refine e_condF (e_clone (key := key) hZ (by (repeat constructor) : Pick _ (IsC c Z) _) fun ka kc => ?_)
 have hkl := hZ.ofl key
 refine o_ v_len (e_loop1 (fun k y => [ex fun x : Nat × Cs => all [pu (k + x.1 = (Z.of_ key).length /\ y = .int .i64 (x.1 : Int) /\ Sub x.2 Z /\ CsOk T x.2 /\ ∀ j ∈ (Z.of_ key).drop x.1, j ∈ x.2.ord), Sl 1 65 ka kc (Z.of_ key).length ((Z.of_ key).map pE), IsC c x.2, IsE g en, pt b8 (.cells #[txt m, txt tg, .int .i64 mi, .slice ar R.length cr] 31), A, B, G]] ++ F) (Z.of_ key).length ?_ ?_)
 ·refine .ex (0, Z) (.all ?_)
  refine nr_ ?_
  refine .pu ⟨rfl, rfl, Sub.refl Z, hZ, fun j hj => (hZ.fo key j hj).1⟩ ?_
  exact im_
 intro k ds y
 refine nr_ ?_
 refine e_ex Pick.here fun x => e_all Pick.here ?_
 obtain ⟨i, Y⟩ := x
 refine nr_ ?_
 refine e_pu Pick.here fun hi => ?_
 obtain ⟨hki, rfl, hsub, hY, hdr⟩ := hi
 (try dsimp only at hki hsub hY hdr)
 refine e_ask v_lss .nil (fun h => ?_) (fun h => ?_)
 ·have hin : i < (Z.of_ key).length := by omega
  refine e_condT (e_slsome (by (repeat constructor) : Pick _ (Sl 1 65 ka kc (Z.of_ key).length ((Z.of_ key).map pE)) _) (by omega) fun gk hgk => ?_)
  subst hgk
  have hsplit : (Z.of_ key).drop i = (Z.of_ key)[i] :: (Z.of_ key).drop (i + 1) := (List.drop_eq_getElem_cons hin)
  have hxo : (Z.of_ key)[i] ∈ Y.ord := hdr _ (by rw [hsplit]; exact List.mem_cons_self)
  have hxa := hY.oa _ hxo
  have hnd : ∀ j ∈ (Z.of_ key).drop (i + 1), j ≠ (Z.of_ key)[i] := fun j hj e => by
   have := (hZ.fn key).sublist (List.drop_sublist i _)
   rw [hsplit, List.nodup_cons] at this
   exact this.1 (e ▸ hj)
  refine o_ (v_ia1 i rfl hin) ?_
  refine p_op (ld_pE hin) ?_
  refine o_ v_fa0 (ln_ ?_)
  refine e_ex (by (repeat constructor) : Pick _ (IsC c Y) _) fun q => e_all .here ?_
  obtain ⟨⟨oa, oc⟩, mg, rw_⟩ := q
  refine nr_ ?_
  refine e_bl (by (repeat constructor) : Pick _ (BE Y.al Y.E) _) (Z.of_ key)[i] hxa hY.aln ?_
  refine e_call (fits (e := Y.E (Z.of_ key)[i]) (g := (Z.of_ key)[i]) (hY.en _ hxa) hT hA (by omega)) (.cons (by repeat constructor) (.cons (by repeat constructor) .nil)) fun _ => ?_
  refine nr_ ?_
  refine e_blb (l := Y.al) (F' := fun g => IsE g (Y.E g)) (Z.of_ key)[i] hxa hY.aln (fun _ _ _ => rfl) (by repeat constructor) (by repeat constructor) ?_
  refine e_imp (M := IsC c Y :: Sl 1 65 (some ⟨gk, 0, none⟩) kc (Z.of_ key).length ((Z.of_ key).map pE) :: IsE g en :: pt b8 (.cells #[txt m, txt tg, .int .i64 mi, .slice ar R.length cr] 31) :: A :: B :: G :: F) (.ex ((oa, oc), mg, rw_) (.all ?_)) ?_
  ·unfold BE
   refine nr_ ?_
   exact im_
  cases hfit : fitsF (Y.E (Z.of_ key)[i]) R with
  | true =>
   refine e_condT (e_call (drop hY hxo) (by (repeat (first | exact Picks.nil | (apply Picks.cons; (focus repeat constructor))))) fun _ => ?_)
   refine nr_ ?_
   refine ad_ ?_
   refine e_next1 (k - 1) (by omega) (.ex (i + 1, dropS Y (Z.of_ key)[i]) (.all ?_))
   refine nr_ ?_
   refine .pu ⟨by omega, by norm_cast, (sub_drop _ _).trans hsub, drop_ok hY hxo, fun j hj => ?_⟩ ?_
   ·exact List.mem_filter.2 ⟨hdr j (by rw [hsplit]; exact List.mem_cons_of_mem _ hj), by simpa using hnd j hj⟩
   exact im_
  | false =>
   refine e_condF (ad_ ?_)
   refine e_next1 (k - 1) (by omega) (.ex (i + 1, Y) (.all ?_))
   refine nr_ ?_
   refine .pu ⟨by omega, by norm_cast, hsub, hY, fun j hj => hdr j (by rw [hsplit]; exact List.mem_cons_of_mem _ hj)⟩ ?_
   exact im_
 refine e_condF (e_loop0 (fun k => [ex fun Y : Cs => all [pu (k = Y.ord.length /\ Sub Y Z /\ CsOk T Y), IsC c Y, IsE g en, A, B, G]] ++ F) Y.ord.length ?_ ?_)
 ·refine .ex Y (.all ?_)
  refine nr_ ?_
  refine .pu ⟨rfl, hsub, hY⟩ ?_
  exact im_
 clear hki hsub hY hdr h
 intro k2 ds2
 refine nr_ ?_
 refine e_ex Pick.here fun Y => e_all Pick.here ?_
 refine nr_ ?_
 refine e_pu Pick.here fun hi => ?_
 obtain ⟨rfl, hsub, hY⟩ := hi
 (try dsimp only at hsub hY)
 have hbd : Y.bound = Z.bound := hsub.bound
 have hb0 := hY.b0
 have hb1 := hY.b1
 have hle := hY.le
 have hyl := hY.len
 refine e_drS (t_ v_nil (t_ v_fa0 (p_st ld_bytes ?_)))
 refine t_ v_nil (t_ v_fa0 (p_st ld_bound ?_))
 refine t_ v_nil (t_ v_fa0 (p_st ld_ecost ?_))
 refine t_ (v_sub (by omega) (by omega)) ?_
 refine t_ v_gtr ?_
 by_cases hmore : Y.bound - en.cost < Y.bytes
 ·rw [dT_ hmore]
  refine e_condT ?_
  have hol : 0 < Y.ord.length := by
   rcases Nat.eq_zero_or_pos Y.ord.length with z | z
   ·have hn : Y.ord = [] := List.eq_nil_of_length_eq_zero z
    have := hY.by_
    rw [hn] at this
    simp only [cst] at this
    omega
   ·exact z
  have hxo : Y.ord[0] ∈ Y.ord := List.getElem_mem hol
  refine e_ex (by (repeat constructor) : Pick _ (IsC c Y) _) fun q => e_all .here ?_
  obtain ⟨⟨oa, oc⟩, mg, rw_⟩ := q
  refine nr_ ?_
  refine e_slsome (by (repeat constructor) : Pick _ (Sl 1 65 oa oc Y.ord.length (Y.ord.map pE)) _) hol fun go hgo => ?_
  subst hgo
  refine o_ v_nil (o_ v_fa0 (o_ v_fa0 (ln_ ?_)))
  refine o_ (v_ia1 0 rfl hol) ?_
  refine p_op (ld_pE hol) ?_
  refine e_imp (M := IsC c Y :: IsE g en :: A :: B :: G :: F) (.ex ((some ⟨go, 0, none⟩, oc), mg, rw_) (.all ?_)) ?_
  ·refine nr_ ?_
   exact im_
  refine e_call (drop hY hxo) (by (repeat (first | exact Picks.nil | (apply Picks.cons; (focus repeat constructor))))) fun _ => ?_
  refine nr_ ?_
  refine e_next0 (rmL Y.ord Y.ord[0]).length (rm_lt hxo) (.ex (dropS Y Y.ord[0]) (.all ?_))
  refine nr_ ?_
  refine .pu ⟨rfl, (sub_drop _ _).trans hsub, drop_ok hY hxo⟩ ?_
  exact im_
 rw [dF_ hmore]
 refine e_condF ?_
 have hgY : g ∉ Y.al := by rw [hsub.al]; exact hgal
 have hgo : g ∉ Y.ord := fun c => hgY (hY.oa g c)
 have hkey : en.key = key := by rw [hen0]; rfl
 have hfl := hY.ofl key
 have hol := hY.ordl
 refine e_ex (by (repeat constructor) : Pick _ (IsC c Y) _) fun q => e_all .here ?_
 obtain ⟨⟨oa, oc⟩, mg, rw_⟩ := q
 refine nr_ ?_
 refine e_drS (e_stD v_nil .nil ?_); refine e_stD v_fa0 .nil ?_; (((refine' e_stD (v_ldN ?hc) ?hi ?_); (case hi => exact .pick (by repeat constructor) .nil); (case hc => repeat constructor))); refine e_stD v_nil .nil ?_; refine e_stD v_fa0 .nil ?_; (((refine' e_stD (v_ldN ?hc) ?hi ?_); (case hi => exact .pick (by repeat constructor) .nil); (case hc => repeat constructor)))
 refine e_stD (v_lookF (keyS Tryz.underlying9)) (.pick (by repeat constructor) .nil) ?_
 refine e_getrow (key := key) hY (by (repeat constructor) : Pick _ (BL Y.ks (RowA Y rw_)) _) fun a cc hv => ?_
 rw [hv]
 refine e_bsl1 fun g => ?_; refine ob_ ?_; refine ob_ ?_; refine ob_ ?_; refine ob_ ?_; refine ob_ ?_; refine ob_ ?_; refine ob_ ?_
 rename Nat => gb
 refine e_app (m := 1) (news := [pE g]) (by (repeat constructor) : Pick _ (Sl 1 65 a cc (Y.of_ key).length ((Y.of_ key).map pE)) _) (src_pt (s := 1) (e' := 65) (by kernel_rfl) (by (repeat constructor) : Pick _ (pt gb _) _) (by rfl) (by intro u hu; simp at hu; rw [hu]; rfl)) (by omega) (by omega) fun a' c' => ?_
 refine ob_ ?_; refine ob_ ?_; refine ob_ ?_
 refine e_setF (keyS Tryz.underlying9) (by (repeat constructor) : Pick _ (MapFn mg txt (rowsF Y rw_)) _) ?_
 refine o_ v_nil (o_ v_fa0 ?_)
 have hY' : CsOk T (addS Y g en) := add_ok hY hgY hen (by omega)
 have hEg : (addS Y g en).E g = en := if_pos rfl
 have hrm : rmL Y.ord g = Y.ord := List.filter_eq_self.2 fun x hx => by simp only [Bool.not_eq_true', decide_eq_false_iff_not]; rintro rfl; exact hgo hx
 have hrows : updM (rowsF Y rw_) key (some (.slice a' ((Y.of_ key).length + 1) c')) = rowsF (addS Y g en) (fun k => if k = key then (a', c') else rw_ k) := by
  funext k
  by_cases e : k = key
  ·subst e
   have e2 : (addS Y g en).of_ k = Y.of_ k ++ [g] := if_pos hkey.symm
   unfold rowsF updM
   rw [if_pos rfl, e2, if_neg (by simp), List.length_append]
   simp only [if_true]
   rfl
  ·have e2 : (addS Y g en).of_ k = Y.of_ k := if_neg (by rw [hkey]; exact e)
   unfold rowsF updM
   rw [if_neg e, e2]
   simp only [if_neg e]
 have hof : (addS Y g en).of_ key = Y.of_ key ++ [g] := if_pos hkey.symm
 refine e_imp (M := BE (g :: Y.al) (addS Y g en).E :: pt c (.cells #[.slice oa Y.ord.length oc, .map (some mg), .int .i64 Y.bound, .int .i64 Y.bytes] 62) :: Sl 1 65 oa oc Y.ord.length (Y.ord.map pE) :: MapFn mg txt (rowsF (addS Y g en) (fun k => if k = key then (a', c') else rw_ k)) :: BL (addS Y g en).ks (RowA (addS Y g en) fun k => if k = key then (a', c') else rw_ k) :: A :: B :: G :: F) ?_ ?_
 ·rw [<- hrows]
  refine imp_blC (F := fun g => IsE g (Y.E g)) (fun j hj => by rw [show (addS Y g en).E j = Y.E j from if_neg (by rintro rfl; exact hgY hj)]) ?_
  rw [hEg]
  unfold BE
  refine .pick (by repeat constructor) (.pick (by repeat constructor) (.pick (by repeat constructor) (.pick (by repeat constructor) (.pick (by repeat constructor) (imp_putrow hY.ksn (by rw [<- hkey]; rfl) (fun k hk => if_neg (by rw [hkey]; exact hk)) ?_)))))
  rw [hof, List.length_append, List.map_append]
  exact im_
 refine e_call (touchR (M := Y.ord) (al := g :: Y.al) (E := (addS Y g en).E) (c := c) (g := g) (by omega) (fun x hx => List.mem_cons_of_mem _ (hY.oa x hx)) List.mem_cons_self) (.cons (by repeat constructor) (.cons (by repeat constructor) (.cons (by repeat constructor) .nil))) fun q => ?_
 obtain ⟨ta, tc⟩ := q
 refine nr_ ?_
 (try dsimp only)
 rw [hrm]
 refine e_drS (t_ v_nil (t_ v_fa0 (ls_ ?_))); refine t_ v_nil (t_ v_fa0 (p_st (ld_cost (al := g :: Y.al) (E := (addS Y g en).E) List.mem_cons_self hY'.aln) ?_))
 rw [hEg]
 (refine t_ (v_add (by omega) (by omega)) ?_); refine t_ v_nil ?_; refine t_ v_fa0 ?_; refine sn_ ?_
 refine e_ret (⟨addS Y g en, (hstr _).2 ⟨hY', g, Y, hsub, hgY, rfl⟩⟩ : { Z' : Cs // StR T Z key m R X D st asked came Z' }) rfl ?_
 refine .ex ((ta, tc), mg, fun k => if k = key then (a', c') else rw_ k) (.all ?_)
 refine nr_ ?_
 unfold BE
 exact im_
theorem tokens_ {W : World} {l : List UInt8} (hl : l.length <= 2097152) : Cn p_ 44 [txt l] W [] (fun r : Option Addr × Nat => .tuple #[.slice r.1 (lsF (tokensF l)).1.length r.2, .int .i64 (lsF (tokensF l)).2])
  (fun r => [Sl 1 9 r.1 r.2 (lsF (tokensF l)).1.length ((lsF (tokensF l)).1.map txt)]) := by
 rw [show (lsF (tokensF l)).1.map txt = (lsF (tokensF l)).1.flatMap pstring by induction (lsF (tokensF l)).1 with | nil => rfl | cons x r ih => rw [List.map_cons, List.flatMap_cons, ih]; rfl]
 (refine S.fields_Tokens_s.cn fun F => ?_; unfold S.fields_Tokens; simp only [ca_, na_])
 refine o_ v_rv ?_
 refine e_call (list_string hl fun w hw => token1 (by omega)) .nil fun r => ?_
 refine nr_ ?_
 refine o_ (v_extN (vs := [_, _]) .here) ?_
 refine o_ (v_extN (vs := [_, _]) (.there .here)) ?_
 refine rt_ r ?_
 exact .refl
def pragL (l : List Fd) : List (List UInt8) := (lsF (tokensF (allF l [80, 114, 97, 103, 109, 97]))).1
theorem pragL_len {l : List Fd} (hl : zF l <= 1048576) : (pragL l).length <= 1500001 := by
 have h1 := (allF_len [80, 114, 97, 103, 109, 97] hl).1
 have := elems_num (q := false) (e := false) (l := allF l [80, 114, 97, 103, 109, 97])
 unfold pragL tokensF listF
 split
 ·simp [lsF]; omega
 ·simp [lsF]
def sNC : List UInt8 := [110, 111, 45, 99, 97, 99, 104, 101]
def sMinF : List UInt8 := [109, 105, 110, 45, 102, 114, 101, 115, 104]
theorem wr_b (n : Int) : -9223372036854775808 <= wr n /\ wr n <= 9223372036854775807 := by
 unfold wr
 rw [IntKind.wrap_i64]
 omega
theorem e_say1 {W : World} {L L' : List HP} {Kp : PK} {k : Value -> WP} {D : List Dir} {da : Option Addr} {dc : Nat} {n : List UInt8} (hD : D.length <= 4194304) (p : Pick L (Sl 3 128 da dc D.length (D.flatMap pDir)) L')
  (h : Ent W (Sl 3 128 da dc D.length (D.flatMap pDir) :: L') (k (.bool (saysF D [n])))) :
  Ent W L (opN p_ (sCall (fn 46) [.slice da D.length dc]) Kp fun x87 => opN p_ (sBuildSl 46 1 [(0, txt n)]) Kp fun x88 => opN p_ (sCall x87 [x88]) Kp k) := by
 refine e_pick p ?_
 refine e_call lsays .nil fun gd => ?_
 refine nr_ ?_
 refine e_bslN (n := 1) (vs := [n].map txt) rfl rfl (by intro v hv; obtain ⟨c, _, rfl⟩ := List.mem_map.1 hv; rfl) (by omega) fun g1 => ?_
 refine e_imp (M := all [pt gd (.cells #[.slice da D.length dc] 79), Sl 3 128 da dc D.length (D.flatMap pDir)] :: pt g1 (.cells ([n].map txt).toArray 9) :: L') (.all ?_) ?_
 ·refine nr_ ?_
  exact im_
 refine e_callC (cap := [.pointer (some ⟨gd, 0, none⟩)]) (lsay (N := [n]) (da := da) (gd := gd) (dc := dc) (rd_pt rfl) (by simp) hD) (by (repeat (first | exact Picks.nil | (apply Picks.cons; (focus repeat constructor))))) fun _ => ?_
 refine nr_ ?_
 refine e_all .here ?_
 refine nr_ ?_
 refine e_imp (M := Sl 3 128 da dc D.length (D.flatMap pDir) :: L') im_ h
def staleF (e : En) (R : List Fd) (now : Int) : Bool :=
 if saysF (dirL e.xf) [sNC] then true else if saysF (dirL R) [sNC] then true else if (pragL R).contains sNC && !hasF R [sCC] then true
 else if lifeF e.xf e.came <= wr (ageF e.xf e.asked e.came now + (secF (dirL R) sMinF).1) then true else (secF (dirL R) sMax_).2 && decide ((secF (dirL R) sMax_).1 < ageF e.xf e.asked e.came now)
structure LkO where
 st : Int
 xf : List Fd
 xb : List UInt8
 age : Int
 state : Int
 S : Cs
def outF (e : En) (age : Int) : List Fd := withF e.xf [sAge] ++ [(sAge, dig age)]
def lookF (Z : Cs) (key : List UInt8) (R : List Fd) (now : Int) : LkO := match findF Z key R with
 | none => ⟨0, [], [], 0, 0, Z⟩
 | some g => ⟨(Z.E g).st, outF (Z.E g) (ageF (Z.E g).xf (Z.E g).asked (Z.E g).came now), (Z.E g).xb, ageF (Z.E g).xf (Z.E g).asked (Z.E g).came now, if staleF (Z.E g) R now then 2 else 1, touchS Z g⟩
theorem ld_x {W : World} {g : Nat} {k m rf vf st xf xb a c co : Value} : RunV p_ W [pt g (.cells #[k, m, rf, vf, st, xf, xb, a, c, co] 72)] (sLoad 34 (.pointer (some ⟨g, 4, none⟩))) (.agg #[st, xf, xb]) :=
 v_ldRdG (o := 0) (j := 4) (cs := [k, m, rf, vf, st, xf, xb, a, c, co]) (vs := [st, xf, xb]) (m := 10) (n := 3) (rd_pt rfl) rfl (fun i hi => by
  have : i = 0 \/ i = 1 \/ i = 2 := by omega
  rcases this with rfl | rfl | rfl <;> rfl)
def lkV (O : LkO) (q : Q2 × Q2) : Value := .tuple #[.agg #[.int .i64 O.st, .slice q.1.1 O.xf.length q.1.2, .slice q.2.1 O.xb.length q.2.2], .int .i64 O.age, .int .i64 O.state]
set_option maxRecDepth 20000 in
theorem look {W : World} [hG : Gl W] [hP : Gp W] {c T : Nat} {Z : Cs} {key m tg : List UInt8} {mi now : Int} {R : List Fd} {ar : Option Addr} {cr : Nat} {A : HP} (hZ : CsOk T Z) (hA : RdF W A ar R) (hR : zF R <= 1048576) :
  Cn p_ 13 [pE c, txt key, .agg #[txt m, txt tg, .int .i64 mi, .slice ar R.length cr], .int .i64 now] W [IsC c Z, A] (lkV (lookF Z key R now))
   (fun q => [IsC c (lookF Z key R now).S, A, Sl 2 68 q.1.1 q.1.2 (lookF Z key R now).xf.length ((lookF Z key R now).xf.flatMap pFd), Sl 1 5 q.2.1 q.2.2 (lookF Z key R now).xb.length ((lookF Z key R now).xb.map Sl.B)]) := by
 have hT := hZ.t
 (refine S.cache_Cache_Look_s.cn fun F => ?_; unfold S.cache_Cache_Look; simp only [ca_, na_])
 refine e_boxA fun b6 => ?_
 refine e_newA fun b8 => ?_
 refine e_call none_ (by (repeat (first | exact Picks.nil | (apply Picks.cons; (focus repeat constructor))))) fun _ => ?_
 refine nr_ ?_
 refine e_condF (o_ v_fa0 (ln_ ?_))
 refine e_call (find (key := key) hZ hA hR) (by (repeat (first | exact Picks.nil | (apply Picks.cons; (focus repeat constructor))))) fun _ => ?_
 refine nr_ ?_
 cases hf : findF Z key R with
 | none =>
  have hl : lookF Z key R now = ⟨0, [], [], 0, 0, Z⟩ := by unfold lookF; rw [hf]
  rw [hl]
  (try dsimp only)
  refine o_ v_eqNil0 ?_; refine e_condT (o_ v_rv ?_); refine sg_ ?_; (((refine' e_stS (v_resA ?hn) ?hi ?_); (case hi => exact im_); (case hn => rfl)))
  refine e_ret ((none, 0), (none, 0)) rfl ?_
  refine .pick (by repeat constructor) (.pick (by repeat constructor) (imp_nil (imp_nil ?_)))
  exact im_
 | some g =>
  obtain ⟨hgo, hfit⟩ := find_mem hf
  have hgo := (hZ.fo key g hgo).1
  have hga := hZ.oa g hgo
  have hen := hZ.en g hga
  have hxf : zF (Z.E g).xf <= 1048576 := by have := hen.xf; omega
  have hZ' := touch_ok hZ hgo
  have hol := hZ.ordl
  have hl : lookF Z key R now = ⟨(Z.E g).st, outF (Z.E g) (ageF (Z.E g).xf (Z.E g).asked (Z.E g).came now), (Z.E g).xb, ageF (Z.E g).xf (Z.E g).asked (Z.E g).came now, if staleF (Z.E g) R now then 2 else 1, touchS Z g⟩ := by unfold lookF; rw [hf]
  rw [hl]
  (try dsimp only)
  refine o_ v_eqNil1 ?_; refine e_condF (o_ v_nil (o_ v_fa0 (e_ex (by (repeat constructor) : Pick _ (IsC c Z) _) fun q => e_all .here ?_)))
  obtain ⟨⟨oa, oc⟩, mg, rw_⟩ := q
  refine nr_ ?_
  refine e_call (touchR (M := Z.ord) (al := Z.al) (E := Z.E) (c := c) (g := g) (by omega) hZ.oa hga) (.cons (by repeat constructor) (.cons (by repeat constructor) (.cons (by repeat constructor) .nil))) fun q => ?_
  obtain ⟨ta, tc⟩ := q
  refine nr_ ?_
  (try dsimp only)
  refine e_bl (by (repeat constructor) : Pick _ (BE Z.al Z.E) _) g hga hZ.aln ?_
  have hE : ∃ e, e = Z.E g := ⟨_, rfl⟩
  obtain ⟨e, he⟩ := hE
  rw [<- he] at hen hxf hl ⊢
  refine e_ex .here fun q => e_all .here ?_
  obtain ⟨⟨⟨ra, rc⟩, va, vc⟩, ⟨xa, xc⟩, ba, bc⟩ := q
  refine nr_ ?_
  refine e_slfacts (by (repeat constructor) : Pick _ (Sl 2 68 xa xc e.xf.length (e.xf.flatMap pFd)) _) fun _ _ _ hx => ?_
  refine e_slfacts (by (repeat constructor) : Pick _ (Sl 1 5 ba bc e.xb.length (e.xb.map Sl.B)) _) fun _ _ _ hb => ?_
  refine e_drS (t_ v_nil (t_ v_fa0 (p_st ld_x ?_)))
  refine t_ v_nil (t_ v_fa0 (ls_ ?_)); refine t_ v_nil (t_ v_fa0 (ls_ ?_))
  refine e_call (age (st := e.st) (asked := e.asked) (came := e.came) (now := now) (rdF_any hx) hxf) (.cons (by repeat constructor) .nil) fun _ => ?_
  refine nr_ ?_
  refine e_drS (t_ v_nil (t_ v_fa0 (p_st ld_x ?_)))
  refine t_ v_nil (t_ v_fa0 (ls_ ?_))
  refine e_call (lifetime (st := e.st) (now := e.came) (rdF_any hx) hxf) (.cons (by repeat constructor) .nil) fun _ => ?_
  refine nr_ ?_
  refine o_ v_fa0 (ln_ ?_)
  obtain ⟨CX, hCX⟩ : ∃ CX, CX = all [Sl 2 68 ra rc e.rf.length (e.rf.flatMap pFd), Sl 2 68 va vc e.vf.length (e.vf.flatMap pFd), BO Z.al (fun g => IsE g (Z.E g)) g, pt c (.cells #[.slice ta (rmL Z.ord g ++ [g]).length tc, .map (some mg), .int .i64 Z.bound, .int .i64 Z.bytes] 62), Sl 1 65 ta tc (rmL Z.ord g ++ [g]).length ((rmL Z.ord g ++ [g]).map pE), MapFn mg txt (rowsF Z rw_), BL Z.ks (RowA Z rw_)] := ⟨_, rfl⟩
  obtain ⟨PG, hPG⟩ : ∃ PG, PG = pt g (.cells #[txt e.key, txt e.met, .slice ra e.rf.length rc, .slice va e.vf.length vc, .int .i64 e.st, .slice xa e.xf.length xc, .slice ba e.xb.length bc, .int .i64 e.asked, .int .i64 e.came, .int .i64 e.cost] 72) := ⟨_, rfl⟩
  refine e_imp (M := CX :: PG :: Sl 2 68 xa xc e.xf.length (e.xf.flatMap pFd) :: Sl 1 5 ba bc e.xb.length (e.xb.map Sl.B) :: A :: pt b8 (.cells #[.int .i64 0, .slice none 0 0, .slice none 0 0] 34) :: F) (by rw [hCX, hPG]; exact .all (.pick (by repeat constructor) (.pick (by repeat constructor) (.pick (by repeat constructor) (.pick (by repeat constructor) (.pick (by repeat constructor) (.pick (by repeat constructor) (.pick (by repeat constructor) im_)))))))) ?_
  obtain ⟨hd1, hd2⟩ := dirL_ok hR
  obtain ⟨he1, he2⟩ := dirL_ok hxf
  have hal := (allF_len [80, 114, 97, 103, 109, 97] hR).1
  have htl := pragL_len hR
  refine e_call (ldirs hA hR) (.cons (by repeat constructor) .nil) fun r => ?_
  obtain ⟨da, dc⟩ := r
  refine nr_ ?_
  (try dsimp only)
  refine e_call (seconds (xs := dirL R) (s := sMax_) (by omega) hd2) (.cons (by repeat constructor) .nil) fun _ => ?_
  refine nr_ ?_
  refine o_ (v_extN (vs := [_, _]) .here) ?_
  refine o_ (v_extN (vs := [_, _]) (.there .here)) ?_
  refine e_call (seconds (xs := dirL R) (s := sMinF) (by omega) hd2) (.cons (by repeat constructor) .nil) fun _ => ?_
  refine nr_ ?_
  refine o_ (v_extN (vs := [_, _]) .here) ?_
  refine o_ (v_extN (vs := [_, _]) (.there .here)) ?_
  refine e_call (lall (n := [80, 114, 97, 103, 109, 97]) hA hR (by decide)) (.cons (by repeat constructor) .nil) fun _ => ?_
  refine nr_ ?_
  refine e_call (tokens_ (l := allF R [80, 114, 97, 103, 109, 97]) (by omega)) .nil fun r => ?_
  obtain ⟨ka, kc⟩ := r
  refine nr_ ?_
  (try dsimp only)
  refine o_ (v_extN (vs := [_, _]) .here) ?_
  refine o_ (v_extN (vs := [_, _]) (.there .here)) ?_
  rw [show (lsF (tokensF (allF R [80, 114, 97, 103, 109, 97]))).1 = pragL R from rfl]
  obtain ⟨AG, hAG⟩ : ∃ AG, AG = ageF e.xf e.asked e.came now := ⟨_, rfl⟩
  obtain ⟨LI, hLI⟩ : ∃ LI, LI = lifeF e.xf e.came := ⟨_, rfl⟩
  have hstale : staleF e R now = if saysF (dirL e.xf) [sNC] then true else if saysF (dirL R) [sNC] then true else if (pragL R).contains sNC && !hasF R [sCC] then true
   else if LI <= wr (AG + (secF (dirL R) sMinF).1) then true else (secF (dirL R) sMax_).2 && decide ((secF (dirL R) sMax_).1 < AG) := by rw [hLI, hAG]; rfl
  rw [<- hAG, <- hLI]
  refine e_cut1 (fun z => pu (z = .int .i64 (if staleF e R now then 2 else 1)) :: CX :: PG :: Sl 2 68 xa xc e.xf.length (e.xf.flatMap pFd) :: Sl 1 5 ba bc e.xb.length (e.xb.map Sl.B) :: A :: pt b8 (.cells #[.int .i64 0, .slice none 0 0, .slice none 0 0] 34) :: F) ?_ ?_
  rotate_left
  ·rw [hstale]
   rw [hPG]
   refine o_ v_nil (o_ v_fa0 (o_ v_fa (ln_ ?_)))
   refine e_call (ldirs (rdF_any hx) hxf) (.cons (by repeat constructor) .nil) fun r => ?_
   obtain ⟨ea, ec⟩ := r
   refine nr_ ?_
   (try dsimp only)
   refine e_say1 (n := sNC) (by omega) (by (repeat constructor) : Pick _ (Sl 3 128 ea ec (dirL e.xf).length ((dirL e.xf).flatMap pDir)) _) ?_
   cases h1 : saysF (dirL e.xf) [sNC] with
   | true =>
    simp only [if_true]
    refine e_condT (e_condT (e_sat (.pu trivial ?_)))
    exact im_
   | false =>
   simp only [Bool.false_eq_true, if_false]
   refine e_condF (e_say1 (n := sNC) (by omega) (by (repeat constructor) : Pick _ (Sl 3 128 da dc (dirL R).length ((dirL R).flatMap pDir)) _) ?_)
   cases h2 : saysF (dirL R) [sNC] with
   | true =>
    simp only [if_true]
    refine e_condT (e_condT (e_sat (.pu trivial ?_)))
    exact im_
   | false =>
   simp only [Bool.false_eq_true, if_false]
   refine e_condF (e_slfacts (by (repeat constructor) : Pick _ (Sl 1 9 ka kc (pragL R).length ((pragL R).map txt)) _) fun _ _ _ hs => ?_)
   refine e_call (contains_ (N := pragL R) (x := sNC) (rd_sl (e := 9) (a := ka) (cap := kc) (by rw [List.length_map]) hs) (by omega)) (.cons (by repeat constructor) .nil) fun _ => ?_
   refine nr_ ?_
   have tm : ∀ {N : List (List UInt8)}, ∀ v ∈ N.map txt, v.cells = #[v] := fun v hv => by obtain ⟨c, _, rfl⟩ := List.mem_map.1 hv; rfl
   refine' both_ ?_ ?_
   rotate_left
   ·intro main
    cases h4 : (pragL R).contains sNC with
    | false =>
     refine e_gdF2 (e_gdF2 (e_gdF2 (e_gdF2 (o_ v_pickF ?_))))
     simp only [Bool.false_and, Bool.false_eq_true, if_false]
     refine e_imp (M := CX :: pt g (.cells #[txt e.key, txt e.met, .slice ra e.rf.length rc, .slice va e.vf.length vc, .int .i64 e.st, .slice xa e.xf.length xc, .slice ba e.xb.length bc, .int .i64 e.asked, .int .i64 e.came, .int .i64 e.cost] 72) :: Sl 2 68 xa xc e.xf.length (e.xf.flatMap pFd) :: Sl 1 5 ba bc e.xb.length (e.xb.map Sl.B) :: A :: pt b8 (.cells #[.int .i64 0, .slice none 0 0, .slice none 0 0] 34) :: F) im_ ?_
     exact main
    | true =>
     refine e_gdT (e_gdT (e_bslN (n := 1) (vs := [sCC].map txt) rfl rfl tm (by omega) fun g4 => ?_))
     refine e_gdT (e_call (lhas (N := [sCC]) hA hR (rd_pt rfl) (by decide) (by decide)) (.cons (by repeat constructor) (.cons (by repeat constructor) .nil)) fun _ => ?_)
     refine nr_ ?_
     refine e_gdT (o_ v_not (o_ v_pickT ?_))
     cases h5 : hasF R [sCC] with
     | true =>
      simp only [Bool.not_true, Bool.and_false, Bool.false_eq_true, if_false]
      refine e_imp (M := CX :: pt g (.cells #[txt e.key, txt e.met, .slice ra e.rf.length rc, .slice va e.vf.length vc, .int .i64 e.st, .slice xa e.xf.length xc, .slice ba e.xb.length bc, .int .i64 e.asked, .int .i64 e.came, .int .i64 e.cost] 72) :: Sl 2 68 xa xc e.xf.length (e.xf.flatMap pFd) :: Sl 1 5 ba bc e.xb.length (e.xb.map Sl.B) :: A :: pt b8 (.cells #[.int .i64 0, .slice none 0 0, .slice none 0 0] 34) :: F) im_ ?_
      exact main
     | false =>
      simp only [Bool.not_false, Bool.and_true, if_true]
      refine e_condT (e_condT (e_sat (.pu trivial ?_)))
      exact im_
   refine e_condF (o_ v_addw ?_)
   rw [show IntKind.i64.wrap (AG + (secF (dirL R) sMinF).1) = wr (AG + (secF (dirL R) sMinF).1) from rfl]
   refine e_ask v_geq .nil (fun h => ?_) (fun h => ?_)
   ·simp only [if_pos h, if_true]
    refine e_condT (e_condT (e_sat (.pu trivial ?_)))
    exact im_
   simp only [if_neg h]
   refine e_condF ?_
   cases h6 : (secF (dirL R) sMax_).2 with
   | false =>
    refine e_gdF2 (e_gdF2 (e_gdF2 (o_ v_pickF ?_)))
    simp only [Bool.false_and, Bool.false_eq_true, if_false]
    refine e_condF (e_sat (.pu trivial ?_))
    exact im_
   | true =>
    refine e_gdT (e_gdT (e_gdT (o_ v_lss (o_ v_pickT ?_))))
    simp only [Bool.true_and]
    by_cases h7 : (secF (dirL R) sMax_).1 < AG
    ·rw [dT_ h7]
     simp only [if_true]
     refine e_condT (e_sat (.pu trivial ?_))
     exact im_
    ·rw [dF_ h7]
     simp only [Bool.false_eq_true, if_false]
     refine e_condF (e_sat (.pu trivial ?_))
     exact im_
  intro ds z
  refine e_pu .here fun hz => ?_
  subst hz
  rw [hPG]
  refine o_ v_nil (o_ v_fa0 (p_op ld_x ?_))
  refine e_call (own (st := e.st) (X := e.xf) (D := e.xb) (rdF_any hx) (fun h => List.eq_nil_of_length_eq_zero (by
    rcases Nat.eq_zero_or_pos e.xf.length with z | z
    ·exact z
    ·obtain ⟨_, h1⟩ := hx z; rw [h1] at h; cases h)) (by have := z_len e.xf; omega) (rd_sl (by rw [List.length_map]) hb) (fun h => List.eq_nil_of_length_eq_zero (by
    rcases Nat.eq_zero_or_pos e.xb.length with z | z
    ·exact z
    ·obtain ⟨_, h1⟩ := hb z; rw [h1] at h; cases h)) (by have := hen.xb; omega)) (.cons (by repeat constructor) (.cons (by repeat constructor) .nil)) fun q => ?_
  obtain ⟨⟨ya, yc⟩, wa, wc⟩ := q
  refine nr_ ?_
  (try dsimp only)
  refine sg_ ?_; refine o_ v_fa0 (ln_ ?_); refine e_bsl1 fun g => ?_
  rename Nat => g4
  refine e_slfacts (by (repeat constructor) : Pick _ (Sl 2 68 ya yc e.xf.length (e.xf.flatMap pFd)) _) fun _ _ _ hy => ?_
  have hzx := z_len e.xf
  refine e_call (without (l := e.xf) (N := [sAge]) (nc := 1) (NA := pt g4 (.cells ([sAge].map txt).toArray 9)) (rdF_any hy) (z_ok (by omega)) (rd_pt rfl) (by decide) (by decide)) (.cons (by repeat constructor) (.cons (by repeat constructor) .nil)) fun w => ?_
  obtain ⟨w1, w2⟩ := w
  refine nr_ ?_
  (try dsimp only)
  obtain ⟨ag1, ag2⟩ : -9223372036854775808 <= AG /\ AG <= 9223372036854775807 := by rw [hAG]; exact wr_b _
  refine c_ (digits ag1 ag2) fun _ => ?_
  refine o_ v_rv ?_
  refine e_bslS (n := 1) (vs := [vFd (sAge, dig AG)]) rfl (by omega) rfl (by intro v hv; rw [List.mem_singleton.1 hv]; rfl) (by omega) fun gb => ?_
  have hwl := with_len e.xf [sAge]
  refine e_app (m := 1) (news := pFd (sAge, dig AG)) (by (repeat constructor) : Pick _ (Sl 2 68 w1 w2 (withF e.xf [sAge]).length ((withF e.xf [sAge]).flatMap pFd)) _) (src_pt (s := 2) (e' := 68) (by kernel_rfl) .here (by rfl) (by intro u hu; simp [vFd, Value.cells] at hu; rcases hu with rfl | rfl <;> rfl)) (by omega) (by omega) fun a' c' => ?_
  rw [show (withF e.xf [sAge]).length + 1 = (outF e AG).length by unfold outF; rw [List.length_append]; rfl, show (withF e.xf [sAge]).flatMap pFd ++ pFd (sAge, dig AG) = (outF e AG).flatMap pFd by unfold outF; rw [List.flatMap_append]; rfl]
  refine o_ v_fa0 (sn_ ?_); refine lg_ ?_; refine sg_ ?_; (((refine' e_stS (v_resA ?hn) ?hi ?_); (case hi => exact im_); (case hn => rfl)))
  rw [hCX]
  refine e_all (by (repeat constructor) : Pick _ (all [Sl 2 68 ra rc e.rf.length (e.rf.flatMap pFd), Sl 2 68 va vc e.vf.length (e.vf.flatMap pFd), BO Z.al (fun g => IsE g (Z.E g)) g, pt c (.cells #[.slice ta (rmL Z.ord g ++ [g]).length tc, .map (some mg), .int .i64 Z.bound, .int .i64 Z.bytes] 62), Sl 1 65 ta tc (rmL Z.ord g ++ [g]).length ((rmL Z.ord g ++ [g]).map pE), MapFn mg txt (rowsF Z rw_), BL Z.ks (RowA Z rw_)]) _) ?_
  refine nr_ ?_
  refine e_ret ((a', c'), (wa, wc)) rfl ?_
  refine .ex ((ta, tc), mg, rw_) (.all ?_)
  refine nr_ ?_
  rw [show BE (touchS Z g).al (touchS Z g).E = BL Z.al (fun g => IsE g (Z.E g)) from rfl, show rowsF (touchS Z g) rw_ = rowsF Z rw_ from rfl, show BL (touchS Z g).ks (RowA (touchS Z g) rw_) = BL Z.ks (RowA Z rw_) from rfl, show (touchS Z g).ord = rmL Z.ord g ++ [g] from rfl, show (touchS Z g).bound = Z.bound from rfl, show (touchS Z g).bytes = Z.bytes from rfl]
  refine .pick (by repeat constructor) (.pick (by repeat constructor) (.pick (by repeat constructor) (.pick (by repeat constructor) (imp_bl (F := fun g => IsE g (Z.E g)) g hga hZ.aln (fun _ _ _ => rfl) ?_))))
  rw [<- he]
  refine .ex (((ra, rc), va, vc), (xa, xc), ba, bc) (.all ?_)
  refine nr_ ?_
  exact im_
end Go.Proofs.YthomhkpedghhgaaGreatDoor.FD
namespace Go.Proofs.YthomhkpedghhgaaGreatDoor.Sl
open Go Go.RowKit Sh
variable {P : Program} {W : World} {L L' : List HP} {Kp : PK} {k : Value -> WP}
theorem e_bconst {t e e' : TypeId} {g n c : Nat} {cs : Array Value} (ht : P.underlying t = some (.slice e)) (he : P.underlying e = some (.int .u8)) (p : Pick L (pt g (.cells cs e' (0, 0))) L')
  (h : Ent W (pt g (.cells cs e' (cs.size, cs.size + 1)) :: L') (k (.slice (some ⟨g, 0, none⟩) n c))) : Ent W L (opN P (sConv t t (.slice (some ⟨g, 0, none⟩) n c)) Kp k) := fun w hw => by
 have hp := hw.pick p
 have hg := hp.pt_.1
 have hsh : w.shape? g = some (e', cs.size) := by unfold World.shape?; rw [hg]
 have hrun : (sConv t t (.slice (some ⟨g, 0, none⟩) n c)).run P w = .ok (.value (.slice (some ⟨g, 0, none⟩) n c)) (w.freeze ⟨g, cs.size, none⟩ 1) := by
  simp [sConv, convert, run_underlying ht, run_underlying he, markStringish, hsh]
 refine ⟨?_⟩
 rw [hrun]
 refine h _ (hp.turn (w' := w.freeze ⟨g, cs.size, none⟩ 1) rfl rfl rfl ?_ ?_ ?_)
 ·simp [World.freeze]
 ·simp [World.freeze, Array.getElem?_modify, hg]
 ·intro i hi
  simp only [World.freeze]
  rw [if_neg (by decide), Array.getElem?_modify, if_neg (fun c => hi c.symm)]
end Go.Proofs.YthomhkpedghhgaaGreatDoor.Sl
namespace Go.Proofs.YthomhkpedghhgaaGreatDoor.FD
open Go Go.Proofs Go.RowKit Sh Sl T
def sMaxE : List UInt8 := [109, 97, 120, 45, 97, 103, 101, 61]
def e0 : En := newE [107] sGET [] [(sCC, sMaxE ++ [49, 48])] [120] 200 5 5
theorem e0_fits : fitsF e0 [] = true := by decide +kernel
theorem e0_age : ageF e0.xf e0.asked e0.came 14 = 9 := by decide +kernel
theorem e0_fresh : staleF e0 [] 14 = false := by decide +kernel
theorem e0_stale : staleF e0 [] 15 = true := by decide +kernel
theorem e0_sto : stoB 1000 [107] sGET [] [(sCC, sMaxE ++ [49, 48])] [120] 200 = true := by decide +kernel
theorem num_ {W : World} {v : Int} : Cn p_ 8 [.int .i64 v] W [] (fun _ : Unit => .int .i64 v) (fun _ => []) := by
 (refine S.law23_num_s.cn fun F => ?_; unfold S.law23_num; simp only [ca_, na_])
 refine e_retT () ?_
 exact im_
def fX (a : List UInt8) : List Fd := [(sCC, sMaxE ++ a)]
theorem fresh {W : World} {a : List UInt8} (ha : a.length <= 1000) : Cn p_ 30 [txt a] W [] (fun q : Nat × Nat => .agg #[.int .i64 200, .slice (some ⟨q.1, 0, none⟩) 1 1, .slice (some ⟨q.2, 0, none⟩) 1 1])
  (fun q => [pt q.1 (.cells ((fX a).flatMap pFd).toArray 68), pt q.2 (.cells (([120] : List UInt8).map Sl.B).toArray 5 (1, 2))]) := by
 (refine S.law23_fresh_s.cn fun F => ?_; unfold S.law23_fresh; simp only [ca_, na_])
 refine e_newA fun b2 => ?_
 refine o_ (v_cat (a := sMaxE) (by simp [sMaxE]; omega)) ?_
 refine o_ v_rv ?_
 refine e_bslS (n := 1) (vs := [vFd (sCC, sMaxE ++ a)]) rfl (by omega) rfl (by intro v hv; rw [List.mem_singleton.1 hv]; rfl) (by omega) fun gb => ?_
 refine e_bsl1 fun g => ?_
 rename Nat => gd
 refine e_bconst (t := 32) (e := 5) (by kernel_rfl) (by kernel_rfl) (by (repeat constructor) : Pick _ (pt gd _) _) ?_
 refine o_ v_rv ?_; refine sg_ ?_; (((refine' e_stS (v_resA ?hn) ?hi ?_); (case hi => exact im_); (case hn => rfl)))
 refine e_ret (gb, gd) rfl ?_
 exact .pick (by repeat constructor) (.pick (by repeat constructor) im_)
theorem knows {W : World} [hG : Gl W] [hP : Gp W] : Cn p_ 9 [] W [] (fun _ : Unit => .bool true) (fun _ => []) := by
 (refine S.law23_knows_s.cn fun F => ?_; unfold S.law23_knows; simp only [ca_, na_])
 refine e_call (new (b := 1000) (by decide) (by decide)) .nil fun c => ?_
 refine nr_ ?_
 refine xt_ ?_; refine xt_ ?_; refine o_ v_rv ?_; refine e_newA fun g => ?_; refine sg_ ?_; refine e_drS ?_
 rename Nat => b3
 refine e_call num_ .nil fun _ => ?_
 refine nr_ ?_
 refine t_ v_neq ?_
 rw [dF_ (by decide)]
 refine e_gdT (e_gdT (t_ v_eqNil1 ?_)); refine t_ v_pickF (e_gdT (e_gdDT ?_)); (((refine' e_stD (v_ldAgg ?hn) ?hi ?_); (case hi => exact .pick (by repeat constructor) .nil); (case hn => rfl))); refine e_gdT (e_call (fresh (a := [49, 48]) (by decide)) .nil fun q => ?_)
 obtain ⟨gb, gd⟩ := q
 refine nr_ ?_
 (try dsimp only)
 refine ob_ ?_; refine e_gdT ?_
 have h0 : CsOk 1048576 (emptyS 1000) := (empty_ok (by decide) (by decide)).up (by decide) (by decide)
 refine e_imp (M := pu True :: IsC c (emptyS 1000) :: pt gb (.cells ((fX [49, 48]).flatMap pFd).toArray 68) :: pt gd (.cells (([120] : List UInt8).map Sl.B).toArray 5 (1, 2)) :: pt b3 (.cells #[.string ⟨#[71, 69, 84]⟩, .string ⟨#[]⟩, .int .i64 0, .slice none 0 0] 31) :: F) (.pu trivial im_) ?_
 have hA : RdF W (pu True) none [] := ⟨rfl, fun h => absurd h (by decide)⟩
 refine e_call (store (T := 1048576) (key := [107]) (m := sGET) (tg := []) (mi := 0) (R := []) (cr := 0) (X := fX [49, 48]) (D := [120]) (st := 200) (asked := 5) (came := 5) (cx := 1) (cd := 1) h0 hA (fun _ => rfl) (rd_pt (by rfl) : RdF W (pt gb (.cells ((fX [49, 48]).flatMap pFd).toArray 68)) (some ⟨gb, 0, none⟩) (fX [49, 48])) (fun h => by cases h) (rd_pt (by rfl)) (fun h => by cases h) (by decide) (by decide) (by decide) (by decide)) (.cons (by repeat constructor) (.cons (by repeat constructor) (.cons (by repeat constructor) (.cons (by repeat constructor) .nil)))) fun r => ?_
 obtain ⟨Z1, hZ1, hr⟩ := r
 refine nr_ ?_
 (try dsimp only)
 rw [show stoB (emptyS 1000).bound [107] sGET [] (fX [49, 48]) [120] 200 = true from e0_sto] at hr ⊢
 rw [if_pos rfl] at hr
 obtain ⟨g, Y, hsub, hgY, hZe⟩ := hr
 have hY0 : ∀ k, Y.of_ k = [] := fun k => by
  cases h : Y.of_ k with
  | nil => rfl
  | cons x r => have := hsub.of_ k x (by rw [h]; exact List.mem_cons_self); cases this
 have hEg : Z1.E g = e0 := by rw [hZe]; exact if_pos rfl
 have hof : Z1.of_ [107] = [g] := by rw [hZe]; show (if [107] = [107] then Y.of_ [107] ++ [g] else Y.of_ [107]) = [g]; rw [if_pos rfl, hY0]; rfl
 have hot : Z1.of_ [111, 116, 104, 101, 114] = [] := by
  rw [hZe]
  show (if [111, 116, 104, 101, 114] = [107] then Y.of_ [111, 116, 104, 101, 114] ++ [g] else Y.of_ [111, 116, 104, 101, 114]) = []
  rw [if_neg (by decide), hY0]
 have hfind : findF Z1 [107] [] = some g := by unfold findF; rw [hof]; simp [hEg, e0_fits]
 have hgo : g ∈ Z1.ord := by rw [hZe]; exact List.mem_append_right _ (List.mem_singleton.2 rfl)
 have hZ2 := touch_ok hZ1 hgo
 have hfind2 : findF (touchS Z1 g) [107] [] = some g := hfind
 have hgo2 : g ∈ (touchS Z1 g).ord := (touch_mem hgo).2 hgo
 have hZ3 := touch_ok hZ2 hgo2
 have hfind3 : findF (touchS (touchS Z1 g) g) [111, 116, 104, 101, 114] [] = none := by unfold findF; rw [show (touchS (touchS Z1 g) g).of_ [111, 116, 104, 101, 114] = [] from hot]; rfl
 have hk1 : lookF Z1 [107] [] 14 = ⟨200, outF e0 9, [120], 9, 1, touchS Z1 g⟩ := by
  unfold lookF
  rw [hfind]
  simp only [hEg, e0_age, e0_fresh]
  rfl
 have hk2 : (lookF (touchS Z1 g) [107] [] 15).state = 2 /\ (lookF (touchS Z1 g) [107] [] 15).S = touchS (touchS Z1 g) g := by
  unfold lookF
  rw [hfind2]
  have : (touchS Z1 g).E g = e0 := hEg
  simp only [this, e0_stale, if_true]
  refine ⟨?_, ?_⟩ <;> first | trivial | rfl
 have hk3 : lookF (touchS (touchS Z1 g) g) [111, 116, 104, 101, 114] [] 14 = ⟨0, [], [], 0, 0, touchS (touchS Z1 g) g⟩ := by
  unfold lookF
  rw [hfind3]
 refine e_gdT (t_ v_notT (t_ v_pickF (e_condF (lg_ ?_))))
 refine e_call (look (T := 1048576) (key := [107]) (m := sGET) (tg := []) (mi := 0) (R := []) (now := 14) (cr := 0) hZ1 hA (by decide)) (.cons (by repeat constructor) (.cons (by repeat constructor) .nil)) fun q => ?_
 obtain ⟨⟨xa, xc⟩, wa, wc⟩ := q
 rw [hk1]
 unfold lkV
 refine nr_ ?_
 (try dsimp only)
 refine xt_ ?_; refine xt_ ?_; refine xt_ ?_; refine e_newA fun g => ?_; refine sg_ ?_; refine lg_ ?_
 refine e_call (look (T := 1048576) (key := [107]) (m := sGET) (tg := []) (mi := 0) (R := []) (now := 15) (cr := 0) hZ2 hA (by decide)) (.cons (by repeat constructor) (.cons (by repeat constructor) .nil)) fun q => ?_
 obtain ⟨⟨ya, yc⟩, va, vc⟩ := q
 unfold lkV
 rw [hk2.1, hk2.2]
 refine nr_ ?_
 (try dsimp only)
 refine xt_ ?_; refine xt_ ?_; refine xt_ ?_; refine e_newA fun g => ?_; refine sg_ ?_; refine lg_ ?_
 refine e_call (look (T := 1048576) (key := [111, 116, 104, 101, 114]) (m := sGET) (tg := []) (mi := 0) (R := []) (now := 14) (cr := 0) hZ3 hA (by decide)) (.cons (by repeat constructor) (.cons (by repeat constructor) .nil)) fun q => ?_
 obtain ⟨⟨ua, uc⟩, sa, sc⟩ := q
 rw [hk3]
 unfold lkV
 refine nr_ ?_
 (try dsimp only)
 refine e_slfacts (by (repeat constructor) : Pick _ (Sl 1 5 wa wc ([120] : List UInt8).length (([120] : List UInt8).map Sl.B)) _) fun _ _ _ hw => ?_
 refine xt_ ?_; refine xt_ ?_; refine xt_ ?_; refine e_newA fun g => ?_; refine sg_ ?_
 refine o_ v_eql ?_
 rw [dT_ (by decide)]
 refine e_gdT (e_gdT (o_ v_eql ?_))
 rw [dT_ (by decide)]
 refine o_ v_pickT (e_gdT (o_ v_fa0 (e_gdT (ln_ ?_)))); refine e_gdT (p_op (v_str (l := [120]) (rd_sl (e := 5) (a := wa) (cap := wc) (by rfl) hw) (fun h => by obtain ⟨_, h1⟩ := hw (by decide); rw [h1] at h; cases h)) ?_)
 refine e_gdT (o_ (v_streq (l := [120]) (m := [120])) ?_)
 rw [dT_ (by decide)]
 refine o_ v_pickT (e_gdT (e_gdT (o_ v_eql ?_)))
 rw [dT_ (by decide)]
 refine o_ v_pickT (e_gdT (e_gdT (o_ v_eql ?_)))
 rw [dT_ (by decide)]
 refine o_ v_pickT (e_ret () rfl ?_)
 exact im_
end Go.Proofs.YthomhkpedghhgaaGreatDoor.FD
namespace Go.Proofs.YthomhkpedghhgaaGreatDoor.Sl
open Go Go.RowKit Sh
variable {P : Program} {H : Type} {enc : TypeId × Value -> H} {W : World}
theorem Old.flat {α : Type} {s n : Nat} {f : α -> List Value} {a : Option Addr} {xs : List α} (hf : ∀ x, (f x).length = s) (h0 : 0 < s) (h : Old W s (fun x cs => cs = f x) a n xs) (A : HP) : RdB W A a (n * s) (xs.flatMap f) := by
 have hl := h.len
 refine ⟨by rw [flat_len hf, hl], fun hn => ?_⟩
 obtain ⟨g, o, rfl, hg, hc⟩ := h.at_ (by
  rcases Nat.eq_zero_or_pos n with z | z
  ·subst z; simp at hn
  ·exact z)
 refine ⟨g, o, rfl, fun w L hw j v hv => ?_⟩
 have hj : j < xs.length * s := by
  rcases Nat.lt_or_ge j (xs.flatMap f).length with c | c
  ·rwa [flat_len hf] at c
  ·rw [List.getElem?_eq_none c] at hv; cases hv
 have hi : j / s < xs.length := Nat.div_lt_of_lt_mul (by rwa [Nat.mul_comm] at hj)
 have hm : j % s < s := Nat.mod_lt _ h0
 have hd : j = j / s * s + j % s := by rw [Nat.mul_comm]; exact (Nat.div_add_mod j s).symm
 obtain ⟨cs, h1, h2, h3⟩ := hc (j / s) hi
 subst h2
 rw [hd, flat_get hf xs _ _ hi hm] at hv
 have := h3 (j % s) v hv
 rw [hw.base.cell (p := ⟨g, o + j, none⟩) hg]
 rwa [<- hd] at this
end Go.Proofs.YthomhkpedghhgaaGreatDoor.Sl
namespace Go.Proofs.YthomhkpedghhgaaGreatDoor.FD
open Go Go.Proofs Go.RowKit Go.ChangeShapes Sh Sl T
theorem witness_row_shaped {H : Type} {enc : TypeId × Value → H} {C : Checked} {os : Os} {f : FuncId} {fn : Func} {s : OpenSpec} {conds : List PathCond} {apart : Bool} {laid : List (String × DataW Unit)} (modest : Bool) (w0 : World) (args : Array Value) (hos : w0.os = os)
  (hsh : (w0.forCall (fun _ _ => 0) ⟨#[], args, []⟩).Shaped C.prog)
  (hok : Input.okWideB C.prog (w0.forCall (fun _ _ => 0) ⟨#[], args, []⟩) f ⟨#[], args, []⟩ = true)
  (hrow : s.preRow enc C.prog fn conds apart laid (w0.forCall (fun _ _ => 0) ⟨#[], args, []⟩).memory args) :
  ∃ (w : World) (tape : Tape) (i : Input), w.os = os ∧ (w.forCall tape i).Shaped C.prog ∧ i.vars = [] ∧ Input.okWide C.prog (w.forCall tape i) .any w.heap.size f i ∧
   s.preRow enc C.prog fn conds apart laid (w.forCall tape i).memory i.args ∧ ({ modest := modest } : Assume).holds C.prog (lone (Frame.enter C.prog f i.args .normal) [] (w.forCall tape i)) :=
 ⟨w0, fun _ _ => 0, ⟨#[], args, []⟩, hos, hsh, (Input.okWide_of_okWideB (base := 0) hok).1, (Input.okWide_of_okWideB hok).2, hrow, by
  simp only [Assume.holds]
  exact ⟨by simp, by simp, fun _ => Modest.zero, by simp, by simp⟩⟩
theorem laid_at {P : Program} {W : World} {n : String} {d : DataW Unit} : ∀ {l : List (String × DataW Unit)} {ps : List MemPlace}, DataW.LaidVars P W l ps -> (n, d) ∈ l ->
  ∃ g t cs fuel p, P.globalNamed n = some g /\ (P.globals[g]?).map (·.type) = some t /\ W.var? P n = some cs /\ DataW.trod (fun _ => ()) P W 0 (fun _ => true) false fuel t cs.toList = some (d, p)
 | [], _, _, h => by cases h
 | (n', d') :: r, ps, h, hm => by
  obtain ⟨g, t, cs, fuel, p, q, h1, h2, h3, h4, h5, _⟩ := h
  rcases List.mem_cons.1 hm with e | hm
  ·obtain ⟨rfl, rfl⟩ := Prod.mk.inj e
   exact ⟨g, t, cs, fuel, p, h1, h2, h3, h4⟩
  ·exact laid_at h5 hm
set_option maxRecDepth 20000 in
theorem open_fd {H : Type} {enc : TypeId × Value -> H} {W : World} {sp : Nat -> Bool} {held : Bool} (n : Nat) (cs : List Value) (x : DataW H × List MemPlace) (h : DataW.trod enc p_ W 0 sp held n 68 cs = some x) : ∃ a : Fd, cs = pFd a /\ a.1.length + a.2.length + 3 <= Rows.uptoBulk x.1 := by
 obtain ⟨xs, m, rfl, rfl, hl, hs, hf⟩ := DataW.trod_struct (fs := #[⟨"Name", 9, 0, false, "", "", 0⟩, ⟨"Value", 9, 1, false, "", "", 16⟩]) (by kernel_rfl) h
 rw [show p_.cellsOf 68 = 2 by kernel_rfl] at hl
 obtain ⟨c0, c1, rfl⟩ : ∃ c0 c1, cs = [c0, c1] := by
  match cs, hl with
  | [a, b], _ => exact ⟨a, b, rfl⟩
 obtain ⟨x0, x1, rfl⟩ : ∃ x0 x1, xs = [x0, x1] := by
  match xs, hs with
  | [a, b], _ => exact ⟨a, b, rfl⟩
 have e1 : p_.cellsOf 9 = 1 := by kernel_rfl
 have f0 := hf 0 _ rfl
 have f1 := hf 1 _ rfl
 simp only [e1, List.drop_zero, List.drop_succ_cons, List.take_succ_cons, List.take_zero, List.getElem?_cons_zero, List.getElem?_cons_succ] at f0 f1
 obtain ⟨n0, h0, hx0, _⟩ := DataW.trod_string (by kernel_rfl) f0
 obtain ⟨n1, h1, hx1, _⟩ := DataW.trod_string (by kernel_rfl) f1
 have k0 : c0 = .string n0 := by injection h0
 have k1 : c1 = .string n1 := by injection h1
 subst k0; subst k1
 refine ⟨(n0.data.toList, n1.data.toList), by unfold pFd txt; simp, ?_⟩
 have h2 := (Prod.mk.inj hx0).1
 have h3 := (Prod.mk.inj hx1).1
 simp only [List.map_cons, List.map_nil, Rows.uptoBulk, Rows.uptoBulkAll]
 rw [h2, h3]
 simp [Rows.uptoBulk]
 omega
theorem z_sum (l : List Fd) : (l.map fun f => f.1.length + f.2.length + 3).sum = zF l := by
 induction l with
 | nil => rfl
 | cons f r ih => rw [List.map_cons, List.sum_cons, ih, zF_cons]
theorem mapM_get {α β : Type} {f : α -> Option β} : ∀ {l : List α} {ys : List β}, l.mapM f = some ys -> ys.length = l.length /\ ∀ (i : Nat) (a : α), l[i]? = some a -> ∃ y, ys[i]? = some y /\ f a = some y
 | [], ys, h => by
  simp at h
  subst h
  exact ⟨rfl, fun i a hi => by simp at hi⟩
 | a :: l, ys, h => by
  rw [List.mapM_cons] at h
  cases ha : f a with
  | none => rw [ha] at h; cases h
  | some y =>
   cases hl : l.mapM f with
   | none => rw [ha, hl] at h; cases h
   | some zs =>
    rw [ha, hl] at h
    have h : some (y :: zs) = some ys := h
    obtain rfl := Option.some.inj h
    obtain ⟨h1, h2⟩ := mapM_get hl
    refine ⟨by rw [List.length_cons, List.length_cons, h1], fun i b hi => ?_⟩
    cases i with
    | zero => exact ⟨y, rfl, by rw [<- ha]; congr 1; simpa using hi.symm⟩
    | succ i => exact h2 i b (by simpa using hi)
theorem trod_arr {P : Program} {H : Type} {enc : TypeId × Value -> H} {W : World} {sp : Nat -> Bool} {held : Bool} {t e : TypeId} {n fuel : Nat} {cs : List Value} {x : DataW H × List MemPlace} (ht : P.underlying t = some (.array n e)) (hce : P.cellsOf e = 1) (h : DataW.trod enc P W 0 sp held fuel t cs = some x) :
  ∃ (xs : List (DataW H × List MemPlace)) (m : Nat), x.1 = .agg (xs.map (·.1)) /\ xs.length = n /\ ∀ i, i < n -> ∃ y, xs[i]? = some y /\ DataW.trod enc P W 0 sp held m e ((cs.drop i).take 1) = some y := by
 cases fuel with
 | zero => simp [DataW.trod] at h
 | succ m =>
  unfold DataW.trod at h
  rw [ht] at h
  simp only [hce, Nat.mul_one] at h
  split at h
  ·cases hm : (List.range n).mapM fun i => DataW.trod enc P W 0 sp held m e ((cs.drop i).take 1) with
   | none => rw [hm] at h; cases h
   | some xs =>
    rw [hm] at h
    have h := Option.some.inj h
    obtain ⟨h1, h2⟩ := mapM_get hm
    refine ⟨xs, m, by rw [<- h], by rw [h1, List.length_range], fun i hi => h2 i i (List.getElem?_range hi)⟩
  ·cases h
theorem gp_of {W : World} {l : List (String × DataW Unit)} (h : laidMet p_ l W) (hm : ("internal/strconv.uint64pow10", Rows.laid_internal_strconv_uint64pow10) ∈ l) : Gp W := by
 obtain ⟨ps, hv, _, _⟩ := h
 obtain ⟨g, t, cs, fuel, p, h1, h2, h3, h4⟩ := laid_at hv hm
 obtain rfl := Option.some.inj ((show p_.globalNamed "internal/strconv.uint64pow10" = some 1 by kernel_rfl).symm.trans h1)
 obtain rfl := Option.some.inj ((show (p_.globals[1]?).map (·.type) = some 247 by kernel_rfl).symm.trans h2)
 obtain ⟨xs, m, hx, hl, hf⟩ := trod_arr (n := 20) (e := 186) (by kernel_rfl) (by kernel_rfl) h4
 have key : ∀ j, j < 20 -> cs[j]? = some (.int .u64 ((10 ^ j : Nat) : Int)) := by
  intro j hj
  obtain ⟨y, hy, hyt⟩ := hf j hj
  have hlt : ∃ c, (cs.toList.drop j).take 1 = [c] := by
   cases hd : (cs.toList.drop j).take 1 with
   | nil => rw [hd] at hyt; cases m <;> simp [DataW.trod] at hyt <;> (split at hyt <;> simp_all)
   | cons c r =>
    have : ((cs.toList.drop j).take 1).length <= 1 := by rw [List.length_take]; omega
    rw [hd] at this
    simp at this
    subst this
    exact ⟨c, rfl⟩
  obtain ⟨c, hc⟩ := hlt
  rw [hc] at hyt
  obtain ⟨n, h0, hx0, _⟩ := DataW.trod_int (by kernel_rfl : p_.underlying 186 = some (.int .u64)) hyt
  have hcj : cs[j]? = some c := by
   have := congrArg (fun l => l[0]?) hc
   simpa using this
  have hya : (xs.map (·.1))[j]? = some (.lit (.int .u64 n)) := by rw [List.getElem?_map, hy]; simp only [Option.map_some]; rw [(Prod.mk.inj hx0).1]
  have hlist : xs.map (·.1) = (List.range 20).map fun j => (.lit (.int .u64 ((10 ^ j : Nat) : Int)) : DataW Unit) := by
   have : (DataW.agg (xs.map (·.1))) = .agg ((List.range 20).map fun j => (.lit (.int .u64 ((10 ^ j : Nat) : Int)) : DataW Unit)) := by rw [<- hx]; rfl
   injection this
  rw [hlist, List.getElem?_map, List.getElem?_range hj] at hya
  simp only [Option.map_some, Option.some.injEq, DataW.lit.injEq, Lit.int.injEq, true_and] at hya
  rw [hcj, hya]
  have : c = .int .u64 n := by injection h0
  rw [this]
 have hc := fun j => World.var?_cell h1 h3 j
 refine ⟨?_, fun j hj => ?_⟩
 ·have h0 := hc 0
  rw [key 0 (by decide)] at h0
  unfold World.cell? at h0
  rcases Nat.lt_or_ge 1 W.heap.size with c | c
  ·exact c
  ·rw [Array.getElem?_eq_none c] at h0; cases h0
 ·rw [hc j, key j hj]
set_option maxRecDepth 20000 in
theorem rq_cells {H : Type} {enc : TypeId × Value -> H} {W : World} {sp : Nat -> Bool} {held : Bool} (n : Nat) (cs : List Value) (x : DataW H × List MemPlace) (hl : DataW.trod enc p_ W 0 sp held n 31 cs = some x) :
  ∃ (m t : List UInt8) (mi : Int) (a : Option Addr) (c : Nat) (l : List Fd), cs = [txt m, txt t, .int .i64 mi, .slice a l.length c] /\ (∀ A, RdF W A a l) /\ (a = none -> l.length = 0) /\ m.length + t.length + zF l + 1 <= Rows.uptoBulk x.1 := by
 obtain ⟨xs, m, rfl, rfl, hsz, hs, hf⟩ := DataW.trod_struct (fs := #[⟨"Method", 9, 0, false, "", "", 0⟩, ⟨"Target", 9, 1, false, "", "", 16⟩, ⟨"Minor", 3, 2, false, "", "", 32⟩, ⟨"Fields", 29, 3, false, "", "", 40⟩]) (by kernel_rfl) hl
 rw [show p_.cellsOf 31 = 4 by kernel_rfl] at hsz
 obtain ⟨c0, c1, c2, c3, rfl⟩ : ∃ c0 c1 c2 c3, cs = [c0, c1, c2, c3] := by
  match cs, hsz with
  | [a, b, c, d], _ => exact ⟨a, b, c, d, rfl⟩
 obtain ⟨x0, x1, x2, x3, rfl⟩ : ∃ x0 x1 x2 x3, xs = [x0, x1, x2, x3] := by
  match xs, hs with
  | [a, b, c, d], _ => exact ⟨a, b, c, d, rfl⟩
 have e1 : p_.cellsOf 3 = 1 := by kernel_rfl
 have e2 : p_.cellsOf 29 = 1 := by kernel_rfl
 have e3 : p_.cellsOf 9 = 1 := by kernel_rfl
 have f0 := hf 0 _ rfl
 have f1 := hf 1 _ rfl
 have f2 := hf 2 _ rfl
 have f3 := hf 3 _ rfl
 simp only [e1, e2, e3, List.drop_zero, List.drop_succ_cons, List.take_succ_cons, List.take_zero, List.getElem?_cons_zero, List.getElem?_cons_succ] at f0 f1 f2 f3
 obtain ⟨n0, h0, hx0, _⟩ := DataW.trod_string (by kernel_rfl) f0
 obtain ⟨n1, h1, hx1, _⟩ := DataW.trod_string (by kernel_rfl) f1
 obtain ⟨mi, h2, _, _⟩ := DataW.trod_int Tryz.underlying3 f2
 obtain ⟨a, n, c, fs, e, g1, g2, g3, g4, g5⟩ := open_old (e := 68) (s := 2) (rd := fun (x : Fd) cs => cs = pFd x) (m := fun f => f.1.length + f.2.length + 3) (by kernel_rfl) (by kernel_rfl) (by omega) (fun n cs x h => open_fd n cs x h) f3
 have hln := g4.len
 subst hln
 rw [z_sum] at g5
 have k0 : c0 = .string n0 := by injection h0
 have k1 : c1 = .string n1 := by injection h1
 have k2 : c2 = .int .i64 mi := by injection h2
 have k3 : c3 = .slice a fs.length c := by injection e
 subst k0; subst k1; subst k2; subst k3
 refine ⟨n0.data.toList, n1.data.toList, mi, a, c, fs, by unfold txt; simp, fun A => g4.flat (f := pFd) (fun _ => rfl) (by omega) A, ?_, ?_⟩
 ·intro ha
  rcases Nat.eq_zero_or_pos fs.length with z | z
  ·exact z
  ·obtain ⟨g, o, hg, _⟩ := g4.at_ z; rw [hg] at ha; cases ha
 have h3 := (Prod.mk.inj hx0).1
 have h4 := (Prod.mk.inj hx1).1
 simp only [List.map_cons, List.map_nil, Rows.uptoBulk, Rows.uptoBulkAll]
 rw [h3, h4]
 simp [Rows.uptoBulk]
 (try simp at g5)
 omega
set_option maxRecDepth 20000 in
theorem rs_cells {H : Type} {enc : TypeId × Value -> H} {W : World} {sp : Nat -> Bool} {held : Bool} (n : Nat) (cs : List Value) (x : DataW H × List MemPlace) (hl : DataW.trod enc p_ W 0 sp held n 34 cs = some x) :
  ∃ (st : Int) (a b : Option Addr) (c d : Nat) (l : List Fd) (D : List UInt8), cs = [.int .i64 st, .slice a l.length c, .slice b D.length d] /\ (∀ A, RdF W A a l) /\ (a = none -> l.length = 0) /\ (∀ A, RdB W A b D.length (D.map Sl.B)) /\ (b = none -> D.length = 0) /\ zF l + D.length + 1 <= Rows.uptoBulk x.1 := by
 obtain ⟨xs, m, rfl, rfl, hsz, hs, hf⟩ := DataW.trod_struct (fs := #[⟨"Status", 3, 0, false, "", "", 0⟩, ⟨"Fields", 29, 1, false, "", "", 8⟩, ⟨"Body", 32, 2, false, "", "", 32⟩]) (by kernel_rfl) hl
 rw [show p_.cellsOf 34 = 3 by kernel_rfl] at hsz
 obtain ⟨c0, c1, c2, rfl⟩ : ∃ c0 c1 c2, cs = [c0, c1, c2] := by
  match cs, hsz with
  | [a, b, c], _ => exact ⟨a, b, c, rfl⟩
 obtain ⟨x0, x1, x2, rfl⟩ : ∃ x0 x1 x2, xs = [x0, x1, x2] := by
  match xs, hs with
  | [a, b, c], _ => exact ⟨a, b, c, rfl⟩
 have e1 : p_.cellsOf 3 = 1 := by kernel_rfl
 have e2 : p_.cellsOf 29 = 1 := by kernel_rfl
 have e3 : p_.cellsOf 32 = 1 := by kernel_rfl
 have f0 := hf 0 _ rfl
 have f1 := hf 1 _ rfl
 have f2 := hf 2 _ rfl
 simp only [e1, e2, e3, List.drop_zero, List.drop_succ_cons, List.take_succ_cons, List.take_zero, List.getElem?_cons_zero, List.getElem?_cons_succ] at f0 f1 f2
 obtain ⟨st, h0, _, _⟩ := DataW.trod_int Tryz.underlying3 f0
 obtain ⟨a, n, c, fs, e, g1, g2, g3, g4, g5⟩ := open_old (e := 68) (s := 2) (rd := fun (x : Fd) cs => cs = pFd x) (m := fun f => f.1.length + f.2.length + 3) (by kernel_rfl) (by kernel_rfl) (by omega) (fun n cs x h => open_fd n cs x h) f1
 obtain ⟨b, d, D, j0, j1, j2, j3, j4, j5⟩ := open_bytes (e := 5) (by kernel_rfl) (by kernel_rfl) (by kernel_rfl) f2
 have hln := g4.len
 subst hln
 rw [z_sum] at g5
 have k0 : c0 = .int .i64 st := by injection h0
 have k1 : c1 = .slice a fs.length c := by injection e
 have k2 : c2 = .slice b D.length d := by injection j0
 subst k0; subst k1; subst k2
 refine ⟨st, a, b, c, d, fs, D, rfl, fun A => g4.flat (f := pFd) (fun _ => rfl) (by omega) A, ?_, j4, j3, ?_⟩
 ·intro ha
  rcases Nat.eq_zero_or_pos fs.length with z | z
  ·exact z
  ·obtain ⟨g, o, hg, _⟩ := g4.at_ z; rw [hg] at ha; cases ha
 simp only [List.map_cons, List.map_nil, Rows.uptoBulk, Rows.uptoBulkAll]
 (try simp at g5)
 (try simp at j5)
 omega
theorem gl_of {W : World} {l : List (String × DataW Unit)} (h : laidMet p_ l W) (hm : ("strconv.ErrRange", Rows.laid_strconv_ErrRange) ∈ l) : Gl W := by
 obtain ⟨ps, hv, _, _⟩ := h
 obtain ⟨g, t, cs, fuel, p, h1, h2, h3, h4⟩ := laid_at hv hm
 obtain rfl := Option.some.inj ((show p_.globalNamed "strconv.ErrRange" = some 3 by kernel_rfl).symm.trans h1)
 obtain rfl := Option.some.inj ((show (p_.globals[3]?).map (·.type) = some 165 by kernel_rfl).symm.trans h2)
 obtain ⟨f1, u, v, hcs, _, _⟩ := iface_of_trod Tryz.underlying165 h4
 have hc := World.var?_cell h1 h3 0
 have hc0 : cs[0]? = some (.iface u v) := by
  rw [<- Array.getElem?_toList, hcs]; rfl
 rw [hc0] at hc
 refine ⟨?_, u, v, hc⟩
 unfold World.cell? at hc
 rcases Nat.lt_or_ge 3 W.heap.size with c | c
 ·exact c
 ·rw [Array.getElem?_eq_none c] at hc; cases hc
structure Op where
 kind : Int
 key : List UInt8
 m : List UInt8
 t : List UInt8
 mi : Int
 R : List Fd
 ra : Option Addr
 rc : Nat
 st : Int
 X : List Fd
 xa : Option Addr
 xc : Nat
 D : List UInt8
 da : Option Addr
 dc : Nat
 asked : Int
 came : Int
def pOp (o : Op) : List Value := [.int .i64 o.kind, txt o.key, txt o.m, txt o.t, .int .i64 o.mi, .slice o.ra o.R.length o.rc, .int .i64 o.st, .slice o.xa o.X.length o.xc, .slice o.da o.D.length o.dc, .int .i64 o.asked, .int .i64 o.came]
structure OpOk (W : World) (o : Op) : Prop where
 R : ∀ A, RdF W A o.ra o.R
 ra : o.ra = none -> o.R.length = 0
 X : ∀ A, RdF W A o.xa o.X
 xa : o.xa = none -> o.X.length = 0
 D : ∀ A, RdB W A o.da o.D.length (o.D.map Sl.B)
 da : o.da = none -> o.D.length = 0
 a1 : -9223372036854775808 <= o.asked /\ o.asked <= 9223372036854775807
 a2 : -9223372036854775808 <= o.came /\ o.came <= 9223372036854775807
def opM (o : Op) : Nat := o.key.length + zF o.R + zF o.X + o.D.length + 1
set_option maxRecDepth 20000 in
theorem op_cells {H : Type} {enc : TypeId × Value -> H} {W : World} {sp : Nat -> Bool} {held : Bool} (n : Nat) (cs : List Value) (x : DataW H × List MemPlace) (hl : DataW.trod enc p_ W 0 sp held n 36 cs = some x) :
  ∃ o : Op, (OpOk W o /\ cs = pOp o) /\ opM o <= Rows.uptoBulk x.1 := by
 obtain ⟨xs, m, rfl, rfl, hsz, hs, hf⟩ := DataW.trod_struct (fs := #[⟨"Kind", 3, 0, false, "", "", 0⟩, ⟨"Key", 9, 1, false, "", "", 8⟩, ⟨"R", 31, 2, false, "", "", 24⟩, ⟨"X", 34, 6, false, "", "", 88⟩, ⟨"Asked", 3, 9, false, "", "", 144⟩, ⟨"Came", 3, 10, false, "", "", 152⟩]) (by kernel_rfl) hl
 rw [show p_.cellsOf 36 = 11 by kernel_rfl] at hsz
 obtain ⟨c0, c1, c2, c3, c4, c5, c6, c7, c8, c9, c10, rfl⟩ : ∃ c0 c1 c2 c3 c4 c5 c6 c7 c8 c9 c10, cs = [c0, c1, c2, c3, c4, c5, c6, c7, c8, c9, c10] := by
  match cs, hsz with
  | [a, b, c, d, e, f, g, h, i, j, k], _ => exact ⟨a, b, c, d, e, f, g, h, i, j, k, rfl⟩
 obtain ⟨x0, x1, x2, x3, x4, x5, rfl⟩ : ∃ x0 x1 x2 x3 x4 x5, xs = [x0, x1, x2, x3, x4, x5] := by
  match xs, hs with
  | [a, b, c, d, e, f], _ => exact ⟨a, b, c, d, e, f, rfl⟩
 have e1 : p_.cellsOf 3 = 1 := by kernel_rfl
 have e2 : p_.cellsOf 31 = 4 := by kernel_rfl
 have e3 : p_.cellsOf 9 = 1 := by kernel_rfl
 have e4 : p_.cellsOf 34 = 3 := by kernel_rfl
 have f0 := hf 0 _ rfl
 have f1 := hf 1 _ rfl
 have f2 := hf 2 _ rfl
 have f3 := hf 3 _ rfl
 have f4 := hf 4 _ rfl
 have f5 := hf 5 _ rfl
 simp only [e1, e2, e3, e4, List.drop_zero, List.drop_succ_cons, List.take_succ_cons, List.take_zero, List.getElem?_cons_zero, List.getElem?_cons_succ] at f0 f1 f2 f3 f4 f5
 obtain ⟨kd, h0, _, _⟩ := DataW.trod_int Tryz.underlying3 f0
 obtain ⟨n1, h1, hx1, _⟩ := DataW.trod_string (by kernel_rfl) f1
 obtain ⟨rm, rt, mi, ra, rc, R, h2, k1, k2, k3⟩ := rq_cells _ _ _ f2
 obtain ⟨st, xa, da, xc, dc, X, D, h3, k4, k5, k6, k7, k8⟩ := rs_cells _ _ _ f3
 obtain ⟨ak, h4, _, w4⟩ := DataW.trod_int Tryz.underlying3 f4
 obtain ⟨cm, h5, _, w5⟩ := DataW.trod_int Tryz.underlying3 f5
 have q0 : c0 = .int .i64 kd := by injection h0
 have q1 : c1 = .string n1 := by injection h1
 have q9 : c9 = .int .i64 ak := by injection h4
 have q10 : c10 = .int .i64 cm := by injection h5
 injection h2 with q2 h2
 injection h2 with q3 h2
 injection h2 with q4 h2
 injection h2 with q5 h2
 injection h3 with q6 h3
 injection h3 with q7 h3
 injection h3 with q8 h3
 subst q0; subst q1; subst q2; subst q3; subst q4; subst q5; subst q6; subst q7; subst q8; subst q9; subst q10
 refine ⟨⟨kd, n1.data.toList, rm, rt, mi, R, ra, rc, st, X, xa, xc, D, da, dc, ak, cm⟩, ⟨⟨k1, k2, k4, k5, k6, k7, ?_, ?_⟩, by simp [pOp, txt]⟩, ?_⟩
 ·simpa [Lit.wf, IntKind.min, IntKind.max, IntKind.signed, IntKind.bits] using w4
 ·simpa [Lit.wf, IntKind.min, IntKind.max, IntKind.signed, IntKind.bits] using w5
 have q1 := (Prod.mk.inj hx1).1
 simp only [List.map_cons, List.map_nil, Rows.uptoBulk, Rows.uptoBulkAll]
 rw [q1]
 unfold opM
 (try dsimp only)
 (try simp [Rows.uptoBulk])
 omega
end Go.Proofs.YthomhkpedghhgaaGreatDoor.FD
namespace Go.Proofs.YthomhkpedghhgaaGreatDoor.FD
open Go Go.Proofs Go.RowKit Sh Sl T
theorem forget {W : World} {c T : Nat} {Z : Cs} {key : List UInt8} (hZ : CsOk T Z) : Cn p_ 27 [pE c, txt key] W [IsC c Z] (fun _ : { Z' : Cs // CsOk T Z' /\ Sub Z' Z /\ Z'.of_ key = [] } => .int .i64 ((Z.of_ key).length : Nat)) (fun r => [IsC c r.1]) := by
 have hkl := hZ.ofl key
 (refine S.cache_Cache_Forget_s.cn fun F => ?_; unfold S.cache_Cache_Forget; simp only [ca_, na_])
 refine e_call none_ (by (repeat (first | exact Picks.nil | (apply Picks.cons; (focus repeat constructor))))) fun _ => ?_
 refine nr_ ?_
 refine e_condF (e_clone (key := key) hZ (by (repeat constructor) : Pick _ (IsC c Z) _) fun ka kc => ?_)
 refine o_ v_len (e_loop1 (fun k y => [ex fun x : Nat × Cs => all [pu (k + x.1 = (Z.of_ key).length /\ y = .int .i64 (x.1 : Int) /\ Sub x.2 Z /\ CsOk T x.2 /\ x.2.of_ key = (Z.of_ key).drop x.1), Sl 1 65 ka kc (Z.of_ key).length ((Z.of_ key).map pE), IsC c x.2]] ++ F) (Z.of_ key).length ?_ ?_)
 ·refine .ex (0, Z) (.all ?_)
  refine nr_ ?_
  refine .pu ⟨rfl, rfl, Sub.refl Z, hZ, rfl⟩ ?_
  exact im_
 intro k ds y
 refine nr_ ?_
 refine e_ex Pick.here fun x => e_all Pick.here ?_
 obtain ⟨i, Y⟩ := x
 refine nr_ ?_
 refine e_pu Pick.here fun hi => ?_
 obtain ⟨hki, rfl, hsub, hY, hdr⟩ := hi
 (try dsimp only at hki hsub hY hdr)
 refine e_ask v_lss .nil (fun h => ?_) (fun h => ?_)
 ·have hin : i < (Z.of_ key).length := by omega
  refine e_condT (e_slsome (by (repeat constructor) : Pick _ (Sl 1 65 ka kc (Z.of_ key).length ((Z.of_ key).map pE)) _) (by omega) fun gk hgk => ?_)
  subst hgk
  have hsplit : (Z.of_ key).drop i = (Z.of_ key)[i] :: (Z.of_ key).drop (i + 1) := (List.drop_eq_getElem_cons hin)
  have hxf : (Z.of_ key)[i] ∈ Y.of_ key := by rw [hdr, hsplit]; exact List.mem_cons_self
  obtain ⟨hxo, hxk⟩ := hY.fo key _ hxf
  have hnd : (Z.of_ key)[i] ∉ (Z.of_ key).drop (i + 1) := by
   have := (hZ.fn key).sublist (List.drop_sublist i _)
   rw [hsplit, List.nodup_cons] at this
   exact this.1
  refine o_ (v_ia1 i rfl hin) ?_
  refine p_op (ld_pE hin) ?_
  refine e_call (drop hY hxo) (by (repeat (first | exact Picks.nil | (apply Picks.cons; (focus repeat constructor))))) fun _ => ?_
  refine nr_ ?_
  refine ad_ ?_
  refine e_next1 (k - 1) (by omega) (.ex (i + 1, dropS Y (Z.of_ key)[i]) (.all ?_))
  refine nr_ ?_
  refine .pu ⟨by omega, by norm_cast, (sub_drop _ _).trans hsub, drop_ok hY hxo, ?_⟩ ?_
  ·show (if key = (Y.E (Z.of_ key)[i]).key then (Y.of_ key).filter (fun x => !decide (x = (Z.of_ key)[i])) else Y.of_ key) = _
   rw [if_pos hxk.symm, hdr, hsplit, List.filter_cons_of_neg (by simp)]
   exact List.filter_eq_self.2 fun x hx => by
    simp only [Bool.not_eq_true', decide_eq_false_iff_not]
    rintro rfl
    exact hnd hx
  exact im_
 ·have : i = (Z.of_ key).length := by omega
  subst this
  rw [List.drop_length] at hdr
  refine e_condF (o_ v_len (e_ret (⟨Y, hY, hsub, hdr⟩ : { Z' : Cs // CsOk T Z' /\ Sub Z' Z /\ Z'.of_ key = [] }) rfl ?_))
  exact im_
theorem tagC {W : World} {l : List Fd} {a : Option Addr} {c : Nat} {A : HP} (hA : RdF W A a l) (hl : zF l <= 1048576) : Cn p_ 69 [.slice a l.length c] W [A] (fun _ : Unit => .tuple #[vTag (tagF (firstF l sETag).1).1, .bool (tagF (firstF l sETag).1).2]) (fun _ => [A]) := by
 have hok := z_ok (l := l) (by omega)
 have hfl : (firstF l sETag).1.length <= 4194304 := by
  unfold firstF
  split
  ·simp
  ·rename_i v r hv
   obtain ⟨f, hf, rfl⟩ := vals_mem (show v ∈ valsF l sETag by rw [hv]; exact List.mem_cons_self)
   exact (hok.2 f hf).2
 (refine S.cache_Cache_Merge_1_s.cn fun F => ?_; unfold S.cache_Cache_Merge_1; simp only [ca_, na_])
 refine e_newA fun b2 => ?_
 refine e_call (first (n := sETag) hA hok (by decide)) (.cons (by repeat constructor) .nil) fun _ => ?_
 refine nr_ ?_
 refine o_ (v_extN (vs := [_, _]) .here) ?_
 refine o_ (v_extN (vs := [_, _]) (.there .here)) ?_
 refine e_call (parseTag (l := (firstF l sETag).1) (by omega)) .nil fun _ => ?_
 refine nr_ ?_
 refine o_ (v_extN (vs := [_, _]) .here) ?_
 refine o_ (v_extN (vs := [_, _]) (.there .here)) ?_
 unfold vTag
 refine e_newA fun g => ?_; refine sg_ ?_; refine lg_ ?_
 refine o_ v_eql (sg_ ?_); (((refine' e_stS (v_resA ?hn) ?hi ?_); (case hi => exact im_); (case hn => rfl)))
 refine e_ret () (by cases (tagF (firstF l sETag).1).2 <;> rfl) ?_
 exact im_
def lossS (Z : Cs) (g : Nat) : Cs := { Z with al := Z.al.filter fun j => decide (j ≠ g) }
theorem loss_ok {T : Nat} {Z : Cs} (h : CsOk T Z) {g : Nat} (hg : g ∉ Z.ord) : CsOk T (lossS Z g) := { h with
 aln := h.aln.filter _
 oa := fun x hx => List.mem_filter.2 ⟨h.oa x hx, by simp only [ne_eq, decide_not, Bool.not_eq_eq_eq_not, Bool.not_true, decide_eq_false_iff_not]; rintro rfl; exact hg hx⟩
 en := fun x hx => h.en x (List.mem_filter.1 hx).1 }
def IsCx (c : Nat) (Z : Cs) (g : Nat) : HP := ex fun q : Q2 × Nat × (List UInt8 -> Q2) => all [pt c (.cells #[.slice q.1.1 Z.ord.length q.1.2, .map (some q.2.1), .int .i64 Z.bound, .int .i64 Z.bytes] 62), Sl 1 65 q.1.1 q.1.2 Z.ord.length (Z.ord.map pE), MapFn q.2.1 txt (rowsF Z q.2.2), BL Z.ks (RowA Z q.2.2), BO Z.al (fun g => IsE g (Z.E g)) g]
theorem e_openE {W : World} {L L' : List HP} {S : WP} {c g : Nat} {Z : Cs} (hg : g ∈ Z.al) (hn : Z.al.Nodup) (p : Pick L (IsC c Z) L') (h : Ent W (IsE g (Z.E g) :: IsCx c Z g :: L') S) : Ent W L S := by
 refine e_ex p fun q => e_all .here ?_
 obtain ⟨⟨oa, oc⟩, mg, rw_⟩ := q
 refine nr_ ?_
 refine e_bl (by (repeat constructor) : Pick _ (BE Z.al Z.E) _) g hg hn ?_
 refine e_imp (M := IsE g (Z.E g) :: IsCx c Z g :: L') (.pick .here (.ex ((oa, oc), mg, rw_) (.all ?_))) h
 refine nr_ ?_
 exact im_
theorem e_shutE {W : World} {L L1 L2 : List HP} {S : WP} {c g : Nat} {Z : Cs} (hg : g ∈ Z.al) (hn : Z.al.Nodup) (p : Pick L (IsE g (Z.E g)) L1) (q : Pick L1 (IsCx c Z g) L2) (h : Ent W (IsC c Z :: L2) S) : Ent W L S := by
 refine e_pick p (e_ex (.there q) fun q => e_all .here ?_)
 obtain ⟨⟨oa, oc⟩, mg, rw_⟩ := q
 refine nr_ ?_
 refine e_imp (M := IsC c Z :: L2) (.ex ((oa, oc), mg, rw_) (.all ?_)) h
 refine nr_ ?_
 refine .pick (by repeat constructor) (.pick (by repeat constructor) (.pick (by repeat constructor) (.pick (by repeat constructor) (imp_bl (F := fun g => IsE g (Z.E g)) g hg hn (fun _ _ _ => rfl) ?_))))
 exact im_
theorem e_lossC {W : World} {L L1 : List HP} {S : WP} {c g : Nat} {Z : Cs} (q : Pick L (IsCx c Z g) L1) (h : Ent W (IsC c (lossS Z g) :: L1) S) : Ent W L S := by
 refine e_ex q fun q => e_all .here ?_
 obtain ⟨⟨oa, oc⟩, mg, rw_⟩ := q
 refine nr_ ?_
 refine e_imp (M := IsC c (lossS Z g) :: L1) (.ex ((oa, oc), mg, rw_) (.all ?_)) h
 refine nr_ ?_
 rw [show BE (lossS Z g).al (lossS Z g).E = BO Z.al (fun g => IsE g (Z.E g)) g from rfl, show rowsF (lossS Z g) rw_ = rowsF Z rw_ from rfl, show BL (lossS Z g).ks (RowA (lossS Z g) rw_) = BL Z.ks (RowA Z rw_) from rfl, show (lossS Z g).ord = Z.ord from rfl, show (lossS Z g).bound = Z.bound from rfl, show (lossS Z g).bytes = Z.bytes from rfl]
 exact im_
theorem StR.bound {T : Nat} {Z Z' : Cs} {key m : List UInt8} {R X : List Fd} {D : List UInt8} {st asked came : Int} (h : StR T Z key m R X D st asked came Z') : Z'.bound = Z.bound := by
 obtain ⟨_, h⟩ := h
 split at h
 ·obtain ⟨g, Y, hs, _, rfl⟩ := h
  exact hs.bound
 ·rw [h]
structure MgO (T : Nat) (Z : Cs) where
 st : Int
 n1 : Nat
 n2 : Nat
 q1 : Q2
 q2 : Q2
 ok : Bool
 Z' : Cs
 h : CsOk T Z' /\ Z'.bound = Z.bound
def mgV {T : Nat} {Z : Cs} (r : MgO T Z) : Value := .tuple #[.agg #[.int .i64 r.st, .slice r.q1.1 r.n1 r.q1.2, .slice r.q2.1 r.n2 r.q2.2], .bool r.ok]
def zO {T : Nat} {Z : Cs} (h : CsOk T Z) : MgO T Z := ⟨0, 0, 0, (none, 0), (none, 0), false, Z, h, rfl⟩
def mgN : List (List UInt8) := [[67, 111, 110, 116, 101, 110, 116, 45, 76, 101, 110, 103, 116, 104], [67, 111, 110, 116, 101, 110, 116, 45, 69, 110, 99, 111, 100, 105, 110, 103], [67, 111, 110, 116, 101, 110, 116, 45, 82, 97, 110, 103, 101], [84, 114, 97, 110, 115, 102, 101, 114, 45, 69, 110, 99, 111, 100, 105, 110, 103]]
theorem zF_app (a b : List Fd) : zF (a ++ b) = zF a + zF b := by
 induction a with
 | nil => simp [zF]
 | cons f r ih => rw [List.cons_append, zF_cons, zF_cons, ih]; omega
set_option maxRecDepth 20000 in
theorem merge {W : World} [hG : Gl W] {c T : Nat} {Z : Cs} {key m tg : List UInt8} {mi st asked came : Int} {R X : List Fd} {ar ax : Option Addr} {cr cx : Nat} {A B : HP} {bd : Value} [OC bd] (hZ : CsOk T Z)
  (hA : RdF W A ar R) (hB : RdF W B ax X) (hR : zF R <= 1048576) (hX : T + zF X <= 1048576) (hk : key.length <= 1048576) :
  Cn p_ 26 [pE c, txt key, .agg #[txt m, txt tg, .int .i64 mi, .slice ar R.length cr], .agg #[.int .i64 st, .slice ax X.length cx, bd], .int .i64 asked, .int .i64 came] W [IsC c Z, A, B]
   (mgV (T := T + zF X) (Z := Z)) (fun r => [IsC c r.Z', A, B]) := by
 have hT := hZ.t
 have hZT : CsOk (T + zF X) Z := hZ.up (by omega) hX
 (refine S.cache_Cache_Merge_s.cn fun F => ?_; unfold S.cache_Cache_Merge; simp only [ca_, na_])
 refine e_boxA fun b8 => ?_
 refine e_boxA fun b9 => ?_
 refine e_newA fun b12 => ?_
 refine e_call none_ (by (repeat (first | exact Picks.nil | (apply Picks.cons; (focus repeat constructor))))) fun _ => ?_
 refine nr_ ?_
 refine e_gdT (o_ v_fa0 (e_gdT (ln_ ?_))); refine e_gdT (o_ v_neq ?_)
 by_cases h304 : st = 304
 rotate_left
 ·rw [dT_ h304]
  refine o_ v_pickF (e_condT (o_ v_rv ?_)); refine sg_ ?_; (((refine' e_stS (v_resA ?hn) ?hi ?_); (case hi => exact im_); (case hn => rfl)))
  refine e_ret (zO hZT) rfl ?_
  exact im_
 rw [dF_ (by simpa using h304)]
 refine o_ v_pickF (e_condF (o_ v_fa0 (ln_ ?_)))
 refine e_call (find (key := key) hZ hA hR) (by (repeat (first | exact Picks.nil | (apply Picks.cons; (focus repeat constructor))))) fun _ => ?_
 refine nr_ ?_
 cases hf : findF Z key R with
 | none =>
  refine o_ v_eqNil0 ?_; refine e_condT (o_ v_rv ?_); refine sg_ ?_; (((refine' e_stS (v_resA ?hn) ?hi ?_); (case hi => exact im_); (case hn => rfl)))
  refine e_ret (zO hZT) rfl ?_
  exact im_
 | some g =>
  obtain ⟨hgo, hfit⟩ := find_mem hf
  have hgo := (hZ.fo key g hgo).1
  have hga := hZ.oa g hgo
  have hen := hZ.en g hga
  have hxf : zF (Z.E g).xf <= 1048576 := by have := hen.xf; omega
  (try dsimp only)
  refine o_ v_eqNil1 ?_; refine e_condF ?_
  have hE : ∃ e, e = Z.E g := ⟨_, rfl⟩
  obtain ⟨e, he⟩ := hE
  refine e_openE hga hZ.aln (by (repeat constructor) : Pick _ (IsC c Z) _) ?_
  rw [<- he] at hen hxf ⊢
  have hXb : zF X <= 1048576 := by omega
  refine e_cut0 (IsE g e :: IsCx c Z g :: A :: B :: pt b12 (.cells #[.int .i64 0, .slice none 0 0, .slice none 0 0] 34) :: pt b9 (.cells #[.int .i64 st, .slice ax X.length cx, bd] 34) :: F) ?_ ?_
  rotate_left
  ·(refine o_ v_fa0 ?_); refine ln_ ?_
   refine e_call (tagC hB hXb) (.cons (by repeat constructor) .nil) fun _ => ?_
   refine nr_ ?_
   refine o_ (v_extN (vs := [_, _]) .here) ?_
   refine o_ (v_extN (vs := [_, _]) (.there .here)) ?_
   unfold vTag
   refine e_newA fun g => ?_; refine sg_ ?_
   rename Nat => b16
   cases ht : (tagF (firstF X sETag).1).2 with
   | false =>
    refine e_condF (e_sat ?_)
    exact im_
   | true =>
    refine e_condT (e_ex (by (repeat constructor) : Pick _ (IsE g e) _) fun q => e_all .here ?_)
    obtain ⟨⟨⟨ra, rc⟩, va, vc⟩, ⟨xa, xc⟩, ba, bc⟩ := q
    refine nr_ ?_
    refine e_slfacts (by (repeat constructor) : Pick _ (Sl 2 68 xa xc e.xf.length (e.xf.flatMap pFd)) _) fun _ _ _ hx => ?_
    refine o_ v_nil (o_ v_fa0 (o_ v_fa (ln_ ?_)))
    refine e_call (tagC (rdF_any hx) hxf) (.cons (by repeat constructor) .nil) fun _ => ?_
    refine nr_ ?_
    refine o_ (v_extN (vs := [_, _]) .here) ?_
    refine o_ (v_extN (vs := [_, _]) (.there .here)) ?_
    unfold vTag
    refine e_newA fun g => ?_; refine sg_ ?_; refine o_ v_not ?_
    rename Nat => b18
    refine e_imp (M := IsE g e :: IsCx c Z g :: A :: B :: pt b12 (.cells #[.int .i64 0, .slice none 0 0, .slice none 0 0] 34) :: pt b9 (.cells #[.int .i64 st, .slice ax X.length cx, bd] 34) :: pt b16 (.cells #[.bool (tagF (firstF X sETag).1).1.1, txt (tagF (firstF X sETag).1).1.2] 112) :: pt b18 (.cells #[.bool (tagF (firstF e.xf sETag).1).1.1, txt (tagF (firstF e.xf sETag).1).1.2] 112) :: F) (.ex (((ra, rc), va, vc), (xa, xc), ba, bc) (.all ?_)) ?_
    ·refine nr_ ?_
     exact im_
    cases hu : (tagF (firstF e.xf sETag).1).2 with
    | false =>
     rw [Bool.not_false]
     refine e_gdF1 (e_gdF1 (e_gdF1 (e_gdF1 (o_ v_pickT (e_condT (o_ v_rv ?_)))))); refine sg_ ?_; (((refine' e_stS (v_resA ?hn) ?hi ?_); (case hi => exact im_); (case hn => rfl)))
     rw [he]
     refine e_shutE hga hZ.aln (by (repeat constructor) : Pick _ (IsE g (Z.E g)) _) (by repeat constructor) ?_
     refine e_ret (zO hZT) rfl ?_
     exact im_
    | true =>
     rw [Bool.not_true]
     refine e_gdT (lg_ ?_); refine e_gdT (lg_ ?_); refine e_gdT (e_call (weak (x := (tagF (firstF X sETag).1).1) (y := (tagF (firstF e.xf sETag).1).1)) .nil fun _ => ?_)
     refine nr_ ?_
     by_cases hw : (tagF (firstF X sETag).1).1.2 = (tagF (firstF e.xf sETag).1).1.2
     ·rw [dT_ hw]
      refine e_gdT (o_ v_notT (o_ v_pickF (e_condF (e_sat ?_))))
      exact im_
     ·rw [dF_ hw]
      refine e_gdT (o_ v_notF (o_ v_pickF (e_condT (o_ v_rv ?_)))); refine sg_ ?_; (((refine' e_stS (v_resA ?hn) ?hi ?_); (case hi => exact im_); (case hn => rfl)))
      rw [he]
      refine e_shutE hga hZ.aln (by (repeat constructor) : Pick _ (IsE g (Z.E g)) _) (by repeat constructor) ?_
      refine e_ret (zO hZT) rfl ?_
      exact im_
  intro ds
  have hzx := z_len X
  have hze := z_len e.xf
  refine o_ v_fa0 (ln_ ?_)
  refine e_bslN (n := 4) (vs := mgN.map txt) rfl rfl (by intro v hv; obtain ⟨c, _, rfl⟩ := List.mem_map.1 hv; rfl) (by omega) fun g4 => ?_
  refine e_call (without (l := X) (N := mgN) (nc := 4) (NA := pt g4 (.cells (mgN.map txt).toArray 9)) hB (z_ok (by omega)) (rd_pt rfl) (by decide) (by decide)) (.cons (by repeat constructor) (.cons (by repeat constructor) .nil)) fun w => ?_
  obtain ⟨w1, w2⟩ := w
  refine nr_ ?_
  (try dsimp only)
  obtain ⟨M, hM⟩ : ∃ M, M = withF X mgN := ⟨_, rfl⟩
  have hMz : zF M <= zF X := by rw [hM]; exact z_filter _ _
  have hMl : M.length <= X.length := by rw [hM]; exact with_len _ _
  rw [<- hM]
  refine o_ v_len (e_slfacts (by (repeat constructor) : Pick _ (Sl 2 68 w1 w2 M.length (M.flatMap pFd)) _) fun _ _ _ hm => ?_)
  have hRM : RdF W (Sl 2 68 w1 w2 M.length (M.flatMap pFd)) w1 M := rdF_any hm
  have hMo := z_ok (l := M) (by omega)
  refine e_loop2 (fun k x y => [ex fun i : Nat => ex fun q : Q2 => all [pu (k + i = M.length /\ x = .slice q.1 i q.2 /\ y = .int .i64 (i : Int)), Sl 1 9 q.1 q.2 i (((M.take i).map Prod.fst).map txt), Sl 2 68 w1 w2 M.length (M.flatMap pFd), IsE g e, IsCx c Z g, A, B, pt b12 (.cells #[.int .i64 0, .slice none 0 0, .slice none 0 0] 34)]] ++ F) M.length ?_ ?_
  ·refine .ex 0 (.ex (none, 0) (.all ?_))
   refine nr_ ?_
   refine .pu ⟨rfl, rfl, rfl⟩ (imp_nil ?_)
   exact im_
  intro k ds2 x y
  refine nr_ ?_
  refine e_ex Pick.here fun i => e_ex Pick.here fun q => e_all Pick.here ?_
  obtain ⟨na, nc⟩ := q
  refine nr_ ?_
  refine e_pu Pick.here fun hi => ?_
  obtain ⟨hki, rfl, rfl⟩ := hi
  refine e_ask v_lss .nil (fun h => ?_) (fun h => ?_)
  ·have hin : i < M.length := by omega
   obtain ⟨gw, ow, rfl⟩ := rdF_at hRM (by omega)
   refine e_condT (o_ (v_ia i rfl hin) ?_)
   refine p_op (ld_fdA hRM hin) ?_
   unfold vFd
   refine e_newA fun g => ?_; refine sg_ ?_; refine o_ v_fa0 (ln_ ?_); refine e_bsl1 fun g => ?_
   rename Nat => gn
   refine e_app (m := 1) (news := [txt M[i].1]) (by (repeat constructor) : Pick _ (Sl 1 9 na nc i (((M.take i).map Prod.fst).map txt)) _) (src_pt (s := 1) (e' := 9) (by kernel_rfl) (by (repeat constructor) : Pick _ (pt gn _) _) (by rfl) (by intro u hu; simp at hu; rw [hu]; rfl)) (by omega) (by omega) fun a' c' => ?_
   refine ad_ ?_
   refine e_next2 (k - 1) (by omega) (.ex (i + 1) (.ex (a', c') (.all ?_)))
   refine nr_ ?_
   refine .pu ⟨by omega, rfl, by norm_cast⟩ ?_
   rw [List.take_succ_eq_append_getElem hin, List.map_append, List.map_append]
   simp only [List.map_cons, List.map_nil]
   exact im_
  have hil : i = M.length := by omega
  subst hil
  rw [List.take_length]
  refine e_condF (e_ex (by (repeat constructor) : Pick _ (IsE g e) _) fun q => e_all .here ?_)
  obtain ⟨⟨⟨ra, rc⟩, va, vc⟩, ⟨xa, xc⟩, ba, bc⟩ := q
  refine nr_ ?_
  refine e_slfacts (by (repeat constructor) : Pick _ (Sl 2 68 xa xc e.xf.length (e.xf.flatMap pFd)) _) fun _ _ _ hx => ?_
  refine e_slfacts (by (repeat constructor) : Pick _ (Sl 1 5 ba bc e.xb.length (e.xb.map Sl.B)) _) fun _ _ _ hb => ?_
  refine o_ v_nil (o_ v_fa0 (p_op ld_x ?_))
  refine e_call (own (st := e.st) (X := e.xf) (D := e.xb) (rdF_any hx) (fun h => List.eq_nil_of_length_eq_zero (by
    rcases Nat.eq_zero_or_pos e.xf.length with z | z
    ·exact z
    ·obtain ⟨_, h1⟩ := hx z; rw [h1] at h; cases h)) (by omega) (rd_sl (by rw [List.length_map]) hb) (fun h => List.eq_nil_of_length_eq_zero (by
    rcases Nat.eq_zero_or_pos e.xb.length with z | z
    ·exact z
    ·obtain ⟨_, h1⟩ := hb z; rw [h1] at h; cases h)) (by have := hen.xb; omega)) (.cons (by repeat constructor) (.cons (by repeat constructor) .nil)) fun q => ?_
  obtain ⟨⟨ya, yc⟩, wa, wc⟩ := q
  refine nr_ ?_
  (try dsimp only)
  refine e_imp (M := Sl 2 68 ya yc e.xf.length (e.xf.flatMap pFd) :: Sl 1 5 wa wc e.xb.length (e.xb.map Sl.B) :: Sl 1 9 na nc M.length ((M.map Prod.fst).map txt) :: Sl 2 68 w1 w2 M.length (M.flatMap pFd) :: IsE g e :: IsCx c Z g :: A :: B :: pt b12 (.cells #[.int .i64 0, .slice none 0 0, .slice none 0 0] 34) :: F) (.pick (by repeat constructor) (.pick (by repeat constructor) (.pick (by repeat constructor) (.pick (by repeat constructor) (.ex (((ra, rc), va, vc), (xa, xc), ba, bc) (.all ?_)))))) ?_
  ·refine nr_ ?_
   exact im_
  refine e_newA fun g => ?_; refine sg_ ?_; refine o_ v_fa0 (ln_ ?_)
  rename Nat => b24
  refine e_slfacts (by (repeat constructor) : Pick _ (Sl 2 68 ya yc e.xf.length (e.xf.flatMap pFd)) _) fun _ _ _ hy => ?_
  refine e_slfacts (by (repeat constructor) : Pick _ (Sl 1 9 na nc M.length ((M.map Prod.fst).map txt)) _) fun _ _ _ hn => ?_
  have hwo := without (W := W) (l := e.xf) (c := yc) (N := M.map Prod.fst) (na := na) (nc := nc) (NA := Sl 1 9 na nc M.length ((M.map Prod.fst).map txt)) (rdF_any (c := yc) hy) (z_ok (by omega)) (by rw [List.length_map]; exact rd_sl (by rw [List.length_map, List.length_map]) hn) (fun n hn => by
   obtain ⟨f, hf, rfl⟩ := List.mem_map.1 hn
   have := (hMo.2 f hf).1
   omega) (by rw [List.length_map]; omega)
  rw [List.length_map] at hwo
  refine e_call hwo (.cons (by repeat constructor) (.cons (by repeat constructor) .nil)) fun w => ?_
  obtain ⟨u1, u2⟩ := w
  refine nr_ ?_
  (try dsimp only)
  have hul := with_len e.xf (M.map Prod.fst)
  refine e_app (m := M.length) (news := M.flatMap pFd) (by (repeat constructor) : Pick _ (Sl 2 68 u1 u2 (withF e.xf (M.map Prod.fst)).length ((withF e.xf (M.map Prod.fst)).flatMap pFd)) _) (src_sl (s := 2) (e' := 68) (by kernel_rfl) (by (repeat constructor) : Pick _ (Sl 2 68 w1 w2 M.length (M.flatMap pFd)) _) pFd_one) (by omega) (by omega) fun a' c' => ?_
  obtain ⟨Y, hY⟩ : ∃ Y, Y = withF e.xf (M.map Prod.fst) ++ M := ⟨_, rfl⟩
  have hYz : zF Y <= T + zF X := by
   rw [hY, zF_app]
   have h1 : zF (withF e.xf (M.map Prod.fst)) <= zF e.xf := z_filter _ _
   have := hen.xf
   omega
  rw [<- List.length_append, <- List.flatMap_append, <- hY]
  refine o_ v_fa0 (sn_ ?_)
  rw [show IsE g e = IsE g (Z.E g) by rw [he]]
  refine e_shutE hga hZ.aln (by (repeat constructor) : Pick _ (IsE g (Z.E g)) _) (by repeat constructor) ?_
  refine e_call (drop hZ hgo) (by (repeat (first | exact Picks.nil | (apply Picks.cons; (focus repeat constructor))))) fun _ => ?_
  refine nr_ ?_
  have hZ2 := drop_ok hZ hgo
  have hgn : g ∉ (dropS Z g).ord := fun h => by
   have := (List.mem_filter.1 h).2
   simp at this
  have hZ3 : CsOk (T + zF X) (lossS (dropS Z g) g) := (loss_ok hZ2 hgn).up (by omega) hX
  refine e_openE (Z := dropS Z g) hga hZ2.aln (by (repeat constructor) : Pick _ (IsC c (dropS Z g)) _) ?_
  refine e_lossC (by (repeat constructor) : Pick _ (IsCx c (dropS Z g) g) _) ?_
  rw [show (dropS Z g).E g = e from he.symm]
  refine e_ex (by (repeat constructor) : Pick _ (IsE g e) _) fun q => e_all .here ?_
  obtain ⟨⟨⟨ra, rc⟩, va, vc⟩, ⟨xa, xc⟩, ba, bc⟩ := q
  refine nr_ ?_
  refine e_slfacts (by (repeat constructor) : Pick _ (Sl 2 68 ra rc e.rf.length (e.rf.flatMap pFd)) _) fun _ _ _ hr => ?_
  refine e_slfacts (by (repeat constructor) : Pick _ (Sl 2 68 a' c' Y.length (Y.flatMap pFd)) _) fun _ _ _ hy2 => ?_
  refine e_slfacts (by (repeat constructor) : Pick _ (Sl 1 5 wa wc e.xb.length (e.xb.map Sl.B)) _) fun _ _ _ hw2 => ?_
  have nn : ∀ {α : Type} {l : List α} {a : Option Addr}, (0 < l.length -> ∃ g, a = some ⟨g, 0, none⟩) -> a = none -> l = [] := fun {α l a} h1 h2 => List.eq_nil_of_length_eq_zero (by
    rcases Nat.eq_zero_or_pos l.length with z | z
    ·exact z
    ·obtain ⟨_, h3⟩ := h1 z; rw [h3] at h2; cases h2)
  refine e_drS (t_ v_nil (t_ v_fa0 (ls_ ?_))); refine t_ v_nil (t_ v_fa0 (ls_ ?_)); refine t_ v_rv ?_; (((refine' e_stS (v_ldAgg ?hn) ?hi ?_); (case hi => exact .pick (by repeat constructor) .nil); (case hn => rfl)))
  refine e_call (store (T := T + zF X) (key := key) (m := e.met) (tg := []) (mi := 0) (R := e.rf) (X := Y) (D := e.xb) (st := e.st) (asked := asked) (came := came) hZ3 (rdF_any (c := rc) hr) (nn hr) (rdF_any (c := c') hy2) (nn hy2) (rd_sl (e := 5) (a := wa) (cap := wc) (by rw [List.length_map]) hw2) (nn hw2) (by have := hen.rf; omega) hYz (by have := hen.xb; omega) hk) (.cons (by repeat constructor) (.cons (by repeat constructor) (.cons (by repeat constructor) (.cons (by repeat constructor) .nil)))) fun r => ?_
  obtain ⟨Z4, hZ4⟩ := r
  refine nr_ ?_
  (try dsimp only)
  refine lg_ ?_; refine sg_ ?_; (((refine' e_stS (v_resA ?hn) ?hi ?_); (case hi => exact im_); (case hn => rfl)))
  refine e_ret (⟨e.st, Y.length, e.xb.length, (a', c'), (wa, wc), true, Z4, hZ4.1, hZ4.bound⟩ : MgO (T + zF X) Z) rfl ?_
  exact im_
theorem asks {W : World} {m t mi : Value} {l : List Fd} {a : Option Addr} {c : Nat} {A : HP} [OC m] [OC t] [OC mi] (hA : RdF W A a l) (ha : a = none -> l.length = 0) (hl : l.length <= 1099511627776) :
  Cn p_ 11 [.agg #[m, t, mi, .slice a l.length c]] W [A] (fun q : Option Addr × Nat => .agg #[m, t, mi, .slice q.1 l.length q.2]) (fun q => [A, Sl 2 68 q.1 q.2 l.length (l.flatMap pFd)]) := by
 (refine S.law23_asks_s.cn fun F => ?_; unfold S.law23_asks; simp only [ca_, na_])
 refine e_boxA fun b1 => ?_
 refine e_newA fun b2 => ?_
 refine e_bsl0 fun g => ?_
 refine o_ v_fa0 (ln_ ?_)
 refine e_app (m := l.length) (news := l.flatMap pFd) (by (repeat constructor) : Pick _ (Sl 2 68 (some ⟨g, 0, none⟩) 0 0 []) _) (src_rdG (s := 2) (e' := 68) (by kernel_rfl) (by decide) (by (repeat constructor) : Pick _ A _) hA ha pFd_one) (by omega) (by omega) fun a' c' => ?_
 rw [Nat.zero_add, List.nil_append]
 refine o_ v_fa0 (sn_ ?_); refine lg_ ?_
 refine e_stAgg (by repeat constructor) (by rfl) (by rfl) (by intro u hu; simp at hu; rcases hu with rfl | rfl | rfl | rfl <;> first | rfl | exact OC.one) ?_
 (((refine' e_stS (v_resA ?hn) ?hi ?_); (case hi => exact im_); (case hn => rfl)))
 refine e_ret (a', c') rfl ?_
 exact im_
theorem copied {W : World} {st : Int} {l : List Fd} {D : List UInt8} {a b : Option Addr} {c d : Nat} {A B : HP} (hA : RdF W A a l) (ha : a = none -> l.length = 0) (hl : l.length <= 1099511627776) (hB : RdB W B b D.length (D.map Sl.B)) (hb : b = none -> D.length = 0) (hD : D.length <= 1099511627776) :
  Cn p_ 12 [.agg #[.int .i64 st, .slice a l.length c, .slice b D.length d]] W [A, B] (fun q : (Option Addr × Nat) × (Option Addr × Nat) => .agg #[.int .i64 st, .slice q.1.1 l.length q.1.2, .slice q.2.1 D.length q.2.2])
   (fun q => [A, B, Sl 2 68 q.1.1 q.1.2 l.length (l.flatMap pFd), Sl 1 5 q.2.1 q.2.2 D.length (D.map Sl.B)]) := by
 (refine S.law23_copied_s.cn fun F => ?_; unfold S.law23_copied; simp only [ca_, na_])
 refine e_boxA fun b1 => ?_
 refine e_newA fun g => ?_; refine e_drS (e_stD v_fa0 .nil ?_); (((refine' e_stD (v_ldN ?hc) ?hi ?_); (case hi => exact .pick (by repeat constructor) .nil); (case hc => repeat constructor))); refine e_stD v_fa0 .nil ?_; (((refine' e_stD (v_ldN ?hc) ?hi ?_); (case hi => exact .pick (by repeat constructor) .nil); (case hc => repeat constructor))); refine e_stD v_fa0 .nil ?_; (((refine' e_stD (v_ldN ?hc) ?hi ?_); (case hi => exact .pick (by repeat constructor) .nil); (case hc => repeat constructor)))
 refine e_andS ?_ ?_
 ·refine e_bsl0 fun g => ?_
  refine ob_ ?_; refine ob_ ?_; refine ob_ ?_; refine ob_ ?_; refine ob_ ?_; refine ob_ ?_
  refine e_andS ?_ ?_
  ·refine e_app (m := l.length) (news := l.flatMap pFd) (by (repeat constructor) : Pick _ (Sl 2 68 (some ⟨g, 0, none⟩) 0 0 []) _) (src_rdG (s := 2) (e' := 68) (by kernel_rfl) (by decide) (by (repeat constructor) : Pick _ A _) hA ha pFd_one) (by omega) (by omega) fun a' c' => ?_
   rw [Nat.zero_add, List.nil_append]
   refine ob_ ?_; refine ob_ ?_; refine ob_ ?_; refine ob_ ?_
   refine e_bsl0 fun g2 => ?_
   refine ob_ ?_; refine ob_ ?_; refine ob_ ?_; refine ob_ ?_; refine ob_ ?_; refine ob_ ?_
   refine e_app (m := D.length) (news := D.map Sl.B) (by (repeat constructor) : Pick _ (Sl 1 5 (some ⟨g2, 0, none⟩) 0 0 []) _) (src_rd (e' := 5) (by kernel_rfl) (by (repeat constructor) : Pick _ B _) hB hb B_one) (by omega) (by omega) fun a2 c2 => ?_
   rw [Nat.zero_add, List.nil_append]
   refine ob_ ?_; refine ob_ ?_; refine t_ v_rv ?_; refine sg_ ?_; (((refine' e_stS (v_resA ?hn) ?hi ?_); (case hi => exact im_); (case hn => rfl)))
   refine e_ret ((a', c'), (a2, c2)) rfl ?_
   exact im_
  ·refine e_bsl0 fun g2 => ?_
   refine ob_ ?_; refine ob_ ?_; refine ob_ ?_; refine ob_ ?_; refine ob_ ?_; refine ob_ ?_
   refine e_app (m := l.length) (news := l.flatMap pFd) (by (repeat constructor) : Pick _ (Sl 2 68 (some ⟨g, 0, none⟩) 0 0 []) _) (src_rdG (s := 2) (e' := 68) (by kernel_rfl) (by decide) (by (repeat constructor) : Pick _ A _) hA ha pFd_one) (by omega) (by omega) fun a' c' => ?_
   rw [Nat.zero_add, List.nil_append]
   refine ob_ ?_; refine ob_ ?_; refine ob_ ?_; refine ob_ ?_
   refine e_app (m := D.length) (news := D.map Sl.B) (by (repeat constructor) : Pick _ (Sl 1 5 (some ⟨g2, 0, none⟩) 0 0 []) _) (src_rd (e' := 5) (by kernel_rfl) (by (repeat constructor) : Pick _ B _) hB hb B_one) (by omega) (by omega) fun a2 c2 => ?_
   rw [Nat.zero_add, List.nil_append]
   refine ob_ ?_; refine ob_ ?_; refine t_ v_rv ?_; refine sg_ ?_; (((refine' e_stS (v_resA ?hn) ?hi ?_); (case hi => exact im_); (case hn => rfl)))
   refine e_ret ((a', c'), (a2, c2)) rfl ?_
   exact im_
 ·refine e_bsl0 fun g2 => ?_
  refine ob_ ?_; refine ob_ ?_; refine ob_ ?_; refine ob_ ?_; refine ob_ ?_; refine ob_ ?_
  refine e_bsl0 fun g => ?_
  refine ob_ ?_; refine ob_ ?_; refine ob_ ?_; refine ob_ ?_; refine ob_ ?_; refine ob_ ?_
  refine e_app (m := l.length) (news := l.flatMap pFd) (by (repeat constructor) : Pick _ (Sl 2 68 (some ⟨g, 0, none⟩) 0 0 []) _) (src_rdG (s := 2) (e' := 68) (by kernel_rfl) (by decide) (by (repeat constructor) : Pick _ A _) hA ha pFd_one) (by omega) (by omega) fun a' c' => ?_
  rw [Nat.zero_add, List.nil_append]
  refine ob_ ?_; refine ob_ ?_; refine ob_ ?_; refine ob_ ?_
  refine e_app (m := D.length) (news := D.map Sl.B) (by (repeat constructor) : Pick _ (Sl 1 5 (some ⟨g2, 0, none⟩) 0 0 []) _) (src_rd (e' := 5) (by kernel_rfl) (by (repeat constructor) : Pick _ B _) hB hb B_one) (by omega) (by omega) fun a2 c2 => ?_
  rw [Nat.zero_add, List.nil_append]
  refine ob_ ?_; refine ob_ ?_; refine t_ v_rv ?_; refine sg_ ?_; (((refine' e_stS (v_resA ?hn) ?hi ?_); (case hi => exact im_); (case hn => rfl)))
  refine e_ret ((a', c'), (a2, c2)) rfl ?_
  exact im_
def sumO (l : List Op) : Nat := (l.map opM).sum
theorem sumO_take {l : List Op} {i : Nat} (h : i < l.length) : sumO (l.take (i + 1)) = sumO (l.take i) + opM l[i] := by
 unfold sumO
 rw [List.take_succ_eq_append_getElem h, List.map_append, List.sum_append]
 simp
theorem sumO_le (l : List Op) (i : Nat) : sumO (l.take i) <= sumO l := by
 unfold sumO
 induction l generalizing i with
 | nil => simp
 | cons o r ih =>
  cases i with
  | zero => simp
  | succ i => have := ih i; simp only [List.take_succ_cons, List.map_cons, List.sum_cons]; omega
theorem ld_op {W : World} {l : List Op} {i g o : Nat} {A : HP} (hA : RdB W A (some ⟨g, o, none⟩) (l.length * 11) (l.flatMap pOp)) (h : i < l.length) : RunV p_ W [A] (sLoad 36 (.pointer (some ⟨g, o + i * 11, none⟩))) (.agg (pOp l[i]).toArray) :=
 v_ldRdG (vs := pOp l[i]) hA rfl (fun j hj => flat_get (f := pOp) (s := 11) (fun _ => rfl) l i j h hj)
theorem ld_opR {W : World} {b : Nat} {o0 o1 o2 o3 o4 o5 o6 o7 o8 o9 o10 : Value} : RunV p_ W [pt b (.cells #[o0, o1, o2, o3, o4, o5, o6, o7, o8, o9, o10] 36)] (sLoad 31 (.pointer (some ⟨b, 2, none⟩))) (.agg #[o2, o3, o4, o5]) :=
 v_ldRdG (o := 0) (j := 2) (cs := [o0, o1, o2, o3, o4, o5, o6, o7, o8, o9, o10]) (vs := [o2, o3, o4, o5]) (m := 11) (n := 4) (rd_pt rfl) rfl (fun i hi => by
  have : i = 0 \/ i = 1 \/ i = 2 \/ i = 3 := by omega
  rcases this with rfl | rfl | rfl | rfl <;> rfl)
theorem ld_opX {W : World} {b : Nat} {o0 o1 o2 o3 o4 o5 o6 o7 o8 o9 o10 : Value} : RunV p_ W [pt b (.cells #[o0, o1, o2, o3, o4, o5, o6, o7, o8, o9, o10] 36)] (sLoad 34 (.pointer (some ⟨b, 6, none⟩))) (.agg #[o6, o7, o8]) :=
 v_ldRdG (o := 0) (j := 6) (cs := [o0, o1, o2, o3, o4, o5, o6, o7, o8, o9, o10]) (vs := [o6, o7, o8]) (m := 11) (n := 3) (rd_pt rfl) rfl (fun i hi => by
  have : i = 0 \/ i = 1 \/ i = 2 := by omega
  rcases this with rfl | rfl | rfl <;> rfl)
theorem nnS {α : Type} {l : List α} {a : Option Addr} (h1 : 0 < l.length -> ∃ g, a = some ⟨g, 0, none⟩) (h2 : a = none) : l = [] := List.eq_nil_of_length_eq_zero (by
 rcases Nat.eq_zero_or_pos l.length with z | z
 ·exact z
 ·obtain ⟨_, h3⟩ := h1 z; rw [h3] at h2; cases h2)
def bdF (n : Int) : Int := (n.tmod 3000 + 3000) % 3000
theorem look_ok {T : Nat} {Z : Cs} {key : List UInt8} {R : List Fd} {now : Int} (hZ : CsOk T Z) : CsOk T (lookF Z key R now).S := by
 unfold lookF
 cases h : findF Z key R with
 | none => exact hZ
 | some g => exact touch_ok hZ (hZ.fo key g (find_mem h).1).1
theorem look_bound {T : Nat} {Z : Cs} {key : List UInt8} {R : List Fd} {now : Int} (hZ : CsOk T Z) : (lookF Z key R now).S.bound = Z.bound := by
 unfold lookF
 cases h : findF Z key R <;> rfl
set_option maxRecDepth 20000 in
theorem cacheBound {W : World} [hG : Gl W] [hP : Gp W] {n : Int} {l : List Op} {a : Option Addr} {cc : Nat} (hO : ∀ A, RdB W A a (l.length * 11) (l.flatMap pOp)) (hok : ∀ o ∈ l, OpOk W o) (hs : sumO l ≤ 1048576) :
    Cn p_ 6 [.int .i64 n, .slice a l.length cc] W [] (fun _ : Unit => .bool true) (fun _ => []) := by
  have t1 : -3000 < n.tmod 3000 ∧ n.tmod 3000 < 3000 := ⟨Int.lt_tmod_of_pos n (by decide), Int.tmod_lt_of_pos n (by decide)⟩
  have hbd : 0 ≤ bdF n ∧ bdF n < 3000 := by unfold bdF; omega
  have hll : l.length ≤ 1048576 := by
    have : l.length ≤ sumO l := by
      unfold sumO
      clear hO hok hs
      induction l with
      | nil => simp
      | cons o r ih => simp only [List.length_cons, List.map_cons, List.sum_cons]; have : 1 ≤ opM o := by unfold opM; omega
                       omega
    omega
  (refine S.law23_CacheBound_s.cn fun F => ?_; unfold S.law23_CacheBound; simp only [ca_, na_])
  refine o_ (v_remt (by decide)) ?_
  refine ad_ ?_
  refine o_ (v_rem (by omega) (by decide)) ?_
  rw [show (n.tmod 3000 + 3000) % 3000 = bdF n from rfl]
  refine e_call (new (b := bdF n) (by omega) (by omega)) .nil fun c => ?_
  refine nr_ ?_
  refine xt_ ?_; refine xt_ ?_
  refine e_call num_ .nil fun _ => ?_
  refine nr_ ?_
  refine o_ v_neq ?_
  rw [dF_ (by decide)]
  refine e_gdT (e_gdT (o_ v_eqNil1 ?_)); refine o_ v_pickF (e_gdT (c_ knows fun _ => ?_))
  refine e_gdT (o_ v_notT (o_ v_pickF (e_condF (e_imp (M := pu True :: pu True :: IsC c (emptyS (bdF n)) :: F) (.pu trivial (.pu trivial im_)) ?_))))
  refine e_loop1 (fun k y => [ex fun x : Nat × Cs => all [pu (k + x.1 = l.length ∧ y = .int .i64 (x.1 : Int) ∧ CsOk (sumO (l.take x.1)) x.2 ∧ x.2.bound = bdF n), IsC c x.2, pu True, pu True]] ++ F) l.length ?_ ?_
  · refine .ex (0, emptyS (bdF n)) (.all ?_)
    refine nr_ ?_
    refine .pu ⟨rfl, rfl, (empty_ok (by omega) (by omega)), rfl⟩ ?_
    exact im_
  intro k ds y
  refine nr_ ?_
  refine e_ex Pick.here fun x => e_all Pick.here ?_
  obtain ⟨i, Z⟩ := x
  refine nr_ ?_
  refine e_pu Pick.here fun hi => ?_
  obtain ⟨hki, rfl, hZ, hZb⟩ := hi
  (try dsimp only at hki hZ hZb)
  refine o_ v_len (e_ask v_lss .nil (fun h => ?_) (fun h => ?_))
  rotate_left
  · refine e_condF ?_
    refine e_retT () ?_
    exact im_
  have hin : i < l.length := by omega
  have hst := sumO_take hin
  have hle := sumO_le l (i + 1)
  obtain ⟨ga, oa, rfl, _⟩ := (hO (pu True)).at_ (by omega)
  have hoo := hok _ (List.getElem_mem hin)
  have hld := ld_op (hO (pu True)) hin
  obtain ⟨o, ho⟩ : ∃ o, o = l[i] := ⟨_, rfl⟩
  rw [← ho] at hoo hst hld
  obtain ⟨kd, key, m, t, mi, R, ra, rc, st, X, xa, xc, D, da, dc, ak, cm⟩ := o
  obtain ⟨hR, hra, hX, hxa, hD, hda, ha1, ha2⟩ := hoo
  (try dsimp only at hR hra hX hxa hD hda ha1 ha2)
  unfold opM at hst
  (try dsimp only at hst)
  refine e_condT (o_ (v_ia i rfl hin) ?_)
  refine p_op hld ?_
  unfold pOp
  (try dsimp only)
  refine e_newA fun b8 => ?_
  refine e_stAgg (by repeat constructor) (by rfl) (by rfl) (by intro u hu; simp at hu; rcases hu with rfl | rfl | rfl | rfl | rfl | rfl | rfl | rfl | rfl | rfl | rfl <;> rfl) ?_
  have hzR := z_len R
  have hzX := z_len X
  have hZ' : CsOk (sumO (l.take (i + 1))) Z := hZ.up (by omega) (by omega)
  refine e_cut0 ([ex fun Y : Cs => all [pu (CsOk (sumO (l.take (i + 1))) Y ∧ Y.bound = bdF n), IsC c Y, pu True, pu True]] ++ F) ?_ ?_
  rotate_left
  · (refine o_ v_fa0 ?_); refine ln_ ?_
    refine e_ask v_eql .nil (fun hk0 => ?_) (fun hk0 => ?_)
    · refine e_condT ?_
      refine e_drS (e_stD v_fa0 .nil ?_); (((refine' e_stD (v_ldN ?hc) ?hi ?_); (case hi => exact .pick (by repeat constructor) .nil); (case hc => repeat constructor))); refine t_ v_fa0 (p_st ld_opR ?_)
      refine e_stD v_fa0 .nil ?_
      refine e_stD ld_opX (.pick (by repeat constructor) .nil) ?_
      refine e_stD v_fa0 .nil ?_; (((refine' e_stD (v_ldN ?hc) ?hi ?_); (case hi => exact .pick (by repeat constructor) .nil); (case hc => repeat constructor))); refine e_stD v_fa0 .nil ?_; (((refine' e_stD (v_ldN ?hc) ?hi ?_); (case hi => exact .pick (by repeat constructor) .nil); (case hc => repeat constructor)))
      refine e_call (asks (m := txt m) (t := txt t) (mi := .int .i64 mi) (hR (pu True)) hra (by omega)) (.cons (by repeat constructor) .nil) fun q => ?_
      obtain ⟨qa, qc⟩ := q
      refine nr_ ?_
      (try dsimp only)
      refine ob_ ?_; refine ob_ ?_; refine ob_ ?_; refine ob_ ?_; refine ob_ ?_; refine ob_ ?_; refine ob_ ?_; refine ob_ ?_
      refine e_call (copied (st := st) (hX (pu True)) hxa (by omega) (hD (pu True)) hda (by omega)) (.cons (by repeat constructor) (.cons (by repeat constructor) .nil)) fun q => ?_
      obtain ⟨⟨ea, ec⟩, fa, fc⟩ := q
      refine nr_ ?_
      (try dsimp only)
      refine ob_ ?_; refine ob_ ?_; refine ob_ ?_; refine ob_ ?_; refine ob_ ?_; refine ob_ ?_
      refine e_slfacts (by (repeat constructor) : Pick _ (Sl 2 68 qa qc R.length (R.flatMap pFd)) _) fun _ _ _ h1 => ?_
      refine e_slfacts (by (repeat constructor) : Pick _ (Sl 2 68 ea ec X.length (X.flatMap pFd)) _) fun _ _ _ h2 => ?_
      refine e_slfacts (by (repeat constructor) : Pick _ (Sl 1 5 fa fc D.length (D.map Sl.B)) _) fun _ _ _ h3 => ?_
      refine e_call (store (key := key) (m := m) (tg := t) (mi := mi) (R := R) (X := X) (D := D) (st := st) (asked := ak) (came := cm) hZ' (rdF_any (c := qc) h1) (nnS h1) (rdF_any (c := ec) h2) (nnS h2) (rd_sl (e := 5) (a := fa) (cap := fc) (by rw [List.length_map]) h3) (nnS h3) (by omega) (by omega) (by omega) (by omega)) (.cons (by repeat constructor) (.cons (by repeat constructor) (.cons (by repeat constructor) (.cons (by repeat constructor) .nil)))) fun r => ?_
      obtain ⟨Y, hY⟩ := r
      refine nr_ ?_
      (try dsimp only)
      refine e_sat (.ex Y (.all ?_))
      refine nr_ ?_
      refine .pu ⟨hY.1, hY.bound.trans hZb⟩ ?_
      exact im_
    refine e_condF (e_ask v_eql .nil (fun hk1 => ?_) (fun hk1 => ?_))
    · refine e_condT ?_
      refine e_drS (e_stD v_fa0 .nil ?_); (((refine' e_stD (v_ldN ?hc) ?hi ?_); (case hi => exact .pick (by repeat constructor) .nil); (case hc => repeat constructor))); refine t_ v_fa0 (p_st ld_opR ?_)
      refine e_stD v_fa0 .nil ?_; (((refine' e_stD (v_ldN ?hc) ?hi ?_); (case hi => exact .pick (by repeat constructor) .nil); (case hc => repeat constructor)))
      refine e_call (asks (m := txt m) (t := txt t) (mi := .int .i64 mi) (hR (pu True)) hra (by omega)) (.cons (by repeat constructor) .nil) fun q => ?_
      obtain ⟨qa, qc⟩ := q
      refine nr_ ?_
      (try dsimp only)
      refine ob_ ?_; refine ob_ ?_; refine ob_ ?_; refine ob_ ?_
      refine e_slfacts (by (repeat constructor) : Pick _ (Sl 2 68 qa qc R.length (R.flatMap pFd)) _) fun _ _ _ h1 => ?_
      refine e_call (look (key := key) (m := m) (tg := t) (mi := mi) (R := R) (now := cm) hZ' (rdF_any (c := qc) h1) (by omega)) (.cons (by repeat constructor) (.cons (by repeat constructor) .nil)) fun q => ?_
      refine nr_ ?_
      refine e_sat (.ex (lookF Z key R cm).S (.all ?_))
      refine nr_ ?_
      refine .pu ⟨look_ok hZ', (look_bound hZ').trans hZb⟩ ?_
      exact im_
    refine e_condF (e_ask v_eql .nil (fun hk2 => ?_) (fun hk2 => ?_))
    · refine e_condT ?_
      refine e_drS (e_stD v_fa0 .nil ?_); (((refine' e_stD (v_ldN ?hc) ?hi ?_); (case hi => exact .pick (by repeat constructor) .nil); (case hc => repeat constructor))); refine t_ v_fa0 (p_st ld_opR ?_)
      refine e_stD v_fa0 .nil ?_
      refine e_stD ld_opX (.pick (by repeat constructor) .nil) ?_
      refine e_stD v_fa0 .nil ?_; (((refine' e_stD (v_ldN ?hc) ?hi ?_); (case hi => exact .pick (by repeat constructor) .nil); (case hc => repeat constructor))); refine e_stD v_fa0 .nil ?_; (((refine' e_stD (v_ldN ?hc) ?hi ?_); (case hi => exact .pick (by repeat constructor) .nil); (case hc => repeat constructor)))
      refine e_call (asks (m := txt m) (t := txt t) (mi := .int .i64 mi) (hR (pu True)) hra (by omega)) (.cons (by repeat constructor) .nil) fun q => ?_
      obtain ⟨qa, qc⟩ := q
      refine nr_ ?_
      (try dsimp only)
      refine ob_ ?_; refine ob_ ?_; refine ob_ ?_; refine ob_ ?_; refine ob_ ?_; refine ob_ ?_; refine ob_ ?_; refine ob_ ?_
      refine e_call (copied (st := st) (hX (pu True)) hxa (by omega) (hD (pu True)) hda (by omega)) (.cons (by repeat constructor) (.cons (by repeat constructor) .nil)) fun q => ?_
      obtain ⟨⟨ea, ec⟩, fa, fc⟩ := q
      refine nr_ ?_
      (try dsimp only)
      refine ob_ ?_; refine ob_ ?_; refine ob_ ?_; refine ob_ ?_; refine ob_ ?_; refine ob_ ?_
      refine e_slfacts (by (repeat constructor) : Pick _ (Sl 2 68 qa qc R.length (R.flatMap pFd)) _) fun _ _ _ h1 => ?_
      refine e_slfacts (by (repeat constructor) : Pick _ (Sl 2 68 ea ec X.length (X.flatMap pFd)) _) fun _ _ _ h2 => ?_
      refine e_call (merge (key := key) (m := m) (tg := t) (mi := mi) (R := R) (X := X) (st := st) (asked := ak) (came := cm) hZ (rdF_any (c := qc) h1) (rdF_any (c := ec) h2) (by omega) (by omega) (by omega)) (.cons (by repeat constructor) (.cons (by repeat constructor) (.cons (by repeat constructor) .nil))) fun r => ?_
      refine nr_ ?_
      refine e_sat (.ex r.Z' (.all ?_))
      refine nr_ ?_
      refine .pu ⟨r.h.1.up (by omega) (by omega), r.h.2.trans hZb⟩ ?_
      exact im_
    refine e_condF (o_ v_fa0 (ln_ ?_))
    refine e_call (forget (key := key) hZ') (by (repeat (first | exact Picks.nil | (apply Picks.cons; (focus repeat constructor))))) fun r => ?_
    obtain ⟨Y, hY, hsub, hof⟩ := r
    refine nr_ ?_
    (try dsimp only)
    have hfn : findF Y key R = none := by unfold findF; rw [hof]; rfl
    have hlk : lookF Y key R cm = ⟨0, [], [], 0, 0, Y⟩ := by unfold lookF; rw [hfn]
    refine e_cut1 (fun z => [pu (z = .int .i64 0), IsC c Y, pu True, pu True] ++ F) ?_ ?_
    rotate_left
    · refine e_drS ?_
      refine e_stD v_fa0 .nil ?_; (((refine' e_stD (v_ldN ?hc) ?hi ?_); (case hi => exact .pick (by repeat constructor) .nil); (case hc => repeat constructor))); refine e_stD v_fa0 .nil ?_
      refine e_stD ld_opR (.pick (by repeat constructor) .nil) ?_
      refine e_stD v_fa0 .nil ?_; (((refine' e_stD (v_ldN ?hc) ?hi ?_); (case hi => exact .pick (by repeat constructor) .nil); (case hc => repeat constructor)))
      refine e_andS ?_ ?_
      · refine e_call (asks (m := txt m) (t := txt t) (mi := .int .i64 mi) (hR (pu True)) hra (by omega)) (.cons (by repeat constructor) .nil) fun q => ?_
        obtain ⟨qa, qc⟩ := q
        refine nr_ ?_
        (try dsimp only)
        refine ob_ ?_; refine ob_ ?_; refine ob_ ?_; refine ob_ ?_
        refine e_slfacts (by (repeat constructor) : Pick _ (Sl 2 68 qa qc R.length (R.flatMap pFd)) _) fun _ _ _ h1 => ?_
        refine e_andS ?_ ?_
        · refine e_call (look (key := key) (m := m) (tg := t) (mi := mi) (R := R) (now := cm) hY (rdF_any (c := qc) h1) (by omega)) (.cons (by repeat constructor) (.cons (by repeat constructor) .nil)) fun q => ?_
          rw [hlk]
          unfold lkV
          refine nr_ ?_
          (try dsimp only)
          (((refine' e_stD (v_extN ?hc) .nil ?_); (case hc => repeat constructor))); (((refine' e_stD (v_extN ?hc) .nil ?_); (case hc => repeat constructor))); (((refine' e_stD (v_extN ?hc) .nil ?_); (case hc => repeat constructor))); refine e_newA fun g => ?_; refine ob_ ?_; refine ob_ ?_; refine ob_ ?_; refine ob_ ?_; refine ob_ ?_; refine ob_ ?_; refine ob_ ?_; refine ob_ ?_; refine ob_ ?_; refine sg_ ?_; refine ob_ ?_; refine ob_ ?_
          refine e_sat (.pu rfl ?_)
          exact im_
        · (refine e_newA fun g => ?_); refine ob_ ?_; refine ob_ ?_; refine ob_ ?_; refine ob_ ?_; refine ob_ ?_; refine ob_ ?_
          refine e_call (look (key := key) (m := m) (tg := t) (mi := mi) (R := R) (now := cm) hY (rdF_any (c := qc) h1) (by omega)) (.cons (by repeat constructor) (.cons (by repeat constructor) .nil)) fun q => ?_
          rw [hlk]
          unfold lkV
          refine nr_ ?_
          (try dsimp only)
          refine xs_ ?_; (((refine' e_stD (v_extN ?hc) .nil ?_); (case hc => repeat constructor))); (((refine' e_stD (v_extN ?hc) .nil ?_); (case hc => repeat constructor))); refine sg_ ?_; refine ob_ ?_; refine ob_ ?_
          refine e_sat (.pu rfl ?_)
          exact im_
      · (refine e_newA fun g => ?_); refine ob_ ?_; refine ob_ ?_; refine ob_ ?_; refine ob_ ?_; refine ob_ ?_; refine ob_ ?_
        refine e_call (asks (m := txt m) (t := txt t) (mi := .int .i64 mi) (hR (pu True)) hra (by omega)) (.cons (by repeat constructor) .nil) fun q => ?_
        obtain ⟨qa, qc⟩ := q
        refine nr_ ?_
        (try dsimp only)
        refine ob_ ?_; refine ob_ ?_; refine ob_ ?_; refine ob_ ?_
        refine e_slfacts (by (repeat constructor) : Pick _ (Sl 2 68 qa qc R.length (R.flatMap pFd)) _) fun _ _ _ h1 => ?_
        refine e_call (look (key := key) (m := m) (tg := t) (mi := mi) (R := R) (now := cm) hY (rdF_any (c := qc) h1) (by omega)) (.cons (by repeat constructor) (.cons (by repeat constructor) .nil)) fun q => ?_
        rw [hlk]
        unfold lkV
        refine nr_ ?_
        (try dsimp only)
        refine xs_ ?_; (((refine' e_stD (v_extN ?hc) .nil ?_); (case hc => repeat constructor))); (((refine' e_stD (v_extN ?hc) .nil ?_); (case hc => repeat constructor))); refine sg_ ?_; refine ob_ ?_; refine ob_ ?_
        refine e_sat (.pu rfl ?_)
        exact im_
    intro ds3 z
    refine nr_ ?_
    refine e_pu .here fun hz => ?_
    subst hz
    refine o_ v_neq ?_
    rw [dF_ (by decide)]
    refine e_condF (e_sat (.ex Y (.all ?_)))
    refine nr_ ?_
    refine .pu ⟨hY, hsub.bound.trans hZb⟩ ?_
    exact im_
  intro ds4
  refine nr_ ?_
  refine e_ex Pick.here fun Y => e_all Pick.here ?_
  refine nr_ ?_
  refine e_pu Pick.here fun hY => ?_
  obtain ⟨hY, hYb⟩ := hY
  have hyl := hY.len
  have hyle := hY.le
  have hyo := hY.ordl
  refine e_call bytes_ (by (repeat (first | exact Picks.nil | (apply Picks.cons; (focus repeat constructor))))) fun _ => ?_
  refine nr_ ?_
  refine o_ v_gtr ?_
  rw [dF_ (by omega)]
  refine e_gdT (e_gdT (e_call bytes_ (by (repeat (first | exact Picks.nil | (apply Picks.cons; (focus repeat constructor))))) fun _ => ?_))
  refine nr_ ?_
  refine e_gdT (e_gdT (e_call len_ (by (repeat (first | exact Picks.nil | (apply Picks.cons; (focus repeat constructor))))) fun _ => ?_))
  refine nr_ ?_
  refine e_gdT ?_; (refine o_ (v_mul (by omega) (by omega)) ?_); refine e_gdT (o_ v_lss ?_)
  rw [dF_ (by omega)]
  refine o_ v_pickF (e_condF (ad_ ?_))
  refine e_next1 (k - 1) (by omega) (.ex (i + 1, Y) (.all ?_))
  refine nr_ ?_
  refine .pu ⟨by omega, by norm_cast, hY, hYb⟩ ?_
  exact im_
end Go.Proofs.YthomhkpedghhgaaGreatDoor.FD
namespace Go.Proofs.YthomhkpedghhgaaGreatDoor.FD
open Go Go.Proofs Go.RowKit Go.ChangeShapes Sh Sl T
set_option maxRecDepth 100000 in
theorem open_calls {H : Type} {enc : TypeId × Value -> H} {W : World} {sp : Nat -> Bool} {held : Bool} {v : Value} {d : DataW H} {ps : List MemPlace} {r : Reach} {b0 : Nat} (hval : Value.okWide p_ W r b0 22 v) (hd : DataW.Trod enc p_ W 0 sp held 22 v d ps) :
  ∃ (a : Option Addr) (c : Nat) (l : List Op), v = .slice a l.length c /\ (∀ A, RdB W A a (l.length * 11) (l.flatMap pOp)) /\ (∀ o ∈ l, OpOk W o) /\ sumO l + 1 <= Rows.uptoBulk d := by
 obtain ⟨fuel, hf⟩ := open_slice (e := 36) (by kernel_rfl) hval hd
 obtain ⟨a, n, c, xs, e, g1, g2, g3, g4, g5⟩ := open_old (e := 36) (s := 11) (rd := fun (o : Op) cs => OpOk W o /\ cs = pOp o) (m := opM) (by kernel_rfl) (by kernel_rfl) (by omega) (fun n cs x h => op_cells n cs x h) hf
 have hn := g4.len
 subst hn
 have h' : Old W 11 (fun (o : Op) cs => cs = pOp o) a xs.length xs := ⟨rfl, fun h => by
  obtain ⟨g, o, e, hg, hc⟩ := g4.at_ h
  exact ⟨g, o, e, hg, fun i hi => by
   obtain ⟨cs, h1, h2, h3⟩ := hc i hi
   exact ⟨cs, h1, h2.2, h3⟩⟩⟩
 refine ⟨a, c, xs, by injection e, fun A => h'.flat (f := pOp) (fun _ => rfl) (by omega) A, fun o ho => ?_, g5⟩
 obtain ⟨i, hi, rfl⟩ := List.mem_iff_getElem.1 ho
 obtain ⟨_, _, _, _, hc⟩ := g4.at_ (by omega)
 obtain ⟨_, _, h2, _⟩ := hc i hi
 exact h2.1
end Go.Proofs.YthomhkpedghhgaaGreatDoor.FD
