/- A text's time; what must come. No conditions but those that each names. (18 texts made one; each says below what it is.) -/
import Derived.Test.YtcmpkkkigmheoaaGreatDoorK5
import Derived.Test.YtcmpkkkigmheoaaGreatDoorK4
import Derived.Test.YtcmpkkkigmheoaaGreatDoorK2
import Derived.KernelRfl
import Derived.Test.YtcmpkkkigmheoaaGreatDoorRows
import Derived.Deep.DeepHandedRow
import Derived.LaidMore
import Derived.Lay
import Derived.MakeChecks
set_option linter.unusedVariables false
set_option linter.unusedSimpArgs false
set_option linter.unusedSectionVars false
/-! A text's time; what must come. No conditions but those that each names. -/
namespace Go.Proofs.YtcmpkkkigmheoaaGreatDoor.D
open Go Go.Proofs Go.RowKit Go.Proofs.YtcmpkkkigmheoaaGreatDoor.Sh Go.Proofs.YtcmpkkkigmheoaaGreatDoor.Sl Go.Proofs.YtcmpkkkigmheoaaGreatDoor.T
def rdK (now : Int) (k : Nat) : List UInt8 → Option Dt := if k = 0 then firstR else if k = 1 then secondR now else thirdR
def kfn (k : Nat) : FuncId := if k = 0 then 35 else if k = 1 then 36 else 37
def paF (now : Int) (l : List UInt8) (k : Nat) : Nat → Option Int
  | 0 => none
  | m + 1 => match tryR (k : Int) now l (rdK now k) with
    | some n => some n
    | none => paF now l (k + 1) m
def paR (now : Int) (l : List UInt8) : Option Int := paF now l 0 3
def paN (now : Int) (l : List UInt8) : Int := (paR now l).getD 0
def paE (now : Int) (l : List UInt8) : Int := if (paR now l).isSome then 0 else 41
theorem rdK_ok {W : World} {now : Int} {l : List UInt8} (hl : l.length ≤ 4611686018427387904) {k : Nat} (hk : k < 3) (p : Nat) : CnP Tryz.prog (kfn k) [.pointer (some ⟨p, 0, none⟩), .int .i64 now] W [IsRd p l] (fun x : Sm (rdK now k l) => .agg (dtA x.1)) (fun _ => []) (fun _ : Nn (rdK now k l) => pnD) (fun _ => []) := by
  match k, hk with
  | 0, _ => exact first
  | 1, _ => exact second hl
  | 2, _ => exact third
theorem kfn_get {k : Nat} (hk : k < 3) : (#[fn 35, fn 36, fn 37] : Array Value)[k]? = some (fn (kfn k)) := by
  match k, hk with
  | 0, _ => rfl
  | 1, _ => rfl
  | 2, _ => rfl
theorem parse {W : World} {now : Int} {l : List UInt8} (hl : l.length ≤ 4611686018427387904) : Cn Tryz.prog 21 [txt l, .int .i64 now] W [] (fun _ : Unit => .tuple #[.int .i64 (paN now l), .int .i64 (paE now l)]) (fun _ => []) := by
  (refine S.dates_Parse_cn fun F => ?_; unfold S.dates_Parse; simp only [List.cons_append, List.nil_append])
  refine e_opN v_rv Imp.nil ?_
  refine e_loop3 (fun m y6 y7 y13 => (ex fun k : Nat => pu (m + k = 3 ∧ y6 = .int .i64 0 ∧ y7 = .int .i64 41 ∧ y13 = .int .i64 (k : Int) ∧ paF now l k m = paR now l)) :: F) 3 ?_ ?_
  · refine .ex 0 (.pu ⟨by omega, rfl, rfl, rfl, rfl⟩ ?_)
    (repeat (first | exact Imp.refl | exact Imp.nil | (apply Imp.pick; (focus ((repeat constructor); done))) | refine Imp.drop ?_))
  intro m ds y6 y7 y13
  (try simp only [List.cons_append, List.nil_append, -eq_self])
  refine e_ex Pick.here fun k => e_pu Pick.here fun hi => ?_
  obtain ⟨hmk, rfl, rfl, rfl, hpa⟩ := hi
  (refine e_ask v_lss Imp.nil (fun h => ?_) (fun h => ?_))
  · refine e_condT ?_
    obtain ⟨m', rfl⟩ : ∃ m', m = m' + 1 := ⟨m - 1, by omega⟩
    refine e_opN (v_ixA (v := fn (kfn k)) k (by rfl) (by omega) (kfn_get (by omega))) Imp.nil ?_
    (refine' e_call (try_ (f := kfn k) (k := (k : Int)) (now := now) (l := l) (rd := rdK now k) (rdK_ok hl (by omega))) ?hp fun _ => ?_; (case hp => (repeat (first | exact Picks.nil | (apply Picks.cons; (focus (repeat constructor)))))); (try simp only [List.cons_append, List.nil_append, Bool.not_true, Bool.not_false]))
    unfold paF at hpa
    (((with_reducible refine' e_opN (v_extN ?hc) Imp.nil ?_); (case hc => (repeat (first | exact Nth.here | apply Nth.there))))); (((with_reducible refine' e_opN (v_extN ?hc) Imp.nil ?_); (case hc => (repeat (first | exact Nth.here | apply Nth.there)))))
    cases ht : tryR (k : Int) now l (rdK now k) with
    | some n =>
      rw [ht] at hpa
      simp only at hpa
      simp only [Option.isSome_some, Option.getD_some]
      ((with_reducible refine e_condT ?_))
      rw [show paN now l = n by unfold paN; rw [← hpa]; rfl, show paE now l = 0 by unfold paE; rw [← hpa]; rfl]
      (first | refine e_ret (()) rfl ?_ | refine e_retT (()) ?_)
      (repeat (first | exact Imp.refl | exact Imp.nil | (apply Imp.pick; (focus ((repeat constructor); done))) | refine Imp.drop ?_))
    | none =>
      rw [ht] at hpa
      simp only at hpa
      simp only [Option.isSome_none, Option.getD_none]
      ((with_reducible refine e_condF ?_)); (((with_reducible refine e_opN (v_add ?h1 ?h2) Imp.nil ?_); (case h1 => omega); (case h2 => omega)))
      refine e_next3 m' (by omega) (.ex (k + 1) (.pu ⟨by omega, rfl, rfl, rfl, hpa⟩ ?_))
      (repeat (first | exact Imp.refl | exact Imp.nil | (apply Imp.pick; (focus ((repeat constructor); done))) | refine Imp.drop ?_))
  · refine e_condF ?_
    have hm0 : m = 0 := by omega
    subst hm0
    have hpn : paR now l = none := by rw [← hpa]; rfl
    rw [show paN now l = 0 by unfold paN; rw [hpn]; rfl, show paE now l = 41 by unfold paE; rw [hpn]; rfl]
    (first | refine e_ret (()) rfl ?_ | refine e_retT (()) ?_)
    (repeat (first | exact Imp.refl | exact Imp.nil | (apply Imp.pick; (focus ((repeat constructor); done))) | refine Imp.drop ?_))
def kn1 : List UInt8 := [83, 117, 110, 100, 97, 121, 44, 32, 48, 54, 45, 78, 111, 118, 45, 57, 52, 32, 48, 56, 58, 52, 57, 58, 51, 55, 32, 71, 77, 84]
def kn2 : List UInt8 := [83, 117, 110, 44, 32, 48, 54, 32, 78, 111, 118, 32, 49, 57, 57, 52, 32, 48, 56, 58, 52, 57, 58, 51, 55, 32, 71, 77, 84]
theorem kn_f : foS 784111777 = kn2 := by kernel_rfl
theorem kn_e : spE 784111777 = 0 := by kernel_rfl
theorem kn_p : paR 784111777 kn1 = some 784111777 := by kernel_rfl
end Go.Proofs.YtcmpkkkigmheoaaGreatDoor.D
/-! A request's conditions: tags that match, a date. Fields of together at most 2097152 bytes. -/
namespace Go.Proofs.YtcmpkkkigmheoaaGreatDoor.FD
open Go Go.Proofs Go.RowKit Go.Proofs.YtcmpkkkigmheoaaGreatDoor.Sh Go.Proofs.YtcmpkkkigmheoaaGreatDoor.Sl Go.Proofs.YtcmpkkkigmheoaaGreatDoor.T
abbrev Tg := Bool × List UInt8
/-- what a target has now -/
structure En where
  tag : Tg
  mt : Int
  has : Bool
def szF : List Fd → Nat
  | [] => 0
  | f :: r => f.1.length + f.2.length + 3 + szF r
theorem sz_app (a b : List Fd) : szF (a ++ b) = szF a + szF b := by
  induction a with
  | nil => simp [szF]
  | cons f r ih => simp [szF, ih]; omega
theorem sz_mem {l : List Fd} {f : Fd} (h : f ∈ l) : f.1.length + f.2.length + 3 ≤ szF l := by
  induction l with
  | nil => cases h
  | cons g r ih =>
    rcases List.mem_cons.1 h with rfl | h
    · simp [szF]
    · have := ih h
      simp [szF]; omega
theorem sz_len (l : List Fd) : 3 * l.length ≤ szF l := by
  induction l with
  | nil => simp [szF]
  | cons g r ih => simp [szF]; omega
theorem sz_ok {l : List Fd} (h : szF l ≤ 2097152) : hOK l := by
  refine ⟨by have := sz_len l; omega, fun f hf => ?_⟩
  have := sz_mem hf
  omega
theorem sz_filter (p : Fd → Bool) (l : List Fd) : szF (l.filter p) ≤ szF l := by
  induction l with
  | nil => simp [szF]
  | cons g r ih =>
    rw [List.filter_cons]
    split <;> simp [szF] <;> omega
theorem sum_vals (l : List Fd) (n : List UInt8) : sumL (valsF l n) + 3 * (valsF l n).length ≤ szF l := by
  unfold valsF
  induction l with
  | nil => simp [sumL, szF]
  | cons g r ih =>
    rw [List.filter_cons]
    split
    · simp [sumL, szF] at ih ⊢; omega
    · simp [szF] at ih ⊢; omega
theorem join_len (sep : List UInt8) (V : List (List UInt8)) : (joinF sep V).length ≤ sumL V + sep.length * V.length := by
  cases V with
  | nil => simp [joinF]
  | cons v r =>
    unfold joinF
    rw [List.length_append, flat_sum, sumL, List.length_cons, Nat.mul_add]
    omega
theorem sz_join {l : List Fd} {n : List UInt8} : (joinF [44] (valsF l n)).length ≤ szF l := by
  have h1 := join_len [44] (valsF l n)
  have h2 := sum_vals l n
  simp at h1
  omega
theorem first_len {l : List Fd} {n : List UInt8} : (firstF l n).1.length ≤ szF l := by
  unfold firstF
  split
  · simp
  · rename_i v r hv
    obtain ⟨f, hf, rfl⟩ := vals_mem (l := l) (n := n) (v := v) (by rw [hv]; simp)
    have := sz_mem hf
    simp only
    omega
def tgsF (alike : Tg → Bool) (l : List Fd) (n : List UInt8) (has : Bool) : Bool × Bool :=
  if valsF l n = [] then (false, false)
  else if (tagsF (joinF [44] (valsF l n))).2.2 ≠ 0 ∨ has = false then (false, true)
  else ((tagsF (joinF [44] (valsF l n))).2.1 || (tagsF (joinF [44] (valsF l n))).1.any alike, true)
def daF (l : List Fd) (n : List UInt8) (now : Int) : Int × Bool := (D.paN now (firstF l n).1, (firstF l n).2 && decide (D.paE now (firstF l n).1 = 0))
def vEn (e : En) : Value := .agg #[.bool e.tag.1, txt e.tag.2, .int .i64 e.mt, .bool e.has]
def cAsk (lk : Bool) (s : Value) (e : En) (now : Int) : Array Value := #[.bool lk, s, .bool e.tag.1, txt e.tag.2, .int .i64 e.mt, .bool e.has, .int .i64 now]
theorem ld_tag7 {W : World} {b : Nat} {lk : Bool} {s : Value} {e : En} {now : Int} {T : TypeId} : RunV Tryz.prog W [pt b (.cells (cAsk lk s e now) T (0, 0))] (sLoad 28 (.pointer (some ⟨b, 2 + 0, none⟩))) (vTag e.tag) :=
  v_ldRdG (o := 0) (j := 2) (vs := pTag e.tag) (rd_pt (cs := [.bool lk, s, .bool e.tag.1, txt e.tag.2, .int .i64 e.mt, .bool e.has, .int .i64 now]) rfl) rfl (fun i hi => by
    match i, hi with
    | 0, _ => rfl
    | 1, _ => rfl)
theorem ld_tagAt {W : World} {xs : List Tg} {i n g c : Nat} (h : i < xs.length) (hn : n = xs.length) : RunV Tryz.prog W [Sl 2 28 (some ⟨g, 0, none⟩) c n (xs.flatMap pTag)] (sLoad 28 (.pointer (some ⟨g, 0 + i * 2, none⟩))) (vTag xs[i]) := by
  subst hn
  exact v_ldRdG (vs := pTag xs[i]) (rd_slG (flat_len (f := pTag) (s := 2) (fun _ => rfl) xs) (fun _ => ⟨g, rfl⟩)) rfl (fun j hj => flat_get (f := pTag) (s := 2) (fun _ => rfl) xs i j h hj)
theorem tags_num (l : List UInt8) : (tagsF l).1.length ≤ l.length + 1 := by
  have hn := elems_num (q := true) (e := false) (l := l)
  unfold tagsF
  split
  · simp
  · cases hx : tagLF l with
    | none => simp
    | some xs =>
      have : xs.length ≤ l.length + 1 := by
        unfold tagLF listF at hx
        split at hx
        · injection hx with hx
          rw [← hx, List.length_map]
          omega
        · cases hx
      simp only
      split
      · simp
      · exact this
theorem askTags {W : World} {f : FuncId} {alike : Tg → Bool} {l : List Fd} {n : List UInt8} {a : Option Addr} {c : Nat} {lk : Bool} {e : En} {now : Int} {A : HP} (hA : RdF W A a l) (hl : szF l ≤ 2097152) (hn : n.length ≤ 4194304)
    (hone : ∀ t : Tg, Cn Tryz.prog f [vTag t, vTag e.tag] W [] (fun _ : Unit => .bool (alike t)) (fun _ => [])) :
    Cn Tryz.prog 12 [.agg (cAsk lk (.slice a l.length c) e now), txt n, fn f] W [A] (fun _ : Unit => .tuple #[.bool (tgsF alike l n e.has).1, .bool (tgsF alike l n e.has).2]) (fun _ => [A]) := by
  have hok := sz_ok hl
  have hj := sz_join (l := l) (n := n)
  have hvn := vals_len l n
  have hln := sz_len l
  (refine S.cond_asked_tags_cn fun F => ?_; unfold S.cond_asked_tags; simp only [List.cons_append, List.nil_append])
  refine e_boxA fun b3 => ?_
  refine e_opN v_fa0 Imp.nil ?_
  refine e_opN (v_ldN (.there .here)) (.pick .here .nil) ?_
  refine e_call (values hA hok hn) (.cons (.there .here) .nil) fun r => ?_
  obtain ⟨va, vc⟩ := r
  (try simp only [List.cons_append, List.nil_append, -eq_self])
  refine e_opN v_len Imp.nil ?_
  unfold tgsF
  generalize hV : valsF l n = V at hj hvn ⊢
  refine e_ask v_eql Imp.nil (fun h => ?_) (fun h => ?_)
  · have hVn : V = [] := List.eq_nil_of_length_eq_zero (by omega)
    rw [if_pos hVn]
    refine e_condT ?_
    (first | refine e_ret (()) rfl ?_ | refine e_retT (()) ?_)
    (repeat (first | exact Imp.refl | exact Imp.nil | (apply Imp.pick; (focus ((repeat constructor); done))) | refine Imp.drop ?_))
  · have hVn : ¬ V = [] := fun c => h (by rw [c]; rfl)
    rw [if_neg hVn]
    refine e_condF ?_
    refine e_call (join (sep := [44]) (V := V) (by decide) (by decide) (by omega) (by omega)) (.cons (.there .here) .nil) fun _ => ?_
    (try simp only [List.cons_append, List.nil_append, -eq_self])
    have hnum := tags_num (joinF [44] V)
    refine e_call (tags (l := joinF [44] V) (by omega)) .nil fun r => ?_
    obtain ⟨ta, tc⟩ := r
    (try simp only [List.cons_append, List.nil_append, -eq_self])
    refine e_opN (v_extN (vs := [_, _, _]) .here) Imp.nil ?_
    refine e_opN (v_extN (vs := [_, _, _]) (.there .here)) Imp.nil ?_
    refine e_opN (v_extN (vs := [_, _, _]) (.there (.there .here))) Imp.nil ?_
    generalize (tagsF (joinF [44] V)).2.2 = er
    generalize (tagsF (joinF [44] V)).2.1 = any
    generalize (tagsF (joinF [44] V)).1 = X at hnum ⊢
    refine e_opN v_neq Imp.nil ?_
    by_cases her : er = 0
    · subst her
      rw [decide_eq_false (fun c => c rfl)]
      refine e_gdT ?_
      refine e_opN v_fa0 Imp.nil ?_
      refine e_gdT ?_
      refine e_opN v_fa Imp.nil ?_
      refine e_gdT ?_
      refine e_opN (v_ld (v := .bool e.has) rfl) (.pick (by (repeat constructor)) .nil) ?_
      refine e_gdT ?_
      refine e_opN v_not Imp.nil ?_
      refine e_opN v_pickF Imp.nil ?_
      cases hh : e.has with
      | false =>
        rw [if_pos (.inr rfl)]
        refine e_condT ?_
        (first | refine e_ret (()) rfl ?_ | refine e_retT (()) ?_)
        (repeat (first | exact Imp.refl | exact Imp.nil | (apply Imp.pick; (focus ((repeat constructor); done))) | refine Imp.drop ?_))
      | true =>
        rw [if_neg (by simp)]
        refine e_condF ?_
        refine e_opN v_len Imp.nil ?_
        refine e_loop2 (fun m x y => (ex fun i : Nat => pu (m + i = X.length ∧ x = .bool (any || (X.take i).any alike) ∧ y = .int .i64 (i : Int))) :: Sl 2 28 ta tc X.length (X.flatMap pTag) :: pt b3 (.cells (cAsk lk (.slice a l.length c) e now) 38 (0, 0)) :: A :: F) X.length ?_ ?_
        · refine .ex 0 (.pu ⟨rfl, by simp, rfl⟩ ?_)
          refine .pick (by (repeat constructor)) (.pick (by (repeat constructor)) (.pick (by (repeat constructor)) ?_))
          exact .refl
        intro m ds x y
        refine e_ex .here fun i => e_pu .here fun hi => ?_
        obtain ⟨hmi, rfl, rfl⟩ := hi
        refine e_ask v_lss Imp.nil (fun h => ?_) (fun h => ?_)
        · have hil : i < X.length := by omega
          have hst : (any || (X.take (i + 1)).any alike) = ((any || (X.take i).any alike) || alike X[i]) := by
            rw [List.take_succ_eq_append_getElem hil, List.any_append]
            simp [Bool.or_assoc]
          refine e_condT ?_
          refine e_slsome (a := ta) .here (Nat.zero_lt_of_lt hil) fun g hg => ?_
          subst hg
          refine e_opN (v_ia i rfl hil) Imp.nil ?_
          refine e_opN (ld_tagAt hil rfl) (.pick (by (repeat constructor)) .nil) ?_
          refine e_newA fun b13 => ?_
          unfold vTag
          refine e_stAgg .here (by rfl) (by rfl) (by intro u hu; simp at hu; rcases hu with rfl | rfl <;> rfl) ?_
          generalize X[i] = t at hst ⊢
          cases hb : (any || (X.take i).any alike) with
          | true =>
            rw [hb, Bool.true_or] at hst
            ((with_reducible refine e_gdF1 ?_)); ((with_reducible refine e_gdF1 ?_)); ((with_reducible refine e_gdF1 ?_)); ((with_reducible refine e_gdF1 ?_)); ((with_reducible refine e_gdF1 ?_)); ((with_reducible refine e_gdF1 ?_)); (((with_reducible refine e_opN v_pickT Imp.nil ?_))); (((with_reducible refine e_opN (v_add ?h1 ?h2) Imp.nil ?_); (case h1 => omega); (case h2 => omega)))
            refine e_next2 (m - 1) (by omega) (.ex (i + 1) (.pu ⟨by omega, by rw [hst], rfl⟩ ?_))
            (repeat (first | exact Imp.refl | exact Imp.nil | (apply Imp.pick; (focus ((repeat constructor); done))) | refine Imp.drop ?_))
          | false =>
            rw [hb, Bool.false_or] at hst
            refine e_gdT ?_
            refine e_gdT ?_
            refine e_opN (v_ldAgg (cs := #[.bool t.1, txt t.2]) rfl) (.pick .here .nil) ?_
            refine e_gdT ?_
            refine e_opN v_fa0 Imp.nil ?_
            refine e_gdT ?_
            refine e_opN v_fa Imp.nil ?_
            refine e_gdT ?_
            refine e_opN ld_tag7 (.pick (by (repeat constructor)) .nil) ?_
            refine e_gdT ?_
            refine e_call (hone t) .nil fun _ => ?_
            (try simp only [List.cons_append, List.nil_append, -eq_self])
            refine e_opN v_pickF Imp.nil ?_
            refine e_opN (v_add (by omega) (by omega)) Imp.nil ?_
            refine e_next2 (m - 1) (by omega) (.ex (i + 1) (.pu ⟨by omega, by rw [hst], rfl⟩ ?_))
            (repeat (first | exact Imp.refl | exact Imp.nil | (apply Imp.pick; (focus ((repeat constructor); done))) | refine Imp.drop ?_))
        · have hie : i = X.length := by omega
          subst hie
          rw [List.take_length]
          refine e_condF ?_
          (first | refine e_ret (()) rfl ?_ | refine e_retT (()) ?_)
          (repeat (first | exact Imp.refl | exact Imp.nil | (apply Imp.pick; (focus ((repeat constructor); done))) | refine Imp.drop ?_))
    · rw [decide_eq_true her, if_pos (.inl her)]
      ((with_reducible refine e_gdF1 ?_)); ((with_reducible refine e_gdF1 ?_)); ((with_reducible refine e_gdF1 ?_)); ((with_reducible refine e_gdF1 ?_)); (((with_reducible refine e_opN v_pickT Imp.nil ?_))); ((with_reducible refine e_condT ?_))
      (first | refine e_ret (()) rfl ?_ | refine e_retT (()) ?_)
      (repeat (first | exact Imp.refl | exact Imp.nil | (apply Imp.pick; (focus ((repeat constructor); done))) | refine Imp.drop ?_))
theorem askDate {W : World} {l : List Fd} {n : List UInt8} {a : Option Addr} {c : Nat} {lk : Bool} {e : En} {now : Int} {A : HP} (hA : RdF W A a l) (hl : szF l ≤ 2097152) (hn : n.length ≤ 4194304) :
    Cn Tryz.prog 14 [.agg (cAsk lk (.slice a l.length c) e now), txt n] W [A] (fun _ : Unit => .tuple #[.int .i64 (daF l n now).1, .bool (daF l n now).2]) (fun _ => [A]) := by
  have hok := sz_ok hl
  have hfl := first_len (l := l) (n := n)
  (refine S.cond_asked_date_cn fun F => ?_; unfold S.cond_asked_date; simp only [List.cons_append, List.nil_append])
  refine e_boxA fun b3 => ?_
  refine e_opN v_fa0 Imp.nil ?_
  refine e_opN (v_ldN (.there .here)) (.pick .here .nil) ?_
  refine e_call (first hA hok hn) (.cons (.there .here) .nil) fun _ => ?_
  (try simp only [List.cons_append, List.nil_append, -eq_self])
  refine e_opN (v_extN (vs := [_, _]) .here) Imp.nil ?_
  refine e_opN (v_extN (vs := [_, _]) (.there .here)) Imp.nil ?_
  refine e_opN v_fa0 Imp.nil ?_
  refine e_opN (v_ld (v := .int .i64 now) rfl) (.pick (by (repeat constructor)) .nil) ?_
  refine e_call (D.parse (l := (firstF l n).1) (by omega)) .nil fun _ => ?_
  (try simp only [List.cons_append, List.nil_append, -eq_self])
  refine e_opN (v_extN (vs := [_, _]) .here) Imp.nil ?_
  refine e_opN (v_extN (vs := [_, _]) (.there .here)) Imp.nil ?_
  unfold daF
  cases hf : (firstF l n).2 with
  | true =>
    refine e_gdT ?_
    refine e_gdT ?_
    refine e_opN v_eql Imp.nil ?_
    refine e_opN v_pickT Imp.nil ?_
    (first | refine e_ret (()) rfl ?_ | refine e_retT (()) ?_)
    (repeat (first | exact Imp.refl | exact Imp.nil | (apply Imp.pick; (focus ((repeat constructor); done))) | refine Imp.drop ?_))
  | false =>
    ((with_reducible refine e_gdF2 ?_)); ((with_reducible refine e_gdF2 ?_)); (((with_reducible refine e_opN v_pickF Imp.nil ?_)))
    (first | refine e_ret (()) rfl ?_ | refine e_retT (()) ?_)
    (repeat (first | exact Imp.refl | exact Imp.nil | (apply Imp.pick; (focus ((repeat constructor); done))) | refine Imp.drop ?_))
end Go.Proofs.YtcmpkkkigmheoaaGreatDoor.FD
/-! A request under conditions: both steps, all of it; whether a range may be met. Fields of together at most 2097152 bytes. -/
namespace Go.Proofs.YtcmpkkkigmheoaaGreatDoor.FD
open Go Go.Proofs Go.RowKit Go.Proofs.YtcmpkkkigmheoaaGreatDoor.Sh Go.Proofs.YtcmpkkkigmheoaaGreatDoor.Sl Go.Proofs.YtcmpkkkigmheoaaGreatDoor.T
def nIM : List UInt8 := [73, 102, 45, 77, 97, 116, 99, 104]
def nIUS : List UInt8 := [73, 102, 45, 85, 110, 109, 111, 100, 105, 102, 105, 101, 100, 45, 83, 105, 110, 99, 101]
def nINM : List UInt8 := [73, 102, 45, 78, 111, 110, 101, 45, 77, 97, 116, 99, 104]
def nIMS : List UInt8 := [73, 102, 45, 77, 111, 100, 105, 102, 105, 101, 100, 45, 83, 105, 110, 99, 101]
def nIR : List UInt8 := [73, 102, 45, 82, 97, 110, 103, 101]
def mGET : List UInt8 := [71, 69, 84]
def mHEAD : List UInt8 := [72, 69, 65, 68]
def t1F (l : List Fd) (e : En) : Bool × Bool := tgsF (fun t => strF t e.tag) l nIM e.has
def t2F (l : List Fd) (e : En) : Bool × Bool := tgsF (fun t => decide (t.2 = e.tag.2)) l nINM e.has
def st1F (l : List Fd) (e : En) (now : Int) : Int :=
  if ((t1F l e).2 && !(t1F l e).1) || (!(t1F l e).2 && ((daF l nIUS now).2 && (!e.has || decide ((daF l nIUS now).1 < e.mt)))) then 412 else 0
def st2F (lk : Bool) (l : List Fd) (e : En) (now : Int) : Int :=
  if (t2F l e).1 && !lk then 412 else if (t2F l e).1 then 304
  else if ((((!(t2F l e).2 && lk) && (daF l nIMS now).2) && decide ((daF l nIMS now).1 ≤ now)) && e.has) && decide (e.mt ≤ (daF l nIMS now).1) then 304 else 0
def cEn (e : En) : Array Value := #[.bool e.tag.1, txt e.tag.2, .int .i64 e.mt, .bool e.has]
theorem step1 {W : World} {g9 g6 : Nat} {l : List Fd} {a : Option Addr} {c : Nat} {lk : Bool} {e : En} {now : Int} {A : HP} (hA : RdF W A a l) (hl : szF l ≤ 2097152) : Cn Tryz.prog 11 [.pointer (some ⟨g9, 0, none⟩), .pointer (some ⟨g6, 0, none⟩)] W
    [pt g9 (.cells (cAsk lk (.slice a l.length c) e now) 38 (0, 0)), pt g6 (.cells (cEn e) 30 (0, 0)), A] (fun _ : Unit => .int .i64 (st1F l e now))
    (fun _ => [pt g9 (.cells (cAsk lk (.slice a l.length c) e now) 38 (0, 0)), pt g6 (.cells (cEn e) 30 (0, 0)), A]) := by
  (refine S.cond_Evaluate_1_cn fun F => ?_; unfold S.cond_Evaluate_1; simp only [List.cons_append, List.nil_append])
  refine e_opN (v_ldAgg (cs := cAsk lk (.slice a l.length c) e now) rfl) (.pick .here .nil) ?_
  refine e_call (askTags (n := nIM) (alike := fun t => strF t e.tag) hA hl (by decide) fun t => strong) (.cons (.there (.there .here)) .nil) fun _ => ?_
  (try simp only [List.cons_append, List.nil_append, -eq_self])
  refine e_opN (v_extN (vs := [_, _]) .here) Imp.nil ?_
  refine e_opN (v_extN (vs := [_, _]) (.there .here)) Imp.nil ?_
  refine e_opN (v_ldAgg (cs := cAsk lk (.slice a l.length c) e now) rfl) (.pick (by (repeat constructor)) .nil) ?_
  refine e_call (askDate (n := nIUS) hA hl (by decide)) (.cons .here .nil) fun _ => ?_
  (try simp only [List.cons_append, List.nil_append, -eq_self])
  refine e_opN (v_extN (vs := [_, _]) .here) Imp.nil ?_
  refine e_opN (v_extN (vs := [_, _]) (.there .here)) Imp.nil ?_
  unfold st1F t1F
  generalize (tgsF (fun t => strF t e.tag) l nIM e.has).1 = ok
  generalize (tgsF (fun t => strF t e.tag) l nIM e.has).2 = comes
  generalize (daF l nIUS now).1 = n
  generalize (daF l nIUS now).2 = is
  cases comes with
  | true =>
    cases ok with
    | true =>
      ((with_reducible refine e_gdT ?_)); ((with_reducible refine e_gdT ?_)); (((with_reducible refine e_opN v_notT Imp.nil ?_))); (((with_reducible refine e_opN v_pickT Imp.nil ?_))); ((with_reducible refine e_gdT ?_)); ((with_reducible refine e_gdT ?_)); (((with_reducible refine e_opN v_notT Imp.nil ?_))); ((with_reducible refine e_gdT ?_)); ((with_reducible refine e_gdF2 ?_)); ((with_reducible refine e_gdT ?_)); (((with_reducible refine e_opN v_pickF Imp.nil ?_))); ((with_reducible refine e_gdT ?_)); ((with_reducible refine e_gdF2 ?_)); ((with_reducible refine e_gdF2 ?_)); ((with_reducible refine e_gdF2 ?_)); ((with_reducible refine e_gdF2 ?_)); ((with_reducible refine e_gdU ?_)); ((with_reducible refine e_gdU ?_)); ((with_reducible refine e_gdU ?_)); ((with_reducible refine e_gdU ?_)); ((with_reducible refine e_gdF2 ?_)); ((with_reducible refine e_gdT ?_)); (((with_reducible refine e_opN v_pickF Imp.nil ?_))); (((with_reducible refine e_opN v_pickF Imp.nil ?_))); ((with_reducible refine e_condF ?_))
      (first | refine e_ret (()) rfl ?_ | refine e_retT (()) ?_)
      (repeat (first | exact Imp.refl | exact Imp.nil | (apply Imp.pick; (focus ((repeat constructor); done))) | refine Imp.drop ?_))
    | false =>
      ((with_reducible refine e_gdT ?_)); ((with_reducible refine e_gdT ?_)); (((with_reducible refine e_opN v_notF Imp.nil ?_))); (((with_reducible refine e_opN v_pickT Imp.nil ?_))); ((with_reducible refine e_gdF1 ?_)); ((with_reducible refine e_gdF1 ?_)); ((with_reducible refine e_gdF1 ?_)); ((with_reducible refine e_gdU ?_)); ((with_reducible refine e_gdF1 ?_)); ((with_reducible refine e_gdF1 ?_)); ((with_reducible refine e_gdU ?_)); ((with_reducible refine e_gdU ?_)); ((with_reducible refine e_gdU ?_)); ((with_reducible refine e_gdU ?_)); ((with_reducible refine e_gdU ?_)); ((with_reducible refine e_gdU ?_)); ((with_reducible refine e_gdU ?_)); ((with_reducible refine e_gdU ?_)); ((with_reducible refine e_gdU ?_)); ((with_reducible refine e_gdF1 ?_)); (((with_reducible refine e_opN v_pickT Imp.nil ?_))); ((with_reducible refine e_condT ?_))
      (first | refine e_ret (()) rfl ?_ | refine e_retT (()) ?_)
      (repeat (first | exact Imp.refl | exact Imp.nil | (apply Imp.pick; (focus ((repeat constructor); done))) | refine Imp.drop ?_))
  | false =>
    cases is with
    | false =>
      ((with_reducible refine e_gdF2 ?_)); ((with_reducible refine e_gdF2 ?_)); (((with_reducible refine e_opN v_pickF Imp.nil ?_))); ((with_reducible refine e_gdT ?_)); ((with_reducible refine e_gdT ?_)); (((with_reducible refine e_opN v_notF Imp.nil ?_))); ((with_reducible refine e_gdT ?_)); ((with_reducible refine e_gdT ?_)); ((with_reducible refine e_gdT ?_)); (((with_reducible refine e_opN v_pickT Imp.nil ?_))); ((with_reducible refine e_gdT ?_)); ((with_reducible refine e_gdF2 ?_)); ((with_reducible refine e_gdF2 ?_)); ((with_reducible refine e_gdF2 ?_)); ((with_reducible refine e_gdF2 ?_)); ((with_reducible refine e_gdU ?_)); ((with_reducible refine e_gdU ?_)); ((with_reducible refine e_gdU ?_)); ((with_reducible refine e_gdU ?_)); ((with_reducible refine e_gdF2 ?_)); ((with_reducible refine e_gdT ?_)); (((with_reducible refine e_opN v_pickF Imp.nil ?_))); (((with_reducible refine e_opN v_pickF Imp.nil ?_))); ((with_reducible refine e_condF ?_))
      (first | refine e_ret (()) rfl ?_ | refine e_retT (()) ?_)
      (repeat (first | exact Imp.refl | exact Imp.nil | (apply Imp.pick; (focus ((repeat constructor); done))) | refine Imp.drop ?_))
    | true =>
      ((with_reducible refine e_gdF2 ?_)); ((with_reducible refine e_gdF2 ?_)); (((with_reducible refine e_opN v_pickF Imp.nil ?_))); ((with_reducible refine e_gdT ?_)); ((with_reducible refine e_gdT ?_)); (((with_reducible refine e_opN v_notF Imp.nil ?_))); ((with_reducible refine e_gdT ?_)); ((with_reducible refine e_gdT ?_)); ((with_reducible refine e_gdT ?_)); (((with_reducible refine e_opN v_pickT Imp.nil ?_))); ((with_reducible refine e_gdT ?_)); ((with_reducible refine e_gdT ?_)); (((with_reducible refine e_opN v_fa0 Imp.nil ?_))); ((with_reducible refine e_gdT ?_)); (((with_reducible refine' e_opN (v_ldN ?hc) ?hi ?_); (case hi => (repeat (first | exact Imp.refl | exact Imp.nil | (apply Imp.pick; (focus ((repeat constructor); done))) | refine Imp.drop ?_))); (case hc => (repeat (first | exact Nth.here | apply Nth.there))))); ((with_reducible refine e_gdT ?_)); (((with_reducible refine e_opN v_not Imp.nil ?_))); ((with_reducible refine e_gdT ?_))
      cases hh : e.has with
      | false =>
        rw [show (!false) = true from rfl]
        ((with_reducible refine e_gdF1 ?_)); ((with_reducible refine e_gdF1 ?_)); ((with_reducible refine e_gdF1 ?_)); ((with_reducible refine e_gdF1 ?_)); ((with_reducible refine e_gdT ?_)); (((with_reducible refine e_opN v_pickT Imp.nil ?_))); ((with_reducible refine e_gdT ?_)); (((with_reducible refine e_opN v_pickT Imp.nil ?_))); (((with_reducible refine e_opN v_pickF Imp.nil ?_))); ((with_reducible refine e_condT ?_))
        (first | refine e_ret (()) rfl ?_ | refine e_retT (()) ?_)
        (repeat (first | exact Imp.refl | exact Imp.nil | (apply Imp.pick; (focus ((repeat constructor); done))) | refine Imp.drop ?_))
      | true =>
        rw [show (!true) = false from rfl]
        ((with_reducible refine e_gdT ?_)); (((with_reducible refine e_opN v_fa0 Imp.nil ?_))); ((with_reducible refine e_gdT ?_)); (((with_reducible refine' e_opN (v_ldN ?hc) ?hi ?_); (case hi => (repeat (first | exact Imp.refl | exact Imp.nil | (apply Imp.pick; (focus ((repeat constructor); done))) | refine Imp.drop ?_))); (case hc => (repeat (first | exact Nth.here | apply Nth.there))))); ((with_reducible refine e_gdT ?_)); ((with_reducible refine e_gdT ?_))
        refine e_opN v_gtr Imp.nil ?_
        ((with_reducible refine e_gdT ?_)); (((with_reducible refine e_opN v_pickF Imp.nil ?_))); ((with_reducible refine e_gdT ?_)); (((with_reducible refine e_opN v_pickT Imp.nil ?_))); (((with_reducible refine e_opN v_pickF Imp.nil ?_)))
        refine e_cond (φ := n < e.mt) rfl (fun h => ?_) (fun h => ?_)
        · rw [decide_eq_true h]
          (first | refine e_ret (()) rfl ?_ | refine e_retT (()) ?_)
          (repeat (first | exact Imp.refl | exact Imp.nil | (apply Imp.pick; (focus ((repeat constructor); done))) | refine Imp.drop ?_))
        · rw [decide_eq_false h]
          (first | refine e_ret (()) rfl ?_ | refine e_retT (()) ?_)
          (repeat (first | exact Imp.refl | exact Imp.nil | (apply Imp.pick; (focus ((repeat constructor); done))) | refine Imp.drop ?_))
theorem step2 {W : World} {g9 g7 g6 : Nat} {l : List Fd} {a : Option Addr} {c : Nat} {lk : Bool} {e : En} {now : Int} {A : HP} (hA : RdF W A a l) (hl : szF l ≤ 2097152) : Cn Tryz.prog 15 [.pointer (some ⟨g9, 0, none⟩), .pointer (some ⟨g7, 0, none⟩), .pointer (some ⟨g6, 0, none⟩)] W
    [pt g9 (.cells (cAsk lk (.slice a l.length c) e now) 38 (0, 0)), pt g7 (.cells #[.int .i64 now] 3 (0, 0)), pt g6 (.cells (cEn e) 30 (0, 0)), A] (fun _ : Unit => .int .i64 (st2F lk l e now))
    (fun _ => [pt g9 (.cells (cAsk lk (.slice a l.length c) e now) 38 (0, 0)), pt g7 (.cells #[.int .i64 now] 3 (0, 0)), pt g6 (.cells (cEn e) 30 (0, 0)), A]) := by
  (refine S.cond_Evaluate_2_cn fun F => ?_; unfold S.cond_Evaluate_2; simp only [List.cons_append, List.nil_append])
  refine e_opN (v_ldAgg (cs := cAsk lk (.slice a l.length c) e now) rfl) (.pick .here .nil) ?_
  refine e_call (askTags (n := nINM) (alike := fun t => decide (t.2 = e.tag.2)) hA hl (by decide) fun t => weak) (.cons (.there (.there (.there .here))) .nil) fun _ => ?_
  (try simp only [List.cons_append, List.nil_append, -eq_self])
  refine e_opN (v_extN (vs := [_, _]) .here) Imp.nil ?_
  refine e_opN (v_extN (vs := [_, _]) (.there .here)) Imp.nil ?_
  refine e_opN (v_ldAgg (cs := cAsk lk (.slice a l.length c) e now) rfl) (.pick (by (repeat constructor)) .nil) ?_
  refine e_call (askDate (n := nIMS) hA hl (by decide)) (.cons .here .nil) fun _ => ?_
  (try simp only [List.cons_append, List.nil_append, -eq_self])
  refine e_opN (v_extN (vs := [_, _]) .here) Imp.nil ?_
  refine e_opN (v_extN (vs := [_, _]) (.there .here)) Imp.nil ?_
  unfold st2F t2F
  generalize (tgsF (fun t => decide (t.2 = e.tag.2)) l nINM e.has).1 = ok
  generalize (tgsF (fun t => decide (t.2 = e.tag.2)) l nINM e.has).2 = comes
  generalize (daF l nIMS now).1 = n
  generalize (daF l nIMS now).2 = is
  cases ok with
  | true =>
    cases lk with
    | true =>
      ((with_reducible refine e_gdT ?_)); (((with_reducible refine e_opN v_fa0 Imp.nil ?_))); ((with_reducible refine e_gdT ?_)); (((with_reducible refine' e_opN (v_ldN ?hc) ?hi ?_); (case hi => (repeat (first | exact Imp.refl | exact Imp.nil | (apply Imp.pick; (focus ((repeat constructor); done))) | refine Imp.drop ?_))); (case hc => (repeat (first | exact Nth.here | apply Nth.there))))); ((with_reducible refine e_gdT ?_)); (((with_reducible refine e_opN v_notT Imp.nil ?_))); (((with_reducible refine e_opN v_pickT Imp.nil ?_))); ((with_reducible refine e_condF ?_)); ((with_reducible refine e_condT ?_)); ((with_reducible refine e_condT ?_))
      (first | refine e_ret (()) rfl ?_ | refine e_retT (()) ?_)
      (repeat (first | exact Imp.refl | exact Imp.nil | (apply Imp.pick; (focus ((repeat constructor); done))) | refine Imp.drop ?_))
    | false =>
      ((with_reducible refine e_gdT ?_)); (((with_reducible refine e_opN v_fa0 Imp.nil ?_))); ((with_reducible refine e_gdT ?_)); (((with_reducible refine' e_opN (v_ldN ?hc) ?hi ?_); (case hi => (repeat (first | exact Imp.refl | exact Imp.nil | (apply Imp.pick; (focus ((repeat constructor); done))) | refine Imp.drop ?_))); (case hc => (repeat (first | exact Nth.here | apply Nth.there))))); ((with_reducible refine e_gdT ?_)); (((with_reducible refine e_opN v_notF Imp.nil ?_))); (((with_reducible refine e_opN v_pickT Imp.nil ?_))); ((with_reducible refine e_condT ?_))
      (first | refine e_ret (()) rfl ?_ | refine e_retT (()) ?_)
      (repeat (first | exact Imp.refl | exact Imp.nil | (apply Imp.pick; (focus ((repeat constructor); done))) | refine Imp.drop ?_))
  | false =>
    cases comes with
    | true =>
      ((with_reducible refine e_gdF2 ?_)); ((with_reducible refine e_gdF2 ?_)); ((with_reducible refine e_gdF2 ?_)); (((with_reducible refine e_opN v_pickF Imp.nil ?_))); ((with_reducible refine e_condF ?_)); ((with_reducible refine e_condF ?_)); (((with_reducible refine e_opN v_notT Imp.nil ?_))); ((with_reducible refine e_gdF2 ?_)); ((with_reducible refine e_gdF2 ?_)); (((with_reducible refine e_opN v_pickF Imp.nil ?_))); ((with_reducible refine e_gdF2 ?_)); (((with_reducible refine e_opN v_pickF Imp.nil ?_))); ((with_reducible refine e_gdF2 ?_)); ((with_reducible refine e_gdF2 ?_)); ((with_reducible refine e_gdF2 ?_)); (((with_reducible refine e_opN v_pickF Imp.nil ?_))); ((with_reducible refine e_gdF2 ?_)); ((with_reducible refine e_gdF2 ?_)); (((with_reducible refine e_opN v_pickF Imp.nil ?_))); ((with_reducible refine e_gdF2 ?_)); ((with_reducible refine e_gdF2 ?_)); ((with_reducible refine e_gdF2 ?_)); ((with_reducible refine e_gdF2 ?_)); (((with_reducible refine e_opN v_pickF Imp.nil ?_))); ((with_reducible refine e_condF ?_))
      (first | refine e_ret (()) rfl ?_ | refine e_retT (()) ?_)
      (repeat (first | exact Imp.refl | exact Imp.nil | (apply Imp.pick; (focus ((repeat constructor); done))) | refine Imp.drop ?_))
    | false =>
      cases lk with
      | false =>
        ((with_reducible refine e_gdF2 ?_)); ((with_reducible refine e_gdF2 ?_)); ((with_reducible refine e_gdF2 ?_)); (((with_reducible refine e_opN v_pickF Imp.nil ?_))); ((with_reducible refine e_condF ?_)); ((with_reducible refine e_condF ?_)); (((with_reducible refine e_opN v_notF Imp.nil ?_))); ((with_reducible refine e_gdT ?_)); (((with_reducible refine e_opN v_fa0 Imp.nil ?_))); ((with_reducible refine e_gdT ?_)); (((with_reducible refine' e_opN (v_ldN ?hc) ?hi ?_); (case hi => (repeat (first | exact Imp.refl | exact Imp.nil | (apply Imp.pick; (focus ((repeat constructor); done))) | refine Imp.drop ?_))); (case hc => (repeat (first | exact Nth.here | apply Nth.there))))); (((with_reducible refine e_opN v_pickT Imp.nil ?_))); ((with_reducible refine e_gdF2 ?_)); (((with_reducible refine e_opN v_pickF Imp.nil ?_))); ((with_reducible refine e_gdF2 ?_)); ((with_reducible refine e_gdF2 ?_)); ((with_reducible refine e_gdF2 ?_)); (((with_reducible refine e_opN v_pickF Imp.nil ?_))); ((with_reducible refine e_gdF2 ?_)); ((with_reducible refine e_gdF2 ?_)); (((with_reducible refine e_opN v_pickF Imp.nil ?_))); ((with_reducible refine e_gdF2 ?_)); ((with_reducible refine e_gdF2 ?_)); ((with_reducible refine e_gdF2 ?_)); ((with_reducible refine e_gdF2 ?_)); (((with_reducible refine e_opN v_pickF Imp.nil ?_))); ((with_reducible refine e_condF ?_))
        (first | refine e_ret (()) rfl ?_ | refine e_retT (()) ?_)
        (repeat (first | exact Imp.refl | exact Imp.nil | (apply Imp.pick; (focus ((repeat constructor); done))) | refine Imp.drop ?_))
      | true =>
        cases is with
        | false =>
          ((with_reducible refine e_gdF2 ?_)); ((with_reducible refine e_gdF2 ?_)); ((with_reducible refine e_gdF2 ?_)); (((with_reducible refine e_opN v_pickF Imp.nil ?_))); ((with_reducible refine e_condF ?_)); ((with_reducible refine e_condF ?_)); (((with_reducible refine e_opN v_notF Imp.nil ?_))); ((with_reducible refine e_gdT ?_)); (((with_reducible refine e_opN v_fa0 Imp.nil ?_))); ((with_reducible refine e_gdT ?_)); (((with_reducible refine' e_opN (v_ldN ?hc) ?hi ?_); (case hi => (repeat (first | exact Imp.refl | exact Imp.nil | (apply Imp.pick; (focus ((repeat constructor); done))) | refine Imp.drop ?_))); (case hc => (repeat (first | exact Nth.here | apply Nth.there))))); (((with_reducible refine e_opN v_pickT Imp.nil ?_))); ((with_reducible refine e_gdT ?_)); (((with_reducible refine e_opN v_pickT Imp.nil ?_))); ((with_reducible refine e_gdF2 ?_)); ((with_reducible refine e_gdF2 ?_)); ((with_reducible refine e_gdF2 ?_)); (((with_reducible refine e_opN v_pickF Imp.nil ?_))); ((with_reducible refine e_gdF2 ?_)); ((with_reducible refine e_gdF2 ?_)); (((with_reducible refine e_opN v_pickF Imp.nil ?_))); ((with_reducible refine e_gdF2 ?_)); ((with_reducible refine e_gdF2 ?_)); ((with_reducible refine e_gdF2 ?_)); ((with_reducible refine e_gdF2 ?_)); (((with_reducible refine e_opN v_pickF Imp.nil ?_))); ((with_reducible refine e_condF ?_))
          (first | refine e_ret (()) rfl ?_ | refine e_retT (()) ?_)
          (repeat (first | exact Imp.refl | exact Imp.nil | (apply Imp.pick; (focus ((repeat constructor); done))) | refine Imp.drop ?_))
        | true =>
          ((with_reducible refine e_gdF2 ?_)); ((with_reducible refine e_gdF2 ?_)); ((with_reducible refine e_gdF2 ?_)); (((with_reducible refine e_opN v_pickF Imp.nil ?_))); ((with_reducible refine e_condF ?_)); ((with_reducible refine e_condF ?_)); (((with_reducible refine e_opN v_notF Imp.nil ?_))); ((with_reducible refine e_gdT ?_)); (((with_reducible refine e_opN v_fa0 Imp.nil ?_))); ((with_reducible refine e_gdT ?_)); (((with_reducible refine' e_opN (v_ldN ?hc) ?hi ?_); (case hi => (repeat (first | exact Imp.refl | exact Imp.nil | (apply Imp.pick; (focus ((repeat constructor); done))) | refine Imp.drop ?_))); (case hc => (repeat (first | exact Nth.here | apply Nth.there))))); (((with_reducible refine e_opN v_pickT Imp.nil ?_))); ((with_reducible refine e_gdT ?_)); (((with_reducible refine e_opN v_pickT Imp.nil ?_))); ((with_reducible refine e_gdT ?_)); ((with_reducible refine e_gdT ?_)); (((with_reducible refine' e_opN (v_ldN ?hc) ?hi ?_); (case hi => (repeat (first | exact Imp.refl | exact Imp.nil | (apply Imp.pick; (focus ((repeat constructor); done))) | refine Imp.drop ?_))); (case hc => (repeat (first | exact Nth.here | apply Nth.there))))); ((with_reducible refine e_gdT ?_))
          refine e_opN v_leq Imp.nil ?_
          by_cases h : n ≤ now
          · rw [decide_eq_true h]
            (((with_reducible refine e_opN v_pickT Imp.nil ?_))); ((with_reducible refine e_gdT ?_)); (((with_reducible refine e_opN v_fa0 Imp.nil ?_))); ((with_reducible refine e_gdT ?_)); (((with_reducible refine' e_opN (v_ldN ?hc) ?hi ?_); (case hi => (repeat (first | exact Imp.refl | exact Imp.nil | (apply Imp.pick; (focus ((repeat constructor); done))) | refine Imp.drop ?_))); (case hc => (repeat (first | exact Nth.here | apply Nth.there))))); (((with_reducible refine e_opN v_pickT Imp.nil ?_)))
            cases hh : e.has with
            | false =>
              ((with_reducible refine e_gdF2 ?_)); ((with_reducible refine e_gdF2 ?_)); ((with_reducible refine e_gdF2 ?_)); ((with_reducible refine e_gdF2 ?_)); (((with_reducible refine e_opN v_pickF Imp.nil ?_))); ((with_reducible refine e_condF ?_))
              (first | refine e_ret (()) rfl ?_ | refine e_retT (()) ?_)
              (repeat (first | exact Imp.refl | exact Imp.nil | (apply Imp.pick; (focus ((repeat constructor); done))) | refine Imp.drop ?_))
            | true =>
              ((with_reducible refine e_gdT ?_)); (((with_reducible refine e_opN v_fa0 Imp.nil ?_))); ((with_reducible refine e_gdT ?_)); (((with_reducible refine' e_opN (v_ldN ?hc) ?hi ?_); (case hi => (repeat (first | exact Imp.refl | exact Imp.nil | (apply Imp.pick; (focus ((repeat constructor); done))) | refine Imp.drop ?_))); (case hc => (repeat (first | exact Nth.here | apply Nth.there))))); ((with_reducible refine e_gdT ?_)); ((with_reducible refine e_gdT ?_))
              refine e_opN v_leq Imp.nil ?_
              (((with_reducible refine e_opN v_pickT Imp.nil ?_)))
              refine e_cond (φ := e.mt ≤ n) rfl (fun h => ?_) (fun h => ?_)
              · rw [decide_eq_true h]
                (first | refine e_ret (()) rfl ?_ | refine e_retT (()) ?_)
                (repeat (first | exact Imp.refl | exact Imp.nil | (apply Imp.pick; (focus ((repeat constructor); done))) | refine Imp.drop ?_))
              · rw [decide_eq_false h]
                (first | refine e_ret (()) rfl ?_ | refine e_retT (()) ?_)
                (repeat (first | exact Imp.refl | exact Imp.nil | (apply Imp.pick; (focus ((repeat constructor); done))) | refine Imp.drop ?_))
          · rw [decide_eq_false h]
            (((with_reducible refine e_opN v_pickT Imp.nil ?_))); ((with_reducible refine e_gdF2 ?_)); ((with_reducible refine e_gdF2 ?_)); (((with_reducible refine e_opN v_pickF Imp.nil ?_))); ((with_reducible refine e_gdF2 ?_)); ((with_reducible refine e_gdF2 ?_)); ((with_reducible refine e_gdF2 ?_)); ((with_reducible refine e_gdF2 ?_)); (((with_reducible refine e_opN v_pickF Imp.nil ?_))); ((with_reducible refine e_condF ?_))
            (first | refine e_ret (()) rfl ?_ | refine e_retT (()) ?_)
            (repeat (first | exact Imp.refl | exact Imp.nil | (apply Imp.pick; (focus ((repeat constructor); done))) | refine Imp.drop ?_))
end Go.Proofs.YtcmpkkkigmheoaaGreatDoor.FD
/-! A request under conditions; an entity as the program has it. Fields of together at most 2097152 bytes. -/
namespace Go.Proofs.YtcmpkkkigmheoaaGreatDoor.FD
open Go Go.Proofs Go.RowKit Go.Proofs.YtcmpkkkigmheoaaGreatDoor.Sh Go.Proofs.YtcmpkkkigmheoaaGreatDoor.Sl Go.Proofs.YtcmpkkkigmheoaaGreatDoor.T
def lkF (m : List UInt8) : Bool := decide (m = mGET) || decide (m = mHEAD)
def evF (m : List UInt8) (l : List Fd) (e : En) (now : Int) : Int := if 0 < st1F l e now then st1F l e now else if 0 < st2F (lkF m) l e now then st2F (lkF m) l e now else 200
theorem evaluate {W : World} {m : List UInt8} {l : List Fd} {a : Option Addr} {c : Nat} {e : En} {now : Int} {A : HP} (hA : RdF W A a l) (hl : szF l ≤ 2097152) : Cn Tryz.prog 4 [txt m, .slice a l.length c, vEn e, .int .i64 now] W
    [A] (fun _ : Unit => .int .i64 (evF m l e now)) (fun _ => [A]) := by
  (refine S.cond_Evaluate_cn fun F => ?_; unfold S.cond_Evaluate; simp only [List.cons_append, List.nil_append])
  unfold vEn
  refine e_boxA fun g6 => ?_
  refine e_box1 fun g7 => ?_
  refine e_opN (v_streq (m := mGET)) Imp.nil ?_
  refine e_or1 (fun _ => v_streq (m := mHEAD)) ?_
  refine e_opN (v_ldAgg (cs := cEn e) rfl) (.pick (by (repeat constructor)) .nil) ?_
  refine e_opN (v_ldN .here) (.pick .here .nil) ?_
  unfold cEn
  refine e_opN v_rv Imp.nil ?_
  refine e_newA fun g9 => ?_
  refine e_stAgg .here (by rfl) (by rfl) (by intro u hu; simp at hu; rcases hu with rfl | rfl | rfl | rfl | rfl | rfl | rfl <;> rfl) ?_
  refine e_opN v_mkF Imp.nil ?_
  refine e_opN v_mkF Imp.nil ?_
  refine e_opN v_rv Imp.nil ?_
  refine e_newA fun g10 => ?_
  refine e_stAgg .here (by rfl) (by rfl) (by intro u hu; simp at hu; rcases hu with rfl | rfl <;> rfl) ?_
  refine e_opN (v_ldAgg (cs := #[_, _]) rfl) (.pick .here .nil) ?_
  rw [show (decide (m = mGET) || decide (m = mHEAD)) = lkF m from rfl]
  have hcc : (#[.bool (lkF m), .slice a l.length c, .bool e.tag.1, txt e.tag.2, .int .i64 e.mt, .bool e.has, .int .i64 now] : Array Value) = cAsk (lkF m) (.slice a l.length c) e now := rfl
  rw [hcc]
  unfold evF
  refine e_loop1 (fun k y => (ex fun i : Nat => pu (k + i = 2 ∧ y = .int .i64 (i : Int) ∧ (0 < i → st1F l e now ≤ 0) ∧ (1 < i → st2F (lkF m) l e now ≤ 0))) :: pt g9 (.cells (cAsk (lkF m) (.slice a l.length c) e now) 38 (0, 0)) :: pt g7 (.cells #[.int .i64 now] 3 (0, 0)) :: pt g6 (.cells (cEn e) 30 (0, 0)) :: A :: F) 2 ?_ ?_
  · refine .ex 0 (.pu ⟨rfl, rfl, fun h => absurd h (by decide), fun h => absurd h (by decide)⟩ ?_)
    (repeat (first | exact Imp.refl | exact Imp.nil | (apply Imp.pick; (focus ((repeat constructor); done))) | refine Imp.drop ?_))
  intro k ds y
  refine e_ex .here fun i => e_pu .here fun hi => ?_
  obtain ⟨hmi, rfl, h1, h2⟩ := hi
  refine e_ask v_lss Imp.nil (fun h => ?_) (fun h => ?_)
  · have : i = 0 ∨ i = 1 := by omega
    rcases this with rfl | rfl
    · refine e_condT ?_
      refine e_opN (v_ixA 0 rfl (by decide) rfl) Imp.nil ?_
      refine e_callC (args := []) (cap := [_, _]) (step1 hA hl) (.cons .here (.cons (.there .here) (.cons (.there .here) .nil))) fun _ => ?_
      (try simp only [List.cons_append, List.nil_append, -eq_self])
      refine e_ask v_gtr Imp.nil (fun h => ?_) (fun h => ?_)
      · rw [if_pos h]
        refine e_condT ?_
        (first | refine e_ret (()) rfl ?_ | refine e_retT (()) ?_)
        (repeat (first | exact Imp.refl | exact Imp.nil | (apply Imp.pick; (focus ((repeat constructor); done))) | refine Imp.drop ?_))
      · refine e_condF ?_
        refine e_opN (v_add (by omega) (by omega)) Imp.nil ?_
        refine e_next1 (k - 1) (by omega) (.ex 1 (.pu ⟨by omega, rfl, fun _ => by omega, fun h => absurd h (by decide)⟩ ?_))
        (repeat (first | exact Imp.refl | exact Imp.nil | (apply Imp.pick; (focus ((repeat constructor); done))) | refine Imp.drop ?_))
    · have hs1 := h1 (by decide)
      rw [if_neg (by omega)]
      refine e_condT ?_
      refine e_opN (v_ixA 1 rfl (by decide) rfl) Imp.nil ?_
      refine e_callC (args := []) (cap := [_, _, _]) (step2 hA hl) (.cons .here (.cons .here (.cons .here (.cons .here .nil)))) fun _ => ?_
      (try simp only [List.cons_append, List.nil_append, -eq_self])
      refine e_ask v_gtr Imp.nil (fun h => ?_) (fun h => ?_)
      · rw [if_pos h]
        refine e_condT ?_
        (first | refine e_ret (()) rfl ?_ | refine e_retT (()) ?_)
        (repeat (first | exact Imp.refl | exact Imp.nil | (apply Imp.pick; (focus ((repeat constructor); done))) | refine Imp.drop ?_))
      · refine e_condF ?_
        refine e_opN (v_add (by omega) (by omega)) Imp.nil ?_
        refine e_next1 (k - 1) (by omega) (.ex 2 (.pu ⟨by omega, rfl, fun _ => hs1, fun _ => by omega⟩ ?_))
        (repeat (first | exact Imp.refl | exact Imp.nil | (apply Imp.pick; (focus ((repeat constructor); done))) | refine Imp.drop ?_))
  · have hi2 : i = 2 := by omega
    subst hi2
    have hs1 := h1 (by decide)
    have hs2 := h2 (by decide)
    rw [if_neg (by omega), if_neg (by omega)]
    refine e_condF ?_
    (first | refine e_ret (()) rfl ?_ | refine e_retT (()) ?_)
    (repeat (first | exact Imp.refl | exact Imp.nil | (apply Imp.pick; (focus ((repeat constructor); done))) | refine Imp.drop ?_))
def inF (m : List UInt8) (l : List Fd) (e : En) (now : Int) : Bool :=
  if m ≠ mGET ∨ e.has = false then false else if (firstF l nIR).2 = false then true
  else if (tagF (firstF l nIR).1).2 then strF (tagF (firstF l nIR).1).1 e.tag
  else (decide (D.paE now (firstF l nIR).1 = 0) && decide (D.paN now (firstF l nIR).1 = e.mt)) && decide (IntKind.i64.wrap (D.paN now (firstF l nIR).1 + 60) ≤ now)
theorem inRange {W : World} {m : List UInt8} {l : List Fd} {a : Option Addr} {c : Nat} {e : En} {now : Int} {A : HP} (hA : RdF W A a l) (hl : szF l ≤ 2097152) : Cn Tryz.prog 7 [txt m, .slice a l.length c, vEn e, .int .i64 now] W
    [A] (fun _ : Unit => .bool (inF m l e now)) (fun _ => [A]) := by
  have hok := sz_ok hl
  have hfl := first_len (l := l) (n := nIR)
  (refine S.cond_InRange_cn fun F => ?_; unfold S.cond_InRange; simp only [List.cons_append, List.nil_append])
  unfold vEn
  refine e_boxA fun g6 => ?_
  refine e_call (first (n := nIR) hA hok (by decide)) (.cons (.there .here) .nil) fun _ => ?_
  (try simp only [List.cons_append, List.nil_append, -eq_self])
  refine e_opN (v_extN (vs := [_, _]) .here) Imp.nil ?_
  refine e_opN (v_extN (vs := [_, _]) (.there .here)) Imp.nil ?_
  refine e_opN (v_strne (m := mGET)) Imp.nil ?_
  unfold inF
  generalize (firstF l nIR).2 = comes
  generalize (firstF l nIR).1 = s at hfl ⊢
  by_cases hm : m = mGET
  rotate_left
  · rw [decide_eq_true hm, if_pos (.inl hm)]
    ((with_reducible refine e_gdF1 ?_)); ((with_reducible refine e_gdF1 ?_)); ((with_reducible refine e_gdF1 ?_)); (((with_reducible refine e_opN v_pickT Imp.nil ?_))); ((with_reducible refine e_condT ?_))
    (first | refine e_ret (()) rfl ?_ | refine e_retT (()) ?_)
    (repeat (first | exact Imp.refl | exact Imp.nil | (apply Imp.pick; (focus ((repeat constructor); done))) | refine Imp.drop ?_))
  rw [decide_eq_false (fun c => c hm)]
  refine e_gdT ?_
  refine e_opN v_fa0 Imp.nil ?_
  refine e_gdT ?_
  refine e_opN (v_ld (v := .bool e.has) rfl) (.pick (by (repeat constructor)) .nil) ?_
  refine e_gdT ?_
  refine e_opN v_not Imp.nil ?_
  refine e_opN v_pickF Imp.nil ?_
  cases hh : e.has with
  | false =>
    rw [if_pos (.inr rfl)]
    refine e_condT ?_
    (first | refine e_ret (()) rfl ?_ | refine e_retT (()) ?_)
    (repeat (first | exact Imp.refl | exact Imp.nil | (apply Imp.pick; (focus ((repeat constructor); done))) | refine Imp.drop ?_))
  | true =>
    rw [if_neg (by rintro (c | c); exact c hm; cases c)]
    refine e_condF ?_
    cases comes with
    | false =>
      rw [if_pos rfl]
      (((with_reducible refine e_opN v_notF Imp.nil ?_))); ((with_reducible refine e_condT ?_))
      (first | refine e_ret (()) rfl ?_ | refine e_retT (()) ?_)
      (repeat (first | exact Imp.refl | exact Imp.nil | (apply Imp.pick; (focus ((repeat constructor); done))) | refine Imp.drop ?_))
    | true =>
      rw [if_neg (by decide)]
      refine e_opN v_notT Imp.nil ?_
      refine e_condF ?_
      refine e_opN v_rv Imp.nil ?_
      refine e_newA fun g11 => ?_
      refine e_stAgg .here (by rfl) (by rfl) (by intro u hu; simp at hu; rcases hu with rfl | rfl <;> rfl) ?_
      refine e_call (parseTag (l := s) (by omega)) .nil fun _ => ?_
      (try simp only [List.cons_append, List.nil_append, -eq_self])
      refine e_opN (v_extN (vs := [_, _]) .here) Imp.nil ?_
      refine e_opN (v_extN (vs := [_, _]) (.there .here)) Imp.nil ?_
      generalize (tagF s).1 = t
      unfold vTag
      refine e_newA fun g12 => ?_
      refine e_stAgg .here (by rfl) (by rfl) (by intro u hu; simp at hu; rcases hu with rfl | rfl <;> rfl) ?_
      refine e_opN v_eql Imp.nil ?_
      cases ht : (tagF s).2 with
      | true =>
        rw [if_pos rfl, if_pos rfl, decide_eq_true rfl]
        refine e_condT ?_
        refine e_opN v_fa0 Imp.nil ?_
        refine e_opN (v_ld (v := fn 13) rfl) (.pick (.there .here) .nil) ?_
        refine e_opN (v_ldAgg (cs := #[.bool t.1, txt t.2]) rfl) (.pick .here .nil) ?_
        refine e_opN v_fa0 Imp.nil ?_
        have ldt : RunV Tryz.prog W [pt g6 (.cells #[.bool e.tag.1, txt e.tag.2, .int .i64 e.mt, .bool true] 30 (0, 0))] (sLoad 28 (.pointer (some ⟨g6, 0 + 0, none⟩))) (vTag e.tag) :=
          v_ldRdG (o := 0) (j := 0) (vs := pTag e.tag) (rd_pt (cs := [.bool e.tag.1, txt e.tag.2, .int .i64 e.mt, .bool true]) rfl) rfl (fun i hi => by
            match i, hi with
            | 0, _ => rfl
            | 1, _ => rfl)
        refine e_opN ldt (.pick (by (repeat constructor)) .nil) ?_
        refine e_call (strong (x := t) (y := e.tag)) .nil fun _ => ?_
        (try simp only [List.cons_append, List.nil_append, -eq_self])
        (first | refine e_ret (()) rfl ?_ | refine e_retT (()) ?_)
        (repeat (first | exact Imp.refl | exact Imp.nil | (apply Imp.pick; (focus ((repeat constructor); done))) | refine Imp.drop ?_))
      | false =>
        rw [if_neg (by decide), if_neg (by decide), decide_eq_false (by decide)]
        refine e_condF ?_
        refine e_call (D.parse (l := s) (by omega)) .nil fun _ => ?_
        (try simp only [List.cons_append, List.nil_append, -eq_self])
        refine e_opN (v_extN (vs := [_, _]) .here) Imp.nil ?_
        refine e_opN (v_extN (vs := [_, _]) (.there .here)) Imp.nil ?_
        refine e_opN v_eql Imp.nil ?_
        generalize D.paN now s = n
        by_cases h1 : D.paE now s = 0
        · rw [decide_eq_true h1, Bool.true_and]
          ((with_reducible refine e_gdT ?_)); ((with_reducible refine e_gdT ?_)); (((with_reducible refine e_opN v_fa0 Imp.nil ?_))); ((with_reducible refine e_gdT ?_)); (((with_reducible refine' e_opN (v_ldN ?hc) ?hi ?_); (case hi => (repeat (first | exact Imp.refl | exact Imp.nil | (apply Imp.pick; (focus ((repeat constructor); done))) | refine Imp.drop ?_))); (case hc => (repeat (first | exact Nth.here | apply Nth.there))))); ((with_reducible refine e_gdT ?_))
          refine e_opN v_eql Imp.nil ?_
          by_cases h2 : n = e.mt
          · rw [decide_eq_true h2, Bool.true_and]
            (((with_reducible refine e_opN v_pickT Imp.nil ?_))); ((with_reducible refine e_gdT ?_)); ((with_reducible refine e_gdT ?_)); (((with_reducible refine e_opN v_fa0 Imp.nil ?_))); ((with_reducible refine e_gdT ?_)); (((with_reducible refine' e_opN (v_ldN ?hc) ?hi ?_); (case hi => (repeat (first | exact Imp.refl | exact Imp.nil | (apply Imp.pick; (focus ((repeat constructor); done))) | refine Imp.drop ?_))); (case hc => (repeat (first | exact Nth.here | apply Nth.there))))); ((with_reducible refine e_gdT ?_))
            refine e_opN v_addw Imp.nil ?_
            ((with_reducible refine e_gdT ?_)); ((with_reducible refine e_gdT ?_))
            refine e_opN v_leq Imp.nil ?_
            (((with_reducible refine e_opN v_pickT Imp.nil ?_)))
            (first | refine e_ret (()) rfl ?_ | refine e_retT (()) ?_)
            (repeat (first | exact Imp.refl | exact Imp.nil | (apply Imp.pick; (focus ((repeat constructor); done))) | refine Imp.drop ?_))
          · rw [decide_eq_false h2, Bool.false_and]
            (((with_reducible refine e_opN v_pickT Imp.nil ?_))); ((with_reducible refine e_gdF2 ?_)); ((with_reducible refine e_gdF2 ?_)); ((with_reducible refine e_gdF2 ?_)); ((with_reducible refine e_gdF2 ?_)); ((with_reducible refine e_gdF2 ?_)); ((with_reducible refine e_gdF2 ?_)); (((with_reducible refine e_opN v_pickF Imp.nil ?_)))
            (first | refine e_ret (()) rfl ?_ | refine e_retT (()) ?_)
            (repeat (first | exact Imp.refl | exact Imp.nil | (apply Imp.pick; (focus ((repeat constructor); done))) | refine Imp.drop ?_))
        · rw [decide_eq_false h1]
          ((with_reducible refine e_gdF2 ?_)); ((with_reducible refine e_gdF2 ?_)); ((with_reducible refine e_gdF2 ?_)); ((with_reducible refine e_gdF2 ?_)); (((with_reducible refine e_opN v_pickF Imp.nil ?_))); ((with_reducible refine e_gdF2 ?_)); ((with_reducible refine e_gdF2 ?_)); ((with_reducible refine e_gdF2 ?_)); ((with_reducible refine e_gdF2 ?_)); ((with_reducible refine e_gdF2 ?_)); ((with_reducible refine e_gdF2 ?_)); (((with_reducible refine e_opN v_pickF Imp.nil ?_)))
          (first | refine e_ret (()) rfl ?_ | refine e_retT (()) ?_)
          (repeat (first | exact Imp.refl | exact Imp.nil | (apply Imp.pick; (focus ((repeat constructor); done))) | refine Imp.drop ?_))
/-- the document's entity, as the program has it -/
theorem own {W : World} {e : En} : Cn Tryz.prog 5 [vEn e] W [] (fun _ : Unit => vEn e) (fun _ => []) := by
  (refine S.law16_Own_cn fun F => ?_; unfold S.law16_Own; simp only [List.cons_append, List.nil_append])
  unfold vEn
  refine e_boxA fun g1 => ?_
  refine e_newA fun g2 => ?_
  (((with_reducible refine e_opN v_fa0 Imp.nil ?_))); (((with_reducible refine e_opN v_fa0 Imp.nil ?_))); (((with_reducible refine' e_opN (v_ldN ?hc) ?hi ?_); (case hi => (repeat (first | exact Imp.refl | exact Imp.nil | (apply Imp.pick; (focus ((repeat constructor); done))) | refine Imp.drop ?_))); (case hc => (repeat (first | exact Nth.here | apply Nth.there))))); (((with_reducible refine e_opN v_fa0 Imp.nil ?_))); (((with_reducible refine e_opN v_fa0 Imp.nil ?_))); (((with_reducible refine' e_opN (v_ldN ?hc) ?hi ?_); (case hi => (repeat (first | exact Imp.refl | exact Imp.nil | (apply Imp.pick; (focus ((repeat constructor); done))) | refine Imp.drop ?_))); (case hc => (repeat (first | exact Nth.here | apply Nth.there))))); (((with_reducible refine e_opN v_rv Imp.nil ?_))); (((with_reducible refine e_opN v_fa0 Imp.nil ?_))); (((with_reducible refine' e_opN (v_ldN ?hc) ?hi ?_); (case hi => (repeat (first | exact Imp.refl | exact Imp.nil | (apply Imp.pick; (focus ((repeat constructor); done))) | refine Imp.drop ?_))); (case hc => (repeat (first | exact Nth.here | apply Nth.there))))); (((with_reducible refine e_opN v_fa0 Imp.nil ?_))); (((with_reducible refine' e_opN (v_ldN ?hc) ?hi ?_); (case hi => (repeat (first | exact Imp.refl | exact Imp.nil | (apply Imp.pick; (focus ((repeat constructor); done))) | refine Imp.drop ?_))); (case hc => (repeat (first | exact Nth.here | apply Nth.there))))); (((with_reducible refine e_opN v_rv Imp.nil ?_)))
  refine e_stAgg .here (by rfl) (by rfl) (by intro u hu; simp at hu; rcases hu with rfl | rfl | rfl | rfl <;> rfl) ?_
  (((with_reducible refine' e_stS (v_resA ?hn) ?hi ?_); (case hi => (repeat (first | exact Imp.refl | exact Imp.nil | (apply Imp.pick; (focus ((repeat constructor); done))) | refine Imp.drop ?_))); (case hn => rfl)))
  (first | refine e_ret (()) rfl ?_ | refine e_retT (()) ?_)
  (repeat (first | exact Imp.refl | exact Imp.nil | (apply Imp.pick; (focus ((repeat constructor); done))) | refine Imp.drop ?_))
theorem one {W : World} {n v : List UInt8} : Cn Tryz.prog 27 [txt n, txt v] W [] (fun g : Nat => .slice (some ⟨g, 0, none⟩) 1 1) (fun g => [Sl 2 63 (some ⟨g, 0, none⟩) 1 ([(n, v)] : List Fd).length (([(n, v)] : List Fd).flatMap pFd)]) := by
  (refine S.law16_one_cn fun F => ?_; unfold S.law16_one; simp only [List.cons_append, List.nil_append])
  refine e_opN v_rv Imp.nil ?_
  refine e_bslS (n := 1) (vs := [vFd (n, v)]) rfl (by decide) rfl (by intro v hv; rw [List.mem_singleton.1 hv]; rfl) (by decide) fun g => ?_
  refine e_own (s := 2) (n := 1) (cs := pFd (n, v)) .here rfl (by decide) ?_
  (first | refine e_ret (g) rfl ?_ | refine e_retT (g) ?_)
  exact .refl
theorem ld_ent {W : World} {b : Nat} {e : En} {T : TypeId} : RunV Tryz.prog W [pt b (.cells (cEn e) T (0, 0))] (sLoad 28 (.pointer (some ⟨b, 0, none⟩))) (vTag e.tag) :=
  v_ldRdG (o := 0) (j := 0) (vs := pTag e.tag) (rd_pt (cs := [.bool e.tag.1, txt e.tag.2, .int .i64 e.mt, .bool e.has]) rfl) rfl (fun i hi => by
    match i, hi with
    | 0, _ => rfl
    | 1, _ => rfl)
def kE : En := ⟨(false, [97]), 0, true⟩
def kT : List UInt8 := tagT (false, [97])
def mPUT : List UInt8 := [80, 85, 84]
theorem k1 : evF mGET [(nINM, kT)] kE 9 = 304 := by kernel_rfl
theorem k2 : evF mPUT [(nINM, kT)] kE 9 = 412 := by kernel_rfl
theorem k3 : evF mGET [(nIM, kT)] kE 9 = 200 := by kernel_rfl
theorem k4 : inF mGET [] kE 9 = true := by kernel_rfl
theorem knows16 {W : World} : Cn Tryz.prog 10 [] W [] (fun _ : Unit => .bool true) (fun _ => []) := by
  (refine S.law16_knows_cn fun F => ?_; unfold S.law16_knows; simp only [List.cons_append, List.nil_append])
  refine e_opN v_rv Imp.nil ?_
  refine e_opN v_rv Imp.nil ?_
  refine e_newA fun g1 => ?_
  refine e_stAgg .here (by rfl) (by rfl) (by intro u hu; simp at hu; rcases hu with rfl | rfl | rfl | rfl <;> rfl) ?_
  refine e_opN v_fa0 Imp.nil ?_
  refine e_opN (ld_ent (e := kE)) (.pick .here .nil) ?_
  refine e_call (tagText (x := kE.tag) (by decide)) .nil fun _ => ?_
  (try simp only [List.cons_append, List.nil_append, -eq_self])
  refine e_drS ?_
  refine e_stD (v_ldAgg (cs := cEn kE) rfl) (.pick .here .nil) ?_
  refine e_call (one (n := nINM) (v := kT)) .nil fun g => ?_
  (try simp only [List.cons_append, List.nil_append, -eq_self])
  refine e_obl (by (repeat (first | exact Imp.refl | exact Imp.nil | (apply Imp.pick; (focus ((repeat constructor); done))) | refine Imp.drop ?_))) ?_
  refine e_call (evaluate (m := mGET) (l := [(nINM, kT)]) (e := kE) (now := 9) rdF_sl (by decide)) (.cons .here .nil) fun _ => ?_
  (try simp only [List.cons_append, List.nil_append, -eq_self])
  refine e_stS v_eql Imp.nil ?_
  rw [decide_eq_true k1]
  refine e_gdT ?_
  refine e_gdDT ?_
  refine e_stD (v_ldAgg (cs := cEn kE) rfl) (.pick (by (repeat constructor)) .nil) ?_
  refine e_gdT ?_
  refine e_call (one (n := nINM) (v := kT)) .nil fun g' => ?_
  (try simp only [List.cons_append, List.nil_append, -eq_self])
  refine e_obl (by (repeat (first | exact Imp.refl | exact Imp.nil | (apply Imp.pick; (focus ((repeat constructor); done))) | refine Imp.drop ?_))) ?_
  refine e_gdT ?_
  refine e_call (evaluate (m := mPUT) (l := [(nINM, kT)]) (e := kE) (now := 9) rdF_sl (by decide)) (.cons .here .nil) fun _ => ?_
  (try simp only [List.cons_append, List.nil_append, -eq_self])
  refine e_gdT ?_
  refine e_stS v_eql Imp.nil ?_
  rw [decide_eq_true k2]
  refine e_stS v_pickT Imp.nil ?_
  refine e_gdT ?_
  refine e_gdDT ?_
  refine e_stD (v_ldAgg (cs := cEn kE) rfl) (.pick (by (repeat constructor)) .nil) ?_
  refine e_gdT ?_
  refine e_call (one (n := nIM) (v := kT)) .nil fun g'' => ?_
  (try simp only [List.cons_append, List.nil_append, -eq_self])
  refine e_obl (by (repeat (first | exact Imp.refl | exact Imp.nil | (apply Imp.pick; (focus ((repeat constructor); done))) | refine Imp.drop ?_))) ?_
  refine e_gdT ?_
  refine e_call (evaluate (m := mGET) (l := [(nIM, kT)]) (e := kE) (now := 9) rdF_sl (by decide)) (.cons .here .nil) fun _ => ?_
  (try simp only [List.cons_append, List.nil_append, -eq_self])
  refine e_gdT ?_
  refine e_stS v_eql Imp.nil ?_
  rw [decide_eq_true k3]
  refine e_stS v_pickT Imp.nil ?_
  refine e_gdT ?_
  refine e_stS (v_ldAgg (cs := cEn kE) rfl) (.pick (by (repeat constructor)) .nil) ?_
  refine e_gdT ?_
  refine e_nil (s := 2) (e := 63) ?_
  refine e_call (inRange (m := mGET) (l := []) (e := kE) (now := 9) (rdF_nil (c := 0)) (by decide)) (.cons .here .nil) fun _ => ?_
  (try simp only [List.cons_append, List.nil_append, -eq_self])
  rw [k4]
  refine e_stS v_pickT Imp.nil ?_
  (first | refine e_ret (()) rfl ?_ | refine e_retT (()) ?_)
  (repeat (first | exact Imp.refl | exact Imp.nil | (apply Imp.pick; (focus ((repeat constructor); done))) | refine Imp.drop ?_))
end Go.Proofs.YtcmpkkkigmheoaaGreatDoor.FD
/-! Structs of numbers that come in. No conditions but those that each names. -/
namespace Go.Proofs.YtcmpkkkigmheoaaGreatDoor.Sl
open Go Go.RowKit Go.Proofs.YtcmpkkkigmheoaaGreatDoor.Sh
variable {P : Program} {H : Type} {enc : TypeId × Value → H} {W : World}
theorem Old.flat {α : Type} {s n : Nat} {f : α → List Value} {a : Option Addr} {xs : List α} (hf : ∀ x, (f x).length = s) (h0 : 0 < s) (h : Old W s (fun x cs => cs = f x) a n xs) (A : HP) : RdB W A a (n * s) (xs.flatMap f) := by
  have hl := h.len
  refine ⟨by rw [flat_len hf, hl], fun hn => ?_⟩
  obtain ⟨g, o, rfl, hg, hc⟩ := h.at_ (by
    rcases Nat.eq_zero_or_pos n with z | z
    · subst z; simp at hn
    · exact z)
  refine ⟨g, o, rfl, fun w L hw j v hv => ?_⟩
  have hj : j < xs.length * s := by
    rcases Nat.lt_or_ge j (xs.flatMap f).length with c | c
    · rwa [flat_len hf] at c
    · rw [List.getElem?_eq_none c] at hv; cases hv
  have hi : j / s < xs.length := Nat.div_lt_of_lt_mul (by rwa [Nat.mul_comm] at hj)
  have hm : j % s < s := Nat.mod_lt _ h0
  have hd : j = j / s * s + j % s := by rw [Nat.mul_comm]; exact (Nat.div_add_mod j s).symm
  obtain ⟨cs, h1, h2, h3⟩ := hc (j / s) hi
  subst h2
  rw [hd, flat_get hf xs _ _ hi hm] at hv
  have := h3 (j % s) v hv
  rw [hw.base.cell (p := ⟨g, o + j, none⟩) hg]
  rwa [← hd] at this
end Go.Proofs.YtcmpkkkigmheoaaGreatDoor.Sl
/-! A row that lists package-level variables: its witness, texts, fields and entities that come in. No conditions but those that each names. -/
namespace Go.Proofs.YtcmpkkkigmheoaaGreatDoor.FD
open Go Go.Proofs Go.RowKit Go.ChangeShapes Go.Proofs.YtcmpkkkigmheoaaGreatDoor.Sh Go.Proofs.YtcmpkkkigmheoaaGreatDoor.Sl Go.Proofs.YtcmpkkkigmheoaaGreatDoor.T
theorem witness_row_shaped {H : Type} {enc : TypeId × Value → H} {C : Checked} {os : Os} {f : FuncId} {fn : Func} {s : OpenSpec} {conds : List PathCond} {apart : Bool} {laid : List (String × DataW Unit)} (modest : Bool) (w0 : World) (args : Array Value) (hos : w0.os = os)
    (hsh : (w0.forCall (fun _ _ => 0) ⟨#[], args, []⟩).Shaped C.prog)
    (hok : Input.okWideB C.prog (w0.forCall (fun _ _ => 0) ⟨#[], args, []⟩) f ⟨#[], args, []⟩ = true)
    (hrow : s.preRow enc C.prog fn conds apart laid (w0.forCall (fun _ _ => 0) ⟨#[], args, []⟩).memory args) :
    ∃ (w : World) (tape : Tape) (i : Input), w.os = os ∧ (w.forCall tape i).Shaped C.prog ∧ i.vars = [] ∧ Input.okWide C.prog (w.forCall tape i) .any w.heap.size f i ∧
      s.preRow enc C.prog fn conds apart laid (w.forCall tape i).memory i.args ∧ ({ modest := modest } : Assume).holds C.prog (lone (Frame.enter C.prog f i.args .normal) [] (w.forCall tape i)) :=
  ⟨w0, fun _ _ => 0, ⟨#[], args, []⟩, hos, hsh, (Input.okWide_of_okWideB (base := 0) hok).1, (Input.okWide_of_okWideB hok).2, hrow, by
    simp only [Assume.holds]
    exact ⟨by simp, by simp, fun _ => Modest.zero, by simp, by simp⟩⟩
theorem open_txt {P : Program} {H : Type} {enc : TypeId × Value → H} {W : World} {sp : Nat → Bool} {held : Bool} {t : TypeId} {v : Value} {d : DataW H} {ps : List MemPlace} {r : Reach} {b0 : Nat} (ht : P.underlying t = some .string) (hval : Value.okWide P W r b0 t v) (hd : DataW.Trod enc P W 0 sp held t v d ps) :
    ∃ l : List UInt8, v = txt l ∧ l.length + 1 ≤ Rows.uptoBulk d := by
  obtain ⟨s, rfl⟩ := WideShapes.okWide_string ht hval
  obtain ⟨fuel, hf⟩ := hd
  obtain ⟨nm, h0, hx, _⟩ := DataW.trod_string ht hf
  have e : s = nm := by injection h0 with h0; injection h0
  subst e
  refine ⟨s.data.toList, by unfold txt; simp, ?_⟩
  have := (Prod.mk.inj hx).1
  rw [this]
  simp [Rows.uptoBulk]
set_option maxRecDepth 20000 in
theorem open_fd {H : Type} {enc : TypeId × Value → H} {W : World} {sp : Nat → Bool} {held : Bool} (n : Nat) (cs : List Value) (x : DataW H × List MemPlace) (h : DataW.trod enc Tryz.prog W 0 sp held n 63 cs = some x) : ∃ a : Fd, cs = pFd a ∧ a.1.length + a.2.length + 3 ≤ Rows.uptoBulk x.1 := by
  obtain ⟨xs, m, rfl, rfl, hl, hs, hf⟩ := DataW.trod_struct (fs := #[⟨"Name", 9, 0, false, "", "", 0⟩, ⟨"Value", 9, 1, false, "", "", 16⟩]) (by kernel_rfl) h
  rw [show Tryz.prog.cellsOf 63 = 2 by kernel_rfl] at hl
  obtain ⟨c0, c1, rfl⟩ : ∃ c0 c1, cs = [c0, c1] := by
    match cs, hl with
    | [a, b], _ => exact ⟨a, b, rfl⟩
  obtain ⟨x0, x1, rfl⟩ : ∃ x0 x1, xs = [x0, x1] := by
    match xs, hs with
    | [a, b], _ => exact ⟨a, b, rfl⟩
  have e1 : Tryz.prog.cellsOf 9 = 1 := by kernel_rfl
  have f0 := hf 0 _ rfl
  have f1 := hf 1 _ rfl
  simp only [e1, List.drop_zero, List.drop_succ_cons, List.take_succ_cons, List.take_zero, List.getElem?_cons_zero, List.getElem?_cons_succ] at f0 f1
  obtain ⟨n0, h0, hx0, _⟩ := DataW.trod_string (by kernel_rfl) f0
  obtain ⟨n1, h1, hx1, _⟩ := DataW.trod_string (by kernel_rfl) f1
  have k0 : c0 = .string n0 := by injection h0
  have k1 : c1 = .string n1 := by injection h1
  subst k0; subst k1
  refine ⟨(n0.data.toList, n1.data.toList), by unfold pFd txt; simp, ?_⟩
  have h2 := (Prod.mk.inj hx0).1
  have h3 := (Prod.mk.inj hx1).1
  simp only [List.map_cons, List.map_nil, Rows.uptoBulk, Rows.uptoBulkAll]
  rw [h2, h3]
  simp [Rows.uptoBulk]
  omega
theorem sz_sum (l : List Fd) : (l.map fun f => f.1.length + f.2.length + 3).sum = szF l := by
  induction l with
  | nil => rfl
  | cons f r ih => rw [List.map_cons, List.sum_cons, ih, szF]
set_option maxRecDepth 20000 in
theorem open_fds {H : Type} {enc : TypeId × Value → H} {W : World} {sp : Nat → Bool} {held : Bool} {v : Value} {d : DataW H} {ps : List MemPlace} {r : Reach} {b0 : Nat} (hval : Value.okWide Tryz.prog W r b0 22 v) (hd : DataW.Trod enc Tryz.prog W 0 sp held 22 v d ps) :
    ∃ (a : Option Addr) (c : Nat) (l : List Fd), v = .slice a l.length c ∧ (∀ A, RdF W A a l) ∧ szF l + 1 ≤ Rows.uptoBulk d := by
  obtain ⟨fuel, hf⟩ := open_slice (e := 63) (by kernel_rfl) hval hd
  obtain ⟨a, n, c, l, e, g1, g2, g3, g4, g5⟩ := open_old (e := 63) (s := 2) (rd := fun (x : Fd) cs => cs = pFd x) (m := fun f => f.1.length + f.2.length + 3) (by kernel_rfl) (by kernel_rfl) (by omega) (fun n cs x h => open_fd n cs x h) hf
  have hl := g4.len
  subst hl
  rw [sz_sum] at g5
  exact ⟨a, c, l, by injection e, fun A => g4.flat (f := pFd) (fun _ => rfl) (by omega) A, by simp at g5; omega⟩
set_option maxRecDepth 20000 in
theorem open_en {H : Type} {enc : TypeId × Value → H} {W : World} {sp : Nat → Bool} {held : Bool} {v : Value} {d : DataW H} {ps : List MemPlace} {r : Reach} {b0 : Nat} (hval : Value.okWide Tryz.prog W r b0 26 v) (hd : DataW.Trod enc Tryz.prog W 0 sp held 26 v d ps) :
    ∃ e : En, v = vEn e ∧ e.tag.2.length ≤ Rows.uptoBulk d := by
  obtain ⟨cs, rfl, hsz⟩ := WideShapes.okWide_struct (fs := #[⟨"Tag", 24, 0, false, "", "", 0⟩, ⟨"Mtime", 3, 2, false, "", "", 24⟩, ⟨"Some", 4, 3, false, "", "", 32⟩]) (by kernel_rfl) hval
  rw [show Tryz.prog.cellsOf 26 = 4 by kernel_rfl] at hsz
  obtain ⟨fuel, hf⟩ := hd
  obtain ⟨l⟩ := cs
  obtain ⟨c0, c1, c2, c3, rfl⟩ : ∃ c0 c1 c2 c3, l = [c0, c1, c2, c3] := by
    match l, hsz with
    | [a, b, c, d], _ => exact ⟨a, b, c, d, rfl⟩
  rw [show (Value.agg ⟨[c0, c1, c2, c3]⟩).cells.toList = [c0, c1, c2, c3] from rfl] at hf
  obtain ⟨xs, m, rfl, hx, hl, hs, hf⟩ := DataW.trod_struct (fs := #[⟨"Tag", 24, 0, false, "", "", 0⟩, ⟨"Mtime", 3, 2, false, "", "", 24⟩, ⟨"Some", 4, 3, false, "", "", 32⟩]) (by kernel_rfl) hf
  obtain ⟨x0, x1, x2, rfl⟩ : ∃ x0 x1 x2, xs = [x0, x1, x2] := by
    match xs, hs with
    | [a, b, c], _ => exact ⟨a, b, c, rfl⟩
  have e0 : Tryz.prog.cellsOf 24 = 2 := by kernel_rfl
  have e1 : Tryz.prog.cellsOf 3 = 1 := by kernel_rfl
  have e2 : Tryz.prog.cellsOf 4 = 1 := by kernel_rfl
  have e3 : Tryz.prog.cellsOf 9 = 1 := by kernel_rfl
  have f0 := hf 0 _ rfl
  have f1 := hf 1 _ rfl
  have f2 := hf 2 _ rfl
  simp only [e0, e1, e2, List.drop_zero, List.drop_succ_cons, List.take_succ_cons, List.take_zero, List.getElem?_cons_zero, List.getElem?_cons_succ] at f0 f1 f2
  obtain ⟨ys, m2, hm2, hy, hyl, hys, hyf⟩ := DataW.trod_struct (fs := #[⟨"Weak", 4, 0, false, "", "", 0⟩, ⟨"Value", 9, 1, false, "", "", 8⟩]) (by kernel_rfl) f0
  obtain ⟨y0, y1, rfl⟩ : ∃ y0 y1, ys = [y0, y1] := by
    match ys, hys with
    | [a, b], _ => exact ⟨a, b, rfl⟩
  have t0 := hyf 0 _ rfl
  have t1 := hyf 1 _ rfl
  simp only [e2, e3, List.drop_zero, List.drop_succ_cons, List.take_succ_cons, List.take_zero, List.getElem?_cons_zero, List.getElem?_cons_succ] at t0 t1
  obtain ⟨b, h0, _⟩ := DataW.trod_bool (by kernel_rfl) t0
  obtain ⟨nm, h1, hx1, _⟩ := DataW.trod_string (by kernel_rfl) t1
  obtain ⟨mt, h2, _, _⟩ := DataW.trod_int Tryz.underlying3 f1
  obtain ⟨has, h3, _⟩ := DataW.trod_bool (by kernel_rfl) f2
  have k0 : c0 = .bool b := by injection h0
  have k1 : c1 = .string nm := by injection h1
  have k2 : c2 = .int .i64 mt := by injection h2
  have k3 : c3 = .bool has := by injection h3
  subst k0; subst k1; subst k2; subst k3
  refine ⟨⟨(b, nm.data.toList), mt, has⟩, by unfold vEn txt; simp, ?_⟩
  have q := (Prod.mk.inj hx).1
  rw [q]
  have q1 := (Prod.mk.inj hx1).1
  have q2 := (Prod.mk.inj hy).1
  simp only [List.map_cons, List.map_nil, Rows.uptoBulk, Rows.uptoBulkAll]
  rw [q2]
  simp only [List.map_cons, List.map_nil, Rows.uptoBulk, Rows.uptoBulkAll]
  rw [q1]
  simp [Rows.uptoBulk]
  omega
end Go.Proofs.YtcmpkkkigmheoaaGreatDoor.FD
/-! Fields without some names; what they and one more at the end come to. Fields of together at most 2097152 bytes. -/
namespace Go.Proofs.YtcmpkkkigmheoaaGreatDoor.FD
open Go Go.Proofs Go.RowKit Go.Proofs.YtcmpkkkigmheoaaGreatDoor.Sh Go.Proofs.YtcmpkkkigmheoaaGreatDoor.Sl Go.Proofs.YtcmpkkkigmheoaaGreatDoor.T
theorem eql_iff {a b : List UInt8} : eqlF a b = true ↔ lowF a = lowF b := by
  unfold eqlF
  rw [Bool.and_eq_true, decide_eq_true_eq, decide_eq_true_eq]
  refine ⟨fun h => h.2, fun h => ⟨?_, h⟩⟩
  have := congrArg List.length h
  simpa [lowF] using this
theorem eql_low {a n m : List UInt8} (h : lowF n = lowF m) : eqlF a n = eqlF a m := by
  rw [Bool.eq_iff_iff, eql_iff, eql_iff, h]
theorem vals_low {l : List Fd} {n m : List UInt8} (h : lowF n = lowF m) : valsF l n = valsF l m := by
  unfold valsF
  congr 1
  apply List.filter_congr
  intro f _
  exact eql_low h
theorem first_low {l : List Fd} {n m : List UInt8} (h : lowF n = lowF m) : firstF l n = firstF l m := by unfold firstF; rw [vals_low h]
theorem vals_app (a b : List Fd) (n : List UInt8) : valsF (a ++ b) n = valsF a n ++ valsF b n := by simp [valsF]
/-- what is left has none of these -/
theorem vals_with_in {l : List Fd} {N : List (List UInt8)} {n m : List UInt8} (hm : m ∈ N) (h : lowF n = lowF m) : valsF (withF l N) n = [] := by
  unfold valsF withF
  rw [List.map_eq_nil_iff, List.filter_eq_nil_iff]
  intro f hf c
  have h1 := (List.mem_filter.1 hf).2
  unfold noneF at h1
  rw [Bool.not_eq_true', List.any_eq_false] at h1
  exact h1 m hm (by rw [← eql_low h]; exact c)
theorem vals_with_out {l : List Fd} {N : List (List UInt8)} {n : List UInt8} (h : ∀ m ∈ N, lowF n ≠ lowF m) : valsF (withF l N) n = valsF l n := by
  unfold valsF withF
  rw [List.filter_filter]
  congr 1
  apply List.filter_congr
  intro f _
  cases hc : eqlF f.1 n with
  | false => rfl
  | true =>
    rw [Bool.true_and]
    unfold noneF
    rw [Bool.not_eq_true', List.any_eq_false]
    intro m hm c
    exact h m hm ((eql_iff.1 hc).symm.trans (eql_iff.1 c))
theorem sz_with (l : List Fd) (N : List (List UInt8)) : szF (withF l N) ≤ szF l := sz_filter _ _
/-- the conditions read four names -/
theorem ev_congr {m : List UInt8} {l l' : List Fd} {e : En} {now : Int} (h1 : t1F l e = t1F l' e) (h2 : (t1F l e).2 = true ∨ valsF l nIUS = valsF l' nIUS) (h3 : t2F l e = t2F l' e) (h4 : (t2F l e).2 = true ∨ valsF l nIMS = valsF l' nIMS) :
    evF m l e now = evF m l' e now := by
  have hd : ∀ {n : List UInt8}, valsF l n = valsF l' n → daF l n now = daF l' n now := fun h => by unfold daF firstF; rw [h]
  have a : st1F l e now = st1F l' e now := by
    unfold st1F
    rw [h1] at h2 ⊢
    rcases h2 with h | h
    · rw [h]; simp
    · rw [hd h]
  have b : st2F (lkF m) l e now = st2F (lkF m) l' e now := by
    unfold st2F
    rw [h3] at h4 ⊢
    rcases h4 with h | h
    · rw [h]; simp
    · rw [hd h]
  unfold evF
  rw [a, b]
theorem tgs_congr {alike : Tg → Bool} {l l' : List Fd} {n : List UInt8} {has : Bool} (h : valsF l n = valsF l' n) : tgsF alike l n has = tgsF alike l' n has := by unfold tgsF; rw [h]
theorem tgs_some {alike : Tg → Bool} {l : List Fd} {n : List UInt8} {has : Bool} (h : valsF l n ≠ []) : (tgsF alike l n has).2 = true := by
  unfold tgsF
  rw [if_neg h]
  split <;> rfl
theorem tgs_none {alike : Tg → Bool} {l : List Fd} {n : List UInt8} {has : Bool} (h : valsF l n = []) : tgsF alike l n has = (false, false) := by
  unfold tgsF
  rw [if_pos h]
theorem ev_none {m : List UInt8} {l : List Fd} {e : En} {now : Int} (h1 : valsF l nIM = []) (h2 : valsF l nIUS = []) (h3 : valsF l nINM = []) (h4 : valsF l nIMS = []) : evF m l e now = 200 := by
  have f2 : firstF l nIUS = ([], false) := by unfold firstF; rw [h2]
  have f4 : firstF l nIMS = ([], false) := by unfold firstF; rw [h4]
  unfold evF st1F st2F t1F t2F daF
  rw [tgs_none h1, tgs_none h3, f2, f4]
  simp
end Go.Proofs.YtcmpkkkigmheoaaGreatDoor.FD
/-! Two tags in a list, as they are written; a tag's text as the statement looks at it. No conditions but those that each names. -/
namespace Go.Proofs.YtcmpkkkigmheoaaGreatDoor.FD
open Go Go.Proofs Go.RowKit Go.Proofs.YtcmpkkkigmheoaaGreatDoor.Sh Go.Proofs.YtcmpkkkigmheoaaGreatDoor.Sl Go.Proofs.YtcmpkkkigmheoaaGreatDoor.T
theorem els_in : ∀ (s cur t : List UInt8), (∀ c ∈ s, c ≠ 34) → els true false true cur (s ++ 34 :: t) = els true false false (cur ++ s ++ [34]) t
  | [], cur, t, _ => by
    rw [List.nil_append, els_cons, if_neg (by simp), if_pos (by decide)]
    simp
  | c :: s, cur, t, h => by
    have hc := h c (by simp)
    rw [List.cons_append, els_cons, if_neg (by simp), if_neg (fun d => hc d.1), if_neg (by simp), els_in s _ t fun x hx => h x (by simp [hx])]
    simp
theorem els_tag {x : Tg} (h : ∀ c ∈ x.2, c ≠ 34) (cur t : List UInt8) : els true false false cur (tagT x ++ t) = els true false false (cur ++ tagT x) t := by
  have q : ∀ cur, els true false false cur (34 :: x.2 ++ [34] ++ t) = els true false false (cur ++ (34 :: x.2 ++ [34])) t := fun cur => by
    simp only [List.cons_append, List.append_assoc, List.nil_append]
    rw [els_cons, if_neg (by simp), if_pos (by decide)]
    simp only [Bool.not_false]
    rw [els_in _ _ _ h]
    simp
  cases hw : x.1 with
  | false =>
    have e : tagT x = 34 :: x.2 ++ [34] := by simp [tagT, hw]
    rw [e, q]
  | true =>
    have e : tagT x = 87 :: 47 :: (34 :: x.2 ++ [34]) := by simp [tagT, hw]
    rw [e]
    simp only [List.cons_append]
    rw [els_cons, if_neg (by simp), if_neg (by decide), if_neg (by decide), els_cons, if_neg (by simp), if_neg (by decide), if_neg (by decide)]
    have := q (cur ++ [87] ++ [47])
    simp only [List.cons_append] at this
    rw [this]
    simp
theorem tagT_last (x : Tg) : ∃ p, tagT x = p ++ [34] := ⟨(if x.1 then [87, 47] else []) ++ 34 :: x.2, by unfold tagT; simp⟩
theorem tagT_first (x : Tg) : ∃ c r, tagT x = c :: r ∧ isBl c = false := by
  cases hw : x.1 with
  | false => exact ⟨34, x.2 ++ [34], by simp [tagT, hw], rfl⟩
  | true => exact ⟨87, 47 :: 34 :: x.2 ++ [34], by simp [tagT, hw], rfl⟩
theorem trimL_hd {c : UInt8} {r : List UInt8} (h : isBl c = false) : trimL (c :: r) = c :: r := by simp [trimL, List.dropWhile_cons, h]
theorem trim_tag (x : Tg) : trimB (tagT x) = tagT x := by
  obtain ⟨p, hp⟩ := tagT_last x
  obtain ⟨c, r, hc, hb⟩ := tagT_first x
  unfold trimB
  have e : trimR (tagT x) = tagT x := by rw [hp, trimR_snoc, if_neg (by decide)]
  rw [e, hc, trimL_hd hb]
theorem trim_tag1 (x : Tg) : trimB (32 :: tagT x) = tagT x := by
  obtain ⟨p, hp⟩ := tagT_last x
  obtain ⟨c, r, hc, hb⟩ := tagT_first x
  unfold trimB
  have e : trimR (32 :: tagT x) = 32 :: tagT x := by rw [hp, ← List.cons_append, trimR_snoc, if_neg (by decide)]
  rw [e]
  have : trimL (32 :: tagT x) = trimL (tagT x) := by unfold trimL; rw [List.dropWhile_cons]; rfl
  rw [this, hc, trimL_hd hb]
theorem tagT_ne (x : Tg) : tagT x ≠ [] := by
  obtain ⟨c, r, hc, _⟩ := tagT_first x
  rw [hc]; simp
theorem tagT_star {x : Tg} {t : List UInt8} : tagT x ++ t ≠ [42] := by
  obtain ⟨p, hp⟩ := tagT_last x
  obtain ⟨c, r, hc, hb⟩ := tagT_first x
  intro h
  cases hw : x.1 <;> simp [tagT, hw] at h
def okTg (x : Tg) : Prop := x.2.any badT = false
theorem ok_q {x : Tg} (h : okTg x) : ∀ c ∈ x.2, c ≠ 34 := fun c hc d => by
  unfold okTg at h
  rw [List.any_eq_false] at h
  exact h c hc (by subst d; rfl)
theorem tag_ok {x : Tg} (h : okTg x) : tagF (tagT x) = (x, true) := by
  have := tag_back x.1 x.2
  rw [show ((x.1, x.2) : Bool × List UInt8) = x from rfl] at this
  rw [this, show x.2.any badT = false from h]; rfl
theorem tags_one {x : Tg} (h : okTg x) : tagsF (tagT x) = ([x], false, 0) := by
  have hs : trimB (tagT x) ≠ [42] := by
    rw [trim_tag]
    have := tagT_star (x := x) (t := [])
    rwa [List.append_nil] at this
  have he : elemsF true false (tagT x) = [tagT x] := by
    unfold elemsF
    rw [sub0]
    have := els_tag (ok_q h) [] []
    rw [List.append_nil, List.nil_append] at this
    rw [this, els, tidy_cons, trim_tag, if_neg (tagT_ne x)]; rfl
  unfold tagsF tagLF
  rw [if_neg hs, he]
  unfold listF
  simp [tag_ok h]
theorem tags_two {x y : Tg} (hx : okTg x) (hy : okTg y) : tagsF (tagT x ++ [44, 32] ++ tagT y) = ([x, y], false, 0) := by
  have he : elemsF true false (tagT x ++ [44, 32] ++ tagT y) = [tagT x, tagT y] := by
    unfold elemsF
    rw [sub0, List.append_assoc, els_tag (ok_q hx)]
    simp only [List.nil_append, List.cons_append]
    rw [els_cons, if_neg (by simp), if_neg (by decide), if_pos (by decide), els_cons, if_neg (by simp), if_neg (by decide), if_neg (by decide)]
    have := els_tag (ok_q hy) ([] ++ [32]) []
    rw [List.append_nil] at this
    rw [this, els, tidy_cons, trim_tag, if_neg (tagT_ne x), tidy_cons]
    simp only [List.nil_append, List.cons_append]
    rw [trim_tag1, if_neg (tagT_ne y)]; rfl
  have hs : trimB (tagT x ++ [44, 32] ++ tagT y) ≠ [42] := by
    obtain ⟨p, hp⟩ := tagT_last y
    obtain ⟨c, r, hc, hb⟩ := tagT_first x
    have e : trimB (tagT x ++ [44, 32] ++ tagT y) = tagT x ++ [44, 32] ++ tagT y := by
      unfold trimB
      have e1 : trimR (tagT x ++ [44, 32] ++ tagT y) = tagT x ++ [44, 32] ++ tagT y := by
        rw [hp, ← List.append_assoc, trimR_snoc, if_neg (by decide)]
      rw [e1, hc]
      simp only [List.cons_append]
      rw [trimL_hd hb]
    rw [e, List.append_assoc]
    exact tagT_star
  unfold tagsF tagLF
  rw [if_neg hs, he]
  unfold listF
  simp [tag_ok hx, tag_ok hy]
end Go.Proofs.YtcmpkkkigmheoaaGreatDoor.FD
/-! The calendar, plain: a day's date is written back, and the next day. No program in sight. No conditions but those that each names. -/
namespace Go.Proofs.YtcmpkkkigmheoaaGreatDoor.D
open Go Go.Proofs Go.RowKit Go.Proofs.YtcmpkkkigmheoaaGreatDoor.Sh Go.Proofs.YtcmpkkkigmheoaaGreatDoor.Sl Go.Proofs.YtcmpkkkigmheoaaGreatDoor.T
/-- days of an era before a year of it -/
def sY (y : Int) : Int := 365 * y + y / 4 - y / 100
theorem dD_s (e : Int) : e = sY (dY e) + dD e := by unfold dD sY; omega
theorem last_in {c r q y z : Int} (hc : 0 ≤ c ∧ c ≤ 3) (hr : 0 ≤ r ∧ r ≤ 36523) (hq : 1460 * q ≤ 24 * c + r ∧ 24 * c + r < 1460 * q + 1460) (hy : 365 * y ≤ r - q ∧ r - q < 365 * y + 365) (hz : 4 * z ≤ y ∧ y < 4 * z + 4) (hy2 : y ≤ 98) : r < 365 * (y + 1) + (y + 1) / 4 := by
  by_cases h3 : y = 4 * z + 3
  · have : (y + 1) / 4 = z + 1 := by omega
    rw [this]; omega
  · have : (y + 1) / 4 = z := by omega
    rw [this]; omega
/-- a day lies before the next year -/
theorem e_lt {e : Int} (h : 0 ≤ e ∧ e ≤ 146096) : dY e ≤ 398 → e < sY (dY e + 1) := by
  intro hy
  rcases cent h with rfl | ⟨c, r, hc, hr, rfl⟩
  · exact absurd hy (by decide)
  · obtain ⟨q, y, z, h1, h2, h3, h4, h5⟩ := dD_at hc hr
    have hb := doy_b hc hr h1 h2 h3
    rw [h4] at hy ⊢
    by_cases c98 : y ≤ 98
    · have := last_in hc hr h1 h2 h3 c98
      unfold sY
      have g1 : (100 * c + y + 1) / 4 = 25 * c + (y + 1) / 4 := by omega
      have g2 : (100 * c + y + 1) / 100 = c := by omega
      rw [g1, g2]; omega
    · have hy99 : y = 99 := by omega
      subst hy99
      unfold sY
      have g1 : (100 * c + 99 + 1) / 4 = 25 * c + 25 := by omega
      have g2 : (100 * c + 99 + 1) / 100 = c + 1 := by omega
      rw [g1, g2]; omega
theorem sY_mono {a b : Int} (h : a ≤ b) : sY a ≤ sY b := by unfold sY; omega
/-- only one year fits -/
theorem dY_eq {e y : Int} (he : 0 ≤ e ∧ e ≤ 146096) (hy : 0 ≤ y ∧ y ≤ 399) (h1 : sY y ≤ e) (h2 : y ≤ 398 → e < sY (y + 1)) : dY e = y ∧ dD e = e - sY y := by
  have hb := dY_b he
  have hs := dD_s e
  have hd := dD_b he
  have hl := e_lt he
  have hyy : dY e = y := by
    rcases Int.lt_trichotomy (dY e) y with c | c | c
    · have := hl (by omega)
      have := sY_mono (show dY e + 1 ≤ y by omega)
      omega
    · exact c
    · have := h2 (by omega)
      have := sY_mono (show y + 1 ≤ dY e by omega)
      omega
  refine ⟨hyy, ?_⟩
  rw [hyy] at hs; omega
theorem dM_day {d : Int} (h : 0 ≤ d ∧ d ≤ 365) : 0 ≤ (5 * d + 2) / 153 ∧ (5 * d + 2) / 153 ≤ 11 := by omega
/-- back -/
theorem dayN_back {n : Int} (h : 0 ≤ n) : dayN (cY n) (cM n) (cD n) = n := by
  have he := dE_b n
  have hy := dY_b he
  have hd := dD_b he
  have hs := dD_s (dE n)
  have hm := dM_b he
  have ha : adj (cY n) (cM n) = (n + 719468) / 146097 * 400 + dY (dE n) := by
    unfold adj cY
    by_cases c : cM n ≤ 2
    · rw [if_pos c, if_pos c]; omega
    · rw [if_neg c, if_neg c]; omega
  have hN : n + 719468 = (n + 719468) / 146097 * 146097 + dE n := by unfold dE; omega
  have hmp : (cM n + 9) % 12 = dM (dE n) := by unfold cM; omega
  unfold dayN
  rw [ha, hmp]
  have hD : cD n = dD (dE n) - (153 * dM (dE n) + 2) / 5 + 1 := rfl
  rw [hD]
  unfold sY at hs
  generalize (n + 719468) / 146097 = q at *
  generalize dY (dE n) = y at *
  generalize dD (dE n) = d at *
  generalize dM (dE n) = mp at *
  generalize dE n = e at *
  have g1 : (q * 400 + y) / 400 = q := by omega
  have g2 : (q * 400 + y) % 400 = y := by omega
  rw [g1, g2]
  omega
theorem cY_low {n : Int} (h : 0 ≤ n) : 1970 ≤ cY n := by
  have he := dE_b n
  have hy := dY_b he
  have hd := dD_b he
  have hs := dD_s (dE n)
  have hl := e_lt he
  have hN : n + 719468 = (n + 719468) / 146097 * 146097 + dE n := by unfold dE; omega
  unfold cY
  by_cases c5 : 5 ≤ (n + 719468) / 146097
  · split <;> omega
  · have h4 : (n + 719468) / 146097 = 4 := by omega
    rw [h4] at hN ⊢
    have hy3 : 369 ≤ dY (dE n) := by
      by_cases c : 369 ≤ dY (dE n)
      · exact c
      · have h1 := hl (by omega)
        have h2 := sY_mono (show dY (dE n) + 1 ≤ 369 by omega)
        have h3 : sY 369 = 134774 := by decide
        omega
    by_cases c : dY (dE n) = 369
    · have hd3 : 306 ≤ dD (dE n) := by
        rw [c] at hs
        have h3 : sY 369 = 134774 := by decide
        omega
      have hm : cM n ≤ 2 := by
        unfold cM dM
        have h10 : (5 * dD (dE n) + 2) / 153 = 10 ∨ (5 * dD (dE n) + 2) / 153 = 11 := by omega
        rcases h10 with h | h <;> rw [h] <;> decide
      rw [if_pos hm]; omega
    · split <;> omega
def nextOk (n : Int) : Prop := (cD (n + 1) = cD n + 1 ∧ cM (n + 1) = cM n ∧ cY (n + 1) = cY n) ∨ (cD (n + 1) = 1 ∧ 28 ≤ cD n ∧ cM (n + 1) = cM n % 12 + 1 ∧ ((cM n < 12 ∧ cY (n + 1) = cY n) ∨ (cM n = 12 ∧ cY (n + 1) = cY n + 1)))
/-- within a year -/
theorem next_in {d : Int} (h : 0 ≤ d ∧ d ≤ 364) : ((5 * (d + 1) + 2) / 153 = (5 * d + 2) / 153) ∨ ((5 * (d + 1) + 2) / 153 = (5 * d + 2) / 153 + 1 ∧ (5 * d + 2) / 153 ≤ 10 ∧ d + 1 = (153 * ((5 * d + 2) / 153 + 1) + 2) / 5 ∧ 28 ≤ d - (153 * ((5 * d + 2) / 153) + 2) / 5 + 1) := by
  obtain ⟨m, hm⟩ : ∃ m, m = (5 * d + 2) / 153 := ⟨_, rfl⟩
  rw [← hm]
  have h1 : 0 ≤ m ∧ m ≤ 11 := by omega
  have h2 : 153 * m ≤ 5 * d + 2 ∧ 5 * d + 2 < 153 * m + 153 := by omega
  clear hm
  have : m = 0 ∨ m = 1 ∨ m = 2 ∨ m = 3 ∨ m = 4 ∨ m = 5 ∨ m = 6 ∨ m = 7 ∨ m = 8 ∨ m = 9 ∨ m = 10 ∨ m = 11 := by omega
  rcases this with rfl | rfl | rfl | rfl | rfl | rfl | rfl | rfl | rfl | rfl | rfl | rfl <;> omega
theorem cM_of {n mp : Int} (h : dM (dE n) = mp) : cM n = (mp + 2) % 12 + 1 := by unfold cM; rw [h]
theorem mp12 {m : Int} (h : 0 ≤ m ∧ m ≤ 10) : (m + 1 + 2) % 12 + 1 = ((m + 2) % 12 + 1) % 12 + 1 ∧ (((m + 2) % 12 + 1 < 12 ∧ ((m + 2) % 12 + 1 ≤ 2 ↔ (m + 1 + 2) % 12 + 1 ≤ 2)) ∨ ((m + 2) % 12 + 1 = 12 ∧ (m + 1 + 2) % 12 + 1 ≤ 2)) := by
  have : m = 0 ∨ m = 1 ∨ m = 2 ∨ m = 3 ∨ m = 4 ∨ m = 5 ∨ m = 6 ∨ m = 7 ∨ m = 8 ∨ m = 9 ∨ m = 10 := by omega
  rcases this with rfl | rfl | rfl | rfl | rfl | rfl | rfl | rfl | rfl | rfl | rfl <;> decide
theorem next_day {n : Int} (h : 0 ≤ n ∧ n ≤ 2932895) : nextOk n := by
  have he := dE_b n
  have hy := dY_b he
  have hd := dD_b he
  have hs := dD_s (dE n)
  have hl := e_lt he
  unfold nextOk
  by_cases c0 : dE n = 146096
  · have hE : dE (n + 1) = 0 ∧ (n + 1 + 719468) / 146097 = (n + 719468) / 146097 + 1 := by unfold dE at c0 ⊢; omega
    have m1 : cM n = 2 := by unfold cM; rw [c0]; decide
    have m2 : cM (n + 1) = 3 := by unfold cM; rw [hE.1]; decide
    refine .inr ⟨by unfold cD; rw [hE.1]; decide, by unfold cD; rw [c0]; decide, by rw [m1, m2]; decide, .inl ⟨by rw [m1]; decide, ?_⟩⟩
    unfold cY
    rw [m1, m2, hE.1, hE.2, c0, if_neg (by decide), if_pos (by decide), show dY 146096 = 399 by decide, show dY 0 = 0 by decide]
    omega
  have hE : dE (n + 1) = dE n + 1 ∧ (n + 1 + 719468) / 146097 = (n + 719468) / 146097 := by unfold dE at c0 ⊢; omega
  by_cases c1 : dY (dE n) ≤ 398 ∧ dE n + 1 = sY (dY (dE n) + 1)
  · obtain ⟨a1, a2⟩ := dY_eq (e := dE n + 1) (y := dY (dE n) + 1) (by omega) (by omega) (by omega) (fun _ => by rw [c1.2]; unfold sY; omega)
    have hd2 : dD (dE n) = 364 ∨ dD (dE n) = 365 := by
      have : sY (dY (dE n) + 1) - sY (dY (dE n)) = 365 ∨ sY (dY (dE n) + 1) - sY (dY (dE n)) = 366 := by unfold sY; omega
      omega
    have e0 : dD (dE n + 1) = 0 := by rw [a2]; omega
    have m1 : cM n = 2 := by
      unfold cM dM
      rcases hd2 with x | x <;> rw [x] <;> decide
    have m2 : cM (n + 1) = 3 := by unfold cM dM; rw [hE.1, e0]; decide
    refine .inr ⟨by unfold cD dM; rw [hE.1, e0]; decide, ?_, by rw [m1, m2]; decide, .inl ⟨by rw [m1]; decide, ?_⟩⟩
    · unfold cD dM
      rcases hd2 with x | x <;> rw [x] <;> decide
    · unfold cY
      rw [m1, m2, hE.1, hE.2, a1, if_neg (by decide), if_pos (by decide)]
      omega
  · obtain ⟨a1, a2⟩ := dY_eq (e := dE n + 1) (y := dY (dE n)) (by omega) hy (by omega) (fun c => by have := hl c; omega)
    have a3 : dD (dE n + 1) = dD (dE n) + 1 := by rw [a2]; omega
    have hd3 := dD_b (e := dE n + 1) (by omega)
    rw [a3] at hd3
    have hM : dM (dE n) = (5 * dD (dE n) + 2) / 153 := rfl
    have hM1 : dM (dE n + 1) = (5 * (dD (dE n) + 1) + 2) / 153 := by unfold dM; rw [a3]
    have hm0 := dM_b he
    have hY : ∀ k, cY k = (k + 719468) / 146097 * 400 + dY (dE k) + (if cM k ≤ 2 then 1 else 0) := fun _ => rfl
    rcases next_in (d := dD (dE n)) (by omega) with x | ⟨x1, x2, x3, x4⟩
    · have mm : dM (dE (n + 1)) = dM (dE n) := by rw [hE.1, hM1, x, hM]
      have hcm : cM (n + 1) = cM n := by unfold cM; rw [mm]
      refine .inl ⟨?_, hcm, ?_⟩
      · unfold cD; rw [mm, hE.1, a3]; omega
      · rw [hY, hY, hcm, hE.1, hE.2, a1]
    · rw [← hM] at x1 x2 x3 x4
      have mm : dM (dE (n + 1)) = dM (dE n) + 1 := by rw [hE.1, hM1, x1]
      obtain ⟨k1, k2⟩ := mp12 (m := dM (dE n)) ⟨hm0.1, x2⟩
      have c1' : cM (n + 1) = (dM (dE n) + 1 + 2) % 12 + 1 := cM_of mm
      have c2' : cM n = (dM (dE n) + 2) % 12 + 1 := cM_of rfl
      rw [← c1', ← c2'] at k1 k2
      refine .inr ⟨?_, x4, k1, ?_⟩
      · unfold cD; rw [mm, hE.1, a3]; omega
      · rcases k2 with ⟨g1, g2⟩ | ⟨g1, g2⟩
        · refine .inl ⟨g1, ?_⟩
          rw [hY, hY, hE.1, hE.2, a1]
          by_cases c : cM n ≤ 2
          · rw [if_pos c, if_pos (g2.1 c)]
          · rw [if_neg c, if_neg (fun x => c (g2.2 x))]
        · refine .inr ⟨g1, ?_⟩
          rw [hY, hY, hE.1, hE.2, a1, if_pos g2, if_neg (by omega)]
          omega
end Go.Proofs.YtcmpkkkigmheoaaGreatDoor.D
/-! Years and months one by one, plain: the same calendar. No program in sight. No conditions but those that each names. -/
namespace Go.Proofs.YtcmpkkkigmheoaaGreatDoor.D
open Go Go.Proofs Go.RowKit Go.Proofs.YtcmpkkkigmheoaaGreatDoor.Sh Go.Proofs.YtcmpkkkigmheoaaGreatDoor.Sl Go.Proofs.YtcmpkkkigmheoaaGreatDoor.T
def leapP (y : Int) : Prop := (y % 4 = 0 ∧ ¬ y % 100 = 0) ∨ y % 400 = 0
instance (y : Int) : Decidable (leapP y) := by unfold leapP; infer_instance
def yrN (y : Int) : Int := if leapP y then 366 else 365
def mlN (y m : Int) : Int := if m = 2 then (if leapP y then 29 else 28) else if m = 4 ∨ m = 6 ∨ m = 9 ∨ m = 11 then 30 else 31
def gN (a : Int) : Int := 365 * a + a / 4 - a / 100 + a / 400
theorem dayN_g (y m d : Int) : dayN y m d = gN (adj y m) + ((153 * ((m + 9) % 12) + 2) / 5 + d - 1) - 719468 := by
  unfold dayN gN
  generalize adj y m = a
  have h1 : a / 4 = 100 * (a / 400) + a % 400 / 4 := by omega
  have h2 : a / 100 = 4 * (a / 400) + a % 400 / 100 := by omega
  have h3 : a = 400 * (a / 400) + a % 400 := by omega
  omega
theorem g_step (y : Int) : gN y = gN (y - 1) + yrN y := by
  by_cases hl : leapP y
  · rw [show yrN y = 366 from if_pos hl]
    unfold leapP at hl
    unfold gN
    omega
  · rw [show yrN y = 365 from if_neg hl]
    unfold leapP at hl
    unfold gN
    omega
theorem adj1 (y : Int) : adj y 1 = y - 1 ∧ adj y 2 = y - 1 := ⟨rfl, rfl⟩
theorem adj3 {y m : Int} (h : 3 ≤ m) : adj y m = y := by unfold adj; rw [if_neg (by omega)]
theorem jan_step (y : Int) : dayN (y + 1) 1 1 = dayN y 1 1 + yrN y := by
  rw [dayN_g, dayN_g, (adj1 _).1, (adj1 _).1]
  have := g_step y
  rw [show y + 1 - 1 = y by omega]
  omega
theorem ml_step {y m : Int} (h : 1 ≤ m ∧ m ≤ 11) : dayN y (m + 1) 1 = dayN y m 1 + mlN y m := by
  rw [dayN_g, dayN_g]
  have hg := g_step y
  by_cases h2 : m = 2
  · subst h2
    rw [(adj1 y).2, adj3 (by decide)]
    unfold mlN
    unfold yrN at hg
    rw [if_pos rfl]
    by_cases hl : leapP y
    · rw [if_pos hl] at hg ⊢; omega
    · rw [if_neg hl] at hg ⊢; omega
  have hm : mlN y m = if m = 4 ∨ m = 6 ∨ m = 9 ∨ m = 11 then 30 else 31 := if_neg h2
  rw [hm]
  by_cases h1 : m = 1
  · subst h1
    rw [(adj1 y).1, show (1 : Int) + 1 = 2 from rfl, (adj1 y).2, if_neg (by decide)]
    omega
  · rw [adj3 (by omega), adj3 (by omega)]
    have : m = 3 ∨ m = 4 ∨ m = 5 ∨ m = 6 ∨ m = 7 ∨ m = 8 ∨ m = 9 ∨ m = 10 ∨ m = 11 := by omega
    rcases this with rfl | rfl | rfl | rfl | rfl | rfl | rfl | rfl | rfl <;> simp <;> omega
theorem dec_step (y : Int) : dayN (y + 1) 1 1 = dayN y 12 1 + mlN y 12 := by
  rw [dayN_g, dayN_g, (adj1 _).1, adj3 (by decide), show mlN y 12 = 31 from rfl, show y + 1 - 1 = y by omega]
  omega
theorem jan_mono {a b : Int} (h : a ≤ b) : dayN a 1 1 ≤ dayN b 1 1 := by
  rw [dayN_g, dayN_g, (adj1 _).1, (adj1 _).1]
  unfold gN
  omega
theorem ml_b (y m : Int) : 28 ≤ mlN y m ∧ mlN y m ≤ 31 := by
  unfold mlN
  split
  · split <;> omega
  · split <;> omega
theorem mon_mono {y m : Int} (h : 1 ≤ m) : ∀ k : Nat, m + k ≤ 12 → dayN y m 1 ≤ dayN y (m + k) 1
  | 0, _ => by simp
  | k + 1, hk => by
    have h1 := mon_mono h (y := y) k (by omega)
    have h2 := ml_step (y := y) (m := m + k) (by omega)
    have h3 := ml_b y (m + k)
    rw [show m + ((k + 1 : Nat) : Int) = m + k + 1 by omega]
    omega
theorem mon_le {y m M : Int} (h : 1 ≤ m) (h1 : m ≤ M) (h2 : M ≤ 12) : dayN y m 1 ≤ dayN y M 1 := by
  have := mon_mono h (y := y) (M - m).toNat (by omega)
  rwa [show m + ((M - m).toNat : Int) = M by omega] at this
/-- a month ends before the next year -/
theorem mon_year {y m : Int} (h : 1 ≤ m ∧ m ≤ 12) : dayN y m 1 + mlN y m ≤ dayN (y + 1) 1 1 := by
  have hd := dec_step y
  by_cases c : m = 12
  · subst c; omega
  · have h1 := ml_step (y := y) (m := m) (by omega)
    have h2 := mon_le (y := y) (m := m + 1) (M := 12) (by omega) (by omega) (by omega)
    have h3 := ml_b y 12
    omega
theorem day1 (y m d : Int) : dayN y m d = dayN y m 1 + (d - 1) := by unfold dayN; omega
theorem cD_ml {n : Int} : cD n ≤ mlN (cY n) (cM n) := by
  have he := dE_b n
  have hy := dY_b he
  have hd := dD_b he
  have hs := dD_s (dE n)
  have hl := e_lt he
  have hm0 := dM_b he
  have hM : 153 * dM (dE n) ≤ 5 * dD (dE n) + 2 ∧ 5 * dD (dE n) + 2 < 153 * dM (dE n) + 153 := by unfold dM; omega
  have hD : cD n = dD (dE n) - (153 * dM (dE n) + 2) / 5 + 1 := rfl
  have hMM : cM n = (dM (dE n) + 2) % 12 + 1 := rfl
  have hY : cY n = (n + 719468) / 146097 * 400 + dY (dE n) + (if cM n ≤ 2 then 1 else 0) := rfl
  by_cases c : dM (dE n) = 11
  · rw [c] at hMM hD
    have h2 : cM n = 2 := by rw [hMM]; decide
    rw [h2, if_pos (by decide)] at hY
    rw [h2, hD]
    unfold mlN
    rw [if_pos rfl]
    by_cases hlp : leapP (cY n)
    · rw [if_pos hlp]; omega
    · rw [if_neg hlp]
      have hq : dY (dE n) ≤ 398 := by
        by_cases c3 : dY (dE n) ≤ 398
        · exact c3
        · exact absurd (show leapP (cY n) by rw [hY]; unfold leapP; omega) hlp
      have h4 := hl hq
      have h5 : sY (dY (dE n) + 1) - sY (dY (dE n)) ≤ 365 := by
        rw [hY] at hlp
        unfold leapP at hlp
        unfold sY
        generalize dY (dE n) = y at *
        generalize (n + 719468) / 146097 = q at *
        have g1 : (q * 400 + y + 1) % 4 = (y + 1) % 4 := by omega
        have g2 : (q * 400 + y + 1) % 100 = (y + 1) % 100 := by omega
        rw [g1, g2] at hlp
        omega
      omega
  · have hnd : ∀ Y : Int, ∀ mp : Int, 0 ≤ mp ∧ mp ≤ 10 → ∀ d : Int, 153 * mp ≤ 5 * d + 2 ∧ 5 * d + 2 < 153 * mp + 153 → d - (153 * mp + 2) / 5 + 1 ≤ mlN Y ((mp + 2) % 12 + 1) := by
      intro Y mp hmp d hd
      have : mp = 0 ∨ mp = 1 ∨ mp = 2 ∨ mp = 3 ∨ mp = 4 ∨ mp = 5 ∨ mp = 6 ∨ mp = 7 ∨ mp = 8 ∨ mp = 9 ∨ mp = 10 := by omega
      rcases this with rfl | rfl | rfl | rfl | rfl | rfl | rfl | rfl | rfl | rfl | rfl <;> unfold mlN <;> simp <;> omega
    rw [hMM, hD]
    exact hnd _ _ (by omega) _ hM
/-- where a day's year begins, where it ends; its month -/
theorem day_in {n : Int} (h : 0 ≤ n) : dayN (cY n) 1 1 ≤ n ∧ n < dayN (cY n + 1) 1 1 ∧ dayN (cY n) (cM n) 1 + (cD n - 1) = n ∧ dayN (cY n) (cM n) 1 ≤ n ∧ n < dayN (cY n) (cM n) 1 + mlN (cY n) (cM n) := by
  have hb := dayN_back h
  rw [day1] at hb
  have hm := cM_b n
  have hd := cD_b n
  have hml := cD_ml (n := n)
  have h1 := mon_le (y := cY n) (m := 1) (M := cM n) (by omega) hm.1 hm.2
  have h2 := mon_year (y := cY n) hm
  omega
end Go.Proofs.YtcmpkkkigmheoaaGreatDoor.D
/-! The document's years, months and dates: what they compute. No conditions but those that each names. -/
namespace Go.Proofs.YtcmpkkkigmheoaaGreatDoor.D
open Go Go.Proofs Go.RowKit Go.Proofs.YtcmpkkkigmheoaaGreatDoor.Sh Go.Proofs.YtcmpkkkigmheoaaGreatDoor.Sl Go.Proofs.YtcmpkkkigmheoaaGreatDoor.T
theorem leap {W : World} {y : Int} (h : 0 ≤ y) : Cn Tryz.prog 100 [.int .i64 y] W [] (fun _ : Unit => .bool (decide (leapP y))) (fun _ => []) := by
  (refine S.ref09_leap_cn fun F => ?_; unfold S.ref09_leap; simp only [List.cons_append, List.nil_append])
  (((with_reducible refine e_opN (v_rem ?h1 ?h2) Imp.nil ?_); (case h1 => omega); (case h2 => omega)))
  refine e_ask v_eql Imp.nil (fun h4 => ?_) (fun h4 => ?_)
  · ((with_reducible refine e_gdT ?_)); ((with_reducible refine e_gdT ?_)); (((with_reducible refine e_opN (v_rem ?h1 ?h2) Imp.nil ?_); (case h1 => omega); (case h2 => omega))); ((with_reducible refine e_gdT ?_))
    refine e_ask v_neq Imp.nil (fun h1 => ?_) (fun h1 => ?_)
    · (((with_reducible refine e_opN v_pickT Imp.nil ?_))); ((with_reducible refine e_gdF1 ?_)); ((with_reducible refine e_gdF1 ?_)); ((with_reducible refine e_gdF1 ?_)); (((with_reducible refine e_opN v_pickT Imp.nil ?_)))
      rw [decide_eq_true (show leapP y from .inl ⟨h4, h1⟩)]
      (first | refine e_ret (()) rfl ?_ | refine e_retT (()) ?_)
      (repeat (first | exact Imp.refl | exact Imp.nil | (apply Imp.pick; (focus ((repeat constructor); done))) | refine Imp.drop ?_))
    · (((with_reducible refine e_opN v_pickT Imp.nil ?_))); ((with_reducible refine e_gdT ?_)); ((with_reducible refine e_gdT ?_)); (((with_reducible refine e_opN (v_rem ?h1 ?h2) Imp.nil ?_); (case h1 => omega); (case h2 => omega))); ((with_reducible refine e_gdT ?_))
      refine e_ask v_eql Imp.nil (fun h5 => ?_) (fun h5 => ?_)
      · (((with_reducible refine e_opN v_pickF Imp.nil ?_)))
        rw [decide_eq_true (show leapP y from .inr h5)]
        (first | refine e_ret (()) rfl ?_ | refine e_retT (()) ?_)
        (repeat (first | exact Imp.refl | exact Imp.nil | (apply Imp.pick; (focus ((repeat constructor); done))) | refine Imp.drop ?_))
      · (((with_reducible refine e_opN v_pickF Imp.nil ?_)))
        rw [decide_eq_false (show ¬ leapP y from fun c => by rcases c with c | c; exact h1 c.2; exact h5 c)]
        (first | refine e_ret (()) rfl ?_ | refine e_retT (()) ?_)
        (repeat (first | exact Imp.refl | exact Imp.nil | (apply Imp.pick; (focus ((repeat constructor); done))) | refine Imp.drop ?_))
  · ((with_reducible refine e_gdF2 ?_)); ((with_reducible refine e_gdF2 ?_)); ((with_reducible refine e_gdF2 ?_)); (((with_reducible refine e_opN v_pickF Imp.nil ?_))); ((with_reducible refine e_gdT ?_)); ((with_reducible refine e_gdT ?_)); (((with_reducible refine e_opN (v_rem ?h1 ?h2) Imp.nil ?_); (case h1 => omega); (case h2 => omega))); ((with_reducible refine e_gdT ?_))
    refine e_ask v_eql Imp.nil (fun h5 => ?_) (fun h5 => ?_)
    · (((with_reducible refine e_opN v_pickF Imp.nil ?_)))
      rw [decide_eq_true (show leapP y from .inr h5)]
      (first | refine e_ret (()) rfl ?_ | refine e_retT (()) ?_)
      (repeat (first | exact Imp.refl | exact Imp.nil | (apply Imp.pick; (focus ((repeat constructor); done))) | refine Imp.drop ?_))
    · (((with_reducible refine e_opN v_pickF Imp.nil ?_)))
      rw [decide_eq_false (show ¬ leapP y from fun c => by rcases c with c | c; exact h4 c.1; exact h5 c)]
      (first | refine e_ret (()) rfl ?_ | refine e_retT (()) ?_)
      (repeat (first | exact Imp.refl | exact Imp.nil | (apply Imp.pick; (focus ((repeat constructor); done))) | refine Imp.drop ?_))
theorem year {W : World} {y : Int} (h : 0 ≤ y) : Cn Tryz.prog 83 [.int .i64 y] W [] (fun _ : Unit => .int .i64 (yrN y)) (fun _ => []) := by
  (refine S.ref09_year_cn fun F => ?_; unfold S.ref09_year; simp only [List.cons_append, List.nil_append])
  (refine' e_call (leap h) ?hp fun _ => ?_; (case hp => (repeat (first | exact Picks.nil | (apply Picks.cons; (focus (repeat constructor)))))); (try simp only [List.cons_append, List.nil_append, Bool.not_true, Bool.not_false]))
  unfold yrN
  by_cases hl : leapP y
  · rw [decide_eq_true hl, if_pos hl]
    ((with_reducible refine e_condT ?_))
    (first | refine e_ret (()) rfl ?_ | refine e_retT (()) ?_)
    (repeat (first | exact Imp.refl | exact Imp.nil | (apply Imp.pick; (focus ((repeat constructor); done))) | refine Imp.drop ?_))
  · rw [decide_eq_false hl, if_neg hl]
    ((with_reducible refine e_condF ?_))
    (first | refine e_ret (()) rfl ?_ | refine e_retT (()) ?_)
    (repeat (first | exact Imp.refl | exact Imp.nil | (apply Imp.pick; (focus ((repeat constructor); done))) | refine Imp.drop ?_))
theorem rdays {W : World} {y m : Int} (h : 0 ≤ y) : Cn Tryz.prog 82 [.int .i64 y, .int .i64 m] W [] (fun _ : Unit => .int .i64 (mlN y m)) (fun _ => []) := by
  (refine S.ref09_days_cn fun F => ?_; unfold S.ref09_days; simp only [List.cons_append, List.nil_append])
  refine e_ask v_eql Imp.nil (fun h2 => ?_) (fun h2 => ?_)
  · ((with_reducible refine e_condT ?_))
    (refine' e_call (leap h) ?hp fun _ => ?_; (case hp => (repeat (first | exact Picks.nil | (apply Picks.cons; (focus (repeat constructor)))))); (try simp only [List.cons_append, List.nil_append, Bool.not_true, Bool.not_false]))
    unfold mlN
    rw [if_pos h2]
    by_cases hl : leapP y
    · rw [decide_eq_true hl, if_pos hl]
      ((with_reducible refine e_condT ?_))
      (first | refine e_ret (()) rfl ?_ | refine e_retT (()) ?_)
      (repeat (first | exact Imp.refl | exact Imp.nil | (apply Imp.pick; (focus ((repeat constructor); done))) | refine Imp.drop ?_))
    · rw [decide_eq_false hl, if_neg hl]
      ((with_reducible refine e_condF ?_))
      (first | refine e_ret (()) rfl ?_ | refine e_retT (()) ?_)
      (repeat (first | exact Imp.refl | exact Imp.nil | (apply Imp.pick; (focus ((repeat constructor); done))) | refine Imp.drop ?_))
  ((with_reducible refine e_condF ?_))
  have hm : mlN y m = if m = 4 ∨ m = 6 ∨ m = 9 ∨ m = 11 then 30 else 31 := if_neg h2
  rw [hm]
  refine e_ask v_eql Imp.nil (fun h4 => ?_) (fun h4 => ?_)
  · rw [if_pos (.inl h4)]
    ((with_reducible refine e_condT ?_)); ((with_reducible refine e_condT ?_))
    (first | refine e_ret (()) rfl ?_ | refine e_retT (()) ?_)
    (repeat (first | exact Imp.refl | exact Imp.nil | (apply Imp.pick; (focus ((repeat constructor); done))) | refine Imp.drop ?_))
  ((with_reducible refine e_condF ?_))
  refine e_ask v_eql Imp.nil (fun h6 => ?_) (fun h6 => ?_)
  · rw [if_pos (.inr (.inl h6))]
    ((with_reducible refine e_condT ?_)); ((with_reducible refine e_condT ?_))
    (first | refine e_ret (()) rfl ?_ | refine e_retT (()) ?_)
    (repeat (first | exact Imp.refl | exact Imp.nil | (apply Imp.pick; (focus ((repeat constructor); done))) | refine Imp.drop ?_))
  ((with_reducible refine e_condF ?_))
  refine e_ask v_eql Imp.nil (fun h9 => ?_) (fun h9 => ?_)
  · rw [if_pos (.inr (.inr (.inl h9)))]
    ((with_reducible refine e_condT ?_)); ((with_reducible refine e_condT ?_))
    (first | refine e_ret (()) rfl ?_ | refine e_retT (()) ?_)
    (repeat (first | exact Imp.refl | exact Imp.nil | (apply Imp.pick; (focus ((repeat constructor); done))) | refine Imp.drop ?_))
  ((with_reducible refine e_condF ?_))
  refine e_ask v_eql Imp.nil (fun h11 => ?_) (fun h11 => ?_)
  · rw [if_pos (.inr (.inr (.inr h11)))]
    ((with_reducible refine e_condT ?_))
    (first | refine e_ret (()) rfl ?_ | refine e_retT (()) ?_)
    (repeat (first | exact Imp.refl | exact Imp.nil | (apply Imp.pick; (focus ((repeat constructor); done))) | refine Imp.drop ?_))
  · rw [if_neg (fun c => by rcases c with c | c | c | c; exact h4 c; exact h6 c; exact h9 c; exact h11 c)]
    ((with_reducible refine e_condF ?_))
    (first | refine e_ret (()) rfl ?_ | refine e_retT (()) ?_)
    (repeat (first | exact Imp.refl | exact Imp.nil | (apply Imp.pick; (focus ((repeat constructor); done))) | refine Imp.drop ?_))
end Go.Proofs.YtcmpkkkigmheoaaGreatDoor.D
/-! A time that is written is read as it was, plain. No program in sight. No conditions but those that each names. -/
namespace Go.Proofs.YtcmpkkkigmheoaaGreatDoor.D
open Go Go.Proofs Go.RowKit Go.Proofs.YtcmpkkkigmheoaaGreatDoor.Sh Go.Proofs.YtcmpkkkigmheoaaGreatDoor.Sl Go.Proofs.YtcmpkkkigmheoaaGreatDoor.T
theorem sp_eq {n : Int} (h : okT n) : spD n = ⟨cY (n / 86400), cM (n / 86400), cD (n / 86400), n % 86400 / 3600, n % 3600 / 60, n % 60, (n / 86400 + 4) % 7⟩ := if_pos h
theorem sp_back {n : Int} (h : okT n) : okF (spD n) ∧ jN (spD n) = n := by
  have hT := h
  unfold okT at hT
  have hb := dayN_back (n := n / 86400) (by omega)
  have ok : okF (spD n) := by
    rw [sp_eq h]
    unfold okF
    refine ⟨⟨cY_low (by omega), (cY_b (by omega)).2⟩, cM_b _, cD_b _, by simp only; omega, by simp only; omega, by simp only; omega, ?_⟩
    simp only
    rw [hb]
  refine ⟨ok, ?_⟩
  rw [show jN (spD n) = dayN (spD n).y (spD n).m (spD n).d * 86400 + (spD n).h * 3600 + (spD n).mi * 60 + (spD n).s from if_pos ok, sp_eq h]
  simp only
  rw [hb]
  omega
def noW (x : Dt) : Dt := ⟨x.y, x.m, x.d, x.h, x.mi, x.s, 0⟩
theorem noW_f (x : Dt) : (okF (noW x) ↔ okF x) ∧ jN (noW x) = jN x := ⟨Iff.rfl, rfl⟩
theorem tk_app {a b : List UInt8} {k : Nat} (h : a.length = k) : tkR k (a ++ b) = some (a, b) := by
  unfold tkR
  subst h
  rw [if_pos (by rw [List.length_append]; omega), List.take_left' rfl, List.drop_left' rfl]
theorem nv2 : ∀ n : Fin 100, numV (dg n.1 2 48) = some n.1 := by decide
theorem nv2b : ∀ n : Fin 100, numV (dg n.1 2 32) = some n.1 := by decide
theorem mv : ∀ i : Fin 12, monV (moL.getD i.1 []) = some ((i.1 : Int) + 1) := by decide
theorem d48 (q : Nat) : (if q = 0 ∧ True then (48 : UInt8) else UInt8.ofNat (48 + q % 10)) = UInt8.ofNat (48 + q % 10) := by
  split
  · rename_i h; rw [h.1]; rfl
  · rfl
theorem dg4 (n : Nat) : dg n 4 48 = [UInt8.ofNat (48 + n / 1000 % 10), UInt8.ofNat (48 + n / 100 % 10), UInt8.ofNat (48 + n / 10 % 10), UInt8.ofNat (48 + n % 10)] := by
  have e : dg n 4 48 = [dgAt n 4 48 0, dgAt n 4 48 1, dgAt n 4 48 2, dgAt n 4 48 3] := rfl
  have z : ∀ (q : Nat) (p : Prop) [Decidable p], (if q = 0 ∧ p then (48 : UInt8) else UInt8.ofNat (48 + q % 10)) = UInt8.ofNat (48 + q % 10) := fun q p _ => by
    split
    · rename_i h; rw [h.1]; rfl
    · rfl
  rw [e]
  unfold dgAt
  rw [z, z, z, z]
  simp
theorem fix0_c (c : UInt8) (r : List UInt8) : fix0 (c :: r) = (if c = 32 then 48 else c) :: r := rfl
theorem numF_c (acc : Nat) (c : UInt8) (r : List UInt8) : numF acc (c :: r) = if c.toNat < 48 ∨ 57 < c.toNat then none else numF (10 * acc + (c.toNat - 48)) r := rfl
theorem nv4 {n : Nat} (h : n < 10000) : numV (dg n 4 48) = some n := by
  rw [dg4]
  have b : ∀ q : Nat, (UInt8.ofNat (48 + q % 10)).toNat = 48 + q % 10 := fun q => u8_of _ (by omega)
  have f : ∀ q : Nat, ¬ UInt8.ofNat (48 + q % 10) = 32 := fun q c => by
    have := congrArg UInt8.toNat c
    rw [b] at this
    have e : (32 : UInt8).toNat = 32 := rfl
    omega
  unfold numV
  rw [fix0_c, if_neg (f _), numF_c, b, if_neg (by omega), numF_c, b, if_neg (by omega), numF_c, b, if_neg (by omega), numF_c, b, if_neg (by omega)]
  unfold numF
  congr 1
  omega
theorem num_app {n k : Nat} {fill : UInt8} {b : List UInt8} (h : numV (dg n k fill) = some n) : numR k (dg n k fill ++ b) = some (n, b) := by
  unfold numR
  rw [tk_app (dg_len _ _ _)]
  simp only [h]
theorem mo_len {x : Dt} (h : 1 ≤ x.m ∧ x.m ≤ 12) : (moN x).length = 3 := by
  have : ∀ i : Fin 12, (moL.getD i.1 []).length = 3 := by decide
  exact this ⟨(x.m - 1).toNat, by omega⟩
theorem wd_len {x : Dt} (h : 0 ≤ x.w ∧ x.w ≤ 6) : ((wdN x).take 3).length = 3 ∧ (wdN x).length ≤ 9 ∧ 3 ≤ (wdN x).length := by
  have : ∀ i : Fin 7, ((wdL.getD i.1 []).take 3).length = 3 ∧ (wdL.getD i.1 []).length ≤ 9 ∧ 3 ≤ (wdL.getD i.1 []).length := by decide
  exact this ⟨x.w.toNat, by omega⟩
theorem mon_app {x : Dt} {b : List UInt8} (h : 1 ≤ x.m ∧ x.m ≤ 12) : monR (moN x ++ b) = some (x.m, b) := by
  unfold monR
  rw [tk_app (mo_len h)]
  have := mv ⟨(x.m - 1).toNat, by omega⟩
  have e : monV (moN x) = some x.m := by
    unfold moN
    rw [this]
    congr 1
    simp only
    omega
  simp only [e]
theorem clk_app {x : Dt} {b : List UInt8} (h : okX x) : clkR (clk x ++ b) = some ((x.h.toNat, x.mi.toNat, x.s.toNat), b) := by
  obtain ⟨o1, o2, o3, o4, o5, o6, o7⟩ := h
  have e : clk x ++ b = dg x.h.toNat 2 48 ++ ([58] ++ (dg x.mi.toNat 2 48 ++ ([58] ++ (dg x.s.toNat 2 48 ++ b)))) := by simp [clk]
  rw [e]
  unfold clkR
  rw [num_app (nv2 ⟨x.h.toNat, by omega⟩)]
  simp only [Option.bind_some]
  rw [tk_app (a := [58]) (k := 1) rfl]
  simp only [Option.bind_some]
  rw [num_app (nv2 ⟨x.mi.toNat, by omega⟩)]
  simp only [Option.bind_some]
  rw [tk_app (a := [58]) (k := 1) rfl]
  simp only [Option.bind_some]
  rw [num_app (nv2 ⟨x.s.toNat, by omega⟩)]
  simp only [Option.bind_some]
theorem noW_eq {x : Dt} (h : okX x) : (⟨(x.y.toNat : Int), x.m, (x.d.toNat : Int), (x.h.toNat : Int), (x.mi.toNat : Int), (x.s.toNat : Int), 0⟩ : Dt) = noW x := by
  obtain ⟨o1, o2, o3, o4, o5, o6, o7⟩ := h
  unfold noW
  rw [Int.toNat_of_nonneg o1.1, Int.toNat_of_nonneg (by omega : 0 ≤ x.d), Int.toNat_of_nonneg o4.1, Int.toNat_of_nonneg o5.1, Int.toNat_of_nonneg o6.1]
theorem first_app {x : Dt} (h : okX x) : firstR (fm 0 x) = some (noW x) := by
  have ok := h
  obtain ⟨o1, o2, o3, o4, o5, o6, o7⟩ := h
  have e : fm 0 x = ((wdN x).take 3 ++ [44, 32]) ++ (dg x.d.toNat 2 48 ++ ([32] ++ (moN x ++ ([32] ++ (dg x.y.toNat 4 48 ++ ([32] ++ (clk x ++ [32, 71, 77, 84]))))))) := by
    unfold fm
    rw [if_pos rfl]
    simp only [List.append_assoc]
  rw [e]
  unfold firstR
  rw [tk_app (by rw [List.length_append, (wd_len o7).1]; rfl)]
  simp only [Option.bind_some]
  rw [num_app (nv2 ⟨x.d.toNat, by omega⟩)]
  simp only [Option.bind_some]
  rw [tk_app (a := [32]) (k := 1) rfl]
  simp only [Option.bind_some]
  rw [mon_app o2]
  simp only [Option.bind_some]
  rw [tk_app (a := [32]) (k := 1) rfl]
  simp only [Option.bind_some]
  rw [num_app (nv4 (by omega))]
  simp only [Option.bind_some]
  rw [tk_app (a := [32]) (k := 1) rfl]
  simp only [Option.bind_some]
  rw [clk_app ok]
  simp only [Option.bind_some]
  rw [noW_eq ok]
theorem fm0_len {x : Dt} (h : okX x) : (fm 0 x).length = 29 := by
  unfold fm
  rw [if_pos rfl]
  simp only [List.length_append, dg_len, clk_len, (wd_len h.w).1, mo_len h.m, List.length_cons, List.length_nil]
/-- what a form says is what is tried -/
theorem try_app {n k now : Int} {rd : List UInt8 → Option Dt} (h : okT n) (hr : rd (fm k (spD n)) = some (noW (spD n))) : tryR k now (fm k (spD n)) rd = some n := by
  obtain ⟨h1, h2⟩ := sp_back h
  unfold tryR
  rw [hr]
  simp only
  rw [(noW_f _).2, h2, if_pos ⟨(noW_f _).1.2 h1, rfl⟩]
theorem par_first {n now : Int} (h : okT n) : paR now (fm 0 (spD n)) = some n := by
  unfold paR paF
  have : tryR ((0 : Nat) : Int) now (fm 0 (spD n)) (rdK now 0) = some n := try_app h (first_app (ok_sp h))
  rw [this]
end Go.Proofs.YtcmpkkkigmheoaaGreatDoor.D
/-! The document's date of a time: year by year, month by month. No conditions but those that each names. -/
namespace Go.Proofs.YtcmpkkkigmheoaaGreatDoor.D
open Go Go.Proofs Go.RowKit Go.Proofs.YtcmpkkkigmheoaaGreatDoor.Sh Go.Proofs.YtcmpkkkigmheoaaGreatDoor.Sl Go.Proofs.YtcmpkkkigmheoaaGreatDoor.T
theorem rsplit {W : World} {n : Int} : Cn Tryz.prog 63 [.int .i64 n] W [] (fun _ : Unit => .tuple #[.agg (dtA (spD n)), .int .i64 (spE n)]) (fun _ => []) := by
  have bad : ¬ okT n → spD n = dt0 ∧ spE n = 11 := fun h => ⟨if_neg h, if_neg h⟩
  (refine S.ref09_Split_cn fun F => ?_; unfold S.ref09_Split; simp only [List.cons_append, List.nil_append])
  refine e_newA fun b2 => ?_
  (refine e_ask v_lss Imp.nil (fun h => ?_) (fun h => ?_))
  · have hb := bad (fun c => by unfold okT at c; omega)
    rw [hb.1, hb.2]
    ((with_reducible refine e_gdF1 ?_)); ((with_reducible refine e_gdF1 ?_)); (((with_reducible refine e_opN v_pickT Imp.nil ?_))); ((with_reducible refine e_condT ?_)); (((with_reducible refine e_opN v_rv Imp.nil ?_))); (((with_reducible refine' e_stAgg ?hp ?hn ?hv ?h1 ?_); (case hp => (repeat constructor)); (case hn => rfl); (case hv => rfl); (case h1 => simp [Value.oneCell']))); (((with_reducible refine' e_stS (v_resA ?hn) ?hi ?_); (case hi => (repeat (first | exact Imp.refl | exact Imp.nil | (apply Imp.pick; (focus ((repeat constructor); done))) | refine Imp.drop ?_))); (case hn => rfl)))
    (first | refine e_ret (()) rfl ?_ | refine e_retT (()) ?_)
    (repeat (first | exact Imp.refl | exact Imp.nil | (apply Imp.pick; (focus ((repeat constructor); done))) | refine Imp.drop ?_))
  ((with_reducible refine e_gdT ?_)); ((with_reducible refine e_gdT ?_))
  refine e_ask v_gtr Imp.nil (fun h2 => ?_) (fun h2 => ?_)
  · have hb := bad (fun c => by unfold okT at c; omega)
    rw [hb.1, hb.2]
    (((with_reducible refine e_opN v_pickF Imp.nil ?_))); ((with_reducible refine e_condT ?_)); (((with_reducible refine e_opN v_rv Imp.nil ?_))); (((with_reducible refine' e_stAgg ?hp ?hn ?hv ?h1 ?_); (case hp => (repeat constructor)); (case hn => rfl); (case hv => rfl); (case h1 => simp [Value.oneCell']))); (((with_reducible refine' e_stS (v_resA ?hn) ?hi ?_); (case hi => (repeat (first | exact Imp.refl | exact Imp.nil | (apply Imp.pick; (focus ((repeat constructor); done))) | refine Imp.drop ?_))); (case hn => rfl)))
    (first | refine e_ret (()) rfl ?_ | refine e_retT (()) ?_)
    (repeat (first | exact Imp.refl | exact Imp.nil | (apply Imp.pick; (focus ((repeat constructor); done))) | refine Imp.drop ?_))
  have ok : okT n := ⟨by omega, by omega⟩
  have hT := ok
  unfold okT at hT
  rw [show spE n = 0 from if_pos ok]
  have hN : 0 ≤ n / 86400 ∧ n / 86400 ≤ 2932896 := by omega
  have hsp : spD n = ⟨cY (n / 86400), cM (n / 86400), cD (n / 86400), n / 3600 % 24, n / 60 % 60, n % 60, (n / 86400 + 4) % 7⟩ := by
    rw [sp_eq ok]
    rw [show n % 86400 / 3600 = n / 3600 % 24 by omega, show n % 3600 / 60 = n / 60 % 60 by omega]
  rw [hsp]
  obtain ⟨d1, d2, d3, d4, d5⟩ := day_in (n := n / 86400) hN.1
  have hY0 := cY_low (n := n / 86400) hN.1
  have hY1 := (cY_b (n := n / 86400) hN).2
  have hM := cM_b (n / 86400)
  (((with_reducible refine e_opN v_pickF Imp.nil ?_))); ((with_reducible refine e_condF ?_)); (((with_reducible refine e_opN (v_quo ?h1 ?h2 ?h3) Imp.nil ?_); (case h1 => omega); (case h2 => omega); (case h3 => omega))); (((with_reducible refine e_opN (v_rem ?h1 ?h2) Imp.nil ?_); (case h1 => omega); (case h2 => omega))); (((with_reducible refine e_opN (v_quo ?h1 ?h2 ?h3) Imp.nil ?_); (case h1 => omega); (case h2 => omega); (case h3 => omega))); (((with_reducible refine e_opN (v_rem ?h1 ?h2) Imp.nil ?_); (case h1 => omega); (case h2 => omega))); (((with_reducible refine e_opN (v_rem ?h1 ?h2) Imp.nil ?_); (case h1 => omega); (case h2 => omega))); (((with_reducible refine e_opN v_rv Imp.nil ?_))); (((with_reducible refine e_newA fun g => ?_))); (((with_reducible refine' e_stAgg ?hp ?hn ?hv ?h1 ?_); (case hp => (repeat constructor)); (case hn => rfl); (case hv => rfl); (case h1 => simp [Value.oneCell']))); (((with_reducible refine e_opN (v_quo ?h1 ?h2 ?h3) Imp.nil ?_); (case h1 => omega); (case h2 => omega); (case h3 => omega))); (((with_reducible refine e_opN (v_add ?h1 ?h2) Imp.nil ?_); (case h1 => omega); (case h2 => omega))); (((with_reducible refine e_opN (v_rem ?h1 ?h2) Imp.nil ?_); (case h1 => omega); (case h2 => omega))); (((with_reducible refine e_opN v_fa0 Imp.nil ?_))); (((with_reducible refine' e_stN ?hp ?ho ?_); (case hp => (repeat constructor)); (case ho => (repeat (first | exact Put.here | apply Put.there)))))
  rename Nat => b4
  generalize n / 3600 % 24 = hh
  generalize n / 60 % 60 = mi
  generalize n % 60 = ss
  generalize (n / 86400 + 4) % 7 = ww
  generalize n / 86400 = N at *
  generalize cD N = D at *
  generalize cM N = M at *
  generalize cY N = Y at *
  have j70 : dayN 1970 1 1 = 0 := by decide
  refine e_loop1 (fun m y5 => (ex fun y : Int => all [pu (y5 = .int .i64 (N - dayN y 1 1) ∧ 1970 ≤ y ∧ (m : Int) + y = Y), pt b4 (.cells #[.int .i64 y, .int .i64 1, .int .i64 0, .int .i64 hh, .int .i64 mi, .int .i64 ss, .int .i64 ww] 84)]) :: pt b2 (.cells #[.int .i64 0, .int .i64 0, .int .i64 0, .int .i64 0, .int .i64 0, .int .i64 0, .int .i64 0] 84) :: F) (Y - 1970).toNat ?_ ?_
  · refine .ex 1970 (.all ?_)
    (try simp only [List.cons_append, List.nil_append, -eq_self])
    refine .pu ⟨by rw [j70, Int.sub_zero], by omega, by omega⟩ ?_
    (repeat (first | exact Imp.refl | exact Imp.nil | (apply Imp.pick; (focus ((repeat constructor); done))) | refine Imp.drop ?_))
  intro m ds y5
  (try simp only [List.cons_append, List.nil_append, -eq_self])
  refine e_ex Pick.here fun y => e_all Pick.here ?_
  (try simp only [List.cons_append, List.nil_append, -eq_self])
  refine e_pu Pick.here fun hi => ?_
  obtain ⟨rfl, hy0, hmy⟩ := hi
  have hjs := jan_step y
  have hjy := jan_mono (a := y) (b := Y) (by omega)
  have hj0 := jan_mono (a := 1970) (b := y) (by omega)
  rw [j70] at hj0
  have hyr : 365 ≤ yrN y ∧ yrN y ≤ 366 := by unfold yrN; split <;> omega
  (((with_reducible refine e_opN v_fa0 Imp.nil ?_))); (((with_reducible refine' e_opN (v_ldN ?hc) ?hi ?_); (case hi => (repeat (first | exact Imp.refl | exact Imp.nil | (apply Imp.pick; (focus ((repeat constructor); done))) | refine Imp.drop ?_))); (case hc => (repeat (first | exact Nth.here | apply Nth.there)))))
  (refine' e_call (year (y := y) (by omega)) ?hp fun _ => ?_; (case hp => (repeat (first | exact Picks.nil | (apply Picks.cons; (focus (repeat constructor)))))); (try simp only [List.cons_append, List.nil_append, Bool.not_true, Bool.not_false]))
  refine e_ask v_geq Imp.nil (fun hg => ?_) (fun hg => ?_)
  · have hlt : y < Y := by
      rcases Int.lt_or_le y Y with c | c
      · exact c
      · have : y = Y := by omega
        subst this; omega
    ((with_reducible refine e_condT ?_)); (((with_reducible refine e_opN v_fa0 Imp.nil ?_))); (((with_reducible refine' e_opN (v_ldN ?hc) ?hi ?_); (case hi => (repeat (first | exact Imp.refl | exact Imp.nil | (apply Imp.pick; (focus ((repeat constructor); done))) | refine Imp.drop ?_))); (case hc => (repeat (first | exact Nth.here | apply Nth.there)))))
    (refine' e_call (year (y := y) (by omega)) ?hp fun _ => ?_; (case hp => (repeat (first | exact Picks.nil | (apply Picks.cons; (focus (repeat constructor)))))); (try simp only [List.cons_append, List.nil_append, Bool.not_true, Bool.not_false]))
    (((with_reducible refine e_opN (v_sub ?h1 ?h2) Imp.nil ?_); (case h1 => omega); (case h2 => omega))); (((with_reducible refine e_opN v_fa0 Imp.nil ?_))); (((with_reducible refine' e_opN (v_ldN ?hc) ?hi ?_); (case hi => (repeat (first | exact Imp.refl | exact Imp.nil | (apply Imp.pick; (focus ((repeat constructor); done))) | refine Imp.drop ?_))); (case hc => (repeat (first | exact Nth.here | apply Nth.there))))); (((with_reducible refine e_opN (v_add ?h1 ?h2) Imp.nil ?_); (case h1 => omega); (case h2 => omega))); (((with_reducible refine e_opN v_fa0 Imp.nil ?_))); (((with_reducible refine' e_stN ?hp ?ho ?_); (case hp => (repeat constructor)); (case ho => (repeat (first | exact Put.here | apply Put.there)))))
    refine e_next1 (m - 1) (by omega) (.ex (y + 1) (.all ?_))
    (try simp only [List.cons_append, List.nil_append, -eq_self])
    refine .pu ⟨by congr 1; omega, by omega, by omega⟩ ?_
    (repeat (first | exact Imp.refl | exact Imp.nil | (apply Imp.pick; (focus ((repeat constructor); done))) | refine Imp.drop ?_))
  have hyY : y = Y := by
    rcases Int.lt_or_le y Y with c | c
    · have := jan_mono (a := y + 1) (b := Y) (by omega)
      omega
    · omega
  subst hyY
  clear hmy hjs hyr hg
  ((with_reducible refine e_condF ?_))
  refine e_loop1 (fun m y5 => (ex fun mo : Int => all [pu (y5 = .int .i64 (N - dayN y mo 1) ∧ 1 ≤ mo ∧ (m : Int) + mo = M), pt b4 (.cells #[.int .i64 y, .int .i64 mo, .int .i64 0, .int .i64 hh, .int .i64 mi, .int .i64 ss, .int .i64 ww] 84)]) :: pt b2 (.cells #[.int .i64 0, .int .i64 0, .int .i64 0, .int .i64 0, .int .i64 0, .int .i64 0, .int .i64 0] 84) :: F) (M - 1).toNat ?_ ?_
  · refine .ex 1 (.all ?_)
    (try simp only [List.cons_append, List.nil_append, -eq_self])
    refine .pu ⟨rfl, by omega, by omega⟩ ?_
    (repeat (first | exact Imp.refl | exact Imp.nil | (apply Imp.pick; (focus ((repeat constructor); done))) | refine Imp.drop ?_))
  clear m
  intro m ds2 y5
  (try simp only [List.cons_append, List.nil_append, -eq_self])
  refine e_ex Pick.here fun mo => e_all Pick.here ?_
  (try simp only [List.cons_append, List.nil_append, -eq_self])
  refine e_pu Pick.here fun hi => ?_
  obtain ⟨rfl, hm0, hmm⟩ := hi
  have hmb := ml_b y mo
  have hmy2 := mon_le (y := y) (m := mo) (M := M) hm0 (by omega) hM.2
  have hm1 := mon_le (y := y) (m := 1) (M := mo) (by omega) hm0 (by omega)
  (((with_reducible refine e_opN v_fa0 Imp.nil ?_))); (((with_reducible refine' e_opN (v_ldN ?hc) ?hi ?_); (case hi => (repeat (first | exact Imp.refl | exact Imp.nil | (apply Imp.pick; (focus ((repeat constructor); done))) | refine Imp.drop ?_))); (case hc => (repeat (first | exact Nth.here | apply Nth.there))))); (((with_reducible refine e_opN v_fa0 Imp.nil ?_))); (((with_reducible refine' e_opN (v_ldN ?hc) ?hi ?_); (case hi => (repeat (first | exact Imp.refl | exact Imp.nil | (apply Imp.pick; (focus ((repeat constructor); done))) | refine Imp.drop ?_))); (case hc => (repeat (first | exact Nth.here | apply Nth.there)))))
  (refine' e_call (rdays (y := y) (m := mo) (by omega)) ?hp fun _ => ?_; (case hp => (repeat (first | exact Picks.nil | (apply Picks.cons; (focus (repeat constructor)))))); (try simp only [List.cons_append, List.nil_append, Bool.not_true, Bool.not_false]))
  refine e_ask v_geq Imp.nil (fun hg => ?_) (fun hg => ?_)
  · have hlt : mo < M := by
      rcases Int.lt_or_le mo M with c | c
      · exact c
      · have : mo = M := by omega
        subst this; omega
    have hms := ml_step (y := y) (m := mo) (by omega)
    ((with_reducible refine e_condT ?_)); (((with_reducible refine e_opN v_fa0 Imp.nil ?_))); (((with_reducible refine' e_opN (v_ldN ?hc) ?hi ?_); (case hi => (repeat (first | exact Imp.refl | exact Imp.nil | (apply Imp.pick; (focus ((repeat constructor); done))) | refine Imp.drop ?_))); (case hc => (repeat (first | exact Nth.here | apply Nth.there))))); (((with_reducible refine e_opN v_fa0 Imp.nil ?_))); (((with_reducible refine' e_opN (v_ldN ?hc) ?hi ?_); (case hi => (repeat (first | exact Imp.refl | exact Imp.nil | (apply Imp.pick; (focus ((repeat constructor); done))) | refine Imp.drop ?_))); (case hc => (repeat (first | exact Nth.here | apply Nth.there)))))
    (refine' e_call (rdays (y := y) (m := mo) (by omega)) ?hp fun _ => ?_; (case hp => (repeat (first | exact Picks.nil | (apply Picks.cons; (focus (repeat constructor)))))); (try simp only [List.cons_append, List.nil_append, Bool.not_true, Bool.not_false]))
    (((with_reducible refine e_opN (v_sub ?h1 ?h2) Imp.nil ?_); (case h1 => omega); (case h2 => omega))); (((with_reducible refine e_opN v_fa0 Imp.nil ?_))); (((with_reducible refine' e_opN (v_ldN ?hc) ?hi ?_); (case hi => (repeat (first | exact Imp.refl | exact Imp.nil | (apply Imp.pick; (focus ((repeat constructor); done))) | refine Imp.drop ?_))); (case hc => (repeat (first | exact Nth.here | apply Nth.there))))); (((with_reducible refine e_opN (v_add ?h1 ?h2) Imp.nil ?_); (case h1 => omega); (case h2 => omega))); (((with_reducible refine e_opN v_fa0 Imp.nil ?_))); (((with_reducible refine' e_stN ?hp ?ho ?_); (case hp => (repeat constructor)); (case ho => (repeat (first | exact Put.here | apply Put.there)))))
    refine e_next1 (m - 1) (by omega) (.ex (mo + 1) (.all ?_))
    (try simp only [List.cons_append, List.nil_append, -eq_self])
    refine .pu ⟨by congr 1; omega, by omega, by omega⟩ ?_
    (repeat (first | exact Imp.refl | exact Imp.nil | (apply Imp.pick; (focus ((repeat constructor); done))) | refine Imp.drop ?_))
  have hmM : mo = M := by
    rcases Int.lt_or_le mo M with c | c
    · have h1 := ml_step (y := y) (m := mo) (by omega)
      have h2 := mon_le (y := y) (m := mo + 1) (M := M) (by omega) (by omega) hM.2
      omega
    · omega
  subst hmM
  ((with_reducible refine e_condF ?_)); (((with_reducible refine e_opN (v_add ?h1 ?h2) Imp.nil ?_); (case h1 => omega); (case h2 => omega))); (((with_reducible refine e_opN v_fa0 Imp.nil ?_))); (((with_reducible refine' e_stN ?hp ?ho ?_); (case hp => (repeat constructor)); (case ho => (repeat (first | exact Put.here | apply Put.there))))); (((with_reducible refine' e_opN (v_ldAgg ?hn) ?hi ?_); (case hi => (repeat (first | exact Imp.refl | exact Imp.nil | (apply Imp.pick; (focus ((repeat constructor); done))) | refine Imp.drop ?_))); (case hn => rfl))); (((with_reducible refine' e_stAgg ?hp ?hn ?hv ?h1 ?_); (case hp => (repeat constructor)); (case hn => rfl); (case hv => rfl); (case h1 => simp [Value.oneCell']))); (((with_reducible refine' e_stS (v_resA ?hn) ?hi ?_); (case hi => (repeat (first | exact Imp.refl | exact Imp.nil | (apply Imp.pick; (focus ((repeat constructor); done))) | refine Imp.drop ?_))); (case hn => rfl)))
  rw [show N - dayN y mo 1 + 1 = D by omega]
  (first | refine e_ret (()) rfl ?_ | refine e_retT (()) ?_)
  (repeat (first | exact Imp.refl | exact Imp.nil | (apply Imp.pick; (focus ((repeat constructor); done))) | refine Imp.drop ?_))
end Go.Proofs.YtcmpkkkigmheoaaGreatDoor.D
/-! The document's names, digits, clock: what they compute. No conditions but those that each names. -/
namespace Go.Proofs.YtcmpkkkigmheoaaGreatDoor.D
open Go Go.Proofs Go.RowKit Go.Proofs.YtcmpkkkigmheoaaGreatDoor.Sh Go.Proofs.YtcmpkkkigmheoaaGreatDoor.Sl Go.Proofs.YtcmpkkkigmheoaaGreatDoor.T
theorem dgz (q : Nat) (p : Prop) [Decidable p] : (if q = 0 ∧ p then (48 : UInt8) else UInt8.ofNat (48 + q % 10)) = UInt8.ofNat (48 + q % 10) := by
  split
  · rename_i h; rw [h.1]; rfl
  · rfl
theorem dg2 (n : Nat) : dg n 2 48 = [UInt8.ofNat (48 + n / 10 % 10), UInt8.ofNat (48 + n % 10)] := by
  have e : dg n 2 48 = [dgAt n 2 48 0, dgAt n 2 48 1] := rfl
  rw [e]
  unfold dgAt
  rw [dgz, dgz]
  simp
theorem dg22 (n : Nat) : dg (n / 100) 2 48 ++ dg n 2 48 = dg n 4 48 := by
  rw [dg2, dg2, dg4]
  rw [show n / 100 / 10 = n / 1000 by omega]
  rfl
theorem dg2m (n : Nat) : dg (n % 100) 2 48 = dg n 2 48 := by
  rw [dg2, dg2, show n % 100 / 10 % 10 = n / 10 % 10 by omega, show n % 100 % 10 = n % 10 by omega]
theorem dg2s : ∀ n : Fin 100, dg n.1 2 32 = if n.1 < 10 then 32 :: (dg n.1 2 48).drop 1 else dg n.1 2 48 := by decide
theorem rtwo {W : World} {n : Int} (hn : 0 ≤ n ∧ n ≤ 9223372036854775807) : Cn Tryz.prog 85 [.int .i64 n] W [] (fun _ : Unit => txt (dg n.toNat 2 48)) (fun _ => []) := by
  obtain ⟨k, rfl⟩ := Int.eq_ofNat_of_zero_le hn.1
  have vB : ∀ q : Nat, Value.int .u8 (IntKind.u8.wrap (48 + ((q % 10 : Nat) : Int))) = Sl.B (UInt8.ofNat (48 + q % 10)) := fun q => by
    unfold Sl.B
    rw [u8_of _ (by omega), show (48 : Int) + ((q % 10 : Nat) : Int) = ((48 + q % 10 : Nat) : Int) by omega]
    congr 1
    simp only [IntKind.wrap, IntKind.bits, IntKind.signed]
    simp
    omega
  (refine S.ref09_two_cn fun F => ?_; unfold S.ref09_two; simp only [List.cons_append, List.nil_append])
  (((with_reducible refine e_opN (v_quo ?h1 ?h2 ?h3) Imp.nil ?_); (case h1 => omega); (case h2 => omega); (case h3 => omega))); (((with_reducible refine e_opN (v_rem ?h1 ?h2) Imp.nil ?_); (case h1 => omega); (case h2 => omega))); (((with_reducible refine e_opN (v_add ?h1 ?h2) Imp.nil ?_); (case h1 => omega); (case h2 => omega)))
  rw [show ((k : Int) / 10 % 10) = ((k / 10 % 10 : Nat) : Int) by omega]
  refine e_opN v_conv Imp.nil ?_
  rw [vB]
  (((with_reducible refine e_opN (v_rem ?h1 ?h2) Imp.nil ?_); (case h1 => omega); (case h2 => omega))); (((with_reducible refine e_opN (v_add ?h1 ?h2) Imp.nil ?_); (case h1 => omega); (case h2 => omega)))
  rw [show ((k : Int) % 10) = ((k % 10 : Nat) : Int) by omega]
  refine e_opN v_conv Imp.nil ?_
  rw [vB]
  refine e_bslN (vs := (dg k 2 48).map Sl.B) (by rw [dg2]; rfl) (by rw [dg2]; rfl) (by intro v hv; obtain ⟨c, _, rfl⟩ := List.mem_map.1 hv; rfl) (by omega) fun g => ?_
  refine e_opN (v_str (l := dg k 2 48) (n := 2) (rd_pt (by rw [dg2]; rfl)) (fun c => by cases c)) (.pick (by (repeat constructor)) .nil) ?_
  (first | refine e_ret (()) rfl ?_ | refine e_retT (()) ?_)
  (repeat (first | exact Imp.refl | exact Imp.nil | (apply Imp.pick; (focus ((repeat constructor); done))) | refine Imp.drop ?_))
theorem rclk {W : World} {x : Dt} (ok : okX x) : Cn Tryz.prog 86 [.agg (dtA x)] W [] (fun _ : Unit => txt (clk x)) (fun _ => []) := by
  obtain ⟨o1, o2, o3, o4, o5, o6, o7⟩ := ok
  (refine S.ref09_clock_cn fun F => ?_; unfold S.ref09_clock; simp only [List.cons_append, List.nil_append])
  rw [show (Value.agg (dtA x)) = .agg #[.int .i64 x.y, .int .i64 x.m, .int .i64 x.d, .int .i64 x.h, .int .i64 x.mi, .int .i64 x.s, .int .i64 x.w] from rfl]
  (((with_reducible refine e_boxA fun g => ?_))); ((with_reducible refine e_drS ?_)); (((with_reducible refine e_stS v_fa0 Imp.nil ?_))); (((with_reducible refine' e_stS (v_ldN ?hc) ?hi ?_); (case hi => (repeat (first | exact Imp.refl | exact Imp.nil | (apply Imp.pick; (focus ((repeat constructor); done))) | refine Imp.drop ?_))); (case hc => (repeat (first | exact Nth.here | apply Nth.there))))); (((with_reducible refine e_stD v_fa0 Imp.nil ?_))); (((with_reducible refine' e_stD (v_ldN ?hc) ?hi ?_); (case hi => (repeat (first | exact Imp.refl | exact Imp.nil | (apply Imp.pick; (focus ((repeat constructor); done))) | refine Imp.drop ?_))); (case hc => (repeat (first | exact Nth.here | apply Nth.there))))); (((with_reducible refine e_stD v_fa0 Imp.nil ?_))); (((with_reducible refine' e_stD (v_ldN ?hc) ?hi ?_); (case hi => (repeat (first | exact Imp.refl | exact Imp.nil | (apply Imp.pick; (focus ((repeat constructor); done))) | refine Imp.drop ?_))); (case hc => (repeat (first | exact Nth.here | apply Nth.there)))))
  (refine' e_call (rtwo (n := x.h) (by omega)) ?hp fun _ => ?_; (case hp => (repeat (first | exact Picks.nil | (apply Picks.cons; (focus (repeat constructor)))))); (try simp only [List.cons_append, List.nil_append, Bool.not_true, Bool.not_false]))
  (((with_reducible refine e_obl ?hi ?_); (case hi => (repeat (first | exact Imp.refl | exact Imp.nil | (apply Imp.pick; (focus ((repeat constructor); done))) | refine Imp.drop ?_))))); (((with_reducible refine e_obl ?hi ?_); (case hi => (repeat (first | exact Imp.refl | exact Imp.nil | (apply Imp.pick; (focus ((repeat constructor); done))) | refine Imp.drop ?_))))); (((with_reducible refine e_obl ?hi ?_); (case hi => (repeat (first | exact Imp.refl | exact Imp.nil | (apply Imp.pick; (focus ((repeat constructor); done))) | refine Imp.drop ?_))))); (((with_reducible refine e_obl ?hi ?_); (case hi => (repeat (first | exact Imp.refl | exact Imp.nil | (apply Imp.pick; (focus ((repeat constructor); done))) | refine Imp.drop ?_)))))
  refine e_stD (v_cat (by simp only [List.length_append, List.length_take, dg_len, clk_len, List.length_cons, List.length_nil]; omega)) Imp.nil ?_
  (refine' e_call (rtwo (n := x.mi) (by omega)) ?hp fun _ => ?_; (case hp => (repeat (first | exact Picks.nil | (apply Picks.cons; (focus (repeat constructor)))))); (try simp only [List.cons_append, List.nil_append, Bool.not_true, Bool.not_false]))
  (((with_reducible refine e_obl ?hi ?_); (case hi => (repeat (first | exact Imp.refl | exact Imp.nil | (apply Imp.pick; (focus ((repeat constructor); done))) | refine Imp.drop ?_))))); (((with_reducible refine e_obl ?hi ?_); (case hi => (repeat (first | exact Imp.refl | exact Imp.nil | (apply Imp.pick; (focus ((repeat constructor); done))) | refine Imp.drop ?_))))); (((with_reducible refine e_obl ?hi ?_); (case hi => (repeat (first | exact Imp.refl | exact Imp.nil | (apply Imp.pick; (focus ((repeat constructor); done))) | refine Imp.drop ?_)))))
  refine e_stD (v_cat (by simp only [List.length_append, List.length_take, dg_len, clk_len, List.length_cons, List.length_nil]; omega)) Imp.nil ?_
  refine e_stD (v_cat (by simp only [List.length_append, List.length_take, dg_len, clk_len, List.length_cons, List.length_nil]; omega)) Imp.nil ?_
  (refine' e_call (rtwo (n := x.s) (by omega)) ?hp fun _ => ?_; (case hp => (repeat (first | exact Picks.nil | (apply Picks.cons; (focus (repeat constructor)))))); (try simp only [List.cons_append, List.nil_append, Bool.not_true, Bool.not_false]))
  (((with_reducible refine e_obl ?hi ?_); (case hi => (repeat (first | exact Imp.refl | exact Imp.nil | (apply Imp.pick; (focus ((repeat constructor); done))) | refine Imp.drop ?_))))); (((with_reducible refine e_obl ?hi ?_); (case hi => (repeat (first | exact Imp.refl | exact Imp.nil | (apply Imp.pick; (focus ((repeat constructor); done))) | refine Imp.drop ?_))))); (((with_reducible refine e_obl ?hi ?_); (case hi => (repeat (first | exact Imp.refl | exact Imp.nil | (apply Imp.pick; (focus ((repeat constructor); done))) | refine Imp.drop ?_)))))
  refine e_stS (v_cat (by simp only [List.length_append, List.length_take, dg_len, clk_len, List.length_cons, List.length_nil]; omega)) Imp.nil ?_
  (first | refine e_ret (()) rfl ?_ | refine e_retT (()) ?_)
  (repeat (first | exact Imp.refl | exact Imp.nil | (apply Imp.pick; (focus ((repeat constructor); done))) | refine Imp.drop ?_))
def shL : List (List UInt8) := wdL.map fun w => w.take 3
theorem sh_get {i : Nat} (h : i < 7) : (shL.map txt)[i]? = some (txt ((wdL.getD i []).take 3)) := by
  have : ∀ i : Fin 7, (shL.map txt)[i.1]? = some (txt ((wdL.getD i.1 []).take 3)) := by
    intro i
    have hl : i.1 < wdL.length := i.2
    simp [shL, List.getD_eq_getElem?_getD, hl]
  exact this ⟨i, h⟩
theorem l_get {l : List (List UInt8)} {i : Nat} (h : i < l.length) : (l.map txt)[i]? = some (txt (l.getD i [])) := by
  simp [List.getD_eq_getElem?_getD, h]
theorem txt_cells {l : List (List UInt8)} : ∀ v ∈ l.map txt, v.cells = #[v] := by
  intro v hv; obtain ⟨c, _, rfl⟩ := List.mem_map.1 hv; rfl
theorem names {W : World} : Cn Tryz.prog 84 [] W [] (fun q : Nat × Nat × Nat × Nat => .tuple #[.slice (some ⟨q.1, 0, none⟩) 7 q.2.1, .slice (some ⟨q.2.2.1, 0, none⟩) 7 7, .slice (some ⟨q.2.2.2, 0, none⟩) 12 12])
    (fun q => [Sl 1 9 (some ⟨q.1, 0, none⟩) q.2.1 7 (shL.map txt), pt q.2.2.1 (.cells (wdL.map txt).toArray 9), pt q.2.2.2 (.cells (moL.map txt).toArray 9)]) := by
  (refine S.ref09_names_cn fun F => ?_; unfold S.ref09_names; simp only [List.cons_append, List.nil_append])
  refine e_bslN (vs := wdL.map txt) rfl rfl txt_cells (by omega) fun gl => ?_
  refine e_nil (s := 1) (e := 9) ?_
  refine e_loop2 (fun m y4 y5 => (ex fun st : Nat × Option Addr × Nat => all [pu (m + st.1 = 7 ∧ y4 = .slice st.2.1 st.1 st.2.2 ∧ y5 = .int .i64 (st.1 : Int)), Sl 1 9 st.2.1 st.2.2 st.1 ((shL.take st.1).map txt)]) :: pt gl (.cells (wdL.map txt).toArray 9) :: F) 7 ?_ ?_
  · refine .ex (0, none, 0) (.all ?_)
    (try simp only [List.cons_append, List.nil_append, -eq_self])
    refine .pu ⟨by omega, rfl, rfl⟩ ?_
    (repeat (first | exact Imp.refl | exact Imp.nil | (apply Imp.pick; (focus ((repeat constructor); done))) | refine Imp.drop ?_))
  intro m ds y4 y5
  (try simp only [List.cons_append, List.nil_append, -eq_self])
  refine e_ex Pick.here fun st => e_all Pick.here ?_
  obtain ⟨i, a, c⟩ := st
  (try simp only [List.cons_append, List.nil_append, -eq_self])
  refine e_pu Pick.here fun hi => ?_
  (try dsimp only at hi)
  obtain ⟨hmi, rfl, rfl⟩ := hi
  (try dsimp only)
  refine e_ask v_lss Imp.nil (fun h => ?_) (fun h => ?_)
  · ((with_reducible refine e_condT ?_))
    refine e_opN (v_ia1 i (by rfl) (by omega)) Imp.nil ?_
    refine e_opN (v_ldRd (j := i) (rd_pt (n := 7) (by rfl)) (l_get (l := wdL) (by show _ < 7; omega))) (.pick (by (repeat constructor)) .nil) ?_
    have hl3 := (nm_len (l := wdL) (by decide) (i := i) (by show _ < 7; omega)).1
    refine e_opN (v_ssh 3 (by rfl) hl3) Imp.nil ?_
    refine e_bsl1 fun g1 => ?_
    refine e_app (m := 1) (news := [txt ((wdL.getD i []).take 3)]) (by (repeat constructor)) (src_pt (e' := 9) (by kernel_rfl) .here (by rfl) (by intro u hu; rw [List.mem_singleton.1 (show u ∈ [txt ((wdL.getD i []).take 3)] from hu)]; rfl)) (by omega) (by omega) fun a1 c1 => ?_
    (((with_reducible refine e_opN (v_add ?h1 ?h2) Imp.nil ?_); (case h1 => omega); (case h2 => omega)))
    have hsn : (shL.take (i + 1)).map txt = (shL.take i).map txt ++ [txt ((wdL.getD i []).take 3)] := by
      have hlt : i < shL.length := by show _ < 7; omega
      rw [List.take_succ_eq_append_getElem hlt, List.map_append]
      congr 1
      have := sh_get (i := i) (by omega)
      rw [List.getElem?_map, List.getElem?_eq_getElem hlt] at this
      simpa using this
    refine e_next2 (m - 1) (by omega) (.ex (i + 1, a1, c1) (.all ?_))
    (try simp only [List.cons_append, List.nil_append, -eq_self])
    rw [hsn]
    refine .pu ⟨by omega, rfl, rfl⟩ ?_
    (repeat (first | exact Imp.refl | exact Imp.nil | (apply Imp.pick; (focus ((repeat constructor); done))) | refine Imp.drop ?_))
  · ((with_reducible refine e_condF ?_))
    have hi7 : i = 7 := by omega
    subst hi7
    rw [show shL.take 7 = shL from rfl]
    refine e_bslN (vs := moL.map txt) rfl rfl txt_cells (by omega) fun gm => ?_
    refine e_slsome (.there .here) (by omega) fun g hg => ?_
    subst hg
    refine e_ret (g, c, gl, gm) rfl ?_
    (repeat (first | exact Imp.refl | exact Imp.nil | (apply Imp.pick; (focus ((repeat constructor); done))) | refine Imp.drop ?_))
end Go.Proofs.YtcmpkkkigmheoaaGreatDoor.D
/-! The second form and the third are read as they were written, plain. No program in sight. No conditions but those that each names. -/
namespace Go.Proofs.YtcmpkkkigmheoaaGreatDoor.D
open Go Go.Proofs Go.RowKit Go.Proofs.YtcmpkkkigmheoaaGreatDoor.Sh Go.Proofs.YtcmpkkkigmheoaaGreatDoor.Sl Go.Proofs.YtcmpkkkigmheoaaGreatDoor.T
theorem fi_app (a r : List UInt8) (h : ∀ c ∈ a, (c == 44) = false) : (a ++ 44 :: r).findIdx (fun c : UInt8 => c == 44) = a.length := by
  induction a with
  | nil => simp [List.findIdx_cons]
  | cons c a ih =>
    rw [List.cons_append, List.findIdx_cons, h c (by simp), ih (fun d hd => h d (by simp [hd]))]
    rfl
theorem wd_no {x : Dt} (h : 0 ≤ x.w ∧ x.w ≤ 6) : ∀ c ∈ wdN x, (c == 44) = false := by
  have : ∀ i : Fin 7, ∀ c ∈ wdL.getD i.1 [], (c == 44) = false := by decide
  exact this ⟨x.w.toNat, by omega⟩
theorem second_app {x : Dt} {now : Int} (h : okX x) (hs : secY now (x.y % 100).toNat = x.y) : secondR now (fm 1 x) = some (noW x) := by
  have ok := h
  obtain ⟨o1, o2, o3, o4, o5, o6, o7⟩ := h
  have e : fm 1 x = (wdN x ++ [44, 32]) ++ (dg x.d.toNat 2 48 ++ ([45] ++ (moN x ++ ([45] ++ (dg (x.y % 100).toNat 2 48 ++ ([32] ++ (clk x ++ [32, 71, 77, 84]))))))) := by
    unfold fm
    rw [if_neg (by decide), if_pos rfl]
    simp only [List.append_assoc]
  have hc : cI (fm 1 x) = (wdN x).length := by
    unfold cI
    rw [e]
    have := fi_app (wdN x) (32 :: (dg x.d.toNat 2 48 ++ ([45] ++ (moN x ++ ([45] ++ (dg (x.y % 100).toNat 2 48 ++ ([32] ++ (clk x ++ [32, 71, 77, 84]))))))) ++ [44]) (wd_no o7)
    rw [← this]
    simp only [List.append_assoc, List.cons_append, List.nil_append]
  unfold secondR
  rw [hc, e]
  rw [tk_app (k := (wdN x).length + 2) (by rw [List.length_append]; rfl)]
  simp only [Option.bind_some]
  rw [num_app (nv2 ⟨x.d.toNat, by omega⟩)]
  simp only [Option.bind_some]
  rw [tk_app (a := [45]) (k := 1) rfl]
  simp only [Option.bind_some]
  rw [mon_app o2]
  simp only [Option.bind_some]
  rw [tk_app (a := [45]) (k := 1) rfl]
  simp only [Option.bind_some]
  rw [num_app (nv2 ⟨(x.y % 100).toNat, by omega⟩)]
  simp only [Option.bind_some]
  rw [tk_app (a := [32]) (k := 1) rfl]
  simp only [Option.bind_some]
  rw [clk_app ok]
  simp only [Option.bind_some]
  rw [hs]
  unfold noW
  rw [Int.toNat_of_nonneg (by omega : 0 ≤ x.d), Int.toNat_of_nonneg o4.1, Int.toNat_of_nonneg o5.1, Int.toNat_of_nonneg o6.1]
theorem third_app {x : Dt} (h : okX x) : thirdR (fm 2 x) = some (noW x) := by
  have ok := h
  obtain ⟨o1, o2, o3, o4, o5, o6, o7⟩ := h
  have e : fm 2 x = ((wdN x).take 3 ++ [32]) ++ (moN x ++ ([32] ++ (dg x.d.toNat 2 32 ++ ([32] ++ (clk x ++ ([32] ++ (dg x.y.toNat 4 48 ++ []))))))) := by
    unfold fm
    rw [if_neg (by decide), if_neg (by decide)]
    simp only [List.append_assoc, List.append_nil]
  rw [e]
  unfold thirdR
  rw [tk_app (k := 4) (by rw [List.length_append, (wd_len o7).1]; rfl)]
  simp only [Option.bind_some]
  rw [mon_app o2]
  simp only [Option.bind_some]
  rw [tk_app (a := [32]) (k := 1) rfl]
  simp only [Option.bind_some]
  rw [num_app (nv2b ⟨x.d.toNat, by omega⟩)]
  simp only [Option.bind_some]
  rw [tk_app (a := [32]) (k := 1) rfl]
  simp only [Option.bind_some]
  rw [clk_app ok]
  simp only [Option.bind_some]
  rw [tk_app (a := [32]) (k := 1) rfl]
  simp only [Option.bind_some]
  rw [num_app (nv4 (by omega))]
  simp only [Option.bind_some]
  rw [noW_eq ok]
theorem fm1_len {x : Dt} (h : okX x) : 30 ≤ (fm 1 x).length := by
  unfold fm
  rw [if_neg (by decide), if_pos rfl]
  have hw : ∀ i : Fin 7, 6 ≤ (wdL.getD i.1 []).length := by decide
  have hw2 : 6 ≤ (wdN x).length := hw ⟨x.w.toNat, by have := h.w; omega⟩
  simp only [List.length_append, dg_len, clk_len, mo_len h.m, List.length_cons, List.length_nil]
  omega
theorem fm1_le {x : Dt} (h : okX x) : (fm 1 x).length ≤ 40 := by
  unfold fm
  rw [if_neg (by decide), if_pos rfl]
  have := (wd_len h.w).2.1
  simp only [List.length_append, dg_len, clk_len, mo_len h.m, List.length_cons, List.length_nil]
  omega
theorem fm2_len {x : Dt} (h : okX x) : (fm 2 x).length = 24 := by
  unfold fm
  rw [if_neg (by decide), if_neg (by decide)]
  simp only [List.length_append, dg_len, clk_len, (wd_len h.w).1, mo_len h.m, List.length_cons, List.length_nil]
theorem try_none {k now : Int} {l : List UInt8} {rd : List UInt8 → Option Dt} (h : ∀ x, okX x → (fm k x).length ≠ l.length) : tryR k now l rd = none := by
  unfold tryR
  cases rd l with
  | none => rfl
  | some x =>
    simp only
    refine if_neg fun c => ?_
    exact h _ (ok_sp (jN_ok c.1)) (by rw [c.2])
theorem par_second {n now : Int} (h : okT n) (hs : secY now ((spD n).y % 100).toNat = (spD n).y) : paR now (fm 1 (spD n)) = some n := by
  have hl := fm1_len (ok_sp h)
  have t0 : tryR ((0 : Nat) : Int) now (fm 1 (spD n)) (rdK now 0) = none := try_none fun x hx => by
    have := fm0_len hx
    show (fm 0 x).length ≠ _
    omega
  have t1 : tryR ((0 + 1 : Nat) : Int) now (fm 1 (spD n)) (rdK now (0 + 1)) = some n := try_app (k := 1) h (second_app (ok_sp h) hs)
  unfold paR paF
  rw [t0]
  simp only
  unfold paF
  rw [t1]
theorem par_third {n now : Int} (h : okT n) : paR now (fm 2 (spD n)) = some n := by
  have hl := fm2_len (ok_sp h)
  have t0 : tryR ((0 : Nat) : Int) now (fm 2 (spD n)) (rdK now 0) = none := try_none fun x hx => by
    have := fm0_len hx
    show (fm 0 x).length ≠ _
    omega
  have t1 : tryR ((0 + 1 : Nat) : Int) now (fm 2 (spD n)) (rdK now (0 + 1)) = none := try_none fun x hx => by
    have := fm1_len hx
    show (fm 1 x).length ≠ _
    omega
  have t2 : tryR ((0 + 1 + 1 : Nat) : Int) now (fm 2 (spD n)) (rdK now (0 + 1 + 1)) = some n := try_app (k := 2) h (third_app (ok_sp h))
  unfold paR paF
  rw [t0]
  simp only
  unfold paF
  rw [t1]
  simp only
  unfold paF
  rw [t2]
theorem secY_ok {now y : Int} (hy : 0 ≤ y ∧ y ≤ 9999) (h : yN now ≤ y + 49 ∧ y ≤ yN now + 49) : secY now (y % 100).toNat = y := by
  have hn := yN_b now
  unfold secY
  rw [Int.toNat_of_nonneg (by omega)]
  have ht : y ≤ topY now ∧ topY now ≤ y + 99 := by unfold topY; split <;> omega
  generalize topY now = t at ht ⊢
  omega
theorem jan_far (y : Int) : dayN y 1 1 + 17885 ≤ dayN (y + 49) 1 1 := by
  rw [dayN_g, dayN_g, (adj1 _).1, (adj1 _).1]
  unfold gN
  omega
theorem near {a b : Int} (ha : 0 ≤ a) (hb : 0 ≤ b) (h : b - a ≤ 17885) : cY b ≤ cY a + 49 := by
  obtain ⟨_, a2, _⟩ := day_in ha
  obtain ⟨b1, _⟩ := day_in hb
  rcases Int.lt_or_le (cY a + 49) (cY b) with c | c
  · have h1 := jan_mono (a := cY a + 1 + 49) (b := cY b) (by omega)
    have h2 := jan_far (cY a + 1)
    omega
  · exact c
end Go.Proofs.YtcmpkkkigmheoaaGreatDoor.D
/-! The document's digits at a place, its month at a place, its century: what they compute. No conditions but those that each names. -/
namespace Go.Proofs.YtcmpkkkigmheoaaGreatDoor.D
open Go Go.Proofs Go.RowKit Go.Proofs.YtcmpkkkigmheoaaGreatDoor.Sh Go.Proofs.YtcmpkkkigmheoaaGreatDoor.Sl Go.Proofs.YtcmpkkkigmheoaaGreatDoor.T
def dgR (l : List UInt8) (a : Int) (k : Nat) : Int := if a < 0 ∨ (l.length : Int) < a + k then -1 else match numF 0 ((l.drop a.toNat).take k) with
  | none => -1
  | some v => (v : Int)
theorem rdigits {W : World} {l : List UInt8} {a z : Int} (k : Nat) (hz : z = (k : Int)) (hk : k ≤ 8) (ha : -4611686018427387904 ≤ a ∧ a ≤ 4611686018427387904) : Cn Tryz.prog 41 [txt l, .int .i64 a, .int .i64 z] W [] (fun _ : Unit => .int .i64 (dgR l a k)) (fun _ => []) := by
  subst hz
  have bad : (a < 0 ∨ (l.length : Int) < a + k) → dgR l a k = -1 := fun h => if_pos h
  (refine S.ref09_digits_cn fun F => ?_; unfold S.ref09_digits; simp only [List.cons_append, List.nil_append])
  refine e_ask v_lss Imp.nil (fun h1 => ?_) (fun h1 => ?_)
  · rw [bad (.inl h1)]
    ((with_reducible refine e_gdF1 ?_)); ((with_reducible refine e_gdF1 ?_)); ((with_reducible refine e_gdF1 ?_)); ((with_reducible refine e_gdF1 ?_)); ((with_reducible refine e_gdF1 ?_)); ((with_reducible refine e_gdF1 ?_)); (((with_reducible refine e_opN v_pickT Imp.nil ?_))); ((with_reducible refine e_condT ?_))
    (first | refine e_ret (()) rfl ?_ | refine e_retT (()) ?_)
    (repeat (first | exact Imp.refl | exact Imp.nil | (apply Imp.pick; (focus ((repeat constructor); done))) | refine Imp.drop ?_))
  ((with_reducible refine e_gdT ?_)); ((with_reducible refine e_gdT ?_)); ((with_reducible refine e_gdT ?_)); (((with_reducible refine e_opN (v_add ?h1 ?h2) Imp.nil ?_); (case h1 => omega); (case h2 => omega))); ((with_reducible refine e_gdT ?_)); ((with_reducible refine e_gdT ?_))
  refine e_opN v_lent Imp.nil ?_
  ((with_reducible refine e_gdT ?_))
  refine e_ask v_gtr Imp.nil (fun h2 => ?_) (fun h2 => ?_)
  · rw [bad (.inr h2)]
    (((with_reducible refine e_opN v_pickF Imp.nil ?_))); ((with_reducible refine e_condT ?_))
    (first | refine e_ret (()) rfl ?_ | refine e_retT (()) ?_)
    (repeat (first | exact Imp.refl | exact Imp.nil | (apply Imp.pick; (focus ((repeat constructor); done))) | refine Imp.drop ?_))
  obtain ⟨b, rfl⟩ := Int.eq_ofNat_of_zero_le (by omega : 0 ≤ a)
  have hd : dgR l (b : Int) k = match numF 0 ((l.drop b).take k) with
      | none => -1
      | some v => (v : Int) := if_neg (by omega)
  rw [hd]
  obtain ⟨R, hR⟩ : ∃ R, R = numF 0 ((l.drop b).take k) := ⟨_, rfl⟩
  rw [← hR]
  (((with_reducible refine e_opN v_pickF Imp.nil ?_))); ((with_reducible refine e_condF ?_))
  refine e_loop2 (fun m y7 y8 => (ex fun st : Nat × Nat => pu (m + st.2 = k ∧ y7 = .int .i64 (st.1 : Int) ∧ y8 = .int .i64 ((b : Int) + st.2) ∧ st.1 < 10 ^ st.2 ∧ R = numF st.1 ((l.drop (b + st.2)).take (k - st.2)))) :: F) k ?_ ?_
  · refine .ex (0, 0) (.pu ⟨by omega, rfl, by simp, by simp, hR⟩ ?_)
    (repeat (first | exact Imp.refl | exact Imp.nil | (apply Imp.pick; (focus ((repeat constructor); done))) | refine Imp.drop ?_))
  intro m ds y7 y8
  (try simp only [List.cons_append, List.nil_append, -eq_self])
  refine e_ex Pick.here fun st => e_pu Pick.here fun hi => ?_
  obtain ⟨acc, i⟩ := st
  (try dsimp only at hi)
  obtain ⟨hmk, rfl, rfl, hacc, hnum⟩ := hi
  have hp8 : 10 ^ i ≤ 10 ^ 8 := Nat.pow_le_pow_right (by omega) (by omega)
  have hacc2 : acc < 100000000 := by omega
  (((with_reducible refine e_opN (v_add ?h1 ?h2) Imp.nil ?_); (case h1 => omega); (case h2 => omega)))
  refine e_ask v_lss Imp.nil (fun h => ?_) (fun h => ?_)
  · have hil : b + i < l.length := by omega
    obtain ⟨q, hq⟩ : ∃ q, k - i = q + 1 := ⟨k - i - 1, by omega⟩
    rw [hq, List.drop_eq_getElem_cons hil, List.take_succ_cons, numF_c] at hnum
    ((with_reducible refine e_condT ?_))
    have ixs : RunV Tryz.prog W [] (sIx 9 (txt l) (.int .i64 ((b : Int) + i))) (.int .u8 (l[b + i].toNat : Int)) := v_ixS (b + i) (by omega) hil
    obtain ⟨ch, hce⟩ : ∃ ch, ch = l[b + i] := ⟨_, rfl⟩
    rw [← hce] at ixs hnum
    have hch := ch.toNat_lt
    refine e_opN ixs Imp.nil ?_
    refine e_ask v_lss Imp.nil (fun h5 => ?_) (fun h5 => ?_)
    · rw [if_pos (.inl (by omega))] at hnum
      rw [hnum]
      ((with_reducible refine e_gdF1 ?_)); ((with_reducible refine e_gdF1 ?_)); ((with_reducible refine e_gdF1 ?_)); ((with_reducible refine e_gdF1 ?_)); (((with_reducible refine e_opN v_pickT Imp.nil ?_))); ((with_reducible refine e_condT ?_))
      (first | refine e_ret (()) rfl ?_ | refine e_retT (()) ?_)
      (repeat (first | exact Imp.refl | exact Imp.nil | (apply Imp.pick; (focus ((repeat constructor); done))) | refine Imp.drop ?_))
    ((with_reducible refine e_gdT ?_)); ((with_reducible refine e_gdT ?_)); ((with_reducible refine e_gdT ?_))
    refine e_opN ixs Imp.nil ?_
    ((with_reducible refine e_gdT ?_))
    refine e_ask v_gtr Imp.nil (fun h6 => ?_) (fun h6 => ?_)
    · rw [if_pos (.inr (by omega))] at hnum
      rw [hnum]
      (((with_reducible refine e_opN v_pickF Imp.nil ?_))); ((with_reducible refine e_condT ?_))
      (first | refine e_ret (()) rfl ?_ | refine e_retT (()) ?_)
      (repeat (first | exact Imp.refl | exact Imp.nil | (apply Imp.pick; (focus ((repeat constructor); done))) | refine Imp.drop ?_))
    rw [if_neg (by omega)] at hnum
    (((with_reducible refine e_opN v_pickF Imp.nil ?_))); ((with_reducible refine e_condF ?_)); (((with_reducible refine e_opN (v_mul ?h1 ?h2) Imp.nil ?_); (case h1 => omega); (case h2 => omega)))
    refine e_opN ixs Imp.nil ?_
    refine e_opN v_subw Imp.nil ?_
    rw [show (ch.toNat : Int) - 48 = ((ch.toNat - 48 : Nat) : Int) by omega, show IntKind.u8.wrap ((ch.toNat - 48 : Nat) : Int) = ((ch.toNat - 48 : Nat) : Int) by simp only [IntKind.wrap, IntKind.bits, IntKind.signed]; simp; omega]
    refine e_opN v_conv Imp.nil ?_
    rw [w64 (by omega) (by omega)]
    (((with_reducible refine e_opN (v_add ?h1 ?h2) Imp.nil ?_); (case h1 => omega); (case h2 => omega))); (((with_reducible refine e_opN (v_add ?h1 ?h2) Imp.nil ?_); (case h1 => omega); (case h2 => omega)))
    refine e_next2 (m - 1) (by omega) (.ex (10 * acc + (ch.toNat - 48), i + 1) (.pu ⟨by omega, ?_, ?_, ?_, ?_⟩ ?_))
    · congr 1
    · congr 1
    · simp only [Nat.pow_succ]; omega
    · rw [hnum, show k - (i + 1) = q by omega]; rfl
    · (repeat (first | exact Imp.refl | exact Imp.nil | (apply Imp.pick; (focus ((repeat constructor); done))) | refine Imp.drop ?_))
  · have hik : i = k := by omega
    rw [hik, Nat.sub_self, List.take_zero] at hnum
    rw [hnum, show numF acc [] = some acc from rfl]
    ((with_reducible refine e_condF ?_))
    (first | refine e_ret (()) rfl ?_ | refine e_retT (()) ?_)
    (repeat (first | exact Imp.refl | exact Imp.nil | (apply Imp.pick; (focus ((repeat constructor); done))) | refine Imp.drop ?_))
theorem v_sslh {P : Program} {W : World} {t : TypeId} {l : List UInt8} {q r : IntKind} {i j : Int} (a b : Nat) [ht : StrT P t] (hi : i = (a : Int)) (hj : j = (b : Int)) (hab : a ≤ b) (hb : b ≤ l.length) : RunV P W [] (sSl t (txt l) (some (.int q i)) (some (.int r j)) none) (txt ((l.drop a).take (b - a))) := fun w _ => by
  have e : (⟨l.toArray⟩ : ByteArray).size = l.length := rfl
  have e2 : (⟨l.toArray⟩ : ByteArray).extract a b = ⟨((l.drop a).take (b - a)).toArray⟩ := by
    apply ByteArray.ext
    rw [ByteArray.data_extract]
    simp
  simp [sSl, Instr.sliceAt, Instr.slice, Instr.sliceBounds, run_underlying ht.ut, txt, e, run_sb b hj hb, run_sb a hi hab, e2]
def moR (l : List UInt8) (a : Nat) : Int := if a + 3 ≤ l.length then (match monV ((l.drop a).take 3) with
  | none => 0
  | some v => v) else 0
theorem rmonth {W : World} {l : List UInt8} {a : Nat} (ha : a ≤ 4611686018427387904) : Cn Tryz.prog 65 [txt l, .int .i64 (a : Int)] W [] (fun _ : Unit => .int .i64 (moR l a)) (fun _ => []) := by
  (refine S.ref09_month_cn fun F => ?_; unfold S.ref09_month; simp only [List.cons_append, List.nil_append])
  (refine' e_call (names) ?hp fun _ => ?_; (case hp => (repeat (first | exact Picks.nil | (apply Picks.cons; (focus (repeat constructor)))))); (try simp only [List.cons_append, List.nil_append, Bool.not_true, Bool.not_false]))
  rename_i q
  obtain ⟨gs, gc, gl, gm⟩ := q
  (try dsimp only)
  (((with_reducible refine' e_opN (v_extN ?hc) Imp.nil ?_); (case hc => (repeat (first | exact Nth.here | apply Nth.there))))); (((with_reducible refine' e_opN (v_extN ?hc) Imp.nil ?_); (case hc => (repeat (first | exact Nth.here | apply Nth.there))))); (((with_reducible refine' e_opN (v_extN ?hc) Imp.nil ?_); (case hc => (repeat (first | exact Nth.here | apply Nth.there)))))
  refine e_loop1 (fun m y8 => (ex fun i : Nat => pu (m + i = 12 ∧ y8 = .int .i64 (i : Int) ∧ moR l a = if a + 3 ≤ l.length then (match mF ((l.drop a).take 3) i m with
    | none => 0
    | some v => v) else 0)) :: pt gm (.cells (moL.map txt).toArray 9) :: F) 12 ?_ ?_
  · refine .ex 0 (.pu ⟨by omega, rfl, rfl⟩ ?_)
    (repeat (first | exact Imp.refl | exact Imp.nil | (apply Imp.pick; (focus ((repeat constructor); done))) | refine Imp.drop ?_))
  intro m ds y8
  (try simp only [List.cons_append, List.nil_append, -eq_self])
  refine e_ex Pick.here fun i => e_pu Pick.here fun hi => ?_
  obtain ⟨hmi, rfl, hmo⟩ := hi
  refine e_ask v_lss Imp.nil (fun h => ?_) (fun h => ?_)
  · obtain ⟨m', rfl⟩ : ∃ m', m = m' + 1 := ⟨m - 1, by omega⟩
    unfold mF at hmo
    ((with_reducible refine e_condT ?_)); ((with_reducible refine e_drS ?_)); (((with_reducible refine e_stS (v_add ?h1 ?h2) Imp.nil ?_); (case h1 => omega); (case h2 => omega)))
    refine e_stS v_lent Imp.nil ?_
    refine e_askS v_leq Imp.nil (fun h3 => ?_) (fun h3 => ?_)
    · rw [if_pos (by omega)] at hmo
      ((with_reducible refine e_gdT ?_)); ((with_reducible refine e_gdT ?_)); ((with_reducible refine e_gdT ?_)); ((with_reducible refine e_gdT ?_)); (((with_reducible refine e_stS (v_add ?h1 ?h2) Imp.nil ?_); (case h1 => omega); (case h2 => omega))); ((with_reducible refine e_gdT ?_))
      refine e_stS (v_sslh a (a + 3) (by rfl) (by omega) (by omega) (by omega)) Imp.nil ?_
      rw [show a + 3 - a = 3 by omega]
      ((with_reducible refine e_gdT ?_)); ((with_reducible refine e_gdT ?_)); ((with_reducible refine e_gdT ?_))
      refine e_stS (v_ia1 i (by rfl) (by omega)) Imp.nil ?_
      ((with_reducible refine e_gdT ?_))
      refine e_stS (v_ldRd (v := txt (moL.getD i [])) (j := i) (rd_pt (n := 12) (by rfl)) (l_get (l := moL) (by show _ < 12; omega))) (.pick (by (repeat constructor)) .nil) ?_
      ((with_reducible refine e_gdT ?_))
      refine e_askS v_streq Imp.nil (fun hq => ?_) (fun hq => ?_)
      · rw [if_pos hq.symm] at hmo
        (((with_reducible refine e_stS v_pickT Imp.nil ?_))); ((with_reducible refine e_condT ?_)); (((with_reducible refine e_opN (v_add ?h1 ?h2) Imp.nil ?_); (case h1 => omega); (case h2 => omega)))
        rw [hmo]
        (first | refine e_ret (()) rfl ?_ | refine e_retT (()) ?_)
        (repeat (first | exact Imp.refl | exact Imp.nil | (apply Imp.pick; (focus ((repeat constructor); done))) | refine Imp.drop ?_))
      · rw [if_neg (fun c => hq c.symm)] at hmo
        (((with_reducible refine e_stS v_pickT Imp.nil ?_))); ((with_reducible refine e_condF ?_)); (((with_reducible refine e_opN (v_add ?h1 ?h2) Imp.nil ?_); (case h1 => omega); (case h2 => omega)))
        refine e_next1 m' (by omega) (.ex (i + 1) (.pu ⟨by omega, rfl, ?_⟩ ?_))
        · rw [if_pos (by omega)]; exact hmo
        · (repeat (first | exact Imp.refl | exact Imp.nil | (apply Imp.pick; (focus ((repeat constructor); done))) | refine Imp.drop ?_))
    · rw [if_neg (by omega)] at hmo
      ((with_reducible refine e_gdF2 ?_)); ((with_reducible refine e_gdF2 ?_)); ((with_reducible refine e_gdF2 ?_)); ((with_reducible refine e_gdF2 ?_)); ((with_reducible refine e_gdF2 ?_)); ((with_reducible refine e_gdF2 ?_)); ((with_reducible refine e_gdF2 ?_)); ((with_reducible refine e_gdF2 ?_)); ((with_reducible refine e_gdF2 ?_)); ((with_reducible refine e_gdF2 ?_)); (((with_reducible refine e_stS v_pickF Imp.nil ?_))); ((with_reducible refine e_condF ?_)); (((with_reducible refine e_opN (v_add ?h1 ?h2) Imp.nil ?_); (case h1 => omega); (case h2 => omega)))
      refine e_next1 m' (by omega) (.ex (i + 1) (.pu ⟨by omega, rfl, ?_⟩ ?_))
      · rw [if_neg (by omega)]; exact hmo
      · (repeat (first | exact Imp.refl | exact Imp.nil | (apply Imp.pick; (focus ((repeat constructor); done))) | refine Imp.drop ?_))
  · have hm0 : m = 0 := by omega
    subst hm0
    have hz : moR l a = 0 := by
      rw [hmo]
      split <;> rfl
    rw [hz]
    ((with_reducible refine e_condF ?_))
    (first | refine e_ret (()) rfl ?_ | refine e_retT (()) ?_)
    (repeat (first | exact Imp.refl | exact Imp.nil | (apply Imp.pick; (focus ((repeat constructor); done))) | refine Imp.drop ?_))
end Go.Proofs.YtcmpkkkigmheoaaGreatDoor.D
/-! The document's three forms: what they compute. No conditions but those that each names. -/
namespace Go.Proofs.YtcmpkkkigmheoaaGreatDoor.D
open Go Go.Proofs Go.RowKit Go.Proofs.YtcmpkkkigmheoaaGreatDoor.Sh Go.Proofs.YtcmpkkkigmheoaaGreatDoor.Sl Go.Proofs.YtcmpkkkigmheoaaGreatDoor.T
theorem forms {W : World} {x : Dt} (ok : okX x) : Cn Tryz.prog 64 [.agg (dtA x)] W [] (fun _ : Unit => .tuple #[txt (fm 0 x), txt (fm 1 x), txt (fm 2 x)]) (fun _ => []) := by
  have okx := ok
  obtain ⟨o1, o2, o3, o4, o5, o6, o7⟩ := ok
  have hwl : 3 ≤ (wdN x).length ∧ (wdN x).length ≤ 9 := nm_len (l := wdL) (by decide) (by show _ < 7; omega)
  have hml : 3 ≤ (moN x).length ∧ (moN x).length ≤ 9 := nm_len (l := moL) (by decide) (by show _ < 12; omega)
  (refine S.ref09_Forms_cn fun F => ?_; unfold S.ref09_Forms; simp only [List.cons_append, List.nil_append])
  rw [show (Value.agg (dtA x)) = .agg #[.int .i64 x.y, .int .i64 x.m, .int .i64 x.d, .int .i64 x.h, .int .i64 x.mi, .int .i64 x.s, .int .i64 x.w] from rfl]
  (((with_reducible refine e_boxA fun g => ?_)))
  rename Nat => b1
  (refine' e_call (names) ?hp fun _ => ?_; (case hp => (repeat (first | exact Picks.nil | (apply Picks.cons; (focus (repeat constructor)))))); (try simp only [List.cons_append, List.nil_append, Bool.not_true, Bool.not_false]))
  rename_i q
  obtain ⟨gs, gc, gl, gm⟩ := q
  (try dsimp only)
  (((with_reducible refine' e_opN (v_extN ?hc) Imp.nil ?_); (case hc => (repeat (first | exact Nth.here | apply Nth.there))))); (((with_reducible refine' e_opN (v_extN ?hc) Imp.nil ?_); (case hc => (repeat (first | exact Nth.here | apply Nth.there))))); (((with_reducible refine' e_opN (v_extN ?hc) Imp.nil ?_); (case hc => (repeat (first | exact Nth.here | apply Nth.there))))); (((with_reducible refine e_opN v_fa0 Imp.nil ?_))); (((with_reducible refine' e_opN (v_ldN ?hc) ?hi ?_); (case hi => (repeat (first | exact Imp.refl | exact Imp.nil | (apply Imp.pick; (focus ((repeat constructor); done))) | refine Imp.drop ?_))); (case hc => (repeat (first | exact Nth.here | apply Nth.there))))); (((with_reducible refine e_opN (v_sub ?h1 ?h2) Imp.nil ?_); (case h1 => omega); (case h2 => omega)))
  refine e_opN (v_ia1 (x.m - 1).toNat (by omega) (by omega)) Imp.nil ?_
  refine e_opN (v_ldRd (v := txt (moN x)) (j := (x.m - 1).toNat) (rd_pt (n := 12) (by rfl)) (l_get (l := moL) (by show _ < 12; omega))) (.pick (by (repeat constructor)) .nil) ?_
  (((with_reducible refine e_opN v_fa0 Imp.nil ?_))); (((with_reducible refine' e_opN (v_ldN ?hc) ?hi ?_); (case hi => (repeat (first | exact Imp.refl | exact Imp.nil | (apply Imp.pick; (focus ((repeat constructor); done))) | refine Imp.drop ?_))); (case hc => (repeat (first | exact Nth.here | apply Nth.there)))))
  (refine' e_call (rtwo (n := x.d) (by omega)) ?hp fun _ => ?_; (case hp => (repeat (first | exact Picks.nil | (apply Picks.cons; (focus (repeat constructor)))))); (try simp only [List.cons_append, List.nil_append, Bool.not_true, Bool.not_false]))
  have hd2 := dg2s ⟨x.d.toNat, by omega⟩
  (try dsimp only at hd2)
  refine e_cut1 (fun z => pu (z = txt (dg x.d.toNat 2 32)) :: Sl 1 9 (some ⟨gs, 0, none⟩) gc 7 (shL.map txt) :: pt gl (.cells (wdL.map txt).toArray 9) :: pt gm (.cells (moL.map txt).toArray 9) :: pt b1 (.cells #[.int .i64 x.y, .int .i64 x.m, .int .i64 x.d, .int .i64 x.h, .int .i64 x.mi, .int .i64 x.s, .int .i64 x.w] 84) :: F) ?_ ?_
  rotate_left
  · (((with_reducible refine e_opN v_fa0 Imp.nil ?_))); (((with_reducible refine' e_opN (v_ldN ?hc) ?hi ?_); (case hi => (repeat (first | exact Imp.refl | exact Imp.nil | (apply Imp.pick; (focus ((repeat constructor); done))) | refine Imp.drop ?_))); (case hc => (repeat (first | exact Nth.here | apply Nth.there)))))
    refine e_ask v_lss Imp.nil (fun h => ?_) (fun h => ?_)
    · ((with_reducible refine e_condT ?_))
      refine e_opN (v_ssl 1 (by rfl) (by rw [dg_len]; omega)) Imp.nil ?_
      refine e_opN (v_cat (a := [32]) (by simp only [List.length_drop, dg_len, List.length_cons, List.length_nil]; omega)) Imp.nil ?_
      refine e_sat (.pu ?_ ?_)
      · rw [hd2, if_pos (by omega)]; rfl
      · (repeat (first | exact Imp.refl | exact Imp.nil | (apply Imp.pick; (focus ((repeat constructor); done))) | refine Imp.drop ?_))
    · ((with_reducible refine e_condF ?_))
      refine e_sat (.pu ?_ ?_)
      · rw [hd2, if_neg (by omega)]
      · (repeat (first | exact Imp.refl | exact Imp.nil | (apply Imp.pick; (focus ((repeat constructor); done))) | refine Imp.drop ?_))
  clear hd2
  intro ds z
  (try simp only [List.cons_append, List.nil_append, -eq_self])
  refine e_pu .here fun h => ?_
  subst h
  ((with_reducible refine e_drS ?_)); (((with_reducible refine e_stS v_fa0 Imp.nil ?_))); (((with_reducible refine' e_stS (v_ldN ?hc) ?hi ?_); (case hi => (repeat (first | exact Imp.refl | exact Imp.nil | (apply Imp.pick; (focus ((repeat constructor); done))) | refine Imp.drop ?_))); (case hc => (repeat (first | exact Nth.here | apply Nth.there))))); (((with_reducible refine e_stS (v_quo ?h1 ?h2 ?h3) Imp.nil ?_); (case h1 => omega); (case h2 => omega); (case h3 => omega))); (((with_reducible refine e_stD v_fa0 Imp.nil ?_))); (((with_reducible refine' e_stD (v_ldN ?hc) ?hi ?_); (case hi => (repeat (first | exact Imp.refl | exact Imp.nil | (apply Imp.pick; (focus ((repeat constructor); done))) | refine Imp.drop ?_))); (case hc => (repeat (first | exact Nth.here | apply Nth.there)))))
  (refine' e_call (rtwo (n := x.y / 100) (by omega)) ?hp fun _ => ?_; (case hp => (repeat (first | exact Picks.nil | (apply Picks.cons; (focus (repeat constructor)))))); (try simp only [List.cons_append, List.nil_append, Bool.not_true, Bool.not_false]))
  (((with_reducible refine e_obl ?hi ?_); (case hi => (repeat (first | exact Imp.refl | exact Imp.nil | (apply Imp.pick; (focus ((repeat constructor); done))) | refine Imp.drop ?_))))); (((with_reducible refine e_obl ?hi ?_); (case hi => (repeat (first | exact Imp.refl | exact Imp.nil | (apply Imp.pick; (focus ((repeat constructor); done))) | refine Imp.drop ?_)))))
  (refine' e_call (rtwo (n := x.y) (by omega)) ?hp fun _ => ?_; (case hp => (repeat (first | exact Picks.nil | (apply Picks.cons; (focus (repeat constructor)))))); (try simp only [List.cons_append, List.nil_append, Bool.not_true, Bool.not_false]))
  refine e_stS (v_cat (by simp only [List.length_append, List.length_take, dg_len, clk_len, List.length_cons, List.length_nil]; omega)) Imp.nil ?_
  rw [show (x.y / 100).toNat = x.y.toNat / 100 by omega, dg22]
  ((with_reducible refine e_drS ?_)); (((with_reducible refine e_stD v_fa0 Imp.nil ?_))); (((with_reducible refine' e_stD (v_ldN ?hc) ?hi ?_); (case hi => (repeat (first | exact Imp.refl | exact Imp.nil | (apply Imp.pick; (focus ((repeat constructor); done))) | refine Imp.drop ?_))); (case hc => (repeat (first | exact Nth.here | apply Nth.there)))))
  refine e_stD (v_ia1 x.w.toNat (by omega) (by omega)) Imp.nil ?_
  refine e_stD (v_ldSl (v := txt ((wdN x).take 3)) (by rw [Nat.zero_add]; exact sh_get (by omega))) (.pick (by (repeat constructor)) .nil) ?_
  refine e_stD (v_cat (by simp only [List.length_append, List.length_take, dg_len, clk_len, List.length_cons, List.length_nil]; omega)) Imp.nil ?_
  (((with_reducible refine e_stS v_fa0 Imp.nil ?_))); (((with_reducible refine' e_stS (v_ldN ?hc) ?hi ?_); (case hi => (repeat (first | exact Imp.refl | exact Imp.nil | (apply Imp.pick; (focus ((repeat constructor); done))) | refine Imp.drop ?_))); (case hc => (repeat (first | exact Nth.here | apply Nth.there))))); (((with_reducible refine' e_stD (v_ldAgg ?hn) ?hi ?_); (case hi => (repeat (first | exact Imp.refl | exact Imp.nil | (apply Imp.pick; (focus ((repeat constructor); done))) | refine Imp.drop ?_))); (case hn => rfl)))
  (refine' e_call (rtwo (n := x.d) (by omega)) ?hp fun _ => ?_; (case hp => (repeat (first | exact Picks.nil | (apply Picks.cons; (focus (repeat constructor)))))); (try simp only [List.cons_append, List.nil_append, Bool.not_true, Bool.not_false]))
  (((with_reducible refine e_obl ?hi ?_); (case hi => (repeat (first | exact Imp.refl | exact Imp.nil | (apply Imp.pick; (focus ((repeat constructor); done))) | refine Imp.drop ?_))))); (((with_reducible refine e_obl ?hi ?_); (case hi => (repeat (first | exact Imp.refl | exact Imp.nil | (apply Imp.pick; (focus ((repeat constructor); done))) | refine Imp.drop ?_))))); (((with_reducible refine e_obl ?hi ?_); (case hi => (repeat (first | exact Imp.refl | exact Imp.nil | (apply Imp.pick; (focus ((repeat constructor); done))) | refine Imp.drop ?_))))); (((with_reducible refine e_obl ?hi ?_); (case hi => (repeat (first | exact Imp.refl | exact Imp.nil | (apply Imp.pick; (focus ((repeat constructor); done))) | refine Imp.drop ?_))))); (((with_reducible refine e_obl ?hi ?_); (case hi => (repeat (first | exact Imp.refl | exact Imp.nil | (apply Imp.pick; (focus ((repeat constructor); done))) | refine Imp.drop ?_))))); (((with_reducible refine e_obl ?hi ?_); (case hi => (repeat (first | exact Imp.refl | exact Imp.nil | (apply Imp.pick; (focus ((repeat constructor); done))) | refine Imp.drop ?_)))))
  refine e_stD (v_cat (by simp only [List.length_append, List.length_take, dg_len, clk_len, List.length_cons, List.length_nil]; omega)) Imp.nil ?_
  refine e_stD (v_cat (by simp only [List.length_append, List.length_take, dg_len, clk_len, List.length_cons, List.length_nil]; omega)) Imp.nil ?_
  refine e_stD (v_cat (by simp only [List.length_append, List.length_take, dg_len, clk_len, List.length_cons, List.length_nil]; omega)) Imp.nil ?_
  refine e_stD (v_cat (by simp only [List.length_append, List.length_take, dg_len, clk_len, List.length_cons, List.length_nil]; omega)) Imp.nil ?_
  refine e_stD (v_cat (by simp only [List.length_append, List.length_take, dg_len, clk_len, List.length_cons, List.length_nil]; omega)) Imp.nil ?_
  refine e_stD (v_cat (by simp only [List.length_append, List.length_take, dg_len, clk_len, List.length_cons, List.length_nil]; omega)) Imp.nil ?_
  (refine' e_call (rclk okx) ?hp fun _ => ?_; (case hp => (repeat (first | exact Picks.nil | (apply Picks.cons; (focus (repeat constructor)))))); (try simp only [List.cons_append, List.nil_append, Bool.not_true, Bool.not_false]))
  (((with_reducible refine e_obl ?hi ?_); (case hi => (repeat (first | exact Imp.refl | exact Imp.nil | (apply Imp.pick; (focus ((repeat constructor); done))) | refine Imp.drop ?_))))); (((with_reducible refine e_obl ?hi ?_); (case hi => (repeat (first | exact Imp.refl | exact Imp.nil | (apply Imp.pick; (focus ((repeat constructor); done))) | refine Imp.drop ?_))))); (((with_reducible refine e_obl ?hi ?_); (case hi => (repeat (first | exact Imp.refl | exact Imp.nil | (apply Imp.pick; (focus ((repeat constructor); done))) | refine Imp.drop ?_))))); (((with_reducible refine e_obl ?hi ?_); (case hi => (repeat (first | exact Imp.refl | exact Imp.nil | (apply Imp.pick; (focus ((repeat constructor); done))) | refine Imp.drop ?_))))); (((with_reducible refine e_obl ?hi ?_); (case hi => (repeat (first | exact Imp.refl | exact Imp.nil | (apply Imp.pick; (focus ((repeat constructor); done))) | refine Imp.drop ?_))))); (((with_reducible refine e_obl ?hi ?_); (case hi => (repeat (first | exact Imp.refl | exact Imp.nil | (apply Imp.pick; (focus ((repeat constructor); done))) | refine Imp.drop ?_))))); (((with_reducible refine e_obl ?hi ?_); (case hi => (repeat (first | exact Imp.refl | exact Imp.nil | (apply Imp.pick; (focus ((repeat constructor); done))) | refine Imp.drop ?_))))); (((with_reducible refine e_obl ?hi ?_); (case hi => (repeat (first | exact Imp.refl | exact Imp.nil | (apply Imp.pick; (focus ((repeat constructor); done))) | refine Imp.drop ?_))))); (((with_reducible refine e_obl ?hi ?_); (case hi => (repeat (first | exact Imp.refl | exact Imp.nil | (apply Imp.pick; (focus ((repeat constructor); done))) | refine Imp.drop ?_))))); (((with_reducible refine e_obl ?hi ?_); (case hi => (repeat (first | exact Imp.refl | exact Imp.nil | (apply Imp.pick; (focus ((repeat constructor); done))) | refine Imp.drop ?_))))); (((with_reducible refine e_obl ?hi ?_); (case hi => (repeat (first | exact Imp.refl | exact Imp.nil | (apply Imp.pick; (focus ((repeat constructor); done))) | refine Imp.drop ?_)))))
  refine e_stS (v_cat (by simp only [List.length_append, List.length_take, dg_len, clk_len, List.length_cons, List.length_nil]; omega)) Imp.nil ?_
  refine e_stS (v_cat (by simp only [List.length_append, List.length_take, dg_len, clk_len, List.length_cons, List.length_nil]; omega)) Imp.nil ?_
  ((with_reducible refine e_drS ?_)); (((with_reducible refine e_stD v_fa0 Imp.nil ?_))); (((with_reducible refine' e_stD (v_ldN ?hc) ?hi ?_); (case hi => (repeat (first | exact Imp.refl | exact Imp.nil | (apply Imp.pick; (focus ((repeat constructor); done))) | refine Imp.drop ?_))); (case hc => (repeat (first | exact Nth.here | apply Nth.there)))))
  refine e_stD (v_ia1 x.w.toNat (by omega) (by omega)) Imp.nil ?_
  refine e_stD (v_ldRd (v := txt (wdN x)) (j := x.w.toNat) (rd_pt (n := 7) (by rfl)) (l_get (l := wdL) (by show _ < 7; omega))) (.pick (by (repeat constructor)) .nil) ?_
  refine e_stD (v_cat (by simp only [List.length_append, List.length_take, dg_len, clk_len, List.length_cons, List.length_nil]; omega)) Imp.nil ?_
  (((with_reducible refine e_stS v_fa0 Imp.nil ?_))); (((with_reducible refine' e_stS (v_ldN ?hc) ?hi ?_); (case hi => (repeat (first | exact Imp.refl | exact Imp.nil | (apply Imp.pick; (focus ((repeat constructor); done))) | refine Imp.drop ?_))); (case hc => (repeat (first | exact Nth.here | apply Nth.there))))); (((with_reducible refine e_stD v_fa0 Imp.nil ?_))); (((with_reducible refine' e_stD (v_ldN ?hc) ?hi ?_); (case hi => (repeat (first | exact Imp.refl | exact Imp.nil | (apply Imp.pick; (focus ((repeat constructor); done))) | refine Imp.drop ?_))); (case hc => (repeat (first | exact Nth.here | apply Nth.there))))); (((with_reducible refine' e_stD (v_ldAgg ?hn) ?hi ?_); (case hi => (repeat (first | exact Imp.refl | exact Imp.nil | (apply Imp.pick; (focus ((repeat constructor); done))) | refine Imp.drop ?_))); (case hn => rfl)))
  (refine' e_call (rtwo (n := x.d) (by omega)) ?hp fun _ => ?_; (case hp => (repeat (first | exact Picks.nil | (apply Picks.cons; (focus (repeat constructor)))))); (try simp only [List.cons_append, List.nil_append, Bool.not_true, Bool.not_false]))
  (((with_reducible refine e_obl ?hi ?_); (case hi => (repeat (first | exact Imp.refl | exact Imp.nil | (apply Imp.pick; (focus ((repeat constructor); done))) | refine Imp.drop ?_))))); (((with_reducible refine e_obl ?hi ?_); (case hi => (repeat (first | exact Imp.refl | exact Imp.nil | (apply Imp.pick; (focus ((repeat constructor); done))) | refine Imp.drop ?_))))); (((with_reducible refine e_obl ?hi ?_); (case hi => (repeat (first | exact Imp.refl | exact Imp.nil | (apply Imp.pick; (focus ((repeat constructor); done))) | refine Imp.drop ?_))))); (((with_reducible refine e_obl ?hi ?_); (case hi => (repeat (first | exact Imp.refl | exact Imp.nil | (apply Imp.pick; (focus ((repeat constructor); done))) | refine Imp.drop ?_))))); (((with_reducible refine e_obl ?hi ?_); (case hi => (repeat (first | exact Imp.refl | exact Imp.nil | (apply Imp.pick; (focus ((repeat constructor); done))) | refine Imp.drop ?_))))); (((with_reducible refine e_obl ?hi ?_); (case hi => (repeat (first | exact Imp.refl | exact Imp.nil | (apply Imp.pick; (focus ((repeat constructor); done))) | refine Imp.drop ?_))))); (((with_reducible refine e_obl ?hi ?_); (case hi => (repeat (first | exact Imp.refl | exact Imp.nil | (apply Imp.pick; (focus ((repeat constructor); done))) | refine Imp.drop ?_))))); (((with_reducible refine e_obl ?hi ?_); (case hi => (repeat (first | exact Imp.refl | exact Imp.nil | (apply Imp.pick; (focus ((repeat constructor); done))) | refine Imp.drop ?_)))))
  refine e_stD (v_cat (by simp only [List.length_append, List.length_take, dg_len, clk_len, List.length_cons, List.length_nil]; omega)) Imp.nil ?_
  refine e_stD (v_cat (by simp only [List.length_append, List.length_take, dg_len, clk_len, List.length_cons, List.length_nil]; omega)) Imp.nil ?_
  refine e_stD (v_cat (by simp only [List.length_append, List.length_take, dg_len, clk_len, List.length_cons, List.length_nil]; omega)) Imp.nil ?_
  refine e_stD (v_cat (by simp only [List.length_append, List.length_take, dg_len, clk_len, List.length_cons, List.length_nil]; omega)) Imp.nil ?_
  (refine' e_call (rtwo (n := x.y) (by omega)) ?hp fun _ => ?_; (case hp => (repeat (first | exact Picks.nil | (apply Picks.cons; (focus (repeat constructor)))))); (try simp only [List.cons_append, List.nil_append, Bool.not_true, Bool.not_false]))
  (((with_reducible refine e_obl ?hi ?_); (case hi => (repeat (first | exact Imp.refl | exact Imp.nil | (apply Imp.pick; (focus ((repeat constructor); done))) | refine Imp.drop ?_))))); (((with_reducible refine e_obl ?hi ?_); (case hi => (repeat (first | exact Imp.refl | exact Imp.nil | (apply Imp.pick; (focus ((repeat constructor); done))) | refine Imp.drop ?_))))); (((with_reducible refine e_obl ?hi ?_); (case hi => (repeat (first | exact Imp.refl | exact Imp.nil | (apply Imp.pick; (focus ((repeat constructor); done))) | refine Imp.drop ?_))))); (((with_reducible refine e_obl ?hi ?_); (case hi => (repeat (first | exact Imp.refl | exact Imp.nil | (apply Imp.pick; (focus ((repeat constructor); done))) | refine Imp.drop ?_))))); (((with_reducible refine e_obl ?hi ?_); (case hi => (repeat (first | exact Imp.refl | exact Imp.nil | (apply Imp.pick; (focus ((repeat constructor); done))) | refine Imp.drop ?_))))); (((with_reducible refine e_obl ?hi ?_); (case hi => (repeat (first | exact Imp.refl | exact Imp.nil | (apply Imp.pick; (focus ((repeat constructor); done))) | refine Imp.drop ?_))))); (((with_reducible refine e_obl ?hi ?_); (case hi => (repeat (first | exact Imp.refl | exact Imp.nil | (apply Imp.pick; (focus ((repeat constructor); done))) | refine Imp.drop ?_))))); (((with_reducible refine e_obl ?hi ?_); (case hi => (repeat (first | exact Imp.refl | exact Imp.nil | (apply Imp.pick; (focus ((repeat constructor); done))) | refine Imp.drop ?_))))); (((with_reducible refine e_obl ?hi ?_); (case hi => (repeat (first | exact Imp.refl | exact Imp.nil | (apply Imp.pick; (focus ((repeat constructor); done))) | refine Imp.drop ?_))))); (((with_reducible refine e_obl ?hi ?_); (case hi => (repeat (first | exact Imp.refl | exact Imp.nil | (apply Imp.pick; (focus ((repeat constructor); done))) | refine Imp.drop ?_)))))
  refine e_stD (v_cat (by simp only [List.length_append, List.length_take, dg_len, clk_len, List.length_cons, List.length_nil]; omega)) Imp.nil ?_
  refine e_stD (v_cat (by simp only [List.length_append, List.length_take, dg_len, clk_len, List.length_cons, List.length_nil]; omega)) Imp.nil ?_
  (refine' e_call (rclk okx) ?hp fun _ => ?_; (case hp => (repeat (first | exact Picks.nil | (apply Picks.cons; (focus (repeat constructor)))))); (try simp only [List.cons_append, List.nil_append, Bool.not_true, Bool.not_false]))
  (((with_reducible refine e_obl ?hi ?_); (case hi => (repeat (first | exact Imp.refl | exact Imp.nil | (apply Imp.pick; (focus ((repeat constructor); done))) | refine Imp.drop ?_))))); (((with_reducible refine e_obl ?hi ?_); (case hi => (repeat (first | exact Imp.refl | exact Imp.nil | (apply Imp.pick; (focus ((repeat constructor); done))) | refine Imp.drop ?_))))); (((with_reducible refine e_obl ?hi ?_); (case hi => (repeat (first | exact Imp.refl | exact Imp.nil | (apply Imp.pick; (focus ((repeat constructor); done))) | refine Imp.drop ?_))))); (((with_reducible refine e_obl ?hi ?_); (case hi => (repeat (first | exact Imp.refl | exact Imp.nil | (apply Imp.pick; (focus ((repeat constructor); done))) | refine Imp.drop ?_))))); (((with_reducible refine e_obl ?hi ?_); (case hi => (repeat (first | exact Imp.refl | exact Imp.nil | (apply Imp.pick; (focus ((repeat constructor); done))) | refine Imp.drop ?_))))); (((with_reducible refine e_obl ?hi ?_); (case hi => (repeat (first | exact Imp.refl | exact Imp.nil | (apply Imp.pick; (focus ((repeat constructor); done))) | refine Imp.drop ?_))))); (((with_reducible refine e_obl ?hi ?_); (case hi => (repeat (first | exact Imp.refl | exact Imp.nil | (apply Imp.pick; (focus ((repeat constructor); done))) | refine Imp.drop ?_))))); (((with_reducible refine e_obl ?hi ?_); (case hi => (repeat (first | exact Imp.refl | exact Imp.nil | (apply Imp.pick; (focus ((repeat constructor); done))) | refine Imp.drop ?_))))); (((with_reducible refine e_obl ?hi ?_); (case hi => (repeat (first | exact Imp.refl | exact Imp.nil | (apply Imp.pick; (focus ((repeat constructor); done))) | refine Imp.drop ?_))))); (((with_reducible refine e_obl ?hi ?_); (case hi => (repeat (first | exact Imp.refl | exact Imp.nil | (apply Imp.pick; (focus ((repeat constructor); done))) | refine Imp.drop ?_))))); (((with_reducible refine e_obl ?hi ?_); (case hi => (repeat (first | exact Imp.refl | exact Imp.nil | (apply Imp.pick; (focus ((repeat constructor); done))) | refine Imp.drop ?_)))))
  refine e_stS (v_cat (by simp only [List.length_append, List.length_take, dg_len, clk_len, List.length_cons, List.length_nil]; omega)) Imp.nil ?_
  refine e_stS (v_cat (by simp only [List.length_append, List.length_take, dg_len, clk_len, List.length_cons, List.length_nil]; omega)) Imp.nil ?_
  ((with_reducible refine e_drS ?_)); (((with_reducible refine e_stD v_fa0 Imp.nil ?_))); (((with_reducible refine' e_stD (v_ldN ?hc) ?hi ?_); (case hi => (repeat (first | exact Imp.refl | exact Imp.nil | (apply Imp.pick; (focus ((repeat constructor); done))) | refine Imp.drop ?_))); (case hc => (repeat (first | exact Nth.here | apply Nth.there)))))
  refine e_stD (v_ia1 x.w.toNat (by omega) (by omega)) Imp.nil ?_
  refine e_stD (v_ldSl (v := txt ((wdN x).take 3)) (by rw [Nat.zero_add]; exact sh_get (by omega))) (.pick (by (repeat constructor)) .nil) ?_
  refine e_stD (v_cat (by simp only [List.length_append, List.length_take, dg_len, clk_len, List.length_cons, List.length_nil]; omega)) Imp.nil ?_
  refine e_stD (v_cat (by simp only [List.length_append, List.length_take, dg_len, clk_len, List.length_cons, List.length_nil]; omega)) Imp.nil ?_
  refine e_stD (v_cat (by simp only [List.length_append, List.length_take, dg_len, clk_len, List.length_cons, List.length_nil]; omega)) Imp.nil ?_
  refine e_stD (v_cat (by simp only [List.length_append, List.length_take, dg_len, clk_len, List.length_cons, List.length_nil]; omega)) Imp.nil ?_
  refine e_stD (v_cat (by simp only [List.length_append, List.length_take, dg_len, clk_len, List.length_cons, List.length_nil]; omega)) Imp.nil ?_
  (((with_reducible refine' e_stS (v_ldAgg ?hn) ?hi ?_); (case hi => (repeat (first | exact Imp.refl | exact Imp.nil | (apply Imp.pick; (focus ((repeat constructor); done))) | refine Imp.drop ?_))); (case hn => rfl)))
  (refine' e_call (rclk okx) ?hp fun _ => ?_; (case hp => (repeat (first | exact Picks.nil | (apply Picks.cons; (focus (repeat constructor)))))); (try simp only [List.cons_append, List.nil_append, Bool.not_true, Bool.not_false]))
  (((with_reducible refine e_obl ?hi ?_); (case hi => (repeat (first | exact Imp.refl | exact Imp.nil | (apply Imp.pick; (focus ((repeat constructor); done))) | refine Imp.drop ?_))))); (((with_reducible refine e_obl ?hi ?_); (case hi => (repeat (first | exact Imp.refl | exact Imp.nil | (apply Imp.pick; (focus ((repeat constructor); done))) | refine Imp.drop ?_))))); (((with_reducible refine e_obl ?hi ?_); (case hi => (repeat (first | exact Imp.refl | exact Imp.nil | (apply Imp.pick; (focus ((repeat constructor); done))) | refine Imp.drop ?_))))); (((with_reducible refine e_obl ?hi ?_); (case hi => (repeat (first | exact Imp.refl | exact Imp.nil | (apply Imp.pick; (focus ((repeat constructor); done))) | refine Imp.drop ?_))))); (((with_reducible refine e_obl ?hi ?_); (case hi => (repeat (first | exact Imp.refl | exact Imp.nil | (apply Imp.pick; (focus ((repeat constructor); done))) | refine Imp.drop ?_))))); (((with_reducible refine e_obl ?hi ?_); (case hi => (repeat (first | exact Imp.refl | exact Imp.nil | (apply Imp.pick; (focus ((repeat constructor); done))) | refine Imp.drop ?_))))); (((with_reducible refine e_obl ?hi ?_); (case hi => (repeat (first | exact Imp.refl | exact Imp.nil | (apply Imp.pick; (focus ((repeat constructor); done))) | refine Imp.drop ?_))))); (((with_reducible refine e_obl ?hi ?_); (case hi => (repeat (first | exact Imp.refl | exact Imp.nil | (apply Imp.pick; (focus ((repeat constructor); done))) | refine Imp.drop ?_))))); (((with_reducible refine e_obl ?hi ?_); (case hi => (repeat (first | exact Imp.refl | exact Imp.nil | (apply Imp.pick; (focus ((repeat constructor); done))) | refine Imp.drop ?_)))))
  refine e_stS (v_cat (by simp only [List.length_append, List.length_take, dg_len, clk_len, List.length_cons, List.length_nil]; omega)) Imp.nil ?_
  refine e_stS (v_cat (by simp only [List.length_append, List.length_take, dg_len, clk_len, List.length_cons, List.length_nil]; omega)) Imp.nil ?_
  refine e_stS (v_cat (by simp only [List.length_append, List.length_take, dg_len, clk_len, List.length_cons, List.length_nil]; omega)) Imp.nil ?_
  have e0 : fm 0 x = (wdN x).take 3 ++ [44, 32] ++ dg x.d.toNat 2 48 ++ [32] ++ moN x ++ [32] ++ dg x.y.toNat 4 48 ++ [32] ++ clk x ++ [32, 71, 77, 84] := if_pos rfl
  have e1 : fm 1 x = wdN x ++ [44, 32] ++ dg x.d.toNat 2 48 ++ [45] ++ moN x ++ [45] ++ dg x.y.toNat 2 48 ++ [32] ++ clk x ++ [32, 71, 77, 84] := by
    have : fm 1 x = wdN x ++ [44, 32] ++ dg x.d.toNat 2 48 ++ [45] ++ moN x ++ [45] ++ dg (x.y % 100).toNat 2 48 ++ [32] ++ clk x ++ [32, 71, 77, 84] := by unfold fm; rw [if_neg (by decide), if_pos rfl]
    rw [this, show (x.y % 100).toNat = x.y.toNat % 100 by omega, dg2m]
  have e2 : fm 2 x = (wdN x).take 3 ++ [32] ++ moN x ++ [32] ++ dg x.d.toNat 2 32 ++ [32] ++ clk x ++ [32] ++ dg x.y.toNat 4 48 := by unfold fm; rw [if_neg (by decide), if_neg (by decide)]
  rw [e0, e1, e2]
  (first | refine e_ret (()) rfl ?_ | refine e_retT (()) ?_)
  (repeat (first | exact Imp.refl | exact Imp.nil | (apply Imp.pick; (focus ((repeat constructor); done))) | refine Imp.drop ?_))
end Go.Proofs.YtcmpkkkigmheoaaGreatDoor.D
/-! The document's time of a date: year by year, month by month. No conditions but those that each names. -/
namespace Go.Proofs.YtcmpkkkigmheoaaGreatDoor.D
open Go Go.Proofs Go.RowKit Go.Proofs.YtcmpkkkigmheoaaGreatDoor.Sh Go.Proofs.YtcmpkkkigmheoaaGreatDoor.Sl Go.Proofs.YtcmpkkkigmheoaaGreatDoor.T
theorem uniq {n y m : Int} (h : 0 ≤ n) (hm : 1 ≤ m ∧ m ≤ 12) (h1 : dayN y m 1 ≤ n) (h2 : n < dayN y m 1 + mlN y m) : cY n = y ∧ cM n = m := by
  obtain ⟨d1, d2, d3, d4, d5⟩ := day_in h
  have hM := cM_b n
  have j1 := mon_le (y := y) (m := 1) (M := m) (by omega) hm.1 hm.2
  have j2 := mon_year (y := y) hm
  have hY : cY n = y := by
    rcases Int.lt_trichotomy (cY n) y with c | c | c
    · have := jan_mono (a := cY n + 1) (b := y) (by omega)
      omega
    · exact c
    · have := jan_mono (a := y + 1) (b := cY n) (by omega)
      omega
  refine ⟨hY, ?_⟩
  rw [hY] at d4 d5
  rcases Int.lt_trichotomy (cM n) m with c | c | c
  · have s := ml_step (y := y) (m := cM n) (by omega)
    have := mon_le (y := y) (m := cM n + 1) (M := m) (by omega) (by omega) hm.2
    omega
  · exact c
  · have s := ml_step (y := y) (m := m) (by omega)
    have := mon_le (y := y) (m := m + 1) (M := cM n) (by omega) (by omega) hM.2
    omega
theorem cM_iff {y m d : Int} (hy : 1970 ≤ y ∧ y ≤ 9999) (hm : 1 ≤ m ∧ m ≤ 12) (hd : 1 ≤ d ∧ d ≤ 31) : cM (dayN y m d) = m ↔ d ≤ mlN y m := by
  have hb := (dayN_b hy hm hd).1
  have h1 := day1 y m d
  have hml := ml_b y m
  constructor
  · intro hc
    rcases Int.lt_or_le (mlN y m) d with c | c
    · by_cases h12 : m = 12
      · subst h12
        rw [show mlN y 12 = 31 from rfl] at c
        omega
      · have s := ml_step (y := y) (m := m) (by omega)
        have hml2 := ml_b y (m + 1)
        have := (uniq (n := dayN y m d) (y := y) (m := m + 1) hb (by omega) (by omega) (by omega)).2
        omega
    · exact c
  · intro hc
    exact (uniq (n := dayN y m d) (y := y) (m := m) hb hm (by omega) (by omega)).2
def rOk (x : Dt) : Prop := (1970 ≤ x.y ∧ x.y ≤ 9999) ∧ (1 ≤ x.m ∧ x.m ≤ 12) ∧ (1 ≤ x.d ∧ x.d ≤ mlN x.y x.m) ∧ (0 ≤ x.h ∧ x.h ≤ 23) ∧ (0 ≤ x.mi ∧ x.mi ≤ 59) ∧ (0 ≤ x.s ∧ x.s ≤ 59)
theorem rOk_iff (x : Dt) : okF x ↔ rOk x := by
  have hml := ml_b x.y x.m
  constructor
  · intro h
    unfold okF at h
    obtain ⟨h1, h2, h3, h4, h5, h6, h7⟩ := h
    exact ⟨h1, h2, ⟨h3.1, (cM_iff h1 h2 h3).1 h7⟩, h4, h5, h6⟩
  · intro h
    unfold rOk at h
    obtain ⟨h1, h2, h3, h4, h5, h6⟩ := h
    have h3' : 1 ≤ x.d ∧ x.d ≤ 31 := by omega
    exact ⟨h1, h2, h3', h4, h5, h6, (cM_iff h1 h2 h3').2 h3.2⟩
theorem rjoin {W : World} {x : Dt} : Cn Tryz.prog 62 [.agg (dtA x)] W [] (fun _ : Unit => .tuple #[.int .i64 (jN x), .int .i64 (jE x)]) (fun _ => []) := by
  have bad : ¬ rOk x → jN x = 0 ∧ jE x = 41 := fun h => ⟨if_neg (fun c => h ((rOk_iff x).1 c)), if_neg (fun c => h ((rOk_iff x).1 c))⟩
  (refine S.ref09_Join_cn fun F => ?_; unfold S.ref09_Join; simp only [List.cons_append, List.nil_append])
  rw [show (Value.agg (dtA x)) = .agg #[.int .i64 x.y, .int .i64 x.m, .int .i64 x.d, .int .i64 x.h, .int .i64 x.mi, .int .i64 x.s, .int .i64 x.w] from rfl]
  (((with_reducible refine e_boxA fun g => ?_))); ((with_reducible refine e_drS ?_)); (((with_reducible refine e_stS v_fa0 Imp.nil ?_))); (((with_reducible refine' e_stS (v_ldN ?hc) ?hi ?_); (case hi => (repeat (first | exact Imp.refl | exact Imp.nil | (apply Imp.pick; (focus ((repeat constructor); done))) | refine Imp.drop ?_))); (case hc => (repeat (first | exact Nth.here | apply Nth.there)))))
  refine e_askS v_lss Imp.nil (fun h1 => ?_) (fun h1 => ?_)
  · ((with_reducible refine e_gdF1 ?_)); ((with_reducible refine e_gdF1 ?_)); ((with_reducible refine e_gdF1 ?_)); (((with_reducible refine e_stS v_pickT Imp.nil ?_))); ((with_reducible refine e_gdF1 ?_)); ((with_reducible refine e_gdF1 ?_)); ((with_reducible refine e_gdF1 ?_)); (((with_reducible refine e_stS v_pickT Imp.nil ?_))); ((with_reducible refine e_gdF1 ?_)); ((with_reducible refine e_gdF1 ?_)); ((with_reducible refine e_gdF1 ?_)); (((with_reducible refine e_stS v_pickT Imp.nil ?_))); ((with_reducible refine e_gdF1 ?_)); ((with_reducible refine e_gdF1 ?_)); ((with_reducible refine e_gdF1 ?_)); (((with_reducible refine e_stS v_pickT Imp.nil ?_))); ((with_reducible refine e_gdDF1 ?_)); ((with_reducible refine e_gdDF1 ?_)); ((with_reducible refine e_gdF1 ?_)); ((with_reducible refine e_gdF1 ?_)); ((with_reducible refine e_gdF1 ?_)); ((with_reducible refine e_gdF1 ?_)); ((with_reducible refine e_gdF1 ?_)); ((with_reducible refine e_oblT ?_)); ((with_reducible refine e_oblT ?_)); ((with_reducible refine e_gdF1 ?_)); (((with_reducible refine e_stS v_pickT Imp.nil ?_))); ((with_reducible refine e_condT ?_))
    obtain ⟨b1, b2⟩ := bad (fun c => by unfold rOk at c; omega)
    rw [b1, b2]
    (first | refine e_ret (()) rfl ?_ | refine e_retT (()) ?_)
    (repeat (first | exact Imp.refl | exact Imp.nil | (apply Imp.pick; (focus ((repeat constructor); done))) | refine Imp.drop ?_))
  ((with_reducible refine e_gdT ?_)); (((with_reducible refine e_stS v_fa0 Imp.nil ?_))); ((with_reducible refine e_gdT ?_)); (((with_reducible refine' e_stS (v_ldN ?hc) ?hi ?_); (case hi => (repeat (first | exact Imp.refl | exact Imp.nil | (apply Imp.pick; (focus ((repeat constructor); done))) | refine Imp.drop ?_))); (case hc => (repeat (first | exact Nth.here | apply Nth.there))))); ((with_reducible refine e_gdT ?_))
  refine e_askS v_gtr Imp.nil (fun h2 => ?_) (fun h2 => ?_)
  · (((with_reducible refine e_stS v_pickF Imp.nil ?_))); ((with_reducible refine e_gdF1 ?_)); ((with_reducible refine e_gdF1 ?_)); ((with_reducible refine e_gdF1 ?_)); (((with_reducible refine e_stS v_pickT Imp.nil ?_))); ((with_reducible refine e_gdF1 ?_)); ((with_reducible refine e_gdF1 ?_)); ((with_reducible refine e_gdF1 ?_)); (((with_reducible refine e_stS v_pickT Imp.nil ?_))); ((with_reducible refine e_gdF1 ?_)); ((with_reducible refine e_gdF1 ?_)); ((with_reducible refine e_gdF1 ?_)); (((with_reducible refine e_stS v_pickT Imp.nil ?_))); ((with_reducible refine e_gdDF1 ?_)); ((with_reducible refine e_gdDF1 ?_)); ((with_reducible refine e_gdF1 ?_)); ((with_reducible refine e_gdF1 ?_)); ((with_reducible refine e_gdF1 ?_)); ((with_reducible refine e_gdF1 ?_)); ((with_reducible refine e_gdF1 ?_)); ((with_reducible refine e_oblT ?_)); ((with_reducible refine e_oblT ?_)); ((with_reducible refine e_gdF1 ?_)); (((with_reducible refine e_stS v_pickT Imp.nil ?_))); ((with_reducible refine e_condT ?_))
    obtain ⟨b1, b2⟩ := bad (fun c => by unfold rOk at c; omega)
    rw [b1, b2]
    (first | refine e_ret (()) rfl ?_ | refine e_retT (()) ?_)
    (repeat (first | exact Imp.refl | exact Imp.nil | (apply Imp.pick; (focus ((repeat constructor); done))) | refine Imp.drop ?_))
  (((with_reducible refine e_stS v_pickF Imp.nil ?_))); ((with_reducible refine e_gdT ?_)); (((with_reducible refine e_stS v_fa0 Imp.nil ?_))); ((with_reducible refine e_gdT ?_)); (((with_reducible refine' e_stS (v_ldN ?hc) ?hi ?_); (case hi => (repeat (first | exact Imp.refl | exact Imp.nil | (apply Imp.pick; (focus ((repeat constructor); done))) | refine Imp.drop ?_))); (case hc => (repeat (first | exact Nth.here | apply Nth.there))))); ((with_reducible refine e_gdT ?_))
  refine e_askS v_lss Imp.nil (fun h3 => ?_) (fun h3 => ?_)
  · (((with_reducible refine e_stS v_pickF Imp.nil ?_))); ((with_reducible refine e_gdF1 ?_)); ((with_reducible refine e_gdF1 ?_)); ((with_reducible refine e_gdF1 ?_)); (((with_reducible refine e_stS v_pickT Imp.nil ?_))); ((with_reducible refine e_gdF1 ?_)); ((with_reducible refine e_gdF1 ?_)); ((with_reducible refine e_gdF1 ?_)); (((with_reducible refine e_stS v_pickT Imp.nil ?_))); ((with_reducible refine e_gdDF1 ?_)); ((with_reducible refine e_gdDF1 ?_)); ((with_reducible refine e_gdF1 ?_)); ((with_reducible refine e_gdF1 ?_)); ((with_reducible refine e_gdF1 ?_)); ((with_reducible refine e_gdF1 ?_)); ((with_reducible refine e_gdF1 ?_)); ((with_reducible refine e_oblT ?_)); ((with_reducible refine e_oblT ?_)); ((with_reducible refine e_gdF1 ?_)); (((with_reducible refine e_stS v_pickT Imp.nil ?_))); ((with_reducible refine e_condT ?_))
    obtain ⟨b1, b2⟩ := bad (fun c => by unfold rOk at c; omega)
    rw [b1, b2]
    (first | refine e_ret (()) rfl ?_ | refine e_retT (()) ?_)
    (repeat (first | exact Imp.refl | exact Imp.nil | (apply Imp.pick; (focus ((repeat constructor); done))) | refine Imp.drop ?_))
  (((with_reducible refine e_stS v_pickF Imp.nil ?_))); ((with_reducible refine e_gdT ?_)); (((with_reducible refine e_stS v_fa0 Imp.nil ?_))); ((with_reducible refine e_gdT ?_)); (((with_reducible refine' e_stS (v_ldN ?hc) ?hi ?_); (case hi => (repeat (first | exact Imp.refl | exact Imp.nil | (apply Imp.pick; (focus ((repeat constructor); done))) | refine Imp.drop ?_))); (case hc => (repeat (first | exact Nth.here | apply Nth.there))))); ((with_reducible refine e_gdT ?_))
  refine e_askS v_gtr Imp.nil (fun h4 => ?_) (fun h4 => ?_)
  · (((with_reducible refine e_stS v_pickF Imp.nil ?_))); ((with_reducible refine e_gdF1 ?_)); ((with_reducible refine e_gdF1 ?_)); ((with_reducible refine e_gdF1 ?_)); (((with_reducible refine e_stS v_pickT Imp.nil ?_))); ((with_reducible refine e_gdDF1 ?_)); ((with_reducible refine e_gdDF1 ?_)); ((with_reducible refine e_gdF1 ?_)); ((with_reducible refine e_gdF1 ?_)); ((with_reducible refine e_gdF1 ?_)); ((with_reducible refine e_gdF1 ?_)); ((with_reducible refine e_gdF1 ?_)); ((with_reducible refine e_oblT ?_)); ((with_reducible refine e_oblT ?_)); ((with_reducible refine e_gdF1 ?_)); (((with_reducible refine e_stS v_pickT Imp.nil ?_))); ((with_reducible refine e_condT ?_))
    obtain ⟨b1, b2⟩ := bad (fun c => by unfold rOk at c; omega)
    rw [b1, b2]
    (first | refine e_ret (()) rfl ?_ | refine e_retT (()) ?_)
    (repeat (first | exact Imp.refl | exact Imp.nil | (apply Imp.pick; (focus ((repeat constructor); done))) | refine Imp.drop ?_))
  (((with_reducible refine e_stS v_pickF Imp.nil ?_))); ((with_reducible refine e_gdT ?_)); (((with_reducible refine e_stS v_fa0 Imp.nil ?_))); ((with_reducible refine e_gdT ?_)); (((with_reducible refine' e_stS (v_ldN ?hc) ?hi ?_); (case hi => (repeat (first | exact Imp.refl | exact Imp.nil | (apply Imp.pick; (focus ((repeat constructor); done))) | refine Imp.drop ?_))); (case hc => (repeat (first | exact Nth.here | apply Nth.there))))); ((with_reducible refine e_gdT ?_))
  refine e_askS v_lss Imp.nil (fun h5 => ?_) (fun h5 => ?_)
  · (((with_reducible refine e_stS v_pickF Imp.nil ?_))); ((with_reducible refine e_gdDF1 ?_)); ((with_reducible refine e_gdDF1 ?_)); ((with_reducible refine e_gdF1 ?_)); ((with_reducible refine e_gdF1 ?_)); ((with_reducible refine e_gdF1 ?_)); ((with_reducible refine e_gdF1 ?_)); ((with_reducible refine e_gdF1 ?_)); ((with_reducible refine e_oblT ?_)); ((with_reducible refine e_oblT ?_)); ((with_reducible refine e_gdF1 ?_)); (((with_reducible refine e_stS v_pickT Imp.nil ?_))); ((with_reducible refine e_condT ?_))
    obtain ⟨b1, b2⟩ := bad (fun c => by unfold rOk at c; omega)
    rw [b1, b2]
    (first | refine e_ret (()) rfl ?_ | refine e_retT (()) ?_)
    (repeat (first | exact Imp.refl | exact Imp.nil | (apply Imp.pick; (focus ((repeat constructor); done))) | refine Imp.drop ?_))
  (((with_reducible refine e_stS v_pickF Imp.nil ?_))); ((with_reducible refine e_gdDT ?_)); (((with_reducible refine e_stD v_fa0 Imp.nil ?_))); ((with_reducible refine e_gdDT ?_)); (((with_reducible refine' e_stD (v_ldN ?hc) ?hi ?_); (case hi => (repeat (first | exact Imp.refl | exact Imp.nil | (apply Imp.pick; (focus ((repeat constructor); done))) | refine Imp.drop ?_))); (case hc => (repeat (first | exact Nth.here | apply Nth.there))))); ((with_reducible refine e_gdT ?_)); (((with_reducible refine e_stS v_fa0 Imp.nil ?_))); ((with_reducible refine e_gdT ?_)); (((with_reducible refine' e_stS (v_ldN ?hc) ?hi ?_); (case hi => (repeat (first | exact Imp.refl | exact Imp.nil | (apply Imp.pick; (focus ((repeat constructor); done))) | refine Imp.drop ?_))); (case hc => (repeat (first | exact Nth.here | apply Nth.there))))); ((with_reducible refine e_gdT ?_)); (((with_reducible refine e_stS v_fa0 Imp.nil ?_))); ((with_reducible refine e_gdT ?_)); (((with_reducible refine' e_stS (v_ldN ?hc) ?hi ?_); (case hi => (repeat (first | exact Imp.refl | exact Imp.nil | (apply Imp.pick; (focus ((repeat constructor); done))) | refine Imp.drop ?_))); (case hc => (repeat (first | exact Nth.here | apply Nth.there))))); ((with_reducible refine e_gdT ?_))
  (refine' e_call (rdays (y := x.y) (m := x.m) (by omega)) ?hp fun _ => ?_; (case hp => (repeat (first | exact Picks.nil | (apply Picks.cons; (focus (repeat constructor)))))); (try simp only [List.cons_append, List.nil_append, Bool.not_true, Bool.not_false]))
  (((with_reducible refine e_obl ?hi ?_); (case hi => (repeat (first | exact Imp.refl | exact Imp.nil | (apply Imp.pick; (focus ((repeat constructor); done))) | refine Imp.drop ?_))))); (((with_reducible refine e_obl ?hi ?_); (case hi => (repeat (first | exact Imp.refl | exact Imp.nil | (apply Imp.pick; (focus ((repeat constructor); done))) | refine Imp.drop ?_))))); ((with_reducible refine e_gdT ?_))
  refine e_askS v_gtr Imp.nil (fun h6 => ?_) (fun h6 => ?_)
  · (((with_reducible refine e_stS v_pickF Imp.nil ?_))); ((with_reducible refine e_condT ?_))
    obtain ⟨b1, b2⟩ := bad (fun c => by unfold rOk at c; omega)
    rw [b1, b2]
    (first | refine e_ret (()) rfl ?_ | refine e_retT (()) ?_)
    (repeat (first | exact Imp.refl | exact Imp.nil | (apply Imp.pick; (focus ((repeat constructor); done))) | refine Imp.drop ?_))
  (((with_reducible refine e_stS v_pickF Imp.nil ?_))); ((with_reducible refine e_condF ?_)); (((with_reducible refine e_opN v_fa0 Imp.nil ?_))); (((with_reducible refine' e_opN (v_ldN ?hc) ?hi ?_); (case hi => (repeat (first | exact Imp.refl | exact Imp.nil | (apply Imp.pick; (focus ((repeat constructor); done))) | refine Imp.drop ?_))); (case hc => (repeat (first | exact Nth.here | apply Nth.there)))))
  refine e_ask v_lss Imp.nil (fun h7 => ?_) (fun h7 => ?_)
  · ((with_reducible refine e_gdF1 ?_)); ((with_reducible refine e_gdF1 ?_)); ((with_reducible refine e_gdF1 ?_)); (((with_reducible refine e_opN v_pickT Imp.nil ?_))); ((with_reducible refine e_gdF1 ?_)); ((with_reducible refine e_gdF1 ?_)); ((with_reducible refine e_gdF1 ?_)); (((with_reducible refine e_opN v_pickT Imp.nil ?_))); ((with_reducible refine e_gdF1 ?_)); ((with_reducible refine e_gdF1 ?_)); ((with_reducible refine e_gdF1 ?_)); (((with_reducible refine e_opN v_pickT Imp.nil ?_))); ((with_reducible refine e_gdF1 ?_)); ((with_reducible refine e_gdF1 ?_)); ((with_reducible refine e_gdF1 ?_)); (((with_reducible refine e_opN v_pickT Imp.nil ?_))); ((with_reducible refine e_gdF1 ?_)); ((with_reducible refine e_gdF1 ?_)); ((with_reducible refine e_gdF1 ?_)); (((with_reducible refine e_opN v_pickT Imp.nil ?_))); ((with_reducible refine e_condT ?_))
    obtain ⟨b1, b2⟩ := bad (fun c => by unfold rOk at c; omega)
    rw [b1, b2]
    (first | refine e_ret (()) rfl ?_ | refine e_retT (()) ?_)
    (repeat (first | exact Imp.refl | exact Imp.nil | (apply Imp.pick; (focus ((repeat constructor); done))) | refine Imp.drop ?_))
  ((with_reducible refine e_gdT ?_)); (((with_reducible refine e_opN v_fa0 Imp.nil ?_))); ((with_reducible refine e_gdT ?_)); (((with_reducible refine' e_opN (v_ldN ?hc) ?hi ?_); (case hi => (repeat (first | exact Imp.refl | exact Imp.nil | (apply Imp.pick; (focus ((repeat constructor); done))) | refine Imp.drop ?_))); (case hc => (repeat (first | exact Nth.here | apply Nth.there))))); ((with_reducible refine e_gdT ?_))
  refine e_ask v_gtr Imp.nil (fun h8 => ?_) (fun h8 => ?_)
  · (((with_reducible refine e_opN v_pickF Imp.nil ?_))); ((with_reducible refine e_gdF1 ?_)); ((with_reducible refine e_gdF1 ?_)); ((with_reducible refine e_gdF1 ?_)); (((with_reducible refine e_opN v_pickT Imp.nil ?_))); ((with_reducible refine e_gdF1 ?_)); ((with_reducible refine e_gdF1 ?_)); ((with_reducible refine e_gdF1 ?_)); (((with_reducible refine e_opN v_pickT Imp.nil ?_))); ((with_reducible refine e_gdF1 ?_)); ((with_reducible refine e_gdF1 ?_)); ((with_reducible refine e_gdF1 ?_)); (((with_reducible refine e_opN v_pickT Imp.nil ?_))); ((with_reducible refine e_gdF1 ?_)); ((with_reducible refine e_gdF1 ?_)); ((with_reducible refine e_gdF1 ?_)); (((with_reducible refine e_opN v_pickT Imp.nil ?_))); ((with_reducible refine e_condT ?_))
    obtain ⟨b1, b2⟩ := bad (fun c => by unfold rOk at c; omega)
    rw [b1, b2]
    (first | refine e_ret (()) rfl ?_ | refine e_retT (()) ?_)
    (repeat (first | exact Imp.refl | exact Imp.nil | (apply Imp.pick; (focus ((repeat constructor); done))) | refine Imp.drop ?_))
  (((with_reducible refine e_opN v_pickF Imp.nil ?_))); ((with_reducible refine e_gdT ?_)); (((with_reducible refine e_opN v_fa0 Imp.nil ?_))); ((with_reducible refine e_gdT ?_)); (((with_reducible refine' e_opN (v_ldN ?hc) ?hi ?_); (case hi => (repeat (first | exact Imp.refl | exact Imp.nil | (apply Imp.pick; (focus ((repeat constructor); done))) | refine Imp.drop ?_))); (case hc => (repeat (first | exact Nth.here | apply Nth.there))))); ((with_reducible refine e_gdT ?_))
  refine e_ask v_lss Imp.nil (fun h9 => ?_) (fun h9 => ?_)
  · (((with_reducible refine e_opN v_pickF Imp.nil ?_))); ((with_reducible refine e_gdF1 ?_)); ((with_reducible refine e_gdF1 ?_)); ((with_reducible refine e_gdF1 ?_)); (((with_reducible refine e_opN v_pickT Imp.nil ?_))); ((with_reducible refine e_gdF1 ?_)); ((with_reducible refine e_gdF1 ?_)); ((with_reducible refine e_gdF1 ?_)); (((with_reducible refine e_opN v_pickT Imp.nil ?_))); ((with_reducible refine e_gdF1 ?_)); ((with_reducible refine e_gdF1 ?_)); ((with_reducible refine e_gdF1 ?_)); (((with_reducible refine e_opN v_pickT Imp.nil ?_))); ((with_reducible refine e_condT ?_))
    obtain ⟨b1, b2⟩ := bad (fun c => by unfold rOk at c; omega)
    rw [b1, b2]
    (first | refine e_ret (()) rfl ?_ | refine e_retT (()) ?_)
    (repeat (first | exact Imp.refl | exact Imp.nil | (apply Imp.pick; (focus ((repeat constructor); done))) | refine Imp.drop ?_))
  (((with_reducible refine e_opN v_pickF Imp.nil ?_))); ((with_reducible refine e_gdT ?_)); (((with_reducible refine e_opN v_fa0 Imp.nil ?_))); ((with_reducible refine e_gdT ?_)); (((with_reducible refine' e_opN (v_ldN ?hc) ?hi ?_); (case hi => (repeat (first | exact Imp.refl | exact Imp.nil | (apply Imp.pick; (focus ((repeat constructor); done))) | refine Imp.drop ?_))); (case hc => (repeat (first | exact Nth.here | apply Nth.there))))); ((with_reducible refine e_gdT ?_))
  refine e_ask v_gtr Imp.nil (fun h10 => ?_) (fun h10 => ?_)
  · (((with_reducible refine e_opN v_pickF Imp.nil ?_))); ((with_reducible refine e_gdF1 ?_)); ((with_reducible refine e_gdF1 ?_)); ((with_reducible refine e_gdF1 ?_)); (((with_reducible refine e_opN v_pickT Imp.nil ?_))); ((with_reducible refine e_gdF1 ?_)); ((with_reducible refine e_gdF1 ?_)); ((with_reducible refine e_gdF1 ?_)); (((with_reducible refine e_opN v_pickT Imp.nil ?_))); ((with_reducible refine e_condT ?_))
    obtain ⟨b1, b2⟩ := bad (fun c => by unfold rOk at c; omega)
    rw [b1, b2]
    (first | refine e_ret (()) rfl ?_ | refine e_retT (()) ?_)
    (repeat (first | exact Imp.refl | exact Imp.nil | (apply Imp.pick; (focus ((repeat constructor); done))) | refine Imp.drop ?_))
  (((with_reducible refine e_opN v_pickF Imp.nil ?_))); ((with_reducible refine e_gdT ?_)); (((with_reducible refine e_opN v_fa0 Imp.nil ?_))); ((with_reducible refine e_gdT ?_)); (((with_reducible refine' e_opN (v_ldN ?hc) ?hi ?_); (case hi => (repeat (first | exact Imp.refl | exact Imp.nil | (apply Imp.pick; (focus ((repeat constructor); done))) | refine Imp.drop ?_))); (case hc => (repeat (first | exact Nth.here | apply Nth.there))))); ((with_reducible refine e_gdT ?_))
  refine e_ask v_lss Imp.nil (fun h11 => ?_) (fun h11 => ?_)
  · (((with_reducible refine e_opN v_pickF Imp.nil ?_))); ((with_reducible refine e_gdF1 ?_)); ((with_reducible refine e_gdF1 ?_)); ((with_reducible refine e_gdF1 ?_)); (((with_reducible refine e_opN v_pickT Imp.nil ?_))); ((with_reducible refine e_condT ?_))
    obtain ⟨b1, b2⟩ := bad (fun c => by unfold rOk at c; omega)
    rw [b1, b2]
    (first | refine e_ret (()) rfl ?_ | refine e_retT (()) ?_)
    (repeat (first | exact Imp.refl | exact Imp.nil | (apply Imp.pick; (focus ((repeat constructor); done))) | refine Imp.drop ?_))
  (((with_reducible refine e_opN v_pickF Imp.nil ?_))); ((with_reducible refine e_gdT ?_)); (((with_reducible refine e_opN v_fa0 Imp.nil ?_))); ((with_reducible refine e_gdT ?_)); (((with_reducible refine' e_opN (v_ldN ?hc) ?hi ?_); (case hi => (repeat (first | exact Imp.refl | exact Imp.nil | (apply Imp.pick; (focus ((repeat constructor); done))) | refine Imp.drop ?_))); (case hc => (repeat (first | exact Nth.here | apply Nth.there))))); ((with_reducible refine e_gdT ?_))
  refine e_ask v_gtr Imp.nil (fun h12 => ?_) (fun h12 => ?_)
  · (((with_reducible refine e_opN v_pickF Imp.nil ?_))); ((with_reducible refine e_condT ?_))
    obtain ⟨b1, b2⟩ := bad (fun c => by unfold rOk at c; omega)
    rw [b1, b2]
    (first | refine e_ret (()) rfl ?_ | refine e_retT (()) ?_)
    (repeat (first | exact Imp.refl | exact Imp.nil | (apply Imp.pick; (focus ((repeat constructor); done))) | refine Imp.drop ?_))
  (((with_reducible refine e_opN v_pickF Imp.nil ?_))); ((with_reducible refine e_condF ?_)); (((with_reducible refine e_opN v_fa0 Imp.nil ?_))); (((with_reducible refine' e_opN (v_ldN ?hc) ?hi ?_); (case hi => (repeat (first | exact Imp.refl | exact Imp.nil | (apply Imp.pick; (focus ((repeat constructor); done))) | refine Imp.drop ?_))); (case hc => (repeat (first | exact Nth.here | apply Nth.there)))))
  rename Nat => b1
  have ok : rOk x := by unfold rOk; omega
  have okf := (rOk_iff x).2 ok
  rw [show jN x = dayN x.y x.m x.d * 86400 + x.h * 3600 + x.mi * 60 + x.s from if_pos okf, show jE x = 0 from if_pos okf]
  have hml := ml_b x.y x.m
  have hb := dayN_b (y := x.y) (m := x.m) (d := x.d) (by omega) (by omega) (by omega)
  rw [day1] at hb ⊢
  have hj := mon_le (y := x.y) (m := 1) (M := x.m) (by omega) (by omega) (by omega)
  have j70 : dayN 1970 1 1 = 0 := by decide
  obtain ⟨y, m, d, h, mi, s, w⟩ := x
  (try dsimp only at *)
  have hd2 : 1 ≤ d ∧ d ≤ 31 := by omega
  (((with_reducible refine e_opN (v_sub ?h1 ?h2) Imp.nil ?_); (case h1 => omega); (case h2 => omega)))
  refine e_loop2 (fun k y4 y5 => (ex fun z : Int => all [pu (y4 = .int .i64 (d - 1 + dayN z 1 1) ∧ y5 = .int .i64 z ∧ 1970 ≤ z ∧ (k : Int) + z = y)]) :: pt b1 (.cells #[.int .i64 y, .int .i64 m, .int .i64 d, .int .i64 h, .int .i64 mi, .int .i64 s, .int .i64 w] 84) :: F) (y - 1970).toNat ?_ ?_
  · refine .ex 1970 (.all ?_)
    (try simp only [List.cons_append, List.nil_append, -eq_self])
    refine .pu ⟨by rw [j70, Int.add_zero], rfl, by omega, by omega⟩ ?_
    (repeat (first | exact Imp.refl | exact Imp.nil | (apply Imp.pick; (focus ((repeat constructor); done))) | refine Imp.drop ?_))
  intro k ds y4 y5
  (try simp only [List.cons_append, List.nil_append, -eq_self])
  refine e_ex Pick.here fun z => e_all Pick.here ?_
  (try simp only [List.cons_append, List.nil_append, -eq_self])
  refine e_pu Pick.here fun hi => ?_
  obtain ⟨rfl, rfl, hz0, hkz⟩ := hi
  have hjs := jan_step z
  have hjy := jan_mono (a := z) (b := y) (by omega)
  have hj0 := jan_mono (a := 1970) (b := z) (by omega)
  rw [j70] at hj0
  have hyr : 365 ≤ yrN z ∧ yrN z ≤ 366 := by unfold yrN; split <;> omega
  (((with_reducible refine e_opN v_fa0 Imp.nil ?_))); (((with_reducible refine' e_opN (v_ldN ?hc) ?hi ?_); (case hi => (repeat (first | exact Imp.refl | exact Imp.nil | (apply Imp.pick; (focus ((repeat constructor); done))) | refine Imp.drop ?_))); (case hc => (repeat (first | exact Nth.here | apply Nth.there)))))
  refine e_ask v_lss Imp.nil (fun hg => ?_) (fun hg => ?_)
  · ((with_reducible refine e_condT ?_))
    (refine' e_call (year (y := z) (by omega)) ?hp fun _ => ?_; (case hp => (repeat (first | exact Picks.nil | (apply Picks.cons; (focus (repeat constructor)))))); (try simp only [List.cons_append, List.nil_append, Bool.not_true, Bool.not_false]))
    (((with_reducible refine e_opN (v_add ?h1 ?h2) Imp.nil ?_); (case h1 => omega); (case h2 => omega))); (((with_reducible refine e_opN (v_add ?h1 ?h2) Imp.nil ?_); (case h1 => omega); (case h2 => omega)))
    refine e_next2 (k - 1) (by omega) (.ex (z + 1) (.all ?_))
    (try simp only [List.cons_append, List.nil_append, -eq_self])
    refine .pu ⟨by congr 1; omega, rfl, by omega, by omega⟩ ?_
    (repeat (first | exact Imp.refl | exact Imp.nil | (apply Imp.pick; (focus ((repeat constructor); done))) | refine Imp.drop ?_))
  have hzy : z = y := by omega
  subst hzy
  clear hkz hjs hg
  ((with_reducible refine e_condF ?_))
  refine e_loop2 (fun k y4 y6 => (ex fun q : Int => all [pu (y4 = .int .i64 (d - 1 + dayN z q 1) ∧ y6 = .int .i64 q ∧ 1 ≤ q ∧ (k : Int) + q = m)]) :: pt b1 (.cells #[.int .i64 z, .int .i64 m, .int .i64 d, .int .i64 h, .int .i64 mi, .int .i64 s, .int .i64 w] 84) :: F) (m - 1).toNat ?_ ?_
  · refine .ex 1 (.all ?_)
    (try simp only [List.cons_append, List.nil_append, -eq_self])
    refine .pu ⟨rfl, rfl, by omega, by omega⟩ ?_
    (repeat (first | exact Imp.refl | exact Imp.nil | (apply Imp.pick; (focus ((repeat constructor); done))) | refine Imp.drop ?_))
  clear k
  intro k ds2 y4 y6
  (try simp only [List.cons_append, List.nil_append, -eq_self])
  refine e_ex Pick.here fun q => e_all Pick.here ?_
  (try simp only [List.cons_append, List.nil_append, -eq_self])
  refine e_pu Pick.here fun hi => ?_
  obtain ⟨rfl, rfl, hq0, hkq⟩ := hi
  have hqb := ml_b z q
  have hqm := mon_le (y := z) (m := q) (M := m) hq0 (by omega) (by omega)
  have hq1 := mon_le (y := z) (m := 1) (M := q) (by omega) hq0 (by omega)
  have hz1 := jan_mono (a := 1970) (b := z) hz0
  rw [j70] at hz1
  (((with_reducible refine e_opN v_fa0 Imp.nil ?_))); (((with_reducible refine' e_opN (v_ldN ?hc) ?hi ?_); (case hi => (repeat (first | exact Imp.refl | exact Imp.nil | (apply Imp.pick; (focus ((repeat constructor); done))) | refine Imp.drop ?_))); (case hc => (repeat (first | exact Nth.here | apply Nth.there)))))
  refine e_ask v_lss Imp.nil (fun hg => ?_) (fun hg => ?_)
  · have hms := ml_step (y := z) (m := q) (by omega)
    ((with_reducible refine e_condT ?_)); (((with_reducible refine e_opN v_fa0 Imp.nil ?_))); (((with_reducible refine' e_opN (v_ldN ?hc) ?hi ?_); (case hi => (repeat (first | exact Imp.refl | exact Imp.nil | (apply Imp.pick; (focus ((repeat constructor); done))) | refine Imp.drop ?_))); (case hc => (repeat (first | exact Nth.here | apply Nth.there)))))
    (refine' e_call (rdays (y := z) (m := q) (by omega)) ?hp fun _ => ?_; (case hp => (repeat (first | exact Picks.nil | (apply Picks.cons; (focus (repeat constructor)))))); (try simp only [List.cons_append, List.nil_append, Bool.not_true, Bool.not_false]))
    (((with_reducible refine e_opN (v_add ?h1 ?h2) Imp.nil ?_); (case h1 => omega); (case h2 => omega))); (((with_reducible refine e_opN (v_add ?h1 ?h2) Imp.nil ?_); (case h1 => omega); (case h2 => omega)))
    refine e_next2 (k - 1) (by omega) (.ex (q + 1) (.all ?_))
    (try simp only [List.cons_append, List.nil_append, -eq_self])
    refine .pu ⟨by congr 1; omega, rfl, by omega, by omega⟩ ?_
    (repeat (first | exact Imp.refl | exact Imp.nil | (apply Imp.pick; (focus ((repeat constructor); done))) | refine Imp.drop ?_))
  have hqm2 : q = m := by omega
  subst hqm2
  ((with_reducible refine e_condF ?_)); (((with_reducible refine e_opN (v_mul ?h1 ?h2) Imp.nil ?_); (case h1 => omega); (case h2 => omega))); (((with_reducible refine e_opN v_fa0 Imp.nil ?_))); (((with_reducible refine' e_opN (v_ldN ?hc) ?hi ?_); (case hi => (repeat (first | exact Imp.refl | exact Imp.nil | (apply Imp.pick; (focus ((repeat constructor); done))) | refine Imp.drop ?_))); (case hc => (repeat (first | exact Nth.here | apply Nth.there))))); (((with_reducible refine e_opN (v_mul ?h1 ?h2) Imp.nil ?_); (case h1 => omega); (case h2 => omega))); (((with_reducible refine e_opN (v_add ?h1 ?h2) Imp.nil ?_); (case h1 => omega); (case h2 => omega))); (((with_reducible refine e_opN v_fa0 Imp.nil ?_))); (((with_reducible refine' e_opN (v_ldN ?hc) ?hi ?_); (case hi => (repeat (first | exact Imp.refl | exact Imp.nil | (apply Imp.pick; (focus ((repeat constructor); done))) | refine Imp.drop ?_))); (case hc => (repeat (first | exact Nth.here | apply Nth.there))))); (((with_reducible refine e_opN (v_mul ?h1 ?h2) Imp.nil ?_); (case h1 => omega); (case h2 => omega))); (((with_reducible refine e_opN (v_add ?h1 ?h2) Imp.nil ?_); (case h1 => omega); (case h2 => omega))); (((with_reducible refine e_opN v_fa0 Imp.nil ?_))); (((with_reducible refine' e_opN (v_ldN ?hc) ?hi ?_); (case hi => (repeat (first | exact Imp.refl | exact Imp.nil | (apply Imp.pick; (focus ((repeat constructor); done))) | refine Imp.drop ?_))); (case hc => (repeat (first | exact Nth.here | apply Nth.there))))); (((with_reducible refine e_opN (v_add ?h1 ?h2) Imp.nil ?_); (case h1 => omega); (case h2 => omega)))
  rw [show dayN z q 1 + (d - 1) = d - 1 + dayN z q 1 by omega]
  (first | refine e_ret (()) rfl ?_ | refine e_retT (()) ?_)
  (repeat (first | exact Imp.refl | exact Imp.nil | (apply Imp.pick; (focus ((repeat constructor); done))) | refine Imp.drop ?_))
end Go.Proofs.YtcmpkkkigmheoaaGreatDoor.D
