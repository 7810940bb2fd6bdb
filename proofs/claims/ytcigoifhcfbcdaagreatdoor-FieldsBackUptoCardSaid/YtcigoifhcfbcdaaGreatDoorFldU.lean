/- Directives; structs read out of lists. The library's own error can be read ('Gl') where that is said; a text of at most 2097152 bytes. -/
import Derived.Test.YtcigoifhcfbcdaaGreatDoorFldT
import Derived.Test.YtcigoifhcfbcdaaGreatDoorFld9
set_option linter.unusedVariables false
set_option linter.unusedSimpArgs false
namespace Go.Proofs.YtcigoifhcfbcdaaGreatDoor.FD
open Go Go.Proofs Go.RowKit Go.Proofs.YtcigoifhcfbcdaaGreatDoor.Sh Go.Proofs.YtcigoifhcfbcdaaGreatDoor.Sl Go.Proofs.YtcigoifhcfbcdaaGreatDoor.T
theorem directive {W : World} {l : List UInt8} (hl : l.length ≤ 4194304) : Cn Tryz.prog 19 [txt l] W [] (fun _ : Unit => .tuple #[vDir (dirF l).1, .bool (dirF l).2]) (fun _ => []) := by
  have hA := cutA_len (c := 61) l
  have hB := cutB_len (c := 61) l
  (refine S.fields_directive_cn fun F => ?_; unfold S.fields_directive; simp only [List.cons_append, List.nil_append])
  refine e_newA fun b2 => ?_
  (refine' e_call (cut_ (c := 61) (l := l) (by omega)) ?hp fun _ => ?_; (case hp => (repeat (first | exact Picks.nil | (apply Picks.cons; (focus (repeat constructor)))))); (try simp only [List.cons_append, List.nil_append, Bool.not_true, Bool.not_false]))
  refine e_opN (v_extN (vs := [_, _, _]) .here) Imp.nil ?_
  refine e_opN (v_extN (vs := [_, _, _]) (.there .here)) Imp.nil ?_
  refine e_opN (v_extN (vs := [_, _, _]) (.there (.there .here))) Imp.nil ?_
  (((with_reducible refine e_opN v_fa0 Imp.nil ?_))); (((with_reducible refine' e_stN ?hp ?ho ?_); (case hp => (repeat constructor)); (case ho => (repeat (first | exact Put.here | apply Put.there))))); (((with_reducible refine e_opN v_fa0 Imp.nil ?_))); (((with_reducible refine' e_stN ?hp ?ho ?_); (case hp => (repeat constructor)); (case ho => (repeat (first | exact Put.here | apply Put.there))))); (((with_reducible refine e_opN v_fa0 Imp.nil ?_))); (((with_reducible refine' e_stN ?hp ?ho ?_); (case hp => (repeat constructor)); (case ho => (repeat (first | exact Put.here | apply Put.there))))); (((with_reducible refine e_opN v_fa0 Imp.nil ?_))); (((with_reducible refine' e_opN (v_ldN ?hc) ?hi ?_); (case hi => (repeat (first | exact Imp.refl | exact Imp.nil | (apply Imp.pick; (focus ((repeat constructor); done))) | refine Imp.drop ?_))); (case hc => (repeat (first | exact Nth.here | apply Nth.there)))))
  (refine' e_call (token (l := cutA 61 l) (by omega)) ?hp fun _ => ?_; (case hp => (repeat (first | exact Picks.nil | (apply Picks.cons; (focus (repeat constructor)))))); (try simp only [List.cons_append, List.nil_append, Bool.not_true, Bool.not_false]))
  (((with_reducible refine e_opN v_fa0 Imp.nil ?_))); (((with_reducible refine' e_opN (v_ldN ?hc) ?hi ?_); (case hi => (repeat (first | exact Imp.refl | exact Imp.nil | (apply Imp.pick; (focus ((repeat constructor); done))) | refine Imp.drop ?_))); (case hc => (repeat (first | exact Nth.here | apply Nth.there)))))
  (refine' e_call (lower (l := cutA 61 l) (by omega)) ?hp fun _ => ?_; (case hp => (repeat (first | exact Picks.nil | (apply Picks.cons; (focus (repeat constructor)))))); (try simp only [List.cons_append, List.nil_append, Bool.not_true, Bool.not_false]))
  (((with_reducible refine e_opN v_fa0 Imp.nil ?_))); (((with_reducible refine' e_stN ?hp ?ho ?_); (case hp => (repeat constructor)); (case ho => (repeat (first | exact Put.here | apply Put.there))))); (((with_reducible refine e_opN v_fa0 Imp.nil ?_))); (((with_reducible refine' e_opN (v_ldN ?hc) ?hi ?_); (case hi => (repeat (first | exact Imp.refl | exact Imp.nil | (apply Imp.pick; (focus ((repeat constructor); done))) | refine Imp.drop ?_))); (case hc => (repeat (first | exact Nth.here | apply Nth.there)))))
  cases hs : cutS 61 l with
  | false =>
    have e : dirF l = (⟨lowF (cutA 61 l), cutB 61 l, false⟩, tokF (cutA 61 l)) := by unfold dirF; rw [hs]; rfl
    rw [e]
    ((with_reducible refine e_gdF2 ?_)); ((with_reducible refine e_gdF2 ?_)); ((with_reducible refine e_gdF2 ?_)); ((with_reducible refine e_gdF2 ?_)); (((with_reducible refine e_opN v_pickF Imp.nil ?_))); ((with_reducible refine e_condF ?_)); (((with_reducible refine' e_opN (v_ldAgg ?hn) ?hi ?_); (case hi => (repeat (first | exact Imp.refl | exact Imp.nil | (apply Imp.pick; (focus ((repeat constructor); done))) | refine Imp.drop ?_))); (case hn => rfl))); (((with_reducible refine' e_stAgg ?hp ?hn ?hv ?h1 ?_); (case hp => (repeat constructor)); (case hn => rfl); (case hv => rfl); (case h1 => (intro u hu; simp at hu; rcases hu with rfl | rfl | rfl <;> rfl)))); (((with_reducible refine' e_stS (v_resA ?hn) ?hi ?_); (case hi => (repeat (first | exact Imp.refl | exact Imp.nil | (apply Imp.pick; (focus ((repeat constructor); done))) | refine Imp.drop ?_))); (case hn => rfl)))
    (first | refine e_ret (()) rfl ?_ | refine e_retT (()) ?_)
    (repeat (first | exact Imp.refl | exact Imp.nil | (apply Imp.pick; (focus ((repeat constructor); done))) | refine Imp.drop ?_))
  | true =>
    ((with_reducible refine e_gdT ?_)); (((with_reducible refine e_opN v_fa0 Imp.nil ?_))); ((with_reducible refine e_gdT ?_)); (((with_reducible refine' e_opN (v_ldN ?hc) ?hi ?_); (case hi => (repeat (first | exact Imp.refl | exact Imp.nil | (apply Imp.pick; (focus ((repeat constructor); done))) | refine Imp.drop ?_))); (case hc => (repeat (first | exact Nth.here | apply Nth.there))))); ((with_reducible refine e_gdT ?_))
    (refine' e_call (token (l := cutB 61 l) (by omega)) ?hp fun _ => ?_; (case hp => (repeat (first | exact Picks.nil | (apply Picks.cons; (focus (repeat constructor)))))); (try simp only [List.cons_append, List.nil_append, Bool.not_true, Bool.not_false]))
    refine e_gdT ?_
    refine e_opN v_not Imp.nil ?_
    refine e_opN v_pickT Imp.nil ?_
    cases ht : tokF (cutB 61 l) with
    | true =>
      have e : dirF l = (⟨lowF (cutA 61 l), cutB 61 l, true⟩, tokF (cutA 61 l)) := by unfold dirF; rw [hs, ht]; rfl
      rw [e, show (!true) = false from rfl]
      ((with_reducible refine e_condF ?_)); (((with_reducible refine' e_opN (v_ldAgg ?hn) ?hi ?_); (case hi => (repeat (first | exact Imp.refl | exact Imp.nil | (apply Imp.pick; (focus ((repeat constructor); done))) | refine Imp.drop ?_))); (case hn => rfl))); (((with_reducible refine' e_stAgg ?hp ?hn ?hv ?h1 ?_); (case hp => (repeat constructor)); (case hn => rfl); (case hv => rfl); (case h1 => (intro u hu; simp at hu; rcases hu with rfl | rfl | rfl <;> rfl)))); (((with_reducible refine' e_stS (v_resA ?hn) ?hi ?_); (case hi => (repeat (first | exact Imp.refl | exact Imp.nil | (apply Imp.pick; (focus ((repeat constructor); done))) | refine Imp.drop ?_))); (case hn => rfl)))
      (first | refine e_ret (()) rfl ?_ | refine e_retT (()) ?_)
      (repeat (first | exact Imp.refl | exact Imp.nil | (apply Imp.pick; (focus ((repeat constructor); done))) | refine Imp.drop ?_))
    | false =>
      have e : dirF l = (⟨lowF (cutA 61 l), (unqF (cutB 61 l)).1, true⟩, tokF (cutA 61 l) && (unqF (cutB 61 l)).2) := by unfold dirF; rw [hs, ht]; rfl
      rw [e, show (!false) = true from rfl]
      ((with_reducible refine e_condT ?_)); (((with_reducible refine e_opN v_fa0 Imp.nil ?_))); (((with_reducible refine' e_opN (v_ldN ?hc) ?hi ?_); (case hi => (repeat (first | exact Imp.refl | exact Imp.nil | (apply Imp.pick; (focus ((repeat constructor); done))) | refine Imp.drop ?_))); (case hc => (repeat (first | exact Nth.here | apply Nth.there)))))
      (refine' e_call (unquote (l := cutB 61 l) (by omega)) ?hp fun _ => ?_; (case hp => (repeat (first | exact Picks.nil | (apply Picks.cons; (focus (repeat constructor)))))); (try simp only [List.cons_append, List.nil_append, Bool.not_true, Bool.not_false]))
      (((with_reducible refine' e_opN (v_extN ?hc) Imp.nil ?_); (case hc => (repeat (first | exact Nth.here | apply Nth.there))))); (((with_reducible refine' e_opN (v_extN ?hc) Imp.nil ?_); (case hc => (repeat (first | exact Nth.here | apply Nth.there))))); (((with_reducible refine e_opN v_fa0 Imp.nil ?_))); (((with_reducible refine' e_stN ?hp ?ho ?_); (case hp => (repeat constructor)); (case ho => (repeat (first | exact Put.here | apply Put.there)))))
      refine e_and0 ?_
      (((with_reducible refine' e_opN (v_ldAgg ?hn) ?hi ?_); (case hi => (repeat (first | exact Imp.refl | exact Imp.nil | (apply Imp.pick; (focus ((repeat constructor); done))) | refine Imp.drop ?_))); (case hn => rfl))); (((with_reducible refine' e_stAgg ?hp ?hn ?hv ?h1 ?_); (case hp => (repeat constructor)); (case hn => rfl); (case hv => rfl); (case h1 => (intro u hu; simp at hu; rcases hu with rfl | rfl | rfl <;> rfl)))); (((with_reducible refine' e_stS (v_resA ?hn) ?hi ?_); (case hi => (repeat (first | exact Imp.refl | exact Imp.nil | (apply Imp.pick; (focus ((repeat constructor); done))) | refine Imp.drop ?_))); (case hn => rfl)))
      (first | refine e_ret (()) rfl ?_ | refine e_retT (()) ?_)
      (repeat (first | exact Imp.refl | exact Imp.nil | (apply Imp.pick; (focus ((repeat constructor); done))) | refine Imp.drop ?_))
theorem directives {W : World} {l : List UInt8} (hl : l.length ≤ 2097152) : Cn Tryz.prog 5 [txt l] W [] (fun r : Option Addr × Nat => .tuple #[.slice r.1 (lsF (dirsF l)).1.length r.2, .int .i64 (lsF (dirsF l)).2])
    (fun r => [Sl 3 44 r.1 r.2 (lsF (dirsF l)).1.length ((lsF (dirsF l)).1.flatMap pDir)]) := by
  (refine S.fields_Directives_cn fun F => ?_; unfold S.fields_Directives; simp only [List.cons_append, List.nil_append])
  refine e_opN v_rv Imp.nil ?_
  refine e_call (list_Dir hl fun w hw => directive (by omega)) .nil fun r => ?_
  (try simp only [List.cons_append, List.nil_append, -eq_self])
  refine e_opN (v_extN (vs := [_, _]) .here) Imp.nil ?_
  refine e_opN (v_extN (vs := [_, _]) (.there .here)) Imp.nil ?_
  (first | refine e_ret (r) rfl ?_ | refine e_retT (r) ?_)
  exact .refl
theorem ld_choice {W : World} {xs : List (List UInt8 × Int)} {i n g c : Nat} (h : i < xs.length) (hn : n = xs.length) : RunV Tryz.prog W [Sl 2 69 (some ⟨g, 0, none⟩) c n (xs.flatMap pChoice)] (sLoad 69 (.pointer (some ⟨g, 0 + i * 2, none⟩))) (vChoice xs[i]) := by
  subst hn
  exact v_ldRdG (vs := pChoice xs[i]) (rd_slG (flat_len (f := pChoice) (s := 2) (fun _ => rfl) xs) (fun _ => ⟨g, rfl⟩)) rfl (fun j hj => flat_get (f := pChoice) (s := 2) (fun _ => rfl) xs i j h hj)
theorem ld_dir {W : World} {xs : List Dir} {i n g c : Nat} (h : i < xs.length) (hn : n = xs.length) : RunV Tryz.prog W [Sl 3 44 (some ⟨g, 0, none⟩) c n (xs.flatMap pDir)] (sLoad 44 (.pointer (some ⟨g, 0 + i * 3, none⟩))) (vDir xs[i]) := by
  subst hn
  exact v_ldRdG (vs := pDir xs[i]) (rd_slG (flat_len (f := pDir) (s := 3) (fun _ => rfl) xs) (fun _ => ⟨g, rfl⟩)) rfl (fun j hj => flat_get (f := pDir) (s := 3) (fun _ => rfl) xs i j h hj)
end Go.Proofs.YtcigoifhcfbcdaaGreatDoor.FD
