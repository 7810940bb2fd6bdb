/- The law HuffLengths: true, at any frequencies of at most 2^20 numbers. -/
import Derived.Test.YtehfblkpbadikaaHuffRl
import Derived.Test.YtehfblkpbadikaaHuffKn
set_option linter.unusedVariables false
set_option linter.unusedSimpArgs false
namespace Go.Proofs.Ytehfblkpbadikaa.HF
open Go Go.Proofs Go.RowKit Go.Proofs.Ytehfblkpbadikaa.Sh Go.Proofs.Ytehfblkpbadikaa.Sl Go.Proofs.Ytehfblkpbadikaa.T Go.Proofs.Ytehfblkpbadikaa.HM
theorem lenV_len {freq : List Int} {lim : Int} : (lenV freq lim).length ≤ freq.length := by
  unfold lenV
  split
  · simp
  · split <;> simp
theorem huffLengths {W : World} {a : Option Addr} {c : Nat} {freq : List Int} {lim : Int} {A : HP} (hA : ∀ A, RdB W A a freq.length (freq.map I)) (ha : a = none → freq.length = 0) (hl : freq.length ≤ 1048576) :
    Cn Try.prog 3 [.slice a freq.length c, .int .i64 lim] W [A] (fun _ : Unit => .bool true) (fun _ => [A]) := by
  have hvl := lenV_len (freq := freq) (lim := lim)
  (refine S.law03_HuffLengths_cn fun F => ?_; unfold S.law03_HuffLengths; simp only [List.cons_append, List.nil_append])
  refine e_bsl0 (s := 1) (e := 3) fun z => ?_
  refine e_app (m := freq.length) (news := freq.map I) .here (src_rd (e' := 3) (by kernel_rfl) (.there .here) (hA A) ha (by intro z hz; obtain ⟨s, _, rfl⟩ := List.mem_map.1 hz; rfl)) (by omega) (by omega) fun b1 d1 => ?_
  rw [Nat.zero_add, List.nil_append]
  refine e_slfacts .here fun f1 f2 f3 f4 => ?_
  have rdB : RdB W (Sl 1 3 b1 d1 freq.length (freq.map I)) b1 freq.length (freq.map I) := rd_sl (by simp) f4
  refine e_call (lengths (lim := lim) rdB (by omega)) (.cons .here .nil) fun q => ?_
  obtain ⟨la, lc⟩ := q
  (try simp only [List.cons_append, List.nil_append, -eq_self])
  refine e_opN (v_extN (vs := [_, _]) .here) Imp.nil ?_
  refine e_opN (v_extN (vs := [_, _]) (.there .here)) Imp.nil ?_
  refine e_call (rlengths (A := A) (lim := lim) (hA A) (by omega)) (.cons (.there (.there .here)) .nil) fun q => ?_
  obtain ⟨ka, kc⟩ := q
  (try simp only [List.cons_append, List.nil_append, -eq_self])
  refine e_opN (v_extN (vs := [_, _]) .here) Imp.nil ?_
  refine e_opN (v_extN (vs := [_, _]) (.there .here)) Imp.nil ?_
  refine e_slfacts .here fun g1 g2 g3 g4 => ?_
  refine e_slfacts (.there (.there .here)) fun h1 h2 h3 h4 => ?_
  refine e_call (sameInts (rd_sl (by simp) h4) (rd_sl (by simp) g4) (by omega)) (.cons (.there (.there .here)) (.cons .here .nil)) fun _ => ?_
  (try simp only [List.cons_append, List.nil_append, -eq_self])
  rw [decide_eq_true rfl]
  refine e_gdT ?_
  refine e_gdT ?_
  refine e_call num .nil fun _ => ?_
  (try simp only [List.cons_append, List.nil_append, -eq_self])
  refine e_gdT ?_
  refine e_gdT ?_
  refine e_opN v_eql Imp.nil ?_
  rw [decide_eq_true rfl]
  refine e_opN v_pickT Imp.nil ?_
  refine e_gdT ?_
  refine e_gdT ?_
  refine e_gdT ?_
  refine e_call (sameInts (A := Sl 1 3 b1 d1 freq.length (freq.map I)) (B := A) rdB (hA A) (by omega)) (.cons (by (repeat constructor)) (.cons (by (repeat constructor)) .nil)) fun _ => ?_
  (try simp only [List.cons_append, List.nil_append, -eq_self])
  rw [decide_eq_true rfl]
  refine e_opN v_pickT Imp.nil ?_
  refine e_gdT ?_
  refine e_call knows .nil fun _ => ?_
  (try simp only [List.cons_append, List.nil_append, -eq_self])
  (((with_reducible refine e_opN v_pickT Imp.nil ?_)))
  (first | refine e_ret (()) rfl ?_ | refine e_retT (()) ?_)
  (repeat (first | exact Imp.refl | exact Imp.nil | (apply Imp.pick; (focus ((repeat constructor); done))) | refine Imp.drop ?_))
theorem cn_pre' {P : Program} {f : FuncId} {args : List Value} {W : World} {α : Type} {r : α → Value} (h : Cn P f args W [pu True] r (fun _ => [pu True])) : Cn P f args W [] r (fun _ => []) :=
  ⟨h.call, fun F w hw => (h.run F w ((Imp.pu (L := F) trivial .refl).sat hw)).mono fun e w' ⟨x, he, hs⟩ => ⟨x, he, hs.drop⟩⟩
end Go.Proofs.Ytehfblkpbadikaa.HF
