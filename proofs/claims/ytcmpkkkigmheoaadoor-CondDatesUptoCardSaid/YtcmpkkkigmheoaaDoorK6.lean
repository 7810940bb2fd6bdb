/- Just GET and HEAD come to 304; nothing else than 200, 304, 412 comes: the law, walked. Fields of together at most 2097152 bytes. (14 texts made one; each says below what it is.) -/
import Derived.Test.YtcmpkkkigmheoaaDoorK5
import Derived.Test.YtcmpkkkigmheoaaDoorK4
set_option linter.unusedVariables false
set_option linter.unusedSimpArgs false
set_option linter.unusedSectionVars false
/-! Just GET and HEAD come to 304; nothing else than 200, 304, 412 comes: the law, walked. Fields of together at most 2097152 bytes. -/
namespace Go.Proofs.YtcmpkkkigmheoaaDoor.FD
open Go Go.Proofs Go.RowKit Go.Proofs.YtcmpkkkigmheoaaDoor.Sh Go.Proofs.YtcmpkkkigmheoaaDoor.Sl Go.Proofs.YtcmpkkkigmheoaaDoor.T
theorem st1_cases (l : List Fd) (e : En) (now : Int) : st1F l e now = 412 ∨ st1F l e now = 0 := by
  unfold st1F
  split
  · exact .inl rfl
  · exact .inr rfl
theorem st2_cases (lk : Bool) (l : List Fd) (e : En) (now : Int) : st2F lk l e now = 412 ∨ (st2F lk l e now = 304 ∧ lk = true ∧ e.has = true) ∨ st2F lk l e now = 0 := by
  have hh : (t2F l e).1 = true → e.has = true := by
    unfold t2F tgsF
    split
    · intro h; cases h
    · split
      · intro h; cases h
      · rename_i h
        intro _
        cases hx : e.has with
        | true => rfl
        | false => exact absurd (.inr hx) h
  unfold st2F
  split
  · exact .inl rfl
  · rename_i h1
    split
    · rename_i h2
      refine .inr (.inl ⟨rfl, ?_, hh h2⟩)
      cases lk with
      | true => rfl
      | false => exact absurd (by rw [h2]; rfl) h1
    · split
      · rename_i h3
        simp only [Bool.and_eq_true] at h3
        exact .inr (.inl ⟨rfl, h3.1.1.1.1.2, h3.1.2⟩)
      · exact .inr (.inr rfl)
theorem ev_cases (m : List UInt8) (l : List Fd) (e : En) (now : Int) : evF m l e now = 200 ∨ (evF m l e now = 304 ∧ lkF m = true ∧ e.has = true) ∨ evF m l e now = 412 := by
  unfold evF
  rcases st1_cases l e now with h | h
  · rw [h]; exact .inr (.inr rfl)
  · rw [h, if_neg (by decide)]
    rcases st2_cases (lkF m) l e now with h2 | ⟨h2, h3, h4⟩ | h2
    · rw [h2]; exact .inr (.inr rfl)
    · rw [h2]; exact .inr (.inl ⟨rfl, h3, h4⟩)
    · rw [h2]; exact .inl rfl
theorem condMethods {W : World} {m : List UInt8} {l : List Fd} {a : Option Addr} {c : Nat} {e : En} {now : Int} {A : HP} (hA : RdF W A a l) (hl : szF l ≤ 2097152) : Cn Tryd.prog 6 [txt m, .slice a l.length c, vEn e, .int .i64 now] W
    [A] (fun _ : Unit => .bool true) (fun _ => [A]) := by
  (refine S.law16_CondMethods_cn fun F => ?_; unfold S.law16_CondMethods; simp only [List.cons_append, List.nil_append])
  unfold vEn
  refine e_boxA fun g6 => ?_
  refine e_opN (v_ldAgg (cs := cEn e) rfl) (.pick .here .nil) ?_
  refine e_call (own (e := e)) .nil fun _ => ?_
  (try simp only [List.cons_append, List.nil_append, -eq_self])
  refine e_call (evaluate (m := m) (l := l) (e := e) (now := now) hA hl) (.cons (by (repeat constructor)) .nil) fun _ => ?_
  (try simp only [List.cons_append, List.nil_append, -eq_self])
  generalize hS : opN Tryd.prog (sFA 26 (.pointer (some ⟨g6, 0, none⟩)) 2) noP _ = S
  have hT : Ent W (A :: pt g6 (.cells #[.bool e.tag.1, txt e.tag.2, .int .i64 e.mt, .bool e.has] 26 (0, 0)) :: F) S := by
    rw [← hS]
    refine e_opN v_fa0 Imp.nil ?_
    refine e_stN (.there .here) (.there (.there (.there .here))) ?_
    obtain ⟨e', he'⟩ : ∃ e' : En, e' = ⟨e.tag, e.mt, false⟩ := ⟨_, rfl⟩
    have hc : (#[.bool e.tag.1, txt e.tag.2, .int .i64 e.mt, .bool false] : Array Value) = cEn e' := by rw [he']; rfl
    have hh : e'.has = false := by rw [he']
    rw [hc]
    refine e_opN (v_ldAgg (cs := cEn e') rfl) (.pick .here .nil) ?_
    refine e_call (own (e := e')) .nil fun _ => ?_
    (try simp only [List.cons_append, List.nil_append, -eq_self])
    refine e_call (evaluate (m := m) (l := l) (e := e') (now := now) hA hl) (.cons (by (repeat constructor)) .nil) fun _ => ?_
    (try simp only [List.cons_append, List.nil_append, -eq_self])
    refine e_opN v_neq Imp.nil ?_
    rw [decide_eq_true (show evF m l e' now ≠ 304 by
      rcases ev_cases m l e' now with h | ⟨_, _, h⟩ | h
      · rw [h]; decide
      · rw [hh] at h; cases h
      · rw [h]; decide)]
    refine e_gdT ?_
    refine e_gdT ?_
    refine e_gdT ?_
    refine e_opN (v_ldAgg (cs := cEn e') rfl) (.pick (by (repeat constructor)) .nil) ?_
    refine e_gdT ?_
    refine e_call (own (e := e')) .nil fun _ => ?_
    (try simp only [List.cons_append, List.nil_append, -eq_self])
    refine e_gdT ?_
    refine e_gdT ?_
    refine e_call (inRange (m := m) (l := l) (e := e') (now := now) hA hl) (.cons (by (repeat constructor)) .nil) fun _ => ?_
    (try simp only [List.cons_append, List.nil_append, -eq_self])
    rw [show inF m l e' now = false by unfold inF; rw [if_pos (.inr hh)]]
    ((with_reducible refine e_gdT ?_)); (((with_reducible refine e_opN v_notF Imp.nil ?_))); (((with_reducible refine e_opN v_pickT Imp.nil ?_))); ((with_reducible refine e_gdT ?_))
    refine e_call knows16 .nil fun _ => ?_
    (try simp only [List.cons_append, List.nil_append, -eq_self])
    (((with_reducible refine e_opN v_pickT Imp.nil ?_)))
    (first | refine e_ret (()) rfl ?_ | refine e_retT (()) ?_)
    (repeat (first | exact Imp.refl | exact Imp.nil | (apply Imp.pick; (focus ((repeat constructor); done))) | refine Imp.drop ?_))
  have hcs := ev_cases m l e now
  generalize evF m l e now = A at hcs ⊢
  rcases hcs with rfl | ⟨rfl, hlk, _⟩ | rfl
  · refine e_opN v_neq Imp.nil ?_
    rw [decide_eq_false (by decide)]
    ((with_reducible refine e_gdF2 ?_)); ((with_reducible refine e_gdF2 ?_)); (((with_reducible refine e_opN v_pickF Imp.nil ?_))); ((with_reducible refine e_gdF2 ?_)); ((with_reducible refine e_gdF2 ?_)); (((with_reducible refine e_opN v_pickF Imp.nil ?_))); ((with_reducible refine e_gdT ?_)); ((with_reducible refine e_gdT ?_))
    refine e_opN v_eql Imp.nil ?_
    rw [decide_eq_false (by decide)]
    ((with_reducible refine e_gdT ?_)); ((with_reducible refine e_gdF2 ?_)); ((with_reducible refine e_gdF2 ?_)); ((with_reducible refine e_gdT ?_)); (((with_reducible refine e_opN v_pickF Imp.nil ?_))); ((with_reducible refine e_gdT ?_)); ((with_reducible refine e_gdF2 ?_)); ((with_reducible refine e_gdF2 ?_)); ((with_reducible refine e_gdT ?_)); (((with_reducible refine e_opN v_pickF Imp.nil ?_))); (((with_reducible refine e_opN v_pickF Imp.nil ?_))); ((with_reducible refine e_condF ?_))
    exact hT
  · refine e_opN v_neq Imp.nil ?_
    rw [decide_eq_true (by decide)]
    ((with_reducible refine e_gdT ?_)); ((with_reducible refine e_gdT ?_))
    refine e_opN v_neq Imp.nil ?_
    rw [decide_eq_false (by decide)]
    (((with_reducible refine e_opN v_pickT Imp.nil ?_))); ((with_reducible refine e_gdF2 ?_)); ((with_reducible refine e_gdF2 ?_)); (((with_reducible refine e_opN v_pickF Imp.nil ?_))); ((with_reducible refine e_gdT ?_)); ((with_reducible refine e_gdT ?_))
    refine e_opN v_eql Imp.nil ?_
    rw [decide_eq_true (by decide)]
    ((with_reducible refine e_gdT ?_)); ((with_reducible refine e_gdT ?_)); ((with_reducible refine e_gdT ?_))
    refine e_opN (v_strne (m := mGET)) Imp.nil ?_
    by_cases h1 : m = mGET
    · rw [decide_eq_false (fun c => c h1)]
      ((with_reducible refine e_gdT ?_)); (((with_reducible refine e_opN v_pickT Imp.nil ?_))); ((with_reducible refine e_gdT ?_)); ((with_reducible refine e_gdF2 ?_)); ((with_reducible refine e_gdF2 ?_)); ((with_reducible refine e_gdT ?_)); (((with_reducible refine e_opN v_pickF Imp.nil ?_))); (((with_reducible refine e_opN v_pickF Imp.nil ?_))); ((with_reducible refine e_condF ?_))
      exact hT
    · rw [decide_eq_true h1]
      ((with_reducible refine e_gdT ?_)); (((with_reducible refine e_opN v_pickT Imp.nil ?_))); ((with_reducible refine e_gdT ?_)); ((with_reducible refine e_gdT ?_)); ((with_reducible refine e_gdT ?_))
      refine e_opN (v_strne (m := mHEAD)) Imp.nil ?_
      have h2 : m = mHEAD := by
        unfold lkF at hlk
        rw [decide_eq_false h1, Bool.false_or] at hlk
        exact of_decide_eq_true hlk
      rw [decide_eq_false (fun c => c h2)]
      ((with_reducible refine e_gdT ?_)); (((with_reducible refine e_opN v_pickT Imp.nil ?_))); (((with_reducible refine e_opN v_pickF Imp.nil ?_))); ((with_reducible refine e_condF ?_))
      exact hT
  · refine e_opN v_neq Imp.nil ?_
    rw [decide_eq_true (by decide)]
    ((with_reducible refine e_gdT ?_)); ((with_reducible refine e_gdT ?_))
    refine e_opN v_neq Imp.nil ?_
    rw [decide_eq_true (by decide)]
    (((with_reducible refine e_opN v_pickT Imp.nil ?_))); ((with_reducible refine e_gdT ?_)); ((with_reducible refine e_gdT ?_))
    refine e_opN v_neq Imp.nil ?_
    rw [decide_eq_false (by decide)]
    (((with_reducible refine e_opN v_pickT Imp.nil ?_))); ((with_reducible refine e_gdT ?_)); ((with_reducible refine e_gdT ?_))
    refine e_opN v_eql Imp.nil ?_
    rw [decide_eq_false (by decide)]
    ((with_reducible refine e_gdT ?_)); ((with_reducible refine e_gdF2 ?_)); ((with_reducible refine e_gdF2 ?_)); ((with_reducible refine e_gdT ?_)); (((with_reducible refine e_opN v_pickF Imp.nil ?_))); ((with_reducible refine e_gdT ?_)); ((with_reducible refine e_gdF2 ?_)); ((with_reducible refine e_gdF2 ?_)); ((with_reducible refine e_gdT ?_)); (((with_reducible refine e_opN v_pickF Imp.nil ?_))); (((with_reducible refine e_opN v_pickF Imp.nil ?_))); ((with_reducible refine e_condF ?_))
    exact hT
theorem cn_pre {P : Program} {f : FuncId} {args : List Value} {W : World} {α : Type} {r : α → Value} (h : Cn P f args W [pu True] r (fun _ => [pu True])) : Cn P f args W [] r (fun _ => []) :=
  ⟨h.call, fun F w hw => (h.run F w ((Imp.pu (L := F) trivial .refl).sat hw)).mono fun e w' ⟨x, he, hs⟩ => ⟨x, he, hs.drop⟩⟩
end Go.Proofs.YtcmpkkkigmheoaaDoor.FD
/-! Fields without some names; what they and one more at the end come to. Fields of together at most 2097152 bytes. -/
namespace Go.Proofs.YtcmpkkkigmheoaaDoor.FD
open Go Go.Proofs Go.RowKit Go.Proofs.YtcmpkkkigmheoaaDoor.Sh Go.Proofs.YtcmpkkkigmheoaaDoor.Sl Go.Proofs.YtcmpkkkigmheoaaDoor.T
theorem eql_iff {a b : List UInt8} : eqlF a b = true ↔ lowF a = lowF b := by
  unfold eqlF
  rw [Bool.and_eq_true, decide_eq_true_eq, decide_eq_true_eq]
  refine ⟨fun h => h.2, fun h => ⟨?_, h⟩⟩
  have := congrArg List.length h
  simpa [lowF] using this
theorem eql_low {a n m : List UInt8} (h : lowF n = lowF m) : eqlF a n = eqlF a m := by
  rw [Bool.eq_iff_iff, eql_iff, eql_iff, h]
theorem vals_low {l : List Fd} {n m : List UInt8} (h : lowF n = lowF m) : valsF l n = valsF l m := by
  unfold valsF
  congr 1
  apply List.filter_congr
  intro f _
  exact eql_low h
theorem first_low {l : List Fd} {n m : List UInt8} (h : lowF n = lowF m) : firstF l n = firstF l m := by unfold firstF; rw [vals_low h]
theorem vals_app (a b : List Fd) (n : List UInt8) : valsF (a ++ b) n = valsF a n ++ valsF b n := by simp [valsF]
/-- what is left has none of these -/
theorem vals_with_in {l : List Fd} {N : List (List UInt8)} {n m : List UInt8} (hm : m ∈ N) (h : lowF n = lowF m) : valsF (withF l N) n = [] := by
  unfold valsF withF
  rw [List.map_eq_nil_iff, List.filter_eq_nil_iff]
  intro f hf c
  have h1 := (List.mem_filter.1 hf).2
  unfold noneF at h1
  rw [Bool.not_eq_true', List.any_eq_false] at h1
  exact h1 m hm (by rw [← eql_low h]; exact c)
theorem vals_with_out {l : List Fd} {N : List (List UInt8)} {n : List UInt8} (h : ∀ m ∈ N, lowF n ≠ lowF m) : valsF (withF l N) n = valsF l n := by
  unfold valsF withF
  rw [List.filter_filter]
  congr 1
  apply List.filter_congr
  intro f _
  cases hc : eqlF f.1 n with
  | false => rfl
  | true =>
    rw [Bool.true_and]
    unfold noneF
    rw [Bool.not_eq_true', List.any_eq_false]
    intro m hm c
    exact h m hm ((eql_iff.1 hc).symm.trans (eql_iff.1 c))
theorem sz_with (l : List Fd) (N : List (List UInt8)) : szF (withF l N) ≤ szF l := sz_filter _ _
/-- the conditions read four names -/
theorem ev_congr {m : List UInt8} {l l' : List Fd} {e : En} {now : Int} (h1 : t1F l e = t1F l' e) (h2 : (t1F l e).2 = true ∨ valsF l nIUS = valsF l' nIUS) (h3 : t2F l e = t2F l' e) (h4 : (t2F l e).2 = true ∨ valsF l nIMS = valsF l' nIMS) :
    evF m l e now = evF m l' e now := by
  have hd : ∀ {n : List UInt8}, valsF l n = valsF l' n → daF l n now = daF l' n now := fun h => by unfold daF firstF; rw [h]
  have a : st1F l e now = st1F l' e now := by
    unfold st1F
    rw [h1] at h2 ⊢
    rcases h2 with h | h
    · rw [h]; simp
    · rw [hd h]
  have b : st2F (lkF m) l e now = st2F (lkF m) l' e now := by
    unfold st2F
    rw [h3] at h4 ⊢
    rcases h4 with h | h
    · rw [h]; simp
    · rw [hd h]
  unfold evF
  rw [a, b]
theorem tgs_congr {alike : Tg → Bool} {l l' : List Fd} {n : List UInt8} {has : Bool} (h : valsF l n = valsF l' n) : tgsF alike l n has = tgsF alike l' n has := by unfold tgsF; rw [h]
theorem tgs_some {alike : Tg → Bool} {l : List Fd} {n : List UInt8} {has : Bool} (h : valsF l n ≠ []) : (tgsF alike l n has).2 = true := by
  unfold tgsF
  rw [if_neg h]
  split <;> rfl
theorem tgs_none {alike : Tg → Bool} {l : List Fd} {n : List UInt8} {has : Bool} (h : valsF l n = []) : tgsF alike l n has = (false, false) := by
  unfold tgsF
  rw [if_pos h]
theorem ev_none {m : List UInt8} {l : List Fd} {e : En} {now : Int} (h1 : valsF l nIM = []) (h2 : valsF l nIUS = []) (h3 : valsF l nINM = []) (h4 : valsF l nIMS = []) : evF m l e now = 200 := by
  have f2 : firstF l nIUS = ([], false) := by unfold firstF; rw [h2]
  have f4 : firstF l nIMS = ([], false) := by unfold firstF; rw [h4]
  unfold evF st1F st2F t1F t2F daF
  rw [tgs_none h1, tgs_none h3, f2, f4]
  simp
theorem rwithout {W : World} {l : List Fd} {N : List (List UInt8)} {a b : Option Addr} {c d : Nat} {A B : HP} (hA : RdF W A a l) (hB : RdB W B b N.length (N.map txt)) (hl : hOK l) (hN : N.length ≤ 4194304) (hN2 : ∀ n ∈ N, n.length ≤ 4194304) :
    Cn Tryd.prog 7 [.slice a l.length c, .slice b N.length d] W [A, B] (fun r : Option Addr × Nat => .slice r.1 (withF l N).length r.2)
    (fun r => [A, B, Sl 2 37 r.1 r.2 (withF l N).length ((withF l N).flatMap pFd)]) := by
  (refine S.ref11_Without_cn fun F => ?_; unfold S.ref11_Without; simp only [List.cons_append, List.nil_append])
  refine e_loop2 (fun m x y => [ex fun st : (Option Addr × Nat) × Nat => all [pu (m + st.2 = l.length ∧ x = .slice st.1.1 (withF (l.take st.2) N).length st.1.2 ∧ y = .int .i64 (st.2 : Int)), Sl 2 37 st.1.1 st.1.2 (withF (l.take st.2) N).length ((withF (l.take st.2) N).flatMap pFd), A, B]] ++ F) l.length ?_ ?_
  · refine Imp.ex ((none, 0), 0) (.all ?_)
    (try simp only [List.cons_append, List.nil_append, -eq_self])
    refine .pu ⟨rfl, rfl, rfl⟩ ?_
    exact imp_nil .refl
  intro m ds x y
  (try simp only [List.cons_append, List.nil_append, -eq_self])
  refine e_ex Pick.here fun st => e_all Pick.here ?_
  obtain ⟨⟨sa, sc⟩, i⟩ := st
  (try simp only [List.cons_append, List.nil_append, -eq_self])
  refine e_pu Pick.here fun hi => ?_
  (try dsimp only at hi)
  obtain ⟨hmi, rfl, rfl⟩ := hi
  refine e_opN v_len Imp.nil ?_
  refine e_ask v_lss Imp.nil (fun h => ?_) (fun h => ?_)
  · have hil : i < l.length := by omega
    have hb := hl.2 _ (List.getElem_mem hil)
    have hat := fd_at hil
    have hv := with_take (N := N) hil
    have hvl := with_len (l.take i) N
    have hl1 := hl.1
    rw [List.length_take] at hvl
    refine e_condT ?_
    obtain ⟨g, o, rfl⟩ := rdF_at hA (Nat.zero_lt_of_lt hil)
    have ldw : RunV Tryd.prog W [A] (sLoad 37 (.pointer (some ⟨g, o + i * 2, none⟩))) (vFd l[i]) := ld_fdA hA hil
    generalize l[i] = x at hb hv hat ldw ⊢
    have l0 : RunV Tryd.prog W [A] (sLoad 9 (.pointer (some ⟨g, o + i * 2 + 0, none⟩))) (txt x.1) := v_ldRd2 hA hat.1
    refine e_loop2 (fun m x' y => (ex fun k : Nat => pu (m + k = N.length ∧ x' = .bool ((N.take k).any fun n => eqlF x.1 n) ∧ y = .int .i64 (k : Int))) :: Sl 2 37 sa sc (withF (l.take i) N).length ((withF (l.take i) N).flatMap pFd) :: A :: B :: F) N.length ?_ ?_
    · refine .ex 0 (.pu ⟨rfl, rfl, rfl⟩ ?_)
      (repeat (first | exact Imp.refl | exact Imp.nil | (apply Imp.pick; (focus ((repeat constructor); done))) | refine Imp.drop ?_))
    intro m2 ds2 x2 y2
    refine e_ex .here fun k => e_pu .here fun hk => ?_
    obtain ⟨hmk, rfl, rfl⟩ := hk
    refine e_opN v_len Imp.nil ?_
    refine e_ask v_lss Imp.nil (fun h2 => ?_) (fun h2 => ?_)
    · have hkl : k < N.length := by omega
      have hst : ((N.take (k + 1)).any fun n => eqlF x.1 n) = (((N.take k).any fun n => eqlF x.1 n) || eqlF x.1 N[k]) := by
        rw [List.take_succ_eq_append_getElem hkl, List.any_append]
        simp
      have hnk := hN2 _ (List.getElem_mem hkl)
      obtain ⟨g', o', rfl, _⟩ := hB.at_ (by omega)
      have ln : RunV Tryd.prog W [B] (sLoad 9 (.pointer (some ⟨g', o' + k, none⟩))) (txt N[k]) := v_ldRd hB (by rw [List.getElem?_map, List.getElem?_eq_getElem hkl]; rfl)
      refine e_condT ?_
      refine e_drS ?_
      cases hm : ((N.take k).any fun n => eqlF x.1 n) with
      | true =>
        rw [hm, Bool.true_or] at hst
        ((with_reducible refine e_gdF1 ?_)); ((with_reducible refine e_gdF1 ?_)); ((with_reducible refine e_gdF1 ?_)); ((with_reducible refine e_gdF1 ?_)); ((with_reducible refine e_gdF1 ?_)); ((with_reducible refine e_gdF1 ?_)); ((with_reducible refine e_gdF1 ?_)); ((with_reducible refine e_gdF1 ?_)); ((with_reducible refine e_gdF1 ?_)); ((with_reducible refine e_gdF1 ?_)); (((with_reducible refine e_stS v_pickT Imp.nil ?_))); (((with_reducible refine e_opN (v_add ?h1 ?h2) Imp.nil ?_); (case h1 => omega); (case h2 => omega)))
        refine e_next2 (m2 - 1) (by omega) (.ex (k + 1) (.pu ⟨by omega, by rw [hst], rfl⟩ ?_))
        (repeat (first | exact Imp.refl | exact Imp.nil | (apply Imp.pick; (focus ((repeat constructor); done))) | refine Imp.drop ?_))
      | false =>
        rw [hm, Bool.false_or] at hst
        refine e_gdT ?_
        refine e_gdT ?_
        refine e_gdT ?_
        refine e_stS (v_ia i rfl hil) Imp.nil ?_
        refine e_gdT ?_
        refine e_stS v_fa Imp.nil ?_
        refine e_gdT ?_
        refine e_stS l0 (.pick (by (repeat constructor)) .nil) ?_
        refine e_gdT ?_
        refine e_gdT ?_
        refine e_gdT ?_
        refine e_stS (v_ia1 k rfl hkl) Imp.nil ?_
        refine e_gdT ?_
        refine e_stS ln (.pick (by (repeat constructor)) .nil) ?_
        refine e_gdT ?_
        refine e_call (requal (a := x.1) (b := N[k]) (by omega) (by omega)) .nil fun _ => ?_
        (try simp only [List.cons_append, List.nil_append, -eq_self])
        refine e_stS v_pickF Imp.nil ?_
        refine e_opN (v_add (by omega) (by omega)) Imp.nil ?_
        refine e_next2 (m2 - 1) (by omega) (.ex (k + 1) (.pu ⟨by omega, by rw [hst], rfl⟩ ?_))
        (repeat (first | exact Imp.refl | exact Imp.nil | (apply Imp.pick; (focus ((repeat constructor); done))) | refine Imp.drop ?_))
    · have hke : k = N.length := by omega
      subst hke
      rw [List.take_length]
      refine e_condF ?_
      refine e_opN v_not Imp.nil ?_
      have hne : (!N.any fun n => eqlF x.1 n) = noneF N x := rfl
      rw [hne]
      cases hx : noneF N x with
      | true =>
        rw [hx, if_pos rfl] at hv
        refine e_condT ?_
        refine e_opN (v_ia i rfl hil) Imp.nil ?_
        refine e_opN ldw (.pick (by (repeat constructor)) .nil) ?_
        refine e_bslS (n := 1) (vs := [vFd x]) rfl (by decide) rfl (by intro v hv; rw [List.mem_singleton.1 hv]; rfl) (by decide) fun gb => ?_
        refine e_app (m := 1) (news := pFd x) (by (repeat constructor)) (src_pt (s := 2) (e' := 37) (by kernel_rfl) .here (by rfl) (by intro u hu; simp [vFd, Value.cells] at hu; rcases hu with rfl | rfl <;> rfl)) (by omega) (by omega) fun a' c' => ?_
        refine e_opN (v_add (by omega) (by omega)) Imp.nil ?_
        refine e_next2 (m - 1) (by omega) (.ex ((a', c'), i + 1) (.all ?_))
        (try simp only [List.cons_append, List.nil_append, -eq_self])
        (try dsimp only)
        rw [hv, List.length_append, List.flatMap_append]
        refine .pu ⟨by omega, rfl, rfl⟩ ?_
        simp only [List.flatMap_cons, List.flatMap_nil, List.append_nil, List.length_cons, List.length_nil, Nat.zero_add]
        (repeat (first | exact Imp.refl | exact Imp.nil | (apply Imp.pick; (focus ((repeat constructor); done))) | refine Imp.drop ?_))
      | false =>
        rw [hx, if_neg (by decide), List.append_nil] at hv
        refine e_condF ?_
        refine e_opN (v_add (by omega) (by omega)) Imp.nil ?_
        refine e_next2 (m - 1) (by omega) (.ex ((sa, sc), i + 1) (.all ?_))
        (try simp only [List.cons_append, List.nil_append, -eq_self])
        (try dsimp only)
        rw [hv]
        refine .pu ⟨by omega, rfl, rfl⟩ ?_
        (repeat (first | exact Imp.refl | exact Imp.nil | (apply Imp.pick; (focus ((repeat constructor); done))) | refine Imp.drop ?_))
  · have : i = l.length := by omega
    subst this
    rw [List.take_length]
    refine e_condF ?_
    (first | refine e_ret ((sa, sc)) rfl ?_ | refine e_retT ((sa, sc)) ?_)
    (repeat (first | exact Imp.refl | exact Imp.nil | (apply Imp.pick; (focus ((repeat constructor); done))) | refine Imp.drop ?_))
end Go.Proofs.YtcmpkkkigmheoaaDoor.FD
/-! Where tags are asked for dates count for nothing; without conditions all is 200: the law, walked. Fields and a date of together at most 1048576 bytes. -/
namespace Go.Proofs.YtcmpkkkigmheoaaDoor.FD
open Go Go.Proofs Go.RowKit Go.Proofs.YtcmpkkkigmheoaaDoor.Sh Go.Proofs.YtcmpkkkigmheoaaDoor.Sl Go.Proofs.YtcmpkkkigmheoaaDoor.T
def lIM : List UInt8 := [105, 102, 45, 109, 97, 116, 99, 104]
def lINM : List UInt8 := [105, 102, 45, 110, 111, 110, 101, 45, 109, 97, 116, 99, 104]
def lIMS : List UInt8 := [105, 102, 45, 109, 111, 100, 105, 102, 105, 101, 100, 45, 115, 105, 110, 99, 101]
def lIUS : List UInt8 := [105, 102, 45, 117, 110, 109, 111, 100, 105, 102, 105, 101, 100, 45, 115, 105, 110, 99, 101]
theorem vals_one {n v m : List UInt8} : valsF [(n, v)] m = if eqlF n m then [v] else [] := by
  unfold valsF
  cases h : eqlF n m <;> simp [h]
theorem condOrder {W : World} {m since : List UInt8} {l : List Fd} {a : Option Addr} {c : Nat} {e : En} {now : Int} {A : HP} (hA : RdF W A a l) (hl : szF l + since.length ≤ 1048576) : Cn Tryd.prog 3 [txt m, .slice a l.length c, vEn e, .int .i64 now, txt since] W
    [A] (fun _ : Unit => .bool true) (fun _ => [A]) := by
  have hok := sz_ok (l := l) (by omega)
  have hsz := fun N => sz_with l N
  have hlw := fun N => with_len l N
  have hll := hok.1
  (refine S.law16_CondOrder_cn fun F => ?_; unfold S.law16_CondOrder; simp only [List.cons_append, List.nil_append])
  unfold vEn
  refine e_boxA fun g7 => ?_
  refine e_bslN (n := 4) (vs := [lIM, lINM, lIMS, lIUS].map txt) rfl rfl (by intro v hv; simp at hv; rcases hv with rfl | rfl | rfl | rfl <;> rfl) (by decide) fun gn => ?_
  refine e_call (rwithout (N := [lIM, lINM, lIMS, lIUS]) hA (rd_pt (cs := [lIM, lINM, lIMS, lIUS].map txt) rfl) hok (by decide) (by decide)) (.cons (.there (.there .here)) (.cons .here .nil)) fun r => ?_
  obtain ⟨ra, rc⟩ := r
  (try simp only [List.cons_append, List.nil_append, -eq_self])
  refine e_slfacts (.there (.there .here)) fun f1 f2 f3 f4 => ?_
  have hR : RdF W (Sl 2 37 ra rc (withF l [lIM, lINM, lIMS, lIUS]).length ((withF l [lIM, lINM, lIMS, lIUS]).flatMap pFd)) ra (withF l [lIM, lINM, lIMS, lIUS]) := rd_slG f1 f4
  refine e_opN (v_ldAgg (cs := cEn e) rfl) (.pick (by (repeat constructor)) .nil) ?_
  refine e_call (own (e := e)) .nil fun _ => ?_
  (try simp only [List.cons_append, List.nil_append, -eq_self])
  refine e_call (evaluate (m := m) (e := e) (now := now) hR (by have := hsz [lIM, lINM, lIMS, lIUS]; omega)) (.cons (.there (.there .here)) .nil) fun _ => ?_
  (try simp only [List.cons_append, List.nil_append, -eq_self])
  rw [ev_none (vals_with_in (m := lIM) (by simp) rfl) (vals_with_in (m := lIUS) (by simp) rfl) (vals_with_in (m := lINM) (by simp) rfl) (vals_with_in (m := lIMS) (by simp) rfl)]
  refine e_opN v_neq Imp.nil ?_
  rw [decide_eq_false (by decide)]
  refine e_gdT ?_
  refine e_call knows16 .nil fun _ => ?_
  (try simp only [List.cons_append, List.nil_append, -eq_self])
  ((with_reducible refine e_gdT ?_)); (((with_reducible refine e_opN v_notT Imp.nil ?_))); (((with_reducible refine e_opN v_pickF Imp.nil ?_))); ((with_reducible refine e_condF ?_)); (((with_reducible refine' e_opN (v_ldAgg ?hn) ?hi ?_); (case hi => (repeat (first | exact Imp.refl | exact Imp.nil | (apply Imp.pick; (focus ((repeat constructor); done))) | refine Imp.drop ?_))); (case hn => rfl)))
  refine e_call (own (e := e)) .nil fun _ => ?_
  (try simp only [List.cons_append, List.nil_append, -eq_self])
  refine e_call (evaluate (m := m) (e := e) (now := now) hA (by omega)) (.cons (by (repeat constructor)) .nil) fun _ => ?_
  (try simp only [List.cons_append, List.nil_append, -eq_self])
  have hmore : ∀ (N : List (List UInt8)) (x : Fd), (withF l N).length + 1 = (withF l N ++ [x]).length ∧ (withF l N).flatMap pFd ++ pFd x = (withF l N ++ [x]).flatMap pFd := fun N x => ⟨by simp, by simp⟩
  have hszm : ∀ (N : List (List UInt8)) (x : Fd), x.1.length ≤ 100 → x.2 = since → szF (withF l N ++ [x]) ≤ 2097152 := fun N x h1 h2 => by
    have := hsz N
    rw [sz_app]
    simp only [szF]
    rw [h2]
    omega
  refine e_cut0 (A :: pt g7 (.cells #[.bool e.tag.1, txt e.tag.2, .int .i64 e.mt, .bool e.has] 26 (0, 0)) :: F) ?_ ?_
  rotate_left
  · refine e_call (rvalues (n := lIM) hA hok (by decide)) (.cons .here .nil) fun r => ?_
    obtain ⟨va, vc⟩ := r
    (try simp only [List.cons_append, List.nil_append, -eq_self])
    refine e_opN v_len Imp.nil ?_
    refine e_ask v_gtr Imp.nil (fun h => ?_) (fun h => ?_)
    · have hne : valsF l nIM ≠ [] := fun c => by
        rw [vals_low (m := nIM) (show lowF lIM = lowF nIM from rfl), c] at h
        simp at h
      refine e_condT ?_
      refine e_bslN (n := 1) (vs := [lIUS].map txt) rfl rfl (by intro v hv; simp at hv; rcases hv with rfl; rfl) (by decide) fun gn => ?_
      refine e_call (rwithout (N := [lIUS]) hA (rd_pt (cs := [lIUS].map txt) rfl) hok (by decide) (by decide)) (.cons (.there .here) (.cons .here .nil)) fun r => ?_
      obtain ⟨ra, rc⟩ := r
      (try simp only [List.cons_append, List.nil_append, -eq_self])
      refine e_opN v_rv Imp.nil ?_
      refine e_bslS (n := 1) (vs := [vFd (nIUS, since)]) rfl (by decide) rfl (by intro v hv; rw [List.mem_singleton.1 hv]; rfl) (by decide) fun gb => ?_
      refine e_app (m := 1) (news := pFd (nIUS, since)) (.there (.there (.there .here))) (src_pt (s := 2) (e' := 37) (by kernel_rfl) .here (by rfl) (by intro u hu; simp [vFd, Value.cells] at hu; rcases hu with rfl | rfl <;> rfl)) (by have := hlw [lIUS]; omega) (by have := hlw [lIUS]; omega) fun a' c' => ?_
      rw [(hmore [lIUS] (nIUS, since)).1, (hmore [lIUS] (nIUS, since)).2]
      refine e_slfacts .here fun f1 f2 f3 f4 => ?_
      have hR : RdF W (Sl 2 37 a' c' (withF l [lIUS] ++ [(nIUS, since)]).length ((withF l [lIUS] ++ [(nIUS, since)]).flatMap pFd)) a' (withF l [lIUS] ++ [(nIUS, since)]) := rd_slG f1 f4
      refine e_opN (v_ldAgg (cs := cEn e) rfl) (.pick (by (repeat constructor)) .nil) ?_
      refine e_call (own (e := e)) .nil fun _ => ?_
      (try simp only [List.cons_append, List.nil_append, -eq_self])
      refine e_call (evaluate (m := m) (e := e) (now := now) hR (hszm _ _ (by simp [nIUS, nIMS]) rfl)) (.cons .here .nil) fun _ => ?_
      (try simp only [List.cons_append, List.nil_append, -eq_self])
      have hv1 : valsF (withF l [lIUS] ++ [(nIUS, since)]) nIM = valsF l nIM := by
        rw [vals_app, vals_one, if_neg (by decide), List.append_nil, vals_with_out (by decide)]
      have hv3 : valsF (withF l [lIUS] ++ [(nIUS, since)]) nINM = valsF l nINM := by
        rw [vals_app, vals_one, if_neg (by decide), List.append_nil, vals_with_out (by decide)]
      have hv4 : valsF (withF l [lIUS] ++ [(nIUS, since)]) nIMS = valsF l nIMS := by
        rw [vals_app, vals_one, if_neg (by decide), List.append_nil, vals_with_out (by decide)]
      rw [ev_congr (l := withF l [lIUS] ++ [(nIUS, since)]) (l' := l) (tgs_congr hv1) (.inl (tgs_some (by rw [hv1]; exact hne))) (tgs_congr hv3) (.inr hv4)]
      refine e_opN v_neq Imp.nil ?_
      rw [decide_eq_false (by simp)]
      refine e_condF ?_
      refine e_sat ?_
      refine .pick (by (repeat constructor)) (.pick (by (repeat constructor)) ?_)
      (repeat (first | exact Imp.refl | exact Imp.nil | (apply Imp.pick; (focus ((repeat constructor); done))) | refine Imp.drop ?_))
    · refine e_condF ?_
      refine e_sat ?_
      (repeat (first | exact Imp.refl | exact Imp.nil | (apply Imp.pick; (focus ((repeat constructor); done))) | refine Imp.drop ?_))
  intro ds
  refine e_call (rvalues (n := lINM) hA hok (by decide)) (.cons .here .nil) fun r => ?_
  obtain ⟨va, vc⟩ := r
  (try simp only [List.cons_append, List.nil_append, -eq_self])
  refine e_opN v_len Imp.nil ?_
  refine e_ask v_gtr Imp.nil (fun h => ?_) (fun h => ?_)
  · have hne : valsF l nINM ≠ [] := fun c => by
      rw [vals_low (m := nINM) (show lowF lINM = lowF nINM from rfl), c] at h
      simp at h
    refine e_condT ?_
    refine e_bslN (n := 1) (vs := [lIMS].map txt) rfl rfl (by intro v hv; simp at hv; rcases hv with rfl; rfl) (by decide) fun gn => ?_
    refine e_call (rwithout (N := [lIMS]) hA (rd_pt (cs := [lIMS].map txt) rfl) hok (by decide) (by decide)) (.cons (.there .here) (.cons .here .nil)) fun r => ?_
    obtain ⟨ra, rc⟩ := r
    (try simp only [List.cons_append, List.nil_append, -eq_self])
    refine e_opN v_rv Imp.nil ?_
    refine e_bslS (n := 1) (vs := [vFd (nIMS, since)]) rfl (by decide) rfl (by intro v hv; rw [List.mem_singleton.1 hv]; rfl) (by decide) fun gb => ?_
    refine e_app (m := 1) (news := pFd (nIMS, since)) (.there (.there (.there .here))) (src_pt (s := 2) (e' := 37) (by kernel_rfl) .here (by rfl) (by intro u hu; simp [vFd, Value.cells] at hu; rcases hu with rfl | rfl <;> rfl)) (by have := hlw [lIMS]; omega) (by have := hlw [lIMS]; omega) fun a' c' => ?_
    rw [(hmore [lIMS] (nIMS, since)).1, (hmore [lIMS] (nIMS, since)).2]
    refine e_slfacts .here fun f1 f2 f3 f4 => ?_
    have hR : RdF W (Sl 2 37 a' c' (withF l [lIMS] ++ [(nIMS, since)]).length ((withF l [lIMS] ++ [(nIMS, since)]).flatMap pFd)) a' (withF l [lIMS] ++ [(nIMS, since)]) := rd_slG f1 f4
    refine e_opN (v_ldAgg (cs := cEn e) rfl) (.pick (by (repeat constructor)) .nil) ?_
    refine e_call (own (e := e)) .nil fun _ => ?_
    (try simp only [List.cons_append, List.nil_append, -eq_self])
    refine e_call (evaluate (m := m) (e := e) (now := now) hR (hszm _ _ (by simp [nIUS, nIMS]) rfl)) (.cons .here .nil) fun _ => ?_
    (try simp only [List.cons_append, List.nil_append, -eq_self])
    have hv1 : valsF (withF l [lIMS] ++ [(nIMS, since)]) nIM = valsF l nIM := by
      rw [vals_app, vals_one, if_neg (by decide), List.append_nil, vals_with_out (by decide)]
    have hv2 : valsF (withF l [lIMS] ++ [(nIMS, since)]) nIUS = valsF l nIUS := by
      rw [vals_app, vals_one, if_neg (by decide), List.append_nil, vals_with_out (by decide)]
    have hv3 : valsF (withF l [lIMS] ++ [(nIMS, since)]) nINM = valsF l nINM := by
      rw [vals_app, vals_one, if_neg (by decide), List.append_nil, vals_with_out (by decide)]
    rw [ev_congr (l := withF l [lIMS] ++ [(nIMS, since)]) (l' := l) (tgs_congr hv1) (.inr hv2) (tgs_congr hv3) (.inl (tgs_some (by rw [hv3]; exact hne)))]
    refine e_opN v_neq Imp.nil ?_
    rw [decide_eq_false (by simp)]
    refine e_condF ?_
    (first | refine e_ret (()) rfl ?_ | refine e_retT (()) ?_)
    (repeat (first | exact Imp.refl | exact Imp.nil | (apply Imp.pick; (focus ((repeat constructor); done))) | refine Imp.drop ?_))
  · refine e_condF ?_
    (first | refine e_ret (()) rfl ?_ | refine e_retT (()) ?_)
    (repeat (first | exact Imp.refl | exact Imp.nil | (apply Imp.pick; (focus ((repeat constructor); done))) | refine Imp.drop ?_))
end Go.Proofs.YtcmpkkkigmheoaaDoor.FD
/-! Two tags in a list, as they are written; a tag's text as the statement looks at it. No conditions but those that each names. -/
namespace Go.Proofs.YtcmpkkkigmheoaaDoor.FD
open Go Go.Proofs Go.RowKit Go.Proofs.YtcmpkkkigmheoaaDoor.Sh Go.Proofs.YtcmpkkkigmheoaaDoor.Sl Go.Proofs.YtcmpkkkigmheoaaDoor.T
theorem els_in : ∀ (s cur t : List UInt8), (∀ c ∈ s, c ≠ 34) → els true false true cur (s ++ 34 :: t) = els true false false (cur ++ s ++ [34]) t
  | [], cur, t, _ => by
    rw [List.nil_append, els_cons, if_neg (by simp), if_pos (by decide)]
    simp
  | c :: s, cur, t, h => by
    have hc := h c (by simp)
    rw [List.cons_append, els_cons, if_neg (by simp), if_neg (fun d => hc d.1), if_neg (by simp), els_in s _ t fun x hx => h x (by simp [hx])]
    simp
theorem els_tag {x : Tg} (h : ∀ c ∈ x.2, c ≠ 34) (cur t : List UInt8) : els true false false cur (tagT x ++ t) = els true false false (cur ++ tagT x) t := by
  have q : ∀ cur, els true false false cur (34 :: x.2 ++ [34] ++ t) = els true false false (cur ++ (34 :: x.2 ++ [34])) t := fun cur => by
    simp only [List.cons_append, List.append_assoc, List.nil_append]
    rw [els_cons, if_neg (by simp), if_pos (by decide)]
    simp only [Bool.not_false]
    rw [els_in _ _ _ h]
    simp
  cases hw : x.1 with
  | false =>
    have e : tagT x = 34 :: x.2 ++ [34] := by simp [tagT, hw]
    rw [e, q]
  | true =>
    have e : tagT x = 87 :: 47 :: (34 :: x.2 ++ [34]) := by simp [tagT, hw]
    rw [e]
    simp only [List.cons_append]
    rw [els_cons, if_neg (by simp), if_neg (by decide), if_neg (by decide), els_cons, if_neg (by simp), if_neg (by decide), if_neg (by decide)]
    have := q (cur ++ [87] ++ [47])
    simp only [List.cons_append] at this
    rw [this]
    simp
theorem tagT_last (x : Tg) : ∃ p, tagT x = p ++ [34] := ⟨(if x.1 then [87, 47] else []) ++ 34 :: x.2, by unfold tagT; simp⟩
theorem tagT_first (x : Tg) : ∃ c r, tagT x = c :: r ∧ isBl c = false := by
  cases hw : x.1 with
  | false => exact ⟨34, x.2 ++ [34], by simp [tagT, hw], rfl⟩
  | true => exact ⟨87, 47 :: 34 :: x.2 ++ [34], by simp [tagT, hw], rfl⟩
theorem trimL_hd {c : UInt8} {r : List UInt8} (h : isBl c = false) : trimL (c :: r) = c :: r := by simp [trimL, List.dropWhile_cons, h]
theorem trim_tag (x : Tg) : trimB (tagT x) = tagT x := by
  obtain ⟨p, hp⟩ := tagT_last x
  obtain ⟨c, r, hc, hb⟩ := tagT_first x
  unfold trimB
  have e : trimR (tagT x) = tagT x := by rw [hp, trimR_snoc, if_neg (by decide)]
  rw [e, hc, trimL_hd hb]
theorem trim_tag1 (x : Tg) : trimB (32 :: tagT x) = tagT x := by
  obtain ⟨p, hp⟩ := tagT_last x
  obtain ⟨c, r, hc, hb⟩ := tagT_first x
  unfold trimB
  have e : trimR (32 :: tagT x) = 32 :: tagT x := by rw [hp, ← List.cons_append, trimR_snoc, if_neg (by decide)]
  rw [e]
  have : trimL (32 :: tagT x) = trimL (tagT x) := by unfold trimL; rw [List.dropWhile_cons]; rfl
  rw [this, hc, trimL_hd hb]
theorem tagT_ne (x : Tg) : tagT x ≠ [] := by
  obtain ⟨c, r, hc, _⟩ := tagT_first x
  rw [hc]; simp
theorem tagT_star {x : Tg} {t : List UInt8} : tagT x ++ t ≠ [42] := by
  obtain ⟨p, hp⟩ := tagT_last x
  obtain ⟨c, r, hc, hb⟩ := tagT_first x
  intro h
  cases hw : x.1 <;> simp [tagT, hw] at h
def okTg (x : Tg) : Prop := x.2.any badT = false
theorem ok_q {x : Tg} (h : okTg x) : ∀ c ∈ x.2, c ≠ 34 := fun c hc d => by
  unfold okTg at h
  rw [List.any_eq_false] at h
  exact h c hc (by subst d; rfl)
theorem tag_ok {x : Tg} (h : okTg x) : tagF (tagT x) = (x, true) := by
  have := tag_back x.1 x.2
  rw [show ((x.1, x.2) : Bool × List UInt8) = x from rfl] at this
  rw [this, show x.2.any badT = false from h]; rfl
theorem tags_one {x : Tg} (h : okTg x) : tagsF (tagT x) = ([x], false, 0) := by
  have hs : trimB (tagT x) ≠ [42] := by
    rw [trim_tag]
    have := tagT_star (x := x) (t := [])
    rwa [List.append_nil] at this
  have he : elemsF true false (tagT x) = [tagT x] := by
    unfold elemsF
    rw [sub0]
    have := els_tag (ok_q h) [] []
    rw [List.append_nil, List.nil_append] at this
    rw [this, els, tidy_cons, trim_tag, if_neg (tagT_ne x)]; rfl
  unfold tagsF tagLF
  rw [if_neg hs, he]
  unfold listF
  simp [tag_ok h]
theorem tags_two {x y : Tg} (hx : okTg x) (hy : okTg y) : tagsF (tagT x ++ [44, 32] ++ tagT y) = ([x, y], false, 0) := by
  have he : elemsF true false (tagT x ++ [44, 32] ++ tagT y) = [tagT x, tagT y] := by
    unfold elemsF
    rw [sub0, List.append_assoc, els_tag (ok_q hx)]
    simp only [List.nil_append, List.cons_append]
    rw [els_cons, if_neg (by simp), if_neg (by decide), if_pos (by decide), els_cons, if_neg (by simp), if_neg (by decide), if_neg (by decide)]
    have := els_tag (ok_q hy) ([] ++ [32]) []
    rw [List.append_nil] at this
    rw [this, els, tidy_cons, trim_tag, if_neg (tagT_ne x), tidy_cons]
    simp only [List.nil_append, List.cons_append]
    rw [trim_tag1, if_neg (tagT_ne y)]; rfl
  have hs : trimB (tagT x ++ [44, 32] ++ tagT y) ≠ [42] := by
    obtain ⟨p, hp⟩ := tagT_last y
    obtain ⟨c, r, hc, hb⟩ := tagT_first x
    have e : trimB (tagT x ++ [44, 32] ++ tagT y) = tagT x ++ [44, 32] ++ tagT y := by
      unfold trimB
      have e1 : trimR (tagT x ++ [44, 32] ++ tagT y) = tagT x ++ [44, 32] ++ tagT y := by
        rw [hp, ← List.append_assoc, trimR_snoc, if_neg (by decide)]
      rw [e1, hc]
      simp only [List.cons_append]
      rw [trimL_hd hb]
    rw [e, List.append_assoc]
    exact tagT_star
  unfold tagsF tagLF
  rw [if_neg hs, he]
  unfold listF
  simp [tag_ok hx, tag_ok hy]
theorem good {W : World} {l : List UInt8} (hl : l.length ≤ 4194304) : Cn Tryd.prog 12 [txt l] W [] (fun _ : Unit => .bool (!l.any badT)) (fun _ => []) := by
  (refine S.law16_good_cn fun F => ?_; unfold S.law16_good; simp only [List.cons_append, List.nil_append])
  refine e_loop1 (fun m y => (ex fun i : Nat => pu (m + i = l.length ∧ y = .int .i64 (i : Int) ∧ (l.take i).any badT = false)) :: F) l.length ?_ ?_
  · exact .ex 0 (.pu ⟨by omega, rfl, rfl⟩ .refl)
  intro m ds y
  refine e_ex .here fun i => e_pu .here fun hi => ?_
  obtain ⟨hmi, rfl, hany⟩ := hi
  refine e_opN v_lent Imp.nil ?_
  refine e_ask v_lss Imp.nil (fun h => ?_) (fun h => ?_)
  · have hil : i < l.length := by omega
    have hbad : badT l[i] = true → l.any badT = true := fun hb => List.any_eq_true.2 ⟨l[i], List.getElem_mem hil, hb⟩
    have hnx : badT l[i] = false → (l.take (i + 1)).any badT = false := fun hb => by
      rw [List.take_succ_eq_append_getElem hil, List.any_append, hany]
      simp [hb]
    rw [badT_r] at hbad hnx
    refine e_condT ?_
    refine e_opN (v_ixS i rfl hil) Imp.nil ?_
    refine e_opN (v_lss (a := (l[i].toNat : Int)) (b := 33)) Imp.nil ?_
    generalize decide ((l[i].toNat : Int) < 33) = b1 at hbad hnx ⊢
    cases b1 with
    | true =>
      rw [hbad rfl]
      ((with_reducible refine e_gdF1 ?_)); ((with_reducible refine e_gdF1 ?_)); ((with_reducible refine e_gdF1 ?_)); ((with_reducible refine e_gdF1 ?_)); (((with_reducible refine e_opN v_pickT Imp.nil ?_))); ((with_reducible refine e_gdF1 ?_)); ((with_reducible refine e_gdF1 ?_)); ((with_reducible refine e_gdF1 ?_)); ((with_reducible refine e_gdF1 ?_)); (((with_reducible refine e_opN v_pickT Imp.nil ?_))); ((with_reducible refine e_condT ?_))
      (first | refine e_ret (()) rfl ?_ | refine e_retT (()) ?_)
      (repeat (first | exact Imp.refl | exact Imp.nil | (apply Imp.pick; (focus ((repeat constructor); done))) | refine Imp.drop ?_))
    | false =>
      refine e_gdT ?_
      refine e_gdT ?_
      refine e_gdT ?_
      refine e_opN (v_ixS i rfl hil) Imp.nil ?_
      refine e_gdT ?_
      refine e_opN (B_eq 34 rfl) Imp.nil ?_
      refine e_opN v_pickF Imp.nil ?_
      generalize decide (l[i] = 34) = b2 at hbad hnx ⊢
      cases b2 with
      | true =>
        rw [hbad rfl]
        ((with_reducible refine e_gdF1 ?_)); ((with_reducible refine e_gdF1 ?_)); ((with_reducible refine e_gdF1 ?_)); ((with_reducible refine e_gdF1 ?_)); (((with_reducible refine e_opN v_pickT Imp.nil ?_))); ((with_reducible refine e_condT ?_))
        (first | refine e_ret (()) rfl ?_ | refine e_retT (()) ?_)
        (repeat (first | exact Imp.refl | exact Imp.nil | (apply Imp.pick; (focus ((repeat constructor); done))) | refine Imp.drop ?_))
      | false =>
        refine e_gdT ?_
        refine e_gdT ?_
        refine e_gdT ?_
        refine e_opN (v_ixS i rfl hil) Imp.nil ?_
        refine e_gdT ?_
        refine e_opN (B_eq 127 rfl) Imp.nil ?_
        refine e_opN v_pickF Imp.nil ?_
        generalize decide (l[i] = 127) = b3 at hbad hnx ⊢
        cases b3 with
        | true =>
          rw [hbad rfl]
          refine e_condT ?_
          (first | refine e_ret (()) rfl ?_ | refine e_retT (()) ?_)
          (repeat (first | exact Imp.refl | exact Imp.nil | (apply Imp.pick; (focus ((repeat constructor); done))) | refine Imp.drop ?_))
        | false =>
          refine e_condF ?_
          refine e_opN (v_add (by omega) (by omega)) Imp.nil ?_
          refine e_next1 (m - 1) (by omega) (.ex (i + 1) (.pu ⟨by omega, by norm_cast, hnx rfl⟩ ?_))
          exact .refl
  · have hie : i = l.length := by omega
    subst hie
    rw [List.take_length] at hany
    rw [hany]
    refine e_condF ?_
    (first | refine e_ret (()) rfl ?_ | refine e_retT (()) ?_)
    (repeat (first | exact Imp.refl | exact Imp.nil | (apply Imp.pick; (focus ((repeat constructor); done))) | refine Imp.drop ?_))
end Go.Proofs.YtcmpkkkigmheoaaDoor.FD
/-! Who has the entity's own tag is told that it has not changed; who asks for it, and it is strong, is not refused: the law, walked. Texts of together at most 1048576 bytes. -/
namespace Go.Proofs.YtcmpkkkigmheoaaDoor.FD
open Go Go.Proofs Go.RowKit Go.Proofs.YtcmpkkkigmheoaaDoor.Sh Go.Proofs.YtcmpkkkigmheoaaDoor.Sl Go.Proofs.YtcmpkkkigmheoaaDoor.T
def oth : Tg := (false, [111, 116, 104, 101, 114])
theorem join_one (sep v : List UInt8) : joinF sep [v] = v := by simp [joinF]
theorem vals_two (p x q y n : List UInt8) : valsF [(p, x), (q, y)] n = (if eqlF p n then [x] else []) ++ (if eqlF q n then [y] else []) := by
  rw [show [(p, x), (q, y)] = [(p, x)] ++ [(q, y)] from rfl, vals_app, vals_one, vals_one]
theorem own_304 {m : List UInt8} {e : En} {since : List UInt8} {now : Int} (hm : lkF m = true) (hh : e.has = true) (ht : okTg e.tag) : evF m [(lINM, tagT oth ++ [44, 32] ++ tagT e.tag), (nIMS, since)] e now = 304 := by
  have v1 : valsF [(lINM, tagT oth ++ [44, 32] ++ tagT e.tag), (nIMS, since)] nIM = [] := by rw [vals_two, if_neg (by decide), if_neg (by decide)]; rfl
  have v2 : valsF [(lINM, tagT oth ++ [44, 32] ++ tagT e.tag), (nIMS, since)] nIUS = [] := by rw [vals_two, if_neg (by decide), if_neg (by decide)]; rfl
  have v3 : valsF [(lINM, tagT oth ++ [44, 32] ++ tagT e.tag), (nIMS, since)] nINM = [tagT oth ++ [44, 32] ++ tagT e.tag] := by rw [vals_two, if_pos (by decide), if_neg (by decide)]; rfl
  have f2 : firstF [(lINM, tagT oth ++ [44, 32] ++ tagT e.tag), (nIMS, since)] nIUS = ([], false) := by unfold firstF; rw [v2]
  have t2 : t2F [(lINM, tagT oth ++ [44, 32] ++ tagT e.tag), (nIMS, since)] e = (true, true) := by
    unfold t2F tgsF
    rw [v3, join_one, tags_two (by rfl) ht, hh]
    simp
  unfold evF st1F st2F t1F daF
  rw [tgs_none v1, f2, t2, hm]
  simp
theorem star_304 {m : List UInt8} {e : En} {now : Int} (hm : lkF m = true) (hh : e.has = true) : evF m [(nINM, [42])] e now = 304 := by
  have v1 : valsF [(nINM, [42])] nIM = [] := by rw [vals_one, if_neg (by decide)]
  have v2 : valsF [(nINM, [42])] nIUS = [] := by rw [vals_one, if_neg (by decide)]
  have v3 : valsF [(nINM, [42])] nINM = [[42]] := by rw [vals_one, if_pos (by decide)]
  have f2 : firstF [(nINM, [42])] nIUS = ([], false) := by unfold firstF; rw [v2]
  have t2 : t2F [(nINM, [42])] e = (true, true) := by
    unfold t2F tgsF
    rw [v3, join_one, hh, show tagsF [42] = ([], true, 0) from rfl]
    simp
  unfold evF st1F st2F t1F daF
  rw [tgs_none v1, f2, t2, hm]
  simp
theorem put_own {e : En} {now : Int} (hh : e.has = true) (ht : okTg e.tag) : evF mPUT [(nIM, tagT e.tag)] e now = if e.tag.1 then 412 else 200 := by
  have v1 : valsF [(nIM, tagT e.tag)] nIM = [tagT e.tag] := by rw [vals_one, if_pos (by decide)]
  have v3 : valsF [(nIM, tagT e.tag)] nINM = [] := by rw [vals_one, if_neg (by decide)]
  have t1 : t1F [(nIM, tagT e.tag)] e = (!e.tag.1, true) := by
    unfold t1F tgsF
    rw [v1, join_one, tags_one ht, hh]
    simp [strF]
  unfold evF st1F st2F t2F
  rw [tgs_none v3, t1, show lkF mPUT = false from rfl]
  cases e.tag.1 <;> simp
theorem condOwn {W : World} {e0 : En} {since : List UInt8} {now : Int} {hd : Bool} (hl : e0.tag.2.length + since.length ≤ 1048576) : Cn Tryd.prog 4 [vEn e0, txt since, .int .i64 now, .bool hd] W
    [] (fun _ : Unit => .bool true) (fun _ => []) := by
  obtain ⟨e, he⟩ : ∃ e : En, e = ⟨e0.tag, e0.mt, true⟩ := ⟨_, rfl⟩
  have hc : (#[.bool e0.tag.1, txt e0.tag.2, .int .i64 e0.mt, .bool true] : Array Value) = cEn e := by rw [he]; rfl
  have hh : e.has = true := by rw [he]
  have htl : e0.tag = e.tag := by rw [he]
  have htT : (tagT e.tag).length ≤ e.tag.2.length + 4 := by unfold tagT; cases e.tag.1 <;> simp
  rw [htl] at hl
  (refine S.law16_CondOwn_cn fun F => ?_; unfold S.law16_CondOwn; simp only [List.cons_append, List.nil_append])
  unfold vEn
  refine e_boxA fun g4 => ?_
  refine e_opN v_fa0 Imp.nil ?_
  refine e_stN .here (.there (.there (.there .here))) ?_
  rw [hc]
  refine e_opN v_fa0 Imp.nil ?_
  refine e_opN v_fa Imp.nil ?_
  refine e_opN (v_ld (v := txt e.tag.2) rfl) (.pick .here .nil) ?_
  refine e_call (good (l := e.tag.2) (by omega)) .nil fun _ => ?_
  (try simp only [List.cons_append, List.nil_append, -eq_self])
  refine e_opN v_not Imp.nil ?_
  rw [Bool.not_not]
  cases hb : e.tag.2.any badT with
  | true =>
    refine e_condT ?_
    refine e_call knows16 .nil fun _ => ?_
    (try simp only [List.cons_append, List.nil_append, -eq_self])
    (first | refine e_ret (()) rfl ?_ | refine e_retT (()) ?_)
    (repeat (first | exact Imp.refl | exact Imp.nil | (apply Imp.pick; (focus ((repeat constructor); done))) | refine Imp.drop ?_))
  | false =>
    have ht : okTg e.tag := hb
    refine e_condF ?_
    refine e_cut1 (fun z => (ex fun m => pu (z = txt m ∧ lkF m = true)) :: pt g4 (.cells (cEn e) 26 (0, 0)) :: F) ?_ ?_
    rotate_left
    · cases hd with
      | true =>
        refine e_condT ?_
        refine e_sat (.ex mHEAD (.pu ⟨rfl, rfl⟩ ?_))
        exact .refl
      | false =>
        refine e_condF ?_
        refine e_sat (.ex mGET (.pu ⟨rfl, rfl⟩ ?_))
        exact .refl
    intro ds z
    refine e_ex .here fun m => e_pu .here fun hm => ?_
    obtain ⟨rfl, hm⟩ := hm
    refine e_opN v_fa0 Imp.nil ?_
    refine e_opN v_fa Imp.nil ?_
    refine e_opN (v_ld (v := .bool e.tag.1) rfl) (.pick .here .nil) ?_
    refine e_opN v_fa0 Imp.nil ?_
    refine e_opN v_fa Imp.nil ?_
    refine e_opN (v_ld (v := txt e.tag.2) rfl) (.pick .here .nil) ?_
    refine e_opN v_rv Imp.nil ?_
    refine e_call (tagText (x := e.tag) (by omega)) .nil fun _ => ?_
    (try simp only [List.cons_append, List.nil_append, -eq_self])
    refine e_opN v_rv Imp.nil ?_
    refine e_call (tagText (x := oth) (by decide)) .nil fun _ => ?_
    (try simp only [List.cons_append, List.nil_append, -eq_self])
    have hol : (tagT oth).length = 7 := rfl
    refine e_opN (v_cat (b := [44, 32]) (by rw [hol]; decide)) Imp.nil ?_
    have hql : (tagT oth ++ [44, 32]).length = 9 := rfl
    refine e_opN (v_cat (by rw [hql]; omega)) Imp.nil ?_
    refine e_opN v_rv Imp.nil ?_
    refine e_opN v_rv Imp.nil ?_
    refine e_bslS (n := 2) (vs := [vFd (lINM, tagT oth ++ [44, 32] ++ tagT e.tag), vFd (nIMS, since)]) rfl (by decide) rfl (by intro v hv; simp at hv; rcases hv with rfl | rfl <;> rfl) (by decide) fun gl => ?_
    refine e_own (s := 2) (n := 2) (cs := pFd (lINM, tagT oth ++ [44, 32] ++ tagT e.tag) ++ pFd (nIMS, since)) .here rfl (by decide) ?_
    refine e_drS ?_
    refine e_stS (v_ldAgg (cs := cEn e) rfl) (.pick (by (repeat constructor)) .nil) ?_
    refine e_call (own (e := e)) .nil fun _ => ?_
    (try simp only [List.cons_append, List.nil_append, -eq_self])
    have hA : RdF W (Sl 2 37 (some ⟨gl, 0, none⟩) 2 2 (pFd (lINM, tagT oth ++ [44, 32] ++ tagT e.tag) ++ pFd (nIMS, since))) (some ⟨gl, 0, none⟩) [(lINM, tagT oth ++ [44, 32] ++ tagT e.tag), (nIMS, since)] := rdF_sl (l := [(lINM, tagT oth ++ [44, 32] ++ tagT e.tag), (nIMS, since)])
    refine e_call (evaluate (m := m) (e := e) (now := now) hA (by
      simp only [szF]
      rw [List.length_append, hql, show lINM.length = 13 from rfl, show nIMS.length = 17 from rfl]
      omega)) (.cons .here .nil) fun _ => ?_
    (try simp only [List.cons_append, List.nil_append, -eq_self])
    rw [own_304 hm hh ht]
    refine e_stS v_neq Imp.nil ?_
    rw [decide_eq_false (by decide)]
    refine e_gdT ?_
    refine e_gdDT ?_
    refine e_stD (v_ldAgg (cs := cEn e) rfl) (.pick (by (repeat constructor)) .nil) ?_
    refine e_gdT ?_
    refine e_gdT ?_
    refine e_call (one (n := nINM) (v := [42])) .nil fun g => ?_
    (try simp only [List.cons_append, List.nil_append, -eq_self])
    refine e_obl (by (repeat (first | exact Imp.refl | exact Imp.nil | (apply Imp.pick; (focus ((repeat constructor); done))) | refine Imp.drop ?_))) ?_
    refine e_gdT ?_
    refine e_call (own (e := e)) .nil fun _ => ?_
    (try simp only [List.cons_append, List.nil_append, -eq_self])
    refine e_gdT ?_
    refine e_call (evaluate (m := m) (l := [(nINM, [42])]) (e := e) (now := now) rdF_sl (by decide)) (.cons .here .nil) fun _ => ?_
    (try simp only [List.cons_append, List.nil_append, -eq_self])
    rw [star_304 hm hh]
    refine e_gdT ?_
    refine e_stS v_neq Imp.nil ?_
    rw [decide_eq_false (by decide)]
    refine e_stS v_pickF Imp.nil ?_
    refine e_condF ?_
    refine e_drS ?_
    refine e_stD (v_ldAgg (cs := cEn e) rfl) (.pick (by (repeat constructor)) .nil) ?_
    refine e_call (one (n := nIM) (v := tagT e.tag)) .nil fun g' => ?_
    (try simp only [List.cons_append, List.nil_append, -eq_self])
    refine e_obl (by (repeat (first | exact Imp.refl | exact Imp.nil | (apply Imp.pick; (focus ((repeat constructor); done))) | refine Imp.drop ?_))) ?_
    refine e_call (own (e := e)) .nil fun _ => ?_
    (try simp only [List.cons_append, List.nil_append, -eq_self])
    refine e_call (evaluate (m := mPUT) (l := [(nIM, tagT e.tag)]) (e := e) (now := now) rdF_sl (by
      simp only [szF]
      rw [show nIM.length = 8 from rfl]
      omega)) (.cons .here .nil) fun _ => ?_
    (try simp only [List.cons_append, List.nil_append, -eq_self])
    rw [put_own hh ht]
    refine e_opN v_eql Imp.nil ?_
    refine e_opN v_fa0 Imp.nil ?_
    refine e_opN v_fa Imp.nil ?_
    refine e_opN (v_ld (v := .bool e.tag.1) rfl) (.pick (by (repeat constructor)) .nil) ?_
    cases hw : e.tag.1 with
    | true =>
      rw [if_pos rfl, decide_eq_true rfl]
      refine e_opN v_beq Imp.nil ?_
      rw [decide_eq_true rfl]
      refine e_gdT ?_
      refine e_gdT ?_
      refine e_opN v_eql Imp.nil ?_
      rw [decide_eq_false (by decide)]
      refine e_gdT ?_
      refine e_opN v_fa0 Imp.nil ?_
      refine e_gdT ?_
      refine e_opN v_fa Imp.nil ?_
      refine e_gdT ?_
      refine e_opN (v_ld (v := .bool e.tag.1) rfl) (.pick (by (repeat constructor)) .nil) ?_
      rw [hw]
      refine e_gdT ?_
      refine e_opN v_not Imp.nil ?_
      refine e_gdT ?_
      refine e_opN v_beq Imp.nil ?_
      rw [decide_eq_true (p := (false = !true)) rfl]
      refine e_opN v_pickT Imp.nil ?_
      refine e_gdT ?_
      refine e_call knows16 .nil fun _ => ?_
      (try simp only [List.cons_append, List.nil_append, -eq_self])
      (((with_reducible refine e_opN v_pickT Imp.nil ?_)))
      (first | refine e_ret (()) rfl ?_ | refine e_retT (()) ?_)
      (repeat (first | exact Imp.refl | exact Imp.nil | (apply Imp.pick; (focus ((repeat constructor); done))) | refine Imp.drop ?_))
    | false =>
      rw [if_neg (by decide), decide_eq_false (by decide)]
      refine e_opN v_beq Imp.nil ?_
      rw [decide_eq_true rfl]
      refine e_gdT ?_
      refine e_gdT ?_
      refine e_opN v_eql Imp.nil ?_
      rw [decide_eq_true rfl]
      refine e_gdT ?_
      refine e_opN v_fa0 Imp.nil ?_
      refine e_gdT ?_
      refine e_opN v_fa Imp.nil ?_
      refine e_gdT ?_
      refine e_opN (v_ld (v := .bool e.tag.1) rfl) (.pick (by (repeat constructor)) .nil) ?_
      rw [hw]
      refine e_gdT ?_
      refine e_opN v_not Imp.nil ?_
      refine e_gdT ?_
      refine e_opN v_beq Imp.nil ?_
      rw [decide_eq_true (p := (true = !false)) rfl]
      refine e_opN v_pickT Imp.nil ?_
      refine e_gdT ?_
      refine e_call knows16 .nil fun _ => ?_
      (try simp only [List.cons_append, List.nil_append, -eq_self])
      (((with_reducible refine e_opN v_pickT Imp.nil ?_)))
      (first | refine e_ret (()) rfl ?_ | refine e_retT (()) ?_)
      (repeat (first | exact Imp.refl | exact Imp.nil | (apply Imp.pick; (focus ((repeat constructor); done))) | refine Imp.drop ?_))
end Go.Proofs.YtcmpkkkigmheoaaDoor.FD
/-! The calendar, plain: a day's date is written back, and the next day. No program in sight. No conditions but those that each names. -/
namespace Go.Proofs.YtcmpkkkigmheoaaDoor.D
open Go Go.Proofs Go.RowKit Go.Proofs.YtcmpkkkigmheoaaDoor.Sh Go.Proofs.YtcmpkkkigmheoaaDoor.Sl Go.Proofs.YtcmpkkkigmheoaaDoor.T
/-- days of an era before a year of it -/
def sY (y : Int) : Int := 365 * y + y / 4 - y / 100
theorem dD_s (e : Int) : e = sY (dY e) + dD e := by unfold dD sY; omega
theorem last_in {c r q y z : Int} (hc : 0 ≤ c ∧ c ≤ 3) (hr : 0 ≤ r ∧ r ≤ 36523) (hq : 1460 * q ≤ 24 * c + r ∧ 24 * c + r < 1460 * q + 1460) (hy : 365 * y ≤ r - q ∧ r - q < 365 * y + 365) (hz : 4 * z ≤ y ∧ y < 4 * z + 4) (hy2 : y ≤ 98) : r < 365 * (y + 1) + (y + 1) / 4 := by
  by_cases h3 : y = 4 * z + 3
  · have : (y + 1) / 4 = z + 1 := by omega
    rw [this]; omega
  · have : (y + 1) / 4 = z := by omega
    rw [this]; omega
/-- a day lies before the next year -/
theorem e_lt {e : Int} (h : 0 ≤ e ∧ e ≤ 146096) : dY e ≤ 398 → e < sY (dY e + 1) := by
  intro hy
  rcases cent h with rfl | ⟨c, r, hc, hr, rfl⟩
  · exact absurd hy (by decide)
  · obtain ⟨q, y, z, h1, h2, h3, h4, h5⟩ := dD_at hc hr
    have hb := doy_b hc hr h1 h2 h3
    rw [h4] at hy ⊢
    by_cases c98 : y ≤ 98
    · have := last_in hc hr h1 h2 h3 c98
      unfold sY
      have g1 : (100 * c + y + 1) / 4 = 25 * c + (y + 1) / 4 := by omega
      have g2 : (100 * c + y + 1) / 100 = c := by omega
      rw [g1, g2]; omega
    · have hy99 : y = 99 := by omega
      subst hy99
      unfold sY
      have g1 : (100 * c + 99 + 1) / 4 = 25 * c + 25 := by omega
      have g2 : (100 * c + 99 + 1) / 100 = c + 1 := by omega
      rw [g1, g2]; omega
theorem sY_mono {a b : Int} (h : a ≤ b) : sY a ≤ sY b := by unfold sY; omega
/-- only one year fits -/
theorem dY_eq {e y : Int} (he : 0 ≤ e ∧ e ≤ 146096) (hy : 0 ≤ y ∧ y ≤ 399) (h1 : sY y ≤ e) (h2 : y ≤ 398 → e < sY (y + 1)) : dY e = y ∧ dD e = e - sY y := by
  have hb := dY_b he
  have hs := dD_s e
  have hd := dD_b he
  have hl := e_lt he
  have hyy : dY e = y := by
    rcases Int.lt_trichotomy (dY e) y with c | c | c
    · have := hl (by omega)
      have := sY_mono (show dY e + 1 ≤ y by omega)
      omega
    · exact c
    · have := h2 (by omega)
      have := sY_mono (show y + 1 ≤ dY e by omega)
      omega
  refine ⟨hyy, ?_⟩
  rw [hyy] at hs; omega
theorem dM_day {d : Int} (h : 0 ≤ d ∧ d ≤ 365) : 0 ≤ (5 * d + 2) / 153 ∧ (5 * d + 2) / 153 ≤ 11 := by omega
/-- back -/
theorem dayN_back {n : Int} (h : 0 ≤ n) : dayN (cY n) (cM n) (cD n) = n := by
  have he := dE_b n
  have hy := dY_b he
  have hd := dD_b he
  have hs := dD_s (dE n)
  have hm := dM_b he
  have ha : adj (cY n) (cM n) = (n + 719468) / 146097 * 400 + dY (dE n) := by
    unfold adj cY
    by_cases c : cM n ≤ 2
    · rw [if_pos c, if_pos c]; omega
    · rw [if_neg c, if_neg c]; omega
  have hN : n + 719468 = (n + 719468) / 146097 * 146097 + dE n := by unfold dE; omega
  have hmp : (cM n + 9) % 12 = dM (dE n) := by unfold cM; omega
  unfold dayN
  rw [ha, hmp]
  have hD : cD n = dD (dE n) - (153 * dM (dE n) + 2) / 5 + 1 := rfl
  rw [hD]
  unfold sY at hs
  generalize (n + 719468) / 146097 = q at *
  generalize dY (dE n) = y at *
  generalize dD (dE n) = d at *
  generalize dM (dE n) = mp at *
  generalize dE n = e at *
  have g1 : (q * 400 + y) / 400 = q := by omega
  have g2 : (q * 400 + y) % 400 = y := by omega
  rw [g1, g2]
  omega
theorem cY_low {n : Int} (h : 0 ≤ n) : 1970 ≤ cY n := by
  have he := dE_b n
  have hy := dY_b he
  have hd := dD_b he
  have hs := dD_s (dE n)
  have hl := e_lt he
  have hN : n + 719468 = (n + 719468) / 146097 * 146097 + dE n := by unfold dE; omega
  unfold cY
  by_cases c5 : 5 ≤ (n + 719468) / 146097
  · split <;> omega
  · have h4 : (n + 719468) / 146097 = 4 := by omega
    rw [h4] at hN ⊢
    have hy3 : 369 ≤ dY (dE n) := by
      by_cases c : 369 ≤ dY (dE n)
      · exact c
      · have h1 := hl (by omega)
        have h2 := sY_mono (show dY (dE n) + 1 ≤ 369 by omega)
        have h3 : sY 369 = 134774 := by decide
        omega
    by_cases c : dY (dE n) = 369
    · have hd3 : 306 ≤ dD (dE n) := by
        rw [c] at hs
        have h3 : sY 369 = 134774 := by decide
        omega
      have hm : cM n ≤ 2 := by
        unfold cM dM
        have h10 : (5 * dD (dE n) + 2) / 153 = 10 ∨ (5 * dD (dE n) + 2) / 153 = 11 := by omega
        rcases h10 with h | h <;> rw [h] <;> decide
      rw [if_pos hm]; omega
    · split <;> omega
def nextOk (n : Int) : Prop := (cD (n + 1) = cD n + 1 ∧ cM (n + 1) = cM n ∧ cY (n + 1) = cY n) ∨ (cD (n + 1) = 1 ∧ 28 ≤ cD n ∧ cM (n + 1) = cM n % 12 + 1 ∧ ((cM n < 12 ∧ cY (n + 1) = cY n) ∨ (cM n = 12 ∧ cY (n + 1) = cY n + 1)))
/-- within a year -/
theorem next_in {d : Int} (h : 0 ≤ d ∧ d ≤ 364) : ((5 * (d + 1) + 2) / 153 = (5 * d + 2) / 153) ∨ ((5 * (d + 1) + 2) / 153 = (5 * d + 2) / 153 + 1 ∧ (5 * d + 2) / 153 ≤ 10 ∧ d + 1 = (153 * ((5 * d + 2) / 153 + 1) + 2) / 5 ∧ 28 ≤ d - (153 * ((5 * d + 2) / 153) + 2) / 5 + 1) := by
  obtain ⟨m, hm⟩ : ∃ m, m = (5 * d + 2) / 153 := ⟨_, rfl⟩
  rw [← hm]
  have h1 : 0 ≤ m ∧ m ≤ 11 := by omega
  have h2 : 153 * m ≤ 5 * d + 2 ∧ 5 * d + 2 < 153 * m + 153 := by omega
  clear hm
  have : m = 0 ∨ m = 1 ∨ m = 2 ∨ m = 3 ∨ m = 4 ∨ m = 5 ∨ m = 6 ∨ m = 7 ∨ m = 8 ∨ m = 9 ∨ m = 10 ∨ m = 11 := by omega
  rcases this with rfl | rfl | rfl | rfl | rfl | rfl | rfl | rfl | rfl | rfl | rfl | rfl <;> omega
theorem cM_of {n mp : Int} (h : dM (dE n) = mp) : cM n = (mp + 2) % 12 + 1 := by unfold cM; rw [h]
theorem mp12 {m : Int} (h : 0 ≤ m ∧ m ≤ 10) : (m + 1 + 2) % 12 + 1 = ((m + 2) % 12 + 1) % 12 + 1 ∧ (((m + 2) % 12 + 1 < 12 ∧ ((m + 2) % 12 + 1 ≤ 2 ↔ (m + 1 + 2) % 12 + 1 ≤ 2)) ∨ ((m + 2) % 12 + 1 = 12 ∧ (m + 1 + 2) % 12 + 1 ≤ 2)) := by
  have : m = 0 ∨ m = 1 ∨ m = 2 ∨ m = 3 ∨ m = 4 ∨ m = 5 ∨ m = 6 ∨ m = 7 ∨ m = 8 ∨ m = 9 ∨ m = 10 := by omega
  rcases this with rfl | rfl | rfl | rfl | rfl | rfl | rfl | rfl | rfl | rfl | rfl <;> decide
theorem next_day {n : Int} (h : 0 ≤ n ∧ n ≤ 2932895) : nextOk n := by
  have he := dE_b n
  have hy := dY_b he
  have hd := dD_b he
  have hs := dD_s (dE n)
  have hl := e_lt he
  unfold nextOk
  by_cases c0 : dE n = 146096
  · have hE : dE (n + 1) = 0 ∧ (n + 1 + 719468) / 146097 = (n + 719468) / 146097 + 1 := by unfold dE at c0 ⊢; omega
    have m1 : cM n = 2 := by unfold cM; rw [c0]; decide
    have m2 : cM (n + 1) = 3 := by unfold cM; rw [hE.1]; decide
    refine .inr ⟨by unfold cD; rw [hE.1]; decide, by unfold cD; rw [c0]; decide, by rw [m1, m2]; decide, .inl ⟨by rw [m1]; decide, ?_⟩⟩
    unfold cY
    rw [m1, m2, hE.1, hE.2, c0, if_neg (by decide), if_pos (by decide), show dY 146096 = 399 by decide, show dY 0 = 0 by decide]
    omega
  have hE : dE (n + 1) = dE n + 1 ∧ (n + 1 + 719468) / 146097 = (n + 719468) / 146097 := by unfold dE at c0 ⊢; omega
  by_cases c1 : dY (dE n) ≤ 398 ∧ dE n + 1 = sY (dY (dE n) + 1)
  · obtain ⟨a1, a2⟩ := dY_eq (e := dE n + 1) (y := dY (dE n) + 1) (by omega) (by omega) (by omega) (fun _ => by rw [c1.2]; unfold sY; omega)
    have hd2 : dD (dE n) = 364 ∨ dD (dE n) = 365 := by
      have : sY (dY (dE n) + 1) - sY (dY (dE n)) = 365 ∨ sY (dY (dE n) + 1) - sY (dY (dE n)) = 366 := by unfold sY; omega
      omega
    have e0 : dD (dE n + 1) = 0 := by rw [a2]; omega
    have m1 : cM n = 2 := by
      unfold cM dM
      rcases hd2 with x | x <;> rw [x] <;> decide
    have m2 : cM (n + 1) = 3 := by unfold cM dM; rw [hE.1, e0]; decide
    refine .inr ⟨by unfold cD dM; rw [hE.1, e0]; decide, ?_, by rw [m1, m2]; decide, .inl ⟨by rw [m1]; decide, ?_⟩⟩
    · unfold cD dM
      rcases hd2 with x | x <;> rw [x] <;> decide
    · unfold cY
      rw [m1, m2, hE.1, hE.2, a1, if_neg (by decide), if_pos (by decide)]
      omega
  · obtain ⟨a1, a2⟩ := dY_eq (e := dE n + 1) (y := dY (dE n)) (by omega) hy (by omega) (fun c => by have := hl c; omega)
    have a3 : dD (dE n + 1) = dD (dE n) + 1 := by rw [a2]; omega
    have hd3 := dD_b (e := dE n + 1) (by omega)
    rw [a3] at hd3
    have hM : dM (dE n) = (5 * dD (dE n) + 2) / 153 := rfl
    have hM1 : dM (dE n + 1) = (5 * (dD (dE n) + 1) + 2) / 153 := by unfold dM; rw [a3]
    have hm0 := dM_b he
    have hY : ∀ k, cY k = (k + 719468) / 146097 * 400 + dY (dE k) + (if cM k ≤ 2 then 1 else 0) := fun _ => rfl
    rcases next_in (d := dD (dE n)) (by omega) with x | ⟨x1, x2, x3, x4⟩
    · have mm : dM (dE (n + 1)) = dM (dE n) := by rw [hE.1, hM1, x, hM]
      have hcm : cM (n + 1) = cM n := by unfold cM; rw [mm]
      refine .inl ⟨?_, hcm, ?_⟩
      · unfold cD; rw [mm, hE.1, a3]; omega
      · rw [hY, hY, hcm, hE.1, hE.2, a1]
    · rw [← hM] at x1 x2 x3 x4
      have mm : dM (dE (n + 1)) = dM (dE n) + 1 := by rw [hE.1, hM1, x1]
      obtain ⟨k1, k2⟩ := mp12 (m := dM (dE n)) ⟨hm0.1, x2⟩
      have c1' : cM (n + 1) = (dM (dE n) + 1 + 2) % 12 + 1 := cM_of mm
      have c2' : cM n = (dM (dE n) + 2) % 12 + 1 := cM_of rfl
      rw [← c1', ← c2'] at k1 k2
      refine .inr ⟨?_, x4, k1, ?_⟩
      · unfold cD; rw [mm, hE.1, a3]; omega
      · rcases k2 with ⟨g1, g2⟩ | ⟨g1, g2⟩
        · refine .inl ⟨g1, ?_⟩
          rw [hY, hY, hE.1, hE.2, a1]
          by_cases c : cM n ≤ 2
          · rw [if_pos c, if_pos (g2.1 c)]
          · rw [if_neg c, if_neg (fun x => c (g2.2 x))]
        · refine .inr ⟨g1, ?_⟩
          rw [hY, hY, hE.1, hE.2, a1, if_pos g2, if_neg (by omega)]
          omega
end Go.Proofs.YtcmpkkkigmheoaaDoor.D
/-! A time that is written is read as it was, plain. No program in sight. No conditions but those that each names. -/
namespace Go.Proofs.YtcmpkkkigmheoaaDoor.D
open Go Go.Proofs Go.RowKit Go.Proofs.YtcmpkkkigmheoaaDoor.Sh Go.Proofs.YtcmpkkkigmheoaaDoor.Sl Go.Proofs.YtcmpkkkigmheoaaDoor.T
theorem sp_eq {n : Int} (h : okT n) : spD n = ⟨cY (n / 86400), cM (n / 86400), cD (n / 86400), n % 86400 / 3600, n % 3600 / 60, n % 60, (n / 86400 + 4) % 7⟩ := if_pos h
theorem sp_back {n : Int} (h : okT n) : okF (spD n) ∧ jN (spD n) = n := by
  have hT := h
  unfold okT at hT
  have hb := dayN_back (n := n / 86400) (by omega)
  have ok : okF (spD n) := by
    rw [sp_eq h]
    unfold okF
    refine ⟨⟨cY_low (by omega), (cY_b (by omega)).2⟩, cM_b _, cD_b _, by simp only; omega, by simp only; omega, by simp only; omega, ?_⟩
    simp only
    rw [hb]
  refine ⟨ok, ?_⟩
  rw [show jN (spD n) = dayN (spD n).y (spD n).m (spD n).d * 86400 + (spD n).h * 3600 + (spD n).mi * 60 + (spD n).s from if_pos ok, sp_eq h]
  simp only
  rw [hb]
  omega
def noW (x : Dt) : Dt := ⟨x.y, x.m, x.d, x.h, x.mi, x.s, 0⟩
theorem noW_f (x : Dt) : (okF (noW x) ↔ okF x) ∧ jN (noW x) = jN x := ⟨Iff.rfl, rfl⟩
theorem tk_app {a b : List UInt8} {k : Nat} (h : a.length = k) : tkR k (a ++ b) = some (a, b) := by
  unfold tkR
  subst h
  rw [if_pos (by rw [List.length_append]; omega), List.take_left' rfl, List.drop_left' rfl]
theorem nv2 : ∀ n : Fin 100, numV (dg n.1 2 48) = some n.1 := by decide
theorem nv2b : ∀ n : Fin 100, numV (dg n.1 2 32) = some n.1 := by decide
theorem mv : ∀ i : Fin 12, monV (moL.getD i.1 []) = some ((i.1 : Int) + 1) := by decide
theorem d48 (q : Nat) : (if q = 0 ∧ True then (48 : UInt8) else UInt8.ofNat (48 + q % 10)) = UInt8.ofNat (48 + q % 10) := by
  split
  · rename_i h; rw [h.1]; rfl
  · rfl
theorem dg4 (n : Nat) : dg n 4 48 = [UInt8.ofNat (48 + n / 1000 % 10), UInt8.ofNat (48 + n / 100 % 10), UInt8.ofNat (48 + n / 10 % 10), UInt8.ofNat (48 + n % 10)] := by
  have e : dg n 4 48 = [dgAt n 4 48 0, dgAt n 4 48 1, dgAt n 4 48 2, dgAt n 4 48 3] := rfl
  have z : ∀ (q : Nat) (p : Prop) [Decidable p], (if q = 0 ∧ p then (48 : UInt8) else UInt8.ofNat (48 + q % 10)) = UInt8.ofNat (48 + q % 10) := fun q p _ => by
    split
    · rename_i h; rw [h.1]; rfl
    · rfl
  rw [e]
  unfold dgAt
  rw [z, z, z, z]
  simp
theorem fix0_c (c : UInt8) (r : List UInt8) : fix0 (c :: r) = (if c = 32 then 48 else c) :: r := rfl
theorem numF_c (acc : Nat) (c : UInt8) (r : List UInt8) : numF acc (c :: r) = if c.toNat < 48 ∨ 57 < c.toNat then none else numF (10 * acc + (c.toNat - 48)) r := rfl
theorem nv4 {n : Nat} (h : n < 10000) : numV (dg n 4 48) = some n := by
  rw [dg4]
  have b : ∀ q : Nat, (UInt8.ofNat (48 + q % 10)).toNat = 48 + q % 10 := fun q => u8_of _ (by omega)
  have f : ∀ q : Nat, ¬ UInt8.ofNat (48 + q % 10) = 32 := fun q c => by
    have := congrArg UInt8.toNat c
    rw [b] at this
    have e : (32 : UInt8).toNat = 32 := rfl
    omega
  unfold numV
  rw [fix0_c, if_neg (f _), numF_c, b, if_neg (by omega), numF_c, b, if_neg (by omega), numF_c, b, if_neg (by omega), numF_c, b, if_neg (by omega)]
  unfold numF
  congr 1
  omega
theorem num_app {n k : Nat} {fill : UInt8} {b : List UInt8} (h : numV (dg n k fill) = some n) : numR k (dg n k fill ++ b) = some (n, b) := by
  unfold numR
  rw [tk_app (dg_len _ _ _)]
  simp only [h]
theorem mo_len {x : Dt} (h : 1 ≤ x.m ∧ x.m ≤ 12) : (moN x).length = 3 := by
  have : ∀ i : Fin 12, (moL.getD i.1 []).length = 3 := by decide
  exact this ⟨(x.m - 1).toNat, by omega⟩
theorem wd_len {x : Dt} (h : 0 ≤ x.w ∧ x.w ≤ 6) : ((wdN x).take 3).length = 3 ∧ (wdN x).length ≤ 9 ∧ 3 ≤ (wdN x).length := by
  have : ∀ i : Fin 7, ((wdL.getD i.1 []).take 3).length = 3 ∧ (wdL.getD i.1 []).length ≤ 9 ∧ 3 ≤ (wdL.getD i.1 []).length := by decide
  exact this ⟨x.w.toNat, by omega⟩
theorem mon_app {x : Dt} {b : List UInt8} (h : 1 ≤ x.m ∧ x.m ≤ 12) : monR (moN x ++ b) = some (x.m, b) := by
  unfold monR
  rw [tk_app (mo_len h)]
  have := mv ⟨(x.m - 1).toNat, by omega⟩
  have e : monV (moN x) = some x.m := by
    unfold moN
    rw [this]
    congr 1
    simp only
    omega
  simp only [e]
theorem clk_app {x : Dt} {b : List UInt8} (h : okX x) : clkR (clk x ++ b) = some ((x.h.toNat, x.mi.toNat, x.s.toNat), b) := by
  obtain ⟨o1, o2, o3, o4, o5, o6, o7⟩ := h
  have e : clk x ++ b = dg x.h.toNat 2 48 ++ ([58] ++ (dg x.mi.toNat 2 48 ++ ([58] ++ (dg x.s.toNat 2 48 ++ b)))) := by simp [clk]
  rw [e]
  unfold clkR
  rw [num_app (nv2 ⟨x.h.toNat, by omega⟩)]
  simp only [Option.bind_some]
  rw [tk_app (a := [58]) (k := 1) rfl]
  simp only [Option.bind_some]
  rw [num_app (nv2 ⟨x.mi.toNat, by omega⟩)]
  simp only [Option.bind_some]
  rw [tk_app (a := [58]) (k := 1) rfl]
  simp only [Option.bind_some]
  rw [num_app (nv2 ⟨x.s.toNat, by omega⟩)]
  simp only [Option.bind_some]
theorem noW_eq {x : Dt} (h : okX x) : (⟨(x.y.toNat : Int), x.m, (x.d.toNat : Int), (x.h.toNat : Int), (x.mi.toNat : Int), (x.s.toNat : Int), 0⟩ : Dt) = noW x := by
  obtain ⟨o1, o2, o3, o4, o5, o6, o7⟩ := h
  unfold noW
  rw [Int.toNat_of_nonneg o1.1, Int.toNat_of_nonneg (by omega : 0 ≤ x.d), Int.toNat_of_nonneg o4.1, Int.toNat_of_nonneg o5.1, Int.toNat_of_nonneg o6.1]
theorem first_app {x : Dt} (h : okX x) : firstR (fm 0 x) = some (noW x) := by
  have ok := h
  obtain ⟨o1, o2, o3, o4, o5, o6, o7⟩ := h
  have e : fm 0 x = ((wdN x).take 3 ++ [44, 32]) ++ (dg x.d.toNat 2 48 ++ ([32] ++ (moN x ++ ([32] ++ (dg x.y.toNat 4 48 ++ ([32] ++ (clk x ++ [32, 71, 77, 84]))))))) := by
    unfold fm
    rw [if_pos rfl]
    simp only [List.append_assoc]
  rw [e]
  unfold firstR
  rw [tk_app (by rw [List.length_append, (wd_len o7).1]; rfl)]
  simp only [Option.bind_some]
  rw [num_app (nv2 ⟨x.d.toNat, by omega⟩)]
  simp only [Option.bind_some]
  rw [tk_app (a := [32]) (k := 1) rfl]
  simp only [Option.bind_some]
  rw [mon_app o2]
  simp only [Option.bind_some]
  rw [tk_app (a := [32]) (k := 1) rfl]
  simp only [Option.bind_some]
  rw [num_app (nv4 (by omega))]
  simp only [Option.bind_some]
  rw [tk_app (a := [32]) (k := 1) rfl]
  simp only [Option.bind_some]
  rw [clk_app ok]
  simp only [Option.bind_some]
  rw [noW_eq ok]
theorem fm0_len {x : Dt} (h : okX x) : (fm 0 x).length = 29 := by
  unfold fm
  rw [if_pos rfl]
  simp only [List.length_append, dg_len, clk_len, (wd_len h.w).1, mo_len h.m, List.length_cons, List.length_nil]
/-- what a form says is what is tried -/
theorem try_app {n k now : Int} {rd : List UInt8 → Option Dt} (h : okT n) (hr : rd (fm k (spD n)) = some (noW (spD n))) : tryR k now (fm k (spD n)) rd = some n := by
  obtain ⟨h1, h2⟩ := sp_back h
  unfold tryR
  rw [hr]
  simp only
  rw [(noW_f _).2, h2, if_pos ⟨(noW_f _).1.2 h1, rfl⟩]
theorem par_first {n now : Int} (h : okT n) : paR now (fm 0 (spD n)) = some n := by
  unfold paR paF
  have : tryR ((0 : Nat) : Int) now (fm 0 (spD n)) (rdK now 0) = some n := try_app h (first_app (ok_sp h))
  rw [this]
end Go.Proofs.YtcmpkkkigmheoaaDoor.D
/-! Years and months one by one, plain: the same calendar. No program in sight. No conditions but those that each names. -/
namespace Go.Proofs.YtcmpkkkigmheoaaDoor.D
open Go Go.Proofs Go.RowKit Go.Proofs.YtcmpkkkigmheoaaDoor.Sh Go.Proofs.YtcmpkkkigmheoaaDoor.Sl Go.Proofs.YtcmpkkkigmheoaaDoor.T
def leapP (y : Int) : Prop := (y % 4 = 0 ∧ ¬ y % 100 = 0) ∨ y % 400 = 0
instance (y : Int) : Decidable (leapP y) := by unfold leapP; infer_instance
def yrN (y : Int) : Int := if leapP y then 366 else 365
def mlN (y m : Int) : Int := if m = 2 then (if leapP y then 29 else 28) else if m = 4 ∨ m = 6 ∨ m = 9 ∨ m = 11 then 30 else 31
def gN (a : Int) : Int := 365 * a + a / 4 - a / 100 + a / 400
theorem dayN_g (y m d : Int) : dayN y m d = gN (adj y m) + ((153 * ((m + 9) % 12) + 2) / 5 + d - 1) - 719468 := by
  unfold dayN gN
  generalize adj y m = a
  have h1 : a / 4 = 100 * (a / 400) + a % 400 / 4 := by omega
  have h2 : a / 100 = 4 * (a / 400) + a % 400 / 100 := by omega
  have h3 : a = 400 * (a / 400) + a % 400 := by omega
  omega
theorem g_step (y : Int) : gN y = gN (y - 1) + yrN y := by
  by_cases hl : leapP y
  · rw [show yrN y = 366 from if_pos hl]
    unfold leapP at hl
    unfold gN
    omega
  · rw [show yrN y = 365 from if_neg hl]
    unfold leapP at hl
    unfold gN
    omega
theorem adj1 (y : Int) : adj y 1 = y - 1 ∧ adj y 2 = y - 1 := ⟨rfl, rfl⟩
theorem adj3 {y m : Int} (h : 3 ≤ m) : adj y m = y := by unfold adj; rw [if_neg (by omega)]
theorem jan_step (y : Int) : dayN (y + 1) 1 1 = dayN y 1 1 + yrN y := by
  rw [dayN_g, dayN_g, (adj1 _).1, (adj1 _).1]
  have := g_step y
  rw [show y + 1 - 1 = y by omega]
  omega
theorem ml_step {y m : Int} (h : 1 ≤ m ∧ m ≤ 11) : dayN y (m + 1) 1 = dayN y m 1 + mlN y m := by
  rw [dayN_g, dayN_g]
  have hg := g_step y
  by_cases h2 : m = 2
  · subst h2
    rw [(adj1 y).2, adj3 (by decide)]
    unfold mlN
    unfold yrN at hg
    rw [if_pos rfl]
    by_cases hl : leapP y
    · rw [if_pos hl] at hg ⊢; omega
    · rw [if_neg hl] at hg ⊢; omega
  have hm : mlN y m = if m = 4 ∨ m = 6 ∨ m = 9 ∨ m = 11 then 30 else 31 := if_neg h2
  rw [hm]
  by_cases h1 : m = 1
  · subst h1
    rw [(adj1 y).1, show (1 : Int) + 1 = 2 from rfl, (adj1 y).2, if_neg (by decide)]
    omega
  · rw [adj3 (by omega), adj3 (by omega)]
    have : m = 3 ∨ m = 4 ∨ m = 5 ∨ m = 6 ∨ m = 7 ∨ m = 8 ∨ m = 9 ∨ m = 10 ∨ m = 11 := by omega
    rcases this with rfl | rfl | rfl | rfl | rfl | rfl | rfl | rfl | rfl <;> simp <;> omega
theorem dec_step (y : Int) : dayN (y + 1) 1 1 = dayN y 12 1 + mlN y 12 := by
  rw [dayN_g, dayN_g, (adj1 _).1, adj3 (by decide), show mlN y 12 = 31 from rfl, show y + 1 - 1 = y by omega]
  omega
theorem jan_mono {a b : Int} (h : a ≤ b) : dayN a 1 1 ≤ dayN b 1 1 := by
  rw [dayN_g, dayN_g, (adj1 _).1, (adj1 _).1]
  unfold gN
  omega
theorem ml_b (y m : Int) : 28 ≤ mlN y m ∧ mlN y m ≤ 31 := by
  unfold mlN
  split
  · split <;> omega
  · split <;> omega
theorem mon_mono {y m : Int} (h : 1 ≤ m) : ∀ k : Nat, m + k ≤ 12 → dayN y m 1 ≤ dayN y (m + k) 1
  | 0, _ => by simp
  | k + 1, hk => by
    have h1 := mon_mono h (y := y) k (by omega)
    have h2 := ml_step (y := y) (m := m + k) (by omega)
    have h3 := ml_b y (m + k)
    rw [show m + ((k + 1 : Nat) : Int) = m + k + 1 by omega]
    omega
theorem mon_le {y m M : Int} (h : 1 ≤ m) (h1 : m ≤ M) (h2 : M ≤ 12) : dayN y m 1 ≤ dayN y M 1 := by
  have := mon_mono h (y := y) (M - m).toNat (by omega)
  rwa [show m + ((M - m).toNat : Int) = M by omega] at this
/-- a month ends before the next year -/
theorem mon_year {y m : Int} (h : 1 ≤ m ∧ m ≤ 12) : dayN y m 1 + mlN y m ≤ dayN (y + 1) 1 1 := by
  have hd := dec_step y
  by_cases c : m = 12
  · subst c; omega
  · have h1 := ml_step (y := y) (m := m) (by omega)
    have h2 := mon_le (y := y) (m := m + 1) (M := 12) (by omega) (by omega) (by omega)
    have h3 := ml_b y 12
    omega
theorem day1 (y m d : Int) : dayN y m d = dayN y m 1 + (d - 1) := by unfold dayN; omega
theorem cD_ml {n : Int} : cD n ≤ mlN (cY n) (cM n) := by
  have he := dE_b n
  have hy := dY_b he
  have hd := dD_b he
  have hs := dD_s (dE n)
  have hl := e_lt he
  have hm0 := dM_b he
  have hM : 153 * dM (dE n) ≤ 5 * dD (dE n) + 2 ∧ 5 * dD (dE n) + 2 < 153 * dM (dE n) + 153 := by unfold dM; omega
  have hD : cD n = dD (dE n) - (153 * dM (dE n) + 2) / 5 + 1 := rfl
  have hMM : cM n = (dM (dE n) + 2) % 12 + 1 := rfl
  have hY : cY n = (n + 719468) / 146097 * 400 + dY (dE n) + (if cM n ≤ 2 then 1 else 0) := rfl
  by_cases c : dM (dE n) = 11
  · rw [c] at hMM hD
    have h2 : cM n = 2 := by rw [hMM]; decide
    rw [h2, if_pos (by decide)] at hY
    rw [h2, hD]
    unfold mlN
    rw [if_pos rfl]
    by_cases hlp : leapP (cY n)
    · rw [if_pos hlp]; omega
    · rw [if_neg hlp]
      have hq : dY (dE n) ≤ 398 := by
        by_cases c3 : dY (dE n) ≤ 398
        · exact c3
        · exact absurd (show leapP (cY n) by rw [hY]; unfold leapP; omega) hlp
      have h4 := hl hq
      have h5 : sY (dY (dE n) + 1) - sY (dY (dE n)) ≤ 365 := by
        rw [hY] at hlp
        unfold leapP at hlp
        unfold sY
        generalize dY (dE n) = y at *
        generalize (n + 719468) / 146097 = q at *
        have g1 : (q * 400 + y + 1) % 4 = (y + 1) % 4 := by omega
        have g2 : (q * 400 + y + 1) % 100 = (y + 1) % 100 := by omega
        rw [g1, g2] at hlp
        omega
      omega
  · have hnd : ∀ Y : Int, ∀ mp : Int, 0 ≤ mp ∧ mp ≤ 10 → ∀ d : Int, 153 * mp ≤ 5 * d + 2 ∧ 5 * d + 2 < 153 * mp + 153 → d - (153 * mp + 2) / 5 + 1 ≤ mlN Y ((mp + 2) % 12 + 1) := by
      intro Y mp hmp d hd
      have : mp = 0 ∨ mp = 1 ∨ mp = 2 ∨ mp = 3 ∨ mp = 4 ∨ mp = 5 ∨ mp = 6 ∨ mp = 7 ∨ mp = 8 ∨ mp = 9 ∨ mp = 10 := by omega
      rcases this with rfl | rfl | rfl | rfl | rfl | rfl | rfl | rfl | rfl | rfl | rfl <;> unfold mlN <;> simp <;> omega
    rw [hMM, hD]
    exact hnd _ _ (by omega) _ hM
/-- where a day's year begins, where it ends; its month -/
theorem day_in {n : Int} (h : 0 ≤ n) : dayN (cY n) 1 1 ≤ n ∧ n < dayN (cY n + 1) 1 1 ∧ dayN (cY n) (cM n) 1 + (cD n - 1) = n ∧ dayN (cY n) (cM n) 1 ≤ n ∧ n < dayN (cY n) (cM n) 1 + mlN (cY n) (cM n) := by
  have hb := dayN_back h
  rw [day1] at hb
  have hm := cM_b n
  have hd := cD_b n
  have hml := cD_ml (n := n)
  have h1 := mon_le (y := cY n) (m := 1) (M := cM n) (by omega) hm.1 hm.2
  have h2 := mon_year (y := cY n) hm
  omega
end Go.Proofs.YtcmpkkkigmheoaaDoor.D
/-! The document's years, months and dates: what they compute. No conditions but those that each names. -/
namespace Go.Proofs.YtcmpkkkigmheoaaDoor.D
open Go Go.Proofs Go.RowKit Go.Proofs.YtcmpkkkigmheoaaDoor.Sh Go.Proofs.YtcmpkkkigmheoaaDoor.Sl Go.Proofs.YtcmpkkkigmheoaaDoor.T
theorem leap {W : World} {y : Int} (h : 0 ≤ y) : Cn Tryd.prog 49 [.int .i64 y] W [] (fun _ : Unit => .bool (decide (leapP y))) (fun _ => []) := by
  (refine S.ref09_leap_cn fun F => ?_; unfold S.ref09_leap; simp only [List.cons_append, List.nil_append])
  (((with_reducible refine e_opN (v_rem ?h1 ?h2) Imp.nil ?_); (case h1 => omega); (case h2 => omega)))
  refine e_ask v_eql Imp.nil (fun h4 => ?_) (fun h4 => ?_)
  · ((with_reducible refine e_gdT ?_)); ((with_reducible refine e_gdT ?_)); (((with_reducible refine e_opN (v_rem ?h1 ?h2) Imp.nil ?_); (case h1 => omega); (case h2 => omega))); ((with_reducible refine e_gdT ?_))
    refine e_ask v_neq Imp.nil (fun h1 => ?_) (fun h1 => ?_)
    · (((with_reducible refine e_opN v_pickT Imp.nil ?_))); ((with_reducible refine e_gdF1 ?_)); ((with_reducible refine e_gdF1 ?_)); ((with_reducible refine e_gdF1 ?_)); (((with_reducible refine e_opN v_pickT Imp.nil ?_)))
      rw [decide_eq_true (show leapP y from .inl ⟨h4, h1⟩)]
      (first | refine e_ret (()) rfl ?_ | refine e_retT (()) ?_)
      (repeat (first | exact Imp.refl | exact Imp.nil | (apply Imp.pick; (focus ((repeat constructor); done))) | refine Imp.drop ?_))
    · (((with_reducible refine e_opN v_pickT Imp.nil ?_))); ((with_reducible refine e_gdT ?_)); ((with_reducible refine e_gdT ?_)); (((with_reducible refine e_opN (v_rem ?h1 ?h2) Imp.nil ?_); (case h1 => omega); (case h2 => omega))); ((with_reducible refine e_gdT ?_))
      refine e_ask v_eql Imp.nil (fun h5 => ?_) (fun h5 => ?_)
      · (((with_reducible refine e_opN v_pickF Imp.nil ?_)))
        rw [decide_eq_true (show leapP y from .inr h5)]
        (first | refine e_ret (()) rfl ?_ | refine e_retT (()) ?_)
        (repeat (first | exact Imp.refl | exact Imp.nil | (apply Imp.pick; (focus ((repeat constructor); done))) | refine Imp.drop ?_))
      · (((with_reducible refine e_opN v_pickF Imp.nil ?_)))
        rw [decide_eq_false (show ¬ leapP y from fun c => by rcases c with c | c; exact h1 c.2; exact h5 c)]
        (first | refine e_ret (()) rfl ?_ | refine e_retT (()) ?_)
        (repeat (first | exact Imp.refl | exact Imp.nil | (apply Imp.pick; (focus ((repeat constructor); done))) | refine Imp.drop ?_))
  · ((with_reducible refine e_gdF2 ?_)); ((with_reducible refine e_gdF2 ?_)); ((with_reducible refine e_gdF2 ?_)); (((with_reducible refine e_opN v_pickF Imp.nil ?_))); ((with_reducible refine e_gdT ?_)); ((with_reducible refine e_gdT ?_)); (((with_reducible refine e_opN (v_rem ?h1 ?h2) Imp.nil ?_); (case h1 => omega); (case h2 => omega))); ((with_reducible refine e_gdT ?_))
    refine e_ask v_eql Imp.nil (fun h5 => ?_) (fun h5 => ?_)
    · (((with_reducible refine e_opN v_pickF Imp.nil ?_)))
      rw [decide_eq_true (show leapP y from .inr h5)]
      (first | refine e_ret (()) rfl ?_ | refine e_retT (()) ?_)
      (repeat (first | exact Imp.refl | exact Imp.nil | (apply Imp.pick; (focus ((repeat constructor); done))) | refine Imp.drop ?_))
    · (((with_reducible refine e_opN v_pickF Imp.nil ?_)))
      rw [decide_eq_false (show ¬ leapP y from fun c => by rcases c with c | c; exact h4 c.1; exact h5 c)]
      (first | refine e_ret (()) rfl ?_ | refine e_retT (()) ?_)
      (repeat (first | exact Imp.refl | exact Imp.nil | (apply Imp.pick; (focus ((repeat constructor); done))) | refine Imp.drop ?_))
theorem year {W : World} {y : Int} (h : 0 ≤ y) : Cn Tryd.prog 33 [.int .i64 y] W [] (fun _ : Unit => .int .i64 (yrN y)) (fun _ => []) := by
  (refine S.ref09_year_cn fun F => ?_; unfold S.ref09_year; simp only [List.cons_append, List.nil_append])
  (refine' e_call (leap h) ?hp fun _ => ?_; (case hp => (repeat (first | exact Picks.nil | (apply Picks.cons; (focus (repeat constructor)))))); (try simp only [List.cons_append, List.nil_append, Bool.not_true, Bool.not_false]))
  unfold yrN
  by_cases hl : leapP y
  · rw [decide_eq_true hl, if_pos hl]
    ((with_reducible refine e_condT ?_))
    (first | refine e_ret (()) rfl ?_ | refine e_retT (()) ?_)
    (repeat (first | exact Imp.refl | exact Imp.nil | (apply Imp.pick; (focus ((repeat constructor); done))) | refine Imp.drop ?_))
  · rw [decide_eq_false hl, if_neg hl]
    ((with_reducible refine e_condF ?_))
    (first | refine e_ret (()) rfl ?_ | refine e_retT (()) ?_)
    (repeat (first | exact Imp.refl | exact Imp.nil | (apply Imp.pick; (focus ((repeat constructor); done))) | refine Imp.drop ?_))
theorem rdays {W : World} {y m : Int} (h : 0 ≤ y) : Cn Tryd.prog 34 [.int .i64 y, .int .i64 m] W [] (fun _ : Unit => .int .i64 (mlN y m)) (fun _ => []) := by
  (refine S.ref09_days_cn fun F => ?_; unfold S.ref09_days; simp only [List.cons_append, List.nil_append])
  refine e_ask v_eql Imp.nil (fun h2 => ?_) (fun h2 => ?_)
  · ((with_reducible refine e_condT ?_))
    (refine' e_call (leap h) ?hp fun _ => ?_; (case hp => (repeat (first | exact Picks.nil | (apply Picks.cons; (focus (repeat constructor)))))); (try simp only [List.cons_append, List.nil_append, Bool.not_true, Bool.not_false]))
    unfold mlN
    rw [if_pos h2]
    by_cases hl : leapP y
    · rw [decide_eq_true hl, if_pos hl]
      ((with_reducible refine e_condT ?_))
      (first | refine e_ret (()) rfl ?_ | refine e_retT (()) ?_)
      (repeat (first | exact Imp.refl | exact Imp.nil | (apply Imp.pick; (focus ((repeat constructor); done))) | refine Imp.drop ?_))
    · rw [decide_eq_false hl, if_neg hl]
      ((with_reducible refine e_condF ?_))
      (first | refine e_ret (()) rfl ?_ | refine e_retT (()) ?_)
      (repeat (first | exact Imp.refl | exact Imp.nil | (apply Imp.pick; (focus ((repeat constructor); done))) | refine Imp.drop ?_))
  ((with_reducible refine e_condF ?_))
  have hm : mlN y m = if m = 4 ∨ m = 6 ∨ m = 9 ∨ m = 11 then 30 else 31 := if_neg h2
  rw [hm]
  refine e_ask v_eql Imp.nil (fun h4 => ?_) (fun h4 => ?_)
  · rw [if_pos (.inl h4)]
    ((with_reducible refine e_condT ?_)); ((with_reducible refine e_condT ?_))
    (first | refine e_ret (()) rfl ?_ | refine e_retT (()) ?_)
    (repeat (first | exact Imp.refl | exact Imp.nil | (apply Imp.pick; (focus ((repeat constructor); done))) | refine Imp.drop ?_))
  ((with_reducible refine e_condF ?_))
  refine e_ask v_eql Imp.nil (fun h6 => ?_) (fun h6 => ?_)
  · rw [if_pos (.inr (.inl h6))]
    ((with_reducible refine e_condT ?_)); ((with_reducible refine e_condT ?_))
    (first | refine e_ret (()) rfl ?_ | refine e_retT (()) ?_)
    (repeat (first | exact Imp.refl | exact Imp.nil | (apply Imp.pick; (focus ((repeat constructor); done))) | refine Imp.drop ?_))
  ((with_reducible refine e_condF ?_))
  refine e_ask v_eql Imp.nil (fun h9 => ?_) (fun h9 => ?_)
  · rw [if_pos (.inr (.inr (.inl h9)))]
    ((with_reducible refine e_condT ?_)); ((with_reducible refine e_condT ?_))
    (first | refine e_ret (()) rfl ?_ | refine e_retT (()) ?_)
    (repeat (first | exact Imp.refl | exact Imp.nil | (apply Imp.pick; (focus ((repeat constructor); done))) | refine Imp.drop ?_))
  ((with_reducible refine e_condF ?_))
  refine e_ask v_eql Imp.nil (fun h11 => ?_) (fun h11 => ?_)
  · rw [if_pos (.inr (.inr (.inr h11)))]
    ((with_reducible refine e_condT ?_))
    (first | refine e_ret (()) rfl ?_ | refine e_retT (()) ?_)
    (repeat (first | exact Imp.refl | exact Imp.nil | (apply Imp.pick; (focus ((repeat constructor); done))) | refine Imp.drop ?_))
  · rw [if_neg (fun c => by rcases c with c | c | c | c; exact h4 c; exact h6 c; exact h9 c; exact h11 c)]
    ((with_reducible refine e_condF ?_))
    (first | refine e_ret (()) rfl ?_ | refine e_retT (()) ?_)
    (repeat (first | exact Imp.refl | exact Imp.nil | (apply Imp.pick; (focus ((repeat constructor); done))) | refine Imp.drop ?_))
end Go.Proofs.YtcmpkkkigmheoaaDoor.D
/-! The document's date of a time: year by year, month by month. No conditions but those that each names. -/
namespace Go.Proofs.YtcmpkkkigmheoaaDoor.D
open Go Go.Proofs Go.RowKit Go.Proofs.YtcmpkkkigmheoaaDoor.Sh Go.Proofs.YtcmpkkkigmheoaaDoor.Sl Go.Proofs.YtcmpkkkigmheoaaDoor.T
theorem rsplit {W : World} {n : Int} : Cn Tryd.prog 24 [.int .i64 n] W [] (fun _ : Unit => .tuple #[.agg (dtA (spD n)), .int .i64 (spE n)]) (fun _ => []) := by
  have bad : ¬ okT n → spD n = dt0 ∧ spE n = 11 := fun h => ⟨if_neg h, if_neg h⟩
  (refine S.ref09_Split_cn fun F => ?_; unfold S.ref09_Split; simp only [List.cons_append, List.nil_append])
  refine e_newA fun b2 => ?_
  (refine e_ask v_lss Imp.nil (fun h => ?_) (fun h => ?_))
  · have hb := bad (fun c => by unfold okT at c; omega)
    rw [hb.1, hb.2]
    ((with_reducible refine e_gdF1 ?_)); ((with_reducible refine e_gdF1 ?_)); (((with_reducible refine e_opN v_pickT Imp.nil ?_))); ((with_reducible refine e_condT ?_)); (((with_reducible refine e_opN v_rv Imp.nil ?_))); (((with_reducible refine' e_stAgg ?hp ?hn ?hv ?h1 ?_); (case hp => (repeat constructor)); (case hn => rfl); (case hv => rfl); (case h1 => simp [Value.oneCell']))); (((with_reducible refine' e_stS (v_resA ?hn) ?hi ?_); (case hi => (repeat (first | exact Imp.refl | exact Imp.nil | (apply Imp.pick; (focus ((repeat constructor); done))) | refine Imp.drop ?_))); (case hn => rfl)))
    (first | refine e_ret (()) rfl ?_ | refine e_retT (()) ?_)
    (repeat (first | exact Imp.refl | exact Imp.nil | (apply Imp.pick; (focus ((repeat constructor); done))) | refine Imp.drop ?_))
  ((with_reducible refine e_gdT ?_)); ((with_reducible refine e_gdT ?_))
  refine e_ask v_gtr Imp.nil (fun h2 => ?_) (fun h2 => ?_)
  · have hb := bad (fun c => by unfold okT at c; omega)
    rw [hb.1, hb.2]
    (((with_reducible refine e_opN v_pickF Imp.nil ?_))); ((with_reducible refine e_condT ?_)); (((with_reducible refine e_opN v_rv Imp.nil ?_))); (((with_reducible refine' e_stAgg ?hp ?hn ?hv ?h1 ?_); (case hp => (repeat constructor)); (case hn => rfl); (case hv => rfl); (case h1 => simp [Value.oneCell']))); (((with_reducible refine' e_stS (v_resA ?hn) ?hi ?_); (case hi => (repeat (first | exact Imp.refl | exact Imp.nil | (apply Imp.pick; (focus ((repeat constructor); done))) | refine Imp.drop ?_))); (case hn => rfl)))
    (first | refine e_ret (()) rfl ?_ | refine e_retT (()) ?_)
    (repeat (first | exact Imp.refl | exact Imp.nil | (apply Imp.pick; (focus ((repeat constructor); done))) | refine Imp.drop ?_))
  have ok : okT n := ⟨by omega, by omega⟩
  have hT := ok
  unfold okT at hT
  rw [show spE n = 0 from if_pos ok]
  have hN : 0 ≤ n / 86400 ∧ n / 86400 ≤ 2932896 := by omega
  have hsp : spD n = ⟨cY (n / 86400), cM (n / 86400), cD (n / 86400), n / 3600 % 24, n / 60 % 60, n % 60, (n / 86400 + 4) % 7⟩ := by
    rw [sp_eq ok]
    rw [show n % 86400 / 3600 = n / 3600 % 24 by omega, show n % 3600 / 60 = n / 60 % 60 by omega]
  rw [hsp]
  obtain ⟨d1, d2, d3, d4, d5⟩ := day_in (n := n / 86400) hN.1
  have hY0 := cY_low (n := n / 86400) hN.1
  have hY1 := (cY_b (n := n / 86400) hN).2
  have hM := cM_b (n / 86400)
  (((with_reducible refine e_opN v_pickF Imp.nil ?_))); ((with_reducible refine e_condF ?_)); (((with_reducible refine e_opN (v_quo ?h1 ?h2 ?h3) Imp.nil ?_); (case h1 => omega); (case h2 => omega); (case h3 => omega))); (((with_reducible refine e_opN (v_rem ?h1 ?h2) Imp.nil ?_); (case h1 => omega); (case h2 => omega))); (((with_reducible refine e_opN (v_quo ?h1 ?h2 ?h3) Imp.nil ?_); (case h1 => omega); (case h2 => omega); (case h3 => omega))); (((with_reducible refine e_opN (v_rem ?h1 ?h2) Imp.nil ?_); (case h1 => omega); (case h2 => omega))); (((with_reducible refine e_opN (v_rem ?h1 ?h2) Imp.nil ?_); (case h1 => omega); (case h2 => omega))); (((with_reducible refine e_opN v_rv Imp.nil ?_))); (((with_reducible refine e_newA fun g => ?_))); (((with_reducible refine' e_stAgg ?hp ?hn ?hv ?h1 ?_); (case hp => (repeat constructor)); (case hn => rfl); (case hv => rfl); (case h1 => simp [Value.oneCell']))); (((with_reducible refine e_opN (v_quo ?h1 ?h2 ?h3) Imp.nil ?_); (case h1 => omega); (case h2 => omega); (case h3 => omega))); (((with_reducible refine e_opN (v_add ?h1 ?h2) Imp.nil ?_); (case h1 => omega); (case h2 => omega))); (((with_reducible refine e_opN (v_rem ?h1 ?h2) Imp.nil ?_); (case h1 => omega); (case h2 => omega))); (((with_reducible refine e_opN v_fa0 Imp.nil ?_))); (((with_reducible refine' e_stN ?hp ?ho ?_); (case hp => (repeat constructor)); (case ho => (repeat (first | exact Put.here | apply Put.there)))))
  rename Nat => b4
  generalize n / 3600 % 24 = hh
  generalize n / 60 % 60 = mi
  generalize n % 60 = ss
  generalize (n / 86400 + 4) % 7 = ww
  generalize n / 86400 = N at *
  generalize cD N = D at *
  generalize cM N = M at *
  generalize cY N = Y at *
  have j70 : dayN 1970 1 1 = 0 := by decide
  refine e_loop1 (fun m y5 => (ex fun y : Int => all [pu (y5 = .int .i64 (N - dayN y 1 1) ∧ 1970 ≤ y ∧ (m : Int) + y = Y), pt b4 (.cells #[.int .i64 y, .int .i64 1, .int .i64 0, .int .i64 hh, .int .i64 mi, .int .i64 ss, .int .i64 ww] 59)]) :: pt b2 (.cells #[.int .i64 0, .int .i64 0, .int .i64 0, .int .i64 0, .int .i64 0, .int .i64 0, .int .i64 0] 59) :: F) (Y - 1970).toNat ?_ ?_
  · refine .ex 1970 (.all ?_)
    (try simp only [List.cons_append, List.nil_append, -eq_self])
    refine .pu ⟨by rw [j70, Int.sub_zero], by omega, by omega⟩ ?_
    (repeat (first | exact Imp.refl | exact Imp.nil | (apply Imp.pick; (focus ((repeat constructor); done))) | refine Imp.drop ?_))
  intro m ds y5
  (try simp only [List.cons_append, List.nil_append, -eq_self])
  refine e_ex Pick.here fun y => e_all Pick.here ?_
  (try simp only [List.cons_append, List.nil_append, -eq_self])
  refine e_pu Pick.here fun hi => ?_
  obtain ⟨rfl, hy0, hmy⟩ := hi
  have hjs := jan_step y
  have hjy := jan_mono (a := y) (b := Y) (by omega)
  have hj0 := jan_mono (a := 1970) (b := y) (by omega)
  rw [j70] at hj0
  have hyr : 365 ≤ yrN y ∧ yrN y ≤ 366 := by unfold yrN; split <;> omega
  (((with_reducible refine e_opN v_fa0 Imp.nil ?_))); (((with_reducible refine' e_opN (v_ldN ?hc) ?hi ?_); (case hi => (repeat (first | exact Imp.refl | exact Imp.nil | (apply Imp.pick; (focus ((repeat constructor); done))) | refine Imp.drop ?_))); (case hc => (repeat (first | exact Nth.here | apply Nth.there)))))
  (refine' e_call (year (y := y) (by omega)) ?hp fun _ => ?_; (case hp => (repeat (first | exact Picks.nil | (apply Picks.cons; (focus (repeat constructor)))))); (try simp only [List.cons_append, List.nil_append, Bool.not_true, Bool.not_false]))
  refine e_ask v_geq Imp.nil (fun hg => ?_) (fun hg => ?_)
  · have hlt : y < Y := by
      rcases Int.lt_or_le y Y with c | c
      · exact c
      · have : y = Y := by omega
        subst this; omega
    ((with_reducible refine e_condT ?_)); (((with_reducible refine e_opN v_fa0 Imp.nil ?_))); (((with_reducible refine' e_opN (v_ldN ?hc) ?hi ?_); (case hi => (repeat (first | exact Imp.refl | exact Imp.nil | (apply Imp.pick; (focus ((repeat constructor); done))) | refine Imp.drop ?_))); (case hc => (repeat (first | exact Nth.here | apply Nth.there)))))
    (refine' e_call (year (y := y) (by omega)) ?hp fun _ => ?_; (case hp => (repeat (first | exact Picks.nil | (apply Picks.cons; (focus (repeat constructor)))))); (try simp only [List.cons_append, List.nil_append, Bool.not_true, Bool.not_false]))
    (((with_reducible refine e_opN (v_sub ?h1 ?h2) Imp.nil ?_); (case h1 => omega); (case h2 => omega))); (((with_reducible refine e_opN v_fa0 Imp.nil ?_))); (((with_reducible refine' e_opN (v_ldN ?hc) ?hi ?_); (case hi => (repeat (first | exact Imp.refl | exact Imp.nil | (apply Imp.pick; (focus ((repeat constructor); done))) | refine Imp.drop ?_))); (case hc => (repeat (first | exact Nth.here | apply Nth.there))))); (((with_reducible refine e_opN (v_add ?h1 ?h2) Imp.nil ?_); (case h1 => omega); (case h2 => omega))); (((with_reducible refine e_opN v_fa0 Imp.nil ?_))); (((with_reducible refine' e_stN ?hp ?ho ?_); (case hp => (repeat constructor)); (case ho => (repeat (first | exact Put.here | apply Put.there)))))
    refine e_next1 (m - 1) (by omega) (.ex (y + 1) (.all ?_))
    (try simp only [List.cons_append, List.nil_append, -eq_self])
    refine .pu ⟨by congr 1; omega, by omega, by omega⟩ ?_
    (repeat (first | exact Imp.refl | exact Imp.nil | (apply Imp.pick; (focus ((repeat constructor); done))) | refine Imp.drop ?_))
  have hyY : y = Y := by
    rcases Int.lt_or_le y Y with c | c
    · have := jan_mono (a := y + 1) (b := Y) (by omega)
      omega
    · omega
  subst hyY
  clear hmy hjs hyr hg
  ((with_reducible refine e_condF ?_))
  refine e_loop1 (fun m y5 => (ex fun mo : Int => all [pu (y5 = .int .i64 (N - dayN y mo 1) ∧ 1 ≤ mo ∧ (m : Int) + mo = M), pt b4 (.cells #[.int .i64 y, .int .i64 mo, .int .i64 0, .int .i64 hh, .int .i64 mi, .int .i64 ss, .int .i64 ww] 59)]) :: pt b2 (.cells #[.int .i64 0, .int .i64 0, .int .i64 0, .int .i64 0, .int .i64 0, .int .i64 0, .int .i64 0] 59) :: F) (M - 1).toNat ?_ ?_
  · refine .ex 1 (.all ?_)
    (try simp only [List.cons_append, List.nil_append, -eq_self])
    refine .pu ⟨rfl, by omega, by omega⟩ ?_
    (repeat (first | exact Imp.refl | exact Imp.nil | (apply Imp.pick; (focus ((repeat constructor); done))) | refine Imp.drop ?_))
  clear m
  intro m ds2 y5
  (try simp only [List.cons_append, List.nil_append, -eq_self])
  refine e_ex Pick.here fun mo => e_all Pick.here ?_
  (try simp only [List.cons_append, List.nil_append, -eq_self])
  refine e_pu Pick.here fun hi => ?_
  obtain ⟨rfl, hm0, hmm⟩ := hi
  have hmb := ml_b y mo
  have hmy2 := mon_le (y := y) (m := mo) (M := M) hm0 (by omega) hM.2
  have hm1 := mon_le (y := y) (m := 1) (M := mo) (by omega) hm0 (by omega)
  (((with_reducible refine e_opN v_fa0 Imp.nil ?_))); (((with_reducible refine' e_opN (v_ldN ?hc) ?hi ?_); (case hi => (repeat (first | exact Imp.refl | exact Imp.nil | (apply Imp.pick; (focus ((repeat constructor); done))) | refine Imp.drop ?_))); (case hc => (repeat (first | exact Nth.here | apply Nth.there))))); (((with_reducible refine e_opN v_fa0 Imp.nil ?_))); (((with_reducible refine' e_opN (v_ldN ?hc) ?hi ?_); (case hi => (repeat (first | exact Imp.refl | exact Imp.nil | (apply Imp.pick; (focus ((repeat constructor); done))) | refine Imp.drop ?_))); (case hc => (repeat (first | exact Nth.here | apply Nth.there)))))
  (refine' e_call (rdays (y := y) (m := mo) (by omega)) ?hp fun _ => ?_; (case hp => (repeat (first | exact Picks.nil | (apply Picks.cons; (focus (repeat constructor)))))); (try simp only [List.cons_append, List.nil_append, Bool.not_true, Bool.not_false]))
  refine e_ask v_geq Imp.nil (fun hg => ?_) (fun hg => ?_)
  · have hlt : mo < M := by
      rcases Int.lt_or_le mo M with c | c
      · exact c
      · have : mo = M := by omega
        subst this; omega
    have hms := ml_step (y := y) (m := mo) (by omega)
    ((with_reducible refine e_condT ?_)); (((with_reducible refine e_opN v_fa0 Imp.nil ?_))); (((with_reducible refine' e_opN (v_ldN ?hc) ?hi ?_); (case hi => (repeat (first | exact Imp.refl | exact Imp.nil | (apply Imp.pick; (focus ((repeat constructor); done))) | refine Imp.drop ?_))); (case hc => (repeat (first | exact Nth.here | apply Nth.there))))); (((with_reducible refine e_opN v_fa0 Imp.nil ?_))); (((with_reducible refine' e_opN (v_ldN ?hc) ?hi ?_); (case hi => (repeat (first | exact Imp.refl | exact Imp.nil | (apply Imp.pick; (focus ((repeat constructor); done))) | refine Imp.drop ?_))); (case hc => (repeat (first | exact Nth.here | apply Nth.there)))))
    (refine' e_call (rdays (y := y) (m := mo) (by omega)) ?hp fun _ => ?_; (case hp => (repeat (first | exact Picks.nil | (apply Picks.cons; (focus (repeat constructor)))))); (try simp only [List.cons_append, List.nil_append, Bool.not_true, Bool.not_false]))
    (((with_reducible refine e_opN (v_sub ?h1 ?h2) Imp.nil ?_); (case h1 => omega); (case h2 => omega))); (((with_reducible refine e_opN v_fa0 Imp.nil ?_))); (((with_reducible refine' e_opN (v_ldN ?hc) ?hi ?_); (case hi => (repeat (first | exact Imp.refl | exact Imp.nil | (apply Imp.pick; (focus ((repeat constructor); done))) | refine Imp.drop ?_))); (case hc => (repeat (first | exact Nth.here | apply Nth.there))))); (((with_reducible refine e_opN (v_add ?h1 ?h2) Imp.nil ?_); (case h1 => omega); (case h2 => omega))); (((with_reducible refine e_opN v_fa0 Imp.nil ?_))); (((with_reducible refine' e_stN ?hp ?ho ?_); (case hp => (repeat constructor)); (case ho => (repeat (first | exact Put.here | apply Put.there)))))
    refine e_next1 (m - 1) (by omega) (.ex (mo + 1) (.all ?_))
    (try simp only [List.cons_append, List.nil_append, -eq_self])
    refine .pu ⟨by congr 1; omega, by omega, by omega⟩ ?_
    (repeat (first | exact Imp.refl | exact Imp.nil | (apply Imp.pick; (focus ((repeat constructor); done))) | refine Imp.drop ?_))
  have hmM : mo = M := by
    rcases Int.lt_or_le mo M with c | c
    · have h1 := ml_step (y := y) (m := mo) (by omega)
      have h2 := mon_le (y := y) (m := mo + 1) (M := M) (by omega) (by omega) hM.2
      omega
    · omega
  subst hmM
  ((with_reducible refine e_condF ?_)); (((with_reducible refine e_opN (v_add ?h1 ?h2) Imp.nil ?_); (case h1 => omega); (case h2 => omega))); (((with_reducible refine e_opN v_fa0 Imp.nil ?_))); (((with_reducible refine' e_stN ?hp ?ho ?_); (case hp => (repeat constructor)); (case ho => (repeat (first | exact Put.here | apply Put.there))))); (((with_reducible refine' e_opN (v_ldAgg ?hn) ?hi ?_); (case hi => (repeat (first | exact Imp.refl | exact Imp.nil | (apply Imp.pick; (focus ((repeat constructor); done))) | refine Imp.drop ?_))); (case hn => rfl))); (((with_reducible refine' e_stAgg ?hp ?hn ?hv ?h1 ?_); (case hp => (repeat constructor)); (case hn => rfl); (case hv => rfl); (case h1 => simp [Value.oneCell']))); (((with_reducible refine' e_stS (v_resA ?hn) ?hi ?_); (case hi => (repeat (first | exact Imp.refl | exact Imp.nil | (apply Imp.pick; (focus ((repeat constructor); done))) | refine Imp.drop ?_))); (case hn => rfl)))
  rw [show N - dayN y mo 1 + 1 = D by omega]
  (first | refine e_ret (()) rfl ?_ | refine e_retT (()) ?_)
  (repeat (first | exact Imp.refl | exact Imp.nil | (apply Imp.pick; (focus ((repeat constructor); done))) | refine Imp.drop ?_))
end Go.Proofs.YtcmpkkkigmheoaaDoor.D
/-! The document's names, digits, clock: what they compute. No conditions but those that each names. -/
namespace Go.Proofs.YtcmpkkkigmheoaaDoor.D
open Go Go.Proofs Go.RowKit Go.Proofs.YtcmpkkkigmheoaaDoor.Sh Go.Proofs.YtcmpkkkigmheoaaDoor.Sl Go.Proofs.YtcmpkkkigmheoaaDoor.T
theorem dgz (q : Nat) (p : Prop) [Decidable p] : (if q = 0 ∧ p then (48 : UInt8) else UInt8.ofNat (48 + q % 10)) = UInt8.ofNat (48 + q % 10) := by
  split
  · rename_i h; rw [h.1]; rfl
  · rfl
theorem dg2 (n : Nat) : dg n 2 48 = [UInt8.ofNat (48 + n / 10 % 10), UInt8.ofNat (48 + n % 10)] := by
  have e : dg n 2 48 = [dgAt n 2 48 0, dgAt n 2 48 1] := rfl
  rw [e]
  unfold dgAt
  rw [dgz, dgz]
  simp
theorem dg22 (n : Nat) : dg (n / 100) 2 48 ++ dg n 2 48 = dg n 4 48 := by
  rw [dg2, dg2, dg4]
  rw [show n / 100 / 10 = n / 1000 by omega]
  rfl
theorem dg2m (n : Nat) : dg (n % 100) 2 48 = dg n 2 48 := by
  rw [dg2, dg2, show n % 100 / 10 % 10 = n / 10 % 10 by omega, show n % 100 % 10 = n % 10 by omega]
theorem dg2s : ∀ n : Fin 100, dg n.1 2 32 = if n.1 < 10 then 32 :: (dg n.1 2 48).drop 1 else dg n.1 2 48 := by decide
theorem rtwo {W : World} {n : Int} (hn : 0 ≤ n ∧ n ≤ 9223372036854775807) : Cn Tryd.prog 36 [.int .i64 n] W [] (fun _ : Unit => txt (dg n.toNat 2 48)) (fun _ => []) := by
  obtain ⟨k, rfl⟩ := Int.eq_ofNat_of_zero_le hn.1
  have vB : ∀ q : Nat, Value.int .u8 (IntKind.u8.wrap (48 + ((q % 10 : Nat) : Int))) = Sl.B (UInt8.ofNat (48 + q % 10)) := fun q => by
    unfold Sl.B
    rw [u8_of _ (by omega), show (48 : Int) + ((q % 10 : Nat) : Int) = ((48 + q % 10 : Nat) : Int) by omega]
    congr 1
    simp only [IntKind.wrap, IntKind.bits, IntKind.signed]
    simp
    omega
  (refine S.ref09_two_cn fun F => ?_; unfold S.ref09_two; simp only [List.cons_append, List.nil_append])
  (((with_reducible refine e_opN (v_quo ?h1 ?h2 ?h3) Imp.nil ?_); (case h1 => omega); (case h2 => omega); (case h3 => omega))); (((with_reducible refine e_opN (v_rem ?h1 ?h2) Imp.nil ?_); (case h1 => omega); (case h2 => omega))); (((with_reducible refine e_opN (v_add ?h1 ?h2) Imp.nil ?_); (case h1 => omega); (case h2 => omega)))
  rw [show ((k : Int) / 10 % 10) = ((k / 10 % 10 : Nat) : Int) by omega]
  refine e_opN v_conv Imp.nil ?_
  rw [vB]
  (((with_reducible refine e_opN (v_rem ?h1 ?h2) Imp.nil ?_); (case h1 => omega); (case h2 => omega))); (((with_reducible refine e_opN (v_add ?h1 ?h2) Imp.nil ?_); (case h1 => omega); (case h2 => omega)))
  rw [show ((k : Int) % 10) = ((k % 10 : Nat) : Int) by omega]
  refine e_opN v_conv Imp.nil ?_
  rw [vB]
  refine e_bslN (vs := (dg k 2 48).map Sl.B) (by rw [dg2]; rfl) (by rw [dg2]; rfl) (by intro v hv; obtain ⟨c, _, rfl⟩ := List.mem_map.1 hv; rfl) (by omega) fun g => ?_
  refine e_opN (v_str (l := dg k 2 48) (n := 2) (rd_pt (by rw [dg2]; rfl)) (fun c => by cases c)) (.pick (by (repeat constructor)) .nil) ?_
  (first | refine e_ret (()) rfl ?_ | refine e_retT (()) ?_)
  (repeat (first | exact Imp.refl | exact Imp.nil | (apply Imp.pick; (focus ((repeat constructor); done))) | refine Imp.drop ?_))
theorem rclk {W : World} {x : Dt} (ok : okX x) : Cn Tryd.prog 37 [.agg (dtA x)] W [] (fun _ : Unit => txt (clk x)) (fun _ => []) := by
  obtain ⟨o1, o2, o3, o4, o5, o6, o7⟩ := ok
  (refine S.ref09_clock_cn fun F => ?_; unfold S.ref09_clock; simp only [List.cons_append, List.nil_append])
  rw [show (Value.agg (dtA x)) = .agg #[.int .i64 x.y, .int .i64 x.m, .int .i64 x.d, .int .i64 x.h, .int .i64 x.mi, .int .i64 x.s, .int .i64 x.w] from rfl]
  (((with_reducible refine e_boxA fun g => ?_))); ((with_reducible refine e_drS ?_)); (((with_reducible refine e_stS v_fa0 Imp.nil ?_))); (((with_reducible refine' e_stS (v_ldN ?hc) ?hi ?_); (case hi => (repeat (first | exact Imp.refl | exact Imp.nil | (apply Imp.pick; (focus ((repeat constructor); done))) | refine Imp.drop ?_))); (case hc => (repeat (first | exact Nth.here | apply Nth.there))))); (((with_reducible refine e_stD v_fa0 Imp.nil ?_))); (((with_reducible refine' e_stD (v_ldN ?hc) ?hi ?_); (case hi => (repeat (first | exact Imp.refl | exact Imp.nil | (apply Imp.pick; (focus ((repeat constructor); done))) | refine Imp.drop ?_))); (case hc => (repeat (first | exact Nth.here | apply Nth.there))))); (((with_reducible refine e_stD v_fa0 Imp.nil ?_))); (((with_reducible refine' e_stD (v_ldN ?hc) ?hi ?_); (case hi => (repeat (first | exact Imp.refl | exact Imp.nil | (apply Imp.pick; (focus ((repeat constructor); done))) | refine Imp.drop ?_))); (case hc => (repeat (first | exact Nth.here | apply Nth.there)))))
  (refine' e_call (rtwo (n := x.h) (by omega)) ?hp fun _ => ?_; (case hp => (repeat (first | exact Picks.nil | (apply Picks.cons; (focus (repeat constructor)))))); (try simp only [List.cons_append, List.nil_append, Bool.not_true, Bool.not_false]))
  (((with_reducible refine e_obl ?hi ?_); (case hi => (repeat (first | exact Imp.refl | exact Imp.nil | (apply Imp.pick; (focus ((repeat constructor); done))) | refine Imp.drop ?_))))); (((with_reducible refine e_obl ?hi ?_); (case hi => (repeat (first | exact Imp.refl | exact Imp.nil | (apply Imp.pick; (focus ((repeat constructor); done))) | refine Imp.drop ?_))))); (((with_reducible refine e_obl ?hi ?_); (case hi => (repeat (first | exact Imp.refl | exact Imp.nil | (apply Imp.pick; (focus ((repeat constructor); done))) | refine Imp.drop ?_))))); (((with_reducible refine e_obl ?hi ?_); (case hi => (repeat (first | exact Imp.refl | exact Imp.nil | (apply Imp.pick; (focus ((repeat constructor); done))) | refine Imp.drop ?_)))))
  refine e_stD (v_cat (by simp only [List.length_append, List.length_take, dg_len, clk_len, List.length_cons, List.length_nil]; omega)) Imp.nil ?_
  (refine' e_call (rtwo (n := x.mi) (by omega)) ?hp fun _ => ?_; (case hp => (repeat (first | exact Picks.nil | (apply Picks.cons; (focus (repeat constructor)))))); (try simp only [List.cons_append, List.nil_append, Bool.not_true, Bool.not_false]))
  (((with_reducible refine e_obl ?hi ?_); (case hi => (repeat (first | exact Imp.refl | exact Imp.nil | (apply Imp.pick; (focus ((repeat constructor); done))) | refine Imp.drop ?_))))); (((with_reducible refine e_obl ?hi ?_); (case hi => (repeat (first | exact Imp.refl | exact Imp.nil | (apply Imp.pick; (focus ((repeat constructor); done))) | refine Imp.drop ?_))))); (((with_reducible refine e_obl ?hi ?_); (case hi => (repeat (first | exact Imp.refl | exact Imp.nil | (apply Imp.pick; (focus ((repeat constructor); done))) | refine Imp.drop ?_)))))
  refine e_stD (v_cat (by simp only [List.length_append, List.length_take, dg_len, clk_len, List.length_cons, List.length_nil]; omega)) Imp.nil ?_
  refine e_stD (v_cat (by simp only [List.length_append, List.length_take, dg_len, clk_len, List.length_cons, List.length_nil]; omega)) Imp.nil ?_
  (refine' e_call (rtwo (n := x.s) (by omega)) ?hp fun _ => ?_; (case hp => (repeat (first | exact Picks.nil | (apply Picks.cons; (focus (repeat constructor)))))); (try simp only [List.cons_append, List.nil_append, Bool.not_true, Bool.not_false]))
  (((with_reducible refine e_obl ?hi ?_); (case hi => (repeat (first | exact Imp.refl | exact Imp.nil | (apply Imp.pick; (focus ((repeat constructor); done))) | refine Imp.drop ?_))))); (((with_reducible refine e_obl ?hi ?_); (case hi => (repeat (first | exact Imp.refl | exact Imp.nil | (apply Imp.pick; (focus ((repeat constructor); done))) | refine Imp.drop ?_))))); (((with_reducible refine e_obl ?hi ?_); (case hi => (repeat (first | exact Imp.refl | exact Imp.nil | (apply Imp.pick; (focus ((repeat constructor); done))) | refine Imp.drop ?_)))))
  refine e_stS (v_cat (by simp only [List.length_append, List.length_take, dg_len, clk_len, List.length_cons, List.length_nil]; omega)) Imp.nil ?_
  (first | refine e_ret (()) rfl ?_ | refine e_retT (()) ?_)
  (repeat (first | exact Imp.refl | exact Imp.nil | (apply Imp.pick; (focus ((repeat constructor); done))) | refine Imp.drop ?_))
def shL : List (List UInt8) := wdL.map fun w => w.take 3
theorem sh_get {i : Nat} (h : i < 7) : (shL.map txt)[i]? = some (txt ((wdL.getD i []).take 3)) := by
  have : ∀ i : Fin 7, (shL.map txt)[i.1]? = some (txt ((wdL.getD i.1 []).take 3)) := by
    intro i
    have hl : i.1 < wdL.length := i.2
    simp [shL, List.getD_eq_getElem?_getD, hl]
  exact this ⟨i, h⟩
theorem l_get {l : List (List UInt8)} {i : Nat} (h : i < l.length) : (l.map txt)[i]? = some (txt (l.getD i [])) := by
  simp [List.getD_eq_getElem?_getD, h]
theorem txt_cells {l : List (List UInt8)} : ∀ v ∈ l.map txt, v.cells = #[v] := by
  intro v hv; obtain ⟨c, _, rfl⟩ := List.mem_map.1 hv; rfl
theorem names {W : World} : Cn Tryd.prog 35 [] W [] (fun q : Nat × Nat × Nat × Nat => .tuple #[.slice (some ⟨q.1, 0, none⟩) 7 q.2.1, .slice (some ⟨q.2.2.1, 0, none⟩) 7 7, .slice (some ⟨q.2.2.2, 0, none⟩) 12 12])
    (fun q => [Sl 1 9 (some ⟨q.1, 0, none⟩) q.2.1 7 (shL.map txt), pt q.2.2.1 (.cells (wdL.map txt).toArray 9), pt q.2.2.2 (.cells (moL.map txt).toArray 9)]) := by
  (refine S.ref09_names_cn fun F => ?_; unfold S.ref09_names; simp only [List.cons_append, List.nil_append])
  refine e_bslN (vs := wdL.map txt) rfl rfl txt_cells (by omega) fun gl => ?_
  refine e_nil (s := 1) (e := 9) ?_
  refine e_loop2 (fun m y4 y5 => (ex fun st : Nat × Option Addr × Nat => all [pu (m + st.1 = 7 ∧ y4 = .slice st.2.1 st.1 st.2.2 ∧ y5 = .int .i64 (st.1 : Int)), Sl 1 9 st.2.1 st.2.2 st.1 ((shL.take st.1).map txt)]) :: pt gl (.cells (wdL.map txt).toArray 9) :: F) 7 ?_ ?_
  · refine .ex (0, none, 0) (.all ?_)
    (try simp only [List.cons_append, List.nil_append, -eq_self])
    refine .pu ⟨by omega, rfl, rfl⟩ ?_
    (repeat (first | exact Imp.refl | exact Imp.nil | (apply Imp.pick; (focus ((repeat constructor); done))) | refine Imp.drop ?_))
  intro m ds y4 y5
  (try simp only [List.cons_append, List.nil_append, -eq_self])
  refine e_ex Pick.here fun st => e_all Pick.here ?_
  obtain ⟨i, a, c⟩ := st
  (try simp only [List.cons_append, List.nil_append, -eq_self])
  refine e_pu Pick.here fun hi => ?_
  (try dsimp only at hi)
  obtain ⟨hmi, rfl, rfl⟩ := hi
  (try dsimp only)
  refine e_ask v_lss Imp.nil (fun h => ?_) (fun h => ?_)
  · ((with_reducible refine e_condT ?_))
    refine e_opN (v_ia1 i (by rfl) (by omega)) Imp.nil ?_
    refine e_opN (v_ldRd (j := i) (rd_pt (n := 7) (by rfl)) (l_get (l := wdL) (by show _ < 7; omega))) (.pick (by (repeat constructor)) .nil) ?_
    have hl3 := (nm_len (l := wdL) (by decide) (i := i) (by show _ < 7; omega)).1
    refine e_opN (v_ssh 3 (by rfl) hl3) Imp.nil ?_
    refine e_bsl1 fun g1 => ?_
    refine e_app (m := 1) (news := [txt ((wdL.getD i []).take 3)]) (by (repeat constructor)) (src_pt (e' := 9) (by kernel_rfl) .here (by rfl) (by intro u hu; rw [List.mem_singleton.1 (show u ∈ [txt ((wdL.getD i []).take 3)] from hu)]; rfl)) (by omega) (by omega) fun a1 c1 => ?_
    (((with_reducible refine e_opN (v_add ?h1 ?h2) Imp.nil ?_); (case h1 => omega); (case h2 => omega)))
    have hsn : (shL.take (i + 1)).map txt = (shL.take i).map txt ++ [txt ((wdL.getD i []).take 3)] := by
      have hlt : i < shL.length := by show _ < 7; omega
      rw [List.take_succ_eq_append_getElem hlt, List.map_append]
      congr 1
      have := sh_get (i := i) (by omega)
      rw [List.getElem?_map, List.getElem?_eq_getElem hlt] at this
      simpa using this
    refine e_next2 (m - 1) (by omega) (.ex (i + 1, a1, c1) (.all ?_))
    (try simp only [List.cons_append, List.nil_append, -eq_self])
    rw [hsn]
    refine .pu ⟨by omega, rfl, rfl⟩ ?_
    (repeat (first | exact Imp.refl | exact Imp.nil | (apply Imp.pick; (focus ((repeat constructor); done))) | refine Imp.drop ?_))
  · ((with_reducible refine e_condF ?_))
    have hi7 : i = 7 := by omega
    subst hi7
    rw [show shL.take 7 = shL from rfl]
    refine e_bslN (vs := moL.map txt) rfl rfl txt_cells (by omega) fun gm => ?_
    refine e_slsome (.there .here) (by omega) fun g hg => ?_
    subst hg
    refine e_ret (g, c, gl, gm) rfl ?_
    (repeat (first | exact Imp.refl | exact Imp.nil | (apply Imp.pick; (focus ((repeat constructor); done))) | refine Imp.drop ?_))
end Go.Proofs.YtcmpkkkigmheoaaDoor.D
/-! The document's three forms: what they compute. No conditions but those that each names. -/
namespace Go.Proofs.YtcmpkkkigmheoaaDoor.D
open Go Go.Proofs Go.RowKit Go.Proofs.YtcmpkkkigmheoaaDoor.Sh Go.Proofs.YtcmpkkkigmheoaaDoor.Sl Go.Proofs.YtcmpkkkigmheoaaDoor.T
theorem forms {W : World} {x : Dt} (ok : okX x) : Cn Tryd.prog 25 [.agg (dtA x)] W [] (fun _ : Unit => .tuple #[txt (fm 0 x), txt (fm 1 x), txt (fm 2 x)]) (fun _ => []) := by
  have okx := ok
  obtain ⟨o1, o2, o3, o4, o5, o6, o7⟩ := ok
  have hwl : 3 ≤ (wdN x).length ∧ (wdN x).length ≤ 9 := nm_len (l := wdL) (by decide) (by show _ < 7; omega)
  have hml : 3 ≤ (moN x).length ∧ (moN x).length ≤ 9 := nm_len (l := moL) (by decide) (by show _ < 12; omega)
  (refine S.ref09_Forms_cn fun F => ?_; unfold S.ref09_Forms; simp only [List.cons_append, List.nil_append])
  rw [show (Value.agg (dtA x)) = .agg #[.int .i64 x.y, .int .i64 x.m, .int .i64 x.d, .int .i64 x.h, .int .i64 x.mi, .int .i64 x.s, .int .i64 x.w] from rfl]
  (((with_reducible refine e_boxA fun g => ?_)))
  rename Nat => b1
  (refine' e_call (names) ?hp fun _ => ?_; (case hp => (repeat (first | exact Picks.nil | (apply Picks.cons; (focus (repeat constructor)))))); (try simp only [List.cons_append, List.nil_append, Bool.not_true, Bool.not_false]))
  rename_i q
  obtain ⟨gs, gc, gl, gm⟩ := q
  (try dsimp only)
  (((with_reducible refine' e_opN (v_extN ?hc) Imp.nil ?_); (case hc => (repeat (first | exact Nth.here | apply Nth.there))))); (((with_reducible refine' e_opN (v_extN ?hc) Imp.nil ?_); (case hc => (repeat (first | exact Nth.here | apply Nth.there))))); (((with_reducible refine' e_opN (v_extN ?hc) Imp.nil ?_); (case hc => (repeat (first | exact Nth.here | apply Nth.there))))); (((with_reducible refine e_opN v_fa0 Imp.nil ?_))); (((with_reducible refine' e_opN (v_ldN ?hc) ?hi ?_); (case hi => (repeat (first | exact Imp.refl | exact Imp.nil | (apply Imp.pick; (focus ((repeat constructor); done))) | refine Imp.drop ?_))); (case hc => (repeat (first | exact Nth.here | apply Nth.there))))); (((with_reducible refine e_opN (v_sub ?h1 ?h2) Imp.nil ?_); (case h1 => omega); (case h2 => omega)))
  refine e_opN (v_ia1 (x.m - 1).toNat (by omega) (by omega)) Imp.nil ?_
  refine e_opN (v_ldRd (v := txt (moN x)) (j := (x.m - 1).toNat) (rd_pt (n := 12) (by rfl)) (l_get (l := moL) (by show _ < 12; omega))) (.pick (by (repeat constructor)) .nil) ?_
  (((with_reducible refine e_opN v_fa0 Imp.nil ?_))); (((with_reducible refine' e_opN (v_ldN ?hc) ?hi ?_); (case hi => (repeat (first | exact Imp.refl | exact Imp.nil | (apply Imp.pick; (focus ((repeat constructor); done))) | refine Imp.drop ?_))); (case hc => (repeat (first | exact Nth.here | apply Nth.there)))))
  (refine' e_call (rtwo (n := x.d) (by omega)) ?hp fun _ => ?_; (case hp => (repeat (first | exact Picks.nil | (apply Picks.cons; (focus (repeat constructor)))))); (try simp only [List.cons_append, List.nil_append, Bool.not_true, Bool.not_false]))
  have hd2 := dg2s ⟨x.d.toNat, by omega⟩
  (try dsimp only at hd2)
  refine e_cut1 (fun z => pu (z = txt (dg x.d.toNat 2 32)) :: Sl 1 9 (some ⟨gs, 0, none⟩) gc 7 (shL.map txt) :: pt gl (.cells (wdL.map txt).toArray 9) :: pt gm (.cells (moL.map txt).toArray 9) :: pt b1 (.cells #[.int .i64 x.y, .int .i64 x.m, .int .i64 x.d, .int .i64 x.h, .int .i64 x.mi, .int .i64 x.s, .int .i64 x.w] 59) :: F) ?_ ?_
  rotate_left
  · (((with_reducible refine e_opN v_fa0 Imp.nil ?_))); (((with_reducible refine' e_opN (v_ldN ?hc) ?hi ?_); (case hi => (repeat (first | exact Imp.refl | exact Imp.nil | (apply Imp.pick; (focus ((repeat constructor); done))) | refine Imp.drop ?_))); (case hc => (repeat (first | exact Nth.here | apply Nth.there)))))
    refine e_ask v_lss Imp.nil (fun h => ?_) (fun h => ?_)
    · ((with_reducible refine e_condT ?_))
      refine e_opN (v_ssl 1 (by rfl) (by rw [dg_len]; omega)) Imp.nil ?_
      refine e_opN (v_cat (a := [32]) (by simp only [List.length_drop, dg_len, List.length_cons, List.length_nil]; omega)) Imp.nil ?_
      refine e_sat (.pu ?_ ?_)
      · rw [hd2, if_pos (by omega)]; rfl
      · (repeat (first | exact Imp.refl | exact Imp.nil | (apply Imp.pick; (focus ((repeat constructor); done))) | refine Imp.drop ?_))
    · ((with_reducible refine e_condF ?_))
      refine e_sat (.pu ?_ ?_)
      · rw [hd2, if_neg (by omega)]
      · (repeat (first | exact Imp.refl | exact Imp.nil | (apply Imp.pick; (focus ((repeat constructor); done))) | refine Imp.drop ?_))
  clear hd2
  intro ds z
  (try simp only [List.cons_append, List.nil_append, -eq_self])
  refine e_pu .here fun h => ?_
  subst h
  ((with_reducible refine e_drS ?_)); (((with_reducible refine e_stS v_fa0 Imp.nil ?_))); (((with_reducible refine' e_stS (v_ldN ?hc) ?hi ?_); (case hi => (repeat (first | exact Imp.refl | exact Imp.nil | (apply Imp.pick; (focus ((repeat constructor); done))) | refine Imp.drop ?_))); (case hc => (repeat (first | exact Nth.here | apply Nth.there))))); (((with_reducible refine e_stS (v_quo ?h1 ?h2 ?h3) Imp.nil ?_); (case h1 => omega); (case h2 => omega); (case h3 => omega))); (((with_reducible refine e_stD v_fa0 Imp.nil ?_))); (((with_reducible refine' e_stD (v_ldN ?hc) ?hi ?_); (case hi => (repeat (first | exact Imp.refl | exact Imp.nil | (apply Imp.pick; (focus ((repeat constructor); done))) | refine Imp.drop ?_))); (case hc => (repeat (first | exact Nth.here | apply Nth.there)))))
  (refine' e_call (rtwo (n := x.y / 100) (by omega)) ?hp fun _ => ?_; (case hp => (repeat (first | exact Picks.nil | (apply Picks.cons; (focus (repeat constructor)))))); (try simp only [List.cons_append, List.nil_append, Bool.not_true, Bool.not_false]))
  (((with_reducible refine e_obl ?hi ?_); (case hi => (repeat (first | exact Imp.refl | exact Imp.nil | (apply Imp.pick; (focus ((repeat constructor); done))) | refine Imp.drop ?_))))); (((with_reducible refine e_obl ?hi ?_); (case hi => (repeat (first | exact Imp.refl | exact Imp.nil | (apply Imp.pick; (focus ((repeat constructor); done))) | refine Imp.drop ?_)))))
  (refine' e_call (rtwo (n := x.y) (by omega)) ?hp fun _ => ?_; (case hp => (repeat (first | exact Picks.nil | (apply Picks.cons; (focus (repeat constructor)))))); (try simp only [List.cons_append, List.nil_append, Bool.not_true, Bool.not_false]))
  refine e_stS (v_cat (by simp only [List.length_append, List.length_take, dg_len, clk_len, List.length_cons, List.length_nil]; omega)) Imp.nil ?_
  rw [show (x.y / 100).toNat = x.y.toNat / 100 by omega, dg22]
  ((with_reducible refine e_drS ?_)); (((with_reducible refine e_stD v_fa0 Imp.nil ?_))); (((with_reducible refine' e_stD (v_ldN ?hc) ?hi ?_); (case hi => (repeat (first | exact Imp.refl | exact Imp.nil | (apply Imp.pick; (focus ((repeat constructor); done))) | refine Imp.drop ?_))); (case hc => (repeat (first | exact Nth.here | apply Nth.there)))))
  refine e_stD (v_ia1 x.w.toNat (by omega) (by omega)) Imp.nil ?_
  refine e_stD (v_ldSl (v := txt ((wdN x).take 3)) (by rw [Nat.zero_add]; exact sh_get (by omega))) (.pick (by (repeat constructor)) .nil) ?_
  refine e_stD (v_cat (by simp only [List.length_append, List.length_take, dg_len, clk_len, List.length_cons, List.length_nil]; omega)) Imp.nil ?_
  (((with_reducible refine e_stS v_fa0 Imp.nil ?_))); (((with_reducible refine' e_stS (v_ldN ?hc) ?hi ?_); (case hi => (repeat (first | exact Imp.refl | exact Imp.nil | (apply Imp.pick; (focus ((repeat constructor); done))) | refine Imp.drop ?_))); (case hc => (repeat (first | exact Nth.here | apply Nth.there))))); (((with_reducible refine' e_stD (v_ldAgg ?hn) ?hi ?_); (case hi => (repeat (first | exact Imp.refl | exact Imp.nil | (apply Imp.pick; (focus ((repeat constructor); done))) | refine Imp.drop ?_))); (case hn => rfl)))
  (refine' e_call (rtwo (n := x.d) (by omega)) ?hp fun _ => ?_; (case hp => (repeat (first | exact Picks.nil | (apply Picks.cons; (focus (repeat constructor)))))); (try simp only [List.cons_append, List.nil_append, Bool.not_true, Bool.not_false]))
  (((with_reducible refine e_obl ?hi ?_); (case hi => (repeat (first | exact Imp.refl | exact Imp.nil | (apply Imp.pick; (focus ((repeat constructor); done))) | refine Imp.drop ?_))))); (((with_reducible refine e_obl ?hi ?_); (case hi => (repeat (first | exact Imp.refl | exact Imp.nil | (apply Imp.pick; (focus ((repeat constructor); done))) | refine Imp.drop ?_))))); (((with_reducible refine e_obl ?hi ?_); (case hi => (repeat (first | exact Imp.refl | exact Imp.nil | (apply Imp.pick; (focus ((repeat constructor); done))) | refine Imp.drop ?_))))); (((with_reducible refine e_obl ?hi ?_); (case hi => (repeat (first | exact Imp.refl | exact Imp.nil | (apply Imp.pick; (focus ((repeat constructor); done))) | refine Imp.drop ?_))))); (((with_reducible refine e_obl ?hi ?_); (case hi => (repeat (first | exact Imp.refl | exact Imp.nil | (apply Imp.pick; (focus ((repeat constructor); done))) | refine Imp.drop ?_))))); (((with_reducible refine e_obl ?hi ?_); (case hi => (repeat (first | exact Imp.refl | exact Imp.nil | (apply Imp.pick; (focus ((repeat constructor); done))) | refine Imp.drop ?_)))))
  refine e_stD (v_cat (by simp only [List.length_append, List.length_take, dg_len, clk_len, List.length_cons, List.length_nil]; omega)) Imp.nil ?_
  refine e_stD (v_cat (by simp only [List.length_append, List.length_take, dg_len, clk_len, List.length_cons, List.length_nil]; omega)) Imp.nil ?_
  refine e_stD (v_cat (by simp only [List.length_append, List.length_take, dg_len, clk_len, List.length_cons, List.length_nil]; omega)) Imp.nil ?_
  refine e_stD (v_cat (by simp only [List.length_append, List.length_take, dg_len, clk_len, List.length_cons, List.length_nil]; omega)) Imp.nil ?_
  refine e_stD (v_cat (by simp only [List.length_append, List.length_take, dg_len, clk_len, List.length_cons, List.length_nil]; omega)) Imp.nil ?_
  refine e_stD (v_cat (by simp only [List.length_append, List.length_take, dg_len, clk_len, List.length_cons, List.length_nil]; omega)) Imp.nil ?_
  (refine' e_call (rclk okx) ?hp fun _ => ?_; (case hp => (repeat (first | exact Picks.nil | (apply Picks.cons; (focus (repeat constructor)))))); (try simp only [List.cons_append, List.nil_append, Bool.not_true, Bool.not_false]))
  (((with_reducible refine e_obl ?hi ?_); (case hi => (repeat (first | exact Imp.refl | exact Imp.nil | (apply Imp.pick; (focus ((repeat constructor); done))) | refine Imp.drop ?_))))); (((with_reducible refine e_obl ?hi ?_); (case hi => (repeat (first | exact Imp.refl | exact Imp.nil | (apply Imp.pick; (focus ((repeat constructor); done))) | refine Imp.drop ?_))))); (((with_reducible refine e_obl ?hi ?_); (case hi => (repeat (first | exact Imp.refl | exact Imp.nil | (apply Imp.pick; (focus ((repeat constructor); done))) | refine Imp.drop ?_))))); (((with_reducible refine e_obl ?hi ?_); (case hi => (repeat (first | exact Imp.refl | exact Imp.nil | (apply Imp.pick; (focus ((repeat constructor); done))) | refine Imp.drop ?_))))); (((with_reducible refine e_obl ?hi ?_); (case hi => (repeat (first | exact Imp.refl | exact Imp.nil | (apply Imp.pick; (focus ((repeat constructor); done))) | refine Imp.drop ?_))))); (((with_reducible refine e_obl ?hi ?_); (case hi => (repeat (first | exact Imp.refl | exact Imp.nil | (apply Imp.pick; (focus ((repeat constructor); done))) | refine Imp.drop ?_))))); (((with_reducible refine e_obl ?hi ?_); (case hi => (repeat (first | exact Imp.refl | exact Imp.nil | (apply Imp.pick; (focus ((repeat constructor); done))) | refine Imp.drop ?_))))); (((with_reducible refine e_obl ?hi ?_); (case hi => (repeat (first | exact Imp.refl | exact Imp.nil | (apply Imp.pick; (focus ((repeat constructor); done))) | refine Imp.drop ?_))))); (((with_reducible refine e_obl ?hi ?_); (case hi => (repeat (first | exact Imp.refl | exact Imp.nil | (apply Imp.pick; (focus ((repeat constructor); done))) | refine Imp.drop ?_))))); (((with_reducible refine e_obl ?hi ?_); (case hi => (repeat (first | exact Imp.refl | exact Imp.nil | (apply Imp.pick; (focus ((repeat constructor); done))) | refine Imp.drop ?_))))); (((with_reducible refine e_obl ?hi ?_); (case hi => (repeat (first | exact Imp.refl | exact Imp.nil | (apply Imp.pick; (focus ((repeat constructor); done))) | refine Imp.drop ?_)))))
  refine e_stS (v_cat (by simp only [List.length_append, List.length_take, dg_len, clk_len, List.length_cons, List.length_nil]; omega)) Imp.nil ?_
  refine e_stS (v_cat (by simp only [List.length_append, List.length_take, dg_len, clk_len, List.length_cons, List.length_nil]; omega)) Imp.nil ?_
  ((with_reducible refine e_drS ?_)); (((with_reducible refine e_stD v_fa0 Imp.nil ?_))); (((with_reducible refine' e_stD (v_ldN ?hc) ?hi ?_); (case hi => (repeat (first | exact Imp.refl | exact Imp.nil | (apply Imp.pick; (focus ((repeat constructor); done))) | refine Imp.drop ?_))); (case hc => (repeat (first | exact Nth.here | apply Nth.there)))))
  refine e_stD (v_ia1 x.w.toNat (by omega) (by omega)) Imp.nil ?_
  refine e_stD (v_ldRd (v := txt (wdN x)) (j := x.w.toNat) (rd_pt (n := 7) (by rfl)) (l_get (l := wdL) (by show _ < 7; omega))) (.pick (by (repeat constructor)) .nil) ?_
  refine e_stD (v_cat (by simp only [List.length_append, List.length_take, dg_len, clk_len, List.length_cons, List.length_nil]; omega)) Imp.nil ?_
  (((with_reducible refine e_stS v_fa0 Imp.nil ?_))); (((with_reducible refine' e_stS (v_ldN ?hc) ?hi ?_); (case hi => (repeat (first | exact Imp.refl | exact Imp.nil | (apply Imp.pick; (focus ((repeat constructor); done))) | refine Imp.drop ?_))); (case hc => (repeat (first | exact Nth.here | apply Nth.there))))); (((with_reducible refine e_stD v_fa0 Imp.nil ?_))); (((with_reducible refine' e_stD (v_ldN ?hc) ?hi ?_); (case hi => (repeat (first | exact Imp.refl | exact Imp.nil | (apply Imp.pick; (focus ((repeat constructor); done))) | refine Imp.drop ?_))); (case hc => (repeat (first | exact Nth.here | apply Nth.there))))); (((with_reducible refine' e_stD (v_ldAgg ?hn) ?hi ?_); (case hi => (repeat (first | exact Imp.refl | exact Imp.nil | (apply Imp.pick; (focus ((repeat constructor); done))) | refine Imp.drop ?_))); (case hn => rfl)))
  (refine' e_call (rtwo (n := x.d) (by omega)) ?hp fun _ => ?_; (case hp => (repeat (first | exact Picks.nil | (apply Picks.cons; (focus (repeat constructor)))))); (try simp only [List.cons_append, List.nil_append, Bool.not_true, Bool.not_false]))
  (((with_reducible refine e_obl ?hi ?_); (case hi => (repeat (first | exact Imp.refl | exact Imp.nil | (apply Imp.pick; (focus ((repeat constructor); done))) | refine Imp.drop ?_))))); (((with_reducible refine e_obl ?hi ?_); (case hi => (repeat (first | exact Imp.refl | exact Imp.nil | (apply Imp.pick; (focus ((repeat constructor); done))) | refine Imp.drop ?_))))); (((with_reducible refine e_obl ?hi ?_); (case hi => (repeat (first | exact Imp.refl | exact Imp.nil | (apply Imp.pick; (focus ((repeat constructor); done))) | refine Imp.drop ?_))))); (((with_reducible refine e_obl ?hi ?_); (case hi => (repeat (first | exact Imp.refl | exact Imp.nil | (apply Imp.pick; (focus ((repeat constructor); done))) | refine Imp.drop ?_))))); (((with_reducible refine e_obl ?hi ?_); (case hi => (repeat (first | exact Imp.refl | exact Imp.nil | (apply Imp.pick; (focus ((repeat constructor); done))) | refine Imp.drop ?_))))); (((with_reducible refine e_obl ?hi ?_); (case hi => (repeat (first | exact Imp.refl | exact Imp.nil | (apply Imp.pick; (focus ((repeat constructor); done))) | refine Imp.drop ?_))))); (((with_reducible refine e_obl ?hi ?_); (case hi => (repeat (first | exact Imp.refl | exact Imp.nil | (apply Imp.pick; (focus ((repeat constructor); done))) | refine Imp.drop ?_))))); (((with_reducible refine e_obl ?hi ?_); (case hi => (repeat (first | exact Imp.refl | exact Imp.nil | (apply Imp.pick; (focus ((repeat constructor); done))) | refine Imp.drop ?_)))))
  refine e_stD (v_cat (by simp only [List.length_append, List.length_take, dg_len, clk_len, List.length_cons, List.length_nil]; omega)) Imp.nil ?_
  refine e_stD (v_cat (by simp only [List.length_append, List.length_take, dg_len, clk_len, List.length_cons, List.length_nil]; omega)) Imp.nil ?_
  refine e_stD (v_cat (by simp only [List.length_append, List.length_take, dg_len, clk_len, List.length_cons, List.length_nil]; omega)) Imp.nil ?_
  refine e_stD (v_cat (by simp only [List.length_append, List.length_take, dg_len, clk_len, List.length_cons, List.length_nil]; omega)) Imp.nil ?_
  (refine' e_call (rtwo (n := x.y) (by omega)) ?hp fun _ => ?_; (case hp => (repeat (first | exact Picks.nil | (apply Picks.cons; (focus (repeat constructor)))))); (try simp only [List.cons_append, List.nil_append, Bool.not_true, Bool.not_false]))
  (((with_reducible refine e_obl ?hi ?_); (case hi => (repeat (first | exact Imp.refl | exact Imp.nil | (apply Imp.pick; (focus ((repeat constructor); done))) | refine Imp.drop ?_))))); (((with_reducible refine e_obl ?hi ?_); (case hi => (repeat (first | exact Imp.refl | exact Imp.nil | (apply Imp.pick; (focus ((repeat constructor); done))) | refine Imp.drop ?_))))); (((with_reducible refine e_obl ?hi ?_); (case hi => (repeat (first | exact Imp.refl | exact Imp.nil | (apply Imp.pick; (focus ((repeat constructor); done))) | refine Imp.drop ?_))))); (((with_reducible refine e_obl ?hi ?_); (case hi => (repeat (first | exact Imp.refl | exact Imp.nil | (apply Imp.pick; (focus ((repeat constructor); done))) | refine Imp.drop ?_))))); (((with_reducible refine e_obl ?hi ?_); (case hi => (repeat (first | exact Imp.refl | exact Imp.nil | (apply Imp.pick; (focus ((repeat constructor); done))) | refine Imp.drop ?_))))); (((with_reducible refine e_obl ?hi ?_); (case hi => (repeat (first | exact Imp.refl | exact Imp.nil | (apply Imp.pick; (focus ((repeat constructor); done))) | refine Imp.drop ?_))))); (((with_reducible refine e_obl ?hi ?_); (case hi => (repeat (first | exact Imp.refl | exact Imp.nil | (apply Imp.pick; (focus ((repeat constructor); done))) | refine Imp.drop ?_))))); (((with_reducible refine e_obl ?hi ?_); (case hi => (repeat (first | exact Imp.refl | exact Imp.nil | (apply Imp.pick; (focus ((repeat constructor); done))) | refine Imp.drop ?_))))); (((with_reducible refine e_obl ?hi ?_); (case hi => (repeat (first | exact Imp.refl | exact Imp.nil | (apply Imp.pick; (focus ((repeat constructor); done))) | refine Imp.drop ?_))))); (((with_reducible refine e_obl ?hi ?_); (case hi => (repeat (first | exact Imp.refl | exact Imp.nil | (apply Imp.pick; (focus ((repeat constructor); done))) | refine Imp.drop ?_)))))
  refine e_stD (v_cat (by simp only [List.length_append, List.length_take, dg_len, clk_len, List.length_cons, List.length_nil]; omega)) Imp.nil ?_
  refine e_stD (v_cat (by simp only [List.length_append, List.length_take, dg_len, clk_len, List.length_cons, List.length_nil]; omega)) Imp.nil ?_
  (refine' e_call (rclk okx) ?hp fun _ => ?_; (case hp => (repeat (first | exact Picks.nil | (apply Picks.cons; (focus (repeat constructor)))))); (try simp only [List.cons_append, List.nil_append, Bool.not_true, Bool.not_false]))
  (((with_reducible refine e_obl ?hi ?_); (case hi => (repeat (first | exact Imp.refl | exact Imp.nil | (apply Imp.pick; (focus ((repeat constructor); done))) | refine Imp.drop ?_))))); (((with_reducible refine e_obl ?hi ?_); (case hi => (repeat (first | exact Imp.refl | exact Imp.nil | (apply Imp.pick; (focus ((repeat constructor); done))) | refine Imp.drop ?_))))); (((with_reducible refine e_obl ?hi ?_); (case hi => (repeat (first | exact Imp.refl | exact Imp.nil | (apply Imp.pick; (focus ((repeat constructor); done))) | refine Imp.drop ?_))))); (((with_reducible refine e_obl ?hi ?_); (case hi => (repeat (first | exact Imp.refl | exact Imp.nil | (apply Imp.pick; (focus ((repeat constructor); done))) | refine Imp.drop ?_))))); (((with_reducible refine e_obl ?hi ?_); (case hi => (repeat (first | exact Imp.refl | exact Imp.nil | (apply Imp.pick; (focus ((repeat constructor); done))) | refine Imp.drop ?_))))); (((with_reducible refine e_obl ?hi ?_); (case hi => (repeat (first | exact Imp.refl | exact Imp.nil | (apply Imp.pick; (focus ((repeat constructor); done))) | refine Imp.drop ?_))))); (((with_reducible refine e_obl ?hi ?_); (case hi => (repeat (first | exact Imp.refl | exact Imp.nil | (apply Imp.pick; (focus ((repeat constructor); done))) | refine Imp.drop ?_))))); (((with_reducible refine e_obl ?hi ?_); (case hi => (repeat (first | exact Imp.refl | exact Imp.nil | (apply Imp.pick; (focus ((repeat constructor); done))) | refine Imp.drop ?_))))); (((with_reducible refine e_obl ?hi ?_); (case hi => (repeat (first | exact Imp.refl | exact Imp.nil | (apply Imp.pick; (focus ((repeat constructor); done))) | refine Imp.drop ?_))))); (((with_reducible refine e_obl ?hi ?_); (case hi => (repeat (first | exact Imp.refl | exact Imp.nil | (apply Imp.pick; (focus ((repeat constructor); done))) | refine Imp.drop ?_))))); (((with_reducible refine e_obl ?hi ?_); (case hi => (repeat (first | exact Imp.refl | exact Imp.nil | (apply Imp.pick; (focus ((repeat constructor); done))) | refine Imp.drop ?_)))))
  refine e_stS (v_cat (by simp only [List.length_append, List.length_take, dg_len, clk_len, List.length_cons, List.length_nil]; omega)) Imp.nil ?_
  refine e_stS (v_cat (by simp only [List.length_append, List.length_take, dg_len, clk_len, List.length_cons, List.length_nil]; omega)) Imp.nil ?_
  ((with_reducible refine e_drS ?_)); (((with_reducible refine e_stD v_fa0 Imp.nil ?_))); (((with_reducible refine' e_stD (v_ldN ?hc) ?hi ?_); (case hi => (repeat (first | exact Imp.refl | exact Imp.nil | (apply Imp.pick; (focus ((repeat constructor); done))) | refine Imp.drop ?_))); (case hc => (repeat (first | exact Nth.here | apply Nth.there)))))
  refine e_stD (v_ia1 x.w.toNat (by omega) (by omega)) Imp.nil ?_
  refine e_stD (v_ldSl (v := txt ((wdN x).take 3)) (by rw [Nat.zero_add]; exact sh_get (by omega))) (.pick (by (repeat constructor)) .nil) ?_
  refine e_stD (v_cat (by simp only [List.length_append, List.length_take, dg_len, clk_len, List.length_cons, List.length_nil]; omega)) Imp.nil ?_
  refine e_stD (v_cat (by simp only [List.length_append, List.length_take, dg_len, clk_len, List.length_cons, List.length_nil]; omega)) Imp.nil ?_
  refine e_stD (v_cat (by simp only [List.length_append, List.length_take, dg_len, clk_len, List.length_cons, List.length_nil]; omega)) Imp.nil ?_
  refine e_stD (v_cat (by simp only [List.length_append, List.length_take, dg_len, clk_len, List.length_cons, List.length_nil]; omega)) Imp.nil ?_
  refine e_stD (v_cat (by simp only [List.length_append, List.length_take, dg_len, clk_len, List.length_cons, List.length_nil]; omega)) Imp.nil ?_
  (((with_reducible refine' e_stS (v_ldAgg ?hn) ?hi ?_); (case hi => (repeat (first | exact Imp.refl | exact Imp.nil | (apply Imp.pick; (focus ((repeat constructor); done))) | refine Imp.drop ?_))); (case hn => rfl)))
  (refine' e_call (rclk okx) ?hp fun _ => ?_; (case hp => (repeat (first | exact Picks.nil | (apply Picks.cons; (focus (repeat constructor)))))); (try simp only [List.cons_append, List.nil_append, Bool.not_true, Bool.not_false]))
  (((with_reducible refine e_obl ?hi ?_); (case hi => (repeat (first | exact Imp.refl | exact Imp.nil | (apply Imp.pick; (focus ((repeat constructor); done))) | refine Imp.drop ?_))))); (((with_reducible refine e_obl ?hi ?_); (case hi => (repeat (first | exact Imp.refl | exact Imp.nil | (apply Imp.pick; (focus ((repeat constructor); done))) | refine Imp.drop ?_))))); (((with_reducible refine e_obl ?hi ?_); (case hi => (repeat (first | exact Imp.refl | exact Imp.nil | (apply Imp.pick; (focus ((repeat constructor); done))) | refine Imp.drop ?_))))); (((with_reducible refine e_obl ?hi ?_); (case hi => (repeat (first | exact Imp.refl | exact Imp.nil | (apply Imp.pick; (focus ((repeat constructor); done))) | refine Imp.drop ?_))))); (((with_reducible refine e_obl ?hi ?_); (case hi => (repeat (first | exact Imp.refl | exact Imp.nil | (apply Imp.pick; (focus ((repeat constructor); done))) | refine Imp.drop ?_))))); (((with_reducible refine e_obl ?hi ?_); (case hi => (repeat (first | exact Imp.refl | exact Imp.nil | (apply Imp.pick; (focus ((repeat constructor); done))) | refine Imp.drop ?_))))); (((with_reducible refine e_obl ?hi ?_); (case hi => (repeat (first | exact Imp.refl | exact Imp.nil | (apply Imp.pick; (focus ((repeat constructor); done))) | refine Imp.drop ?_))))); (((with_reducible refine e_obl ?hi ?_); (case hi => (repeat (first | exact Imp.refl | exact Imp.nil | (apply Imp.pick; (focus ((repeat constructor); done))) | refine Imp.drop ?_))))); (((with_reducible refine e_obl ?hi ?_); (case hi => (repeat (first | exact Imp.refl | exact Imp.nil | (apply Imp.pick; (focus ((repeat constructor); done))) | refine Imp.drop ?_)))))
  refine e_stS (v_cat (by simp only [List.length_append, List.length_take, dg_len, clk_len, List.length_cons, List.length_nil]; omega)) Imp.nil ?_
  refine e_stS (v_cat (by simp only [List.length_append, List.length_take, dg_len, clk_len, List.length_cons, List.length_nil]; omega)) Imp.nil ?_
  refine e_stS (v_cat (by simp only [List.length_append, List.length_take, dg_len, clk_len, List.length_cons, List.length_nil]; omega)) Imp.nil ?_
  have e0 : fm 0 x = (wdN x).take 3 ++ [44, 32] ++ dg x.d.toNat 2 48 ++ [32] ++ moN x ++ [32] ++ dg x.y.toNat 4 48 ++ [32] ++ clk x ++ [32, 71, 77, 84] := if_pos rfl
  have e1 : fm 1 x = wdN x ++ [44, 32] ++ dg x.d.toNat 2 48 ++ [45] ++ moN x ++ [45] ++ dg x.y.toNat 2 48 ++ [32] ++ clk x ++ [32, 71, 77, 84] := by
    have : fm 1 x = wdN x ++ [44, 32] ++ dg x.d.toNat 2 48 ++ [45] ++ moN x ++ [45] ++ dg (x.y % 100).toNat 2 48 ++ [32] ++ clk x ++ [32, 71, 77, 84] := by unfold fm; rw [if_neg (by decide), if_pos rfl]
    rw [this, show (x.y % 100).toNat = x.y.toNat % 100 by omega, dg2m]
  have e2 : fm 2 x = (wdN x).take 3 ++ [32] ++ moN x ++ [32] ++ dg x.d.toNat 2 32 ++ [32] ++ clk x ++ [32] ++ dg x.y.toNat 4 48 := by unfold fm; rw [if_neg (by decide), if_neg (by decide)]
  rw [e0, e1, e2]
  (first | refine e_ret (()) rfl ?_ | refine e_retT (()) ?_)
  (repeat (first | exact Imp.refl | exact Imp.nil | (apply Imp.pick; (focus ((repeat constructor); done))) | refine Imp.drop ?_))
end Go.Proofs.YtcmpkkkigmheoaaDoor.D
/-! The law DatesFormats: what it does. No conditions but those that each names. -/
namespace Go.Proofs.YtcmpkkkigmheoaaDoor.D
open Go Go.Proofs Go.RowKit Go.Proofs.YtcmpkkkigmheoaaDoor.Sh Go.Proofs.YtcmpkkkigmheoaaDoor.Sl Go.Proofs.YtcmpkkkigmheoaaDoor.T
theorem rformat {W : World} {n : Int} : Cn Tryd.prog 15 [.int .i64 n] W [] (fun _ : Unit => .tuple #[txt (foS n), .int .i64 (spE n)]) (fun _ => []) := by
  (refine S.ref09_Format_cn fun F => ?_; unfold S.ref09_Format; simp only [List.cons_append, List.nil_append])
  (refine' e_call (rsplit (n := n)) ?hp fun _ => ?_; (case hp => (repeat (first | exact Picks.nil | (apply Picks.cons; (focus (repeat constructor)))))); (try simp only [List.cons_append, List.nil_append, Bool.not_true, Bool.not_false]))
  rw [show (Value.agg (dtA (spD n))) = .agg #[.int .i64 (spD n).y, .int .i64 (spD n).m, .int .i64 (spD n).d, .int .i64 (spD n).h, .int .i64 (spD n).mi, .int .i64 (spD n).s, .int .i64 (spD n).w] from rfl]
  (((with_reducible refine' e_opN (v_extN ?hc) Imp.nil ?_); (case hc => (repeat (first | exact Nth.here | apply Nth.there))))); (((with_reducible refine' e_opN (v_extN ?hc) Imp.nil ?_); (case hc => (repeat (first | exact Nth.here | apply Nth.there))))); (((with_reducible refine e_newA fun g => ?_))); (((with_reducible refine' e_stAgg ?hp ?hn ?hv ?h1 ?_); (case hp => (repeat constructor)); (case hn => rfl); (case hv => rfl); (case h1 => simp [Value.oneCell'])))
  (refine e_ask v_neq Imp.nil (fun h => ?_) (fun h => ?_))
  · have hb : ¬ okT n := fun c => h (if_pos c)
    rw [show foS n = [] from if_neg hb]
    ((with_reducible refine e_condT ?_))
    (first | refine e_ret (()) rfl ?_ | refine e_retT (()) ?_)
    (repeat (first | exact Imp.refl | exact Imp.nil | (apply Imp.pick; (focus ((repeat constructor); done))) | refine Imp.drop ?_))
  · have ok : okT n := Decidable.byContradiction fun c => h (by rw [show spE n = 11 from if_neg c]; decide)
    rw [show foS n = fm 0 (spD n) from if_pos ok, show spE n = 0 from if_pos ok]
    ((with_reducible refine e_condF ?_)); (((with_reducible refine' e_opN (v_ldAgg ?hn) ?hi ?_); (case hi => (repeat (first | exact Imp.refl | exact Imp.nil | (apply Imp.pick; (focus ((repeat constructor); done))) | refine Imp.drop ?_))); (case hn => rfl)))
    (refine' e_call (forms (x := spD n) (ok_sp ok)) ?hp fun _ => ?_; (case hp => (repeat (first | exact Picks.nil | (apply Picks.cons; (focus (repeat constructor)))))); (try simp only [List.cons_append, List.nil_append, Bool.not_true, Bool.not_false]))
    (((with_reducible refine' e_opN (v_extN ?hc) Imp.nil ?_); (case hc => (repeat (first | exact Nth.here | apply Nth.there))))); (((with_reducible refine' e_opN (v_extN ?hc) Imp.nil ?_); (case hc => (repeat (first | exact Nth.here | apply Nth.there))))); (((with_reducible refine' e_opN (v_extN ?hc) Imp.nil ?_); (case hc => (repeat (first | exact Nth.here | apply Nth.there)))))
    (first | refine e_ret (()) rfl ?_ | refine e_retT (()) ?_)
    (repeat (first | exact Imp.refl | exact Imp.nil | (apply Imp.pick; (focus ((repeat constructor); done))) | refine Imp.drop ?_))
end Go.Proofs.YtcmpkkkigmheoaaDoor.D
/-! Its own date, as it is written: not changed since; an hour ahead of it: changed; unmodified since then: refused: the law, walked. A tag of at most 1048576 bytes. -/
namespace Go.Proofs.YtcmpkkkigmheoaaDoor.FD
open Go Go.Proofs Go.RowKit Go.Proofs.YtcmpkkkigmheoaaDoor.Sh Go.Proofs.YtcmpkkkigmheoaaDoor.Sl Go.Proofs.YtcmpkkkigmheoaaDoor.T
theorem ims_ev {m : List UInt8} {e : En} {now n : Int} (hh : e.has = true) (hn : D.okT n) : evF m [(nIMS, D.fm 0 (D.spD n))] e now = if lkF m = true ∧ n ≤ now ∧ e.mt ≤ n then 304 else 200 := by
  have v1 : valsF [(nIMS, D.fm 0 (D.spD n))] nIM = [] := by rw [vals_one, if_neg (by decide)]
  have v2 : valsF [(nIMS, D.fm 0 (D.spD n))] nIUS = [] := by rw [vals_one, if_neg (by decide)]
  have v3 : valsF [(nIMS, D.fm 0 (D.spD n))] nINM = [] := by rw [vals_one, if_neg (by decide)]
  have v4 : valsF [(nIMS, D.fm 0 (D.spD n))] nIMS = [D.fm 0 (D.spD n)] := by rw [vals_one, if_pos (by decide)]
  have f2 : firstF [(nIMS, D.fm 0 (D.spD n))] nIUS = ([], false) := by unfold firstF; rw [v2]
  have f4 : firstF [(nIMS, D.fm 0 (D.spD n))] nIMS = (D.fm 0 (D.spD n), true) := by unfold firstF; rw [v4]
  have hp := D.par_first (now := now) hn
  unfold evF st1F st2F t1F t2F daF
  rw [tgs_none v1, tgs_none v3, f2, f4]
  simp only [D.paN, D.paE, hp, hh]
  simp
  by_cases h1 : lkF m = true <;> by_cases h2 : n ≤ now <;> by_cases h3 : e.mt ≤ n <;> simp [h1, h2, h3]
theorem ius_ev {m : List UInt8} {e : En} {now n : Int} (hh : e.has = true) (hn : D.okT n) : evF m [(nIUS, D.fm 0 (D.spD n))] e now = if n < e.mt then 412 else 200 := by
  have v1 : valsF [(nIUS, D.fm 0 (D.spD n))] nIM = [] := by rw [vals_one, if_neg (by decide)]
  have v2 : valsF [(nIUS, D.fm 0 (D.spD n))] nIUS = [D.fm 0 (D.spD n)] := by rw [vals_one, if_pos (by decide)]
  have v3 : valsF [(nIUS, D.fm 0 (D.spD n))] nINM = [] := by rw [vals_one, if_neg (by decide)]
  have v4 : valsF [(nIUS, D.fm 0 (D.spD n))] nIMS = [] := by rw [vals_one, if_neg (by decide)]
  have f2 : firstF [(nIUS, D.fm 0 (D.spD n))] nIUS = (D.fm 0 (D.spD n), true) := by unfold firstF; rw [v2]
  have f4 : firstF [(nIUS, D.fm 0 (D.spD n))] nIMS = ([], false) := by unfold firstF; rw [v4]
  have hp := D.par_first (now := now) hn
  unfold evF st1F st2F t1F t2F daF
  rw [tgs_none v1, tgs_none v3, f2, f4]
  simp only [D.paN, D.paE, hp, hh]
  simp
  by_cases h3 : n < e.mt <;> simp [h3]
theorem condDates {W : World} {e0 : En} {now0 : Int} (hl : e0.tag.2.length ≤ 1048576) : Cn Tryd.prog 5 [vEn e0, .int .i64 now0] W
    [] (fun _ : Unit => .bool true) (fun _ => []) := by
  (refine S.law16_CondDates_cn fun F => ?_; unfold S.law16_CondDates; simp only [List.cons_append, List.nil_append])
  unfold vEn
  refine e_boxA fun g2 => ?_
  refine e_opN v_fa0 Imp.nil ?_
  refine e_stN .here (.there (.there (.there .here))) ?_
  refine e_opN v_fa0 Imp.nil ?_
  refine e_opN (v_ldN (.there (.there .here))) (.pick .here .nil) ?_
  refine e_opN (v_remt (by decide)) Imp.nil ?_
  have t1 : -253402300799 < e0.mt.tmod 253402300799 ∧ e0.mt.tmod 253402300799 < 253402300799 := ⟨Int.lt_tmod_of_pos e0.mt (by decide), Int.tmod_lt_of_pos e0.mt (by decide)⟩
  generalize e0.mt.tmod 253402300799 = r at t1 ⊢
  refine e_opN (v_add (by omega) (by omega)) Imp.nil ?_
  refine e_opN (v_rem (by omega) (by decide)) Imp.nil ?_
  have t2 : 0 ≤ (r + 253402300799) % 253402300799 ∧ (r + 253402300799) % 253402300799 < 253402300799 := by omega
  generalize (r + 253402300799) % 253402300799 = T at t2 ⊢
  refine e_opN v_fa0 Imp.nil ?_
  refine e_stN .here (.there (.there .here)) ?_
  obtain ⟨e, he⟩ : ∃ e : En, e = ⟨e0.tag, T, true⟩ := ⟨_, rfl⟩
  have hc : ([.bool e0.tag.1, txt e0.tag.2, .int .i64 T, .bool true] : List Value).toArray = cEn e := by rw [he]; rfl
  have hh : e.has = true := by rw [he]
  have hmt : e.mt = T := by rw [he]
  rw [hc]
  refine e_opN v_fa0 Imp.nil ?_
  refine e_opN (v_ld (v := .int .i64 e.mt) rfl) (.pick .here .nil) ?_
  refine e_opN v_min Imp.nil ?_
  refine e_opN v_max Imp.nil ?_
  obtain ⟨now, hnow⟩ : ∃ z, z = (if e.mt < (if 253402300799 < now0 then 253402300799 else now0) then (if 253402300799 < now0 then 253402300799 else now0) else e.mt) := ⟨_, rfl⟩
  rw [← hnow]
  have hn : e.mt ≤ now := by
    rw [hnow]
    split <;> omega
  clear hnow
  have ok : D.okT e.mt := by rw [hmt]; exact ⟨by omega, by omega⟩
  have l0 := D.fm0_len (D.ok_sp ok)
  refine e_opN v_fa0 Imp.nil ?_
  refine e_opN (v_ld (v := .int .i64 e.mt) rfl) (.pick .here .nil) ?_
  refine e_call (D.rformat (n := e.mt)) .nil fun _ => ?_
  (try simp only [List.cons_append, List.nil_append, -eq_self])
  rw [show D.spE e.mt = 0 from if_pos ok, show D.foS e.mt = D.fm 0 (D.spD e.mt) from if_pos ok]
  refine e_opN (v_extN (vs := [_, _]) .here) Imp.nil ?_
  refine e_opN (v_extN (vs := [_, _]) (.there .here)) Imp.nil ?_
  refine e_drS ?_
  refine e_stS v_neq Imp.nil ?_
  rw [decide_eq_false (by decide)]
  refine e_gdT ?_
  refine e_gdDT ?_
  refine e_stD (v_ldAgg (cs := cEn e) rfl) (.pick (by (repeat constructor)) .nil) ?_
  refine e_gdT ?_
  refine e_gdT ?_
  refine e_call (one (n := nIMS) (v := D.fm 0 (D.spD e.mt))) .nil fun g => ?_
  (try simp only [List.cons_append, List.nil_append, -eq_self])
  refine e_obl (by (repeat (first | exact Imp.refl | exact Imp.nil | (apply Imp.pick; (focus ((repeat constructor); done))) | refine Imp.drop ?_))) ?_
  refine e_gdT ?_
  refine e_call (own (e := e)) .nil fun _ => ?_
  (try simp only [List.cons_append, List.nil_append, -eq_self])
  refine e_gdT ?_
  refine e_call (evaluate (m := mGET) (l := [(nIMS, D.fm 0 (D.spD e.mt))]) (e := e) (now := now) rdF_sl (by
    simp only [szF]
    rw [l0]; decide)) (.cons .here .nil) fun _ => ?_
  (try simp only [List.cons_append, List.nil_append, -eq_self])
  rw [ims_ev hh ok, if_pos ⟨rfl, hn, Int.le_refl _⟩]
  refine e_gdT ?_
  refine e_stS v_neq Imp.nil ?_
  rw [decide_eq_false (by decide)]
  refine e_stS v_pickF Imp.nil ?_
  refine e_gdT ?_
  refine e_gdDT ?_
  refine e_stD (v_ldAgg (cs := cEn e) rfl) (.pick (by (repeat constructor)) .nil) ?_
  refine e_gdT ?_
  refine e_gdT ?_
  refine e_call (one (n := nIUS) (v := D.fm 0 (D.spD e.mt))) .nil fun g => ?_
  (try simp only [List.cons_append, List.nil_append, -eq_self])
  refine e_obl (by (repeat (first | exact Imp.refl | exact Imp.nil | (apply Imp.pick; (focus ((repeat constructor); done))) | refine Imp.drop ?_))) ?_
  refine e_gdT ?_
  refine e_call (own (e := e)) .nil fun _ => ?_
  (try simp only [List.cons_append, List.nil_append, -eq_self])
  refine e_gdT ?_
  refine e_call (evaluate (m := mGET) (l := [(nIUS, D.fm 0 (D.spD e.mt))]) (e := e) (now := now) rdF_sl (by
    simp only [szF]
    rw [l0]; decide)) (.cons .here .nil) fun _ => ?_
  (try simp only [List.cons_append, List.nil_append, -eq_self])
  rw [ius_ev hh ok, if_neg (by omega)]
  refine e_gdT ?_
  refine e_stS v_neq Imp.nil ?_
  rw [decide_eq_false (by decide)]
  refine e_stS v_pickF Imp.nil ?_
  refine e_condF ?_
  refine e_opN v_fa0 Imp.nil ?_
  refine e_opN (v_ld (v := .int .i64 e.mt) rfl) (.pick (by (repeat constructor)) .nil) ?_
  refine e_opN (v_sub (by omega) (by omega)) Imp.nil ?_
  refine e_call (D.rformat (n := e.mt - 3600)) .nil fun _ => ?_
  (try simp only [List.cons_append, List.nil_append, -eq_self])
  refine e_opN (v_extN (vs := [_, _]) .here) Imp.nil ?_
  refine e_opN (v_extN (vs := [_, _]) (.there .here)) Imp.nil ?_
  refine e_opN v_neq Imp.nil ?_
  by_cases ok2 : D.okT (e.mt - 3600)
  rotate_left
  · rw [show D.spE (e.mt - 3600) = 11 from if_neg ok2, decide_eq_true (by decide)]
    refine e_condT ?_
    refine e_call knows16 .nil fun _ => ?_
    (try simp only [List.cons_append, List.nil_append, -eq_self])
    (first | refine e_ret (()) rfl ?_ | refine e_retT (()) ?_)
    (repeat (first | exact Imp.refl | exact Imp.nil | (apply Imp.pick; (focus ((repeat constructor); done))) | refine Imp.drop ?_))
  have l1 := D.fm0_len (D.ok_sp ok2)
  rw [show D.spE (e.mt - 3600) = 0 from if_pos ok2, show D.foS (e.mt - 3600) = D.fm 0 (D.spD (e.mt - 3600)) from if_pos ok2, decide_eq_false (by decide)]
  refine e_condF ?_
  refine e_drS ?_
  refine e_stD (v_ldAgg (cs := cEn e) rfl) (.pick (by (repeat constructor)) .nil) ?_
  refine e_call (one (n := nIMS) (v := D.fm 0 (D.spD (e.mt - 3600)))) .nil fun g => ?_
  (try simp only [List.cons_append, List.nil_append, -eq_self])
  refine e_obl (by (repeat (first | exact Imp.refl | exact Imp.nil | (apply Imp.pick; (focus ((repeat constructor); done))) | refine Imp.drop ?_))) ?_
  refine e_call (own (e := e)) .nil fun _ => ?_
  (try simp only [List.cons_append, List.nil_append, -eq_self])
  refine e_call (evaluate (m := mGET) (l := [(nIMS, D.fm 0 (D.spD (e.mt - 3600)))]) (e := e) (now := now) rdF_sl (by
    simp only [szF]
    rw [l1]; decide)) (.cons .here .nil) fun _ => ?_
  (try simp only [List.cons_append, List.nil_append, -eq_self])
  rw [ims_ev hh ok2, if_neg (by omega)]
  refine e_stS v_eql Imp.nil ?_
  rw [decide_eq_true (by decide)]
  refine e_gdT ?_
  refine e_gdDT ?_
  refine e_stD (v_ldAgg (cs := cEn e) rfl) (.pick (by (repeat constructor)) .nil) ?_
  refine e_gdT ?_
  refine e_gdT ?_
  refine e_call (one (n := nIUS) (v := D.fm 0 (D.spD (e.mt - 3600)))) .nil fun g => ?_
  (try simp only [List.cons_append, List.nil_append, -eq_self])
  refine e_obl (by (repeat (first | exact Imp.refl | exact Imp.nil | (apply Imp.pick; (focus ((repeat constructor); done))) | refine Imp.drop ?_))) ?_
  refine e_gdT ?_
  refine e_call (own (e := e)) .nil fun _ => ?_
  (try simp only [List.cons_append, List.nil_append, -eq_self])
  refine e_gdT ?_
  refine e_call (evaluate (m := mPUT) (l := [(nIUS, D.fm 0 (D.spD (e.mt - 3600)))]) (e := e) (now := now) rdF_sl (by
    simp only [szF]
    rw [l1]; decide)) (.cons .here .nil) fun _ => ?_
  (try simp only [List.cons_append, List.nil_append, -eq_self])
  rw [ius_ev hh ok2, if_pos (by omega)]
  refine e_gdT ?_
  refine e_stS v_eql Imp.nil ?_
  rw [decide_eq_true (by decide)]
  refine e_stS v_pickT Imp.nil ?_
  refine e_gdT ?_
  refine e_call knows16 .nil fun _ => ?_
  (try simp only [List.cons_append, List.nil_append, -eq_self])
  refine e_stS v_pickT Imp.nil ?_
  (first | refine e_ret (()) rfl ?_ | refine e_retT (()) ?_)
  (repeat (first | exact Imp.refl | exact Imp.nil | (apply Imp.pick; (focus ((repeat constructor); done))) | refine Imp.drop ?_))
end Go.Proofs.YtcmpkkkigmheoaaDoor.FD
