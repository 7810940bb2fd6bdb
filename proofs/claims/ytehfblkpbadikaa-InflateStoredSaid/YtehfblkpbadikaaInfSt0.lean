/- The law InflateStored: what it does. No conditions but those that each names. -/
import Derived.Test.YtehfblkpbadikaaInfSt
set_option linter.unusedVariables false
set_option linter.unusedSimpArgs false
namespace Go.Proofs.Ytehfblkpbadikaa.IF
open Go Go.Proofs Go.RowKit Go.Proofs.Ytehfblkpbadikaa.Sh Go.Proofs.Ytehfblkpbadikaa.Sl Go.Proofs.Ytehfblkpbadikaa.T Go.Proofs.Ytehfblkpbadikaa.HM Go.Proofs.Ytehfblkpbadikaa.HF Go.Proofs.Ytehfblkpbadikaa.B Go.Proofs.Ytehfblkpbadikaa.M
/-- bytes that stand somewhere -/
abbrev Bs := List UInt8 × (Option Addr × Nat)
def bsV (x : Bs) : Value := .slice x.2.1 x.1.length x.2.2
structure BsOk (W : World) (x : Bs) : Prop where
  c : x.1.length ≤ x.2.2
  n : x.2.1 = none → x.1.length = 0
  r : ∀ A, RdB W A x.2.1 x.1.length (x.1.map Sl.B)
theorem open_bss {P : Program} {H : Type} {enc : TypeId × Value → H} {W : World} {t e f : TypeId} {sp : Nat → Bool} {held : Bool} {v : Value} {d : DataW H} {ps : List MemPlace} {r : Reach} {b0 : Nat} (ht : P.underlying t = some (.slice e)) (hc : P.cellsOf e = 1) (he : P.underlying e = some (.slice f)) (hf : P.cellsOf f = 1) (hg : P.underlying f = some (.int .u8)) (hval : Value.okWide P W r b0 t v) (hd : DataW.Trod enc P W 0 sp held t v d ps) :
    ∃ (a : Option Addr) (c : Nat) (l : List Bs), v = .slice a l.length c ∧ l.length ≤ c ∧ (a = none → l.length = 0) ∧ (∀ A, RdB W A a l.length (l.map bsV)) ∧ ∀ x ∈ l, BsOk W x := by
  obtain ⟨fuel, hfu⟩ := open_slice (e := e) ht hval hd
  obtain ⟨a, n, c, l, e1, g1, g2, g3, g4, g5⟩ := open_old (rd := fun (x : Bs) cs => cs = [bsV x] ∧ BsOk W x) (m := fun _ => 0) ht hc (by omega) (fun n cs x hx => by
    obtain ⟨a, cap, b, rfl, h1, h2, h3, h4, h5⟩ := open_bytes he hf hg hx
    exact ⟨(b, (a, cap)), ⟨rfl, ⟨h1, h3, h4⟩⟩, by simp⟩) hfu
  have hl := g4.len
  subst hl
  refine ⟨a, c, l, by injection e1, g1, fun x => (g3 x).1, fun A => ⟨by simp, fun hn => ?_⟩, fun x hx => ?_⟩
  · obtain ⟨g, o, rfl, hg, hcc⟩ := g4.at_ hn
    refine ⟨g, o, rfl, fun w L hw j v hv => ?_⟩
    rw [List.getElem?_map] at hv
    have hj : j < l.length := by
      rcases Nat.lt_or_ge j l.length with c | c
      · exact c
      · rw [List.getElem?_eq_none c] at hv; cases hv
    obtain ⟨cs, h1, ⟨h2, _⟩, h3⟩ := hcc j hj
    rw [h2] at h3
    have := h3 0 (bsV l[j]) rfl
    rw [List.getElem?_eq_getElem hj] at hv
    have hv' : bsV l[j] = v := Option.some.inj hv
    rw [hw.base.cell (p := ⟨g, o + j, none⟩) hg, ← hv']
    simpa using this
  · obtain ⟨i, hi, rfl⟩ := List.mem_iff_getElem.1 hx
    obtain ⟨g, o, rfl, hg, hcc⟩ := g4.at_ (by omega)
    obtain ⟨cs, h1, ⟨_, h2⟩, h3⟩ := hcc i hi
    exact h2
theorem cut_facts {W : World} {a : Option Addr} {cap m n : Nat} {cs : List Value} (hr : ∀ A, RdB W A a m cs) (ha : a = none → m = 0) (hn : n ≤ m) (hc : m ≤ cap) :
    (∀ A, RdB W A (if cap = 0 then a else a.map (·.add (0 * 1))) n (cs.take n)) ∧ ((if cap = 0 then a else a.map (·.add (0 * 1))) = none → n = 0) := by
  refine ⟨fun A => ?_, fun c => ?_⟩
  · have := (hr A).cut (cap := cap) (l := 0) (h := n) (by omega) hn hc
    rwa [Nat.sub_zero, List.drop_zero] at this
  · split at c
    · have := ha c; omega
    · cases a with
      | none => have := ha rfl; omega
      | some x => cases c
theorem bs_src {P : Program} {W : World} {t e : TypeId} {a : Option Addr} {cap : Nat} {b : List UInt8} (hk : P.underlying t = some (.slice e)) (hr : ∀ A, RdB W A a b.length (b.map Sl.B)) (ha : a = none → b.length = 0) :
    ∀ L w, sat W L w → Src P 1 t (.slice a b.length cap) b.length (b.map Sl.B) w := fun L w hw =>
  src_rd (L := pu True :: L) (L' := L) (A := pu True) hk .here (hr _) ha B_one w ((Imp.pu trivial .refl).sat hw)
theorem encS_snoc (xs : List (List UInt8)) (x : List UInt8) : encS (xs ++ [x]) = encS xs ++ (hdr 0 x.length ++ x) := by simp [encS]
theorem inflateStored {W : World} {a : Option Addr} {c : Nat} {l : List Bs} (hr : ∀ A, RdB W A a l.length (l.map bsV)) (ha : a = none → l.length = 0) (hc : l.length ≤ c) (hx : ∀ x ∈ l, BsOk W x) :
    Cn Try.prog 9 [.slice a l.length c] W [] (fun _ : Unit => .bool true) (fun _ => []) := by
  have nn : ∀ {x : Option Addr} {k : Nat}, (0 < k → ∃ g, x = some ⟨g, 0, none⟩) → x = none → k = 0 := fun {x} {k} hx c => by
    rcases Nat.eq_zero_or_pos k with z | z
    · exact z
    · obtain ⟨_, e⟩ := hx z; rw [c] at e; cases e
  (refine S.law05_InflateStored_cn fun F => ?_; unfold S.law05_InflateStored; simp only [List.cons_append, List.nil_append])
  refine e_cut1 (fun z => (ex fun q : Option Addr × Nat => pu (z = .slice q.1 (l.take 20).length q.2 ∧ ∀ A, RdB W A q.1 (l.take 20).length ((l.take 20).map bsV))) :: F) ?_ ?_
  rotate_left
  · (((with_reducible refine e_opN v_len Imp.nil ?_)))
    (refine e_ask v_gtr Imp.nil (fun h => ?_) (fun h => ?_))
    · refine e_condT ?_
      refine e_opN (v_slh 20 (by rfl) (by omega)) Imp.nil ?_
      have h20 : (l.take 20).length = 20 := by rw [List.length_take]; omega
      refine e_sat (.ex (_, c) (.pu ⟨by rw [h20], fun A => ?_⟩ .refl))
      rw [h20, List.map_take]
      exact (cut_facts hr ha (by omega) hc).1 A
    · refine e_condF ?_
      have h20 : l.take 20 = l := List.take_of_length_le (by omega)
      refine e_sat (.ex (a, c) (.pu ⟨by rw [h20], fun A => ?_⟩ .refl))
      rw [h20]
      exact hr A
  have hxs : ∀ x ∈ l.take 20, BsOk W x := fun x h => hx x (List.mem_of_mem_take h)
  have hle : (l.take 20).length ≤ 20 := List.length_take_le _ _
  clear hr ha hc hx
  generalize l.take 20 = xs at hxs hle ⊢
  intro ds z
  (try simp only [List.cons_append, List.nil_append, -eq_self])
  refine e_ex Pick.here fun q => e_pu Pick.here fun h => ?_
  obtain ⟨za, zc⟩ := q
  obtain ⟨rfl, hr⟩ := h
  (try dsimp only)
  obtain ⟨ps, hps⟩ : ∃ p : List (List UInt8), p = xs.map fun x => x.1.take 30000 := ⟨_, rfl⟩
  have hpl : ps.length = xs.length := by rw [hps]; simp
  have hp3 : ∀ p ∈ ps, p.length ≤ 30000 := fun p hp => by
    rw [hps] at hp
    obtain ⟨x, _, rfl⟩ := List.mem_map.1 hp
    exact List.length_take_le _ _
  have hb : ∀ i, (ps.take i).flatten.length ≤ 600000 ∧ (encS (ps.take i)).length ≤ 600100 := fun i => by
    have h1 := flat_le (xs := ps.take i) (m := 30000) fun x h => hp3 x (List.mem_of_mem_take h)
    have h2 := encS_len (ps.take i)
    have h3 : (ps.take i).length ≤ 20 := by rw [List.length_take]; omega
    omega
  refine e_nil (s := 1) (e := 5) ?_
  refine e_nil (s := 1) (e := 5) ?_
  refine e_loop3 (fun m y3 y4 y5 => (ex fun st : Nat × (Option Addr × Nat) × (Option Addr × Nat) => all [pu (m + st.1 = xs.length ∧ y3 = .slice st.2.1.1 (encS (ps.take st.1)).length st.2.1.2 ∧ y4 = .slice st.2.2.1 (ps.take st.1).flatten.length st.2.2.2 ∧ y5 = .int .i64 (st.1 : Int)), Sl 1 5 st.2.1.1 st.2.1.2 (encS (ps.take st.1)).length ((encS (ps.take st.1)).map Sl.B), Sl 1 5 st.2.2.1 st.2.2.2 (ps.take st.1).flatten.length ((ps.take st.1).flatten.map Sl.B)]) :: F) xs.length ?_ ?_
  · refine .ex (0, (none, 0), (none, 0)) (.all ?_)
    (try simp only [List.cons_append, List.nil_append, -eq_self])
    refine .pu ⟨by omega, rfl, rfl, rfl⟩ ?_
    (repeat (first | exact Imp.refl | exact Imp.nil | (apply Imp.pick; (focus ((repeat constructor); done))) | refine Imp.drop ?_))
  intro m ds y3 y4 y5
  (try simp only [List.cons_append, List.nil_append, -eq_self])
  refine e_ex Pick.here fun st => e_all Pick.here ?_
  obtain ⟨i, ⟨ba, bc⟩, ⟨wa, wc⟩⟩ := st
  (try simp only [List.cons_append, List.nil_append, -eq_self])
  refine e_pu Pick.here fun hi => ?_
  (try dsimp only at hi)
  obtain ⟨hmi, rfl, rfl, rfl⟩ := hi
  (try dsimp only)
  obtain ⟨hb1, hb2⟩ := hb i
  (((with_reducible refine e_opN v_len Imp.nil ?_)))
  (refine e_ask v_lss Imp.nil (fun h => ?_) (fun h => ?_))
  · have hil : i < xs.length := by omega
    refine e_condT ?_
    have hR := hr (pu True)
    obtain ⟨g0, o0, rfl, _⟩ := hR.at_ (by omega)
    have hv : (xs.map bsV)[i]? = some (bsV xs[i]) := by rw [List.getElem?_map, List.getElem?_eq_getElem hil]; rfl
    refine e_opN (v_ia1 i (by rfl) hil) Imp.nil ?_
    refine e_opN (v_ldRd (j := i) hR hv) (.pu trivial .nil) ?_
    have hok := hxs xs[i] (List.getElem_mem hil)
    have hpi : ps[i]'(by omega) = xs[i].1.take 30000 := by simp [hps]
    have hsn : ps.take (i + 1) = ps.take i ++ [xs[i].1.take 30000] := by rw [List.take_succ_eq_append_getElem (by omega), hpi]
    generalize xs[i] = x at hok hsn ⊢
    obtain ⟨xb, xa, xc⟩ := x
    obtain ⟨k1, k2, k3⟩ := hok
    (try dsimp only at k1 k2 k3 hsn)
    unfold bsV
    (try dsimp only)
    obtain ⟨pp, hpp⟩ : ∃ x, x = xb.take 30000 := ⟨_, rfl⟩
    have hp30 : pp.length ≤ 30000 := by rw [hpp]; exact List.length_take_le _ _
    rw [← hpp] at hsn
    refine e_cut1 (fun z => (ex fun q : Option Addr × Nat => pu (z = .slice q.1 pp.length q.2 ∧ (q.1 = none → pp.length = 0) ∧ ∀ A, RdB W A q.1 pp.length (pp.map Sl.B))) :: Sl 1 5 ba bc (encS (ps.take i)).length ((encS (ps.take i)).map Sl.B) :: Sl 1 5 wa wc (ps.take i).flatten.length ((ps.take i).flatten.map Sl.B) :: F) ?_ ?_
    rotate_left
    · (((with_reducible refine e_opN v_len Imp.nil ?_)))
      (refine e_ask v_gtr Imp.nil (fun h => ?_) (fun h => ?_))
      · refine e_condT ?_
        refine e_opN (v_slh 30000 (by rfl) (by omega)) Imp.nil ?_
        have h20 : pp.length = 30000 := by rw [hpp, List.length_take]; omega
        have hcf := cut_facts k3 k2 (n := 30000) (by omega) k1
        rw [← List.map_take, ← hpp] at hcf
        refine e_sat (.ex (_, xc) (.pu ⟨by rw [h20], ?_, fun A => ?_⟩ .refl))
        · rw [h20]; exact hcf.2
        · rw [h20]; exact hcf.1 A
      · refine e_condF ?_
        have h20 : pp = xb := by rw [hpp]; exact List.take_of_length_le (by omega)
        rw [h20]
        refine e_sat (.ex (xa, xc) (.pu ⟨rfl, k2, k3⟩ .refl))
    clear hpp k1 k2 k3
    intro ds2 z2
    (try simp only [List.cons_append, List.nil_append, -eq_self])
    refine e_ex Pick.here fun q => e_pu Pick.here fun h => ?_
    obtain ⟨pa, pc⟩ := q
    obtain ⟨rfl, hpn, hpr⟩ := h
    (try dsimp only)
    (try dsimp only at hpn hpr)
    have w8 : ∀ k : Nat, IntKind.u8.wrap (k : Int) = ((k % 256 : Nat) : Int) := fun k => by
      simp only [IntKind.wrap, IntKind.bits, IntKind.signed]
      simp
    have vB : ∀ k : Nat, k < 256 → Value.int .u8 (k : Int) = Sl.B (UInt8.ofNat k) := fun k hk => by unfold Sl.B; rw [u8_of k hk]
    (((with_reducible refine e_opN v_len Imp.nil ?_)))
    refine e_opN v_conv Imp.nil ?_
    rw [w8, vB _ (by omega)]
    refine e_opN (v_shr (by omega)) Imp.nil ?_
    rw [show ((8 : Int).toNat) = ((8 : Nat) : Int).toNat from rfl, shr_nat (by omega)]
    refine e_opN v_conv Imp.nil ?_
    rw [w8, vB _ (by omega), show pp.length / 2 ^ 8 = pp.length / 256 from rfl]
    (((with_reducible refine e_opN (v_rem ?h1 ?h2) Imp.nil ?_); (case h1 => omega); (case h2 => omega))); (((with_reducible refine e_opN (v_sub ?h1 ?h2) Imp.nil ?_); (case h1 => omega); (case h2 => omega)))
    rw [show (255 : Int) - (pp.length : Int) % 256 = ((255 - pp.length % 256 : Nat) : Int) by omega]
    refine e_opN v_conv Imp.nil ?_
    rw [w8, vB _ (by omega), show (255 - pp.length % 256) % 256 = 255 - pp.length % 256 by omega]
    (((with_reducible refine e_opN (v_quo ?h1 ?h2 ?h3) Imp.nil ?_); (case h1 => omega); (case h2 => omega); (case h3 => omega))); (((with_reducible refine e_opN (v_sub ?h1 ?h2) Imp.nil ?_); (case h1 => omega); (case h2 => omega)))
    rw [show (255 : Int) - (pp.length : Int) / 256 = ((255 - pp.length / 256 : Nat) : Int) by omega]
    refine e_opN v_conv Imp.nil ?_
    rw [w8, vB _ (by omega), show (255 - pp.length / 256) % 256 = 255 - pp.length / 256 by omega]
    refine e_bslN (vs := (hdr 0 pp.length).map Sl.B) rfl rfl (by intro v hv; obtain ⟨c, _, rfl⟩ := List.mem_map.1 hv; rfl) (by omega) fun g => ?_
    refine e_app (m := 5) (news := (hdr 0 pp.length).map Sl.B) (by (repeat constructor)) (src_pt (e' := 5) (by kernel_rfl) .here (by rfl) (fun u hu => B_one (l := hdr 0 pp.length) u hu)) (by omega) (by omega) fun a1 c1 => ?_
    refine e_app (m := pp.length) (news := pp.map Sl.B) .here (fun w hw => bs_src (e := 5) (by kernel_rfl) hpr hpn _ w hw) (by omega) (by omega) fun a2 c2 => ?_
    refine e_app (m := pp.length) (news := pp.map Sl.B) (by (repeat constructor)) (fun w hw => bs_src (e := 5) (by kernel_rfl) hpr hpn _ w hw) (by omega) (by omega) fun a3 c3 => ?_
    (((with_reducible refine e_opN (v_add ?h1 ?h2) Imp.nil ?_); (case h1 => omega); (case h2 => omega)))
    refine e_next3 (m - 1) (by omega) (.ex (i + 1, (a2, c2), (a3, c3)) (.all ?_))
    (try simp only [List.cons_append, List.nil_append, -eq_self])
    have hE : encS (ps.take (i + 1)) = encS (ps.take i) ++ hdr 0 pp.length ++ pp := by rw [hsn, encS_snoc, List.append_assoc]
    have hW : (ps.take (i + 1)).flatten = (ps.take i).flatten ++ pp := by rw [hsn]; simp
    rw [hE, hW]
    refine .pu ⟨by omega, ?_, ?_, rfl⟩ ?_
    · rw [List.length_append, List.length_append, hdr_len]
    · rw [List.length_append]
    · rw [List.length_append, List.length_append, List.length_append, hdr_len, List.map_append, List.map_append, List.map_append]
      (repeat (first | exact Imp.refl | exact Imp.nil | (apply Imp.pick; (focus ((repeat constructor); done))) | refine Imp.drop ?_))
  have hin : i = xs.length := by omega
  have hpall : ps.take i = ps := List.take_of_length_le (by omega)
  rw [hpall]
  rw [hpall] at hb1 hb2
  refine e_condF ?_
  refine e_bslN (vs := (hdr 1 0).map Sl.B) rfl rfl (by intro v hv; obtain ⟨c, _, rfl⟩ := List.mem_map.1 hv; rfl) (by omega) fun g => ?_
  refine e_app (m := 5) (news := (hdr 1 0).map Sl.B) (by (repeat constructor)) (src_pt (e' := 5) (by kernel_rfl) .here (by rfl) (fun u hu => B_one (l := hdr 1 0) u hu)) (by omega) (by omega) fun a1 c1 => ?_
  rw [← List.map_append, show (encS ps).length + 5 = (encS ps ++ hdr 1 0).length by rw [List.length_append, hdr_len]]
  refine e_slfacts .here fun f1 f2 f3 f4 => ?_
  have hbl : (encS ps ++ hdr 1 0).length ≤ 1048576 := by rw [List.length_append, hdr_len]; omega
  obtain ⟨l1, l2, l3⟩ := stored_law hp3 (by omega)
  generalize encS ps ++ hdr 1 0 = eb at f1 f2 f3 f4 hbl l1 l2 l3 ⊢
  (refine' e_call (inflate (b := eb) (most := 1048576) (rd_sl (by simp) f4) (nn f4) (by omega)) ?hp fun _ => ?_; (case hp => (repeat (first | exact Picks.nil | (apply Picks.cons; (focus (repeat constructor)))))); (try simp only [List.cons_append, List.nil_append, Bool.not_true, Bool.not_false]))
  rename_i q
  obtain ⟨qa, qc⟩ := q
  (try dsimp only)
  rw [l1, l2, l3]
  refine e_opN (v_ext (v := .slice qa ps.flatten.length qc) rfl) Imp.nil ?_
  refine e_opN (v_ext (v := .int .i64 (eb.length : Int)) rfl) Imp.nil ?_
  refine e_opN (v_ext (v := .int .i64 0) rfl) Imp.nil ?_
  (refine' e_call (num5) ?hp fun _ => ?_; (case hp => (repeat (first | exact Picks.nil | (apply Picks.cons; (focus (repeat constructor)))))); (try simp only [List.cons_append, List.nil_append, Bool.not_true, Bool.not_false]))
  refine e_opN v_eql Imp.nil ?_
  rw [decide_eq_true rfl]
  ((with_reducible refine e_gdT ?_)); ((with_reducible refine e_gdT ?_)); ((with_reducible refine e_gdT ?_)); (((with_reducible refine e_opN v_len Imp.nil ?_))); ((with_reducible refine e_gdT ?_))
  refine e_opN v_eql Imp.nil ?_
  rw [decide_eq_true rfl]
  (((with_reducible refine e_opN v_pickT Imp.nil ?_))); ((with_reducible refine e_gdT ?_)); ((with_reducible refine e_gdT ?_))
  refine e_slfacts .here fun g1 g2 g3 g4 => ?_
  refine e_opN (v_str (l := ps.flatten) (rd_sl (by rw [List.length_map]) g4) (nn g4)) (.pick (by (repeat constructor)) .nil) ?_
  ((with_reducible refine e_gdT ?_)); ((with_reducible refine e_gdT ?_))
  refine e_slfacts (.there (.there (.there .here))) fun h1 h2 h3 h4 => ?_
  refine e_opN (v_str (l := ps.flatten) (rd_sl (by rw [List.length_map]) h4) (nn h4)) (.pick (by (repeat constructor)) .nil) ?_
  ((with_reducible refine e_gdT ?_))
  refine e_opN v_streq Imp.nil ?_
  rw [decide_eq_true rfl]
  (((with_reducible refine e_opN v_pickT Imp.nil ?_))); ((with_reducible refine e_gdT ?_))
  (refine' e_call (knows5) ?hp fun _ => ?_; (case hp => (repeat (first | exact Picks.nil | (apply Picks.cons; (focus (repeat constructor)))))); (try simp only [List.cons_append, List.nil_append, Bool.not_true, Bool.not_false]))
  (((with_reducible refine e_opN v_pickT Imp.nil ?_)))
  (first | refine e_ret (()) rfl ?_ | refine e_retT (()) ?_)
  (repeat (first | exact Imp.refl | exact Imp.nil | (apply Imp.pick; (focus ((repeat constructor); done))) | refine Imp.drop ?_))
end Go.Proofs.Ytehfblkpbadikaa.IF
