/- Joined lists, merged rows. No conditions but those that each names. -/
import Derived.Test.YtehfblkpbadikaaHuff6
set_option linter.unusedVariables false
set_option linter.unusedSimpArgs false
namespace Go.Proofs.Ytehfblkpbadikaa.HF
open Go Go.Proofs Go.RowKit Go.Proofs.Ytehfblkpbadikaa.Sh Go.Proofs.Ytehfblkpbadikaa.Sl Go.Proofs.Ytehfblkpbadikaa.T Go.Proofs.Ytehfblkpbadikaa.HM
section rules
variable {P : Program} {W : World} {L L' L'' : List HP} {Kp : PK} {k : Value → WP} {A : HP}
theorem rd_none {a : Option Addr} {n : Nat} {cs : List Value} (h : RdB W A a n cs) (c : a = none) : n = 0 := by
  rcases Nat.eq_zero_or_pos n with z | z
  · exact z
  · obtain ⟨_, _, e, _⟩ := h.at_ z
    rw [c] at e; cases e
theorem no_none {n : Nat} {a : Option Addr} (h : 0 < n → ∃ g, a = some ⟨g, 0, none⟩) (c : a = none) : n = 0 := by
  rcases Nat.eq_zero_or_pos n with z | z
  · exact z
  · obtain ⟨_, e⟩ := h z
    rw [c] at e; cases e
theorem e_mksl0 {t e : TypeId} {s b : Nat} {q r : IntKind} {c : Int} (m : Nat) [ht : SlT P t e s b] (hcm : c = (m : Int)) (h2 : b * m ≤ 281474976710656) (h3 : m ≤ maxLen)
    (h : ∀ g, Ent W (Sl s e (some ⟨g, 0, none⟩) m 0 [] :: L) (k (.slice (some ⟨g, 0, none⟩) 0 m))) : Ent W L (opN P (sMkSl t (.int q 0) (.int r c)) Kp k) := fun w hw => by
  refine ⟨?_⟩
  obtain ⟨i, z, hi, hz, hs, hb, hzs⟩ := ht.info
  subst hcm
  have hbm : (i.bytes : Int) * (m : Int) ≤ 281474976710656 := by
    rw [hb]
    obtain ⟨X, hX⟩ : ∃ X, X = b * m := ⟨_, rfl⟩
    have h4 : (X : Int) ≤ 281474976710656 := by omega
    rw [hX, Int.natCast_mul] at h4
    exact h4
  have hr := run_make (P := P) (w := w) t e i z ht.ut hi hz q r 0 m (by omega) (by omega) hbm (by unfold maxLen at h3; omega)
  simp only [Int.toNat_natCast, hs] at hr
  have : (sMkSl t (.int q 0) (.int r m)).run P w = .ok (.value (.slice (some ⟨w.heap.size, 0, none⟩) 0 m)) (w.alloc (.cells (madeCells z.cells (m * s)) e)) := by
    simp [sMkSl, hr]
  rw [this]
  refine h _ _ ?_
  have ha := hw.alloc (.cells (madeCells z.cells (m * s)) e)
  have he : madeCells z.cells (m * s) = ([] ++ (madeCells z.cells (m * s)).toList).toArray := by simp
  rw [he] at ha ⊢
  exact sl_back (by simp [madeCells]) (by simp) (by omega) h3 ha
end rules
/-- what items' lists are: they stay -/
def Arena (xs : List It) : HP := fun _ h => ∀ x ∈ xs, ∃ rest : List Value, h x.g = some (.cells (x.w.map I ++ rest).toArray 3 (0, 0))
theorem rd_ar {W : World} {xs : List It} {x : It} (hx : x ∈ xs) : RdB W (Arena xs) (some ⟨x.g, 0, none⟩) x.w.length (x.w.map I) := ⟨by simp, fun hn => ⟨x.g, 0, rfl, fun w L hw j v hv => by
  obtain ⟨f, ⟨h1, h2, ha, hl, d, s1, s2⟩, b⟩ := hw.heap
  obtain ⟨rest, hr⟩ := ha x hx
  have hg := (b x.g _ (s1 x.g _ hr)).2
  rw [Nat.zero_add]
  have hj : j < (x.w.map I).length := by
    rcases Nat.lt_or_ge j (x.w.map I).length with c | c
    · exact c
    · rw [List.getElem?_eq_none c] at hv; cases hv
  have hv2 : (x.w.map I ++ rest)[j]? = some v := by rw [List.getElem?_append_left hj]; exact hv
  simp [World.cell?, hg, hv2]⟩⟩
theorem e_ar {W : World} {L L' L'' : List HP} {S : WP} {g cap n : Nat} {xs : List It} {x : It} (hx : x.g = g) (p : Pick L (Sl 1 3 (some ⟨g, 0, none⟩) cap n (x.w.map I)) L') (p' : Pick L' (Arena xs) L'') (h : Ent W (Arena (x :: xs) :: L'') S) : Ent W L S := fun w hw => by
  have h1 := hw.pick p
  refine h w (sat.map (L := Sl 1 3 (some ⟨g, 0, none⟩) cap n (x.w.map I) :: L') (fun f hf => ?_) h1)
  have h2 := star_assoc' (star_mono (fun _ => p'.all) hf)
  obtain ⟨f1, f2, ⟨u1, u2, ha, hb, hd, t1, t2⟩, r⟩ := h2
  refine ⟨f1, f2, fun y hy => ?_, r⟩
  rcases List.mem_cons.1 hy with rfl | hy
  · obtain ⟨q1, q2, q3, q4⟩ := ha
    rcases q4 with ⟨c, _⟩ | ⟨g', rest, c, e1, e2⟩
    · cases c
    · injection c with c; injection c with c; subst c
      exact ⟨rest, by rw [hx]; exact t1 _ _ e2⟩
  · obtain ⟨rest, hr⟩ := hb y hy
    exact ⟨rest, t2 _ _ hr⟩
theorem imp_ar0 {W : World} {L M : List HP} (h : Imp W L M) : Imp W L (Arena [] :: M) := .conv (B := pu True) (fun f _ x hx => by cases hx) (.pu trivial h)
theorem grow {W : World} {n : Nat} (h0 : 0 < n) (hn : n ≤ 1099511627776) :
    Cn Try.prog 65 [.slice none 0 0, .int .i64 (n : Int)] W [] (fun q : Nat × Nat => .slice (some ⟨q.1, 0, none⟩) 0 q.2) (fun q => [Sl 1 3 (some ⟨q.1, 0, none⟩) q.2 0 []]) := by
  (refine S.slices_Grow_int_int_cn fun F => ?_; unfold S.slices_Grow_int_int; simp only [List.cons_append, List.nil_append])
  refine e_cut0 F ?_ ?_
  · intro ds
    refine e_opN v_cap Imp.nil ?_
    (((with_reducible refine e_opN v_len Imp.nil ?_))); (((with_reducible refine e_opN (v_sub ?h1 ?h2) Imp.nil ?_); (case h1 => omega); (case h2 => omega))); (((with_reducible refine e_opN (v_sub ?h1 ?h2) Imp.nil ?_); (case h1 => omega); (case h2 => omega)))
    refine e_opN v_gtr Imp.nil ?_
    rw [decide_eq_true (by omega)]
    refine e_condT ?_
    refine e_opN v_cap Imp.nil ?_
    refine e_opN (v_slh 0 (by rfl) (by omega)) Imp.nil ?_
    rw [if_pos rfl, show (n : Int) - (((0 : Nat) : Int) - ((0 : Nat) : Int)) = (n : Int) by omega]
    refine e_appZ (by kernel_rfl) h0 (by omega) (by omega) (by omega) fun g cap hc => ?_
    (((with_reducible refine e_opN v_len Imp.nil ?_)))
    refine e_opN (v_slh 0 (by rfl) (by omega)) Imp.nil ?_
    rw [if_neg (by omega), show (Option.map (fun x : Addr => x.add (0 * 1)) (some ⟨g, 0, none⟩)) = some ⟨g, 0, none⟩ by simp [addr_add]]
    refine e_ret (g, cap) rfl ?_
    (repeat (first | exact Imp.refl | exact Imp.nil | (apply Imp.pick; (focus ((repeat constructor); done))) | refine Imp.drop ?_))
  · (refine e_ask v_lss Imp.nil (fun h => ?_) (fun h => ?_))
    · omega
    ((with_reducible refine e_condF ?_))
    refine e_sat ?_
    (repeat (first | exact Imp.refl | exact Imp.nil | (apply Imp.pick; (focus ((repeat constructor); done))) | refine Imp.drop ?_))
def sz (m n : Nat) : Nat → Nat
  | 0 => 0
  | 1 => m
  | _ => m + n
def ac (x y : List Int) : Nat → List Int
  | 0 => []
  | 1 => x
  | _ => x ++ y
theorem ac_len (x y : List Int) : ∀ i, (ac x y i).length = sz x.length y.length i
  | 0 => rfl
  | 1 => rfl
  | i + 2 => by simp [ac, sz]
theorem concat {W : World} {A : HP} {g c1 c2 : Nat} {a1 a2 : Option Addr} {x y : List Int} {T : TypeId} (h1 : RdB W A a1 x.length (x.map I)) (h2 : RdB W A a2 y.length (y.map I)) (hx : 0 < x.length) (b1 : x.length ≤ 1073741824) (b2 : y.length ≤ 1073741824) :
    Cn Try.prog 46 [.slice (some ⟨g, 0, none⟩) 2 2] W [pt g (.cells #[.slice a1 x.length c1, .slice a2 y.length c2] T (0, 0)), A] (fun q : Nat × Nat => .slice (some ⟨q.1, 0, none⟩) (x.length + y.length) q.2) (fun q => [Sl 1 3 (some ⟨q.1, 0, none⟩) q.2 (x.length + y.length) ((x ++ y).map I), A]) := by
  (refine S.slices_Concat_int_int_cn fun F => ?_; unfold S.slices_Concat_int_int; simp only [List.cons_append, List.nil_append])
  (((with_reducible refine e_opN v_len Imp.nil ?_)))
  refine e_loop2 (fun m u v => [pu (∃ i : Nat, m + i = 2 ∧ v = .int .i64 (i : Int) ∧ u = .int .i64 (sz x.length y.length i : Int)), pt g (.cells #[.slice a1 x.length c1, .slice a2 y.length c2] T (0, 0)), A] ++ F) 2 ?_ ?_
  · (try simp only [List.cons_append, List.nil_append, -eq_self])
    exact .pu ⟨0, by omega, rfl, rfl⟩ .refl
  intro m ds u v
  (try simp only [List.cons_append, List.nil_append, -eq_self])
  refine e_pu Pick.here fun hi => ?_
  obtain ⟨i, hmi, rfl, rfl⟩ := hi
  have hszi : sz x.length y.length i ≤ 2147483648 := by unfold sz; split <;> omega
  (refine e_ask v_lss Imp.nil (fun h => ?_) (fun h => ?_))
  · have hi2 : i = 0 ∨ i = 1 := by omega
    obtain ⟨ai, ni, ci, hcell, hni, hsz⟩ : ∃ (ai : Option Addr) (ni ci : Nat), (#[.slice a1 x.length c1, .slice a2 y.length c2] : Array Value)[0 + i]? = some (.slice ai ni ci) ∧ ni ≤ 1073741824 ∧ sz x.length y.length i + ni = sz x.length y.length (i + 1) := by
      rcases hi2 with rfl | rfl
      · exact ⟨a1, x.length, c1, rfl, b1, by simp [sz]⟩
      · exact ⟨a2, y.length, c2, rfl, b2, by simp [sz]⟩
    refine e_condT ?_
    refine e_opN (v_ia1 i (by rfl) (by omega)) Imp.nil ?_
    refine e_opN (v_ld hcell) (.pick .here .nil) ?_
    (((with_reducible refine e_opN v_len Imp.nil ?_))); (((with_reducible refine e_opN (v_add ?h1 ?h2) Imp.nil ?_); (case h1 => omega); (case h2 => omega)))
    (refine e_ask v_lss Imp.nil (fun h => ?_) (fun h => ?_))
    · omega
    ((with_reducible refine e_condF ?_)); (((with_reducible refine e_opN (v_add ?h1 ?h2) Imp.nil ?_); (case h1 => omega); (case h2 => omega)))
    refine e_next2 (m - 1) (by omega) ?_
    (try simp only [List.cons_append, List.nil_append, -eq_self])
    exact .pu ⟨i + 1, by omega, by norm_cast, by rw [← hsz]; norm_cast⟩ .refl
  · have hi2 : i = 2 := by omega
    subst hi2
    refine e_condF ?_
    (refine' e_call (grow (n := x.length + y.length) (by omega) (by omega)) ?hp fun _ => ?_; (case hp => (repeat (first | exact Picks.nil | (apply Picks.cons; (focus (repeat constructor)))))); (try simp only [List.cons_append, List.nil_append, Bool.not_true, Bool.not_false]))
    rename_i q
    obtain ⟨qg, qc⟩ := q
    (((with_reducible refine e_opN v_len Imp.nil ?_)))
    refine e_loop2 (fun m u v => [ex fun q : Option Addr × Nat => all [pu (∃ i : Nat, m + i = 2 ∧ v = .int .i64 (i : Int) ∧ u = .slice q.1 (sz x.length y.length i) q.2), ex fun i : Nat => all [pu (m + i = 2), Sl 1 3 q.1 q.2 (sz x.length y.length i) ((ac x y i).map I)]], pt g (.cells #[.slice a1 x.length c1, .slice a2 y.length c2] T (0, 0)), A] ++ F) 2 ?_ ?_
    · refine .ex (some ⟨qg, 0, none⟩, qc) (.all ?_)
      (try simp only [List.cons_append, List.nil_append, -eq_self])
      refine .pu ⟨0, by omega, rfl, rfl⟩ (.ex 0 (.all ?_))
      (try simp only [List.cons_append, List.nil_append, -eq_self])
      exact .pu (by omega) (.pick .here .refl)
    intro m ds u v
    (try simp only [List.cons_append, List.nil_append, -eq_self])
    refine e_ex Pick.here fun q => e_all Pick.here ?_
    obtain ⟨ua, uc⟩ := q
    (try simp only [List.cons_append, List.nil_append, -eq_self])
    refine e_pu Pick.here fun hi => ?_
    obtain ⟨i, hmi, rfl, rfl⟩ := hi
    refine e_ex Pick.here fun i' => e_all Pick.here ?_
    (try simp only [List.cons_append, List.nil_append, -eq_self])
    refine e_pu Pick.here fun hi' => ?_
    obtain rfl : i' = i := by omega
    have hszi : sz x.length y.length i' ≤ 2147483648 := by unfold sz; split <;> omega
    (try dsimp only)
    (refine e_ask v_lss Imp.nil (fun h => ?_) (fun h => ?_))
    · have hi2 : i' = 0 ∨ i' = 1 := by omega
      obtain ⟨ai, ni, ci, z, hcell, hni, hsz, hrd, hac⟩ : ∃ (ai : Option Addr) (ni ci : Nat) (z : List Int), (#[.slice a1 x.length c1, .slice a2 y.length c2] : Array Value)[0 + i']? = some (.slice ai ni ci) ∧ ni ≤ 1073741824 ∧ sz x.length y.length i' + ni = sz x.length y.length (i' + 1) ∧ RdB W A ai ni (z.map I) ∧ ac x y i' ++ z = ac x y (i' + 1) := by
        rcases hi2 with rfl | rfl
        · exact ⟨a1, x.length, c1, x, rfl, b1, by simp [sz], h1, rfl⟩
        · exact ⟨a2, y.length, c2, y, rfl, b2, by simp [sz], h2, rfl⟩
      refine e_condT ?_
      refine e_opN (v_ia1 i' (by rfl) (by omega)) Imp.nil ?_
      refine e_opN (v_ld hcell) (.pick (.there .here) .nil) ?_
      refine e_app (m := ni) .here (src_rd (e' := 3) (by kernel_rfl) (.there (.there .here)) hrd (rd_none hrd) I_one) (by omega) (by omega) fun a' c' => ?_
      rw [hsz, ← List.map_append, hac]
      (((with_reducible refine e_opN (v_add ?h1 ?h2) Imp.nil ?_); (case h1 => omega); (case h2 => omega)))
      refine e_next2 (m - 1) (by omega) (.ex (a', c') (.all ?_))
      (try simp only [List.cons_append, List.nil_append, -eq_self])
      refine .pu ⟨i' + 1, by omega, by norm_cast, rfl⟩ (.ex (i' + 1) (.all ?_))
      (try simp only [List.cons_append, List.nil_append, -eq_self])
      exact .pu (by omega) (.pick .here .refl)
    · have hi2 : i' = 2 := by omega
      subst hi2
      refine e_condF ?_
      refine e_slsome .here (by show 0 < x.length + y.length; omega) fun gg hgg => ?_
      subst hgg
      refine e_ret (gg, uc) rfl ?_
      exact .pick .here (.drop .refl)
section spec
variable {α : Type} (key : α → Int)
def mrg : List α → List α → List α
  | [], bs => bs
  | a :: us, bs => bs.takeWhile (fun b => decide (key b < key a)) ++ a :: mrg us (bs.dropWhile fun b => decide (key b < key a))
theorem mrg_nil (us : List α) : mrg key us [] = us := by
  induction us with
  | nil => rfl
  | cons a us ih => simp [mrg, ih]
theorem mrg_lt {a b : α} {us bs : List α} (h : key b < key a) : mrg key (a :: us) (b :: bs) = b :: mrg key (a :: us) bs := by simp [mrg, h]
theorem mrg_ge {a b : α} {us bs : List α} (h : ¬ key b < key a) : mrg key (a :: us) (b :: bs) = a :: mrg key us (b :: bs) := by simp [mrg, h]
theorem mrg_a {a : α} {us : List α} : mrg key (a :: us) [] = a :: mrg key us [] := by simp [mrg]
theorem mrg_map {β : Type} (k2 : β → Int) (f : α → β) (hk : ∀ x, k2 (f x) = key x) : ∀ us bs : List α, (mrg key us bs).map f = mrg k2 (us.map f) (bs.map f)
  | [], bs => rfl
  | a :: us, bs => by
    have h1 : (bs.takeWhile fun b => decide (key b < key a)).map f = (bs.map f).takeWhile fun b => decide (k2 b < k2 (f a)) := by
      rw [List.takeWhile_map]; congr 2; funext b; simp [hk]
    have h2 : (bs.dropWhile fun b => decide (key b < key a)).map f = (bs.map f).dropWhile fun b => decide (k2 b < k2 (f a)) := by
      rw [List.dropWhile_map]; congr 2; funext b; simp [hk]
    simp only [mrg, List.map_append, List.map_cons, h1, mrg_map k2 f hk us, h2]
theorem mrg_mem {y : α} : ∀ us bs : List α, y ∈ mrg key us bs → y ∈ us ∨ y ∈ bs
  | [], bs, h => .inr h
  | a :: us, bs, h => by
    simp only [mrg, List.mem_append, List.mem_cons] at h
    rcases h with c | c | c
    · exact .inr ((List.takeWhile_sublist _).mem c)
    · exact .inl (by rw [c]; exact List.mem_cons_self)
    · rcases mrg_mem us _ c with d | d
      · exact .inl (List.mem_cons_of_mem _ d)
      · exact .inr ((List.dropWhile_sublist _).mem d)
end spec
def RdL (W : World) (A : HP) (a : Option Addr) (xs : List It) : Prop := RdB W A a (xs.length * 2) (xs.flatMap ic)
theorem RdL.tail {W : World} {A : HP} {a : Option Addr} {x : It} {xs : List It} {c : Nat} (h : RdL W A a (x :: xs)) (hc : xs.length + 1 ≤ c) : RdL W A (if c = 1 then a else a.map (·.add (1 * 2))) xs := by
  refine ⟨ics_len xs, fun hn => ?_⟩
  obtain ⟨g, o, rfl, hcell⟩ := h.at_ (by rw [List.length_cons]; omega)
  rw [if_neg (by omega)]
  refine ⟨g, o + 2, by simp [addr_add], fun w L hw j v hv => ?_⟩
  rw [Nat.add_assoc]
  refine hcell w L hw (2 + j) v ?_
  rw [List.flatMap_cons, List.getElem?_append_right (by rw [ic_len]; omega), ic_len, show 2 + j - 2 = j by omega]; exact hv
theorem src_rdS {P : Program} {W : World} {L L' : List HP} {A : HP} {s : Nat} {tx e' : TypeId} {a : Option Addr} {n cap : Nat} {cs : List Value} (hk : P.underlying tx = some (.slice e')) (hs : 0 < s) (p : Pick L A L') (H : RdB W A a (n * s) cs) (h1 : ∀ u ∈ cs, u.oneCell' = true) :
    ∀ w, sat W L w → Src P s tx (.slice a n cap) n cs w := fun w hw => by
  have hl := H.len
  rcases Nat.eq_zero_or_pos n with h0 | hn
  · subst h0
    have hcs : cs = [] := List.eq_nil_of_length_eq_zero (by simpa using hl)
    subst hcs
    cases a with
    | none => exact Src.ofNil w hk cap
    | some ad => exact Src.ofSlice w hk ad 0 cap [] (by simp) (fun j u hu => by simp at hu) (by simp)
  · obtain ⟨g, o, rfl, hc⟩ := H.at_ (Nat.mul_pos hn hs)
    exact Src.ofSlice w hk _ _ _ _ (by omega) (fun j u hu => by rw [addr_add]; exact hc w L' (hw.pick p) j u hu) h1
theorem v_ldIt0 {W : World} {A : HP} {g o : Nat} {y : It} {ys : List It} (H : RdL W A (some ⟨g, o, none⟩) (y :: ys)) : RunV Try.prog W [A] (sLoad 86 (.pointer (some ⟨g, o + 0 * 2, none⟩))) (av y) := v_ldIt H (j := 0) (by simp)
theorem v_ldN0 {W : World} {A : HP} {g o : Nat} {y : It} {ys : List It} (H : RdL W A (some ⟨g, o, none⟩) (y :: ys)) : RunV Try.prog W [A] (sLoad 3 (.pointer (some ⟨g, o + 0 * 2 + 0, none⟩))) (.int .i64 y.n) := by
  have := v_ldRd (P := Try.prog) (t := 3) (j := 0) H (v := I y.n) rfl
  exact this
theorem mergeC {W : World} {A B : HP} {xs ys : List It} {va vb : Option Addr} {ca cb : Nat} (ha : RdL W A va xs) (hb : RdL W B vb ys) (hca : xs.length ≤ ca) (hcb : ys.length ≤ cb) (n1 : xs.length ≤ 1073741824) (n2 : ys.length ≤ 1073741824) :
    Cn Try.prog 47 [.slice va xs.length ca, .slice vb ys.length cb] W [A, B] (fun q : Option Addr × Nat => .slice q.1 (xs.length + ys.length) q.2) (fun q => [Sl 2 86 q.1 q.2 (xs.length + ys.length) ((mrg It.n xs ys).flatMap ic), A, B]) := by
  (refine S.huff_merge_int_cn fun F => ?_; unfold S.huff_merge_int; simp only [List.cons_append, List.nil_append])
  (((with_reducible refine e_opN v_len Imp.nil ?_))); (((with_reducible refine e_opN v_len Imp.nil ?_))); (((with_reducible refine e_opN (v_add ?h1 ?h2) Imp.nil ?_); (case h1 => omega); (case h2 => omega)))
  refine e_mksl0 (xs.length + ys.length) (by norm_cast) (by omega) (by unfold maxLen; omega) fun g0 => ?_
  refine e_loop3 (fun m x y z => [ex fun q : Option Addr × Nat => ex fun out : List It => all [pu (∃ (us vs : List It) (a1 a2 : Option Addr) (c1 c2 : Nat), m = us.length + vs.length ∧ x = .slice a1 us.length c1 ∧ y = .slice a2 vs.length c2 ∧ z = .slice q.1 out.length q.2 ∧ RdL W A a1 us ∧ RdL W B a2 vs ∧ us.length ≤ c1 ∧ vs.length ≤ c2 ∧ out ++ mrg It.n us vs = mrg It.n xs ys ∧ out.length + us.length + vs.length = xs.length + ys.length), Sl 2 86 q.1 q.2 out.length (out.flatMap ic)], A, B] ++ F) (xs.length + ys.length) ?_ ?_
  · refine .ex (some ⟨g0, 0, none⟩, xs.length + ys.length) (.ex [] (.all ?_))
    (try simp only [List.cons_append, List.nil_append, -eq_self])
    exact .pu ⟨xs, ys, va, vb, ca, cb, rfl, rfl, rfl, rfl, ha, hb, hca, hcb, rfl, by simp⟩ (.pick .here .refl)
  intro m ds x y z
  (try simp only [List.cons_append, List.nil_append, -eq_self])
  refine e_ex Pick.here fun q => e_ex Pick.here fun out => e_all Pick.here ?_
  obtain ⟨qa, qc⟩ := q
  (try simp only [List.cons_append, List.nil_append, -eq_self])
  refine e_pu Pick.here fun hi => ?_
  obtain ⟨us, vs, a1, a2, c1, c2, rfl, rfl, rfl, rfl, hu, hv, hc1, hc2, hout, hlen⟩ := hi
  (try dsimp only)
  cases us with
  | nil =>
    (((with_reducible refine e_opN v_len Imp.nil ?_)))
    refine e_opN v_eql Imp.nil ?_
    rw [decide_eq_true (by rfl)]
    refine e_condT ?_
    refine e_app (m := vs.length) .here (src_rdS (e' := 86) (by kernel_rfl) (by omega) (.there (.there .here)) hv (ics_one vs)) (by omega) (by omega) fun a' c' => ?_
    rw [← List.flatMap_append, show out ++ vs = mrg It.n xs ys from hout]
    simp only [List.length_nil, Nat.add_zero] at hlen
    rw [hlen]
    refine e_ret (a', c') rfl ?_
    (repeat (first | exact Imp.refl | exact Imp.nil | (apply Imp.pick; (focus ((repeat constructor); done))) | refine Imp.drop ?_))
  | cons u us =>
    rw [List.length_cons] at hlen hc1
    (((with_reducible refine e_opN v_len Imp.nil ?_)))
    refine e_opN v_eql Imp.nil ?_
    rw [decide_eq_false (by rw [List.length_cons]; omega)]
    ((with_reducible refine e_condF ?_)); ((with_reducible refine e_drS ?_)); (((with_reducible refine e_stS v_len Imp.nil ?_)))
    obtain ⟨gu, ou, rfl, _⟩ := hu.at_ (by rw [List.length_cons]; omega)
    have ldu := v_ldIt0 hu
    have ldn := v_ldN0 hu
    have tu := hu.tail hc1
    have goA : (∀ v vs', vs = v :: vs' → ¬ v.n < u.n) → Ent W (Sl 2 86 qa qc out.length (out.flatMap ic) :: A :: B :: F) (stS Try.prog (sIA 84 (.slice (some ⟨gu, ou, none⟩) (u :: us).length c1) (.int .i64 0)) fun x14 =>
       stS Try.prog (sLoad 86 x14) fun x15 =>
       stD Try.prog (sSl 84 (.slice (some ⟨gu, ou, none⟩) (u :: us).length c1) (some (.int .i64 1)) none none) fun D7 x19 =>
       opN Try.prog (sBuildSl 84 1 [(0, x15)]) noP fun x16 =>
       (fun w => D7 w ∧ (opN Try.prog (sApp #[84, 84] 84 [.slice qa out.length qc, x16]) noP fun x17 =>
         (fun w => D7 w ∧ (next3 (fun m x y z w => sat W ([ex fun q : Option Addr × Nat => ex fun out : List It => all [pu (∃ (us vs : List It) (a1 a2 : Option Addr) (c1 c2 : Nat), m = us.length + vs.length ∧ x = .slice a1 us.length c1 ∧ y = .slice a2 vs.length c2 ∧ z = .slice q.1 out.length q.2 ∧ RdL W A a1 us ∧ RdL W B a2 vs ∧ us.length ≤ c1 ∧ vs.length ≤ c2 ∧ out ++ mrg It.n us vs = mrg It.n xs ys ∧ out.length + us.length + vs.length = xs.length + ys.length), Sl 2 86 q.1 q.2 out.length (out.flatMap ic)], A, B] ++ F) w) ((u :: us).length + vs.length) x19 (.slice a2 vs.length c2) x17) w)) w)) := by
      intro hge
      refine e_stS (v_ia 0 (by rfl) (by rw [List.length_cons]; omega)) Imp.nil ?_
      refine e_stS ldu (.pick (.there .here) .nil) ?_
      refine e_stD (v_sll 1 (by rfl) (by rw [List.length_cons]; omega)) Imp.nil ?_
      refine e_bslS (s := 2) (vs := [av u]) rfl (by omega) rfl (by intro v hv; simp at hv; subst hv; rfl) (by omega) fun g => ?_
      (((with_reducible refine e_obl ?hi ?_); (case hi => (repeat (first | exact Imp.refl | exact Imp.nil | (apply Imp.pick; (focus ((repeat constructor); done))) | refine Imp.drop ?_)))))
      refine e_app (m := 1) (news := ic u) (.there .here) (src_pt (s := 2) (e' := 86) (by kernel_rfl) .here (by rfl) (ic_one u)) (by omega) (by omega) fun a' c' => ?_
      (((with_reducible refine e_obl ?hi ?_); (case hi => (repeat (first | exact Imp.refl | exact Imp.nil | (apply Imp.pick; (focus ((repeat constructor); done))) | refine Imp.drop ?_)))))
      refine e_next3 (us.length + vs.length) (by rw [List.length_cons]; omega) (.ex (a', c') (.ex (out ++ [u]) (.all ?_)))
      (try simp only [List.cons_append, List.nil_append, -eq_self])
      refine .pu ⟨us, vs, _, a2, _, c2, rfl, by rw [List.length_cons, Nat.add_sub_cancel], rfl, by rw [List.length_append]; rfl, tu, hv, by omega, hc2, ?_, by simp; omega⟩ ?_
      · rw [← hout, List.append_assoc]
        congr 1
        cases vs with
        | nil => rw [mrg_a]; rfl
        | cons v vs' => rw [mrg_ge It.n (hge v vs' rfl)]; rfl
      · rw [List.flatMap_append, List.length_append, List.length_singleton, List.flatMap_singleton]
        (repeat (first | exact Imp.refl | exact Imp.nil | (apply Imp.pick; (focus ((repeat constructor); done))) | refine Imp.drop ?_))
    refine e_stS v_gtr Imp.nil ?_
    cases vs with
    | nil =>
      rw [decide_eq_false (by simp)]
      ((with_reducible refine e_gdF2 ?_)); ((with_reducible refine e_gdF2 ?_)); ((with_reducible refine e_gdF2 ?_)); ((with_reducible refine e_gdF2 ?_)); ((with_reducible refine e_gdF2 ?_)); ((with_reducible refine e_gdF2 ?_)); ((with_reducible refine e_gdF2 ?_)); ((with_reducible refine e_gdF2 ?_)); ((with_reducible refine e_gdF2 ?_)); (((with_reducible refine e_stS v_pickF Imp.nil ?_))); ((with_reducible refine e_condF ?_)); ((with_reducible refine e_drS ?_))
      exact goA (fun v vs' c => by cases c)
    | cons v vs =>
      rw [List.length_cons] at hlen hc2
      obtain ⟨gv, ov, rfl, _⟩ := hv.at_ (by rw [List.length_cons]; omega)
      have ldv := v_ldIt0 hv
      have ldvn := v_ldN0 hv
      have tv := hv.tail hc2
      rw [decide_eq_true (by rw [List.length_cons]; omega)]
      ((with_reducible refine e_gdT ?_)); ((with_reducible refine e_gdT ?_))
      refine e_stS (v_ia 0 (by rfl) (by rw [List.length_cons]; omega)) Imp.nil ?_
      ((with_reducible refine e_gdT ?_)); (((with_reducible refine e_stS v_fa Imp.nil ?_))); ((with_reducible refine e_gdT ?_))
      refine e_stS ldvn (.pick (.there (.there .here)) .nil) ?_
      ((with_reducible refine e_gdT ?_)); ((with_reducible refine e_gdT ?_))
      refine e_stS (v_ia 0 (by rfl) (by rw [List.length_cons]; omega)) Imp.nil ?_
      ((with_reducible refine e_gdT ?_)); (((with_reducible refine e_stS v_fa Imp.nil ?_))); ((with_reducible refine e_gdT ?_))
      refine e_stS ldn (.pick (.there .here) .nil) ?_
      ((with_reducible refine e_gdT ?_))
      refine e_askS v_lss Imp.nil (fun h => ?_) (fun h => ?_)
      · (((with_reducible refine e_stS v_pickT Imp.nil ?_))); ((with_reducible refine e_condT ?_)); ((with_reducible refine e_drS ?_))
        refine e_stS (v_ia 0 (by rfl) (by rw [List.length_cons]; omega)) Imp.nil ?_
        refine e_stS ldv (.pick (.there (.there .here)) .nil) ?_
        refine e_stD (v_sll 1 (by rfl) (by rw [List.length_cons]; omega)) Imp.nil ?_
        refine e_bslS (s := 2) (vs := [av v]) rfl (by omega) rfl (by intro v hv; simp at hv; subst hv; rfl) (by omega) fun g => ?_
        (((with_reducible refine e_obl ?hi ?_); (case hi => (repeat (first | exact Imp.refl | exact Imp.nil | (apply Imp.pick; (focus ((repeat constructor); done))) | refine Imp.drop ?_)))))
        refine e_app (m := 1) (news := ic v) (.there .here) (src_pt (s := 2) (e' := 86) (by kernel_rfl) .here (by rfl) (ic_one v)) (by omega) (by omega) fun a' c' => ?_
        (((with_reducible refine e_obl ?hi ?_); (case hi => (repeat (first | exact Imp.refl | exact Imp.nil | (apply Imp.pick; (focus ((repeat constructor); done))) | refine Imp.drop ?_)))))
        refine e_next3 ((u :: us).length + vs.length) (by rw [List.length_cons]; simp) (.ex (a', c') (.ex (out ++ [v]) (.all ?_)))
        (try simp only [List.cons_append, List.nil_append, -eq_self])
        refine .pu ⟨u :: us, vs, _, _, c1, _, rfl, rfl, by rw [List.length_cons, Nat.add_sub_cancel], by rw [List.length_append]; rfl, hu, tv, by rw [List.length_cons]; omega, by omega, ?_, by simp; omega⟩ ?_
        · rw [← hout, List.append_assoc, mrg_lt It.n h]; rfl
        · rw [List.flatMap_append, List.length_append, List.length_singleton, List.flatMap_singleton]
          (repeat (first | exact Imp.refl | exact Imp.nil | (apply Imp.pick; (focus ((repeat constructor); done))) | refine Imp.drop ?_))
      · (((with_reducible refine e_stS v_pickT Imp.nil ?_))); ((with_reducible refine e_condF ?_)); ((with_reducible refine e_drS ?_))
        exact goA (fun v' vs' c => by injection c with c1 c2; subst c1; exact h)
end Go.Proofs.Ytehfblkpbadikaa.HF
