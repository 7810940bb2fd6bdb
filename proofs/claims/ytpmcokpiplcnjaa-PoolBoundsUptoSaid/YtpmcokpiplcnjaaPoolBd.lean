/- What holds of a pool whatever is done with it. Plain; no program in sight. No conditions but those that each names. -/
import Derived.Test.YtpmcokpiplcnjaaPoolRound0
set_option linter.unusedVariables false
set_option linter.unusedSimpArgs false
namespace Go.Proofs.Ytpmcokpiplcnjaa.PL
open Go Go.Proofs Go.RowKit Go.Proofs.Ytpmcokpiplcnjaa.Sh Go.Proofs.Ytpmcokpiplcnjaa.Sl Go.Proofs.Ytpmcokpiplcnjaa.T
def uid (us : List (Int × Int)) (j : Nat) : Int := (us.getD j (0, 0)).1
def umx (us : List (Int × Int)) (j : Nat) : Int := (us.getD j (0, 0)).2
structure Bd (us : List (Int × Int)) (Z : Pl) (tk : List (Int × Int)) (til : Nat → Int) : Prop where
  n : Z.n = us.length
  pr : ∀ j, j < us.length → (Z.pr j).id = uid us j ∧ (Z.pr j).max = umx us j ∧ (Z.pr j).busy + (Z.pr j).idle.length ≤ umx us j ∧ (til j = 0 ∨ til j = (Z.pr j).til)
  busy : ∀ t ∈ tk, t.2 < Z.num ∧ ∃ i, i < us.length ∧ Z.bm t.2 = some i ∧ uid us i = t.1
  tks : (tk.map (·.2)).Nodup
  idle : ∀ j, j < us.length → (Z.pr j).idle.Nodup ∧ ∀ x ∈ (Z.pr j).idle, x < Z.num ∧ x ∉ tk.map (·.2) ∧ ∀ i, i < us.length → i ≠ j → x ∉ (Z.pr i).idle
  bml : ∀ q i, Z.bm q = some i → i < us.length
def Dst (us : List (Int × Int)) : Prop := ∀ i j, i < us.length → j < i → uid us j ≠ uid us i
theorem fdI_none {Z : Pl} {id : Int} : ∀ {k : Nat}, fdI Z id k = none → ∀ j, j < k → (Z.pr j).id ≠ id
  | 0, _, j, hj => absurd hj (by omega)
  | k + 1, h, j, hj => by
    rw [fdI] at h
    cases hk : fdI Z id k with
    | some i => rw [hk] at h; cases h
    | none =>
      rw [hk] at h
      simp only at h
      split at h
      · cases h
      · by_cases c : j = k
        · subst c; assumption
        · exact fdI_none hk j (by omega)
theorem okU_dst {us : List (Int × Int)} {tmo : Int} (h : okU us tmo) : Dst us := by
  intro i j hi hj
  have hb := h.2.2.2.2 i hi
  unfold badU at hb
  have hf : fd (newI us tmo i) (us.getD i (0, 0)).1 = none := by
    cases hc : fd (newI us tmo i) (us.getD i (0, 0)).1 with
    | none => rfl
    | some k => exact absurd (.inr (.inr (by rw [hc]; rfl))) hb
  exact fdI_none hf j hj
theorem fd_self {us : List (Int × Int)} {Z : Pl} (hd : Dst us) (hn : Z.n = us.length) (hp : ∀ j, j < us.length → (Z.pr j).id = uid us j) {k : Nat} (hk : k < us.length) : fd Z (uid us k) = some k := by
  have h0 : ∀ m, m ≤ k → fdI Z (uid us k) m = none := by
    intro m
    induction m with
    | zero => exact fun _ => rfl
    | succ m ih =>
      intro hm
      rw [fdI, ih (by omega)]
      simp only
      rw [if_neg (by rw [hp m (by omega)]; exact hd k m hk (by omega))]
  have h1 : fdI Z (uid us k) (k + 1) = some k := by
    rw [fdI, h0 k (Nat.le_refl _)]
    simp only
    rw [if_pos (hp k hk)]
  have := fdI_up h1 (Z.n - (k + 1))
  rwa [show k + 1 + (Z.n - (k + 1)) = Z.n by omega] at this
theorem Bd.bound {us : List (Int × Int)} {Z : Pl} {tk : List (Int × Int)} {til : Nat → Int} (h : Bd us Z tk til) (hd : Dst us) {k : Nat} (hk : k < us.length) : busyF Z (uid us k) + idleF Z (uid us k) ≤ umx us k := by
  have hf := fd_self hd h.n (fun j hj => (h.pr j hj).1) hk
  unfold busyF idleF
  rw [hf]
  exact (h.pr k hk).2.2.1
theorem Bd.congr {us : List (Int × Int)} {Z : Pl} {tk : List (Int × Int)} {til til' : Nat → Int} (h : Bd us Z tk til) (he : ∀ j, j < us.length → til' j = til j) : Bd us Z tk til' :=
  ⟨h.n, fun j hj => by rw [he j hj]; exact h.pr j hj, h.busy, h.tks, h.idle, h.bml⟩
theorem bd0 {us : List (Int × Int)} {tmo : Int} (h : okU us tmo) : Bd us (newI us tmo us.length) [] (fun _ => 0) := by
  refine ⟨rfl, fun j hj => ⟨rfl, rfl, ?_, .inl rfl⟩, fun t ht => (by cases ht), by simp, fun j hj => ⟨by simp [newI], fun x hx => by simp [newI] at hx⟩, fun q i c => by cases c⟩
  have hb := h.2.2.2.2 j hj
  unfold badU at hb
  show (0 : Int) + (([] : List Int).length : Int) ≤ _
  have : ¬ umx us j < 1 := fun c => hb (.inl c)
  simp
  omega
theorem eC_ne (Z : Pl) (now : Int) : ∀ k, eC Z now k = 3 ∨ eC Z now k = 63
  | 0 => .inl rfl
  | k + 1 => by
    rw [eC]
    split
    · exact eC_ne Z now k
    · exact .inr rfl
theorem take_e {Z : Pl} {now : Int} (h : (takeF Z now).1.e ≠ 0) : (takeF Z now).2 = Z := by
  unfold takeF at h ⊢
  cases hk : pkI Z now Z.n with
  | none => rfl
  | some k => rw [hk] at h; exact absurd rfl h
theorem take_some {Z : Pl} {now : Int} (hn : 1 ≤ Z.n) (h : (takeF Z now).1.e = 0) : ∃ i, i < Z.n ∧ avail Z now i ∧ takeF Z now = (⟨(Z.pr i).id, tkId Z i, decide ((Z.pr i).idle.length = 0), 0⟩, took Z i) := by
  unfold takeF at h ⊢
  cases hk : pkI Z now Z.n with
  | none =>
    rw [hk] at h
    have h' : eC Z now Z.n = 0 := h
    rcases eC_ne Z now Z.n with c | c
    · rw [c] at h'; cases h'
    · rw [c] at h'; cases h'
  | some k => exact ⟨ord Z k, Nat.mod_lt _ hn, (pkI_lt hk).2, rfl⟩
theorem not_mem_take_last {l : List Int} (h : l.Nodup) (h0 : 0 < l.length) : l.getD (l.length - 1) 0 ∉ l.take (l.length - 1) ∧ l.getD (l.length - 1) 0 ∈ l := by
  have e : l = l.take (l.length - 1) ++ [l.getD (l.length - 1) 0] := by
    have := List.take_append_drop (l.length - 1) l
    have hd : l.drop (l.length - 1) = [l.getD (l.length - 1) 0] := by
      rw [List.getD_eq_getElem?_getD, List.getElem?_eq_getElem (by omega)]
      apply List.ext_getElem?
      intro j
      rw [List.getElem?_drop]
      cases j with
      | zero => simp
      | succ j => rw [List.getElem?_eq_none (by omega)]; simp
    rw [hd] at this; exact this.symm
  obtain ⟨x, hx⟩ : ∃ x, x = l.getD (l.length - 1) 0 := ⟨_, rfl⟩
  obtain ⟨m, hm⟩ : ∃ m, m = l.take (l.length - 1) := ⟨_, rfl⟩
  rw [← hx, ← hm] at e ⊢
  refine ⟨fun c => ?_, by rw [e]; simp⟩
  rw [e] at h
  exact (List.nodup_append.1 h).2.2 _ c _ (by simp) rfl
theorem bd_take {us : List (Int × Int)} {Z : Pl} {tk : List (Int × Int)} {til : Nat → Int} {now : Int} (h : Bd us Z tk til) (hd : Dst us) (hn : 1 ≤ Z.n) (hc : clk now = now) (h0 : 0 ≤ now) (he : (takeF Z now).1.e = 0) :
    (takeF Z now).1.id ∉ tk.map (·.2) ∧ (∀ k, k < us.length → uid us k = (takeF Z now).1.peer → ¬ now < til k) ∧ Bd us (takeF Z now).2 (tk ++ [((takeF Z now).1.peer, (takeF Z now).1.id)]) til := by
  obtain ⟨i, hi, hav, ht⟩ := take_some hn he
  rw [ht]
  simp only
  rw [h.n] at hi
  obtain ⟨p1, p2, p3, p4⟩ := h.pr i hi
  obtain ⟨d1, d2⟩ := h.idle i hi
  -- the connection is of no one, and no idle list but this one's end has it
  have hid : tkId Z i ∉ tk.map (·.2) ∧ tkId Z i < (took Z i).num ∧ tkId Z i ∉ (Z.pr i).idle.take ((Z.pr i).idle.length - 1) ∧ ∀ j, j < us.length → j ≠ i → tkId Z i ∉ (Z.pr j).idle := by
    unfold tkId
    by_cases c : 0 < (Z.pr i).idle.length
    · rw [if_pos c]
      obtain ⟨m1, m2⟩ := not_mem_take_last d1 c
      obtain ⟨x1, x2, x3⟩ := d2 _ m2
      refine ⟨x2, ?_, m1, x3⟩
      show _ < (if 0 < (Z.pr i).idle.length then Z.num else Z.num + 1)
      rw [if_pos c]; exact x1
    · rw [if_neg c]
      refine ⟨fun hm => ?_, ?_, fun hm => ?_, fun j hj hji hm => ?_⟩
      · obtain ⟨t, ht1, ht2⟩ := List.mem_map.1 hm
        have := (h.busy t ht1).1
        omega
      · show _ < (if 0 < (Z.pr i).idle.length then Z.num else Z.num + 1)
        rw [if_neg c]; omega
      · have := (d2 _ (List.mem_of_mem_take hm)).1
        omega
      · have := ((h.idle j hj).2 _ hm).1
        omega
  obtain ⟨q1, q2, q3, q4⟩ := hid
  have hnum : Z.num ≤ (took Z i).num := by
    show _ ≤ (if 0 < (Z.pr i).idle.length then Z.num else Z.num + 1)
    split <;> omega
  have hpr : ∀ j, j ≠ i → (took Z i).pr j = Z.pr j := fun j hj => by show setP Z.pr i _ j = _; unfold setP; rw [if_neg hj]
  have hpi : (took Z i).pr i = { Z.pr i with idle := (Z.pr i).idle.take ((Z.pr i).idle.length - 1), busy := (Z.pr i).busy + 1 } := by show setP Z.pr i _ i = _; unfold setP; rw [if_pos rfl]
  refine ⟨q1, fun k hk hki => ?_, ⟨h.n, fun j hj => ?_, fun t ht => ?_, ?_, fun j hj => ?_, fun q j c => ?_⟩⟩
  · have hki' : k = i := by
      rcases Nat.lt_trichotomy k i with c | c | c
      · exact absurd (hki.trans p1) (hd i k hi c)
      · exact c
      · exact absurd ((hki.trans p1).symm) (hd k i hk c)
    subst hki'
    have := hav.1
    rw [hc] at this
    rcases p4 with e | e <;> omega
  · by_cases c : j = i
    · subst c
      rw [hpi]
      refine ⟨p1, p2, ?_, p4⟩
      simp only [List.length_take]
      rcases hav.2 with a | a
      · omega
      · by_cases z : 0 < (Z.pr j).idle.length
        · omega
        · omega
    · rw [hpr j c]; exact h.pr j hj
  · rcases List.mem_append.1 ht with e | e
    · obtain ⟨b1, k, b2, b3, b4⟩ := h.busy t e
      refine ⟨by omega, k, b2, ?_, b4⟩
      show updO Z.bm (tkId Z i) (some i) t.2 = _
      unfold updO
      rw [if_neg (fun c => q1 (by rw [← c]; exact List.mem_map_of_mem e))]
      exact b3
    · rw [List.mem_singleton.1 e]
      refine ⟨q2, i, hi, ?_, p1.symm⟩
      show updO Z.bm (tkId Z i) (some i) (tkId Z i) = _
      unfold updO
      rw [if_pos rfl]
  · rw [List.map_append]
    refine List.nodup_append.2 ⟨h.tks, by simp, fun a ha b hb => ?_⟩
    simp at hb
    subst hb
    exact fun c => q1 (by rw [← c]; exact ha)
  · have key : ∀ x, x ∈ ((took Z i).pr j).idle → x ∈ (Z.pr j).idle ∧ x ≠ tkId Z i := by
      intro x hx
      by_cases c : j = i
      · subst c
        rw [hpi] at hx
        exact ⟨List.mem_of_mem_take hx, fun c => q3 (by rw [← c]; exact hx)⟩
      · rw [hpr j c] at hx
        exact ⟨hx, fun e => q4 j hj c (by rw [← e]; exact hx)⟩
    refine ⟨?_, fun x hx => ?_⟩
    · by_cases c : j = i
      · subst c
        rw [hpi]
        exact d1.sublist (List.take_sublist _ _)
      · rw [hpr j c]; exact (h.idle j hj).1
    · obtain ⟨k1, k2⟩ := key x hx
      obtain ⟨x1, x2, x3⟩ := (h.idle j hj).2 x k1
      refine ⟨by omega, ?_, fun m hm hmj hx2 => ?_⟩
      · rw [List.map_append]
        intro c
        rcases List.mem_append.1 c with e | e
        · exact x2 e
        · simp at e; exact k2 e
      · refine x3 m hm hmj ?_
        by_cases c : m = i
        · subst c
          rw [hpi] at hx2
          exact List.mem_of_mem_take hx2
        · rwa [hpr m c] at hx2
  · rcases updO_some c with e | e
    · cases e; exact hi
    · exact h.bml _ _ e
theorem erase_tk {tk : List (Int × Int)} {k : Nat} (hk : k < tk.length) (hn : (tk.map (·.2)).Nodup) : ((tk.eraseIdx k).map (·.2)).Nodup ∧ tk[k].2 ∉ (tk.eraseIdx k).map (·.2) ∧ ∀ t ∈ tk.eraseIdx k, t ∈ tk := by
  refine ⟨by rw [map_erase]; exact hn.sublist (List.eraseIdx_sublist _ _), ?_, fun t ht => List.mem_of_mem_eraseIdx ht⟩
  rw [map_erase]
  have hk' : k < (tk.map (·.2)).length := by simpa using hk
  have e : tk[k].2 = (tk.map (·.2))[k] := by simp
  rw [e]
  generalize tk.map (·.2) = l at hn hk' ⊢
  clear e
  induction l generalizing k with
  | nil => simp at hk'
  | cons x l ih =>
    rw [List.nodup_cons] at hn
    cases k with
    | zero => simpa using hn.1
    | succ k =>
      simp only [List.eraseIdx_cons_succ, List.getElem_cons_succ, List.mem_cons, not_or]
      have hk2 : k < l.length := by simpa using hk'
      refine ⟨fun c => hn.1 (by rw [← c]; exact List.getElem_mem hk2), ?_⟩
      exact ih (k := k) (hk := by omega) hn.2 hk2
theorem done_eq {Z : Pl} {id : Int} {keep : Bool} {i : Nat} (h : Z.bm id = some i) : done Z id keep = { Z with bm := updO Z.bm id none, im := if keep then updO Z.im id (some i) else Z.im, pr := setP Z.pr i { Z.pr i with busy := (Z.pr i).busy - 1, idle := if keep then (Z.pr i).idle ++ [id] else (Z.pr i).idle } } := by
  unfold done; rw [h]
theorem bd_done {us : List (Int × Int)} {Z : Pl} {tk : List (Int × Int)} {til : Nat → Int} {k : Nat} {keep : Bool} (h : Bd us Z tk til) (hk : k < tk.length) :
    doneR Z tk[k].2 = 0 ∧ Bd us (done Z tk[k].2 keep) (tk.eraseIdx k) til := by
  obtain ⟨b1, i, hi, hb, hu⟩ := h.busy _ (List.getElem_mem hk)
  obtain ⟨e1, e2, e3⟩ := erase_tk hk h.tks
  have hmem : tk[k].2 ∈ tk.map (·.2) := List.mem_map_of_mem (List.getElem_mem hk)
  refine ⟨by unfold doneR; rw [hb], ?_⟩
  rw [done_eq hb]
  obtain ⟨id, hid⟩ : ∃ id, id = tk[k].2 := ⟨_, rfl⟩
  rw [← hid] at hb b1 e2 hmem ⊢
  have out : ∀ j, j < us.length → id ∉ (Z.pr j).idle := fun j hj c => ((h.idle j hj).2 _ c).2.1 hmem
  refine ⟨h.n, fun j hj => ?_, fun t ht => ?_, e1, fun j hj => ?_, fun q j c => ?_⟩
  · obtain ⟨p1, p2, p3, p4⟩ := h.pr j hj
    simp only [setP]
    by_cases c : j = i
    · subst c
      simp only [if_true]
      refine ⟨p1, p2, ?_, p4⟩
      cases keep with
      | true => simp only [if_true, List.length_append, List.length_singleton]; omega
      | false => simp only [Bool.false_eq_true, if_false]; omega
    · simp only [if_neg c]
      exact ⟨p1, p2, p3, p4⟩
  · obtain ⟨c1, m, c2, c3, c4⟩ := h.busy t (e3 t ht)
    refine ⟨c1, m, c2, ?_, c4⟩
    show updO Z.bm id none t.2 = _
    unfold updO
    rw [if_neg (fun c => e2 (by rw [← c]; exact List.mem_map_of_mem ht))]
    exact c3
  · have inn : ∀ x, x ∈ (tk.eraseIdx k).map (·.2) → x ∈ tk.map (·.2) := fun x hx => by
      obtain ⟨t, t1, t2⟩ := List.mem_map.1 hx
      exact List.mem_map.2 ⟨t, e3 t t1, t2⟩
    have key : ∀ m, m < us.length → ∀ x, x ∈ (setP Z.pr i { Z.pr i with busy := (Z.pr i).busy - 1, idle := if keep then (Z.pr i).idle ++ [id] else (Z.pr i).idle } m).idle → x ∈ (Z.pr m).idle ∨ (x = id ∧ m = i) := by
      intro m hm x hx
      simp only [setP] at hx
      by_cases c : m = i
      · subst c
        simp only [if_true] at hx
        cases keep with
        | true =>
          simp only [if_true] at hx
          rcases List.mem_append.1 hx with e | e
          · exact .inl e
          · exact .inr ⟨List.mem_singleton.1 e, rfl⟩
        | false => simp only [Bool.false_eq_true, if_false] at hx; exact .inl hx
      · simp only [if_neg c] at hx
        exact .inl hx
    obtain ⟨d1, d2⟩ := h.idle j hj
    refine ⟨?_, fun x hx => ?_⟩
    · simp only [setP]
      by_cases c : j = i
      · subst c
        simp only [if_true]
        cases keep with
        | true =>
          simp only [if_true]
          refine List.nodup_append.2 ⟨d1, by simp, fun a ha b hb2 => ?_⟩
          simp at hb2
          subst hb2
          exact fun c => out j hj (by rw [← c]; exact ha)
        | false => simp only [Bool.false_eq_true, if_false]; exact d1
      · simp only [if_neg c]
        exact d1
    · rcases key j hj x hx with c | ⟨c, cj⟩
      · obtain ⟨x1, x2, x3⟩ := d2 x c
        refine ⟨x1, fun hc => x2 (inn x hc), fun m hm hmj hx2 => ?_⟩
        rcases key m hm x hx2 with d | ⟨d, dm⟩
        · exact x3 m hm hmj d
        · rw [d] at c; exact out j hj c
      · subst c; subst cj
        refine ⟨b1, e2, fun m hm hmj hx2 => ?_⟩
        rcases key m hm x hx2 with d | ⟨d, dm⟩
        · exact out m hm d
        · exact hmj dm
  · rcases updO_some c with e | e
    · cases e
    · exact h.bml _ _ e
theorem bd_fail {us : List (Int × Int)} {Z : Pl} {tk : List (Int × Int)} {til : Nat → Int} {k : Nat} {now : Int} (h : Bd us Z tk til) (hd : Dst us) (hk : k < tk.length) (hc : clk now = now) :
    failR Z tk[k].2 = 0 ∧ Bd us (failF Z tk[k].2 now) (tk.eraseIdx k) (fun q => if uid us q = tk[k].1 then now + Z.tmo else til q) := by
  obtain ⟨b1, i, hi, hb, hu⟩ := h.busy _ (List.getElem_mem hk)
  have hB := (bd_done (keep := false) h hk).2
  refine ⟨by unfold failR; rw [hb], ?_⟩
  have hf : failF Z tk[k].2 now = failAt (done Z tk[k].2 false) i now := by unfold failF; rw [hb]
  have ht : (done Z tk[k].2 false).tmo = Z.tmo := (done_n Z tk[k].2 false).2
  rw [hf]
  generalize done Z tk[k].2 false = Y at hB ht ⊢
  refine ⟨hB.n, fun j hj => ?_, hB.busy, hB.tks, fun j hj => ?_, hB.bml⟩
  · obtain ⟨p1, p2, p3, p4⟩ := hB.pr j hj
    simp only [failAt, setP]
    by_cases c : j = i
    · subst c
      simp only [if_true]
      refine ⟨p1, p2, ?_, .inr ?_⟩
      · simp only [List.length_nil]; omega
      · rw [if_pos hu, hc, ht]
    · simp only [if_neg c]
      refine ⟨p1, p2, p3, ?_⟩
      rw [if_neg (by
        rw [← hu]
        rcases Nat.lt_trichotomy j i with e | e | e
        · exact hd i j hi e
        · exact absurd e c
        · exact fun x => hd j i hj e x.symm)]
      exact p4
  · have key : ∀ m x, x ∈ (setP Y.pr i { Y.pr i with idle := [], til := clk now + Y.tmo } m).idle → x ∈ (Y.pr m).idle := by
      intro m x hx
      simp only [setP] at hx
      by_cases c : m = i
      · subst c
        simp at hx
      · simp only [if_neg c] at hx
        exact hx
    obtain ⟨d1, d2⟩ := hB.idle j hj
    refine ⟨?_, fun x hx => ?_⟩
    · simp only [failAt, setP]
      by_cases c : j = i
      · subst c; simp
      · simp only [if_neg c]; exact d1
    · obtain ⟨x1, x2, x3⟩ := d2 x (key j x hx)
      exact ⟨x1, x2, fun m hm hmj hx2 => x3 m hm hmj (key m x hx2)⟩
end Go.Proofs.Ytpmcokpiplcnjaa.PL
