/- What stands behind a stream changes nothing; a stream cut short ends too early. Plain; no program in sight. No conditions but those that each names. -/
import Derived.Test.YtehfblkpbadikaaInfMost0
set_option linter.unusedVariables false
set_option linter.unusedSimpArgs false
namespace Go.Proofs.Ytehfblkpbadikaa.IF
open Go Go.Proofs Go.RowKit Go.Proofs.Ytehfblkpbadikaa.Sh Go.Proofs.Ytehfblkpbadikaa.Sl Go.Proofs.Ytehfblkpbadikaa.T Go.Proofs.Ytehfblkpbadikaa.HM Go.Proofs.Ytehfblkpbadikaa.HF Go.Proofs.Ytehfblkpbadikaa.B Go.Proofs.Ytehfblkpbadikaa.M
/-- the same for k bytes -/
structure Agr (b b' : List UInt8) (k : Nat) : Prop where
  l1 : k ≤ b.length
  l2 : k ≤ b'.length
  eq : b.take k = b'.take k
abbrev Rdr (α : Type) := List UInt8 → Nat → Except Int (Nat × α)
def Good {α : Type} (f : Rdr α) : Prop := ∀ b b' k at_ a v, Agr b b' k → at_ ≤ 8 * k → f b at_ = .ok (a, v) → at_ ≤ a ∧ a ≤ 8 * b.length ∧ (a ≤ 8 * k → f b' at_ = .ok (a, v)) ∧ (8 * k < a → k = b'.length → f b' at_ = .error 20)
def bnd {α β : Type} (f : Rdr α) (g : α → Rdr β) : Rdr β := fun b at_ => match f b at_ with
  | .error e => .error e
  | .ok (a, v) => g v b a
def pur {α : Type} (v : α) : Rdr α := fun _ at_ => .ok (at_, v)
def err {α : Type} (e : Int) : Rdr α := fun _ _ => .error e
def tk (k : Int) : Rdr Nat := fun b at_ => if takR b at_ k ≠ 0 then .error (takR b at_ k) else .ok (takAt b at_ k, takN b at_ k)
def ali : Rdr Unit := fun b at_ => .ok ((at_ + 7) / 8 * 8, ())
def rw_ (n : Int) : Rdr (List UInt8) := fun b at_ => if rrR b at_ n ≠ 0 then .error (rrR b at_ n) else .ok (rrAt b at_ n, rrB b at_ n)
def nx (l : List Int) : Rdr Int := fun b at_ => if (nxt l b at_).2.1 ≠ 0 then .error (nxt l b at_).2.1 else .ok ((nxt l b at_).2.2, (nxt l b at_).1)
theorem bnd_tk {β : Type} {k : Int} {g : Nat → Rdr β} {b : List UInt8} {at_ : Nat} : bnd (tk k) g b at_ = if takR b at_ k ≠ 0 then .error (takR b at_ k) else g (takN b at_ k) b (takAt b at_ k) := by
  unfold bnd tk
  by_cases h : takR b at_ k ≠ 0
  · rw [if_pos h, if_pos h]
  · rw [if_neg h, if_neg h]
theorem bnd_rw {β : Type} {k : Int} {g : List UInt8 → Rdr β} {b : List UInt8} {at_ : Nat} : bnd (rw_ k) g b at_ = if rrR b at_ k ≠ 0 then .error (rrR b at_ k) else g (rrB b at_ k) b (rrAt b at_ k) := by
  unfold bnd rw_
  by_cases h : rrR b at_ k ≠ 0
  · rw [if_pos h, if_pos h]
  · rw [if_neg h, if_neg h]
theorem bnd_nx {β : Type} {l : List Int} {g : Int → Rdr β} {b : List UInt8} {at_ : Nat} : bnd (nx l) g b at_ = if (nxt l b at_).2.1 ≠ 0 then .error (nxt l b at_).2.1 else g (nxt l b at_).1 b (nxt l b at_).2.2 := by
  unfold bnd nx
  by_cases h : (nxt l b at_).2.1 ≠ 0
  · rw [if_pos h, if_pos h]
  · rw [if_neg h, if_neg h]
theorem good_bnd {α β : Type} {f : Rdr α} {g : α → Rdr β} (hf : Good f) (hg : ∀ v, Good (g v)) : Good (bnd f g) := by
  intro b b' k at_ a v hA hat h
  unfold bnd at h ⊢
  cases h1 : f b at_ with
  | error e => rw [h1] at h; cases h
  | ok x =>
    obtain ⟨a1, v1⟩ := x
    rw [h1] at h
    simp only at h
    obtain ⟨p1, p2, p3, p4⟩ := hf b b' k at_ a1 v1 hA hat h1
    by_cases c : a1 ≤ 8 * k
    · obtain ⟨q1, q2, q3, q4⟩ := hg v1 b b' k a1 a v hA c h
      rw [p3 c]
      exact ⟨by omega, q2, q3, q4⟩
    · -- the rest lies behind too
      have q := hg v1 b b b.length a1 a v ⟨Nat.le_refl _, Nat.le_refl _, rfl⟩ p2 h
      refine ⟨by omega, q.2.1, fun h2 => absurd q.1 (by omega), fun h2 h3 => ?_⟩
      rw [p4 (by omega) h3]
theorem good_pur {α : Type} (v : α) : Good (pur v) := by
  intro b b' k at_ a v' hA hat h
  have h1 := (Prod.mk.inj (Except.ok.inj h)).1
  have h2 := (Prod.mk.inj (Except.ok.inj h)).2
  subst h1; subst h2
  have := hA.l1
  exact ⟨Nat.le_refl _, by omega, fun _ => rfl, fun c => absurd c (by omega)⟩
theorem good_err {α : Type} (e : Int) : Good (err (α := α) e) := fun b b' k at_ a v hA hat h => by cases h
theorem good_if {α : Type} {c : Prop} [Decidable c] {f g : Rdr α} (hf : Good f) (hg : Good g) : Good (fun b at_ => if c then f b at_ else g b at_) := by
  by_cases h : c
  · simp only [if_pos h]; exact hf
  · simp only [if_neg h]; exact hg
theorem ub_app (x y : List UInt8) : ub (x ++ y) = ub x ++ ub y := by unfold ub; rw [List.flatMap_append]
theorem ub_agr {b b' : List UInt8} {k i : Nat} (h : Agr b b' k) (hi : i < 8 * k) : (ub b)[i]? = (ub b')[i]? := by
  have e1 : ub b = ub (b.take k) ++ ub (b.drop k) := by rw [← ub_app, List.take_append_drop]
  have e2 : ub b' = ub (b'.take k) ++ ub (b'.drop k) := by rw [← ub_app, List.take_append_drop]
  have l1 : (ub (b.take k)).length = 8 * k := by rw [length_ub, List.length_take]; have := h.l1; omega
  have l2 : (ub (b'.take k)).length = 8 * k := by rw [length_ub, List.length_take]; have := h.l2; omega
  rw [e1, e2, List.getElem?_append_left (by omega), List.getElem?_append_left (by omega), h.eq]
theorem tak_agr {b b' : List UInt8} {k at_ n : Nat} (h : Agr b b' k) (hi : at_ + n ≤ 8 * k) : tak (ub b) at_ n = tak (ub b') at_ n := by
  unfold tak
  congr 1
  apply List.ext_getElem?
  intro j
  rw [List.getElem?_take, List.getElem?_take]
  split
  · rw [List.getElem?_drop, List.getElem?_drop]
    exact ub_agr h (by omega)
  · rfl
theorem good_tk (n : Int) : Good (tk n) := by
  intro b b' k at_ a v hA hat h
  unfold tk at h ⊢
  have ⟨c, h⟩ := ite_err h
  have c := Decidable.not_not.1 c
  have h1 := (Prod.mk.inj (Except.ok.inj h)).1
  have h2 := (Prod.mk.inj (Except.ok.inj h)).2
  subst h1; subst h2
  have cc := c
  unfold takR at cc
  split at cc
  · cases cc
  rename_i c1
  split at cc
  · cases cc
  rename_i c2
  have ha : takAt b at_ n = at_ + n.toNat := by unfold takAt; rw [if_pos c]
  have hb2 := hA.l2
  rw [ha]
  refine ⟨by omega, by omega, fun hk => ?_, fun hk hk2 => ?_⟩
  · have c' : takR b' at_ n = 0 := by unfold takR; rw [if_neg c1, if_neg (by omega)]
    have ha' : takAt b' at_ n = at_ + n.toNat := by unfold takAt; rw [if_pos c']
    have hn' : takN b' at_ n = takN b at_ n := by unfold takN; rw [if_pos c', if_pos c, tak_agr hA hk]
    rw [if_neg (fun x => x c'), ha', hn']
  · have c' : takR b' at_ n = 20 := by unfold takR; rw [if_neg c1, if_pos (by omega)]
    rw [if_pos (by rw [c']; decide), c']
theorem good_ali : Good ali := by
  intro b b' k at_ a v hA hat h
  unfold ali at h ⊢
  have h1 := (Prod.mk.inj (Except.ok.inj h)).1
  subst h1
  have := hA.l1
  refine ⟨by omega, by omega, fun _ => rfl, fun c c2 => absurd c (by omega)⟩
theorem good_rw (n : Int) : Good (rw_ n) := by
  intro b b' k at_ a v hA hat h
  unfold rw_ at h ⊢
  have ⟨c, h⟩ := ite_err h
  have c := Decidable.not_not.1 c
  have h1 := (Prod.mk.inj (Except.ok.inj h)).1
  have h2 := (Prod.mk.inj (Except.ok.inj h)).2
  subst h1; subst h2
  have cc := c
  unfold rrR at cc
  split at cc
  · cases cc
  rename_i c1
  split at cc
  · cases cc
  rename_i c2
  have ha : rrAt b at_ n = 8 * ((at_ + 7) / 8 + n.toNat) := by unfold rrAt; rw [if_pos c]
  have hb1 := hA.l1
  have hb2 := hA.l2
  rw [ha]
  refine ⟨by omega, by omega, fun hk => ?_, fun hk hk2 => ?_⟩
  · have c' : rrR b' at_ n = 0 := by unfold rrR; rw [if_neg c1, if_neg (by omega)]
    have ha' : rrAt b' at_ n = 8 * ((at_ + 7) / 8 + n.toNat) := by unfold rrAt; rw [if_pos c']
    have hn' : rrB b' at_ n = rrB b at_ n := by
      unfold rrB; rw [if_pos c', if_pos c]
      have e : ∀ x : List UInt8, (x.drop ((at_ + 7) / 8)).take n.toNat = (((x.take k).drop ((at_ + 7) / 8)).take n.toNat) := fun x => by
        apply List.ext_getElem?
        intro j
        rw [List.getElem?_take, List.getElem?_take]
        split
        · rw [List.getElem?_drop, List.getElem?_drop, List.getElem?_take, if_pos (by omega)]
        · rfl
      rw [e b, e b', hA.eq]
    rw [if_neg (fun x => x c'), ha', hn']
  · have c' : rrR b' at_ n = 20 := by unfold rrR; rw [if_neg c1, if_pos (by omega)]
    rw [if_pos (by rw [c']; decide), c']
def wrp (x : Int × Int × Nat) : Except Int (Nat × Int) := if x.2.1 ≠ 0 then .error x.2.1 else .ok (x.2.2, x.1)
theorem good_dec (l : List Int) : ∀ f n c, Good (fun b at_ => wrp (dec l b f n c at_))
  | 0, n, c => fun b b' k at_ a v hA hat h => by simp [wrp, dec] at h
  | f + 1, n, c => by
    have e : (fun b at_ => wrp (dec l b (f + 1) n c at_)) = bnd (tk 1) (fun t b a => match fL l ((n + 1 : Nat) : Int) ((2 * c + t : Nat) : Int) l.length with
        | some i => .ok (a, (i : Int))
        | none => wrp (dec l b f (n + 1) (2 * c + t) a)) := by
      funext b at_
      rw [bnd_tk]
      have hd : dec l b (f + 1) n c at_ = if takR b at_ 1 = 0 then (match fL l ((n + 1 : Nat) : Int) ((2 * c + takN b at_ 1 : Nat) : Int) l.length with
        | some i => ((i : Int), 0, takAt b at_ 1)
        | none => dec l b f (n + 1) (2 * c + takN b at_ 1) (takAt b at_ 1)) else (0, takR b at_ 1, takAt b at_ 1) := rfl
      rw [hd]
      by_cases h : takR b at_ 1 = 0
      · rw [if_pos h, if_neg (fun c => c h)]
        cases fL l ((n + 1 : Nat) : Int) ((2 * c + takN b at_ 1 : Nat) : Int) l.length with
        | some i => simp [wrp]
        | none => rfl
      · rw [if_neg h, if_pos h]
        simp [wrp, h]
    rw [e]
    refine good_bnd (good_tk 1) fun t => ?_
    cases fL l ((n + 1 : Nat) : Int) ((2 * c + t : Nat) : Int) l.length with
    | some i => exact good_pur _
    | none => exact good_dec l f (n + 1) (2 * c + t)
theorem good_nx (l : List Int) : Good (nx l) := by
  by_cases h : pos l
  · have e : nx l = fun b at_ => wrp (dec l b 15 0 0 at_) := by
      funext b at_
      unfold nx wrp nxt
      rw [if_pos h]
    rw [e]
    exact good_dec l 15 0 0
  · have e : nx l = err 30 := by
      funext b at_
      unfold nx nxt err
      rw [if_neg h]
      simp
    rw [e]
    exact good_err _
theorem bnd_ali {β : Type} {g : Unit → Rdr β} {b : List UInt8} {at_ : Nat} : bnd ali g b at_ = g () b ((at_ + 7) / 8 * 8) := rfl
theorem good_stored (most : Int) (out : List UInt8) : Good (fun b at_ => mStored b most at_ out) := by
  have e : (fun b at_ => mStored b most at_ out) = bnd ali fun _ => bnd (tk 16) fun n => bnd (tk 16) fun m => fun b at_ => if (m : Int) ≠ 65535 - (n : Int) then err 31 b at_ else if ¬ (n : Int) ≤ most - out.length then err 6 b at_ else bnd (rw_ n) (fun bs => pur (out ++ bs)) b at_ := by
    funext b at_
    rw [bnd_ali, bnd_tk]
    simp only [bnd_tk, bnd_rw, err, pur]
    rfl
  rw [e]
  exact good_bnd good_ali fun _ => good_bnd (good_tk _) fun n => good_bnd (good_tk _) fun m => good_if (good_err _) (good_if (good_err _) (good_bnd (good_rw _) fun _ => good_pur _))
def cv (x : Except Int (Bool × Nat × List UInt8)) : Except Int (Nat × Bool × List UInt8) := match x with
  | .error e => .error e
  | .ok (t, a, o) => .ok (a, t, o)
theorem cv_ite {c : Prop} [Decidable c] (x y : Except Int (Bool × Nat × List UInt8)) : cv (if c then x else y) = if c then cv x else cv y := by split <;> rfl
theorem cv_err (e : Int) : cv (.error e) = .error e := rfl
theorem cv_ok (t : Bool) (a : Nat) (o : List UInt8) : cv (.ok (t, a, o)) = .ok (a, t, o) := rfl
theorem good_round (la lb : List Int) (most : Int) (out : List UInt8) : Good (fun b at_ => cv (mRound la lb b most at_ out)) := by
  have e : (fun b at_ => cv (mRound la lb b most at_ out)) = bnd (nx la) fun x b at_ =>
      if x = 256 then pur (true, out) b at_ else
      if x < 256 then (if ¬ (1 : Int) ≤ most - out.length then err 6 b at_ else pur (false, out ++ [UInt8.ofNat x.toNat]) b at_) else
      if ¬ 0 < (bL x).1 then err 30 b at_ else
      bnd (tk (bL x).2) (fun t => bnd (nx lb) fun y b at_ =>
        if ¬ 0 < (bD y).1 then err 30 b at_ else
        bnd (tk (bD y).2) (fun u b at_ =>
          if ¬ (bD y).1 + u ≤ out.length then err 31 b at_ else
          if ¬ (bL x).1 + t ≤ most - out.length then err 6 b at_ else
          pur (false, copyL out ((bD y).1 + u).toNat ((bL x).1 + t).toNat) b at_) b at_) b at_ := by
    funext b at_
    rw [bnd_nx]
    unfold mRound
    simp only [bnd_tk, bnd_nx, err, pur, cv_ite, cv_err, cv_ok]
  rw [e]
  refine good_bnd (good_nx _) fun x => good_if (good_pur _) (good_if (good_if (good_err _) (good_pur _)) (good_if (good_err _) (good_bnd (good_tk _) fun t => good_bnd (good_nx _) fun y => good_if (good_err _) (good_bnd (good_tk _) fun u => good_if (good_err _) (good_if (good_err _) (good_pur _))))))
theorem good_syms (la lb : List Int) (most : Int) : ∀ f out, Good (fun b at_ => mSyms la lb b most f at_ out)
  | 0, out => good_err _
  | f + 1, out => by
    have e : (fun b at_ => mSyms la lb b most (f + 1) at_ out) = bnd (fun b at_ => cv (mRound la lb b most at_ out)) fun x b at_ => if x.1 = true then pur x.2 b at_ else mSyms la lb b most f at_ x.2 := by
      funext b at_
      unfold bnd
      rw [mSyms]
      cases h : mRound la lb b most at_ out with
      | error e => simp [cv, h]
      | ok x =>
        obtain ⟨t, a, o⟩ := x
        cases t <;> simp [cv, pur, h]
    rw [e]
    exact good_bnd (good_round _ _ _ _) fun x => good_if (good_pur _) (good_syms la lb most f x.2)
theorem mRound_lt {la lb : List Int} {b : List UInt8} {most : Int} {at_ : Nat} {out : List UInt8} {t : Bool} {a : Nat} {o : List UInt8} (h : mRound la lb b most at_ out = .ok (t, a, o)) : at_ < a := by
  have ho : ∀ {t' : Bool} {a' : Nat} {o' : List UInt8}, (Except.ok (t', a', o') : Except Int (Bool × Nat × List UInt8)) = .ok (t, a, o) → a' = a := fun e => (Prod.mk.inj (Prod.mk.inj (Except.ok.inj e)).2).1
  unfold mRound at h
  simp only at h
  obtain ⟨c0, h⟩ := ite_err h
  have n1 := (nxt_at la b at_).2 (Decidable.not_not.1 c0)
  by_cases c1 : (nxt la b at_).1 = 256
  · rw [if_pos c1] at h
    rw [← ho h]; exact n1
  rw [if_neg c1] at h
  by_cases c2 : (nxt la b at_).1 < 256
  · rw [if_pos c2] at h
    obtain ⟨c3, h⟩ := ite_err h
    rw [← ho h]; exact n1
  rw [if_neg c2] at h
  obtain ⟨_, h⟩ := ite_err h
  obtain ⟨_, h⟩ := ite_err h
  obtain ⟨_, h⟩ := ite_err h
  obtain ⟨_, h⟩ := ite_err h
  obtain ⟨_, h⟩ := ite_err h
  obtain ⟨_, h⟩ := ite_err h
  obtain ⟨c3, h⟩ := ite_err h
  rw [← ho h]
  have l1 := takAt_le b (nxt la b at_).2.2 (bL (nxt la b at_).1).2
  have l2 := (nxt_at lb b (takAt b (nxt la b at_).2.2 (bL (nxt la b at_).1).2)).1
  have l3 := takAt_le b (nxt lb b (takAt b (nxt la b at_).2.2 (bL (nxt la b at_).1).2)).2.2 (bD (nxt lb b (takAt b (nxt la b at_).2.2 (bL (nxt la b at_).1).2)).1).2
  exact Nat.lt_of_lt_of_le n1 (Nat.le_trans l1 (Nat.le_trans l2 l3))
theorem mRound_le {la lb : List Int} {b : List UInt8} {most : Int} {at_ : Nat} {out : List UInt8} {t : Bool} {a : Nat} {o : List UInt8} (hat : at_ ≤ 8 * b.length) (h : mRound la lb b most at_ out = .ok (t, a, o)) : a ≤ 8 * b.length := by
  have := good_round la lb most out b b b.length at_ a (t, o) ⟨Nat.le_refl _, Nat.le_refl _, rfl⟩ hat (by simp only [h, cv])
  exact this.2.1
theorem mSyms_fuel {la lb : List Int} {b : List UInt8} {most : Int} : ∀ (f g at_ : Nat) (out : List UInt8), at_ ≤ 8 * b.length → 8 * b.length + 1 ≤ f + at_ → 8 * b.length + 1 ≤ g + at_ → mSyms la lb b most f at_ out = mSyms la lb b most g at_ out
  | 0, _, _, _, h1, h2, _ => absurd h2 (by omega)
  | _ + 1, 0, _, _, h1, _, h3 => absurd h3 (by omega)
  | f + 1, g + 1, at_, out, h1, h2, h3 => by
    rw [mSyms, mSyms]
    cases h : mRound la lb b most at_ out with
    | error e => rfl
    | ok x =>
      obtain ⟨t, a, o⟩ := x
      cases t with
      | true => rfl
      | false =>
        have l1 := mRound_lt h
        have l2 := mRound_le h1 h
        exact mSyms_fuel f g a o l2 (by omega) (by omega)
theorem good_fuel {α : Type} {f : Rdr α} (F : Nat → Rdr α) (hF : ∀ n, Good (F n)) (h : ∀ b at_ n, at_ ≤ 8 * b.length → 8 * b.length + 1 ≤ n → f b at_ = F n b at_) : Good f := by
  intro b b' k at_ a v hA hat hf
  have l1 := hA.l1
  have l2 := hA.l2
  rw [h b at_ (8 * b.length + 8 * b'.length + 1) (by omega) (by omega)] at hf
  rw [h b' at_ (8 * b.length + 8 * b'.length + 1) (by omega) (by omega)]
  exact hF _ b b' k at_ a v hA hat hf
theorem good_s (la lb : List Int) (most : Int) (out : List UInt8) : Good (fun b at_ => mS la lb b most at_ out) :=
  good_fuel (fun n b at_ => mSyms la lb b most n at_ out) (fun n => good_syms la lb most n out) fun b at_ n h1 h2 => mSyms_fuel _ _ _ _ h1 (by omega) (by omega)
theorem good_cl : ∀ (ks : List Nat) (l : List Int), Good (fun b at_ => mCl b ks at_ l)
  | [], l => good_pur _
  | k :: ks, l => by
    have e : (fun b at_ => mCl b (k :: ks) at_ l) = bnd (tk 3) fun t b at_ => mCl b ks at_ (l.set k (t : Int)) := by
      funext b at_
      rw [bnd_tk, mCl]
    rw [e]
    exact good_bnd (good_tk _) fun t => good_cl ks _
def cr (x : Except Int (Int × Int × Nat)) : Except Int (Nat × Int × Int) := match x with
  | .error e => .error e
  | .ok (v, t, a) => .ok (a, v, t)
theorem cr_ite {c : Prop} [Decidable c] (x y : Except Int (Int × Int × Nat)) : cr (if c then x else y) = if c then cr x else cr y := by split <;> rfl
theorem cr_err (e : Int) : cr (.error e) = .error e := rfl
theorem cr_ok (t v : Int) (a : Nat) : cr (.ok (v, t, a)) = .ok (a, v, t) := rfl
theorem good_run (l : List Int) (acc : List Int) : Good (fun b at_ => cr (mRun l b at_ acc)) := by
  have e : (fun b at_ => cr (mRun l b at_ acc)) = bnd (nx l) fun x b at_ =>
      if x = 16 then bnd (tk 2) (fun t b at_ => if ¬ 0 < acc.length then err 30 b at_ else pur (acc.getD (acc.length - 1) 0, 3 + (t : Int)) b at_) b at_ else
      if x = 17 then bnd (tk 3) (fun t => pur ((0 : Int), 3 + (t : Int))) b at_ else
      if x = 18 then bnd (tk 7) (fun t => pur ((0 : Int), 11 + (t : Int))) b at_ else pur (x, 1) b at_ := by
    funext b at_
    rw [bnd_nx]
    unfold mRun
    simp only [bnd_tk, err, pur, cr_ite, cr_err, cr_ok]
  rw [e]
  exact good_bnd (good_nx _) fun x => good_if (good_bnd (good_tk _) fun t => good_if (good_err _) (good_pur _)) (good_if (good_bnd (good_tk _) fun t => good_pur _) (good_if (good_bnd (good_tk _) fun t => good_pur _) (good_pur _)))
theorem good_row (l : List Int) (n : Nat) : ∀ f acc, Good (fun b at_ => mRow l b n f at_ acc)
  | 0, acc => good_err _
  | f + 1, acc => by
    by_cases hc : acc.length < n
    · have e : (fun b at_ => mRow l b n (f + 1) at_ acc) = bnd (fun b at_ => cr (mRun l b at_ acc)) fun x b at_ => if ¬ x.2 ≤ (n : Int) - acc.length then err 30 b at_ else mRow l b n f at_ (acc ++ List.replicate x.2.toNat x.1) := by
        funext b at_
        unfold bnd
        rw [mRow, if_pos hc]
        cases h : mRun l b at_ acc with
        | error e => simp [cr, h]
        | ok x =>
          obtain ⟨v, t, a⟩ := x
          simp [cr, err, h]
      rw [e]
      exact good_bnd (good_run _ _) fun x => good_if (good_err _) (good_row l n f _)
    · have e : (fun b at_ => mRow l b n (f + 1) at_ acc) = pur acc := by
        funext b at_
        rw [mRow, if_neg hc]; rfl
      rw [e]
      exact good_pur _
theorem mRun_le {l : List Int} {b : List UInt8} {at_ : Nat} {acc : List Int} {v t : Int} {a : Nat} (hat : at_ ≤ 8 * b.length) (h : mRun l b at_ acc = .ok (v, t, a)) : a ≤ 8 * b.length := by
  have := good_run l acc b b b.length at_ a (v, t) ⟨Nat.le_refl _, Nat.le_refl _, rfl⟩ hat (by simp only [h, cr])
  exact this.2.1
theorem mRun_lt {l : List Int} {b : List UInt8} {at_ : Nat} {acc : List Int} {v t : Int} {a : Nat} (h : mRun l b at_ acc = .ok (v, t, a)) : at_ < a := by
  have ho : ∀ {v' t' : Int} {a' : Nat}, (Except.ok (v', t', a') : Except Int (Int × Int × Nat)) = .ok (v, t, a) → a' = a := fun e => (Prod.mk.inj (Prod.mk.inj (Except.ok.inj e)).2).2
  unfold mRun at h
  simp only at h
  obtain ⟨c0, h⟩ := ite_err h
  have n1 := (nxt_at l b at_).2 (Decidable.not_not.1 c0)
  by_cases c1 : (nxt l b at_).1 = 16
  · rw [if_pos c1] at h
    obtain ⟨_, h⟩ := ite_err h
    obtain ⟨c2, h⟩ := ite_err h
    have hle := takAt_le b (nxt l b at_).2.2 2
    rw [← ho h]; omega
  rw [if_neg c1] at h
  by_cases c2 : (nxt l b at_).1 = 17
  · rw [if_pos c2] at h
    obtain ⟨_, h⟩ := ite_err h
    have hle := takAt_le b (nxt l b at_).2.2 3
    rw [← ho h]; omega
  rw [if_neg c2] at h
  by_cases c3 : (nxt l b at_).1 = 18
  · rw [if_pos c3] at h
    obtain ⟨_, h⟩ := ite_err h
    have hle := takAt_le b (nxt l b at_).2.2 7
    rw [← ho h]; omega
  rw [if_neg c3] at h
  rw [← ho h]; omega
theorem mRow_fuel {l : List Int} {b : List UInt8} {n : Nat} : ∀ (f g at_ : Nat) (acc : List Int), at_ ≤ 8 * b.length → 8 * b.length + 1 ≤ f + at_ → 8 * b.length + 1 ≤ g + at_ → mRow l b n f at_ acc = mRow l b n g at_ acc
  | 0, _, _, _, h1, h2, _ => absurd h2 (by omega)
  | _ + 1, 0, _, _, h1, _, h3 => absurd h3 (by omega)
  | f + 1, g + 1, at_, acc, h1, h2, h3 => by
    rw [mRow, mRow]
    by_cases hc : acc.length < n
    · rw [if_pos hc, if_pos hc]
      cases h : mRun l b at_ acc with
      | error e => rfl
      | ok x =>
        obtain ⟨v, t, a⟩ := x
        have l1 := mRun_lt h
        have l2 := mRun_le h1 h
        simp only
        rw [mRow_fuel f g a _ l2 (by omega) (by omega)]
    · rw [if_neg hc, if_neg hc]
theorem good_rw2 (l : List Int) (n : Nat) : Good (fun b at_ => mRw l b n at_) :=
  good_fuel (fun f b at_ => mRow l b n f at_ []) (fun f => good_row l n f []) fun b at_ f h1 h2 => mRow_fuel _ _ _ _ h1 (by omega) (by omega)
theorem good_both (most : Int) (h n : Nat) (l : List Int) (out : List UInt8) : Good (fun b at_ => mBoth b most h n l at_ out) := by
  have e : (fun b at_ => mBoth b most h n l at_ out) = bnd (fun b at_ => mRw l b n at_) fun r b at_ =>
      if ¬ (0 < r.getD 256 0 ∧ enoughB (r.take h) = true ∧ enoughB (r.drop h) = true) then err 30 b at_ else
      if ¬ okL (r.take h) then err 30 b at_ else
      if ¬ okL (r.drop h) then err 30 b at_ else mS (r.take h) (r.drop h) b most at_ out := by
    funext b at_
    unfold bnd mBoth
    dsimp only
    cases mRw l b n at_ with
    | error e => rfl
    | ok x => rfl
  rw [e]
  exact good_bnd (good_rw2 _ _) fun r => good_if (good_err _) (good_if (good_err _) (good_if (good_err _) (good_s _ _ _ _)))
theorem good_dyn (most : Int) (out : List UInt8) : Good (fun b at_ => mDyn b most at_ out) := by
  have e : (fun b at_ => mDyn b most at_ out) = bnd (tk 5) fun h => bnd (tk 5) fun d => bnd (tk 4) fun c b at_ =>
      if ¬ (h ≤ 29 ∧ d ≤ 29) then err 31 b at_ else
      bnd (fun b at_ => mCl b (ordL.take (c + 4)) at_ (List.replicate 19 0)) (fun l b at_ => if ¬ fullB l = true then err 30 b at_ else mBoth b most (h + 257) (h + 257 + d + 1) l at_ out) b at_ := by
    funext b at_
    rw [bnd_tk, bnd_tk, bnd_tk]
    unfold mDyn bnd
    dsimp only
    split
    · rfl
    split
    · rfl
    split
    · rfl
    split
    · rfl
    split
    · rename_i hc; rw [hc]
    · rename_i hc; rw [hc]; rfl
  rw [e]
  exact good_bnd (good_tk _) fun h => good_bnd (good_tk _) fun d => good_bnd (good_tk _) fun c => good_if (good_err _) (good_bnd (good_cl _ _) fun l => good_if (good_err _) (good_both _ _ _ _ _))
theorem good_kind (k : Nat) (most : Int) (out : List UInt8) : Good (fun b at_ => mKind k b most at_ out) := by
  unfold mKind
  exact good_if (good_stored _ _) (good_if (good_s _ _ _ _) (good_if (good_dyn _ _) (good_err _)))
theorem good_loop (most : Int) : ∀ f out l, Good (fun b at_ => mLoop b most f at_ out l)
  | 0, _, _ => good_err _
  | f + 1, out, l => by
    have e : (fun b at_ => mLoop b most (f + 1) at_ out l) = bnd (tk 1) fun last => bnd (tk 2) fun k => bnd (fun b at_ => mKind k b most at_ out) fun o b at_ => if last = 0 then mLoop b most f at_ o (l ++ [((k : Int), (o.length : Int) - (out.length : Int))]) else pur (o, l ++ [((k : Int), (o.length : Int) - (out.length : Int))]) b at_ := by
      funext b at_
      rw [bnd_tk, bnd_tk, mLoop]
      split
      · rfl
      split
      · rfl
      unfold bnd
      dsimp only
      cases mKind (takN b (takAt b at_ 1) 2) b most (takAt b (takAt b at_ 1) 2) out with
      | error e => rfl
      | ok x => rfl
    rw [e]
    exact good_bnd (good_tk _) fun last => good_bnd (good_tk _) fun k => good_bnd (good_kind _ _ _) fun o => good_if (good_loop most f _ _) (good_pur _)
theorem mKind_le {k : Nat} {b : List UInt8} {most : Int} {at_ : Nat} {out : List UInt8} {a : Nat} {o : List UInt8} (hat : at_ ≤ 8 * b.length) (h : mKind k b most at_ out = .ok (a, o)) : a ≤ 8 * b.length :=
  (good_kind k most out b b b.length at_ a o ⟨Nat.le_refl _, Nat.le_refl _, rfl⟩ hat h).2.1
theorem takAt_up {b : List UInt8} {at_ : Nat} {k : Int} (hat : at_ ≤ 8 * b.length) : takAt b at_ k ≤ 8 * b.length := by
  unfold takAt
  split
  · rename_i h
    unfold takR at h
    split at h
    · cases h
    · split at h
      · cases h
      · omega
  · exact hat
theorem mLoop_fuel {b : List UInt8} {most : Int} : ∀ (f g at_ : Nat) (out : List UInt8) (l : List (Int × Int)), at_ ≤ 8 * b.length → 8 * b.length + 1 ≤ f + at_ → 8 * b.length + 1 ≤ g + at_ → mLoop b most f at_ out l = mLoop b most g at_ out l
  | 0, _, _, _, _, h1, h2, _ => absurd h2 (by omega)
  | _ + 1, 0, _, _, _, h1, _, h3 => absurd h3 (by omega)
  | f + 1, g + 1, at_, out, l, h1, h2, h3 => by
    rw [mLoop, mLoop]
    by_cases c1 : takR b at_ 1 ≠ 0
    · rw [if_pos c1, if_pos c1]
    rw [if_neg c1, if_neg c1]
    by_cases c2 : takR b (takAt b at_ 1) 2 ≠ 0
    · rw [if_pos c2, if_pos c2]
    rw [if_neg c2, if_neg c2]
    have t1 : takAt b at_ 1 = at_ + 1 := by unfold takAt; rw [if_pos (Decidable.not_not.1 c1)]; rfl
    have u1 := takAt_up (b := b) (k := 1) h1
    have u2 := takAt_up (b := b) (k := 2) u1
    have u3 := takAt_le b (takAt b at_ 1) 2
    cases h : mKind (takN b (takAt b at_ 1) 2) b most (takAt b (takAt b at_ 1) 2) out with
    | error e => rfl
    | ok x =>
      obtain ⟨a, o⟩ := x
      have l1 := mKind_at h
      have l2 := mKind_le u2 h
      simp only
      rw [mLoop_fuel f g a _ _ l2 (by omega) (by omega)]
theorem good_all (most : Int) : Good (fun b at_ => mLoop b most (8 * b.length + 1) at_ [] []) :=
  good_fuel (fun f b at_ => mLoop b most f at_ [] []) (fun f => good_loop most f _ _) fun b at_ f h1 h2 => mLoop_fuel _ _ _ _ _ h1 (by omega) (by omega)
theorem err_ok {b : List UInt8} {most : Int} (h : aE b most = 0) : ∃ v, mAll b most = .ok v := by
  cases hv : mAll b most with
  | error e => exact absurd (by simpa [aE, hv] using h) (mAll_e hv)
  | ok v => exact ⟨v, rfl⟩
theorem bad_out {b : List UInt8} {most : Int} (h : aE b most ≠ 0) : aO b most = [] ∧ aU b most = 0 := by
  cases hv : mAll b most with
  | error e => simp [aO, aU, hv]
  | ok v => exact absurd (by simp [aE, hv]) h
theorem ends_law {b more : List UInt8} {most : Int} (hb : b.length ≤ 1048576) (h : aE b most = 0) : ∃ n : Nat, aU b most = (n : Int) ∧ 1 ≤ n ∧ n ≤ b.length ∧
    (n + more.length ≤ 1048576 → aE (b.take n ++ more) most = 0 ∧ aO (b.take n ++ more) most = aO b most ∧ aU (b.take n ++ more) most = (n : Int)) ∧
    (1048576 < n + more.length → aE (b.take n ++ more) most = 6) ∧
    aE (b.take (n - 1)) most = 20 ∧ aO (b.take (n - 1)) most = [] := by
  obtain ⟨⟨a, o, l⟩, hv⟩ := err_ok h
  have hU : aU b most = (b.length : Int) - (8 * (b.length : Int) - a) / 8 := by simp [aU, hv]
  have hO : aO b most = o := by simp [aO, hv]
  have hv0 := hv
  unfold mAll at hv
  by_cases hm : most < 0 ∨ 1048576 < most
  · rw [if_pos hm] at hv; cases hv
  rw [if_neg hm, if_neg (by omega)] at hv
  have g := good_all most
  have g0 := g b b b.length 0 a (o, l) ⟨Nat.le_refl _, Nat.le_refl _, rfl⟩ (by omega) hv
  have ha0 : 0 < a := by
    rw [show 8 * b.length + 1 = 8 * b.length + 1 from rfl] at hv
    rw [mLoop] at hv
    obtain ⟨c1, hv⟩ := ite_err hv
    have t1 : takAt b 0 1 = 1 := by unfold takAt; rw [if_pos (Decidable.not_not.1 c1)]; rfl
    have u3 := takAt_le b (takAt b 0 1) 2
    rw [t1] at u3
    obtain ⟨c2, hv⟩ := ite_err hv
    cases hk : mKind (takN b (takAt b 0 1) 2) b most (takAt b (takAt b 0 1) 2) [] with
    | error e => rw [hk] at hv; cases hv
    | ok x =>
      obtain ⟨a1, o1⟩ := x
      have l1 := mKind_at hk
      rw [t1] at l1
      rw [hk] at hv
      simp only at hv
      split at hv
      · have u2 := takAt_up (b := b) (at_ := 0) (k := 1) (by omega)
        have u2' := takAt_up (b := b) (k := 2) u2
        have l2 := mKind_le u2' hk
        have := (good_loop most (8 * b.length) o1 _ b b b.length a1 a (o, l) ⟨Nat.le_refl _, Nat.le_refl _, rfl⟩ l2 hv).1
        omega
      · have := (Prod.mk.inj (Except.ok.inj hv)).1
        omega
  refine ⟨(a + 7) / 8, by rw [hU]; omega, by omega, by omega, fun hs => ?_, fun hs => ?_, ?_⟩
  · have hA : Agr b (b.take ((a + 7) / 8) ++ more) ((a + 7) / 8) := ⟨by omega, by rw [List.length_append, List.length_take]; omega, by
      rw [List.take_append_of_le_length (by rw [List.length_take]; omega), List.take_take]; congr 1; omega⟩
    have := (g _ _ _ 0 a (o, l) hA (by omega) hv).2.2.1 (by omega)
    have hv2 : mAll (b.take ((a + 7) / 8) ++ more) most = .ok (a, o, l) := by
      unfold mAll
      rw [if_neg hm, if_neg (by rw [List.length_append, List.length_take]; omega)]
      exact this
    refine ⟨by simp [aE, hv2], by rw [hO]; simp [aO, hv2], ?_⟩
    have : aU (b.take ((a + 7) / 8) ++ more) most = ((b.take ((a + 7) / 8) ++ more).length : Int) - (8 * ((b.take ((a + 7) / 8) ++ more).length : Int) - a) / 8 := by simp [aU, hv2]
    rw [this]
    omega
  · have hv2 : mAll (b.take ((a + 7) / 8) ++ more) most = .error 6 := by
      unfold mAll
      rw [if_neg hm, if_pos (by rw [List.length_append, List.length_take]; omega)]
    simp [aE, hv2]
  · have hA : Agr b (b.take ((a + 7) / 8 - 1)) ((a + 7) / 8 - 1) := ⟨by omega, by rw [List.length_take]; omega, by
      rw [List.take_take]; congr 1; omega⟩
    have := (g _ _ _ 0 a (o, l) hA (by omega) hv).2.2.2 (by omega) (by rw [List.length_take]; omega)
    have hv2 : mAll (b.take ((a + 7) / 8 - 1)) most = .error 20 := by
      unfold mAll
      rw [if_neg hm, if_neg (by rw [List.length_take]; omega)]
      exact this
    exact ⟨by simp [aE, hv2], by simp [aO, hv2]⟩
end Go.Proofs.Ytehfblkpbadikaa.IF
