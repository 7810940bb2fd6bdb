/- Values of fields: what the document says of them, as plain functions over bytes. No conditions but those that each names. (8 texts made one; each says below what it is.) -/
import Derived.Test.YthomhkpedghhgaaGreatDoorK1
import Derived.MapKept
import Derived.Test.YthomhkpedghhgaaGreatDoorChecked
import Derived.KernelRfl
import Derived.ChangeArms
import Derived.Test.YthomhkpedghhgaaGreatDoorRows
set_option linter.unusedVariables false
set_option linter.unusedSimpArgs false
set_option linter.unusedSectionVars false
namespace Go.Proofs.YthomhkpedghhgaaGreatDoor.FD
def isBl (c : UInt8) : Bool := c == 32 || c == 9
def trimL (l : List UInt8) : List UInt8 := l.dropWhile isBl
def trimR (l : List UInt8) : List UInt8 := (l.reverse.dropWhile isBl).reverse
def trimB (l : List UInt8) : List UInt8 := trimL (trimR l)
theorem trimR_t {l : List UInt8} {n : Nat} (h : l.length = n + 1) (hb : isBl (l[n]'(by omega)) = true) : trimR l = trimR (l.take n) := by
 have e : l = l.take n ++ [l[n]'(by omega)] := by
  rw [List.take_append_getElem (by omega : n < l.length)]
  exact (List.take_of_length_le (by omega)).symm
 unfold trimR
 conv => lhs; rw [e]
 rw [List.reverse_append]
 simp [List.dropWhile_cons, hb]
theorem trimR_f {l : List UInt8} {n : Nat} (h : l.length = n + 1) (hb : isBl (l[n]'(by omega)) = false) : trimR l = l := by
 have e : l = l.take n ++ [l[n]'(by omega)] := by
  rw [List.take_append_getElem (by omega : n < l.length)]
  exact (List.take_of_length_le (by omega)).symm
 unfold trimR
 conv => lhs; rw [e]
 rw [List.reverse_append]
 simp [List.dropWhile_cons, hb]
 exact List.take_of_length_le (by omega)
theorem trimL_t {l : List UInt8} (h : 0 < l.length) (hb : isBl l[0] = true) : trimL l = trimL (l.drop 1) := by
 cases l with
 | nil => simp at h
 | cons c r => simp [trimL, List.dropWhile_cons, show isBl c = true from hb]
theorem trimL_f {l : List UInt8} (h : 0 < l.length) (hb : isBl l[0] = false) : trimL l = l := by
 cases l with
 | nil => simp at h
 | cons c r => simp [trimL, List.dropWhile_cons, show isBl c = false from hb]
theorem trimLR (l : List UInt8) : trimL (trimR l) = trimR (trimL l) := by
 induction l with
 | nil => rfl
 | cons c r ih =>
  by_cases hr : trimR r = []
  ·-- all blanks behind c
   have hc : trimR (c :: r) = if isBl c then [] else [c] := by
    unfold trimR at hr ⊢
    rw [List.reverse_cons, List.dropWhile_append]
    have : List.dropWhile isBl r.reverse = [] := by simpa using hr
    rw [this]
    by_cases h : isBl c <;> simp [List.dropWhile_cons, h]
   by_cases h : isBl c
   ·rw [hc]
    simp only [h, if_true]
    have : trimL (c :: r) = trimL r := by simp [trimL, List.dropWhile_cons, h]
    rw [this, <- ih, hr]
   ·rw [hc]
    simp only [h]
    have : trimL (c :: r) = c :: r := by simp [trimL, List.dropWhile_cons, h]
    rw [this, hc]
    simp [trimL, List.dropWhile_cons, h]
  ·have hc : trimR (c :: r) = c :: trimR r := by
    unfold trimR at hr ⊢
    rw [List.reverse_cons, List.dropWhile_append]
    have : ¬ List.dropWhile isBl r.reverse = [] := by simpa using hr
    have h2 : (List.dropWhile isBl r.reverse).isEmpty = false := by
     cases hx : List.dropWhile isBl r.reverse with
     | nil => exact absurd hx this
     | cons _ _ => rfl
    rw [h2]; simp
   by_cases h : isBl c
   ·have h1 : trimL (c :: r) = trimL r := by simp [trimL, List.dropWhile_cons, h]
    have h2 : trimL (c :: trimR r) = trimL (trimR r) := by simp [trimL, List.dropWhile_cons, h]
    rw [hc, h1, h2, ih]
   ·have h1 : trimL (c :: r) = c :: r := by simp [trimL, List.dropWhile_cons, h]
    rw [hc, h1, hc]
    simp [trimL, List.dropWhile_cons, h]
def sub (l : List UInt8) (a b : Nat) : List UInt8 := (l.drop a).take (b - a)
theorem sub_snoc {l : List UInt8} {a b : Nat} (h1 : a <= b) (h2 : b < l.length) : sub l a b ++ [l[b]] = sub l a (b + 1) := by
 unfold sub
 have h3 : b - a < (l.drop a).length := by rw [List.length_drop]; omega
 have := List.take_append_getElem h3
 rw [List.getElem_drop] at this
 have e : a + (b - a) = b := by omega
 simp only [e] at this
 rw [show b + 1 - a = b - a + 1 by omega, this]
theorem sub_self {l : List UInt8} {a : Nat} : sub l a a = [] := by simp [sub]
theorem sub_end {l : List UInt8} {a b : Nat} (h : l.length <= b) : sub l a b = l.drop a := by
 unfold sub
 exact List.take_of_length_le (by rw [List.length_drop]; omega)
def els (q e : Bool) : Bool -> List UInt8 -> List UInt8 -> List (List UInt8)
 | _, cur, [] => [cur]
 | inn, cur, c :: r =>
  if c = 92 /\ inn = true /\ e = true then match r with
   | [] => [cur ++ [c]]
   | d :: r' => els q e inn (cur ++ [c, d]) r'
  else if c = 34 /\ q = true then els q e (!inn) (cur ++ [c]) r
  else if c = 44 /\ inn = false then cur :: els q e false [] r
  else els q e inn (cur ++ [c]) r
theorem els_cons {q e inn : Bool} {cur : List UInt8} {c : UInt8} {r : List UInt8} : els q e inn cur (c :: r) = if c = 92 /\ inn = true /\ e = true then (match r with
   | [] => [cur ++ [c]]
   | d :: r' => els q e inn (cur ++ [c, d]) r')
  else if c = 34 /\ q = true then els q e (!inn) (cur ++ [c]) r
  else if c = 44 /\ inn = false then cur :: els q e false [] r
  else els q e inn (cur ++ [c]) r := by
 cases r <;> rfl
def stE (l : List UInt8) (q e inn : Bool) (a i : Nat) : List (List UInt8) := els q e inn (sub l a i) (l.drop i)
variable {l : List UInt8} {q e inn : Bool} {a i : Nat}
theorem stE_end (h : l.length <= i) : stE l q e inn a i = [l.drop a] := by
 unfold stE
 rw [List.drop_of_length_le h, sub_end h, els]
theorem dr (h : i < l.length) : l.drop i = l[i] :: l.drop (i + 1) := List.drop_eq_getElem_cons h
theorem stE_esc (h : i < l.length) (ha : a <= i) (hc : l[i] = 92) (h1 : inn = true) (h2 : e = true) : stE l q e inn a i = stE l q e inn a (i + 2) := by
 unfold stE
 rw [dr h, els_cons, if_pos ⟨hc, h1, h2⟩]
 by_cases h3 : i + 1 < l.length
 ·rw [dr h3]
  simp only
  have e1 : sub l a i ++ [l[i], l[i + 1]] = sub l a (i + 2) := by
   rw [<- sub_snoc (by omega) h3, <- sub_snoc ha h]; simp
  rw [e1]
 ·rw [List.drop_of_length_le (show l.length <= i + 1 by omega), List.drop_of_length_le (show l.length <= i + 2 by omega)]
  simp only [els]
  rw [sub_snoc ha h, sub_end (show l.length <= i + 1 by omega), sub_end (show l.length <= i + 2 by omega)]
theorem stE_q (h : i < l.length) (ha : a <= i) (hn : ¬ (l[i] = 92 /\ inn = true /\ e = true)) (hc : l[i] = 34) (h1 : q = true) : stE l q e inn a i = stE l q e (!inn) a (i + 1) := by
 unfold stE
 rw [dr h, els_cons, if_neg hn, if_pos ⟨hc, h1⟩, sub_snoc ha h]
theorem stE_c (h : i < l.length) (ha : a <= i) (hc : l[i] = 44) (h1 : inn = false) : stE l q e inn a i = sub l a i :: stE l q e false (i + 1) (i + 1) := by
 unfold stE
 rw [dr h, els_cons, if_neg (by rw [h1]; simp), if_neg (by rw [hc]; rintro ⟨hx, _⟩; exact absurd hx (by decide)), if_pos ⟨hc, h1⟩, sub_self]
theorem stE_o (h : i < l.length) (ha : a <= i) (hn : ¬ (l[i] = 92 /\ inn = true /\ e = true)) (h2 : ¬ (l[i] = 34 /\ q = true)) (h3 : ¬ (l[i] = 44 /\ inn = false)) : stE l q e inn a i = stE l q e inn a (i + 1) := by
 unfold stE
 rw [dr h, els_cons, if_neg hn, if_neg h2, if_neg h3, sub_snoc ha h]
def nb (x : List UInt8) : Bool := !x.isEmpty
def tidy (x : List (List UInt8)) : List (List UInt8) := (x.map trimB).filter nb
def elemsF (q e : Bool) (l : List UInt8) : List (List UInt8) := tidy (stE l q e false 0 0)
theorem tidy_cons {x : List UInt8} {r : List (List UInt8)} : tidy (x :: r) = if trimB x = [] then tidy r else trimB x :: tidy r := by
 unfold tidy
 by_cases h : trimB x = []
 ·simp [h, nb]
 ·have : nb (trimB x) = true := by cases hx : trimB x with
   | nil => exact absurd hx h
   | cons _ _ => rfl
  simp [h, this]
theorem tidy_nil : tidy [] = [] := rfl
theorem trim_len (l : List UInt8) : (trimB l).length <= l.length := by
 have h1 := (List.dropWhile_sublist (p := isBl) (l := trimR l)).length_le
 have h2 := (List.dropWhile_sublist (p := isBl) (l := l.reverse)).length_le
 unfold trimB trimL
 have h3 : (trimR l).length = (l.reverse.dropWhile isBl).length := by unfold trimR; simp
 rw [List.length_reverse] at h2
 omega
theorem tidy_len (x : List (List UInt8)) : (tidy x).length <= x.length := by
 unfold tidy
 have := (List.filter_sublist (p := nb) (l := x.map trimB)).length_le
 simpa using this
theorem tidy_mem {x : List (List UInt8)} {w : List UInt8} (h : w ∈ tidy x) : w ≠ [] /\ ∃ v ∈ x, w = trimB v := by
 unfold tidy at h
 rw [List.mem_filter, List.mem_map] at h
 obtain ⟨⟨v, hv, rfl⟩, h2⟩ := h
 exact ⟨fun hx => (by rw [hx] at h2; cases h2), v, hv, rfl⟩
def listF {α : Type} (one : List UInt8 -> α × Bool) (ws : List (List UInt8)) : Option (List α) := if ws.all (fun w => (one w).2) then some (ws.map fun w => (one w).1) else none
def cutA (c : UInt8) : List UInt8 -> List UInt8
 | [] => []
 | x :: r => if x = c then [] else x :: cutA c r
def cutB (c : UInt8) : List UInt8 -> List UInt8
 | [] => []
 | x :: r => if x = c then r else cutB c r
def cutS (c : UInt8) : List UInt8 -> Bool
 | [] => false
 | x :: r => if x = c then true else cutS c r
def lowB (c : UInt8) : UInt8 := if 65 <= c /\ c <= 90 then c + 32 else c
def alnB (c : UInt8) : Bool := decide (97 <= c /\ c <= 122 \/ 65 <= c /\ c <= 90 \/ 48 <= c /\ c <= 57)
def tokC : List UInt8 := [33, 35, 36, 37, 38, 39, 42, 43, 45, 46, 94, 95, 96, 124, 126]
def tokB (c : UInt8) : Bool := alnB c || tokC.contains c
def tokF (l : List UInt8) : Bool := nb l && l.all tokB
def lowF (l : List UInt8) : List UInt8 := l.map lowB
def digB (c : UInt8) : Bool := decide (48 <= c /\ c <= 57)
def valF (l : List UInt8) : Nat := l.foldl (fun n c => n * 10 + (c.toNat - 48)) 0
def decF (l : List UInt8) : Int × Int := if nb l && l.all digB then (if valF l <= 1000000000000000000 then ((valF l : Int), 0) else (0, 11)) else (0, 21)
def badQ (c : UInt8) : Bool := decide (c < 32 /\ c ≠ 9 \/ c = 127)
def unqL : List UInt8 -> List UInt8 -> List UInt8 × Bool
 | _, [] => ([], false)
 | acc, c :: r =>
  if c = 34 then (acc, r.isEmpty)
  else if c = 92 then match r with
   | [] => ([], false)
   | d :: r' => if badQ d then ([], false) else unqL (acc ++ [d]) r'
  else if badQ c then ([], false) else unqL (acc ++ [c]) r
theorem unqL_cons {acc : List UInt8} {c : UInt8} {r : List UInt8} : unqL acc (c :: r) = if c = 34 then (acc, r.isEmpty)
  else if c = 92 then (match r with
   | [] => ([], false)
   | d :: r' => if badQ d then ([], false) else unqL (acc ++ [d]) r')
  else if badQ c then ([], false) else unqL (acc ++ [c]) r := by
 cases r <;> rfl
def unqF : List UInt8 -> List UInt8 × Bool
 | [] => ([], false)
 | c :: r => if c = 34 then unqL [] r else ([], false)
structure Dir where
 name : List UInt8
 value : List UInt8
 has : Bool
def dirF (s : List UInt8) : Dir × Bool :=
 if cutS 61 s && !tokF (cutB 61 s) then (⟨lowF (cutA 61 s), (unqF (cutB 61 s)).1, true⟩, tokF (cutA 61 s) && (unqF (cutB 61 s)).2)
 else (⟨lowF (cutA 61 s), cutB 61 s, cutS 61 s⟩, tokF (cutA 61 s))
def secV (d : Dir) : Int := if (decF d.value).2 = 11 then 2147483648 else if (decF d.value).2 ≠ 0 \/ d.has = false then 0 else min (decF d.value).1 2147483648
def secF (l : List Dir) (name : List UInt8) : Int × Bool := match l.find? (fun d => d.name == name) with
 | some d => (secV d, true)
 | none => (0, false)
def tokenF (s : List UInt8) : List UInt8 × Bool := (lowF s, tokF s)
def tokensF (s : List UInt8) : Option (List (List UInt8)) := listF tokenF (elemsF false false s)
def dirsF (s : List UInt8) : Option (List Dir) := listF dirF (elemsF true true s)
def lsF {α : Type} (o : Option (List α)) : List α × Int := match o with
 | none => ([], 42)
 | some l => (l, 0)
end Go.Proofs.YthomhkpedghhgaaGreatDoor.FD
namespace Go.Proofs.YthomhkpedghhgaaGreatDoor.FD
theorem listF_eq {α : Type} {f g : List UInt8 -> α × Bool} (h1 : ∀ w, (f w).2 = (g w).2) (h2 : ∀ w, (f w).2 = true -> (f w).1 = (g w).1) (ws : List (List UInt8)) : listF f ws = listF g ws := by
 unfold listF
 have e : (ws.all fun w => (f w).2) = ws.all fun w => (g w).2 := by simp only [h1]
 rw [<- e]
 by_cases h : (ws.all fun w => (f w).2) = true
 ·rw [if_pos h, if_pos h]
  congr 1
  refine List.map_congr_left fun w hw => h2 w (List.all_eq_true.1 h w hw)
 ·rw [if_neg h, if_neg h]
theorem dg_b {c : UInt8} (h : digB c = true) : 48 <= c.toNat /\ c.toNat <= 57 := by
 unfold digB at h
 have := of_decide_eq_true h
 exact ⟨UInt8.le_iff_toNat_le.1 this.1, UInt8.le_iff_toNat_le.1 this.2⟩
theorem cutA_len {c : UInt8} : ∀ s : List UInt8, (cutA c s).length <= s.length
 | [] => by simp [cutA]
 | x :: r => by
  have := cutA_len (c := c) r
  unfold cutA
  split <;> simp <;> omega
theorem all8 {p : UInt8 -> Prop} (h : ∀ n : Fin 256, p ⟨⟨n⟩⟩) (c : UInt8) : p c := h c.toBitVec.toFin
theorem tok_low1 (c : UInt8) : tokB (lowB c) = tokB c := by
 refine all8 (p := fun c => tokB (lowB c) = tokB c) ?_ c
 decide +kernel
theorem tok_low (s : List UInt8) : tokF (lowF s) = tokF s := by
 unfold tokF lowF
 rw [List.all_map]
 have : (tokB ∘ lowB) = tokB := funext tok_low1
 rw [this]
 cases s <;> rfl
def dirR (s : List UInt8) : Dir × Bool :=
 if tokF (lowF (cutA 61 s)) = false then (⟨lowF (cutA 61 s), [], false⟩, false)
 else if cutS 61 s = false then (⟨lowF (cutA 61 s), [], false⟩, true)
 else if tokF (cutB 61 s) then (⟨lowF (cutA 61 s), cutB 61 s, true⟩, true)
 else (⟨lowF (cutA 61 s), (unqF (cutB 61 s)).1, true⟩, (unqF (cutB 61 s)).2)
theorem cutB_none {c : UInt8} : ∀ {s : List UInt8}, cutS c s = false -> cutB c s = []
 | [], _ => rfl
 | x :: r, h => by
  unfold cutS at h
  unfold cutB
  split at h
  ·cases h
  ·rename_i hx
   rw [if_neg hx]; exact cutB_none h
theorem dir_eq (s : List UInt8) : (dirF s).2 = (dirR s).2 /\ ((dirF s).2 = true -> (dirF s).1 = (dirR s).1) := by
 unfold dirF dirR
 rw [tok_low]
 by_cases ht : tokF (cutA 61 s) = true <;> by_cases hs : cutS 61 s = true <;> by_cases hb : tokF (cutB 61 s) = true <;> simp [ht, hs, hb]
 all_goals (try (have := cutB_none (by simpa using hs); simp [this]))
theorem dirs_eq (s : List UInt8) : dirsF s = listF dirR (elemsF true true s) := listF_eq (fun w => (dir_eq w).1) (fun w => (dir_eq w).2) _
theorem dir_has {s : List UInt8} (h : (dirF s).1.has = false) : (dirF s).1.value = [] := by
 unfold dirF at h ⊢
 split at h
 ·cases h
 ·rename_i hn
  rw [if_neg hn]
  exact cutB_none h
end Go.Proofs.YthomhkpedghhgaaGreatDoor.FD
namespace Go.Proofs.YthomhkpedghhgaaGreatDoor.Sl
open Go Go.RowKit Sh
variable {P : Program} {W : World} {L L' : List HP} {Kp : PK} {k : Value -> WP}
structure KeyLaw (P : Program) (t : TypeId) {κ : Type} [DecidableEq κ] (enc : κ -> Value) : Prop where
 check : ∀ (b : Bool) (k : κ) (w : World), (Instr.checkKey b 10000 t (enc k)).run P w = .ok () w
 eq : ∀ (k k' : κ) (w : World), (Op.equal t (enc k) (enc k')).run P w = .ok (decide (k = k')) w
 now : ∃ d, P.underlying t = some d /\ ∀ k k', Instr.sameNow d (enc k) (enc k') = none \/ Instr.sameNow d (enc k) (enc k') = some (decide (k = k'))
 same : ∀ k, Instr.sameBits 10000 (enc k) (enc k) = true
variable {κ : Type} [DecidableEq κ] {enc : κ -> Value} {t kt : TypeId}
def fnd (k : κ) : List (κ × Value) -> Nat -> Option (Nat × Value)
 | [], _ => none
 | p :: m, i => if k = p.1 then some (i, p.2) else fnd k m (i + 1)
def getM (k : κ) (m : List (κ × Value)) : Option Value := (fnd k m 0).map (·.2)
def kv (e : MapEntry) : Value × Value := (e.key, e.val)
def ekv (enc : κ -> Value) (p : κ × Value) : Value × Value := (enc p.1, p.2)
theorem findAsking_run (K : KeyLaw P kt enc) (k : κ) (w : World) : ∀ (es : List MapEntry) (m : List (κ × Value)) (i : Nat), es.map kv = m.map (ekv enc) -> (Instr.findAsking kt (enc k) es i).run P w = .ok (fnd k m i) w
 | [], [], i, _ => rfl
 | [], p :: m, i, h => by simp at h
 | e :: es, [], i, h => by simp at h
 | e :: es, p :: m, i, h => by
  simp only [List.map_cons, List.cons.injEq, kv, ekv, Prod.mk.injEq] at h
  obtain ⟨⟨h1, h2⟩, h3⟩ := h
  have ih := findAsking_run K k w es m (i + 1) h3
  unfold Instr.findAsking fnd
  rw [h1]
  simp only [Sem.run_bind, K.eq, Result.andThen_ok]
  by_cases c : k = p.1
  ·simp [c, h2]
  ·simp [c, ih]
theorem findNow_run (d : TypeDesc) (hd : ∀ k k', Instr.sameNow d (enc k) (enc k') = none \/ Instr.sameNow d (enc k) (enc k') = some (decide (k = k'))) (k : κ) : ∀ (es : List MapEntry) (m : List (κ × Value)) (i : Nat), es.map kv = m.map (ekv enc) -> Instr.findNow d (enc k) es i = none \/ Instr.findNow d (enc k) es i = some (fnd k m i)
 | [], [], i, _ => .inr rfl
 | [], p :: m, i, h => by simp at h
 | e :: es, [], i, h => by simp at h
 | e :: es, p :: m, i, h => by
  simp only [List.map_cons, List.cons.injEq, kv, ekv, Prod.mk.injEq] at h
  obtain ⟨⟨h1, h2⟩, h3⟩ := h
  have ih := findNow_run d hd k es m (i + 1) h3
  unfold Instr.findNow fnd
  rw [h1]
  rcases hd k p.1 with c | c
  ·rw [c]; exact .inl rfl
  ·rw [c]
   by_cases e1 : k = p.1
   ·simp [e1, h2]
   ·simp [e1, ih]
theorem findKey_run (K : KeyLaw P kt enc) (k : κ) (w : World) {es : List MapEntry} {m : List (κ × Value)} (h : es.map kv = m.map (ekv enc)) : (Instr.findKey kt (enc k) es).run P w = .ok (fnd k m 0) w := by
 obtain ⟨d, hd, hs⟩ := K.now
 unfold Instr.findKey
 simp only [Sem.run_bind, run_underlying hd, Result.andThen_ok]
 rcases findNow_run d hs k es m 0 h with c | c
 ·rw [c]; exact findAsking_run K k w es m 0 h
 ·rw [c]; rfl
structure Ents (enc : κ -> Value) (es : Array MapEntry) (c : Nat) (m : List (κ × Value)) : Prop where
 kvs : es.toList.map kv = m.map (ekv enc)
 born : ∀ e ∈ es.toList, e.born < c
 nodup : (es.toList.map (·.born)).Nodup
def MapIs (g : Nat) (enc : κ -> Value) (m : List (κ × Value)) : HP := fun _ h => ∃ es c, h g = some (.map es c) /\ Ents enc es c m
theorem map_row {g : Nat} {m : List (κ × Value)} {w : World} (H : sat W (MapIs g enc m :: L) w) : ∃ es c, Ents enc es c m /\ sat W (pt g (.map es c) :: L) w := by
 obtain ⟨f, ⟨h1, h2, ⟨es, c, ha, he⟩, r⟩, b⟩ := H.heap
 exact ⟨es, c, he, H.base, f, ⟨h1, h2, ha, r⟩, b⟩
theorem map_back {g : Nat} {m : List (κ × Value)} {w : World} {es : Array MapEntry} {c : Nat} (he : Ents enc es c m) (H : sat W (pt g (.map es c) :: L) w) : sat W (MapIs g enc m :: L) w := by
 obtain ⟨f, ⟨h1, h2, ha, r⟩, b⟩ := H.heap
 exact ⟨H.base, f, ⟨h1, h2, ⟨es, c, ha, he⟩, r⟩, b⟩
class MapT (P : Program) (t : TypeId) (kt e : outParam TypeId) : Prop where
 ut : P.underlying t = some (.map kt e)
theorem v_look {e : TypeId} {z : Value} {g : Nat} {m : List (κ × Value)} {q : κ} [ht : MapT P t kt e] [hz : ZeroT P e z] (K : KeyLaw P kt enc) : RunV P W [MapIs g enc m] (sLook t (.map (some g)) (enc q) false) ((getM q m).getD z) := fun w hw => by
 obtain ⟨es, c, he, hp⟩ := map_row hw
 have hg := hp.pt_.1
 have hf := findKey_run K q w he.kvs
 unfold getM
 cases hq : fnd q m 0 with
 | none => simp [sLook, Instr.lookup, run_underlying ht.ut, MapKept.run_getObj_map hg, K.check, hf, hq, hz.run, Result.andThen]
 | some p => simp [sLook, Instr.lookup, run_underlying ht.ut, MapKept.run_getObj_map hg, K.check, hf, hq, Result.andThen]
theorem e_mkmap {e : TypeId} (enc : κ -> Value) [ht : MapT P t kt e] (h : ∀ g, Ent W (MapIs g enc [] :: L) (k (.map (some g)))) : Ent W L (opN P (sMkMap t none) Kp k) := fun w hw => by
 refine ⟨?_⟩
 have : (sMkMap t none).run P w = .ok (.value (.map (some w.heap.size))) (w.alloc (.map #[] 0)) := by
  simp [sMkMap, Instr.makeMap]
 rw [this]
 exact h _ _ (map_back ⟨rfl, fun e he => by simp at he, by simp⟩ (hw.alloc _))
def setM (q : κ) (v : Value) : List (κ × Value) -> List (κ × Value)
 | [] => [(q, v)]
 | p :: m => if q = p.1 then (p.1, v) :: m else p :: setM q v m
theorem setM_none (q : κ) (v : Value) : ∀ (m : List (κ × Value)) (i : Nat), fnd q m i = none -> setM q v m = m ++ [(q, v)]
 | [], i, _ => rfl
 | p :: m, i, h => by
  unfold fnd at h
  by_cases c : q = p.1
  ·simp [c] at h
  ·rw [if_neg c] at h
   simp [setM, c, setM_none q v m (i + 1) h]
theorem setM_some (q : κ) (v : Value) : ∀ (m : List (κ × Value)) (i j : Nat) (u : Value), fnd q m i = some (j, u) -> i <= j /\ j - i < m.length /\ setM q v m = m.set (j - i) (q, v) /\ m[j - i]? = some (q, u)
 | [], i, j, u, h => by simp [fnd] at h
 | p :: m, i, j, u, h => by
  unfold fnd at h
  by_cases c : q = p.1
  ·rw [if_pos c] at h
   simp at h
   obtain ⟨rfl, rfl⟩ := h
   simp [setM, c]
  ·rw [if_neg c] at h
   obtain ⟨h1, h2, h3, h4⟩ := setM_some q v m (i + 1) j u h
   refine ⟨by omega, by rw [List.length_cons]; omega, ?_, ?_⟩
   ·rw [setM, if_neg c, h3, show j - i = (j - (i + 1)) + 1 by omega]; rfl
   ·rw [show j - i = (j - (i + 1)) + 1 by omega]; simpa using h4
theorem getM_setM (q q' : κ) (v : Value) : ∀ (m : List (κ × Value)), getM q' (setM q v m) = if q' = q then some v else getM q' m := by
 have key : ∀ (m : List (κ × Value)) (i j : Nat), (fnd q' (setM q v m) i).map (·.2) = if q' = q then some v else (fnd q' m j).map (·.2) := by
  intro m
  induction m with
  | nil => intro i j; by_cases c : q' = q <;> simp [setM, fnd, c]
  | cons p m ih =>
   intro i j
   unfold setM
   by_cases c : q = p.1
   ·rw [if_pos c]
    unfold fnd
    by_cases d : q' = p.1
    ·simp [d, c]
    ·have hd : q' ≠ q := by rw [c]; exact d
     simp only [if_neg d, if_neg hd]
     have gen : ∀ (m : List (κ × Value)) (i j : Nat), (fnd q' m i).map (·.2) = (fnd q' m j).map (·.2) := by
      intro m
      induction m with
      | nil => intro i j; rfl
      | cons p m ih => intro i j; unfold fnd; split <;> simp [ih (i + 1) (j + 1)]
     exact gen m _ _
   ·rw [if_neg c]
    unfold fnd
    by_cases d : q' = p.1
    ·have hd : q' ≠ q := by rw [d]; exact fun e => c e.symm
     simp [if_pos d, if_neg hd]
    ·simp only [if_neg d]; exact ih _ _
 exact fun m => key m 0 0
theorem sat.putObj {w : World} {g : Nat} {o : Obj} (o' : Obj) (H : sat W (pt g o :: L) w) : sat W (pt g o' :: L) { w with heap := w.heap.setIfInBounds g o' } := by
 have hg := H.pt_.1
 have hlt := (Array.getElem?_eq_some_iff.1 hg).1
 exact H.turn rfl rfl rfl (by simp) (by simp [hlt]) (fun i hi => by simp [Array.getElem?_setIfInBounds_ne (Ne.symm hi)])
theorem kvs_get {es : Array MapEntry} {m : List (κ × Value)} (h : es.toList.map kv = m.map (ekv enc)) {i : Nat} {p : κ × Value} (hp : m[i]? = some p) : ∃ e, es[i]? = some e /\ e.key = enc p.1 /\ e.val = p.2 := by
 have h1 : (es.toList.map kv)[i]? = some (ekv enc p) := by rw [h, List.getElem?_map, hp]; rfl
 rw [List.getElem?_map, Array.getElem?_toList] at h1
 cases he : es[i]? with
 | none => rw [he] at h1; cases h1
 | some e =>
  rw [he] at h1
  simp [kv, ekv] at h1
  exact ⟨e, rfl, h1.1, h1.2⟩
theorem Ents.put {es : Array MapEntry} {c i : Nat} {m : List (κ × Value)} {q : κ} {u v : Value} (h : Ents enc es c m) (hi : m[i]? = some (q, u)) : Ents enc (es.modify i fun e => { e with key := enc q, val := v }) c (m.set i (q, v)) := by
 obtain ⟨e, he, h1, h2⟩ := kvs_get h.kvs hi
 have hlt := (Array.getElem?_eq_some_iff.1 he).1
 refine ⟨?_, ?_, ?_⟩
 ·apply List.ext_getElem?
  intro j
  rw [List.getElem?_map, Array.getElem?_toList, Array.getElem?_modify, List.getElem?_map, List.getElem?_set]
  have hj : (es[j]?).map kv = (m[j]?).map (ekv enc) := by
   have := congrArg (fun l => l[j]?) h.kvs
   simpa using this
  by_cases c : i = j
  ·subst c
   have hml := (List.getElem?_eq_some_iff.1 hi).1
   rw [if_pos rfl, if_pos rfl, if_pos hml, he]; rfl
  ·rw [if_neg c, if_neg c]; exact hj
 ·intro e' he'
  obtain ⟨j, hj⟩ := List.mem_iff_getElem?.1 he'
  rw [Array.getElem?_toList, Array.getElem?_modify] at hj
  split at hj
  ·cases hx : es[j]? with
   | none => rw [hx] at hj; cases hj
   | some x =>
    rw [hx] at hj
    have := Option.some.inj hj
    rw [<- this]
    exact h.born x (List.mem_iff_getElem?.2 ⟨j, by rw [Array.getElem?_toList]; exact hx⟩)
  ·exact h.born e' (List.mem_iff_getElem?.2 ⟨j, by rw [Array.getElem?_toList]; exact hj⟩)
 ·have e0 : (es.modify i fun e => { e with key := enc q, val := v }).toList.map (·.born) = es.toList.map (·.born) := by
   apply List.ext_getElem?
   intro j
   rw [List.getElem?_map, Array.getElem?_toList, Array.getElem?_modify, List.getElem?_map, Array.getElem?_toList]
   split
   ·cases es[j]? <;> rfl
   ·rfl
  rw [e0]; exact h.nodup
theorem Ents.push {es : Array MapEntry} {c : Nat} {m : List (κ × Value)} {q : κ} {v : Value} (h : Ents enc es c m) : Ents enc (es.push { key := enc q, val := v, born := c }) (c + 1) (m ++ [(q, v)]) := by
 refine ⟨by simp [h.kvs, kv, ekv], fun e he => ?_, ?_⟩
 ·simp at he
  rcases he with he | rfl
  ·have := h.born e (by simpa using he); omega
  ·simp
 ·simp only [Array.toList_push, List.map_append, List.map_cons, List.map_nil]
  refine List.nodup_append.2 ⟨h.nodup, by simp, ?_⟩
  intro a ha b hb
  obtain ⟨e, he, rfl⟩ := List.mem_map.1 ha
  simp at hb; subst hb
  have := h.born e he; omega
theorem e_mapset {e : TypeId} {g : Nat} {m : List (κ × Value)} {q : κ} {v : Value} [ht : MapT P t kt e] (K : KeyLaw P kt enc) (p : Pick L (MapIs g enc m) L') (h : Ent W (MapIs g enc (setM q v m) :: L') (k undef)) : Ent W L (opN P (sMapSet t (.map (some g)) (enc q) v) Kp k) := fun w hw => by
 obtain ⟨es, c, he, hp⟩ := map_row (hw.pick p)
 have hg := hp.pt_.1
 have hf := findKey_run K q w he.kvs
 refine ⟨?_⟩
 cases hq : fnd q m 0 with
 | none =>
  have : (sMapSet t (.map (some g)) (enc q) v).run P w = .ok .skip { w with heap := w.heap.setIfInBounds g (.map (es.push { key := enc q, val := v, born := c }) (c + 1)) } := by
   simp [sMapSet, Instr.mapUpdate, run_underlying ht.ut, MapKept.run_getObj_map hg, K.check, hf, hq, Result.andThen, MapKept.run_setObj_map _ hg]
  rw [this]
  refine h _ (map_back ?_ (hp.putObj _))
  rw [setM_none q v m 0 hq]; exact he.push
 | some r =>
  obtain ⟨i, u⟩ := r
  obtain ⟨_, h2, h3, h4⟩ := setM_some q v m 0 i u hq
  rw [Nat.sub_zero] at h2 h3 h4
  obtain ⟨en, hen, e1, e2⟩ := kvs_get he.kvs h4
  have hk : (Instr.keyThatStays (((es[i]?).map (·.key)).getD (enc q)) (enc q)).run P w = .ok (enc q) w := by
   rw [hen]
   simp only [Option.map_some, Option.getD_some, e1]
   unfold Instr.keyThatStays
   rw [if_pos (K.same q)]; rfl
  have : (sMapSet t (.map (some g)) (enc q) v).run P w = .ok .skip { w with heap := w.heap.setIfInBounds g (.map (es.modify i fun e => { e with key := enc q, val := v }) c) } := by
   simp [sMapSet, Instr.mapUpdate, run_underlying ht.ut, MapKept.run_getObj_map hg, K.check, hf, hq, Result.andThen, hk, MapKept.run_setObj_map _ hg]
  rw [this]
  refine h _ (map_back ?_ (hp.putObj _))
  rw [h3]; exact he.put h4
end Go.Proofs.YthomhkpedghhgaaGreatDoor.Sl
namespace Go.Proofs.YthomhkpedghhgaaGreatDoor.T
open Go Go.Proofs Sh Sl
theorem fld {P : Program} {t : TypeId} {fs : Array Field} {f ft o n : Nat} (hu : ∀ w, (underlying t).run P w = .ok (.struct fs) w) (hf : (fs[f]?).map (fun x => (x.type, x.offset)) = some (ft, o)) (hs : ∀ w, (sizeOf ft).run P w = .ok (n + 1) w) : FldT P t f o :=
 ⟨fun g b w => by
  cases h : fs[f]? with
  | none => rw [h] at hf; cases hf
  | some fl =>
   rw [h] at hf
   simp only [Option.map_some, Option.some.injEq, Prod.mk.injEq] at hf
   obtain ⟨rfl, rfl⟩ := hf
   simp only [Instr.fieldAt, Sem.run_bind, hu, Result.andThen_ok, h, Instr.sureAddr, fieldPlace, hs, Sem.run_pure]
   by_cases h0 : fl.offset = 0 <;> simp [Addr.add, h0]⟩
theorem slt {P : Program} {t e : TypeId} {i : TypeInfo} {z : Value} {s b : Nat} (hu : P.underlying t = some (.slice e)) (hi : P.info? e = some i) (hz : i.zero = some z) (hs : i.size = s) (hb : i.bytes = b) (hzs : z.cells.size = s) : SlT P t e s b := ⟨hu, i, z, hi, hz, hs, hb, hzs⟩
instance int_2 : IntT p_ 2 .i64 := ⟨Tryz.runUnderlying2⟩
instance one_3 : OneT p_ 3 := ⟨Tryz.isAgg3, Tryz.sizeOf3⟩
instance zero_3 : ZeroT p_ 3 (.int .i64 0) := ⟨Tryz.zeroValue3⟩
instance int_3 : IntT p_ 3 .i64 := ⟨Tryz.runUnderlying3⟩
instance one_4 : OneT p_ 4 := ⟨Tryz.isAgg4, Tryz.sizeOf4⟩
instance zero_4 : ZeroT p_ 4 (.bool false) := ⟨Tryz.zeroValue4⟩
instance one_5 : OneT p_ 5 := ⟨Tryz.isAgg5, Tryz.sizeOf5⟩
instance zero_5 : ZeroT p_ 5 (.int .u8 0) := ⟨Tryz.zeroValue5⟩
instance int_5 : IntT p_ 5 .u8 := ⟨Tryz.runUnderlying5⟩
instance one_9 : OneT p_ 9 := ⟨Tryz.isAgg9, Tryz.sizeOf9⟩
instance str_9 : StrT p_ 9 := ⟨Tryz.underlying9⟩
instance ptr_23 : PtrT p_ 23 := ⟨by kernel_rfl⟩
instance one_24 : OneT p_ 24 := ⟨Tryz.isAgg24, Tryz.sizeOf24⟩
instance zero_24 : ZeroT p_ 24 (.int .i64 0) := ⟨Tryz.zeroValue24⟩
instance int_24 : IntT p_ 24 .i64 := ⟨Tryz.runUnderlying24⟩
instance one_29 : OneT p_ 29 := ⟨Tryz.isAgg29, Tryz.sizeOf29⟩
instance sl_29 : SlT p_ 29 68 2 32 := slt (z := (.agg #[(.string ⟨#[]⟩), (.string ⟨#[]⟩)])) Tryz.underlying29 (i := Tryz.t68) (by kernel_rfl) (by kernel_rfl) (by kernel_rfl) (by kernel_rfl) (by kernel_rfl)
instance zero_31 : ZeroT p_ 31 (.agg #[(.string ⟨#[]⟩), (.string ⟨#[]⟩), (.int .i64 0), (.slice none 0 0)]) := ⟨Tryz.zeroValue31⟩
instance agg_31 : AggT p_ 31 4 := ⟨Tryz.isAgg31, Tryz.sizeOf31⟩
instance fld_31_0 : FldT p_ 31 0 0 := fld Tryz.runUnderlying31 (ft := 9) (by kernel_rfl) Tryz.sizeOf9
instance fld_31_1 : FldT p_ 31 1 1 := fld Tryz.runUnderlying31 (ft := 9) (by kernel_rfl) Tryz.sizeOf9
instance fld_31_3 : FldT p_ 31 3 3 := fld Tryz.runUnderlying31 (ft := 29) (by kernel_rfl) Tryz.sizeOf29
instance one_32 : OneT p_ 32 := ⟨Tryz.isAgg32, Tryz.sizeOf32⟩
instance bytes_32 : BytesT p_ 32 := ⟨_, Tryz.underlying32, Tryz.underlying5⟩
instance sl_32 : SlT p_ 32 5 1 1 := slt (z := (.int .u8 0)) Tryz.underlying32 (i := Tryz.t5) (by kernel_rfl) (by kernel_rfl) (by kernel_rfl) (by kernel_rfl) (by kernel_rfl)
instance zero_34 : ZeroT p_ 34 (.agg #[(.int .i64 0), (.slice none 0 0), (.slice none 0 0)]) := ⟨Tryz.zeroValue34⟩
instance agg_34 : AggT p_ 34 3 := ⟨Tryz.isAgg34, Tryz.sizeOf34⟩
instance fld_34_0 : FldT p_ 34 0 0 := fld Tryz.runUnderlying34 (ft := 3) (by kernel_rfl) Tryz.sizeOf3
instance fld_34_1 : FldT p_ 34 1 1 := fld Tryz.runUnderlying34 (ft := 29) (by kernel_rfl) Tryz.sizeOf29
instance fld_34_2 : FldT p_ 34 2 2 := fld Tryz.runUnderlying34 (ft := 32) (by kernel_rfl) Tryz.sizeOf32
instance one_46 : OneT p_ 46 := ⟨Tryz.isAgg46, Tryz.sizeOf46⟩
instance zero_46 : ZeroT p_ 46 (.slice none 0 0) := ⟨Tryz.zeroValue46⟩
instance sl_46 : SlT p_ 46 9 1 16 := slt (z := (.string ⟨#[]⟩)) Tryz.underlying46 (i := Tryz.t9) (by kernel_rfl) (by kernel_rfl) (by kernel_rfl) (by kernel_rfl) (by kernel_rfl)
instance one_57 : OneT p_ 57 := ⟨Tryz.isAgg57, Tryz.sizeOf57⟩
instance zero_57 : ZeroT p_ 57 (.slice none 0 0) := ⟨Tryz.zeroValue57⟩
instance sl_57 : SlT p_ 57 65 1 8 := slt (z := (.pointer none)) Tryz.underlying57 (i := Tryz.t65) (by kernel_rfl) (by kernel_rfl) (by kernel_rfl) (by kernel_rfl) (by kernel_rfl)
instance fld_59_0 : FldT p_ 59 0 0 := fld Tryz.runUnderlying59 (ft := 57) (by kernel_rfl) Tryz.sizeOf57
instance one_60 : OneT p_ 60 := ⟨Tryz.isAgg60, Tryz.sizeOf60⟩
instance map_60 : MapT p_ 60 9 57 := ⟨Tryz.underlying60⟩
instance fld_62_0 : FldT p_ 62 0 0 := fld Tryz.runUnderlying62 (ft := 59) (by kernel_rfl) Tryz.sizeOf59
instance fld_62_1 : FldT p_ 62 1 1 := fld Tryz.runUnderlying62 (ft := 60) (by kernel_rfl) Tryz.sizeOf60
instance fld_62_2 : FldT p_ 62 2 2 := fld Tryz.runUnderlying62 (ft := 3) (by kernel_rfl) Tryz.sizeOf3
instance fld_62_3 : FldT p_ 62 3 3 := fld Tryz.runUnderlying62 (ft := 3) (by kernel_rfl) Tryz.sizeOf3
instance one_65 : OneT p_ 65 := ⟨Tryz.isAgg65, Tryz.sizeOf65⟩
instance zero_65 : ZeroT p_ 65 (.pointer none) := ⟨Tryz.zeroValue65⟩
instance ptr_65 : PtrT p_ 65 := ⟨by kernel_rfl⟩
instance zero_68 : ZeroT p_ 68 (.agg #[(.string ⟨#[]⟩), (.string ⟨#[]⟩)]) := ⟨Tryz.zeroValue68⟩
instance agg_68 : AggT p_ 68 2 := ⟨Tryz.isAgg68, Tryz.sizeOf68⟩
instance fld_68_0 : FldT p_ 68 0 0 := fld Tryz.runUnderlying68 (ft := 9) (by kernel_rfl) Tryz.sizeOf9
instance fld_68_1 : FldT p_ 68 1 1 := fld Tryz.runUnderlying68 (ft := 9) (by kernel_rfl) Tryz.sizeOf9
instance fld_72_0 : FldT p_ 72 0 0 := fld Tryz.runUnderlying72 (ft := 9) (by kernel_rfl) Tryz.sizeOf9
instance fld_72_3 : FldT p_ 72 3 3 := fld Tryz.runUnderlying72 (ft := 29) (by kernel_rfl) Tryz.sizeOf29
instance fld_72_4 : FldT p_ 72 4 4 := fld Tryz.runUnderlying72 (ft := 34) (by kernel_rfl) Tryz.sizeOf34
instance fld_72_5 : FldT p_ 72 5 7 := fld Tryz.runUnderlying72 (ft := 3) (by kernel_rfl) Tryz.sizeOf3
instance fld_72_6 : FldT p_ 72 6 8 := fld Tryz.runUnderlying72 (ft := 3) (by kernel_rfl) Tryz.sizeOf3
instance fld_72_7 : FldT p_ 72 7 9 := fld Tryz.runUnderlying72 (ft := 3) (by kernel_rfl) Tryz.sizeOf3
instance one_78 : OneT p_ 78 := ⟨Tryz.isAgg78, Tryz.sizeOf78⟩
instance one_79 : OneT p_ 79 := ⟨Tryz.isAgg79, Tryz.sizeOf79⟩
instance zero_79 : ZeroT p_ 79 (.slice none 0 0) := ⟨Tryz.zeroValue79⟩
instance sl_79 : SlT p_ 79 128 3 40 := slt (z := (.agg #[(.string ⟨#[]⟩), (.string ⟨#[]⟩), (.bool false)])) Tryz.underlying79 (i := Tryz.t128) (by kernel_rfl) (by kernel_rfl) (by kernel_rfl) (by kernel_rfl) (by kernel_rfl)
instance sl_91 : SlT p_ 91 140 3 40 := slt (z := (.agg #[(.string ⟨#[]⟩), (.string ⟨#[]⟩), (.bool false)])) Tryz.underlying91 (i := Tryz.t140) (by kernel_rfl) (by kernel_rfl) (by kernel_rfl) (by kernel_rfl) (by kernel_rfl)
instance sl_105 : SlT p_ 105 3 1 8 := slt (z := (.int .i64 0)) Tryz.underlying105 (i := Tryz.t3) (by kernel_rfl) (by kernel_rfl) (by kernel_rfl) (by kernel_rfl) (by kernel_rfl)
instance arr_107 : ArrT p_ 107 2 9 1 := ⟨Tryz.runUnderlying107, Tryz.sizeOf9⟩
instance zero_128 : ZeroT p_ 128 (.agg #[(.string ⟨#[]⟩), (.string ⟨#[]⟩), (.bool false)]) := ⟨Tryz.zeroValue128⟩
instance agg_128 : AggT p_ 128 3 := ⟨Tryz.isAgg128, Tryz.sizeOf128⟩
instance fld_128_0 : FldT p_ 128 0 0 := fld Tryz.runUnderlying128 (ft := 9) (by kernel_rfl) Tryz.sizeOf9
instance fld_128_1 : FldT p_ 128 1 1 := fld Tryz.runUnderlying128 (ft := 9) (by kernel_rfl) Tryz.sizeOf9
instance fld_128_2 : FldT p_ 128 2 2 := fld Tryz.runUnderlying128 (ft := 4) (by kernel_rfl) Tryz.sizeOf4
instance one_130 : OneT p_ 130 := ⟨Tryz.isAgg130, Tryz.sizeOf130⟩
instance agg_132 : AggT p_ 132 3 := ⟨Tryz.isAgg132, Tryz.sizeOf132⟩
instance fld_132_0 : FldT p_ 132 0 0 := fld Tryz.runUnderlying132 (ft := 4) (by kernel_rfl) Tryz.sizeOf4
instance fld_132_1 : FldT p_ 132 1 1 := fld Tryz.runUnderlying132 (ft := 4) (by kernel_rfl) Tryz.sizeOf4
instance fld_132_2 : FldT p_ 132 2 2 := fld Tryz.runUnderlying132 (ft := 130) (by kernel_rfl) Tryz.sizeOf130
instance zero_140 : ZeroT p_ 140 (.agg #[(.string ⟨#[]⟩), (.string ⟨#[]⟩), (.bool false)]) := ⟨Tryz.zeroValue140⟩
instance agg_140 : AggT p_ 140 3 := ⟨Tryz.isAgg140, Tryz.sizeOf140⟩
instance fld_140_0 : FldT p_ 140 0 0 := fld Tryz.runUnderlying140 (ft := 9) (by kernel_rfl) Tryz.sizeOf9
instance fld_140_1 : FldT p_ 140 1 1 := fld Tryz.runUnderlying140 (ft := 9) (by kernel_rfl) Tryz.sizeOf9
instance fld_140_2 : FldT p_ 140 2 2 := fld Tryz.runUnderlying140 (ft := 4) (by kernel_rfl) Tryz.sizeOf4
instance agg_147 : AggT p_ 147 256 := ⟨Tryz.isAgg147, Tryz.sizeOf147⟩
instance arr_147 : ArrT p_ 147 256 3 1 := ⟨Tryz.runUnderlying147, Tryz.sizeOf3⟩
instance one_153 : OneT p_ 153 := ⟨Tryz.isAgg153, Tryz.sizeOf153⟩
instance agg_155 : AggT p_ 155 3 := ⟨Tryz.isAgg155, Tryz.sizeOf155⟩
instance fld_155_0 : FldT p_ 155 0 0 := fld Tryz.runUnderlying155 (ft := 4) (by kernel_rfl) Tryz.sizeOf4
instance fld_155_1 : FldT p_ 155 1 1 := fld Tryz.runUnderlying155 (ft := 4) (by kernel_rfl) Tryz.sizeOf4
instance fld_155_2 : FldT p_ 155 2 2 := fld Tryz.runUnderlying155 (ft := 153) (by kernel_rfl) Tryz.sizeOf153
instance zero_162 : ZeroT p_ 162 (.agg #[(.pointer none), (.slice none 0 0)]) := ⟨Tryz.zeroValue162⟩
instance fld_162_1 : FldT p_ 162 1 1 := fld Tryz.runUnderlying162 (ft := 32) (by kernel_rfl) Tryz.sizeOf32
instance one_165 : OneT p_ 165 := ⟨Tryz.isAgg165, Tryz.sizeOf165⟩
instance zero_175 : ZeroT p_ 175 (.agg #[(.int .i64 0), (.int .i64 0), (.int .i64 0), (.int .i64 0), (.int .i64 0), (.int .i64 0), (.int .i64 0)]) := ⟨Tryz.zeroValue175⟩
instance agg_175 : AggT p_ 175 7 := ⟨Tryz.isAgg175, Tryz.sizeOf175⟩
instance fld_175_0 : FldT p_ 175 0 0 := fld Tryz.runUnderlying175 (ft := 3) (by kernel_rfl) Tryz.sizeOf3
instance fld_175_1 : FldT p_ 175 1 1 := fld Tryz.runUnderlying175 (ft := 3) (by kernel_rfl) Tryz.sizeOf3
instance fld_175_2 : FldT p_ 175 2 2 := fld Tryz.runUnderlying175 (ft := 3) (by kernel_rfl) Tryz.sizeOf3
instance fld_175_3 : FldT p_ 175 3 3 := fld Tryz.runUnderlying175 (ft := 3) (by kernel_rfl) Tryz.sizeOf3
instance fld_175_4 : FldT p_ 175 4 4 := fld Tryz.runUnderlying175 (ft := 3) (by kernel_rfl) Tryz.sizeOf3
instance fld_175_5 : FldT p_ 175 5 5 := fld Tryz.runUnderlying175 (ft := 3) (by kernel_rfl) Tryz.sizeOf3
instance fld_175_6 : FldT p_ 175 6 6 := fld Tryz.runUnderlying175 (ft := 3) (by kernel_rfl) Tryz.sizeOf3
instance one_181 : OneT p_ 181 := ⟨Tryz.isAgg181, Tryz.sizeOf181⟩
instance arr_184 : ArrT p_ 184 3 181 1 := ⟨Tryz.runUnderlying184, Tryz.sizeOf181⟩
instance one_186 : OneT p_ 186 := ⟨Tryz.isAgg186, Tryz.sizeOf186⟩
instance int_186 : IntT p_ 186 .u64 := ⟨Tryz.runUnderlying186⟩
instance zero_203 : ZeroT p_ 203 (.agg #[(.int .i64 0), (.int .i64 0), (.int .i64 0), (.int .i64 0), (.int .i64 0), (.int .i64 0), (.int .i64 0)]) := ⟨Tryz.zeroValue203⟩
instance agg_203 : AggT p_ 203 7 := ⟨Tryz.isAgg203, Tryz.sizeOf203⟩
instance fld_203_0 : FldT p_ 203 0 0 := fld Tryz.runUnderlying203 (ft := 3) (by kernel_rfl) Tryz.sizeOf3
instance fld_203_1 : FldT p_ 203 1 1 := fld Tryz.runUnderlying203 (ft := 3) (by kernel_rfl) Tryz.sizeOf3
instance fld_203_2 : FldT p_ 203 2 2 := fld Tryz.runUnderlying203 (ft := 3) (by kernel_rfl) Tryz.sizeOf3
instance fld_203_3 : FldT p_ 203 3 3 := fld Tryz.runUnderlying203 (ft := 3) (by kernel_rfl) Tryz.sizeOf3
instance fld_203_4 : FldT p_ 203 4 4 := fld Tryz.runUnderlying203 (ft := 3) (by kernel_rfl) Tryz.sizeOf3
instance fld_203_5 : FldT p_ 203 5 5 := fld Tryz.runUnderlying203 (ft := 3) (by kernel_rfl) Tryz.sizeOf3
instance fld_203_6 : FldT p_ 203 6 6 := fld Tryz.runUnderlying203 (ft := 3) (by kernel_rfl) Tryz.sizeOf3
instance fld_207_0 : FldT p_ 207 0 0 := fld Tryz.runUnderlying207 (ft := 9) (by kernel_rfl) Tryz.sizeOf9
instance zero_215 : ZeroT p_ 215 (.agg #[(.int .u8 0), (.int .u8 0), (.int .u8 0), (.int .u8 0), (.int .u8 0), (.int .u8 0), (.int .u8 0), (.int .u8 0), (.int .u8 0), (.int .u8 0), (.int .u8 0), (.int .u8 0), (.int .u8 0), (.int .u8 0), (.int .u8 0), (.int .u8 0), (.int .u8 0), (.int .u8 0), (.int .u8 0), (.int .u8 0), (.int .u8 0), (.int .u8 0), (.int .u8 0), (.int .u8 0)]) := ⟨Tryz.zeroValue215⟩
instance arr_215 : ArrT p_ 215 24 5 1 := ⟨Tryz.runUnderlying215, Tryz.sizeOf5⟩
instance agg_225 : AggT p_ 225 256 := ⟨Tryz.isAgg225, Tryz.sizeOf225⟩
instance arr_225 : ArrT p_ 225 256 4 1 := ⟨Tryz.runUnderlying225, Tryz.sizeOf4⟩
instance zero_230 : ZeroT p_ 230 (.agg #[(.string ⟨#[]⟩), (.string ⟨#[]⟩), (.string ⟨#[]⟩), (.string ⟨#[]⟩), (.string ⟨#[]⟩), (.string ⟨#[]⟩), (.string ⟨#[]⟩), (.string ⟨#[]⟩), (.string ⟨#[]⟩), (.string ⟨#[]⟩), (.string ⟨#[]⟩), (.string ⟨#[]⟩)]) := ⟨Tryz.zeroValue230⟩
instance agg_230 : AggT p_ 230 12 := ⟨Tryz.isAgg230, Tryz.sizeOf230⟩
instance arr_230 : ArrT p_ 230 12 9 1 := ⟨Tryz.runUnderlying230, Tryz.sizeOf9⟩
instance zero_236 : ZeroT p_ 236 (.agg #[(.string ⟨#[]⟩), (.string ⟨#[]⟩), (.string ⟨#[]⟩), (.string ⟨#[]⟩), (.string ⟨#[]⟩), (.string ⟨#[]⟩), (.string ⟨#[]⟩)]) := ⟨Tryz.zeroValue236⟩
instance agg_236 : AggT p_ 236 7 := ⟨Tryz.isAgg236, Tryz.sizeOf236⟩
instance arr_236 : ArrT p_ 236 7 9 1 := ⟨Tryz.runUnderlying236, Tryz.sizeOf9⟩
instance int_239 : IntT p_ 239 .i64 := ⟨Tryz.runUnderlying239⟩
instance int_241 : IntT p_ 241 .u64 := ⟨Tryz.runUnderlying241⟩
instance arr_247 : ArrT p_ 247 20 186 1 := ⟨Tryz.runUnderlying247, Tryz.sizeOf186⟩
instance int_248 : IntT p_ 248 .u32 := ⟨Tryz.runUnderlying248⟩
instance bld_34_  : RV p_ (sBuild 34 []) (.agg #[(.int .i64 0), (.slice none 0 0), (.slice none 0 0)]) := ⟨fun W w _ => by
   simp [sBuild, Instr.build, Tryz.zeroValue34, Tryz.runUnderlying34, Tryz.sizeOf3, Tryz.sizeOf29, Tryz.sizeOf32, cells_agg, Instr.fill]⟩
instance bld_62_1_2 {a0 a1 : Value} [h0 : OC a0] [h1 : OC a1] : RV p_ (sBuild 62 [(1, a0), (2, a1)]) (.agg #[(.slice none 0 0), a0, a1, (.int .i64 0)]) := ⟨fun W w _ => by
 have c0 := cells_one h0.one; have c1 := cells_one h1.one; simp [sBuild, Instr.build, Tryz.zeroValue62, Tryz.runUnderlying62, Tryz.sizeOf3, Tryz.sizeOf59, Tryz.sizeOf60, cells_agg, Instr.fill, c0, c1]⟩
instance bld_31_0 {a0 : Value} [h0 : OC a0] : RV p_ (sBuild 31 [(0, a0)]) (.agg #[a0, (.string ⟨#[]⟩), (.int .i64 0), (.slice none 0 0)]) := ⟨fun W w _ => by
 have c0 := cells_one h0.one; simp [sBuild, Instr.build, Tryz.zeroValue31, Tryz.runUnderlying31, Tryz.sizeOf3, Tryz.sizeOf9, Tryz.sizeOf29, cells_agg, Instr.fill, c0]⟩
instance bld_72_0_1_2_3_4_5_6 {a0 a1 a2 a3 a4_0 a4_1 a4_2 a5 a6 : Value} [h0 : OC a0] [h1 : OC a1] [h2 : OC a2] [h3 : OC a3] [h5 : OC a5] [h6 : OC a6] : RV p_ (sBuild 72 [(0, a0), (1, a1), (2, a2), (3, a3), (4, .agg #[a4_0, a4_1, a4_2]), (5, a5), (6, a6)]) (.agg #[a0, a1, a2, a3, a4_0, a4_1, a4_2, a5, a6, (.int .i64 0)]) := ⟨fun W w _ => by
 have c0 := cells_one h0.one; have c1 := cells_one h1.one; have c2 := cells_one h2.one; have c3 := cells_one h3.one; have c5 := cells_one h5.one; have c6 := cells_one h6.one; simp [sBuild, Instr.build, Tryz.zeroValue72, Tryz.runUnderlying72, Tryz.sizeOf3, Tryz.sizeOf9, Tryz.sizeOf29, Tryz.sizeOf34, cells_agg, Instr.fill, c0, c1, c2, c3, c5, c6]⟩
instance bld_34_0_1_2 {a0 a1 a2 : Value} [h0 : OC a0] [h1 : OC a1] [h2 : OC a2] : RV p_ (sBuild 34 [(0, a0), (1, a1), (2, a2)]) (.agg #[a0, a1, a2]) := ⟨fun W w _ => by
 have c0 := cells_one h0.one; have c1 := cells_one h1.one; have c2 := cells_one h2.one; simp [sBuild, Instr.build, Tryz.zeroValue34, Tryz.runUnderlying34, Tryz.sizeOf3, Tryz.sizeOf29, Tryz.sizeOf32, cells_agg, Instr.fill, c0, c1, c2]⟩
instance bld_68_0_1 {a0 a1 : Value} [h0 : OC a0] [h1 : OC a1] : RV p_ (sBuild 68 [(0, a0), (1, a1)]) (.agg #[a0, a1]) := ⟨fun W w _ => by
 have c0 := cells_one h0.one; have c1 := cells_one h1.one; simp [sBuild, Instr.build, Tryz.zeroValue68, Tryz.runUnderlying68, Tryz.sizeOf9, cells_agg, Instr.fill, c0, c1]⟩
instance bld_107_0_1 {a0 a1 : Value} [h0 : OC a0] [h1 : OC a1] : RV p_ (sBuild 107 [(0, a0), (1, a1)]) (.agg #[a0, a1]) := ⟨fun W w _ => by
 have c0 := cells_one h0.one; have c1 := cells_one h1.one; simp [sBuild, Instr.build, Tryz.zeroValue107, Tryz.runUnderlying107, Tryz.sizeOf9, cells_agg, Instr.fill, c0, c1]⟩
instance bld_132_2 {a0 : Value} [h0 : OC a0] : RV p_ (sBuild 132 [(2, a0)]) (.agg #[(.bool false), (.bool false), a0]) := ⟨fun W w _ => by
 have c0 := cells_one h0.one; simp [sBuild, Instr.build, Tryz.zeroValue132, Tryz.runUnderlying132, Tryz.sizeOf4, Tryz.sizeOf130, cells_agg, Instr.fill, c0]⟩
instance bld_155_0_1_2 {a0 a1 a2 : Value} [h0 : OC a0] [h1 : OC a1] [h2 : OC a2] : RV p_ (sBuild 155 [(0, a0), (1, a1), (2, a2)]) (.agg #[a0, a1, a2]) := ⟨fun W w _ => by
 have c0 := cells_one h0.one; have c1 := cells_one h1.one; have c2 := cells_one h2.one; simp [sBuild, Instr.build, Tryz.zeroValue155, Tryz.runUnderlying155, Tryz.sizeOf4, Tryz.sizeOf153, cells_agg, Instr.fill, c0, c1, c2]⟩
instance bld_184_0_1_2 {a0 a1 a2 : Value} [h0 : OC a0] [h1 : OC a1] [h2 : OC a2] : RV p_ (sBuild 184 [(0, a0), (1, a1), (2, a2)]) (.agg #[a0, a1, a2]) := ⟨fun W w _ => by
 have c0 := cells_one h0.one; have c1 := cells_one h1.one; have c2 := cells_one h2.one; simp [sBuild, Instr.build, Tryz.zeroValue184, Tryz.runUnderlying184, Tryz.sizeOf181, cells_agg, Instr.fill, c0, c1, c2]⟩
instance bld_140_0 {a0 : Value} [h0 : OC a0] : RV p_ (sBuild 140 [(0, a0)]) (.agg #[a0, (.string ⟨#[]⟩), (.bool false)]) := ⟨fun W w _ => by
 have c0 := cells_one h0.one; simp [sBuild, Instr.build, Tryz.zeroValue140, Tryz.runUnderlying140, Tryz.sizeOf4, Tryz.sizeOf9, cells_agg, Instr.fill, c0]⟩
instance bld_175_0_1_2_3_4_5 {a0 a1 a2 a3 a4 a5 : Value} [h0 : OC a0] [h1 : OC a1] [h2 : OC a2] [h3 : OC a3] [h4 : OC a4] [h5 : OC a5] : RV p_ (sBuild 175 [(0, a0), (1, a1), (2, a2), (3, a3), (4, a4), (5, a5)]) (.agg #[a0, a1, a2, a3, a4, a5, (.int .i64 0)]) := ⟨fun W w _ => by
 have c0 := cells_one h0.one; have c1 := cells_one h1.one; have c2 := cells_one h2.one; have c3 := cells_one h3.one; have c4 := cells_one h4.one; have c5 := cells_one h5.one; simp [sBuild, Instr.build, Tryz.zeroValue175, Tryz.runUnderlying175, Tryz.sizeOf3, cells_agg, Instr.fill, c0, c1, c2, c3, c4, c5]⟩
instance bld_207_0 {a0 : Value} [h0 : OC a0] : RV p_ (sBuild 207 [(0, a0)]) (.agg #[a0]) := ⟨fun W w _ => by
 have c0 := cells_one h0.one; simp [sBuild, Instr.build, Tryz.zeroValue207, Tryz.runUnderlying207, Tryz.sizeOf9, cells_agg, Instr.fill, c0]⟩
instance bld_175_  : RV p_ (sBuild 175 []) (.agg #[(.int .i64 0), (.int .i64 0), (.int .i64 0), (.int .i64 0), (.int .i64 0), (.int .i64 0), (.int .i64 0)]) := ⟨fun W w _ => by
   simp [sBuild, Instr.build, Tryz.zeroValue175, Tryz.runUnderlying175, Tryz.sizeOf3, cells_agg, Instr.fill]⟩
instance bld_175_0_1_3_4_5 {a0 a1 a2 a3 a4 : Value} [h0 : OC a0] [h1 : OC a1] [h2 : OC a2] [h3 : OC a3] [h4 : OC a4] : RV p_ (sBuild 175 [(0, a0), (1, a1), (3, a2), (4, a3), (5, a4)]) (.agg #[a0, a1, (.int .i64 0), a2, a3, a4, (.int .i64 0)]) := ⟨fun W w _ => by
 have c0 := cells_one h0.one; have c1 := cells_one h1.one; have c2 := cells_one h2.one; have c3 := cells_one h3.one; have c4 := cells_one h4.one; simp [sBuild, Instr.build, Tryz.zeroValue175, Tryz.runUnderlying175, Tryz.sizeOf3, cells_agg, Instr.fill, c0, c1, c2, c3, c4]⟩
instance bld_203_  : RV p_ (sBuild 203 []) (.agg #[(.int .i64 0), (.int .i64 0), (.int .i64 0), (.int .i64 0), (.int .i64 0), (.int .i64 0), (.int .i64 0)]) := ⟨fun W w _ => by
   simp [sBuild, Instr.build, Tryz.zeroValue203, Tryz.runUnderlying203, Tryz.sizeOf3, cells_agg, Instr.fill]⟩
instance bld_203_6_3_4_5 {a0 a1 a2 a3 : Value} [h0 : OC a0] [h1 : OC a1] [h2 : OC a2] [h3 : OC a3] : RV p_ (sBuild 203 [(6, a0), (3, a1), (4, a2), (5, a3)]) (.agg #[(.int .i64 0), (.int .i64 0), (.int .i64 0), a1, a2, a3, a0]) := ⟨fun W w _ => by
 have c0 := cells_one h0.one; have c1 := cells_one h1.one; have c2 := cells_one h2.one; have c3 := cells_one h3.one; simp [sBuild, Instr.build, Tryz.zeroValue203, Tryz.runUnderlying203, Tryz.sizeOf3, cells_agg, Instr.fill, c0, c1, c2, c3]⟩
instance bld_230_0_1_2_3_4_5_6_7_8_9_10_11 {a0 a1 a2 a3 a4 a5 a6 a7 a8 a9 a10 a11 : Value} [h0 : OC a0] [h1 : OC a1] [h2 : OC a2] [h3 : OC a3] [h4 : OC a4] [h5 : OC a5] [h6 : OC a6] [h7 : OC a7] [h8 : OC a8] [h9 : OC a9] [h10 : OC a10] [h11 : OC a11] : RV p_ (sBuild 230 [(0, a0), (1, a1), (2, a2), (3, a3), (4, a4), (5, a5), (6, a6), (7, a7), (8, a8), (9, a9), (10, a10), (11, a11)]) (.agg #[a0, a1, a2, a3, a4, a5, a6, a7, a8, a9, a10, a11]) := ⟨fun W w _ => by
 have c0 := cells_one h0.one; have c1 := cells_one h1.one; have c2 := cells_one h2.one; have c3 := cells_one h3.one; have c4 := cells_one h4.one; have c5 := cells_one h5.one; have c6 := cells_one h6.one; have c7 := cells_one h7.one; have c8 := cells_one h8.one; have c9 := cells_one h9.one; have c10 := cells_one h10.one; have c11 := cells_one h11.one; simp [sBuild, Instr.build, Tryz.zeroValue230, Tryz.runUnderlying230, Tryz.sizeOf9, cells_agg, Instr.fill, c0, c1, c2, c3, c4, c5, c6, c7, c8, c9, c10, c11]⟩
instance bld_236_0_1_2_3_4_5_6 {a0 a1 a2 a3 a4 a5 a6 : Value} [h0 : OC a0] [h1 : OC a1] [h2 : OC a2] [h3 : OC a3] [h4 : OC a4] [h5 : OC a5] [h6 : OC a6] : RV p_ (sBuild 236 [(0, a0), (1, a1), (2, a2), (3, a3), (4, a4), (5, a5), (6, a6)]) (.agg #[a0, a1, a2, a3, a4, a5, a6]) := ⟨fun W w _ => by
 have c0 := cells_one h0.one; have c1 := cells_one h1.one; have c2 := cells_one h2.one; have c3 := cells_one h3.one; have c4 := cells_one h4.one; have c5 := cells_one h5.one; have c6 := cells_one h6.one; simp [sBuild, Instr.build, Tryz.zeroValue236, Tryz.runUnderlying236, Tryz.sizeOf9, cells_agg, Instr.fill, c0, c1, c2, c3, c4, c5, c6]⟩
instance bld_256_0_1_2 {a0 a1 a2 : Value} [h0 : OC a0] [h1 : OC a1] [h2 : OC a2] : RV p_ (sBuild 256 [(0, a0), (1, a1), (2, a2)]) (.agg #[a0, a1, a2]) := ⟨fun W w _ => by
 have c0 := cells_one h0.one; have c1 := cells_one h1.one; have c2 := cells_one h2.one; simp [sBuild, Instr.build, Tryz.zeroValue256, Tryz.runUnderlying256, Tryz.sizeOf9, Tryz.sizeOf165, cells_agg, Instr.fill, c0, c1, c2]⟩
end Go.Proofs.YthomhkpedghhgaaGreatDoor.T
namespace Go.Proofs.YthomhkpedghhgaaGreatDoor.Sl
open Go Sh
variable {P : Program} {W : World} {L L' : List HP} {Kp : PK} {k : Value -> WP}
theorem fill_run : ∀ (vs pre zs : List Value), zs.length = vs.length -> (∀ v ∈ vs, v.cells = #[v]) ->
  Instr.fill (fun i => some (i * 1, 1)) (pre ++ zs).toArray ((vs.zipIdx pre.length).map fun x => (x.2, x.1)) = some (pre ++ vs).toArray
 | [], pre, zs, hz, _ => by
  have : zs = [] := List.eq_nil_of_length_eq_zero (by simpa using hz)
  subst this; simp [Instr.fill]
 | v :: vs, pre, [], hz, _ => by simp at hz
 | v :: vs, pre, z :: zs, hz, ho => by
  have hv := ho v (by simp)
  have ih := fill_run vs (pre ++ [v]) zs (by simpa using hz) (fun u hu => ho u (by simp [hu]))
  simp only [List.zipIdx_cons, List.map_cons, Instr.fill, hv]
  rw [if_neg (by simp)]
  have h2 : Array.foldl (fun cs (x : Value × Nat) => cs.setIfInBounds (pre.length * 1 + x.2) x.1) (pre ++ z :: zs).toArray (#[v] : Array Value).zipIdx = (pre ++ [v] ++ zs).toArray := by
   simp
  have h3 : (pre ++ [v]).length = pre.length + 1 := by simp
  rw [h3] at ih
  rw [h2, ih]; simp
theorem e_bslN {t e : TypeId} {b n : Nat} {parts : List (Nat × Value)} {vs : List Value} [ht : SlT P t e 1 b] (hn : vs.length = n) (hp : parts = vs.zipIdx.map fun x => (x.2, x.1)) (ho : ∀ v ∈ vs, v.cells = #[v]) (hm : n <= 16777216)
  (h : ∀ g, Ent W (pt g (.cells vs.toArray e) :: L) (k (.slice (some ⟨g, 0, none⟩) n n))) : Ent W L (opN P (sBuildSl t n parts) Kp k) := fun w hw => by
 refine ⟨?_⟩
 obtain ⟨i, z, hi, hz, hs, hb, hzs⟩ := ht.info
 have : (sBuildSl t n parts).run P w = .ok (.value (.slice (some ⟨w.heap.size, 0, none⟩) n n)) (w.alloc (.cells vs.toArray e)) := by
  have hm' : ¬ (2 ^ 24 < n) := by omega
  have hf : ∀ zs : List Value, zs.length = vs.length -> Instr.fill (fun i => some (i * 1, 1)) zs.toArray parts = some vs.toArray := fun zs hz => by
   have := fill_run vs [] zs hz ho
   simpa [hp] using this
  by_cases h0 : n = 0
  ·have : vs = [] := List.eq_nil_of_length_eq_zero (by omega)
   subst this; subst h0
   simp [sBuildSl, Instr.buildSlice, run_underlying ht.ut, sizeOf_run hi, hs, hp, newRow, Instr.fill]
   have e0 : (Array.range 0).map (fun _ => (default : Value)) = #[] := Array.eq_empty_of_size_eq_zero (by simp)
   rw [e0]
  ·have hf' := hf ((List.range n).map fun j => z.cells[j % z.cells.size]!) (by simp [hn])
   have e1 : ((Array.range n).map fun j => z.cells[j % z.cells.size]!) = ((List.range n).map fun j => z.cells[j % z.cells.size]!).toArray := by
    apply Array.ext'
    simp [Array.toList_range]
   rw [<- e1] at hf'
   simp only [Nat.mul_one] at hf'
   simp [sBuildSl, Instr.buildSlice, run_underlying ht.ut, sizeOf_run hi, hs, h0, hm', zeroValue, typeInfo, hi, hz, newRow, hf']
 rw [this]
 exact h _ _ (hw.alloc _)
theorem e_mksl {t e : TypeId} {b : Nat} {z : Value} {q r : IntKind} {l c : Int} (n m : Nat) [ht : SlT P t e 1 b] [hz : ZeroT P e z] [hc : OC z] (hl : l = (n : Int)) (hcm : c = (m : Int)) (h1 : n <= m) (h2 : b * m <= 281474976710656) (h3 : m <= maxLen)
  (h : ∀ g, Ent W (Sl 1 e (some ⟨g, 0, none⟩) m n (List.replicate n z) :: L) (k (.slice (some ⟨g, 0, none⟩) n m))) : Ent W L (opN P (sMkSl t (.int q l) (.int r c)) Kp k) := fun w hw => by
 refine ⟨?_⟩
 obtain ⟨i, z', hi, hz', hs, hb, hzs⟩ := ht.info
 have e0 : z' = z := by
  have := hz.run w
  simp [zeroValue, typeInfo, hi, hz'] at this
  exact this
 subst e0
 subst hl; subst hcm
 have hcz : z'.cells = #[z'] := cells_one hc.one
 have hbm : (i.bytes : Int) * (m : Int) <= 281474976710656 := by
  rw [hb]
  obtain ⟨X, hX⟩ : ∃ X, X = b * m := ⟨_, rfl⟩
  have h4 : (X : Int) <= 281474976710656 := by omega
  rw [hX, Int.natCast_mul] at h4
  exact h4
 have hr := run_make (P := P) (w := w) t e i z' ht.ut hi hz' q r n m (by omega) (by omega) hbm (by unfold maxLen at h3; omega)
 simp only [Int.toNat_natCast, hs, Nat.mul_one] at hr
 have e1 : madeCells z'.cells m = (List.replicate n z' ++ List.replicate (m - n) z').toArray := by
  rw [hcz, List.replicate_append_replicate]
  apply Array.ext'
  simp [madeCells, Array.toList_range, Nat.mod_one]
  rw [show n + (m - n) = m by omega]
  apply List.ext_getElem <;> simp
 have : (sMkSl t (.int q n) (.int r m)).run P w = .ok (.value (.slice (some ⟨w.heap.size, 0, none⟩) n m)) (w.alloc (.cells (List.replicate n z' ++ List.replicate (m - n) z').toArray e)) := by
  simp [sMkSl, hr, e1]
 rw [this]
 refine h _ _ ?_
 have := hw.alloc (.cells (List.replicate n z' ++ List.replicate (m - n) z').toArray e)
 refine Imp.sat (L := pt w.heap.size (.cells (List.replicate n z' ++ List.replicate (m - n) z').toArray e) :: L) ?_ this
 exact .conv (B := pt w.heap.size (.cells (List.replicate n z' ++ List.replicate (m - n) z').toArray e)) (fun f hf => ⟨by simp, h1, h3, .inr ⟨_, List.replicate (m - n) z', rfl, by simp, hf⟩⟩) (.pick .here .refl)
end Go.Proofs.YthomhkpedghhgaaGreatDoor.Sl
namespace Go.Proofs.YthomhkpedghhgaaGreatDoor.Sl
open Go Go.RowKit Sh
variable {P : Program} {W : World} {L L' : List HP} {Kp : PK} {k : Value -> WP} {H : Type} {enc : TypeId × Value -> H}
theorem spot_none {w : World} {a : Addr} {v : Value} (h : w.cell? a = some v) : a.spot = none /\ a.block < w.heap.size := by
 unfold World.cell? at h
 split at h
 ·rename_i c _ _ e
  refine ⟨?_, (Array.getElem?_eq_some_iff.1 e).1⟩
  cases hs : a.spot with
  | none => rfl
  | some x => rw [hs] at h; simp at h
 ·cases h
structure Old {α : Type} (W : World) (s : Nat) (rd : α -> List Value -> Prop) (a : Option Addr) (n : Nat) (xs : List α) : Prop where
 len : xs.length = n
 at_ : 0 < n -> ∃ g o, a = some ⟨g, o, none⟩ /\ g < W.heap.size /\ ∀ (i : Nat) (h : i < xs.length), ∃ cs : List Value, cs.length = s /\ rd xs[i] cs /\ ∀ (j : Nat) (v : Value), cs[j]? = some v -> W.cell? ⟨g, o + (i * s + j), none⟩ = some v
theorem v_ldOld {t : TypeId} {g o : Nat} {v : Value} [ht : OneT P t] (hg : g < W.heap.size) (hv : W.cell? ⟨g, o, none⟩ = some v) : RunV P W [] (sLoad t (.pointer (some ⟨g, o, none⟩))) v := by
 have H : RdB W (pu True) (some ⟨g, o, none⟩) 1 [v] := rd_old rfl hg (fun j u hu => by
  match j, hu with
  | 0, hu => simp at hu; subst hu; exact hv)
 have := v_ldRd (P := P) (t := t) (j := 0) H rfl
 exact fun w hw => this w (Imp.sat (.pu trivial .refl) hw)
theorem choose_list {α : Type} {n : Nat} {R : Nat -> α -> Prop} (h : ∀ i, i < n -> ∃ a, R i a) : ∃ xs : List α, xs.length = n /\ ∀ (i : Nat) (hi : i < xs.length), R i xs[i] := by
 induction n with
 | zero => exact ⟨[], rfl, fun i hi => by simp at hi⟩
 | succ n ih =>
  obtain ⟨xs, h1, h2⟩ := ih fun i hi => h i (by omega)
  obtain ⟨a, ha⟩ := h n (by omega)
  refine ⟨xs ++ [a], by simp [h1], fun i hi => ?_⟩
  by_cases c : i < xs.length
  ·rw [List.getElem_append_left c]; exact h2 i c
  ·have : i = n := by simp at hi; omega
   subst this
   rw [List.getElem_append_right (by omega)]
   simpa [h1] using ha
theorem bulk_cons (d : DataW H) (r : List (DataW H)) : Rows.uptoBulkAll (d :: r) = Rows.uptoBulk d + Rows.uptoBulkAll r := by simp [Rows.uptoBulkAll]
theorem bulk_sum {α : Type} {m : α -> Nat} : ∀ (xs : List α) (ds : List (DataW H)), xs.length = ds.length -> (∀ (i : Nat) (h1 : i < xs.length) (h2 : i < ds.length), m xs[i] <= Rows.uptoBulk ds[i]) -> (xs.map m).sum <= Rows.uptoBulkAll ds
 | [], [], _, _ => by simp
 | x :: xs, d :: ds, hl, h => by
  have h0 := h 0 (by simp) (by simp)
  have ih := bulk_sum xs ds (by simpa using hl) (fun i h1 h2 => h (i + 1) (by simp; omega) (by simp; omega))
  rw [bulk_cons, List.map_cons, List.sum_cons]
  simp only [List.getElem_cons_zero] at h0
  omega
theorem open_old {α : Type} {rd : α -> List Value -> Prop} {m : α -> Nat} {t e : TypeId} {s fuel : Nat} {sp : Nat -> Bool} {held : Bool} {cs : List Value} {x : DataW H × List MemPlace} (ht : P.underlying t = some (.slice e)) (hc : P.cellsOf e = s) (hs : 0 < s)
  (op : ∀ (n : Nat) (cs : List Value) (x : DataW H × List MemPlace), DataW.trod enc P W 0 sp held n e cs = some x -> ∃ a, rd a cs /\ m a <= Rows.uptoBulk x.1) (h : DataW.trod enc P W 0 sp held fuel t cs = some x) :
  ∃ (a : Option Addr) (n cap : Nat) (xs : List α), cs = [.slice a n cap] /\ n <= cap /\ cap <= maxLen /\ (a = none -> n = 0 /\ cap = 0) /\ Old W s rd a n xs /\ (xs.map m).sum + 1 <= Rows.uptoBulk x.1 := by
 rcases DataW.trod_slice ht h with ⟨rfl, rfl⟩ | ⟨a, len, cap, elems, rest, n, rfl, rfl, rfl, hb, hl, hm, he, hel, _, _⟩
 ·exact ⟨none, 0, 0, [], rfl, Nat.le_refl _, by unfold maxLen; omega, fun _ => ⟨rfl, rfl⟩, ⟨rfl, fun c => by omega⟩, by simp [Rows.uptoBulk]⟩
 ·have cell0 : ∀ i, i < len -> ∃ ds : List Value, ds.length = s /\ (∃ y, rd y ds /\ ∀ h : i < elems.length, m y <= Rows.uptoBulk elems[i].1) /\ ∀ j, j < s -> W.cell? ((a.add (i * s)).add j) = ds[j]? := fun i hi => by
   have h1 := hel i hi
   rw [List.getElem?_eq_getElem (by omega), Option.bind_eq_some_iff] at h1
   obtain ⟨ds, h2, h3⟩ := h1
   unfold World.cells? at h2
   rw [if_pos (Nat.zero_le _), hc] at h2
   obtain ⟨y, hy, hm2⟩ := op _ _ _ h3
   exact ⟨ds, by simpa using mapM_some_length h2, ⟨y, hy, fun _ => hm2⟩, fun j hj => mapM_some_get h2 j j (by simp [hj])⟩
  by_cases hz : len = 0
  ·subst hz
   exact ⟨some a, 0, cap, [], rfl, hl, hm, (fun c => by cases c), ⟨rfl, fun c => by omega⟩, by simp [Rows.uptoBulk]⟩
  obtain ⟨d0, hd0, _, hg0⟩ := cell0 0 (by omega)
  have h0 := hg0 0 hs
  have ea : (a.add (0 * s)).add 0 = a := by unfold Addr.add; simp
  rw [ea, List.getElem?_eq_getElem (by omega)] at h0
  obtain ⟨s1, s2⟩ := spot_none h0
  obtain ⟨g, o, sp'⟩ := a
  obtain rfl : sp' = none := s1
  have key : ∀ i, i < len -> ∃ y : α, (∀ h : i < elems.length, m y <= Rows.uptoBulk elems[i].1) /\ ∃ ds : List Value, ds.length = s /\ rd y ds /\ ∀ (j : Nat) (v : Value), ds[j]? = some v -> W.cell? ⟨g, o + (i * s + j), none⟩ = some v := fun i hi => by
   obtain ⟨ds, hlen, ⟨y, hy, hyb⟩, hget⟩ := cell0 i hi
   refine ⟨y, hyb, ds, hlen, hy, fun j v hv => ?_⟩
   have hj : j < s := by
    rcases Nat.lt_or_ge j ds.length with c | c
    ·omega
    ·rw [List.getElem?_eq_none c] at hv; cases hv
   have := hget j hj
   rw [addr_add, addr_add, hv, Nat.add_assoc] at this
   exact this
  obtain ⟨xs, h1, h2⟩ := choose_list key
  refine ⟨some ⟨g, o, none⟩, len, cap, xs, rfl, hl, hm, (fun c => by cases c), ⟨h1, fun hn => ⟨g, o, rfl, s2, fun i hi => (h2 i hi).2⟩⟩, ?_⟩
  have := bulk_sum (m := m) xs (elems.map (·.1)) (by simp; omega) (fun i e1 e2 => by simpa using (h2 i e1).1 (by simpa using e2))
  simp only [Rows.uptoBulk]
  omega
theorem sum_ones {α : Type} : ∀ l : List α, (l.map fun _ => 1).sum = l.length
 | [] => rfl
 | x :: l => by simp [sum_ones l]; omega
def rdU (c : UInt8) (cs : List Value) : Prop := cs = [B c]
theorem Old.bytes {a : Option Addr} {n : Nat} {b : List UInt8} {A : HP} (h : Old W 1 rdU a n b) : RdB W A a n (b.map B) := by
 refine ⟨by rw [List.length_map]; exact h.len, fun hn => ?_⟩
 obtain ⟨g, o, rfl, hg, hc⟩ := h.at_ hn
 refine ⟨g, o, rfl, fun w L hw j v hv => ?_⟩
 rw [List.getElem?_map] at hv
 have hj : j < b.length := by
  rcases Nat.lt_or_ge j b.length with c | c
  ·exact c
  ·rw [List.getElem?_eq_none c] at hv; cases hv
 obtain ⟨cs, h1, h2, h3⟩ := hc j hj
 rw [h2] at h3
 have := h3 0 (B b[j]) rfl
 rw [List.getElem?_eq_getElem hj] at hv
 have hv' : B b[j] = v := Option.some.inj hv
 rw [hw.base.cell (p := ⟨g, o + j, none⟩) hg, <- hv']
 simpa using this
theorem open_u8 {e : TypeId} {sp : Nat -> Bool} {held : Bool} (he : P.underlying e = some (.int .u8)) : ∀ (n : Nat) (cs : List Value) (x : DataW H × List MemPlace), DataW.trod enc P W 0 sp held n e cs = some x -> ∃ a, rdU a cs /\ 1 <= Rows.uptoBulk x.1 := fun n cs x h => by
 obtain ⟨m, rfl, rfl, hw⟩ := DataW.trod_int he h
 have hm : 0 <= m /\ m <= 255 := by simpa [Lit.wf, IntKind.min, IntKind.max, IntKind.signed, IntKind.bits] using hw
 refine ⟨UInt8.ofNat m.toNat, ?_, by simp [Rows.uptoBulk]⟩
 unfold rdU B
 rw [UInt8.toNat_ofNat', Nat.mod_eq_of_lt (by omega), Int.toNat_of_nonneg hm.1]
theorem open_bytes {t e : TypeId} {fuel : Nat} {sp : Nat -> Bool} {held : Bool} {cs : List Value} {x : DataW H × List MemPlace} (ht : P.underlying t = some (.slice e)) (hc : P.cellsOf e = 1) (he : P.underlying e = some (.int .u8)) (h : DataW.trod enc P W 0 sp held fuel t cs = some x) :
  ∃ (a : Option Addr) (cap : Nat) (b : List UInt8), cs = [.slice a b.length cap] /\ b.length <= cap /\ cap <= maxLen /\ (a = none -> b.length = 0) /\ (∀ A, RdB W A a b.length (b.map B)) /\ b.length + 1 <= Rows.uptoBulk x.1 := by
 obtain ⟨a, n, cap, b, rfl, h1, h2, h3, h4, h5⟩ := open_old (m := fun _ => 1) ht hc (by omega) (open_u8 (enc := enc) he) h
 have hl := h4.len
 subst hl
 exact ⟨a, cap, b, rfl, h1, h2, fun c => (h3 c).1, fun A => h4.bytes, by rwa [sum_ones] at h5⟩
end Go.Proofs.YthomhkpedghhgaaGreatDoor.Sl
namespace Go.Proofs.YthomhkpedghhgaaGreatDoor.Sl
open Go Sh
variable {P : Program} {W : World} {L L' : List HP} {Kp : PK} {k : Value -> WP}
theorem fold_put (o : Nat) : ∀ (us pre zs : List Value) (m : Nat), pre.length = o + m -> us.length <= zs.length ->
  (us.zipIdx m).foldl (fun (cs : Array Value) (x : Value × Nat) => cs.setIfInBounds (o + x.2) x.1) (pre ++ zs).toArray = (pre ++ us ++ zs.drop us.length).toArray
 | [], pre, zs, m, _, _ => by simp
 | u :: us, pre, [], m, _, h => by simp at h
 | u :: us, pre, z :: zs, m, hp, h => by
  have ih := fold_put o us (pre ++ [u]) zs (m + 1) (by simp; omega) (by simpa using h)
  have e : ((pre ++ z :: zs).toArray).setIfInBounds (o + m) u = (pre ++ [u] ++ zs).toArray := by
   rw [<- hp]; simp
  rw [List.zipIdx_cons, List.foldl_cons]
  simp only
  rw [e, ih]; simp
theorem fill_runS (s : Nat) : ∀ (vs pre zs : List Value) (m : Nat), pre.length = m * s -> zs.length = vs.length * s -> (∀ v ∈ vs, v.cells.size = s) ->
  Instr.fill (fun i => some (i * s, s)) (pre ++ zs).toArray ((vs.zipIdx m).map fun x => (x.2, x.1)) = some (pre ++ vs.flatMap fun v => v.cells.toList).toArray
 | [], pre, zs, m, _, hz, _ => by
  have : zs = [] := List.eq_nil_of_length_eq_zero (by simpa using hz)
  subst this; simp [Instr.fill]
 | v :: vs, pre, zs, m, hp, hz, ho => by
  have hv := ho v (by simp)
  have hz' : zs.length = vs.length * s + s := by rw [hz, List.length_cons, Nat.add_mul, Nat.one_mul]
  have ih := fill_runS s vs (pre ++ v.cells.toList) (zs.drop s) (m + 1) (by rw [List.length_append, hp, Array.length_toList, hv, Nat.add_mul, Nat.one_mul]) (by rw [List.length_drop, hz']; omega) (fun u hu => ho u (by simp [hu]))
  simp only [List.zipIdx_cons, List.map_cons, Instr.fill, hv]
  rw [if_neg (by simp [hp, hz'])]
  have h2 : Array.foldl (fun cs (x : Value × Nat) => cs.setIfInBounds (m * s + x.2) x.1) (pre ++ zs).toArray v.cells.zipIdx = (pre ++ v.cells.toList ++ zs.drop s).toArray := by
   have := fold_put (m * s) v.cells.toList pre zs 0 (by simpa using hp) (by rw [Array.length_toList, hv]; omega)
   rw [Array.length_toList, hv] at this
   rw [<- this]
   have e2 : v.cells.zipIdx.toList = v.cells.toList.zipIdx := by simp
   rw [<- e2, Array.foldl_toList]
  rw [h2, ih]; simp
theorem e_bslS {t e : TypeId} {s b n : Nat} {parts : List (Nat × Value)} {vs : List Value} [ht : SlT P t e s b] (hn : vs.length = n) (h1 : 0 < n) (hp : parts = vs.zipIdx.map fun x => (x.2, x.1)) (ho : ∀ v ∈ vs, v.cells.size = s) (hm : n * s <= 16777216)
  (h : ∀ g, Ent W (pt g (.cells (vs.flatMap fun v => v.cells.toList).toArray e) :: L) (k (.slice (some ⟨g, 0, none⟩) n n))) : Ent W L (opN P (sBuildSl t n parts) Kp k) := fun w hw => by
 refine ⟨?_⟩
 obtain ⟨i, z, hi, hz, hs, hb, hzs⟩ := ht.info
 have : (sBuildSl t n parts).run P w = .ok (.value (.slice (some ⟨w.heap.size, 0, none⟩) n n)) (w.alloc (.cells (vs.flatMap fun v => v.cells.toList).toArray e)) := by
  have hm' : ¬ (2 ^ 24 < n * s) := by omega
  have hf : ∀ zs : Array Value, zs.size = n * s -> Instr.fill (fun i => some (i * s, s)) zs parts = some (vs.flatMap fun v => v.cells.toList).toArray := fun zs hz => by
   have := fill_runS s vs [] zs.toList 0 (by simp) (by simp [hz, hn]) ho
   simpa [hp] using this
  by_cases h0 : n * s = 0
  ·simp [sBuildSl, Instr.buildSlice, run_underlying ht.ut, sizeOf_run hi, hs, zeroValue, typeInfo, hi, hz, newRow, h0]
   have := hf ((Array.range 0).map fun _ => (default : Value)) (by simp [h0])
   rw [this]
   simp
  ·simp [sBuildSl, Instr.buildSlice, run_underlying ht.ut, sizeOf_run hi, hs, hm', zeroValue, typeInfo, hi, hz, newRow, h0]
   have := hf ((Array.range (n * s)).map fun j => z.cells[j % z.cells.size]!) (by simp)
   rw [this]
   simp
 rw [this]
 exact h _ _ (hw.alloc _)
theorem flat_len {α : Type} {f : α -> List Value} {s : Nat} (hf : ∀ x, (f x).length = s) : ∀ l : List α, (l.flatMap f).length = l.length * s
 | [] => by simp
 | x :: l => by rw [List.flatMap_cons, List.length_append, hf, flat_len hf l, List.length_cons, Nat.add_mul, Nat.one_mul, Nat.add_comm]
theorem flat_get {α : Type} {f : α -> List Value} {s : Nat} (hf : ∀ x, (f x).length = s) : ∀ (l : List α) (i j : Nat) (hi : i < l.length) (hj : j < s), (l.flatMap f)[i * s + j]? = (f l[i])[j]?
 | x :: l, 0, j, _, hj => by
  rw [List.flatMap_cons, Nat.zero_mul, Nat.zero_add, List.getElem?_append_left (by rw [hf]; exact hj)]; rfl
 | x :: l, i + 1, j, hi, hj => by
  rw [List.flatMap_cons, List.getElem?_append_right (by rw [hf, Nat.add_mul]; omega), hf, show (i + 1) * s + j - s = i * s + j by rw [Nat.add_mul]; omega, flat_get hf l i j (by simpa using hi) hj]; rfl
end Go.Proofs.YthomhkpedghhgaaGreatDoor.Sl
namespace Go.Proofs.YthomhkpedghhgaaGreatDoor.Sl
open Go Go.RowKit Sh
variable {P : Program} {W : World} {L L' : List HP} {Kp : PK} {k : Value -> WP} {H : Type} {enc : TypeId × Value -> H}
def I (n : Int) : Value := .int .i64 n
def An (n : Nat) (f : Nat -> Int) : Array Value := ((List.range n).map fun j => I (f j)).toArray
theorem An_size (n : Nat) (f : Nat -> Int) : (An n f).size = n := by simp [An]
theorem An_get {n j : Nat} {f : Nat -> Int} (h : j < n) : (An n f)[j]? = some (I (f j)) := by simp [An, h]
theorem An_congr {n : Nat} {f g : Nat -> Int} (h : ∀ j, j < n -> f j = g j) : An n f = An n g := by
 unfold An
 congr 1
 exact List.map_congr_left fun j hj => by rw [h j (List.mem_range.1 hj)]
theorem An_set {n j : Nat} {f : Nat -> Int} {v : Int} : (An n f).setIfInBounds j (I v) = An n fun i => if i = j then v else f i := by
 apply Array.ext_getElem?
 intro i
 rw [Array.getElem?_setIfInBounds, An_size]
 by_cases c : j = i
 ·subst c
  rw [if_pos rfl]
  by_cases h : j < n
  ·rw [if_pos h, An_get h]; simp
  ·rw [if_neg h, Array.getElem?_eq_none (by rw [An_size]; omega)]
 ·rw [if_neg c]
  by_cases h : i < n
  ·rw [An_get h, An_get h, if_neg (fun e => c e.symm)]
  ·rw [Array.getElem?_eq_none (by rw [An_size]; omega), Array.getElem?_eq_none (by rw [An_size]; omega)]
end Go.Proofs.YthomhkpedghhgaaGreatDoor.Sl
