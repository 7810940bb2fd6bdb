/- Values of fields: what the document says of them, as plain functions over bytes. No conditions but those that each names. -/
import Derived.Test.YtcigoifhcfbcdaaGreatDoorStr
set_option linter.unusedVariables false
set_option linter.unusedSimpArgs false
namespace Go.Proofs.YtcigoifhcfbcdaaGreatDoor.FD
def isBl (c : UInt8) : Bool := c == 32 || c == 9
def trimL (l : List UInt8) : List UInt8 := l.dropWhile isBl
def trimR (l : List UInt8) : List UInt8 := (l.reverse.dropWhile isBl).reverse
def trimB (l : List UInt8) : List UInt8 := trimL (trimR l)
theorem trimR_t {l : List UInt8} {n : Nat} (h : l.length = n + 1) (hb : isBl (l[n]'(by omega)) = true) : trimR l = trimR (l.take n) := by
  have e : l = l.take n ++ [l[n]'(by omega)] := by
    rw [List.take_append_getElem (by omega : n < l.length)]
    exact (List.take_of_length_le (by omega)).symm
  unfold trimR
  conv => lhs; rw [e]
  rw [List.reverse_append]
  simp [List.dropWhile_cons, hb]
theorem trimR_f {l : List UInt8} {n : Nat} (h : l.length = n + 1) (hb : isBl (l[n]'(by omega)) = false) : trimR l = l := by
  have e : l = l.take n ++ [l[n]'(by omega)] := by
    rw [List.take_append_getElem (by omega : n < l.length)]
    exact (List.take_of_length_le (by omega)).symm
  unfold trimR
  conv => lhs; rw [e]
  rw [List.reverse_append]
  simp [List.dropWhile_cons, hb]
  exact List.take_of_length_le (by omega)
theorem trimL_t {l : List UInt8} (h : 0 < l.length) (hb : isBl l[0] = true) : trimL l = trimL (l.drop 1) := by
  cases l with
  | nil => simp at h
  | cons c r => simp [trimL, List.dropWhile_cons, show isBl c = true from hb]
theorem trimL_f {l : List UInt8} (h : 0 < l.length) (hb : isBl l[0] = false) : trimL l = l := by
  cases l with
  | nil => simp at h
  | cons c r => simp [trimL, List.dropWhile_cons, show isBl c = false from hb]
theorem trim_nil : trimB [] = [] := rfl
theorem trimR_snoc {l : List UInt8} {c : UInt8} : trimR (l ++ [c]) = if isBl c then trimR l else l ++ [c] := by
  unfold trimR
  rw [List.reverse_append]
  by_cases h : isBl c <;> simp [List.dropWhile_cons, h]
theorem trimLR (l : List UInt8) : trimL (trimR l) = trimR (trimL l) := by
  induction l with
  | nil => rfl
  | cons c r ih =>
    by_cases hr : trimR r = []
    · -- all blanks behind c
      have hc : trimR (c :: r) = if isBl c then [] else [c] := by
        unfold trimR at hr ⊢
        rw [List.reverse_cons, List.dropWhile_append]
        have : List.dropWhile isBl r.reverse = [] := by simpa using hr
        rw [this]
        by_cases h : isBl c <;> simp [List.dropWhile_cons, h]
      by_cases h : isBl c
      · rw [hc]
        simp only [h, if_true]
        have : trimL (c :: r) = trimL r := by simp [trimL, List.dropWhile_cons, h]
        rw [this, ← ih, hr]
      · rw [hc]
        simp only [h]
        have : trimL (c :: r) = c :: r := by simp [trimL, List.dropWhile_cons, h]
        rw [this, hc]
        simp [trimL, List.dropWhile_cons, h]
    · have hc : trimR (c :: r) = c :: trimR r := by
        unfold trimR at hr ⊢
        rw [List.reverse_cons, List.dropWhile_append]
        have : ¬ List.dropWhile isBl r.reverse = [] := by simpa using hr
        have h2 : (List.dropWhile isBl r.reverse).isEmpty = false := by
          cases hx : List.dropWhile isBl r.reverse with
          | nil => exact absurd hx this
          | cons _ _ => rfl
        rw [h2]; simp
      by_cases h : isBl c
      · have h1 : trimL (c :: r) = trimL r := by simp [trimL, List.dropWhile_cons, h]
        have h2 : trimL (c :: trimR r) = trimL (trimR r) := by simp [trimL, List.dropWhile_cons, h]
        rw [hc, h1, h2, ih]
      · have h1 : trimL (c :: r) = c :: r := by simp [trimL, List.dropWhile_cons, h]
        rw [hc, h1, hc]
        simp [trimL, List.dropWhile_cons, h]
/-- a part of a text -/
def sub (l : List UInt8) (a b : Nat) : List UInt8 := (l.drop a).take (b - a)
theorem sub_snoc {l : List UInt8} {a b : Nat} (h1 : a ≤ b) (h2 : b < l.length) : sub l a b ++ [l[b]] = sub l a (b + 1) := by
  unfold sub
  have h3 : b - a < (l.drop a).length := by rw [List.length_drop]; omega
  have := List.take_append_getElem h3
  rw [List.getElem_drop] at this
  have e : a + (b - a) = b := by omega
  simp only [e] at this
  rw [show b + 1 - a = b - a + 1 by omega, this]
theorem sub_self {l : List UInt8} {a : Nat} : sub l a a = [] := by simp [sub]
theorem sub_end {l : List UInt8} {a b : Nat} (h : l.length ≤ b) : sub l a b = l.drop a := by
  unfold sub
  exact List.take_of_length_le (by rw [List.length_drop]; omega)
/-- the pieces of a list -/
def els (q e : Bool) : Bool → List UInt8 → List UInt8 → List (List UInt8)
  | _, cur, [] => [cur]
  | inn, cur, c :: r =>
    if c = 92 ∧ inn = true ∧ e = true then match r with
      | [] => [cur ++ [c]]
      | d :: r' => els q e inn (cur ++ [c, d]) r'
    else if c = 34 ∧ q = true then els q e (!inn) (cur ++ [c]) r
    else if c = 44 ∧ inn = false then cur :: els q e false [] r
    else els q e inn (cur ++ [c]) r
theorem els_cons {q e inn : Bool} {cur : List UInt8} {c : UInt8} {r : List UInt8} : els q e inn cur (c :: r) = if c = 92 ∧ inn = true ∧ e = true then (match r with
      | [] => [cur ++ [c]]
      | d :: r' => els q e inn (cur ++ [c, d]) r')
    else if c = 34 ∧ q = true then els q e (!inn) (cur ++ [c]) r
    else if c = 44 ∧ inn = false then cur :: els q e false [] r
    else els q e inn (cur ++ [c]) r := by
  cases r <;> rfl
def stE (l : List UInt8) (q e inn : Bool) (a i : Nat) : List (List UInt8) := els q e inn (sub l a i) (l.drop i)
variable {l : List UInt8} {q e inn : Bool} {a i : Nat}
theorem stE_end (h : l.length ≤ i) : stE l q e inn a i = [l.drop a] := by
  unfold stE
  rw [List.drop_of_length_le h, sub_end h, els]
theorem dr (h : i < l.length) : l.drop i = l[i] :: l.drop (i + 1) := List.drop_eq_getElem_cons h
theorem stE_esc (h : i < l.length) (ha : a ≤ i) (hc : l[i] = 92) (h1 : inn = true) (h2 : e = true) : stE l q e inn a i = stE l q e inn a (i + 2) := by
  unfold stE
  rw [dr h, els_cons, if_pos ⟨hc, h1, h2⟩]
  by_cases h3 : i + 1 < l.length
  · rw [dr h3]
    simp only
    have e1 : sub l a i ++ [l[i], l[i + 1]] = sub l a (i + 2) := by
      rw [← sub_snoc (by omega) h3, ← sub_snoc ha h]; simp
    rw [e1]
  · rw [List.drop_of_length_le (show l.length ≤ i + 1 by omega), List.drop_of_length_le (show l.length ≤ i + 2 by omega)]
    simp only [els]
    rw [sub_snoc ha h, sub_end (show l.length ≤ i + 1 by omega), sub_end (show l.length ≤ i + 2 by omega)]
theorem stE_q (h : i < l.length) (ha : a ≤ i) (hn : ¬ (l[i] = 92 ∧ inn = true ∧ e = true)) (hc : l[i] = 34) (h1 : q = true) : stE l q e inn a i = stE l q e (!inn) a (i + 1) := by
  unfold stE
  rw [dr h, els_cons, if_neg hn, if_pos ⟨hc, h1⟩, sub_snoc ha h]
theorem stE_c (h : i < l.length) (ha : a ≤ i) (hc : l[i] = 44) (h1 : inn = false) : stE l q e inn a i = sub l a i :: stE l q e false (i + 1) (i + 1) := by
  unfold stE
  rw [dr h, els_cons, if_neg (by rw [h1]; simp), if_neg (by rw [hc]; rintro ⟨hx, _⟩; exact absurd hx (by decide)), if_pos ⟨hc, h1⟩, sub_self]
theorem stE_o (h : i < l.length) (ha : a ≤ i) (hn : ¬ (l[i] = 92 ∧ inn = true ∧ e = true)) (h2 : ¬ (l[i] = 34 ∧ q = true)) (h3 : ¬ (l[i] = 44 ∧ inn = false)) : stE l q e inn a i = stE l q e inn a (i + 1) := by
  unfold stE
  rw [dr h, els_cons, if_neg hn, if_neg h2, if_neg h3, sub_snoc ha h]
def nb (x : List UInt8) : Bool := !x.isEmpty
/-- its elements -/
def tidy (x : List (List UInt8)) : List (List UInt8) := (x.map trimB).filter nb
def elemsF (q e : Bool) (l : List UInt8) : List (List UInt8) := tidy (stE l q e false 0 0)
theorem tidy_cons {x : List UInt8} {r : List (List UInt8)} : tidy (x :: r) = if trimB x = [] then tidy r else trimB x :: tidy r := by
  unfold tidy
  by_cases h : trimB x = []
  · simp [h, nb]
  · have : nb (trimB x) = true := by cases hx : trimB x with
      | nil => exact absurd hx h
      | cons _ _ => rfl
    simp [h, this]
theorem tidy_nil : tidy [] = [] := rfl
theorem trim_len (l : List UInt8) : (trimB l).length ≤ l.length := by
  have h1 := (List.dropWhile_sublist (p := isBl) (l := trimR l)).length_le
  have h2 := (List.dropWhile_sublist (p := isBl) (l := l.reverse)).length_le
  unfold trimB trimL
  have h3 : (trimR l).length = (l.reverse.dropWhile isBl).length := by unfold trimR; simp
  rw [List.length_reverse] at h2
  omega
theorem tidy_len (x : List (List UInt8)) : (tidy x).length ≤ x.length := by
  unfold tidy
  have := (List.filter_sublist (p := nb) (l := x.map trimB)).length_le
  simpa using this
theorem tidy_mem {x : List (List UInt8)} {w : List UInt8} (h : w ∈ tidy x) : w ≠ [] ∧ ∃ v ∈ x, w = trimB v := by
  unfold tidy at h
  rw [List.mem_filter, List.mem_map] at h
  obtain ⟨⟨v, hv, rfl⟩, h2⟩ := h
  exact ⟨fun hx => (by rw [hx] at h2; cases h2), v, hv, rfl⟩
/-- a list, element by element -/
def listF {α : Type} (one : List UInt8 → α × Bool) (ws : List (List UInt8)) : Option (List α) := if ws.all (fun w => (one w).2) then some (ws.map fun w => (one w).1) else none
/-- cut at the first byte of a kind -/
def cutA (c : UInt8) : List UInt8 → List UInt8
  | [] => []
  | x :: r => if x = c then [] else x :: cutA c r
def cutB (c : UInt8) : List UInt8 → List UInt8
  | [] => []
  | x :: r => if x = c then r else cutB c r
def cutS (c : UInt8) : List UInt8 → Bool
  | [] => false
  | x :: r => if x = c then true else cutS c r
def lowB (c : UInt8) : UInt8 := if 65 ≤ c ∧ c ≤ 90 then c + 32 else c
def alnB (c : UInt8) : Bool := decide (97 ≤ c ∧ c ≤ 122 ∨ 65 ≤ c ∧ c ≤ 90 ∨ 48 ≤ c ∧ c ≤ 57)
def tokC : List UInt8 := [33, 35, 36, 37, 38, 39, 42, 43, 45, 46, 94, 95, 96, 124, 126]
def tokB (c : UInt8) : Bool := alnB c || tokC.contains c
def tokF (l : List UInt8) : Bool := nb l && l.all tokB
def lowF (l : List UInt8) : List UInt8 := l.map lowB
def digB (c : UInt8) : Bool := decide (48 ≤ c ∧ c ≤ 57)
def valF (l : List UInt8) : Nat := l.foldl (fun n c => n * 10 + (c.toNat - 48)) 0
def decF (l : List UInt8) : Int × Int := if nb l && l.all digB then (if valF l ≤ 1000000000000000000 then ((valF l : Int), 0) else (0, 11)) else (0, 21)
/-- an entity's tag -/
def badT (c : UInt8) : Bool := decide (c ≤ 32 ∨ c = 34 ∨ c = 127)
def weakF (s : List UInt8) : Bool := s.take 2 == [87, 47]
def mid (v : List UInt8) : List UInt8 := sub v 1 (v.length - 1)
def tagOk (v : List UInt8) : Bool := decide (2 ≤ v.length ∧ v[0]? = some 34 ∧ v[v.length - 1]? = some 34) && !(mid v).any badT
def tagV (s : List UInt8) : List UInt8 := if weakF s then s.drop 2 else s
def tagF (s : List UInt8) : (Bool × List UInt8) × Bool := if tagOk (tagV s) then ((weakF s, mid (tagV s)), true) else ((false, []), false)
def tagT (t : Bool × List UInt8) : List UInt8 := (if t.1 then [87, 47] else []) ++ 34 :: t.2 ++ [34]
/-- a weight, as the code reads it -/
def weightF (s : List UInt8) : Int × Bool :=
  if (cutA 46 s ≠ [48] ∧ cutA 46 s ≠ [49]) ∨ 3 < (cutB 46 s).length then (0, false)
  else ((decF (cutA 46 s ++ (cutB 46 s ++ [48, 48, 48]).take 3)).1, decide ((decF (cutA 46 s ++ (cutB 46 s ++ [48, 48, 48]).take 3)).2 = 0) && decide ((decF (cutA 46 s ++ (cutB 46 s ++ [48, 48, 48]).take 3)).1 ≤ 1000))
def choiceF (s : List UInt8) : (List UInt8 × Int) × Bool :=
  if cutS 59 s then
    if (trimB (cutB 59 s)).length < 2 ∨ lowF ((trimB (cutB 59 s)).take 2) ≠ [113, 61] then (([], 0), false)
    else ((lowF (trimB (cutA 59 s)), (weightF ((trimB (cutB 59 s)).drop 2)).1), tokF (lowF (trimB (cutA 59 s))) && (weightF ((trimB (cutB 59 s)).drop 2)).2)
  else ((lowF (trimB (cutA 59 s)), 1000), tokF (lowF (trimB (cutA 59 s))))
/-- what a quoted text means -/
def badQ (c : UInt8) : Bool := decide (c < 32 ∧ c ≠ 9 ∨ c = 127)
def unqL : List UInt8 → List UInt8 → List UInt8 × Bool
  | _, [] => ([], false)
  | acc, c :: r =>
    if c = 34 then (acc, r.isEmpty)
    else if c = 92 then match r with
      | [] => ([], false)
      | d :: r' => if badQ d then ([], false) else unqL (acc ++ [d]) r'
    else if badQ c then ([], false) else unqL (acc ++ [c]) r
theorem unqL_cons {acc : List UInt8} {c : UInt8} {r : List UInt8} : unqL acc (c :: r) = if c = 34 then (acc, r.isEmpty)
    else if c = 92 then (match r with
      | [] => ([], false)
      | d :: r' => if badQ d then ([], false) else unqL (acc ++ [d]) r')
    else if badQ c then ([], false) else unqL (acc ++ [c]) r := by
  cases r <;> rfl
def unqF : List UInt8 → List UInt8 × Bool
  | [] => ([], false)
  | c :: r => if c = 34 then unqL [] r else ([], false)
structure Dir where
  name : List UInt8
  value : List UInt8
  has : Bool
def dirF (s : List UInt8) : Dir × Bool :=
  if cutS 61 s && !tokF (cutB 61 s) then (⟨lowF (cutA 61 s), (unqF (cutB 61 s)).1, true⟩, tokF (cutA 61 s) && (unqF (cutB 61 s)).2)
  else (⟨lowF (cutA 61 s), cutB 61 s, cutS 61 s⟩, tokF (cutA 61 s))
/-- what a directive says of seconds -/
def secV (d : Dir) : Int := if (decF d.value).2 = 11 then 2147483648 else if (decF d.value).2 ≠ 0 ∨ d.has = false then 0 else min (decF d.value).1 2147483648
def secF (l : List Dir) (name : List UInt8) : Int × Bool := match l.find? (fun d => d.name == name) with
  | some d => (secV d, true)
  | none => (0, false)
def quoF (s : List UInt8) : List UInt8 := 34 :: s.flatMap (fun c => if c = 34 ∨ c = 92 then [92, c] else [c]) ++ [34]
/-- a span -/
def endF (s : List UInt8) : Int := if s = [] then -1 else (decF s).1
def endOk (s : List UInt8) : Bool := decide (s = [] ∨ (decF s).2 = 0)
def spanF (s : List UInt8) : (Int × Int) × Bool :=
  ((endF (cutA 45 s), endF (cutB 45 s)), (cutS 45 s && endOk (cutA 45 s) && endOk (cutB 45 s)) && decide (¬ (endF (cutA 45 s) = -1 ∧ endF (cutB 45 s) = -1)) && decide (endF (cutA 45 s) < 0 ∨ endF (cutB 45 s) < 0 ∨ endF (cutA 45 s) ≤ endF (cutB 45 s)))
def tokenF (s : List UInt8) : List UInt8 × Bool := (lowF s, tokF s)
def tokensF (s : List UInt8) : Option (List (List UInt8)) := listF tokenF (elemsF false false s)
def choicesF (s : List UInt8) : Option (List (List UInt8 × Int)) := listF choiceF (elemsF false false s)
def dirsF (s : List UInt8) : Option (List Dir) := listF dirF (elemsF true true s)
def tagLF (s : List UInt8) : Option (List (Bool × List UInt8)) := listF tagF (elemsF true false s)
def spanLF (s : List UInt8) : Option (List (Int × Int)) := if s.length < 6 ∨ lowF (s.take 6) ≠ [98, 121, 116, 101, 115, 61] then none else listF spanF (elemsF false false (s.drop 6))
/-- spans of bytes, and the answer's number -/
def spansF (s : List UInt8) : List (Int × Int) × Int := match spanLF s with
  | none => ([], 42)
  | some l => if l = [] then ([], 42) else if 16 < l.length then ([], 6) else (l, 0)
def tagsF (s : List UInt8) : List (Bool × List UInt8) × Bool × Int := if trimB s = [42] then ([], true, 0) else match tagLF s with
  | none => ([], false, 42)
  | some l => if l = [] then ([], false, 42) else (l, false, 0)
def lsF {α : Type} (o : Option (List α)) : List α × Int := match o with
  | none => ([], 42)
  | some l => (l, 0)
end Go.Proofs.YtcigoifhcfbcdaaGreatDoor.FD
namespace Go.Proofs.YtcigoifhcfbcdaaGreatDoor.FD
theorem listF_eq {α : Type} {f g : List UInt8 → α × Bool} (h1 : ∀ w, (f w).2 = (g w).2) (h2 : ∀ w, (f w).2 = true → (f w).1 = (g w).1) (ws : List (List UInt8)) : listF f ws = listF g ws := by
  unfold listF
  have e : (ws.all fun w => (f w).2) = ws.all fun w => (g w).2 := by simp only [h1]
  rw [← e]
  by_cases h : (ws.all fun w => (f w).2) = true
  · rw [if_pos h, if_pos h]
    congr 1
    refine List.map_congr_left fun w hw => h2 w (List.all_eq_true.1 h w hw)
  · rw [if_neg h, if_neg h]
theorem listF_app {α : Type} {f : List UInt8 → α × Bool} {a b : List (List UInt8)} {x y : List α} (ha : listF f a = some x) (hb : listF f b = some y) : listF f (a ++ b) = some (x ++ y) := by
  unfold listF at *
  split at ha
  · split at hb
    · injection ha with ha; injection hb with hb
      rename_i h1 h2
      rw [if_pos (by rw [List.all_append, h1, h2]; rfl), List.map_append, ha, hb]
    · cases hb
  · cases ha
theorem listF_all {α : Type} {f : List UInt8 → α × Bool} {a : List (List UInt8)} {x : List α} (ha : listF f a = some x) : ∀ w ∈ a, (f w).2 = true := by
  unfold listF at ha
  split at ha
  · rename_i h
    exact List.all_eq_true.1 h
  · cases ha
/-- a weight, as the document reads it -/
def fracF : List UInt8 → Nat → Nat
  | [], _ => 0
  | c :: r, u => u * (c.toNat - 48) + fracF r (u / 10)
def weightR (s : List UInt8) : Int :=
  if s.length < 1 ∨ 5 < s.length ∨ (s[0]? ≠ some 48 ∧ s[0]? ≠ some 49) ∨ (1 < s.length ∧ s[1]? ≠ some 46) then -1
  else if (s.drop 2).all digB = false then -1
  else if 1000 < 1000 * ((s.headD 0).toNat - 48) + fracF (s.drop 2) 100 then -1
  else ((1000 * ((s.headD 0).toNat - 48) + fracF (s.drop 2) 100 : Nat) : Int)
theorem dg_b {c : UInt8} (h : digB c = true) : 48 ≤ c.toNat ∧ c.toNat ≤ 57 := by
  unfold digB at h
  have := of_decide_eq_true h
  exact ⟨UInt8.le_iff_toNat_le.1 this.1, UInt8.le_iff_toNat_le.1 this.2⟩
theorem cutA_len {c : UInt8} : ∀ s : List UInt8, (cutA c s).length ≤ s.length
  | [] => by simp [cutA]
  | x :: r => by
    have := cutA_len (c := c) r
    unfold cutA
    split <;> simp <;> omega
theorem w_main {c : UInt8} {p : List UInt8} (hp : p.length ≤ 3) (hc : c = 48 ∨ c = 49) : decF ([c] ++ (p ++ [48, 48, 48]).take 3) = if p.all digB then (((1000 * (c.toNat - 48) + fracF p 100 : Nat) : Int), 0) else (0, 21) := by
  have hv : ∀ x y z : UInt8, valF [c, x, y, z] = (((c.toNat - 48) * 10 + (x.toNat - 48)) * 10 + (y.toNat - 48)) * 10 + (z.toNat - 48) := fun x y z => by simp [valF]
  have hd : digB c = true := by rcases hc with rfl | rfl <;> rfl
  have h48 : digB 48 = true := rfl
  have k : ∀ (x y z : UInt8), decF [c, x, y, z] = if digB x && digB y && digB z then ((valF [c, x, y, z] : Int), 0) else (0, 21) := fun x y z => by
    unfold decF
    simp only [nb, List.isEmpty_cons, Bool.not_false, Bool.true_and, List.all_cons, List.all_nil, Bool.and_true, hd]
    by_cases hh : (digB x && (digB y && digB z)) = true
    · have h1 : digB x = true := by simp at hh; exact hh.1
      have h2 : digB y = true := by simp at hh; exact hh.2.1
      have h3 : digB z = true := by simp at hh; exact hh.2.2
      have b0 := dg_b hd
      have b1 := dg_b h1
      have b2 := dg_b h2
      have b3 := dg_b h3
      rw [if_pos hh, if_pos (by rw [hv]; omega), if_pos (by simp [h1, h2, h3])]
    · rw [if_neg hh, if_neg (by simpa [Bool.and_assoc] using hh)]
  have e48 : (48 : UInt8).toNat - 48 = 0 := rfl
  match p, hp with
  | [], _ =>
    simp only [List.nil_append, List.take_succ_cons, List.take_zero, List.singleton_append]
    rw [k]
    simp only [h48, List.all_nil, Bool.and_self, if_true, hv, fracF, e48]
    congr 2; omega
  | [x], _ =>
    simp only [List.cons_append, List.nil_append, List.take_succ_cons, List.take_zero]
    rw [k]
    simp only [h48, List.all_cons, List.all_nil, Bool.and_true, hv, fracF, e48]
    split <;> first | rfl | (congr 2; omega)
  | [x, y], _ =>
    simp only [List.cons_append, List.nil_append, List.take_succ_cons, List.take_zero]
    rw [k]
    simp only [h48, List.all_cons, List.all_nil, Bool.and_true, hv, fracF, e48]
    split <;> first | rfl | (congr 2; omega)
  | [x, y, z], _ =>
    simp only [List.cons_append, List.nil_append, List.take_succ_cons, List.take_zero]
    rw [k]
    simp only [h48, List.all_cons, List.all_nil, Bool.and_true, hv, fracF, e48, Bool.and_assoc]
    split <;> first | rfl | (congr 2; omega)
  | x :: y :: z :: w :: r, hp => exact absurd hp (by simp)
theorem weight_eq (s : List UInt8) : (weightF s).2 = decide (0 ≤ weightR s) ∧ ((weightF s).2 = true → (weightF s).1 = weightR s) := by
  have fin : ∀ {c : UInt8} {p : List UInt8}, p.length ≤ 3 → (c = 48 ∨ c = 49) → cutA 46 s = [c] → cutB 46 s = p → weightR s = (if p.all digB = false then -1 else if 1000 < 1000 * (c.toNat - 48) + fracF p 100 then -1 else ((1000 * (c.toNat - 48) + fracF p 100 : Nat) : Int)) → (weightF s).2 = decide (0 ≤ weightR s) ∧ ((weightF s).2 = true → (weightF s).1 = weightR s) := by
    intro c p hp hc ea eb er
    have ew : weightF s = ((decF ([c] ++ (p ++ [48, 48, 48]).take 3)).1, decide ((decF ([c] ++ (p ++ [48, 48, 48]).take 3)).2 = 0) && decide ((decF ([c] ++ (p ++ [48, 48, 48]).take 3)).1 ≤ 1000)) := by
      unfold weightF
      rw [ea, eb, if_neg]
      rintro (⟨h1, h2⟩ | h)
      · rcases hc with rfl | rfl
        · exact h1 rfl
        · exact h2 rfl
      · omega
    rw [ew, er, w_main hp hc]
    by_cases h : p.all digB = true
    · rw [if_pos h, if_neg (by rw [h]; simp)]
      by_cases h2 : 1000 < 1000 * (c.toNat - 48) + fracF p 100
      · rw [if_pos h2]
        have : ¬ (((1000 * (c.toNat - 48) + fracF p 100 : Nat) : Int) ≤ 1000) := by omega
        simp only [this, decide_false, Bool.and_false]
        exact ⟨rfl, fun h => by cases h⟩
      · rw [if_neg h2]
        have : (((1000 * (c.toNat - 48) + fracF p 100 : Nat) : Int) ≤ 1000) := by omega
        simp only [this, decide_true, Bool.and_self, true_and, implies_true, and_true]
        exact (decide_eq_true (by omega)).symm
    · rw [if_neg h, if_pos (by simpa using h)]
      simp
  have bad : (weightF s).2 = false → weightR s = -1 → (weightF s).2 = decide (0 ≤ weightR s) ∧ ((weightF s).2 = true → (weightF s).1 = weightR s) := by
    intro h1 h2
    rw [h1, h2]; simp
  rcases s with _ | ⟨c, _ | ⟨d, p⟩⟩
  · exact bad rfl rfl
  · skip
    by_cases hc : c = 48 ∨ c = 49
    · refine fin (c := c) (p := []) (by simp) hc ?_ ?_ ?_
      · rcases hc with rfl | rfl <;> rfl
      · rcases hc with rfl | rfl <;> rfl
      · rcases hc with rfl | rfl <;> rfl
    · have h1 : c ≠ 48 := fun h => hc (.inl h)
      have h2 : c ≠ 49 := fun h => hc (.inr h)
      refine bad ?_ ?_
      · unfold weightF
        have : cutA 46 [c] ≠ [48] ∧ cutA 46 [c] ≠ [49] := by
          unfold cutA
          split
          · simp
          · simp [cutA, h1, h2]
        rw [if_pos (.inl this)]
      · unfold weightR
        rw [if_pos (.inr (.inr (.inl (by simp [h1, h2]))))]
  · skip
    by_cases hd : d = 46
    · subst hd
      by_cases hc : c = 48 ∨ c = 49
      · have ea : cutA 46 (c :: 46 :: p) = [c] := by rcases hc with rfl | rfl <;> rfl
        have eb : cutB 46 (c :: 46 :: p) = p := by rcases hc with rfl | rfl <;> rfl
        by_cases hp : p.length ≤ 3
        · refine fin hp hc ea eb ?_
          unfold weightR
          rw [if_neg]
          · rfl
          · rintro (h | h | h | h)
            · simp at h
            · simp at h; omega
            · rcases hc with rfl | rfl
              · exact h.1 rfl
              · exact h.2 rfl
            · exact h.2 rfl
        · refine bad ?_ ?_
          · unfold weightF
            rw [eb, if_pos (.inr (by omega))]
          · unfold weightR
            rw [if_pos (.inr (.inl (by simp; omega)))]
      · have h1 : c ≠ 48 := fun h => hc (.inl h)
        have h2 : c ≠ 49 := fun h => hc (.inr h)
        refine bad ?_ ?_
        · unfold weightF
          have : cutA 46 (c :: 46 :: p) ≠ [48] ∧ cutA 46 (c :: 46 :: p) ≠ [49] := by
            unfold cutA
            split
            · simp
            · simp [cutA, h1, h2]
          rw [if_pos (.inl this)]
        · unfold weightR
          rw [if_pos (.inr (.inr (.inl (by simp [h1, h2]))))]
    · refine bad ?_ ?_
      · unfold weightF
        have : cutA 46 (c :: d :: p) ≠ [48] ∧ cutA 46 (c :: d :: p) ≠ [49] := by
          unfold cutA
          split
          · simp
          · simp [cutA, hd]
        rw [if_pos (.inl this)]
      · unfold weightR
        rw [if_pos (.inr (.inr (.inr ⟨by simp, by simp [hd]⟩)))]
def choiceR (s : List UInt8) : (List UInt8 × Int) × Bool :=
  if cutS 59 s then
    if (trimB (cutB 59 s)).length < 2 ∨ ((trimB (cutB 59 s))[0]? ≠ some 113 ∧ (trimB (cutB 59 s))[0]? ≠ some 81) ∨ (trimB (cutB 59 s))[1]? ≠ some 61 then ((lowF (trimB (cutA 59 s)), 1000), false)
    else ((lowF (trimB (cutA 59 s)), weightR ((trimB (cutB 59 s)).drop 2)), tokF (lowF (trimB (cutA 59 s))) && decide (0 ≤ weightR ((trimB (cutB 59 s)).drop 2)))
  else ((lowF (trimB (cutA 59 s)), 1000), tokF (lowF (trimB (cutA 59 s))))
theorem all8 {p : UInt8 → Prop} (h : ∀ n : Fin 256, p ⟨⟨n⟩⟩) (c : UInt8) : p c := h c.toBitVec.toFin
theorem low_q (c : UInt8) : lowB c = 113 ↔ (c = 113 ∨ c = 81) := by
  refine all8 (p := fun c => lowB c = 113 ↔ (c = 113 ∨ c = 81)) ?_ c
  decide +kernel
theorem low_e (c : UInt8) : lowB c = 61 ↔ c = 61 := by
  refine all8 (p := fun c => lowB c = 61 ↔ c = 61) ?_ c
  decide +kernel
theorem choice_eq (s : List UInt8) : (choiceF s).2 = (choiceR s).2 ∧ ((choiceF s).2 = true → (choiceF s).1 = (choiceR s).1) := by
  unfold choiceF choiceR
  by_cases h : cutS 59 s = true
  · rw [if_pos h, if_pos h]
    have hw := weight_eq ((trimB (cutB 59 s)).drop 2)
    have hc : ((trimB (cutB 59 s)).length < 2 ∨ lowF ((trimB (cutB 59 s)).take 2) ≠ [113, 61]) ↔ ((trimB (cutB 59 s)).length < 2 ∨ ((trimB (cutB 59 s))[0]? ≠ some 113 ∧ (trimB (cutB 59 s))[0]? ≠ some 81) ∨ (trimB (cutB 59 s))[1]? ≠ some 61) := by
      match trimB (cutB 59 s) with
      | [] => simp
      | [x] => simp
      | x :: y :: r =>
        have e1 := low_q x
        have e2 := low_e y
        simp only [lowF, List.take_succ_cons, List.take_zero, List.map_cons, List.map_nil, List.length_cons, ne_eq, List.cons.injEq, and_true, List.getElem?_cons_zero, List.getElem?_cons_succ, Option.some.injEq, e1, e2]
        constructor
        · rintro (h | h)
          · omega
          · right
            by_cases c1 : x = 113
            · right; exact fun c2 => h ⟨.inl c1, c2⟩
            · by_cases c2 : x = 81
              · right; exact fun c3 => h ⟨.inr c2, c3⟩
              · left; exact ⟨c1, c2⟩
        · rintro (h | h | h)
          · omega
          · right; rintro ⟨c1 | c1, _⟩
            · exact h.1 c1
            · exact h.2 c1
          · right; rintro ⟨_, c2⟩; exact h c2
    by_cases h2 : (trimB (cutB 59 s)).length < 2 ∨ lowF ((trimB (cutB 59 s)).take 2) ≠ [113, 61]
    · rw [if_pos h2, if_pos (hc.1 h2)]; simp
    · rw [if_neg h2, if_neg (fun c => h2 (hc.2 c))]
      simp only
      refine ⟨by rw [hw.1], fun hh => ?_⟩
      have : (weightF ((trimB (cutB 59 s)).drop 2)).2 = true := by simp at hh; exact hh.2
      rw [hw.2 this]
  · rw [if_neg h, if_neg h]; simp
theorem choices_eq (s : List UInt8) : choicesF s = listF choiceR (elemsF false false s) := listF_eq (fun w => (choice_eq w).1) (fun w => (choice_eq w).2) _
theorem tok_low1 (c : UInt8) : tokB (lowB c) = tokB c := by
  refine all8 (p := fun c => tokB (lowB c) = tokB c) ?_ c
  decide +kernel
theorem tok_low (s : List UInt8) : tokF (lowF s) = tokF s := by
  unfold tokF lowF
  rw [List.all_map]
  have : (tokB ∘ lowB) = tokB := funext tok_low1
  rw [this]
  cases s <;> rfl
def dirR (s : List UInt8) : Dir × Bool :=
  if tokF (lowF (cutA 61 s)) = false then (⟨lowF (cutA 61 s), [], false⟩, false)
  else if cutS 61 s = false then (⟨lowF (cutA 61 s), [], false⟩, true)
  else if tokF (cutB 61 s) then (⟨lowF (cutA 61 s), cutB 61 s, true⟩, true)
  else (⟨lowF (cutA 61 s), (unqF (cutB 61 s)).1, true⟩, (unqF (cutB 61 s)).2)
theorem cutB_none {c : UInt8} : ∀ {s : List UInt8}, cutS c s = false → cutB c s = []
  | [], _ => rfl
  | x :: r, h => by
    unfold cutS at h
    unfold cutB
    split at h
    · cases h
    · rename_i hx
      rw [if_neg hx]; exact cutB_none h
theorem dir_eq (s : List UInt8) : (dirF s).2 = (dirR s).2 ∧ ((dirF s).2 = true → (dirF s).1 = (dirR s).1) := by
  unfold dirF dirR
  rw [tok_low]
  by_cases ht : tokF (cutA 61 s) = true <;> by_cases hs : cutS 61 s = true <;> by_cases hb : tokF (cutB 61 s) = true <;> simp [ht, hs, hb]
  all_goals (try (have := cutB_none (by simpa using hs); simp [this]))
theorem dirs_eq (s : List UInt8) : dirsF s = listF dirR (elemsF true true s) := listF_eq (fun w => (dir_eq w).1) (fun w => (dir_eq w).2) _
theorem dir_has {s : List UInt8} (h : (dirF s).1.has = false) : (dirF s).1.value = [] := by
  unfold dirF at h ⊢
  split at h
  · cases h
  · rename_i hn
    rw [if_neg hn]
    exact cutB_none h
def spanR (s : List UInt8) : (Int × Int) × Bool :=
  if cutS 45 s = false ∨ s.length = 1 then ((0, 0), false)
  else if endOk (cutA 45 s) = false then ((-1, -1), false)
  else if endOk (cutB 45 s) = false then ((endF (cutA 45 s), -1), false)
  else ((endF (cutA 45 s), endF (cutB 45 s)), decide (endF (cutA 45 s) < 0 ∨ endF (cutB 45 s) < 0 ∨ endF (cutA 45 s) ≤ endF (cutB 45 s)))
theorem dec_nn (s : List UInt8) : 0 ≤ (decF s).1 := by
  unfold decF
  split
  · split
    · exact Int.natCast_nonneg _
    · exact Int.le_refl _
  · exact Int.le_refl _
theorem end_m (s : List UInt8) : endF s = -1 ↔ s = [] := by
  unfold endF
  have := dec_nn s
  constructor
  · intro h
    split at h
    · assumption
    · omega
  · intro h; rw [if_pos h]
theorem cut_one {c : UInt8} : ∀ {s : List UInt8}, cutS c s = true → s.length = (cutA c s).length + (cutB c s).length + 1
  | [], h => by cases h
  | x :: r, h => by
    unfold cutS at h
    unfold cutA cutB
    split at h
    · rename_i hx
      rw [if_pos hx, if_pos hx]; simp
    · rename_i hx
      rw [if_neg hx, if_neg hx]
      have := cut_one h
      simp only [List.length_cons]; omega
theorem span_eq (s : List UInt8) : (spanF s).2 = (spanR s).2 ∧ ((spanF s).2 = true → (spanF s).1 = (spanR s).1) := by
  unfold spanF spanR
  by_cases hs : cutS 45 s = true
  · have hl := cut_one hs
    by_cases h1 : s.length = 1
    · have ea : cutA 45 s = [] := List.eq_nil_of_length_eq_zero (by omega)
      have eb : cutB 45 s = [] := List.eq_nil_of_length_eq_zero (by omega)
      rw [if_pos (.inr h1), ea, eb]
      simp [endF]
    · rw [if_neg (fun h => h.elim (fun h => by rw [hs] at h; cases h) h1)]
      have hn : ¬ (endF (cutA 45 s) = -1 ∧ endF (cutB 45 s) = -1) := by
        rw [end_m, end_m]
        rintro ⟨ha, hb⟩
        rw [ha, hb] at hl
        exact h1 (by simpa using hl)
      by_cases ha : endOk (cutA 45 s) = true <;> by_cases hb : endOk (cutB 45 s) = true <;> simp [hs, ha, hb]
      all_goals (first | (intro x y; exact absurd ⟨x, y⟩ hn) | (intro x; exact Classical.not_and_iff_not_or_not.1 hn))
  · rw [if_pos (.inl (by simpa using hs))]
    simp [hs]
end Go.Proofs.YtcigoifhcfbcdaaGreatDoor.FD
namespace Go.Proofs.YtcigoifhcfbcdaaGreatDoor.FD
theorem els_plain : ∀ (s cur t : List UInt8), els false false false cur (s ++ 44 :: t) = els false false false cur s ++ els false false false [] t
  | [], cur, t => by
    rw [List.nil_append, els_cons, els]
    simp
  | c :: r, cur, t => by
    rw [List.cons_append, els_cons, els_cons]
    by_cases h : c = 44
    · simp [h, els_plain r [] t]
    · simp [h, els_plain r (cur ++ [c]) t]
theorem tidy_app (a b : List (List UInt8)) : tidy (a ++ b) = tidy a ++ tidy b := by simp [tidy]
theorem sub0 {q e inn : Bool} (s : List UInt8) : stE s q e inn 0 0 = els q e inn [] s := by
  unfold stE
  rw [sub_self, List.drop_zero]
theorem elems_plain (s t : List UInt8) : elemsF false false (s ++ 44 :: t) = elemsF false false s ++ elemsF false false t := by
  unfold elemsF
  rw [sub0, sub0, sub0, els_plain, tidy_app]
theorem choices_join {s t : List UInt8} {x y : List (List UInt8 × Int)} (h1 : choicesF s = some x) (h2 : choicesF t = some y) : choicesF (s ++ 44 :: t) = some (x ++ y) := by
  unfold choicesF at *
  rw [elems_plain]
  exact listF_app h1 h2
/-- quoted, escaped: byte by byte -/
def stp (st : Nat) (c : UInt8) : Nat := if st = 0 then (if c = 34 then 1 else 0) else if st = 1 then (if c = 92 then 2 else if c = 34 then 0 else 1) else 1
def el3 (st : Nat) : List UInt8 → List UInt8 → List (List UInt8)
  | cur, [] => [cur]
  | cur, c :: r => if c = 44 ∧ st = 0 then cur :: el3 0 [] r else el3 (stp st c) (cur ++ [c]) r
theorem els_el3 : ∀ (n : Nat) (l : List UInt8), l.length ≤ n → ∀ (inn : Bool) (cur : List UInt8), els true true inn cur l = el3 (if inn then 1 else 0) cur l
  | _, [], _, inn, cur => by rw [els, el3]
  | n + 1, c :: r, hn, inn, cur => by
    have hr : r.length ≤ n := by simpa using hn
    rw [els_cons, el3]
    cases inn with
    | true =>
      by_cases h1 : c = 92
      · subst h1
        cases r with
        | nil => simp [stp, el3]
        | cons d r' =>
          have h2 : r'.length ≤ n := by simp at hr; omega
          have := els_el3 n r' h2 true (cur ++ [92, d])
          simp [stp, el3, this]
      · by_cases h2 : c = 34
        · subst h2
          have := els_el3 n r hr false (cur ++ [34])
          simp [stp, this]
        · have := els_el3 n r hr true (cur ++ [c])
          simp [stp, h1, h2, this]
    | false =>
      by_cases h2 : c = 34
      · subst h2
        have := els_el3 n r hr true (cur ++ [34])
        simp [stp, this]
      · by_cases h3 : c = 44
        · subst h3
          have := els_el3 n r hr false []
          simp [this]
        · have := els_el3 n r hr false (cur ++ [c])
          simp [stp, h2, h3, this]
theorem stp44 : stp 0 44 = 0 := rfl
theorem el3_app : ∀ (s : List UInt8) (st : Nat) (cur t : List UInt8), s.foldl stp st = 0 → el3 st cur (s ++ 44 :: t) = el3 st cur s ++ el3 0 [] t
  | [], st, cur, t, h => by
    have h : st = 0 := h
    subst h
    rw [List.nil_append, el3, el3]
    simp
  | c :: r, st, cur, t, h => by
    rw [List.cons_append, el3, el3]
    by_cases h1 : c = 44 ∧ st = 0
    · obtain ⟨rfl, rfl⟩ := h1
      simp only [and_self, if_true]
      rw [el3_app r 0 [] t h]; rfl
    · rw [if_neg h1, if_neg h1]
      exact el3_app r _ _ t h
theorem el3_last : ∀ (s : List UInt8) (st : Nat) (cur : List UInt8), cur.foldl stp 0 = st → ∃ w, w ∈ el3 st cur s ∧ w.foldl stp 0 = s.foldl stp st
  | [], st, cur, h => ⟨cur, by simp [el3], h⟩
  | c :: r, st, cur, h => by
    rw [el3]
    by_cases h1 : c = 44 ∧ st = 0
    · obtain ⟨rfl, rfl⟩ := h1
      obtain ⟨w, hw, he⟩ := el3_last r 0 [] rfl
      exact ⟨w, by simp [hw], he⟩
    · rw [if_neg h1]
      exact el3_last r _ _ (by rw [List.foldl_append, h]; rfl)
theorem tok_ne {l : List UInt8} {c : UInt8} (h : tokF l = true) (hc : c ∈ l) : c ≠ 34 ∧ c ≠ 44 ∧ c ≠ 61 ∧ isBl c = false := by
  have h1 : tokB c = true := by
    unfold tokF at h
    simp only [Bool.and_eq_true, List.all_eq_true] at h
    exact h.2 c hc
  refine ⟨?_, ?_, ?_, ?_⟩
  · rintro rfl; exact absurd h1 (by decide)
  · rintro rfl; exact absurd h1 (by decide)
  · rintro rfl; exact absurd h1 (by decide)
  · cases hb : isBl c with
    | false => rfl
    | true =>
      unfold isBl at hb
      simp only [Bool.or_eq_true, beq_iff_eq] at hb
      rcases hb with rfl | rfl <;> exact absurd h1 (by decide)
theorem fold_out : ∀ {l : List UInt8}, (∀ c ∈ l, c ≠ 34) → l.foldl stp 0 = 0
  | [], _ => rfl
  | c :: r, h => by
    rw [List.foldl_cons, show stp 0 c = 0 by simp [stp, h c (by simp)]]
    exact fold_out fun x hx => h x (by simp [hx])
theorem cut_eq {c : UInt8} : ∀ {s : List UInt8}, s = if cutS c s then cutA c s ++ c :: cutB c s else cutA c s
  | [] => rfl
  | x :: r => by
    unfold cutS cutA cutB
    by_cases h : x = c
    · simp [h]
    · simp only [h, if_false]
      have := cut_eq (c := c) (s := r)
      by_cases hs : cutS c r = true
      · rw [if_pos hs] at this ⊢
        rw [List.cons_append, ← this]
      · rw [if_neg hs] at this ⊢
        rw [← this]
theorem unq_fold : ∀ (n : Nat) (r : List UInt8), r.length ≤ n → ∀ acc, (unqL acc r).2 = true → r.foldl stp 1 = 0
  | _, [], _, acc, h => by simp [unqL] at h
  | n + 1, c :: r, hn, acc, h => by
    have hr : r.length ≤ n := by simpa using hn
    rw [unqL_cons] at h
    by_cases h1 : c = 34
    · subst h1
      simp only [if_true] at h
      cases r with
      | nil => rfl
      | cons x y => cases h
    · rw [if_neg h1] at h
      by_cases h2 : c = 92
      · subst h2
        simp only [if_true] at h
        cases r with
        | nil => cases h
        | cons d r' =>
          simp only at h
          by_cases hb : badQ d = true
          · rw [if_pos hb] at h; cases h
          · rw [if_neg hb] at h
            have := unq_fold n r' (by simp at hr; omega) _ h
            simpa [stp] using this
      · rw [if_neg h2] at h
        by_cases hb : badQ c = true
        · rw [if_pos hb] at h; cases h
        · rw [if_neg hb] at h
          have := unq_fold n r hr _ h
          simpa [stp, h1, h2] using this
theorem dir_fold {w : List UInt8} (h : (dirF w).2 = true) : w.foldl stp 0 = 0 := by
  have ht : tokF (cutA 61 w) = true := by
    unfold dirF at h
    split at h
    · simp at h; exact h.1
    · exact h
  have ha : (cutA 61 w).foldl stp 0 = 0 := fold_out fun c hc => (tok_ne ht hc).1
  have he := cut_eq (c := 61) (s := w)
  by_cases hs : cutS 61 w = true
  · rw [if_pos hs] at he
    rw [he, List.foldl_append, ha, List.foldl_cons, show stp 0 61 = 0 from rfl]
    by_cases hb : tokF (cutB 61 w) = true
    · exact fold_out fun c hc => (tok_ne hb hc).1
    · unfold dirF at h
      rw [if_pos (by simp [hs, hb])] at h
      simp only [Bool.and_eq_true] at h
      have h2 := h.2
      generalize cutB 61 w = b at h2
      cases b with
      | nil => rfl
      | cons c r =>
        rw [unqF] at h2
        by_cases hc : c = 34
        · subst hc
          simp only [if_true] at h2
          exact unq_fold _ r (Nat.le_refl _) _ h2
        · rw [if_neg hc] at h2; cases h2
  · rw [if_neg hs] at he
    rw [he]; exact ha
theorem bl_out {l : List UInt8} (h : ∀ c ∈ l, isBl c = true) : l.foldl stp 0 = 0 := fold_out fun c hc => by
  rintro rfl
  exact absurd (h _ hc) (by decide)
theorem tw_mem {p : UInt8 → Bool} {c : UInt8} : ∀ {l : List UInt8}, c ∈ l.takeWhile p → p c = true
  | [], h => by cases h
  | x :: r, h => by
    rw [List.takeWhile_cons] at h
    split at h
    · rename_i hx
      rcases List.mem_cons.1 h with rfl | h
      · exact hx
      · exact tw_mem h
    · cases h
theorem trim_parts (l : List UInt8) : ∃ a b, l = a ++ trimB l ++ b ∧ (∀ c ∈ a, isBl c = true) ∧ ∀ c ∈ b, isBl c = true := by
  refine ⟨(trimR l).takeWhile isBl, (l.reverse.takeWhile isBl).reverse, ?_, fun c hc => ?_, fun c hc => ?_⟩
  · have h1 : (trimR l).takeWhile isBl ++ trimB l = trimR l := List.takeWhile_append_dropWhile
    rw [h1]
    unfold trimR
    rw [← List.reverse_append, List.takeWhile_append_dropWhile, List.reverse_reverse]
  · exact tw_mem hc
  · exact tw_mem (List.mem_reverse.1 hc)
theorem fold_trim {l : List UInt8} (h : (trimB l).foldl stp 0 = 0) : l.foldl stp 0 = 0 := by
  obtain ⟨a, b, e, ha, hb⟩ := trim_parts l
  rw [e, List.foldl_append, List.foldl_append, bl_out ha, h, bl_out hb]
theorem dirs_fold {s : List UInt8} {x : List Dir} (h : dirsF s = some x) : s.foldl stp 0 = 0 := by
  have hall := listF_all h
  obtain ⟨w, hw, he⟩ := el3_last s 0 [] rfl
  rw [← he]
  refine fold_trim ?_
  by_cases hn : trimB w = []
  · rw [hn]; rfl
  · refine dir_fold (hall _ ?_)
    unfold elemsF
    rw [sub0, els_el3 _ s (Nat.le_refl _)]
    unfold tidy
    rw [List.mem_filter]
    refine ⟨List.mem_map.2 ⟨w, hw, rfl⟩, ?_⟩
    cases hx : trimB w with
    | nil => exact absurd hx hn
    | cons _ _ => rfl
theorem dirs_join {s t : List UInt8} {x y : List Dir} (h1 : dirsF s = some x) (h2 : dirsF t = some y) : dirsF (s ++ 44 :: t) = some (x ++ y) := by
  have e : elemsF true true (s ++ 44 :: t) = elemsF true true s ++ elemsF true true t := by
    unfold elemsF
    rw [sub0, sub0, sub0, els_el3 _ _ (Nat.le_refl _), els_el3 _ _ (Nat.le_refl _), els_el3 _ _ (Nat.le_refl _)]
    simp only [Bool.false_eq_true, if_false]
    rw [el3_app s 0 [] t (dirs_fold h1), tidy_app]
  unfold dirsF at *
  rw [e]
  exact listF_app h1 h2
/-- a tag that is written is read as it was -/
theorem mid_q (s : List UInt8) : mid (34 :: s ++ [34]) = s := by
  unfold mid sub
  simp
theorem tag_back (weak : Bool) (s : List UInt8) : tagF (tagT (weak, s)) = if s.any badT then ((false, []), false) else ((weak, s), true) := by
  have hv : tagV (tagT (weak, s)) = 34 :: s ++ [34] := by cases weak <;> simp [tagV, tagT, weakF]
  have hw : weakF (tagT (weak, s)) = weak := by
    cases weak
    · cases s <;> simp [tagT, weakF]
    · rfl
  unfold tagF
  rw [hv, hw, mid_q]
  have ho : tagOk (34 :: s ++ [34]) = !s.any badT := by
    unfold tagOk
    rw [mid_q]
    have : (2 ≤ (34 :: s ++ [34]).length ∧ (34 :: s ++ [34])[0]? = some (34 : UInt8) ∧ (34 :: s ++ [34])[(34 :: s ++ [34]).length - 1]? = some (34 : UInt8)) := by
      refine ⟨by simp, by simp, ?_⟩
      simp [List.getElem?_append]
    simp [this]
  rw [ho]
  cases s.any badT <;> simp
/-- a value that is quoted means what it was -/
theorem unq_quo : ∀ (s acc : List UInt8), s.any badQ = false → unqL acc (s.flatMap (fun c => if c = 34 ∨ c = 92 then [92, c] else [c]) ++ [34]) = (acc ++ s, true)
  | [], acc, _ => by simp [unqL]
  | c :: r, acc, h => by
    simp only [List.any_cons, Bool.or_eq_false_iff] at h
    have ih := unq_quo r (acc ++ [c]) h.2
    rw [List.flatMap_cons]
    by_cases hc : c = 34 ∨ c = 92
    · rw [if_pos hc]
      simp only [List.cons_append, List.nil_append]
      rw [unqL_cons]
      simp only [show ¬ ((92 : UInt8) = 34) by decide, if_false, if_true, h.1, Bool.false_eq_true, ih, List.append_assoc, List.singleton_append]
    · rw [if_neg hc]
      simp only [List.cons_append, List.nil_append]
      rw [unqL_cons, if_neg (fun h => hc (.inl h)), if_neg (fun h => hc (.inr h)), if_neg (by rw [h.1]; simp), ih]
      simp
theorem quo_fold : ∀ (s : List UInt8) (cur t : List UInt8), el3 1 cur (s.flatMap (fun c => if c = 34 ∨ c = 92 then [92, c] else [c]) ++ 34 :: t) = el3 0 (cur ++ s.flatMap (fun c => if c = 34 ∨ c = 92 then [92, c] else [c]) ++ [34]) t
  | [], cur, t => by simp [el3, stp]
  | c :: r, cur, t => by
    rw [List.flatMap_cons]
    by_cases hc : c = 34 ∨ c = 92
    · rw [if_pos hc]
      simp only [List.cons_append, List.nil_append]
      have e1 : ∀ z : List UInt8, el3 1 cur (92 :: c :: z) = el3 1 (cur ++ [92] ++ [c]) z := fun z => by
        rw [el3, if_neg (by simp), show stp 1 92 = 2 from rfl, el3, if_neg (by simp)]
        rfl
      rw [e1, quo_fold r]
      simp
    · rw [if_neg hc]
      simp only [List.cons_append, List.nil_append]
      rw [el3]
      have e : stp 1 c = 1 := by
        unfold stp
        rw [if_neg (by decide), if_pos rfl, if_neg (fun h => hc (.inr h)), if_neg (fun h => hc (.inl h))]
      rw [if_neg (by simp), e, quo_fold r]
      simp
theorem out_fold : ∀ (s : List UInt8) (cur t : List UInt8), (∀ c ∈ s, c ≠ 34 ∧ c ≠ 44) → el3 0 cur (s ++ t) = el3 0 (cur ++ s) t
  | [], cur, t, _ => by simp
  | c :: r, cur, t, h => by
    have hc := h c (by simp)
    rw [List.cons_append, el3, if_neg (fun x => hc.2 x.1), show stp 0 c = 0 by simp [stp, hc.1], out_fold r _ t fun x hx => h x (by simp [hx])]
    simp
theorem cutA_at {c : UInt8} : ∀ {a b : List UInt8}, (∀ x ∈ a, x ≠ c) → cutA c (a ++ c :: b) = a ∧ cutB c (a ++ c :: b) = b ∧ cutS c (a ++ c :: b) = true
  | [], b, _ => by simp [cutA, cutB, cutS]
  | x :: r, b, h => by
    have hx := h x (by simp)
    have ih := cutA_at (a := r) (b := b) fun y hy => h y (by simp [hy])
    simp [cutA, cutB, cutS, hx, ih]
theorem dirs_back {name s : List UInt8} (hn : tokF name = true) (hs : s.any badQ = false) : dirsF (name ++ [61] ++ quoF s) = some [⟨lowF name, s, true⟩] := by
  have hne : name ≠ [] := by rintro rfl; cases hn
  obtain ⟨w, hw⟩ : ∃ w, w = name ++ [61] ++ quoF s := ⟨_, rfl⟩
  have he : els true true false [] w = [w] := by
    rw [els_el3 _ _ (Nat.le_refl _)]
    simp only [Bool.false_eq_true, if_false]
    rw [hw]
    have e1 : name ++ [61] ++ quoF s = (name ++ [61]) ++ (quoF s) := rfl
    rw [e1, out_fold (name ++ [61]) [] _ (by
      intro c hc
      rcases List.mem_append.1 hc with h | h
      · exact ⟨(tok_ne hn h).1, (tok_ne hn h).2.1⟩
      · have : c = 61 := by simpa using h
        subst this; decide)]
    unfold quoF
    rw [List.cons_append, el3]
    simp only [show ¬ ((34 : UInt8) = 44) by decide, false_and, if_false, show stp 0 34 = 1 from rfl]
    rw [quo_fold s _ [], el3]
    simp
  have ht : trimB w = w := by
    have hl : trimR w = w := by
      rw [hw]
      unfold quoF
      rw [show name ++ [61] ++ (34 :: s.flatMap (fun c => if c = 34 ∨ c = 92 then [92, c] else [c]) ++ [34]) = (name ++ [61] ++ (34 :: s.flatMap (fun c => if c = 34 ∨ c = 92 then [92, c] else [c]))) ++ [34] by simp, trimR_snoc]
      rfl
    unfold trimB
    rw [hl, hw]
    cases name with
    | nil => exact absurd rfl hne
    | cons c r =>
      have := (tok_ne hn (c := c) (by simp)).2.2.2
      simp [trimL, List.dropWhile_cons, this]
  have hd : dirF w = (⟨lowF name, s, true⟩, true) := by
    have hc := cutA_at (c := 61) (a := name) (b := quoF s) fun x hx => (tok_ne hn hx).2.2.1
    have e1 : w = name ++ 61 :: quoF s := by rw [hw]; simp
    have hq : tokF (quoF s) = false := by
      unfold tokF quoF
      simp only [List.cons_append, List.all_cons]
      rw [show tokB 34 = false by decide]
      simp
    have hu : unqF (quoF s) = (s, true) := by
      unfold quoF
      rw [List.cons_append, unqF]
      simp only [if_true]
      have := unq_quo s [] hs
      simpa using this
    unfold dirF
    rw [e1, hc.1, hc.2.1, hc.2.2, hq, hn, hu]
    rfl
  unfold dirsF elemsF
  rw [← hw, sub0, he]
  have : tidy [w] = [w] := by
    unfold tidy
    simp only [List.map_cons, List.map_nil, ht, List.filter_cons, List.filter_nil]
    have : nb w = true := by
      rw [hw]
      cases name <;> rfl
    rw [this]; rfl
  rw [this]
  unfold listF
  simp [hd]
end Go.Proofs.YtcigoifhcfbcdaaGreatDoor.FD
