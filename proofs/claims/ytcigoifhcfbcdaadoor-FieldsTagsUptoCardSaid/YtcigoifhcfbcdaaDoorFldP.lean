/- Values of fields: what the document says of them, as plain functions over bytes. No conditions but those that each names. -/
import Derived.Test.YtcigoifhcfbcdaaDoorStr
set_option linter.unusedVariables false
set_option linter.unusedSimpArgs false
namespace Go.Proofs.YtcigoifhcfbcdaaDoor.FD
def isBl (c : UInt8) : Bool := c == 32 || c == 9
def trimL (l : List UInt8) : List UInt8 := l.dropWhile isBl
def trimR (l : List UInt8) : List UInt8 := (l.reverse.dropWhile isBl).reverse
def trimB (l : List UInt8) : List UInt8 := trimL (trimR l)
theorem trimR_t {l : List UInt8} {n : Nat} (h : l.length = n + 1) (hb : isBl (l[n]'(by omega)) = true) : trimR l = trimR (l.take n) := by
  have e : l = l.take n ++ [l[n]'(by omega)] := by
    rw [List.take_append_getElem (by omega : n < l.length)]
    exact (List.take_of_length_le (by omega)).symm
  unfold trimR
  conv => lhs; rw [e]
  rw [List.reverse_append]
  simp [List.dropWhile_cons, hb]
theorem trimR_f {l : List UInt8} {n : Nat} (h : l.length = n + 1) (hb : isBl (l[n]'(by omega)) = false) : trimR l = l := by
  have e : l = l.take n ++ [l[n]'(by omega)] := by
    rw [List.take_append_getElem (by omega : n < l.length)]
    exact (List.take_of_length_le (by omega)).symm
  unfold trimR
  conv => lhs; rw [e]
  rw [List.reverse_append]
  simp [List.dropWhile_cons, hb]
  exact List.take_of_length_le (by omega)
theorem trimL_t {l : List UInt8} (h : 0 < l.length) (hb : isBl l[0] = true) : trimL l = trimL (l.drop 1) := by
  cases l with
  | nil => simp at h
  | cons c r => simp [trimL, List.dropWhile_cons, show isBl c = true from hb]
theorem trimL_f {l : List UInt8} (h : 0 < l.length) (hb : isBl l[0] = false) : trimL l = l := by
  cases l with
  | nil => simp at h
  | cons c r => simp [trimL, List.dropWhile_cons, show isBl c = false from hb]
theorem trim_nil : trimB [] = [] := rfl
theorem trimR_snoc {l : List UInt8} {c : UInt8} : trimR (l ++ [c]) = if isBl c then trimR l else l ++ [c] := by
  unfold trimR
  rw [List.reverse_append]
  by_cases h : isBl c <;> simp [List.dropWhile_cons, h]
theorem trimLR (l : List UInt8) : trimL (trimR l) = trimR (trimL l) := by
  induction l with
  | nil => rfl
  | cons c r ih =>
    by_cases hr : trimR r = []
    · -- all blanks behind c
      have hc : trimR (c :: r) = if isBl c then [] else [c] := by
        unfold trimR at hr ⊢
        rw [List.reverse_cons, List.dropWhile_append]
        have : List.dropWhile isBl r.reverse = [] := by simpa using hr
        rw [this]
        by_cases h : isBl c <;> simp [List.dropWhile_cons, h]
      by_cases h : isBl c
      · rw [hc]
        simp only [h, if_true]
        have : trimL (c :: r) = trimL r := by simp [trimL, List.dropWhile_cons, h]
        rw [this, ← ih, hr]
      · rw [hc]
        simp only [h]
        have : trimL (c :: r) = c :: r := by simp [trimL, List.dropWhile_cons, h]
        rw [this, hc]
        simp [trimL, List.dropWhile_cons, h]
    · have hc : trimR (c :: r) = c :: trimR r := by
        unfold trimR at hr ⊢
        rw [List.reverse_cons, List.dropWhile_append]
        have : ¬ List.dropWhile isBl r.reverse = [] := by simpa using hr
        have h2 : (List.dropWhile isBl r.reverse).isEmpty = false := by
          cases hx : List.dropWhile isBl r.reverse with
          | nil => exact absurd hx this
          | cons _ _ => rfl
        rw [h2]; simp
      by_cases h : isBl c
      · have h1 : trimL (c :: r) = trimL r := by simp [trimL, List.dropWhile_cons, h]
        have h2 : trimL (c :: trimR r) = trimL (trimR r) := by simp [trimL, List.dropWhile_cons, h]
        rw [hc, h1, h2, ih]
      · have h1 : trimL (c :: r) = c :: r := by simp [trimL, List.dropWhile_cons, h]
        rw [hc, h1, hc]
        simp [trimL, List.dropWhile_cons, h]
/-- a part of a text -/
def sub (l : List UInt8) (a b : Nat) : List UInt8 := (l.drop a).take (b - a)
theorem sub_snoc {l : List UInt8} {a b : Nat} (h1 : a ≤ b) (h2 : b < l.length) : sub l a b ++ [l[b]] = sub l a (b + 1) := by
  unfold sub
  have h3 : b - a < (l.drop a).length := by rw [List.length_drop]; omega
  have := List.take_append_getElem h3
  rw [List.getElem_drop] at this
  have e : a + (b - a) = b := by omega
  simp only [e] at this
  rw [show b + 1 - a = b - a + 1 by omega, this]
theorem sub_self {l : List UInt8} {a : Nat} : sub l a a = [] := by simp [sub]
theorem sub_end {l : List UInt8} {a b : Nat} (h : l.length ≤ b) : sub l a b = l.drop a := by
  unfold sub
  exact List.take_of_length_le (by rw [List.length_drop]; omega)
/-- the pieces of a list -/
def els (q e : Bool) : Bool → List UInt8 → List UInt8 → List (List UInt8)
  | _, cur, [] => [cur]
  | inn, cur, c :: r =>
    if c = 92 ∧ inn = true ∧ e = true then match r with
      | [] => [cur ++ [c]]
      | d :: r' => els q e inn (cur ++ [c, d]) r'
    else if c = 34 ∧ q = true then els q e (!inn) (cur ++ [c]) r
    else if c = 44 ∧ inn = false then cur :: els q e false [] r
    else els q e inn (cur ++ [c]) r
theorem els_cons {q e inn : Bool} {cur : List UInt8} {c : UInt8} {r : List UInt8} : els q e inn cur (c :: r) = if c = 92 ∧ inn = true ∧ e = true then (match r with
      | [] => [cur ++ [c]]
      | d :: r' => els q e inn (cur ++ [c, d]) r')
    else if c = 34 ∧ q = true then els q e (!inn) (cur ++ [c]) r
    else if c = 44 ∧ inn = false then cur :: els q e false [] r
    else els q e inn (cur ++ [c]) r := by
  cases r <;> rfl
def stE (l : List UInt8) (q e inn : Bool) (a i : Nat) : List (List UInt8) := els q e inn (sub l a i) (l.drop i)
variable {l : List UInt8} {q e inn : Bool} {a i : Nat}
theorem stE_end (h : l.length ≤ i) : stE l q e inn a i = [l.drop a] := by
  unfold stE
  rw [List.drop_of_length_le h, sub_end h, els]
theorem dr (h : i < l.length) : l.drop i = l[i] :: l.drop (i + 1) := List.drop_eq_getElem_cons h
theorem stE_esc (h : i < l.length) (ha : a ≤ i) (hc : l[i] = 92) (h1 : inn = true) (h2 : e = true) : stE l q e inn a i = stE l q e inn a (i + 2) := by
  unfold stE
  rw [dr h, els_cons, if_pos ⟨hc, h1, h2⟩]
  by_cases h3 : i + 1 < l.length
  · rw [dr h3]
    simp only
    have e1 : sub l a i ++ [l[i], l[i + 1]] = sub l a (i + 2) := by
      rw [← sub_snoc (by omega) h3, ← sub_snoc ha h]; simp
    rw [e1]
  · rw [List.drop_of_length_le (show l.length ≤ i + 1 by omega), List.drop_of_length_le (show l.length ≤ i + 2 by omega)]
    simp only [els]
    rw [sub_snoc ha h, sub_end (show l.length ≤ i + 1 by omega), sub_end (show l.length ≤ i + 2 by omega)]
theorem stE_q (h : i < l.length) (ha : a ≤ i) (hn : ¬ (l[i] = 92 ∧ inn = true ∧ e = true)) (hc : l[i] = 34) (h1 : q = true) : stE l q e inn a i = stE l q e (!inn) a (i + 1) := by
  unfold stE
  rw [dr h, els_cons, if_neg hn, if_pos ⟨hc, h1⟩, sub_snoc ha h]
theorem stE_c (h : i < l.length) (ha : a ≤ i) (hc : l[i] = 44) (h1 : inn = false) : stE l q e inn a i = sub l a i :: stE l q e false (i + 1) (i + 1) := by
  unfold stE
  rw [dr h, els_cons, if_neg (by rw [h1]; simp), if_neg (by rw [hc]; rintro ⟨hx, _⟩; exact absurd hx (by decide)), if_pos ⟨hc, h1⟩, sub_self]
theorem stE_o (h : i < l.length) (ha : a ≤ i) (hn : ¬ (l[i] = 92 ∧ inn = true ∧ e = true)) (h2 : ¬ (l[i] = 34 ∧ q = true)) (h3 : ¬ (l[i] = 44 ∧ inn = false)) : stE l q e inn a i = stE l q e inn a (i + 1) := by
  unfold stE
  rw [dr h, els_cons, if_neg hn, if_neg h2, if_neg h3, sub_snoc ha h]
def nb (x : List UInt8) : Bool := !x.isEmpty
/-- its elements -/
def tidy (x : List (List UInt8)) : List (List UInt8) := (x.map trimB).filter nb
def elemsF (q e : Bool) (l : List UInt8) : List (List UInt8) := tidy (stE l q e false 0 0)
theorem tidy_cons {x : List UInt8} {r : List (List UInt8)} : tidy (x :: r) = if trimB x = [] then tidy r else trimB x :: tidy r := by
  unfold tidy
  by_cases h : trimB x = []
  · simp [h, nb]
  · have : nb (trimB x) = true := by cases hx : trimB x with
      | nil => exact absurd hx h
      | cons _ _ => rfl
    simp [h, this]
theorem tidy_nil : tidy [] = [] := rfl
theorem trim_len (l : List UInt8) : (trimB l).length ≤ l.length := by
  have h1 := (List.dropWhile_sublist (p := isBl) (l := trimR l)).length_le
  have h2 := (List.dropWhile_sublist (p := isBl) (l := l.reverse)).length_le
  unfold trimB trimL
  have h3 : (trimR l).length = (l.reverse.dropWhile isBl).length := by unfold trimR; simp
  rw [List.length_reverse] at h2
  omega
theorem tidy_len (x : List (List UInt8)) : (tidy x).length ≤ x.length := by
  unfold tidy
  have := (List.filter_sublist (p := nb) (l := x.map trimB)).length_le
  simpa using this
theorem tidy_mem {x : List (List UInt8)} {w : List UInt8} (h : w ∈ tidy x) : w ≠ [] ∧ ∃ v ∈ x, w = trimB v := by
  unfold tidy at h
  rw [List.mem_filter, List.mem_map] at h
  obtain ⟨⟨v, hv, rfl⟩, h2⟩ := h
  exact ⟨fun hx => (by rw [hx] at h2; cases h2), v, hv, rfl⟩
/-- a list, element by element -/
def listF {α : Type} (one : List UInt8 → α × Bool) (ws : List (List UInt8)) : Option (List α) := if ws.all (fun w => (one w).2) then some (ws.map fun w => (one w).1) else none
/-- cut at the first byte of a kind -/
def cutA (c : UInt8) : List UInt8 → List UInt8
  | [] => []
  | x :: r => if x = c then [] else x :: cutA c r
def cutB (c : UInt8) : List UInt8 → List UInt8
  | [] => []
  | x :: r => if x = c then r else cutB c r
def cutS (c : UInt8) : List UInt8 → Bool
  | [] => false
  | x :: r => if x = c then true else cutS c r
def lowB (c : UInt8) : UInt8 := if 65 ≤ c ∧ c ≤ 90 then c + 32 else c
def alnB (c : UInt8) : Bool := decide (97 ≤ c ∧ c ≤ 122 ∨ 65 ≤ c ∧ c ≤ 90 ∨ 48 ≤ c ∧ c ≤ 57)
def tokC : List UInt8 := [33, 35, 36, 37, 38, 39, 42, 43, 45, 46, 94, 95, 96, 124, 126]
def tokB (c : UInt8) : Bool := alnB c || tokC.contains c
def tokF (l : List UInt8) : Bool := nb l && l.all tokB
def lowF (l : List UInt8) : List UInt8 := l.map lowB
def digB (c : UInt8) : Bool := decide (48 ≤ c ∧ c ≤ 57)
def valF (l : List UInt8) : Nat := l.foldl (fun n c => n * 10 + (c.toNat - 48)) 0
def decF (l : List UInt8) : Int × Int := if nb l && l.all digB then (if valF l ≤ 1000000000000000000 then ((valF l : Int), 0) else (0, 11)) else (0, 21)
/-- an entity's tag -/
def badT (c : UInt8) : Bool := decide (c ≤ 32 ∨ c = 34 ∨ c = 127)
def weakF (s : List UInt8) : Bool := s.take 2 == [87, 47]
def mid (v : List UInt8) : List UInt8 := sub v 1 (v.length - 1)
def tagOk (v : List UInt8) : Bool := decide (2 ≤ v.length ∧ v[0]? = some 34 ∧ v[v.length - 1]? = some 34) && !(mid v).any badT
def tagV (s : List UInt8) : List UInt8 := if weakF s then s.drop 2 else s
def tagF (s : List UInt8) : (Bool × List UInt8) × Bool := if tagOk (tagV s) then ((weakF s, mid (tagV s)), true) else ((false, []), false)
def tagT (t : Bool × List UInt8) : List UInt8 := (if t.1 then [87, 47] else []) ++ 34 :: t.2 ++ [34]
/-- a weight, as the code reads it -/
def weightF (s : List UInt8) : Int × Bool :=
  if (cutA 46 s ≠ [48] ∧ cutA 46 s ≠ [49]) ∨ 3 < (cutB 46 s).length then (0, false)
  else ((decF (cutA 46 s ++ (cutB 46 s ++ [48, 48, 48]).take 3)).1, decide ((decF (cutA 46 s ++ (cutB 46 s ++ [48, 48, 48]).take 3)).2 = 0) && decide ((decF (cutA 46 s ++ (cutB 46 s ++ [48, 48, 48]).take 3)).1 ≤ 1000))
def choiceF (s : List UInt8) : (List UInt8 × Int) × Bool :=
  if cutS 59 s then
    if (trimB (cutB 59 s)).length < 2 ∨ lowF ((trimB (cutB 59 s)).take 2) ≠ [113, 61] then (([], 0), false)
    else ((lowF (trimB (cutA 59 s)), (weightF ((trimB (cutB 59 s)).drop 2)).1), tokF (lowF (trimB (cutA 59 s))) && (weightF ((trimB (cutB 59 s)).drop 2)).2)
  else ((lowF (trimB (cutA 59 s)), 1000), tokF (lowF (trimB (cutA 59 s))))
/-- what a quoted text means -/
def badQ (c : UInt8) : Bool := decide (c < 32 ∧ c ≠ 9 ∨ c = 127)
def unqL : List UInt8 → List UInt8 → List UInt8 × Bool
  | _, [] => ([], false)
  | acc, c :: r =>
    if c = 34 then (acc, r.isEmpty)
    else if c = 92 then match r with
      | [] => ([], false)
      | d :: r' => if badQ d then ([], false) else unqL (acc ++ [d]) r'
    else if badQ c then ([], false) else unqL (acc ++ [c]) r
theorem unqL_cons {acc : List UInt8} {c : UInt8} {r : List UInt8} : unqL acc (c :: r) = if c = 34 then (acc, r.isEmpty)
    else if c = 92 then (match r with
      | [] => ([], false)
      | d :: r' => if badQ d then ([], false) else unqL (acc ++ [d]) r')
    else if badQ c then ([], false) else unqL (acc ++ [c]) r := by
  cases r <;> rfl
def unqF : List UInt8 → List UInt8 × Bool
  | [] => ([], false)
  | c :: r => if c = 34 then unqL [] r else ([], false)
structure Dir where
  name : List UInt8
  value : List UInt8
  has : Bool
def dirF (s : List UInt8) : Dir × Bool :=
  if cutS 61 s && !tokF (cutB 61 s) then (⟨lowF (cutA 61 s), (unqF (cutB 61 s)).1, true⟩, tokF (cutA 61 s) && (unqF (cutB 61 s)).2)
  else (⟨lowF (cutA 61 s), cutB 61 s, cutS 61 s⟩, tokF (cutA 61 s))
/-- what a directive says of seconds -/
def secV (d : Dir) : Int := if (decF d.value).2 = 11 then 2147483648 else if (decF d.value).2 ≠ 0 ∨ d.has = false then 0 else min (decF d.value).1 2147483648
def secF (l : List Dir) (name : List UInt8) : Int × Bool := match l.find? (fun d => d.name == name) with
  | some d => (secV d, true)
  | none => (0, false)
def quoF (s : List UInt8) : List UInt8 := 34 :: s.flatMap (fun c => if c = 34 ∨ c = 92 then [92, c] else [c]) ++ [34]
/-- a span -/
def endF (s : List UInt8) : Int := if s = [] then -1 else (decF s).1
def endOk (s : List UInt8) : Bool := decide (s = [] ∨ (decF s).2 = 0)
def spanF (s : List UInt8) : (Int × Int) × Bool :=
  ((endF (cutA 45 s), endF (cutB 45 s)), (cutS 45 s && endOk (cutA 45 s) && endOk (cutB 45 s)) && decide (¬ (endF (cutA 45 s) = -1 ∧ endF (cutB 45 s) = -1)) && decide (endF (cutA 45 s) < 0 ∨ endF (cutB 45 s) < 0 ∨ endF (cutA 45 s) ≤ endF (cutB 45 s)))
def tokenF (s : List UInt8) : List UInt8 × Bool := (lowF s, tokF s)
def tokensF (s : List UInt8) : Option (List (List UInt8)) := listF tokenF (elemsF false false s)
def choicesF (s : List UInt8) : Option (List (List UInt8 × Int)) := listF choiceF (elemsF false false s)
def dirsF (s : List UInt8) : Option (List Dir) := listF dirF (elemsF true true s)
def tagLF (s : List UInt8) : Option (List (Bool × List UInt8)) := listF tagF (elemsF true false s)
def spanLF (s : List UInt8) : Option (List (Int × Int)) := if s.length < 6 ∨ lowF (s.take 6) ≠ [98, 121, 116, 101, 115, 61] then none else listF spanF (elemsF false false (s.drop 6))
/-- spans of bytes, and the answer's number -/
def spansF (s : List UInt8) : List (Int × Int) × Int := match spanLF s with
  | none => ([], 42)
  | some l => if l = [] then ([], 42) else if 16 < l.length then ([], 6) else (l, 0)
def tagsF (s : List UInt8) : List (Bool × List UInt8) × Bool × Int := if trimB s = [42] then ([], true, 0) else match tagLF s with
  | none => ([], false, 42)
  | some l => if l = [] then ([], false, 42) else (l, false, 0)
def lsF {α : Type} (o : Option (List α)) : List α × Int := match o with
  | none => ([], 42)
  | some l => (l, 0)
end Go.Proofs.YtcigoifhcfbcdaaDoor.FD
