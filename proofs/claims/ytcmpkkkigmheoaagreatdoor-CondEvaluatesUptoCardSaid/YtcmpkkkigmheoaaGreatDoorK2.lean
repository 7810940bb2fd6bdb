/- Strings: joined, cut, asked by place; their bytes as a new row; arrays as values. No conditions but those that each names. (11 texts made one; each says below what it is.) -/
import Derived.Test.YtcmpkkkigmheoaaGreatDoorK1
import Derived.Laws.IdiomStrings
import Derived.MapKept
import Derived.Test.YtcmpkkkigmheoaaGreatDoorChecked
import Derived.KernelRfl
import Derived.ChangeArms
import Derived.Test.YtcmpkkkigmheoaaGreatDoorRows
set_option linter.unusedVariables false
set_option linter.unusedSimpArgs false
set_option linter.unusedSectionVars false
/-! Strings: joined, cut, asked by place; their bytes as a new row; arrays as values. No conditions but those that each names. -/
namespace Go.Proofs.YtcmpkkkigmheoaaGreatDoor.Sl
open Go Go.RowKit Go.Proofs.YtcmpkkkigmheoaaGreatDoor.Sh
variable {P : Program} {W : World} {L L' : List HP} {Kp : PK} {k : Value → WP}
theorem v_cat {t : TypeId} {a b : List UInt8} (h : a.length + b.length ≤ 9223372036854775807) : RunV P W [] (sBin .add t (txt a) (txt b)) (txt (a ++ b)) := fun w _ => by
  have hm : ¬ (((a.length + b.length : Nat) : Int) > IntKind.i64.max) := by
    have : IntKind.i64.max = 9223372036854775807 := by decide
    rw [this]; omega
  have e : (⟨a.toArray⟩ : ByteArray) ++ ⟨b.toArray⟩ = ⟨(a ++ b).toArray⟩ := by
    apply ByteArray.ext
    simp
  simp [sBin, sv, eqGuard, txt, binOp_string_add, Op.stringOp, e, ByteArray.size]
  omega
theorem run_sb {q : IntKind} {w : World} {i : Int} {y : Nat} {c : BoundsCode} (h : Nat) (hi : i = (h : Int)) (hy : h ≤ y) : (Instr.sliceBound (.int q i) y c).run P w = .ok h w := by
  subst hi
  simp [Instr.sliceBound, asIntOf, hy]
theorem ext_take {l : List UInt8} {h : Nat} (hh : h ≤ l.length) : (⟨l.toArray⟩ : ByteArray).extract 0 h = ⟨(l.take h).toArray⟩ := by
  apply ByteArray.ext
  rw [ByteArray.data_extract]
  simp
theorem ext_drop {l : List UInt8} {h : Nat} : (⟨l.toArray⟩ : ByteArray).extract h l.length = ⟨(l.drop h).toArray⟩ := by
  apply ByteArray.ext
  rw [ByteArray.data_extract]
  simp
  exact List.take_of_length_le (by rw [List.length_drop]; omega)
theorem v_ssh {t : TypeId} {l : List UInt8} {q : IntKind} {i : Int} (h : Nat) [ht : StrT P t] (hi : i = (h : Int)) (hh : h ≤ l.length) : RunV P W [] (sSl t (txt l) none (some (.int q i)) none) (txt (l.take h)) := fun w _ => by
  have e : (⟨l.toArray⟩ : ByteArray).size = l.length := rfl
  simp [sSl, Instr.sliceAt, Instr.slice, Instr.sliceBounds, run_underlying ht.ut, txt, e, run_sb h hi hh, ext_take hh]
theorem v_ssl {t : TypeId} {l : List UInt8} {q : IntKind} {i : Int} (h : Nat) [ht : StrT P t] (hi : i = (h : Int)) (hh : h ≤ l.length) : RunV P W [] (sSl t (txt l) (some (.int q i)) none none) (txt (l.drop h)) := fun w _ => by
  have e : (⟨l.toArray⟩ : ByteArray).size = l.length := rfl
  simp [sSl, Instr.sliceAt, Instr.slice, Instr.sliceBounds, run_underlying ht.ut, txt, e, run_sb h hi hh, ext_drop]
theorem v_ixS {t : TypeId} {l : List UInt8} {q : IntKind} {i : Int} (j : Nat) [ht : StrT P t] (hi : i = (j : Int)) (hh : j < l.length) : RunV P W [] (sIx t (txt l) (.int q i)) (B l[j]) := fun w _ => by
  subst hi
  have h2 : j < (⟨l.toArray⟩ : ByteArray).size := hh
  have e : (⟨l.toArray⟩ : ByteArray)[j] = l[j] := by simp [ByteArray.getElem_eq_getElem_data]
  have := run_index_string (P := P) w t ⟨l.toArray⟩ q (j : Int) ht.ut
  rw [dif_pos ⟨by omega, by simpa using h2⟩] at this
  simp [sIx, txt, this, B]
  exact congrArg (fun c : UInt8 => (c.toNat : Int)) e
theorem v_ixA {t e : TypeId} {n : Nat} {cs : Array Value} {v : Value} {q : IntKind} {i : Int} (j : Nat) [ht : ArrT P t n e 1] [ho : OneT P e] (hi : i = (j : Int)) (hj : j < n) (hv : cs[j]? = some v) : RunV P W [] (sIx t (.agg cs) (.int q i)) v := fun w _ => by
  subst hi
  simp [sIx, Instr.index, asIntOf, ht.ut, ht.size, hj, part, ho.agg, hv]
/-- a string's bytes in a new row -/
theorem e_sbytes {s t e : TypeId} {l : List UInt8} [hs : StrT P s] (ht : P.underlying t = some (.slice e)) (he : P.underlying e = some (.int .u8))
    (h : ∀ g c (rest : List Value) fz, Ent W (pt g (.cells (l.map B ++ rest).toArray e fz) :: L) (k (.slice (some ⟨g, 0, none⟩) l.length c))) : Ent W L (opN P (sConv s t (txt l)) Kp k) := fun w hw => by
  refine ⟨?_⟩
  have hr := run_bytes_of_string (P := P) w s t e ⟨l.toArray⟩ hs.ut ht he
  have hb : bytesRow ⟨l.toArray⟩ (grownCap w l.length 0 e) = (l.map B ++ (Array.replicate (grownCap w l.length 0 e - l.length) (Value.int .u8 0)).toList).toArray := by
    apply Array.ext'
    simp [bytesRow, B, ByteArray.size]
  have : (sConv s t (txt l)).run P w = .ok (.value (.slice (some ⟨w.heap.size, 0, none⟩) l.length (grownCap w l.length 0 e))) (w.drew.alloc (.cells (bytesRow ⟨l.toArray⟩ (grownCap w l.length 0 e)) e ((bytesRow ⟨l.toArray⟩ (grownCap w l.length 0 e)).size, (bytesRow ⟨l.toArray⟩ (grownCap w l.length 0 e)).size + 1))) := by
    simp [sConv, txt, hr, ByteArray.size]
  rw [this]
  have h2 := (hw.drew).alloc (.cells (bytesRow ⟨l.toArray⟩ (grownCap w l.length 0 e)) e ((bytesRow ⟨l.toArray⟩ (grownCap w l.length 0 e)).size, (bytesRow ⟨l.toArray⟩ (grownCap w l.length 0 e)).size + 1))
  rw [hb] at h2 ⊢
  exact h _ _ _ _ _ h2
theorem rd_row {g : Nat} {e : TypeId} {fz : Nat × Nat} {cs rest : List Value} : RdB W (pt g (.cells (cs ++ rest).toArray e fz)) (some ⟨g, 0, none⟩) cs.length cs :=
  ⟨rfl, fun _ => ⟨g, 0, rfl, fun w L hw j v hv => by
    rw [Nat.zero_add, hw.cell]
    have hj : j < cs.length := by
      rcases Nat.lt_or_ge j cs.length with c | c
      · exact c
      · rw [List.getElem?_eq_none c] at hv; cases hv
    simpa [List.getElem?_append_left hj] using hv⟩⟩
end Go.Proofs.YtcmpkkkigmheoaaGreatDoor.Sl
/-! Values of fields: what the document says of them, as plain functions over bytes. No conditions but those that each names. -/
namespace Go.Proofs.YtcmpkkkigmheoaaGreatDoor.FD
def isBl (c : UInt8) : Bool := c == 32 || c == 9
def trimL (l : List UInt8) : List UInt8 := l.dropWhile isBl
def trimR (l : List UInt8) : List UInt8 := (l.reverse.dropWhile isBl).reverse
def trimB (l : List UInt8) : List UInt8 := trimL (trimR l)
theorem trimR_t {l : List UInt8} {n : Nat} (h : l.length = n + 1) (hb : isBl (l[n]'(by omega)) = true) : trimR l = trimR (l.take n) := by
  have e : l = l.take n ++ [l[n]'(by omega)] := by
    rw [List.take_append_getElem (by omega : n < l.length)]
    exact (List.take_of_length_le (by omega)).symm
  unfold trimR
  conv => lhs; rw [e]
  rw [List.reverse_append]
  simp [List.dropWhile_cons, hb]
theorem trimR_f {l : List UInt8} {n : Nat} (h : l.length = n + 1) (hb : isBl (l[n]'(by omega)) = false) : trimR l = l := by
  have e : l = l.take n ++ [l[n]'(by omega)] := by
    rw [List.take_append_getElem (by omega : n < l.length)]
    exact (List.take_of_length_le (by omega)).symm
  unfold trimR
  conv => lhs; rw [e]
  rw [List.reverse_append]
  simp [List.dropWhile_cons, hb]
  exact List.take_of_length_le (by omega)
theorem trimL_t {l : List UInt8} (h : 0 < l.length) (hb : isBl l[0] = true) : trimL l = trimL (l.drop 1) := by
  cases l with
  | nil => simp at h
  | cons c r => simp [trimL, List.dropWhile_cons, show isBl c = true from hb]
theorem trimL_f {l : List UInt8} (h : 0 < l.length) (hb : isBl l[0] = false) : trimL l = l := by
  cases l with
  | nil => simp at h
  | cons c r => simp [trimL, List.dropWhile_cons, show isBl c = false from hb]
theorem trim_nil : trimB [] = [] := rfl
theorem trimR_snoc {l : List UInt8} {c : UInt8} : trimR (l ++ [c]) = if isBl c then trimR l else l ++ [c] := by
  unfold trimR
  rw [List.reverse_append]
  by_cases h : isBl c <;> simp [List.dropWhile_cons, h]
theorem trimLR (l : List UInt8) : trimL (trimR l) = trimR (trimL l) := by
  induction l with
  | nil => rfl
  | cons c r ih =>
    by_cases hr : trimR r = []
    · -- all blanks behind c
      have hc : trimR (c :: r) = if isBl c then [] else [c] := by
        unfold trimR at hr ⊢
        rw [List.reverse_cons, List.dropWhile_append]
        have : List.dropWhile isBl r.reverse = [] := by simpa using hr
        rw [this]
        by_cases h : isBl c <;> simp [List.dropWhile_cons, h]
      by_cases h : isBl c
      · rw [hc]
        simp only [h, if_true]
        have : trimL (c :: r) = trimL r := by simp [trimL, List.dropWhile_cons, h]
        rw [this, ← ih, hr]
      · rw [hc]
        simp only [h]
        have : trimL (c :: r) = c :: r := by simp [trimL, List.dropWhile_cons, h]
        rw [this, hc]
        simp [trimL, List.dropWhile_cons, h]
    · have hc : trimR (c :: r) = c :: trimR r := by
        unfold trimR at hr ⊢
        rw [List.reverse_cons, List.dropWhile_append]
        have : ¬ List.dropWhile isBl r.reverse = [] := by simpa using hr
        have h2 : (List.dropWhile isBl r.reverse).isEmpty = false := by
          cases hx : List.dropWhile isBl r.reverse with
          | nil => exact absurd hx this
          | cons _ _ => rfl
        rw [h2]; simp
      by_cases h : isBl c
      · have h1 : trimL (c :: r) = trimL r := by simp [trimL, List.dropWhile_cons, h]
        have h2 : trimL (c :: trimR r) = trimL (trimR r) := by simp [trimL, List.dropWhile_cons, h]
        rw [hc, h1, h2, ih]
      · have h1 : trimL (c :: r) = c :: r := by simp [trimL, List.dropWhile_cons, h]
        rw [hc, h1, hc]
        simp [trimL, List.dropWhile_cons, h]
/-- a part of a text -/
def sub (l : List UInt8) (a b : Nat) : List UInt8 := (l.drop a).take (b - a)
theorem sub_snoc {l : List UInt8} {a b : Nat} (h1 : a ≤ b) (h2 : b < l.length) : sub l a b ++ [l[b]] = sub l a (b + 1) := by
  unfold sub
  have h3 : b - a < (l.drop a).length := by rw [List.length_drop]; omega
  have := List.take_append_getElem h3
  rw [List.getElem_drop] at this
  have e : a + (b - a) = b := by omega
  simp only [e] at this
  rw [show b + 1 - a = b - a + 1 by omega, this]
theorem sub_self {l : List UInt8} {a : Nat} : sub l a a = [] := by simp [sub]
theorem sub_end {l : List UInt8} {a b : Nat} (h : l.length ≤ b) : sub l a b = l.drop a := by
  unfold sub
  exact List.take_of_length_le (by rw [List.length_drop]; omega)
/-- the pieces of a list -/
def els (q e : Bool) : Bool → List UInt8 → List UInt8 → List (List UInt8)
  | _, cur, [] => [cur]
  | inn, cur, c :: r =>
    if c = 92 ∧ inn = true ∧ e = true then match r with
      | [] => [cur ++ [c]]
      | d :: r' => els q e inn (cur ++ [c, d]) r'
    else if c = 34 ∧ q = true then els q e (!inn) (cur ++ [c]) r
    else if c = 44 ∧ inn = false then cur :: els q e false [] r
    else els q e inn (cur ++ [c]) r
theorem els_cons {q e inn : Bool} {cur : List UInt8} {c : UInt8} {r : List UInt8} : els q e inn cur (c :: r) = if c = 92 ∧ inn = true ∧ e = true then (match r with
      | [] => [cur ++ [c]]
      | d :: r' => els q e inn (cur ++ [c, d]) r')
    else if c = 34 ∧ q = true then els q e (!inn) (cur ++ [c]) r
    else if c = 44 ∧ inn = false then cur :: els q e false [] r
    else els q e inn (cur ++ [c]) r := by
  cases r <;> rfl
def stE (l : List UInt8) (q e inn : Bool) (a i : Nat) : List (List UInt8) := els q e inn (sub l a i) (l.drop i)
variable {l : List UInt8} {q e inn : Bool} {a i : Nat}
theorem stE_end (h : l.length ≤ i) : stE l q e inn a i = [l.drop a] := by
  unfold stE
  rw [List.drop_of_length_le h, sub_end h, els]
theorem dr (h : i < l.length) : l.drop i = l[i] :: l.drop (i + 1) := List.drop_eq_getElem_cons h
theorem stE_esc (h : i < l.length) (ha : a ≤ i) (hc : l[i] = 92) (h1 : inn = true) (h2 : e = true) : stE l q e inn a i = stE l q e inn a (i + 2) := by
  unfold stE
  rw [dr h, els_cons, if_pos ⟨hc, h1, h2⟩]
  by_cases h3 : i + 1 < l.length
  · rw [dr h3]
    simp only
    have e1 : sub l a i ++ [l[i], l[i + 1]] = sub l a (i + 2) := by
      rw [← sub_snoc (by omega) h3, ← sub_snoc ha h]; simp
    rw [e1]
  · rw [List.drop_of_length_le (show l.length ≤ i + 1 by omega), List.drop_of_length_le (show l.length ≤ i + 2 by omega)]
    simp only [els]
    rw [sub_snoc ha h, sub_end (show l.length ≤ i + 1 by omega), sub_end (show l.length ≤ i + 2 by omega)]
theorem stE_q (h : i < l.length) (ha : a ≤ i) (hn : ¬ (l[i] = 92 ∧ inn = true ∧ e = true)) (hc : l[i] = 34) (h1 : q = true) : stE l q e inn a i = stE l q e (!inn) a (i + 1) := by
  unfold stE
  rw [dr h, els_cons, if_neg hn, if_pos ⟨hc, h1⟩, sub_snoc ha h]
theorem stE_c (h : i < l.length) (ha : a ≤ i) (hc : l[i] = 44) (h1 : inn = false) : stE l q e inn a i = sub l a i :: stE l q e false (i + 1) (i + 1) := by
  unfold stE
  rw [dr h, els_cons, if_neg (by rw [h1]; simp), if_neg (by rw [hc]; rintro ⟨hx, _⟩; exact absurd hx (by decide)), if_pos ⟨hc, h1⟩, sub_self]
theorem stE_o (h : i < l.length) (ha : a ≤ i) (hn : ¬ (l[i] = 92 ∧ inn = true ∧ e = true)) (h2 : ¬ (l[i] = 34 ∧ q = true)) (h3 : ¬ (l[i] = 44 ∧ inn = false)) : stE l q e inn a i = stE l q e inn a (i + 1) := by
  unfold stE
  rw [dr h, els_cons, if_neg hn, if_neg h2, if_neg h3, sub_snoc ha h]
def nb (x : List UInt8) : Bool := !x.isEmpty
/-- its elements -/
def tidy (x : List (List UInt8)) : List (List UInt8) := (x.map trimB).filter nb
def elemsF (q e : Bool) (l : List UInt8) : List (List UInt8) := tidy (stE l q e false 0 0)
theorem tidy_cons {x : List UInt8} {r : List (List UInt8)} : tidy (x :: r) = if trimB x = [] then tidy r else trimB x :: tidy r := by
  unfold tidy
  by_cases h : trimB x = []
  · simp [h, nb]
  · have : nb (trimB x) = true := by cases hx : trimB x with
      | nil => exact absurd hx h
      | cons _ _ => rfl
    simp [h, this]
theorem tidy_nil : tidy [] = [] := rfl
theorem trim_len (l : List UInt8) : (trimB l).length ≤ l.length := by
  have h1 := (List.dropWhile_sublist (p := isBl) (l := trimR l)).length_le
  have h2 := (List.dropWhile_sublist (p := isBl) (l := l.reverse)).length_le
  unfold trimB trimL
  have h3 : (trimR l).length = (l.reverse.dropWhile isBl).length := by unfold trimR; simp
  rw [List.length_reverse] at h2
  omega
theorem tidy_len (x : List (List UInt8)) : (tidy x).length ≤ x.length := by
  unfold tidy
  have := (List.filter_sublist (p := nb) (l := x.map trimB)).length_le
  simpa using this
theorem tidy_mem {x : List (List UInt8)} {w : List UInt8} (h : w ∈ tidy x) : w ≠ [] ∧ ∃ v ∈ x, w = trimB v := by
  unfold tidy at h
  rw [List.mem_filter, List.mem_map] at h
  obtain ⟨⟨v, hv, rfl⟩, h2⟩ := h
  exact ⟨fun hx => (by rw [hx] at h2; cases h2), v, hv, rfl⟩
/-- a list, element by element -/
def listF {α : Type} (one : List UInt8 → α × Bool) (ws : List (List UInt8)) : Option (List α) := if ws.all (fun w => (one w).2) then some (ws.map fun w => (one w).1) else none
/-- cut at the first byte of a kind -/
def cutA (c : UInt8) : List UInt8 → List UInt8
  | [] => []
  | x :: r => if x = c then [] else x :: cutA c r
def cutB (c : UInt8) : List UInt8 → List UInt8
  | [] => []
  | x :: r => if x = c then r else cutB c r
def cutS (c : UInt8) : List UInt8 → Bool
  | [] => false
  | x :: r => if x = c then true else cutS c r
def lowB (c : UInt8) : UInt8 := if 65 ≤ c ∧ c ≤ 90 then c + 32 else c
def alnB (c : UInt8) : Bool := decide (97 ≤ c ∧ c ≤ 122 ∨ 65 ≤ c ∧ c ≤ 90 ∨ 48 ≤ c ∧ c ≤ 57)
def tokC : List UInt8 := [33, 35, 36, 37, 38, 39, 42, 43, 45, 46, 94, 95, 96, 124, 126]
def tokB (c : UInt8) : Bool := alnB c || tokC.contains c
def tokF (l : List UInt8) : Bool := nb l && l.all tokB
def lowF (l : List UInt8) : List UInt8 := l.map lowB
def digB (c : UInt8) : Bool := decide (48 ≤ c ∧ c ≤ 57)
def valF (l : List UInt8) : Nat := l.foldl (fun n c => n * 10 + (c.toNat - 48)) 0
def decF (l : List UInt8) : Int × Int := if nb l && l.all digB then (if valF l ≤ 1000000000000000000 then ((valF l : Int), 0) else (0, 11)) else (0, 21)
/-- an entity's tag -/
def badT (c : UInt8) : Bool := decide (c ≤ 32 ∨ c = 34 ∨ c = 127)
def weakF (s : List UInt8) : Bool := s.take 2 == [87, 47]
def mid (v : List UInt8) : List UInt8 := sub v 1 (v.length - 1)
def tagOk (v : List UInt8) : Bool := decide (2 ≤ v.length ∧ v[0]? = some 34 ∧ v[v.length - 1]? = some 34) && !(mid v).any badT
def tagV (s : List UInt8) : List UInt8 := if weakF s then s.drop 2 else s
def tagF (s : List UInt8) : (Bool × List UInt8) × Bool := if tagOk (tagV s) then ((weakF s, mid (tagV s)), true) else ((false, []), false)
def tagT (t : Bool × List UInt8) : List UInt8 := (if t.1 then [87, 47] else []) ++ 34 :: t.2 ++ [34]
/-- a weight, as the code reads it -/
def weightF (s : List UInt8) : Int × Bool :=
  if (cutA 46 s ≠ [48] ∧ cutA 46 s ≠ [49]) ∨ 3 < (cutB 46 s).length then (0, false)
  else ((decF (cutA 46 s ++ (cutB 46 s ++ [48, 48, 48]).take 3)).1, decide ((decF (cutA 46 s ++ (cutB 46 s ++ [48, 48, 48]).take 3)).2 = 0) && decide ((decF (cutA 46 s ++ (cutB 46 s ++ [48, 48, 48]).take 3)).1 ≤ 1000))
def choiceF (s : List UInt8) : (List UInt8 × Int) × Bool :=
  if cutS 59 s then
    if (trimB (cutB 59 s)).length < 2 ∨ lowF ((trimB (cutB 59 s)).take 2) ≠ [113, 61] then (([], 0), false)
    else ((lowF (trimB (cutA 59 s)), (weightF ((trimB (cutB 59 s)).drop 2)).1), tokF (lowF (trimB (cutA 59 s))) && (weightF ((trimB (cutB 59 s)).drop 2)).2)
  else ((lowF (trimB (cutA 59 s)), 1000), tokF (lowF (trimB (cutA 59 s))))
/-- what a quoted text means -/
def badQ (c : UInt8) : Bool := decide (c < 32 ∧ c ≠ 9 ∨ c = 127)
def unqL : List UInt8 → List UInt8 → List UInt8 × Bool
  | _, [] => ([], false)
  | acc, c :: r =>
    if c = 34 then (acc, r.isEmpty)
    else if c = 92 then match r with
      | [] => ([], false)
      | d :: r' => if badQ d then ([], false) else unqL (acc ++ [d]) r'
    else if badQ c then ([], false) else unqL (acc ++ [c]) r
theorem unqL_cons {acc : List UInt8} {c : UInt8} {r : List UInt8} : unqL acc (c :: r) = if c = 34 then (acc, r.isEmpty)
    else if c = 92 then (match r with
      | [] => ([], false)
      | d :: r' => if badQ d then ([], false) else unqL (acc ++ [d]) r')
    else if badQ c then ([], false) else unqL (acc ++ [c]) r := by
  cases r <;> rfl
def unqF : List UInt8 → List UInt8 × Bool
  | [] => ([], false)
  | c :: r => if c = 34 then unqL [] r else ([], false)
structure Dir where
  name : List UInt8
  value : List UInt8
  has : Bool
def dirF (s : List UInt8) : Dir × Bool :=
  if cutS 61 s && !tokF (cutB 61 s) then (⟨lowF (cutA 61 s), (unqF (cutB 61 s)).1, true⟩, tokF (cutA 61 s) && (unqF (cutB 61 s)).2)
  else (⟨lowF (cutA 61 s), cutB 61 s, cutS 61 s⟩, tokF (cutA 61 s))
/-- what a directive says of seconds -/
def secV (d : Dir) : Int := if (decF d.value).2 = 11 then 2147483648 else if (decF d.value).2 ≠ 0 ∨ d.has = false then 0 else min (decF d.value).1 2147483648
def secF (l : List Dir) (name : List UInt8) : Int × Bool := match l.find? (fun d => d.name == name) with
  | some d => (secV d, true)
  | none => (0, false)
def quoF (s : List UInt8) : List UInt8 := 34 :: s.flatMap (fun c => if c = 34 ∨ c = 92 then [92, c] else [c]) ++ [34]
/-- a span -/
def endF (s : List UInt8) : Int := if s = [] then -1 else (decF s).1
def endOk (s : List UInt8) : Bool := decide (s = [] ∨ (decF s).2 = 0)
def spanF (s : List UInt8) : (Int × Int) × Bool :=
  ((endF (cutA 45 s), endF (cutB 45 s)), (cutS 45 s && endOk (cutA 45 s) && endOk (cutB 45 s)) && decide (¬ (endF (cutA 45 s) = -1 ∧ endF (cutB 45 s) = -1)) && decide (endF (cutA 45 s) < 0 ∨ endF (cutB 45 s) < 0 ∨ endF (cutA 45 s) ≤ endF (cutB 45 s)))
def tokenF (s : List UInt8) : List UInt8 × Bool := (lowF s, tokF s)
def tokensF (s : List UInt8) : Option (List (List UInt8)) := listF tokenF (elemsF false false s)
def choicesF (s : List UInt8) : Option (List (List UInt8 × Int)) := listF choiceF (elemsF false false s)
def dirsF (s : List UInt8) : Option (List Dir) := listF dirF (elemsF true true s)
def tagLF (s : List UInt8) : Option (List (Bool × List UInt8)) := listF tagF (elemsF true false s)
def spanLF (s : List UInt8) : Option (List (Int × Int)) := if s.length < 6 ∨ lowF (s.take 6) ≠ [98, 121, 116, 101, 115, 61] then none else listF spanF (elemsF false false (s.drop 6))
/-- spans of bytes, and the answer's number -/
def spansF (s : List UInt8) : List (Int × Int) × Int := match spanLF s with
  | none => ([], 42)
  | some l => if l = [] then ([], 42) else if 16 < l.length then ([], 6) else (l, 0)
def tagsF (s : List UInt8) : List (Bool × List UInt8) × Bool × Int := if trimB s = [42] then ([], true, 0) else match tagLF s with
  | none => ([], false, 42)
  | some l => if l = [] then ([], false, 42) else (l, false, 0)
def lsF {α : Type} (o : Option (List α)) : List α × Int := match o with
  | none => ([], 42)
  | some l => (l, 0)
end Go.Proofs.YtcmpkkkigmheoaaGreatDoor.FD
/-! Values of fields: what two ways to read them have in common; lists joined; what is written is read back. No conditions but those that each names. -/
namespace Go.Proofs.YtcmpkkkigmheoaaGreatDoor.FD
theorem listF_eq {α : Type} {f g : List UInt8 → α × Bool} (h1 : ∀ w, (f w).2 = (g w).2) (h2 : ∀ w, (f w).2 = true → (f w).1 = (g w).1) (ws : List (List UInt8)) : listF f ws = listF g ws := by
  unfold listF
  have e : (ws.all fun w => (f w).2) = ws.all fun w => (g w).2 := by simp only [h1]
  rw [← e]
  by_cases h : (ws.all fun w => (f w).2) = true
  · rw [if_pos h, if_pos h]
    congr 1
    refine List.map_congr_left fun w hw => h2 w (List.all_eq_true.1 h w hw)
  · rw [if_neg h, if_neg h]
theorem listF_app {α : Type} {f : List UInt8 → α × Bool} {a b : List (List UInt8)} {x y : List α} (ha : listF f a = some x) (hb : listF f b = some y) : listF f (a ++ b) = some (x ++ y) := by
  unfold listF at *
  split at ha
  · split at hb
    · injection ha with ha; injection hb with hb
      rename_i h1 h2
      rw [if_pos (by rw [List.all_append, h1, h2]; rfl), List.map_append, ha, hb]
    · cases hb
  · cases ha
theorem listF_all {α : Type} {f : List UInt8 → α × Bool} {a : List (List UInt8)} {x : List α} (ha : listF f a = some x) : ∀ w ∈ a, (f w).2 = true := by
  unfold listF at ha
  split at ha
  · rename_i h
    exact List.all_eq_true.1 h
  · cases ha
/-- a weight, as the document reads it -/
def fracF : List UInt8 → Nat → Nat
  | [], _ => 0
  | c :: r, u => u * (c.toNat - 48) + fracF r (u / 10)
def weightR (s : List UInt8) : Int :=
  if s.length < 1 ∨ 5 < s.length ∨ (s[0]? ≠ some 48 ∧ s[0]? ≠ some 49) ∨ (1 < s.length ∧ s[1]? ≠ some 46) then -1
  else if (s.drop 2).all digB = false then -1
  else if 1000 < 1000 * ((s.headD 0).toNat - 48) + fracF (s.drop 2) 100 then -1
  else ((1000 * ((s.headD 0).toNat - 48) + fracF (s.drop 2) 100 : Nat) : Int)
theorem dg_b {c : UInt8} (h : digB c = true) : 48 ≤ c.toNat ∧ c.toNat ≤ 57 := by
  unfold digB at h
  have := of_decide_eq_true h
  exact ⟨UInt8.le_iff_toNat_le.1 this.1, UInt8.le_iff_toNat_le.1 this.2⟩
theorem cutA_len {c : UInt8} : ∀ s : List UInt8, (cutA c s).length ≤ s.length
  | [] => by simp [cutA]
  | x :: r => by
    have := cutA_len (c := c) r
    unfold cutA
    split <;> simp <;> omega
theorem w_main {c : UInt8} {p : List UInt8} (hp : p.length ≤ 3) (hc : c = 48 ∨ c = 49) : decF ([c] ++ (p ++ [48, 48, 48]).take 3) = if p.all digB then (((1000 * (c.toNat - 48) + fracF p 100 : Nat) : Int), 0) else (0, 21) := by
  have hv : ∀ x y z : UInt8, valF [c, x, y, z] = (((c.toNat - 48) * 10 + (x.toNat - 48)) * 10 + (y.toNat - 48)) * 10 + (z.toNat - 48) := fun x y z => by simp [valF]
  have hd : digB c = true := by rcases hc with rfl | rfl <;> rfl
  have h48 : digB 48 = true := rfl
  have k : ∀ (x y z : UInt8), decF [c, x, y, z] = if digB x && digB y && digB z then ((valF [c, x, y, z] : Int), 0) else (0, 21) := fun x y z => by
    unfold decF
    simp only [nb, List.isEmpty_cons, Bool.not_false, Bool.true_and, List.all_cons, List.all_nil, Bool.and_true, hd]
    by_cases hh : (digB x && (digB y && digB z)) = true
    · have h1 : digB x = true := by simp at hh; exact hh.1
      have h2 : digB y = true := by simp at hh; exact hh.2.1
      have h3 : digB z = true := by simp at hh; exact hh.2.2
      have b0 := dg_b hd
      have b1 := dg_b h1
      have b2 := dg_b h2
      have b3 := dg_b h3
      rw [if_pos hh, if_pos (by rw [hv]; omega), if_pos (by simp [h1, h2, h3])]
    · rw [if_neg hh, if_neg (by simpa [Bool.and_assoc] using hh)]
  have e48 : (48 : UInt8).toNat - 48 = 0 := rfl
  match p, hp with
  | [], _ =>
    simp only [List.nil_append, List.take_succ_cons, List.take_zero, List.singleton_append]
    rw [k]
    simp only [h48, List.all_nil, Bool.and_self, if_true, hv, fracF, e48]
    congr 2; omega
  | [x], _ =>
    simp only [List.cons_append, List.nil_append, List.take_succ_cons, List.take_zero]
    rw [k]
    simp only [h48, List.all_cons, List.all_nil, Bool.and_true, hv, fracF, e48]
    split <;> first | rfl | (congr 2; omega)
  | [x, y], _ =>
    simp only [List.cons_append, List.nil_append, List.take_succ_cons, List.take_zero]
    rw [k]
    simp only [h48, List.all_cons, List.all_nil, Bool.and_true, hv, fracF, e48]
    split <;> first | rfl | (congr 2; omega)
  | [x, y, z], _ =>
    simp only [List.cons_append, List.nil_append, List.take_succ_cons, List.take_zero]
    rw [k]
    simp only [h48, List.all_cons, List.all_nil, Bool.and_true, hv, fracF, e48, Bool.and_assoc]
    split <;> first | rfl | (congr 2; omega)
  | x :: y :: z :: w :: r, hp => exact absurd hp (by simp)
theorem weight_eq (s : List UInt8) : (weightF s).2 = decide (0 ≤ weightR s) ∧ ((weightF s).2 = true → (weightF s).1 = weightR s) := by
  have fin : ∀ {c : UInt8} {p : List UInt8}, p.length ≤ 3 → (c = 48 ∨ c = 49) → cutA 46 s = [c] → cutB 46 s = p → weightR s = (if p.all digB = false then -1 else if 1000 < 1000 * (c.toNat - 48) + fracF p 100 then -1 else ((1000 * (c.toNat - 48) + fracF p 100 : Nat) : Int)) → (weightF s).2 = decide (0 ≤ weightR s) ∧ ((weightF s).2 = true → (weightF s).1 = weightR s) := by
    intro c p hp hc ea eb er
    have ew : weightF s = ((decF ([c] ++ (p ++ [48, 48, 48]).take 3)).1, decide ((decF ([c] ++ (p ++ [48, 48, 48]).take 3)).2 = 0) && decide ((decF ([c] ++ (p ++ [48, 48, 48]).take 3)).1 ≤ 1000)) := by
      unfold weightF
      rw [ea, eb, if_neg]
      rintro (⟨h1, h2⟩ | h)
      · rcases hc with rfl | rfl
        · exact h1 rfl
        · exact h2 rfl
      · omega
    rw [ew, er, w_main hp hc]
    by_cases h : p.all digB = true
    · rw [if_pos h, if_neg (by rw [h]; simp)]
      by_cases h2 : 1000 < 1000 * (c.toNat - 48) + fracF p 100
      · rw [if_pos h2]
        have : ¬ (((1000 * (c.toNat - 48) + fracF p 100 : Nat) : Int) ≤ 1000) := by omega
        simp only [this, decide_false, Bool.and_false]
        exact ⟨rfl, fun h => by cases h⟩
      · rw [if_neg h2]
        have : (((1000 * (c.toNat - 48) + fracF p 100 : Nat) : Int) ≤ 1000) := by omega
        simp only [this, decide_true, Bool.and_self, true_and, implies_true, and_true]
        exact (decide_eq_true (by omega)).symm
    · rw [if_neg h, if_pos (by simpa using h)]
      simp
  have bad : (weightF s).2 = false → weightR s = -1 → (weightF s).2 = decide (0 ≤ weightR s) ∧ ((weightF s).2 = true → (weightF s).1 = weightR s) := by
    intro h1 h2
    rw [h1, h2]; simp
  rcases s with _ | ⟨c, _ | ⟨d, p⟩⟩
  · exact bad rfl rfl
  · skip
    by_cases hc : c = 48 ∨ c = 49
    · refine fin (c := c) (p := []) (by simp) hc ?_ ?_ ?_
      · rcases hc with rfl | rfl <;> rfl
      · rcases hc with rfl | rfl <;> rfl
      · rcases hc with rfl | rfl <;> rfl
    · have h1 : c ≠ 48 := fun h => hc (.inl h)
      have h2 : c ≠ 49 := fun h => hc (.inr h)
      refine bad ?_ ?_
      · unfold weightF
        have : cutA 46 [c] ≠ [48] ∧ cutA 46 [c] ≠ [49] := by
          unfold cutA
          split
          · simp
          · simp [cutA, h1, h2]
        rw [if_pos (.inl this)]
      · unfold weightR
        rw [if_pos (.inr (.inr (.inl (by simp [h1, h2]))))]
  · skip
    by_cases hd : d = 46
    · subst hd
      by_cases hc : c = 48 ∨ c = 49
      · have ea : cutA 46 (c :: 46 :: p) = [c] := by rcases hc with rfl | rfl <;> rfl
        have eb : cutB 46 (c :: 46 :: p) = p := by rcases hc with rfl | rfl <;> rfl
        by_cases hp : p.length ≤ 3
        · refine fin hp hc ea eb ?_
          unfold weightR
          rw [if_neg]
          · rfl
          · rintro (h | h | h | h)
            · simp at h
            · simp at h; omega
            · rcases hc with rfl | rfl
              · exact h.1 rfl
              · exact h.2 rfl
            · exact h.2 rfl
        · refine bad ?_ ?_
          · unfold weightF
            rw [eb, if_pos (.inr (by omega))]
          · unfold weightR
            rw [if_pos (.inr (.inl (by simp; omega)))]
      · have h1 : c ≠ 48 := fun h => hc (.inl h)
        have h2 : c ≠ 49 := fun h => hc (.inr h)
        refine bad ?_ ?_
        · unfold weightF
          have : cutA 46 (c :: 46 :: p) ≠ [48] ∧ cutA 46 (c :: 46 :: p) ≠ [49] := by
            unfold cutA
            split
            · simp
            · simp [cutA, h1, h2]
          rw [if_pos (.inl this)]
        · unfold weightR
          rw [if_pos (.inr (.inr (.inl (by simp [h1, h2]))))]
    · refine bad ?_ ?_
      · unfold weightF
        have : cutA 46 (c :: d :: p) ≠ [48] ∧ cutA 46 (c :: d :: p) ≠ [49] := by
          unfold cutA
          split
          · simp
          · simp [cutA, hd]
        rw [if_pos (.inl this)]
      · unfold weightR
        rw [if_pos (.inr (.inr (.inr ⟨by simp, by simp [hd]⟩)))]
def choiceR (s : List UInt8) : (List UInt8 × Int) × Bool :=
  if cutS 59 s then
    if (trimB (cutB 59 s)).length < 2 ∨ ((trimB (cutB 59 s))[0]? ≠ some 113 ∧ (trimB (cutB 59 s))[0]? ≠ some 81) ∨ (trimB (cutB 59 s))[1]? ≠ some 61 then ((lowF (trimB (cutA 59 s)), 1000), false)
    else ((lowF (trimB (cutA 59 s)), weightR ((trimB (cutB 59 s)).drop 2)), tokF (lowF (trimB (cutA 59 s))) && decide (0 ≤ weightR ((trimB (cutB 59 s)).drop 2)))
  else ((lowF (trimB (cutA 59 s)), 1000), tokF (lowF (trimB (cutA 59 s))))
theorem all8 {p : UInt8 → Prop} (h : ∀ n : Fin 256, p ⟨⟨n⟩⟩) (c : UInt8) : p c := h c.toBitVec.toFin
theorem low_q (c : UInt8) : lowB c = 113 ↔ (c = 113 ∨ c = 81) := by
  refine all8 (p := fun c => lowB c = 113 ↔ (c = 113 ∨ c = 81)) ?_ c
  decide +kernel
theorem low_e (c : UInt8) : lowB c = 61 ↔ c = 61 := by
  refine all8 (p := fun c => lowB c = 61 ↔ c = 61) ?_ c
  decide +kernel
theorem choice_eq (s : List UInt8) : (choiceF s).2 = (choiceR s).2 ∧ ((choiceF s).2 = true → (choiceF s).1 = (choiceR s).1) := by
  unfold choiceF choiceR
  by_cases h : cutS 59 s = true
  · rw [if_pos h, if_pos h]
    have hw := weight_eq ((trimB (cutB 59 s)).drop 2)
    have hc : ((trimB (cutB 59 s)).length < 2 ∨ lowF ((trimB (cutB 59 s)).take 2) ≠ [113, 61]) ↔ ((trimB (cutB 59 s)).length < 2 ∨ ((trimB (cutB 59 s))[0]? ≠ some 113 ∧ (trimB (cutB 59 s))[0]? ≠ some 81) ∨ (trimB (cutB 59 s))[1]? ≠ some 61) := by
      match trimB (cutB 59 s) with
      | [] => simp
      | [x] => simp
      | x :: y :: r =>
        have e1 := low_q x
        have e2 := low_e y
        simp only [lowF, List.take_succ_cons, List.take_zero, List.map_cons, List.map_nil, List.length_cons, ne_eq, List.cons.injEq, and_true, List.getElem?_cons_zero, List.getElem?_cons_succ, Option.some.injEq, e1, e2]
        constructor
        · rintro (h | h)
          · omega
          · right
            by_cases c1 : x = 113
            · right; exact fun c2 => h ⟨.inl c1, c2⟩
            · by_cases c2 : x = 81
              · right; exact fun c3 => h ⟨.inr c2, c3⟩
              · left; exact ⟨c1, c2⟩
        · rintro (h | h | h)
          · omega
          · right; rintro ⟨c1 | c1, _⟩
            · exact h.1 c1
            · exact h.2 c1
          · right; rintro ⟨_, c2⟩; exact h c2
    by_cases h2 : (trimB (cutB 59 s)).length < 2 ∨ lowF ((trimB (cutB 59 s)).take 2) ≠ [113, 61]
    · rw [if_pos h2, if_pos (hc.1 h2)]; simp
    · rw [if_neg h2, if_neg (fun c => h2 (hc.2 c))]
      simp only
      refine ⟨by rw [hw.1], fun hh => ?_⟩
      have : (weightF ((trimB (cutB 59 s)).drop 2)).2 = true := by simp at hh; exact hh.2
      rw [hw.2 this]
  · rw [if_neg h, if_neg h]; simp
theorem choices_eq (s : List UInt8) : choicesF s = listF choiceR (elemsF false false s) := listF_eq (fun w => (choice_eq w).1) (fun w => (choice_eq w).2) _
theorem tok_low1 (c : UInt8) : tokB (lowB c) = tokB c := by
  refine all8 (p := fun c => tokB (lowB c) = tokB c) ?_ c
  decide +kernel
theorem tok_low (s : List UInt8) : tokF (lowF s) = tokF s := by
  unfold tokF lowF
  rw [List.all_map]
  have : (tokB ∘ lowB) = tokB := funext tok_low1
  rw [this]
  cases s <;> rfl
def dirR (s : List UInt8) : Dir × Bool :=
  if tokF (lowF (cutA 61 s)) = false then (⟨lowF (cutA 61 s), [], false⟩, false)
  else if cutS 61 s = false then (⟨lowF (cutA 61 s), [], false⟩, true)
  else if tokF (cutB 61 s) then (⟨lowF (cutA 61 s), cutB 61 s, true⟩, true)
  else (⟨lowF (cutA 61 s), (unqF (cutB 61 s)).1, true⟩, (unqF (cutB 61 s)).2)
theorem cutB_none {c : UInt8} : ∀ {s : List UInt8}, cutS c s = false → cutB c s = []
  | [], _ => rfl
  | x :: r, h => by
    unfold cutS at h
    unfold cutB
    split at h
    · cases h
    · rename_i hx
      rw [if_neg hx]; exact cutB_none h
theorem dir_eq (s : List UInt8) : (dirF s).2 = (dirR s).2 ∧ ((dirF s).2 = true → (dirF s).1 = (dirR s).1) := by
  unfold dirF dirR
  rw [tok_low]
  by_cases ht : tokF (cutA 61 s) = true <;> by_cases hs : cutS 61 s = true <;> by_cases hb : tokF (cutB 61 s) = true <;> simp [ht, hs, hb]
  all_goals (try (have := cutB_none (by simpa using hs); simp [this]))
theorem dirs_eq (s : List UInt8) : dirsF s = listF dirR (elemsF true true s) := listF_eq (fun w => (dir_eq w).1) (fun w => (dir_eq w).2) _
theorem dir_has {s : List UInt8} (h : (dirF s).1.has = false) : (dirF s).1.value = [] := by
  unfold dirF at h ⊢
  split at h
  · cases h
  · rename_i hn
    rw [if_neg hn]
    exact cutB_none h
def spanR (s : List UInt8) : (Int × Int) × Bool :=
  if cutS 45 s = false ∨ s.length = 1 then ((0, 0), false)
  else if endOk (cutA 45 s) = false then ((-1, -1), false)
  else if endOk (cutB 45 s) = false then ((endF (cutA 45 s), -1), false)
  else ((endF (cutA 45 s), endF (cutB 45 s)), decide (endF (cutA 45 s) < 0 ∨ endF (cutB 45 s) < 0 ∨ endF (cutA 45 s) ≤ endF (cutB 45 s)))
theorem dec_nn (s : List UInt8) : 0 ≤ (decF s).1 := by
  unfold decF
  split
  · split
    · exact Int.natCast_nonneg _
    · exact Int.le_refl _
  · exact Int.le_refl _
theorem end_m (s : List UInt8) : endF s = -1 ↔ s = [] := by
  unfold endF
  have := dec_nn s
  constructor
  · intro h
    split at h
    · assumption
    · omega
  · intro h; rw [if_pos h]
theorem cut_one {c : UInt8} : ∀ {s : List UInt8}, cutS c s = true → s.length = (cutA c s).length + (cutB c s).length + 1
  | [], h => by cases h
  | x :: r, h => by
    unfold cutS at h
    unfold cutA cutB
    split at h
    · rename_i hx
      rw [if_pos hx, if_pos hx]; simp
    · rename_i hx
      rw [if_neg hx, if_neg hx]
      have := cut_one h
      simp only [List.length_cons]; omega
theorem span_eq (s : List UInt8) : (spanF s).2 = (spanR s).2 ∧ ((spanF s).2 = true → (spanF s).1 = (spanR s).1) := by
  unfold spanF spanR
  by_cases hs : cutS 45 s = true
  · have hl := cut_one hs
    by_cases h1 : s.length = 1
    · have ea : cutA 45 s = [] := List.eq_nil_of_length_eq_zero (by omega)
      have eb : cutB 45 s = [] := List.eq_nil_of_length_eq_zero (by omega)
      rw [if_pos (.inr h1), ea, eb]
      simp [endF]
    · rw [if_neg (fun h => h.elim (fun h => by rw [hs] at h; cases h) h1)]
      have hn : ¬ (endF (cutA 45 s) = -1 ∧ endF (cutB 45 s) = -1) := by
        rw [end_m, end_m]
        rintro ⟨ha, hb⟩
        rw [ha, hb] at hl
        exact h1 (by simpa using hl)
      by_cases ha : endOk (cutA 45 s) = true <;> by_cases hb : endOk (cutB 45 s) = true <;> simp [hs, ha, hb]
      all_goals (first | (intro x y; exact absurd ⟨x, y⟩ hn) | (intro x; exact Classical.not_and_iff_not_or_not.1 hn))
  · rw [if_pos (.inl (by simpa using hs))]
    simp [hs]
end Go.Proofs.YtcmpkkkigmheoaaGreatDoor.FD
/-! Maps of a call's own: what they hold, and the operations on them. No conditions but those that each names. -/
namespace Go.Proofs.YtcmpkkkigmheoaaGreatDoor.Sl
open Go Go.RowKit Go.Proofs.YtcmpkkkigmheoaaGreatDoor.Sh
variable {P : Program} {W : World} {L L' : List HP} {Kp : PK} {k : Value → WP}
structure KeyLaw (P : Program) (t : TypeId) {κ : Type} [DecidableEq κ] (enc : κ → Value) : Prop where
  check : ∀ (b : Bool) (k : κ) (w : World), (Instr.checkKey b 10000 t (enc k)).run P w = .ok () w
  eq : ∀ (k k' : κ) (w : World), (Op.equal t (enc k) (enc k')).run P w = .ok (decide (k = k')) w
  now : ∃ d, P.underlying t = some d ∧ ∀ k k', Instr.sameNow d (enc k) (enc k') = none ∨ Instr.sameNow d (enc k) (enc k') = some (decide (k = k'))
  same : ∀ k, Instr.sameBits 10000 (enc k) (enc k) = true
variable {κ : Type} [DecidableEq κ] {enc : κ → Value} {t kt : TypeId}
def fnd (k : κ) : List (κ × Value) → Nat → Option (Nat × Value)
  | [], _ => none
  | p :: m, i => if k = p.1 then some (i, p.2) else fnd k m (i + 1)
/-- what a key holds -/
def getM (k : κ) (m : List (κ × Value)) : Option Value := (fnd k m 0).map (·.2)
def kv (e : MapEntry) : Value × Value := (e.key, e.val)
def ekv (enc : κ → Value) (p : κ × Value) : Value × Value := (enc p.1, p.2)
theorem findAsking_run (K : KeyLaw P kt enc) (k : κ) (w : World) : ∀ (es : List MapEntry) (m : List (κ × Value)) (i : Nat), es.map kv = m.map (ekv enc) → (Instr.findAsking kt (enc k) es i).run P w = .ok (fnd k m i) w
  | [], [], i, _ => rfl
  | [], p :: m, i, h => by simp at h
  | e :: es, [], i, h => by simp at h
  | e :: es, p :: m, i, h => by
    simp only [List.map_cons, List.cons.injEq, kv, ekv, Prod.mk.injEq] at h
    obtain ⟨⟨h1, h2⟩, h3⟩ := h
    have ih := findAsking_run K k w es m (i + 1) h3
    unfold Instr.findAsking fnd
    rw [h1]
    simp only [Sem.run_bind, K.eq, Result.andThen_ok]
    by_cases c : k = p.1
    · simp [c, h2]
    · simp [c, ih]
theorem findNow_run (d : TypeDesc) (hd : ∀ k k', Instr.sameNow d (enc k) (enc k') = none ∨ Instr.sameNow d (enc k) (enc k') = some (decide (k = k'))) (k : κ) : ∀ (es : List MapEntry) (m : List (κ × Value)) (i : Nat), es.map kv = m.map (ekv enc) → Instr.findNow d (enc k) es i = none ∨ Instr.findNow d (enc k) es i = some (fnd k m i)
  | [], [], i, _ => .inr rfl
  | [], p :: m, i, h => by simp at h
  | e :: es, [], i, h => by simp at h
  | e :: es, p :: m, i, h => by
    simp only [List.map_cons, List.cons.injEq, kv, ekv, Prod.mk.injEq] at h
    obtain ⟨⟨h1, h2⟩, h3⟩ := h
    have ih := findNow_run d hd k es m (i + 1) h3
    unfold Instr.findNow fnd
    rw [h1]
    rcases hd k p.1 with c | c
    · rw [c]; exact .inl rfl
    · rw [c]
      by_cases e1 : k = p.1
      · simp [e1, h2]
      · simp [e1, ih]
theorem findKey_run (K : KeyLaw P kt enc) (k : κ) (w : World) {es : List MapEntry} {m : List (κ × Value)} (h : es.map kv = m.map (ekv enc)) : (Instr.findKey kt (enc k) es).run P w = .ok (fnd k m 0) w := by
  obtain ⟨d, hd, hs⟩ := K.now
  unfold Instr.findKey
  simp only [Sem.run_bind, run_underlying hd, Result.andThen_ok]
  rcases findNow_run d hs k es m 0 h with c | c
  · rw [c]; exact findAsking_run K k w es m 0 h
  · rw [c]; rfl
structure Ents (enc : κ → Value) (es : Array MapEntry) (c : Nat) (m : List (κ × Value)) : Prop where
  kvs : es.toList.map kv = m.map (ekv enc)
  born : ∀ e ∈ es.toList, e.born < c
  nodup : (es.toList.map (·.born)).Nodup
/-- the map at g holds m -/
def MapIs (g : Nat) (enc : κ → Value) (m : List (κ × Value)) : HP := fun _ h => ∃ es c, h g = some (.map es c) ∧ Ents enc es c m
theorem map_row {g : Nat} {m : List (κ × Value)} {w : World} (H : sat W (MapIs g enc m :: L) w) : ∃ es c, Ents enc es c m ∧ sat W (pt g (.map es c) :: L) w := by
  obtain ⟨f, ⟨h1, h2, ⟨es, c, ha, he⟩, r⟩, b⟩ := H.heap
  exact ⟨es, c, he, H.base, f, ⟨h1, h2, ha, r⟩, b⟩
theorem map_back {g : Nat} {m : List (κ × Value)} {w : World} {es : Array MapEntry} {c : Nat} (he : Ents enc es c m) (H : sat W (pt g (.map es c) :: L) w) : sat W (MapIs g enc m :: L) w := by
  obtain ⟨f, ⟨h1, h2, ha, r⟩, b⟩ := H.heap
  exact ⟨H.base, f, ⟨h1, h2, ⟨es, c, ha, he⟩, r⟩, b⟩
class MapT (P : Program) (t : TypeId) (kt e : outParam TypeId) : Prop where
  ut : P.underlying t = some (.map kt e)
theorem v_lookOk {e : TypeId} {z : Value} {g : Nat} {m : List (κ × Value)} {q : κ} [ht : MapT P t kt e] [hz : ZeroT P e z] (K : KeyLaw P kt enc) : RunV P W [MapIs g enc m] (sLook t (.map (some g)) (enc q) true) (.tuple #[(getM q m).getD z, .bool (getM q m).isSome]) := fun w hw => by
  obtain ⟨es, c, he, hp⟩ := map_row hw
  have hg := hp.pt_.1
  have hf := findKey_run K q w he.kvs
  unfold getM
  cases hq : fnd q m 0 with
  | none => simp [sLook, Instr.lookup, run_underlying ht.ut, MapKept.run_getObj_map hg, K.check, hf, hq, hz.run, Result.andThen]
  | some p => simp [sLook, Instr.lookup, run_underlying ht.ut, MapKept.run_getObj_map hg, K.check, hf, hq, Result.andThen]
theorem v_look {e : TypeId} {z : Value} {g : Nat} {m : List (κ × Value)} {q : κ} [ht : MapT P t kt e] [hz : ZeroT P e z] (K : KeyLaw P kt enc) : RunV P W [MapIs g enc m] (sLook t (.map (some g)) (enc q) false) ((getM q m).getD z) := fun w hw => by
  obtain ⟨es, c, he, hp⟩ := map_row hw
  have hg := hp.pt_.1
  have hf := findKey_run K q w he.kvs
  unfold getM
  cases hq : fnd q m 0 with
  | none => simp [sLook, Instr.lookup, run_underlying ht.ut, MapKept.run_getObj_map hg, K.check, hf, hq, hz.run, Result.andThen]
  | some p => simp [sLook, Instr.lookup, run_underlying ht.ut, MapKept.run_getObj_map hg, K.check, hf, hq, Result.andThen]
theorem v_lenM {e ty : TypeId} {g : Nat} {m : List (κ × Value)} [ht : MapT P t kt e] : RunV P W [MapIs g enc m] (sLen #[t] ty [.map (some g)]) (.int .i64 (m.length : Int)) := fun w hw => by
  obtain ⟨es, c, he, hp⟩ := map_row hw
  have hl := congrArg List.length he.kvs
  simp at hl
  simp [sLen, Builtin.len_, run_underlying ht.ut, MapKept.run_getObj_map hp.pt_.1, goInt, hl, Result.andThen]
theorem e_mkmap {e : TypeId} (enc : κ → Value) [ht : MapT P t kt e] (h : ∀ g, Ent W (MapIs g enc [] :: L) (k (.map (some g)))) : Ent W L (opN P (sMkMap t none) Kp k) := fun w hw => by
  refine ⟨?_⟩
  have : (sMkMap t none).run P w = .ok (.value (.map (some w.heap.size))) (w.alloc (.map #[] 0)) := by
    simp [sMkMap, Instr.makeMap]
  rw [this]
  exact h _ _ (map_back ⟨rfl, fun e he => by simp at he, by simp⟩ (hw.alloc _))
/-- the map with a key laid -/
def setM (q : κ) (v : Value) : List (κ × Value) → List (κ × Value)
  | [] => [(q, v)]
  | p :: m => if q = p.1 then (p.1, v) :: m else p :: setM q v m
theorem setM_none (q : κ) (v : Value) : ∀ (m : List (κ × Value)) (i : Nat), fnd q m i = none → setM q v m = m ++ [(q, v)]
  | [], i, _ => rfl
  | p :: m, i, h => by
    unfold fnd at h
    by_cases c : q = p.1
    · simp [c] at h
    · rw [if_neg c] at h
      simp [setM, c, setM_none q v m (i + 1) h]
theorem setM_some (q : κ) (v : Value) : ∀ (m : List (κ × Value)) (i j : Nat) (u : Value), fnd q m i = some (j, u) → i ≤ j ∧ j - i < m.length ∧ setM q v m = m.set (j - i) (q, v) ∧ m[j - i]? = some (q, u)
  | [], i, j, u, h => by simp [fnd] at h
  | p :: m, i, j, u, h => by
    unfold fnd at h
    by_cases c : q = p.1
    · rw [if_pos c] at h
      simp at h
      obtain ⟨rfl, rfl⟩ := h
      simp [setM, c]
    · rw [if_neg c] at h
      obtain ⟨h1, h2, h3, h4⟩ := setM_some q v m (i + 1) j u h
      refine ⟨by omega, by rw [List.length_cons]; omega, ?_, ?_⟩
      · rw [setM, if_neg c, h3, show j - i = (j - (i + 1)) + 1 by omega]; rfl
      · rw [show j - i = (j - (i + 1)) + 1 by omega]; simpa using h4
theorem getM_setM (q q' : κ) (v : Value) : ∀ (m : List (κ × Value)), getM q' (setM q v m) = if q' = q then some v else getM q' m := by
  have key : ∀ (m : List (κ × Value)) (i j : Nat), (fnd q' (setM q v m) i).map (·.2) = if q' = q then some v else (fnd q' m j).map (·.2) := by
    intro m
    induction m with
    | nil => intro i j; by_cases c : q' = q <;> simp [setM, fnd, c]
    | cons p m ih =>
      intro i j
      unfold setM
      by_cases c : q = p.1
      · rw [if_pos c]
        unfold fnd
        by_cases d : q' = p.1
        · simp [d, c]
        · have hd : q' ≠ q := by rw [c]; exact d
          simp only [if_neg d, if_neg hd]
          have gen : ∀ (m : List (κ × Value)) (i j : Nat), (fnd q' m i).map (·.2) = (fnd q' m j).map (·.2) := by
            intro m
            induction m with
            | nil => intro i j; rfl
            | cons p m ih => intro i j; unfold fnd; split <;> simp [ih (i + 1) (j + 1)]
          exact gen m _ _
      · rw [if_neg c]
        unfold fnd
        by_cases d : q' = p.1
        · have hd : q' ≠ q := by rw [d]; exact fun e => c e.symm
          simp [if_pos d, if_neg hd]
        · simp only [if_neg d]; exact ih _ _
  exact fun m => key m 0 0
theorem sat.putObj {w : World} {g : Nat} {o : Obj} (o' : Obj) (H : sat W (pt g o :: L) w) : sat W (pt g o' :: L) { w with heap := w.heap.setIfInBounds g o' } := by
  have hg := H.pt_.1
  have hlt := (Array.getElem?_eq_some_iff.1 hg).1
  exact H.turn rfl rfl rfl (by simp) (by simp [hlt]) (fun i hi => by simp [Array.getElem?_setIfInBounds_ne (Ne.symm hi)])
theorem kvs_get {es : Array MapEntry} {m : List (κ × Value)} (h : es.toList.map kv = m.map (ekv enc)) {i : Nat} {p : κ × Value} (hp : m[i]? = some p) : ∃ e, es[i]? = some e ∧ e.key = enc p.1 ∧ e.val = p.2 := by
  have h1 : (es.toList.map kv)[i]? = some (ekv enc p) := by rw [h, List.getElem?_map, hp]; rfl
  rw [List.getElem?_map, Array.getElem?_toList] at h1
  cases he : es[i]? with
  | none => rw [he] at h1; cases h1
  | some e =>
    rw [he] at h1
    simp [kv, ekv] at h1
    exact ⟨e, rfl, h1.1, h1.2⟩
theorem Ents.put {es : Array MapEntry} {c i : Nat} {m : List (κ × Value)} {q : κ} {u v : Value} (h : Ents enc es c m) (hi : m[i]? = some (q, u)) : Ents enc (es.modify i fun e => { e with key := enc q, val := v }) c (m.set i (q, v)) := by
  obtain ⟨e, he, h1, h2⟩ := kvs_get h.kvs hi
  have hlt := (Array.getElem?_eq_some_iff.1 he).1
  refine ⟨?_, ?_, ?_⟩
  · apply List.ext_getElem?
    intro j
    rw [List.getElem?_map, Array.getElem?_toList, Array.getElem?_modify, List.getElem?_map, List.getElem?_set]
    have hj : (es[j]?).map kv = (m[j]?).map (ekv enc) := by
      have := congrArg (fun l => l[j]?) h.kvs
      simpa using this
    by_cases c : i = j
    · subst c
      have hml := (List.getElem?_eq_some_iff.1 hi).1
      rw [if_pos rfl, if_pos rfl, if_pos hml, he]; rfl
    · rw [if_neg c, if_neg c]; exact hj
  · intro e' he'
    obtain ⟨j, hj⟩ := List.mem_iff_getElem?.1 he'
    rw [Array.getElem?_toList, Array.getElem?_modify] at hj
    split at hj
    · cases hx : es[j]? with
      | none => rw [hx] at hj; cases hj
      | some x =>
        rw [hx] at hj
        have := Option.some.inj hj
        rw [← this]
        exact h.born x (List.mem_iff_getElem?.2 ⟨j, by rw [Array.getElem?_toList]; exact hx⟩)
    · exact h.born e' (List.mem_iff_getElem?.2 ⟨j, by rw [Array.getElem?_toList]; exact hj⟩)
  · have e0 : (es.modify i fun e => { e with key := enc q, val := v }).toList.map (·.born) = es.toList.map (·.born) := by
      apply List.ext_getElem?
      intro j
      rw [List.getElem?_map, Array.getElem?_toList, Array.getElem?_modify, List.getElem?_map, Array.getElem?_toList]
      split
      · cases es[j]? <;> rfl
      · rfl
    rw [e0]; exact h.nodup
theorem Ents.push {es : Array MapEntry} {c : Nat} {m : List (κ × Value)} {q : κ} {v : Value} (h : Ents enc es c m) : Ents enc (es.push { key := enc q, val := v, born := c }) (c + 1) (m ++ [(q, v)]) := by
  refine ⟨by simp [h.kvs, kv, ekv], fun e he => ?_, ?_⟩
  · simp at he
    rcases he with he | rfl
    · have := h.born e (by simpa using he); omega
    · simp
  · simp only [Array.toList_push, List.map_append, List.map_cons, List.map_nil]
    refine List.nodup_append.2 ⟨h.nodup, by simp, ?_⟩
    intro a ha b hb
    obtain ⟨e, he, rfl⟩ := List.mem_map.1 ha
    simp at hb; subst hb
    have := h.born e he; omega
theorem e_mapset {e : TypeId} {g : Nat} {m : List (κ × Value)} {q : κ} {v : Value} [ht : MapT P t kt e] (K : KeyLaw P kt enc) (p : Pick L (MapIs g enc m) L') (h : Ent W (MapIs g enc (setM q v m) :: L') (k undef)) : Ent W L (opN P (sMapSet t (.map (some g)) (enc q) v) Kp k) := fun w hw => by
  obtain ⟨es, c, he, hp⟩ := map_row (hw.pick p)
  have hg := hp.pt_.1
  have hf := findKey_run K q w he.kvs
  refine ⟨?_⟩
  cases hq : fnd q m 0 with
  | none =>
    have : (sMapSet t (.map (some g)) (enc q) v).run P w = .ok .skip { w with heap := w.heap.setIfInBounds g (.map (es.push { key := enc q, val := v, born := c }) (c + 1)) } := by
      simp [sMapSet, Instr.mapUpdate, run_underlying ht.ut, MapKept.run_getObj_map hg, K.check, hf, hq, Result.andThen, MapKept.run_setObj_map _ hg]
    rw [this]
    refine h _ (map_back ?_ (hp.putObj _))
    rw [setM_none q v m 0 hq]; exact he.push
  | some r =>
    obtain ⟨i, u⟩ := r
    obtain ⟨_, h2, h3, h4⟩ := setM_some q v m 0 i u hq
    rw [Nat.sub_zero] at h2 h3 h4
    obtain ⟨en, hen, e1, e2⟩ := kvs_get he.kvs h4
    have hk : (Instr.keyThatStays (((es[i]?).map (·.key)).getD (enc q)) (enc q)).run P w = .ok (enc q) w := by
      rw [hen]
      simp only [Option.map_some, Option.getD_some, e1]
      unfold Instr.keyThatStays
      rw [if_pos (K.same q)]; rfl
    have : (sMapSet t (.map (some g)) (enc q) v).run P w = .ok .skip { w with heap := w.heap.setIfInBounds g (.map (es.modify i fun e => { e with key := enc q, val := v }) c) } := by
      simp [sMapSet, Instr.mapUpdate, run_underlying ht.ut, MapKept.run_getObj_map hg, K.check, hf, hq, Result.andThen, hk, MapKept.run_setObj_map _ hg]
    rw [this]
    refine h _ (map_back ?_ (hp.putObj _))
    rw [h3]; exact he.put h4
end Go.Proofs.YtcmpkkkigmheoaaGreatDoor.Sl
/-! What the loaded program's types are, one fact a line; printed by a program of mine. No conditions. -/
namespace Go.Proofs.YtcmpkkkigmheoaaGreatDoor.T
open Go Go.Proofs Go.Proofs.YtcmpkkkigmheoaaGreatDoor.Sh Go.Proofs.YtcmpkkkigmheoaaGreatDoor.Sl
theorem fld {P : Program} {t : TypeId} {fs : Array Field} {f ft o n : Nat} (hu : ∀ w, (underlying t).run P w = .ok (.struct fs) w) (hf : (fs[f]?).map (fun x => (x.type, x.offset)) = some (ft, o)) (hs : ∀ w, (sizeOf ft).run P w = .ok (n + 1) w) : FldT P t f o :=
  ⟨fun g b w => by
    cases h : fs[f]? with
    | none => rw [h] at hf; cases hf
    | some fl =>
      rw [h] at hf
      simp only [Option.map_some, Option.some.injEq, Prod.mk.injEq] at hf
      obtain ⟨rfl, rfl⟩ := hf
      simp only [Instr.fieldAt, Sem.run_bind, hu, Result.andThen_ok, h, Instr.sureAddr, fieldPlace, hs, Sem.run_pure]
      by_cases h0 : fl.offset = 0 <;> simp [Addr.add, h0]⟩
theorem slt {P : Program} {t e : TypeId} {i : TypeInfo} {z : Value} {s b : Nat} (hu : P.underlying t = some (.slice e)) (hi : P.info? e = some i) (hz : i.zero = some z) (hs : i.size = s) (hb : i.bytes = b) (hzs : z.cells.size = s) : SlT P t e s b := ⟨hu, i, z, hi, hz, hs, hb, hzs⟩

instance one_1 : OneT Tryz.prog 1 := ⟨Tryz.isAgg1, Tryz.sizeOf1⟩
instance zero_1 : ZeroT Tryz.prog 1 .nilFunc := ⟨Tryz.zeroValue1⟩
instance one_2 : OneT Tryz.prog 2 := ⟨Tryz.isAgg2, Tryz.sizeOf2⟩
instance zero_2 : ZeroT Tryz.prog 2 (.int .i64 0) := ⟨Tryz.zeroValue2⟩
instance int_2 : IntT Tryz.prog 2 .i64 := ⟨Tryz.runUnderlying2⟩
instance one_3 : OneT Tryz.prog 3 := ⟨Tryz.isAgg3, Tryz.sizeOf3⟩
instance zero_3 : ZeroT Tryz.prog 3 (.int .i64 0) := ⟨Tryz.zeroValue3⟩
instance int_3 : IntT Tryz.prog 3 .i64 := ⟨Tryz.runUnderlying3⟩
instance one_4 : OneT Tryz.prog 4 := ⟨Tryz.isAgg4, Tryz.sizeOf4⟩
instance zero_4 : ZeroT Tryz.prog 4 (.bool false) := ⟨Tryz.zeroValue4⟩
instance one_5 : OneT Tryz.prog 5 := ⟨Tryz.isAgg5, Tryz.sizeOf5⟩
instance zero_5 : ZeroT Tryz.prog 5 (.int .u8 0) := ⟨Tryz.zeroValue5⟩
instance int_5 : IntT Tryz.prog 5 .u8 := ⟨Tryz.runUnderlying5⟩
instance one_6 : OneT Tryz.prog 6 := ⟨Tryz.isAgg6, Tryz.sizeOf6⟩
instance zero_6 : ZeroT Tryz.prog 6 (.int .u8 0) := ⟨Tryz.zeroValue6⟩
instance int_6 : IntT Tryz.prog 6 .u8 := ⟨Tryz.runUnderlying6⟩
instance zero_7 : ZeroT Tryz.prog 7 (.agg #[(.int .i64 0), (.int .i64 0), (.bool false), (.int .u8 0)]) := ⟨Tryz.zeroValue7⟩
instance agg_7 : AggT Tryz.prog 7 4 := ⟨Tryz.isAgg7, Tryz.sizeOf7⟩
instance fld_7_0 : FldT Tryz.prog 7 0 0 := fld Tryz.runUnderlying7 (ft := 2) (by kernel_rfl) Tryz.sizeOf2
instance fld_7_1 : FldT Tryz.prog 7 1 1 := fld Tryz.runUnderlying7 (ft := 3) (by kernel_rfl) Tryz.sizeOf3
instance fld_7_2 : FldT Tryz.prog 7 2 2 := fld Tryz.runUnderlying7 (ft := 4) (by kernel_rfl) Tryz.sizeOf4
instance fld_7_3 : FldT Tryz.prog 7 3 3 := fld Tryz.runUnderlying7 (ft := 6) (by kernel_rfl) Tryz.sizeOf6
instance zero_8 : ZeroT Tryz.prog 8 (.agg #[(.int .i64 0), (.int .i64 0), (.bool false), (.int .u8 0)]) := ⟨Tryz.zeroValue8⟩
instance agg_8 : AggT Tryz.prog 8 4 := ⟨Tryz.isAgg8, Tryz.sizeOf8⟩
instance fld_8_0 : FldT Tryz.prog 8 0 0 := fld Tryz.runUnderlying8 (ft := 2) (by kernel_rfl) Tryz.sizeOf2
instance fld_8_1 : FldT Tryz.prog 8 1 1 := fld Tryz.runUnderlying8 (ft := 3) (by kernel_rfl) Tryz.sizeOf3
instance fld_8_2 : FldT Tryz.prog 8 2 2 := fld Tryz.runUnderlying8 (ft := 4) (by kernel_rfl) Tryz.sizeOf4
instance fld_8_3 : FldT Tryz.prog 8 3 3 := fld Tryz.runUnderlying8 (ft := 6) (by kernel_rfl) Tryz.sizeOf6
instance one_9 : OneT Tryz.prog 9 := ⟨Tryz.isAgg9, Tryz.sizeOf9⟩
instance zero_9 : ZeroT Tryz.prog 9 (.string ⟨#[]⟩) := ⟨Tryz.zeroValue9⟩
instance str_9 : StrT Tryz.prog 9 := ⟨Tryz.underlying9⟩
instance one_10 : OneT Tryz.prog 10 := ⟨Tryz.isAgg10, Tryz.sizeOf10⟩
instance zero_10 : ZeroT Tryz.prog 10 (.string ⟨#[]⟩) := ⟨Tryz.zeroValue10⟩
instance str_10 : StrT Tryz.prog 10 := ⟨Tryz.underlying10⟩
instance one_11 : OneT Tryz.prog 11 := ⟨Tryz.isAgg11, Tryz.sizeOf11⟩
instance zero_11 : ZeroT Tryz.prog 11 (.string ⟨#[]⟩) := ⟨Tryz.zeroValue11⟩
instance str_11 : StrT Tryz.prog 11 := ⟨Tryz.underlying11⟩
instance one_12 : OneT Tryz.prog 12 := ⟨Tryz.isAgg12, Tryz.sizeOf12⟩
instance zero_12 : ZeroT Tryz.prog 12 (.int .u64 0) := ⟨Tryz.zeroValue12⟩
instance int_12 : IntT Tryz.prog 12 .u64 := ⟨Tryz.runUnderlying12⟩
instance zero_13 : ZeroT Tryz.prog 13 (.agg #[(.string ⟨#[]⟩), (.int .u64 0)]) := ⟨Tryz.zeroValue13⟩
instance agg_13 : AggT Tryz.prog 13 2 := ⟨Tryz.isAgg13, Tryz.sizeOf13⟩
instance fld_13_0 : FldT Tryz.prog 13 0 0 := fld Tryz.runUnderlying13 (ft := 9) (by kernel_rfl) Tryz.sizeOf9
instance fld_13_1 : FldT Tryz.prog 13 1 1 := fld Tryz.runUnderlying13 (ft := 12) (by kernel_rfl) Tryz.sizeOf12
instance zero_14 : ZeroT Tryz.prog 14 (.agg #[(.string ⟨#[]⟩), (.int .u64 0)]) := ⟨Tryz.zeroValue14⟩
instance agg_14 : AggT Tryz.prog 14 2 := ⟨Tryz.isAgg14, Tryz.sizeOf14⟩
instance fld_14_0 : FldT Tryz.prog 14 0 0 := fld Tryz.runUnderlying14 (ft := 9) (by kernel_rfl) Tryz.sizeOf9
instance fld_14_1 : FldT Tryz.prog 14 1 1 := fld Tryz.runUnderlying14 (ft := 12) (by kernel_rfl) Tryz.sizeOf12
instance one_15 : OneT Tryz.prog 15 := ⟨Tryz.isAgg15, Tryz.sizeOf15⟩
instance zero_15 : ZeroT Tryz.prog 15 (.pointer none) := ⟨Tryz.zeroValue15⟩
instance ptr_15 : PtrT Tryz.prog 15 := ⟨by kernel_rfl⟩
instance one_16 : OneT Tryz.prog 16 := ⟨Tryz.isAgg16, Tryz.sizeOf16⟩
instance zero_16 : ZeroT Tryz.prog 16 (.pointer none) := ⟨Tryz.zeroValue16⟩
instance ptr_16 : PtrT Tryz.prog 16 := ⟨by kernel_rfl⟩
instance one_17 : OneT Tryz.prog 17 := ⟨Tryz.isAgg17, Tryz.sizeOf17⟩
instance zero_17 : ZeroT Tryz.prog 17 (.pointer none) := ⟨Tryz.zeroValue17⟩
instance ptr_17 : PtrT Tryz.prog 17 := ⟨by kernel_rfl⟩
instance zero_18 : ZeroT Tryz.prog 18 (.agg #[(.pointer none)]) := ⟨Tryz.zeroValue18⟩
instance agg_18 : AggT Tryz.prog 18 1 := ⟨Tryz.isAgg18, Tryz.sizeOf18⟩
instance fld_18_0 : FldT Tryz.prog 18 0 0 := fld Tryz.runUnderlying18 (ft := 17) (by kernel_rfl) Tryz.sizeOf17
instance zero_19 : ZeroT Tryz.prog 19 (.agg #[(.pointer none)]) := ⟨Tryz.zeroValue19⟩
instance agg_19 : AggT Tryz.prog 19 1 := ⟨Tryz.isAgg19, Tryz.sizeOf19⟩
instance fld_19_0 : FldT Tryz.prog 19 0 0 := fld Tryz.runUnderlying19 (ft := 17) (by kernel_rfl) Tryz.sizeOf17
instance one_20 : OneT Tryz.prog 20 := ⟨Tryz.isAgg20, Tryz.sizeOf20⟩
instance zero_20 : ZeroT Tryz.prog 20 .nilIface := ⟨Tryz.zeroValue20⟩
instance one_21 : OneT Tryz.prog 21 := ⟨Tryz.isAgg21, Tryz.sizeOf21⟩
instance zero_21 : ZeroT Tryz.prog 21 (.int .i32 0) := ⟨Tryz.zeroValue21⟩
instance int_21 : IntT Tryz.prog 21 .i32 := ⟨Tryz.runUnderlying21⟩
instance one_22 : OneT Tryz.prog 22 := ⟨Tryz.isAgg22, Tryz.sizeOf22⟩
instance zero_22 : ZeroT Tryz.prog 22 (.slice none 0 0) := ⟨Tryz.zeroValue22⟩
instance sl_22 : SlT Tryz.prog 22 63 2 32 := slt (z := (.agg #[(.string ⟨#[]⟩), (.string ⟨#[]⟩)])) Tryz.underlying22 (i := Tryz.t63) (by kernel_rfl) (by kernel_rfl) (by kernel_rfl) (by kernel_rfl) (by kernel_rfl)
instance zero_23 : ZeroT Tryz.prog 23 (.agg #[(.bool false), (.string ⟨#[]⟩)]) := ⟨Tryz.zeroValue23⟩
instance agg_23 : AggT Tryz.prog 23 2 := ⟨Tryz.isAgg23, Tryz.sizeOf23⟩
instance fld_23_0 : FldT Tryz.prog 23 0 0 := fld Tryz.runUnderlying23 (ft := 4) (by kernel_rfl) Tryz.sizeOf4
instance fld_23_1 : FldT Tryz.prog 23 1 1 := fld Tryz.runUnderlying23 (ft := 9) (by kernel_rfl) Tryz.sizeOf9
instance zero_24 : ZeroT Tryz.prog 24 (.agg #[(.bool false), (.string ⟨#[]⟩)]) := ⟨Tryz.zeroValue24⟩
instance agg_24 : AggT Tryz.prog 24 2 := ⟨Tryz.isAgg24, Tryz.sizeOf24⟩
instance fld_24_0 : FldT Tryz.prog 24 0 0 := fld Tryz.runUnderlying24 (ft := 4) (by kernel_rfl) Tryz.sizeOf4
instance fld_24_1 : FldT Tryz.prog 24 1 1 := fld Tryz.runUnderlying24 (ft := 9) (by kernel_rfl) Tryz.sizeOf9
instance zero_25 : ZeroT Tryz.prog 25 (.agg #[(.bool false), (.string ⟨#[]⟩), (.int .i64 0), (.bool false)]) := ⟨Tryz.zeroValue25⟩
instance agg_25 : AggT Tryz.prog 25 4 := ⟨Tryz.isAgg25, Tryz.sizeOf25⟩
instance fld_25_0 : FldT Tryz.prog 25 0 0 := fld Tryz.runUnderlying25 (ft := 24) (by kernel_rfl) Tryz.sizeOf24
instance fld_25_1 : FldT Tryz.prog 25 1 2 := fld Tryz.runUnderlying25 (ft := 3) (by kernel_rfl) Tryz.sizeOf3
instance fld_25_2 : FldT Tryz.prog 25 2 3 := fld Tryz.runUnderlying25 (ft := 4) (by kernel_rfl) Tryz.sizeOf4
instance zero_26 : ZeroT Tryz.prog 26 (.agg #[(.bool false), (.string ⟨#[]⟩), (.int .i64 0), (.bool false)]) := ⟨Tryz.zeroValue26⟩
instance agg_26 : AggT Tryz.prog 26 4 := ⟨Tryz.isAgg26, Tryz.sizeOf26⟩
instance fld_26_0 : FldT Tryz.prog 26 0 0 := fld Tryz.runUnderlying26 (ft := 24) (by kernel_rfl) Tryz.sizeOf24
instance fld_26_1 : FldT Tryz.prog 26 1 2 := fld Tryz.runUnderlying26 (ft := 3) (by kernel_rfl) Tryz.sizeOf3
instance fld_26_2 : FldT Tryz.prog 26 2 3 := fld Tryz.runUnderlying26 (ft := 4) (by kernel_rfl) Tryz.sizeOf4
instance one_27 : OneT Tryz.prog 27 := ⟨Tryz.isAgg27, Tryz.sizeOf27⟩
instance zero_27 : ZeroT Tryz.prog 27 .nilFunc := ⟨Tryz.zeroValue27⟩
instance zero_28 : ZeroT Tryz.prog 28 (.agg #[(.bool false), (.string ⟨#[]⟩)]) := ⟨Tryz.zeroValue28⟩
instance agg_28 : AggT Tryz.prog 28 2 := ⟨Tryz.isAgg28, Tryz.sizeOf28⟩
instance fld_28_0 : FldT Tryz.prog 28 0 0 := fld Tryz.runUnderlying28 (ft := 4) (by kernel_rfl) Tryz.sizeOf4
instance fld_28_1 : FldT Tryz.prog 28 1 1 := fld Tryz.runUnderlying28 (ft := 9) (by kernel_rfl) Tryz.sizeOf9
instance zero_29 : ZeroT Tryz.prog 29 (.agg #[(.bool false), (.string ⟨#[]⟩), (.int .i64 0), (.bool false)]) := ⟨Tryz.zeroValue29⟩
instance agg_29 : AggT Tryz.prog 29 4 := ⟨Tryz.isAgg29, Tryz.sizeOf29⟩
instance fld_29_0 : FldT Tryz.prog 29 0 0 := fld Tryz.runUnderlying29 (ft := 28) (by kernel_rfl) Tryz.sizeOf28
instance fld_29_1 : FldT Tryz.prog 29 1 2 := fld Tryz.runUnderlying29 (ft := 3) (by kernel_rfl) Tryz.sizeOf3
instance fld_29_2 : FldT Tryz.prog 29 2 3 := fld Tryz.runUnderlying29 (ft := 4) (by kernel_rfl) Tryz.sizeOf4
instance zero_30 : ZeroT Tryz.prog 30 (.agg #[(.bool false), (.string ⟨#[]⟩), (.int .i64 0), (.bool false)]) := ⟨Tryz.zeroValue30⟩
instance agg_30 : AggT Tryz.prog 30 4 := ⟨Tryz.isAgg30, Tryz.sizeOf30⟩
instance fld_30_0 : FldT Tryz.prog 30 0 0 := fld Tryz.runUnderlying30 (ft := 28) (by kernel_rfl) Tryz.sizeOf28
instance fld_30_1 : FldT Tryz.prog 30 1 2 := fld Tryz.runUnderlying30 (ft := 3) (by kernel_rfl) Tryz.sizeOf3
instance fld_30_2 : FldT Tryz.prog 30 2 3 := fld Tryz.runUnderlying30 (ft := 4) (by kernel_rfl) Tryz.sizeOf4
instance one_31 : OneT Tryz.prog 31 := ⟨Tryz.isAgg31, Tryz.sizeOf31⟩
instance zero_31 : ZeroT Tryz.prog 31 .nilFunc := ⟨Tryz.zeroValue31⟩
instance one_32 : OneT Tryz.prog 32 := ⟨Tryz.isAgg32, Tryz.sizeOf32⟩
instance zero_32 : ZeroT Tryz.prog 32 .nilFunc := ⟨Tryz.zeroValue32⟩
instance one_33 : OneT Tryz.prog 33 := ⟨Tryz.isAgg33, Tryz.sizeOf33⟩
instance zero_33 : ZeroT Tryz.prog 33 .nilFunc := ⟨Tryz.zeroValue33⟩
instance one_34 : OneT Tryz.prog 34 := ⟨Tryz.isAgg34, Tryz.sizeOf34⟩
instance zero_34 : ZeroT Tryz.prog 34 .nilFunc := ⟨Tryz.zeroValue34⟩
instance one_35 : OneT Tryz.prog 35 := ⟨Tryz.isAgg35, Tryz.sizeOf35⟩
instance zero_35 : ZeroT Tryz.prog 35 .nilFunc := ⟨Tryz.zeroValue35⟩
instance one_36 : OneT Tryz.prog 36 := ⟨Tryz.isAgg36, Tryz.sizeOf36⟩
instance zero_36 : ZeroT Tryz.prog 36 .nilFunc := ⟨Tryz.zeroValue36⟩
instance zero_37 : ZeroT Tryz.prog 37 (.agg #[(.bool false), (.slice none 0 0), (.bool false), (.string ⟨#[]⟩), (.int .i64 0), (.bool false), (.int .i64 0)]) := ⟨Tryz.zeroValue37⟩
instance agg_37 : AggT Tryz.prog 37 7 := ⟨Tryz.isAgg37, Tryz.sizeOf37⟩
instance fld_37_0 : FldT Tryz.prog 37 0 0 := fld Tryz.runUnderlying37 (ft := 4) (by kernel_rfl) Tryz.sizeOf4
instance fld_37_1 : FldT Tryz.prog 37 1 1 := fld Tryz.runUnderlying37 (ft := 22) (by kernel_rfl) Tryz.sizeOf22
instance fld_37_2 : FldT Tryz.prog 37 2 2 := fld Tryz.runUnderlying37 (ft := 30) (by kernel_rfl) Tryz.sizeOf30
instance fld_37_3 : FldT Tryz.prog 37 3 6 := fld Tryz.runUnderlying37 (ft := 3) (by kernel_rfl) Tryz.sizeOf3
instance zero_38 : ZeroT Tryz.prog 38 (.agg #[(.bool false), (.slice none 0 0), (.bool false), (.string ⟨#[]⟩), (.int .i64 0), (.bool false), (.int .i64 0)]) := ⟨Tryz.zeroValue38⟩
instance agg_38 : AggT Tryz.prog 38 7 := ⟨Tryz.isAgg38, Tryz.sizeOf38⟩
instance fld_38_0 : FldT Tryz.prog 38 0 0 := fld Tryz.runUnderlying38 (ft := 4) (by kernel_rfl) Tryz.sizeOf4
instance fld_38_1 : FldT Tryz.prog 38 1 1 := fld Tryz.runUnderlying38 (ft := 22) (by kernel_rfl) Tryz.sizeOf22
instance fld_38_2 : FldT Tryz.prog 38 2 2 := fld Tryz.runUnderlying38 (ft := 30) (by kernel_rfl) Tryz.sizeOf30
instance fld_38_3 : FldT Tryz.prog 38 3 6 := fld Tryz.runUnderlying38 (ft := 3) (by kernel_rfl) Tryz.sizeOf3
instance one_40 : OneT Tryz.prog 40 := ⟨Tryz.isAgg40, Tryz.sizeOf40⟩
instance zero_40 : ZeroT Tryz.prog 40 .nilFunc := ⟨Tryz.zeroValue40⟩
instance one_41 : OneT Tryz.prog 41 := ⟨Tryz.isAgg41, Tryz.sizeOf41⟩
instance zero_41 : ZeroT Tryz.prog 41 .nilFunc := ⟨Tryz.zeroValue41⟩
instance one_43 : OneT Tryz.prog 43 := ⟨Tryz.isAgg43, Tryz.sizeOf43⟩
instance zero_43 : ZeroT Tryz.prog 43 .nilFunc := ⟨Tryz.zeroValue43⟩
instance one_44 : OneT Tryz.prog 44 := ⟨Tryz.isAgg44, Tryz.sizeOf44⟩
instance zero_44 : ZeroT Tryz.prog 44 .nilFunc := ⟨Tryz.zeroValue44⟩
instance zero_45 : ZeroT Tryz.prog 45 (.agg #[.nilFunc, .nilFunc]) := ⟨Tryz.zeroValue45⟩
instance agg_45 : AggT Tryz.prog 45 2 := ⟨Tryz.isAgg45, Tryz.sizeOf45⟩
instance arr_45 : ArrT Tryz.prog 45 2 44 1 := ⟨Tryz.runUnderlying45, Tryz.sizeOf44⟩
instance one_46 : OneT Tryz.prog 46 := ⟨Tryz.isAgg46, Tryz.sizeOf46⟩
instance zero_46 : ZeroT Tryz.prog 46 .nilFunc := ⟨Tryz.zeroValue46⟩
instance one_47 : OneT Tryz.prog 47 := ⟨Tryz.isAgg47, Tryz.sizeOf47⟩
instance zero_47 : ZeroT Tryz.prog 47 .nilFunc := ⟨Tryz.zeroValue47⟩
instance one_49 : OneT Tryz.prog 49 := ⟨Tryz.isAgg49, Tryz.sizeOf49⟩
instance zero_49 : ZeroT Tryz.prog 49 .nilFunc := ⟨Tryz.zeroValue49⟩
instance zero_50 : ZeroT Tryz.prog 50 (.agg #[.nilFunc, (.int .i64 0)]) := ⟨Tryz.zeroValue50⟩
instance agg_50 : AggT Tryz.prog 50 2 := ⟨Tryz.isAgg50, Tryz.sizeOf50⟩
instance fld_50_0 : FldT Tryz.prog 50 0 0 := fld Tryz.runUnderlying50 (ft := 41) (by kernel_rfl) Tryz.sizeOf41
instance fld_50_1 : FldT Tryz.prog 50 1 1 := fld Tryz.runUnderlying50 (ft := 3) (by kernel_rfl) Tryz.sizeOf3
instance zero_51 : ZeroT Tryz.prog 51 (.agg #[.nilFunc, (.int .i64 0)]) := ⟨Tryz.zeroValue51⟩
instance agg_51 : AggT Tryz.prog 51 2 := ⟨Tryz.isAgg51, Tryz.sizeOf51⟩
instance fld_51_0 : FldT Tryz.prog 51 0 0 := fld Tryz.runUnderlying51 (ft := 41) (by kernel_rfl) Tryz.sizeOf41
instance fld_51_1 : FldT Tryz.prog 51 1 1 := fld Tryz.runUnderlying51 (ft := 3) (by kernel_rfl) Tryz.sizeOf3
instance one_52 : OneT Tryz.prog 52 := ⟨Tryz.isAgg52, Tryz.sizeOf52⟩
instance zero_52 : ZeroT Tryz.prog 52 (.int .i64 0) := ⟨Tryz.zeroValue52⟩
instance int_52 : IntT Tryz.prog 52 .i64 := ⟨Tryz.runUnderlying52⟩
instance one_54 : OneT Tryz.prog 54 := ⟨Tryz.isAgg54, Tryz.sizeOf54⟩
instance zero_54 : ZeroT Tryz.prog 54 .nilFunc := ⟨Tryz.zeroValue54⟩
instance one_56 : OneT Tryz.prog 56 := ⟨Tryz.isAgg56, Tryz.sizeOf56⟩
instance zero_56 : ZeroT Tryz.prog 56 .nilFunc := ⟨Tryz.zeroValue56⟩
instance one_58 : OneT Tryz.prog 58 := ⟨Tryz.isAgg58, Tryz.sizeOf58⟩
instance zero_58 : ZeroT Tryz.prog 58 .nilFunc := ⟨Tryz.zeroValue58⟩
instance one_59 : OneT Tryz.prog 59 := ⟨Tryz.isAgg59, Tryz.sizeOf59⟩
instance zero_59 : ZeroT Tryz.prog 59 .nilFunc := ⟨Tryz.zeroValue59⟩
instance one_61 : OneT Tryz.prog 61 := ⟨Tryz.isAgg61, Tryz.sizeOf61⟩
instance zero_61 : ZeroT Tryz.prog 61 .nilFunc := ⟨Tryz.zeroValue61⟩
instance zero_62 : ZeroT Tryz.prog 62 (.agg #[(.string ⟨#[]⟩), (.string ⟨#[]⟩)]) := ⟨Tryz.zeroValue62⟩
instance agg_62 : AggT Tryz.prog 62 2 := ⟨Tryz.isAgg62, Tryz.sizeOf62⟩
instance fld_62_0 : FldT Tryz.prog 62 0 0 := fld Tryz.runUnderlying62 (ft := 9) (by kernel_rfl) Tryz.sizeOf9
instance fld_62_1 : FldT Tryz.prog 62 1 1 := fld Tryz.runUnderlying62 (ft := 9) (by kernel_rfl) Tryz.sizeOf9
instance zero_63 : ZeroT Tryz.prog 63 (.agg #[(.string ⟨#[]⟩), (.string ⟨#[]⟩)]) := ⟨Tryz.zeroValue63⟩
instance agg_63 : AggT Tryz.prog 63 2 := ⟨Tryz.isAgg63, Tryz.sizeOf63⟩
instance fld_63_0 : FldT Tryz.prog 63 0 0 := fld Tryz.runUnderlying63 (ft := 9) (by kernel_rfl) Tryz.sizeOf9
instance fld_63_1 : FldT Tryz.prog 63 1 1 := fld Tryz.runUnderlying63 (ft := 9) (by kernel_rfl) Tryz.sizeOf9
instance one_64 : OneT Tryz.prog 64 := ⟨Tryz.isAgg64, Tryz.sizeOf64⟩
instance zero_64 : ZeroT Tryz.prog 64 .nilFunc := ⟨Tryz.zeroValue64⟩
instance one_65 : OneT Tryz.prog 65 := ⟨Tryz.isAgg65, Tryz.sizeOf65⟩
instance zero_65 : ZeroT Tryz.prog 65 .nilFunc := ⟨Tryz.zeroValue65⟩
instance one_66 : OneT Tryz.prog 66 := ⟨Tryz.isAgg66, Tryz.sizeOf66⟩
instance zero_66 : ZeroT Tryz.prog 66 (.slice none 0 0) := ⟨Tryz.zeroValue66⟩
instance sl_66 : SlT Tryz.prog 66 9 1 16 := slt (z := (.string ⟨#[]⟩)) Tryz.underlying66 (i := Tryz.t9) (by kernel_rfl) (by kernel_rfl) (by kernel_rfl) (by kernel_rfl) (by kernel_rfl)
instance one_67 : OneT Tryz.prog 67 := ⟨Tryz.isAgg67, Tryz.sizeOf67⟩
instance zero_67 : ZeroT Tryz.prog 67 .nilFunc := ⟨Tryz.zeroValue67⟩
instance one_68 : OneT Tryz.prog 68 := ⟨Tryz.isAgg68, Tryz.sizeOf68⟩
instance zero_68 : ZeroT Tryz.prog 68 (.slice none 0 0) := ⟨Tryz.zeroValue68⟩
instance sl_68 : SlT Tryz.prog 68 28 2 24 := slt (z := (.agg #[(.bool false), (.string ⟨#[]⟩)])) Tryz.underlying68 (i := Tryz.t28) (by kernel_rfl) (by kernel_rfl) (by kernel_rfl) (by kernel_rfl) (by kernel_rfl)
instance one_70 : OneT Tryz.prog 70 := ⟨Tryz.isAgg70, Tryz.sizeOf70⟩
instance zero_70 : ZeroT Tryz.prog 70 .nilFunc := ⟨Tryz.zeroValue70⟩
instance one_71 : OneT Tryz.prog 71 := ⟨Tryz.isAgg71, Tryz.sizeOf71⟩
instance zero_71 : ZeroT Tryz.prog 71 .nilFunc := ⟨Tryz.zeroValue71⟩
instance one_72 : OneT Tryz.prog 72 := ⟨Tryz.isAgg72, Tryz.sizeOf72⟩
instance zero_72 : ZeroT Tryz.prog 72 (.slice none 0 0) := ⟨Tryz.zeroValue72⟩
instance sl_72 : SlT Tryz.prog 72 24 2 24 := slt (z := (.agg #[(.bool false), (.string ⟨#[]⟩)])) Tryz.underlying72 (i := Tryz.t24) (by kernel_rfl) (by kernel_rfl) (by kernel_rfl) (by kernel_rfl) (by kernel_rfl)
instance one_74 : OneT Tryz.prog 74 := ⟨Tryz.isAgg74, Tryz.sizeOf74⟩
instance zero_74 : ZeroT Tryz.prog 74 .nilFunc := ⟨Tryz.zeroValue74⟩
instance one_76 : OneT Tryz.prog 76 := ⟨Tryz.isAgg76, Tryz.sizeOf76⟩
instance zero_76 : ZeroT Tryz.prog 76 .nilFunc := ⟨Tryz.zeroValue76⟩
instance one_77 : OneT Tryz.prog 77 := ⟨Tryz.isAgg77, Tryz.sizeOf77⟩
instance zero_77 : ZeroT Tryz.prog 77 .nilFunc := ⟨Tryz.zeroValue77⟩
instance one_78 : OneT Tryz.prog 78 := ⟨Tryz.isAgg78, Tryz.sizeOf78⟩
instance zero_78 : ZeroT Tryz.prog 78 .nilFunc := ⟨Tryz.zeroValue78⟩
instance one_79 : OneT Tryz.prog 79 := ⟨Tryz.isAgg79, Tryz.sizeOf79⟩
instance zero_79 : ZeroT Tryz.prog 79 (.pointer none) := ⟨Tryz.zeroValue79⟩
instance ptr_79 : PtrT Tryz.prog 79 := ⟨by kernel_rfl⟩
instance zero_80 : ZeroT Tryz.prog 80 (.agg #[.nilFunc, .nilFunc, .nilFunc]) := ⟨Tryz.zeroValue80⟩
instance agg_80 : AggT Tryz.prog 80 3 := ⟨Tryz.isAgg80, Tryz.sizeOf80⟩
instance arr_80 : ArrT Tryz.prog 80 3 77 1 := ⟨Tryz.runUnderlying80, Tryz.sizeOf77⟩
instance one_81 : OneT Tryz.prog 81 := ⟨Tryz.isAgg81, Tryz.sizeOf81⟩
instance zero_81 : ZeroT Tryz.prog 81 .nilFunc := ⟨Tryz.zeroValue81⟩
instance one_82 : OneT Tryz.prog 82 := ⟨Tryz.isAgg82, Tryz.sizeOf82⟩
instance zero_82 : ZeroT Tryz.prog 82 .nilFunc := ⟨Tryz.zeroValue82⟩
instance zero_83 : ZeroT Tryz.prog 83 (.agg #[(.int .i64 0), (.int .i64 0), (.int .i64 0), (.int .i64 0), (.int .i64 0), (.int .i64 0), (.int .i64 0)]) := ⟨Tryz.zeroValue83⟩
instance agg_83 : AggT Tryz.prog 83 7 := ⟨Tryz.isAgg83, Tryz.sizeOf83⟩
instance fld_83_0 : FldT Tryz.prog 83 0 0 := fld Tryz.runUnderlying83 (ft := 3) (by kernel_rfl) Tryz.sizeOf3
instance fld_83_1 : FldT Tryz.prog 83 1 1 := fld Tryz.runUnderlying83 (ft := 3) (by kernel_rfl) Tryz.sizeOf3
instance fld_83_2 : FldT Tryz.prog 83 2 2 := fld Tryz.runUnderlying83 (ft := 3) (by kernel_rfl) Tryz.sizeOf3
instance fld_83_3 : FldT Tryz.prog 83 3 3 := fld Tryz.runUnderlying83 (ft := 3) (by kernel_rfl) Tryz.sizeOf3
instance fld_83_4 : FldT Tryz.prog 83 4 4 := fld Tryz.runUnderlying83 (ft := 3) (by kernel_rfl) Tryz.sizeOf3
instance fld_83_5 : FldT Tryz.prog 83 5 5 := fld Tryz.runUnderlying83 (ft := 3) (by kernel_rfl) Tryz.sizeOf3
instance fld_83_6 : FldT Tryz.prog 83 6 6 := fld Tryz.runUnderlying83 (ft := 3) (by kernel_rfl) Tryz.sizeOf3
instance zero_84 : ZeroT Tryz.prog 84 (.agg #[(.int .i64 0), (.int .i64 0), (.int .i64 0), (.int .i64 0), (.int .i64 0), (.int .i64 0), (.int .i64 0)]) := ⟨Tryz.zeroValue84⟩
instance agg_84 : AggT Tryz.prog 84 7 := ⟨Tryz.isAgg84, Tryz.sizeOf84⟩
instance fld_84_0 : FldT Tryz.prog 84 0 0 := fld Tryz.runUnderlying84 (ft := 3) (by kernel_rfl) Tryz.sizeOf3
instance fld_84_1 : FldT Tryz.prog 84 1 1 := fld Tryz.runUnderlying84 (ft := 3) (by kernel_rfl) Tryz.sizeOf3
instance fld_84_2 : FldT Tryz.prog 84 2 2 := fld Tryz.runUnderlying84 (ft := 3) (by kernel_rfl) Tryz.sizeOf3
instance fld_84_3 : FldT Tryz.prog 84 3 3 := fld Tryz.runUnderlying84 (ft := 3) (by kernel_rfl) Tryz.sizeOf3
instance fld_84_4 : FldT Tryz.prog 84 4 4 := fld Tryz.runUnderlying84 (ft := 3) (by kernel_rfl) Tryz.sizeOf3
instance fld_84_5 : FldT Tryz.prog 84 5 5 := fld Tryz.runUnderlying84 (ft := 3) (by kernel_rfl) Tryz.sizeOf3
instance fld_84_6 : FldT Tryz.prog 84 6 6 := fld Tryz.runUnderlying84 (ft := 3) (by kernel_rfl) Tryz.sizeOf3
instance one_85 : OneT Tryz.prog 85 := ⟨Tryz.isAgg85, Tryz.sizeOf85⟩
instance zero_85 : ZeroT Tryz.prog 85 .nilFunc := ⟨Tryz.zeroValue85⟩
instance one_86 : OneT Tryz.prog 86 := ⟨Tryz.isAgg86, Tryz.sizeOf86⟩
instance zero_86 : ZeroT Tryz.prog 86 .nilFunc := ⟨Tryz.zeroValue86⟩
instance one_87 : OneT Tryz.prog 87 := ⟨Tryz.isAgg87, Tryz.sizeOf87⟩
instance zero_87 : ZeroT Tryz.prog 87 .nilFunc := ⟨Tryz.zeroValue87⟩
instance one_88 : OneT Tryz.prog 88 := ⟨Tryz.isAgg88, Tryz.sizeOf88⟩
instance zero_88 : ZeroT Tryz.prog 88 .nilFunc := ⟨Tryz.zeroValue88⟩
instance one_89 : OneT Tryz.prog 89 := ⟨Tryz.isAgg89, Tryz.sizeOf89⟩
instance zero_89 : ZeroT Tryz.prog 89 .nilFunc := ⟨Tryz.zeroValue89⟩
instance one_91 : OneT Tryz.prog 91 := ⟨Tryz.isAgg91, Tryz.sizeOf91⟩
instance zero_91 : ZeroT Tryz.prog 91 .nilFunc := ⟨Tryz.zeroValue91⟩
instance zero_92 : ZeroT Tryz.prog 92 (.agg #[(.bool false), (.bool false), .nilFunc]) := ⟨Tryz.zeroValue92⟩
instance agg_92 : AggT Tryz.prog 92 3 := ⟨Tryz.isAgg92, Tryz.sizeOf92⟩
instance fld_92_0 : FldT Tryz.prog 92 0 0 := fld Tryz.runUnderlying92 (ft := 4) (by kernel_rfl) Tryz.sizeOf4
instance fld_92_1 : FldT Tryz.prog 92 1 1 := fld Tryz.runUnderlying92 (ft := 4) (by kernel_rfl) Tryz.sizeOf4
instance fld_92_2 : FldT Tryz.prog 92 2 2 := fld Tryz.runUnderlying92 (ft := 76) (by kernel_rfl) Tryz.sizeOf76
instance zero_93 : ZeroT Tryz.prog 93 (.agg #[(.bool false), (.bool false), .nilFunc]) := ⟨Tryz.zeroValue93⟩
instance agg_93 : AggT Tryz.prog 93 3 := ⟨Tryz.isAgg93, Tryz.sizeOf93⟩
instance fld_93_0 : FldT Tryz.prog 93 0 0 := fld Tryz.runUnderlying93 (ft := 4) (by kernel_rfl) Tryz.sizeOf4
instance fld_93_1 : FldT Tryz.prog 93 1 1 := fld Tryz.runUnderlying93 (ft := 4) (by kernel_rfl) Tryz.sizeOf4
instance fld_93_2 : FldT Tryz.prog 93 2 2 := fld Tryz.runUnderlying93 (ft := 76) (by kernel_rfl) Tryz.sizeOf76
instance one_94 : OneT Tryz.prog 94 := ⟨Tryz.isAgg94, Tryz.sizeOf94⟩
instance zero_94 : ZeroT Tryz.prog 94 (.pointer none) := ⟨Tryz.zeroValue94⟩
instance ptr_94 : PtrT Tryz.prog 94 := ⟨by kernel_rfl⟩
instance one_95 : OneT Tryz.prog 95 := ⟨Tryz.isAgg95, Tryz.sizeOf95⟩
instance zero_95 : ZeroT Tryz.prog 95 (.slice none 0 0) := ⟨Tryz.zeroValue95⟩
instance bytes_95 : BytesT Tryz.prog 95 := ⟨_, Tryz.underlying95, Tryz.underlying5⟩
instance sl_95 : SlT Tryz.prog 95 5 1 1 := slt (z := (.int .u8 0)) Tryz.underlying95 (i := Tryz.t5) (by kernel_rfl) (by kernel_rfl) (by kernel_rfl) (by kernel_rfl) (by kernel_rfl)
instance zero_96 : ZeroT Tryz.prog 96 (.agg #[(.pointer none), (.slice none 0 0)]) := ⟨Tryz.zeroValue96⟩
instance agg_96 : AggT Tryz.prog 96 2 := ⟨Tryz.isAgg96, Tryz.sizeOf96⟩
instance fld_96_0 : FldT Tryz.prog 96 0 0 := fld Tryz.runUnderlying96 (ft := 94) (by kernel_rfl) Tryz.sizeOf94
instance fld_96_1 : FldT Tryz.prog 96 1 1 := fld Tryz.runUnderlying96 (ft := 95) (by kernel_rfl) Tryz.sizeOf95
instance zero_97 : ZeroT Tryz.prog 97 (.agg #[(.pointer none), (.slice none 0 0)]) := ⟨Tryz.zeroValue97⟩
instance agg_97 : AggT Tryz.prog 97 2 := ⟨Tryz.isAgg97, Tryz.sizeOf97⟩
instance fld_97_0 : FldT Tryz.prog 97 0 0 := fld Tryz.runUnderlying97 (ft := 94) (by kernel_rfl) Tryz.sizeOf94
instance fld_97_1 : FldT Tryz.prog 97 1 1 := fld Tryz.runUnderlying97 (ft := 95) (by kernel_rfl) Tryz.sizeOf95
instance one_98 : OneT Tryz.prog 98 := ⟨Tryz.isAgg98, Tryz.sizeOf98⟩
instance zero_98 : ZeroT Tryz.prog 98 .nilFunc := ⟨Tryz.zeroValue98⟩
instance one_99 : OneT Tryz.prog 99 := ⟨Tryz.isAgg99, Tryz.sizeOf99⟩
instance zero_99 : ZeroT Tryz.prog 99 .nilIface := ⟨Tryz.zeroValue99⟩
instance one_100 : OneT Tryz.prog 100 := ⟨Tryz.isAgg100, Tryz.sizeOf100⟩
instance zero_100 : ZeroT Tryz.prog 100 .nilIface := ⟨Tryz.zeroValue100⟩
instance one_102 : OneT Tryz.prog 102 := ⟨Tryz.isAgg102, Tryz.sizeOf102⟩
instance zero_102 : ZeroT Tryz.prog 102 .nilFunc := ⟨Tryz.zeroValue102⟩
instance one_103 : OneT Tryz.prog 103 := ⟨Tryz.isAgg103, Tryz.sizeOf103⟩
instance zero_103 : ZeroT Tryz.prog 103 .nilFunc := ⟨Tryz.zeroValue103⟩
instance one_104 : OneT Tryz.prog 104 := ⟨Tryz.isAgg104, Tryz.sizeOf104⟩
instance zero_104 : ZeroT Tryz.prog 104 .nilFunc := ⟨Tryz.zeroValue104⟩
instance one_105 : OneT Tryz.prog 105 := ⟨Tryz.isAgg105, Tryz.sizeOf105⟩
instance zero_105 : ZeroT Tryz.prog 105 .nilFunc := ⟨Tryz.zeroValue105⟩
instance zero_106 : ZeroT Tryz.prog 106 (.agg #[(.int .i64 0), (.int .i64 0), (.int .i64 0), (.int .i64 0), (.int .i64 0), (.int .i64 0), (.int .i64 0)]) := ⟨Tryz.zeroValue106⟩
instance agg_106 : AggT Tryz.prog 106 7 := ⟨Tryz.isAgg106, Tryz.sizeOf106⟩
instance fld_106_0 : FldT Tryz.prog 106 0 0 := fld Tryz.runUnderlying106 (ft := 3) (by kernel_rfl) Tryz.sizeOf3
instance fld_106_1 : FldT Tryz.prog 106 1 1 := fld Tryz.runUnderlying106 (ft := 3) (by kernel_rfl) Tryz.sizeOf3
instance fld_106_2 : FldT Tryz.prog 106 2 2 := fld Tryz.runUnderlying106 (ft := 3) (by kernel_rfl) Tryz.sizeOf3
instance fld_106_3 : FldT Tryz.prog 106 3 3 := fld Tryz.runUnderlying106 (ft := 3) (by kernel_rfl) Tryz.sizeOf3
instance fld_106_4 : FldT Tryz.prog 106 4 4 := fld Tryz.runUnderlying106 (ft := 3) (by kernel_rfl) Tryz.sizeOf3
instance fld_106_5 : FldT Tryz.prog 106 5 5 := fld Tryz.runUnderlying106 (ft := 3) (by kernel_rfl) Tryz.sizeOf3
instance fld_106_6 : FldT Tryz.prog 106 6 6 := fld Tryz.runUnderlying106 (ft := 3) (by kernel_rfl) Tryz.sizeOf3
instance one_107 : OneT Tryz.prog 107 := ⟨Tryz.isAgg107, Tryz.sizeOf107⟩
instance zero_107 : ZeroT Tryz.prog 107 .nilFunc := ⟨Tryz.zeroValue107⟩
instance one_108 : OneT Tryz.prog 108 := ⟨Tryz.isAgg108, Tryz.sizeOf108⟩
instance zero_108 : ZeroT Tryz.prog 108 .nilFunc := ⟨Tryz.zeroValue108⟩
instance one_109 : OneT Tryz.prog 109 := ⟨Tryz.isAgg109, Tryz.sizeOf109⟩
instance zero_109 : ZeroT Tryz.prog 109 .nilFunc := ⟨Tryz.zeroValue109⟩
instance one_110 : OneT Tryz.prog 110 := ⟨Tryz.isAgg110, Tryz.sizeOf110⟩
instance zero_110 : ZeroT Tryz.prog 110 (.pointer none) := ⟨Tryz.zeroValue110⟩
instance ptr_110 : PtrT Tryz.prog 110 := ⟨by kernel_rfl⟩
instance one_111 : OneT Tryz.prog 111 := ⟨Tryz.isAgg111, Tryz.sizeOf111⟩
instance zero_111 : ZeroT Tryz.prog 111 .nilFunc := ⟨Tryz.zeroValue111⟩
instance zero_112 : ZeroT Tryz.prog 112 (.agg #[(.string ⟨#[]⟩)]) := ⟨Tryz.zeroValue112⟩
instance agg_112 : AggT Tryz.prog 112 1 := ⟨Tryz.isAgg112, Tryz.sizeOf112⟩
instance fld_112_0 : FldT Tryz.prog 112 0 0 := fld Tryz.runUnderlying112 (ft := 9) (by kernel_rfl) Tryz.sizeOf9
instance zero_113 : ZeroT Tryz.prog 113 (.agg #[(.string ⟨#[]⟩)]) := ⟨Tryz.zeroValue113⟩
instance agg_113 : AggT Tryz.prog 113 1 := ⟨Tryz.isAgg113, Tryz.sizeOf113⟩
instance fld_113_0 : FldT Tryz.prog 113 0 0 := fld Tryz.runUnderlying113 (ft := 9) (by kernel_rfl) Tryz.sizeOf9
instance one_115 : OneT Tryz.prog 115 := ⟨Tryz.isAgg115, Tryz.sizeOf115⟩
instance zero_115 : ZeroT Tryz.prog 115 .nilFunc := ⟨Tryz.zeroValue115⟩
instance one_116 : OneT Tryz.prog 116 := ⟨Tryz.isAgg116, Tryz.sizeOf116⟩
instance zero_116 : ZeroT Tryz.prog 116 .nilFunc := ⟨Tryz.zeroValue116⟩
instance one_117 : OneT Tryz.prog 117 := ⟨Tryz.isAgg117, Tryz.sizeOf117⟩
instance zero_117 : ZeroT Tryz.prog 117 .nilFunc := ⟨Tryz.zeroValue117⟩
instance one_119 : OneT Tryz.prog 119 := ⟨Tryz.isAgg119, Tryz.sizeOf119⟩
instance zero_119 : ZeroT Tryz.prog 119 .nilFunc := ⟨Tryz.zeroValue119⟩
instance one_121 : OneT Tryz.prog 121 := ⟨Tryz.isAgg121, Tryz.sizeOf121⟩
instance zero_121 : ZeroT Tryz.prog 121 .nilFunc := ⟨Tryz.zeroValue121⟩
instance one_122 : OneT Tryz.prog 122 := ⟨Tryz.isAgg122, Tryz.sizeOf122⟩
instance zero_122 : ZeroT Tryz.prog 122 .nilFunc := ⟨Tryz.zeroValue122⟩
instance one_123 : OneT Tryz.prog 123 := ⟨Tryz.isAgg123, Tryz.sizeOf123⟩
instance zero_123 : ZeroT Tryz.prog 123 .nilFunc := ⟨Tryz.zeroValue123⟩
instance one_124 : OneT Tryz.prog 124 := ⟨Tryz.isAgg124, Tryz.sizeOf124⟩
instance zero_124 : ZeroT Tryz.prog 124 .nilFunc := ⟨Tryz.zeroValue124⟩
instance one_125 : OneT Tryz.prog 125 := ⟨Tryz.isAgg125, Tryz.sizeOf125⟩
instance zero_125 : ZeroT Tryz.prog 125 .nilFunc := ⟨Tryz.zeroValue125⟩
instance one_126 : OneT Tryz.prog 126 := ⟨Tryz.isAgg126, Tryz.sizeOf126⟩
instance zero_126 : ZeroT Tryz.prog 126 .nilFunc := ⟨Tryz.zeroValue126⟩
instance one_127 : OneT Tryz.prog 127 := ⟨Tryz.isAgg127, Tryz.sizeOf127⟩
instance zero_127 : ZeroT Tryz.prog 127 (.pointer none) := ⟨Tryz.zeroValue127⟩
instance ptr_127 : PtrT Tryz.prog 127 := ⟨by kernel_rfl⟩
instance one_128 : OneT Tryz.prog 128 := ⟨Tryz.isAgg128, Tryz.sizeOf128⟩
instance zero_128 : ZeroT Tryz.prog 128 .nilFunc := ⟨Tryz.zeroValue128⟩
instance zero_129 : ZeroT Tryz.prog 129 (.agg #[(.string ⟨#[]⟩), (.string ⟨#[]⟩), (.string ⟨#[]⟩), (.string ⟨#[]⟩), (.string ⟨#[]⟩), (.string ⟨#[]⟩), (.string ⟨#[]⟩), (.string ⟨#[]⟩), (.string ⟨#[]⟩), (.string ⟨#[]⟩), (.string ⟨#[]⟩), (.string ⟨#[]⟩)]) := ⟨Tryz.zeroValue129⟩
instance agg_129 : AggT Tryz.prog 129 12 := ⟨Tryz.isAgg129, Tryz.sizeOf129⟩
instance arr_129 : ArrT Tryz.prog 129 12 9 1 := ⟨Tryz.runUnderlying129, Tryz.sizeOf9⟩
instance one_130 : OneT Tryz.prog 130 := ⟨Tryz.isAgg130, Tryz.sizeOf130⟩
instance zero_130 : ZeroT Tryz.prog 130 .nilFunc := ⟨Tryz.zeroValue130⟩
instance one_132 : OneT Tryz.prog 132 := ⟨Tryz.isAgg132, Tryz.sizeOf132⟩
instance zero_132 : ZeroT Tryz.prog 132 .nilFunc := ⟨Tryz.zeroValue132⟩
instance one_133 : OneT Tryz.prog 133 := ⟨Tryz.isAgg133, Tryz.sizeOf133⟩
instance zero_133 : ZeroT Tryz.prog 133 .nilFunc := ⟨Tryz.zeroValue133⟩
instance one_134 : OneT Tryz.prog 134 := ⟨Tryz.isAgg134, Tryz.sizeOf134⟩
instance zero_134 : ZeroT Tryz.prog 134 .nilFunc := ⟨Tryz.zeroValue134⟩
instance zero_135 : ZeroT Tryz.prog 135 (.agg #[(.string ⟨#[]⟩), (.string ⟨#[]⟩), (.string ⟨#[]⟩), (.string ⟨#[]⟩), (.string ⟨#[]⟩), (.string ⟨#[]⟩), (.string ⟨#[]⟩)]) := ⟨Tryz.zeroValue135⟩
instance agg_135 : AggT Tryz.prog 135 7 := ⟨Tryz.isAgg135, Tryz.sizeOf135⟩
instance arr_135 : ArrT Tryz.prog 135 7 9 1 := ⟨Tryz.runUnderlying135, Tryz.sizeOf9⟩
instance one_136 : OneT Tryz.prog 136 := ⟨Tryz.isAgg136, Tryz.sizeOf136⟩
instance zero_136 : ZeroT Tryz.prog 136 .nilFunc := ⟨Tryz.zeroValue136⟩
instance one_137 : OneT Tryz.prog 137 := ⟨Tryz.isAgg137, Tryz.sizeOf137⟩
instance zero_137 : ZeroT Tryz.prog 137 .nilFunc := ⟨Tryz.zeroValue137⟩
instance one_139 : OneT Tryz.prog 139 := ⟨Tryz.isAgg139, Tryz.sizeOf139⟩
instance zero_139 : ZeroT Tryz.prog 139 .nilFunc := ⟨Tryz.zeroValue139⟩
instance one_140 : OneT Tryz.prog 140 := ⟨Tryz.isAgg140, Tryz.sizeOf140⟩
instance zero_140 : ZeroT Tryz.prog 140 .nilFunc := ⟨Tryz.zeroValue140⟩
instance agg_141 : AggT Tryz.prog 141 256 := ⟨Tryz.isAgg141, Tryz.sizeOf141⟩
instance arr_141 : ArrT Tryz.prog 141 256 3 1 := ⟨Tryz.runUnderlying141, Tryz.sizeOf3⟩
instance one_142 : OneT Tryz.prog 142 := ⟨Tryz.isAgg142, Tryz.sizeOf142⟩
instance zero_142 : ZeroT Tryz.prog 142 .nilFunc := ⟨Tryz.zeroValue142⟩
instance one_143 : OneT Tryz.prog 143 := ⟨Tryz.isAgg143, Tryz.sizeOf143⟩
instance zero_143 : ZeroT Tryz.prog 143 .nilFunc := ⟨Tryz.zeroValue143⟩
instance agg_144 : AggT Tryz.prog 144 256 := ⟨Tryz.isAgg144, Tryz.sizeOf144⟩
instance arr_144 : ArrT Tryz.prog 144 256 4 1 := ⟨Tryz.runUnderlying144, Tryz.sizeOf4⟩
instance agg_145 : AggT Tryz.prog 145 256 := ⟨Tryz.isAgg145, Tryz.sizeOf145⟩
instance arr_145 : ArrT Tryz.prog 145 256 4 1 := ⟨Tryz.runUnderlying145, Tryz.sizeOf4⟩
instance one_147 : OneT Tryz.prog 147 := ⟨Tryz.isAgg147, Tryz.sizeOf147⟩
instance zero_147 : ZeroT Tryz.prog 147 .nilFunc := ⟨Tryz.zeroValue147⟩
instance one_148 : OneT Tryz.prog 148 := ⟨Tryz.isAgg148, Tryz.sizeOf148⟩
instance zero_148 : ZeroT Tryz.prog 148 .nilFunc := ⟨Tryz.zeroValue148⟩
instance one_149 : OneT Tryz.prog 149 := ⟨Tryz.isAgg149, Tryz.sizeOf149⟩
instance zero_149 : ZeroT Tryz.prog 149 (.pointer none) := ⟨Tryz.zeroValue149⟩
instance ptr_149 : PtrT Tryz.prog 149 := ⟨by kernel_rfl⟩
instance one_150 : OneT Tryz.prog 150 := ⟨Tryz.isAgg150, Tryz.sizeOf150⟩
instance zero_150 : ZeroT Tryz.prog 150 .nilFunc := ⟨Tryz.zeroValue150⟩
instance one_151 : OneT Tryz.prog 151 := ⟨Tryz.isAgg151, Tryz.sizeOf151⟩
instance zero_151 : ZeroT Tryz.prog 151 (.pointer none) := ⟨Tryz.zeroValue151⟩
instance one_152 : OneT Tryz.prog 152 := ⟨Tryz.isAgg152, Tryz.sizeOf152⟩
instance zero_152 : ZeroT Tryz.prog 152 .nilFunc := ⟨Tryz.zeroValue152⟩
instance one_153 : OneT Tryz.prog 153 := ⟨Tryz.isAgg153, Tryz.sizeOf153⟩
instance zero_153 : ZeroT Tryz.prog 153 .nilFunc := ⟨Tryz.zeroValue153⟩
instance one_154 : OneT Tryz.prog 154 := ⟨Tryz.isAgg154, Tryz.sizeOf154⟩
instance zero_154 : ZeroT Tryz.prog 154 .nilFunc := ⟨Tryz.zeroValue154⟩
instance one_156 : OneT Tryz.prog 156 := ⟨Tryz.isAgg156, Tryz.sizeOf156⟩
instance zero_156 : ZeroT Tryz.prog 156 .nilFunc := ⟨Tryz.zeroValue156⟩
instance one_157 : OneT Tryz.prog 157 := ⟨Tryz.isAgg157, Tryz.sizeOf157⟩
instance zero_157 : ZeroT Tryz.prog 157 .nilFunc := ⟨Tryz.zeroValue157⟩
instance one_158 : OneT Tryz.prog 158 := ⟨Tryz.isAgg158, Tryz.sizeOf158⟩
instance zero_158 : ZeroT Tryz.prog 158 .nilFunc := ⟨Tryz.zeroValue158⟩
instance agg_159 : AggT Tryz.prog 159 256 := ⟨Tryz.isAgg159, Tryz.sizeOf159⟩
instance arr_159 : ArrT Tryz.prog 159 256 5 1 := ⟨Tryz.runUnderlying159, Tryz.sizeOf5⟩
instance one_160 : OneT Tryz.prog 160 := ⟨Tryz.isAgg160, Tryz.sizeOf160⟩
instance zero_160 : ZeroT Tryz.prog 160 (.int .u64 0) := ⟨Tryz.zeroValue160⟩
instance int_160 : IntT Tryz.prog 160 .u64 := ⟨Tryz.runUnderlying160⟩
instance zero_161 : ZeroT Tryz.prog 161 (.agg #[(.int .u8 0), (.int .u8 0)]) := ⟨Tryz.zeroValue161⟩
instance agg_161 : AggT Tryz.prog 161 2 := ⟨Tryz.isAgg161, Tryz.sizeOf161⟩
instance fld_161_0 : FldT Tryz.prog 161 0 0 := fld Tryz.runUnderlying161 (ft := 5) (by kernel_rfl) Tryz.sizeOf5
instance fld_161_1 : FldT Tryz.prog 161 1 1 := fld Tryz.runUnderlying161 (ft := 5) (by kernel_rfl) Tryz.sizeOf5
instance zero_162 : ZeroT Tryz.prog 162 (.agg #[(.int .u8 0), (.int .u8 0)]) := ⟨Tryz.zeroValue162⟩
instance agg_162 : AggT Tryz.prog 162 2 := ⟨Tryz.isAgg162, Tryz.sizeOf162⟩
instance fld_162_0 : FldT Tryz.prog 162 0 0 := fld Tryz.runUnderlying162 (ft := 5) (by kernel_rfl) Tryz.sizeOf5
instance fld_162_1 : FldT Tryz.prog 162 1 1 := fld Tryz.runUnderlying162 (ft := 5) (by kernel_rfl) Tryz.sizeOf5
instance zero_163 : ZeroT Tryz.prog 163 (.agg #[(.int .u8 0), (.int .u8 0), (.int .u8 0), (.int .u8 0), (.int .u8 0), (.int .u8 0), (.int .u8 0), (.int .u8 0), (.int .u8 0), (.int .u8 0), (.int .u8 0), (.int .u8 0), (.int .u8 0), (.int .u8 0), (.int .u8 0), (.int .u8 0), (.int .u8 0), (.int .u8 0), (.int .u8 0), (.int .u8 0), (.int .u8 0), (.int .u8 0), (.int .u8 0), (.int .u8 0), (.int .u8 0), (.int .u8 0), (.int .u8 0), (.int .u8 0), (.int .u8 0), (.int .u8 0), (.int .u8 0), (.int .u8 0)]) := ⟨Tryz.zeroValue163⟩
instance agg_163 : AggT Tryz.prog 163 32 := ⟨Tryz.isAgg163, Tryz.sizeOf163⟩
instance arr_163 : ArrT Tryz.prog 163 16 162 2 := ⟨Tryz.runUnderlying163, Tryz.sizeOf162⟩
instance one_164 : OneT Tryz.prog 164 := ⟨Tryz.isAgg164, Tryz.sizeOf164⟩
instance zero_164 : ZeroT Tryz.prog 164 .nilFunc := ⟨Tryz.zeroValue164⟩
instance one_165 : OneT Tryz.prog 165 := ⟨Tryz.isAgg165, Tryz.sizeOf165⟩
instance zero_165 : ZeroT Tryz.prog 165 .nilFunc := ⟨Tryz.zeroValue165⟩
instance zero_166 : ZeroT Tryz.prog 166 (.agg #[(.pointer none), (.pointer none), (.pointer none), (.string ⟨#[]⟩)]) := ⟨Tryz.zeroValue166⟩
instance agg_166 : AggT Tryz.prog 166 4 := ⟨Tryz.isAgg166, Tryz.sizeOf166⟩
instance fld_166_0 : FldT Tryz.prog 166 0 0 := fld Tryz.runUnderlying166 (ft := 17) (by kernel_rfl) Tryz.sizeOf17
instance fld_166_1 : FldT Tryz.prog 166 1 1 := fld Tryz.runUnderlying166 (ft := 17) (by kernel_rfl) Tryz.sizeOf17
instance fld_166_2 : FldT Tryz.prog 166 2 2 := fld Tryz.runUnderlying166 (ft := 17) (by kernel_rfl) Tryz.sizeOf17
instance fld_166_3 : FldT Tryz.prog 166 3 3 := fld Tryz.runUnderlying166 (ft := 9) (by kernel_rfl) Tryz.sizeOf9
instance zero_167 : ZeroT Tryz.prog 167 (.agg #[(.pointer none), (.pointer none), (.pointer none), (.string ⟨#[]⟩)]) := ⟨Tryz.zeroValue167⟩
instance agg_167 : AggT Tryz.prog 167 4 := ⟨Tryz.isAgg167, Tryz.sizeOf167⟩
instance fld_167_0 : FldT Tryz.prog 167 0 0 := fld Tryz.runUnderlying167 (ft := 17) (by kernel_rfl) Tryz.sizeOf17
instance fld_167_1 : FldT Tryz.prog 167 1 1 := fld Tryz.runUnderlying167 (ft := 17) (by kernel_rfl) Tryz.sizeOf17
instance fld_167_2 : FldT Tryz.prog 167 2 2 := fld Tryz.runUnderlying167 (ft := 17) (by kernel_rfl) Tryz.sizeOf17
instance fld_167_3 : FldT Tryz.prog 167 3 3 := fld Tryz.runUnderlying167 (ft := 9) (by kernel_rfl) Tryz.sizeOf9
instance zero_168 : ZeroT Tryz.prog 168 (.agg #[]) := ⟨Tryz.zeroValue168⟩
instance agg_168 : AggT Tryz.prog 168 0 := ⟨Tryz.isAgg168, Tryz.sizeOf168⟩
instance arr_168 : ArrT Tryz.prog 168 0 16 1 := ⟨Tryz.runUnderlying168, Tryz.sizeOf16⟩
instance zero_169 : ZeroT Tryz.prog 169 (.agg #[]) := ⟨Tryz.zeroValue169⟩
instance agg_169 : AggT Tryz.prog 169 0 := ⟨Tryz.isAgg169, Tryz.sizeOf169⟩
instance zero_170 : ZeroT Tryz.prog 170 (.agg #[]) := ⟨Tryz.zeroValue170⟩
instance agg_170 : AggT Tryz.prog 170 0 := ⟨Tryz.isAgg170, Tryz.sizeOf170⟩
instance one_171 : OneT Tryz.prog 171 := ⟨Tryz.isAgg171, Tryz.sizeOf171⟩
instance zero_171 : ZeroT Tryz.prog 171 (.int .u32 0) := ⟨Tryz.zeroValue171⟩
instance int_171 : IntT Tryz.prog 171 .u32 := ⟨Tryz.runUnderlying171⟩
instance one_172 : OneT Tryz.prog 172 := ⟨Tryz.isAgg172, Tryz.sizeOf172⟩
instance zero_172 : ZeroT Tryz.prog 172 (.int .u8 0) := ⟨Tryz.zeroValue172⟩
instance int_172 : IntT Tryz.prog 172 .u8 := ⟨Tryz.runUnderlying172⟩
instance one_173 : OneT Tryz.prog 173 := ⟨Tryz.isAgg173, Tryz.sizeOf173⟩
instance zero_173 : ZeroT Tryz.prog 173 (.int .u8 0) := ⟨Tryz.zeroValue173⟩
instance int_173 : IntT Tryz.prog 173 .u8 := ⟨Tryz.runUnderlying173⟩
instance one_174 : OneT Tryz.prog 174 := ⟨Tryz.isAgg174, Tryz.sizeOf174⟩
instance zero_174 : ZeroT Tryz.prog 174 .nilFunc := ⟨Tryz.zeroValue174⟩
instance one_175 : OneT Tryz.prog 175 := ⟨Tryz.isAgg175, Tryz.sizeOf175⟩
instance zero_175 : ZeroT Tryz.prog 175 (.int .i32 0) := ⟨Tryz.zeroValue175⟩
instance int_175 : IntT Tryz.prog 175 .i32 := ⟨Tryz.runUnderlying175⟩
instance one_176 : OneT Tryz.prog 176 := ⟨Tryz.isAgg176, Tryz.sizeOf176⟩
instance zero_176 : ZeroT Tryz.prog 176 (.int .i32 0) := ⟨Tryz.zeroValue176⟩
instance int_176 : IntT Tryz.prog 176 .i32 := ⟨Tryz.runUnderlying176⟩
instance zero_177 : ZeroT Tryz.prog 177 (.agg #[(.int .u64 0), (.int .u64 0), (.int .u32 0), (.int .u8 0), (.int .u8 0), (.int .u8 0), (.int .u8 0), .nilFunc, (.pointer none), (.int .i32 0), (.int .i32 0)]) := ⟨Tryz.zeroValue177⟩
instance agg_177 : AggT Tryz.prog 177 11 := ⟨Tryz.isAgg177, Tryz.sizeOf177⟩
instance fld_177_0 : FldT Tryz.prog 177 0 0 := fld Tryz.runUnderlying177 (ft := 12) (by kernel_rfl) Tryz.sizeOf12
instance fld_177_1 : FldT Tryz.prog 177 1 1 := fld Tryz.runUnderlying177 (ft := 12) (by kernel_rfl) Tryz.sizeOf12
instance fld_177_2 : FldT Tryz.prog 177 2 2 := fld Tryz.runUnderlying177 (ft := 171) (by kernel_rfl) Tryz.sizeOf171
instance fld_177_3 : FldT Tryz.prog 177 3 3 := fld Tryz.runUnderlying177 (ft := 172) (by kernel_rfl) Tryz.sizeOf172
instance fld_177_4 : FldT Tryz.prog 177 4 4 := fld Tryz.runUnderlying177 (ft := 5) (by kernel_rfl) Tryz.sizeOf5
instance fld_177_5 : FldT Tryz.prog 177 5 5 := fld Tryz.runUnderlying177 (ft := 5) (by kernel_rfl) Tryz.sizeOf5
instance fld_177_6 : FldT Tryz.prog 177 6 6 := fld Tryz.runUnderlying177 (ft := 173) (by kernel_rfl) Tryz.sizeOf173
instance fld_177_7 : FldT Tryz.prog 177 7 7 := fld Tryz.runUnderlying177 (ft := 174) (by kernel_rfl) Tryz.sizeOf174
instance fld_177_8 : FldT Tryz.prog 177 8 8 := fld Tryz.runUnderlying177 (ft := 127) (by kernel_rfl) Tryz.sizeOf127
instance fld_177_9 : FldT Tryz.prog 177 9 9 := fld Tryz.runUnderlying177 (ft := 175) (by kernel_rfl) Tryz.sizeOf175
instance fld_177_10 : FldT Tryz.prog 177 10 10 := fld Tryz.runUnderlying177 (ft := 176) (by kernel_rfl) Tryz.sizeOf176
instance zero_178 : ZeroT Tryz.prog 178 (.agg #[(.int .u64 0), (.int .u64 0), (.int .u32 0), (.int .u8 0), (.int .u8 0), (.int .u8 0), (.int .u8 0), .nilFunc, (.pointer none), (.int .i32 0), (.int .i32 0)]) := ⟨Tryz.zeroValue178⟩
instance agg_178 : AggT Tryz.prog 178 11 := ⟨Tryz.isAgg178, Tryz.sizeOf178⟩
instance fld_178_0 : FldT Tryz.prog 178 0 0 := fld Tryz.runUnderlying178 (ft := 12) (by kernel_rfl) Tryz.sizeOf12
instance fld_178_1 : FldT Tryz.prog 178 1 1 := fld Tryz.runUnderlying178 (ft := 12) (by kernel_rfl) Tryz.sizeOf12
instance fld_178_2 : FldT Tryz.prog 178 2 2 := fld Tryz.runUnderlying178 (ft := 171) (by kernel_rfl) Tryz.sizeOf171
instance fld_178_3 : FldT Tryz.prog 178 3 3 := fld Tryz.runUnderlying178 (ft := 172) (by kernel_rfl) Tryz.sizeOf172
instance fld_178_4 : FldT Tryz.prog 178 4 4 := fld Tryz.runUnderlying178 (ft := 5) (by kernel_rfl) Tryz.sizeOf5
instance fld_178_5 : FldT Tryz.prog 178 5 5 := fld Tryz.runUnderlying178 (ft := 5) (by kernel_rfl) Tryz.sizeOf5
instance fld_178_6 : FldT Tryz.prog 178 6 6 := fld Tryz.runUnderlying178 (ft := 173) (by kernel_rfl) Tryz.sizeOf173
instance fld_178_7 : FldT Tryz.prog 178 7 7 := fld Tryz.runUnderlying178 (ft := 174) (by kernel_rfl) Tryz.sizeOf174
instance fld_178_8 : FldT Tryz.prog 178 8 8 := fld Tryz.runUnderlying178 (ft := 127) (by kernel_rfl) Tryz.sizeOf127
instance fld_178_9 : FldT Tryz.prog 178 9 9 := fld Tryz.runUnderlying178 (ft := 175) (by kernel_rfl) Tryz.sizeOf175
instance fld_178_10 : FldT Tryz.prog 178 10 10 := fld Tryz.runUnderlying178 (ft := 176) (by kernel_rfl) Tryz.sizeOf176
instance bld_38_0_1_2_3 {a0 a1 a2_0 a2_1 a2_2 a2_3 a3 : Value} [h0 : OC a0] [h1 : OC a1] [h3 : OC a3] : RV Tryz.prog (sBuild 38 [(0, a0), (1, a1), (2, .agg #[a2_0, a2_1, a2_2, a2_3]), (3, a3)]) (.agg #[a0, a1, a2_0, a2_1, a2_2, a2_3, a3]) := ⟨fun W w _ => by
  have c0 := cells_one h0.one; have c1 := cells_one h1.one; have c3 := cells_one h3.one; simp [sBuild, Instr.build, Tryz.zeroValue38, Tryz.runUnderlying38, Tryz.sizeOf3, Tryz.sizeOf4, Tryz.sizeOf22, Tryz.sizeOf30, cells_agg, Instr.fill, c0, c1, c3]⟩
instance bld_45_0_1 {a0 a1 : Value} [h0 : OC a0] [h1 : OC a1] : RV Tryz.prog (sBuild 45 [(0, a0), (1, a1)]) (.agg #[a0, a1]) := ⟨fun W w _ => by
  have c0 := cells_one h0.one; have c1 := cells_one h1.one; simp [sBuild, Instr.build, Tryz.zeroValue45, Tryz.runUnderlying45, Tryz.sizeOf44, cells_agg, Instr.fill, c0, c1]⟩
instance bld_28_0_1 {a0 a1 : Value} [h0 : OC a0] [h1 : OC a1] : RV Tryz.prog (sBuild 28 [(0, a0), (1, a1)]) (.agg #[a0, a1]) := ⟨fun W w _ => by
  have c0 := cells_one h0.one; have c1 := cells_one h1.one; simp [sBuild, Instr.build, Tryz.zeroValue28, Tryz.runUnderlying28, Tryz.sizeOf4, Tryz.sizeOf9, cells_agg, Instr.fill, c0, c1]⟩
instance bld_30_0_1_2 {a0_0 a0_1 a1 a2 : Value} [h1 : OC a1] [h2 : OC a2] : RV Tryz.prog (sBuild 30 [(0, .agg #[a0_0, a0_1]), (1, a1), (2, a2)]) (.agg #[a0_0, a0_1, a1, a2]) := ⟨fun W w _ => by
  have c1 := cells_one h1.one; have c2 := cells_one h2.one; simp [sBuild, Instr.build, Tryz.zeroValue30, Tryz.runUnderlying30, Tryz.sizeOf3, Tryz.sizeOf4, Tryz.sizeOf28, cells_agg, Instr.fill, c1, c2]⟩
instance bld_51_0_1 {a0 a1 : Value} [h0 : OC a0] [h1 : OC a1] : RV Tryz.prog (sBuild 51 [(0, a0), (1, a1)]) (.agg #[a0, a1]) := ⟨fun W w _ => by
  have c0 := cells_one h0.one; have c1 := cells_one h1.one; simp [sBuild, Instr.build, Tryz.zeroValue51, Tryz.runUnderlying51, Tryz.sizeOf3, Tryz.sizeOf41, cells_agg, Instr.fill, c0, c1]⟩
instance bld_28_1 {a0 : Value} [h0 : OC a0] : RV Tryz.prog (sBuild 28 [(1, a0)]) (.agg #[(.bool false), a0]) := ⟨fun W w _ => by
  have c0 := cells_one h0.one; simp [sBuild, Instr.build, Tryz.zeroValue28, Tryz.runUnderlying28, Tryz.sizeOf4, Tryz.sizeOf9, cells_agg, Instr.fill, c0]⟩
instance bld_30_0_2 {a0_0 a0_1 a1 : Value} [h1 : OC a1] : RV Tryz.prog (sBuild 30 [(0, .agg #[a0_0, a0_1]), (2, a1)]) (.agg #[a0_0, a0_1, (.int .i64 0), a1]) := ⟨fun W w _ => by
  have c1 := cells_one h1.one; simp [sBuild, Instr.build, Tryz.zeroValue30, Tryz.runUnderlying30, Tryz.sizeOf3, Tryz.sizeOf4, Tryz.sizeOf28, cells_agg, Instr.fill, c1]⟩
instance bld_28_  : RV Tryz.prog (sBuild 28 []) (.agg #[(.bool false), (.string ⟨#[]⟩)]) := ⟨fun W w _ => by
   simp [sBuild, Instr.build, Tryz.zeroValue28, Tryz.runUnderlying28, Tryz.sizeOf4, Tryz.sizeOf9, cells_agg, Instr.fill]⟩
instance bld_80_0_1_2 {a0 a1 a2 : Value} [h0 : OC a0] [h1 : OC a1] [h2 : OC a2] : RV Tryz.prog (sBuild 80 [(0, a0), (1, a1), (2, a2)]) (.agg #[a0, a1, a2]) := ⟨fun W w _ => by
  have c0 := cells_one h0.one; have c1 := cells_one h1.one; have c2 := cells_one h2.one; simp [sBuild, Instr.build, Tryz.zeroValue80, Tryz.runUnderlying80, Tryz.sizeOf77, cells_agg, Instr.fill, c0, c1, c2]⟩
instance bld_24_  : RV Tryz.prog (sBuild 24 []) (.agg #[(.bool false), (.string ⟨#[]⟩)]) := ⟨fun W w _ => by
   simp [sBuild, Instr.build, Tryz.zeroValue24, Tryz.runUnderlying24, Tryz.sizeOf4, Tryz.sizeOf9, cells_agg, Instr.fill]⟩
instance bld_63_0_1 {a0 a1 : Value} [h0 : OC a0] [h1 : OC a1] : RV Tryz.prog (sBuild 63 [(0, a0), (1, a1)]) (.agg #[a0, a1]) := ⟨fun W w _ => by
  have c0 := cells_one h0.one; have c1 := cells_one h1.one; simp [sBuild, Instr.build, Tryz.zeroValue63, Tryz.runUnderlying63, Tryz.sizeOf9, cells_agg, Instr.fill, c0, c1]⟩
instance bld_93_0_2 {a0 a1 : Value} [h0 : OC a0] [h1 : OC a1] : RV Tryz.prog (sBuild 93 [(0, a0), (2, a1)]) (.agg #[a0, (.bool false), a1]) := ⟨fun W w _ => by
  have c0 := cells_one h0.one; have c1 := cells_one h1.one; simp [sBuild, Instr.build, Tryz.zeroValue93, Tryz.runUnderlying93, Tryz.sizeOf4, Tryz.sizeOf76, cells_agg, Instr.fill, c0, c1]⟩
instance bld_113_0 {a0 : Value} [h0 : OC a0] : RV Tryz.prog (sBuild 113 [(0, a0)]) (.agg #[a0]) := ⟨fun W w _ => by
  have c0 := cells_one h0.one; simp [sBuild, Instr.build, Tryz.zeroValue113, Tryz.runUnderlying113, Tryz.sizeOf9, cells_agg, Instr.fill, c0]⟩
instance bld_84_0_1_2_3_4_5 {a0 a1 a2 a3 a4 a5 : Value} [h0 : OC a0] [h1 : OC a1] [h2 : OC a2] [h3 : OC a3] [h4 : OC a4] [h5 : OC a5] : RV Tryz.prog (sBuild 84 [(0, a0), (1, a1), (2, a2), (3, a3), (4, a4), (5, a5)]) (.agg #[a0, a1, a2, a3, a4, a5, (.int .i64 0)]) := ⟨fun W w _ => by
  have c0 := cells_one h0.one; have c1 := cells_one h1.one; have c2 := cells_one h2.one; have c3 := cells_one h3.one; have c4 := cells_one h4.one; have c5 := cells_one h5.one; simp [sBuild, Instr.build, Tryz.zeroValue84, Tryz.runUnderlying84, Tryz.sizeOf3, cells_agg, Instr.fill, c0, c1, c2, c3, c4, c5]⟩
instance bld_106_  : RV Tryz.prog (sBuild 106 []) (.agg #[(.int .i64 0), (.int .i64 0), (.int .i64 0), (.int .i64 0), (.int .i64 0), (.int .i64 0), (.int .i64 0)]) := ⟨fun W w _ => by
   simp [sBuild, Instr.build, Tryz.zeroValue106, Tryz.runUnderlying106, Tryz.sizeOf3, cells_agg, Instr.fill]⟩
instance bld_106_6_3_4_5 {a0 a1 a2 a3 : Value} [h0 : OC a0] [h1 : OC a1] [h2 : OC a2] [h3 : OC a3] : RV Tryz.prog (sBuild 106 [(6, a0), (3, a1), (4, a2), (5, a3)]) (.agg #[(.int .i64 0), (.int .i64 0), (.int .i64 0), a1, a2, a3, a0]) := ⟨fun W w _ => by
  have c0 := cells_one h0.one; have c1 := cells_one h1.one; have c2 := cells_one h2.one; have c3 := cells_one h3.one; simp [sBuild, Instr.build, Tryz.zeroValue106, Tryz.runUnderlying106, Tryz.sizeOf3, cells_agg, Instr.fill, c0, c1, c2, c3]⟩
instance bld_84_  : RV Tryz.prog (sBuild 84 []) (.agg #[(.int .i64 0), (.int .i64 0), (.int .i64 0), (.int .i64 0), (.int .i64 0), (.int .i64 0), (.int .i64 0)]) := ⟨fun W w _ => by
   simp [sBuild, Instr.build, Tryz.zeroValue84, Tryz.runUnderlying84, Tryz.sizeOf3, cells_agg, Instr.fill]⟩
instance bld_84_0_1_3_4_5 {a0 a1 a2 a3 a4 : Value} [h0 : OC a0] [h1 : OC a1] [h2 : OC a2] [h3 : OC a3] [h4 : OC a4] : RV Tryz.prog (sBuild 84 [(0, a0), (1, a1), (3, a2), (4, a3), (5, a4)]) (.agg #[a0, a1, (.int .i64 0), a2, a3, a4, (.int .i64 0)]) := ⟨fun W w _ => by
  have c0 := cells_one h0.one; have c1 := cells_one h1.one; have c2 := cells_one h2.one; have c3 := cells_one h3.one; have c4 := cells_one h4.one; simp [sBuild, Instr.build, Tryz.zeroValue84, Tryz.runUnderlying84, Tryz.sizeOf3, cells_agg, Instr.fill, c0, c1, c2, c3, c4]⟩
instance bld_129_0_1_2_3_4_5_6_7_8_9_10_11 {a0 a1 a2 a3 a4 a5 a6 a7 a8 a9 a10 a11 : Value} [h0 : OC a0] [h1 : OC a1] [h2 : OC a2] [h3 : OC a3] [h4 : OC a4] [h5 : OC a5] [h6 : OC a6] [h7 : OC a7] [h8 : OC a8] [h9 : OC a9] [h10 : OC a10] [h11 : OC a11] : RV Tryz.prog (sBuild 129 [(0, a0), (1, a1), (2, a2), (3, a3), (4, a4), (5, a5), (6, a6), (7, a7), (8, a8), (9, a9), (10, a10), (11, a11)]) (.agg #[a0, a1, a2, a3, a4, a5, a6, a7, a8, a9, a10, a11]) := ⟨fun W w _ => by
  have c0 := cells_one h0.one; have c1 := cells_one h1.one; have c2 := cells_one h2.one; have c3 := cells_one h3.one; have c4 := cells_one h4.one; have c5 := cells_one h5.one; have c6 := cells_one h6.one; have c7 := cells_one h7.one; have c8 := cells_one h8.one; have c9 := cells_one h9.one; have c10 := cells_one h10.one; have c11 := cells_one h11.one; simp [sBuild, Instr.build, Tryz.zeroValue129, Tryz.runUnderlying129, Tryz.sizeOf9, cells_agg, Instr.fill, c0, c1, c2, c3, c4, c5, c6, c7, c8, c9, c10, c11]⟩
instance bld_135_0_1_2_3_4_5_6 {a0 a1 a2 a3 a4 a5 a6 : Value} [h0 : OC a0] [h1 : OC a1] [h2 : OC a2] [h3 : OC a3] [h4 : OC a4] [h5 : OC a5] [h6 : OC a6] : RV Tryz.prog (sBuild 135 [(0, a0), (1, a1), (2, a2), (3, a3), (4, a4), (5, a5), (6, a6)]) (.agg #[a0, a1, a2, a3, a4, a5, a6]) := ⟨fun W w _ => by
  have c0 := cells_one h0.one; have c1 := cells_one h1.one; have c2 := cells_one h2.one; have c3 := cells_one h3.one; have c4 := cells_one h4.one; have c5 := cells_one h5.one; have c6 := cells_one h6.one; simp [sBuild, Instr.build, Tryz.zeroValue135, Tryz.runUnderlying135, Tryz.sizeOf9, cells_agg, Instr.fill, c0, c1, c2, c3, c4, c5, c6]⟩
instance bld_162_0_1 {a0 a1 : Value} [h0 : OC a0] [h1 : OC a1] : RV Tryz.prog (sBuild 162 [(0, a0), (1, a1)]) (.agg #[a0, a1]) := ⟨fun W w _ => by
  have c0 := cells_one h0.one; have c1 := cells_one h1.one; simp [sBuild, Instr.build, Tryz.zeroValue162, Tryz.runUnderlying162, Tryz.sizeOf5, cells_agg, Instr.fill, c0, c1]⟩
instance bld_163_0_1_2_3_4 {a0_0 a0_1 a1_0 a1_1 a2_0 a2_1 a3_0 a3_1 a4_0 a4_1 : Value}  : RV Tryz.prog (sBuild 163 [(0, .agg #[a0_0, a0_1]), (1, .agg #[a1_0, a1_1]), (2, .agg #[a2_0, a2_1]), (3, .agg #[a3_0, a3_1]), (4, .agg #[a4_0, a4_1])]) (.agg #[a0_0, a0_1, a1_0, a1_1, a2_0, a2_1, a3_0, a3_1, a4_0, a4_1, (.int .u8 0), (.int .u8 0), (.int .u8 0), (.int .u8 0), (.int .u8 0), (.int .u8 0), (.int .u8 0), (.int .u8 0), (.int .u8 0), (.int .u8 0), (.int .u8 0), (.int .u8 0), (.int .u8 0), (.int .u8 0), (.int .u8 0), (.int .u8 0), (.int .u8 0), (.int .u8 0), (.int .u8 0), (.int .u8 0), (.int .u8 0), (.int .u8 0)]) := ⟨fun W w _ => by
   simp [sBuild, Instr.build, Tryz.zeroValue163, Tryz.runUnderlying163, Tryz.sizeOf162, cells_agg, Instr.fill]⟩
end Go.Proofs.YtcmpkkkigmheoaaGreatDoor.T
/-! Slices that are made: of parts, of zeros. No conditions but those that each names. -/
namespace Go.Proofs.YtcmpkkkigmheoaaGreatDoor.Sl
open Go Go.Proofs.YtcmpkkkigmheoaaGreatDoor.Sh
variable {P : Program} {W : World} {L L' : List HP} {Kp : PK} {k : Value → WP}
theorem fill_run : ∀ (vs pre zs : List Value), zs.length = vs.length → (∀ v ∈ vs, v.cells = #[v]) →
    Instr.fill (fun i => some (i * 1, 1)) (pre ++ zs).toArray ((vs.zipIdx pre.length).map fun x => (x.2, x.1)) = some (pre ++ vs).toArray
  | [], pre, zs, hz, _ => by
    have : zs = [] := List.eq_nil_of_length_eq_zero (by simpa using hz)
    subst this; simp [Instr.fill]
  | v :: vs, pre, [], hz, _ => by simp at hz
  | v :: vs, pre, z :: zs, hz, ho => by
    have hv := ho v (by simp)
    have ih := fill_run vs (pre ++ [v]) zs (by simpa using hz) (fun u hu => ho u (by simp [hu]))
    simp only [List.zipIdx_cons, List.map_cons, Instr.fill, hv]
    rw [if_neg (by simp)]
    have h2 : Array.foldl (fun cs (x : Value × Nat) => cs.setIfInBounds (pre.length * 1 + x.2) x.1) (pre ++ z :: zs).toArray (#[v] : Array Value).zipIdx = (pre ++ [v] ++ zs).toArray := by
      simp
    have h3 : (pre ++ [v]).length = pre.length + 1 := by simp
    rw [h3] at ih
    rw [h2, ih]; simp
theorem e_bslN {t e : TypeId} {b n : Nat} {parts : List (Nat × Value)} {vs : List Value} [ht : SlT P t e 1 b] (hn : vs.length = n) (hp : parts = vs.zipIdx.map fun x => (x.2, x.1)) (ho : ∀ v ∈ vs, v.cells = #[v]) (hm : n ≤ 16777216)
    (h : ∀ g, Ent W (pt g (.cells vs.toArray e) :: L) (k (.slice (some ⟨g, 0, none⟩) n n))) : Ent W L (opN P (sBuildSl t n parts) Kp k) := fun w hw => by
  refine ⟨?_⟩
  obtain ⟨i, z, hi, hz, hs, hb, hzs⟩ := ht.info
  have : (sBuildSl t n parts).run P w = .ok (.value (.slice (some ⟨w.heap.size, 0, none⟩) n n)) (w.alloc (.cells vs.toArray e)) := by
    have hm' : ¬ (2 ^ 24 < n) := by omega
    have hf : ∀ zs : List Value, zs.length = vs.length → Instr.fill (fun i => some (i * 1, 1)) zs.toArray parts = some vs.toArray := fun zs hz => by
      have := fill_run vs [] zs hz ho
      simpa [hp] using this
    by_cases h0 : n = 0
    · have : vs = [] := List.eq_nil_of_length_eq_zero (by omega)
      subst this; subst h0
      simp [sBuildSl, Instr.buildSlice, run_underlying ht.ut, sizeOf_run hi, hs, hp, newRow, Instr.fill]
      have e0 : (Array.range 0).map (fun _ => (default : Value)) = #[] := Array.eq_empty_of_size_eq_zero (by simp)
      rw [e0]
    · have hf' := hf ((List.range n).map fun j => z.cells[j % z.cells.size]!) (by simp [hn])
      have e1 : ((Array.range n).map fun j => z.cells[j % z.cells.size]!) = ((List.range n).map fun j => z.cells[j % z.cells.size]!).toArray := by
        apply Array.ext'
        simp [Array.toList_range]
      rw [← e1] at hf'
      simp only [Nat.mul_one] at hf'
      simp [sBuildSl, Instr.buildSlice, run_underlying ht.ut, sizeOf_run hi, hs, h0, hm', zeroValue, typeInfo, hi, hz, newRow, hf']
  rw [this]
  exact h _ _ (hw.alloc _)
theorem e_mksl {t e : TypeId} {b : Nat} {z : Value} {q r : IntKind} {l c : Int} (n m : Nat) [ht : SlT P t e 1 b] [hz : ZeroT P e z] [hc : OC z] (hl : l = (n : Int)) (hcm : c = (m : Int)) (h1 : n ≤ m) (h2 : b * m ≤ 281474976710656) (h3 : m ≤ maxLen)
    (h : ∀ g, Ent W (Sl 1 e (some ⟨g, 0, none⟩) m n (List.replicate n z) :: L) (k (.slice (some ⟨g, 0, none⟩) n m))) : Ent W L (opN P (sMkSl t (.int q l) (.int r c)) Kp k) := fun w hw => by
  refine ⟨?_⟩
  obtain ⟨i, z', hi, hz', hs, hb, hzs⟩ := ht.info
  have e0 : z' = z := by
    have := hz.run w
    simp [zeroValue, typeInfo, hi, hz'] at this
    exact this
  subst e0
  subst hl; subst hcm
  have hcz : z'.cells = #[z'] := cells_one hc.one
  have hbm : (i.bytes : Int) * (m : Int) ≤ 281474976710656 := by
    rw [hb]
    obtain ⟨X, hX⟩ : ∃ X, X = b * m := ⟨_, rfl⟩
    have h4 : (X : Int) ≤ 281474976710656 := by omega
    rw [hX, Int.natCast_mul] at h4
    exact h4
  have hr := run_make (P := P) (w := w) t e i z' ht.ut hi hz' q r n m (by omega) (by omega) hbm (by unfold maxLen at h3; omega)
  simp only [Int.toNat_natCast, hs, Nat.mul_one] at hr
  have e1 : madeCells z'.cells m = (List.replicate n z' ++ List.replicate (m - n) z').toArray := by
    rw [hcz, List.replicate_append_replicate]
    apply Array.ext'
    simp [madeCells, Array.toList_range, Nat.mod_one]
    rw [show n + (m - n) = m by omega]
    apply List.ext_getElem <;> simp
  have : (sMkSl t (.int q n) (.int r m)).run P w = .ok (.value (.slice (some ⟨w.heap.size, 0, none⟩) n m)) (w.alloc (.cells (List.replicate n z' ++ List.replicate (m - n) z').toArray e)) := by
    simp [sMkSl, hr, e1]
  rw [this]
  refine h _ _ ?_
  have := hw.alloc (.cells (List.replicate n z' ++ List.replicate (m - n) z').toArray e)
  refine Imp.sat (L := pt w.heap.size (.cells (List.replicate n z' ++ List.replicate (m - n) z').toArray e) :: L) ?_ this
  exact .conv (B := pt w.heap.size (.cells (List.replicate n z' ++ List.replicate (m - n) z').toArray e)) (fun f hf => ⟨by simp, h1, h3, .inr ⟨_, List.replicate (m - n) z', rfl, by simp, hf⟩⟩) (.pick .here .refl)
end Go.Proofs.YtcmpkkkigmheoaaGreatDoor.Sl
/-! What came in: slices of what is read, as lists of what it means. Conditions: what each names. -/
namespace Go.Proofs.YtcmpkkkigmheoaaGreatDoor.Sl
open Go Go.RowKit Go.Proofs.YtcmpkkkigmheoaaGreatDoor.Sh
variable {P : Program} {W : World} {L L' : List HP} {Kp : PK} {k : Value → WP} {H : Type} {enc : TypeId × Value → H}
theorem spot_none {w : World} {a : Addr} {v : Value} (h : w.cell? a = some v) : a.spot = none ∧ a.block < w.heap.size := by
  unfold World.cell? at h
  split at h
  · rename_i c _ _ e
    refine ⟨?_, (Array.getElem?_eq_some_iff.1 e).1⟩
    cases hs : a.spot with
    | none => rfl
    | some x => rw [hs] at h; simp at h
  · cases h
/-- the n elements (s cells each) from address a on mean xs, in the world where all began -/
structure Old {α : Type} (W : World) (s : Nat) (rd : α → List Value → Prop) (a : Option Addr) (n : Nat) (xs : List α) : Prop where
  len : xs.length = n
  at_ : 0 < n → ∃ g o, a = some ⟨g, o, none⟩ ∧ g < W.heap.size ∧ ∀ (i : Nat) (h : i < xs.length), ∃ cs : List Value, cs.length = s ∧ rd xs[i] cs ∧ ∀ (j : Nat) (v : Value), cs[j]? = some v → W.cell? ⟨g, o + (i * s + j), none⟩ = some v
theorem v_ldOld {t : TypeId} {g o : Nat} {v : Value} [ht : OneT P t] (hg : g < W.heap.size) (hv : W.cell? ⟨g, o, none⟩ = some v) : RunV P W [] (sLoad t (.pointer (some ⟨g, o, none⟩))) v := by
  have H : RdB W (pu True) (some ⟨g, o, none⟩) 1 [v] := rd_old rfl hg (fun j u hu => by
    match j, hu with
    | 0, hu => simp at hu; subst hu; exact hv)
  have := v_ldRd (P := P) (t := t) (j := 0) H rfl
  exact fun w hw => this w (Imp.sat (.pu trivial .refl) hw)
theorem choose_list {α : Type} {n : Nat} {R : Nat → α → Prop} (h : ∀ i, i < n → ∃ a, R i a) : ∃ xs : List α, xs.length = n ∧ ∀ (i : Nat) (hi : i < xs.length), R i xs[i] := by
  induction n with
  | zero => exact ⟨[], rfl, fun i hi => by simp at hi⟩
  | succ n ih =>
    obtain ⟨xs, h1, h2⟩ := ih fun i hi => h i (by omega)
    obtain ⟨a, ha⟩ := h n (by omega)
    refine ⟨xs ++ [a], by simp [h1], fun i hi => ?_⟩
    by_cases c : i < xs.length
    · rw [List.getElem_append_left c]; exact h2 i c
    · have : i = n := by simp at hi; omega
      subst this
      rw [List.getElem_append_right (by omega)]
      simpa [h1] using ha
theorem bulk_cons (d : DataW H) (r : List (DataW H)) : Rows.uptoBulkAll (d :: r) = Rows.uptoBulk d + Rows.uptoBulkAll r := by simp [Rows.uptoBulkAll]
theorem bulk_sum {α : Type} {m : α → Nat} : ∀ (xs : List α) (ds : List (DataW H)), xs.length = ds.length → (∀ (i : Nat) (h1 : i < xs.length) (h2 : i < ds.length), m xs[i] ≤ Rows.uptoBulk ds[i]) → (xs.map m).sum ≤ Rows.uptoBulkAll ds
  | [], [], _, _ => by simp
  | x :: xs, d :: ds, hl, h => by
    have h0 := h 0 (by simp) (by simp)
    have ih := bulk_sum xs ds (by simpa using hl) (fun i h1 h2 => h (i + 1) (by simp; omega) (by simp; omega))
    rw [bulk_cons, List.map_cons, List.sum_cons]
    simp only [List.getElem_cons_zero] at h0
    omega
theorem open_old {α : Type} {rd : α → List Value → Prop} {m : α → Nat} {t e : TypeId} {s fuel : Nat} {sp : Nat → Bool} {held : Bool} {cs : List Value} {x : DataW H × List MemPlace} (ht : P.underlying t = some (.slice e)) (hc : P.cellsOf e = s) (hs : 0 < s)
    (op : ∀ (n : Nat) (cs : List Value) (x : DataW H × List MemPlace), DataW.trod enc P W 0 sp held n e cs = some x → ∃ a, rd a cs ∧ m a ≤ Rows.uptoBulk x.1) (h : DataW.trod enc P W 0 sp held fuel t cs = some x) :
    ∃ (a : Option Addr) (n cap : Nat) (xs : List α), cs = [.slice a n cap] ∧ n ≤ cap ∧ cap ≤ maxLen ∧ (a = none → n = 0 ∧ cap = 0) ∧ Old W s rd a n xs ∧ (xs.map m).sum + 1 ≤ Rows.uptoBulk x.1 := by
  rcases DataW.trod_slice ht h with ⟨rfl, rfl⟩ | ⟨a, len, cap, elems, rest, n, rfl, rfl, rfl, hb, hl, hm, he, hel, _, _⟩
  · exact ⟨none, 0, 0, [], rfl, Nat.le_refl _, by unfold maxLen; omega, fun _ => ⟨rfl, rfl⟩, ⟨rfl, fun c => by omega⟩, by simp [Rows.uptoBulk]⟩
  · have cell0 : ∀ i, i < len → ∃ ds : List Value, ds.length = s ∧ (∃ y, rd y ds ∧ ∀ h : i < elems.length, m y ≤ Rows.uptoBulk elems[i].1) ∧ ∀ j, j < s → W.cell? ((a.add (i * s)).add j) = ds[j]? := fun i hi => by
      have h1 := hel i hi
      rw [List.getElem?_eq_getElem (by omega), Option.bind_eq_some_iff] at h1
      obtain ⟨ds, h2, h3⟩ := h1
      unfold World.cells? at h2
      rw [if_pos (Nat.zero_le _), hc] at h2
      obtain ⟨y, hy, hm2⟩ := op _ _ _ h3
      exact ⟨ds, by simpa using mapM_some_length h2, ⟨y, hy, fun _ => hm2⟩, fun j hj => mapM_some_get h2 j j (by simp [hj])⟩
    by_cases hz : len = 0
    · subst hz
      exact ⟨some a, 0, cap, [], rfl, hl, hm, (fun c => by cases c), ⟨rfl, fun c => by omega⟩, by simp [Rows.uptoBulk]⟩
    obtain ⟨d0, hd0, _, hg0⟩ := cell0 0 (by omega)
    have h0 := hg0 0 hs
    have ea : (a.add (0 * s)).add 0 = a := by unfold Addr.add; simp
    rw [ea, List.getElem?_eq_getElem (by omega)] at h0
    obtain ⟨s1, s2⟩ := spot_none h0
    obtain ⟨g, o, sp'⟩ := a
    obtain rfl : sp' = none := s1
    have key : ∀ i, i < len → ∃ y : α, (∀ h : i < elems.length, m y ≤ Rows.uptoBulk elems[i].1) ∧ ∃ ds : List Value, ds.length = s ∧ rd y ds ∧ ∀ (j : Nat) (v : Value), ds[j]? = some v → W.cell? ⟨g, o + (i * s + j), none⟩ = some v := fun i hi => by
      obtain ⟨ds, hlen, ⟨y, hy, hyb⟩, hget⟩ := cell0 i hi
      refine ⟨y, hyb, ds, hlen, hy, fun j v hv => ?_⟩
      have hj : j < s := by
        rcases Nat.lt_or_ge j ds.length with c | c
        · omega
        · rw [List.getElem?_eq_none c] at hv; cases hv
      have := hget j hj
      rw [addr_add, addr_add, hv, Nat.add_assoc] at this
      exact this
    obtain ⟨xs, h1, h2⟩ := choose_list key
    refine ⟨some ⟨g, o, none⟩, len, cap, xs, rfl, hl, hm, (fun c => by cases c), ⟨h1, fun hn => ⟨g, o, rfl, s2, fun i hi => (h2 i hi).2⟩⟩, ?_⟩
    have := bulk_sum (m := m) xs (elems.map (·.1)) (by simp; omega) (fun i e1 e2 => by simpa using (h2 i e1).1 (by simpa using e2))
    simp only [Rows.uptoBulk]
    omega
theorem sum_ones {α : Type} : ∀ l : List α, (l.map fun _ => 1).sum = l.length
  | [] => rfl
  | x :: l => by simp [sum_ones l]; omega
def rdU (c : UInt8) (cs : List Value) : Prop := cs = [B c]
theorem Old.bytes {a : Option Addr} {n : Nat} {b : List UInt8} {A : HP} (h : Old W 1 rdU a n b) : RdB W A a n (b.map B) := by
  refine ⟨by rw [List.length_map]; exact h.len, fun hn => ?_⟩
  obtain ⟨g, o, rfl, hg, hc⟩ := h.at_ hn
  refine ⟨g, o, rfl, fun w L hw j v hv => ?_⟩
  rw [List.getElem?_map] at hv
  have hj : j < b.length := by
    rcases Nat.lt_or_ge j b.length with c | c
    · exact c
    · rw [List.getElem?_eq_none c] at hv; cases hv
  obtain ⟨cs, h1, h2, h3⟩ := hc j hj
  rw [h2] at h3
  have := h3 0 (B b[j]) rfl
  rw [List.getElem?_eq_getElem hj] at hv
  have hv' : B b[j] = v := Option.some.inj hv
  rw [hw.base.cell (p := ⟨g, o + j, none⟩) hg, ← hv']
  simpa using this
theorem open_u8 {e : TypeId} {sp : Nat → Bool} {held : Bool} (he : P.underlying e = some (.int .u8)) : ∀ (n : Nat) (cs : List Value) (x : DataW H × List MemPlace), DataW.trod enc P W 0 sp held n e cs = some x → ∃ a, rdU a cs ∧ 1 ≤ Rows.uptoBulk x.1 := fun n cs x h => by
  obtain ⟨m, rfl, rfl, hw⟩ := DataW.trod_int he h
  have hm : 0 ≤ m ∧ m ≤ 255 := by simpa [Lit.wf, IntKind.min, IntKind.max, IntKind.signed, IntKind.bits] using hw
  refine ⟨UInt8.ofNat m.toNat, ?_, by simp [Rows.uptoBulk]⟩
  unfold rdU B
  rw [UInt8.toNat_ofNat', Nat.mod_eq_of_lt (by omega), Int.toNat_of_nonneg hm.1]
theorem open_bytes {t e : TypeId} {fuel : Nat} {sp : Nat → Bool} {held : Bool} {cs : List Value} {x : DataW H × List MemPlace} (ht : P.underlying t = some (.slice e)) (hc : P.cellsOf e = 1) (he : P.underlying e = some (.int .u8)) (h : DataW.trod enc P W 0 sp held fuel t cs = some x) :
    ∃ (a : Option Addr) (cap : Nat) (b : List UInt8), cs = [.slice a b.length cap] ∧ b.length ≤ cap ∧ cap ≤ maxLen ∧ (a = none → b.length = 0) ∧ (∀ A, RdB W A a b.length (b.map B)) ∧ b.length + 1 ≤ Rows.uptoBulk x.1 := by
  obtain ⟨a, n, cap, b, rfl, h1, h2, h3, h4, h5⟩ := open_old (m := fun _ => 1) ht hc (by omega) (open_u8 (enc := enc) he) h
  have hl := h4.len
  subst hl
  exact ⟨a, cap, b, rfl, h1, h2, fun c => (h3 c).1, fun A => h4.bytes, by rwa [sum_ones] at h5⟩
theorem v_ldOldA {t : TypeId} {n g o : Nat} {cs : List Value} [ht : AggT P t n] (hn : cs.length = n) (hg : g < W.heap.size) (hc : ∀ (j : Nat) (v : Value), cs[j]? = some v → W.cell? ⟨g, o + j, none⟩ = some v) : RunV P W [] (sLoad t (.pointer (some ⟨g, o, none⟩))) (.agg cs.toArray) := fun w hw => by
  have h : (loadCells ⟨g, o, none⟩ n).run P w = .ok cs.toArray w := by
    subst hn
    exact run_loadCells_list (P := P) w ⟨g, o, none⟩ cs (fun j v hv => by
      rw [addr_add, hw.base.cell (p := ⟨g, o + j, none⟩) hg]; exact hc j v hv)
  simp [sLoad, Instr.loadAt, Instr.sureAddr, loadVar, ht.agg, ht.size, h]
theorem open_slice {t e : TypeId} {v : Value} {d : DataW H} {ps : List MemPlace} {r : Reach} {b0 : Nat} {sp : Nat → Bool} {held : Bool} (ht : P.underlying t = some (.slice e)) (hval : Value.okWide P W r b0 t v) (hd : DataW.Trod enc P W 0 sp held t v d ps) :
    ∃ fuel, DataW.trod enc P W 0 sp held fuel t [v] = some (d, ps) := by
  obtain ⟨a, n, c, rfl⟩ := WideShapes.okWide_slice ht hval
  obtain ⟨fuel, hf⟩ := hd
  exact ⟨fuel, hf⟩
theorem four {cs : List Value} (h : cs.length = 4) : ∃ a b c d, cs = [a, b, c, d] := by
  match cs, h with
  | [a, b, c, d], _ => exact ⟨a, b, c, d, rfl⟩
end Go.Proofs.YtcmpkkkigmheoaaGreatDoor.Sl
/-! Slices of many-celled elements: made of parts, looked up. No conditions but those that each names. -/
namespace Go.Proofs.YtcmpkkkigmheoaaGreatDoor.Sl
open Go Go.Proofs.YtcmpkkkigmheoaaGreatDoor.Sh
variable {P : Program} {W : World} {L L' : List HP} {Kp : PK} {k : Value → WP}
theorem fold_put (o : Nat) : ∀ (us pre zs : List Value) (m : Nat), pre.length = o + m → us.length ≤ zs.length →
    (us.zipIdx m).foldl (fun (cs : Array Value) (x : Value × Nat) => cs.setIfInBounds (o + x.2) x.1) (pre ++ zs).toArray = (pre ++ us ++ zs.drop us.length).toArray
  | [], pre, zs, m, _, _ => by simp
  | u :: us, pre, [], m, _, h => by simp at h
  | u :: us, pre, z :: zs, m, hp, h => by
    have ih := fold_put o us (pre ++ [u]) zs (m + 1) (by simp; omega) (by simpa using h)
    have e : ((pre ++ z :: zs).toArray).setIfInBounds (o + m) u = (pre ++ [u] ++ zs).toArray := by
      rw [← hp]; simp
    rw [List.zipIdx_cons, List.foldl_cons]
    simp only
    rw [e, ih]; simp
theorem fill_runS (s : Nat) : ∀ (vs pre zs : List Value) (m : Nat), pre.length = m * s → zs.length = vs.length * s → (∀ v ∈ vs, v.cells.size = s) →
    Instr.fill (fun i => some (i * s, s)) (pre ++ zs).toArray ((vs.zipIdx m).map fun x => (x.2, x.1)) = some (pre ++ vs.flatMap fun v => v.cells.toList).toArray
  | [], pre, zs, m, _, hz, _ => by
    have : zs = [] := List.eq_nil_of_length_eq_zero (by simpa using hz)
    subst this; simp [Instr.fill]
  | v :: vs, pre, zs, m, hp, hz, ho => by
    have hv := ho v (by simp)
    have hz' : zs.length = vs.length * s + s := by rw [hz, List.length_cons, Nat.add_mul, Nat.one_mul]
    have ih := fill_runS s vs (pre ++ v.cells.toList) (zs.drop s) (m + 1) (by rw [List.length_append, hp, Array.length_toList, hv, Nat.add_mul, Nat.one_mul]) (by rw [List.length_drop, hz']; omega) (fun u hu => ho u (by simp [hu]))
    simp only [List.zipIdx_cons, List.map_cons, Instr.fill, hv]
    rw [if_neg (by simp [hp, hz'])]
    have h2 : Array.foldl (fun cs (x : Value × Nat) => cs.setIfInBounds (m * s + x.2) x.1) (pre ++ zs).toArray v.cells.zipIdx = (pre ++ v.cells.toList ++ zs.drop s).toArray := by
      have := fold_put (m * s) v.cells.toList pre zs 0 (by simpa using hp) (by rw [Array.length_toList, hv]; omega)
      rw [Array.length_toList, hv] at this
      rw [← this]
      have e2 : v.cells.zipIdx.toList = v.cells.toList.zipIdx := by simp
      rw [← e2, Array.foldl_toList]
    rw [h2, ih]; simp
theorem e_bslS {t e : TypeId} {s b n : Nat} {parts : List (Nat × Value)} {vs : List Value} [ht : SlT P t e s b] (hn : vs.length = n) (h1 : 0 < n) (hp : parts = vs.zipIdx.map fun x => (x.2, x.1)) (ho : ∀ v ∈ vs, v.cells.size = s) (hm : n * s ≤ 16777216)
    (h : ∀ g, Ent W (pt g (.cells (vs.flatMap fun v => v.cells.toList).toArray e) :: L) (k (.slice (some ⟨g, 0, none⟩) n n))) : Ent W L (opN P (sBuildSl t n parts) Kp k) := fun w hw => by
  refine ⟨?_⟩
  obtain ⟨i, z, hi, hz, hs, hb, hzs⟩ := ht.info
  have : (sBuildSl t n parts).run P w = .ok (.value (.slice (some ⟨w.heap.size, 0, none⟩) n n)) (w.alloc (.cells (vs.flatMap fun v => v.cells.toList).toArray e)) := by
    have hm' : ¬ (2 ^ 24 < n * s) := by omega
    have hf : ∀ zs : Array Value, zs.size = n * s → Instr.fill (fun i => some (i * s, s)) zs parts = some (vs.flatMap fun v => v.cells.toList).toArray := fun zs hz => by
      have := fill_runS s vs [] zs.toList 0 (by simp) (by simp [hz, hn]) ho
      simpa [hp] using this
    by_cases h0 : n * s = 0
    · simp [sBuildSl, Instr.buildSlice, run_underlying ht.ut, sizeOf_run hi, hs, zeroValue, typeInfo, hi, hz, newRow, h0]
      have := hf ((Array.range 0).map fun _ => (default : Value)) (by simp [h0])
      rw [this]
      simp
    · simp [sBuildSl, Instr.buildSlice, run_underlying ht.ut, sizeOf_run hi, hs, hm', zeroValue, typeInfo, hi, hz, newRow, h0]
      have := hf ((Array.range (n * s)).map fun j => z.cells[j % z.cells.size]!) (by simp)
      rw [this]
      simp
  rw [this]
  exact h _ _ (hw.alloc _)
theorem flat_len {α : Type} {f : α → List Value} {s : Nat} (hf : ∀ x, (f x).length = s) : ∀ l : List α, (l.flatMap f).length = l.length * s
  | [] => by simp
  | x :: l => by rw [List.flatMap_cons, List.length_append, hf, flat_len hf l, List.length_cons, Nat.add_mul, Nat.one_mul, Nat.add_comm]
theorem flat_get {α : Type} {f : α → List Value} {s : Nat} (hf : ∀ x, (f x).length = s) : ∀ (l : List α) (i j : Nat) (hi : i < l.length) (hj : j < s), (l.flatMap f)[i * s + j]? = (f l[i])[j]?
  | x :: l, 0, j, _, hj => by
    rw [List.flatMap_cons, Nat.zero_mul, Nat.zero_add, List.getElem?_append_left (by rw [hf]; exact hj)]; rfl
  | x :: l, i + 1, j, hi, hj => by
    rw [List.flatMap_cons, List.getElem?_append_right (by rw [hf, Nat.add_mul]; omega), hf, show (i + 1) * s + j - s = i * s + j by rw [Nat.add_mul]; omega, flat_get hf l i j (by simpa using hi) hj]; rfl
end Go.Proofs.YtcmpkkkigmheoaaGreatDoor.Sl
/-! Lists of numbers, small arrays of numbers. No conditions but those that each names. -/
namespace Go.Proofs.YtcmpkkkigmheoaaGreatDoor.Sl
open Go Go.RowKit Go.Proofs.YtcmpkkkigmheoaaGreatDoor.Sh
variable {P : Program} {W : World} {L L' : List HP} {Kp : PK} {k : Value → WP} {H : Type} {enc : TypeId × Value → H}
/-- a number as the model holds it -/
def I (n : Int) : Value := .int .i64 n
instance {n : Int} : OC (I n) := ⟨rfl⟩
theorem I_one {l : List Int} : ∀ u ∈ l.map I, u.oneCell' = true := by
  intro u hu; obtain ⟨c, _, rfl⟩ := List.mem_map.1 hu; rfl
theorem I_get {l : List Int} {j : Nat} (h : j < l.length) : (l.map I)[j]? = some (I l[j]) := by simp [h]
/-- an array of n numbers -/
def An (n : Nat) (f : Nat → Int) : Array Value := ((List.range n).map fun j => I (f j)).toArray
theorem An_size (n : Nat) (f : Nat → Int) : (An n f).size = n := by simp [An]
theorem An_get {n j : Nat} {f : Nat → Int} (h : j < n) : (An n f)[j]? = some (I (f j)) := by simp [An, h]
theorem An_congr {n : Nat} {f g : Nat → Int} (h : ∀ j, j < n → f j = g j) : An n f = An n g := by
  unfold An
  congr 1
  exact List.map_congr_left fun j hj => by rw [h j (List.mem_range.1 hj)]
theorem An_set {n j : Nat} {f : Nat → Int} {v : Int} : (An n f).setIfInBounds j (I v) = An n fun i => if i = j then v else f i := by
  apply Array.ext_getElem?
  intro i
  rw [Array.getElem?_setIfInBounds, An_size]
  by_cases c : j = i
  · subst c
    rw [if_pos rfl]
    by_cases h : j < n
    · rw [if_pos h, An_get h]; simp
    · rw [if_neg h, Array.getElem?_eq_none (by rw [An_size]; omega)]
  · rw [if_neg c]
    by_cases h : i < n
    · rw [An_get h, An_get h, if_neg (fun e => c e.symm)]
    · rw [Array.getElem?_eq_none (by rw [An_size]; omega), Array.getElem?_eq_none (by rw [An_size]; omega)]
theorem v_slA {t e : TypeId} {s len : Nat} {g l : Nat} {q : IntKind} {i : Int} [ht : ArrT P t len e s] (hi : i = (l : Int)) (hl : l < len) : RunV P W [] (sSl t (.pointer (some ⟨g, 0, none⟩)) (some (.int q i)) none none) (.slice (some ⟨g, l * s, none⟩) (len - l) (len - l)) := fun w _ => by
  have hne : len ≠ l := by omega
  simp [sSl, Instr.sliceAt, Instr.sliceBounds, ht.ut, ht.size, run_bound l hi (Nat.le_of_lt hl), Instr.sureAddr, hne, Addr.add]
  intro h; exact h.symm
theorem rd_cut {A : HP} {g m n l : Nat} {f : Nat → Int} (h : RdB W A (some ⟨g, 0, none⟩) n ((List.range n).map fun j => I (f j))) (hl : l + m = n) : RdB W A (some ⟨g, l * 1, none⟩) m ((List.range m).map fun j => I (f (l + j))) := by
  have := h.cut (cap := n + 1) (l := l) (h := n) (by omega) (by omega) (by omega)
  rw [if_neg (by omega)] at this
  have e : (Option.map (fun x : Addr => x.add (l * 1)) (some ⟨g, 0, none⟩)) = some ⟨g, l * 1, none⟩ := by simp [addr_add]
  rw [e, show n - l = m by omega] at this
  have e2 : List.take m (List.drop l ((List.range n).map fun j => I (f j))) = (List.range m).map fun j => I (f (l + j)) := by
    apply List.ext_getElem?
    intro j
    rw [List.getElem?_take]
    by_cases c : j < m
    · rw [if_pos c, List.getElem?_drop, List.getElem?_map, List.getElem?_map, List.getElem?_range (by omega), List.getElem?_range c]; rfl
    · rw [if_neg c, List.getElem?_eq_none (by simp; omega)]
  rw [e2] at this
  exact this
def rdI (c : Int) (cs : List Value) : Prop := cs = [I c]
theorem Old.ints {a : Option Addr} {n : Nat} {b : List Int} {A : HP} (h : Old W 1 rdI a n b) : RdB W A a n (b.map I) := by
  refine ⟨by rw [List.length_map]; exact h.len, fun hn => ?_⟩
  obtain ⟨g, o, rfl, hg, hc⟩ := h.at_ hn
  refine ⟨g, o, rfl, fun w L hw j v hv => ?_⟩
  rw [List.getElem?_map] at hv
  have hj : j < b.length := by
    rcases Nat.lt_or_ge j b.length with c | c
    · exact c
    · rw [List.getElem?_eq_none c] at hv; cases hv
  obtain ⟨cs, h1, h2, h3⟩ := hc j hj
  rw [h2] at h3
  have := h3 0 (I b[j]) rfl
  rw [List.getElem?_eq_getElem hj] at hv
  have hv' : I b[j] = v := Option.some.inj hv
  rw [hw.base.cell (p := ⟨g, o + j, none⟩) hg, ← hv']
  simpa using this
theorem open_i64 {e : TypeId} {sp : Nat → Bool} {held : Bool} (he : P.underlying e = some (.int .i64)) : ∀ (n : Nat) (cs : List Value) (x : DataW H × List MemPlace), DataW.trod enc P W 0 sp held n e cs = some x → ∃ a, (rdI a cs ∧ -9223372036854775808 ≤ a ∧ a ≤ 9223372036854775807) ∧ 1 ≤ Rows.uptoBulk x.1 := fun n cs x h => by
  obtain ⟨m, rfl, rfl, hw⟩ := DataW.trod_int he h
  have hm : -9223372036854775808 ≤ m ∧ m ≤ 9223372036854775807 := by simpa [Lit.wf, IntKind.min, IntKind.max, IntKind.signed, IntKind.bits] using hw
  exact ⟨m, ⟨rfl, hm⟩, by simp [Rows.uptoBulk]⟩
theorem open_ints {t e : TypeId} {v : Value} {d : DataW H} {ps : List MemPlace} {r : Reach} {b0 : Nat} {sp : Nat → Bool} {held : Bool} (ht : P.underlying t = some (.slice e)) (hc : P.cellsOf e = 1) (he : P.underlying e = some (.int .i64)) (hval : Value.okWide P W r b0 t v) (hd : DataW.Trod enc P W 0 sp held t v d ps) :
    ∃ (a : Option Addr) (cap : Nat) (b : List Int), v = .slice a b.length cap ∧ (a = none → b.length = 0) ∧ (∀ A, RdB W A a b.length (b.map I)) ∧ (∀ x ∈ b, -9223372036854775808 ≤ x ∧ x ≤ 9223372036854775807) ∧ b.length ≤ Rows.uptoBulk d := by
  obtain ⟨fuel, hf⟩ := open_slice (e := e) ht hval hd
  obtain ⟨a, n, cap, b, e1, h1, h2, h3, h4, h5⟩ := open_old (rd := fun (x : Int) cs => rdI x cs ∧ -9223372036854775808 ≤ x ∧ x ≤ 9223372036854775807) (m := fun _ => 1) ht hc (by omega) (open_i64 (enc := enc) he) hf
  have hl := h4.len
  subst hl
  have h6 : Old W 1 rdI a b.length b := ⟨rfl, fun c => let ⟨g, o, q1, q2, q3⟩ := h4.at_ c; ⟨g, o, q1, q2, fun i hi => let ⟨cs, z1, z2, z3⟩ := q3 i hi; ⟨cs, z1, z2.1, z3⟩⟩⟩
  refine ⟨a, cap, b, by injection e1, fun c => (h3 c).1, fun A => h6.ints, fun x hx => ?_, by rw [sum_ones] at h5; simp at h5; omega⟩
  obtain ⟨i, hi, rfl⟩ := List.mem_iff_getElem.1 hx
  obtain ⟨g, o, q1, q2, q3⟩ := h4.at_ (by omega)
  obtain ⟨cs, z1, z2, z3⟩ := q3 i hi
  exact z2.2
end Go.Proofs.YtcmpkkkigmheoaaGreatDoor.Sl
/-! Contracts with two ends: a value, or a panic. No conditions but those that each names. -/
namespace Go.Proofs.YtcmpkkkigmheoaaGreatDoor.Sl
open Go Go.RowKit Go.Proofs.YtcmpkkkigmheoaaGreatDoor.Sh
variable {P : Program} {W : World} {L L' : List HP} {Kp : PK} {k : Value → WP}
/-- called where A holds it returns r x where B x holds, or passes up the panic pc y where Bp y holds -/
structure CnP {α β : Type} (P : Program) (f : FuncId) (args : List Value) (W : World) (A : List HP) (r : α → Value) (B : α → List HP) (pc : β → List PanicEntry) (Bp : β → List HP) : Prop where
  call : ∀ (a : Array Value) (w : World), (callFunc f a).run P w = .ok (.enter f a) w
  run : ∀ (F : List HP) (w : World), sat W (A ++ F) w → Calls P f args.toArray w (fun e w' => (∃ x, e = .returned (r x) ∧ sat W (B x ++ F) w') ∨ ∃ y, e = .panicked (pc y) ∧ sat W (Bp y ++ F) w')
theorem CnP.of {α β : Type} {f : FuncId} {args : List Value} {A : List HP} {r : α → Value} {B : α → List HP} {pc : β → List PanicEntry} {Bp : β → List HP} {shape : PK → (Value → WP) → WP}
    (hc : ∀ (a : Array Value) (w : World), (callFunc f a).run P w = .ok (.enter f a) w)
    (hs : ∀ {Kp : PK} {K : Value → WP} {w : World}, shape Kp K w → Calls P f args.toArray w (after Kp K))
    (h : ∀ F, Ent W (A ++ F) (shape (fun ch w' => ∃ y, ch = pc y ∧ sat W (Bp y ++ F) w') fun v w' => ∃ x, v = r x ∧ sat W (B x ++ F) w')) : CnP P f args W A r B pc Bp :=
  ⟨hc, fun F w hw => (hs (h F w hw)).mono fun e w' he => by
    cases e with
    | returned v => obtain ⟨x, rfl, h2⟩ := he; exact .inl ⟨x, rfl, h2⟩
    | panicked ch => obtain ⟨y, rfl, h2⟩ := he; exact .inr ⟨y, rfl, h2⟩
    | outgrown => exact he.elim⟩
theorem Cn.noPanic {α : Type} {f : FuncId} {args : List Value} {A : List HP} {r : α → Value} {B : α → List HP} {β : Type} {pc : β → List PanicEntry} {Bp : β → List HP} (h : Cn P f args W A r B) : CnP P f args W A r B pc Bp :=
  ⟨h.call, fun F w hw => (h.run F w hw).mono fun e w' he => .inl he⟩
theorem CnP.plain {α β : Type} {f : FuncId} {args : List Value} {A : List HP} {r : α → Value} {B : α → List HP} {pc : β → List PanicEntry} {Bp : β → List HP} (h : CnP P f args W A r B pc Bp) (hn : β → False) : Cn P f args W A r B :=
  ⟨h.call, fun F w hw => (h.run F w hw).mono fun e w' he => he.resolve_right fun ⟨y, _⟩ => hn y⟩
theorem e_callP {α β : Type} {f : FuncId} {args : List Value} {A F : List HP} {r : α → Value} {B : α → List HP} {pc : β → List PanicEntry} {Bp : β → List HP} (hf : CnP P f args W A r B pc Bp) (p : Picks L A F)
    (h : ∀ x, Ent W (B x ++ F) (k (r x))) (hp : ∀ y, Ent W (Bp y ++ F) (Kp (pc y))) : Ent W L (opN P (sCall (fn f) args) Kp k) := fun w hw => by
  refine ⟨?_⟩
  rw [run_sCall hf.call]
  refine (hf.run F w (p.sat hw)).mono fun e w' he => ?_
  rcases he with ⟨x, he, hs⟩ | ⟨y, he, hs⟩
  · subst he; exact h x w' hs
  · subst he; exact hp y w' hs
/-- a panic's chain, fresh -/
def pe (v : Value) : List PanicEntry := [{ v, recovered := false }]
theorem e_panic {t : TypeId} {x : Value} (h : Ent W L (Kp (pe (.iface t x)))) : Ent W L (opN P (sPanic (.iface t x)) Kp k) := fun w hw => by
  refine ⟨?_⟩
  have : (sPanic (.iface t x)).run P w = .halt (.panic (.iface t x)) w := by simp [sPanic, Instr.panic, goPanic]
  rw [this]
  exact h w hw
theorem v_mkI {t : TypeId} {v : Value} {q : IntKind} [ht : IntT P t q] : RunV P W [] (sMkI t v) (.iface t v) := fun w _ => by
  simp [sMkI, Instr.makeInterface, ht.run]
theorem e_pan {β : Type} {pc : β → List PanicEntry} {M : β → List HP} {ch : List PanicEntry} (y : β) (hv : ch = pc y) (i : Imp W L (M y)) : Ent W L (fun w' => ∃ y, ch = pc y ∧ sat W (M y) w') := fun w hw => ⟨y, hv, i.sat hw⟩
/-- a function value that is a closure over cells -/
theorem v_mkF {f : FuncId} {bs cs : List Value} : RunV P W [] (sMkF (.func f) bs cs) (.func (.func f) bs.toArray cs.toArray) := fun w _ => by
  simp [sMkF, Instr.makeFunc]
theorem e_opDf {fn : Fn} {a b : Array Value} {args : List Value} {kd : Deferred → WP} (h : Ent W L (kd { target := .fn fn b, args := a ++ args.toArray })) : Ent W L (opDf (.func fn a b) args kd) := fun w hw => ⟨fn, a, b, rfl, h w hw⟩
/-- the deferred call at a function's end, by the deferred function's shape -/
theorem e_dfS {f : FuncId} {A : List Value} {d : Deferred} {u : FrameMode} {Kret : WP} {Kq : PK} {shape : Value → PK → (Value → WP) → WP} (hu : u ≠ .run) (ht : ∃ fv cap, d.target = .fn fv cap)
    (hinv : ∀ w, (invoke d.target d.args).run P w = .ok (.enter f A.toArray) w)
    (hs : ∀ {Kp' : PK} {K : Value → WP} {w : World}, shape (recV u).1 Kp' K w → CallsD P f A.toArray u w fun
      | .returned v, u', w' => u' = (recV u).2 ∧ K v w'
      | .panicked ch, u', w' => u' = (recV u).2 ∧ Kp' ch w'
      | .outgrown, _, _ => False)
    (h : Ent W L (shape (recV u).1 (fun ch => lvS Kret Kq (raised (recV u).2 ch)) fun _ => lvS Kret Kq (settle (recV u).2))) : Ent W L (dfS P d u Kret Kq) := fun w hw => by
  obtain ⟨fv, cap, ht⟩ := ht
  refine ⟨hu, fv, cap, f, A.toArray, ht, hinv w, (hs (h w hw)).mono fun e u' w' he => ?_⟩
  cases e with
  | returned v => obtain ⟨rfl, h2⟩ := he; exact h2
  | panicked ch => obtain ⟨rfl, h2⟩ := he; exact h2
  | outgrown => exact he.elim
theorem lv_ret {Kret : WP} {Kq : PK} : lvS Kret Kq (settle (recV .returning).2) = Kret := rfl
theorem lv_pan {Kret : WP} {Kq : PK} {v : Value} : lvS Kret Kq (settle (recV (.panicking (pe v))).2) = Kret := rfl
theorem rec_ret : (recV .returning).1 = .nilIface := rfl
theorem rec_pan {v : Value} : (recV (.panicking (pe v))).1 = v := rfl
theorem inv_closure {f : FuncId} {cs bs : List Value} (hc : ∀ (a : Array Value) (w : World), (callFunc f a).run P w = .ok (.enter f a) w) (w : World) : (invoke (.fn (.func f) cs.toArray) bs.toArray).run P w = .ok (.enter f (bs ++ cs).toArray) w := by
  simp [invoke, hc]
end Go.Proofs.YtcmpkkkigmheoaaGreatDoor.Sl
/-! Ranges over functions, and calls of what a function value holds: the rules of a walk. No conditions but those that each names. -/
namespace Go.Proofs.YtcmpkkkigmheoaaGreatDoor.Sl
open Go Go.RowKit Go.Proofs.YtcmpkkkigmheoaaGreatDoor.Sh
variable {P : Program} {W : World} {L L' : List HP} {Kp : PK} {k : Value → WP}
/-- a call of a closure: what it captured comes behind its arguments -/
theorem run_sCallC {f : FuncId} {cap : Array Value} {args : List Value} (hc : ∀ (a : Array Value) (w : World), (callFunc f a).run P w = .ok (.enter f a) w) (w : World) :
    (sCall (.func (.func f) #[] cap) args).run P w = .ok (.enter f (args.toArray ++ cap)) w := by
  unfold sCall Deferred.ofValue
  simp [invoke, hc]
theorem e_callC {α : Type} {f : FuncId} {args cap : List Value} {A F : List HP} {r : α → Value} {B : α → List HP} (hf : Cn P f (args ++ cap) W A r B) (p : Picks L A F)
    (h : ∀ x, Ent W (B x ++ F) (k (r x))) : Ent W L (opN P (sCall (.func (.func f) #[] cap.toArray) args) Kp k) := fun w hw => by
  refine ⟨?_⟩
  rw [run_sCallC hf.call, show args.toArray ++ cap.toArray = (args ++ cap).toArray by simp]
  refine (hf.run F w (p.sat hw)).mono fun e w' ⟨x, he, hs⟩ => ?_
  subst he
  exact h x w' hs
/-- a loop's yield, from round to round: what is handed in, what holds between -/
def YieldC (P : Program) (l : Nat) (xs : List (List Value)) (I : Nat → HP) (Ix : HP) (W : World) : Prop :=
  ∀ i (hi : i < xs.length) (F : List HP) (w : World), sat W (I i :: F) w → YieldP P l xs[i] w fun e w' =>
    (e = .returned (.bool true) ∧ sat W (I (i + 1) :: F) w') ∨ (e = .returned (.bool false) ∧ sat W (Ix :: F) w')
def yv (l : Nat) : Value := .func (.yield l) #[] #[]
instance {l : Nat} : OC (yv l) := ⟨rfl⟩
theorem e_yield {l : Nat} {xs : List (List Value)} {I : Nat → HP} {Ix : HP} {args : List Value} (hy : YieldC P l xs I Ix W) (i : Nat) (hi : xs[i]? = some args) (p : Pick L (I i) L')
    (ht : Ent W (I (i + 1) :: L') (k (.bool true))) (hf : Ent W (Ix :: L') (k (.bool false))) : Ent W L (opN P (sCall (yv l) args) Kp k) := fun w hw => by
  have hlt : i < xs.length := by
    rcases Nat.lt_or_ge i xs.length with c | c
    · exact c
    · rw [List.getElem?_eq_none c] at hi; cases hi
  have he : xs[i] = args := by rw [List.getElem?_eq_getElem hlt] at hi; exact Option.some.inj hi
  obtain ⟨fn, tmps, assign, body, hr, hR⟩ := hy i hlt L' w (hw.pick p)
  rw [he] at hr
  refine ⟨?_⟩
  have : (sCall (yv l) args).run P w = .ok (.round l fn tmps assign body) w := by
    unfold sCall yv Deferred.ofValue
    simp [invoke, hr]
  rw [this]
  refine hR.mono fun e w' he => ?_
  rcases he with ⟨rfl, hs⟩ | ⟨rfl, hs⟩
  · exact ht w' hs
  · exact hf w' hs
theorem sat.putO {w : World} {g : Nat} {o o' : Obj} (H : sat W (pt g o :: L) w) : sat W (pt g o' :: L) (w.putObj g o') := by
  have hg := H.pt_.1
  have hlt : g < w.heap.size := (Array.getElem?_eq_some_iff.1 hg).1
  exact H.turn rfl rfl rfl (by simp) (World.putObj_heap_same hlt) (fun i hi => World.putObj_heap_other hi)
theorem e_tk {d : Nat} {S : WP} (p : Pick L (pt d (.deferred (some []))) L') (h : Ent W L' S) : Ent W L (tkS d S) := fun w hw => by
  have hw' := hw.pick p
  exact ⟨hw'.pt_.1, h _ (hw'.putO (o' := .deferred none)).drop⟩
theorem e_rf {fv : Value} {f : FuncId} {cap : List Value} {np : Nat} {rnd : VF np ((WP → WP) → WP → WP → WP)} {Kn Kj : Nat → WP} {Kq : Nat → PK} (xs : List (List Value)) (I : Nat → HP) (Ix : HP) (hf : fv = .func (.func f) #[] cap.toArray)
    (hxs : ∀ x ∈ xs, x.length = np) (hi : Imp W L [I 0])
    (hit : ∀ (l : Nat) (T T' : HP), YieldC P l xs (fun i => all [T, I i]) (all [T', Ix]) W → Cn P f (yv l :: cap) W [all [T, I 0]] (fun _ : Bool => .tuple #[]) (fun b => [if b then all [T, I xs.length] else all [T', Ix]]))
    (hbody : ∀ i (hi : i < xs.length) (F : List HP) (T0 T1 : HP) (B : WP → WP) (N J : WP), (∀ L L' S, Pick L T0 L' → Ent W (T1 :: L') S → Ent W L (B S)) → (∀ L, Imp W L (T1 :: I (i + 1) :: F) → Ent W L N) → (∀ L, Imp W L (T1 :: Ix :: F) → Ent W L J) →
      Ent W (T0 :: I i :: F) (vapp np rnd xs[i] B N J))
    (hn : ∀ d, Ent W [pt d (.deferred (some [])), I xs.length] (Kn d)) (hj : ∀ d, Ent W [pt d (.deferred (some [])), Ix] (Kj d)) : Ent W L (rfS P fv np rnd Kn Kj Kq) := fun w hw => by
  have hcall := (hit 0 (pu False) (pu False) (fun i hi F w hs => (by obtain ⟨h, ⟨h1, h2, ⟨h3, h4, hp, _⟩, _⟩, _⟩ := hs.heap; exact hp.elim))).call
  refine ⟨f, cap.toArray, hf, hcall, fun rec hrec => ?_⟩
  obtain ⟨l, hl⟩ : ∃ l, l = w.heap.size + 1 := ⟨_, rfl⟩
  have h0 : sat W [all [all [pt l (.loop (rec .ready none)), pt w.heap.size (.deferred (some []))], I 0]] ((w.alloc (.deferred (some []))).alloc (.loop (rec .ready none))) := by
    have := ((hi.sat hw).alloc (.deferred (some []))).alloc (.loop (rec .ready none))
    rw [World.size_alloc, ← hl] at this
    exact (Imp.all (N := [_, _]) (Imp.all (N := [_, _]) .refl)).sat this
  rw [← hl] at hrec ⊢
  have hy : YieldC P l xs (fun i => all [all [pt l (.loop (rec .ready none)), pt w.heap.size (.deferred (some []))], I i]) (all [all [pt l (.loop (rec .done (some .ret))), pt w.heap.size (.deferred (some []))], Ix]) W := by
    intro i hi F w' hs
    have hs1 : sat W (pt l (.loop (rec .ready none)) :: pt w.heap.size (.deferred (some [])) :: I i :: F) w' :=
      hs.map fun h H => all_append' (N := [_, _]) (M := I i :: F) (by
        have := all_append' (N := [_, _]) (M := F) H
        exact this)
    refine hrec xs[i] w' _ (hxs _ (List.getElem_mem hi)) hs1.pt_.1 ?_
    refine hbody i hi F (all [pt l (.loop (rec .ready none)), pt w.heap.size (.deferred (some []))]) (all [pt l (.loop (rec .busy none)), pt w.heap.size (.deferred (some []))]) _ _ _ ?_ ?_ ?_ w' ?_
    · intro L1 L2 S p hS w1 hw1
      have h1 : sat W (pt l (.loop (rec .ready none)) :: pt w.heap.size (.deferred (some [])) :: L2) w1 := sat.map (L := all [pt l (.loop (rec .ready none)), pt w.heap.size (.deferred (some []))] :: L2) (fun h H => all_append' (N := [_, _]) H) (hw1.pick p)
      refine ⟨h1.pt_.1, hS _ ?_⟩
      exact (Imp.all (N := [_, _]) .refl).sat (h1.putO (o' := .loop (rec .busy none)))
    · intro L1 i1 w1 hw1
      have h1 : sat W (pt l (.loop (rec .busy none)) :: pt w.heap.size (.deferred (some [])) :: I (i + 1) :: F) w1 := sat.map (L := all [pt l (.loop (rec .busy none)), pt w.heap.size (.deferred (some []))] :: I (i + 1) :: F) (fun h H => all_append' (N := [_, _]) H) (i1.sat hw1)
      refine ⟨h1.pt_.1, .inl ⟨rfl, ?_⟩⟩
      exact (Imp.all (N := [_, _]) (Imp.all (N := [_, _]) .refl)).sat (h1.putO (o' := .loop (rec .ready none)))
    · intro L1 i1 w1 hw1
      have h1 : sat W (pt l (.loop (rec .busy none)) :: pt w.heap.size (.deferred (some [])) :: Ix :: F) w1 := sat.map (L := all [pt l (.loop (rec .busy none)), pt w.heap.size (.deferred (some []))] :: Ix :: F) (fun h H => all_append' (N := [_, _]) H) (i1.sat hw1)
      refine ⟨h1.pt_.1, .inr ⟨rfl, ?_⟩⟩
      exact (Imp.all (N := [_, _]) (Imp.all (N := [_, _]) .refl)).sat (h1.putO (o' := .loop (rec .done (some .ret))))
    · exact (Imp.all (N := [_, _]) .refl).sat hs1
  have hc := (hit l _ _ hy).run [] _ (by simpa using h0)
  rw [show (yv l :: cap).toArray = #[.func (.yield l) #[] #[]] ++ cap.toArray by simp [yv]] at hc
  refine hc.mono fun e w' he => ?_
  obtain ⟨b, rfl, hs⟩ := he
  cases b with
  | true =>
    left
    have h1 : sat W (pt l (.loop (rec .ready none)) :: [pt w.heap.size (.deferred (some [])), I xs.length]) w' :=
      hs.map fun h H => all_append' (N := [_, _]) (M := [I xs.length]) (by
        have := all_append' (N := [_, _]) (M := []) H
        exact this)
    exact ⟨h1.pt_.1, hn _ _ (h1.putO (o' := .loop (rec .exhausted none))).drop⟩
  | false =>
    right
    have h1 : sat W (pt l (.loop (rec .done (some .ret))) :: [pt w.heap.size (.deferred (some [])), Ix]) w' :=
      hs.map fun h H => all_append' (N := [_, _]) (M := [Ix]) (by
        have := all_append' (N := [_, _]) (M := []) H
        exact this)
    exact ⟨h1.pt_.1, hj _ _ (h1.putO (o' := .loop (rec .exhausted (some .ret)))).drop⟩
theorem e_swap {M : List HP} {S : WP} (h : Ent W (M ++ L) S) : Ent W (L ++ M) S := fun w hw => by
  refine h w (hw.map fun f H => all_append' ?_)
  obtain ⟨h1, h2, ha, hb, d, s1, s2⟩ := all_append H
  exact ⟨h2, h1, hb, ha, fun i => (d i).symm, s2, s1⟩
/-- what stands by is laid out again -/
theorem e_rest {M F : List HP} {S : WP} (i : Imp W L (M ++ [all F])) (h : Ent W (M ++ F) S) : Ent W L S := by
  refine e_imp i (e_swap (L := M) (M := [all F]) ?_)
  refine e_all (M := F) (L' := M) .here (e_swap h)
end Go.Proofs.YtcmpkkkigmheoaaGreatDoor.Sl
