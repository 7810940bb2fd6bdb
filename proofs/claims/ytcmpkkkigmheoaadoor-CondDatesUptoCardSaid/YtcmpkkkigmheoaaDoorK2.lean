/- Strings: joined, cut, asked by place; their bytes as a new row; arrays as values. No conditions but those that each names. (11 texts made one; each says below what it is.) -/
import Derived.Test.YtcmpkkkigmheoaaDoorK1
import Derived.Laws.IdiomStrings
import Derived.MapKept
import Derived.Test.YtcmpkkkigmheoaaDoorChecked
import Derived.KernelRfl
import Derived.ChangeArms
import Derived.Test.YtcmpkkkigmheoaaDoorRows
set_option linter.unusedVariables false
set_option linter.unusedSimpArgs false
set_option linter.unusedSectionVars false
/-! Strings: joined, cut, asked by place; their bytes as a new row; arrays as values. No conditions but those that each names. -/
namespace Go.Proofs.YtcmpkkkigmheoaaDoor.Sl
open Go Go.RowKit Go.Proofs.YtcmpkkkigmheoaaDoor.Sh
variable {P : Program} {W : World} {L L' : List HP} {Kp : PK} {k : Value → WP}
theorem v_cat {t : TypeId} {a b : List UInt8} (h : a.length + b.length ≤ 9223372036854775807) : RunV P W [] (sBin .add t (txt a) (txt b)) (txt (a ++ b)) := fun w _ => by
  have hm : ¬ (((a.length + b.length : Nat) : Int) > IntKind.i64.max) := by
    have : IntKind.i64.max = 9223372036854775807 := by decide
    rw [this]; omega
  have e : (⟨a.toArray⟩ : ByteArray) ++ ⟨b.toArray⟩ = ⟨(a ++ b).toArray⟩ := by
    apply ByteArray.ext
    simp
  simp [sBin, sv, eqGuard, txt, binOp_string_add, Op.stringOp, e, ByteArray.size]
  omega
theorem run_sb {q : IntKind} {w : World} {i : Int} {y : Nat} {c : BoundsCode} (h : Nat) (hi : i = (h : Int)) (hy : h ≤ y) : (Instr.sliceBound (.int q i) y c).run P w = .ok h w := by
  subst hi
  simp [Instr.sliceBound, asIntOf, hy]
theorem ext_take {l : List UInt8} {h : Nat} (hh : h ≤ l.length) : (⟨l.toArray⟩ : ByteArray).extract 0 h = ⟨(l.take h).toArray⟩ := by
  apply ByteArray.ext
  rw [ByteArray.data_extract]
  simp
theorem ext_drop {l : List UInt8} {h : Nat} : (⟨l.toArray⟩ : ByteArray).extract h l.length = ⟨(l.drop h).toArray⟩ := by
  apply ByteArray.ext
  rw [ByteArray.data_extract]
  simp
  exact List.take_of_length_le (by rw [List.length_drop]; omega)
theorem v_ssh {t : TypeId} {l : List UInt8} {q : IntKind} {i : Int} (h : Nat) [ht : StrT P t] (hi : i = (h : Int)) (hh : h ≤ l.length) : RunV P W [] (sSl t (txt l) none (some (.int q i)) none) (txt (l.take h)) := fun w _ => by
  have e : (⟨l.toArray⟩ : ByteArray).size = l.length := rfl
  simp [sSl, Instr.sliceAt, Instr.slice, Instr.sliceBounds, run_underlying ht.ut, txt, e, run_sb h hi hh, ext_take hh]
theorem v_ssl {t : TypeId} {l : List UInt8} {q : IntKind} {i : Int} (h : Nat) [ht : StrT P t] (hi : i = (h : Int)) (hh : h ≤ l.length) : RunV P W [] (sSl t (txt l) (some (.int q i)) none none) (txt (l.drop h)) := fun w _ => by
  have e : (⟨l.toArray⟩ : ByteArray).size = l.length := rfl
  simp [sSl, Instr.sliceAt, Instr.slice, Instr.sliceBounds, run_underlying ht.ut, txt, e, run_sb h hi hh, ext_drop]
theorem v_ixS {t : TypeId} {l : List UInt8} {q : IntKind} {i : Int} (j : Nat) [ht : StrT P t] (hi : i = (j : Int)) (hh : j < l.length) : RunV P W [] (sIx t (txt l) (.int q i)) (B l[j]) := fun w _ => by
  subst hi
  have h2 : j < (⟨l.toArray⟩ : ByteArray).size := hh
  have e : (⟨l.toArray⟩ : ByteArray)[j] = l[j] := by simp [ByteArray.getElem_eq_getElem_data]
  have := run_index_string (P := P) w t ⟨l.toArray⟩ q (j : Int) ht.ut
  rw [dif_pos ⟨by omega, by simpa using h2⟩] at this
  simp [sIx, txt, this, B]
  exact congrArg (fun c : UInt8 => (c.toNat : Int)) e
theorem v_ixA {t e : TypeId} {n : Nat} {cs : Array Value} {v : Value} {q : IntKind} {i : Int} (j : Nat) [ht : ArrT P t n e 1] [ho : OneT P e] (hi : i = (j : Int)) (hj : j < n) (hv : cs[j]? = some v) : RunV P W [] (sIx t (.agg cs) (.int q i)) v := fun w _ => by
  subst hi
  simp [sIx, Instr.index, asIntOf, ht.ut, ht.size, hj, part, ho.agg, hv]
/-- a string's bytes in a new row -/
theorem e_sbytes {s t e : TypeId} {l : List UInt8} [hs : StrT P s] (ht : P.underlying t = some (.slice e)) (he : P.underlying e = some (.int .u8))
    (h : ∀ g c (rest : List Value) fz, Ent W (pt g (.cells (l.map B ++ rest).toArray e fz) :: L) (k (.slice (some ⟨g, 0, none⟩) l.length c))) : Ent W L (opN P (sConv s t (txt l)) Kp k) := fun w hw => by
  refine ⟨?_⟩
  have hr := run_bytes_of_string (P := P) w s t e ⟨l.toArray⟩ hs.ut ht he
  have hb : bytesRow ⟨l.toArray⟩ (grownCap w l.length 0 e) = (l.map B ++ (Array.replicate (grownCap w l.length 0 e - l.length) (Value.int .u8 0)).toList).toArray := by
    apply Array.ext'
    simp [bytesRow, B, ByteArray.size]
  have : (sConv s t (txt l)).run P w = .ok (.value (.slice (some ⟨w.heap.size, 0, none⟩) l.length (grownCap w l.length 0 e))) (w.drew.alloc (.cells (bytesRow ⟨l.toArray⟩ (grownCap w l.length 0 e)) e ((bytesRow ⟨l.toArray⟩ (grownCap w l.length 0 e)).size, (bytesRow ⟨l.toArray⟩ (grownCap w l.length 0 e)).size + 1))) := by
    simp [sConv, txt, hr, ByteArray.size]
  rw [this]
  have h2 := (hw.drew).alloc (.cells (bytesRow ⟨l.toArray⟩ (grownCap w l.length 0 e)) e ((bytesRow ⟨l.toArray⟩ (grownCap w l.length 0 e)).size, (bytesRow ⟨l.toArray⟩ (grownCap w l.length 0 e)).size + 1))
  rw [hb] at h2 ⊢
  exact h _ _ _ _ _ h2
theorem rd_row {g : Nat} {e : TypeId} {fz : Nat × Nat} {cs rest : List Value} : RdB W (pt g (.cells (cs ++ rest).toArray e fz)) (some ⟨g, 0, none⟩) cs.length cs :=
  ⟨rfl, fun _ => ⟨g, 0, rfl, fun w L hw j v hv => by
    rw [Nat.zero_add, hw.cell]
    have hj : j < cs.length := by
      rcases Nat.lt_or_ge j cs.length with c | c
      · exact c
      · rw [List.getElem?_eq_none c] at hv; cases hv
    simpa [List.getElem?_append_left hj] using hv⟩⟩
end Go.Proofs.YtcmpkkkigmheoaaDoor.Sl
/-! Values of fields: what the document says of them, as plain functions over bytes. No conditions but those that each names. -/
namespace Go.Proofs.YtcmpkkkigmheoaaDoor.FD
def isBl (c : UInt8) : Bool := c == 32 || c == 9
def trimL (l : List UInt8) : List UInt8 := l.dropWhile isBl
def trimR (l : List UInt8) : List UInt8 := (l.reverse.dropWhile isBl).reverse
def trimB (l : List UInt8) : List UInt8 := trimL (trimR l)
theorem trimR_t {l : List UInt8} {n : Nat} (h : l.length = n + 1) (hb : isBl (l[n]'(by omega)) = true) : trimR l = trimR (l.take n) := by
  have e : l = l.take n ++ [l[n]'(by omega)] := by
    rw [List.take_append_getElem (by omega : n < l.length)]
    exact (List.take_of_length_le (by omega)).symm
  unfold trimR
  conv => lhs; rw [e]
  rw [List.reverse_append]
  simp [List.dropWhile_cons, hb]
theorem trimR_f {l : List UInt8} {n : Nat} (h : l.length = n + 1) (hb : isBl (l[n]'(by omega)) = false) : trimR l = l := by
  have e : l = l.take n ++ [l[n]'(by omega)] := by
    rw [List.take_append_getElem (by omega : n < l.length)]
    exact (List.take_of_length_le (by omega)).symm
  unfold trimR
  conv => lhs; rw [e]
  rw [List.reverse_append]
  simp [List.dropWhile_cons, hb]
  exact List.take_of_length_le (by omega)
theorem trimL_t {l : List UInt8} (h : 0 < l.length) (hb : isBl l[0] = true) : trimL l = trimL (l.drop 1) := by
  cases l with
  | nil => simp at h
  | cons c r => simp [trimL, List.dropWhile_cons, show isBl c = true from hb]
theorem trimL_f {l : List UInt8} (h : 0 < l.length) (hb : isBl l[0] = false) : trimL l = l := by
  cases l with
  | nil => simp at h
  | cons c r => simp [trimL, List.dropWhile_cons, show isBl c = false from hb]
theorem trim_nil : trimB [] = [] := rfl
theorem trimR_snoc {l : List UInt8} {c : UInt8} : trimR (l ++ [c]) = if isBl c then trimR l else l ++ [c] := by
  unfold trimR
  rw [List.reverse_append]
  by_cases h : isBl c <;> simp [List.dropWhile_cons, h]
theorem trimLR (l : List UInt8) : trimL (trimR l) = trimR (trimL l) := by
  induction l with
  | nil => rfl
  | cons c r ih =>
    by_cases hr : trimR r = []
    · -- all blanks behind c
      have hc : trimR (c :: r) = if isBl c then [] else [c] := by
        unfold trimR at hr ⊢
        rw [List.reverse_cons, List.dropWhile_append]
        have : List.dropWhile isBl r.reverse = [] := by simpa using hr
        rw [this]
        by_cases h : isBl c <;> simp [List.dropWhile_cons, h]
      by_cases h : isBl c
      · rw [hc]
        simp only [h, if_true]
        have : trimL (c :: r) = trimL r := by simp [trimL, List.dropWhile_cons, h]
        rw [this, ← ih, hr]
      · rw [hc]
        simp only [h]
        have : trimL (c :: r) = c :: r := by simp [trimL, List.dropWhile_cons, h]
        rw [this, hc]
        simp [trimL, List.dropWhile_cons, h]
    · have hc : trimR (c :: r) = c :: trimR r := by
        unfold trimR at hr ⊢
        rw [List.reverse_cons, List.dropWhile_append]
        have : ¬ List.dropWhile isBl r.reverse = [] := by simpa using hr
        have h2 : (List.dropWhile isBl r.reverse).isEmpty = false := by
          cases hx : List.dropWhile isBl r.reverse with
          | nil => exact absurd hx this
          | cons _ _ => rfl
        rw [h2]; simp
      by_cases h : isBl c
      · have h1 : trimL (c :: r) = trimL r := by simp [trimL, List.dropWhile_cons, h]
        have h2 : trimL (c :: trimR r) = trimL (trimR r) := by simp [trimL, List.dropWhile_cons, h]
        rw [hc, h1, h2, ih]
      · have h1 : trimL (c :: r) = c :: r := by simp [trimL, List.dropWhile_cons, h]
        rw [hc, h1, hc]
        simp [trimL, List.dropWhile_cons, h]
/-- a part of a text -/
def sub (l : List UInt8) (a b : Nat) : List UInt8 := (l.drop a).take (b - a)
theorem sub_snoc {l : List UInt8} {a b : Nat} (h1 : a ≤ b) (h2 : b < l.length) : sub l a b ++ [l[b]] = sub l a (b + 1) := by
  unfold sub
  have h3 : b - a < (l.drop a).length := by rw [List.length_drop]; omega
  have := List.take_append_getElem h3
  rw [List.getElem_drop] at this
  have e : a + (b - a) = b := by omega
  simp only [e] at this
  rw [show b + 1 - a = b - a + 1 by omega, this]
theorem sub_self {l : List UInt8} {a : Nat} : sub l a a = [] := by simp [sub]
theorem sub_end {l : List UInt8} {a b : Nat} (h : l.length ≤ b) : sub l a b = l.drop a := by
  unfold sub
  exact List.take_of_length_le (by rw [List.length_drop]; omega)
/-- the pieces of a list -/
def els (q e : Bool) : Bool → List UInt8 → List UInt8 → List (List UInt8)
  | _, cur, [] => [cur]
  | inn, cur, c :: r =>
    if c = 92 ∧ inn = true ∧ e = true then match r with
      | [] => [cur ++ [c]]
      | d :: r' => els q e inn (cur ++ [c, d]) r'
    else if c = 34 ∧ q = true then els q e (!inn) (cur ++ [c]) r
    else if c = 44 ∧ inn = false then cur :: els q e false [] r
    else els q e inn (cur ++ [c]) r
theorem els_cons {q e inn : Bool} {cur : List UInt8} {c : UInt8} {r : List UInt8} : els q e inn cur (c :: r) = if c = 92 ∧ inn = true ∧ e = true then (match r with
      | [] => [cur ++ [c]]
      | d :: r' => els q e inn (cur ++ [c, d]) r')
    else if c = 34 ∧ q = true then els q e (!inn) (cur ++ [c]) r
    else if c = 44 ∧ inn = false then cur :: els q e false [] r
    else els q e inn (cur ++ [c]) r := by
  cases r <;> rfl
def stE (l : List UInt8) (q e inn : Bool) (a i : Nat) : List (List UInt8) := els q e inn (sub l a i) (l.drop i)
variable {l : List UInt8} {q e inn : Bool} {a i : Nat}
theorem stE_end (h : l.length ≤ i) : stE l q e inn a i = [l.drop a] := by
  unfold stE
  rw [List.drop_of_length_le h, sub_end h, els]
theorem dr (h : i < l.length) : l.drop i = l[i] :: l.drop (i + 1) := List.drop_eq_getElem_cons h
theorem stE_esc (h : i < l.length) (ha : a ≤ i) (hc : l[i] = 92) (h1 : inn = true) (h2 : e = true) : stE l q e inn a i = stE l q e inn a (i + 2) := by
  unfold stE
  rw [dr h, els_cons, if_pos ⟨hc, h1, h2⟩]
  by_cases h3 : i + 1 < l.length
  · rw [dr h3]
    simp only
    have e1 : sub l a i ++ [l[i], l[i + 1]] = sub l a (i + 2) := by
      rw [← sub_snoc (by omega) h3, ← sub_snoc ha h]; simp
    rw [e1]
  · rw [List.drop_of_length_le (show l.length ≤ i + 1 by omega), List.drop_of_length_le (show l.length ≤ i + 2 by omega)]
    simp only [els]
    rw [sub_snoc ha h, sub_end (show l.length ≤ i + 1 by omega), sub_end (show l.length ≤ i + 2 by omega)]
theorem stE_q (h : i < l.length) (ha : a ≤ i) (hn : ¬ (l[i] = 92 ∧ inn = true ∧ e = true)) (hc : l[i] = 34) (h1 : q = true) : stE l q e inn a i = stE l q e (!inn) a (i + 1) := by
  unfold stE
  rw [dr h, els_cons, if_neg hn, if_pos ⟨hc, h1⟩, sub_snoc ha h]
theorem stE_c (h : i < l.length) (ha : a ≤ i) (hc : l[i] = 44) (h1 : inn = false) : stE l q e inn a i = sub l a i :: stE l q e false (i + 1) (i + 1) := by
  unfold stE
  rw [dr h, els_cons, if_neg (by rw [h1]; simp), if_neg (by rw [hc]; rintro ⟨hx, _⟩; exact absurd hx (by decide)), if_pos ⟨hc, h1⟩, sub_self]
theorem stE_o (h : i < l.length) (ha : a ≤ i) (hn : ¬ (l[i] = 92 ∧ inn = true ∧ e = true)) (h2 : ¬ (l[i] = 34 ∧ q = true)) (h3 : ¬ (l[i] = 44 ∧ inn = false)) : stE l q e inn a i = stE l q e inn a (i + 1) := by
  unfold stE
  rw [dr h, els_cons, if_neg hn, if_neg h2, if_neg h3, sub_snoc ha h]
def nb (x : List UInt8) : Bool := !x.isEmpty
/-- its elements -/
def tidy (x : List (List UInt8)) : List (List UInt8) := (x.map trimB).filter nb
def elemsF (q e : Bool) (l : List UInt8) : List (List UInt8) := tidy (stE l q e false 0 0)
theorem tidy_cons {x : List UInt8} {r : List (List UInt8)} : tidy (x :: r) = if trimB x = [] then tidy r else trimB x :: tidy r := by
  unfold tidy
  by_cases h : trimB x = []
  · simp [h, nb]
  · have : nb (trimB x) = true := by cases hx : trimB x with
      | nil => exact absurd hx h
      | cons _ _ => rfl
    simp [h, this]
theorem tidy_nil : tidy [] = [] := rfl
theorem trim_len (l : List UInt8) : (trimB l).length ≤ l.length := by
  have h1 := (List.dropWhile_sublist (p := isBl) (l := trimR l)).length_le
  have h2 := (List.dropWhile_sublist (p := isBl) (l := l.reverse)).length_le
  unfold trimB trimL
  have h3 : (trimR l).length = (l.reverse.dropWhile isBl).length := by unfold trimR; simp
  rw [List.length_reverse] at h2
  omega
theorem tidy_len (x : List (List UInt8)) : (tidy x).length ≤ x.length := by
  unfold tidy
  have := (List.filter_sublist (p := nb) (l := x.map trimB)).length_le
  simpa using this
theorem tidy_mem {x : List (List UInt8)} {w : List UInt8} (h : w ∈ tidy x) : w ≠ [] ∧ ∃ v ∈ x, w = trimB v := by
  unfold tidy at h
  rw [List.mem_filter, List.mem_map] at h
  obtain ⟨⟨v, hv, rfl⟩, h2⟩ := h
  exact ⟨fun hx => (by rw [hx] at h2; cases h2), v, hv, rfl⟩
/-- a list, element by element -/
def listF {α : Type} (one : List UInt8 → α × Bool) (ws : List (List UInt8)) : Option (List α) := if ws.all (fun w => (one w).2) then some (ws.map fun w => (one w).1) else none
/-- cut at the first byte of a kind -/
def cutA (c : UInt8) : List UInt8 → List UInt8
  | [] => []
  | x :: r => if x = c then [] else x :: cutA c r
def cutB (c : UInt8) : List UInt8 → List UInt8
  | [] => []
  | x :: r => if x = c then r else cutB c r
def cutS (c : UInt8) : List UInt8 → Bool
  | [] => false
  | x :: r => if x = c then true else cutS c r
def lowB (c : UInt8) : UInt8 := if 65 ≤ c ∧ c ≤ 90 then c + 32 else c
def alnB (c : UInt8) : Bool := decide (97 ≤ c ∧ c ≤ 122 ∨ 65 ≤ c ∧ c ≤ 90 ∨ 48 ≤ c ∧ c ≤ 57)
def tokC : List UInt8 := [33, 35, 36, 37, 38, 39, 42, 43, 45, 46, 94, 95, 96, 124, 126]
def tokB (c : UInt8) : Bool := alnB c || tokC.contains c
def tokF (l : List UInt8) : Bool := nb l && l.all tokB
def lowF (l : List UInt8) : List UInt8 := l.map lowB
def digB (c : UInt8) : Bool := decide (48 ≤ c ∧ c ≤ 57)
def valF (l : List UInt8) : Nat := l.foldl (fun n c => n * 10 + (c.toNat - 48)) 0
def decF (l : List UInt8) : Int × Int := if nb l && l.all digB then (if valF l ≤ 1000000000000000000 then ((valF l : Int), 0) else (0, 11)) else (0, 21)
/-- an entity's tag -/
def badT (c : UInt8) : Bool := decide (c ≤ 32 ∨ c = 34 ∨ c = 127)
def weakF (s : List UInt8) : Bool := s.take 2 == [87, 47]
def mid (v : List UInt8) : List UInt8 := sub v 1 (v.length - 1)
def tagOk (v : List UInt8) : Bool := decide (2 ≤ v.length ∧ v[0]? = some 34 ∧ v[v.length - 1]? = some 34) && !(mid v).any badT
def tagV (s : List UInt8) : List UInt8 := if weakF s then s.drop 2 else s
def tagF (s : List UInt8) : (Bool × List UInt8) × Bool := if tagOk (tagV s) then ((weakF s, mid (tagV s)), true) else ((false, []), false)
def tagT (t : Bool × List UInt8) : List UInt8 := (if t.1 then [87, 47] else []) ++ 34 :: t.2 ++ [34]
/-- a weight, as the code reads it -/
def weightF (s : List UInt8) : Int × Bool :=
  if (cutA 46 s ≠ [48] ∧ cutA 46 s ≠ [49]) ∨ 3 < (cutB 46 s).length then (0, false)
  else ((decF (cutA 46 s ++ (cutB 46 s ++ [48, 48, 48]).take 3)).1, decide ((decF (cutA 46 s ++ (cutB 46 s ++ [48, 48, 48]).take 3)).2 = 0) && decide ((decF (cutA 46 s ++ (cutB 46 s ++ [48, 48, 48]).take 3)).1 ≤ 1000))
def choiceF (s : List UInt8) : (List UInt8 × Int) × Bool :=
  if cutS 59 s then
    if (trimB (cutB 59 s)).length < 2 ∨ lowF ((trimB (cutB 59 s)).take 2) ≠ [113, 61] then (([], 0), false)
    else ((lowF (trimB (cutA 59 s)), (weightF ((trimB (cutB 59 s)).drop 2)).1), tokF (lowF (trimB (cutA 59 s))) && (weightF ((trimB (cutB 59 s)).drop 2)).2)
  else ((lowF (trimB (cutA 59 s)), 1000), tokF (lowF (trimB (cutA 59 s))))
/-- what a quoted text means -/
def badQ (c : UInt8) : Bool := decide (c < 32 ∧ c ≠ 9 ∨ c = 127)
def unqL : List UInt8 → List UInt8 → List UInt8 × Bool
  | _, [] => ([], false)
  | acc, c :: r =>
    if c = 34 then (acc, r.isEmpty)
    else if c = 92 then match r with
      | [] => ([], false)
      | d :: r' => if badQ d then ([], false) else unqL (acc ++ [d]) r'
    else if badQ c then ([], false) else unqL (acc ++ [c]) r
theorem unqL_cons {acc : List UInt8} {c : UInt8} {r : List UInt8} : unqL acc (c :: r) = if c = 34 then (acc, r.isEmpty)
    else if c = 92 then (match r with
      | [] => ([], false)
      | d :: r' => if badQ d then ([], false) else unqL (acc ++ [d]) r')
    else if badQ c then ([], false) else unqL (acc ++ [c]) r := by
  cases r <;> rfl
def unqF : List UInt8 → List UInt8 × Bool
  | [] => ([], false)
  | c :: r => if c = 34 then unqL [] r else ([], false)
structure Dir where
  name : List UInt8
  value : List UInt8
  has : Bool
def dirF (s : List UInt8) : Dir × Bool :=
  if cutS 61 s && !tokF (cutB 61 s) then (⟨lowF (cutA 61 s), (unqF (cutB 61 s)).1, true⟩, tokF (cutA 61 s) && (unqF (cutB 61 s)).2)
  else (⟨lowF (cutA 61 s), cutB 61 s, cutS 61 s⟩, tokF (cutA 61 s))
/-- what a directive says of seconds -/
def secV (d : Dir) : Int := if (decF d.value).2 = 11 then 2147483648 else if (decF d.value).2 ≠ 0 ∨ d.has = false then 0 else min (decF d.value).1 2147483648
def secF (l : List Dir) (name : List UInt8) : Int × Bool := match l.find? (fun d => d.name == name) with
  | some d => (secV d, true)
  | none => (0, false)
def quoF (s : List UInt8) : List UInt8 := 34 :: s.flatMap (fun c => if c = 34 ∨ c = 92 then [92, c] else [c]) ++ [34]
/-- a span -/
def endF (s : List UInt8) : Int := if s = [] then -1 else (decF s).1
def endOk (s : List UInt8) : Bool := decide (s = [] ∨ (decF s).2 = 0)
def spanF (s : List UInt8) : (Int × Int) × Bool :=
  ((endF (cutA 45 s), endF (cutB 45 s)), (cutS 45 s && endOk (cutA 45 s) && endOk (cutB 45 s)) && decide (¬ (endF (cutA 45 s) = -1 ∧ endF (cutB 45 s) = -1)) && decide (endF (cutA 45 s) < 0 ∨ endF (cutB 45 s) < 0 ∨ endF (cutA 45 s) ≤ endF (cutB 45 s)))
def tokenF (s : List UInt8) : List UInt8 × Bool := (lowF s, tokF s)
def tokensF (s : List UInt8) : Option (List (List UInt8)) := listF tokenF (elemsF false false s)
def choicesF (s : List UInt8) : Option (List (List UInt8 × Int)) := listF choiceF (elemsF false false s)
def dirsF (s : List UInt8) : Option (List Dir) := listF dirF (elemsF true true s)
def tagLF (s : List UInt8) : Option (List (Bool × List UInt8)) := listF tagF (elemsF true false s)
def spanLF (s : List UInt8) : Option (List (Int × Int)) := if s.length < 6 ∨ lowF (s.take 6) ≠ [98, 121, 116, 101, 115, 61] then none else listF spanF (elemsF false false (s.drop 6))
/-- spans of bytes, and the answer's number -/
def spansF (s : List UInt8) : List (Int × Int) × Int := match spanLF s with
  | none => ([], 42)
  | some l => if l = [] then ([], 42) else if 16 < l.length then ([], 6) else (l, 0)
def tagsF (s : List UInt8) : List (Bool × List UInt8) × Bool × Int := if trimB s = [42] then ([], true, 0) else match tagLF s with
  | none => ([], false, 42)
  | some l => if l = [] then ([], false, 42) else (l, false, 0)
def lsF {α : Type} (o : Option (List α)) : List α × Int := match o with
  | none => ([], 42)
  | some l => (l, 0)
end Go.Proofs.YtcmpkkkigmheoaaDoor.FD
/-! Values of fields: what two ways to read them have in common; lists joined; what is written is read back. No conditions but those that each names. -/
namespace Go.Proofs.YtcmpkkkigmheoaaDoor.FD
theorem listF_eq {α : Type} {f g : List UInt8 → α × Bool} (h1 : ∀ w, (f w).2 = (g w).2) (h2 : ∀ w, (f w).2 = true → (f w).1 = (g w).1) (ws : List (List UInt8)) : listF f ws = listF g ws := by
  unfold listF
  have e : (ws.all fun w => (f w).2) = ws.all fun w => (g w).2 := by simp only [h1]
  rw [← e]
  by_cases h : (ws.all fun w => (f w).2) = true
  · rw [if_pos h, if_pos h]
    congr 1
    refine List.map_congr_left fun w hw => h2 w (List.all_eq_true.1 h w hw)
  · rw [if_neg h, if_neg h]
theorem listF_app {α : Type} {f : List UInt8 → α × Bool} {a b : List (List UInt8)} {x y : List α} (ha : listF f a = some x) (hb : listF f b = some y) : listF f (a ++ b) = some (x ++ y) := by
  unfold listF at *
  split at ha
  · split at hb
    · injection ha with ha; injection hb with hb
      rename_i h1 h2
      rw [if_pos (by rw [List.all_append, h1, h2]; rfl), List.map_append, ha, hb]
    · cases hb
  · cases ha
theorem listF_all {α : Type} {f : List UInt8 → α × Bool} {a : List (List UInt8)} {x : List α} (ha : listF f a = some x) : ∀ w ∈ a, (f w).2 = true := by
  unfold listF at ha
  split at ha
  · rename_i h
    exact List.all_eq_true.1 h
  · cases ha
/-- a weight, as the document reads it -/
def fracF : List UInt8 → Nat → Nat
  | [], _ => 0
  | c :: r, u => u * (c.toNat - 48) + fracF r (u / 10)
def weightR (s : List UInt8) : Int :=
  if s.length < 1 ∨ 5 < s.length ∨ (s[0]? ≠ some 48 ∧ s[0]? ≠ some 49) ∨ (1 < s.length ∧ s[1]? ≠ some 46) then -1
  else if (s.drop 2).all digB = false then -1
  else if 1000 < 1000 * ((s.headD 0).toNat - 48) + fracF (s.drop 2) 100 then -1
  else ((1000 * ((s.headD 0).toNat - 48) + fracF (s.drop 2) 100 : Nat) : Int)
theorem dg_b {c : UInt8} (h : digB c = true) : 48 ≤ c.toNat ∧ c.toNat ≤ 57 := by
  unfold digB at h
  have := of_decide_eq_true h
  exact ⟨UInt8.le_iff_toNat_le.1 this.1, UInt8.le_iff_toNat_le.1 this.2⟩
theorem cutA_len {c : UInt8} : ∀ s : List UInt8, (cutA c s).length ≤ s.length
  | [] => by simp [cutA]
  | x :: r => by
    have := cutA_len (c := c) r
    unfold cutA
    split <;> simp <;> omega
theorem w_main {c : UInt8} {p : List UInt8} (hp : p.length ≤ 3) (hc : c = 48 ∨ c = 49) : decF ([c] ++ (p ++ [48, 48, 48]).take 3) = if p.all digB then (((1000 * (c.toNat - 48) + fracF p 100 : Nat) : Int), 0) else (0, 21) := by
  have hv : ∀ x y z : UInt8, valF [c, x, y, z] = (((c.toNat - 48) * 10 + (x.toNat - 48)) * 10 + (y.toNat - 48)) * 10 + (z.toNat - 48) := fun x y z => by simp [valF]
  have hd : digB c = true := by rcases hc with rfl | rfl <;> rfl
  have h48 : digB 48 = true := rfl
  have k : ∀ (x y z : UInt8), decF [c, x, y, z] = if digB x && digB y && digB z then ((valF [c, x, y, z] : Int), 0) else (0, 21) := fun x y z => by
    unfold decF
    simp only [nb, List.isEmpty_cons, Bool.not_false, Bool.true_and, List.all_cons, List.all_nil, Bool.and_true, hd]
    by_cases hh : (digB x && (digB y && digB z)) = true
    · have h1 : digB x = true := by simp at hh; exact hh.1
      have h2 : digB y = true := by simp at hh; exact hh.2.1
      have h3 : digB z = true := by simp at hh; exact hh.2.2
      have b0 := dg_b hd
      have b1 := dg_b h1
      have b2 := dg_b h2
      have b3 := dg_b h3
      rw [if_pos hh, if_pos (by rw [hv]; omega), if_pos (by simp [h1, h2, h3])]
    · rw [if_neg hh, if_neg (by simpa [Bool.and_assoc] using hh)]
  have e48 : (48 : UInt8).toNat - 48 = 0 := rfl
  match p, hp with
  | [], _ =>
    simp only [List.nil_append, List.take_succ_cons, List.take_zero, List.singleton_append]
    rw [k]
    simp only [h48, List.all_nil, Bool.and_self, if_true, hv, fracF, e48]
    congr 2; omega
  | [x], _ =>
    simp only [List.cons_append, List.nil_append, List.take_succ_cons, List.take_zero]
    rw [k]
    simp only [h48, List.all_cons, List.all_nil, Bool.and_true, hv, fracF, e48]
    split <;> first | rfl | (congr 2; omega)
  | [x, y], _ =>
    simp only [List.cons_append, List.nil_append, List.take_succ_cons, List.take_zero]
    rw [k]
    simp only [h48, List.all_cons, List.all_nil, Bool.and_true, hv, fracF, e48]
    split <;> first | rfl | (congr 2; omega)
  | [x, y, z], _ =>
    simp only [List.cons_append, List.nil_append, List.take_succ_cons, List.take_zero]
    rw [k]
    simp only [h48, List.all_cons, List.all_nil, Bool.and_true, hv, fracF, e48, Bool.and_assoc]
    split <;> first | rfl | (congr 2; omega)
  | x :: y :: z :: w :: r, hp => exact absurd hp (by simp)
theorem weight_eq (s : List UInt8) : (weightF s).2 = decide (0 ≤ weightR s) ∧ ((weightF s).2 = true → (weightF s).1 = weightR s) := by
  have fin : ∀ {c : UInt8} {p : List UInt8}, p.length ≤ 3 → (c = 48 ∨ c = 49) → cutA 46 s = [c] → cutB 46 s = p → weightR s = (if p.all digB = false then -1 else if 1000 < 1000 * (c.toNat - 48) + fracF p 100 then -1 else ((1000 * (c.toNat - 48) + fracF p 100 : Nat) : Int)) → (weightF s).2 = decide (0 ≤ weightR s) ∧ ((weightF s).2 = true → (weightF s).1 = weightR s) := by
    intro c p hp hc ea eb er
    have ew : weightF s = ((decF ([c] ++ (p ++ [48, 48, 48]).take 3)).1, decide ((decF ([c] ++ (p ++ [48, 48, 48]).take 3)).2 = 0) && decide ((decF ([c] ++ (p ++ [48, 48, 48]).take 3)).1 ≤ 1000)) := by
      unfold weightF
      rw [ea, eb, if_neg]
      rintro (⟨h1, h2⟩ | h)
      · rcases hc with rfl | rfl
        · exact h1 rfl
        · exact h2 rfl
      · omega
    rw [ew, er, w_main hp hc]
    by_cases h : p.all digB = true
    · rw [if_pos h, if_neg (by rw [h]; simp)]
      by_cases h2 : 1000 < 1000 * (c.toNat - 48) + fracF p 100
      · rw [if_pos h2]
        have : ¬ (((1000 * (c.toNat - 48) + fracF p 100 : Nat) : Int) ≤ 1000) := by omega
        simp only [this, decide_false, Bool.and_false]
        exact ⟨rfl, fun h => by cases h⟩
      · rw [if_neg h2]
        have : (((1000 * (c.toNat - 48) + fracF p 100 : Nat) : Int) ≤ 1000) := by omega
        simp only [this, decide_true, Bool.and_self, true_and, implies_true, and_true]
        exact (decide_eq_true (by omega)).symm
    · rw [if_neg h, if_pos (by simpa using h)]
      simp
  have bad : (weightF s).2 = false → weightR s = -1 → (weightF s).2 = decide (0 ≤ weightR s) ∧ ((weightF s).2 = true → (weightF s).1 = weightR s) := by
    intro h1 h2
    rw [h1, h2]; simp
  rcases s with _ | ⟨c, _ | ⟨d, p⟩⟩
  · exact bad rfl rfl
  · skip
    by_cases hc : c = 48 ∨ c = 49
    · refine fin (c := c) (p := []) (by simp) hc ?_ ?_ ?_
      · rcases hc with rfl | rfl <;> rfl
      · rcases hc with rfl | rfl <;> rfl
      · rcases hc with rfl | rfl <;> rfl
    · have h1 : c ≠ 48 := fun h => hc (.inl h)
      have h2 : c ≠ 49 := fun h => hc (.inr h)
      refine bad ?_ ?_
      · unfold weightF
        have : cutA 46 [c] ≠ [48] ∧ cutA 46 [c] ≠ [49] := by
          unfold cutA
          split
          · simp
          · simp [cutA, h1, h2]
        rw [if_pos (.inl this)]
      · unfold weightR
        rw [if_pos (.inr (.inr (.inl (by simp [h1, h2]))))]
  · skip
    by_cases hd : d = 46
    · subst hd
      by_cases hc : c = 48 ∨ c = 49
      · have ea : cutA 46 (c :: 46 :: p) = [c] := by rcases hc with rfl | rfl <;> rfl
        have eb : cutB 46 (c :: 46 :: p) = p := by rcases hc with rfl | rfl <;> rfl
        by_cases hp : p.length ≤ 3
        · refine fin hp hc ea eb ?_
          unfold weightR
          rw [if_neg]
          · rfl
          · rintro (h | h | h | h)
            · simp at h
            · simp at h; omega
            · rcases hc with rfl | rfl
              · exact h.1 rfl
              · exact h.2 rfl
            · exact h.2 rfl
        · refine bad ?_ ?_
          · unfold weightF
            rw [eb, if_pos (.inr (by omega))]
          · unfold weightR
            rw [if_pos (.inr (.inl (by simp; omega)))]
      · have h1 : c ≠ 48 := fun h => hc (.inl h)
        have h2 : c ≠ 49 := fun h => hc (.inr h)
        refine bad ?_ ?_
        · unfold weightF
          have : cutA 46 (c :: 46 :: p) ≠ [48] ∧ cutA 46 (c :: 46 :: p) ≠ [49] := by
            unfold cutA
            split
            · simp
            · simp [cutA, h1, h2]
          rw [if_pos (.inl this)]
        · unfold weightR
          rw [if_pos (.inr (.inr (.inl (by simp [h1, h2]))))]
    · refine bad ?_ ?_
      · unfold weightF
        have : cutA 46 (c :: d :: p) ≠ [48] ∧ cutA 46 (c :: d :: p) ≠ [49] := by
          unfold cutA
          split
          · simp
          · simp [cutA, hd]
        rw [if_pos (.inl this)]
      · unfold weightR
        rw [if_pos (.inr (.inr (.inr ⟨by simp, by simp [hd]⟩)))]
def choiceR (s : List UInt8) : (List UInt8 × Int) × Bool :=
  if cutS 59 s then
    if (trimB (cutB 59 s)).length < 2 ∨ ((trimB (cutB 59 s))[0]? ≠ some 113 ∧ (trimB (cutB 59 s))[0]? ≠ some 81) ∨ (trimB (cutB 59 s))[1]? ≠ some 61 then ((lowF (trimB (cutA 59 s)), 1000), false)
    else ((lowF (trimB (cutA 59 s)), weightR ((trimB (cutB 59 s)).drop 2)), tokF (lowF (trimB (cutA 59 s))) && decide (0 ≤ weightR ((trimB (cutB 59 s)).drop 2)))
  else ((lowF (trimB (cutA 59 s)), 1000), tokF (lowF (trimB (cutA 59 s))))
theorem all8 {p : UInt8 → Prop} (h : ∀ n : Fin 256, p ⟨⟨n⟩⟩) (c : UInt8) : p c := h c.toBitVec.toFin
theorem low_q (c : UInt8) : lowB c = 113 ↔ (c = 113 ∨ c = 81) := by
  refine all8 (p := fun c => lowB c = 113 ↔ (c = 113 ∨ c = 81)) ?_ c
  decide +kernel
theorem low_e (c : UInt8) : lowB c = 61 ↔ c = 61 := by
  refine all8 (p := fun c => lowB c = 61 ↔ c = 61) ?_ c
  decide +kernel
theorem choice_eq (s : List UInt8) : (choiceF s).2 = (choiceR s).2 ∧ ((choiceF s).2 = true → (choiceF s).1 = (choiceR s).1) := by
  unfold choiceF choiceR
  by_cases h : cutS 59 s = true
  · rw [if_pos h, if_pos h]
    have hw := weight_eq ((trimB (cutB 59 s)).drop 2)
    have hc : ((trimB (cutB 59 s)).length < 2 ∨ lowF ((trimB (cutB 59 s)).take 2) ≠ [113, 61]) ↔ ((trimB (cutB 59 s)).length < 2 ∨ ((trimB (cutB 59 s))[0]? ≠ some 113 ∧ (trimB (cutB 59 s))[0]? ≠ some 81) ∨ (trimB (cutB 59 s))[1]? ≠ some 61) := by
      match trimB (cutB 59 s) with
      | [] => simp
      | [x] => simp
      | x :: y :: r =>
        have e1 := low_q x
        have e2 := low_e y
        simp only [lowF, List.take_succ_cons, List.take_zero, List.map_cons, List.map_nil, List.length_cons, ne_eq, List.cons.injEq, and_true, List.getElem?_cons_zero, List.getElem?_cons_succ, Option.some.injEq, e1, e2]
        constructor
        · rintro (h | h)
          · omega
          · right
            by_cases c1 : x = 113
            · right; exact fun c2 => h ⟨.inl c1, c2⟩
            · by_cases c2 : x = 81
              · right; exact fun c3 => h ⟨.inr c2, c3⟩
              · left; exact ⟨c1, c2⟩
        · rintro (h | h | h)
          · omega
          · right; rintro ⟨c1 | c1, _⟩
            · exact h.1 c1
            · exact h.2 c1
          · right; rintro ⟨_, c2⟩; exact h c2
    by_cases h2 : (trimB (cutB 59 s)).length < 2 ∨ lowF ((trimB (cutB 59 s)).take 2) ≠ [113, 61]
    · rw [if_pos h2, if_pos (hc.1 h2)]; simp
    · rw [if_neg h2, if_neg (fun c => h2 (hc.2 c))]
      simp only
      refine ⟨by rw [hw.1], fun hh => ?_⟩
      have : (weightF ((trimB (cutB 59 s)).drop 2)).2 = true := by simp at hh; exact hh.2
      rw [hw.2 this]
  · rw [if_neg h, if_neg h]; simp
theorem choices_eq (s : List UInt8) : choicesF s = listF choiceR (elemsF false false s) := listF_eq (fun w => (choice_eq w).1) (fun w => (choice_eq w).2) _
theorem tok_low1 (c : UInt8) : tokB (lowB c) = tokB c := by
  refine all8 (p := fun c => tokB (lowB c) = tokB c) ?_ c
  decide +kernel
theorem tok_low (s : List UInt8) : tokF (lowF s) = tokF s := by
  unfold tokF lowF
  rw [List.all_map]
  have : (tokB ∘ lowB) = tokB := funext tok_low1
  rw [this]
  cases s <;> rfl
def dirR (s : List UInt8) : Dir × Bool :=
  if tokF (lowF (cutA 61 s)) = false then (⟨lowF (cutA 61 s), [], false⟩, false)
  else if cutS 61 s = false then (⟨lowF (cutA 61 s), [], false⟩, true)
  else if tokF (cutB 61 s) then (⟨lowF (cutA 61 s), cutB 61 s, true⟩, true)
  else (⟨lowF (cutA 61 s), (unqF (cutB 61 s)).1, true⟩, (unqF (cutB 61 s)).2)
theorem cutB_none {c : UInt8} : ∀ {s : List UInt8}, cutS c s = false → cutB c s = []
  | [], _ => rfl
  | x :: r, h => by
    unfold cutS at h
    unfold cutB
    split at h
    · cases h
    · rename_i hx
      rw [if_neg hx]; exact cutB_none h
theorem dir_eq (s : List UInt8) : (dirF s).2 = (dirR s).2 ∧ ((dirF s).2 = true → (dirF s).1 = (dirR s).1) := by
  unfold dirF dirR
  rw [tok_low]
  by_cases ht : tokF (cutA 61 s) = true <;> by_cases hs : cutS 61 s = true <;> by_cases hb : tokF (cutB 61 s) = true <;> simp [ht, hs, hb]
  all_goals (try (have := cutB_none (by simpa using hs); simp [this]))
theorem dirs_eq (s : List UInt8) : dirsF s = listF dirR (elemsF true true s) := listF_eq (fun w => (dir_eq w).1) (fun w => (dir_eq w).2) _
theorem dir_has {s : List UInt8} (h : (dirF s).1.has = false) : (dirF s).1.value = [] := by
  unfold dirF at h ⊢
  split at h
  · cases h
  · rename_i hn
    rw [if_neg hn]
    exact cutB_none h
def spanR (s : List UInt8) : (Int × Int) × Bool :=
  if cutS 45 s = false ∨ s.length = 1 then ((0, 0), false)
  else if endOk (cutA 45 s) = false then ((-1, -1), false)
  else if endOk (cutB 45 s) = false then ((endF (cutA 45 s), -1), false)
  else ((endF (cutA 45 s), endF (cutB 45 s)), decide (endF (cutA 45 s) < 0 ∨ endF (cutB 45 s) < 0 ∨ endF (cutA 45 s) ≤ endF (cutB 45 s)))
theorem dec_nn (s : List UInt8) : 0 ≤ (decF s).1 := by
  unfold decF
  split
  · split
    · exact Int.natCast_nonneg _
    · exact Int.le_refl _
  · exact Int.le_refl _
theorem end_m (s : List UInt8) : endF s = -1 ↔ s = [] := by
  unfold endF
  have := dec_nn s
  constructor
  · intro h
    split at h
    · assumption
    · omega
  · intro h; rw [if_pos h]
theorem cut_one {c : UInt8} : ∀ {s : List UInt8}, cutS c s = true → s.length = (cutA c s).length + (cutB c s).length + 1
  | [], h => by cases h
  | x :: r, h => by
    unfold cutS at h
    unfold cutA cutB
    split at h
    · rename_i hx
      rw [if_pos hx, if_pos hx]; simp
    · rename_i hx
      rw [if_neg hx, if_neg hx]
      have := cut_one h
      simp only [List.length_cons]; omega
theorem span_eq (s : List UInt8) : (spanF s).2 = (spanR s).2 ∧ ((spanF s).2 = true → (spanF s).1 = (spanR s).1) := by
  unfold spanF spanR
  by_cases hs : cutS 45 s = true
  · have hl := cut_one hs
    by_cases h1 : s.length = 1
    · have ea : cutA 45 s = [] := List.eq_nil_of_length_eq_zero (by omega)
      have eb : cutB 45 s = [] := List.eq_nil_of_length_eq_zero (by omega)
      rw [if_pos (.inr h1), ea, eb]
      simp [endF]
    · rw [if_neg (fun h => h.elim (fun h => by rw [hs] at h; cases h) h1)]
      have hn : ¬ (endF (cutA 45 s) = -1 ∧ endF (cutB 45 s) = -1) := by
        rw [end_m, end_m]
        rintro ⟨ha, hb⟩
        rw [ha, hb] at hl
        exact h1 (by simpa using hl)
      by_cases ha : endOk (cutA 45 s) = true <;> by_cases hb : endOk (cutB 45 s) = true <;> simp [hs, ha, hb]
      all_goals (first | (intro x y; exact absurd ⟨x, y⟩ hn) | (intro x; exact Classical.not_and_iff_not_or_not.1 hn))
  · rw [if_pos (.inl (by simpa using hs))]
    simp [hs]
end Go.Proofs.YtcmpkkkigmheoaaDoor.FD
/-! Maps of a call's own: what they hold, and the operations on them. No conditions but those that each names. -/
namespace Go.Proofs.YtcmpkkkigmheoaaDoor.Sl
open Go Go.RowKit Go.Proofs.YtcmpkkkigmheoaaDoor.Sh
variable {P : Program} {W : World} {L L' : List HP} {Kp : PK} {k : Value → WP}
structure KeyLaw (P : Program) (t : TypeId) {κ : Type} [DecidableEq κ] (enc : κ → Value) : Prop where
  check : ∀ (b : Bool) (k : κ) (w : World), (Instr.checkKey b 10000 t (enc k)).run P w = .ok () w
  eq : ∀ (k k' : κ) (w : World), (Op.equal t (enc k) (enc k')).run P w = .ok (decide (k = k')) w
  now : ∃ d, P.underlying t = some d ∧ ∀ k k', Instr.sameNow d (enc k) (enc k') = none ∨ Instr.sameNow d (enc k) (enc k') = some (decide (k = k'))
  same : ∀ k, Instr.sameBits 10000 (enc k) (enc k) = true
variable {κ : Type} [DecidableEq κ] {enc : κ → Value} {t kt : TypeId}
def fnd (k : κ) : List (κ × Value) → Nat → Option (Nat × Value)
  | [], _ => none
  | p :: m, i => if k = p.1 then some (i, p.2) else fnd k m (i + 1)
/-- what a key holds -/
def getM (k : κ) (m : List (κ × Value)) : Option Value := (fnd k m 0).map (·.2)
def kv (e : MapEntry) : Value × Value := (e.key, e.val)
def ekv (enc : κ → Value) (p : κ × Value) : Value × Value := (enc p.1, p.2)
theorem findAsking_run (K : KeyLaw P kt enc) (k : κ) (w : World) : ∀ (es : List MapEntry) (m : List (κ × Value)) (i : Nat), es.map kv = m.map (ekv enc) → (Instr.findAsking kt (enc k) es i).run P w = .ok (fnd k m i) w
  | [], [], i, _ => rfl
  | [], p :: m, i, h => by simp at h
  | e :: es, [], i, h => by simp at h
  | e :: es, p :: m, i, h => by
    simp only [List.map_cons, List.cons.injEq, kv, ekv, Prod.mk.injEq] at h
    obtain ⟨⟨h1, h2⟩, h3⟩ := h
    have ih := findAsking_run K k w es m (i + 1) h3
    unfold Instr.findAsking fnd
    rw [h1]
    simp only [Sem.run_bind, K.eq, Result.andThen_ok]
    by_cases c : k = p.1
    · simp [c, h2]
    · simp [c, ih]
theorem findNow_run (d : TypeDesc) (hd : ∀ k k', Instr.sameNow d (enc k) (enc k') = none ∨ Instr.sameNow d (enc k) (enc k') = some (decide (k = k'))) (k : κ) : ∀ (es : List MapEntry) (m : List (κ × Value)) (i : Nat), es.map kv = m.map (ekv enc) → Instr.findNow d (enc k) es i = none ∨ Instr.findNow d (enc k) es i = some (fnd k m i)
  | [], [], i, _ => .inr rfl
  | [], p :: m, i, h => by simp at h
  | e :: es, [], i, h => by simp at h
  | e :: es, p :: m, i, h => by
    simp only [List.map_cons, List.cons.injEq, kv, ekv, Prod.mk.injEq] at h
    obtain ⟨⟨h1, h2⟩, h3⟩ := h
    have ih := findNow_run d hd k es m (i + 1) h3
    unfold Instr.findNow fnd
    rw [h1]
    rcases hd k p.1 with c | c
    · rw [c]; exact .inl rfl
    · rw [c]
      by_cases e1 : k = p.1
      · simp [e1, h2]
      · simp [e1, ih]
theorem findKey_run (K : KeyLaw P kt enc) (k : κ) (w : World) {es : List MapEntry} {m : List (κ × Value)} (h : es.map kv = m.map (ekv enc)) : (Instr.findKey kt (enc k) es).run P w = .ok (fnd k m 0) w := by
  obtain ⟨d, hd, hs⟩ := K.now
  unfold Instr.findKey
  simp only [Sem.run_bind, run_underlying hd, Result.andThen_ok]
  rcases findNow_run d hs k es m 0 h with c | c
  · rw [c]; exact findAsking_run K k w es m 0 h
  · rw [c]; rfl
structure Ents (enc : κ → Value) (es : Array MapEntry) (c : Nat) (m : List (κ × Value)) : Prop where
  kvs : es.toList.map kv = m.map (ekv enc)
  born : ∀ e ∈ es.toList, e.born < c
  nodup : (es.toList.map (·.born)).Nodup
/-- the map at g holds m -/
def MapIs (g : Nat) (enc : κ → Value) (m : List (κ × Value)) : HP := fun _ h => ∃ es c, h g = some (.map es c) ∧ Ents enc es c m
theorem map_row {g : Nat} {m : List (κ × Value)} {w : World} (H : sat W (MapIs g enc m :: L) w) : ∃ es c, Ents enc es c m ∧ sat W (pt g (.map es c) :: L) w := by
  obtain ⟨f, ⟨h1, h2, ⟨es, c, ha, he⟩, r⟩, b⟩ := H.heap
  exact ⟨es, c, he, H.base, f, ⟨h1, h2, ha, r⟩, b⟩
theorem map_back {g : Nat} {m : List (κ × Value)} {w : World} {es : Array MapEntry} {c : Nat} (he : Ents enc es c m) (H : sat W (pt g (.map es c) :: L) w) : sat W (MapIs g enc m :: L) w := by
  obtain ⟨f, ⟨h1, h2, ha, r⟩, b⟩ := H.heap
  exact ⟨H.base, f, ⟨h1, h2, ⟨es, c, ha, he⟩, r⟩, b⟩
class MapT (P : Program) (t : TypeId) (kt e : outParam TypeId) : Prop where
  ut : P.underlying t = some (.map kt e)
theorem v_lookOk {e : TypeId} {z : Value} {g : Nat} {m : List (κ × Value)} {q : κ} [ht : MapT P t kt e] [hz : ZeroT P e z] (K : KeyLaw P kt enc) : RunV P W [MapIs g enc m] (sLook t (.map (some g)) (enc q) true) (.tuple #[(getM q m).getD z, .bool (getM q m).isSome]) := fun w hw => by
  obtain ⟨es, c, he, hp⟩ := map_row hw
  have hg := hp.pt_.1
  have hf := findKey_run K q w he.kvs
  unfold getM
  cases hq : fnd q m 0 with
  | none => simp [sLook, Instr.lookup, run_underlying ht.ut, MapKept.run_getObj_map hg, K.check, hf, hq, hz.run, Result.andThen]
  | some p => simp [sLook, Instr.lookup, run_underlying ht.ut, MapKept.run_getObj_map hg, K.check, hf, hq, Result.andThen]
theorem v_look {e : TypeId} {z : Value} {g : Nat} {m : List (κ × Value)} {q : κ} [ht : MapT P t kt e] [hz : ZeroT P e z] (K : KeyLaw P kt enc) : RunV P W [MapIs g enc m] (sLook t (.map (some g)) (enc q) false) ((getM q m).getD z) := fun w hw => by
  obtain ⟨es, c, he, hp⟩ := map_row hw
  have hg := hp.pt_.1
  have hf := findKey_run K q w he.kvs
  unfold getM
  cases hq : fnd q m 0 with
  | none => simp [sLook, Instr.lookup, run_underlying ht.ut, MapKept.run_getObj_map hg, K.check, hf, hq, hz.run, Result.andThen]
  | some p => simp [sLook, Instr.lookup, run_underlying ht.ut, MapKept.run_getObj_map hg, K.check, hf, hq, Result.andThen]
theorem v_lenM {e ty : TypeId} {g : Nat} {m : List (κ × Value)} [ht : MapT P t kt e] : RunV P W [MapIs g enc m] (sLen #[t] ty [.map (some g)]) (.int .i64 (m.length : Int)) := fun w hw => by
  obtain ⟨es, c, he, hp⟩ := map_row hw
  have hl := congrArg List.length he.kvs
  simp at hl
  simp [sLen, Builtin.len_, run_underlying ht.ut, MapKept.run_getObj_map hp.pt_.1, goInt, hl, Result.andThen]
theorem e_mkmap {e : TypeId} (enc : κ → Value) [ht : MapT P t kt e] (h : ∀ g, Ent W (MapIs g enc [] :: L) (k (.map (some g)))) : Ent W L (opN P (sMkMap t none) Kp k) := fun w hw => by
  refine ⟨?_⟩
  have : (sMkMap t none).run P w = .ok (.value (.map (some w.heap.size))) (w.alloc (.map #[] 0)) := by
    simp [sMkMap, Instr.makeMap]
  rw [this]
  exact h _ _ (map_back ⟨rfl, fun e he => by simp at he, by simp⟩ (hw.alloc _))
/-- the map with a key laid -/
def setM (q : κ) (v : Value) : List (κ × Value) → List (κ × Value)
  | [] => [(q, v)]
  | p :: m => if q = p.1 then (p.1, v) :: m else p :: setM q v m
theorem setM_none (q : κ) (v : Value) : ∀ (m : List (κ × Value)) (i : Nat), fnd q m i = none → setM q v m = m ++ [(q, v)]
  | [], i, _ => rfl
  | p :: m, i, h => by
    unfold fnd at h
    by_cases c : q = p.1
    · simp [c] at h
    · rw [if_neg c] at h
      simp [setM, c, setM_none q v m (i + 1) h]
theorem setM_some (q : κ) (v : Value) : ∀ (m : List (κ × Value)) (i j : Nat) (u : Value), fnd q m i = some (j, u) → i ≤ j ∧ j - i < m.length ∧ setM q v m = m.set (j - i) (q, v) ∧ m[j - i]? = some (q, u)
  | [], i, j, u, h => by simp [fnd] at h
  | p :: m, i, j, u, h => by
    unfold fnd at h
    by_cases c : q = p.1
    · rw [if_pos c] at h
      simp at h
      obtain ⟨rfl, rfl⟩ := h
      simp [setM, c]
    · rw [if_neg c] at h
      obtain ⟨h1, h2, h3, h4⟩ := setM_some q v m (i + 1) j u h
      refine ⟨by omega, by rw [List.length_cons]; omega, ?_, ?_⟩
      · rw [setM, if_neg c, h3, show j - i = (j - (i + 1)) + 1 by omega]; rfl
      · rw [show j - i = (j - (i + 1)) + 1 by omega]; simpa using h4
theorem getM_setM (q q' : κ) (v : Value) : ∀ (m : List (κ × Value)), getM q' (setM q v m) = if q' = q then some v else getM q' m := by
  have key : ∀ (m : List (κ × Value)) (i j : Nat), (fnd q' (setM q v m) i).map (·.2) = if q' = q then some v else (fnd q' m j).map (·.2) := by
    intro m
    induction m with
    | nil => intro i j; by_cases c : q' = q <;> simp [setM, fnd, c]
    | cons p m ih =>
      intro i j
      unfold setM
      by_cases c : q = p.1
      · rw [if_pos c]
        unfold fnd
        by_cases d : q' = p.1
        · simp [d, c]
        · have hd : q' ≠ q := by rw [c]; exact d
          simp only [if_neg d, if_neg hd]
          have gen : ∀ (m : List (κ × Value)) (i j : Nat), (fnd q' m i).map (·.2) = (fnd q' m j).map (·.2) := by
            intro m
            induction m with
            | nil => intro i j; rfl
            | cons p m ih => intro i j; unfold fnd; split <;> simp [ih (i + 1) (j + 1)]
          exact gen m _ _
      · rw [if_neg c]
        unfold fnd
        by_cases d : q' = p.1
        · have hd : q' ≠ q := by rw [d]; exact fun e => c e.symm
          simp [if_pos d, if_neg hd]
        · simp only [if_neg d]; exact ih _ _
  exact fun m => key m 0 0
theorem sat.putObj {w : World} {g : Nat} {o : Obj} (o' : Obj) (H : sat W (pt g o :: L) w) : sat W (pt g o' :: L) { w with heap := w.heap.setIfInBounds g o' } := by
  have hg := H.pt_.1
  have hlt := (Array.getElem?_eq_some_iff.1 hg).1
  exact H.turn rfl rfl rfl (by simp) (by simp [hlt]) (fun i hi => by simp [Array.getElem?_setIfInBounds_ne (Ne.symm hi)])
theorem kvs_get {es : Array MapEntry} {m : List (κ × Value)} (h : es.toList.map kv = m.map (ekv enc)) {i : Nat} {p : κ × Value} (hp : m[i]? = some p) : ∃ e, es[i]? = some e ∧ e.key = enc p.1 ∧ e.val = p.2 := by
  have h1 : (es.toList.map kv)[i]? = some (ekv enc p) := by rw [h, List.getElem?_map, hp]; rfl
  rw [List.getElem?_map, Array.getElem?_toList] at h1
  cases he : es[i]? with
  | none => rw [he] at h1; cases h1
  | some e =>
    rw [he] at h1
    simp [kv, ekv] at h1
    exact ⟨e, rfl, h1.1, h1.2⟩
theorem Ents.put {es : Array MapEntry} {c i : Nat} {m : List (κ × Value)} {q : κ} {u v : Value} (h : Ents enc es c m) (hi : m[i]? = some (q, u)) : Ents enc (es.modify i fun e => { e with key := enc q, val := v }) c (m.set i (q, v)) := by
  obtain ⟨e, he, h1, h2⟩ := kvs_get h.kvs hi
  have hlt := (Array.getElem?_eq_some_iff.1 he).1
  refine ⟨?_, ?_, ?_⟩
  · apply List.ext_getElem?
    intro j
    rw [List.getElem?_map, Array.getElem?_toList, Array.getElem?_modify, List.getElem?_map, List.getElem?_set]
    have hj : (es[j]?).map kv = (m[j]?).map (ekv enc) := by
      have := congrArg (fun l => l[j]?) h.kvs
      simpa using this
    by_cases c : i = j
    · subst c
      have hml := (List.getElem?_eq_some_iff.1 hi).1
      rw [if_pos rfl, if_pos rfl, if_pos hml, he]; rfl
    · rw [if_neg c, if_neg c]; exact hj
  · intro e' he'
    obtain ⟨j, hj⟩ := List.mem_iff_getElem?.1 he'
    rw [Array.getElem?_toList, Array.getElem?_modify] at hj
    split at hj
    · cases hx : es[j]? with
      | none => rw [hx] at hj; cases hj
      | some x =>
        rw [hx] at hj
        have := Option.some.inj hj
        rw [← this]
        exact h.born x (List.mem_iff_getElem?.2 ⟨j, by rw [Array.getElem?_toList]; exact hx⟩)
    · exact h.born e' (List.mem_iff_getElem?.2 ⟨j, by rw [Array.getElem?_toList]; exact hj⟩)
  · have e0 : (es.modify i fun e => { e with key := enc q, val := v }).toList.map (·.born) = es.toList.map (·.born) := by
      apply List.ext_getElem?
      intro j
      rw [List.getElem?_map, Array.getElem?_toList, Array.getElem?_modify, List.getElem?_map, Array.getElem?_toList]
      split
      · cases es[j]? <;> rfl
      · rfl
    rw [e0]; exact h.nodup
theorem Ents.push {es : Array MapEntry} {c : Nat} {m : List (κ × Value)} {q : κ} {v : Value} (h : Ents enc es c m) : Ents enc (es.push { key := enc q, val := v, born := c }) (c + 1) (m ++ [(q, v)]) := by
  refine ⟨by simp [h.kvs, kv, ekv], fun e he => ?_, ?_⟩
  · simp at he
    rcases he with he | rfl
    · have := h.born e (by simpa using he); omega
    · simp
  · simp only [Array.toList_push, List.map_append, List.map_cons, List.map_nil]
    refine List.nodup_append.2 ⟨h.nodup, by simp, ?_⟩
    intro a ha b hb
    obtain ⟨e, he, rfl⟩ := List.mem_map.1 ha
    simp at hb; subst hb
    have := h.born e he; omega
theorem e_mapset {e : TypeId} {g : Nat} {m : List (κ × Value)} {q : κ} {v : Value} [ht : MapT P t kt e] (K : KeyLaw P kt enc) (p : Pick L (MapIs g enc m) L') (h : Ent W (MapIs g enc (setM q v m) :: L') (k undef)) : Ent W L (opN P (sMapSet t (.map (some g)) (enc q) v) Kp k) := fun w hw => by
  obtain ⟨es, c, he, hp⟩ := map_row (hw.pick p)
  have hg := hp.pt_.1
  have hf := findKey_run K q w he.kvs
  refine ⟨?_⟩
  cases hq : fnd q m 0 with
  | none =>
    have : (sMapSet t (.map (some g)) (enc q) v).run P w = .ok .skip { w with heap := w.heap.setIfInBounds g (.map (es.push { key := enc q, val := v, born := c }) (c + 1)) } := by
      simp [sMapSet, Instr.mapUpdate, run_underlying ht.ut, MapKept.run_getObj_map hg, K.check, hf, hq, Result.andThen, MapKept.run_setObj_map _ hg]
    rw [this]
    refine h _ (map_back ?_ (hp.putObj _))
    rw [setM_none q v m 0 hq]; exact he.push
  | some r =>
    obtain ⟨i, u⟩ := r
    obtain ⟨_, h2, h3, h4⟩ := setM_some q v m 0 i u hq
    rw [Nat.sub_zero] at h2 h3 h4
    obtain ⟨en, hen, e1, e2⟩ := kvs_get he.kvs h4
    have hk : (Instr.keyThatStays (((es[i]?).map (·.key)).getD (enc q)) (enc q)).run P w = .ok (enc q) w := by
      rw [hen]
      simp only [Option.map_some, Option.getD_some, e1]
      unfold Instr.keyThatStays
      rw [if_pos (K.same q)]; rfl
    have : (sMapSet t (.map (some g)) (enc q) v).run P w = .ok .skip { w with heap := w.heap.setIfInBounds g (.map (es.modify i fun e => { e with key := enc q, val := v }) c) } := by
      simp [sMapSet, Instr.mapUpdate, run_underlying ht.ut, MapKept.run_getObj_map hg, K.check, hf, hq, Result.andThen, hk, MapKept.run_setObj_map _ hg]
    rw [this]
    refine h _ (map_back ?_ (hp.putObj _))
    rw [h3]; exact he.put h4
end Go.Proofs.YtcmpkkkigmheoaaDoor.Sl
/-! What the loaded program's types are, one fact a line; printed by a program of mine. No conditions. -/
namespace Go.Proofs.YtcmpkkkigmheoaaDoor.T
open Go Go.Proofs Go.Proofs.YtcmpkkkigmheoaaDoor.Sh Go.Proofs.YtcmpkkkigmheoaaDoor.Sl
theorem fld {P : Program} {t : TypeId} {fs : Array Field} {f ft o n : Nat} (hu : ∀ w, (underlying t).run P w = .ok (.struct fs) w) (hf : (fs[f]?).map (fun x => (x.type, x.offset)) = some (ft, o)) (hs : ∀ w, (sizeOf ft).run P w = .ok (n + 1) w) : FldT P t f o :=
  ⟨fun g b w => by
    cases h : fs[f]? with
    | none => rw [h] at hf; cases hf
    | some fl =>
      rw [h] at hf
      simp only [Option.map_some, Option.some.injEq, Prod.mk.injEq] at hf
      obtain ⟨rfl, rfl⟩ := hf
      simp only [Instr.fieldAt, Sem.run_bind, hu, Result.andThen_ok, h, Instr.sureAddr, fieldPlace, hs, Sem.run_pure]
      by_cases h0 : fl.offset = 0 <;> simp [Addr.add, h0]⟩
theorem slt {P : Program} {t e : TypeId} {i : TypeInfo} {z : Value} {s b : Nat} (hu : P.underlying t = some (.slice e)) (hi : P.info? e = some i) (hz : i.zero = some z) (hs : i.size = s) (hb : i.bytes = b) (hzs : z.cells.size = s) : SlT P t e s b := ⟨hu, i, z, hi, hz, hs, hb, hzs⟩

instance one_1 : OneT Tryd.prog 1 := ⟨Tryd.isAgg1, Tryd.sizeOf1⟩
instance zero_1 : ZeroT Tryd.prog 1 .nilFunc := ⟨Tryd.zeroValue1⟩
instance one_2 : OneT Tryd.prog 2 := ⟨Tryd.isAgg2, Tryd.sizeOf2⟩
instance zero_2 : ZeroT Tryd.prog 2 (.int .i64 0) := ⟨Tryd.zeroValue2⟩
instance int_2 : IntT Tryd.prog 2 .i64 := ⟨Tryd.runUnderlying2⟩
instance one_3 : OneT Tryd.prog 3 := ⟨Tryd.isAgg3, Tryd.sizeOf3⟩
instance zero_3 : ZeroT Tryd.prog 3 (.int .i64 0) := ⟨Tryd.zeroValue3⟩
instance int_3 : IntT Tryd.prog 3 .i64 := ⟨Tryd.runUnderlying3⟩
instance one_4 : OneT Tryd.prog 4 := ⟨Tryd.isAgg4, Tryd.sizeOf4⟩
instance zero_4 : ZeroT Tryd.prog 4 (.bool false) := ⟨Tryd.zeroValue4⟩
instance one_5 : OneT Tryd.prog 5 := ⟨Tryd.isAgg5, Tryd.sizeOf5⟩
instance zero_5 : ZeroT Tryd.prog 5 (.int .u8 0) := ⟨Tryd.zeroValue5⟩
instance int_5 : IntT Tryd.prog 5 .u8 := ⟨Tryd.runUnderlying5⟩
instance one_6 : OneT Tryd.prog 6 := ⟨Tryd.isAgg6, Tryd.sizeOf6⟩
instance zero_6 : ZeroT Tryd.prog 6 (.int .u8 0) := ⟨Tryd.zeroValue6⟩
instance int_6 : IntT Tryd.prog 6 .u8 := ⟨Tryd.runUnderlying6⟩
instance zero_7 : ZeroT Tryd.prog 7 (.agg #[(.int .i64 0), (.int .i64 0), (.bool false), (.int .u8 0)]) := ⟨Tryd.zeroValue7⟩
instance agg_7 : AggT Tryd.prog 7 4 := ⟨Tryd.isAgg7, Tryd.sizeOf7⟩
instance fld_7_0 : FldT Tryd.prog 7 0 0 := fld Tryd.runUnderlying7 (ft := 2) (by kernel_rfl) Tryd.sizeOf2
instance fld_7_1 : FldT Tryd.prog 7 1 1 := fld Tryd.runUnderlying7 (ft := 3) (by kernel_rfl) Tryd.sizeOf3
instance fld_7_2 : FldT Tryd.prog 7 2 2 := fld Tryd.runUnderlying7 (ft := 4) (by kernel_rfl) Tryd.sizeOf4
instance fld_7_3 : FldT Tryd.prog 7 3 3 := fld Tryd.runUnderlying7 (ft := 6) (by kernel_rfl) Tryd.sizeOf6
instance zero_8 : ZeroT Tryd.prog 8 (.agg #[(.int .i64 0), (.int .i64 0), (.bool false), (.int .u8 0)]) := ⟨Tryd.zeroValue8⟩
instance agg_8 : AggT Tryd.prog 8 4 := ⟨Tryd.isAgg8, Tryd.sizeOf8⟩
instance fld_8_0 : FldT Tryd.prog 8 0 0 := fld Tryd.runUnderlying8 (ft := 2) (by kernel_rfl) Tryd.sizeOf2
instance fld_8_1 : FldT Tryd.prog 8 1 1 := fld Tryd.runUnderlying8 (ft := 3) (by kernel_rfl) Tryd.sizeOf3
instance fld_8_2 : FldT Tryd.prog 8 2 2 := fld Tryd.runUnderlying8 (ft := 4) (by kernel_rfl) Tryd.sizeOf4
instance fld_8_3 : FldT Tryd.prog 8 3 3 := fld Tryd.runUnderlying8 (ft := 6) (by kernel_rfl) Tryd.sizeOf6
instance one_9 : OneT Tryd.prog 9 := ⟨Tryd.isAgg9, Tryd.sizeOf9⟩
instance zero_9 : ZeroT Tryd.prog 9 (.string ⟨#[]⟩) := ⟨Tryd.zeroValue9⟩
instance str_9 : StrT Tryd.prog 9 := ⟨Tryd.underlying9⟩
instance one_10 : OneT Tryd.prog 10 := ⟨Tryd.isAgg10, Tryd.sizeOf10⟩
instance zero_10 : ZeroT Tryd.prog 10 (.string ⟨#[]⟩) := ⟨Tryd.zeroValue10⟩
instance str_10 : StrT Tryd.prog 10 := ⟨Tryd.underlying10⟩
instance one_11 : OneT Tryd.prog 11 := ⟨Tryd.isAgg11, Tryd.sizeOf11⟩
instance zero_11 : ZeroT Tryd.prog 11 (.string ⟨#[]⟩) := ⟨Tryd.zeroValue11⟩
instance str_11 : StrT Tryd.prog 11 := ⟨Tryd.underlying11⟩
instance one_12 : OneT Tryd.prog 12 := ⟨Tryd.isAgg12, Tryd.sizeOf12⟩
instance zero_12 : ZeroT Tryd.prog 12 (.int .u64 0) := ⟨Tryd.zeroValue12⟩
instance int_12 : IntT Tryd.prog 12 .u64 := ⟨Tryd.runUnderlying12⟩
instance zero_13 : ZeroT Tryd.prog 13 (.agg #[(.string ⟨#[]⟩), (.int .u64 0)]) := ⟨Tryd.zeroValue13⟩
instance agg_13 : AggT Tryd.prog 13 2 := ⟨Tryd.isAgg13, Tryd.sizeOf13⟩
instance fld_13_0 : FldT Tryd.prog 13 0 0 := fld Tryd.runUnderlying13 (ft := 9) (by kernel_rfl) Tryd.sizeOf9
instance fld_13_1 : FldT Tryd.prog 13 1 1 := fld Tryd.runUnderlying13 (ft := 12) (by kernel_rfl) Tryd.sizeOf12
instance zero_14 : ZeroT Tryd.prog 14 (.agg #[(.string ⟨#[]⟩), (.int .u64 0)]) := ⟨Tryd.zeroValue14⟩
instance agg_14 : AggT Tryd.prog 14 2 := ⟨Tryd.isAgg14, Tryd.sizeOf14⟩
instance fld_14_0 : FldT Tryd.prog 14 0 0 := fld Tryd.runUnderlying14 (ft := 9) (by kernel_rfl) Tryd.sizeOf9
instance fld_14_1 : FldT Tryd.prog 14 1 1 := fld Tryd.runUnderlying14 (ft := 12) (by kernel_rfl) Tryd.sizeOf12
instance one_15 : OneT Tryd.prog 15 := ⟨Tryd.isAgg15, Tryd.sizeOf15⟩
instance zero_15 : ZeroT Tryd.prog 15 (.pointer none) := ⟨Tryd.zeroValue15⟩
instance ptr_15 : PtrT Tryd.prog 15 := ⟨by kernel_rfl⟩
instance one_16 : OneT Tryd.prog 16 := ⟨Tryd.isAgg16, Tryd.sizeOf16⟩
instance zero_16 : ZeroT Tryd.prog 16 (.pointer none) := ⟨Tryd.zeroValue16⟩
instance ptr_16 : PtrT Tryd.prog 16 := ⟨by kernel_rfl⟩
instance one_17 : OneT Tryd.prog 17 := ⟨Tryd.isAgg17, Tryd.sizeOf17⟩
instance zero_17 : ZeroT Tryd.prog 17 (.pointer none) := ⟨Tryd.zeroValue17⟩
instance ptr_17 : PtrT Tryd.prog 17 := ⟨by kernel_rfl⟩
instance zero_18 : ZeroT Tryd.prog 18 (.agg #[(.pointer none)]) := ⟨Tryd.zeroValue18⟩
instance agg_18 : AggT Tryd.prog 18 1 := ⟨Tryd.isAgg18, Tryd.sizeOf18⟩
instance fld_18_0 : FldT Tryd.prog 18 0 0 := fld Tryd.runUnderlying18 (ft := 17) (by kernel_rfl) Tryd.sizeOf17
instance zero_19 : ZeroT Tryd.prog 19 (.agg #[(.pointer none)]) := ⟨Tryd.zeroValue19⟩
instance agg_19 : AggT Tryd.prog 19 1 := ⟨Tryd.isAgg19, Tryd.sizeOf19⟩
instance fld_19_0 : FldT Tryd.prog 19 0 0 := fld Tryd.runUnderlying19 (ft := 17) (by kernel_rfl) Tryd.sizeOf17
instance one_20 : OneT Tryd.prog 20 := ⟨Tryd.isAgg20, Tryd.sizeOf20⟩
instance zero_20 : ZeroT Tryd.prog 20 .nilIface := ⟨Tryd.zeroValue20⟩
instance one_21 : OneT Tryd.prog 21 := ⟨Tryd.isAgg21, Tryd.sizeOf21⟩
instance zero_21 : ZeroT Tryd.prog 21 (.int .i32 0) := ⟨Tryd.zeroValue21⟩
instance int_21 : IntT Tryd.prog 21 .i32 := ⟨Tryd.runUnderlying21⟩
instance one_22 : OneT Tryd.prog 22 := ⟨Tryd.isAgg22, Tryd.sizeOf22⟩
instance zero_22 : ZeroT Tryd.prog 22 (.slice none 0 0) := ⟨Tryd.zeroValue22⟩
instance sl_22 : SlT Tryd.prog 22 37 2 32 := slt (z := (.agg #[(.string ⟨#[]⟩), (.string ⟨#[]⟩)])) Tryd.underlying22 (i := Tryd.t37) (by kernel_rfl) (by kernel_rfl) (by kernel_rfl) (by kernel_rfl) (by kernel_rfl)
instance zero_23 : ZeroT Tryd.prog 23 (.agg #[(.bool false), (.string ⟨#[]⟩)]) := ⟨Tryd.zeroValue23⟩
instance agg_23 : AggT Tryd.prog 23 2 := ⟨Tryd.isAgg23, Tryd.sizeOf23⟩
instance fld_23_0 : FldT Tryd.prog 23 0 0 := fld Tryd.runUnderlying23 (ft := 4) (by kernel_rfl) Tryd.sizeOf4
instance fld_23_1 : FldT Tryd.prog 23 1 1 := fld Tryd.runUnderlying23 (ft := 9) (by kernel_rfl) Tryd.sizeOf9
instance zero_24 : ZeroT Tryd.prog 24 (.agg #[(.bool false), (.string ⟨#[]⟩)]) := ⟨Tryd.zeroValue24⟩
instance agg_24 : AggT Tryd.prog 24 2 := ⟨Tryd.isAgg24, Tryd.sizeOf24⟩
instance fld_24_0 : FldT Tryd.prog 24 0 0 := fld Tryd.runUnderlying24 (ft := 4) (by kernel_rfl) Tryd.sizeOf4
instance fld_24_1 : FldT Tryd.prog 24 1 1 := fld Tryd.runUnderlying24 (ft := 9) (by kernel_rfl) Tryd.sizeOf9
instance zero_25 : ZeroT Tryd.prog 25 (.agg #[(.bool false), (.string ⟨#[]⟩), (.int .i64 0), (.bool false)]) := ⟨Tryd.zeroValue25⟩
instance agg_25 : AggT Tryd.prog 25 4 := ⟨Tryd.isAgg25, Tryd.sizeOf25⟩
instance fld_25_0 : FldT Tryd.prog 25 0 0 := fld Tryd.runUnderlying25 (ft := 24) (by kernel_rfl) Tryd.sizeOf24
instance fld_25_1 : FldT Tryd.prog 25 1 2 := fld Tryd.runUnderlying25 (ft := 3) (by kernel_rfl) Tryd.sizeOf3
instance fld_25_2 : FldT Tryd.prog 25 2 3 := fld Tryd.runUnderlying25 (ft := 4) (by kernel_rfl) Tryd.sizeOf4
instance zero_26 : ZeroT Tryd.prog 26 (.agg #[(.bool false), (.string ⟨#[]⟩), (.int .i64 0), (.bool false)]) := ⟨Tryd.zeroValue26⟩
instance agg_26 : AggT Tryd.prog 26 4 := ⟨Tryd.isAgg26, Tryd.sizeOf26⟩
instance fld_26_0 : FldT Tryd.prog 26 0 0 := fld Tryd.runUnderlying26 (ft := 24) (by kernel_rfl) Tryd.sizeOf24
instance fld_26_1 : FldT Tryd.prog 26 1 2 := fld Tryd.runUnderlying26 (ft := 3) (by kernel_rfl) Tryd.sizeOf3
instance fld_26_2 : FldT Tryd.prog 26 2 3 := fld Tryd.runUnderlying26 (ft := 4) (by kernel_rfl) Tryd.sizeOf4
instance one_27 : OneT Tryd.prog 27 := ⟨Tryd.isAgg27, Tryd.sizeOf27⟩
instance zero_27 : ZeroT Tryd.prog 27 .nilFunc := ⟨Tryd.zeroValue27⟩
instance one_28 : OneT Tryd.prog 28 := ⟨Tryd.isAgg28, Tryd.sizeOf28⟩
instance zero_28 : ZeroT Tryd.prog 28 (.slice none 0 0) := ⟨Tryd.zeroValue28⟩
instance sl_28 : SlT Tryd.prog 28 9 1 16 := slt (z := (.string ⟨#[]⟩)) Tryd.underlying28 (i := Tryd.t9) (by kernel_rfl) (by kernel_rfl) (by kernel_rfl) (by kernel_rfl) (by kernel_rfl)
instance one_29 : OneT Tryd.prog 29 := ⟨Tryd.isAgg29, Tryd.sizeOf29⟩
instance zero_29 : ZeroT Tryd.prog 29 .nilFunc := ⟨Tryd.zeroValue29⟩
instance zero_30 : ZeroT Tryd.prog 30 (.agg #[(.bool false), (.string ⟨#[]⟩)]) := ⟨Tryd.zeroValue30⟩
instance agg_30 : AggT Tryd.prog 30 2 := ⟨Tryd.isAgg30, Tryd.sizeOf30⟩
instance fld_30_0 : FldT Tryd.prog 30 0 0 := fld Tryd.runUnderlying30 (ft := 4) (by kernel_rfl) Tryd.sizeOf4
instance fld_30_1 : FldT Tryd.prog 30 1 1 := fld Tryd.runUnderlying30 (ft := 9) (by kernel_rfl) Tryd.sizeOf9
instance zero_31 : ZeroT Tryd.prog 31 (.agg #[(.bool false), (.string ⟨#[]⟩), (.int .i64 0), (.bool false)]) := ⟨Tryd.zeroValue31⟩
instance agg_31 : AggT Tryd.prog 31 4 := ⟨Tryd.isAgg31, Tryd.sizeOf31⟩
instance fld_31_0 : FldT Tryd.prog 31 0 0 := fld Tryd.runUnderlying31 (ft := 30) (by kernel_rfl) Tryd.sizeOf30
instance fld_31_1 : FldT Tryd.prog 31 1 2 := fld Tryd.runUnderlying31 (ft := 3) (by kernel_rfl) Tryd.sizeOf3
instance fld_31_2 : FldT Tryd.prog 31 2 3 := fld Tryd.runUnderlying31 (ft := 4) (by kernel_rfl) Tryd.sizeOf4
instance zero_32 : ZeroT Tryd.prog 32 (.agg #[(.bool false), (.string ⟨#[]⟩), (.int .i64 0), (.bool false)]) := ⟨Tryd.zeroValue32⟩
instance agg_32 : AggT Tryd.prog 32 4 := ⟨Tryd.isAgg32, Tryd.sizeOf32⟩
instance fld_32_0 : FldT Tryd.prog 32 0 0 := fld Tryd.runUnderlying32 (ft := 30) (by kernel_rfl) Tryd.sizeOf30
instance fld_32_1 : FldT Tryd.prog 32 1 2 := fld Tryd.runUnderlying32 (ft := 3) (by kernel_rfl) Tryd.sizeOf3
instance fld_32_2 : FldT Tryd.prog 32 2 3 := fld Tryd.runUnderlying32 (ft := 4) (by kernel_rfl) Tryd.sizeOf4
instance one_33 : OneT Tryd.prog 33 := ⟨Tryd.isAgg33, Tryd.sizeOf33⟩
instance zero_33 : ZeroT Tryd.prog 33 .nilFunc := ⟨Tryd.zeroValue33⟩
instance one_34 : OneT Tryd.prog 34 := ⟨Tryd.isAgg34, Tryd.sizeOf34⟩
instance zero_34 : ZeroT Tryd.prog 34 .nilFunc := ⟨Tryd.zeroValue34⟩
instance one_35 : OneT Tryd.prog 35 := ⟨Tryd.isAgg35, Tryd.sizeOf35⟩
instance zero_35 : ZeroT Tryd.prog 35 .nilFunc := ⟨Tryd.zeroValue35⟩
instance zero_36 : ZeroT Tryd.prog 36 (.agg #[(.string ⟨#[]⟩), (.string ⟨#[]⟩)]) := ⟨Tryd.zeroValue36⟩
instance agg_36 : AggT Tryd.prog 36 2 := ⟨Tryd.isAgg36, Tryd.sizeOf36⟩
instance fld_36_0 : FldT Tryd.prog 36 0 0 := fld Tryd.runUnderlying36 (ft := 9) (by kernel_rfl) Tryd.sizeOf9
instance fld_36_1 : FldT Tryd.prog 36 1 1 := fld Tryd.runUnderlying36 (ft := 9) (by kernel_rfl) Tryd.sizeOf9
instance zero_37 : ZeroT Tryd.prog 37 (.agg #[(.string ⟨#[]⟩), (.string ⟨#[]⟩)]) := ⟨Tryd.zeroValue37⟩
instance agg_37 : AggT Tryd.prog 37 2 := ⟨Tryd.isAgg37, Tryd.sizeOf37⟩
instance fld_37_0 : FldT Tryd.prog 37 0 0 := fld Tryd.runUnderlying37 (ft := 9) (by kernel_rfl) Tryd.sizeOf9
instance fld_37_1 : FldT Tryd.prog 37 1 1 := fld Tryd.runUnderlying37 (ft := 9) (by kernel_rfl) Tryd.sizeOf9
instance one_38 : OneT Tryd.prog 38 := ⟨Tryd.isAgg38, Tryd.sizeOf38⟩
instance zero_38 : ZeroT Tryd.prog 38 .nilFunc := ⟨Tryd.zeroValue38⟩
instance one_39 : OneT Tryd.prog 39 := ⟨Tryd.isAgg39, Tryd.sizeOf39⟩
instance zero_39 : ZeroT Tryd.prog 39 .nilFunc := ⟨Tryd.zeroValue39⟩
instance one_40 : OneT Tryd.prog 40 := ⟨Tryd.isAgg40, Tryd.sizeOf40⟩
instance zero_40 : ZeroT Tryd.prog 40 .nilFunc := ⟨Tryd.zeroValue40⟩
instance one_41 : OneT Tryd.prog 41 := ⟨Tryd.isAgg41, Tryd.sizeOf41⟩
instance zero_41 : ZeroT Tryd.prog 41 .nilFunc := ⟨Tryd.zeroValue41⟩
instance one_42 : OneT Tryd.prog 42 := ⟨Tryd.isAgg42, Tryd.sizeOf42⟩
instance zero_42 : ZeroT Tryd.prog 42 .nilFunc := ⟨Tryd.zeroValue42⟩
instance one_44 : OneT Tryd.prog 44 := ⟨Tryd.isAgg44, Tryd.sizeOf44⟩
instance zero_44 : ZeroT Tryd.prog 44 .nilFunc := ⟨Tryd.zeroValue44⟩
instance one_45 : OneT Tryd.prog 45 := ⟨Tryd.isAgg45, Tryd.sizeOf45⟩
instance zero_45 : ZeroT Tryd.prog 45 .nilFunc := ⟨Tryd.zeroValue45⟩
instance one_46 : OneT Tryd.prog 46 := ⟨Tryd.isAgg46, Tryd.sizeOf46⟩
instance zero_46 : ZeroT Tryd.prog 46 .nilFunc := ⟨Tryd.zeroValue46⟩
instance one_47 : OneT Tryd.prog 47 := ⟨Tryd.isAgg47, Tryd.sizeOf47⟩
instance zero_47 : ZeroT Tryd.prog 47 .nilFunc := ⟨Tryd.zeroValue47⟩
instance one_48 : OneT Tryd.prog 48 := ⟨Tryd.isAgg48, Tryd.sizeOf48⟩
instance zero_48 : ZeroT Tryd.prog 48 .nilFunc := ⟨Tryd.zeroValue48⟩
instance zero_49 : ZeroT Tryd.prog 49 (.agg #[(.bool false), (.slice none 0 0), (.bool false), (.string ⟨#[]⟩), (.int .i64 0), (.bool false), (.int .i64 0)]) := ⟨Tryd.zeroValue49⟩
instance agg_49 : AggT Tryd.prog 49 7 := ⟨Tryd.isAgg49, Tryd.sizeOf49⟩
instance fld_49_0 : FldT Tryd.prog 49 0 0 := fld Tryd.runUnderlying49 (ft := 4) (by kernel_rfl) Tryd.sizeOf4
instance fld_49_1 : FldT Tryd.prog 49 1 1 := fld Tryd.runUnderlying49 (ft := 22) (by kernel_rfl) Tryd.sizeOf22
instance fld_49_2 : FldT Tryd.prog 49 2 2 := fld Tryd.runUnderlying49 (ft := 32) (by kernel_rfl) Tryd.sizeOf32
instance fld_49_3 : FldT Tryd.prog 49 3 6 := fld Tryd.runUnderlying49 (ft := 3) (by kernel_rfl) Tryd.sizeOf3
instance zero_50 : ZeroT Tryd.prog 50 (.agg #[(.bool false), (.slice none 0 0), (.bool false), (.string ⟨#[]⟩), (.int .i64 0), (.bool false), (.int .i64 0)]) := ⟨Tryd.zeroValue50⟩
instance agg_50 : AggT Tryd.prog 50 7 := ⟨Tryd.isAgg50, Tryd.sizeOf50⟩
instance fld_50_0 : FldT Tryd.prog 50 0 0 := fld Tryd.runUnderlying50 (ft := 4) (by kernel_rfl) Tryd.sizeOf4
instance fld_50_1 : FldT Tryd.prog 50 1 1 := fld Tryd.runUnderlying50 (ft := 22) (by kernel_rfl) Tryd.sizeOf22
instance fld_50_2 : FldT Tryd.prog 50 2 2 := fld Tryd.runUnderlying50 (ft := 32) (by kernel_rfl) Tryd.sizeOf32
instance fld_50_3 : FldT Tryd.prog 50 3 6 := fld Tryd.runUnderlying50 (ft := 3) (by kernel_rfl) Tryd.sizeOf3
instance one_52 : OneT Tryd.prog 52 := ⟨Tryd.isAgg52, Tryd.sizeOf52⟩
instance zero_52 : ZeroT Tryd.prog 52 .nilFunc := ⟨Tryd.zeroValue52⟩
instance one_53 : OneT Tryd.prog 53 := ⟨Tryd.isAgg53, Tryd.sizeOf53⟩
instance zero_53 : ZeroT Tryd.prog 53 .nilFunc := ⟨Tryd.zeroValue53⟩
instance one_55 : OneT Tryd.prog 55 := ⟨Tryd.isAgg55, Tryd.sizeOf55⟩
instance zero_55 : ZeroT Tryd.prog 55 .nilFunc := ⟨Tryd.zeroValue55⟩
instance one_56 : OneT Tryd.prog 56 := ⟨Tryd.isAgg56, Tryd.sizeOf56⟩
instance zero_56 : ZeroT Tryd.prog 56 .nilFunc := ⟨Tryd.zeroValue56⟩
instance zero_57 : ZeroT Tryd.prog 57 (.agg #[.nilFunc, .nilFunc]) := ⟨Tryd.zeroValue57⟩
instance agg_57 : AggT Tryd.prog 57 2 := ⟨Tryd.isAgg57, Tryd.sizeOf57⟩
instance arr_57 : ArrT Tryd.prog 57 2 56 1 := ⟨Tryd.runUnderlying57, Tryd.sizeOf56⟩
instance zero_58 : ZeroT Tryd.prog 58 (.agg #[(.int .i64 0), (.int .i64 0), (.int .i64 0), (.int .i64 0), (.int .i64 0), (.int .i64 0), (.int .i64 0)]) := ⟨Tryd.zeroValue58⟩
instance agg_58 : AggT Tryd.prog 58 7 := ⟨Tryd.isAgg58, Tryd.sizeOf58⟩
instance fld_58_0 : FldT Tryd.prog 58 0 0 := fld Tryd.runUnderlying58 (ft := 3) (by kernel_rfl) Tryd.sizeOf3
instance fld_58_1 : FldT Tryd.prog 58 1 1 := fld Tryd.runUnderlying58 (ft := 3) (by kernel_rfl) Tryd.sizeOf3
instance fld_58_2 : FldT Tryd.prog 58 2 2 := fld Tryd.runUnderlying58 (ft := 3) (by kernel_rfl) Tryd.sizeOf3
instance fld_58_3 : FldT Tryd.prog 58 3 3 := fld Tryd.runUnderlying58 (ft := 3) (by kernel_rfl) Tryd.sizeOf3
instance fld_58_4 : FldT Tryd.prog 58 4 4 := fld Tryd.runUnderlying58 (ft := 3) (by kernel_rfl) Tryd.sizeOf3
instance fld_58_5 : FldT Tryd.prog 58 5 5 := fld Tryd.runUnderlying58 (ft := 3) (by kernel_rfl) Tryd.sizeOf3
instance fld_58_6 : FldT Tryd.prog 58 6 6 := fld Tryd.runUnderlying58 (ft := 3) (by kernel_rfl) Tryd.sizeOf3
instance zero_59 : ZeroT Tryd.prog 59 (.agg #[(.int .i64 0), (.int .i64 0), (.int .i64 0), (.int .i64 0), (.int .i64 0), (.int .i64 0), (.int .i64 0)]) := ⟨Tryd.zeroValue59⟩
instance agg_59 : AggT Tryd.prog 59 7 := ⟨Tryd.isAgg59, Tryd.sizeOf59⟩
instance fld_59_0 : FldT Tryd.prog 59 0 0 := fld Tryd.runUnderlying59 (ft := 3) (by kernel_rfl) Tryd.sizeOf3
instance fld_59_1 : FldT Tryd.prog 59 1 1 := fld Tryd.runUnderlying59 (ft := 3) (by kernel_rfl) Tryd.sizeOf3
instance fld_59_2 : FldT Tryd.prog 59 2 2 := fld Tryd.runUnderlying59 (ft := 3) (by kernel_rfl) Tryd.sizeOf3
instance fld_59_3 : FldT Tryd.prog 59 3 3 := fld Tryd.runUnderlying59 (ft := 3) (by kernel_rfl) Tryd.sizeOf3
instance fld_59_4 : FldT Tryd.prog 59 4 4 := fld Tryd.runUnderlying59 (ft := 3) (by kernel_rfl) Tryd.sizeOf3
instance fld_59_5 : FldT Tryd.prog 59 5 5 := fld Tryd.runUnderlying59 (ft := 3) (by kernel_rfl) Tryd.sizeOf3
instance fld_59_6 : FldT Tryd.prog 59 6 6 := fld Tryd.runUnderlying59 (ft := 3) (by kernel_rfl) Tryd.sizeOf3
instance one_61 : OneT Tryd.prog 61 := ⟨Tryd.isAgg61, Tryd.sizeOf61⟩
instance zero_61 : ZeroT Tryd.prog 61 .nilFunc := ⟨Tryd.zeroValue61⟩
instance one_63 : OneT Tryd.prog 63 := ⟨Tryd.isAgg63, Tryd.sizeOf63⟩
instance zero_63 : ZeroT Tryd.prog 63 .nilFunc := ⟨Tryd.zeroValue63⟩
instance one_65 : OneT Tryd.prog 65 := ⟨Tryd.isAgg65, Tryd.sizeOf65⟩
instance zero_65 : ZeroT Tryd.prog 65 .nilFunc := ⟨Tryd.zeroValue65⟩
instance zero_66 : ZeroT Tryd.prog 66 (.agg #[.nilFunc, (.int .i64 0)]) := ⟨Tryd.zeroValue66⟩
instance agg_66 : AggT Tryd.prog 66 2 := ⟨Tryd.isAgg66, Tryd.sizeOf66⟩
instance fld_66_0 : FldT Tryd.prog 66 0 0 := fld Tryd.runUnderlying66 (ft := 53) (by kernel_rfl) Tryd.sizeOf53
instance fld_66_1 : FldT Tryd.prog 66 1 1 := fld Tryd.runUnderlying66 (ft := 3) (by kernel_rfl) Tryd.sizeOf3
instance zero_67 : ZeroT Tryd.prog 67 (.agg #[.nilFunc, (.int .i64 0)]) := ⟨Tryd.zeroValue67⟩
instance agg_67 : AggT Tryd.prog 67 2 := ⟨Tryd.isAgg67, Tryd.sizeOf67⟩
instance fld_67_0 : FldT Tryd.prog 67 0 0 := fld Tryd.runUnderlying67 (ft := 53) (by kernel_rfl) Tryd.sizeOf53
instance fld_67_1 : FldT Tryd.prog 67 1 1 := fld Tryd.runUnderlying67 (ft := 3) (by kernel_rfl) Tryd.sizeOf3
instance one_68 : OneT Tryd.prog 68 := ⟨Tryd.isAgg68, Tryd.sizeOf68⟩
instance zero_68 : ZeroT Tryd.prog 68 (.int .i64 0) := ⟨Tryd.zeroValue68⟩
instance int_68 : IntT Tryd.prog 68 .i64 := ⟨Tryd.runUnderlying68⟩
instance one_70 : OneT Tryd.prog 70 := ⟨Tryd.isAgg70, Tryd.sizeOf70⟩
instance zero_70 : ZeroT Tryd.prog 70 .nilFunc := ⟨Tryd.zeroValue70⟩
instance one_72 : OneT Tryd.prog 72 := ⟨Tryd.isAgg72, Tryd.sizeOf72⟩
instance zero_72 : ZeroT Tryd.prog 72 .nilFunc := ⟨Tryd.zeroValue72⟩
instance one_73 : OneT Tryd.prog 73 := ⟨Tryd.isAgg73, Tryd.sizeOf73⟩
instance zero_73 : ZeroT Tryd.prog 73 .nilFunc := ⟨Tryd.zeroValue73⟩
instance one_74 : OneT Tryd.prog 74 := ⟨Tryd.isAgg74, Tryd.sizeOf74⟩
instance zero_74 : ZeroT Tryd.prog 74 (.slice none 0 0) := ⟨Tryd.zeroValue74⟩
instance sl_74 : SlT Tryd.prog 74 30 2 24 := slt (z := (.agg #[(.bool false), (.string ⟨#[]⟩)])) Tryd.underlying74 (i := Tryd.t30) (by kernel_rfl) (by kernel_rfl) (by kernel_rfl) (by kernel_rfl) (by kernel_rfl)
instance one_76 : OneT Tryd.prog 76 := ⟨Tryd.isAgg76, Tryd.sizeOf76⟩
instance zero_76 : ZeroT Tryd.prog 76 .nilFunc := ⟨Tryd.zeroValue76⟩
instance one_77 : OneT Tryd.prog 77 := ⟨Tryd.isAgg77, Tryd.sizeOf77⟩
instance zero_77 : ZeroT Tryd.prog 77 .nilFunc := ⟨Tryd.zeroValue77⟩
instance one_78 : OneT Tryd.prog 78 := ⟨Tryd.isAgg78, Tryd.sizeOf78⟩
instance zero_78 : ZeroT Tryd.prog 78 .nilFunc := ⟨Tryd.zeroValue78⟩
instance one_79 : OneT Tryd.prog 79 := ⟨Tryd.isAgg79, Tryd.sizeOf79⟩
instance zero_79 : ZeroT Tryd.prog 79 .nilFunc := ⟨Tryd.zeroValue79⟩
instance one_81 : OneT Tryd.prog 81 := ⟨Tryd.isAgg81, Tryd.sizeOf81⟩
instance zero_81 : ZeroT Tryd.prog 81 .nilFunc := ⟨Tryd.zeroValue81⟩
instance one_82 : OneT Tryd.prog 82 := ⟨Tryd.isAgg82, Tryd.sizeOf82⟩
instance zero_82 : ZeroT Tryd.prog 82 .nilFunc := ⟨Tryd.zeroValue82⟩
instance one_83 : OneT Tryd.prog 83 := ⟨Tryd.isAgg83, Tryd.sizeOf83⟩
instance zero_83 : ZeroT Tryd.prog 83 .nilFunc := ⟨Tryd.zeroValue83⟩
instance one_85 : OneT Tryd.prog 85 := ⟨Tryd.isAgg85, Tryd.sizeOf85⟩
instance zero_85 : ZeroT Tryd.prog 85 .nilFunc := ⟨Tryd.zeroValue85⟩
instance one_86 : OneT Tryd.prog 86 := ⟨Tryd.isAgg86, Tryd.sizeOf86⟩
instance zero_86 : ZeroT Tryd.prog 86 .nilFunc := ⟨Tryd.zeroValue86⟩
instance one_87 : OneT Tryd.prog 87 := ⟨Tryd.isAgg87, Tryd.sizeOf87⟩
instance zero_87 : ZeroT Tryd.prog 87 .nilFunc := ⟨Tryd.zeroValue87⟩
instance one_88 : OneT Tryd.prog 88 := ⟨Tryd.isAgg88, Tryd.sizeOf88⟩
instance zero_88 : ZeroT Tryd.prog 88 (.pointer none) := ⟨Tryd.zeroValue88⟩
instance ptr_88 : PtrT Tryd.prog 88 := ⟨by kernel_rfl⟩
instance zero_89 : ZeroT Tryd.prog 89 (.agg #[.nilFunc, .nilFunc, .nilFunc]) := ⟨Tryd.zeroValue89⟩
instance agg_89 : AggT Tryd.prog 89 3 := ⟨Tryd.isAgg89, Tryd.sizeOf89⟩
instance arr_89 : ArrT Tryd.prog 89 3 86 1 := ⟨Tryd.runUnderlying89, Tryd.sizeOf86⟩
instance one_90 : OneT Tryd.prog 90 := ⟨Tryd.isAgg90, Tryd.sizeOf90⟩
instance zero_90 : ZeroT Tryd.prog 90 .nilFunc := ⟨Tryd.zeroValue90⟩
instance one_91 : OneT Tryd.prog 91 := ⟨Tryd.isAgg91, Tryd.sizeOf91⟩
instance zero_91 : ZeroT Tryd.prog 91 (.slice none 0 0) := ⟨Tryd.zeroValue91⟩
instance bytes_91 : BytesT Tryd.prog 91 := ⟨_, Tryd.underlying91, Tryd.underlying5⟩
instance sl_91 : SlT Tryd.prog 91 5 1 1 := slt (z := (.int .u8 0)) Tryd.underlying91 (i := Tryd.t5) (by kernel_rfl) (by kernel_rfl) (by kernel_rfl) (by kernel_rfl) (by kernel_rfl)
instance one_93 : OneT Tryd.prog 93 := ⟨Tryd.isAgg93, Tryd.sizeOf93⟩
instance zero_93 : ZeroT Tryd.prog 93 .nilFunc := ⟨Tryd.zeroValue93⟩
instance zero_94 : ZeroT Tryd.prog 94 (.agg #[(.bool false), (.bool false), .nilFunc]) := ⟨Tryd.zeroValue94⟩
instance agg_94 : AggT Tryd.prog 94 3 := ⟨Tryd.isAgg94, Tryd.sizeOf94⟩
instance fld_94_0 : FldT Tryd.prog 94 0 0 := fld Tryd.runUnderlying94 (ft := 4) (by kernel_rfl) Tryd.sizeOf4
instance fld_94_1 : FldT Tryd.prog 94 1 1 := fld Tryd.runUnderlying94 (ft := 4) (by kernel_rfl) Tryd.sizeOf4
instance fld_94_2 : FldT Tryd.prog 94 2 2 := fld Tryd.runUnderlying94 (ft := 85) (by kernel_rfl) Tryd.sizeOf85
instance zero_95 : ZeroT Tryd.prog 95 (.agg #[(.bool false), (.bool false), .nilFunc]) := ⟨Tryd.zeroValue95⟩
instance agg_95 : AggT Tryd.prog 95 3 := ⟨Tryd.isAgg95, Tryd.sizeOf95⟩
instance fld_95_0 : FldT Tryd.prog 95 0 0 := fld Tryd.runUnderlying95 (ft := 4) (by kernel_rfl) Tryd.sizeOf4
instance fld_95_1 : FldT Tryd.prog 95 1 1 := fld Tryd.runUnderlying95 (ft := 4) (by kernel_rfl) Tryd.sizeOf4
instance fld_95_2 : FldT Tryd.prog 95 2 2 := fld Tryd.runUnderlying95 (ft := 85) (by kernel_rfl) Tryd.sizeOf85
instance one_96 : OneT Tryd.prog 96 := ⟨Tryd.isAgg96, Tryd.sizeOf96⟩
instance zero_96 : ZeroT Tryd.prog 96 (.pointer none) := ⟨Tryd.zeroValue96⟩
instance ptr_96 : PtrT Tryd.prog 96 := ⟨by kernel_rfl⟩
instance zero_97 : ZeroT Tryd.prog 97 (.agg #[(.pointer none), (.slice none 0 0)]) := ⟨Tryd.zeroValue97⟩
instance agg_97 : AggT Tryd.prog 97 2 := ⟨Tryd.isAgg97, Tryd.sizeOf97⟩
instance fld_97_0 : FldT Tryd.prog 97 0 0 := fld Tryd.runUnderlying97 (ft := 96) (by kernel_rfl) Tryd.sizeOf96
instance fld_97_1 : FldT Tryd.prog 97 1 1 := fld Tryd.runUnderlying97 (ft := 91) (by kernel_rfl) Tryd.sizeOf91
instance zero_98 : ZeroT Tryd.prog 98 (.agg #[(.pointer none), (.slice none 0 0)]) := ⟨Tryd.zeroValue98⟩
instance agg_98 : AggT Tryd.prog 98 2 := ⟨Tryd.isAgg98, Tryd.sizeOf98⟩
instance fld_98_0 : FldT Tryd.prog 98 0 0 := fld Tryd.runUnderlying98 (ft := 96) (by kernel_rfl) Tryd.sizeOf96
instance fld_98_1 : FldT Tryd.prog 98 1 1 := fld Tryd.runUnderlying98 (ft := 91) (by kernel_rfl) Tryd.sizeOf91
instance one_99 : OneT Tryd.prog 99 := ⟨Tryd.isAgg99, Tryd.sizeOf99⟩
instance zero_99 : ZeroT Tryd.prog 99 .nilFunc := ⟨Tryd.zeroValue99⟩
instance one_100 : OneT Tryd.prog 100 := ⟨Tryd.isAgg100, Tryd.sizeOf100⟩
instance zero_100 : ZeroT Tryd.prog 100 .nilIface := ⟨Tryd.zeroValue100⟩
instance one_101 : OneT Tryd.prog 101 := ⟨Tryd.isAgg101, Tryd.sizeOf101⟩
instance zero_101 : ZeroT Tryd.prog 101 .nilIface := ⟨Tryd.zeroValue101⟩
instance one_103 : OneT Tryd.prog 103 := ⟨Tryd.isAgg103, Tryd.sizeOf103⟩
instance zero_103 : ZeroT Tryd.prog 103 .nilFunc := ⟨Tryd.zeroValue103⟩
instance one_104 : OneT Tryd.prog 104 := ⟨Tryd.isAgg104, Tryd.sizeOf104⟩
instance zero_104 : ZeroT Tryd.prog 104 .nilFunc := ⟨Tryd.zeroValue104⟩
instance one_105 : OneT Tryd.prog 105 := ⟨Tryd.isAgg105, Tryd.sizeOf105⟩
instance zero_105 : ZeroT Tryd.prog 105 .nilFunc := ⟨Tryd.zeroValue105⟩
instance one_106 : OneT Tryd.prog 106 := ⟨Tryd.isAgg106, Tryd.sizeOf106⟩
instance zero_106 : ZeroT Tryd.prog 106 .nilFunc := ⟨Tryd.zeroValue106⟩
instance zero_107 : ZeroT Tryd.prog 107 (.agg #[(.int .i64 0), (.int .i64 0), (.int .i64 0), (.int .i64 0), (.int .i64 0), (.int .i64 0), (.int .i64 0)]) := ⟨Tryd.zeroValue107⟩
instance agg_107 : AggT Tryd.prog 107 7 := ⟨Tryd.isAgg107, Tryd.sizeOf107⟩
instance fld_107_0 : FldT Tryd.prog 107 0 0 := fld Tryd.runUnderlying107 (ft := 3) (by kernel_rfl) Tryd.sizeOf3
instance fld_107_1 : FldT Tryd.prog 107 1 1 := fld Tryd.runUnderlying107 (ft := 3) (by kernel_rfl) Tryd.sizeOf3
instance fld_107_2 : FldT Tryd.prog 107 2 2 := fld Tryd.runUnderlying107 (ft := 3) (by kernel_rfl) Tryd.sizeOf3
instance fld_107_3 : FldT Tryd.prog 107 3 3 := fld Tryd.runUnderlying107 (ft := 3) (by kernel_rfl) Tryd.sizeOf3
instance fld_107_4 : FldT Tryd.prog 107 4 4 := fld Tryd.runUnderlying107 (ft := 3) (by kernel_rfl) Tryd.sizeOf3
instance fld_107_5 : FldT Tryd.prog 107 5 5 := fld Tryd.runUnderlying107 (ft := 3) (by kernel_rfl) Tryd.sizeOf3
instance fld_107_6 : FldT Tryd.prog 107 6 6 := fld Tryd.runUnderlying107 (ft := 3) (by kernel_rfl) Tryd.sizeOf3
instance one_108 : OneT Tryd.prog 108 := ⟨Tryd.isAgg108, Tryd.sizeOf108⟩
instance zero_108 : ZeroT Tryd.prog 108 .nilFunc := ⟨Tryd.zeroValue108⟩
instance one_109 : OneT Tryd.prog 109 := ⟨Tryd.isAgg109, Tryd.sizeOf109⟩
instance zero_109 : ZeroT Tryd.prog 109 (.pointer none) := ⟨Tryd.zeroValue109⟩
instance ptr_109 : PtrT Tryd.prog 109 := ⟨by kernel_rfl⟩
instance one_110 : OneT Tryd.prog 110 := ⟨Tryd.isAgg110, Tryd.sizeOf110⟩
instance zero_110 : ZeroT Tryd.prog 110 .nilFunc := ⟨Tryd.zeroValue110⟩
instance zero_111 : ZeroT Tryd.prog 111 (.agg #[(.string ⟨#[]⟩)]) := ⟨Tryd.zeroValue111⟩
instance agg_111 : AggT Tryd.prog 111 1 := ⟨Tryd.isAgg111, Tryd.sizeOf111⟩
instance fld_111_0 : FldT Tryd.prog 111 0 0 := fld Tryd.runUnderlying111 (ft := 9) (by kernel_rfl) Tryd.sizeOf9
instance zero_112 : ZeroT Tryd.prog 112 (.agg #[(.string ⟨#[]⟩)]) := ⟨Tryd.zeroValue112⟩
instance agg_112 : AggT Tryd.prog 112 1 := ⟨Tryd.isAgg112, Tryd.sizeOf112⟩
instance fld_112_0 : FldT Tryd.prog 112 0 0 := fld Tryd.runUnderlying112 (ft := 9) (by kernel_rfl) Tryd.sizeOf9
instance one_114 : OneT Tryd.prog 114 := ⟨Tryd.isAgg114, Tryd.sizeOf114⟩
instance zero_114 : ZeroT Tryd.prog 114 .nilFunc := ⟨Tryd.zeroValue114⟩
instance one_115 : OneT Tryd.prog 115 := ⟨Tryd.isAgg115, Tryd.sizeOf115⟩
instance zero_115 : ZeroT Tryd.prog 115 .nilFunc := ⟨Tryd.zeroValue115⟩
instance one_116 : OneT Tryd.prog 116 := ⟨Tryd.isAgg116, Tryd.sizeOf116⟩
instance zero_116 : ZeroT Tryd.prog 116 .nilFunc := ⟨Tryd.zeroValue116⟩
instance one_117 : OneT Tryd.prog 117 := ⟨Tryd.isAgg117, Tryd.sizeOf117⟩
instance zero_117 : ZeroT Tryd.prog 117 .nilFunc := ⟨Tryd.zeroValue117⟩
instance one_118 : OneT Tryd.prog 118 := ⟨Tryd.isAgg118, Tryd.sizeOf118⟩
instance zero_118 : ZeroT Tryd.prog 118 .nilFunc := ⟨Tryd.zeroValue118⟩
instance one_119 : OneT Tryd.prog 119 := ⟨Tryd.isAgg119, Tryd.sizeOf119⟩
instance zero_119 : ZeroT Tryd.prog 119 .nilFunc := ⟨Tryd.zeroValue119⟩
instance one_120 : OneT Tryd.prog 120 := ⟨Tryd.isAgg120, Tryd.sizeOf120⟩
instance zero_120 : ZeroT Tryd.prog 120 (.pointer none) := ⟨Tryd.zeroValue120⟩
instance ptr_120 : PtrT Tryd.prog 120 := ⟨by kernel_rfl⟩
instance zero_121 : ZeroT Tryd.prog 121 (.agg #[(.string ⟨#[]⟩), (.string ⟨#[]⟩), (.string ⟨#[]⟩), (.string ⟨#[]⟩), (.string ⟨#[]⟩), (.string ⟨#[]⟩), (.string ⟨#[]⟩), (.string ⟨#[]⟩), (.string ⟨#[]⟩), (.string ⟨#[]⟩), (.string ⟨#[]⟩), (.string ⟨#[]⟩)]) := ⟨Tryd.zeroValue121⟩
instance agg_121 : AggT Tryd.prog 121 12 := ⟨Tryd.isAgg121, Tryd.sizeOf121⟩
instance arr_121 : ArrT Tryd.prog 121 12 9 1 := ⟨Tryd.runUnderlying121, Tryd.sizeOf9⟩
instance one_122 : OneT Tryd.prog 122 := ⟨Tryd.isAgg122, Tryd.sizeOf122⟩
instance zero_122 : ZeroT Tryd.prog 122 .nilFunc := ⟨Tryd.zeroValue122⟩
instance one_124 : OneT Tryd.prog 124 := ⟨Tryd.isAgg124, Tryd.sizeOf124⟩
instance zero_124 : ZeroT Tryd.prog 124 .nilFunc := ⟨Tryd.zeroValue124⟩
instance one_125 : OneT Tryd.prog 125 := ⟨Tryd.isAgg125, Tryd.sizeOf125⟩
instance zero_125 : ZeroT Tryd.prog 125 .nilFunc := ⟨Tryd.zeroValue125⟩
instance one_126 : OneT Tryd.prog 126 := ⟨Tryd.isAgg126, Tryd.sizeOf126⟩
instance zero_126 : ZeroT Tryd.prog 126 .nilFunc := ⟨Tryd.zeroValue126⟩
instance zero_127 : ZeroT Tryd.prog 127 (.agg #[(.string ⟨#[]⟩), (.string ⟨#[]⟩), (.string ⟨#[]⟩), (.string ⟨#[]⟩), (.string ⟨#[]⟩), (.string ⟨#[]⟩), (.string ⟨#[]⟩)]) := ⟨Tryd.zeroValue127⟩
instance agg_127 : AggT Tryd.prog 127 7 := ⟨Tryd.isAgg127, Tryd.sizeOf127⟩
instance arr_127 : ArrT Tryd.prog 127 7 9 1 := ⟨Tryd.runUnderlying127, Tryd.sizeOf9⟩
instance one_128 : OneT Tryd.prog 128 := ⟨Tryd.isAgg128, Tryd.sizeOf128⟩
instance zero_128 : ZeroT Tryd.prog 128 .nilFunc := ⟨Tryd.zeroValue128⟩
instance one_129 : OneT Tryd.prog 129 := ⟨Tryd.isAgg129, Tryd.sizeOf129⟩
instance zero_129 : ZeroT Tryd.prog 129 .nilFunc := ⟨Tryd.zeroValue129⟩
instance agg_130 : AggT Tryd.prog 130 256 := ⟨Tryd.isAgg130, Tryd.sizeOf130⟩
instance arr_130 : ArrT Tryd.prog 130 256 3 1 := ⟨Tryd.runUnderlying130, Tryd.sizeOf3⟩
instance one_131 : OneT Tryd.prog 131 := ⟨Tryd.isAgg131, Tryd.sizeOf131⟩
instance zero_131 : ZeroT Tryd.prog 131 .nilFunc := ⟨Tryd.zeroValue131⟩
instance one_132 : OneT Tryd.prog 132 := ⟨Tryd.isAgg132, Tryd.sizeOf132⟩
instance zero_132 : ZeroT Tryd.prog 132 .nilFunc := ⟨Tryd.zeroValue132⟩
instance agg_133 : AggT Tryd.prog 133 256 := ⟨Tryd.isAgg133, Tryd.sizeOf133⟩
instance arr_133 : ArrT Tryd.prog 133 256 4 1 := ⟨Tryd.runUnderlying133, Tryd.sizeOf4⟩
instance agg_134 : AggT Tryd.prog 134 256 := ⟨Tryd.isAgg134, Tryd.sizeOf134⟩
instance arr_134 : ArrT Tryd.prog 134 256 4 1 := ⟨Tryd.runUnderlying134, Tryd.sizeOf4⟩
instance one_136 : OneT Tryd.prog 136 := ⟨Tryd.isAgg136, Tryd.sizeOf136⟩
instance zero_136 : ZeroT Tryd.prog 136 .nilFunc := ⟨Tryd.zeroValue136⟩
instance one_137 : OneT Tryd.prog 137 := ⟨Tryd.isAgg137, Tryd.sizeOf137⟩
instance zero_137 : ZeroT Tryd.prog 137 .nilFunc := ⟨Tryd.zeroValue137⟩
instance one_138 : OneT Tryd.prog 138 := ⟨Tryd.isAgg138, Tryd.sizeOf138⟩
instance zero_138 : ZeroT Tryd.prog 138 (.pointer none) := ⟨Tryd.zeroValue138⟩
instance ptr_138 : PtrT Tryd.prog 138 := ⟨by kernel_rfl⟩
instance one_139 : OneT Tryd.prog 139 := ⟨Tryd.isAgg139, Tryd.sizeOf139⟩
instance zero_139 : ZeroT Tryd.prog 139 (.pointer none) := ⟨Tryd.zeroValue139⟩
instance one_140 : OneT Tryd.prog 140 := ⟨Tryd.isAgg140, Tryd.sizeOf140⟩
instance zero_140 : ZeroT Tryd.prog 140 .nilFunc := ⟨Tryd.zeroValue140⟩
instance one_141 : OneT Tryd.prog 141 := ⟨Tryd.isAgg141, Tryd.sizeOf141⟩
instance zero_141 : ZeroT Tryd.prog 141 .nilFunc := ⟨Tryd.zeroValue141⟩
instance one_142 : OneT Tryd.prog 142 := ⟨Tryd.isAgg142, Tryd.sizeOf142⟩
instance zero_142 : ZeroT Tryd.prog 142 .nilFunc := ⟨Tryd.zeroValue142⟩
instance one_144 : OneT Tryd.prog 144 := ⟨Tryd.isAgg144, Tryd.sizeOf144⟩
instance zero_144 : ZeroT Tryd.prog 144 .nilFunc := ⟨Tryd.zeroValue144⟩
instance one_145 : OneT Tryd.prog 145 := ⟨Tryd.isAgg145, Tryd.sizeOf145⟩
instance zero_145 : ZeroT Tryd.prog 145 .nilFunc := ⟨Tryd.zeroValue145⟩
instance one_146 : OneT Tryd.prog 146 := ⟨Tryd.isAgg146, Tryd.sizeOf146⟩
instance zero_146 : ZeroT Tryd.prog 146 .nilFunc := ⟨Tryd.zeroValue146⟩
instance agg_147 : AggT Tryd.prog 147 256 := ⟨Tryd.isAgg147, Tryd.sizeOf147⟩
instance arr_147 : ArrT Tryd.prog 147 256 5 1 := ⟨Tryd.runUnderlying147, Tryd.sizeOf5⟩
instance one_148 : OneT Tryd.prog 148 := ⟨Tryd.isAgg148, Tryd.sizeOf148⟩
instance zero_148 : ZeroT Tryd.prog 148 (.int .u64 0) := ⟨Tryd.zeroValue148⟩
instance int_148 : IntT Tryd.prog 148 .u64 := ⟨Tryd.runUnderlying148⟩
instance zero_149 : ZeroT Tryd.prog 149 (.agg #[(.int .u8 0), (.int .u8 0)]) := ⟨Tryd.zeroValue149⟩
instance agg_149 : AggT Tryd.prog 149 2 := ⟨Tryd.isAgg149, Tryd.sizeOf149⟩
instance fld_149_0 : FldT Tryd.prog 149 0 0 := fld Tryd.runUnderlying149 (ft := 5) (by kernel_rfl) Tryd.sizeOf5
instance fld_149_1 : FldT Tryd.prog 149 1 1 := fld Tryd.runUnderlying149 (ft := 5) (by kernel_rfl) Tryd.sizeOf5
instance zero_150 : ZeroT Tryd.prog 150 (.agg #[(.int .u8 0), (.int .u8 0)]) := ⟨Tryd.zeroValue150⟩
instance agg_150 : AggT Tryd.prog 150 2 := ⟨Tryd.isAgg150, Tryd.sizeOf150⟩
instance fld_150_0 : FldT Tryd.prog 150 0 0 := fld Tryd.runUnderlying150 (ft := 5) (by kernel_rfl) Tryd.sizeOf5
instance fld_150_1 : FldT Tryd.prog 150 1 1 := fld Tryd.runUnderlying150 (ft := 5) (by kernel_rfl) Tryd.sizeOf5
instance zero_151 : ZeroT Tryd.prog 151 (.agg #[(.int .u8 0), (.int .u8 0), (.int .u8 0), (.int .u8 0), (.int .u8 0), (.int .u8 0), (.int .u8 0), (.int .u8 0), (.int .u8 0), (.int .u8 0), (.int .u8 0), (.int .u8 0), (.int .u8 0), (.int .u8 0), (.int .u8 0), (.int .u8 0), (.int .u8 0), (.int .u8 0), (.int .u8 0), (.int .u8 0), (.int .u8 0), (.int .u8 0), (.int .u8 0), (.int .u8 0), (.int .u8 0), (.int .u8 0), (.int .u8 0), (.int .u8 0), (.int .u8 0), (.int .u8 0), (.int .u8 0), (.int .u8 0)]) := ⟨Tryd.zeroValue151⟩
instance agg_151 : AggT Tryd.prog 151 32 := ⟨Tryd.isAgg151, Tryd.sizeOf151⟩
instance arr_151 : ArrT Tryd.prog 151 16 150 2 := ⟨Tryd.runUnderlying151, Tryd.sizeOf150⟩
instance one_152 : OneT Tryd.prog 152 := ⟨Tryd.isAgg152, Tryd.sizeOf152⟩
instance zero_152 : ZeroT Tryd.prog 152 .nilFunc := ⟨Tryd.zeroValue152⟩
instance one_153 : OneT Tryd.prog 153 := ⟨Tryd.isAgg153, Tryd.sizeOf153⟩
instance zero_153 : ZeroT Tryd.prog 153 .nilFunc := ⟨Tryd.zeroValue153⟩
instance zero_154 : ZeroT Tryd.prog 154 (.agg #[(.pointer none), (.pointer none), (.pointer none), (.string ⟨#[]⟩)]) := ⟨Tryd.zeroValue154⟩
instance agg_154 : AggT Tryd.prog 154 4 := ⟨Tryd.isAgg154, Tryd.sizeOf154⟩
instance fld_154_0 : FldT Tryd.prog 154 0 0 := fld Tryd.runUnderlying154 (ft := 17) (by kernel_rfl) Tryd.sizeOf17
instance fld_154_1 : FldT Tryd.prog 154 1 1 := fld Tryd.runUnderlying154 (ft := 17) (by kernel_rfl) Tryd.sizeOf17
instance fld_154_2 : FldT Tryd.prog 154 2 2 := fld Tryd.runUnderlying154 (ft := 17) (by kernel_rfl) Tryd.sizeOf17
instance fld_154_3 : FldT Tryd.prog 154 3 3 := fld Tryd.runUnderlying154 (ft := 9) (by kernel_rfl) Tryd.sizeOf9
instance zero_155 : ZeroT Tryd.prog 155 (.agg #[(.pointer none), (.pointer none), (.pointer none), (.string ⟨#[]⟩)]) := ⟨Tryd.zeroValue155⟩
instance agg_155 : AggT Tryd.prog 155 4 := ⟨Tryd.isAgg155, Tryd.sizeOf155⟩
instance fld_155_0 : FldT Tryd.prog 155 0 0 := fld Tryd.runUnderlying155 (ft := 17) (by kernel_rfl) Tryd.sizeOf17
instance fld_155_1 : FldT Tryd.prog 155 1 1 := fld Tryd.runUnderlying155 (ft := 17) (by kernel_rfl) Tryd.sizeOf17
instance fld_155_2 : FldT Tryd.prog 155 2 2 := fld Tryd.runUnderlying155 (ft := 17) (by kernel_rfl) Tryd.sizeOf17
instance fld_155_3 : FldT Tryd.prog 155 3 3 := fld Tryd.runUnderlying155 (ft := 9) (by kernel_rfl) Tryd.sizeOf9
instance zero_156 : ZeroT Tryd.prog 156 (.agg #[]) := ⟨Tryd.zeroValue156⟩
instance agg_156 : AggT Tryd.prog 156 0 := ⟨Tryd.isAgg156, Tryd.sizeOf156⟩
instance arr_156 : ArrT Tryd.prog 156 0 16 1 := ⟨Tryd.runUnderlying156, Tryd.sizeOf16⟩
instance zero_157 : ZeroT Tryd.prog 157 (.agg #[]) := ⟨Tryd.zeroValue157⟩
instance agg_157 : AggT Tryd.prog 157 0 := ⟨Tryd.isAgg157, Tryd.sizeOf157⟩
instance zero_158 : ZeroT Tryd.prog 158 (.agg #[]) := ⟨Tryd.zeroValue158⟩
instance agg_158 : AggT Tryd.prog 158 0 := ⟨Tryd.isAgg158, Tryd.sizeOf158⟩
instance one_159 : OneT Tryd.prog 159 := ⟨Tryd.isAgg159, Tryd.sizeOf159⟩
instance zero_159 : ZeroT Tryd.prog 159 (.int .u32 0) := ⟨Tryd.zeroValue159⟩
instance int_159 : IntT Tryd.prog 159 .u32 := ⟨Tryd.runUnderlying159⟩
instance one_160 : OneT Tryd.prog 160 := ⟨Tryd.isAgg160, Tryd.sizeOf160⟩
instance zero_160 : ZeroT Tryd.prog 160 (.int .u8 0) := ⟨Tryd.zeroValue160⟩
instance int_160 : IntT Tryd.prog 160 .u8 := ⟨Tryd.runUnderlying160⟩
instance one_161 : OneT Tryd.prog 161 := ⟨Tryd.isAgg161, Tryd.sizeOf161⟩
instance zero_161 : ZeroT Tryd.prog 161 (.int .u8 0) := ⟨Tryd.zeroValue161⟩
instance int_161 : IntT Tryd.prog 161 .u8 := ⟨Tryd.runUnderlying161⟩
instance one_162 : OneT Tryd.prog 162 := ⟨Tryd.isAgg162, Tryd.sizeOf162⟩
instance zero_162 : ZeroT Tryd.prog 162 .nilFunc := ⟨Tryd.zeroValue162⟩
instance one_163 : OneT Tryd.prog 163 := ⟨Tryd.isAgg163, Tryd.sizeOf163⟩
instance zero_163 : ZeroT Tryd.prog 163 (.int .i32 0) := ⟨Tryd.zeroValue163⟩
instance int_163 : IntT Tryd.prog 163 .i32 := ⟨Tryd.runUnderlying163⟩
instance one_164 : OneT Tryd.prog 164 := ⟨Tryd.isAgg164, Tryd.sizeOf164⟩
instance zero_164 : ZeroT Tryd.prog 164 (.int .i32 0) := ⟨Tryd.zeroValue164⟩
instance int_164 : IntT Tryd.prog 164 .i32 := ⟨Tryd.runUnderlying164⟩
instance zero_165 : ZeroT Tryd.prog 165 (.agg #[(.int .u64 0), (.int .u64 0), (.int .u32 0), (.int .u8 0), (.int .u8 0), (.int .u8 0), (.int .u8 0), .nilFunc, (.pointer none), (.int .i32 0), (.int .i32 0)]) := ⟨Tryd.zeroValue165⟩
instance agg_165 : AggT Tryd.prog 165 11 := ⟨Tryd.isAgg165, Tryd.sizeOf165⟩
instance fld_165_0 : FldT Tryd.prog 165 0 0 := fld Tryd.runUnderlying165 (ft := 12) (by kernel_rfl) Tryd.sizeOf12
instance fld_165_1 : FldT Tryd.prog 165 1 1 := fld Tryd.runUnderlying165 (ft := 12) (by kernel_rfl) Tryd.sizeOf12
instance fld_165_2 : FldT Tryd.prog 165 2 2 := fld Tryd.runUnderlying165 (ft := 159) (by kernel_rfl) Tryd.sizeOf159
instance fld_165_3 : FldT Tryd.prog 165 3 3 := fld Tryd.runUnderlying165 (ft := 160) (by kernel_rfl) Tryd.sizeOf160
instance fld_165_4 : FldT Tryd.prog 165 4 4 := fld Tryd.runUnderlying165 (ft := 5) (by kernel_rfl) Tryd.sizeOf5
instance fld_165_5 : FldT Tryd.prog 165 5 5 := fld Tryd.runUnderlying165 (ft := 5) (by kernel_rfl) Tryd.sizeOf5
instance fld_165_6 : FldT Tryd.prog 165 6 6 := fld Tryd.runUnderlying165 (ft := 161) (by kernel_rfl) Tryd.sizeOf161
instance fld_165_7 : FldT Tryd.prog 165 7 7 := fld Tryd.runUnderlying165 (ft := 162) (by kernel_rfl) Tryd.sizeOf162
instance fld_165_8 : FldT Tryd.prog 165 8 8 := fld Tryd.runUnderlying165 (ft := 120) (by kernel_rfl) Tryd.sizeOf120
instance fld_165_9 : FldT Tryd.prog 165 9 9 := fld Tryd.runUnderlying165 (ft := 163) (by kernel_rfl) Tryd.sizeOf163
instance fld_165_10 : FldT Tryd.prog 165 10 10 := fld Tryd.runUnderlying165 (ft := 164) (by kernel_rfl) Tryd.sizeOf164
instance zero_166 : ZeroT Tryd.prog 166 (.agg #[(.int .u64 0), (.int .u64 0), (.int .u32 0), (.int .u8 0), (.int .u8 0), (.int .u8 0), (.int .u8 0), .nilFunc, (.pointer none), (.int .i32 0), (.int .i32 0)]) := ⟨Tryd.zeroValue166⟩
instance agg_166 : AggT Tryd.prog 166 11 := ⟨Tryd.isAgg166, Tryd.sizeOf166⟩
instance fld_166_0 : FldT Tryd.prog 166 0 0 := fld Tryd.runUnderlying166 (ft := 12) (by kernel_rfl) Tryd.sizeOf12
instance fld_166_1 : FldT Tryd.prog 166 1 1 := fld Tryd.runUnderlying166 (ft := 12) (by kernel_rfl) Tryd.sizeOf12
instance fld_166_2 : FldT Tryd.prog 166 2 2 := fld Tryd.runUnderlying166 (ft := 159) (by kernel_rfl) Tryd.sizeOf159
instance fld_166_3 : FldT Tryd.prog 166 3 3 := fld Tryd.runUnderlying166 (ft := 160) (by kernel_rfl) Tryd.sizeOf160
instance fld_166_4 : FldT Tryd.prog 166 4 4 := fld Tryd.runUnderlying166 (ft := 5) (by kernel_rfl) Tryd.sizeOf5
instance fld_166_5 : FldT Tryd.prog 166 5 5 := fld Tryd.runUnderlying166 (ft := 5) (by kernel_rfl) Tryd.sizeOf5
instance fld_166_6 : FldT Tryd.prog 166 6 6 := fld Tryd.runUnderlying166 (ft := 161) (by kernel_rfl) Tryd.sizeOf161
instance fld_166_7 : FldT Tryd.prog 166 7 7 := fld Tryd.runUnderlying166 (ft := 162) (by kernel_rfl) Tryd.sizeOf162
instance fld_166_8 : FldT Tryd.prog 166 8 8 := fld Tryd.runUnderlying166 (ft := 120) (by kernel_rfl) Tryd.sizeOf120
instance fld_166_9 : FldT Tryd.prog 166 9 9 := fld Tryd.runUnderlying166 (ft := 163) (by kernel_rfl) Tryd.sizeOf163
instance fld_166_10 : FldT Tryd.prog 166 10 10 := fld Tryd.runUnderlying166 (ft := 164) (by kernel_rfl) Tryd.sizeOf164
instance bld_37_0_1 {a0 a1 : Value} [h0 : OC a0] [h1 : OC a1] : RV Tryd.prog (sBuild 37 [(0, a0), (1, a1)]) (.agg #[a0, a1]) := ⟨fun W w _ => by
  have c0 := cells_one h0.one; have c1 := cells_one h1.one; simp [sBuild, Instr.build, Tryd.zeroValue37, Tryd.runUnderlying37, Tryd.sizeOf9, cells_agg, Instr.fill, c0, c1]⟩
instance bld_30_0_1 {a0 a1 : Value} [h0 : OC a0] [h1 : OC a1] : RV Tryd.prog (sBuild 30 [(0, a0), (1, a1)]) (.agg #[a0, a1]) := ⟨fun W w _ => by
  have c0 := cells_one h0.one; have c1 := cells_one h1.one; simp [sBuild, Instr.build, Tryd.zeroValue30, Tryd.runUnderlying30, Tryd.sizeOf4, Tryd.sizeOf9, cells_agg, Instr.fill, c0, c1]⟩
instance bld_30_1 {a0 : Value} [h0 : OC a0] : RV Tryd.prog (sBuild 30 [(1, a0)]) (.agg #[(.bool false), a0]) := ⟨fun W w _ => by
  have c0 := cells_one h0.one; simp [sBuild, Instr.build, Tryd.zeroValue30, Tryd.runUnderlying30, Tryd.sizeOf4, Tryd.sizeOf9, cells_agg, Instr.fill, c0]⟩
instance bld_50_0_1_2_3 {a0 a1 a2_0 a2_1 a2_2 a2_3 a3 : Value} [h0 : OC a0] [h1 : OC a1] [h3 : OC a3] : RV Tryd.prog (sBuild 50 [(0, a0), (1, a1), (2, .agg #[a2_0, a2_1, a2_2, a2_3]), (3, a3)]) (.agg #[a0, a1, a2_0, a2_1, a2_2, a2_3, a3]) := ⟨fun W w _ => by
  have c0 := cells_one h0.one; have c1 := cells_one h1.one; have c3 := cells_one h3.one; simp [sBuild, Instr.build, Tryd.zeroValue50, Tryd.runUnderlying50, Tryd.sizeOf3, Tryd.sizeOf4, Tryd.sizeOf22, Tryd.sizeOf32, cells_agg, Instr.fill, c0, c1, c3]⟩
instance bld_57_0_1 {a0 a1 : Value} [h0 : OC a0] [h1 : OC a1] : RV Tryd.prog (sBuild 57 [(0, a0), (1, a1)]) (.agg #[a0, a1]) := ⟨fun W w _ => by
  have c0 := cells_one h0.one; have c1 := cells_one h1.one; simp [sBuild, Instr.build, Tryd.zeroValue57, Tryd.runUnderlying57, Tryd.sizeOf56, cells_agg, Instr.fill, c0, c1]⟩
instance bld_32_0_1_2 {a0_0 a0_1 a1 a2 : Value} [h1 : OC a1] [h2 : OC a2] : RV Tryd.prog (sBuild 32 [(0, .agg #[a0_0, a0_1]), (1, a1), (2, a2)]) (.agg #[a0_0, a0_1, a1, a2]) := ⟨fun W w _ => by
  have c1 := cells_one h1.one; have c2 := cells_one h2.one; simp [sBuild, Instr.build, Tryd.zeroValue32, Tryd.runUnderlying32, Tryd.sizeOf3, Tryd.sizeOf4, Tryd.sizeOf30, cells_agg, Instr.fill, c1, c2]⟩
instance bld_32_0_2 {a0_0 a0_1 a1 : Value} [h1 : OC a1] : RV Tryd.prog (sBuild 32 [(0, .agg #[a0_0, a0_1]), (2, a1)]) (.agg #[a0_0, a0_1, (.int .i64 0), a1]) := ⟨fun W w _ => by
  have c1 := cells_one h1.one; simp [sBuild, Instr.build, Tryd.zeroValue32, Tryd.runUnderlying32, Tryd.sizeOf3, Tryd.sizeOf4, Tryd.sizeOf30, cells_agg, Instr.fill, c1]⟩
instance bld_67_0_1 {a0 a1 : Value} [h0 : OC a0] [h1 : OC a1] : RV Tryd.prog (sBuild 67 [(0, a0), (1, a1)]) (.agg #[a0, a1]) := ⟨fun W w _ => by
  have c0 := cells_one h0.one; have c1 := cells_one h1.one; simp [sBuild, Instr.build, Tryd.zeroValue67, Tryd.runUnderlying67, Tryd.sizeOf3, Tryd.sizeOf53, cells_agg, Instr.fill, c0, c1]⟩
instance bld_59_  : RV Tryd.prog (sBuild 59 []) (.agg #[(.int .i64 0), (.int .i64 0), (.int .i64 0), (.int .i64 0), (.int .i64 0), (.int .i64 0), (.int .i64 0)]) := ⟨fun W w _ => by
   simp [sBuild, Instr.build, Tryd.zeroValue59, Tryd.runUnderlying59, Tryd.sizeOf3, cells_agg, Instr.fill]⟩
instance bld_59_0_1_3_4_5 {a0 a1 a2 a3 a4 : Value} [h0 : OC a0] [h1 : OC a1] [h2 : OC a2] [h3 : OC a3] [h4 : OC a4] : RV Tryd.prog (sBuild 59 [(0, a0), (1, a1), (3, a2), (4, a3), (5, a4)]) (.agg #[a0, a1, (.int .i64 0), a2, a3, a4, (.int .i64 0)]) := ⟨fun W w _ => by
  have c0 := cells_one h0.one; have c1 := cells_one h1.one; have c2 := cells_one h2.one; have c3 := cells_one h3.one; have c4 := cells_one h4.one; simp [sBuild, Instr.build, Tryd.zeroValue59, Tryd.runUnderlying59, Tryd.sizeOf3, cells_agg, Instr.fill, c0, c1, c2, c3, c4]⟩
instance bld_30_  : RV Tryd.prog (sBuild 30 []) (.agg #[(.bool false), (.string ⟨#[]⟩)]) := ⟨fun W w _ => by
   simp [sBuild, Instr.build, Tryd.zeroValue30, Tryd.runUnderlying30, Tryd.sizeOf4, Tryd.sizeOf9, cells_agg, Instr.fill]⟩
instance bld_89_0_1_2 {a0 a1 a2 : Value} [h0 : OC a0] [h1 : OC a1] [h2 : OC a2] : RV Tryd.prog (sBuild 89 [(0, a0), (1, a1), (2, a2)]) (.agg #[a0, a1, a2]) := ⟨fun W w _ => by
  have c0 := cells_one h0.one; have c1 := cells_one h1.one; have c2 := cells_one h2.one; simp [sBuild, Instr.build, Tryd.zeroValue89, Tryd.runUnderlying89, Tryd.sizeOf86, cells_agg, Instr.fill, c0, c1, c2]⟩
instance bld_95_0_2 {a0 a1 : Value} [h0 : OC a0] [h1 : OC a1] : RV Tryd.prog (sBuild 95 [(0, a0), (2, a1)]) (.agg #[a0, (.bool false), a1]) := ⟨fun W w _ => by
  have c0 := cells_one h0.one; have c1 := cells_one h1.one; simp [sBuild, Instr.build, Tryd.zeroValue95, Tryd.runUnderlying95, Tryd.sizeOf4, Tryd.sizeOf85, cells_agg, Instr.fill, c0, c1]⟩
instance bld_112_0 {a0 : Value} [h0 : OC a0] : RV Tryd.prog (sBuild 112 [(0, a0)]) (.agg #[a0]) := ⟨fun W w _ => by
  have c0 := cells_one h0.one; simp [sBuild, Instr.build, Tryd.zeroValue112, Tryd.runUnderlying112, Tryd.sizeOf9, cells_agg, Instr.fill, c0]⟩
instance bld_107_  : RV Tryd.prog (sBuild 107 []) (.agg #[(.int .i64 0), (.int .i64 0), (.int .i64 0), (.int .i64 0), (.int .i64 0), (.int .i64 0), (.int .i64 0)]) := ⟨fun W w _ => by
   simp [sBuild, Instr.build, Tryd.zeroValue107, Tryd.runUnderlying107, Tryd.sizeOf3, cells_agg, Instr.fill]⟩
instance bld_107_6_3_4_5 {a0 a1 a2 a3 : Value} [h0 : OC a0] [h1 : OC a1] [h2 : OC a2] [h3 : OC a3] : RV Tryd.prog (sBuild 107 [(6, a0), (3, a1), (4, a2), (5, a3)]) (.agg #[(.int .i64 0), (.int .i64 0), (.int .i64 0), a1, a2, a3, a0]) := ⟨fun W w _ => by
  have c0 := cells_one h0.one; have c1 := cells_one h1.one; have c2 := cells_one h2.one; have c3 := cells_one h3.one; simp [sBuild, Instr.build, Tryd.zeroValue107, Tryd.runUnderlying107, Tryd.sizeOf3, cells_agg, Instr.fill, c0, c1, c2, c3]⟩
instance bld_121_0_1_2_3_4_5_6_7_8_9_10_11 {a0 a1 a2 a3 a4 a5 a6 a7 a8 a9 a10 a11 : Value} [h0 : OC a0] [h1 : OC a1] [h2 : OC a2] [h3 : OC a3] [h4 : OC a4] [h5 : OC a5] [h6 : OC a6] [h7 : OC a7] [h8 : OC a8] [h9 : OC a9] [h10 : OC a10] [h11 : OC a11] : RV Tryd.prog (sBuild 121 [(0, a0), (1, a1), (2, a2), (3, a3), (4, a4), (5, a5), (6, a6), (7, a7), (8, a8), (9, a9), (10, a10), (11, a11)]) (.agg #[a0, a1, a2, a3, a4, a5, a6, a7, a8, a9, a10, a11]) := ⟨fun W w _ => by
  have c0 := cells_one h0.one; have c1 := cells_one h1.one; have c2 := cells_one h2.one; have c3 := cells_one h3.one; have c4 := cells_one h4.one; have c5 := cells_one h5.one; have c6 := cells_one h6.one; have c7 := cells_one h7.one; have c8 := cells_one h8.one; have c9 := cells_one h9.one; have c10 := cells_one h10.one; have c11 := cells_one h11.one; simp [sBuild, Instr.build, Tryd.zeroValue121, Tryd.runUnderlying121, Tryd.sizeOf9, cells_agg, Instr.fill, c0, c1, c2, c3, c4, c5, c6, c7, c8, c9, c10, c11]⟩
instance bld_127_0_1_2_3_4_5_6 {a0 a1 a2 a3 a4 a5 a6 : Value} [h0 : OC a0] [h1 : OC a1] [h2 : OC a2] [h3 : OC a3] [h4 : OC a4] [h5 : OC a5] [h6 : OC a6] : RV Tryd.prog (sBuild 127 [(0, a0), (1, a1), (2, a2), (3, a3), (4, a4), (5, a5), (6, a6)]) (.agg #[a0, a1, a2, a3, a4, a5, a6]) := ⟨fun W w _ => by
  have c0 := cells_one h0.one; have c1 := cells_one h1.one; have c2 := cells_one h2.one; have c3 := cells_one h3.one; have c4 := cells_one h4.one; have c5 := cells_one h5.one; have c6 := cells_one h6.one; simp [sBuild, Instr.build, Tryd.zeroValue127, Tryd.runUnderlying127, Tryd.sizeOf9, cells_agg, Instr.fill, c0, c1, c2, c3, c4, c5, c6]⟩
instance bld_150_0_1 {a0 a1 : Value} [h0 : OC a0] [h1 : OC a1] : RV Tryd.prog (sBuild 150 [(0, a0), (1, a1)]) (.agg #[a0, a1]) := ⟨fun W w _ => by
  have c0 := cells_one h0.one; have c1 := cells_one h1.one; simp [sBuild, Instr.build, Tryd.zeroValue150, Tryd.runUnderlying150, Tryd.sizeOf5, cells_agg, Instr.fill, c0, c1]⟩
instance bld_151_0_1_2_3_4 {a0_0 a0_1 a1_0 a1_1 a2_0 a2_1 a3_0 a3_1 a4_0 a4_1 : Value}  : RV Tryd.prog (sBuild 151 [(0, .agg #[a0_0, a0_1]), (1, .agg #[a1_0, a1_1]), (2, .agg #[a2_0, a2_1]), (3, .agg #[a3_0, a3_1]), (4, .agg #[a4_0, a4_1])]) (.agg #[a0_0, a0_1, a1_0, a1_1, a2_0, a2_1, a3_0, a3_1, a4_0, a4_1, (.int .u8 0), (.int .u8 0), (.int .u8 0), (.int .u8 0), (.int .u8 0), (.int .u8 0), (.int .u8 0), (.int .u8 0), (.int .u8 0), (.int .u8 0), (.int .u8 0), (.int .u8 0), (.int .u8 0), (.int .u8 0), (.int .u8 0), (.int .u8 0), (.int .u8 0), (.int .u8 0), (.int .u8 0), (.int .u8 0), (.int .u8 0), (.int .u8 0)]) := ⟨fun W w _ => by
   simp [sBuild, Instr.build, Tryd.zeroValue151, Tryd.runUnderlying151, Tryd.sizeOf150, cells_agg, Instr.fill]⟩
end Go.Proofs.YtcmpkkkigmheoaaDoor.T
/-! Slices that are made: of parts, of zeros. No conditions but those that each names. -/
namespace Go.Proofs.YtcmpkkkigmheoaaDoor.Sl
open Go Go.Proofs.YtcmpkkkigmheoaaDoor.Sh
variable {P : Program} {W : World} {L L' : List HP} {Kp : PK} {k : Value → WP}
theorem fill_run : ∀ (vs pre zs : List Value), zs.length = vs.length → (∀ v ∈ vs, v.cells = #[v]) →
    Instr.fill (fun i => some (i * 1, 1)) (pre ++ zs).toArray ((vs.zipIdx pre.length).map fun x => (x.2, x.1)) = some (pre ++ vs).toArray
  | [], pre, zs, hz, _ => by
    have : zs = [] := List.eq_nil_of_length_eq_zero (by simpa using hz)
    subst this; simp [Instr.fill]
  | v :: vs, pre, [], hz, _ => by simp at hz
  | v :: vs, pre, z :: zs, hz, ho => by
    have hv := ho v (by simp)
    have ih := fill_run vs (pre ++ [v]) zs (by simpa using hz) (fun u hu => ho u (by simp [hu]))
    simp only [List.zipIdx_cons, List.map_cons, Instr.fill, hv]
    rw [if_neg (by simp)]
    have h2 : Array.foldl (fun cs (x : Value × Nat) => cs.setIfInBounds (pre.length * 1 + x.2) x.1) (pre ++ z :: zs).toArray (#[v] : Array Value).zipIdx = (pre ++ [v] ++ zs).toArray := by
      simp
    have h3 : (pre ++ [v]).length = pre.length + 1 := by simp
    rw [h3] at ih
    rw [h2, ih]; simp
theorem e_bslN {t e : TypeId} {b n : Nat} {parts : List (Nat × Value)} {vs : List Value} [ht : SlT P t e 1 b] (hn : vs.length = n) (hp : parts = vs.zipIdx.map fun x => (x.2, x.1)) (ho : ∀ v ∈ vs, v.cells = #[v]) (hm : n ≤ 16777216)
    (h : ∀ g, Ent W (pt g (.cells vs.toArray e) :: L) (k (.slice (some ⟨g, 0, none⟩) n n))) : Ent W L (opN P (sBuildSl t n parts) Kp k) := fun w hw => by
  refine ⟨?_⟩
  obtain ⟨i, z, hi, hz, hs, hb, hzs⟩ := ht.info
  have : (sBuildSl t n parts).run P w = .ok (.value (.slice (some ⟨w.heap.size, 0, none⟩) n n)) (w.alloc (.cells vs.toArray e)) := by
    have hm' : ¬ (2 ^ 24 < n) := by omega
    have hf : ∀ zs : List Value, zs.length = vs.length → Instr.fill (fun i => some (i * 1, 1)) zs.toArray parts = some vs.toArray := fun zs hz => by
      have := fill_run vs [] zs hz ho
      simpa [hp] using this
    by_cases h0 : n = 0
    · have : vs = [] := List.eq_nil_of_length_eq_zero (by omega)
      subst this; subst h0
      simp [sBuildSl, Instr.buildSlice, run_underlying ht.ut, sizeOf_run hi, hs, hp, newRow, Instr.fill]
      have e0 : (Array.range 0).map (fun _ => (default : Value)) = #[] := Array.eq_empty_of_size_eq_zero (by simp)
      rw [e0]
    · have hf' := hf ((List.range n).map fun j => z.cells[j % z.cells.size]!) (by simp [hn])
      have e1 : ((Array.range n).map fun j => z.cells[j % z.cells.size]!) = ((List.range n).map fun j => z.cells[j % z.cells.size]!).toArray := by
        apply Array.ext'
        simp [Array.toList_range]
      rw [← e1] at hf'
      simp only [Nat.mul_one] at hf'
      simp [sBuildSl, Instr.buildSlice, run_underlying ht.ut, sizeOf_run hi, hs, h0, hm', zeroValue, typeInfo, hi, hz, newRow, hf']
  rw [this]
  exact h _ _ (hw.alloc _)
theorem e_mksl {t e : TypeId} {b : Nat} {z : Value} {q r : IntKind} {l c : Int} (n m : Nat) [ht : SlT P t e 1 b] [hz : ZeroT P e z] [hc : OC z] (hl : l = (n : Int)) (hcm : c = (m : Int)) (h1 : n ≤ m) (h2 : b * m ≤ 281474976710656) (h3 : m ≤ maxLen)
    (h : ∀ g, Ent W (Sl 1 e (some ⟨g, 0, none⟩) m n (List.replicate n z) :: L) (k (.slice (some ⟨g, 0, none⟩) n m))) : Ent W L (opN P (sMkSl t (.int q l) (.int r c)) Kp k) := fun w hw => by
  refine ⟨?_⟩
  obtain ⟨i, z', hi, hz', hs, hb, hzs⟩ := ht.info
  have e0 : z' = z := by
    have := hz.run w
    simp [zeroValue, typeInfo, hi, hz'] at this
    exact this
  subst e0
  subst hl; subst hcm
  have hcz : z'.cells = #[z'] := cells_one hc.one
  have hbm : (i.bytes : Int) * (m : Int) ≤ 281474976710656 := by
    rw [hb]
    obtain ⟨X, hX⟩ : ∃ X, X = b * m := ⟨_, rfl⟩
    have h4 : (X : Int) ≤ 281474976710656 := by omega
    rw [hX, Int.natCast_mul] at h4
    exact h4
  have hr := run_make (P := P) (w := w) t e i z' ht.ut hi hz' q r n m (by omega) (by omega) hbm (by unfold maxLen at h3; omega)
  simp only [Int.toNat_natCast, hs, Nat.mul_one] at hr
  have e1 : madeCells z'.cells m = (List.replicate n z' ++ List.replicate (m - n) z').toArray := by
    rw [hcz, List.replicate_append_replicate]
    apply Array.ext'
    simp [madeCells, Array.toList_range, Nat.mod_one]
    rw [show n + (m - n) = m by omega]
    apply List.ext_getElem <;> simp
  have : (sMkSl t (.int q n) (.int r m)).run P w = .ok (.value (.slice (some ⟨w.heap.size, 0, none⟩) n m)) (w.alloc (.cells (List.replicate n z' ++ List.replicate (m - n) z').toArray e)) := by
    simp [sMkSl, hr, e1]
  rw [this]
  refine h _ _ ?_
  have := hw.alloc (.cells (List.replicate n z' ++ List.replicate (m - n) z').toArray e)
  refine Imp.sat (L := pt w.heap.size (.cells (List.replicate n z' ++ List.replicate (m - n) z').toArray e) :: L) ?_ this
  exact .conv (B := pt w.heap.size (.cells (List.replicate n z' ++ List.replicate (m - n) z').toArray e)) (fun f hf => ⟨by simp, h1, h3, .inr ⟨_, List.replicate (m - n) z', rfl, by simp, hf⟩⟩) (.pick .here .refl)
end Go.Proofs.YtcmpkkkigmheoaaDoor.Sl
/-! What came in: slices of what is read, as lists of what it means. Conditions: what each names. -/
namespace Go.Proofs.YtcmpkkkigmheoaaDoor.Sl
open Go Go.RowKit Go.Proofs.YtcmpkkkigmheoaaDoor.Sh
variable {P : Program} {W : World} {L L' : List HP} {Kp : PK} {k : Value → WP} {H : Type} {enc : TypeId × Value → H}
theorem spot_none {w : World} {a : Addr} {v : Value} (h : w.cell? a = some v) : a.spot = none ∧ a.block < w.heap.size := by
  unfold World.cell? at h
  split at h
  · rename_i c _ _ e
    refine ⟨?_, (Array.getElem?_eq_some_iff.1 e).1⟩
    cases hs : a.spot with
    | none => rfl
    | some x => rw [hs] at h; simp at h
  · cases h
/-- the n elements (s cells each) from address a on mean xs, in the world where all began -/
structure Old {α : Type} (W : World) (s : Nat) (rd : α → List Value → Prop) (a : Option Addr) (n : Nat) (xs : List α) : Prop where
  len : xs.length = n
  at_ : 0 < n → ∃ g o, a = some ⟨g, o, none⟩ ∧ g < W.heap.size ∧ ∀ (i : Nat) (h : i < xs.length), ∃ cs : List Value, cs.length = s ∧ rd xs[i] cs ∧ ∀ (j : Nat) (v : Value), cs[j]? = some v → W.cell? ⟨g, o + (i * s + j), none⟩ = some v
theorem v_ldOld {t : TypeId} {g o : Nat} {v : Value} [ht : OneT P t] (hg : g < W.heap.size) (hv : W.cell? ⟨g, o, none⟩ = some v) : RunV P W [] (sLoad t (.pointer (some ⟨g, o, none⟩))) v := by
  have H : RdB W (pu True) (some ⟨g, o, none⟩) 1 [v] := rd_old rfl hg (fun j u hu => by
    match j, hu with
    | 0, hu => simp at hu; subst hu; exact hv)
  have := v_ldRd (P := P) (t := t) (j := 0) H rfl
  exact fun w hw => this w (Imp.sat (.pu trivial .refl) hw)
theorem choose_list {α : Type} {n : Nat} {R : Nat → α → Prop} (h : ∀ i, i < n → ∃ a, R i a) : ∃ xs : List α, xs.length = n ∧ ∀ (i : Nat) (hi : i < xs.length), R i xs[i] := by
  induction n with
  | zero => exact ⟨[], rfl, fun i hi => by simp at hi⟩
  | succ n ih =>
    obtain ⟨xs, h1, h2⟩ := ih fun i hi => h i (by omega)
    obtain ⟨a, ha⟩ := h n (by omega)
    refine ⟨xs ++ [a], by simp [h1], fun i hi => ?_⟩
    by_cases c : i < xs.length
    · rw [List.getElem_append_left c]; exact h2 i c
    · have : i = n := by simp at hi; omega
      subst this
      rw [List.getElem_append_right (by omega)]
      simpa [h1] using ha
theorem bulk_cons (d : DataW H) (r : List (DataW H)) : Rows.uptoBulkAll (d :: r) = Rows.uptoBulk d + Rows.uptoBulkAll r := by simp [Rows.uptoBulkAll]
theorem bulk_sum {α : Type} {m : α → Nat} : ∀ (xs : List α) (ds : List (DataW H)), xs.length = ds.length → (∀ (i : Nat) (h1 : i < xs.length) (h2 : i < ds.length), m xs[i] ≤ Rows.uptoBulk ds[i]) → (xs.map m).sum ≤ Rows.uptoBulkAll ds
  | [], [], _, _ => by simp
  | x :: xs, d :: ds, hl, h => by
    have h0 := h 0 (by simp) (by simp)
    have ih := bulk_sum xs ds (by simpa using hl) (fun i h1 h2 => h (i + 1) (by simp; omega) (by simp; omega))
    rw [bulk_cons, List.map_cons, List.sum_cons]
    simp only [List.getElem_cons_zero] at h0
    omega
theorem open_old {α : Type} {rd : α → List Value → Prop} {m : α → Nat} {t e : TypeId} {s fuel : Nat} {sp : Nat → Bool} {held : Bool} {cs : List Value} {x : DataW H × List MemPlace} (ht : P.underlying t = some (.slice e)) (hc : P.cellsOf e = s) (hs : 0 < s)
    (op : ∀ (n : Nat) (cs : List Value) (x : DataW H × List MemPlace), DataW.trod enc P W 0 sp held n e cs = some x → ∃ a, rd a cs ∧ m a ≤ Rows.uptoBulk x.1) (h : DataW.trod enc P W 0 sp held fuel t cs = some x) :
    ∃ (a : Option Addr) (n cap : Nat) (xs : List α), cs = [.slice a n cap] ∧ n ≤ cap ∧ cap ≤ maxLen ∧ (a = none → n = 0 ∧ cap = 0) ∧ Old W s rd a n xs ∧ (xs.map m).sum + 1 ≤ Rows.uptoBulk x.1 := by
  rcases DataW.trod_slice ht h with ⟨rfl, rfl⟩ | ⟨a, len, cap, elems, rest, n, rfl, rfl, rfl, hb, hl, hm, he, hel, _, _⟩
  · exact ⟨none, 0, 0, [], rfl, Nat.le_refl _, by unfold maxLen; omega, fun _ => ⟨rfl, rfl⟩, ⟨rfl, fun c => by omega⟩, by simp [Rows.uptoBulk]⟩
  · have cell0 : ∀ i, i < len → ∃ ds : List Value, ds.length = s ∧ (∃ y, rd y ds ∧ ∀ h : i < elems.length, m y ≤ Rows.uptoBulk elems[i].1) ∧ ∀ j, j < s → W.cell? ((a.add (i * s)).add j) = ds[j]? := fun i hi => by
      have h1 := hel i hi
      rw [List.getElem?_eq_getElem (by omega), Option.bind_eq_some_iff] at h1
      obtain ⟨ds, h2, h3⟩ := h1
      unfold World.cells? at h2
      rw [if_pos (Nat.zero_le _), hc] at h2
      obtain ⟨y, hy, hm2⟩ := op _ _ _ h3
      exact ⟨ds, by simpa using mapM_some_length h2, ⟨y, hy, fun _ => hm2⟩, fun j hj => mapM_some_get h2 j j (by simp [hj])⟩
    by_cases hz : len = 0
    · subst hz
      exact ⟨some a, 0, cap, [], rfl, hl, hm, (fun c => by cases c), ⟨rfl, fun c => by omega⟩, by simp [Rows.uptoBulk]⟩
    obtain ⟨d0, hd0, _, hg0⟩ := cell0 0 (by omega)
    have h0 := hg0 0 hs
    have ea : (a.add (0 * s)).add 0 = a := by unfold Addr.add; simp
    rw [ea, List.getElem?_eq_getElem (by omega)] at h0
    obtain ⟨s1, s2⟩ := spot_none h0
    obtain ⟨g, o, sp'⟩ := a
    obtain rfl : sp' = none := s1
    have key : ∀ i, i < len → ∃ y : α, (∀ h : i < elems.length, m y ≤ Rows.uptoBulk elems[i].1) ∧ ∃ ds : List Value, ds.length = s ∧ rd y ds ∧ ∀ (j : Nat) (v : Value), ds[j]? = some v → W.cell? ⟨g, o + (i * s + j), none⟩ = some v := fun i hi => by
      obtain ⟨ds, hlen, ⟨y, hy, hyb⟩, hget⟩ := cell0 i hi
      refine ⟨y, hyb, ds, hlen, hy, fun j v hv => ?_⟩
      have hj : j < s := by
        rcases Nat.lt_or_ge j ds.length with c | c
        · omega
        · rw [List.getElem?_eq_none c] at hv; cases hv
      have := hget j hj
      rw [addr_add, addr_add, hv, Nat.add_assoc] at this
      exact this
    obtain ⟨xs, h1, h2⟩ := choose_list key
    refine ⟨some ⟨g, o, none⟩, len, cap, xs, rfl, hl, hm, (fun c => by cases c), ⟨h1, fun hn => ⟨g, o, rfl, s2, fun i hi => (h2 i hi).2⟩⟩, ?_⟩
    have := bulk_sum (m := m) xs (elems.map (·.1)) (by simp; omega) (fun i e1 e2 => by simpa using (h2 i e1).1 (by simpa using e2))
    simp only [Rows.uptoBulk]
    omega
theorem sum_ones {α : Type} : ∀ l : List α, (l.map fun _ => 1).sum = l.length
  | [] => rfl
  | x :: l => by simp [sum_ones l]; omega
def rdU (c : UInt8) (cs : List Value) : Prop := cs = [B c]
theorem Old.bytes {a : Option Addr} {n : Nat} {b : List UInt8} {A : HP} (h : Old W 1 rdU a n b) : RdB W A a n (b.map B) := by
  refine ⟨by rw [List.length_map]; exact h.len, fun hn => ?_⟩
  obtain ⟨g, o, rfl, hg, hc⟩ := h.at_ hn
  refine ⟨g, o, rfl, fun w L hw j v hv => ?_⟩
  rw [List.getElem?_map] at hv
  have hj : j < b.length := by
    rcases Nat.lt_or_ge j b.length with c | c
    · exact c
    · rw [List.getElem?_eq_none c] at hv; cases hv
  obtain ⟨cs, h1, h2, h3⟩ := hc j hj
  rw [h2] at h3
  have := h3 0 (B b[j]) rfl
  rw [List.getElem?_eq_getElem hj] at hv
  have hv' : B b[j] = v := Option.some.inj hv
  rw [hw.base.cell (p := ⟨g, o + j, none⟩) hg, ← hv']
  simpa using this
theorem open_u8 {e : TypeId} {sp : Nat → Bool} {held : Bool} (he : P.underlying e = some (.int .u8)) : ∀ (n : Nat) (cs : List Value) (x : DataW H × List MemPlace), DataW.trod enc P W 0 sp held n e cs = some x → ∃ a, rdU a cs ∧ 1 ≤ Rows.uptoBulk x.1 := fun n cs x h => by
  obtain ⟨m, rfl, rfl, hw⟩ := DataW.trod_int he h
  have hm : 0 ≤ m ∧ m ≤ 255 := by simpa [Lit.wf, IntKind.min, IntKind.max, IntKind.signed, IntKind.bits] using hw
  refine ⟨UInt8.ofNat m.toNat, ?_, by simp [Rows.uptoBulk]⟩
  unfold rdU B
  rw [UInt8.toNat_ofNat', Nat.mod_eq_of_lt (by omega), Int.toNat_of_nonneg hm.1]
theorem open_bytes {t e : TypeId} {fuel : Nat} {sp : Nat → Bool} {held : Bool} {cs : List Value} {x : DataW H × List MemPlace} (ht : P.underlying t = some (.slice e)) (hc : P.cellsOf e = 1) (he : P.underlying e = some (.int .u8)) (h : DataW.trod enc P W 0 sp held fuel t cs = some x) :
    ∃ (a : Option Addr) (cap : Nat) (b : List UInt8), cs = [.slice a b.length cap] ∧ b.length ≤ cap ∧ cap ≤ maxLen ∧ (a = none → b.length = 0) ∧ (∀ A, RdB W A a b.length (b.map B)) ∧ b.length + 1 ≤ Rows.uptoBulk x.1 := by
  obtain ⟨a, n, cap, b, rfl, h1, h2, h3, h4, h5⟩ := open_old (m := fun _ => 1) ht hc (by omega) (open_u8 (enc := enc) he) h
  have hl := h4.len
  subst hl
  exact ⟨a, cap, b, rfl, h1, h2, fun c => (h3 c).1, fun A => h4.bytes, by rwa [sum_ones] at h5⟩
theorem v_ldOldA {t : TypeId} {n g o : Nat} {cs : List Value} [ht : AggT P t n] (hn : cs.length = n) (hg : g < W.heap.size) (hc : ∀ (j : Nat) (v : Value), cs[j]? = some v → W.cell? ⟨g, o + j, none⟩ = some v) : RunV P W [] (sLoad t (.pointer (some ⟨g, o, none⟩))) (.agg cs.toArray) := fun w hw => by
  have h : (loadCells ⟨g, o, none⟩ n).run P w = .ok cs.toArray w := by
    subst hn
    exact run_loadCells_list (P := P) w ⟨g, o, none⟩ cs (fun j v hv => by
      rw [addr_add, hw.base.cell (p := ⟨g, o + j, none⟩) hg]; exact hc j v hv)
  simp [sLoad, Instr.loadAt, Instr.sureAddr, loadVar, ht.agg, ht.size, h]
theorem open_slice {t e : TypeId} {v : Value} {d : DataW H} {ps : List MemPlace} {r : Reach} {b0 : Nat} {sp : Nat → Bool} {held : Bool} (ht : P.underlying t = some (.slice e)) (hval : Value.okWide P W r b0 t v) (hd : DataW.Trod enc P W 0 sp held t v d ps) :
    ∃ fuel, DataW.trod enc P W 0 sp held fuel t [v] = some (d, ps) := by
  obtain ⟨a, n, c, rfl⟩ := WideShapes.okWide_slice ht hval
  obtain ⟨fuel, hf⟩ := hd
  exact ⟨fuel, hf⟩
theorem four {cs : List Value} (h : cs.length = 4) : ∃ a b c d, cs = [a, b, c, d] := by
  match cs, h with
  | [a, b, c, d], _ => exact ⟨a, b, c, d, rfl⟩
end Go.Proofs.YtcmpkkkigmheoaaDoor.Sl
/-! Slices of many-celled elements: made of parts, looked up. No conditions but those that each names. -/
namespace Go.Proofs.YtcmpkkkigmheoaaDoor.Sl
open Go Go.Proofs.YtcmpkkkigmheoaaDoor.Sh
variable {P : Program} {W : World} {L L' : List HP} {Kp : PK} {k : Value → WP}
theorem fold_put (o : Nat) : ∀ (us pre zs : List Value) (m : Nat), pre.length = o + m → us.length ≤ zs.length →
    (us.zipIdx m).foldl (fun (cs : Array Value) (x : Value × Nat) => cs.setIfInBounds (o + x.2) x.1) (pre ++ zs).toArray = (pre ++ us ++ zs.drop us.length).toArray
  | [], pre, zs, m, _, _ => by simp
  | u :: us, pre, [], m, _, h => by simp at h
  | u :: us, pre, z :: zs, m, hp, h => by
    have ih := fold_put o us (pre ++ [u]) zs (m + 1) (by simp; omega) (by simpa using h)
    have e : ((pre ++ z :: zs).toArray).setIfInBounds (o + m) u = (pre ++ [u] ++ zs).toArray := by
      rw [← hp]; simp
    rw [List.zipIdx_cons, List.foldl_cons]
    simp only
    rw [e, ih]; simp
theorem fill_runS (s : Nat) : ∀ (vs pre zs : List Value) (m : Nat), pre.length = m * s → zs.length = vs.length * s → (∀ v ∈ vs, v.cells.size = s) →
    Instr.fill (fun i => some (i * s, s)) (pre ++ zs).toArray ((vs.zipIdx m).map fun x => (x.2, x.1)) = some (pre ++ vs.flatMap fun v => v.cells.toList).toArray
  | [], pre, zs, m, _, hz, _ => by
    have : zs = [] := List.eq_nil_of_length_eq_zero (by simpa using hz)
    subst this; simp [Instr.fill]
  | v :: vs, pre, zs, m, hp, hz, ho => by
    have hv := ho v (by simp)
    have hz' : zs.length = vs.length * s + s := by rw [hz, List.length_cons, Nat.add_mul, Nat.one_mul]
    have ih := fill_runS s vs (pre ++ v.cells.toList) (zs.drop s) (m + 1) (by rw [List.length_append, hp, Array.length_toList, hv, Nat.add_mul, Nat.one_mul]) (by rw [List.length_drop, hz']; omega) (fun u hu => ho u (by simp [hu]))
    simp only [List.zipIdx_cons, List.map_cons, Instr.fill, hv]
    rw [if_neg (by simp [hp, hz'])]
    have h2 : Array.foldl (fun cs (x : Value × Nat) => cs.setIfInBounds (m * s + x.2) x.1) (pre ++ zs).toArray v.cells.zipIdx = (pre ++ v.cells.toList ++ zs.drop s).toArray := by
      have := fold_put (m * s) v.cells.toList pre zs 0 (by simpa using hp) (by rw [Array.length_toList, hv]; omega)
      rw [Array.length_toList, hv] at this
      rw [← this]
      have e2 : v.cells.zipIdx.toList = v.cells.toList.zipIdx := by simp
      rw [← e2, Array.foldl_toList]
    rw [h2, ih]; simp
theorem e_bslS {t e : TypeId} {s b n : Nat} {parts : List (Nat × Value)} {vs : List Value} [ht : SlT P t e s b] (hn : vs.length = n) (h1 : 0 < n) (hp : parts = vs.zipIdx.map fun x => (x.2, x.1)) (ho : ∀ v ∈ vs, v.cells.size = s) (hm : n * s ≤ 16777216)
    (h : ∀ g, Ent W (pt g (.cells (vs.flatMap fun v => v.cells.toList).toArray e) :: L) (k (.slice (some ⟨g, 0, none⟩) n n))) : Ent W L (opN P (sBuildSl t n parts) Kp k) := fun w hw => by
  refine ⟨?_⟩
  obtain ⟨i, z, hi, hz, hs, hb, hzs⟩ := ht.info
  have : (sBuildSl t n parts).run P w = .ok (.value (.slice (some ⟨w.heap.size, 0, none⟩) n n)) (w.alloc (.cells (vs.flatMap fun v => v.cells.toList).toArray e)) := by
    have hm' : ¬ (2 ^ 24 < n * s) := by omega
    have hf : ∀ zs : Array Value, zs.size = n * s → Instr.fill (fun i => some (i * s, s)) zs parts = some (vs.flatMap fun v => v.cells.toList).toArray := fun zs hz => by
      have := fill_runS s vs [] zs.toList 0 (by simp) (by simp [hz, hn]) ho
      simpa [hp] using this
    by_cases h0 : n * s = 0
    · simp [sBuildSl, Instr.buildSlice, run_underlying ht.ut, sizeOf_run hi, hs, zeroValue, typeInfo, hi, hz, newRow, h0]
      have := hf ((Array.range 0).map fun _ => (default : Value)) (by simp [h0])
      rw [this]
      simp
    · simp [sBuildSl, Instr.buildSlice, run_underlying ht.ut, sizeOf_run hi, hs, hm', zeroValue, typeInfo, hi, hz, newRow, h0]
      have := hf ((Array.range (n * s)).map fun j => z.cells[j % z.cells.size]!) (by simp)
      rw [this]
      simp
  rw [this]
  exact h _ _ (hw.alloc _)
theorem flat_len {α : Type} {f : α → List Value} {s : Nat} (hf : ∀ x, (f x).length = s) : ∀ l : List α, (l.flatMap f).length = l.length * s
  | [] => by simp
  | x :: l => by rw [List.flatMap_cons, List.length_append, hf, flat_len hf l, List.length_cons, Nat.add_mul, Nat.one_mul, Nat.add_comm]
theorem flat_get {α : Type} {f : α → List Value} {s : Nat} (hf : ∀ x, (f x).length = s) : ∀ (l : List α) (i j : Nat) (hi : i < l.length) (hj : j < s), (l.flatMap f)[i * s + j]? = (f l[i])[j]?
  | x :: l, 0, j, _, hj => by
    rw [List.flatMap_cons, Nat.zero_mul, Nat.zero_add, List.getElem?_append_left (by rw [hf]; exact hj)]; rfl
  | x :: l, i + 1, j, hi, hj => by
    rw [List.flatMap_cons, List.getElem?_append_right (by rw [hf, Nat.add_mul]; omega), hf, show (i + 1) * s + j - s = i * s + j by rw [Nat.add_mul]; omega, flat_get hf l i j (by simpa using hi) hj]; rfl
end Go.Proofs.YtcmpkkkigmheoaaDoor.Sl
/-! Lists of numbers, small arrays of numbers. No conditions but those that each names. -/
namespace Go.Proofs.YtcmpkkkigmheoaaDoor.Sl
open Go Go.RowKit Go.Proofs.YtcmpkkkigmheoaaDoor.Sh
variable {P : Program} {W : World} {L L' : List HP} {Kp : PK} {k : Value → WP} {H : Type} {enc : TypeId × Value → H}
/-- a number as the model holds it -/
def I (n : Int) : Value := .int .i64 n
instance {n : Int} : OC (I n) := ⟨rfl⟩
theorem I_one {l : List Int} : ∀ u ∈ l.map I, u.oneCell' = true := by
  intro u hu; obtain ⟨c, _, rfl⟩ := List.mem_map.1 hu; rfl
theorem I_get {l : List Int} {j : Nat} (h : j < l.length) : (l.map I)[j]? = some (I l[j]) := by simp [h]
/-- an array of n numbers -/
def An (n : Nat) (f : Nat → Int) : Array Value := ((List.range n).map fun j => I (f j)).toArray
theorem An_size (n : Nat) (f : Nat → Int) : (An n f).size = n := by simp [An]
theorem An_get {n j : Nat} {f : Nat → Int} (h : j < n) : (An n f)[j]? = some (I (f j)) := by simp [An, h]
theorem An_congr {n : Nat} {f g : Nat → Int} (h : ∀ j, j < n → f j = g j) : An n f = An n g := by
  unfold An
  congr 1
  exact List.map_congr_left fun j hj => by rw [h j (List.mem_range.1 hj)]
theorem An_set {n j : Nat} {f : Nat → Int} {v : Int} : (An n f).setIfInBounds j (I v) = An n fun i => if i = j then v else f i := by
  apply Array.ext_getElem?
  intro i
  rw [Array.getElem?_setIfInBounds, An_size]
  by_cases c : j = i
  · subst c
    rw [if_pos rfl]
    by_cases h : j < n
    · rw [if_pos h, An_get h]; simp
    · rw [if_neg h, Array.getElem?_eq_none (by rw [An_size]; omega)]
  · rw [if_neg c]
    by_cases h : i < n
    · rw [An_get h, An_get h, if_neg (fun e => c e.symm)]
    · rw [Array.getElem?_eq_none (by rw [An_size]; omega), Array.getElem?_eq_none (by rw [An_size]; omega)]
theorem v_slA {t e : TypeId} {s len : Nat} {g l : Nat} {q : IntKind} {i : Int} [ht : ArrT P t len e s] (hi : i = (l : Int)) (hl : l < len) : RunV P W [] (sSl t (.pointer (some ⟨g, 0, none⟩)) (some (.int q i)) none none) (.slice (some ⟨g, l * s, none⟩) (len - l) (len - l)) := fun w _ => by
  have hne : len ≠ l := by omega
  simp [sSl, Instr.sliceAt, Instr.sliceBounds, ht.ut, ht.size, run_bound l hi (Nat.le_of_lt hl), Instr.sureAddr, hne, Addr.add]
  intro h; exact h.symm
theorem rd_cut {A : HP} {g m n l : Nat} {f : Nat → Int} (h : RdB W A (some ⟨g, 0, none⟩) n ((List.range n).map fun j => I (f j))) (hl : l + m = n) : RdB W A (some ⟨g, l * 1, none⟩) m ((List.range m).map fun j => I (f (l + j))) := by
  have := h.cut (cap := n + 1) (l := l) (h := n) (by omega) (by omega) (by omega)
  rw [if_neg (by omega)] at this
  have e : (Option.map (fun x : Addr => x.add (l * 1)) (some ⟨g, 0, none⟩)) = some ⟨g, l * 1, none⟩ := by simp [addr_add]
  rw [e, show n - l = m by omega] at this
  have e2 : List.take m (List.drop l ((List.range n).map fun j => I (f j))) = (List.range m).map fun j => I (f (l + j)) := by
    apply List.ext_getElem?
    intro j
    rw [List.getElem?_take]
    by_cases c : j < m
    · rw [if_pos c, List.getElem?_drop, List.getElem?_map, List.getElem?_map, List.getElem?_range (by omega), List.getElem?_range c]; rfl
    · rw [if_neg c, List.getElem?_eq_none (by simp; omega)]
  rw [e2] at this
  exact this
def rdI (c : Int) (cs : List Value) : Prop := cs = [I c]
theorem Old.ints {a : Option Addr} {n : Nat} {b : List Int} {A : HP} (h : Old W 1 rdI a n b) : RdB W A a n (b.map I) := by
  refine ⟨by rw [List.length_map]; exact h.len, fun hn => ?_⟩
  obtain ⟨g, o, rfl, hg, hc⟩ := h.at_ hn
  refine ⟨g, o, rfl, fun w L hw j v hv => ?_⟩
  rw [List.getElem?_map] at hv
  have hj : j < b.length := by
    rcases Nat.lt_or_ge j b.length with c | c
    · exact c
    · rw [List.getElem?_eq_none c] at hv; cases hv
  obtain ⟨cs, h1, h2, h3⟩ := hc j hj
  rw [h2] at h3
  have := h3 0 (I b[j]) rfl
  rw [List.getElem?_eq_getElem hj] at hv
  have hv' : I b[j] = v := Option.some.inj hv
  rw [hw.base.cell (p := ⟨g, o + j, none⟩) hg, ← hv']
  simpa using this
theorem open_i64 {e : TypeId} {sp : Nat → Bool} {held : Bool} (he : P.underlying e = some (.int .i64)) : ∀ (n : Nat) (cs : List Value) (x : DataW H × List MemPlace), DataW.trod enc P W 0 sp held n e cs = some x → ∃ a, (rdI a cs ∧ -9223372036854775808 ≤ a ∧ a ≤ 9223372036854775807) ∧ 1 ≤ Rows.uptoBulk x.1 := fun n cs x h => by
  obtain ⟨m, rfl, rfl, hw⟩ := DataW.trod_int he h
  have hm : -9223372036854775808 ≤ m ∧ m ≤ 9223372036854775807 := by simpa [Lit.wf, IntKind.min, IntKind.max, IntKind.signed, IntKind.bits] using hw
  exact ⟨m, ⟨rfl, hm⟩, by simp [Rows.uptoBulk]⟩
theorem open_ints {t e : TypeId} {v : Value} {d : DataW H} {ps : List MemPlace} {r : Reach} {b0 : Nat} {sp : Nat → Bool} {held : Bool} (ht : P.underlying t = some (.slice e)) (hc : P.cellsOf e = 1) (he : P.underlying e = some (.int .i64)) (hval : Value.okWide P W r b0 t v) (hd : DataW.Trod enc P W 0 sp held t v d ps) :
    ∃ (a : Option Addr) (cap : Nat) (b : List Int), v = .slice a b.length cap ∧ (a = none → b.length = 0) ∧ (∀ A, RdB W A a b.length (b.map I)) ∧ (∀ x ∈ b, -9223372036854775808 ≤ x ∧ x ≤ 9223372036854775807) ∧ b.length ≤ Rows.uptoBulk d := by
  obtain ⟨fuel, hf⟩ := open_slice (e := e) ht hval hd
  obtain ⟨a, n, cap, b, e1, h1, h2, h3, h4, h5⟩ := open_old (rd := fun (x : Int) cs => rdI x cs ∧ -9223372036854775808 ≤ x ∧ x ≤ 9223372036854775807) (m := fun _ => 1) ht hc (by omega) (open_i64 (enc := enc) he) hf
  have hl := h4.len
  subst hl
  have h6 : Old W 1 rdI a b.length b := ⟨rfl, fun c => let ⟨g, o, q1, q2, q3⟩ := h4.at_ c; ⟨g, o, q1, q2, fun i hi => let ⟨cs, z1, z2, z3⟩ := q3 i hi; ⟨cs, z1, z2.1, z3⟩⟩⟩
  refine ⟨a, cap, b, by injection e1, fun c => (h3 c).1, fun A => h6.ints, fun x hx => ?_, by rw [sum_ones] at h5; simp at h5; omega⟩
  obtain ⟨i, hi, rfl⟩ := List.mem_iff_getElem.1 hx
  obtain ⟨g, o, q1, q2, q3⟩ := h4.at_ (by omega)
  obtain ⟨cs, z1, z2, z3⟩ := q3 i hi
  exact z2.2
end Go.Proofs.YtcmpkkkigmheoaaDoor.Sl
/-! Contracts with two ends: a value, or a panic. No conditions but those that each names. -/
namespace Go.Proofs.YtcmpkkkigmheoaaDoor.Sl
open Go Go.RowKit Go.Proofs.YtcmpkkkigmheoaaDoor.Sh
variable {P : Program} {W : World} {L L' : List HP} {Kp : PK} {k : Value → WP}
/-- called where A holds it returns r x where B x holds, or passes up the panic pc y where Bp y holds -/
structure CnP {α β : Type} (P : Program) (f : FuncId) (args : List Value) (W : World) (A : List HP) (r : α → Value) (B : α → List HP) (pc : β → List PanicEntry) (Bp : β → List HP) : Prop where
  call : ∀ (a : Array Value) (w : World), (callFunc f a).run P w = .ok (.enter f a) w
  run : ∀ (F : List HP) (w : World), sat W (A ++ F) w → Calls P f args.toArray w (fun e w' => (∃ x, e = .returned (r x) ∧ sat W (B x ++ F) w') ∨ ∃ y, e = .panicked (pc y) ∧ sat W (Bp y ++ F) w')
theorem CnP.of {α β : Type} {f : FuncId} {args : List Value} {A : List HP} {r : α → Value} {B : α → List HP} {pc : β → List PanicEntry} {Bp : β → List HP} {shape : PK → (Value → WP) → WP}
    (hc : ∀ (a : Array Value) (w : World), (callFunc f a).run P w = .ok (.enter f a) w)
    (hs : ∀ {Kp : PK} {K : Value → WP} {w : World}, shape Kp K w → Calls P f args.toArray w (after Kp K))
    (h : ∀ F, Ent W (A ++ F) (shape (fun ch w' => ∃ y, ch = pc y ∧ sat W (Bp y ++ F) w') fun v w' => ∃ x, v = r x ∧ sat W (B x ++ F) w')) : CnP P f args W A r B pc Bp :=
  ⟨hc, fun F w hw => (hs (h F w hw)).mono fun e w' he => by
    cases e with
    | returned v => obtain ⟨x, rfl, h2⟩ := he; exact .inl ⟨x, rfl, h2⟩
    | panicked ch => obtain ⟨y, rfl, h2⟩ := he; exact .inr ⟨y, rfl, h2⟩
    | outgrown => exact he.elim⟩
theorem Cn.noPanic {α : Type} {f : FuncId} {args : List Value} {A : List HP} {r : α → Value} {B : α → List HP} {β : Type} {pc : β → List PanicEntry} {Bp : β → List HP} (h : Cn P f args W A r B) : CnP P f args W A r B pc Bp :=
  ⟨h.call, fun F w hw => (h.run F w hw).mono fun e w' he => .inl he⟩
theorem CnP.plain {α β : Type} {f : FuncId} {args : List Value} {A : List HP} {r : α → Value} {B : α → List HP} {pc : β → List PanicEntry} {Bp : β → List HP} (h : CnP P f args W A r B pc Bp) (hn : β → False) : Cn P f args W A r B :=
  ⟨h.call, fun F w hw => (h.run F w hw).mono fun e w' he => he.resolve_right fun ⟨y, _⟩ => hn y⟩
theorem e_callP {α β : Type} {f : FuncId} {args : List Value} {A F : List HP} {r : α → Value} {B : α → List HP} {pc : β → List PanicEntry} {Bp : β → List HP} (hf : CnP P f args W A r B pc Bp) (p : Picks L A F)
    (h : ∀ x, Ent W (B x ++ F) (k (r x))) (hp : ∀ y, Ent W (Bp y ++ F) (Kp (pc y))) : Ent W L (opN P (sCall (fn f) args) Kp k) := fun w hw => by
  refine ⟨?_⟩
  rw [run_sCall hf.call]
  refine (hf.run F w (p.sat hw)).mono fun e w' he => ?_
  rcases he with ⟨x, he, hs⟩ | ⟨y, he, hs⟩
  · subst he; exact h x w' hs
  · subst he; exact hp y w' hs
/-- a panic's chain, fresh -/
def pe (v : Value) : List PanicEntry := [{ v, recovered := false }]
theorem e_panic {t : TypeId} {x : Value} (h : Ent W L (Kp (pe (.iface t x)))) : Ent W L (opN P (sPanic (.iface t x)) Kp k) := fun w hw => by
  refine ⟨?_⟩
  have : (sPanic (.iface t x)).run P w = .halt (.panic (.iface t x)) w := by simp [sPanic, Instr.panic, goPanic]
  rw [this]
  exact h w hw
theorem v_mkI {t : TypeId} {v : Value} {q : IntKind} [ht : IntT P t q] : RunV P W [] (sMkI t v) (.iface t v) := fun w _ => by
  simp [sMkI, Instr.makeInterface, ht.run]
theorem e_pan {β : Type} {pc : β → List PanicEntry} {M : β → List HP} {ch : List PanicEntry} (y : β) (hv : ch = pc y) (i : Imp W L (M y)) : Ent W L (fun w' => ∃ y, ch = pc y ∧ sat W (M y) w') := fun w hw => ⟨y, hv, i.sat hw⟩
/-- a function value that is a closure over cells -/
theorem v_mkF {f : FuncId} {bs cs : List Value} : RunV P W [] (sMkF (.func f) bs cs) (.func (.func f) bs.toArray cs.toArray) := fun w _ => by
  simp [sMkF, Instr.makeFunc]
theorem e_opDf {fn : Fn} {a b : Array Value} {args : List Value} {kd : Deferred → WP} (h : Ent W L (kd { target := .fn fn b, args := a ++ args.toArray })) : Ent W L (opDf (.func fn a b) args kd) := fun w hw => ⟨fn, a, b, rfl, h w hw⟩
/-- the deferred call at a function's end, by the deferred function's shape -/
theorem e_dfS {f : FuncId} {A : List Value} {d : Deferred} {u : FrameMode} {Kret : WP} {Kq : PK} {shape : Value → PK → (Value → WP) → WP} (hu : u ≠ .run) (ht : ∃ fv cap, d.target = .fn fv cap)
    (hinv : ∀ w, (invoke d.target d.args).run P w = .ok (.enter f A.toArray) w)
    (hs : ∀ {Kp' : PK} {K : Value → WP} {w : World}, shape (recV u).1 Kp' K w → CallsD P f A.toArray u w fun
      | .returned v, u', w' => u' = (recV u).2 ∧ K v w'
      | .panicked ch, u', w' => u' = (recV u).2 ∧ Kp' ch w'
      | .outgrown, _, _ => False)
    (h : Ent W L (shape (recV u).1 (fun ch => lvS Kret Kq (raised (recV u).2 ch)) fun _ => lvS Kret Kq (settle (recV u).2))) : Ent W L (dfS P d u Kret Kq) := fun w hw => by
  obtain ⟨fv, cap, ht⟩ := ht
  refine ⟨hu, fv, cap, f, A.toArray, ht, hinv w, (hs (h w hw)).mono fun e u' w' he => ?_⟩
  cases e with
  | returned v => obtain ⟨rfl, h2⟩ := he; exact h2
  | panicked ch => obtain ⟨rfl, h2⟩ := he; exact h2
  | outgrown => exact he.elim
theorem lv_ret {Kret : WP} {Kq : PK} : lvS Kret Kq (settle (recV .returning).2) = Kret := rfl
theorem lv_pan {Kret : WP} {Kq : PK} {v : Value} : lvS Kret Kq (settle (recV (.panicking (pe v))).2) = Kret := rfl
theorem rec_ret : (recV .returning).1 = .nilIface := rfl
theorem rec_pan {v : Value} : (recV (.panicking (pe v))).1 = v := rfl
theorem inv_closure {f : FuncId} {cs bs : List Value} (hc : ∀ (a : Array Value) (w : World), (callFunc f a).run P w = .ok (.enter f a) w) (w : World) : (invoke (.fn (.func f) cs.toArray) bs.toArray).run P w = .ok (.enter f (bs ++ cs).toArray) w := by
  simp [invoke, hc]
end Go.Proofs.YtcmpkkkigmheoaaDoor.Sl
/-! Ranges over functions, and calls of what a function value holds: the rules of a walk. No conditions but those that each names. -/
namespace Go.Proofs.YtcmpkkkigmheoaaDoor.Sl
open Go Go.RowKit Go.Proofs.YtcmpkkkigmheoaaDoor.Sh
variable {P : Program} {W : World} {L L' : List HP} {Kp : PK} {k : Value → WP}
/-- a call of a closure: what it captured comes behind its arguments -/
theorem run_sCallC {f : FuncId} {cap : Array Value} {args : List Value} (hc : ∀ (a : Array Value) (w : World), (callFunc f a).run P w = .ok (.enter f a) w) (w : World) :
    (sCall (.func (.func f) #[] cap) args).run P w = .ok (.enter f (args.toArray ++ cap)) w := by
  unfold sCall Deferred.ofValue
  simp [invoke, hc]
theorem e_callC {α : Type} {f : FuncId} {args cap : List Value} {A F : List HP} {r : α → Value} {B : α → List HP} (hf : Cn P f (args ++ cap) W A r B) (p : Picks L A F)
    (h : ∀ x, Ent W (B x ++ F) (k (r x))) : Ent W L (opN P (sCall (.func (.func f) #[] cap.toArray) args) Kp k) := fun w hw => by
  refine ⟨?_⟩
  rw [run_sCallC hf.call, show args.toArray ++ cap.toArray = (args ++ cap).toArray by simp]
  refine (hf.run F w (p.sat hw)).mono fun e w' ⟨x, he, hs⟩ => ?_
  subst he
  exact h x w' hs
/-- a loop's yield, from round to round: what is handed in, what holds between -/
def YieldC (P : Program) (l : Nat) (xs : List (List Value)) (I : Nat → HP) (Ix : HP) (W : World) : Prop :=
  ∀ i (hi : i < xs.length) (F : List HP) (w : World), sat W (I i :: F) w → YieldP P l xs[i] w fun e w' =>
    (e = .returned (.bool true) ∧ sat W (I (i + 1) :: F) w') ∨ (e = .returned (.bool false) ∧ sat W (Ix :: F) w')
def yv (l : Nat) : Value := .func (.yield l) #[] #[]
instance {l : Nat} : OC (yv l) := ⟨rfl⟩
theorem e_yield {l : Nat} {xs : List (List Value)} {I : Nat → HP} {Ix : HP} {args : List Value} (hy : YieldC P l xs I Ix W) (i : Nat) (hi : xs[i]? = some args) (p : Pick L (I i) L')
    (ht : Ent W (I (i + 1) :: L') (k (.bool true))) (hf : Ent W (Ix :: L') (k (.bool false))) : Ent W L (opN P (sCall (yv l) args) Kp k) := fun w hw => by
  have hlt : i < xs.length := by
    rcases Nat.lt_or_ge i xs.length with c | c
    · exact c
    · rw [List.getElem?_eq_none c] at hi; cases hi
  have he : xs[i] = args := by rw [List.getElem?_eq_getElem hlt] at hi; exact Option.some.inj hi
  obtain ⟨fn, tmps, assign, body, hr, hR⟩ := hy i hlt L' w (hw.pick p)
  rw [he] at hr
  refine ⟨?_⟩
  have : (sCall (yv l) args).run P w = .ok (.round l fn tmps assign body) w := by
    unfold sCall yv Deferred.ofValue
    simp [invoke, hr]
  rw [this]
  refine hR.mono fun e w' he => ?_
  rcases he with ⟨rfl, hs⟩ | ⟨rfl, hs⟩
  · exact ht w' hs
  · exact hf w' hs
theorem sat.putO {w : World} {g : Nat} {o o' : Obj} (H : sat W (pt g o :: L) w) : sat W (pt g o' :: L) (w.putObj g o') := by
  have hg := H.pt_.1
  have hlt : g < w.heap.size := (Array.getElem?_eq_some_iff.1 hg).1
  exact H.turn rfl rfl rfl (by simp) (World.putObj_heap_same hlt) (fun i hi => World.putObj_heap_other hi)
theorem e_tk {d : Nat} {S : WP} (p : Pick L (pt d (.deferred (some []))) L') (h : Ent W L' S) : Ent W L (tkS d S) := fun w hw => by
  have hw' := hw.pick p
  exact ⟨hw'.pt_.1, h _ (hw'.putO (o' := .deferred none)).drop⟩
theorem e_rf {fv : Value} {f : FuncId} {cap : List Value} {np : Nat} {rnd : VF np ((WP → WP) → WP → WP → WP)} {Kn Kj : Nat → WP} {Kq : Nat → PK} (xs : List (List Value)) (I : Nat → HP) (Ix : HP) (hf : fv = .func (.func f) #[] cap.toArray)
    (hxs : ∀ x ∈ xs, x.length = np) (hi : Imp W L [I 0])
    (hit : ∀ (l : Nat) (T T' : HP), YieldC P l xs (fun i => all [T, I i]) (all [T', Ix]) W → Cn P f (yv l :: cap) W [all [T, I 0]] (fun _ : Bool => .tuple #[]) (fun b => [if b then all [T, I xs.length] else all [T', Ix]]))
    (hbody : ∀ i (hi : i < xs.length) (F : List HP) (T0 T1 : HP) (B : WP → WP) (N J : WP), (∀ L L' S, Pick L T0 L' → Ent W (T1 :: L') S → Ent W L (B S)) → (∀ L, Imp W L (T1 :: I (i + 1) :: F) → Ent W L N) → (∀ L, Imp W L (T1 :: Ix :: F) → Ent W L J) →
      Ent W (T0 :: I i :: F) (vapp np rnd xs[i] B N J))
    (hn : ∀ d, Ent W [pt d (.deferred (some [])), I xs.length] (Kn d)) (hj : ∀ d, Ent W [pt d (.deferred (some [])), Ix] (Kj d)) : Ent W L (rfS P fv np rnd Kn Kj Kq) := fun w hw => by
  have hcall := (hit 0 (pu False) (pu False) (fun i hi F w hs => (by obtain ⟨h, ⟨h1, h2, ⟨h3, h4, hp, _⟩, _⟩, _⟩ := hs.heap; exact hp.elim))).call
  refine ⟨f, cap.toArray, hf, hcall, fun rec hrec => ?_⟩
  obtain ⟨l, hl⟩ : ∃ l, l = w.heap.size + 1 := ⟨_, rfl⟩
  have h0 : sat W [all [all [pt l (.loop (rec .ready none)), pt w.heap.size (.deferred (some []))], I 0]] ((w.alloc (.deferred (some []))).alloc (.loop (rec .ready none))) := by
    have := ((hi.sat hw).alloc (.deferred (some []))).alloc (.loop (rec .ready none))
    rw [World.size_alloc, ← hl] at this
    exact (Imp.all (N := [_, _]) (Imp.all (N := [_, _]) .refl)).sat this
  rw [← hl] at hrec ⊢
  have hy : YieldC P l xs (fun i => all [all [pt l (.loop (rec .ready none)), pt w.heap.size (.deferred (some []))], I i]) (all [all [pt l (.loop (rec .done (some .ret))), pt w.heap.size (.deferred (some []))], Ix]) W := by
    intro i hi F w' hs
    have hs1 : sat W (pt l (.loop (rec .ready none)) :: pt w.heap.size (.deferred (some [])) :: I i :: F) w' :=
      hs.map fun h H => all_append' (N := [_, _]) (M := I i :: F) (by
        have := all_append' (N := [_, _]) (M := F) H
        exact this)
    refine hrec xs[i] w' _ (hxs _ (List.getElem_mem hi)) hs1.pt_.1 ?_
    refine hbody i hi F (all [pt l (.loop (rec .ready none)), pt w.heap.size (.deferred (some []))]) (all [pt l (.loop (rec .busy none)), pt w.heap.size (.deferred (some []))]) _ _ _ ?_ ?_ ?_ w' ?_
    · intro L1 L2 S p hS w1 hw1
      have h1 : sat W (pt l (.loop (rec .ready none)) :: pt w.heap.size (.deferred (some [])) :: L2) w1 := sat.map (L := all [pt l (.loop (rec .ready none)), pt w.heap.size (.deferred (some []))] :: L2) (fun h H => all_append' (N := [_, _]) H) (hw1.pick p)
      refine ⟨h1.pt_.1, hS _ ?_⟩
      exact (Imp.all (N := [_, _]) .refl).sat (h1.putO (o' := .loop (rec .busy none)))
    · intro L1 i1 w1 hw1
      have h1 : sat W (pt l (.loop (rec .busy none)) :: pt w.heap.size (.deferred (some [])) :: I (i + 1) :: F) w1 := sat.map (L := all [pt l (.loop (rec .busy none)), pt w.heap.size (.deferred (some []))] :: I (i + 1) :: F) (fun h H => all_append' (N := [_, _]) H) (i1.sat hw1)
      refine ⟨h1.pt_.1, .inl ⟨rfl, ?_⟩⟩
      exact (Imp.all (N := [_, _]) (Imp.all (N := [_, _]) .refl)).sat (h1.putO (o' := .loop (rec .ready none)))
    · intro L1 i1 w1 hw1
      have h1 : sat W (pt l (.loop (rec .busy none)) :: pt w.heap.size (.deferred (some [])) :: Ix :: F) w1 := sat.map (L := all [pt l (.loop (rec .busy none)), pt w.heap.size (.deferred (some []))] :: Ix :: F) (fun h H => all_append' (N := [_, _]) H) (i1.sat hw1)
      refine ⟨h1.pt_.1, .inr ⟨rfl, ?_⟩⟩
      exact (Imp.all (N := [_, _]) (Imp.all (N := [_, _]) .refl)).sat (h1.putO (o' := .loop (rec .done (some .ret))))
    · exact (Imp.all (N := [_, _]) .refl).sat hs1
  have hc := (hit l _ _ hy).run [] _ (by simpa using h0)
  rw [show (yv l :: cap).toArray = #[.func (.yield l) #[] #[]] ++ cap.toArray by simp [yv]] at hc
  refine hc.mono fun e w' he => ?_
  obtain ⟨b, rfl, hs⟩ := he
  cases b with
  | true =>
    left
    have h1 : sat W (pt l (.loop (rec .ready none)) :: [pt w.heap.size (.deferred (some [])), I xs.length]) w' :=
      hs.map fun h H => all_append' (N := [_, _]) (M := [I xs.length]) (by
        have := all_append' (N := [_, _]) (M := []) H
        exact this)
    exact ⟨h1.pt_.1, hn _ _ (h1.putO (o' := .loop (rec .exhausted none))).drop⟩
  | false =>
    right
    have h1 : sat W (pt l (.loop (rec .done (some .ret))) :: [pt w.heap.size (.deferred (some [])), Ix]) w' :=
      hs.map fun h H => all_append' (N := [_, _]) (M := [Ix]) (by
        have := all_append' (N := [_, _]) (M := []) H
        exact this)
    exact ⟨h1.pt_.1, hj _ _ (h1.putO (o' := .loop (rec .exhausted (some .ret)))).drop⟩
theorem e_swap {M : List HP} {S : WP} (h : Ent W (M ++ L) S) : Ent W (L ++ M) S := fun w hw => by
  refine h w (hw.map fun f H => all_append' ?_)
  obtain ⟨h1, h2, ha, hb, d, s1, s2⟩ := all_append H
  exact ⟨h2, h1, hb, ha, fun i => (d i).symm, s2, s1⟩
/-- what stands by is laid out again -/
theorem e_rest {M F : List HP} {S : WP} (i : Imp W L (M ++ [all F])) (h : Ent W (M ++ F) S) : Ent W L S := by
  refine e_imp i (e_swap (L := M) (M := [all F]) ?_)
  refine e_all (M := F) (L' := M) .here (e_swap h)
end Go.Proofs.YtcmpkkkigmheoaaDoor.Sl
