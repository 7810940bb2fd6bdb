/- Structs compared. No conditions. -/
import Derived.Test.YtcigoifhcfbcdaaGreatDoorFld5
import Derived.Laws.StructEq
set_option linter.unusedVariables false
set_option linter.unusedSimpArgs false
namespace Go.Proofs.YtcigoifhcfbcdaaGreatDoor.FD
open Go Go.Proofs Go.RowKit Go.Proofs.YtcigoifhcfbcdaaGreatDoor.Sh Go.Proofs.YtcigoifhcfbcdaaGreatDoor.Sl Go.Proofs.YtcigoifhcfbcdaaGreatDoor.T
theorem txt_beq (a b : List UInt8) : ((⟨a.toArray⟩ : ByteArray).toList == (⟨b.toArray⟩ : ByteArray).toList) = decide (a = b) := by
  rw [ByteArray.toList_eq, ByteArray.toList_eq]
  show (a == b) = decide (a = b)
  by_cases h : a = b <;> simp [h]
theorem eq_i {w : World} {d : Nat} {a b : Int} : (Op.equalIn (d + 1) 3 (.int .i64 a) (.int .i64 b)).run Tryz.prog w = .ok (decide (a = b)) w := by
  rw [run_equalIn_int w d 3 .i64 .i64 a b Tryz.underlying3]; rfl
theorem eq_b {w : World} {d : Nat} {a b : Bool} : (Op.equalIn (d + 1) 4 (.bool a) (.bool b)).run Tryz.prog w = .ok (decide (a = b)) w := by
  rw [run_equalIn_bool' w d 4 a b Tryz.underlying4]
  cases a <;> cases b <;> rfl
theorem eq_s {w : World} {d : Nat} {a b : List UInt8} : (Op.equalIn (d + 1) 9 (txt a) (txt b)).run Tryz.prog w = .ok (decide (a = b)) w := by
  unfold txt
  rw [run_equalIn_string w d 9 _ _ Tryz.underlying9, txt_beq]
theorem pt1 {w : World} {t : TypeId} {cs : Array Value} {o : Nat} {v : Value} [h : OneT Tryz.prog t] (hv : cs[o]? = some v) : (part t cs o).run Tryz.prog w = .ok v w := by
  simp [part, h.agg, hv]
theorem eqStep {w : World} {d : Nat} {f : Field} {fs : List Field} {xs ys : Array Value} {a b : Value} {φ : Bool} (hn : f.name ≠ "_") (h1 : (part f.type xs f.offset).run Tryz.prog w = .ok a w) (h2 : (part f.type ys f.offset).run Tryz.prog w = .ok b w)
    (h3 : (Op.equalIn d f.type a b).run Tryz.prog w = .ok φ w) : (Op.eqFields d xs ys (f :: fs)).run Tryz.prog w = if φ then (Op.eqFields d xs ys fs).run Tryz.prog w else .ok false w := by
  rw [Op.eqFields, if_pos hn]
  simp only [Sem.run_bind, h1, h2, h3, Result.andThen_ok]
  cases φ <;> simp
theorem eqEnd {w : World} {d : Nat} {xs ys : Array Value} : (Op.eqFields d xs ys []).run Tryz.prog w = .ok true w := by simp [Op.eqFields]
theorem eqI {w : World} {f : Field} {fs : List Field} {xs ys : Array Value} {φ : Bool} (a b : Int) (hn : f.name ≠ "_") (ht : f.type = 3) (h1 : xs[f.offset]? = some (.int .i64 a)) (h2 : ys[f.offset]? = some (.int .i64 b))
    (hr : (Op.eqFields 9999 xs ys fs).run Tryz.prog w = .ok φ w) : (Op.eqFields 9999 xs ys (f :: fs)).run Tryz.prog w = .ok (decide (a = b) && φ) w := by
  rw [eqStep hn (by rw [ht]; exact pt1 h1) (by rw [ht]; exact pt1 h2) (by rw [ht]; exact eq_i (d := 9998)), hr]
  by_cases h : a = b <;> simp [h]
theorem eqB {w : World} {f : Field} {fs : List Field} {xs ys : Array Value} {φ : Bool} (a b : Bool) (hn : f.name ≠ "_") (ht : f.type = 4) (h1 : xs[f.offset]? = some (.bool a)) (h2 : ys[f.offset]? = some (.bool b))
    (hr : (Op.eqFields 9999 xs ys fs).run Tryz.prog w = .ok φ w) : (Op.eqFields 9999 xs ys (f :: fs)).run Tryz.prog w = .ok (decide (a = b) && φ) w := by
  rw [eqStep hn (by rw [ht]; exact pt1 h1) (by rw [ht]; exact pt1 h2) (by rw [ht]; exact eq_b (d := 9998)), hr]
  by_cases h : a = b <;> simp [h]
theorem eqS {w : World} {f : Field} {fs : List Field} {xs ys : Array Value} {φ : Bool} (a b : List UInt8) (hn : f.name ≠ "_") (ht : f.type = 9) (h1 : xs[f.offset]? = some (txt a)) (h2 : ys[f.offset]? = some (txt b))
    (hr : (Op.eqFields 9999 xs ys fs).run Tryz.prog w = .ok φ w) : (Op.eqFields 9999 xs ys (f :: fs)).run Tryz.prog w = .ok (decide (a = b) && φ) w := by
  rw [eqStep hn (by rw [ht]; exact pt1 h1) (by rw [ht]; exact pt1 h2) (by rw [ht]; exact eq_s (d := 9998)), hr]
  by_cases h : a = b <;> simp [h]
theorem v_agEq {W : World} {t : TypeId} {ox oy : Operand} {xs ys : Array Value} {φ : Bool} (ht : Tryz.prog.underlying t = some (.struct (Tryz.prog.fieldsOf t))) (hp : Tryz.prog.stoodInHeld t = false) (hm : Tryz.prog.eqGuardType Tryz.prog.depth t = false)
    (h : ∀ w, (Op.eqFields 9999 xs ys (Tryz.prog.fieldsOf t).toList).run Tryz.prog w = .ok φ w) : RunV Tryz.prog W [] (sEq .eql t ox oy (.agg xs) (.agg ys)) (.bool φ) := fun w _ => by
  have e := run_equalIn_agg (P := Tryz.prog) w 9999 t xs ys ht hp
  rw [h w] at e
  have h1 := run_eql_struct (P := Tryz.prog) w t xs ys
  rw [show (10000 : Nat) = 9999 + 1 from rfl, e] at h1
  have h2 := run_eqGuard_agg (P := Tryz.prog) w .eql t ox oy xs ys hm
  simp [sEq, sv, h2, h1]
theorem v_agNe {W : World} {t : TypeId} {ox oy : Operand} {xs ys : Array Value} {φ : Bool} (ht : Tryz.prog.underlying t = some (.struct (Tryz.prog.fieldsOf t))) (hp : Tryz.prog.stoodInHeld t = false) (hm : Tryz.prog.eqGuardType Tryz.prog.depth t = false)
    (h : ∀ w, (Op.eqFields 9999 xs ys (Tryz.prog.fieldsOf t).toList).run Tryz.prog w = .ok φ w) : RunV Tryz.prog W [] (sEq .neq t ox oy (.agg xs) (.agg ys)) (.bool (!φ)) := fun w _ => by
  have e := run_equalIn_agg (P := Tryz.prog) w 9999 t xs ys ht hp
  rw [h w] at e
  have h1 := run_neq_struct (P := Tryz.prog) w t xs ys
  rw [show (10000 : Nat) = 9999 + 1 from rfl, e] at h1
  have h2 := run_eqGuard_agg (P := Tryz.prog) w .neq t ox oy xs ys hm
  simp [sEq, sv, h2, h1]
theorem eqSpan (x y : Int × Int) : ∀ w, (Op.eqFields 9999 (pSpan x).toArray (pSpan y).toArray (Tryz.prog.fieldsOf 71).toList).run Tryz.prog w = .ok (decide (x.1 = y.1) && (decide (x.2 = y.2) && (true))) w := fun w => by
  have hf : (Tryz.prog.fieldsOf 71).toList = (#[⟨"First", 3, 0, false, "", "", 0⟩, ⟨"Last", 3, 1, false, "", "", 8⟩] : Array Field).toList := by kernel_rfl
  rw [hf]
  exact eqI x.1 y.1 (by decide) (by rfl) (by rfl) (by rfl) (eqI x.2 y.2 (by decide) (by rfl) (by rfl) (by rfl) (eqEnd))
theorem eqTag (x y : Bool × List UInt8) : ∀ w, (Op.eqFields 9999 (pTag x).toArray (pTag y).toArray (Tryz.prog.fieldsOf 38).toList).run Tryz.prog w = .ok (decide (x.1 = y.1) && (decide (x.2 = y.2) && (true))) w := fun w => by
  have hf : (Tryz.prog.fieldsOf 38).toList = (#[⟨"Weak", 4, 0, false, "", "", 0⟩, ⟨"Value", 9, 1, false, "", "", 8⟩] : Array Field).toList := by kernel_rfl
  rw [hf]
  exact eqB x.1 y.1 (by decide) (by rfl) (by rfl) (by rfl) (eqS x.2 y.2 (by decide) (by rfl) (by rfl) (by rfl) (eqEnd))
theorem eqChoice (x y : List UInt8 × Int) : ∀ w, (Op.eqFields 9999 (pChoice x).toArray (pChoice y).toArray (Tryz.prog.fieldsOf 69).toList).run Tryz.prog w = .ok (decide (x.1 = y.1) && (decide (x.2 = y.2) && (true))) w := fun w => by
  have hf : (Tryz.prog.fieldsOf 69).toList = (#[⟨"Value", 9, 0, false, "", "", 0⟩, ⟨"Q", 3, 1, false, "", "", 16⟩] : Array Field).toList := by kernel_rfl
  rw [hf]
  exact eqS x.1 y.1 (by decide) (by rfl) (by rfl) (by rfl) (eqI x.2 y.2 (by decide) (by rfl) (by rfl) (by rfl) (eqEnd))
theorem eqDir (x y : Dir) : ∀ w, (Op.eqFields 9999 (pDir x).toArray (pDir y).toArray (Tryz.prog.fieldsOf 44).toList).run Tryz.prog w = .ok (decide (x.name = y.name) && (decide (x.value = y.value) && (decide (x.has = y.has) && (true)))) w := fun w => by
  have hf : (Tryz.prog.fieldsOf 44).toList = (#[⟨"Name", 9, 0, false, "", "", 0⟩, ⟨"Value", 9, 1, false, "", "", 16⟩, ⟨"Has", 4, 2, false, "", "", 32⟩] : Array Field).toList := by kernel_rfl
  rw [hf]
  exact eqS x.name y.name (by decide) (by rfl) (by rfl) (by rfl) (eqS x.value y.value (by decide) (by rfl) (by rfl) (by rfl) (eqB x.has y.has (by decide) (by rfl) (by rfl) (by rfl) (eqEnd)))
theorem v_spanNe {W : World} {ox oy : Operand} (x y : Int × Int) : RunV Tryz.prog W [] (sEq .neq 71 ox oy (vSpan x) (vSpan y)) (.bool (!decide (x.1 = y.1 ∧ x.2 = y.2))) := by
  have h := v_agNe (W := W) (t := 71) (ox := ox) (oy := oy) (by kernel_rfl) (by kernel_rfl) (by kernel_rfl) (eqSpan x y)
  have e : decide (x.1 = y.1 ∧ x.2 = y.2) = (decide (x.1 = y.1) && (decide (x.2 = y.2) && (true))) := by simp [Bool.decide_and]
  rw [e]
  exact h
theorem v_tagEq {W : World} {ox oy : Operand} (x y : Bool × List UInt8) : RunV Tryz.prog W [] (sEq .eql 38 ox oy (vTag x) (vTag y)) (.bool (decide (x.1 = y.1 ∧ x.2 = y.2))) := by
  have h := v_agEq (W := W) (t := 38) (ox := ox) (oy := oy) (by kernel_rfl) (by kernel_rfl) (by kernel_rfl) (eqTag x y)
  have e : decide (x.1 = y.1 ∧ x.2 = y.2) = (decide (x.1 = y.1) && (decide (x.2 = y.2) && (true))) := by simp [Bool.decide_and]
  rw [e]
  exact h
theorem v_tagNe {W : World} {ox oy : Operand} (x y : Bool × List UInt8) : RunV Tryz.prog W [] (sEq .neq 38 ox oy (vTag x) (vTag y)) (.bool (!decide (x.1 = y.1 ∧ x.2 = y.2))) := by
  have h := v_agNe (W := W) (t := 38) (ox := ox) (oy := oy) (by kernel_rfl) (by kernel_rfl) (by kernel_rfl) (eqTag x y)
  have e : decide (x.1 = y.1 ∧ x.2 = y.2) = (decide (x.1 = y.1) && (decide (x.2 = y.2) && (true))) := by simp [Bool.decide_and]
  rw [e]
  exact h
theorem v_choiceNe {W : World} {ox oy : Operand} (x y : List UInt8 × Int) : RunV Tryz.prog W [] (sEq .neq 69 ox oy (vChoice x) (vChoice y)) (.bool (!decide (x.1 = y.1 ∧ x.2 = y.2))) := by
  have h := v_agNe (W := W) (t := 69) (ox := ox) (oy := oy) (by kernel_rfl) (by kernel_rfl) (by kernel_rfl) (eqChoice x y)
  have e : decide (x.1 = y.1 ∧ x.2 = y.2) = (decide (x.1 = y.1) && (decide (x.2 = y.2) && (true))) := by simp [Bool.decide_and]
  rw [e]
  exact h
theorem v_dirNe {W : World} {ox oy : Operand} (x y : Dir) : RunV Tryz.prog W [] (sEq .neq 44 ox oy (vDir x) (vDir y)) (.bool (!decide (x.name = y.name ∧ x.value = y.value ∧ x.has = y.has))) := by
  have h := v_agNe (W := W) (t := 44) (ox := ox) (oy := oy) (by kernel_rfl) (by kernel_rfl) (by kernel_rfl) (eqDir x y)
  have e : decide (x.name = y.name ∧ x.value = y.value ∧ x.has = y.has) = (decide (x.name = y.name) && (decide (x.value = y.value) && (decide (x.has = y.has) && (true)))) := by simp [Bool.decide_and]
  rw [e]
  exact h
end Go.Proofs.YtcigoifhcfbcdaaGreatDoor.FD
