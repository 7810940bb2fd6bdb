/- What is done once, by the slow road. No conditions but those that each names. -/
import Derived.Test.YtcigoifhcfbcdaaGreatDoorFldZ1
import Derived.Test.YtcigoifhcfbcdaaGreatDoorFldE
import Derived.Test.YtcigoifhcfbcdaaGreatDoorFld3
import Derived.Test.YtcigoifhcfbcdaaGreatDoorIface
import Derived.Laws.CopyRow
import Derived.Lib.SliceRun
import Derived.Test.YtcigoifhcfbcdaaGreatDoorShapes4
import Derived.Test.YtcigoifhcfbcdaaGreatDoorFldR2
import Derived.Lib.Bytealg
import Derived.Test.YtcigoifhcfbcdaaGreatDoorFldU
import Derived.Test.YtcigoifhcfbcdaaGreatDoorFld9
set_option linter.unusedVariables false
set_option linter.unusedSimpArgs false
namespace Go.Proofs.YtcigoifhcfbcdaaGreatDoor.On
open Go Go.Proofs
set_option maxRecDepth 100000 in
set_option maxHeartbeats 4000000 in
theorem slow (b : Nat) (Q : World → Prop) (w : World)
    (h0 : w.cell? ⟨b, 0, none⟩ = some (.int .u32 0)) (h1 : w.cell? ⟨b, 1, none⟩ = some (.int .i32 0)) (f0 : w.frozen? ⟨b, 0, none⟩ = false) (f1 : w.frozen? ⟨b, 1, none⟩ = false)
    (hf : Calls Tryz.prog 39 #[.pointer (some ⟨b, 0, none⟩)] (w.setCell ⟨b, 1, none⟩ (.int .i32 1)) fun e w' => e = .returned (.tuple #[]) ∧ Q w')
    (hQ : ∀ w', Q w' → w'.cell? ⟨b, 0, none⟩ = some (.int .u32 0) ∧ w'.cell? ⟨b, 1, none⟩ = some (.int .i32 1) ∧ w'.frozen? ⟨b, 0, none⟩ = false ∧ w'.frozen? ⟨b, 1, none⟩ = false) :
    Calls Tryz.prog 55 #[.pointer (some ⟨b, 0, none⟩), .func (.func 39) #[.pointer (some ⟨b, 0, none⟩)] #[]] w fun e w' => e = .returned (.tuple #[]) ∧
      ∃ w1, Q w1 ∧ w' = ((w1.drew.setCell ⟨b, 0, none⟩ (.int .u32 1)).setCell ⟨b, 1, none⟩ (.int .i32 0)) := by
  have hld := load_ ⟨b, 0, none⟩ (w.setCell ⟨b, 1, none⟩ (.int .i32 1)) ((World.cell?_setCell_other _ ⟨b, 1, none⟩ ⟨b, 0, none⟩ _ (by simp)).trans h0)
  have hnot : ∀ (x : Bool) (w : World), (Op.unary .not (.bool x)).run Tryz.prog w = .ok (.bool (!x)) w := fun _ _ => rfl
  go_enter_defers Tryz.func55, Tryz.ntmps55
  go_wp2_with (first | (go_at_call 54; refine hld.mono ?_; rintro e w' ⟨rfl, rfl⟩) | (go_at_call 67; refine (lock_free ⟨b, 1, none⟩ _ (by go_simp) (by go_simp)).mono ?_; rintro e w' ⟨rfl, rfl⟩) | (go_at_call 39; refine hf.mono ?_; rintro e w' ⟨rfl, hq⟩))
  obtain ⟨q0, q1, g0, g1⟩ := hQ _ hq
  go_wp2
  refine leaves_cons (f := 69) (args := #[.pointer (some ⟨b, 0, none⟩), .bool true]) (by simp) (by simp [go_sem]) ?_
  refine (store_deferred ⟨b, 0, none⟩ (.int .u32 0) .returning _ q0 g0).mono ?_
  rintro e u' w'' ⟨rfl, rfl, rfl⟩
  refine leaves_cons (f := 68) (args := #[.pointer (some ⟨b, 1, none⟩)]) (by simp [settle]) (by simp [go_sem]) ?_
  refine (unlock_deferred ⟨b, 1, none⟩ _ _ ?_ (by simp [g1])).mono ?_
  · refine (World.cell?_setCell_other _ ⟨b, 0, none⟩ ⟨b, 1, none⟩ _ (by simp)).trans ?_
    rw [World.cell?_drew]
    exact q1
  rintro e u' w'' ⟨rfl, rfl, rfl⟩
  simp [Leaves, settle, results, Tryz.results55]
  exact ⟨_, hq, rfl⟩
end Go.Proofs.YtcigoifhcfbcdaaGreatDoor.On
namespace Go.Proofs.YtcigoifhcfbcdaaGreatDoor.FD
open Go Go.Proofs Go.RowKit Go.Proofs.YtcigoifhcfbcdaaGreatDoor.Sh Go.Proofs.YtcigoifhcfbcdaaGreatDoor.Sl Go.Proofs.YtcigoifhcfbcdaaGreatDoor.T
section
variable {P : Program} {W : World} {L L' : List HP} {Kp : PK} {k : Value → WP}
theorem e_copyS {dT sT ty e : TypeId} {b g o cap n dLen dCap sLen sCap : Nat} {a2 : Addr} {cs src : List Value} [ht : SlT P dT e 1 b] (p : Pick L (Sl 1 e (some ⟨g, 0, none⟩) cap n cs) L')
    (hs : src.length = sLen) (hd : sLen ≤ dLen) (hfit : o + sLen ≤ cs.length) (h1 : ∀ v ∈ src, v.oneCell' = true) (hsrc : ∀ w, sat W L w → ∀ j v, src[j]? = some v → w.cell? (a2.add j) = some v)
    (h : Ent W (Sl 1 e (some ⟨g, 0, none⟩) cap n (cs.take o ++ src ++ cs.drop (o + sLen)) :: L') (k (.int .i64 (sLen : Int)))) : Ent W L (opN P (sCopy #[dT, sT] ty [.slice (some ⟨g, o, none⟩) dLen dCap, .slice (some a2) sLen sCap]) Kp k) := fun w hw => by
  obtain ⟨i, z, hi, hz, hsz, hb, hzs⟩ := ht.info
  obtain ⟨rest, r1, r2, r3, r4, hw'⟩ := sl_row (hw.pick p)
  have hg := hw'.pt_.1
  have hr := run_copy_row (P := P) w dT sT ty e g o dLen dCap a2 sLen sCap (cs ++ rest).toArray e src ht.ut (by rw [hi]; simp [hsz]) hg (by rw [hs]; exact (Nat.min_eq_left hd).symm) (hsrc w hw) (by simp; omega) h1
  refine ⟨?_⟩
  have e1 : (cs ++ rest).toArray.toList.take o ++ src ++ (cs ++ rest).toArray.toList.drop (o + src.length) = (cs.take o ++ src ++ cs.drop (o + sLen)) ++ rest := by
    simp only [List.toList_toArray]
    rw [List.take_append_of_le_length (by omega), List.drop_append_of_le_length (by omega), hs]
    simp
  rw [e1] at hr
  have : (sCopy #[dT, sT] ty [.slice (some ⟨g, o, none⟩) dLen dCap, .slice (some a2) sLen sCap]).run P w = .ok (.value (.int .i64 (sLen : Int))) (w.setRow g ((cs.take o ++ src ++ cs.drop (o + sLen)) ++ rest).toArray) := by
    simp [sCopy, hr, goInt, hs]
  rw [this]
  refine h _ (sl_back r1 ?_ r3 r4 ?_)
  · simp only [List.length_append, List.length_take, List.length_drop, hs]
    omega
  · refine hw'.turn rfl rfl rfl (by simp [World.setRow]) (setRow_heap w g _ _ e (0, 0) hg) (fun i hi => setRow_other _ _ _ _ hi)
theorem v_slEqNil {t e : TypeId} {s b n c : Nat} {ox oy : Operand} {a : Option Addr} [ht : SlT P t e s b] : RunV P W [] (sEq .eql t ox oy (.slice a n c) (.slice none 0 0)) (.bool a.isNone) := fun w _ => by
  have := Lib.run_eql_slice_nil (P := P) w t e a n c 0 0 ht.ut
  simp [sEq, sv, eqGuard, this]
theorem v_slNeNil {t e : TypeId} {s b n c : Nat} {ox oy : Operand} {a : Option Addr} [ht : SlT P t e s b] : RunV P W [] (sEq .neq t ox oy (.slice a n c) (.slice none 0 0)) (.bool (!a.isNone)) := fun w _ => by
  have := run_neq_slice_nil (P := P) w t e a n c ht.ut
  simp [sEq, sv, eqGuard, this]
end
def Rn (n : Nat) (f : Nat → Value) (z : Value) : Array Value := ((List.range n).map f ++ [z]).toArray
theorem Rn_size (n : Nat) (f : Nat → Value) (z : Value) : (Rn n f z).size = n + 1 := by simp [Rn]
theorem Rn_get {n j : Nat} {f : Nat → Value} {z : Value} (h : j < n) : (Rn n f z)[j]? = some (f j) := by simp [Rn, List.getElem?_append, h]
theorem Rn_last {n : Nat} {f : Nat → Value} {z : Value} : (Rn n f z)[n]? = some z := by simp [Rn]
theorem Rn_set {n j : Nat} {f : Nat → Value} {z v : Value} (h : j < n) : (Rn n f z).setIfInBounds j v = Rn n (fun i => if i = j then v else f i) z := by
  apply Array.ext_getElem?
  intro i
  rw [Array.getElem?_setIfInBounds, Rn_size]
  by_cases c : j = i
  · subst c
    rw [if_pos rfl, if_pos (by omega), Rn_get h]; simp
  · rw [if_neg c]
    by_cases h2 : i < n
    · rw [Rn_get h2, Rn_get h2, if_neg (fun e => c e.symm)]
    · by_cases h3 : i = n
      · subst h3; rw [Rn_last, Rn_last]
      · rw [Array.getElem?_eq_none (by rw [Rn_size]; omega), Array.getElem?_eq_none (by rw [Rn_size]; omega)]
theorem Rn_setl {n : Nat} {f : Nat → Value} {z v : Value} : (Rn n f z).setIfInBounds n v = Rn n f v := by
  apply Array.ext_getElem?
  intro i
  rw [Array.getElem?_setIfInBounds, Rn_size]
  by_cases c : n = i
  · subst c
    rw [if_pos rfl, if_pos (by omega), Rn_last]
  · rw [if_neg c]
    by_cases h2 : i < n
    · rw [Rn_get h2, Rn_get h2]
    · rw [Array.getElem?_eq_none (by rw [Rn_size]; omega), Array.getElem?_eq_none (by rw [Rn_size]; omega)]
theorem Rn_congr {n : Nat} {f g : Nat → Value} {z : Value} (h : ∀ j, j < n → f j = g j) : Rn n f z = Rn n g z := by
  unfold Rn
  congr 2
  exact List.map_congr_left fun j hj => h j (List.mem_range.1 hj)
theorem rn_one {n : Nat} {f : Nat → Value} {z : Value} (h : ∀ j, (f j).oneCell' = true) (hz : z.oneCell' = true) : ∀ u ∈ (Rn n f z).toList, u.oneCell' = true := by
  intro u hu
  simp only [Rn] at hu
  rcases List.mem_append.1 hu with hu | hu
  · obtain ⟨j, _, rfl⟩ := List.mem_map.1 hu
    exact h j
  · rw [List.mem_singleton.1 hu]; exact hz
def nilS : Value := .slice none 0 0
instance zeroBsr : ZeroT Tryz.prog 144 (.agg (Rn 256 (fun _ => nilS) nilS)) := ⟨fun w => (Tryz.zeroValue144 w).trans (by
  have : Tryz.zeroCells144 = Rn 256 (fun _ => nilS) nilS := by kernel_rfl
  rw [this])⟩
theorem v_bsr {W : World} {a : Option Addr} {n c : Nat} : RunV Tryz.prog W [] (sBuild 144 [(1, .slice a n c)]) (.agg (Rn 256 (fun _ => nilS) (.slice a n c))) := fun w _ => by
  have hz := zeroBsr.run w
  have h2 : ((Rn 256 (fun _ => nilS) nilS).setIfInBounds 256 (.slice a n c)) = Rn 256 (fun _ => nilS) (.slice a n c) := Rn_setl
  simp [sBuild, Instr.build, hz, Tryz.runUnderlying144, Tryz.sizeOf50, cells_agg, Instr.fill]
  rw [show (Value.slice a n c).cells = #[.slice a n c] from rfl]
  simp [Rn_size, h2]
/-- what is replaced, by what -/
def onw : List Value := [txt [34], txt [92, 34], txt [92], txt [92, 92]]
theorem newReplacer {W : World} {g c : Nat} : Cn Tryz.prog 22 [.slice (some ⟨g, 0, none⟩) 4 c] W [pt g (.cells onw.toArray 9 (0, 0))] (fun r : Nat × Option Addr × Nat => .pointer (some ⟨r.1, 0, none⟩))
    (fun r => [pt r.1 (.cells #[.int .u32 0, .int .i32 0, .int .u32 0, .nilIface, .slice r.2.1 4 r.2.2] 100 (0, 0)), Sl 1 9 r.2.1 r.2.2 4 onw]) := by
  (refine S.strings_NewReplacer_cn fun F => ?_; unfold S.strings_NewReplacer; simp only [List.cons_append, List.nil_append])
  refine e_opN v_len Imp.nil ?_
  refine e_opN (v_rem (by omega) (by omega)) Imp.nil ?_
  refine e_opN v_eql Imp.nil ?_
  rw [decide_eq_false (by decide)]
  refine e_condF ?_
  refine e_nil (s := 1) (e := 9) ?_
  refine e_app (n := 0) (m := 4) (news := onw) .here (src_pt (e' := 9) (by kernel_rfl) (.there .here) (by rfl) (by intro u hu; simp [onw] at hu; rcases hu with rfl | rfl | rfl | rfl <;> rfl)) (by omega) (by omega) fun a' c' => ?_
  refine e_opN v_rv Imp.nil ?_
  refine e_boxA fun gb => ?_
  (first | refine e_ret ((gb, a', c')) rfl ?_ | refine e_retT ((gb, a', c')) ?_)
  refine .pick .here ?_
  (repeat (first | exact Imp.refl | exact Imp.nil | (apply Imp.pick; (focus ((repeat constructor); done))) | refine Imp.drop ?_))
/-- the table of what is put in the place of single bytes -/
def bsr (q s : Option Addr × Nat) : Nat → Value := fun j => if j = 34 then .slice q.1 2 q.2 else if j = 92 then .slice s.1 2 s.2 else nilS
def bF (i : Int) (q s : Nat × Nat) : Nat → Value := fun j => if j = 34 ∧ i < 0 then .slice (some ⟨q.1, 0, none⟩) 2 q.2 else if j = 92 ∧ i < 2 then .slice (some ⟨s.1, 0, none⟩) 2 s.2 else nilS
theorem bF_one {i : Int} {q s : Nat × Nat} : ∀ j, (bF i q s j).oneCell' = true := by
  intro j
  unfold bF nilS
  split
  · rfl
  · split <;> rfl
def tbl (g : Nat) (q s : Nat × Nat) (z : Option Addr × Nat) : HP := ex fun R : List Value × List Value => all [pt g (.cells (Rn 256 (bF (-2) q s) (.slice z.1 2 z.2)) 144 (0, 0)), Sl 1 9 z.1 z.2 2 [txt [92], txt [34]],
  pt q.1 (.cells ([92, 34].map B ++ R.1).toArray 5 (2 + R.1.length, 2 + R.1.length + 1)), pt s.1 (.cells ([92, 92].map B ++ R.2).toArray 5 (2 + R.2.length, 2 + R.2.length + 1))]
theorem build {W : World} {b c : Nat} {a : Option Addr} {x0 x1 x2 x3 : Value} : Cn Tryz.prog 56 [.pointer (some ⟨b, 0, none⟩)] W [pt b (.cells #[x0, x1, x2, x3, .slice a 4 c] 100 (0, 0)), Sl 1 9 a c 4 onw]
    (fun r : Nat × (Nat × Nat) × (Nat × Nat) × Option Addr × Nat => .iface 145 (.pointer (some ⟨r.1, 0, none⟩))) (fun r => [pt b (.cells #[x0, x1, x2, x3, .slice a 4 c] 100 (0, 0)), tbl r.1 r.2.1 r.2.2.1 r.2.2.2]) := by
  (refine S.strings_Replacer_build_cn fun F => ?_; unfold S.strings_Replacer_build; simp only [List.cons_append, List.nil_append])
  refine e_opN v_nil Imp.nil ?_
  refine e_opN v_fa0 Imp.nil ?_
  refine e_opN (v_ldN (.there (.there (.there (.there .here))))) (.pick .here .nil) ?_
  refine e_opN v_len Imp.nil ?_
  refine e_opN v_eql Imp.nil ?_
  rw [decide_eq_false (by decide)]
  ((with_reducible refine e_gdF2 ?_)); ((with_reducible refine e_gdF2 ?_)); ((with_reducible refine e_gdF2 ?_)); ((with_reducible refine e_gdF2 ?_)); ((with_reducible refine e_gdF2 ?_)); (((with_reducible refine e_opN v_pickF Imp.nil ?_))); ((with_reducible refine e_condF ?_))
  refine e_slsome (a := a) (.there .here) (by decide) fun g hg => ?_
  subst hg
  have ld : ∀ (i : Nat) (l : List UInt8), onw[i]? = some (txt l) → RunV Tryz.prog W [Sl 1 9 (some ⟨g, 0, none⟩) c 4 onw] (sLoad 9 (.pointer (some ⟨g, 0 + i, none⟩))) (txt l) := fun i l h => v_ldSl (by rw [Nat.zero_add]; exact h)
  refine e_loop2 (fun m x y => [ex fun i : Nat => all [pu (m + i = 4 ∧ (i = 0 ∨ i = 2 ∨ i = 4) ∧ x = .bool (decide (i = 0)) ∧ y = .int .i64 (i : Int)), pt b (.cells #[x0, x1, x2, x3, .slice (some ⟨g, 0, none⟩) 4 c] 100 (0, 0)), Sl 1 9 (some ⟨g, 0, none⟩) c 4 onw]] ++ F) 4 ?_ ?_
  · refine Imp.ex 0 (.all ?_)
    (try simp only [List.cons_append, List.nil_append, -eq_self])
    exact .pu ⟨rfl, .inl rfl, rfl, rfl⟩ .refl
  intro m ds x y
  (try simp only [List.cons_append, List.nil_append, -eq_self])
  refine e_ex Pick.here fun i => e_all Pick.here ?_
  (try simp only [List.cons_append, List.nil_append, -eq_self])
  refine e_pu Pick.here fun hi => ?_
  obtain ⟨hmi, h3, rfl, rfl⟩ := hi
  refine e_opN v_len Imp.nil ?_
  refine e_ask v_lss Imp.nil (fun h => ?_) (fun h => ?_)
  · have hil : i < 4 := by omega
    refine e_condT ?_
    refine e_opN (v_ia1 i rfl hil) Imp.nil ?_
    have lds : ∃ l1 l2 : List UInt8, onw[i]? = some (txt l1) ∧ l1.length = 1 ∧ onw[i + 1]? = some (txt l2) ∧ l2.length = 2 := by
      rcases h3 with rfl | rfl | rfl
      · exact ⟨[34], [92, 34], rfl, rfl, rfl, rfl⟩
      · exact ⟨[92], [92, 92], rfl, rfl, rfl, rfl⟩
      · omega
    obtain ⟨l1, l2, k1, k2, k3, k4⟩ := lds
    refine e_opN (ld i l1 k1) (.pick (by (repeat constructor)) .nil) ?_
    refine e_opN v_lent Imp.nil ?_
    refine e_opN v_neq Imp.nil ?_
    rw [decide_eq_false (fun c => c (by rw [k2]; rfl))]
    refine e_condF ?_
    refine e_opN (v_add (by omega) (by omega)) Imp.nil ?_
    refine e_opN (v_ia1 (i + 1) rfl (by omega)) Imp.nil ?_
    refine e_opN (ld (i + 1) l2 k3) (.pick (by (repeat constructor)) .nil) ?_
    refine e_opN v_lent Imp.nil ?_
    refine e_opN v_neq Imp.nil ?_
    rw [decide_eq_true (show ((l2.length : Nat) : Int) ≠ 1 by omega)]
    refine e_condT ?_
    refine e_opN (v_add (by omega) (by omega)) Imp.nil ?_
    refine e_next2 (m - 2) (by omega) (.ex (i + 2) (.all ?_))
    (try simp only [List.cons_append, List.nil_append, -eq_self])
    refine .pu ⟨by omega, by omega, by rw [decide_eq_false (by omega)], rfl⟩ ?_
    exact .refl
  · have h4 : i = 4 := by omega
    subst h4
    rw [show decide ((4 : Nat) = 0) = false from rfl]
    refine e_condF ?_
    refine e_condF ?_
    refine e_opN v_len Imp.nil ?_
    refine e_opN (v_quo (by omega) (by omega) (by omega)) Imp.nil ?_
    refine e_mksl (z := .string ⟨#[]⟩) 0 2 rfl rfl (by omega) (by decide) (by decide) fun gz => ?_
    refine e_opN v_bsr Imp.nil ?_
    refine e_newA fun bt => ?_
    refine e_stAgg .here (Rn_size _ _ _) (Rn_size _ _ _) (rn_one (fun _ => rfl) rfl) ?_
    refine e_opN v_len Imp.nil ?_
    refine e_opN (v_sub (by omega) (by omega)) Imp.nil ?_
    refine e_loop1 (fun m y => [ex fun st : Int × ((Nat × Nat) × (Nat × Nat)) × (Option Addr × Nat) × List Value × List Value × List Value => all [pu (((m = 4 ∧ st.1 = 2 ∧ st.2.2.2.1 = []) ∨ (m = 2 ∧ st.1 = 0 ∧ st.2.2.2.1 = [txt [92]]) ∨ (m = 0 ∧ st.1 = -2 ∧ st.2.2.2.1 = [txt [92], txt [34]])) ∧ y = .int .i64 st.1),
      pt bt (.cells (Rn 256 (bF st.1 st.2.1.1 st.2.1.2) (.slice st.2.2.1.1 st.2.2.2.1.length st.2.2.1.2)) 144 (0, 0)), Sl 1 9 st.2.2.1.1 st.2.2.1.2 st.2.2.2.1.length st.2.2.2.1,
      (if st.1 < 0 then pt st.2.1.1.1 (.cells ([92, 34].map B ++ st.2.2.2.2.1).toArray 5 (2 + st.2.2.2.2.1.length, 2 + st.2.2.2.2.1.length + 1)) else pu True), (if st.1 < 2 then pt st.2.1.2.1 (.cells ([92, 92].map B ++ st.2.2.2.2.2).toArray 5 (2 + st.2.2.2.2.2.length, 2 + st.2.2.2.2.2.length + 1)) else pu True),
      pt b (.cells #[x0, x1, x2, x3, .slice (some ⟨g, 0, none⟩) 4 c] 100 (0, 0)), Sl 1 9 (some ⟨g, 0, none⟩) c 4 onw]] ++ F) 4 ?_ ?_
    · refine Imp.ex (2, ((0, 0), (0, 0)), (some ⟨gz, 0, none⟩, 2), [], [], []) (.all ?_)
      (try simp only [List.cons_append, List.nil_append, -eq_self])
      refine .pu ⟨.inl ⟨rfl, rfl, rfl⟩, rfl⟩ ?_
      have e : Rn 256 (bF 2 (0, 0) (0, 0)) (.slice (some ⟨gz, 0, none⟩) 0 2) = Rn 256 (fun _ => nilS) (.slice (some ⟨gz, 0, none⟩) 0 2) := Rn_congr fun j _ => by simp [bF]
      simp only [List.length_nil]
      rw [e]
      refine .pick .here (.pick .here ?_)
      refine .pu trivial (.pu trivial ?_)
      exact .refl
    intro m ds y
    (try simp only [List.cons_append, List.nil_append, -eq_self])
    refine e_ex Pick.here fun st => e_all Pick.here ?_
    obtain ⟨i, ⟨q, s⟩, ⟨za, zc⟩, tr, R0, R1⟩ := st
    (try simp only [List.cons_append, List.nil_append, -eq_self])
    refine e_pu Pick.here fun hi => ?_
    (try dsimp only at hi)
    obtain ⟨hi, rfl⟩ := hi
    (try dsimp only)
    rcases hi with ⟨rfl, rfl, rfl⟩ | ⟨rfl, rfl, rfl⟩ | ⟨rfl, rfl, rfl⟩
    · rw [if_neg (by decide), if_neg (by decide)]
      refine e_pu (.there (.there .here)) fun _ => ?_
      refine e_pu (.there (.there .here)) fun _ => ?_
      simp only [List.length_nil]
      refine e_opN v_geq Imp.nil ?_
      rw [decide_eq_true (by decide)]
      refine e_condT ?_
      refine e_opN (v_ia1 2 rfl (by decide)) Imp.nil ?_
      refine e_opN (ld 2 [92] rfl) (.pick (by (repeat constructor)) .nil) ?_
      refine e_opN (v_ixS (l := [92]) 0 rfl (by decide)) Imp.nil ?_
      refine e_opN (v_add (by omega) (by omega)) Imp.nil ?_
      refine e_opN (v_ia1 3 rfl (by decide)) Imp.nil ?_
      refine e_opN (ld 3 [92, 92] rfl) (.pick (by (repeat constructor)) .nil) ?_
      refine e_cut0 ([ex fun z : Option Addr × Nat => all [pt bt (.cells (Rn 256 (bF 2 q s) (.slice z.1 1 z.2)) 144 (0, 0)), Sl 1 9 z.1 z.2 1 (([] : List Value) ++ [txt [92]])]] ++ (pt b (.cells #[x0, x1, x2, x3, .slice (some ⟨g, 0, none⟩) 4 c] 100 (0, 0)) :: Sl 1 9 (some ⟨g, 0, none⟩) c 4 onw :: F)) ?_ ?_
      rotate_left
      · refine e_opN v_fa0 Imp.nil ?_
        refine e_opN (v_iaA 92 rfl (by decide)) Imp.nil ?_
        rw [Nat.zero_add, Nat.mul_one]
        refine e_opN (v_ld (Rn_get (by decide))) (.pick .here .nil) ?_
        rw [show bF 2 q s 92 = .slice none 0 0 from rfl]
        refine e_opN v_slEqNil Imp.nil ?_
        rw [show (none : Option Addr).isNone = true from rfl]
        refine e_condT ?_
        refine e_opN v_fa0 Imp.nil ?_
        refine e_opN (v_ld Rn_last) (.pick .here .nil) ?_
        refine e_bsl1 fun gb => ?_
        refine e_opN (v_str (l := [92]) (rd_pt (cs := [B 92]) rfl) (by intro h; cases h)) (.pick .here .nil) ?_
        refine e_bsl1 fun gb2 => ?_
        refine e_app (m := 1) (news := [txt [92]]) (by (repeat constructor)) (src_pt (e' := 9) (by kernel_rfl) .here (by rfl) (by intro u hu; rw [List.mem_singleton.1 hu]; rfl)) (by decide) (by decide) fun a' c' => ?_
        refine e_opN v_fa0 Imp.nil ?_
        refine e_st (by (repeat constructor)) (by rw [Rn_size]; decide) ?_
        rw [Rn_setl]
        refine e_sat (.ex (a', c') (.all ?_))
        (try simp only [List.cons_append, List.nil_append, -eq_self])
        refine .pick .here (.pick (by (repeat constructor)) ?_)
        (repeat (first | exact Imp.refl | exact Imp.nil | (apply Imp.pick; (focus ((repeat constructor); done))) | refine Imp.drop ?_))
      intro ds0
      (try simp only [List.cons_append, List.nil_append, -eq_self])
      refine e_ex .here fun z2 => e_all .here ?_
      obtain ⟨za2, zc2⟩ := z2
      (try simp only [List.cons_append, List.nil_append, -eq_self])
      refine e_sbytesF Tryz.underlying57 Tryz.underlying5 fun gq cq rest => ?_
      refine e_opN v_fa0 Imp.nil ?_
      refine e_opN (v_iaA 92 rfl (by decide)) Imp.nil ?_
      rw [Nat.zero_add, Nat.mul_one]
      refine e_st (.there .here) (by rw [Rn_size]; decide) ?_
      rw [Rn_set (by decide)]
      refine e_opN (v_sub (by omega) (by omega)) Imp.nil ?_
      refine e_next1 2 (by omega) (.ex (0, (q, (gq, cq)), (za2, zc2), [txt [92]], R0, rest) (.all ?_))
      (try simp only [List.cons_append, List.nil_append, -eq_self])
      refine .pu ⟨.inr (.inl ⟨rfl, rfl, rfl⟩), rfl⟩ ?_
      rw [show (Rn 256 (fun i => if i = 92 then Value.slice (some ⟨gq, 0, none⟩) ([92, 92] : List UInt8).length cq else bF 2 q s i) (.slice za2 1 zc2)) = Rn 256 (bF 0 q (gq, cq)) (.slice za2 1 zc2) from Rn_congr fun j _ => by
        unfold bF
        by_cases h1 : j = 92 <;> by_cases h2 : j = 34 <;> simp [h1, h2]]
      simp only [List.length_singleton]
      refine .pick (by (repeat constructor)) (.pick (by (repeat constructor)) ?_)
      rw [if_neg (by decide), if_pos (by decide)]
      refine .pu trivial (.pick (by (repeat constructor)) ?_)
      (repeat (first | exact Imp.refl | exact Imp.nil | (apply Imp.pick; (focus ((repeat constructor); done))) | refine Imp.drop ?_))
    · rw [if_neg (by decide), if_pos (by decide)]
      refine e_pu (.there (.there .here)) fun _ => ?_
      simp only [List.length_singleton]
      refine e_opN v_geq Imp.nil ?_
      rw [decide_eq_true (by decide)]
      refine e_condT ?_
      refine e_opN (v_ia1 0 rfl (by decide)) Imp.nil ?_
      refine e_opN (ld 0 [34] rfl) (.pick (by (repeat constructor)) .nil) ?_
      refine e_opN (v_ixS (l := [34]) 0 rfl (by decide)) Imp.nil ?_
      refine e_opN (v_add (by omega) (by omega)) Imp.nil ?_
      refine e_opN (v_ia1 1 rfl (by decide)) Imp.nil ?_
      refine e_opN (ld 1 [92, 34] rfl) (.pick (by (repeat constructor)) .nil) ?_
      refine e_cut0 ([ex fun z : Option Addr × Nat => all [pt bt (.cells (Rn 256 (bF 0 q s) (.slice z.1 2 z.2)) 144 (0, 0)), Sl 1 9 z.1 z.2 2 ([txt [92]] ++ [txt [34]])]] ++ (pt s.1 (.cells ([92, 92].map B ++ R1).toArray 5 (2 + R1.length, 2 + R1.length + 1)) :: pt b (.cells #[x0, x1, x2, x3, .slice (some ⟨g, 0, none⟩) 4 c] 100 (0, 0)) :: Sl 1 9 (some ⟨g, 0, none⟩) c 4 onw :: F)) ?_ ?_
      rotate_left
      · refine e_opN v_fa0 Imp.nil ?_
        refine e_opN (v_iaA 34 rfl (by decide)) Imp.nil ?_
        rw [Nat.zero_add, Nat.mul_one]
        refine e_opN (v_ld (Rn_get (by decide))) (.pick .here .nil) ?_
        rw [show bF 0 q s 34 = .slice none 0 0 from rfl]
        refine e_opN v_slEqNil Imp.nil ?_
        rw [show (none : Option Addr).isNone = true from rfl]
        refine e_condT ?_
        refine e_opN v_fa0 Imp.nil ?_
        refine e_opN (v_ld Rn_last) (.pick .here .nil) ?_
        refine e_bsl1 fun gb => ?_
        refine e_opN (v_str (l := [34]) (rd_pt (cs := [B 34]) rfl) (by intro h; cases h)) (.pick .here .nil) ?_
        refine e_bsl1 fun gb2 => ?_
        refine e_app (m := 1) (news := [txt [34]]) (by (repeat constructor)) (src_pt (e' := 9) (by kernel_rfl) .here (by rfl) (by intro u hu; rw [List.mem_singleton.1 hu]; rfl)) (by decide) (by decide) fun a' c' => ?_
        refine e_opN v_fa0 Imp.nil ?_
        refine e_st (by (repeat constructor)) (by rw [Rn_size]; decide) ?_
        rw [Rn_setl]
        refine e_sat (.ex (a', c') (.all ?_))
        (try simp only [List.cons_append, List.nil_append, -eq_self])
        refine .pick .here (.pick (by (repeat constructor)) ?_)
        (repeat (first | exact Imp.refl | exact Imp.nil | (apply Imp.pick; (focus ((repeat constructor); done))) | refine Imp.drop ?_))
      intro ds0
      (try simp only [List.cons_append, List.nil_append, -eq_self])
      refine e_ex .here fun z2 => e_all .here ?_
      obtain ⟨za2, zc2⟩ := z2
      (try simp only [List.cons_append, List.nil_append, -eq_self])
      refine e_sbytesF Tryz.underlying57 Tryz.underlying5 fun gq cq rest => ?_
      refine e_opN v_fa0 Imp.nil ?_
      refine e_opN (v_iaA 34 rfl (by decide)) Imp.nil ?_
      rw [Nat.zero_add, Nat.mul_one]
      refine e_st (.there .here) (by rw [Rn_size]; decide) ?_
      rw [Rn_set (by decide)]
      refine e_opN (v_sub (by omega) (by omega)) Imp.nil ?_
      refine e_next1 0 (by omega) (.ex (-2, ((gq, cq), s), (za2, zc2), [txt [92], txt [34]], rest, R1) (.all ?_))
      (try simp only [List.cons_append, List.nil_append, -eq_self])
      refine .pu ⟨.inr (.inr ⟨rfl, rfl, rfl⟩), rfl⟩ ?_
      rw [show (Rn 256 (fun i => if i = 34 then Value.slice (some ⟨gq, 0, none⟩) ([92, 34] : List UInt8).length cq else bF 0 q s i) (.slice za2 2 zc2)) = Rn 256 (bF (-2) (gq, cq) s) (.slice za2 2 zc2) from Rn_congr fun j _ => by
        unfold bF
        by_cases h1 : j = 92 <;> by_cases h2 : j = 34 <;> simp [h1, h2]]
      refine .pick (by (repeat constructor)) (.pick (by (repeat constructor)) ?_)
      rw [if_pos (by decide), if_pos (by decide)]
      refine .pick (by (repeat constructor)) (.pick (by (repeat constructor)) ?_)
      (repeat (first | exact Imp.refl | exact Imp.nil | (apply Imp.pick; (focus ((repeat constructor); done))) | refine Imp.drop ?_))
    · rw [if_pos (by decide), if_pos (by decide)]
      refine e_opN v_geq Imp.nil ?_
      rw [decide_eq_false (by decide)]
      refine e_condF ?_
      refine e_opN (v_mkP (u := 144) Tryz.underlying145) Imp.nil ?_
      (first | refine e_ret ((bt, q, s, za, zc)) rfl ?_ | refine e_retT ((bt, q, s, za, zc)) ?_)
      refine .pick (by (repeat constructor)) ?_
      unfold tbl
      refine .ex (R0, R1) (.all ?_)
      (try simp only [List.cons_append, List.nil_append, -eq_self])
      refine .pick (by (repeat constructor)) (.pick (by (repeat constructor)) (.pick (by (repeat constructor)) (.pick (by (repeat constructor)) ?_)))
      (repeat (first | exact Imp.refl | exact Imp.nil | (apply Imp.pick; (focus ((repeat constructor); done))) | refine Imp.drop ?_))
end Go.Proofs.YtcigoifhcfbcdaaGreatDoor.FD
namespace Go.Proofs.YtcigoifhcfbcdaaGreatDoor.FD
open Go Go.Proofs Go.RowKit Go.Proofs.YtcigoifhcfbcdaaGreatDoor.Sh Go.Proofs.YtcigoifhcfbcdaaGreatDoor.Sl Go.Proofs.YtcigoifhcfbcdaaGreatDoor.T
theorem buildOnce {W : World} {b c : Nat} {a : Option Addr} {x0 x1 x2 : Value} : Cn Tryz.prog 39 [.pointer (some ⟨b, 0, none⟩)] W [pt b (.cells #[x0, x1, x2, .nilIface, .slice a 4 c] 100 (0, 0)), Sl 1 9 a c 4 onw]
    (fun _ : Nat × (Nat × Nat) × (Nat × Nat) × Option Addr × Nat => .tuple #[]) (fun r => [pt b (.cells #[x0, x1, x2, .iface 145 (.pointer (some ⟨r.1, 0, none⟩)), .slice none 0 0] 100 (0, 0)), tbl r.1 r.2.1 r.2.2.1 r.2.2.2]) := by
  (refine S.strings_Replacer_buildOnce_cn fun F => ?_; unfold S.strings_Replacer_buildOnce; simp only [List.cons_append, List.nil_append])
  refine e_call build (.cons (.here) (.cons .here .nil)) fun r => ?_
  (try simp only [List.cons_append, List.nil_append, -eq_self])
  refine e_opN v_nil Imp.nil ?_
  refine e_opN v_fa0 Imp.nil ?_
  refine e_stN .here (.there (.there (.there .here))) ?_
  refine e_opN v_nil Imp.nil ?_
  refine e_opN v_fa0 Imp.nil ?_
  refine e_stN .here (.there (.there (.there (.there .here)))) ?_
  (first | refine e_ret (r) rfl ?_ | refine e_retT (r) ?_)
  exact .refl
theorem boolLoad {W : World} {b : Nat} {x1 x2 x3 x4 : Value} : Cn Tryz.prog 54 [.pointer (some ⟨b, 0, none⟩)] W [pt b (.cells #[.int .u32 0, x1, x2, x3, x4] 100 (0, 0))] (fun _ : Unit => .bool false) (fun _ => [pt b (.cells #[.int .u32 0, x1, x2, x3, x4] 100 (0, 0))]) :=
  ⟨Tryz.call54, fun F w hw => (On.load_ ⟨b, 0, none⟩ w (by have h := hw; simp only [List.cons_append, List.nil_append] at h; rw [h.cell]; rfl)).mono fun e w' ⟨he, hb⟩ => ⟨(), he, by rw [hb]; exact hw⟩⟩
theorem doSlow {W : World} {b c : Nat} {a : Option Addr} : Cn Tryz.prog 55 [.pointer (some ⟨b, 0, none⟩), .func (.func 39) #[.pointer (some ⟨b, 0, none⟩)] #[]] W [pt b (.cells #[.int .u32 0, .int .i32 0, .int .u32 0, .nilIface, .slice a 4 c] 100 (0, 0)), Sl 1 9 a c 4 onw]
    (fun _ : Nat × (Nat × Nat) × (Nat × Nat) × Option Addr × Nat => .tuple #[]) (fun r => [pt b (.cells #[.int .u32 1, .int .i32 0, .int .u32 0, .iface 145 (.pointer (some ⟨r.1, 0, none⟩)), .slice none 0 0] 100 (0, 0)), tbl r.1 r.2.1 r.2.2.1 r.2.2.2]) := by
  refine ⟨Tryz.call55, fun F w hw => ?_⟩
  simp only [List.cons_append, List.nil_append] at hw
  have hw1 := hw.setCell (o := 1) (.int .i32 1)
  rw [show (#[.int .u32 0, .int .i32 0, .int .u32 0, .nilIface, .slice a 4 c] : Array Value).setIfInBounds 1 (.int .i32 1) = #[.int .u32 0, .int .i32 1, .int .u32 0, .nilIface, .slice a 4 c] from rfl] at hw1
  have hf := (buildOnce (W := W) (b := b) (c := c) (a := a) (x0 := .int .u32 0) (x1 := .int .i32 1) (x2 := .int .u32 0)).run F _ hw1
  refine (On.slow b (fun w' => ∃ r : Nat × (Nat × Nat) × (Nat × Nat) × Option Addr × Nat, sat W (pt b (.cells #[.int .u32 0, .int .i32 1, .int .u32 0, .iface 145 (.pointer (some ⟨r.1, 0, none⟩)), .slice none 0 0] 100 (0, 0)) :: tbl r.1 r.2.1 r.2.2.1 r.2.2.2 :: F) w') w
    (by rw [hw.cell]; rfl) (by rw [hw.cell]; rfl) hw.free hw.free (hf.mono fun e w' ⟨r, he, hs⟩ => ⟨he, r, hs⟩) (fun w' ⟨r, hs⟩ => ⟨by rw [hs.cell]; rfl, by rw [hs.cell]; rfl, hs.free, hs.free⟩)).mono fun e w' ⟨he, w1, ⟨r, hs⟩, hw'⟩ => ⟨r, he, ?_⟩
  subst hw'
  have h1 := (hs.drew).setCell (o := 0) (.int .u32 1)
  have h2 := h1.setCell (o := 1) (.int .i32 0)
  exact h2
theorem onceDo {W : World} {b c : Nat} {a : Option Addr} : Cn Tryz.prog 38 [.pointer (some ⟨b, 0, none⟩), .func (.func 39) #[.pointer (some ⟨b, 0, none⟩)] #[]] W [pt b (.cells #[.int .u32 0, .int .i32 0, .int .u32 0, .nilIface, .slice a 4 c] 100 (0, 0)), Sl 1 9 a c 4 onw]
    (fun _ : Nat × (Nat × Nat) × (Nat × Nat) × Option Addr × Nat => .tuple #[]) (fun r => [pt b (.cells #[.int .u32 1, .int .i32 0, .int .u32 0, .iface 145 (.pointer (some ⟨r.1, 0, none⟩)), .slice none 0 0] 100 (0, 0)), tbl r.1 r.2.1 r.2.2.1 r.2.2.2]) := by
  (refine S.sync_Once_Do_cn fun F => ?_; unfold S.sync_Once_Do; simp only [List.cons_append, List.nil_append])
  refine e_opN v_nil Imp.nil ?_
  refine e_opN v_fa0 Imp.nil ?_
  refine e_call boolLoad (.cons .here .nil) fun _ => ?_
  (try simp only [List.cons_append, List.nil_append, -eq_self])
  refine e_opN v_notF Imp.nil ?_
  refine e_condT ?_
  refine e_call doSlow (.cons .here (.cons .here .nil)) fun r => ?_
  (try simp only [List.cons_append, List.nil_append, -eq_self])
  (first | refine e_ret (r) rfl ?_ | refine e_retT (r) ?_)
  exact .refl
def escB (c : UInt8) : List UInt8 := if c = 34 ∨ c = 92 then [92, c] else [c]
def escF (s : List UInt8) : List UInt8 := s.flatMap escB
def cntE : List UInt8 → Nat
  | [] => 0
  | c :: r => (if c = 34 ∨ c = 92 then 1 else 0) + cntE r
theorem escF_len : ∀ s : List UInt8, (escF s).length = s.length + cntE s
  | [] => rfl
  | c :: r => by
    have ih := escF_len r
    unfold escF at ih ⊢
    rw [List.flatMap_cons, List.length_append, ih, cntE]
    unfold escB
    split <;> simp <;> omega
theorem cntE_app (a b : List UInt8) : cntE (a ++ b) = cntE a + cntE b := by
  induction a with
  | nil => simp [cntE]
  | cons c r ih => simp [cntE, ih]; omega
theorem cntE_le (s : List UInt8) : cntE s ≤ s.length := by
  induction s with
  | nil => simp [cntE]
  | cons c r ih => simp [cntE]; split <;> omega
theorem escF_none {s : List UInt8} (h : cntE s = 0) : escF s = s := by
  induction s with
  | nil => rfl
  | cons c r ih =>
    rw [cntE] at h
    have hc : ¬ (c = 34 ∨ c = 92) := fun k => by rw [if_pos k] at h; omega
    unfold escF at ih ⊢
    rw [List.flatMap_cons, ih (by omega)]
    unfold escB
    rw [if_neg hc]; rfl
theorem cntE_count (s : List UInt8) : cntE s = s.count 92 + s.count 34 := by
  induction s with
  | nil => rfl
  | cons c r ih =>
    rw [cntE, ih, List.count_cons, List.count_cons]
    by_cases h1 : c = 34
    · subst h1; simp; omega
    · by_cases h2 : c = 92
      · subst h2; simp; omega
      · simp [h1, h2]
theorem count1 {W : World} {l : List UInt8} {c : UInt8} (hl : l.length ≤ 4611686018427387904) : Cn Tryz.prog 175 [txt l, txt [c]] W [] (fun _ : Unit => .int .i64 (l.count c : Int)) (fun _ => []) := by
  have ext : RunV Tryz.prog W [] (sCall (fn 177) [txt l, B c]) (.int .i64 (l.count c : Int)) := fun w _ => by
    have hr : (callFunc 177 #[txt l, B c]).run Tryz.prog w = .ok (.value (.int .i64 (l.count c : Int))) w := by
      rw [run_callFunc_extern Tryz.func177 (by kernel_rfl) (by kernel_rfl) (by kernel_rfl) (e := Extern.BytealgCount.count) (by kernel_rfl)]
      have := Lib.run_countString (P := Tryz.prog) ⟨l.toArray⟩ (c.toNat : Int) w
      unfold txt Sl.B
      rw [this]
      simp only [Result.andThen_ok]
      rw [show (↑c.toNat : Int).toNat.toUInt8 = c by simp]
      rfl
    simp [sCall, Deferred.ofValue, invoke, fn, hr]
  (refine S.strings_Count_cn fun F => ?_; unfold S.strings_Count; simp only [List.cons_append, List.nil_append])
  refine e_opN v_lent Imp.nil ?_
  refine e_opN v_eql Imp.nil ?_
  rw [decide_eq_false (by simp)]
  refine e_condF ?_
  refine e_opN v_lent Imp.nil ?_
  refine e_opN v_eql Imp.nil ?_
  rw [decide_eq_true (by simp)]
  refine e_condT ?_
  refine e_opN (v_ixS (l := [c]) 0 rfl (by simp)) Imp.nil ?_
  rw [show ([c] : List UInt8)[0]'(by simp) = c from rfl]
  refine e_opN ext Imp.nil ?_
  (first | refine e_ret (()) rfl ?_ | refine e_retT (()) ?_)
  (repeat (first | exact Imp.refl | exact Imp.nil | (apply Imp.pick; (focus ((repeat constructor); done))) | refine Imp.drop ?_))
end Go.Proofs.YtcigoifhcfbcdaaGreatDoor.FD
namespace Go.Proofs.YtcigoifhcfbcdaaGreatDoor.FD
open Go Go.Proofs Go.RowKit Go.Proofs.YtcigoifhcfbcdaaGreatDoor.Sh Go.Proofs.YtcigoifhcfbcdaaGreatDoor.Sl Go.Proofs.YtcigoifhcfbcdaaGreatDoor.T
def escN (c : UInt8) : Bool := decide (c = 34 ∨ c = 92)
theorem bF_nil {q s : Nat × Nat} (c : UInt8) : (c = 34 ∧ bF (-2) q s c.toNat = .slice (some ⟨q.1, 0, none⟩) 2 q.2) ∨ (c = 92 ∧ bF (-2) q s c.toNat = .slice (some ⟨s.1, 0, none⟩) 2 s.2) ∨ (¬ (c = 34 ∨ c = 92) ∧ bF (-2) q s c.toNat = .slice none 0 0) := by
  by_cases h1 : c = 34
  · subst h1
    exact .inl ⟨rfl, rfl⟩
  · by_cases h2 : c = 92
    · subst h2
      exact .inr (.inl ⟨rfl, rfl⟩)
    · refine .inr (.inr ⟨fun c => c.elim h1 h2, ?_⟩)
      have k1 : c.toNat ≠ 34 := fun e => h1 (UInt8.toNat_inj.1 e)
      have k2 : c.toNat ≠ 92 := fun e => h2 (UInt8.toNat_inj.1 e)
      unfold bF nilS
      rw [if_neg (fun x => k1 x.1), if_neg (fun x => k2 x.1)]
theorem cnt_take {l : List UInt8} {i : Nat} (h : i < l.length) : cntE (l.take (i + 1)) = cntE (l.take i) + (if l[i] = 34 ∨ l[i] = 92 then 1 else 0) := by
  rw [List.take_succ_eq_append_getElem h, cntE_app]
  simp [cntE]
theorem esc_take {l : List UInt8} {i : Nat} (h : i < l.length) : escF (l.take (i + 1)) = escF (l.take i) ++ escB l[i] := by
  rw [List.take_succ_eq_append_getElem h]
  unfold escF
  rw [List.flatMap_append, List.flatMap_cons, List.flatMap_nil, List.append_nil]
theorem cnt_take_le {l : List UInt8} (i : Nat) : cntE (l.take i) ≤ cntE l := by
  have := cntE_app (l.take i) (l.drop i)
  rw [List.take_append_drop] at this; omega
theorem buf_put {X Y : List UInt8} {k : Nat} {z : Value} (h : Y.length ≤ k) : (X.map B ++ List.replicate k z).take X.length ++ Y.map B ++ (X.map B ++ List.replicate k z).drop (X.length + Y.length) = (X ++ Y).map B ++ List.replicate (k - Y.length) z := by
  rw [List.take_append_of_le_length (by simp), List.take_of_length_le (by simp), List.drop_append, List.drop_eq_nil_of_le (by simp)]
  simp
theorem buf_set {X : List UInt8} {c : UInt8} {k : Nat} {z : Value} (h : 1 ≤ k) : (X.map B ++ List.replicate k z).set X.length (B c) = (X ++ [c]).map B ++ List.replicate (k - 1) z := by
  obtain ⟨j, rfl⟩ : ∃ j, k = j + 1 := ⟨k - 1, by omega⟩
  rw [List.set_append_right _ _ (by simp)]
  simp [List.replicate_succ]
theorem bsrReplace {W : World} {g : Nat} {q s : Nat × Nat} {z : Option Addr × Nat} {l : List UInt8} (hl : l.length ≤ 4194304) : Cn Tryz.prog 173 [.pointer (some ⟨g, 0, none⟩), txt l] W [tbl g q s z] (fun _ : Unit => txt (escF l)) (fun _ => []) := by
  have hcl := cntE_le l
  (refine S.strings_byteStringReplacer_Replace_cn fun F => ?_; unfold S.strings_byteStringReplacer_Replace; simp only [List.cons_append, List.nil_append])
  unfold tbl
  refine e_ex .here fun R => e_all .here ?_
  obtain ⟨R0, R1⟩ := R
  (try simp only [List.cons_append, List.nil_append, -eq_self])
  have ldc : ∀ c : UInt8, RunV Tryz.prog W [pt g (.cells (Rn 256 (bF (-2) q s) (.slice z.1 2 z.2)) 144 (0, 0))] (sLoad 57 (.pointer (some ⟨g, 0 + c.toNat * 1, none⟩))) (bF (-2) q s c.toNat) := fun c => by
    rw [Nat.zero_add, Nat.mul_one]
    exact v_ld (Rn_get c.toNat_lt)
  have ldz : RunV Tryz.prog W [pt g (.cells (Rn 256 (bF (-2) q s) (.slice z.1 2 z.2)) 144 (0, 0))] (sLoad 50 (.pointer (some ⟨g, 256, none⟩))) (.slice z.1 2 z.2) := v_ld Rn_last
  obtain ⟨A, hA⟩ : ∃ A, A = ([pt g (.cells (Rn 256 (bF (-2) q s) (.slice z.1 2 z.2)) 144 (0, 0)), Sl 1 9 z.1 z.2 2 [txt [92], txt [34]],
    pt q.1 (.cells ([92, 34].map B ++ R0).toArray 5 (2 + R0.length, 2 + R0.length + 1)), pt s.1 (.cells ([92, 92].map B ++ R1).toArray 5 (2 + R1.length, 2 + R1.length + 1))] ++ F) := ⟨_, rfl⟩
  simp only [List.cons_append, List.nil_append] at hA
  refine e_opN v_lent Imp.nil ?_
  refine e_cut2 (fun z5 z6 => pu (z5 = .int .i64 ((l.length + cntE l : Nat) : Int) ∧ z6 = .bool (decide (0 < cntE l))) :: A) ?_ ?_
  rotate_left
  · refine e_opN v_nil Imp.nil ?_
    refine e_opN v_fa0 Imp.nil ?_
    refine e_opN ldz (.pick .here .nil) ?_
    refine e_opN v_len Imp.nil ?_
    refine e_opN (v_mul (by decide) (by decide)) Imp.nil ?_
    refine e_opN v_lent Imp.nil ?_
    refine e_ask v_leq Imp.nil (fun h => ?_) (fun h => ?_)
    · refine e_condT ?_
      refine e_opN v_nil Imp.nil ?_
      refine e_opN v_fa0 Imp.nil ?_
      refine e_opN ldz (.pick .here .nil) ?_
      refine e_opN v_len Imp.nil ?_
      refine e_slsome (.there .here) (by decide) fun gz hgz => ?_
      have c92 := List.count_le_length (a := (92 : UInt8)) (l := l)
      have c34 := List.count_le_length (a := (34 : UInt8)) (l := l)
      have hcc := cntE_count l
      rw [hgz] at hA ldc ⊢
      refine e_loop3 (fun m x y w => (ex fun i : Nat => pu (m + i = 2 ∧ w = .int .i64 (i : Int) ∧ x = .int .i64 ((l.length + ((if 0 < i then l.count 92 else 0) + (if 1 < i then l.count 34 else 0)) : Nat) : Int) ∧ y = .bool (decide (0 < (if 0 < i then l.count 92 else 0) + (if 1 < i then l.count 34 else 0))))) :: A) 2 ?_ ?_
      · refine .ex 0 (.pu ⟨rfl, rfl, rfl, rfl⟩ ?_)
        rw [hA]
        exact .refl
      intro m ds x y w
      refine e_ex .here fun i => e_pu .here fun hi => ?_
      obtain ⟨hmi, rfl, rfl, rfl⟩ := hi
      rw [hA]
      refine e_ask v_lss Imp.nil (fun h => ?_) (fun h => ?_)
      · obtain ⟨c, a0, c0, hc, hbf, hcc2⟩ : ∃ (c : UInt8) (a0 : Option Addr) (c0 : Nat), ([txt [92], txt [34]] : List Value)[i]? = some (txt [c]) ∧ bF (-2) q s c.toNat = .slice a0 2 c0 ∧ ((if 0 < i + 1 then l.count 92 else 0) + (if 1 < i + 1 then l.count 34 else 0)) = ((if 0 < i then l.count 92 else 0) + (if 1 < i then l.count 34 else 0)) + l.count c := by
          have : i = 0 ∨ i = 1 := by omega
          rcases this with rfl | rfl
          · exact ⟨92, _, _, rfl, rfl, by simp⟩
          · exact ⟨34, _, _, rfl, rfl, by simp⟩
        have ldi : RunV Tryz.prog W [Sl 1 9 (some ⟨gz, 0, none⟩) z.2 2 [txt [92], txt [34]]] (sLoad 9 (.pointer (some ⟨gz, 0 + i, none⟩))) (txt [c]) := v_ldSl (by rw [Nat.zero_add]; exact hc)
        have hcl2 : l.count c ≤ l.length := List.count_le_length
        have hb1 : ((if 0 < i then l.count 92 else 0) + (if 1 < i then l.count 34 else 0)) ≤ l.length := by
          split <;> split <;> omega
        generalize ((if 0 < i then l.count 92 else 0) + (if 1 < i then l.count 34 else 0)) = N at hcc2 hb1 ⊢
        refine e_condT ?_
        refine e_opN (v_ia1 i rfl (by omega)) Imp.nil ?_
        refine e_opN ldi (.pick (by (repeat constructor)) .nil) ?_
        refine e_call (count1 (by omega)) .nil fun _ => ?_
        (try simp only [List.cons_append, List.nil_append, -eq_self])
        refine e_ask v_neq Imp.nil (fun h2 => ?_) (fun h2 => ?_)
        · refine e_condT ?_
          refine e_drS ?_
          refine e_stS (v_ixS (l := [c]) 0 rfl (by simp)) Imp.nil ?_
          rw [show ([c] : List UInt8)[0]'(by simp) = c from rfl]
          refine e_stS v_nil Imp.nil ?_
          refine e_stS v_fa0 Imp.nil ?_
          refine e_stS (v_iaA c.toNat rfl c.toNat_lt) Imp.nil ?_
          refine e_stS (ldc c) (.pick (by (repeat constructor)) .nil) ?_
          rw [hbf]
          refine e_stS v_len Imp.nil ?_
          refine e_stS (v_sub (by omega) (by omega)) Imp.nil ?_
          refine e_stS (v_mul (by omega) (by omega)) Imp.nil ?_
          refine e_stS (v_add (by omega) (by omega)) Imp.nil ?_
          refine e_opN (v_add (by omega) (by omega)) Imp.nil ?_
          refine e_next3 (m - 1) (by omega) (.ex (i + 1) (.pu ⟨by omega, rfl, ?_, ?_⟩ .refl))
          · rw [hcc2]
            congr 1
            omega
          · rw [hcc2, decide_eq_true (by omega)]
        · refine e_condF ?_
          refine e_opN (v_add (by omega) (by omega)) Imp.nil ?_
          refine e_next3 (m - 1) (by omega) (.ex (i + 1) (.pu ⟨by omega, rfl, ?_, ?_⟩ .refl))
          · rw [hcc2]
            congr 1
            omega
          · rw [hcc2, show N + l.count c = N by omega]
      · have : i = 2 := by omega
        subst this
        refine e_condF ?_
        refine e_sat (.pu ⟨?_, ?_⟩ ?_)
        · rw [hcc]; rfl
        · rw [hcc]; rfl
        · exact .refl
    · refine e_condF ?_
      refine e_loop3 (fun m x y w => (ex fun i : Nat => pu (m + i = l.length ∧ w = .int .i64 (i : Int) ∧ x = .int .i64 ((l.length + cntE (l.take i) : Nat) : Int) ∧ y = .bool (decide (0 < cntE (l.take i))))) :: A) l.length ?_ ?_
      · refine .ex 0 (.pu ⟨rfl, rfl, rfl, rfl⟩ ?_)
        rw [hA]
        exact .refl
      intro m ds x y w
      refine e_ex .here fun i => e_pu .here fun hi => ?_
      obtain ⟨hmi, rfl, rfl, rfl⟩ := hi
      rw [hA]
      refine e_opN v_lent Imp.nil ?_
      have hct := cnt_take_le (l := l) i
      refine e_ask v_lss Imp.nil (fun h => ?_) (fun h => ?_)
      · have hil : i < l.length := by omega
        have hcs := cnt_take hil
        refine e_condT ?_
        refine e_opN (v_ixS i rfl hil) Imp.nil ?_
        refine e_opN v_nil Imp.nil ?_
        refine e_opN v_fa0 Imp.nil ?_
        refine e_opN (v_iaA l[i].toNat rfl l[i].toNat_lt) Imp.nil ?_
        refine e_opN (ldc l[i]) (.pick (by (repeat constructor)) .nil) ?_
        by_cases hE : l[i] = 34 ∨ l[i] = 92
        · rw [if_pos hE] at hcs
          obtain ⟨a0, c0, hbf⟩ : ∃ (a0 : Addr) (c0 : Nat), bF (-2) q s l[i].toNat = .slice (some a0) 2 c0 := by
            rcases bF_nil (q := q) (s := s) l[i] with ⟨_, k⟩ | ⟨_, k⟩ | ⟨k, _⟩
            · exact ⟨_, _, k⟩
            · exact ⟨_, _, k⟩
            · exact absurd hE k
          rw [hbf]
          refine e_opN v_slNeNil Imp.nil ?_
          refine e_condT ?_
          refine e_opN v_nil Imp.nil ?_
          refine e_opN v_fa0 Imp.nil ?_
          refine e_opN (v_iaA l[i].toNat rfl l[i].toNat_lt) Imp.nil ?_
          refine e_opN (ldc l[i]) (.pick (by (repeat constructor)) .nil) ?_
          rw [hbf]
          refine e_opN v_len Imp.nil ?_
          refine e_opN (v_sub (by omega) (by omega)) Imp.nil ?_
          refine e_opN (v_add (by omega) (by omega)) Imp.nil ?_
          refine e_opN (v_add (by omega) (by omega)) Imp.nil ?_
          refine e_next3 (m - 1) (by omega) (.ex (i + 1) (.pu ⟨by omega, rfl, ?_, ?_⟩ .refl))
          · rw [hcs]
            congr 1
          · rw [hcs, decide_eq_true (by omega)]
        · rw [if_neg hE] at hcs
          have hbf : bF (-2) q s l[i].toNat = .slice none 0 0 := by
            rcases bF_nil (q := q) (s := s) l[i] with ⟨k, _⟩ | ⟨k, _⟩ | ⟨_, k⟩
            · exact absurd (.inl k) hE
            · exact absurd (.inr k) hE
            · exact k
          rw [hbf]
          refine e_opN v_slNeNil Imp.nil ?_
          refine e_condF ?_
          refine e_opN (v_add (by omega) (by omega)) Imp.nil ?_
          refine e_next3 (m - 1) (by omega) (.ex (i + 1) (.pu ⟨by omega, rfl, ?_, ?_⟩ .refl))
          · rw [hcs]; rfl
          · rw [hcs]; rfl
      · have : i = l.length := by omega
        subst this
        rw [List.take_length]
        refine e_condF ?_
        refine e_sat (.pu ⟨rfl, rfl⟩ ?_)
        exact .refl
  intro ds z5 z6
  refine e_pu .here fun hz => ?_
  obtain ⟨rfl, rfl⟩ := hz
  rw [hA]
  by_cases hp : 0 < cntE l
  · rw [decide_eq_true hp]
    refine e_opN v_notT Imp.nil ?_
    refine e_condF ?_
    refine e_mksl (z := .int .u8 0) (l.length + cntE l) (l.length + cntE l) rfl rfl (Nat.le_refl _) (by omega) (by unfold maxLen; omega) fun gz => ?_
    refine e_loop2 (fun m x y => (ex fun i : Nat => all [pu (m + i = l.length ∧ x = .int .i64 ((i + cntE (l.take i) : Nat) : Int) ∧ y = .int .i64 (i : Int)), Sl 1 5 (some ⟨gz, 0, none⟩) (l.length + cntE l) (l.length + cntE l) ((escF (l.take i)).map B ++ List.replicate (l.length + cntE l - (escF (l.take i)).length) (.int .u8 0))]) :: A) l.length ?_ ?_
    · refine .ex 0 (.all ?_)
      (try simp only [List.cons_append, List.nil_append, -eq_self])
      refine .pu ⟨rfl, rfl, rfl⟩ ?_
      rw [hA]
      exact .refl
    intro m ds x y
    refine e_ex .here fun i => e_all .here ?_
    (try simp only [List.cons_append, List.nil_append, -eq_self])
    refine e_pu .here fun hi => ?_
    obtain ⟨hmi, rfl, rfl⟩ := hi
    rw [hA]
    refine e_opN v_lent Imp.nil ?_
    have hct := cnt_take_le (l := l) i
    have hle := escF_len (l.take i)
    refine e_ask v_lss Imp.nil (fun h => ?_) (fun h => ?_)
    · have hil : i < l.length := by omega
      have hcs := cnt_take hil
      have hes := esc_take hil
      have hct1 := cnt_take_le (l := l) (i + 1)
      rw [List.length_take, Nat.min_eq_left (by omega)] at hle
      refine e_condT ?_
      refine e_opN (v_ixS i rfl hil) Imp.nil ?_
      refine e_opN v_nil Imp.nil ?_
      refine e_opN v_fa0 Imp.nil ?_
      refine e_opN (v_iaA l[i].toNat rfl l[i].toNat_lt) Imp.nil ?_
      refine e_opN (ldc l[i]) (.pick (by (repeat constructor)) .nil) ?_
      rcases bF_nil (q := q) (s := s) l[i] with ⟨k1, k2⟩ | ⟨k1, k2⟩ | ⟨k1, k2⟩
      · have hE : l[i] = 34 ∨ l[i] = 92 := by rw [k1]; decide
        rw [if_pos hE] at hcs
        have heb : escB l[i] = ([92, 34] : List UInt8) := by rw [k1]; rfl
        rw [k2]
        refine e_opN v_slNeNil Imp.nil ?_
        refine e_condT ?_
        refine e_drS ?_
        refine e_stS (v_sll (i + cntE (l.take i)) rfl (by omega)) Imp.nil ?_
        rw [if_neg (by omega), show (some (⟨gz, 0, none⟩ : Addr)).map (·.add ((i + cntE (l.take i)) * 1)) = some ⟨gz, i + cntE (l.take i), none⟩ by simp [addr_add]]
        refine e_stS v_nil Imp.nil ?_
        refine e_stS v_fa0 Imp.nil ?_
        refine e_stS (v_iaA l[i].toNat rfl l[i].toNat_lt) Imp.nil ?_
        refine e_stS (ldc l[i]) (.pick (by (repeat constructor)) .nil) ?_
        rw [k2]
        refine e_copyS (src := ([92, 34] : List UInt8).map B) .here rfl (by omega) (by simp [escF_len]; omega) (by intro u hu; obtain ⟨c, _, rfl⟩ := List.mem_map.1 hu; rfl) (fun w hw j u hu => by
          rw [addr_add, (hw.pick (p := .there (.there (.there .here)))).cell]
          rw [Nat.zero_add, List.getElem?_toArray, List.getElem?_append_left (by
            rcases Nat.lt_or_ge j (([92, 34] : List UInt8).map B).length with hj | hj
            · exact hj
            · rw [List.getElem?_eq_none hj] at hu; cases hu)]
          exact hu) ?_
        refine e_stS (v_add (by omega) (by omega)) Imp.nil ?_
        refine e_opN (v_add (by omega) (by omega)) Imp.nil ?_
        refine e_next2 (m - 1) (by omega) (.ex (i + 1) (.all ?_))
        (try simp only [List.cons_append, List.nil_append, -eq_self])
        refine .pu ⟨by omega, ?_, rfl⟩ ?_
        · rw [hcs]; congr 1; omega
        · have := buf_put (X := escF (l.take i)) (Y := ([92, 34] : List UInt8)) (k := l.length + cntE l - (escF (l.take i)).length) (z := .int .u8 0) (by rw [hle]; show 2 ≤ _; omega)
          rw [hle] at this
          rw [hes, heb, List.length_append, hle]
          rw [show l.length + cntE l - (i + cntE (l.take i) + ([92, 34] : List UInt8).length) = l.length + cntE l - (i + cntE (l.take i)) - ([92, 34] : List UInt8).length by omega, ← this]
          exact .refl
      · have hE : l[i] = 34 ∨ l[i] = 92 := by rw [k1]; decide
        rw [if_pos hE] at hcs
        have heb : escB l[i] = ([92, 92] : List UInt8) := by rw [k1]; rfl
        rw [k2]
        refine e_opN v_slNeNil Imp.nil ?_
        refine e_condT ?_
        refine e_drS ?_
        refine e_stS (v_sll (i + cntE (l.take i)) rfl (by omega)) Imp.nil ?_
        rw [if_neg (by omega), show (some (⟨gz, 0, none⟩ : Addr)).map (·.add ((i + cntE (l.take i)) * 1)) = some ⟨gz, i + cntE (l.take i), none⟩ by simp [addr_add]]
        refine e_stS v_nil Imp.nil ?_
        refine e_stS v_fa0 Imp.nil ?_
        refine e_stS (v_iaA l[i].toNat rfl l[i].toNat_lt) Imp.nil ?_
        refine e_stS (ldc l[i]) (.pick (by (repeat constructor)) .nil) ?_
        rw [k2]
        refine e_copyS (src := ([92, 92] : List UInt8).map B) .here rfl (by omega) (by simp [escF_len]; omega) (by intro u hu; obtain ⟨c, _, rfl⟩ := List.mem_map.1 hu; rfl) (fun w hw j u hu => by
          rw [addr_add, (hw.pick (p := .there (.there (.there (.there .here))))).cell]
          rw [Nat.zero_add, List.getElem?_toArray, List.getElem?_append_left (by
            rcases Nat.lt_or_ge j (([92, 92] : List UInt8).map B).length with hj | hj
            · exact hj
            · rw [List.getElem?_eq_none hj] at hu; cases hu)]
          exact hu) ?_
        refine e_stS (v_add (by omega) (by omega)) Imp.nil ?_
        refine e_opN (v_add (by omega) (by omega)) Imp.nil ?_
        refine e_next2 (m - 1) (by omega) (.ex (i + 1) (.all ?_))
        (try simp only [List.cons_append, List.nil_append, -eq_self])
        refine .pu ⟨by omega, ?_, rfl⟩ ?_
        · rw [hcs]; congr 1; omega
        · have := buf_put (X := escF (l.take i)) (Y := ([92, 92] : List UInt8)) (k := l.length + cntE l - (escF (l.take i)).length) (z := .int .u8 0) (by rw [hle]; show 2 ≤ _; omega)
          rw [hle] at this
          rw [hes, heb, List.length_append, hle]
          rw [show l.length + cntE l - (i + cntE (l.take i) + ([92, 92] : List UInt8).length) = l.length + cntE l - (i + cntE (l.take i)) - ([92, 92] : List UInt8).length by omega, ← this]
          exact .refl
      · rw [if_neg k1] at hcs
        have heb : escB l[i] = [l[i]] := by unfold escB; rw [if_neg k1]
        rw [k2]
        refine e_opN v_slNeNil Imp.nil ?_
        refine e_condF ?_
        refine e_opN (v_ia1 (i + cntE (l.take i)) rfl (by omega)) Imp.nil ?_
        rw [Nat.zero_add]
        refine e_stSl .here (by simp [escF_len]; omega) ?_
        refine e_opN (v_add (by omega) (by omega)) Imp.nil ?_
        refine e_opN (v_add (by omega) (by omega)) Imp.nil ?_
        refine e_next2 (m - 1) (by omega) (.ex (i + 1) (.all ?_))
        (try simp only [List.cons_append, List.nil_append, -eq_self])
        refine .pu ⟨by omega, ?_, rfl⟩ ?_
        · rw [hcs]; congr 1; omega
        · have := buf_set (X := escF (l.take i)) (c := l[i]) (k := l.length + cntE l - (escF (l.take i)).length) (z := .int .u8 0) (by rw [hle]; omega)
          rw [hle] at this
          rw [hes, heb, List.length_append, hle]
          rw [show l.length + cntE l - (i + cntE (l.take i) + [l[i]].length) = l.length + cntE l - (i + cntE (l.take i)) - 1 by simp; omega, ← this]
          exact .refl
    · have : i = l.length := by omega
      subst this
      rw [List.take_length]
      refine e_condF ?_
      rw [escF_len, Nat.sub_self]
      simp only [List.replicate_zero, List.append_nil]
      refine e_opN (v_str (l := escF l) (rd_sl (by simp [escF_len]) (fun _ => ⟨_, rfl⟩)) (by intro h; cases h)) (.pick .here .nil) ?_
      (first | refine e_ret (()) rfl ?_ | refine e_retT (()) ?_)
      (repeat (first | exact Imp.refl | exact Imp.nil | (apply Imp.pick; (focus ((repeat constructor); done))) | refine Imp.drop ?_))
  · rw [decide_eq_false hp]
    refine e_opN v_notF Imp.nil ?_
    refine e_condT ?_
    rw [escF_none (by omega)]
    (first | refine e_ret (()) rfl ?_ | refine e_retT (()) ?_)
    (repeat (first | exact Imp.refl | exact Imp.nil | (apply Imp.pick; (focus ((repeat constructor); done))) | refine Imp.drop ?_))
end Go.Proofs.YtcigoifhcfbcdaaGreatDoor.FD
namespace Go.Proofs.YtcigoifhcfbcdaaGreatDoor.FD
open Go Go.Proofs Go.RowKit Go.Proofs.YtcigoifhcfbcdaaGreatDoor.Sh Go.Proofs.YtcigoifhcfbcdaaGreatDoor.Sl Go.Proofs.YtcigoifhcfbcdaaGreatDoor.T
section
variable {P : Program} {W : World} {L : List HP} {Kp : PK} {k : Value → WP}
theorem e_inv {α : Type} {f : FuncId} {T : TypeId} {v : Value} {nm : String} {args : List Value} {A F : List HP} {r : α → Value} {B : α → List HP} (hI : ∀ w, (invoke (.fn (.method nm) #[]) (#[.iface T v] ++ args.toArray)).run P w = .ok (.enter f (v :: args).toArray) w)
    (hf : Cn P f (v :: args) W A r B) (p : Picks L A F) (h : ∀ x, Ent W (B x ++ F) (k (r x))) : Ent W L (opN P (sInv (.iface T v) nm args) Kp k) := fun w hw => by
  refine ⟨?_⟩
  rw [show (sInv (.iface T v) nm args).run P w = .ok (.enter f (v :: args).toArray) w by unfold sInv; exact hI w]
  refine (hf.run F w (p.sat hw)).mono fun e w' ⟨x, he, hs⟩ => ?_
  subst he
  exact h x w' hs
end
theorem repl {W : World} {b c : Nat} {a : Option Addr} {l : List UInt8} (hl : l.length ≤ 4194304) : Cn Tryz.prog 23 [.pointer (some ⟨b, 0, none⟩), txt l] W [pt b (.cells #[.int .u32 0, .int .i32 0, .int .u32 0, .nilIface, .slice a 4 c] 100 (0, 0)), Sl 1 9 a c 4 onw]
    (fun _ : Unit => txt (escF l)) (fun _ => []) := by
  (refine S.strings_Replacer_Replace_cn fun F => ?_; unfold S.strings_Replacer_Replace; simp only [List.cons_append, List.nil_append])
  refine e_opN v_nil Imp.nil ?_
  refine e_opN v_fa0 Imp.nil ?_
  refine e_opN v_mkF Imp.nil ?_
  refine e_call onceDo (.cons .here (.cons .here .nil)) fun r => ?_
  (try simp only [List.cons_append, List.nil_append, -eq_self])
  refine e_opN v_nil Imp.nil ?_
  refine e_opN v_fa Imp.nil ?_
  refine e_opN (v_ldN (.there (.there (.there .here)))) (.pick .here .nil) ?_
  refine e_inv (fun w => by kernel_rfl) (bsrReplace (q := r.2.1) (s := r.2.2.1) (z := r.2.2.2) hl) (.cons (.there .here) .nil) fun _ => ?_
  (try simp only [List.cons_append, List.nil_append, -eq_self])
  (first | refine e_ret (()) rfl ?_ | refine e_retT (()) ?_)
  (repeat (first | exact Imp.refl | exact Imp.nil | (apply Imp.pick; (focus ((repeat constructor); done))) | refine Imp.drop ?_))
theorem quo_esc (l : List UInt8) : quoF l = 34 :: escF l ++ [34] := rfl
theorem quote {W : World} {l : List UInt8} (hl : l.length ≤ 4194304) : Cn Tryz.prog 9 [txt l] W [] (fun _ : Unit => txt (quoF l)) (fun _ => []) := by
  have h1 := escF_len l
  have h2 := cntE_le l
  (refine S.fields_Quote_cn fun F => ?_; unfold S.fields_Quote; simp only [List.cons_append, List.nil_append])
  refine e_bslN (n := 4) (vs := onw) rfl rfl (by intro u hu; simp [onw] at hu; rcases hu with rfl | rfl | rfl | rfl <;> rfl) (by decide) fun g => ?_
  refine e_call newReplacer (.cons .here .nil) fun r => ?_
  (try simp only [List.cons_append, List.nil_append, -eq_self])
  refine e_call (repl hl) (.cons .here (.cons .here .nil)) fun _ => ?_
  (try simp only [List.cons_append, List.nil_append, -eq_self])
  refine e_opN (v_cat (a := [34]) (by simp; omega)) Imp.nil ?_
  refine e_opN (v_cat (b := [34]) (by simp; omega)) Imp.nil ?_
  refine e_ret () (by rw [quo_esc]; simp) ?_
  (repeat (first | exact Imp.refl | exact Imp.nil | (apply Imp.pick; (focus ((repeat constructor); done))) | refine Imp.drop ?_))
end Go.Proofs.YtcigoifhcfbcdaaGreatDoor.FD
namespace Go.Proofs.YtcigoifhcfbcdaaGreatDoor.FD
open Go Go.Proofs Go.RowKit Go.Proofs.YtcigoifhcfbcdaaGreatDoor.Sh Go.Proofs.YtcigoifhcfbcdaaGreatDoor.Sl Go.Proofs.YtcigoifhcfbcdaaGreatDoor.T
def scn (c : UInt8) (l : List UInt8) (i : Nat) : Prop := cutA c l = l.take i ++ cutA c (l.drop i) ∧ cutB c l = cutB c (l.drop i) ∧ cutS c l = cutS c (l.drop i)
theorem scn0 {c : UInt8} {l : List UInt8} : scn c l 0 := by simp [scn]
theorem scn_next {c : UInt8} {l : List UInt8} {i : Nat} (h : scn c l i) (hi : i < l.length) (hc : gt l i ≠ c) : scn c l (i + 1) := by
  obtain ⟨h1, h2, h3⟩ := h
  rw [gt_at hi] at hc
  rw [dr hi] at h1 h2 h3
  refine ⟨?_, ?_, ?_⟩
  · rw [h1, cutA, if_neg hc, List.take_succ_eq_append_getElem hi, List.append_assoc]; rfl
  · rw [h2, cutB, if_neg hc]
  · rw [h3, cutS, if_neg hc]
theorem scn_end {c : UInt8} {l : List UInt8} {i : Nat} (h : scn c l i) (hi : l.length ≤ i) : cutA c l = l ∧ cutB c l = [] ∧ cutS c l = false := by
  obtain ⟨h1, h2, h3⟩ := h
  rw [List.drop_of_length_le hi] at h1 h2 h3
  rw [List.take_of_length_le hi] at h1
  refine ⟨by rw [h1]; simp [cutA], h2, h3⟩
theorem scn_hit {c : UInt8} {l : List UInt8} {i : Nat} (h : scn c l i) (hi : i < l.length) (hc : gt l i = c) : cutA c l = l.take i ∧ cutB c l = l.drop (i + 1) ∧ cutS c l = true := by
  obtain ⟨h1, h2, h3⟩ := h
  rw [gt_at hi] at hc
  rw [dr hi] at h1 h2 h3
  refine ⟨?_, ?_, ?_⟩
  · rw [h1, cutA, if_pos hc]; simp
  · rw [h2, cutB, if_pos hc]
  · rw [h3, cutS, if_pos hc]
end Go.Proofs.YtcigoifhcfbcdaaGreatDoor.FD
namespace Go.Proofs.YtcigoifhcfbcdaaGreatDoor.FD
open Go Go.Proofs Go.RowKit Go.Proofs.YtcigoifhcfbcdaaGreatDoor.Sh Go.Proofs.YtcigoifhcfbcdaaGreatDoor.Sl Go.Proofs.YtcigoifhcfbcdaaGreatDoor.T
section
variable {P : Program} {W : World} {L : List HP} {Kp : PK} {k : Value → WP}
theorem e_and1or {a b c : Bool} {y1 y2 : Value} {s1 s2 : Value → Sem Next} (h1 : a = true → RunV P W [] (s1 y1) (.bool b)) (h2 : a = true → b = false → RunV P W [] (s2 y2) (.bool c)) (h : Ent W L (k (.bool (a && (b || c))))) :
    Ent W L (gdK (.bool a) true (fun k => k y1) fun x1 => gdK (.bool a) true (opN P (s1 x1) Kp) fun x2 => gdK (.bool a) true (fun k => k x2) fun x3 => gdK x3 false (fun k => k y2) fun x4 => gdK x3 false (opN P (s2 x4) Kp) fun x5 =>
      gdK (.bool a) true (opN P (sPick x3 (.bool true) x5) Kp) fun x6 => opN P (sPick (.bool a) x6 (.bool false)) Kp k) := by
  cases a with
  | true =>
    refine e_gdT ?_
    refine e_gdT ?_
    refine e_opN (h1 rfl) Imp.nil ?_
    refine e_gdT ?_
    cases b with
    | true =>
      refine e_gdF1 ?_
      refine e_gdF1 ?_
      refine e_gdT ?_
      refine e_opN v_pickT Imp.nil ?_
      refine e_opN v_pickT Imp.nil ?_
      simpa using h
    | false =>
      refine e_gdT ?_
      refine e_gdT ?_
      refine e_opN (h2 rfl rfl) Imp.nil ?_
      refine e_gdT ?_
      refine e_opN v_pickF Imp.nil ?_
      refine e_opN v_pickT Imp.nil ?_
      simpa using h
  | false =>
    ((with_reducible refine e_gdF2 ?_)); ((with_reducible refine e_gdF2 ?_)); ((with_reducible refine e_gdF2 ?_)); ((with_reducible refine e_gdU ?_)); ((with_reducible refine e_gdU ?_)); ((with_reducible refine e_gdF2 ?_)); (((with_reducible refine e_opN v_pickF Imp.nil ?_)))
    simpa using h
theorem e_or12 {a b : Bool} {y1 y2 v : Value} {s1 : Value → Value → Sem Next} {s2 : Value → Sem Next} (h1 : a = false → RunV P W [] (s1 y1 y2) v) (h2 : a = false → RunV P W [] (s2 v) (.bool b)) (h : Ent W L (k (.bool (a || b)))) :
    Ent W L (gdK (.bool a) false (fun k => k y1) fun x1 => gdK (.bool a) false (fun k => k y2) fun x2 => gdK (.bool a) false (opN P (s1 x1 x2) Kp) fun x3 => gdK (.bool a) false (opN P (s2 x3) Kp) fun x4 => opN P (sPick (.bool a) (.bool true) x4) Kp k) := by
  cases a with
  | true =>
    refine e_gdF1 ?_
    refine e_gdF1 ?_
    refine e_gdF1 ?_
    refine e_gdF1 ?_
    refine e_opN v_pickT Imp.nil ?_
    simpa using h
  | false =>
    refine e_gdT ?_
    refine e_gdT ?_
    refine e_gdT ?_
    refine e_opN (h1 rfl) Imp.nil ?_
    refine e_gdT ?_
    refine e_opN (h2 rfl) Imp.nil ?_
    refine e_opN v_pickF Imp.nil ?_
    simpa using h
end
theorem badQ_j (c : UInt8) : (decide (c ≠ 9) && (decide ((c.toNat : Int) < 32) || decide (c = 127))) = badQ c := by
  rw [badQ_i]
  by_cases h : c = 9
  · subst h; rfl
  · simp [h]
theorem rquote {W : World} {l : List UInt8} (hl : l.length ≤ 4194304) : Cn Tryz.prog 10 [txt l] W [] (fun _ : Unit => txt (quoF l)) (fun _ => []) := by
  have hn := escF_len l
  have hc := cntE_le l
  (refine S.ref10_Quote_cn fun F => ?_; unfold S.ref10_Quote; simp only [List.cons_append, List.nil_append])
  refine e_bsl1 fun g0 => ?_
  refine e_own (e := 5) (s := 1) (n := 1) (cs := [B 34]) .here rfl (by decide) ?_
  refine e_loop2 (fun m x y => [ex fun st : (Option Addr × Nat) × Nat => all [pu (m + st.2 = l.length ∧ x = .slice st.1.1 (34 :: escF (l.take st.2)).length st.1.2 ∧ y = .int .i64 (st.2 : Int)), Sl 1 5 st.1.1 st.1.2 (34 :: escF (l.take st.2)).length ((34 :: escF (l.take st.2)).map B)]] ++ F) l.length ?_ ?_
  · refine Imp.ex ((some ⟨g0, 0, none⟩, 1), 0) (.all ?_)
    (try simp only [List.cons_append, List.nil_append, -eq_self])
    refine .pu ⟨rfl, rfl, rfl⟩ ?_
    exact .refl
  intro m ds x y
  (try simp only [List.cons_append, List.nil_append, -eq_self])
  refine e_ex Pick.here fun st => e_all Pick.here ?_
  obtain ⟨⟨sa, sc⟩, i⟩ := st
  (try simp only [List.cons_append, List.nil_append, -eq_self])
  refine e_pu Pick.here fun hi => ?_
  (try dsimp only at hi)
  obtain ⟨hmi, rfl, rfl⟩ := hi
  refine e_opN v_lent Imp.nil ?_
  have hct := cnt_take_le (l := l) i
  have hle := escF_len (l.take i)
  have hlt := List.length_take (i := i) (l := l)
  refine e_ask v_lss Imp.nil (fun h => ?_) (fun h => ?_)
  · have hil : i < l.length := by omega
    have hes := esc_take hil
    refine e_condT ?_
    refine e_cut1 (fun z => (ex fun r : Option Addr × Nat => all [pu (z = .slice r.1 (34 :: (escF (l.take i) ++ (if l[i] = 34 ∨ l[i] = 92 then [92] else []))).length r.2), Sl 1 5 r.1 r.2 (34 :: (escF (l.take i) ++ (if l[i] = 34 ∨ l[i] = 92 then [92] else []))).length ((34 :: (escF (l.take i) ++ (if l[i] = 34 ∨ l[i] = 92 then [92] else []))).map B)]) :: F) ?_ ?_
    · intro ds2 z
      refine e_ex .here fun r => e_all .here ?_
      (try simp only [List.cons_append, List.nil_append, -eq_self])
      refine e_pu .here fun hz => ?_
      subst hz
      have hx : 34 :: escF (l.take (i + 1)) = (34 :: (escF (l.take i) ++ (if l[i] = 34 ∨ l[i] = 92 then [92] else []))) ++ [l[i]] := by
        rw [hes]
        unfold escB
        split <;> simp
      have hxl : (34 :: (escF (l.take i) ++ (if l[i] = 34 ∨ l[i] = 92 then [92] else []))).length ≤ 16777216 := by
        have : (if l[i] = 34 ∨ l[i] = 92 then [92] else [] : List UInt8).length ≤ 1 := by split <;> simp
        rw [List.length_cons, List.length_append]; omega
      generalize 34 :: (escF (l.take i) ++ (if l[i] = 34 ∨ l[i] = 92 then [92] else [])) = acc at hx hxl ⊢
      refine e_opN (v_ixS i rfl hil) Imp.nil ?_
      refine e_bsl1 fun gb => ?_
      refine e_app (m := 1) (news := [B l[i]]) (by (repeat constructor)) (src_pt (e' := 5) (by kernel_rfl) .here (by rfl) (by intro u hu; rw [List.mem_singleton.1 hu]; rfl)) (by omega) (by omega) fun a' c' => ?_
      refine e_opN (v_add (by omega) (by omega)) Imp.nil ?_
      refine e_next2 (m - 1) (by omega) (.ex ((a', c'), i + 1) (.all ?_))
      (try simp only [List.cons_append, List.nil_append, -eq_self])
      refine .pu ⟨by (try dsimp only); omega, by (try dsimp only); rw [hx, List.length_append]; rfl, rfl⟩ ?_
      (try dsimp only)
      rw [hx, List.length_append, List.map_append]
      simp only [List.length_singleton, List.map_cons, List.map_nil]
      (repeat (first | exact Imp.refl | exact Imp.nil | (apply Imp.pick; (focus ((repeat constructor); done))) | refine Imp.drop ?_))
    · refine e_opN (v_ixS i rfl hil) Imp.nil ?_
      refine e_opN (B_eq 34 rfl) Imp.nil ?_
      refine e_or12 (fun _ => v_ixS i rfl hil) (fun _ => B_eq (c := l[i]) 92 rfl) ?_
      have hb : (34 :: escF (l.take i)).length ≤ 16777216 := by rw [List.length_cons]; omega
      refine e_cond (φ := l[i] = 34 ∨ l[i] = 92) (by rw [← Bool.decide_or]) (fun h5 => ?_) (fun h5 => ?_)
      · refine e_bsl1 fun gb => ?_
        refine e_app (m := 1) (news := [B 92]) (by (repeat constructor)) (src_pt (e' := 5) (by kernel_rfl) .here (by rfl) (by intro u hu; rw [List.mem_singleton.1 hu]; rfl)) (by omega) (by omega) fun a' c' => ?_
        refine e_sat (.ex (a', c') (.all ?_))
        (try simp only [List.cons_append, List.nil_append, -eq_self])
        rw [if_pos h5]
        rw [show (34 :: (escF (l.take i) ++ [92])) = (34 :: escF (l.take i)) ++ [92] from rfl, List.length_append, List.map_append]
        simp only [List.length_singleton, List.map_cons, List.map_nil]
        refine .pu (by trivial) ?_
        (repeat (first | exact Imp.refl | exact Imp.nil | (apply Imp.pick; (focus ((repeat constructor); done))) | refine Imp.drop ?_))
      · refine e_sat (.ex (sa, sc) (.all ?_))
        (try simp only [List.cons_append, List.nil_append, -eq_self])
        rw [if_neg h5, List.append_nil]
        refine .pu (by trivial) ?_
        exact .refl
  · have : i = l.length := by omega
    subst this
    rw [List.take_length] at hle ⊢
    refine e_condF ?_
    refine e_bsl1 fun gb => ?_
    have hb : (34 :: escF l).length ≤ 16777216 := by rw [List.length_cons]; omega
    refine e_app (m := 1) (news := [B 34]) (by (repeat constructor)) (src_pt (e' := 5) (by kernel_rfl) .here (by rfl) (by intro u hu; rw [List.mem_singleton.1 hu]; rfl)) (by omega) (by omega) fun a' c' => ?_
    have e : (34 :: escF l).map B ++ [B 34] = (quoF l).map B := by rw [quo_esc]; simp
    have e2 : (34 :: escF l).length + 1 = (quoF l).length := by rw [quo_esc]; simp
    rw [e, e2]
    refine e_slfacts .here fun f1 f2 f3 f4 => ?_
    refine e_opN (v_str (l := quoF l) (rd_sl (by simp) f4) (nn_none f4)) (.pick .here .nil) ?_
    (first | refine e_ret (()) rfl ?_ | refine e_retT (()) ?_)
    (repeat (first | exact Imp.refl | exact Imp.nil | (apply Imp.pick; (focus ((repeat constructor); done))) | refine Imp.drop ?_))
theorem runquoted {W : World} {l : List UInt8} (hl : l.length ≤ 4194304) : Cn Tryz.prog 37 [txt l] W [] (fun _ : Unit => .tuple #[txt (unqF l).1, .bool (unqF l).2]) (fun _ => []) := by
  (refine S.ref10_unquoted_cn fun F => ?_; unfold S.ref10_unquoted; simp only [List.cons_append, List.nil_append])
  refine e_opN v_lent Imp.nil ?_
  refine e_opN v_lss Imp.nil ?_
  have e0 : (Value.string ⟨#[]⟩) = txt [] := rfl
  rw [e0]
  by_cases h2 : l.length < 2
  · have hno : unqF l = ([], false) := by
      match l, h2 with
      | [], _ => rfl
      | [c], _ =>
        show (if c = 34 then unqL [] [] else ([], false)) = ([], false)
        split <;> rfl
      | _ :: _ :: _, h => exact absurd h (by simp)
    rw [hno, decide_eq_true (by omega)]
    ((with_reducible refine e_gdF1 ?_)); ((with_reducible refine e_gdF1 ?_)); ((with_reducible refine e_gdF1 ?_)); (((with_reducible refine e_opN v_pickT Imp.nil ?_))); ((with_reducible refine e_condT ?_))
    (first | refine e_ret (()) rfl ?_ | refine e_retT (()) ?_)
    (repeat (first | exact Imp.refl | exact Imp.nil | (apply Imp.pick; (focus ((repeat constructor); done))) | refine Imp.drop ?_))
  · rw [decide_eq_false (by omega)]
    refine e_or2 (fun _ => v_ixS (l := l) 0 rfl (by omega)) (fun _ => B_ne 34 rfl) ?_
    rw [Bool.false_or]
    by_cases h3 : l[0]'(by omega) = 34
    · rw [decide_eq_false (fun c => c h3)]
      have hu : unqF l = unqL [] (l.drop 1) := by rw [unqF_at (by omega), if_pos h3]
      rw [hu]
      refine e_condF ?_
      refine e_loop2 (fun m x y => [ex fun st : (List UInt8 × Option Addr × Nat) × Nat => all [pu (m + st.2 = l.length + 1 ∧ st.2 ≤ l.length ∧ x = .slice st.1.2.1 st.1.1.length st.1.2.2 ∧ y = .int .i64 (st.2 : Int) ∧ st.1.1.length ≤ st.2 ∧ unqL [] (l.drop 1) = unqL st.1.1 (l.drop st.2)), Sl 1 5 st.1.2.1 st.1.2.2 st.1.1.length (st.1.1.map B)]] ++ F) l.length ?_ ?_
      · refine Imp.ex (([], none, 0), 1) (.all ?_)
        (try simp only [List.cons_append, List.nil_append, -eq_self])
        refine .pu ⟨rfl, by (try dsimp only); omega, rfl, rfl, by simp, rfl⟩ ?_
        exact imp_nil .refl
      intro m ds x y
      (try simp only [List.cons_append, List.nil_append, -eq_self])
      refine e_ex Pick.here fun st => e_all Pick.here ?_
      obtain ⟨⟨acc, sa, sc⟩, i⟩ := st
      (try simp only [List.cons_append, List.nil_append, -eq_self])
      refine e_pu Pick.here fun hi => ?_
      (try dsimp only at hi)
      obtain ⟨hmi, hil, rfl, rfl, hac, hun⟩ := hi
      refine e_opN v_lent Imp.nil ?_
      refine e_ask v_lss Imp.nil (fun h => ?_) (fun h => ?_)
      rotate_left
      · have hie : i = l.length := by omega
        rw [show l.drop i = [] from List.drop_of_length_le (by omega)] at hun
        have hun : unqL [] (l.drop 1) = ([], false) := by rw [hun]; rfl
        rw [hun]
        refine e_condF ?_
        (first | refine e_ret (()) rfl ?_ | refine e_retT (()) ?_)
        (repeat (first | exact Imp.refl | exact Imp.nil | (apply Imp.pick; (focus ((repeat constructor); done))) | refine Imp.drop ?_))
      have hlt : i < l.length := by omega
      rw [dr hlt, unqL_cons] at hun
      refine e_condT ?_
      refine e_opN (v_ixS i rfl hlt) Imp.nil ?_
      refine e_opN (B_eq 34 rfl) Imp.nil ?_
      by_cases h34 : l[i] = 34
      · rw [decide_eq_true h34]
        rw [if_pos h34] at hun
        rw [hun]
        refine e_condT ?_
        refine e_slfacts .here fun f1 f2 f3 f4 => ?_
        refine e_opN (v_str (l := acc) (rd_sl (by simp) f4) (nn_none f4)) (.pick .here .nil) ?_
        refine e_opN v_lent Imp.nil ?_
        refine e_opN (v_sub (by omega) (by omega)) Imp.nil ?_
        refine e_opN v_eql Imp.nil ?_
        have e : decide ((i : Int) = (l.length : Int) - 1) = (l.drop (i + 1)).isEmpty := by
          rw [Bool.eq_iff_iff]
          simp only [decide_eq_true_iff, List.isEmpty_iff, List.drop_eq_nil_iff]
          omega
        rw [e]
        (first | refine e_ret (()) rfl ?_ | refine e_retT (()) ?_)
        (repeat (first | exact Imp.refl | exact Imp.nil | (apply Imp.pick; (focus ((repeat constructor); done))) | refine Imp.drop ?_))
      · rw [decide_eq_false h34]
        rw [if_neg h34] at hun
        refine e_condF ?_
        refine e_cut2 (fun z5 z6 => (ex fun st : Nat × UInt8 => pu (z5 = .int .i64 (st.1 : Int) ∧ z6 = B st.2 ∧ i ≤ st.1 ∧ st.1 < l.length ∧ unqL [] (l.drop 1) = if badQ st.2 then ([], false) else unqL (acc ++ [st.2]) (l.drop (st.1 + 1)))) :: Sl 1 5 sa sc acc.length (acc.map B) :: F) ?_ ?_
        · intro ds2 z5 z6
          refine e_ex .here fun st => e_pu .here fun hz => ?_
          obtain ⟨j, d⟩ := st
          (try dsimp only at hz)
          obtain ⟨rfl, rfl, hij, hjl, hun2⟩ := hz
          refine e_opN (B_ne 9 rfl) Imp.nil ?_
          refine e_and1or (fun _ => v_lss (q := .u8) (a := (d.toNat : Int)) (b := 32)) (fun _ _ => B_eq 127 rfl) ?_
          rw [badQ_j]
          cases hb : badQ d with
          | true =>
            rw [hb, if_pos rfl] at hun2
            rw [hun2]
            refine e_condT ?_
            (first | refine e_ret (()) rfl ?_ | refine e_retT (()) ?_)
            (repeat (first | exact Imp.refl | exact Imp.nil | (apply Imp.pick; (focus ((repeat constructor); done))) | refine Imp.drop ?_))
          | false =>
            rw [hb, if_neg (by decide)] at hun2
            refine e_condF ?_
            refine e_bsl1 fun gb => ?_
            refine e_app (m := 1) (news := [B d]) (by (repeat constructor)) (src_pt (e' := 5) (by kernel_rfl) .here (by rfl) (by intro u hu; rw [List.mem_singleton.1 hu]; rfl)) (by omega) (by omega) fun a' c' => ?_
            refine e_opN (v_add (by omega) (by omega)) Imp.nil ?_
            refine e_next2 (m - (j + 1 - i)) (by omega) (.ex ((acc ++ [d], a', c'), j + 1) (.all ?_))
            (try simp only [List.cons_append, List.nil_append, -eq_self])
            refine .pu ⟨by (try dsimp only); omega, by (try dsimp only); omega, by simp, rfl, by simp; omega, hun2⟩ ?_
            rw [List.length_append, List.map_append]
            simp only [List.length_singleton, List.map_cons, List.map_nil]
            (repeat (first | exact Imp.refl | exact Imp.nil | (apply Imp.pick; (focus ((repeat constructor); done))) | refine Imp.drop ?_))
        · refine e_opN (B_eq 92 rfl) Imp.nil ?_
          by_cases h92 : l[i] = 92
          · rw [decide_eq_true h92]
            rw [if_pos h92] at hun
            refine e_condT ?_
            refine e_opN (v_add (by omega) (by omega)) Imp.nil ?_
            refine e_opN v_lent Imp.nil ?_
            refine e_ask v_eql Imp.nil (fun h5 => ?_) (fun h5 => ?_)
            · rw [show l.drop (i + 1) = [] from List.drop_of_length_le (by omega)] at hun
              simp only at hun
              rw [hun]
              refine e_condT ?_
              (first | refine e_ret (()) rfl ?_ | refine e_retT (()) ?_)
              (repeat (first | exact Imp.refl | exact Imp.nil | (apply Imp.pick; (focus ((repeat constructor); done))) | refine Imp.drop ?_))
            · have hi1 : i + 1 < l.length := by omega
              rw [dr hi1] at hun
              simp only at hun
              refine e_condF ?_
              refine e_opN (v_ixS (i + 1) rfl hi1) Imp.nil ?_
              refine e_sat (.ex (i + 1, l[i + 1]) (.pu ⟨rfl, rfl, by (try dsimp only); omega, hi1, hun⟩ .refl))
          · rw [decide_eq_false h92]
            rw [if_neg h92] at hun
            refine e_condF ?_
            refine e_sat (.ex (i, l[i]) (.pu ⟨rfl, rfl, Nat.le_refl _, hlt, hun⟩ .refl))
    · rw [decide_eq_true h3]
      have hno : unqF l = ([], false) := by rw [unqF_at (by omega), if_neg h3]
      rw [hno]
      refine e_condT ?_
      (first | refine e_ret (()) rfl ?_ | refine e_retT (()) ?_)
      (repeat (first | exact Imp.refl | exact Imp.nil | (apply Imp.pick; (focus ((repeat constructor); done))) | refine Imp.drop ?_))
theorem rdirective {W : World} {l : List UInt8} (hl : l.length ≤ 4194304) : Cn Tryz.prog 21 [txt l] W [] (fun _ : Unit => .tuple #[vDir (dirR l).1, .bool (dirR l).2]) (fun _ => []) := by
  (refine S.ref10_directive_cn fun F => ?_; unfold S.ref10_directive; simp only [List.cons_append, List.nil_append])
  refine e_newA fun b2 => ?_
  refine e_loop1 (fun m y => [ex fun i : Nat => all [pu (m + i = l.length ∧ y = .int .i64 (i : Int) ∧ scn 61 l i), pt b2 (.cells #[.string ⟨#[]⟩, .string ⟨#[]⟩, .bool false] 52 (0, 0))]] ++ F) l.length ?_ ?_
  · refine Imp.ex 0 (.all ?_)
    (try simp only [List.cons_append, List.nil_append, -eq_self])
    exact .pu ⟨by omega, rfl, scn0⟩ .refl
  intro m ds y
  (try simp only [List.cons_append, List.nil_append, -eq_self])
  refine e_ex Pick.here fun i => e_all Pick.here ?_
  (try simp only [List.cons_append, List.nil_append, -eq_self])
  refine e_pu Pick.here fun hi => ?_
  obtain ⟨hmi, rfl, hsc⟩ := hi
  refine e_opN v_lent Imp.nil ?_
  refine e_opN v_lss Imp.nil ?_
  refine e_and12 (v := B (gt l i)) (b := decide (gt l i ≠ 61)) (fun h => v_gt (by simp at h; omega)) (fun _ => B_ne 61 rfl) ?_
  refine e_cond (φ := i < l.length ∧ gt l i ≠ 61) (by
    have e3 : decide ((i : Int) < (l.length : Int)) = decide (i < l.length) := by rw [decide_eq_decide]; omega
    rw [e3, ← Bool.decide_and]) (fun h => ?_) (fun h => ?_)
  · refine e_opN (v_add (by omega) (by omega)) Imp.nil ?_
    refine e_next1 (m - 1) (by omega) (.ex (i + 1) (.all ?_))
    (try simp only [List.cons_append, List.nil_append, -eq_self])
    exact .pu ⟨by omega, rfl, scn_next hsc h.1 h.2⟩ .refl
  have hA := cutA_len (c := 61) l
  have hB := cutB_len (c := 61) l
  have hcut : l.take i = cutA 61 l ∧ ((i < l.length) ↔ cutS 61 l = true) ∧ (i < l.length → l.drop (i + 1) = cutB 61 l) := by
    by_cases hil : i < l.length
    · have hg : gt l i = 61 := Decidable.byContradiction fun c => h ⟨hil, c⟩
      obtain ⟨ea, eb, es⟩ := scn_hit hsc hil hg
      exact ⟨ea.symm, ⟨fun _ => es, fun _ => hil⟩, fun _ => eb.symm⟩
    · obtain ⟨ea, eb, es⟩ := scn_end hsc (by omega)
      refine ⟨by rw [ea, List.take_of_length_le (by omega)], ⟨fun c => absurd c hil, fun c => by rw [es] at c; cases c⟩, fun c => absurd c hil⟩
  obtain ⟨hta, hts, htb⟩ := hcut
  refine e_opN (v_ssh i rfl (by omega)) Imp.nil ?_
  rw [hta]
  refine e_call (rlower (l := cutA 61 l) (by omega)) .nil fun _ => ?_
  (try simp only [List.cons_append, List.nil_append, -eq_self])
  refine e_opN v_rv Imp.nil ?_
  refine e_newA fun b5 => ?_
  (((with_reducible refine' e_stAgg ?hp ?hn ?hv ?h1 ?_); (case hp => (repeat constructor)); (case hn => rfl); (case hv => rfl); (case h1 => (intro u hu; simp at hu; rcases hu with rfl | rfl | rfl <;> rfl)))); (((with_reducible refine e_opN v_fa0 Imp.nil ?_))); (((with_reducible refine' e_opN (v_ldN ?hc) ?hi ?_); (case hi => (repeat (first | exact Imp.refl | exact Imp.nil | (apply Imp.pick; (focus ((repeat constructor); done))) | refine Imp.drop ?_))); (case hc => (repeat (first | exact Nth.here | apply Nth.there)))))
  have hvl : (lowF (cutA 61 l)).length ≤ 4194304 := by rw [lowF_len]; omega
  refine e_call (rtoken (l := lowF (cutA 61 l)) (by omega)) .nil fun _ => ?_
  (try simp only [List.cons_append, List.nil_append, -eq_self])
  cases ht : tokF (lowF (cutA 61 l)) with
  | false =>
    have e : dirR l = (⟨lowF (cutA 61 l), [], false⟩, false) := by unfold dirR; rw [if_pos ht]
    rw [e]
    (((with_reducible refine e_opN v_notF Imp.nil ?_))); ((with_reducible refine e_condT ?_)); (((with_reducible refine' e_opN (v_ldAgg ?hn) ?hi ?_); (case hi => (repeat (first | exact Imp.refl | exact Imp.nil | (apply Imp.pick; (focus ((repeat constructor); done))) | refine Imp.drop ?_))); (case hn => rfl))); (((with_reducible refine' e_stAgg ?hp ?hn ?hv ?h1 ?_); (case hp => (repeat constructor)); (case hn => rfl); (case hv => rfl); (case h1 => (intro u hu; simp at hu; rcases hu with rfl | rfl | rfl <;> rfl)))); (((with_reducible refine' e_stS (v_resA ?hn) ?hi ?_); (case hi => (repeat (first | exact Imp.refl | exact Imp.nil | (apply Imp.pick; (focus ((repeat constructor); done))) | refine Imp.drop ?_))); (case hn => rfl)))
    (first | refine e_ret (()) rfl ?_ | refine e_retT (()) ?_)
    (repeat (first | exact Imp.refl | exact Imp.nil | (apply Imp.pick; (focus ((repeat constructor); done))) | refine Imp.drop ?_))
  | true =>
    refine e_opN v_notT Imp.nil ?_
    refine e_condF ?_
    refine e_opN v_lent Imp.nil ?_
    refine e_ask v_eql Imp.nil (fun h5 => ?_) (fun h5 => ?_)
    · have hs : cutS 61 l = false := by
        cases hx : cutS 61 l with
        | false => rfl
        | true => have := hts.2 hx; omega
      have e : dirR l = (⟨lowF (cutA 61 l), [], false⟩, true) := by unfold dirR; rw [if_neg (by rw [ht]; decide), if_pos hs]
      rw [e]
      ((with_reducible refine e_condT ?_)); (((with_reducible refine' e_opN (v_ldAgg ?hn) ?hi ?_); (case hi => (repeat (first | exact Imp.refl | exact Imp.nil | (apply Imp.pick; (focus ((repeat constructor); done))) | refine Imp.drop ?_))); (case hn => rfl))); (((with_reducible refine' e_stAgg ?hp ?hn ?hv ?h1 ?_); (case hp => (repeat constructor)); (case hn => rfl); (case hv => rfl); (case h1 => (intro u hu; simp at hu; rcases hu with rfl | rfl | rfl <;> rfl)))); (((with_reducible refine' e_stS (v_resA ?hn) ?hi ?_); (case hi => (repeat (first | exact Imp.refl | exact Imp.nil | (apply Imp.pick; (focus ((repeat constructor); done))) | refine Imp.drop ?_))); (case hn => rfl)))
      (first | refine e_ret (()) rfl ?_ | refine e_retT (()) ?_)
      (repeat (first | exact Imp.refl | exact Imp.nil | (apply Imp.pick; (focus ((repeat constructor); done))) | refine Imp.drop ?_))
    · have hil : i < l.length := by omega
      have hs : cutS 61 l = true := hts.1 hil
      refine e_condF ?_
      (((with_reducible refine e_opN v_fa0 Imp.nil ?_))); (((with_reducible refine' e_stN ?hp ?ho ?_); (case hp => (repeat constructor)); (case ho => (repeat (first | exact Put.here | apply Put.there))))); (((with_reducible refine e_opN (v_add ?h1 ?h2) Imp.nil ?_); (case h1 => omega); (case h2 => omega)))
      refine e_opN (v_ssl (i + 1) rfl (by omega)) Imp.nil ?_
      rw [htb hil]
      (((with_reducible refine e_opN v_fa0 Imp.nil ?_))); (((with_reducible refine' e_stN ?hp ?ho ?_); (case hp => (repeat constructor)); (case ho => (repeat (first | exact Put.here | apply Put.there))))); (((with_reducible refine e_opN v_fa0 Imp.nil ?_))); (((with_reducible refine' e_opN (v_ldN ?hc) ?hi ?_); (case hi => (repeat (first | exact Imp.refl | exact Imp.nil | (apply Imp.pick; (focus ((repeat constructor); done))) | refine Imp.drop ?_))); (case hc => (repeat (first | exact Nth.here | apply Nth.there)))))
      refine e_call (rtoken (l := cutB 61 l) (by omega)) .nil fun _ => ?_
      (try simp only [List.cons_append, List.nil_append, -eq_self])
      cases hb : tokF (cutB 61 l) with
      | true =>
        have e : dirR l = (⟨lowF (cutA 61 l), cutB 61 l, true⟩, true) := by unfold dirR; rw [if_neg (by rw [ht]; decide), if_neg (by rw [hs]; decide), if_pos hb]
        rw [e]
        ((with_reducible refine e_condT ?_)); (((with_reducible refine' e_opN (v_ldAgg ?hn) ?hi ?_); (case hi => (repeat (first | exact Imp.refl | exact Imp.nil | (apply Imp.pick; (focus ((repeat constructor); done))) | refine Imp.drop ?_))); (case hn => rfl))); (((with_reducible refine' e_stAgg ?hp ?hn ?hv ?h1 ?_); (case hp => (repeat constructor)); (case hn => rfl); (case hv => rfl); (case h1 => (intro u hu; simp at hu; rcases hu with rfl | rfl | rfl <;> rfl)))); (((with_reducible refine' e_stS (v_resA ?hn) ?hi ?_); (case hi => (repeat (first | exact Imp.refl | exact Imp.nil | (apply Imp.pick; (focus ((repeat constructor); done))) | refine Imp.drop ?_))); (case hn => rfl)))
        (first | refine e_ret (()) rfl ?_ | refine e_retT (()) ?_)
        (repeat (first | exact Imp.refl | exact Imp.nil | (apply Imp.pick; (focus ((repeat constructor); done))) | refine Imp.drop ?_))
      | false =>
        have e : dirR l = (⟨lowF (cutA 61 l), (unqF (cutB 61 l)).1, true⟩, (unqF (cutB 61 l)).2) := by unfold dirR; rw [if_neg (by rw [ht]; decide), if_neg (by rw [hs]; decide), if_neg (by rw [hb]; decide)]
        rw [e]
        ((with_reducible refine e_condF ?_)); (((with_reducible refine e_opN v_fa0 Imp.nil ?_))); (((with_reducible refine' e_opN (v_ldN ?hc) ?hi ?_); (case hi => (repeat (first | exact Imp.refl | exact Imp.nil | (apply Imp.pick; (focus ((repeat constructor); done))) | refine Imp.drop ?_))); (case hc => (repeat (first | exact Nth.here | apply Nth.there)))))
        refine e_call (runquoted (l := cutB 61 l) (by omega)) .nil fun _ => ?_
        (try simp only [List.cons_append, List.nil_append, -eq_self])
        (((with_reducible refine' e_opN (v_extN ?hc) Imp.nil ?_); (case hc => (repeat (first | exact Nth.here | apply Nth.there))))); (((with_reducible refine' e_opN (v_extN ?hc) Imp.nil ?_); (case hc => (repeat (first | exact Nth.here | apply Nth.there))))); (((with_reducible refine e_opN v_fa0 Imp.nil ?_))); (((with_reducible refine' e_stN ?hp ?ho ?_); (case hp => (repeat constructor)); (case ho => (repeat (first | exact Put.here | apply Put.there))))); (((with_reducible refine' e_opN (v_ldAgg ?hn) ?hi ?_); (case hi => (repeat (first | exact Imp.refl | exact Imp.nil | (apply Imp.pick; (focus ((repeat constructor); done))) | refine Imp.drop ?_))); (case hn => rfl))); (((with_reducible refine' e_stAgg ?hp ?hn ?hv ?h1 ?_); (case hp => (repeat constructor)); (case hn => rfl); (case hv => rfl); (case h1 => (intro u hu; simp at hu; rcases hu with rfl | rfl | rfl <;> rfl)))); (((with_reducible refine' e_stS (v_resA ?hn) ?hi ?_); (case hi => (repeat (first | exact Imp.refl | exact Imp.nil | (apply Imp.pick; (focus ((repeat constructor); done))) | refine Imp.drop ?_))); (case hn => rfl)))
        (first | refine e_ret (()) rfl ?_ | refine e_retT (()) ?_)
        (repeat (first | exact Imp.refl | exact Imp.nil | (apply Imp.pick; (focus ((repeat constructor); done))) | refine Imp.drop ?_))
end Go.Proofs.YtcigoifhcfbcdaaGreatDoor.FD
namespace Go.Proofs.YtcigoifhcfbcdaaGreatDoor.FD
open Go Go.Proofs Go.RowKit Go.Proofs.YtcigoifhcfbcdaaGreatDoor.Sh Go.Proofs.YtcigoifhcfbcdaaGreatDoor.Sl Go.Proofs.YtcigoifhcfbcdaaGreatDoor.T
theorem v_bne {W : World} {ox oy : Operand} {a b : Bool} : RunV Tryz.prog W [] (sEq .neq 4 ox oy (.bool a) (.bool b)) (.bool (decide (a ≠ b))) := fun w _ => by
  have h : (Op.equal 4 (.bool a) (.bool b)).run Tryz.prog w = .ok (a == b) w := by
    unfold Op.equal Op.maxDepth Op.equalIn
    simp only [Sem.run_bind, run_underlying Tryz.underlying4, Result.andThen_ok]
    rfl
  simp [sEq, sv, eqGuard, binOp, h, Result.andThen]
  cases a <;> cases b <;> rfl
theorem v_beq {W : World} {ox oy : Operand} {a b : Bool} : RunV Tryz.prog W [] (sEq .eql 4 ox oy (.bool a) (.bool b)) (.bool (decide (a = b))) := v_beqlG Tryz.underlying4
theorem strF_comm (x y : Bool × List UInt8) : strF x y = strF y x := by
  unfold strF
  by_cases h : x.1 = y.1 ∧ x.2 = y.2
  · rw [decide_eq_true h, decide_eq_true ⟨h.1.symm, h.2.symm⟩, h.1]
  · rw [decide_eq_false h, decide_eq_false (fun c => h ⟨c.1.symm, c.2.symm⟩)]; rfl
theorem strF_self (x : Bool × List UInt8) : strF x x = !x.1 := by simp [strF]
theorem strF_weak {x y : Bool × List UInt8} (h : strF x y = true) : x.2 = y.2 := by
  unfold strF at h
  simp at h; exact h.1.2
end Go.Proofs.YtcigoifhcfbcdaaGreatDoor.FD
namespace Go.Proofs.YtcigoifhcfbcdaaGreatDoor.FD
open Go Go.Proofs Go.RowKit Go.Proofs.YtcigoifhcfbcdaaGreatDoor.Sh Go.Proofs.YtcigoifhcfbcdaaGreatDoor.Sl Go.Proofs.YtcigoifhcfbcdaaGreatDoor.T
theorem rdirectives {W : World} {l : List UInt8} (hl : l.length ≤ 2097152) : Cn Tryz.prog 6 [txt l] W [] (fun r : Option Addr × Nat => .tuple #[.slice r.1 (lsF (dirsF l)).1.length r.2, .int .i64 (lsF (dirsF l)).2])
    (fun r => [Sl 3 52 r.1 r.2 (lsF (dirsF l)).1.length ((lsF (dirsF l)).1.flatMap pDir)]) := by
  have fin : dirsF l = none → ∀ F : List HP, Ent W F (fun w => ∃ r : Option Addr × Nat, (.tuple #[.slice none 0 0, .int .i64 42] : Value) = .tuple #[.slice r.1 (lsF (dirsF l)).1.length r.2, .int .i64 (lsF (dirsF l)).2] ∧ sat W ([Sl 3 52 r.1 r.2 (lsF (dirsF l)).1.length ((lsF (dirsF l)).1.flatMap pDir)] ++ F) w) := by
    intro h F
    rw [h]
    refine e_ret (none, 0) rfl ?_
    exact imp_nil .refl
  (refine S.ref10_Directives_cn fun F => ?_; unfold S.ref10_Directives; simp only [List.cons_append, List.nil_append])
  have hs : dirsF l = listF dirR (elemsF true true l) := dirs_eq l
  have hnum := elems_num (q := true) (e := true) (l := l)
  refine e_call (relements (l := l) (q := true) (e := true) (by omega)) .nil fun r => ?_
  obtain ⟨ea, ec⟩ := r
  (try simp only [List.cons_append, List.nil_append, -eq_self])
  obtain ⟨E, hE⟩ : ∃ E, E = elemsF true true l := ⟨_, rfl⟩
  have hEl : ∀ w ∈ E, w.length ≤ 2097152 := fun w hw => by
    rw [hE] at hw
    have := elems_len hw
    omega
  rw [← hE] at hnum hs ⊢
  refine e_loop2 (fun m y5 y6 => [ex fun st : Nat × Option Addr × Nat => all [pu (m + st.1 = E.length ∧ y5 = .slice st.2.1 st.1 st.2.2 ∧ y6 = .int .i64 (st.1 : Int) ∧ (E.take st.1).all (fun w => (dirR w).2) = true), Sl 3 52 st.2.1 st.2.2 st.1 ((E.take st.1).flatMap fun w => pDir (dirR w).1), Sl 1 9 ea ec E.length (E.map txt)]] ++ F) E.length ?_ ?_
  · refine Imp.ex (0, none, 0) (.all ?_)
    (try simp only [List.cons_append, List.nil_append, -eq_self])
    refine .pu ⟨rfl, rfl, rfl, rfl⟩ ?_
    exact imp_nil .refl
  intro m ds y5 y6
  (try simp only [List.cons_append, List.nil_append, -eq_self])
  refine e_ex Pick.here fun st => e_all Pick.here ?_
  obtain ⟨i, sa, sc⟩ := st
  (try simp only [List.cons_append, List.nil_append, -eq_self])
  refine e_pu Pick.here fun hi => ?_
  (try dsimp only at hi)
  obtain ⟨hmi, rfl, rfl, hok⟩ := hi
  refine e_opN v_len Imp.nil ?_
  refine e_ask v_lss Imp.nil (fun h => ?_) (fun h => ?_)
  · have hil : i < E.length := by omega
    have hwl := hEl _ (List.getElem_mem hil)
    have htk : E.take (i + 1) = E.take i ++ [E[i]] := List.take_succ_eq_append_getElem hil
    refine e_condT ?_
    refine e_slsome (a := ea) (.there .here) (Nat.zero_lt_of_lt hil) fun g hg => ?_
    subst hg
    have ld : RunV Tryz.prog W [Sl 1 9 (some ⟨g, 0, none⟩) ec E.length (E.map txt)] (sLoad 9 (.pointer (some ⟨g, 0 + i, none⟩))) (txt E[i]) := v_ldSl (by rw [Nat.zero_add, List.getElem?_map, List.getElem?_eq_getElem hil]; rfl)
    refine e_opN (v_ia1 i rfl hil) Imp.nil ?_
    refine e_opN ld (.pick (by (repeat constructor)) .nil) ?_
    refine e_call (rdirective (l := E[i]) (by omega)) .nil fun _ => ?_
    (try simp only [List.cons_append, List.nil_append, -eq_self])
    refine e_opN (v_extN (vs := [_, _]) .here) Imp.nil ?_
    refine e_opN (v_extN (vs := [_, _]) (.there .here)) Imp.nil ?_
    unfold vDir
    refine e_newA fun b8 => ?_
    refine e_stAgg .here (by rfl) (by rfl) (by intro u hu; simp at hu; rcases hu with rfl | rfl | rfl <;> rfl) ?_
    refine e_opN v_not Imp.nil ?_
    cases hk : (dirR E[i]).2 with
    | false =>
      refine e_condT ?_
      refine e_imp (M := F) (by (repeat (first | exact Imp.refl | exact Imp.nil | (apply Imp.pick; (focus ((repeat constructor); done))) | refine Imp.drop ?_))) ?_
      refine fin ?_ F
      rw [hs]
      unfold listF
      rw [if_neg]
      intro hall
      have := List.all_eq_true.1 hall _ (List.getElem_mem hil)
      rw [hk] at this; cases this
    | true =>
      refine e_condF ?_
      refine e_opN (v_ldAgg (cs := #[txt (dirR E[i]).1.name, txt (dirR E[i]).1.value, .bool (dirR E[i]).1.has]) rfl) (.pick (by (repeat constructor)) .nil) ?_
      refine e_bslS (n := 1) (vs := [vDir (dirR E[i]).1]) rfl (by omega) rfl (by intro v hv; rw [List.mem_singleton.1 hv]; rfl) (by omega) fun gb => ?_
      refine e_app (m := 1) (news := pDir (dirR E[i]).1) (by (repeat constructor)) (src_pt (s := 3) (e' := 52) (by kernel_rfl) .here (by rfl) (by intro u hu; simp [pDir] at hu; rcases hu with rfl | rfl | rfl <;> rfl)) (by omega) (by omega) fun a' c' => ?_
      refine e_opN (v_add (by omega) (by omega)) Imp.nil ?_
      refine e_next2 (m - 1) (by omega) (.ex (i + 1, a', c') (.all ?_))
      (try simp only [List.cons_append, List.nil_append, -eq_self])
      refine .pu ⟨by (try dsimp only); omega, rfl, rfl, ?_⟩ ?_
      · rw [htk, List.all_append, hok]
        simp [hk]
      rw [htk, List.flatMap_append, List.flatMap_singleton]
      refine .pick (by (repeat constructor)) ?_
      (repeat (first | exact Imp.refl | exact Imp.nil | (apply Imp.pick; (focus ((repeat constructor); done))) | refine Imp.drop ?_))
  · have hie : i = E.length := by omega
    subst hie
    rw [List.take_length] at hok ⊢
    have hss : dirsF l = some (E.map fun w => (dirR w).1) := by
      rw [hs]
      unfold listF
      rw [if_pos hok]
    rw [hss]
    refine e_condF ?_
    refine e_ret (sa, sc) (by simp [lsF]) ?_
    simp only [lsF, List.length_map, List.flatMap_map]
    (repeat (first | exact Imp.refl | exact Imp.nil | (apply Imp.pick; (focus ((repeat constructor); done))) | refine Imp.drop ?_))
theorem pDir_len (x : Dir) : (pDir x).length = 3 := rfl
theorem dir_at {xs : List Dir} {i : Nat} (h : i < xs.length) : (xs.flatMap pDir)[i * 3 + 0]? = some (txt xs[i].name) ∧ (xs.flatMap pDir)[i * 3 + 1]? = some (txt xs[i].value) ∧ (xs.flatMap pDir)[i * 3 + 2]? = some (.bool xs[i].has) :=
  ⟨flat_get (f := pDir) (s := 3) pDir_len xs i 0 h (by omega), flat_get (f := pDir) (s := 3) pDir_len xs i 1 h (by omega), flat_get (f := pDir) (s := 3) pDir_len xs i 2 h (by omega)⟩
def dOK (x : Dir) : Prop := x.value.length ≤ 4194304 ∧ (x.has = false → x.value = [])
theorem dirs_ok {l : List UInt8} (hl : l.length ≤ 2097152) : ∀ x ∈ (lsF (dirsF l)).1, dOK x := by
  intro x hx
  unfold dirsF listF at hx
  split at hx
  · obtain ⟨w, hw, rfl⟩ := List.mem_map.1 hx
    have hwl := elems_len hw
    refine ⟨?_, dir_has⟩
    have hB := cutB_len (c := 61) w
    unfold dirF
    split
    · show (unqF (cutB 61 w)).1.length ≤ _
      have : (unqF (cutB 61 w)).1.length ≤ (cutB 61 w).length := by
        cases cutB 61 w with
        | nil => simp [unqF]
        | cons c r =>
          show (if c = 34 then unqL [] r else ([], false)).1.length ≤ _
          split
          · have := unq_len r.length r (Nat.le_refl _) []
            simp at this ⊢; omega
          · simp
      omega
    · show (cutB 61 w).length ≤ _
      omega
  · simp [lsF] at hx
theorem dirs_num {l : List UInt8} : (lsF (dirsF l)).1.length ≤ l.length + 1 := by
  have hn := elems_num (q := true) (e := true) (l := l)
  unfold dirsF listF
  split
  · show (List.map _ _).length ≤ _
    rw [List.length_map]; omega
  · simp [lsF]
theorem sec_cons {xs : List Dir} {i : Nat} {s : List UInt8} (h : i < xs.length) : secF (xs.drop i) s = if xs[i].name = s then (secV xs[i], true) else secF (xs.drop (i + 1)) s := by
  rw [List.drop_eq_getElem_cons h]
  unfold secF
  rw [List.find?_cons]
  by_cases c : xs[i].name = s
  · rw [if_pos c, show (xs[i].name == s) = true by simp [c]]
  · rw [if_neg c, show (xs[i].name == s) = false by simp [c]]
theorem seconds {W : World} [hG : Gl W] {xs : List Dir} {s : List UInt8} {a : Option Addr} {c : Nat} (hn : xs.length ≤ 4194304) (hx : ∀ x ∈ xs, dOK x) : Cn Tryz.prog 11 [.slice a xs.length c, txt s] W [Sl 3 44 a c xs.length (xs.flatMap pDir)] (fun _ : Unit => .tuple #[.int .i64 (secF xs s).1, .bool (secF xs s).2]) (fun _ => [Sl 3 44 a c xs.length (xs.flatMap pDir)]) := by
  (refine S.fields_Seconds_cn fun F => ?_; unfold S.fields_Seconds; simp only [List.cons_append, List.nil_append])
  refine e_opN v_len Imp.nil ?_
  refine e_loop1 (fun m y => [ex fun i : Nat => all [pu (m + i = xs.length ∧ y = .int .i64 (i : Int) ∧ secF xs s = secF (xs.drop i) s), Sl 3 44 a c xs.length (xs.flatMap pDir)]] ++ F) xs.length ?_ ?_
  · refine Imp.ex 0 (.all ?_)
    (try simp only [List.cons_append, List.nil_append, -eq_self])
    exact .pu ⟨rfl, rfl, rfl⟩ .refl
  intro m ds y
  (try simp only [List.cons_append, List.nil_append, -eq_self])
  refine e_ex Pick.here fun i => e_all Pick.here ?_
  (try simp only [List.cons_append, List.nil_append, -eq_self])
  refine e_pu Pick.here fun hi => ?_
  obtain ⟨hmi, rfl, hse⟩ := hi
  refine e_ask v_lss Imp.nil (fun h => ?_) (fun h => ?_)
  · have hil : i < xs.length := by omega
    have hok := hx _ (List.getElem_mem hil)
    rw [sec_cons hil] at hse
    refine e_condT ?_
    refine e_slsome (a := a) .here (Nat.zero_lt_of_lt hil) fun g hg => ?_
    subst hg
    refine e_opN (v_ia i rfl hil) Imp.nil ?_
    refine e_opN (ld_dir hil rfl) (.pick (by (repeat constructor)) .nil) ?_
    generalize xs[i] = x at hok hse ⊢
    unfold vDir
    refine e_newA fun b7 => ?_
    refine e_stAgg .here (by rfl) (by rfl) (by intro u hu; simp at hu; rcases hu with rfl | rfl | rfl <;> rfl) ?_
    (((with_reducible refine e_opN v_fa0 Imp.nil ?_))); (((with_reducible refine' e_opN (v_ldN ?hc) ?hi ?_); (case hi => (repeat (first | exact Imp.refl | exact Imp.nil | (apply Imp.pick; (focus ((repeat constructor); done))) | refine Imp.drop ?_))); (case hc => (repeat (first | exact Nth.here | apply Nth.there)))))
    refine e_opN v_strne Imp.nil ?_
    by_cases hxn : x.name = s
    · rw [decide_eq_false (fun c => c hxn)]
      rw [if_pos hxn] at hse
      refine e_condF ?_
      (((with_reducible refine e_opN v_fa0 Imp.nil ?_))); (((with_reducible refine' e_opN (v_ldN ?hc) ?hi ?_); (case hi => (repeat (first | exact Imp.refl | exact Imp.nil | (apply Imp.pick; (focus ((repeat constructor); done))) | refine Imp.drop ?_))); (case hc => (repeat (first | exact Nth.here | apply Nth.there)))))
      refine e_call (decimal (l := x.value) (by have := hok.1; omega)) .nil fun _ => ?_
      (try simp only [List.cons_append, List.nil_append, -eq_self])
      refine e_opN (v_extN (vs := [_, _]) .here) Imp.nil ?_
      refine e_opN (v_extN (vs := [_, _]) (.there .here)) Imp.nil ?_
      refine e_cut1 (fun z => (ex fun n : Int => pu (z = .int .i64 n ∧ secV x = if 2147483648 < n then 2147483648 else n)) :: pt b7 (.cells #[txt x.name, txt x.value, .bool x.has] 44 (0, 0)) :: Sl 3 44 (some ⟨g, 0, none⟩) c xs.length (xs.flatMap pDir) :: F) ?_ ?_
      · intro ds2 z
        refine e_ex .here fun n => e_pu .here fun hz => ?_
        obtain ⟨rfl, hsv⟩ := hz
        refine e_opN v_min Imp.nil ?_
        refine e_ret () (by rw [hse, hsv]) ?_
        (repeat (first | exact Imp.refl | exact Imp.nil | (apply Imp.pick; (focus ((repeat constructor); done))) | refine Imp.drop ?_))
      · refine e_ask v_eql Imp.nil (fun h1 => ?_) (fun h1 => ?_)
        · refine e_condT ?_
          refine e_sat (.ex 2147483648 (.pu ⟨rfl, ?_⟩ ?_))
          · unfold secV; rw [if_pos h1]; rfl
          · (repeat (first | exact Imp.refl | exact Imp.nil | (apply Imp.pick; (focus ((repeat constructor); done))) | refine Imp.drop ?_))
        · refine e_condF ?_
          refine e_ask v_neq Imp.nil (fun h2 => ?_) (fun h2 => ?_)
          · refine e_condT ?_
            refine e_condT ?_
            refine e_sat (.ex 0 (.pu ⟨rfl, ?_⟩ ?_))
            · unfold secV; rw [if_neg h1, if_pos (.inl h2)]; rfl
            · (repeat (first | exact Imp.refl | exact Imp.nil | (apply Imp.pick; (focus ((repeat constructor); done))) | refine Imp.drop ?_))
          · refine e_condF ?_
            (((with_reducible refine e_opN v_fa0 Imp.nil ?_))); (((with_reducible refine' e_opN (v_ldN ?hc) ?hi ?_); (case hi => (repeat (first | exact Imp.refl | exact Imp.nil | (apply Imp.pick; (focus ((repeat constructor); done))) | refine Imp.drop ?_))); (case hc => (repeat (first | exact Nth.here | apply Nth.there))))); (((with_reducible refine e_opN v_not Imp.nil ?_)))
            cases hh : x.has with
            | false =>
              refine e_condT ?_
              refine e_sat (.ex 0 (.pu ⟨rfl, ?_⟩ ?_))
              · unfold secV; rw [if_neg h1, if_pos (.inr hh)]; rfl
              · (repeat (first | exact Imp.refl | exact Imp.nil | (apply Imp.pick; (focus ((repeat constructor); done))) | refine Imp.drop ?_))
            | true =>
              refine e_condF ?_
              refine e_sat (.ex (decF x.value).1 (.pu ⟨rfl, ?_⟩ ?_))
              · unfold secV; rw [if_neg h1, if_neg (by rw [hh]; rintro (c | c); exact h2 c; cases c)]
                split <;> omega
              · (repeat (first | exact Imp.refl | exact Imp.nil | (apply Imp.pick; (focus ((repeat constructor); done))) | refine Imp.drop ?_))
    · rw [decide_eq_true hxn]
      rw [if_neg hxn] at hse
      refine e_condT ?_
      refine e_opN (v_add (by omega) (by omega)) Imp.nil ?_
      refine e_next1 (m - 1) (by omega) (.ex (i + 1) (.all ?_))
      (try simp only [List.cons_append, List.nil_append, -eq_self])
      refine .pu ⟨by omega, rfl, hse⟩ ?_
      (repeat (first | exact Imp.refl | exact Imp.nil | (apply Imp.pick; (focus ((repeat constructor); done))) | refine Imp.drop ?_))
  · rw [List.drop_of_length_le (by omega)] at hse
    refine e_condF ?_
    rw [hse]
    (first | refine e_ret (()) rfl ?_ | refine e_retT (()) ?_)
    (repeat (first | exact Imp.refl | exact Imp.nil | (apply Imp.pick; (focus ((repeat constructor); done))) | refine Imp.drop ?_))
theorem dec_big {l : List UInt8} (h : 2147483648 < (decF l).1) : (decF l).2 = 0 ∧ l ≠ [] := by
  unfold decF at h ⊢
  cases l with
  | nil => simp [nb] at h
  | cons c r =>
    refine ⟨?_, by simp⟩
    split at h
    · split at h
      · rename_i h1 h2
        rw [if_pos h1, if_pos h2]
      · simp at h
    · simp at h
theorem rseconds {W : World} {xs : List Dir} {s : List UInt8} {a : Option Addr} {c : Nat} (hn : xs.length ≤ 4194304) (hx : ∀ x ∈ xs, dOK x) : Cn Tryz.prog 12 [.slice a xs.length c, txt s] W [Sl 3 52 a c xs.length (xs.flatMap pDir)] (fun _ : Unit => .tuple #[.int .i64 (secF xs s).1, .bool (secF xs s).2]) (fun _ => [Sl 3 52 a c xs.length (xs.flatMap pDir)]) := by
  (refine S.ref10_Seconds_cn fun F => ?_; unfold S.ref10_Seconds; simp only [List.cons_append, List.nil_append])
  refine e_loop1 (fun m y => [ex fun i : Nat => all [pu (m + i = xs.length ∧ y = .int .i64 (i : Int) ∧ secF xs s = secF (xs.drop i) s), Sl 3 52 a c xs.length (xs.flatMap pDir)]] ++ F) xs.length ?_ ?_
  · refine Imp.ex 0 (.all ?_)
    (try simp only [List.cons_append, List.nil_append, -eq_self])
    exact .pu ⟨rfl, rfl, rfl⟩ .refl
  intro m ds y
  (try simp only [List.cons_append, List.nil_append, -eq_self])
  refine e_ex Pick.here fun i => e_all Pick.here ?_
  (try simp only [List.cons_append, List.nil_append, -eq_self])
  refine e_pu Pick.here fun hi => ?_
  obtain ⟨hmi, rfl, hse⟩ := hi
  refine e_opN v_len Imp.nil ?_
  refine e_ask v_lss Imp.nil (fun h => ?_) (fun h => ?_)
  · have hil : i < xs.length := by omega
    have hok := hx _ (List.getElem_mem hil)
    have hat := dir_at hil
    rw [sec_cons hil] at hse
    refine e_condT ?_
    refine e_slsome (a := a) .here (Nat.zero_lt_of_lt hil) fun g hg => ?_
    subst hg
    generalize xs[i] = x at hok hse hat ⊢
    have l0 : RunV Tryz.prog W [Sl 3 52 (some ⟨g, 0, none⟩) c xs.length (xs.flatMap pDir)] (sLoad 9 (.pointer (some ⟨g, 0 + i * 3 + 0, none⟩))) (txt x.name) := v_ldSl (by rw [Nat.zero_add]; exact hat.1)
    have l1 : RunV Tryz.prog W [Sl 3 52 (some ⟨g, 0, none⟩) c xs.length (xs.flatMap pDir)] (sLoad 9 (.pointer (some ⟨g, 0 + i * 3 + 1, none⟩))) (txt x.value) := v_ldSl (by rw [Nat.zero_add]; exact hat.2.1)
    have l2 : RunV Tryz.prog W [Sl 3 52 (some ⟨g, 0, none⟩) c xs.length (xs.flatMap pDir)] (sLoad 4 (.pointer (some ⟨g, 0 + i * 3 + 2, none⟩))) (.bool x.has) := v_ldSl (by rw [Nat.zero_add]; exact hat.2.2)
    refine e_opN (v_ia i rfl hil) Imp.nil ?_
    refine e_opN v_fa Imp.nil ?_
    refine e_opN l0 (.pick .here .nil) ?_
    refine e_opN v_strne Imp.nil ?_
    by_cases hxn : x.name = s
    · rw [decide_eq_false (fun c => c hxn)]
      rw [if_pos hxn] at hse
      rw [hse]
      refine e_condF ?_
      refine e_opN (v_ia i rfl hil) Imp.nil ?_
      refine e_opN v_fa Imp.nil ?_
      refine e_opN l1 (.pick .here .nil) ?_
      refine e_call (rdecimal (l := x.value) (by have := hok.1; omega)) .nil fun _ => ?_
      (try simp only [List.cons_append, List.nil_append, -eq_self])
      refine e_opN (v_extN (vs := [_, _]) .here) Imp.nil ?_
      refine e_opN (v_extN (vs := [_, _]) (.there .here)) Imp.nil ?_
      refine e_opN v_eql Imp.nil ?_
      refine e_or1 (fun _ => v_gtr) ?_
      refine e_cond (φ := (decF x.value).2 = 11 ∨ 2147483648 < (decF x.value).1) (by rw [← Bool.decide_or]) (fun h1 => ?_) (fun h1 => ?_)
      · have e : secV x = 2147483648 := by
          unfold secV
          rcases h1 with h1 | h1
          · rw [if_pos h1]
          · obtain ⟨k1, k2⟩ := dec_big h1
            have hh : x.has = true := by
              cases hh : x.has with
              | true => rfl
              | false => exact absurd (hok.2 hh) k2
            rw [if_neg (by rw [k1]; decide), if_neg (by rw [k1, hh]; simp)]
            omega
        rw [e]
        (first | refine e_ret (()) rfl ?_ | refine e_retT (()) ?_)
        (repeat (first | exact Imp.refl | exact Imp.nil | (apply Imp.pick; (focus ((repeat constructor); done))) | refine Imp.drop ?_))
      · refine e_opN v_neq Imp.nil ?_
        by_cases h2 : (decF x.value).2 = 0
        · rw [decide_eq_false (fun c => c h2)]
          refine e_gdT ?_
          refine e_gdT ?_
          refine e_gdT ?_
          refine e_opN (v_ia i rfl hil) Imp.nil ?_
          refine e_gdT ?_
          refine e_opN v_fa Imp.nil ?_
          refine e_gdT ?_
          refine e_opN l2 (.pick .here .nil) ?_
          refine e_gdT ?_
          refine e_opN v_not Imp.nil ?_
          refine e_opN v_pickF Imp.nil ?_
          cases hh : x.has with
          | false =>
            have e : secV x = 0 := by
              unfold secV; rw [if_neg (fun c => h1 (.inl c)), if_pos (.inr hh)]
            rw [e]
            refine e_condT ?_
            (first | refine e_ret (()) rfl ?_ | refine e_retT (()) ?_)
            (repeat (first | exact Imp.refl | exact Imp.nil | (apply Imp.pick; (focus ((repeat constructor); done))) | refine Imp.drop ?_))
          | true =>
            have e : secV x = (decF x.value).1 := by
              unfold secV; rw [if_neg (fun c => h1 (.inl c)), if_neg (by rw [hh, h2]; simp)]
              have := fun c => h1 (.inr c)
              omega
            rw [e]
            refine e_condF ?_
            (first | refine e_ret (()) rfl ?_ | refine e_retT (()) ?_)
            (repeat (first | exact Imp.refl | exact Imp.nil | (apply Imp.pick; (focus ((repeat constructor); done))) | refine Imp.drop ?_))
        · have e : secV x = 0 := by
            unfold secV; rw [if_neg (fun c => h1 (.inl c)), if_pos (.inl h2)]
          rw [decide_eq_true h2, e]
          ((with_reducible refine e_gdF1 ?_)); ((with_reducible refine e_gdF1 ?_)); ((with_reducible refine e_gdF1 ?_)); ((with_reducible refine e_gdF1 ?_)); ((with_reducible refine e_gdF1 ?_)); ((with_reducible refine e_gdF1 ?_)); (((with_reducible refine e_opN v_pickT Imp.nil ?_))); ((with_reducible refine e_condT ?_))
          (first | refine e_ret (()) rfl ?_ | refine e_retT (()) ?_)
          (repeat (first | exact Imp.refl | exact Imp.nil | (apply Imp.pick; (focus ((repeat constructor); done))) | refine Imp.drop ?_))
    · rw [decide_eq_true hxn]
      rw [if_neg hxn] at hse
      refine e_condT ?_
      refine e_opN (v_add (by omega) (by omega)) Imp.nil ?_
      refine e_next1 (m - 1) (by omega) (.ex (i + 1) (.all ?_))
      (try simp only [List.cons_append, List.nil_append, -eq_self])
      refine .pu ⟨by omega, rfl, hse⟩ ?_
      (repeat (first | exact Imp.refl | exact Imp.nil | (apply Imp.pick; (focus ((repeat constructor); done))) | refine Imp.drop ?_))
  · rw [List.drop_of_length_le (by omega)] at hse
    refine e_condF ?_
    rw [hse]
    (first | refine e_ret (()) rfl ?_ | refine e_retT (()) ?_)
    (repeat (first | exact Imp.refl | exact Imp.nil | (apply Imp.pick; (focus ((repeat constructor); done))) | refine Imp.drop ?_))
theorem same_dirs {W : World} {X : List Dir} {a1 a2 : Option Addr} {c1 c2 : Nat} (hX : X.length ≤ 4194304) : Cn Tryz.prog 7 [.slice a1 X.length c1, .slice a2 X.length c2] W [Sl 3 44 a1 c1 X.length (X.flatMap pDir), Sl 3 52 a2 c2 X.length (X.flatMap pDir)] (fun _ : Unit => .bool true) (fun _ => [Sl 3 44 a1 c1 X.length (X.flatMap pDir), Sl 3 52 a2 c2 X.length (X.flatMap pDir)]) := by
  (refine S.law10_directives_cn fun F => ?_; unfold S.law10_directives; simp only [List.cons_append, List.nil_append])
  refine e_opN v_len Imp.nil ?_
  refine e_opN v_len Imp.nil ?_
  refine e_opN v_neq Imp.nil ?_
  rw [decide_eq_false (fun c => c rfl)]
  refine e_condF ?_
  refine e_loop1 (fun m y => [ex fun i : Nat => all [pu (m + i = X.length ∧ y = .int .i64 (i : Int)), Sl 3 44 a1 c1 X.length (X.flatMap pDir), Sl 3 52 a2 c2 X.length (X.flatMap pDir)]] ++ F) X.length ?_ ?_
  · refine Imp.ex 0 (.all ?_)
    (try simp only [List.cons_append, List.nil_append, -eq_self])
    exact .pu ⟨rfl, rfl⟩ .refl
  intro m ds y
  (try simp only [List.cons_append, List.nil_append, -eq_self])
  refine e_ex Pick.here fun i => e_all Pick.here ?_
  (try simp only [List.cons_append, List.nil_append, -eq_self])
  refine e_pu Pick.here fun hi => ?_
  obtain ⟨hmi, rfl⟩ := hi
  refine e_opN v_len Imp.nil ?_
  refine e_ask v_lss Imp.nil (fun h => ?_) (fun h => ?_)
  · have hil : i < X.length := by omega
    have hat := dir_at hil
    refine e_condT ?_
    refine e_slsome (a := a1) .here (Nat.zero_lt_of_lt hil) fun g1 h1 => ?_
    subst h1
    refine e_slsome (a := a2) (.there .here) (Nat.zero_lt_of_lt hil) fun g2 h2 => ?_
    subst h2
    generalize X[i] = x at hat
    have l0 : RunV Tryz.prog W [Sl 3 44 (some ⟨g1, 0, none⟩) c1 X.length (X.flatMap pDir)] (sLoad 9 (.pointer (some ⟨g1, 0 + i * 3 + 0, none⟩))) (txt x.name) := v_ldSl (by rw [Nat.zero_add]; exact hat.1)
    have l1 : RunV Tryz.prog W [Sl 3 44 (some ⟨g1, 0, none⟩) c1 X.length (X.flatMap pDir)] (sLoad 9 (.pointer (some ⟨g1, 0 + i * 3 + 1, none⟩))) (txt x.value) := v_ldSl (by rw [Nat.zero_add]; exact hat.2.1)
    have l2 : RunV Tryz.prog W [Sl 3 44 (some ⟨g1, 0, none⟩) c1 X.length (X.flatMap pDir)] (sLoad 4 (.pointer (some ⟨g1, 0 + i * 3 + 2, none⟩))) (.bool x.has) := v_ldSl (by rw [Nat.zero_add]; exact hat.2.2)
    have r0 : RunV Tryz.prog W [Sl 3 52 (some ⟨g2, 0, none⟩) c2 X.length (X.flatMap pDir)] (sLoad 9 (.pointer (some ⟨g2, 0 + i * 3 + 0, none⟩))) (txt x.name) := v_ldSl (by rw [Nat.zero_add]; exact hat.1)
    have r1 : RunV Tryz.prog W [Sl 3 52 (some ⟨g2, 0, none⟩) c2 X.length (X.flatMap pDir)] (sLoad 9 (.pointer (some ⟨g2, 0 + i * 3 + 1, none⟩))) (txt x.value) := v_ldSl (by rw [Nat.zero_add]; exact hat.2.1)
    have r2 : RunV Tryz.prog W [Sl 3 52 (some ⟨g2, 0, none⟩) c2 X.length (X.flatMap pDir)] (sLoad 4 (.pointer (some ⟨g2, 0 + i * 3 + 2, none⟩))) (.bool x.has) := v_ldSl (by rw [Nat.zero_add]; exact hat.2.2)
    refine e_drS ?_
    refine e_stS (v_ia i rfl hil) Imp.nil ?_
    refine e_stS v_fa Imp.nil ?_
    refine e_stS l0 (.pick .here .nil) ?_
    refine e_stS (v_ia i rfl hil) Imp.nil ?_
    refine e_stS v_fa Imp.nil ?_
    refine e_stS r0 (.pick (.there .here) .nil) ?_
    refine e_stS v_strne Imp.nil ?_
    rw [decide_eq_false (fun c => c rfl)]
    refine e_gdT ?_
    refine e_gdT ?_
    refine e_gdT ?_
    refine e_stS (v_ia i rfl hil) Imp.nil ?_
    refine e_gdT ?_
    refine e_stS v_fa Imp.nil ?_
    refine e_gdT ?_
    refine e_stS l1 (.pick .here .nil) ?_
    refine e_gdT ?_
    refine e_gdT ?_
    refine e_gdT ?_
    refine e_stS (v_ia i rfl hil) Imp.nil ?_
    refine e_gdT ?_
    refine e_stS v_fa Imp.nil ?_
    refine e_gdT ?_
    refine e_stS r1 (.pick (.there .here) .nil) ?_
    refine e_gdT ?_
    refine e_stS v_strne Imp.nil ?_
    rw [decide_eq_false (fun c => c rfl)]
    refine e_stS v_pickF Imp.nil ?_
    refine e_gdT ?_
    refine e_gdT ?_
    refine e_gdT ?_
    refine e_stS (v_ia i rfl hil) Imp.nil ?_
    refine e_gdT ?_
    refine e_stS v_fa Imp.nil ?_
    refine e_gdT ?_
    refine e_stS l2 (.pick .here .nil) ?_
    refine e_gdT ?_
    refine e_gdT ?_
    refine e_gdT ?_
    refine e_stS (v_ia i rfl hil) Imp.nil ?_
    refine e_gdT ?_
    refine e_stS v_fa Imp.nil ?_
    refine e_gdT ?_
    refine e_stS r2 (.pick (.there .here) .nil) ?_
    refine e_gdT ?_
    refine e_stS v_bne Imp.nil ?_
    rw [decide_eq_false (fun c => c rfl)]
    refine e_stS v_pickF Imp.nil ?_
    refine e_condF ?_
    refine e_opN (v_add (by omega) (by omega)) Imp.nil ?_
    refine e_next1 (m - 1) (by omega) (.ex (i + 1) (.all ?_))
    (try simp only [List.cons_append, List.nil_append, -eq_self])
    exact .pu ⟨by omega, rfl⟩ .refl
  · refine e_condF ?_
    (first | refine e_ret (()) rfl ?_ | refine e_retT (()) ?_)
    (repeat (first | exact Imp.refl | exact Imp.nil | (apply Imp.pick; (focus ((repeat constructor); done))) | refine Imp.drop ?_))
end Go.Proofs.YtcigoifhcfbcdaaGreatDoor.FD
