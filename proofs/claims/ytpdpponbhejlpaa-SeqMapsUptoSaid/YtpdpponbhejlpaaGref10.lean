/- PRINTED by wip/tools/shallow.py: functions of the program as readable words, and that each is what its text says. -/
import Derived.Test.YtpdpponbhejlpaaGn
set_option linter.unusedVariables false
set_option linter.unusedSimpArgs false
namespace Go.Proofs.Ytpdpponbhejlpaa.Ah
open Go Go.Proofs.Try
noncomputable section

abbrev fn_dedupref10_Sort : Func := f21
def ks_dedupref10_Sort : List (Nat × List Nat × List Nat) := [(3, [3, 8, 9, 10], [3]), (6, [3, 5, 6, 8, 9, 10], [3, 5, 6, 8, 9, 10])]
def dedupref10_Sort_B2 (P : Program) (w0 : World) (R : Value → Value → Value → Value → Value → Value → Hp → Prop) (k2 : Value → Value → Value → Value → Value → Value → Hp → Prop) (x3 x5 x6 x8 x9 x10 : Value) : Hp → Prop :=
 pureA (binA .gtr x6 (.int .i64 0)) fun v17_6 =>
 guardA v17_6 true (fun K => K x3) fun v19_7 =>
 guardA v17_6 true (fun K => K x6) fun v20_8 =>
 guardA v17_6 true (pureA (binA .sub v20_8 (.int .i64 1))) fun v21_9 =>
 guardA v17_6 true (idxSlA 1 v19_7 v21_9) fun v22_10 =>
 guardA v17_6 true (loadA w0 v22_10) fun v23_11 =>
 guardA v17_6 true (fun K => K x5) fun v24_12 =>
 guardA v17_6 true (pureA (binA .gtr v23_11 v24_12)) fun v25_13 =>
 pickA v17_6 v25_13 (.bool false) fun v26_14 =>
 condA v26_14 (
 pureA (binA .sub x6 (.int .i64 1)) fun v28_15 =>
 R x3 x5 v28_15 x8 x9 x10) (
 k2 x3 x5 x6 x8 x9 x10)
def dedupref10_Sort_L2 (P : Program) (w0 : World) (k2 : Value → Value → Value → Value → Value → Value → Hp → Prop) : Nat → Value → Value → Value → Value → Value → Value → Hp → Prop
  | 0, _, _, _, _, _, _ => fun _ => False
  | m + 1, x3, x5, x6, x8, x9, x10 => dedupref10_Sort_B2 P w0 (dedupref10_Sort_L2 P w0 k2 m) k2 x3 x5 x6 x8 x9 x10
def dedupref10_Sort_E2 (P : Program) (w0 : World) (k2 : Value → Value → Value → Value → Value → Value → Hp → Prop) (x3 x5 x6 x8 x9 x10 : Value) : Hp → Prop := fun h => ∃ m, dedupref10_Sort_L2 P w0 k2 m x3 x5 x6 x8 x9 x10 h
def dedupref10_Sort_B1 (P : Program) (w0 : World) (R : Value → Value → Value → Value → Hp → Prop) (k0 : Value → Hp → Prop) (x3 x8 x9 x10 : Value) : Hp → Prop :=
 pureA (binA .lss x10 x9) fun v11_2 =>
 condA v11_2 (
 idxSlA 1 x8 x10 fun v12_3 =>
 loadA w0 v12_3 fun v13_4 =>
 pureA (lenSl x3) fun v15_5 =>
 dedupref10_Sort_E2 P w0 (fun y3_16 y5_17 y6_18 y8_19 y9_20 y10_21 =>
 bslA [] (zerosL [(.int .i64 0)] 0) 0 1 fun v29_22 =>
 slSlA 1 y3_16 none (some y6_18) none fun v32_23 =>
 appA w0 1 8 v29_22 v32_23 fun v33_24 =>
 pureQ (fun K => K v33_24) fun v34_25 =>
 pureQ (fun K => K y5_17) fun v35_26 =>
 pureQ (fun K => K y3_16) fun v38_27 =>
 pureQ (fun K => K y6_18) fun v39_28 =>
 readQ (slSlA 1 v38_27 (some v39_28) none none) fun v40_29 =>
 allA [
 (bslA [(0, 1, false, v35_26)] (zerosL [(.int .i64 0)] 1) 1 1 fun v36_30 =>
 stillA [(sameQ (slSlA 1 v38_27 (some v39_28) none none) v40_29)] (
 allA [
 (appA w0 1 8 v34_25 v36_30 fun v37_31 =>
 stillA [(sameQ (slSlA 1 v38_27 (some v39_28) none none) v40_29)] (
 allA [
 (appA w0 1 8 v37_31 v40_29 fun v41_32 =>
 stillA [] (
 pureQ (fun K => K v41_32) fun v3_33 =>
 endA (
 pureA (binA .add y10_21 (.int .i64 1)) fun v42_34 =>
 R v3_33 y8_19 y9_20 v42_34)))]))]))]) x3 v13_4 v15_5 x8 x9 x10) (
 k0 x3)
def dedupref10_Sort_L1 (P : Program) (w0 : World) (k0 : Value → Hp → Prop) : Nat → Value → Value → Value → Value → Hp → Prop
  | 0, _, _, _, _ => fun _ => False
  | m + 1, x3, x8, x9, x10 => dedupref10_Sort_B1 P w0 (dedupref10_Sort_L1 P w0 k0 m) k0 x3 x8 x9 x10
def dedupref10_Sort_E1 (P : Program) (w0 : World) (k0 : Value → Hp → Prop) (x3 x8 x9 x10 : Value) : Hp → Prop := fun h => ∃ m, dedupref10_Sort_L1 P w0 k0 m x3 x8 x9 x10 h
def s_dedupref10_Sort (P : Program) (w0 : World) (a0 : Value) (R : Kont) : Hp → Prop :=
 pureA (lenSl a0) fun v9_1 =>
 dedupref10_Sort_E1 P w0 (fun y3_35 =>
 retA [y3_35] R) (.slice none 0 0) a0 v9_1 (.int .i64 0)
theorem dedupref10_Sort_L2_eq (w0 : World) (k2 : Value → Value → Value → Value → Value → Value → Hp → Prop) : ∀ (m : Nat) (x3 x5 x6 x8 x9 x10 : Value) (h : Hp), loopA (stepL ⟨prog, w0, 44, ks_dedupref10_Sort⟩ (drw w0 44) (loopAt fn_dedupref10_Sort 1)) m (mkFr [(3, x3), (5, x5), (6, x6), (8, x8), (9, x9), (10, x10)]) [fun t => k2 (t 3) (t 5) (t 6) (t 8) (t 9) (t 10)] h = dedupref10_Sort_L2 prog w0 k2 m x3 x5 x6 x8 x9 x10 h := by
  intro m
  induction m with
  | zero => intros; kernel_rfl
  | succ m ih =>
    intro x3 x5 x6 x8 x9 x10 h
    have e : dedupref10_Sort_L2 prog w0 k2 m = fun x3 x5 x6 x8 x9 x10 h => loopA (stepL ⟨prog, w0, 44, ks_dedupref10_Sort⟩ (drw w0 44) (loopAt fn_dedupref10_Sort 1)) m (mkFr [(3, x3), (5, x5), (6, x6), (8, x8), (9, x9), (10, x10)]) [fun t => k2 (t 3) (t 5) (t 6) (t 8) (t 9) (t 10)] h := by funext x3 x5 x6 x8 x9 x10 h; exact (ih x3 x5 x6 x8 x9 x10 h).symm
    show _ = dedupref10_Sort_B2 prog w0 (dedupref10_Sort_L2 prog w0 k2 m) k2 x3 x5 x6 x8 x9 x10 h
    rw [e]
    kernel_rfl
theorem dedupref10_Sort_E2_eq (w0 : World) : dedupref10_Sort_E2 prog w0 = fun k2 x3 x5 x6 x8 x9 x10 h => ∃ m, loopA (stepL ⟨prog, w0, 44, ks_dedupref10_Sort⟩ (drw w0 44) (loopAt fn_dedupref10_Sort 1)) m (mkFr [(3, x3), (5, x5), (6, x6), (8, x8), (9, x9), (10, x10)]) [fun t => k2 (t 3) (t 5) (t 6) (t 8) (t 9) (t 10)] h := by
  funext k2 x3 x5 x6 x8 x9 x10 h
  exact congrArg Exists (funext fun m => (dedupref10_Sort_L2_eq w0 k2 m x3 x5 x6 x8 x9 x10 h).symm)
theorem dedupref10_Sort_L1_eq (w0 : World) (k0 : Value → Hp → Prop) : ∀ (m : Nat) (x3 x8 x9 x10 : Value) (h : Hp), loopA (stepL ⟨prog, w0, 44, ks_dedupref10_Sort⟩ (drw w0 44) (loopAt fn_dedupref10_Sort 0)) m (mkFr [(3, x3), (8, x8), (9, x9), (10, x10)]) [fun t => k0 (t 3)] h = dedupref10_Sort_L1 prog w0 k0 m x3 x8 x9 x10 h := by
  intro m
  induction m with
  | zero => intros; kernel_rfl
  | succ m ih =>
    intro x3 x8 x9 x10 h
    have e : dedupref10_Sort_L1 prog w0 k0 m = fun x3 x8 x9 x10 h => loopA (stepL ⟨prog, w0, 44, ks_dedupref10_Sort⟩ (drw w0 44) (loopAt fn_dedupref10_Sort 0)) m (mkFr [(3, x3), (8, x8), (9, x9), (10, x10)]) [fun t => k0 (t 3)] h := by funext x3 x8 x9 x10 h; exact (ih x3 x8 x9 x10 h).symm
    show _ = dedupref10_Sort_B1 prog w0 (dedupref10_Sort_L1 prog w0 k0 m) k0 x3 x8 x9 x10 h
    rw [e]
    unfold dedupref10_Sort_B1
    rw [dedupref10_Sort_E2_eq w0]
    kernel_rfl
theorem dedupref10_Sort_E1_eq (w0 : World) : dedupref10_Sort_E1 prog w0 = fun k0 x3 x8 x9 x10 h => ∃ m, loopA (stepL ⟨prog, w0, 44, ks_dedupref10_Sort⟩ (drw w0 44) (loopAt fn_dedupref10_Sort 0)) m (mkFr [(3, x3), (8, x8), (9, x9), (10, x10)]) [fun t => k0 (t 3)] h := by
  funext k0 x3 x8 x9 x10 h
  exact congrArg Exists (funext fun m => (dedupref10_Sort_L1_eq w0 k0 m x3 x8 x9 x10 h).symm)
theorem c_dedupref10_Sort {w0 : World} {h : Hp} {R : Kont} {a0 : Value} (hj : ∀ v, v ∈ [a0] → v ≠ junk) (hv : s_dedupref10_Sort prog w0 a0 R h) : ACalls prog w0 n_dedupref10_Sort [a0] h R := by
  have e : vcFn ⟨prog, w0, 44, ks_dedupref10_Sort⟩ (drw w0 44) fn_dedupref10_Sort [a0] R h = s_dedupref10_Sort prog w0 a0 R h := by
    unfold s_dedupref10_Sort
    rw [dedupref10_Sort_E1_eq w0]
    kernel_rfl
  exact acalls_of_eq (fn := fn_dedupref10_Sort) (ks := ks_dedupref10_Sort) (n := 44) (by kernel_rfl) (by kernel_rfl) (draw_ok (by kernel_rfl)) (by simp) hj e hv

abbrev fn_dedupref10_Without : Func := f25
def ks_dedupref10_Without : List (Nat × List Nat × List Nat) := [(3, [1, 5, 12, 13, 14], [5]), (7, [1, 5, 7, 8, 12, 13, 14, 18, 19, 20], [1, 5, 7, 8, 12, 13, 14])]
def dedupref10_Without_B2 (P : Program) (w0 : World) (R : Value → Value → Value → Value → Value → Value → Value → Value → Value → Value → Hp → Prop) (k2 : Value → Value → Value → Value → Value → Value → Value → Hp → Prop) (x1 x5 x7 x8 x12 x13 x14 x18 x19 x20 : Value) : Hp → Prop :=
 pureA (binA .lss x20 x19) fun v21_8 =>
 condA v21_8 (
 idxSlA 1 x18 x20 fun v22_9 =>
 loadA w0 v22_9 fun v23_10 =>
 guardA x8 false (fun K => K v23_10) fun v26_11 =>
 guardA x8 false (addA x7 0) fun v27_12 =>
 guardA x8 false (loadA w0 v27_12) fun v28_13 =>
 guardA x8 false (pureA (binA .eql v26_11 v28_13)) fun v29_14 =>
 pickA x8 (.bool true) v29_14 fun v30_15 =>
 pureA (binA .add x20 (.int .i64 1)) fun v31_16 =>
 R x1 x5 x7 v30_15 x12 x13 x14 x18 x19 v31_16) (
 k2 x1 x5 x7 x8 x12 x13 x14)
def dedupref10_Without_L2 (P : Program) (w0 : World) (k2 : Value → Value → Value → Value → Value → Value → Value → Hp → Prop) : Nat → Value → Value → Value → Value → Value → Value → Value → Value → Value → Value → Hp → Prop
  | 0, _, _, _, _, _, _, _, _, _, _ => fun _ => False
  | m + 1, x1, x5, x7, x8, x12, x13, x14, x18, x19, x20 => dedupref10_Without_B2 P w0 (dedupref10_Without_L2 P w0 k2 m) k2 x1 x5 x7 x8 x12 x13 x14 x18 x19 x20
def dedupref10_Without_E2 (P : Program) (w0 : World) (k2 : Value → Value → Value → Value → Value → Value → Value → Hp → Prop) (x1 x5 x7 x8 x12 x13 x14 x18 x19 x20 : Value) : Hp → Prop := fun h => ∃ m, dedupref10_Without_L2 P w0 k2 m x1 x5 x7 x8 x12 x13 x14 x18 x19 x20 h
def dedupref10_Without_B1 (P : Program) (w0 : World) (R : Value → Value → Value → Value → Value → Hp → Prop) (k0 : Value → Hp → Prop) (x1 x5 x12 x13 x14 : Value) : Hp → Prop :=
 pureA (binA .lss x14 x13) fun v15_3 =>
 condA v15_3 (
 idxSlA 2 x12 x14 fun v16_4 =>
 loadNA w0 v16_4 2 fun v17_5 =>
 newA [(.string .empty), (.int .i64 0)] 2 fun v7_6 =>
 storeNA w0 v7_6 v17_5 2 fun _ =>
 pureA (lenSl x1) fun v19_7 =>
 dedupref10_Without_E2 P w0 (fun y1_17 y5_18 y7_19 y8_20 y12_21 y13_22 y14_23 =>
 pureA (unA .not y8_20) fun v33_24 =>
 condA v33_24 (
 loadNA w0 y7_19 2 fun v35_25 =>
 bslA [(0, 2, true, v35_25)] (zerosL [(.string .empty), (.int .i64 0)] 1) 1 2 fun v36_26 =>
 appA w0 2 24 y5_18 v36_26 fun v37_27 =>
 pureA (binA .add y14_23 (.int .i64 1)) fun v38_28 =>
 R y1_17 v37_27 y12_21 y13_22 v38_28) (
 pureA (binA .add y14_23 (.int .i64 1)) fun v38_29 =>
 R y1_17 y5_18 y12_21 y13_22 v38_29)) x1 x5 v7_6 (.bool false) x12 x13 x14 x1 v19_7 (.int .i64 0)) (
 k0 x5)
def dedupref10_Without_L1 (P : Program) (w0 : World) (k0 : Value → Hp → Prop) : Nat → Value → Value → Value → Value → Value → Hp → Prop
  | 0, _, _, _, _, _ => fun _ => False
  | m + 1, x1, x5, x12, x13, x14 => dedupref10_Without_B1 P w0 (dedupref10_Without_L1 P w0 k0 m) k0 x1 x5 x12 x13 x14
def dedupref10_Without_E1 (P : Program) (w0 : World) (k0 : Value → Hp → Prop) (x1 x5 x12 x13 x14 : Value) : Hp → Prop := fun h => ∃ m, dedupref10_Without_L1 P w0 k0 m x1 x5 x12 x13 x14 h
def s_dedupref10_Without (P : Program) (w0 : World) (a0 a1 : Value) (R : Kont) : Hp → Prop :=
 callA P w0 n_dedupref10_SortOut [a0] fun v12_1 =>
 pureA (lenSl v12_1) fun v13_2 =>
 dedupref10_Without_E1 P w0 (fun y5_30 =>
 retA [y5_30] R) a1 (.slice none 0 0) v12_1 v13_2 (.int .i64 0)
theorem dedupref10_Without_L2_eq (w0 : World) (k2 : Value → Value → Value → Value → Value → Value → Value → Hp → Prop) : ∀ (m : Nat) (x1 x5 x7 x8 x12 x13 x14 x18 x19 x20 : Value) (h : Hp), loopA (stepL ⟨prog, w0, 40, ks_dedupref10_Without⟩ (drw w0 40) (loopAt fn_dedupref10_Without 1)) m (mkFr [(1, x1), (5, x5), (7, x7), (8, x8), (12, x12), (13, x13), (14, x14), (18, x18), (19, x19), (20, x20)]) [fun t => k2 (t 1) (t 5) (t 7) (t 8) (t 12) (t 13) (t 14)] h = dedupref10_Without_L2 prog w0 k2 m x1 x5 x7 x8 x12 x13 x14 x18 x19 x20 h := by
  intro m
  induction m with
  | zero => intros; kernel_rfl
  | succ m ih =>
    intro x1 x5 x7 x8 x12 x13 x14 x18 x19 x20 h
    have e : dedupref10_Without_L2 prog w0 k2 m = fun x1 x5 x7 x8 x12 x13 x14 x18 x19 x20 h => loopA (stepL ⟨prog, w0, 40, ks_dedupref10_Without⟩ (drw w0 40) (loopAt fn_dedupref10_Without 1)) m (mkFr [(1, x1), (5, x5), (7, x7), (8, x8), (12, x12), (13, x13), (14, x14), (18, x18), (19, x19), (20, x20)]) [fun t => k2 (t 1) (t 5) (t 7) (t 8) (t 12) (t 13) (t 14)] h := by funext x1 x5 x7 x8 x12 x13 x14 x18 x19 x20 h; exact (ih x1 x5 x7 x8 x12 x13 x14 x18 x19 x20 h).symm
    show _ = dedupref10_Without_B2 prog w0 (dedupref10_Without_L2 prog w0 k2 m) k2 x1 x5 x7 x8 x12 x13 x14 x18 x19 x20 h
    rw [e]
    kernel_rfl
theorem dedupref10_Without_E2_eq (w0 : World) : dedupref10_Without_E2 prog w0 = fun k2 x1 x5 x7 x8 x12 x13 x14 x18 x19 x20 h => ∃ m, loopA (stepL ⟨prog, w0, 40, ks_dedupref10_Without⟩ (drw w0 40) (loopAt fn_dedupref10_Without 1)) m (mkFr [(1, x1), (5, x5), (7, x7), (8, x8), (12, x12), (13, x13), (14, x14), (18, x18), (19, x19), (20, x20)]) [fun t => k2 (t 1) (t 5) (t 7) (t 8) (t 12) (t 13) (t 14)] h := by
  funext k2 x1 x5 x7 x8 x12 x13 x14 x18 x19 x20 h
  exact congrArg Exists (funext fun m => (dedupref10_Without_L2_eq w0 k2 m x1 x5 x7 x8 x12 x13 x14 x18 x19 x20 h).symm)
theorem dedupref10_Without_L1_eq (w0 : World) (k0 : Value → Hp → Prop) : ∀ (m : Nat) (x1 x5 x12 x13 x14 : Value) (h : Hp), loopA (stepL ⟨prog, w0, 40, ks_dedupref10_Without⟩ (drw w0 40) (loopAt fn_dedupref10_Without 0)) m (mkFr [(1, x1), (5, x5), (12, x12), (13, x13), (14, x14)]) [fun t => k0 (t 5)] h = dedupref10_Without_L1 prog w0 k0 m x1 x5 x12 x13 x14 h := by
  intro m
  induction m with
  | zero => intros; kernel_rfl
  | succ m ih =>
    intro x1 x5 x12 x13 x14 h
    have e : dedupref10_Without_L1 prog w0 k0 m = fun x1 x5 x12 x13 x14 h => loopA (stepL ⟨prog, w0, 40, ks_dedupref10_Without⟩ (drw w0 40) (loopAt fn_dedupref10_Without 0)) m (mkFr [(1, x1), (5, x5), (12, x12), (13, x13), (14, x14)]) [fun t => k0 (t 5)] h := by funext x1 x5 x12 x13 x14 h; exact (ih x1 x5 x12 x13 x14 h).symm
    show _ = dedupref10_Without_B1 prog w0 (dedupref10_Without_L1 prog w0 k0 m) k0 x1 x5 x12 x13 x14 h
    rw [e]
    unfold dedupref10_Without_B1
    rw [dedupref10_Without_E2_eq w0]
    kernel_rfl
theorem dedupref10_Without_E1_eq (w0 : World) : dedupref10_Without_E1 prog w0 = fun k0 x1 x5 x12 x13 x14 h => ∃ m, loopA (stepL ⟨prog, w0, 40, ks_dedupref10_Without⟩ (drw w0 40) (loopAt fn_dedupref10_Without 0)) m (mkFr [(1, x1), (5, x5), (12, x12), (13, x13), (14, x14)]) [fun t => k0 (t 5)] h := by
  funext k0 x1 x5 x12 x13 x14 h
  exact congrArg Exists (funext fun m => (dedupref10_Without_L1_eq w0 k0 m x1 x5 x12 x13 x14 h).symm)
theorem c_dedupref10_Without {w0 : World} {h : Hp} {R : Kont} {a0 a1 : Value} (hj : ∀ v, v ∈ [a0, a1] → v ≠ junk) (hv : s_dedupref10_Without prog w0 a0 a1 R h) : ACalls prog w0 n_dedupref10_Without [a0, a1] h R := by
  have e : vcFn ⟨prog, w0, 40, ks_dedupref10_Without⟩ (drw w0 40) fn_dedupref10_Without [a0, a1] R h = s_dedupref10_Without prog w0 a0 a1 R h := by
    unfold s_dedupref10_Without
    rw [dedupref10_Without_E1_eq w0]
    kernel_rfl
  exact acalls_of_eq (fn := fn_dedupref10_Without) (ks := ks_dedupref10_Without) (n := 40) (by kernel_rfl) (by kernel_rfl) (draw_ok (by kernel_rfl)) (by simp) hj e hv

abbrev fn_dedupref10_SortOut : Func := f26
def ks_dedupref10_SortOut : List (Nat × List Nat × List Nat) := [(3, [3, 7, 8, 9], [3])]
def dedupref10_SortOut_B1 (P : Program) (w0 : World) (R : Value → Value → Value → Value → Hp → Prop) (k0 : Value → Hp → Prop) (x3 x7 x8 x9 : Value) : Hp → Prop :=
 pureA (binA .lss x9 x8) fun v10_2 =>
 condA v10_2 (
 idxSlA 2 x7 x9 fun v11_3 =>
 loadNA w0 v11_3 2 fun v12_4 =>
 newA [(.string .empty), (.int .i64 0)] 2 fun v5_5 =>
 storeNA w0 v5_5 v12_4 2 fun _ =>
 pureA (lenSl x3) fun v14_6 =>
 pureQ (fun K => K v14_6) fun v15_7 =>
 pureQ (pureA (binA .eql v15_7 (.int .i64 0))) fun v16_8 =>
 pureQ (fun K => K v16_8) fun v17_9 =>
 pureQ (guardA v17_9 false (fun K => K x3)) fun v18_10 =>
 pureQ (guardA v17_9 false (fun K => K v14_6)) fun v19_11 =>
 pureQ (guardA v17_9 false (pureA (binA .sub v19_11 (.int .i64 1)))) fun v20_12 =>
 pureQ (guardA v17_9 false (idxSlA 2 v18_10 v20_12)) fun v21_13 =>
 pureQ (guardA v17_9 false (addA v21_13 0)) fun v22_14 =>
 readQ (guardA v17_9 false (loadA w0 v22_14)) fun v23_15 =>
 pureQ (guardA v17_9 false (addA v5_5 0)) fun v24_16 =>
 readQ (guardA v17_9 false (loadA w0 v24_16)) fun v25_17 =>
 pureQ (guardA v17_9 false (pureA (binA .lss v23_15 v25_17))) fun v26_18 =>
 pureQ (pickA v17_9 (.bool true) v26_18) fun v27_19 =>
 endA (
 condA v27_19 (
 loadNA w0 v5_5 2 fun v29_20 =>
 bslA [(0, 2, true, v29_20)] (zerosL [(.string .empty), (.int .i64 0)] 1) 1 2 fun v30_21 =>
 appA w0 2 24 x3 v30_21 fun v31_22 =>
 pureA (binA .add x9 (.int .i64 1)) fun v32_23 =>
 R v31_22 x7 x8 v32_23) (
 pureA (binA .add x9 (.int .i64 1)) fun v32_24 =>
 R x3 x7 x8 v32_24))) (
 k0 x3)
def dedupref10_SortOut_L1 (P : Program) (w0 : World) (k0 : Value → Hp → Prop) : Nat → Value → Value → Value → Value → Hp → Prop
  | 0, _, _, _, _ => fun _ => False
  | m + 1, x3, x7, x8, x9 => dedupref10_SortOut_B1 P w0 (dedupref10_SortOut_L1 P w0 k0 m) k0 x3 x7 x8 x9
def dedupref10_SortOut_E1 (P : Program) (w0 : World) (k0 : Value → Hp → Prop) (x3 x7 x8 x9 : Value) : Hp → Prop := fun h => ∃ m, dedupref10_SortOut_L1 P w0 k0 m x3 x7 x8 x9 h
def s_dedupref10_SortOut (P : Program) (w0 : World) (a0 : Value) (R : Kont) : Hp → Prop :=
 pureA (lenSl a0) fun v8_1 =>
 dedupref10_SortOut_E1 P w0 (fun y3_25 =>
 retA [y3_25] R) (.slice none 0 0) a0 v8_1 (.int .i64 0)
theorem dedupref10_SortOut_L1_eq (w0 : World) (k0 : Value → Hp → Prop) : ∀ (m : Nat) (x3 x7 x8 x9 : Value) (h : Hp), loopA (stepL ⟨prog, w0, 34, ks_dedupref10_SortOut⟩ (drw w0 34) (loopAt fn_dedupref10_SortOut 0)) m (mkFr [(3, x3), (7, x7), (8, x8), (9, x9)]) [fun t => k0 (t 3)] h = dedupref10_SortOut_L1 prog w0 k0 m x3 x7 x8 x9 h := by
  intro m
  induction m with
  | zero => intros; kernel_rfl
  | succ m ih =>
    intro x3 x7 x8 x9 h
    have e : dedupref10_SortOut_L1 prog w0 k0 m = fun x3 x7 x8 x9 h => loopA (stepL ⟨prog, w0, 34, ks_dedupref10_SortOut⟩ (drw w0 34) (loopAt fn_dedupref10_SortOut 0)) m (mkFr [(3, x3), (7, x7), (8, x8), (9, x9)]) [fun t => k0 (t 3)] h := by funext x3 x7 x8 x9 h; exact (ih x3 x7 x8 x9 h).symm
    show _ = dedupref10_SortOut_B1 prog w0 (dedupref10_SortOut_L1 prog w0 k0 m) k0 x3 x7 x8 x9 h
    rw [e]
    kernel_rfl
theorem dedupref10_SortOut_E1_eq (w0 : World) : dedupref10_SortOut_E1 prog w0 = fun k0 x3 x7 x8 x9 h => ∃ m, loopA (stepL ⟨prog, w0, 34, ks_dedupref10_SortOut⟩ (drw w0 34) (loopAt fn_dedupref10_SortOut 0)) m (mkFr [(3, x3), (7, x7), (8, x8), (9, x9)]) [fun t => k0 (t 3)] h := by
  funext k0 x3 x7 x8 x9 h
  exact congrArg Exists (funext fun m => (dedupref10_SortOut_L1_eq w0 k0 m x3 x7 x8 x9 h).symm)
theorem c_dedupref10_SortOut {w0 : World} {h : Hp} {R : Kont} {a0 : Value} (hj : ∀ v, v ∈ [a0] → v ≠ junk) (hv : s_dedupref10_SortOut prog w0 a0 R h) : ACalls prog w0 n_dedupref10_SortOut [a0] h R := by
  have e : vcFn ⟨prog, w0, 34, ks_dedupref10_SortOut⟩ (drw w0 34) fn_dedupref10_SortOut [a0] R h = s_dedupref10_SortOut prog w0 a0 R h := by
    unfold s_dedupref10_SortOut
    rw [dedupref10_SortOut_E1_eq w0]
    kernel_rfl
  exact acalls_of_eq (fn := fn_dedupref10_SortOut) (ks := ks_dedupref10_SortOut) (n := 34) (by kernel_rfl) (by kernel_rfl) (draw_ok (by kernel_rfl)) (by simp) hj e hv

abbrev fn_dedupref10_Find : Func := f28
def ks_dedupref10_Find : List (Nat × List Nat × List Nat) := [(2, [0, 1, 4, 5, 8, 9, 10], [0, 4, 5])]
def dedupref10_Find_B1 (P : Program) (w0 : World) (R : Value → Value → Value → Value → Value → Value → Value → Hp → Prop) (k0 : Value → Value → Value → Hp → Prop) (kr : Value → Value → Value → Hp → Prop) (x0 x1 x4 x5 x8 x9 x10 : Value) : Hp → Prop :=
 pureA (binA .lss x10 x9) fun v11_2 =>
 condA v11_2 (
 idxSlA 2 x8 x10 fun v13_3 =>
 loadNA w0 v13_3 2 fun v14_4 =>
 newA [(.string .empty), (.int .i64 0)] 2 fun v7_5 =>
 storeNA w0 v7_5 v14_4 2 fun _ =>
 addA v7_5 0 fun v15_6 =>
 loadA w0 v15_6 fun v16_7 =>
 pureA (binA .geq v16_7 x1) fun v18_8 =>
 condA v18_8 (
 pureQ (fun K => K x10) fun v19_9 =>
 pureQ (addA v7_5 0) fun v20_10 =>
 readQ (loadA w0 v20_10) fun v21_11 =>
 pureQ (fun K => K x1) fun v22_12 =>
 pureQ (pureA (binA .eql v21_11 v22_12)) fun v23_13 =>
 pureQ (fun K => K v19_9) fun v4_14 =>
 pureQ (fun K => K v23_13) fun v5_15 =>
 endA (
 kr x0 v4_14 v5_15)) (
 pureA (binA .add x10 (.int .i64 1)) fun v24_16 =>
 R x0 x1 x4 x5 x8 x9 v24_16)) (
 k0 x0 x4 x5)
def dedupref10_Find_L1 (P : Program) (w0 : World) (k0 : Value → Value → Value → Hp → Prop) (kr : Value → Value → Value → Hp → Prop) : Nat → Value → Value → Value → Value → Value → Value → Value → Hp → Prop
  | 0, _, _, _, _, _, _, _ => fun _ => False
  | m + 1, x0, x1, x4, x5, x8, x9, x10 => dedupref10_Find_B1 P w0 (dedupref10_Find_L1 P w0 k0 kr m) k0 kr x0 x1 x4 x5 x8 x9 x10
def dedupref10_Find_E1 (P : Program) (w0 : World) (k0 : Value → Value → Value → Hp → Prop) (kr : Value → Value → Value → Hp → Prop) (x0 x1 x4 x5 x8 x9 x10 : Value) : Hp → Prop := fun h => ∃ m, dedupref10_Find_L1 P w0 k0 kr m x0 x1 x4 x5 x8 x9 x10 h
def s_dedupref10_Find (P : Program) (w0 : World) (a0 a1 : Value) (R : Kont) : Hp → Prop :=
 pureA (lenSl a0) fun v9_1 =>
 dedupref10_Find_E1 P w0 (fun y0_17 y4_18 y5_19 =>
 pureA (lenSl y0_17) fun v26_20 =>
 retA [v26_20, (.bool false)] R) (fun y0_21 y4_22 y5_23 =>
 retA [y4_22, y5_23] R) a0 a1 (.int .i64 0) (.bool false) a0 v9_1 (.int .i64 0)
theorem dedupref10_Find_L1_eq (w0 : World) (k0 : Value → Value → Value → Hp → Prop) (kr : Value → Value → Value → Hp → Prop) : ∀ (m : Nat) (x0 x1 x4 x5 x8 x9 x10 : Value) (h : Hp), loopA (stepL ⟨prog, w0, 27, ks_dedupref10_Find⟩ (drw w0 27) (loopAt fn_dedupref10_Find 0)) m (mkFr [(0, x0), (1, x1), (4, x4), (5, x5), (8, x8), (9, x9), (10, x10)]) [fun t => k0 (t 0) (t 4) (t 5), fun t => kr (t 0) (t 4) (t 5)] h = dedupref10_Find_L1 prog w0 k0 kr m x0 x1 x4 x5 x8 x9 x10 h := by
  intro m
  induction m with
  | zero => intros; kernel_rfl
  | succ m ih =>
    intro x0 x1 x4 x5 x8 x9 x10 h
    have e : dedupref10_Find_L1 prog w0 k0 kr m = fun x0 x1 x4 x5 x8 x9 x10 h => loopA (stepL ⟨prog, w0, 27, ks_dedupref10_Find⟩ (drw w0 27) (loopAt fn_dedupref10_Find 0)) m (mkFr [(0, x0), (1, x1), (4, x4), (5, x5), (8, x8), (9, x9), (10, x10)]) [fun t => k0 (t 0) (t 4) (t 5), fun t => kr (t 0) (t 4) (t 5)] h := by funext x0 x1 x4 x5 x8 x9 x10 h; exact (ih x0 x1 x4 x5 x8 x9 x10 h).symm
    show _ = dedupref10_Find_B1 prog w0 (dedupref10_Find_L1 prog w0 k0 kr m) k0 kr x0 x1 x4 x5 x8 x9 x10 h
    rw [e]
    kernel_rfl
theorem dedupref10_Find_E1_eq (w0 : World) : dedupref10_Find_E1 prog w0 = fun k0 kr x0 x1 x4 x5 x8 x9 x10 h => ∃ m, loopA (stepL ⟨prog, w0, 27, ks_dedupref10_Find⟩ (drw w0 27) (loopAt fn_dedupref10_Find 0)) m (mkFr [(0, x0), (1, x1), (4, x4), (5, x5), (8, x8), (9, x9), (10, x10)]) [fun t => k0 (t 0) (t 4) (t 5), fun t => kr (t 0) (t 4) (t 5)] h := by
  funext k0 kr x0 x1 x4 x5 x8 x9 x10 h
  exact congrArg Exists (funext fun m => (dedupref10_Find_L1_eq w0 k0 kr m x0 x1 x4 x5 x8 x9 x10 h).symm)
theorem c_dedupref10_Find {w0 : World} {h : Hp} {R : Kont} {a0 a1 : Value} (hj : ∀ v, v ∈ [a0, a1] → v ≠ junk) (hv : s_dedupref10_Find prog w0 a0 a1 R h) : ACalls prog w0 n_dedupref10_Find [a0, a1] h R := by
  have e : vcFn ⟨prog, w0, 27, ks_dedupref10_Find⟩ (drw w0 27) fn_dedupref10_Find [a0, a1] R h = s_dedupref10_Find prog w0 a0 a1 R h := by
    unfold s_dedupref10_Find
    rw [dedupref10_Find_E1_eq w0]
    kernel_rfl
  exact acalls_of_eq (fn := fn_dedupref10_Find) (ks := ks_dedupref10_Find) (n := 27) (by kernel_rfl) (by kernel_rfl) (draw_ok (by kernel_rfl)) (by simp) hj e hv

abbrev fn_dedupref10_Merge : Func := f30
def ks_dedupref10_Merge : List (Nat × List Nat × List Nat) := [(3, [3, 10, 11, 12], [3]), (6, [3, 10, 11, 12, 17, 18, 19], [3, 10, 11, 12])]
def dedupref10_Merge_B2 (P : Program) (w0 : World) (R : Value → Value → Value → Value → Value → Value → Value → Hp → Prop) (k2 : Value → Value → Value → Value → Hp → Prop) (x3 x10 x11 x12 x17 x18 x19 : Value) : Hp → Prop :=
 pureA (binA .lss x19 x18) fun v20_7 =>
 condA v20_7 (
 idxSlA 2 x17 x19 fun v21_8 =>
 loadNA w0 v21_8 2 fun v22_9 =>
 newA [(.string .empty), (.int .i64 0)] 2 fun v7_10 =>
 storeNA w0 v7_10 v22_9 2 fun _ =>
 addA v7_10 0 fun v25_11 =>
 loadA w0 v25_11 fun v26_12 =>
 callA P w0 n_dedupref10_Find [x3, v26_12] fun v27_13 =>
 pureA (extA v27_13 0) fun v28_14 =>
 pureA (extA v27_13 1) fun v29_15 =>
 pureA (unA .not v29_15) fun v31_16 =>
 condA v31_16 (
 loadNA w0 v7_10 2 fun v34_17 =>
 callA P w0 n_dedupref10_Put [x3, v34_17] fun v35_18 =>
 pureA (extA v35_18 0) fun v36_19 =>
 pureA (extA v35_18 1) fun v37_20 =>
 pureA (extA v35_18 2) fun v38_21 =>
 pureA (binA .add x19 (.int .i64 1)) fun v39_22 =>
 R v36_19 x10 x11 x12 x17 x18 v39_22) (
 pureA (binA .add x19 (.int .i64 1)) fun v39_23 =>
 R x3 x10 x11 x12 x17 x18 v39_23)) (
 k2 x3 x10 x11 x12)
def dedupref10_Merge_L2 (P : Program) (w0 : World) (k2 : Value → Value → Value → Value → Hp → Prop) : Nat → Value → Value → Value → Value → Value → Value → Value → Hp → Prop
  | 0, _, _, _, _, _, _, _ => fun _ => False
  | m + 1, x3, x10, x11, x12, x17, x18, x19 => dedupref10_Merge_B2 P w0 (dedupref10_Merge_L2 P w0 k2 m) k2 x3 x10 x11 x12 x17 x18 x19
def dedupref10_Merge_E2 (P : Program) (w0 : World) (k2 : Value → Value → Value → Value → Hp → Prop) (x3 x10 x11 x12 x17 x18 x19 : Value) : Hp → Prop := fun h => ∃ m, dedupref10_Merge_L2 P w0 k2 m x3 x10 x11 x12 x17 x18 x19 h
def dedupref10_Merge_B1 (P : Program) (w0 : World) (R : Value → Value → Value → Value → Hp → Prop) (k0 : Value → Hp → Prop) (x3 x10 x11 x12 : Value) : Hp → Prop :=
 pureA (binA .lss x12 x11) fun v13_2 =>
 condA v13_2 (
 idxSlA 1 x10 x12 fun v14_3 =>
 loadA w0 v14_3 fun v15_4 =>
 callA P w0 n_dedupref10_SortOut [v15_4] fun v17_5 =>
 pureA (lenSl v17_5) fun v18_6 =>
 dedupref10_Merge_E2 P w0 (fun y3_24 y10_25 y11_26 y12_27 =>
 pureA (binA .add y12_27 (.int .i64 1)) fun v40_28 =>
 R y3_24 y10_25 y11_26 v40_28) x3 x10 x11 x12 v17_5 v18_6 (.int .i64 0)) (
 k0 x3)
def dedupref10_Merge_L1 (P : Program) (w0 : World) (k0 : Value → Hp → Prop) : Nat → Value → Value → Value → Value → Hp → Prop
  | 0, _, _, _, _ => fun _ => False
  | m + 1, x3, x10, x11, x12 => dedupref10_Merge_B1 P w0 (dedupref10_Merge_L1 P w0 k0 m) k0 x3 x10 x11 x12
def dedupref10_Merge_E1 (P : Program) (w0 : World) (k0 : Value → Hp → Prop) (x3 x10 x11 x12 : Value) : Hp → Prop := fun h => ∃ m, dedupref10_Merge_L1 P w0 k0 m x3 x10 x11 x12 h
def s_dedupref10_Merge (P : Program) (w0 : World) (a0 : Value) (R : Kont) : Hp → Prop :=
 pureA (lenSl a0) fun v11_1 =>
 dedupref10_Merge_E1 P w0 (fun y3_29 =>
 retA [y3_29] R) (.slice none 0 0) a0 v11_1 (.int .i64 0)
theorem dedupref10_Merge_L2_eq (w0 : World) (k2 : Value → Value → Value → Value → Hp → Prop) : ∀ (m : Nat) (x3 x10 x11 x12 x17 x18 x19 : Value) (h : Hp), loopA (stepL ⟨prog, w0, 42, ks_dedupref10_Merge⟩ (drw w0 42) (loopAt fn_dedupref10_Merge 1)) m (mkFr [(3, x3), (10, x10), (11, x11), (12, x12), (17, x17), (18, x18), (19, x19)]) [fun t => k2 (t 3) (t 10) (t 11) (t 12)] h = dedupref10_Merge_L2 prog w0 k2 m x3 x10 x11 x12 x17 x18 x19 h := by
  intro m
  induction m with
  | zero => intros; kernel_rfl
  | succ m ih =>
    intro x3 x10 x11 x12 x17 x18 x19 h
    have e : dedupref10_Merge_L2 prog w0 k2 m = fun x3 x10 x11 x12 x17 x18 x19 h => loopA (stepL ⟨prog, w0, 42, ks_dedupref10_Merge⟩ (drw w0 42) (loopAt fn_dedupref10_Merge 1)) m (mkFr [(3, x3), (10, x10), (11, x11), (12, x12), (17, x17), (18, x18), (19, x19)]) [fun t => k2 (t 3) (t 10) (t 11) (t 12)] h := by funext x3 x10 x11 x12 x17 x18 x19 h; exact (ih x3 x10 x11 x12 x17 x18 x19 h).symm
    show _ = dedupref10_Merge_B2 prog w0 (dedupref10_Merge_L2 prog w0 k2 m) k2 x3 x10 x11 x12 x17 x18 x19 h
    rw [e]
    kernel_rfl
theorem dedupref10_Merge_E2_eq (w0 : World) : dedupref10_Merge_E2 prog w0 = fun k2 x3 x10 x11 x12 x17 x18 x19 h => ∃ m, loopA (stepL ⟨prog, w0, 42, ks_dedupref10_Merge⟩ (drw w0 42) (loopAt fn_dedupref10_Merge 1)) m (mkFr [(3, x3), (10, x10), (11, x11), (12, x12), (17, x17), (18, x18), (19, x19)]) [fun t => k2 (t 3) (t 10) (t 11) (t 12)] h := by
  funext k2 x3 x10 x11 x12 x17 x18 x19 h
  exact congrArg Exists (funext fun m => (dedupref10_Merge_L2_eq w0 k2 m x3 x10 x11 x12 x17 x18 x19 h).symm)
theorem dedupref10_Merge_L1_eq (w0 : World) (k0 : Value → Hp → Prop) : ∀ (m : Nat) (x3 x10 x11 x12 : Value) (h : Hp), loopA (stepL ⟨prog, w0, 42, ks_dedupref10_Merge⟩ (drw w0 42) (loopAt fn_dedupref10_Merge 0)) m (mkFr [(3, x3), (10, x10), (11, x11), (12, x12)]) [fun t => k0 (t 3)] h = dedupref10_Merge_L1 prog w0 k0 m x3 x10 x11 x12 h := by
  intro m
  induction m with
  | zero => intros; kernel_rfl
  | succ m ih =>
    intro x3 x10 x11 x12 h
    have e : dedupref10_Merge_L1 prog w0 k0 m = fun x3 x10 x11 x12 h => loopA (stepL ⟨prog, w0, 42, ks_dedupref10_Merge⟩ (drw w0 42) (loopAt fn_dedupref10_Merge 0)) m (mkFr [(3, x3), (10, x10), (11, x11), (12, x12)]) [fun t => k0 (t 3)] h := by funext x3 x10 x11 x12 h; exact (ih x3 x10 x11 x12 h).symm
    show _ = dedupref10_Merge_B1 prog w0 (dedupref10_Merge_L1 prog w0 k0 m) k0 x3 x10 x11 x12 h
    rw [e]
    unfold dedupref10_Merge_B1
    rw [dedupref10_Merge_E2_eq w0]
    kernel_rfl
theorem dedupref10_Merge_E1_eq (w0 : World) : dedupref10_Merge_E1 prog w0 = fun k0 x3 x10 x11 x12 h => ∃ m, loopA (stepL ⟨prog, w0, 42, ks_dedupref10_Merge⟩ (drw w0 42) (loopAt fn_dedupref10_Merge 0)) m (mkFr [(3, x3), (10, x10), (11, x11), (12, x12)]) [fun t => k0 (t 3)] h := by
  funext k0 x3 x10 x11 x12 h
  exact congrArg Exists (funext fun m => (dedupref10_Merge_L1_eq w0 k0 m x3 x10 x11 x12 h).symm)
theorem c_dedupref10_Merge {w0 : World} {h : Hp} {R : Kont} {a0 : Value} (hj : ∀ v, v ∈ [a0] → v ≠ junk) (hv : s_dedupref10_Merge prog w0 a0 R h) : ACalls prog w0 n_dedupref10_Merge [a0] h R := by
  have e : vcFn ⟨prog, w0, 42, ks_dedupref10_Merge⟩ (drw w0 42) fn_dedupref10_Merge [a0] R h = s_dedupref10_Merge prog w0 a0 R h := by
    unfold s_dedupref10_Merge
    rw [dedupref10_Merge_E1_eq w0]
    kernel_rfl
  exact acalls_of_eq (fn := fn_dedupref10_Merge) (ks := ks_dedupref10_Merge) (n := 42) (by kernel_rfl) (by kernel_rfl) (draw_ok (by kernel_rfl)) (by simp) hj e hv

abbrev fn_dedupref10_Put : Func := f56
def ks_dedupref10_Put : List (Nat × List Nat × List Nat) := []
def s_dedupref10_Put (P : Program) (w0 : World) (a0 a1 : Value) (R : Kont) : Hp → Prop :=
 boxA true 2 a1 fun v3_1 =>
 newA [(.string .empty), (.int .i64 0)] 2 fun v5_2 =>
 addA v3_1 0 fun v12_3 =>
 loadA w0 v12_3 fun v13_4 =>
 callA P w0 n_dedupref10_Find [a0, v13_4] fun v14_5 =>
 pureA (extA v14_5 0) fun v15_6 =>
 pureA (extA v14_5 1) fun v16_7 =>
 bslA [] (zerosL [(.string .empty), (.int .i64 0)] 0) 0 2 fun v17_8 =>
 slSlA 2 a0 none (some v15_6) none fun v20_9 =>
 appA w0 2 24 v17_8 v20_9 fun v21_10 =>
 loadNA w0 v3_1 2 fun v23_11 =>
 bslA [(0, 2, true, v23_11)] (zerosL [(.string .empty), (.int .i64 0)] 1) 1 2 fun v24_12 =>
 appA w0 2 24 v21_10 v24_12 fun v25_13 =>
 condA v16_7 (
 pureQ (fun K => K v25_13) fun v27_14 =>
 pureQ (fun K => K a0) fun v28_15 =>
 pureQ (fun K => K v15_6) fun v29_16 =>
 pureQ (pureA (binA .add v29_16 (.int .i64 1))) fun v30_17 =>
 readQ (slSlA 2 v28_15 (some v30_17) none none) fun v31_18 =>
 pureQ (fun K => K a0) fun v33_19 =>
 pureQ (fun K => K v15_6) fun v34_20 =>
 pureQ (idxSlA 2 v33_19 v34_20) fun v35_21 =>
 readQ (loadNA w0 v35_21 2) fun v36_22 =>
 allA [
 (appA w0 2 24 v27_14 v31_18 fun v32_23 =>
 stillA [(sameQ (loadNA w0 v35_21 2) v36_22)] (
 pureQ (fun K => K v32_23) fun v4_24 =>
 allA [
 (storeNA w0 v5_2 v36_22 2 fun _ =>
 stillA [] (
 pureQ (fun K => K (.bool true)) fun v6_25 =>
 endA (
 loadNA w0 v5_2 2 fun v5_26 =>
 retA [v4_24, v5_26, v6_25] R)))]))]) (
 slSlA 2 a0 (some v15_6) none none fun v40_27 =>
 appA w0 2 24 v25_13 v40_27 fun v41_28 =>
 buildA [] [(.string .empty), (.int .i64 0)] fun v42_29 =>
 storeNA w0 v5_2 v42_29 2 fun _ =>
 loadNA w0 v5_2 2 fun v5_30 =>
 retA [v41_28, v5_30, (.bool false)] R)
theorem c_dedupref10_Put {w0 : World} {h : Hp} {R : Kont} {a0 a1 : Value} (hj : ∀ v, v ∈ [a0, a1] → v ≠ junk) (hv : s_dedupref10_Put prog w0 a0 a1 R h) : ACalls prog w0 n_dedupref10_Put [a0, a1] h R := by
  have e : vcFn ⟨prog, w0, 43, ks_dedupref10_Put⟩ (drw w0 43) fn_dedupref10_Put [a0, a1] R h = s_dedupref10_Put prog w0 a0 a1 R h := by
    kernel_rfl
  exact acalls_of_eq (fn := fn_dedupref10_Put) (ks := ks_dedupref10_Put) (n := 43) (by kernel_rfl) (by kernel_rfl) (draw_ok (by kernel_rfl)) (by simp) hj e hv

abbrev fn_dedupref10_Delete : Func := f63
def ks_dedupref10_Delete : List (Nat × List Nat × List Nat) := []
def s_dedupref10_Delete (P : Program) (w0 : World) (a0 a1 : Value) (R : Kont) : Hp → Prop :=
 newA [(.string .empty), (.int .i64 0)] 2 fun v5_1 =>
 callA P w0 n_dedupref10_Find [a0, a1] fun v13_2 =>
 pureA (extA v13_2 0) fun v14_3 =>
 pureA (extA v13_2 1) fun v15_4 =>
 pureA (unA .not v15_4) fun v17_5 =>
 condA v17_5 (
 buildA [] [(.string .empty), (.int .i64 0)] fun v19_6 =>
 storeNA w0 v5_1 v19_6 2 fun _ =>
 loadNA w0 v5_1 2 fun v5_7 =>
 retA [a0, v5_7, (.bool false)] R) (
 bslA [] (zerosL [(.string .empty), (.int .i64 0)] 0) 0 2 fun v20_8 =>
 slSlA 2 a0 none (some v14_3) none fun v23_9 =>
 appA w0 2 24 v20_8 v23_9 fun v24_10 =>
 pureQ (fun K => K v24_10) fun v25_11 =>
 pureQ (fun K => K a0) fun v26_12 =>
 pureQ (fun K => K v14_3) fun v27_13 =>
 pureQ (pureA (binA .add v27_13 (.int .i64 1))) fun v28_14 =>
 readQ (slSlA 2 v26_12 (some v28_14) none none) fun v29_15 =>
 pureQ (fun K => K a0) fun v31_16 =>
 pureQ (fun K => K v14_3) fun v32_17 =>
 pureQ (idxSlA 2 v31_16 v32_17) fun v33_18 =>
 readQ (loadNA w0 v33_18 2) fun v34_19 =>
 allA [
 (appA w0 2 24 v25_11 v29_15 fun v30_20 =>
 stillA [(sameQ (loadNA w0 v33_18 2) v34_19)] (
 pureQ (fun K => K v30_20) fun v4_21 =>
 allA [
 (storeNA w0 v5_1 v34_19 2 fun _ =>
 stillA [] (
 pureQ (fun K => K (.bool true)) fun v6_22 =>
 endA (
 loadNA w0 v5_1 2 fun v5_23 =>
 retA [v4_21, v5_23, v6_22] R)))]))])
theorem c_dedupref10_Delete {w0 : World} {h : Hp} {R : Kont} {a0 a1 : Value} (hj : ∀ v, v ∈ [a0, a1] → v ≠ junk) (hv : s_dedupref10_Delete prog w0 a0 a1 R h) : ACalls prog w0 n_dedupref10_Delete [a0, a1] h R := by
  have e : vcFn ⟨prog, w0, 35, ks_dedupref10_Delete⟩ (drw w0 35) fn_dedupref10_Delete [a0, a1] R h = s_dedupref10_Delete prog w0 a0 a1 R h := by
    kernel_rfl
  exact acalls_of_eq (fn := fn_dedupref10_Delete) (ks := ks_dedupref10_Delete) (n := 35) (by kernel_rfl) (by kernel_rfl) (draw_ok (by kernel_rfl)) (by simp) hj e hv

end
end Go.Proofs.Ytpdpponbhejlpaa.Ah
