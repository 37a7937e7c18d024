/- PRINTED by wip/tools/shallow.py: functions of the program as readable words, and that each is what its text says. -/
import Derived.Test.YtfmoemconapmhaaGreatGn
set_option linter.unusedVariables false
set_option linter.unusedSimpArgs false
namespace Go.Proofs.YtfmoemconapmhaaGreat.Ah
open Go Go.Proofs.Tryz
noncomputable section

abbrev fn_run_Mem_Put : Func := f38
def ks_run_Mem_Put : List (Nat × List Nat × List Nat) := []
def s_run_Mem_Put (P : Program) (w0 : World) (a0 a1 a2 : Value) (R : Kont) : Hp → Prop :=
 buildA [(0, 1, false, a1), (1, 1, false, a2)] [(.string .empty), (.string .empty), (.bool false)] fun v10_1 =>
 callA P w0 n_run_Mem_set [a0, v10_1] fun v11_2 =>
 retA [v11_2] R
theorem c_run_Mem_Put {w0 : World} {h : Hp} {R : Kont} {a0 a1 a2 : Value} (hj : ∀ v, v ∈ [a0, a1, a2] → v ≠ junk) (hv : s_run_Mem_Put prog w0 a0 a1 a2 R h) : ACalls prog w0 n_run_Mem_Put [a0, a1, a2] h R := by
  have e : vcFn ⟨prog, w0, 12, ks_run_Mem_Put⟩ (drw w0 12) fn_run_Mem_Put [a0, a1, a2] R h = s_run_Mem_Put prog w0 a0 a1 a2 R h := by
    kernel_rfl
  exact acalls_of_eq (fn := fn_run_Mem_Put) (ks := ks_run_Mem_Put) (n := 12) (by kernel_rfl) (by kernel_rfl) (draw_ok (by kernel_rfl)) (by simp) hj e hv

abbrev fn_run_Mem_Delete : Func := f40
def ks_run_Mem_Delete : List (Nat × List Nat × List Nat) := []
def s_run_Mem_Delete (P : Program) (w0 : World) (a0 a1 : Value) (R : Kont) : Hp → Prop :=
 buildA [(0, 1, false, a1), (2, 1, false, (.bool true))] [(.string .empty), (.string .empty), (.bool false)] fun v7_1 =>
 callA P w0 n_run_Mem_set [a0, v7_1] fun v8_2 =>
 retA [v8_2] R
theorem c_run_Mem_Delete {w0 : World} {h : Hp} {R : Kont} {a0 a1 : Value} (hj : ∀ v, v ∈ [a0, a1] → v ≠ junk) (hv : s_run_Mem_Delete prog w0 a0 a1 R h) : ACalls prog w0 n_run_Mem_Delete [a0, a1] h R := by
  have e : vcFn ⟨prog, w0, 9, ks_run_Mem_Delete⟩ (drw w0 9) fn_run_Mem_Delete [a0, a1] R h = s_run_Mem_Delete prog w0 a0 a1 R h := by
    kernel_rfl
  exact acalls_of_eq (fn := fn_run_Mem_Delete) (ks := ks_run_Mem_Delete) (n := 9) (by kernel_rfl) (by kernel_rfl) (draw_ok (by kernel_rfl)) (by simp) hj e hv

abbrev fn_run_Mem_Len : Func := f42
def ks_run_Mem_Len : List (Nat × List Nat × List Nat) := []
def s_run_Mem_Len (P : Program) (w0 : World) (a0 : Value) (R : Kont) : Hp → Prop :=
 callA P w0 n_run_Mem_made [a0] fun v4_1 =>
 pureA (unA .not v4_1) fun v5_2 =>
 condA v5_2 (
 retA [(.int .i64 0)] R) (
 nilA a0 fun v7_3 =>
 addA v7_3 0 fun v8_4 =>
 loadA w0 v8_4 fun v9_5 =>
 callA P w0 n_seq_Map_string_api_Entry_Len [v9_5] fun v10_6 =>
 retA [v10_6] R)
theorem c_run_Mem_Len {w0 : World} {h : Hp} {R : Kont} {a0 : Value} (hj : ∀ v, v ∈ [a0] → v ≠ junk) (hv : s_run_Mem_Len prog w0 a0 R h) : ACalls prog w0 n_run_Mem_Len [a0] h R := by
  have e : vcFn ⟨prog, w0, 11, ks_run_Mem_Len⟩ (drw w0 11) fn_run_Mem_Len [a0] R h = s_run_Mem_Len prog w0 a0 R h := by
    kernel_rfl
  exact acalls_of_eq (fn := fn_run_Mem_Len) (ks := ks_run_Mem_Len) (n := 11) (by kernel_rfl) (by kernel_rfl) (draw_ok (by kernel_rfl)) (by simp) hj e hv

abbrev fn_run_Mem_All : Func := f47
def ks_run_Mem_All : List (Nat × List Nat × List Nat) := []
def s_run_Mem_All (P : Program) (w0 : World) (a0 : Value) (R : Kont) : Hp → Prop :=
 boxA false 1 a0 fun v1_1 =>
 mkFnA n_run_Mem_All_S1 [] [v1_1] fun v3_2 =>
 retA [v3_2] R
theorem c_run_Mem_All {w0 : World} {h : Hp} {R : Kont} {a0 : Value} (hj : ∀ v, v ∈ [a0] → v ≠ junk) (hv : s_run_Mem_All prog w0 a0 R h) : ACalls prog w0 n_run_Mem_All [a0] h R := by
  have e : vcFn ⟨prog, w0, 4, ks_run_Mem_All⟩ (drw w0 4) fn_run_Mem_All [a0] R h = s_run_Mem_All prog w0 a0 R h := by
    kernel_rfl
  exact acalls_of_eq (fn := fn_run_Mem_All) (ks := ks_run_Mem_All) (n := 4) (by kernel_rfl) (by kernel_rfl) (draw_ok (by kernel_rfl)) (by simp) hj e hv

abbrev fn_run_Mem_Clear : Func := f48
def ks_run_Mem_Clear : List (Nat × List Nat × List Nat) := []
def s_run_Mem_Clear (P : Program) (w0 : World) (a0 : Value) (R : Kont) : Hp → Prop :=
 callA P w0 n_run_Mem_made [a0] fun v3_1 =>
 condA v3_1 (
 callA P w0 n_seq_NewMap_string_api_Entry [] fun v5_2 =>
 nilA a0 fun v6_3 =>
 addA v6_3 0 fun v7_4 =>
 storeA w0 v7_4 v5_2 fun _ =>
 retA [] R) (
 retA [] R)
theorem c_run_Mem_Clear {w0 : World} {h : Hp} {R : Kont} {a0 : Value} (hj : ∀ v, v ∈ [a0] → v ≠ junk) (hv : s_run_Mem_Clear prog w0 a0 R h) : ACalls prog w0 n_run_Mem_Clear [a0] h R := by
  have e : vcFn ⟨prog, w0, 8, ks_run_Mem_Clear⟩ (drw w0 8) fn_run_Mem_Clear [a0] R h = s_run_Mem_Clear prog w0 a0 R h := by
    kernel_rfl
  exact acalls_of_eq (fn := fn_run_Mem_Clear) (ks := ks_run_Mem_Clear) (n := 8) (by kernel_rfl) (by kernel_rfl) (draw_ok (by kernel_rfl)) (by simp) hj e hv

abbrev fn_run_Merge : Func := f52
def ks_run_Merge : List (Nat × List Nat × List Nat) := [(3, [1, 5, 13, 14, 15], [1, 5]), (13, [1, 10, 35, 36, 37], [10])]
def run_Merge_R1 (P : Program) (w0 : World) (b : Nat) (g : Lp) (K : Kont) (x8 y21 : Value) : Hp → Prop :=
 newA [(.string .empty), (.string .empty), (.bool false)] 3 fun v9_7 =>
 storeNA w0 v9_7 y21 3 fun _ =>
 beginA b g (
 loadA w0 x8 fun v22_8 =>
 addA v9_7 0 fun v23_9 =>
 loadA w0 v23_9 fun v24_10 =>
 loadNA w0 v9_7 3 fun v25_11 =>
 buildA [(0, 1, false, v24_10), (1, 3, true, v25_11)] [(.string .empty), (.string .empty), (.string .empty), (.bool false)] fun v26_12 =>
 bslA [(0, 4, true, v26_12)] (zerosL [(.string .empty), (.string .empty), (.string .empty), (.bool false)] 1) 1 4 fun v27_13 =>
 appA w0 4 56 v22_8 v27_13 fun v28_14 =>
 storeA w0 x8 v28_14 fun _ =>
 endR b g none K)
def run_Merge_B1 (P : Program) (w0 : World) (R : Value → Value → Value → Value → Value → Hp → Prop) (k0 : Value → Value → Hp → Prop) (x1 x5 x13 x14 x15 : Value) : Hp → Prop :=
 pureA (binA .lss x15 x14) fun v16_2 =>
 condA v16_2 (
 idxSlA 1 x13 x15 fun v17_3 =>
 loadA w0 v17_3 fun v18_4 =>
 newA [(.slice none 0 0)] 1 fun v8_5 =>
 callA P w0 n_run_Run_Scan [v18_4, (.string .empty), (.string .empty)] fun v20_6 =>
 rangeA P w0 v20_6 1 (fun b g args K => run_Merge_R1 P w0 b g K v8_5 (args.getD 0 undef)) (
 loadA w0 v8_5 fun v30_15 =>
 bslA [(0, 1, false, v30_15)] (zerosL [(.slice none 0 0)] 1) 1 1 fun v31_16 =>
 appA w0 1 24 x5 v31_16 fun v32_17 =>
 pureA (binA .add x15 (.int .i64 1)) fun v33_18 =>
 R x1 v32_17 x13 x14 v33_18) []) (
 k0 x1 x5)
def run_Merge_L1 (P : Program) (w0 : World) (k0 : Value → Value → Hp → Prop) : Nat → Value → Value → Value → Value → Value → Hp → Prop
  | 0, _, _, _, _, _ => fun _ => False
  | m + 1, x1, x5, x13, x14, x15 => run_Merge_B1 P w0 (run_Merge_L1 P w0 k0 m) k0 x1 x5 x13 x14 x15
def run_Merge_E1 (P : Program) (w0 : World) (k0 : Value → Value → Hp → Prop) (x1 x5 x13 x14 x15 : Value) : Hp → Prop := fun h => ∃ m, run_Merge_L1 P w0 k0 m x1 x5 x13 x14 x15 h
def run_Merge_B2 (P : Program) (w0 : World) (R : Value → Value → Value → Value → Value → Hp → Prop) (k4 : Value → Hp → Prop) (x1 x10 x35 x36 x37 : Value) : Hp → Prop :=
 pureA (binA .lss x37 x36) fun v38_23 =>
 condA v38_23 (
 idxSlA 4 x35 x37 fun v39_24 =>
 loadNA w0 v39_24 4 fun v40_25 =>
 newA [(.string .empty), (.string .empty), (.string .empty), (.bool false)] 4 fun v12_26 =>
 storeNA w0 v12_26 v40_25 4 fun _ =>
 pureA (unA .not x1) fun v42_27 =>
 guardA v42_27 false (addA v12_26 1) fun v44_28 =>
 guardA v42_27 false (addA v44_28 2) fun v45_29 =>
 guardA v42_27 false (loadA w0 v45_29) fun v46_30 =>
 guardA v42_27 false (pureA (unA .not v46_30)) fun v47_31 =>
 pickA v42_27 (.bool true) v47_31 fun v48_32 =>
 condA v48_32 (
 addA v12_26 1 fun v50_33 =>
 loadNA w0 v50_33 3 fun v51_34 =>
 bslA [(0, 3, true, v51_34)] (zerosL [(.string .empty), (.string .empty), (.bool false)] 1) 1 3 fun v52_35 =>
 appA w0 3 40 x10 v52_35 fun v53_36 =>
 pureA (binA .add x37 (.int .i64 1)) fun v54_37 =>
 R x1 v53_36 x35 x36 v54_37) (
 pureA (binA .add x37 (.int .i64 1)) fun v54_38 =>
 R x1 x10 x35 x36 v54_38)) (
 k4 x10)
def run_Merge_L2 (P : Program) (w0 : World) (k4 : Value → Hp → Prop) : Nat → Value → Value → Value → Value → Value → Hp → Prop
  | 0, _, _, _, _, _ => fun _ => False
  | m + 1, x1, x10, x35, x36, x37 => run_Merge_B2 P w0 (run_Merge_L2 P w0 k4 m) k4 x1 x10 x35 x36 x37
def run_Merge_E2 (P : Program) (w0 : World) (k4 : Value → Hp → Prop) (x1 x10 x35 x36 x37 : Value) : Hp → Prop := fun h => ∃ m, run_Merge_L2 P w0 k4 m x1 x10 x35 x36 x37 h
def s_run_Merge (P : Program) (w0 : World) (a0 a1 : Value) (R : Kont) : Hp → Prop :=
 fun h0 => (pureA (lenSl a0) fun v14_1 =>
 run_Merge_E1 P w0 (fun y1_19 y5_20 =>
 callA P w0 n_seq_Merge_string_api_Entry [y5_20] fun v35_21 =>
 pureA (lenSl v35_21) fun v36_22 =>
 run_Merge_E2 P w0 (fun y10_39 =>
 cutA h0 (
 retA [y10_39] R)) y1_19 (.slice none 0 0) v35_21 v36_22 (.int .i64 0)) a1 (.slice none 0 0) a0 v14_1 (.int .i64 0)) h0
theorem run_Merge_L2_eq (w0 : World) (k4 : Value → Hp → Prop) : ∀ (m : Nat) (x1 x10 x35 x36 x37 : Value) (h : Hp), loopA (stepLM ⟨prog, w0, 56, ks_run_Merge⟩ (drw w0 56) (loopAt fn_run_Merge 1)) m (mkFr [(1, x1), (10, x10), (35, x35), (36, x36), (37, x37)]) [fun t => k4 (t 10)] h = run_Merge_L2 prog w0 k4 m x1 x10 x35 x36 x37 h := by
  intro m
  induction m with
  | zero => intros; kernel_rfl
  | succ m ih =>
    intro x1 x10 x35 x36 x37 h
    have e : run_Merge_L2 prog w0 k4 m = fun x1 x10 x35 x36 x37 h => loopA (stepLM ⟨prog, w0, 56, ks_run_Merge⟩ (drw w0 56) (loopAt fn_run_Merge 1)) m (mkFr [(1, x1), (10, x10), (35, x35), (36, x36), (37, x37)]) [fun t => k4 (t 10)] h := by funext x1 x10 x35 x36 x37 h; exact (ih x1 x10 x35 x36 x37 h).symm
    show _ = run_Merge_B2 prog w0 (run_Merge_L2 prog w0 k4 m) k4 x1 x10 x35 x36 x37 h
    rw [e]
    kernel_rfl
theorem run_Merge_E2_eq (w0 : World) : run_Merge_E2 prog w0 = fun k4 x1 x10 x35 x36 x37 h => ∃ m, loopA (stepLM ⟨prog, w0, 56, ks_run_Merge⟩ (drw w0 56) (loopAt fn_run_Merge 1)) m (mkFr [(1, x1), (10, x10), (35, x35), (36, x36), (37, x37)]) [fun t => k4 (t 10)] h := by
  funext k4 x1 x10 x35 x36 x37 h
  exact congrArg Exists (funext fun m => (run_Merge_L2_eq w0 k4 m x1 x10 x35 x36 x37 h).symm)
theorem run_Merge_L1_eq (w0 : World) (k0 : Value → Value → Hp → Prop) : ∀ (m : Nat) (x1 x5 x13 x14 x15 : Value) (h : Hp), loopA (stepLM ⟨prog, w0, 56, ks_run_Merge⟩ (drw w0 56) (loopAt fn_run_Merge 0)) m (mkFr [(1, x1), (5, x5), (13, x13), (14, x14), (15, x15)]) [fun t => k0 (t 1) (t 5)] h = run_Merge_L1 prog w0 k0 m x1 x5 x13 x14 x15 h := by
  intro m
  induction m with
  | zero => intros; kernel_rfl
  | succ m ih =>
    intro x1 x5 x13 x14 x15 h
    have e : run_Merge_L1 prog w0 k0 m = fun x1 x5 x13 x14 x15 h => loopA (stepLM ⟨prog, w0, 56, ks_run_Merge⟩ (drw w0 56) (loopAt fn_run_Merge 0)) m (mkFr [(1, x1), (5, x5), (13, x13), (14, x14), (15, x15)]) [fun t => k0 (t 1) (t 5)] h := by funext x1 x5 x13 x14 x15 h; exact (ih x1 x5 x13 x14 x15 h).symm
    show _ = run_Merge_B1 prog w0 (run_Merge_L1 prog w0 k0 m) k0 x1 x5 x13 x14 x15 h
    rw [e]
    kernel_rfl
theorem run_Merge_E1_eq (w0 : World) : run_Merge_E1 prog w0 = fun k0 x1 x5 x13 x14 x15 h => ∃ m, loopA (stepLM ⟨prog, w0, 56, ks_run_Merge⟩ (drw w0 56) (loopAt fn_run_Merge 0)) m (mkFr [(1, x1), (5, x5), (13, x13), (14, x14), (15, x15)]) [fun t => k0 (t 1) (t 5)] h := by
  funext k0 x1 x5 x13 x14 x15 h
  exact congrArg Exists (funext fun m => (run_Merge_L1_eq w0 k0 m x1 x5 x13 x14 x15 h).symm)
theorem c_run_Merge {w0 : World} {h : Hp} {R : Kont} {a0 a1 : Value} (hj : ∀ v, v ∈ [a0, a1] → v ≠ junk) (hv : s_run_Merge prog w0 a0 a1 R h) : ACalls prog w0 n_run_Merge [a0, a1] h R := by
  have e : vcFnM ⟨prog, w0, 56, ks_run_Merge⟩ (drw w0 56) fn_run_Merge [a0, a1] R h = s_run_Merge prog w0 a0 a1 R h := by
    unfold s_run_Merge
    rw [run_Merge_E1_eq w0, run_Merge_E2_eq w0]
    kernel_rfl
  exact acalls_of_eqM (fn := fn_run_Merge) (ks := ks_run_Merge) (n := 56) (by kernel_rfl) (by kernel_rfl) (draw_ok (by kernel_rfl)) (by simp) hj e hv

abbrev fn_run_NewMem : Func := f84
def ks_run_NewMem : List (Nat × List Nat × List Nat) := []
def s_run_NewMem (P : Program) (w0 : World) (R : Kont) : Hp → Prop :=
 callA P w0 n_seq_NewMap_string_api_Entry [] fun v1_1 =>
 buildA [(0, 1, false, v1_1)] [(.pointer none)] fun v2_2 =>
 boxA true 1 v2_2 fun v3_3 =>
 retA [v3_3] R
theorem c_run_NewMem {w0 : World} {h : Hp} {R : Kont} (hj : ∀ v, v ∈ [] → v ≠ junk) (hv : s_run_NewMem prog w0  R h) : ACalls prog w0 n_run_NewMem [] h R := by
  have e : vcFn ⟨prog, w0, 4, ks_run_NewMem⟩ (drw w0 4) fn_run_NewMem [] R h = s_run_NewMem prog w0  R h := by
    kernel_rfl
  exact acalls_of_eq (fn := fn_run_NewMem) (ks := ks_run_NewMem) (n := 4) (by kernel_rfl) (by kernel_rfl) (draw_ok (by kernel_rfl)) (by simp) hj e hv

abbrev fn_run_Check : Func := f85
def ks_run_Check : List (Nat × List Nat × List Nat) := [(2, [0, 2, 5, 6, 7], [2])]
def run_Check_B1 (P : Program) (w0 : World) (R : Value → Value → Value → Value → Value → Hp → Prop) (k0 : Value → Hp → Prop) (kr : Value → Hp → Prop) (x0 x2 x5 x6 x7 : Value) : Hp → Prop :=
 pureA (binA .lss x7 x6) fun v8_2 =>
 condA v8_2 (
 idxSlA 3 x5 x7 fun v10_3 =>
 loadNA w0 v10_3 3 fun v11_4 =>
 newA [(.string .empty), (.string .empty), (.bool false)] 3 fun v4_5 =>
 storeNA w0 v4_5 v11_4 3 fun _ =>
 readQ (loadNA w0 v4_5 3) fun v12_6 =>
 allA [
 (callA P w0 n_run_may [v12_6] fun v13_7 =>
 stillA [] (
 pureQ (pureA (unA .not v13_7)) fun v14_8 =>
 pureQ (fun K => K v14_8) fun v15_9 =>
 pureQ (guardA v15_9 false (fun K => K x7)) fun v16_10 =>
 pureQ (guardA v15_9 false (pureA (binA .gtr v16_10 (.int .i64 0)))) fun v17_11 =>
 pureQ (guardA v15_9 false (fun K => K v17_11)) fun v18_12 =>
 pureQ (guardA v18_12 true (fun K => K x0)) fun v19_13 =>
 pureQ (guardA v18_12 true (fun K => K x7)) fun v20_14 =>
 pureQ (guardA v18_12 true (pureA (binA .sub v20_14 (.int .i64 1)))) fun v21_15 =>
 pureQ (guardA v18_12 true (idxSlA 3 v19_13 v21_15)) fun v22_16 =>
 pureQ (guardA v18_12 true (addA v22_16 0)) fun v23_17 =>
 readQ (guardA v18_12 true (loadA w0 v23_17)) fun v24_18 =>
 pureQ (guardA v18_12 true (addA v4_5 0)) fun v25_19 =>
 readQ (guardA v18_12 true (loadA w0 v25_19)) fun v26_20 =>
 pureQ (guardA v18_12 true (pureA (binA .geq v24_18 v26_20))) fun v27_21 =>
 pureQ (guardA v15_9 false (pickA v18_12 v27_21 (.bool false))) fun v28_22 =>
 pureQ (pickA v15_9 (.bool true) v28_22) fun v29_23 =>
 endA (
 condA v29_23 (
 kr (.int .i64 120)) (
 pureA (binA .add x7 (.int .i64 1)) fun v30_24 =>
 R x0 x2 x5 x6 v30_24))))]) (
 k0 x2)
def run_Check_L1 (P : Program) (w0 : World) (k0 : Value → Hp → Prop) (kr : Value → Hp → Prop) : Nat → Value → Value → Value → Value → Value → Hp → Prop
  | 0, _, _, _, _, _ => fun _ => False
  | m + 1, x0, x2, x5, x6, x7 => run_Check_B1 P w0 (run_Check_L1 P w0 k0 kr m) k0 kr x0 x2 x5 x6 x7
def run_Check_E1 (P : Program) (w0 : World) (k0 : Value → Hp → Prop) (kr : Value → Hp → Prop) (x0 x2 x5 x6 x7 : Value) : Hp → Prop := fun h => ∃ m, run_Check_L1 P w0 k0 kr m x0 x2 x5 x6 x7 h
def s_run_Check (P : Program) (w0 : World) (a0 : Value) (R : Kont) : Hp → Prop :=
 pureA (lenSl a0) fun v6_1 =>
 run_Check_E1 P w0 (fun y2_25 =>
 retA [(.int .i64 0)] R) (fun y2_26 =>
 retA [y2_26] R) a0 (.int .i64 0) a0 v6_1 (.int .i64 0)
theorem run_Check_L1_eq (w0 : World) (k0 : Value → Hp → Prop) (kr : Value → Hp → Prop) : ∀ (m : Nat) (x0 x2 x5 x6 x7 : Value) (h : Hp), loopA (stepL ⟨prog, w0, 31, ks_run_Check⟩ (drw w0 31) (loopAt fn_run_Check 0)) m (mkFr [(0, x0), (2, x2), (5, x5), (6, x6), (7, x7)]) [fun t => k0 (t 2), fun t => kr (t 2)] h = run_Check_L1 prog w0 k0 kr m x0 x2 x5 x6 x7 h := by
  intro m
  induction m with
  | zero => intros; kernel_rfl
  | succ m ih =>
    intro x0 x2 x5 x6 x7 h
    have e : run_Check_L1 prog w0 k0 kr m = fun x0 x2 x5 x6 x7 h => loopA (stepL ⟨prog, w0, 31, ks_run_Check⟩ (drw w0 31) (loopAt fn_run_Check 0)) m (mkFr [(0, x0), (2, x2), (5, x5), (6, x6), (7, x7)]) [fun t => k0 (t 2), fun t => kr (t 2)] h := by funext x0 x2 x5 x6 x7 h; exact (ih x0 x2 x5 x6 x7 h).symm
    show _ = run_Check_B1 prog w0 (run_Check_L1 prog w0 k0 kr m) k0 kr x0 x2 x5 x6 x7 h
    rw [e]
    kernel_rfl
theorem run_Check_E1_eq (w0 : World) : run_Check_E1 prog w0 = fun k0 kr x0 x2 x5 x6 x7 h => ∃ m, loopA (stepL ⟨prog, w0, 31, ks_run_Check⟩ (drw w0 31) (loopAt fn_run_Check 0)) m (mkFr [(0, x0), (2, x2), (5, x5), (6, x6), (7, x7)]) [fun t => k0 (t 2), fun t => kr (t 2)] h := by
  funext k0 kr x0 x2 x5 x6 x7 h
  exact congrArg Exists (funext fun m => (run_Check_L1_eq w0 k0 kr m x0 x2 x5 x6 x7 h).symm)
theorem c_run_Check {w0 : World} {h : Hp} {R : Kont} {a0 : Value} (hj : ∀ v, v ∈ [a0] → v ≠ junk) (hv : s_run_Check prog w0 a0 R h) : ACalls prog w0 n_run_Check [a0] h R := by
  have e : vcFn ⟨prog, w0, 31, ks_run_Check⟩ (drw w0 31) fn_run_Check [a0] R h = s_run_Check prog w0 a0 R h := by
    unfold s_run_Check
    rw [run_Check_E1_eq w0]
    kernel_rfl
  exact acalls_of_eq (fn := fn_run_Check) (ks := ks_run_Check) (n := 31) (by kernel_rfl) (by kernel_rfl) (draw_ok (by kernel_rfl)) (by simp) hj e hv

abbrev fn_run_Mem_set : Func := f90
def ks_run_Mem_set : List (Nat × List Nat × List Nat) := []
def s_run_Mem_set (P : Program) (w0 : World) (a0 a1 : Value) (R : Kont) : Hp → Prop :=
 boxA true 3 a1 fun v3_1 =>
 callA P w0 n_run_Mem_made [a0] fun v7_2 =>
 pureA (unA .not v7_2) fun v8_3 =>
 condA v8_3 (
 retA [(.int .i64 6)] R) (
 loadNA w0 v3_1 3 fun v10_4 =>
 callA P w0 n_run_may [v10_4] fun v11_5 =>
 pureA (unA .not v11_5) fun v12_6 =>
 condA v12_6 (
 retA [(.int .i64 120)] R) (
 pureQ (fun K => K a0) fun v13_7 =>
 pureQ (nilA v13_7) fun v14_8 =>
 pureQ (addA v14_8 0) fun v15_9 =>
 readQ (loadA w0 v15_9) fun v16_10 =>
 pureQ (addA v3_1 0) fun v17_11 =>
 readQ (loadA w0 v17_11) fun v18_12 =>
 readQ (loadNA w0 v3_1 3) fun v19_13 =>
 allA [
 (callA P w0 n_seq_Map_string_api_Entry_Put [v16_10, v18_12, v19_13] fun v20_14 =>
 stillA [] (
 endA (
 retA [(.int .i64 0)] R)))]))
theorem c_run_Mem_set {w0 : World} {h : Hp} {R : Kont} {a0 a1 : Value} (hj : ∀ v, v ∈ [a0, a1] → v ≠ junk) (hv : s_run_Mem_set prog w0 a0 a1 R h) : ACalls prog w0 n_run_Mem_set [a0, a1] h R := by
  have e : vcFn ⟨prog, w0, 21, ks_run_Mem_set⟩ (drw w0 21) fn_run_Mem_set [a0, a1] R h = s_run_Mem_set prog w0 a0 a1 R h := by
    kernel_rfl
  exact acalls_of_eq (fn := fn_run_Mem_set) (ks := ks_run_Mem_set) (n := 21) (by kernel_rfl) (by kernel_rfl) (draw_ok (by kernel_rfl)) (by simp) hj e hv

abbrev fn_run_Mem_made : Func := f91
def ks_run_Mem_made : List (Nat × List Nat × List Nat) := []
def s_run_Mem_made (P : Program) (w0 : World) (a0 : Value) (R : Kont) : Hp → Prop :=
 pureA (binPtrA .neq a0 (.pointer none)) fun v4_1 =>
 guardA v4_1 true (fun K => K a0) fun v6_2 =>
 guardA v4_1 true (nilA v6_2) fun v7_3 =>
 guardA v4_1 true (addA v7_3 0) fun v8_4 =>
 guardA v4_1 true (loadA w0 v8_4) fun v9_5 =>
 guardA v4_1 true (pureA (binPtrA .neq v9_5 (.pointer none))) fun v10_6 =>
 pickA v4_1 v10_6 (.bool false) fun v11_7 =>
 retA [v11_7] R
theorem c_run_Mem_made {w0 : World} {h : Hp} {R : Kont} {a0 : Value} (hj : ∀ v, v ∈ [a0] → v ≠ junk) (hv : s_run_Mem_made prog w0 a0 R h) : ACalls prog w0 n_run_Mem_made [a0] h R := by
  have e : vcFn ⟨prog, w0, 12, ks_run_Mem_made⟩ (drw w0 12) fn_run_Mem_made [a0] R h = s_run_Mem_made prog w0 a0 R h := by
    kernel_rfl
  exact acalls_of_eq (fn := fn_run_Mem_made) (ks := ks_run_Mem_made) (n := 12) (by kernel_rfl) (by kernel_rfl) (draw_ok (by kernel_rfl)) (by simp) hj e hv

abbrev fn_run_Build : Func := f95
def ks_run_Build : List (Nat × List Nat × List Nat) := [(9, [0, 1, 7, 8, 9, 35, 36, 37], [0, 1, 7, 8, 9]), (16, [7, 9, 63, 64, 65], [7, 9])]
def run_Build_B1 (P : Program) (w0 : World) (R : Value → Value → Value → Value → Value → Value → Value → Value → Hp → Prop) (k0 : Value → Value → Value → Value → Value → Hp → Prop) (x0 x1 x7 x8 x9 x35 x36 x37 : Value) : Hp → Prop :=
 pureA (binA .lss x37 x36) fun v38_12 =>
 condA v38_12 (
 idxSlA 3 x35 x37 fun v39_13 =>
 loadNA w0 v39_13 3 fun v40_14 =>
 newA [(.string .empty), (.int .i64 0), (.int .i64 0)] 3 fun v11_15 =>
 storeNA w0 v11_15 v40_14 3 fun _ =>
 addA v11_15 0 fun v42_16 =>
 loadA w0 v42_16 fun v43_17 =>
 callA P w0 n_codec_Writer_Text [x9, v43_17] fun v44_18 =>
 addA v11_15 1 fun v46_19 =>
 loadA w0 v46_19 fun v47_20 =>
 pureA (convA .u64 v47_20) fun v48_21 =>
 callA P w0 n_codec_Writer_Varint [x9, v48_21] fun v49_22 =>
 addA v11_15 2 fun v51_23 =>
 loadA w0 v51_23 fun v52_24 =>
 pureA (convA .u64 v52_24) fun v53_25 =>
 callA P w0 n_codec_Writer_Varint [x9, v53_25] fun v54_26 =>
 pureA (binA .add x37 (.int .i64 1)) fun v55_27 =>
 R x0 x1 x7 x8 x9 x35 x36 v55_27) (
 k0 x0 x1 x7 x8 x9)
def run_Build_L1 (P : Program) (w0 : World) (k0 : Value → Value → Value → Value → Value → Hp → Prop) : Nat → Value → Value → Value → Value → Value → Value → Value → Value → Hp → Prop
  | 0, _, _, _, _, _, _, _, _ => fun _ => False
  | m + 1, x0, x1, x7, x8, x9, x35, x36, x37 => run_Build_B1 P w0 (run_Build_L1 P w0 k0 m) k0 x0 x1 x7 x8 x9 x35 x36 x37
def run_Build_E1 (P : Program) (w0 : World) (k0 : Value → Value → Value → Value → Value → Hp → Prop) (x0 x1 x7 x8 x9 x35 x36 x37 : Value) : Hp → Prop := fun h => ∃ m, run_Build_L1 P w0 k0 m x0 x1 x7 x8 x9 x35 x36 x37 h
def run_Build_B2 (P : Program) (w0 : World) (R : Value → Value → Value → Value → Value → Hp → Prop) (k2 : Value → Value → Hp → Prop) (x7 x9 x63 x64 x65 : Value) : Hp → Prop :=
 pureA (binA .lss x65 x64) fun v66_38 =>
 condA v66_38 (
 idxSlA 1 x63 x65 fun v67_39 =>
 loadA w0 v67_39 fun v68_40 =>
 pureA (convA .u32 v68_40) fun v71_41 =>
 callA P w0 n_codec_Writer_U32 [x9, v71_41] fun v72_42 =>
 pureA (binA .add x65 (.int .i64 1)) fun v73_43 =>
 R x7 x9 x63 x64 v73_43) (
 k2 x7 x9)
def run_Build_L2 (P : Program) (w0 : World) (k2 : Value → Value → Hp → Prop) : Nat → Value → Value → Value → Value → Value → Hp → Prop
  | 0, _, _, _, _, _ => fun _ => False
  | m + 1, x7, x9, x63, x64, x65 => run_Build_B2 P w0 (run_Build_L2 P w0 k2 m) k2 x7 x9 x63 x64 x65
def run_Build_E2 (P : Program) (w0 : World) (k2 : Value → Value → Hp → Prop) (x7 x9 x63 x64 x65 : Value) : Hp → Prop := fun h => ∃ m, run_Build_L2 P w0 k2 m x7 x9 x63 x64 x65 h
def s_run_Build (P : Program) (w0 : World) (a0 a1 : Value) (R : Kont) : Hp → Prop :=
 pureA (binA .lss a1 (.int .i64 256)) fun v18_1 =>
 guardA v18_1 false (fun K => K a1) fun v20_2 =>
 guardA v18_1 false (pureA (binA .gtr v20_2 (.int .i64 4096))) fun v21_3 =>
 pickA v18_1 (.bool true) v21_3 fun v22_4 =>
 condA v22_4 (
 retA [(.slice none 0 0), (.int .i64 1)] R) (
 callA P w0 n_run_Check [a0] fun v24_5 =>
 pureA (binA .neq v24_5 (.int .i64 0)) fun v26_6 =>
 condA v26_6 (
 retA [(.slice none 0 0), v24_5] R) (
 callA P w0 n_run_blocks [a0, a1] fun v31_7 =>
 pureA (extA v31_7 0) fun v32_8 =>
 pureA (extA v31_7 1) fun v33_9 =>
 callA P w0 n_codec_NewWriter [(.int .i64 1073741824)] fun v34_10 =>
 pureA (lenSl v33_9) fun v36_11 =>
 run_Build_E1 P w0 (fun y0_28 y1_29 y7_30 y8_31 y9_32 =>
 pureA (lenSl y0_28) fun v58_33 =>
 pureA (lenSl y8_31) fun v60_34 =>
 pureA (lenSl y7_30) fun v62_35 =>
 bslA [(0, 1, false, y1_29), (1, 1, false, v58_33), (2, 1, false, v60_34), (3, 1, false, v62_35)] (zerosL [(.int .i64 0)] 4) 4 1 fun v63_36 =>
 pureA (lenSl v63_36) fun v64_37 =>
 run_Build_E2 P w0 (fun y7_44 y9_45 =>
 callA P w0 n_codec_Writer_Done [y9_45] fun v76_46 =>
 pureA (extA v76_46 0) fun v77_47 =>
 pureA (extA v76_46 1) fun v78_48 =>
 callA P w0 n_codec_Crc [v77_47] fun v81_49 =>
 callA P w0 n_codec_Writer_U32 [y9_45, v81_49] fun v82_50 =>
 callA P w0 n_codec_Writer_Raw [y9_45, (.string ⟨#[68, 82, 85, 78]⟩)] fun v84_51 =>
 callA P w0 n_codec_Writer_Done [y9_45] fun v87_52 =>
 pureA (extA v87_52 0) fun v88_53 =>
 pureA (extA v87_52 1) fun v89_54 =>
 pureA (binA .neq v89_54 (.int .i64 0)) fun v91_55 =>
 condA v91_55 (
 retA [(.slice none 0 0), v89_54] R) (
 appA w0 1 1 y7_44 v88_53 fun v95_56 =>
 retA [v95_56, (.int .i64 0)] R)) y7_30 y9_32 v63_36 v64_37 (.int .i64 0)) a0 a1 v32_8 v33_9 v34_10 v33_9 v36_11 (.int .i64 0)))
theorem run_Build_L2_eq (w0 : World) (k2 : Value → Value → Hp → Prop) : ∀ (m : Nat) (x7 x9 x63 x64 x65 : Value) (h : Hp), loopA (stepL ⟨prog, w0, 96, ks_run_Build⟩ (drw w0 96) (loopAt fn_run_Build 1)) m (mkFr [(7, x7), (9, x9), (63, x63), (64, x64), (65, x65)]) [fun t => k2 (t 7) (t 9)] h = run_Build_L2 prog w0 k2 m x7 x9 x63 x64 x65 h := by
  intro m
  induction m with
  | zero => intros; kernel_rfl
  | succ m ih =>
    intro x7 x9 x63 x64 x65 h
    have e : run_Build_L2 prog w0 k2 m = fun x7 x9 x63 x64 x65 h => loopA (stepL ⟨prog, w0, 96, ks_run_Build⟩ (drw w0 96) (loopAt fn_run_Build 1)) m (mkFr [(7, x7), (9, x9), (63, x63), (64, x64), (65, x65)]) [fun t => k2 (t 7) (t 9)] h := by funext x7 x9 x63 x64 x65 h; exact (ih x7 x9 x63 x64 x65 h).symm
    show _ = run_Build_B2 prog w0 (run_Build_L2 prog w0 k2 m) k2 x7 x9 x63 x64 x65 h
    rw [e]
    kernel_rfl
theorem run_Build_E2_eq (w0 : World) : run_Build_E2 prog w0 = fun k2 x7 x9 x63 x64 x65 h => ∃ m, loopA (stepL ⟨prog, w0, 96, ks_run_Build⟩ (drw w0 96) (loopAt fn_run_Build 1)) m (mkFr [(7, x7), (9, x9), (63, x63), (64, x64), (65, x65)]) [fun t => k2 (t 7) (t 9)] h := by
  funext k2 x7 x9 x63 x64 x65 h
  exact congrArg Exists (funext fun m => (run_Build_L2_eq w0 k2 m x7 x9 x63 x64 x65 h).symm)
theorem run_Build_L1_eq (w0 : World) (k0 : Value → Value → Value → Value → Value → Hp → Prop) : ∀ (m : Nat) (x0 x1 x7 x8 x9 x35 x36 x37 : Value) (h : Hp), loopA (stepL ⟨prog, w0, 96, ks_run_Build⟩ (drw w0 96) (loopAt fn_run_Build 0)) m (mkFr [(0, x0), (1, x1), (7, x7), (8, x8), (9, x9), (35, x35), (36, x36), (37, x37)]) [fun t => k0 (t 0) (t 1) (t 7) (t 8) (t 9)] h = run_Build_L1 prog w0 k0 m x0 x1 x7 x8 x9 x35 x36 x37 h := by
  intro m
  induction m with
  | zero => intros; kernel_rfl
  | succ m ih =>
    intro x0 x1 x7 x8 x9 x35 x36 x37 h
    have e : run_Build_L1 prog w0 k0 m = fun x0 x1 x7 x8 x9 x35 x36 x37 h => loopA (stepL ⟨prog, w0, 96, ks_run_Build⟩ (drw w0 96) (loopAt fn_run_Build 0)) m (mkFr [(0, x0), (1, x1), (7, x7), (8, x8), (9, x9), (35, x35), (36, x36), (37, x37)]) [fun t => k0 (t 0) (t 1) (t 7) (t 8) (t 9)] h := by funext x0 x1 x7 x8 x9 x35 x36 x37 h; exact (ih x0 x1 x7 x8 x9 x35 x36 x37 h).symm
    show _ = run_Build_B1 prog w0 (run_Build_L1 prog w0 k0 m) k0 x0 x1 x7 x8 x9 x35 x36 x37 h
    rw [e]
    kernel_rfl
theorem run_Build_E1_eq (w0 : World) : run_Build_E1 prog w0 = fun k0 x0 x1 x7 x8 x9 x35 x36 x37 h => ∃ m, loopA (stepL ⟨prog, w0, 96, ks_run_Build⟩ (drw w0 96) (loopAt fn_run_Build 0)) m (mkFr [(0, x0), (1, x1), (7, x7), (8, x8), (9, x9), (35, x35), (36, x36), (37, x37)]) [fun t => k0 (t 0) (t 1) (t 7) (t 8) (t 9)] h := by
  funext k0 x0 x1 x7 x8 x9 x35 x36 x37 h
  exact congrArg Exists (funext fun m => (run_Build_L1_eq w0 k0 m x0 x1 x7 x8 x9 x35 x36 x37 h).symm)
theorem c_run_Build {w0 : World} {h : Hp} {R : Kont} {a0 a1 : Value} (hj : ∀ v, v ∈ [a0, a1] → v ≠ junk) (hv : s_run_Build prog w0 a0 a1 R h) : ACalls prog w0 n_run_Build [a0, a1] h R := by
  have e : vcFn ⟨prog, w0, 96, ks_run_Build⟩ (drw w0 96) fn_run_Build [a0, a1] R h = s_run_Build prog w0 a0 a1 R h := by
    unfold s_run_Build
    rw [run_Build_E1_eq w0, run_Build_E2_eq w0]
    kernel_rfl
  exact acalls_of_eq (fn := fn_run_Build) (ks := ks_run_Build) (n := 96) (by kernel_rfl) (by kernel_rfl) (draw_ok (by kernel_rfl)) (by simp) hj e hv

abbrev fn_run_Open : Func := f96
def ks_run_Open : List (Nat × List Nat × List Nat) := []
def s_run_Open (P : Program) (w0 : World) (a0 : Value) (R : Kont) : Hp → Prop :=
 b2sA w0 a0 fun v12_1 =>
 callA P w0 n_run_parse [v12_1] fun v13_2 =>
 pureA (extA v13_2 0) fun v14_3 =>
 pureA (extA v13_2 1) fun v15_4 =>
 pureA (extA v13_2 2) fun v16_5 =>
 pureA (extA v13_2 3) fun v17_6 =>
 pureA (unA .not v17_6) fun v19_7 =>
 condA v19_7 (
 retA [(.pointer none), (.int .i64 121)] R) (
 callA P w0 n_run_Build [v14_3, v15_4] fun v23_8 =>
 pureA (extA v23_8 0) fun v24_9 =>
 pureA (extA v23_8 1) fun v25_10 =>
 pureA (binA .neq v25_10 (.int .i64 0)) fun v27_11 =>
 guardA v27_11 false (fun K => K a0) fun v29_12 =>
 guardA v27_11 false (fun K => K v24_9) fun v30_13 =>
 guardA v27_11 false (callA P w0 n_bytes_Equal [v29_12, v30_13]) fun v31_14 =>
 guardA v27_11 false (pureA (unA .not v31_14)) fun v32_15 =>
 pickA v27_11 (.bool true) v32_15 fun v33_16 =>
 condA v33_16 (
 retA [(.pointer none), (.int .i64 121)] R) (
 buildA [(0, 1, false, v24_9), (1, 1, false, v14_3), (2, 1, false, v16_5)] [(.slice none 0 0), (.slice none 0 0), (.int .i64 0)] fun v37_17 =>
 boxA true 3 v37_17 fun v38_18 =>
 retA [v38_18, (.int .i64 0)] R))
theorem c_run_Open {w0 : World} {h : Hp} {R : Kont} {a0 : Value} (hj : ∀ v, v ∈ [a0] → v ≠ junk) (hv : s_run_Open prog w0 a0 R h) : ACalls prog w0 n_run_Open [a0] h R := by
  have e : vcFn ⟨prog, w0, 39, ks_run_Open⟩ (drw w0 39) fn_run_Open [a0] R h = s_run_Open prog w0 a0 R h := by
    kernel_rfl
  exact acalls_of_eq (fn := fn_run_Open) (ks := ks_run_Open) (n := 39) (by kernel_rfl) (by kernel_rfl) (draw_ok (by kernel_rfl)) (by simp) hj e hv

abbrev fn_run_Mem_All_S1 : Func := f98
def ks_run_Mem_All_S1 : List (Nat × List Nat × List Nat) := []
def run_Mem_All_S1_R1 (P : Program) (w0 : World) (b : Nat) (g : Lp) (K : Kont) (x2 y13 y14 : Value) : Hp → Prop :=
 newA [(.string .empty), (.string .empty), (.bool false)] 3 fun v4_10 =>
 storeNA w0 v4_10 y14 3 fun _ =>
 beginA b g (
 loadA w0 x2 fun v15_11 =>
 loadNA w0 v4_10 3 fun v16_12 =>
 callVA P w0 v15_11 [v16_12] fun v17_13 =>
 pureA (unA .not v17_13) fun v18_14 =>
 condA v18_14 (
 endR b g (some none) K) (
 endR b g none K))
def s_run_Mem_All_S1 (P : Program) (w0 : World) (a0 a1 : Value) (R : Kont) : Hp → Prop :=
 fun h0 => (boxA false 1 a0 fun v2_1 =>
 loadA w0 a1 fun v5_2 =>
 callA P w0 n_run_Mem_made [v5_2] fun v6_3 =>
 pureA (unA .not v6_3) fun v7_4 =>
 condA v7_4 (
 cutA h0 (
 retA [] R)) (
 loadA w0 a1 fun v8_5 =>
 nilA v8_5 fun v9_6 =>
 addA v9_6 0 fun v10_7 =>
 loadA w0 v10_7 fun v11_8 =>
 callA P w0 n_seq_Map_string_api_Entry_All [v11_8] fun v12_9 =>
 rangeA P w0 v12_9 2 (fun b g args K => run_Mem_All_S1_R1 P w0 b g K v2_1 (args.getD 0 undef) (args.tail.getD 0 undef)) (
 cutA h0 (
 retA [] R)) [(none, (
 cutA h0 (
 retA [] R)))])) h0
theorem c_run_Mem_All_S1 {w0 : World} {h : Hp} {R : Kont} {a0 a1 : Value} (hj : ∀ v, v ∈ [a0, a1] → v ≠ junk) (hv : s_run_Mem_All_S1 prog w0 a0 a1 R h) : ACalls prog w0 n_run_Mem_All_S1 [a0, a1] h R := by
  have e : vcFnM ⟨prog, w0, 19, ks_run_Mem_All_S1⟩ (drw w0 19) fn_run_Mem_All_S1 [a0, a1] R h = s_run_Mem_All_S1 prog w0 a0 a1 R h := by
    kernel_rfl
  exact acalls_of_eqM (fn := fn_run_Mem_All_S1) (ks := ks_run_Mem_All_S1) (n := 19) (by kernel_rfl) (by kernel_rfl) (draw_ok (by kernel_rfl)) (by simp) hj e hv

abbrev fn_run_Run_Scan : Func := f102
def ks_run_Run_Scan : List (Nat × List Nat × List Nat) := []
def s_run_Run_Scan (P : Program) (w0 : World) (a0 a1 a2 : Value) (R : Kont) : Hp → Prop :=
 boxA false 1 a0 fun v3_1 =>
 boxA false 1 a1 fun v4_2 =>
 boxA false 1 a2 fun v5_3 =>
 mkFnA n_run_Run_Scan_S1 [] [v3_1, v4_2, v5_3] fun v7_4 =>
 retA [v7_4] R
theorem c_run_Run_Scan {w0 : World} {h : Hp} {R : Kont} {a0 a1 a2 : Value} (hj : ∀ v, v ∈ [a0, a1, a2] → v ≠ junk) (hv : s_run_Run_Scan prog w0 a0 a1 a2 R h) : ACalls prog w0 n_run_Run_Scan [a0, a1, a2] h R := by
  have e : vcFn ⟨prog, w0, 8, ks_run_Run_Scan⟩ (drw w0 8) fn_run_Run_Scan [a0, a1, a2] R h = s_run_Run_Scan prog w0 a0 a1 a2 R h := by
    kernel_rfl
  exact acalls_of_eq (fn := fn_run_Run_Scan) (ks := ks_run_Run_Scan) (n := 8) (by kernel_rfl) (by kernel_rfl) (draw_ok (by kernel_rfl)) (by simp) hj e hv

abbrev fn_run_Run_made : Func := f112
def ks_run_Run_made : List (Nat × List Nat × List Nat) := []
def s_run_Run_made (P : Program) (w0 : World) (a0 : Value) (R : Kont) : Hp → Prop :=
 pureA (binPtrA .neq a0 (.pointer none)) fun v4_1 =>
 guardA v4_1 true (fun K => K a0) fun v6_2 =>
 guardA v4_1 true (nilA v6_2) fun v7_3 =>
 guardA v4_1 true (addA v7_3 0) fun v8_4 =>
 guardA v4_1 true (loadA w0 v8_4) fun v9_5 =>
 guardA v4_1 true (pureA (binSlA .neq v9_5 (.slice none 0 0))) fun v10_6 =>
 pickA v4_1 v10_6 (.bool false) fun v11_7 =>
 retA [v11_7] R
theorem c_run_Run_made {w0 : World} {h : Hp} {R : Kont} {a0 : Value} (hj : ∀ v, v ∈ [a0] → v ≠ junk) (hv : s_run_Run_made prog w0 a0 R h) : ACalls prog w0 n_run_Run_made [a0] h R := by
  have e : vcFn ⟨prog, w0, 12, ks_run_Run_made⟩ (drw w0 12) fn_run_Run_made [a0] R h = s_run_Run_made prog w0 a0 R h := by
    kernel_rfl
  exact acalls_of_eq (fn := fn_run_Run_made) (ks := ks_run_Run_made) (n := 12) (by kernel_rfl) (by kernel_rfl) (draw_ok (by kernel_rfl)) (by simp) hj e hv

abbrev fn_run_Mem_Get : Func := f127
def ks_run_Mem_Get : List (Nat × List Nat × List Nat) := []
def s_run_Mem_Get (P : Program) (w0 : World) (a0 a1 : Value) (R : Kont) : Hp → Prop :=
 newA [(.string .empty), (.string .empty), (.bool false)] 3 fun v4_1 =>
 callA P w0 n_run_Mem_made [a0] fun v7_2 =>
 pureA (unA .not v7_2) fun v8_3 =>
 condA v8_3 (
 buildA [] [(.string .empty), (.string .empty), (.bool false)] fun v9_4 =>
 storeNA w0 v4_1 v9_4 3 fun _ =>
 loadNA w0 v4_1 3 fun v4_5 =>
 retA [v4_5, (.bool false)] R) (
 nilA a0 fun v11_6 =>
 addA v11_6 0 fun v12_7 =>
 loadA w0 v12_7 fun v13_8 =>
 callA P w0 n_seq_Map_string_api_Entry_Get [v13_8, a1] fun v15_9 =>
 pureA (extA v15_9 0) fun v16_10 =>
 pureA (extA v15_9 1) fun v17_11 =>
 storeNA w0 v4_1 v16_10 3 fun _ =>
 loadNA w0 v4_1 3 fun v4_12 =>
 retA [v4_12, v17_11] R)
theorem c_run_Mem_Get {w0 : World} {h : Hp} {R : Kont} {a0 a1 : Value} (hj : ∀ v, v ∈ [a0, a1] → v ≠ junk) (hv : s_run_Mem_Get prog w0 a0 a1 R h) : ACalls prog w0 n_run_Mem_Get [a0, a1] h R := by
  have e : vcFn ⟨prog, w0, 18, ks_run_Mem_Get⟩ (drw w0 18) fn_run_Mem_Get [a0, a1] R h = s_run_Mem_Get prog w0 a0 a1 R h := by
    kernel_rfl
  exact acalls_of_eq (fn := fn_run_Mem_Get) (ks := ks_run_Mem_Get) (n := 18) (by kernel_rfl) (by kernel_rfl) (draw_ok (by kernel_rfl)) (by simp) hj e hv

abbrev fn_run_Run_Get : Func := f128
def ks_run_Run_Get : List (Nat × List Nat × List Nat) := []
def s_run_Run_Get (P : Program) (w0 : World) (a0 a1 : Value) (R : Kont) : Hp → Prop :=
 newA [(.string .empty), (.string .empty), (.bool false)] 3 fun v4_1 =>
 callA P w0 n_run_Run_made [a0] fun v9_2 =>
 pureA (unA .not v9_2) fun v10_3 =>
 condA v10_3 (
 buildA [] [(.string .empty), (.string .empty), (.bool false)] fun v11_4 =>
 storeNA w0 v4_1 v11_4 3 fun _ =>
 loadNA w0 v4_1 3 fun v4_5 =>
 retA [v4_5, (.bool false)] R) (
 callA P w0 n_run_Run_find [a0, a1] fun v15_6 =>
 pureA (extA v15_6 0) fun v16_7 =>
 pureA (extA v15_6 1) fun v17_8 =>
 pureA (unA .not v17_8) fun v19_9 =>
 condA v19_9 (
 buildA [] [(.string .empty), (.string .empty), (.bool false)] fun v20_10 =>
 storeNA w0 v4_1 v20_10 3 fun _ =>
 loadNA w0 v4_1 3 fun v4_11 =>
 retA [v4_11, (.bool false)] R) (
 nilA a0 fun v22_12 =>
 addA v22_12 1 fun v23_13 =>
 loadA w0 v23_13 fun v24_14 =>
 idxSlA 3 v24_14 v16_7 fun v26_15 =>
 loadNA w0 v26_15 3 fun v27_16 =>
 storeNA w0 v4_1 v27_16 3 fun _ =>
 loadNA w0 v4_1 3 fun v4_17 =>
 retA [v4_17, (.bool true)] R))
theorem c_run_Run_Get {w0 : World} {h : Hp} {R : Kont} {a0 a1 : Value} (hj : ∀ v, v ∈ [a0, a1] → v ≠ junk) (hv : s_run_Run_Get prog w0 a0 a1 R h) : ACalls prog w0 n_run_Run_Get [a0, a1] h R := by
  have e : vcFn ⟨prog, w0, 28, ks_run_Run_Get⟩ (drw w0 28) fn_run_Run_Get [a0, a1] R h = s_run_Run_Get prog w0 a0 a1 R h := by
    kernel_rfl
  exact acalls_of_eq (fn := fn_run_Run_Get) (ks := ks_run_Run_Get) (n := 28) (by kernel_rfl) (by kernel_rfl) (draw_ok (by kernel_rfl)) (by simp) hj e hv

abbrev fn_run_may : Func := f130
def ks_run_may : List (Nat × List Nat × List Nat) := []
def s_run_may (P : Program) (w0 : World) (a0 : Value) (R : Kont) : Hp → Prop :=
 boxA true 3 a0 fun v1_1 =>
 addA v1_1 0 fun v3_2 =>
 loadA w0 v3_2 fun v4_3 =>
 pureA (lenStr v4_3) fun v5_4 =>
 pureA (binA .geq v5_4 (.int .i64 1)) fun v6_5 =>
 guardA v6_5 true (addA v1_1 0) fun v8_6 =>
 guardA v6_5 true (loadA w0 v8_6) fun v9_7 =>
 guardA v6_5 true (pureA (lenStr v9_7)) fun v10_8 =>
 guardA v6_5 true (pureA (binA .leq v10_8 (.int .i64 64))) fun v11_9 =>
 pickA v6_5 v11_9 (.bool false) fun v12_10 =>
 guardA v12_10 true (addA v1_1 1) fun v14_11 =>
 guardA v12_10 true (loadA w0 v14_11) fun v15_12 =>
 guardA v12_10 true (pureA (lenStr v15_12)) fun v16_13 =>
 guardA v12_10 true (pureA (binA .leq v16_13 (.int .i64 64))) fun v17_14 =>
 pickA v12_10 v17_14 (.bool false) fun v18_15 =>
 guardA v18_15 true (addA v1_1 2) fun v20_16 =>
 guardA v18_15 true (loadA w0 v20_16) fun v21_17 =>
 guardA v18_15 true (fun K => K v21_17) fun v22_18 =>
 guardA v22_18 true (addA v1_1 1) fun v23_19 =>
 guardA v22_18 true (loadA w0 v23_19) fun v24_20 =>
 guardA v22_18 true (pureA (binA .neq v24_20 (.string .empty))) fun v25_21 =>
 guardA v18_15 true (pickA v22_18 v25_21 (.bool false)) fun v26_22 =>
 guardA v18_15 true (pureA (unA .not v26_22)) fun v27_23 =>
 pickA v18_15 v27_23 (.bool false) fun v28_24 =>
 retA [v28_24] R
theorem c_run_may {w0 : World} {h : Hp} {R : Kont} {a0 : Value} (hj : ∀ v, v ∈ [a0] → v ≠ junk) (hv : s_run_may prog w0 a0 R h) : ACalls prog w0 n_run_may [a0] h R := by
  have e : vcFn ⟨prog, w0, 29, ks_run_may⟩ (drw w0 29) fn_run_may [a0] R h = s_run_may prog w0 a0 R h := by
    kernel_rfl
  exact acalls_of_eq (fn := fn_run_may) (ks := ks_run_may) (n := 29) (by kernel_rfl) (by kernel_rfl) (draw_ok (by kernel_rfl)) (by simp) hj e hv

abbrev fn_run_blocks : Func := f133
def ks_run_blocks : List (Nat × List Nat × List Nat) := [(6, [1, 6, 7, 8, 9, 10, 15, 16, 17], [6, 8, 10])]
def run_blocks_B1 (P : Program) (w0 : World) (R : Value → Value → Value → Value → Value → Value → Value → Value → Value → Hp → Prop) (k0 : Value → Value → Value → Hp → Prop) (x1 x6 x7 x8 x9 x10 x15 x16 x17 : Value) : Hp → Prop :=
 pureA (binA .lss x17 x16) fun v18_7 =>
 condA v18_7 (
 idxSlA 3 x15 x17 fun v19_8 =>
 loadNA w0 v19_8 3 fun v20_9 =>
 newA [(.string .empty), (.string .empty), (.bool false)] 3 fun v12_10 =>
 storeNA w0 v12_10 v20_9 3 fun _ =>
 loadA w0 x9 fun v21_11 =>
 loadNA w0 v12_10 3 fun v22_12 =>
 callA P w0 n_run_entry [v21_11, v22_12] fun v23_13 =>
 loadA w0 x7 fun v24_14 =>
 pureA (lenSl v24_14) fun v25_15 =>
 pureA (binA .gtr v25_15 (.int .i64 0)) fun v26_16 =>
 guardA v26_16 true (loadA w0 x7) fun v28_17 =>
 guardA v26_16 true (pureA (lenSl v28_17)) fun v29_18 =>
 guardA v26_16 true (fun K => K v23_13) fun v30_19 =>
 guardA v26_16 true (pureA (lenSl v30_19)) fun v31_20 =>
 guardA v26_16 true (pureA (binA .add v29_18 v31_20)) fun v32_21 =>
 guardA v26_16 true (fun K => K x1) fun v33_22 =>
 guardA v26_16 true (pureA (binA .gtr v32_21 v33_22)) fun v34_23 =>
 pickA v26_16 v34_23 (.bool false) fun v35_24 =>
 condA v35_24 (
 callVA P w0 x10 [] fun v37_25 =>
 loadNA w0 v12_10 3 fun v38_26 =>
 callA P w0 n_run_entry [(.string .empty), v38_26] fun v39_27 =>
 loadA w0 x7 fun v40_28 =>
 pureA (lenSl v40_28) fun v41_29 =>
 pureA (binA .eql v41_29 (.int .i64 0)) fun v42_30 =>
 condA v42_30 (
 loadA w0 x8 fun v43_31 =>
 addA v12_10 0 fun v44_32 =>
 loadA w0 v44_32 fun v45_33 =>
 loadA w0 x6 fun v46_34 =>
 pureA (lenSl v46_34) fun v47_35 =>
 buildA [(0, 1, false, v45_33), (1, 1, false, v47_35)] [(.string .empty), (.int .i64 0), (.int .i64 0)] fun v48_36 =>
 bslA [(0, 3, true, v48_36)] (zerosL [(.string .empty), (.int .i64 0), (.int .i64 0)] 1) 1 3 fun v49_37 =>
 appA w0 3 32 v43_31 v49_37 fun v50_38 =>
 storeA w0 x8 v50_38 fun _ =>
 loadA w0 x7 fun v51_39 =>
 appA w0 1 1 v51_39 v39_27 fun v53_40 =>
 storeA w0 x7 v53_40 fun _ =>
 addA v12_10 0 fun v54_41 =>
 loadA w0 v54_41 fun v55_42 =>
 storeA w0 x9 v55_42 fun _ =>
 pureA (binA .add x17 (.int .i64 1)) fun v56_43 =>
 R x1 x6 x7 x8 x9 x10 x15 x16 v56_43) (
 loadA w0 x7 fun v51_44 =>
 appA w0 1 1 v51_44 v39_27 fun v53_45 =>
 storeA w0 x7 v53_45 fun _ =>
 addA v12_10 0 fun v54_46 =>
 loadA w0 v54_46 fun v55_47 =>
 storeA w0 x9 v55_47 fun _ =>
 pureA (binA .add x17 (.int .i64 1)) fun v56_48 =>
 R x1 x6 x7 x8 x9 x10 x15 x16 v56_48)) (
 loadA w0 x7 fun v40_49 =>
 pureA (lenSl v40_49) fun v41_50 =>
 pureA (binA .eql v41_50 (.int .i64 0)) fun v42_51 =>
 condA v42_51 (
 loadA w0 x8 fun v43_52 =>
 addA v12_10 0 fun v44_53 =>
 loadA w0 v44_53 fun v45_54 =>
 loadA w0 x6 fun v46_55 =>
 pureA (lenSl v46_55) fun v47_56 =>
 buildA [(0, 1, false, v45_54), (1, 1, false, v47_56)] [(.string .empty), (.int .i64 0), (.int .i64 0)] fun v48_57 =>
 bslA [(0, 3, true, v48_57)] (zerosL [(.string .empty), (.int .i64 0), (.int .i64 0)] 1) 1 3 fun v49_58 =>
 appA w0 3 32 v43_52 v49_58 fun v50_59 =>
 storeA w0 x8 v50_59 fun _ =>
 loadA w0 x7 fun v51_60 =>
 appA w0 1 1 v51_60 v23_13 fun v53_61 =>
 storeA w0 x7 v53_61 fun _ =>
 addA v12_10 0 fun v54_62 =>
 loadA w0 v54_62 fun v55_63 =>
 storeA w0 x9 v55_63 fun _ =>
 pureA (binA .add x17 (.int .i64 1)) fun v56_64 =>
 R x1 x6 x7 x8 x9 x10 x15 x16 v56_64) (
 loadA w0 x7 fun v51_65 =>
 appA w0 1 1 v51_65 v23_13 fun v53_66 =>
 storeA w0 x7 v53_66 fun _ =>
 addA v12_10 0 fun v54_67 =>
 loadA w0 v54_67 fun v55_68 =>
 storeA w0 x9 v55_68 fun _ =>
 pureA (binA .add x17 (.int .i64 1)) fun v56_69 =>
 R x1 x6 x7 x8 x9 x10 x15 x16 v56_69))) (
 k0 x6 x8 x10)
def run_blocks_L1 (P : Program) (w0 : World) (k0 : Value → Value → Value → Hp → Prop) : Nat → Value → Value → Value → Value → Value → Value → Value → Value → Value → Hp → Prop
  | 0, _, _, _, _, _, _, _, _, _ => fun _ => False
  | m + 1, x1, x6, x7, x8, x9, x10, x15, x16, x17 => run_blocks_B1 P w0 (run_blocks_L1 P w0 k0 m) k0 x1 x6 x7 x8 x9 x10 x15 x16 x17
def run_blocks_E1 (P : Program) (w0 : World) (k0 : Value → Value → Value → Hp → Prop) (x1 x6 x7 x8 x9 x10 x15 x16 x17 : Value) : Hp → Prop := fun h => ∃ m, run_blocks_L1 P w0 k0 m x1 x6 x7 x8 x9 x10 x15 x16 x17 h
def s_run_blocks (P : Program) (w0 : World) (a0 a1 : Value) (R : Kont) : Hp → Prop :=
 newA [(.slice none 0 0)] 1 fun v6_1 =>
 newA [(.slice none 0 0)] 1 fun v7_2 =>
 newA [(.slice none 0 0)] 1 fun v8_3 =>
 newA [(.string .empty)] 1 fun v9_4 =>
 storeA w0 v9_4 (.string .empty) fun _ =>
 mkFnA n_run_blocks_S1 [] [v7_2, v8_3, v6_1, v9_4] fun v14_5 =>
 pureA (lenSl a0) fun v16_6 =>
 run_blocks_E1 P w0 (fun y6_70 y8_71 y10_72 =>
 callVA P w0 y10_72 [] fun v58_73 =>
 readQ (loadA w0 y6_70) fun v59_74 =>
 readQ (loadA w0 y8_71) fun v60_75 =>
 pureQ (fun K => K v59_74) fun v4_76 =>
 pureQ (fun K => K v60_75) fun v5_77 =>
 endA (
 retA [v4_76, v5_77] R)) a1 v6_1 v7_2 v8_3 v9_4 v14_5 a0 v16_6 (.int .i64 0)
theorem run_blocks_L1_eq (w0 : World) (k0 : Value → Value → Value → Hp → Prop) : ∀ (m : Nat) (x1 x6 x7 x8 x9 x10 x15 x16 x17 : Value) (h : Hp), loopA (stepL ⟨prog, w0, 61, ks_run_blocks⟩ (drw w0 61) (loopAt fn_run_blocks 0)) m (mkFr [(1, x1), (6, x6), (7, x7), (8, x8), (9, x9), (10, x10), (15, x15), (16, x16), (17, x17)]) [fun t => k0 (t 6) (t 8) (t 10)] h = run_blocks_L1 prog w0 k0 m x1 x6 x7 x8 x9 x10 x15 x16 x17 h := by
  intro m
  induction m with
  | zero => intros; kernel_rfl
  | succ m ih =>
    intro x1 x6 x7 x8 x9 x10 x15 x16 x17 h
    have e : run_blocks_L1 prog w0 k0 m = fun x1 x6 x7 x8 x9 x10 x15 x16 x17 h => loopA (stepL ⟨prog, w0, 61, ks_run_blocks⟩ (drw w0 61) (loopAt fn_run_blocks 0)) m (mkFr [(1, x1), (6, x6), (7, x7), (8, x8), (9, x9), (10, x10), (15, x15), (16, x16), (17, x17)]) [fun t => k0 (t 6) (t 8) (t 10)] h := by funext x1 x6 x7 x8 x9 x10 x15 x16 x17 h; exact (ih x1 x6 x7 x8 x9 x10 x15 x16 x17 h).symm
    show _ = run_blocks_B1 prog w0 (run_blocks_L1 prog w0 k0 m) k0 x1 x6 x7 x8 x9 x10 x15 x16 x17 h
    rw [e]
    kernel_rfl
theorem run_blocks_E1_eq (w0 : World) : run_blocks_E1 prog w0 = fun k0 x1 x6 x7 x8 x9 x10 x15 x16 x17 h => ∃ m, loopA (stepL ⟨prog, w0, 61, ks_run_blocks⟩ (drw w0 61) (loopAt fn_run_blocks 0)) m (mkFr [(1, x1), (6, x6), (7, x7), (8, x8), (9, x9), (10, x10), (15, x15), (16, x16), (17, x17)]) [fun t => k0 (t 6) (t 8) (t 10)] h := by
  funext k0 x1 x6 x7 x8 x9 x10 x15 x16 x17 h
  exact congrArg Exists (funext fun m => (run_blocks_L1_eq w0 k0 m x1 x6 x7 x8 x9 x10 x15 x16 x17 h).symm)
theorem c_run_blocks {w0 : World} {h : Hp} {R : Kont} {a0 a1 : Value} (hj : ∀ v, v ∈ [a0, a1] → v ≠ junk) (hv : s_run_blocks prog w0 a0 a1 R h) : ACalls prog w0 n_run_blocks [a0, a1] h R := by
  have e : vcFn ⟨prog, w0, 61, ks_run_blocks⟩ (drw w0 61) fn_run_blocks [a0, a1] R h = s_run_blocks prog w0 a0 a1 R h := by
    unfold s_run_blocks
    rw [run_blocks_E1_eq w0]
    kernel_rfl
  exact acalls_of_eq (fn := fn_run_blocks) (ks := ks_run_blocks) (n := 61) (by kernel_rfl) (by kernel_rfl) (draw_ok (by kernel_rfl)) (by simp) hj e hv

abbrev fn_run_parse : Func := f135
def ks_run_parse : List (Nat × List Nat × List Nat) := [(10, [0, 2, 3, 4, 5, 6, 7, 8, 9, 48, 49], [2, 3, 4, 5, 7, 8])]
def run_parse_B1 (P : Program) (w0 : World) (R : Value → Value → Value → Value → Value → Value → Value → Value → Value → Value → Value → Hp → Prop) (k0 : Value → Value → Value → Value → Value → Value → Hp → Prop) (kr : Value → Value → Value → Value → Value → Value → Hp → Prop) (x0 x2 x3 x4 x5 x6 x7 x8 x9 x48 x49 : Value) : Hp → Prop :=
 pureA (binA .lss x49 x48) fun v50_24 =>
 condA v50_24 (
 callA P w0 n_codec_Reader_Text [x6] fun v52_25 =>
 callA P w0 n_codec_Reader_Varint [x6] fun v54_26 =>
 callA P w0 n_codec_Reader_Varint [x6] fun v56_27 =>
 callA P w0 n_codec_Reader_Err [x6] fun v58_28 =>
 pureA (binA .neq v58_28 (.int .i64 0)) fun v59_29 =>
 guardA v59_29 false (fun K => K v54_26) fun v61_30 =>
 guardA v59_29 false (fun K => K x9) fun v62_31 =>
 guardA v59_29 false (pureA (convA .u64 v62_31)) fun v63_32 =>
 guardA v59_29 false (pureA (binA .gtr v61_30 v63_32)) fun v64_33 =>
 pickA v59_29 (.bool true) v64_33 fun v65_34 =>
 guardA v65_34 false (fun K => K v56_27) fun v67_35 =>
 guardA v65_34 false (fun K => K x9) fun v68_36 =>
 guardA v65_34 false (pureA (convA .u64 v68_36)) fun v69_37 =>
 guardA v65_34 false (fun K => K v54_26) fun v70_38 =>
 guardA v65_34 false (pureA (binA .sub v69_37 v70_38)) fun v71_39 =>
 guardA v65_34 false (pureA (binA .gtr v67_35 v71_39)) fun v72_40 =>
 pickA v65_34 (.bool true) v72_40 fun v73_41 =>
 condA v73_41 (
 kr (.slice none 0 0) (.int .i64 0) (.int .i64 0) (.bool false) x7 x8) (
 pureA (binA .add v54_26 v56_27) fun v79_42 =>
 pureA (strSlA x0 (some v54_26) (some v79_42)) fun v80_43 =>
 callA P w0 n_run_read [v80_43, x2] fun v82_44 =>
 pureA (extA v82_44 0) fun v83_45 =>
 pureA (extA v82_44 1) fun v84_46 =>
 pureA (unA .not v84_46) fun v86_47 =>
 condA v86_47 (
 kr (.slice none 0 0) (.int .i64 0) (.int .i64 0) (.bool false) x7 x8) (
 pureA (binA .add x49 (.int .i64 1)) fun v87_48 =>
 R x0 v83_45 x3 x4 v84_46 x6 x7 x8 x9 x48 v87_48))) (
 k0 x2 x3 x4 x5 x7 x8)
def run_parse_L1 (P : Program) (w0 : World) (k0 : Value → Value → Value → Value → Value → Value → Hp → Prop) (kr : Value → Value → Value → Value → Value → Value → Hp → Prop) : Nat → Value → Value → Value → Value → Value → Value → Value → Value → Value → Value → Value → Hp → Prop
  | 0, _, _, _, _, _, _, _, _, _, _, _ => fun _ => False
  | m + 1, x0, x2, x3, x4, x5, x6, x7, x8, x9, x48, x49 => run_parse_B1 P w0 (run_parse_L1 P w0 k0 kr m) k0 kr x0 x2 x3 x4 x5 x6 x7 x8 x9 x48 x49
def run_parse_E1 (P : Program) (w0 : World) (k0 : Value → Value → Value → Value → Value → Value → Hp → Prop) (kr : Value → Value → Value → Value → Value → Value → Hp → Prop) (x0 x2 x3 x4 x5 x6 x7 x8 x9 x48 x49 : Value) : Hp → Prop := fun h => ∃ m, run_parse_L1 P w0 k0 kr m x0 x2 x3 x4 x5 x6 x7 x8 x9 x48 x49 h
def s_run_parse (P : Program) (w0 : World) (a0 : Value) (R : Kont) : Hp → Prop :=
 pureA (lenStr a0) fun v13_1 =>
 pureA (binA .lss v13_1 (.int .i64 24)) fun v14_2 =>
 condA v14_2 (
 retA [(.slice none 0 0), (.int .i64 0), (.int .i64 0), (.bool false)] R) (
 pureA (lenStr a0) fun v17_3 =>
 pureA (binA .sub v17_3 (.int .i64 24)) fun v18_4 =>
 pureA (strSlA a0 (some v18_4) none) fun v19_5 =>
 callA P w0 n_codec_NewReader [v19_5] fun v20_6 =>
 callA P w0 n_codec_Reader_U32 [v20_6] fun v22_7 =>
 pureA (convA .i64 v22_7) fun v23_8 =>
 callA P w0 n_codec_Reader_U32 [v20_6] fun v25_9 =>
 pureA (convA .i64 v25_9) fun v26_10 =>
 callA P w0 n_codec_Reader_U32 [v20_6] fun v28_11 =>
 pureA (convA .i64 v28_11) fun v29_12 =>
 callA P w0 n_codec_Reader_U32 [v20_6] fun v31_13 =>
 pureA (convA .i64 v31_13) fun v32_14 =>
 pureA (lenStr a0) fun v35_15 =>
 pureA (binA .sub v35_15 (.int .i64 24)) fun v36_16 =>
 pureA (binA .gtr v32_14 v36_16) fun v37_17 =>
 condA v37_17 (
 retA [(.slice none 0 0), (.int .i64 0), (.int .i64 0), (.bool false)] R) (
 pureA (lenStr a0) fun v41_18 =>
 pureA (binA .sub v41_18 (.int .i64 24)) fun v42_19 =>
 pureA (strSlA a0 (some v32_14) (some v42_19)) fun v43_20 =>
 callA P w0 n_codec_NewReader [v43_20] fun v44_21 =>
 pureA (lenStr a0) fun v47_22 =>
 pureA (foldA min2A v29_12 [v47_22]) fun v48_23 =>
 run_parse_E1 P w0 (fun y2_49 y3_50 y4_51 y5_52 y7_53 y8_54 =>
 pureA (lenSl y2_49) fun v92_55 =>
 pureA (binA .eql v92_55 y7_53) fun v94_56 =>
 retA [y2_49, y3_50, y8_54, v94_56] R) (fun y2_57 y3_58 y4_59 y5_60 y7_61 y8_62 =>
 retA [y2_57, y3_58, y4_59, y5_60] R) a0 (.slice none 0 0) v23_8 (.int .i64 0) (.bool false) v44_21 v26_10 v29_12 v32_14 v48_23 (.int .i64 0)))
theorem run_parse_L1_eq (w0 : World) (k0 : Value → Value → Value → Value → Value → Value → Hp → Prop) (kr : Value → Value → Value → Value → Value → Value → Hp → Prop) : ∀ (m : Nat) (x0 x2 x3 x4 x5 x6 x7 x8 x9 x48 x49 : Value) (h : Hp), loopA (stepL ⟨prog, w0, 95, ks_run_parse⟩ (drw w0 95) (loopAt fn_run_parse 0)) m (mkFr [(0, x0), (2, x2), (3, x3), (4, x4), (5, x5), (6, x6), (7, x7), (8, x8), (9, x9), (48, x48), (49, x49)]) [fun t => k0 (t 2) (t 3) (t 4) (t 5) (t 7) (t 8), fun t => kr (t 2) (t 3) (t 4) (t 5) (t 7) (t 8)] h = run_parse_L1 prog w0 k0 kr m x0 x2 x3 x4 x5 x6 x7 x8 x9 x48 x49 h := by
  intro m
  induction m with
  | zero => intros; kernel_rfl
  | succ m ih =>
    intro x0 x2 x3 x4 x5 x6 x7 x8 x9 x48 x49 h
    have e : run_parse_L1 prog w0 k0 kr m = fun x0 x2 x3 x4 x5 x6 x7 x8 x9 x48 x49 h => loopA (stepL ⟨prog, w0, 95, ks_run_parse⟩ (drw w0 95) (loopAt fn_run_parse 0)) m (mkFr [(0, x0), (2, x2), (3, x3), (4, x4), (5, x5), (6, x6), (7, x7), (8, x8), (9, x9), (48, x48), (49, x49)]) [fun t => k0 (t 2) (t 3) (t 4) (t 5) (t 7) (t 8), fun t => kr (t 2) (t 3) (t 4) (t 5) (t 7) (t 8)] h := by funext x0 x2 x3 x4 x5 x6 x7 x8 x9 x48 x49 h; exact (ih x0 x2 x3 x4 x5 x6 x7 x8 x9 x48 x49 h).symm
    show _ = run_parse_B1 prog w0 (run_parse_L1 prog w0 k0 kr m) k0 kr x0 x2 x3 x4 x5 x6 x7 x8 x9 x48 x49 h
    rw [e]
    kernel_rfl
theorem run_parse_E1_eq (w0 : World) : run_parse_E1 prog w0 = fun k0 kr x0 x2 x3 x4 x5 x6 x7 x8 x9 x48 x49 h => ∃ m, loopA (stepL ⟨prog, w0, 95, ks_run_parse⟩ (drw w0 95) (loopAt fn_run_parse 0)) m (mkFr [(0, x0), (2, x2), (3, x3), (4, x4), (5, x5), (6, x6), (7, x7), (8, x8), (9, x9), (48, x48), (49, x49)]) [fun t => k0 (t 2) (t 3) (t 4) (t 5) (t 7) (t 8), fun t => kr (t 2) (t 3) (t 4) (t 5) (t 7) (t 8)] h := by
  funext k0 kr x0 x2 x3 x4 x5 x6 x7 x8 x9 x48 x49 h
  exact congrArg Exists (funext fun m => (run_parse_L1_eq w0 k0 kr m x0 x2 x3 x4 x5 x6 x7 x8 x9 x48 x49 h).symm)
theorem c_run_parse {w0 : World} {h : Hp} {R : Kont} {a0 : Value} (hj : ∀ v, v ∈ [a0] → v ≠ junk) (hv : s_run_parse prog w0 a0 R h) : ACalls prog w0 n_run_parse [a0] h R := by
  have e : vcFn ⟨prog, w0, 95, ks_run_parse⟩ (drw w0 95) fn_run_parse [a0] R h = s_run_parse prog w0 a0 R h := by
    unfold s_run_parse
    rw [run_parse_E1_eq w0]
    kernel_rfl
  exact acalls_of_eq (fn := fn_run_parse) (ks := ks_run_parse) (n := 95) (by kernel_rfl) (by kernel_rfl) (draw_ok (by kernel_rfl)) (by simp) hj e hv

abbrev fn_run_Run_Scan_S1 : Func := f139
def ks_run_Run_Scan_S1 : List (Nat × List Nat × List Nat) := [(3, [0, 3, 23, 24, 25], [])]
def run_Run_Scan_S1_B1 (P : Program) (w0 : World) (R : Value → Value → Value → Value → Value → Hp → Prop) (k0 : Hp → Prop) (kr : Hp → Prop) (x0 x3 x23 x24 x25 : Value) : Hp → Prop :=
 pureA (binA .lss x25 x24) fun v26_15 =>
 condA v26_15 (
 idxSlA 3 x23 x25 fun v27_16 =>
 loadNA w0 v27_16 3 fun v28_17 =>
 newA [(.string .empty), (.string .empty), (.bool false)] 3 fun v8_18 =>
 storeNA w0 v8_18 v28_17 3 fun _ =>
 loadA w0 x3 fun v29_19 =>
 pureA (binA .neq v29_19 (.string .empty)) fun v30_20 =>
 guardA v30_20 true (addA v8_18 0) fun v32_21 =>
 guardA v30_20 true (loadA w0 v32_21) fun v33_22 =>
 guardA v30_20 true (loadA w0 x3) fun v34_23 =>
 guardA v30_20 true (pureA (binA .geq v33_22 v34_23)) fun v35_24 =>
 pickA v30_20 v35_24 (.bool false) fun v36_25 =>
 guardA v36_25 false (fun K => K x0) fun v38_26 =>
 guardA v36_25 false (loadNA w0 v8_18 3) fun v39_27 =>
 guardA v36_25 false (callVA P w0 v38_26 [v39_27]) fun v40_28 =>
 guardA v36_25 false (pureA (unA .not v40_28)) fun v41_29 =>
 pickA v36_25 (.bool true) v41_29 fun v42_30 =>
 condA v42_30 (
 kr) (
 pureA (binA .add x25 (.int .i64 1)) fun v43_31 =>
 R x0 x3 x23 x24 v43_31)) (
 k0)
def run_Run_Scan_S1_L1 (P : Program) (w0 : World) (k0 : Hp → Prop) (kr : Hp → Prop) : Nat → Value → Value → Value → Value → Value → Hp → Prop
  | 0, _, _, _, _, _ => fun _ => False
  | m + 1, x0, x3, x23, x24, x25 => run_Run_Scan_S1_B1 P w0 (run_Run_Scan_S1_L1 P w0 k0 kr m) k0 kr x0 x3 x23 x24 x25
def run_Run_Scan_S1_E1 (P : Program) (w0 : World) (k0 : Hp → Prop) (kr : Hp → Prop) (x0 x3 x23 x24 x25 : Value) : Hp → Prop := fun h => ∃ m, run_Run_Scan_S1_L1 P w0 k0 kr m x0 x3 x23 x24 x25 h
def s_run_Run_Scan_S1 (P : Program) (w0 : World) (a0 a1 a2 a3 : Value) (R : Kont) : Hp → Prop :=
 loadA w0 a1 fun v9_1 =>
 callA P w0 n_run_Run_made [v9_1] fun v10_2 =>
 pureA (unA .not v10_2) fun v11_3 =>
 condA v11_3 (
 retA [] R) (
 loadA w0 a1 fun v13_4 =>
 loadA w0 a2 fun v14_5 =>
 callA P w0 n_run_Run_find [v13_4, v14_5] fun v15_6 =>
 pureA (extA v15_6 0) fun v16_7 =>
 pureA (extA v15_6 1) fun v17_8 =>
 loadA w0 a1 fun v18_9 =>
 nilA v18_9 fun v19_10 =>
 addA v19_10 1 fun v20_11 =>
 loadA w0 v20_11 fun v21_12 =>
 slSlA 3 v21_12 (some v16_7) none none fun v23_13 =>
 pureA (lenSl v23_13) fun v24_14 =>
 run_Run_Scan_S1_E1 P w0 (
 retA [] R) (
 retA [] R) a0 a3 v23_13 v24_14 (.int .i64 0))
theorem run_Run_Scan_S1_L1_eq (w0 : World) (k0 : Hp → Prop) (kr : Hp → Prop) : ∀ (m : Nat) (x0 x3 x23 x24 x25 : Value) (h : Hp), loopA (stepL ⟨prog, w0, 44, ks_run_Run_Scan_S1⟩ (drw w0 44) (loopAt fn_run_Run_Scan_S1 0)) m (mkFr [(0, x0), (3, x3), (23, x23), (24, x24), (25, x25)]) [fun t => k0, fun t => kr] h = run_Run_Scan_S1_L1 prog w0 k0 kr m x0 x3 x23 x24 x25 h := by
  intro m
  induction m with
  | zero => intros; kernel_rfl
  | succ m ih =>
    intro x0 x3 x23 x24 x25 h
    have e : run_Run_Scan_S1_L1 prog w0 k0 kr m = fun x0 x3 x23 x24 x25 h => loopA (stepL ⟨prog, w0, 44, ks_run_Run_Scan_S1⟩ (drw w0 44) (loopAt fn_run_Run_Scan_S1 0)) m (mkFr [(0, x0), (3, x3), (23, x23), (24, x24), (25, x25)]) [fun t => k0, fun t => kr] h := by funext x0 x3 x23 x24 x25 h; exact (ih x0 x3 x23 x24 x25 h).symm
    show _ = run_Run_Scan_S1_B1 prog w0 (run_Run_Scan_S1_L1 prog w0 k0 kr m) k0 kr x0 x3 x23 x24 x25 h
    rw [e]
    kernel_rfl
theorem run_Run_Scan_S1_E1_eq (w0 : World) : run_Run_Scan_S1_E1 prog w0 = fun k0 kr x0 x3 x23 x24 x25 h => ∃ m, loopA (stepL ⟨prog, w0, 44, ks_run_Run_Scan_S1⟩ (drw w0 44) (loopAt fn_run_Run_Scan_S1 0)) m (mkFr [(0, x0), (3, x3), (23, x23), (24, x24), (25, x25)]) [fun t => k0, fun t => kr] h := by
  funext k0 kr x0 x3 x23 x24 x25 h
  exact congrArg Exists (funext fun m => (run_Run_Scan_S1_L1_eq w0 k0 kr m x0 x3 x23 x24 x25 h).symm)
theorem c_run_Run_Scan_S1 {w0 : World} {h : Hp} {R : Kont} {a0 a1 a2 a3 : Value} (hj : ∀ v, v ∈ [a0, a1, a2, a3] → v ≠ junk) (hv : s_run_Run_Scan_S1 prog w0 a0 a1 a2 a3 R h) : ACalls prog w0 n_run_Run_Scan_S1 [a0, a1, a2, a3] h R := by
  have e : vcFn ⟨prog, w0, 44, ks_run_Run_Scan_S1⟩ (drw w0 44) fn_run_Run_Scan_S1 [a0, a1, a2, a3] R h = s_run_Run_Scan_S1 prog w0 a0 a1 a2 a3 R h := by
    unfold s_run_Run_Scan_S1
    rw [run_Run_Scan_S1_E1_eq w0]
    kernel_rfl
  exact acalls_of_eq (fn := fn_run_Run_Scan_S1) (ks := ks_run_Run_Scan_S1) (n := 44) (by kernel_rfl) (by kernel_rfl) (draw_ok (by kernel_rfl)) (by simp) hj e hv

abbrev fn_run_Run_find : Func := f140
def ks_run_Run_find : List (Nat × List Nat × List Nat) := []
def s_run_Run_find (P : Program) (w0 : World) (a0 a1 : Value) (R : Kont) : Hp → Prop :=
 nilA a0 fun v7_1 =>
 addA v7_1 1 fun v8_2 =>
 loadA w0 v8_2 fun v9_3 =>
 callA P w0 n_slices_BinarySearchFunc_lapi_Entry_api_Entry_string [v9_3, a1, (.func (.func n_run_Run_find_S1) #[] #[])] fun v11_4 =>
 pureA (extA v11_4 0) fun v12_5 =>
 pureA (extA v11_4 1) fun v13_6 =>
 retA [v12_5, v13_6] R
theorem c_run_Run_find {w0 : World} {h : Hp} {R : Kont} {a0 a1 : Value} (hj : ∀ v, v ∈ [a0, a1] → v ≠ junk) (hv : s_run_Run_find prog w0 a0 a1 R h) : ACalls prog w0 n_run_Run_find [a0, a1] h R := by
  have e : vcFn ⟨prog, w0, 14, ks_run_Run_find⟩ (drw w0 14) fn_run_Run_find [a0, a1] R h = s_run_Run_find prog w0 a0 a1 R h := by
    kernel_rfl
  exact acalls_of_eq (fn := fn_run_Run_find) (ks := ks_run_Run_find) (n := 14) (by kernel_rfl) (by kernel_rfl) (draw_ok (by kernel_rfl)) (by simp) hj e hv

abbrev fn_run_blocks_S1 : Func := f157
def ks_run_blocks_S1 : List (Nat × List Nat × List Nat) := []
def s_run_blocks_S1 (P : Program) (w0 : World) (a0 a1 a2 a3 : Value) (R : Kont) : Hp → Prop :=
 loadA w0 a0 fun v7_1 =>
 pureA (lenSl v7_1) fun v8_2 =>
 pureA (binA .gtr v8_2 (.int .i64 0)) fun v9_3 =>
 condA v9_3 (
 loadA w0 a1 fun v10_4 =>
 loadA w0 a1 fun v11_5 =>
 pureA (lenSl v11_5) fun v12_6 =>
 pureA (binA .sub v12_6 (.int .i64 1)) fun v13_7 =>
 loadA w0 a0 fun v14_8 =>
 pureA (lenSl v14_8) fun v15_9 =>
 idxSlA 3 v10_4 v13_7 fun v16_10 =>
 addA v16_10 2 fun v17_11 =>
 storeA w0 v17_11 v15_9 fun _ =>
 callA P w0 n_codec_NewWriter [(.int .i64 4)] fun v18_12 =>
 loadA w0 a0 fun v20_13 =>
 b2sA w0 v20_13 fun v21_14 =>
 callA P w0 n_codec_Crc [v21_14] fun v22_15 =>
 callA P w0 n_codec_Writer_U32 [v18_12, v22_15] fun v23_16 =>
 callA P w0 n_codec_Writer_Done [v18_12] fun v26_17 =>
 pureA (extA v26_17 0) fun v27_18 =>
 pureA (extA v26_17 1) fun v28_19 =>
 loadA w0 a2 fun v29_20 =>
 loadA w0 a0 fun v30_21 =>
 appA w0 1 1 v29_20 v30_21 fun v31_22 =>
 appA w0 1 1 v31_22 v27_18 fun v33_23 =>
 storeA w0 a2 v33_23 fun _ =>
 storeA w0 a0 (.slice none 0 0) fun _ =>
 storeA w0 a3 (.string .empty) fun _ =>
 retA [] R) (
 storeA w0 a0 (.slice none 0 0) fun _ =>
 storeA w0 a3 (.string .empty) fun _ =>
 retA [] R)
theorem c_run_blocks_S1 {w0 : World} {h : Hp} {R : Kont} {a0 a1 a2 a3 : Value} (hj : ∀ v, v ∈ [a0, a1, a2, a3] → v ≠ junk) (hv : s_run_blocks_S1 prog w0 a0 a1 a2 a3 R h) : ACalls prog w0 n_run_blocks_S1 [a0, a1, a2, a3] h R := by
  have e : vcFn ⟨prog, w0, 34, ks_run_blocks_S1⟩ (drw w0 34) fn_run_blocks_S1 [a0, a1, a2, a3] R h = s_run_blocks_S1 prog w0 a0 a1 a2 a3 R h := by
    kernel_rfl
  exact acalls_of_eq (fn := fn_run_blocks_S1) (ks := ks_run_blocks_S1) (n := 34) (by kernel_rfl) (by kernel_rfl) (draw_ok (by kernel_rfl)) (by simp) hj e hv

abbrev fn_run_entry : Func := f158
def ks_run_entry : List (Nat × List Nat × List Nat) := []
def s_run_entry (P : Program) (w0 : World) (a0 a1 : Value) (R : Kont) : Hp → Prop :=
 boxA true 3 a1 fun v3_1 =>
 addA v3_1 0 fun v9_2 =>
 loadA w0 v9_2 fun v10_3 =>
 callA P w0 n_run_shared [a0, v10_3] fun v11_4 =>
 addA v3_1 2 fun v12_5 =>
 loadA w0 v12_5 fun v13_6 =>
 condA v13_6 (
 pureA (convA .u8 v11_4) fun v15_7 =>
 addA v3_1 0 fun v16_8 =>
 loadA w0 v16_8 fun v17_9 =>
 pureA (lenStr v17_9) fun v18_10 =>
 pureA (binA .sub v18_10 v11_4) fun v20_11 =>
 pureA (convA .u8 v20_11) fun v21_12 =>
 addA v3_1 1 fun v23_13 =>
 loadA w0 v23_13 fun v24_14 =>
 pureA (lenStr v24_14) fun v25_15 =>
 pureA (convA .u8 v25_15) fun v26_16 =>
 bslA [(0, 1, false, v15_7), (1, 1, false, v21_12), (2, 1, false, (.int .u8 1)), (3, 1, false, v26_16)] (zerosL [(.int .u8 0)] 4) 4 1 fun v27_17 =>
 pureQ (fun K => K v27_17) fun v28_18 =>
 pureQ (addA v3_1 0) fun v29_19 =>
 readQ (loadA w0 v29_19) fun v30_20 =>
 pureQ (fun K => K v11_4) fun v31_21 =>
 pureQ (pureA (strSlA v30_20 (some v31_21) none)) fun v32_22 =>
 pureQ (addA v3_1 1) fun v34_23 =>
 readQ (loadA w0 v34_23) fun v35_24 =>
 allA [
 (appA w0 1 1 v28_18 v32_22 fun v33_25 =>
 stillA [(sameQ (loadA w0 v34_23) v35_24)] (
 allA [
 (appA w0 1 1 v33_25 v35_24 fun v36_26 =>
 stillA [] (
 pureQ (fun K => K v36_26) fun v4_27 =>
 endA (
 retA [v4_27] R)))]))]) (
 pureA (convA .u8 v11_4) fun v15_28 =>
 addA v3_1 0 fun v16_29 =>
 loadA w0 v16_29 fun v17_30 =>
 pureA (lenStr v17_30) fun v18_31 =>
 pureA (binA .sub v18_31 v11_4) fun v20_32 =>
 pureA (convA .u8 v20_32) fun v21_33 =>
 addA v3_1 1 fun v23_34 =>
 loadA w0 v23_34 fun v24_35 =>
 pureA (lenStr v24_35) fun v25_36 =>
 pureA (convA .u8 v25_36) fun v26_37 =>
 bslA [(0, 1, false, v15_28), (1, 1, false, v21_33), (2, 1, false, (.int .u8 0)), (3, 1, false, v26_37)] (zerosL [(.int .u8 0)] 4) 4 1 fun v27_38 =>
 pureQ (fun K => K v27_38) fun v28_39 =>
 pureQ (addA v3_1 0) fun v29_40 =>
 readQ (loadA w0 v29_40) fun v30_41 =>
 pureQ (fun K => K v11_4) fun v31_42 =>
 pureQ (pureA (strSlA v30_41 (some v31_42) none)) fun v32_43 =>
 pureQ (addA v3_1 1) fun v34_44 =>
 readQ (loadA w0 v34_44) fun v35_45 =>
 allA [
 (appA w0 1 1 v28_39 v32_43 fun v33_46 =>
 stillA [(sameQ (loadA w0 v34_44) v35_45)] (
 allA [
 (appA w0 1 1 v33_46 v35_45 fun v36_47 =>
 stillA [] (
 pureQ (fun K => K v36_47) fun v4_48 =>
 endA (
 retA [v4_48] R)))]))])
theorem c_run_entry {w0 : World} {h : Hp} {R : Kont} {a0 a1 : Value} (hj : ∀ v, v ∈ [a0, a1] → v ≠ junk) (hv : s_run_entry prog w0 a0 a1 R h) : ACalls prog w0 n_run_entry [a0, a1] h R := by
  have e : vcFn ⟨prog, w0, 37, ks_run_entry⟩ (drw w0 37) fn_run_entry [a0, a1] R h = s_run_entry prog w0 a0 a1 R h := by
    kernel_rfl
  exact acalls_of_eq (fn := fn_run_entry) (ks := ks_run_entry) (n := 37) (by kernel_rfl) (by kernel_rfl) (draw_ok (by kernel_rfl)) (by simp) hj e hv

abbrev fn_run_read : Func := f160
def ks_run_read : List (Nat × List Nat × List Nat) := [(3, [1, 4, 5, 6, 7], [1, 4, 5])]
def run_read_B1 (P : Program) (w0 : World) (R : Value → Value → Value → Value → Value → Hp → Prop) (k0 : Value → Value → Value → Hp → Prop) (kr : Value → Value → Value → Hp → Prop) (x1 x4 x5 x6 x7 : Value) : Hp → Prop :=
 callA P w0 n_codec_Reader_Left [x7] fun v16_2 =>
 pureA (binA .gtr v16_2 (.int .i64 0)) fun v17_3 =>
 condA v17_3 (
 callA P w0 n_codec_Reader_U8 [x7] fun v19_4 =>
 pureA (convA .i64 v19_4) fun v20_5 =>
 callA P w0 n_codec_Reader_U8 [x7] fun v22_6 =>
 pureA (convA .i64 v22_6) fun v23_7 =>
 callA P w0 n_codec_Reader_U8 [x7] fun v25_8 =>
 callA P w0 n_codec_Reader_U8 [x7] fun v27_9 =>
 pureA (convA .i64 v27_9) fun v28_10 =>
 pureA (lenStr x6) fun v31_11 =>
 pureA (binA .gtr v20_5 v31_11) fun v32_12 =>
 guardA v32_12 false (fun K => K v25_8) fun v34_13 =>
 guardA v32_12 false (pureA (binA .gtr v34_13 (.int .u8 1))) fun v35_14 =>
 pickA v32_12 (.bool true) v35_14 fun v36_15 =>
 condA v36_15 (
 kr x1 (.slice none 0 0) (.bool false)) (
 pureQ (fun K => K x6) fun v37_16 =>
 pureQ (fun K => K v20_5) fun v38_17 =>
 pureQ (pureA (strSlA v37_16 none (some v38_17))) fun v39_18 =>
 pureQ (fun K => K x7) fun v40_19 =>
 pureQ (fun K => K v23_7) fun v41_20 =>
 pureQ (fun K => K v25_8) fun v44_21 =>
 pureQ (pureA (binA .eql v44_21 (.int .u8 1))) fun v45_22 =>
 pureQ (fun K => K x7) fun v46_23 =>
 pureQ (fun K => K v28_10) fun v47_24 =>
 allA [
 (callA P w0 n_codec_Reader_Raw [v40_19, v41_20] fun v42_25 =>
 stillA [] (
 pureQ (pureA (binA .add v39_18 v42_25)) fun v43_26 =>
 allA [
 (callA P w0 n_codec_Reader_Raw [v46_23, v47_24] fun v48_27 =>
 stillA [] (
 allA [
 (buildA [(0, 1, false, v43_26), (2, 1, false, v45_22), (1, 1, false, v48_27)] [(.string .empty), (.string .empty), (.bool false)] fun v49_28 =>
 stillA [] (
 allA [
 (newA [(.string .empty), (.string .empty), (.bool false)] 3 fun v12_29 =>
 stillA [] (
 allA [
 (storeNA w0 v12_29 v49_28 3 fun _ =>
 stillA [] (
 endA (
 callA P w0 n_codec_Reader_Err [x7] fun v51_30 =>
 pureA (binA .neq v51_30 (.int .i64 0)) fun v52_31 =>
 condA v52_31 (
 kr x1 (.slice none 0 0) (.bool false)) (
 addA v12_29 0 fun v53_32 =>
 loadA w0 v53_32 fun v54_33 =>
 loadNA w0 v12_29 3 fun v56_34 =>
 bslA [(0, 3, true, v56_34)] (zerosL [(.string .empty), (.string .empty), (.bool false)] 1) 1 3 fun v57_35 =>
 appA w0 3 40 x1 v57_35 fun v58_36 =>
 R v58_36 x4 x5 v54_33 x7))))]))])),
 (newA [(.string .empty), (.string .empty), (.bool false)] 3 fun v12_37 =>
 stillA [] (
 allA [
 (buildA [(0, 1, false, v43_26), (2, 1, false, v45_22), (1, 1, false, v48_27)] [(.string .empty), (.string .empty), (.bool false)] fun v49_38 =>
 stillA [] (
 allA [
 (storeNA w0 v12_37 v49_38 3 fun _ =>
 stillA [] (
 endA (
 callA P w0 n_codec_Reader_Err [x7] fun v51_39 =>
 pureA (binA .neq v51_39 (.int .i64 0)) fun v52_40 =>
 condA v52_40 (
 kr x1 (.slice none 0 0) (.bool false)) (
 addA v12_37 0 fun v53_41 =>
 loadA w0 v53_41 fun v54_42 =>
 loadNA w0 v12_37 3 fun v56_43 =>
 bslA [(0, 3, true, v56_43)] (zerosL [(.string .empty), (.string .empty), (.bool false)] 1) 1 3 fun v57_44 =>
 appA w0 3 40 x1 v57_44 fun v58_45 =>
 R v58_45 x4 x5 v54_42 x7))))]))]))])),
 (newA [(.string .empty), (.string .empty), (.bool false)] 3 fun v12_46 =>
 stillA [] (
 allA [
 (callA P w0 n_codec_Reader_Raw [v46_23, v47_24] fun v48_47 =>
 stillA [] (
 allA [
 (buildA [(0, 1, false, v43_26), (2, 1, false, v45_22), (1, 1, false, v48_47)] [(.string .empty), (.string .empty), (.bool false)] fun v49_48 =>
 stillA [] (
 allA [
 (storeNA w0 v12_46 v49_48 3 fun _ =>
 stillA [] (
 endA (
 callA P w0 n_codec_Reader_Err [x7] fun v51_49 =>
 pureA (binA .neq v51_49 (.int .i64 0)) fun v52_50 =>
 condA v52_50 (
 kr x1 (.slice none 0 0) (.bool false)) (
 addA v12_46 0 fun v53_51 =>
 loadA w0 v53_51 fun v54_52 =>
 loadNA w0 v12_46 3 fun v56_53 =>
 bslA [(0, 3, true, v56_53)] (zerosL [(.string .empty), (.string .empty), (.bool false)] 1) 1 3 fun v57_54 =>
 appA w0 3 40 x1 v57_54 fun v58_55 =>
 R v58_55 x4 x5 v54_52 x7))))]))]))]))])),
 (newA [(.string .empty), (.string .empty), (.bool false)] 3 fun v12_56 =>
 stillA [] (
 allA [
 (callA P w0 n_codec_Reader_Raw [v40_19, v41_20] fun v42_57 =>
 stillA [] (
 pureQ (pureA (binA .add v39_18 v42_57)) fun v43_58 =>
 allA [
 (callA P w0 n_codec_Reader_Raw [v46_23, v47_24] fun v48_59 =>
 stillA [] (
 allA [
 (buildA [(0, 1, false, v43_58), (2, 1, false, v45_22), (1, 1, false, v48_59)] [(.string .empty), (.string .empty), (.bool false)] fun v49_60 =>
 stillA [] (
 allA [
 (storeNA w0 v12_56 v49_60 3 fun _ =>
 stillA [] (
 endA (
 callA P w0 n_codec_Reader_Err [x7] fun v51_61 =>
 pureA (binA .neq v51_61 (.int .i64 0)) fun v52_62 =>
 condA v52_62 (
 kr x1 (.slice none 0 0) (.bool false)) (
 addA v12_56 0 fun v53_63 =>
 loadA w0 v53_63 fun v54_64 =>
 loadNA w0 v12_56 3 fun v56_65 =>
 bslA [(0, 3, true, v56_65)] (zerosL [(.string .empty), (.string .empty), (.bool false)] 1) 1 3 fun v57_66 =>
 appA w0 3 40 x1 v57_66 fun v58_67 =>
 R v58_67 x4 x5 v54_64 x7))))]))]))]))]))])) (
 k0 x1 x4 x5)
def run_read_L1 (P : Program) (w0 : World) (k0 : Value → Value → Value → Hp → Prop) (kr : Value → Value → Value → Hp → Prop) : Nat → Value → Value → Value → Value → Value → Hp → Prop
  | 0, _, _, _, _, _ => fun _ => False
  | m + 1, x1, x4, x5, x6, x7 => run_read_B1 P w0 (run_read_L1 P w0 k0 kr m) k0 kr x1 x4 x5 x6 x7
def run_read_E1 (P : Program) (w0 : World) (k0 : Value → Value → Value → Hp → Prop) (kr : Value → Value → Value → Hp → Prop) (x1 x4 x5 x6 x7 : Value) : Hp → Prop := fun h => ∃ m, run_read_L1 P w0 k0 kr m x1 x4 x5 x6 x7 h
def s_run_read (P : Program) (w0 : World) (a0 a1 : Value) (R : Kont) : Hp → Prop :=
 callA P w0 n_codec_NewReader [a0] fun v14_1 =>
 run_read_E1 P w0 (fun y1_68 y4_69 y5_70 =>
 retA [y1_68, (.bool true)] R) (fun y1_71 y4_72 y5_73 =>
 retA [y4_72, y5_73] R) a1 (.slice none 0 0) (.bool false) (.string .empty) v14_1
theorem run_read_L1_eq (w0 : World) (k0 : Value → Value → Value → Hp → Prop) (kr : Value → Value → Value → Hp → Prop) : ∀ (m : Nat) (x1 x4 x5 x6 x7 : Value) (h : Hp), loopA (stepL ⟨prog, w0, 60, ks_run_read⟩ (drw w0 60) (loopAt fn_run_read 0)) m (mkFr [(1, x1), (4, x4), (5, x5), (6, x6), (7, x7)]) [fun t => k0 (t 1) (t 4) (t 5), fun t => kr (t 1) (t 4) (t 5)] h = run_read_L1 prog w0 k0 kr m x1 x4 x5 x6 x7 h := by
  intro m
  induction m with
  | zero => intros; kernel_rfl
  | succ m ih =>
    intro x1 x4 x5 x6 x7 h
    have e : run_read_L1 prog w0 k0 kr m = fun x1 x4 x5 x6 x7 h => loopA (stepL ⟨prog, w0, 60, ks_run_read⟩ (drw w0 60) (loopAt fn_run_read 0)) m (mkFr [(1, x1), (4, x4), (5, x5), (6, x6), (7, x7)]) [fun t => k0 (t 1) (t 4) (t 5), fun t => kr (t 1) (t 4) (t 5)] h := by funext x1 x4 x5 x6 x7 h; exact (ih x1 x4 x5 x6 x7 h).symm
    show _ = run_read_B1 prog w0 (run_read_L1 prog w0 k0 kr m) k0 kr x1 x4 x5 x6 x7 h
    rw [e]
    kernel_rfl
theorem run_read_E1_eq (w0 : World) : run_read_E1 prog w0 = fun k0 kr x1 x4 x5 x6 x7 h => ∃ m, loopA (stepL ⟨prog, w0, 60, ks_run_read⟩ (drw w0 60) (loopAt fn_run_read 0)) m (mkFr [(1, x1), (4, x4), (5, x5), (6, x6), (7, x7)]) [fun t => k0 (t 1) (t 4) (t 5), fun t => kr (t 1) (t 4) (t 5)] h := by
  funext k0 kr x1 x4 x5 x6 x7 h
  exact congrArg Exists (funext fun m => (run_read_L1_eq w0 k0 kr m x1 x4 x5 x6 x7 h).symm)
theorem c_run_read {w0 : World} {h : Hp} {R : Kont} {a0 a1 : Value} (hj : ∀ v, v ∈ [a0, a1] → v ≠ junk) (hv : s_run_read prog w0 a0 a1 R h) : ACalls prog w0 n_run_read [a0, a1] h R := by
  have e : vcFn ⟨prog, w0, 60, ks_run_read⟩ (drw w0 60) fn_run_read [a0, a1] R h = s_run_read prog w0 a0 a1 R h := by
    unfold s_run_read
    rw [run_read_E1_eq w0]
    kernel_rfl
  exact acalls_of_eq (fn := fn_run_read) (ks := ks_run_read) (n := 60) (by kernel_rfl) (by kernel_rfl) (draw_ok (by kernel_rfl)) (by simp) hj e hv

abbrev fn_run_Run_find_S1 : Func := f163
def ks_run_Run_find_S1 : List (Nat × List Nat × List Nat) := []
def s_run_Run_find_S1 (P : Program) (w0 : World) (a0 a1 : Value) (R : Kont) : Hp → Prop :=
 boxA true 3 a0 fun v2_1 =>
 addA v2_1 0 fun v5_2 =>
 loadA w0 v5_2 fun v6_3 =>
 callA P w0 n_strings_Compare [v6_3, a1] fun v8_4 =>
 retA [v8_4] R
theorem c_run_Run_find_S1 {w0 : World} {h : Hp} {R : Kont} {a0 a1 : Value} (hj : ∀ v, v ∈ [a0, a1] → v ≠ junk) (hv : s_run_Run_find_S1 prog w0 a0 a1 R h) : ACalls prog w0 n_run_Run_find_S1 [a0, a1] h R := by
  have e : vcFn ⟨prog, w0, 9, ks_run_Run_find_S1⟩ (drw w0 9) fn_run_Run_find_S1 [a0, a1] R h = s_run_Run_find_S1 prog w0 a0 a1 R h := by
    kernel_rfl
  exact acalls_of_eq (fn := fn_run_Run_find_S1) (ks := ks_run_Run_find_S1) (n := 9) (by kernel_rfl) (by kernel_rfl) (draw_ok (by kernel_rfl)) (by simp) hj e hv

abbrev fn_run_shared : Func := f170
def ks_run_shared : List (Nat × List Nat × List Nat) := [(2, [0, 1, 5], [5])]
def run_shared_B1 (P : Program) (w0 : World) (R : Value → Value → Value → Hp → Prop) (k0 : Value → Hp → Prop) (x0 x1 x5 : Value) : Hp → Prop :=
 pureQ (fun K => K x5) fun v6_1 =>
 pureQ (fun K => K x0) fun v7_2 =>
 pureQ (pureA (lenStr v7_2)) fun v8_3 =>
 pureQ (pureA (binA .lss v6_1 v8_3)) fun v9_4 =>
 pureQ (fun K => K v9_4) fun v10_5 =>
 pureQ (guardA v10_5 true (fun K => K x5)) fun v11_6 =>
 pureQ (guardA v10_5 true (fun K => K x1)) fun v12_7 =>
 pureQ (guardA v10_5 true (pureA (lenStr v12_7))) fun v13_8 =>
 pureQ (guardA v10_5 true (pureA (binA .lss v11_6 v13_8))) fun v14_9 =>
 pureQ (pickA v10_5 v14_9 (.bool false)) fun v15_10 =>
 pureQ (fun K => K v15_10) fun v16_11 =>
 pureQ (guardA v16_11 true (fun K => K x0)) fun v17_12 =>
 pureQ (guardA v16_11 true (fun K => K x5)) fun v18_13 =>
 pureQ (guardA v16_11 true (pureA (strIdxA v17_12 v18_13))) fun v19_14 =>
 pureQ (guardA v16_11 true (fun K => K x1)) fun v20_15 =>
 pureQ (guardA v16_11 true (fun K => K x5)) fun v21_16 =>
 pureQ (guardA v16_11 true (pureA (strIdxA v20_15 v21_16))) fun v22_17 =>
 pureQ (guardA v16_11 true (pureA (binA .eql v19_14 v22_17))) fun v23_18 =>
 pureQ (pickA v16_11 v23_18 (.bool false)) fun v24_19 =>
 endA (
 condA v24_19 (
 pureA (binA .add x5 (.int .i64 1)) fun v26_20 =>
 R x0 x1 v26_20) (
 k0 x5))
def run_shared_L1 (P : Program) (w0 : World) (k0 : Value → Hp → Prop) : Nat → Value → Value → Value → Hp → Prop
  | 0, _, _, _ => fun _ => False
  | m + 1, x0, x1, x5 => run_shared_B1 P w0 (run_shared_L1 P w0 k0 m) k0 x0 x1 x5
def run_shared_E1 (P : Program) (w0 : World) (k0 : Value → Hp → Prop) (x0 x1 x5 : Value) : Hp → Prop := fun h => ∃ m, run_shared_L1 P w0 k0 m x0 x1 x5 h
def s_run_shared (P : Program) (w0 : World) (a0 a1 : Value) (R : Kont) : Hp → Prop :=
 run_shared_E1 P w0 (fun y5_21 =>
 retA [y5_21] R) a0 a1 (.int .i64 0)
theorem run_shared_L1_eq (w0 : World) (k0 : Value → Hp → Prop) : ∀ (m : Nat) (x0 x1 x5 : Value) (h : Hp), loopA (stepL ⟨prog, w0, 28, ks_run_shared⟩ (drw w0 28) (loopAt fn_run_shared 0)) m (mkFr [(0, x0), (1, x1), (5, x5)]) [fun t => k0 (t 5)] h = run_shared_L1 prog w0 k0 m x0 x1 x5 h := by
  intro m
  induction m with
  | zero => intros; kernel_rfl
  | succ m ih =>
    intro x0 x1 x5 h
    have e : run_shared_L1 prog w0 k0 m = fun x0 x1 x5 h => loopA (stepL ⟨prog, w0, 28, ks_run_shared⟩ (drw w0 28) (loopAt fn_run_shared 0)) m (mkFr [(0, x0), (1, x1), (5, x5)]) [fun t => k0 (t 5)] h := by funext x0 x1 x5 h; exact (ih x0 x1 x5 h).symm
    show _ = run_shared_B1 prog w0 (run_shared_L1 prog w0 k0 m) k0 x0 x1 x5 h
    rw [e]
    kernel_rfl
theorem run_shared_E1_eq (w0 : World) : run_shared_E1 prog w0 = fun k0 x0 x1 x5 h => ∃ m, loopA (stepL ⟨prog, w0, 28, ks_run_shared⟩ (drw w0 28) (loopAt fn_run_shared 0)) m (mkFr [(0, x0), (1, x1), (5, x5)]) [fun t => k0 (t 5)] h := by
  funext k0 x0 x1 x5 h
  exact congrArg Exists (funext fun m => (run_shared_L1_eq w0 k0 m x0 x1 x5 h).symm)
theorem c_run_shared {w0 : World} {h : Hp} {R : Kont} {a0 a1 : Value} (hj : ∀ v, v ∈ [a0, a1] → v ≠ junk) (hv : s_run_shared prog w0 a0 a1 R h) : ACalls prog w0 n_run_shared [a0, a1] h R := by
  have e : vcFn ⟨prog, w0, 28, ks_run_shared⟩ (drw w0 28) fn_run_shared [a0, a1] R h = s_run_shared prog w0 a0 a1 R h := by
    unfold s_run_shared
    rw [run_shared_E1_eq w0]
    kernel_rfl
  exact acalls_of_eq (fn := fn_run_shared) (ks := ks_run_shared) (n := 28) (by kernel_rfl) (by kernel_rfl) (draw_ok (by kernel_rfl)) (by simp) hj e hv

end
end Go.Proofs.YtfmoemconapmhaaGreat.Ah
