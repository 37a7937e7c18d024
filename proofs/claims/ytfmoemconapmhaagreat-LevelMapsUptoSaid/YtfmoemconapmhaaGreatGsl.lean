/- PRINTED by wip/tools/shallow.py: functions of the program as readable words, and that each is what its text says. -/
import Derived.Test.YtfmoemconapmhaaGreatGn
set_option linter.unusedVariables false
set_option linter.unusedSimpArgs false
namespace Go.Proofs.YtfmoemconapmhaaGreat.Ah
open Go Go.Proofs.Tryz
noncomputable section

abbrev fn_slices_Insert_lprun_Run_prun_Run : Func := f43
def ks_slices_Insert_lprun_Run_prun_Run : List (Nat × List Nat × List Nat) := []
def s_slices_Insert_lprun_Run_prun_Run (P : Program) (w0 : World) (a0 a1 a2 : Value) (R : Kont) : Hp → Prop :=
 slSlA 1 a0 (some a1) none none fun v12_1 =>
 pureA (lenSl a2) fun v14_2 =>
 pureA (binA .eql v14_2 (.int .i64 0)) fun v16_3 =>
 condA v16_3 (
 retA [a0] R) (
 pureA (lenSl a0) fun v19_4 =>
 pureA (binA .eql a1 v19_4) fun v22_5 =>
 condA v22_5 (
 appA w0 1 8 a0 a2 fun v25_6 =>
 retA [v25_6] R) (
 pureA (binA .add v19_4 v14_2) fun v28_7 =>
 capA w0 1 a0 fun v30_8 =>
 pureA (binA .gtr v28_7 v30_8) fun v31_9 =>
 condA v31_9 (
 slSlA 1 a0 none (some a1) none fun v34_10 =>
 pureA (binA .add v19_4 v14_2) fun v37_11 =>
 pureA (binA .sub v37_11 a1) fun v39_12 =>
 appZA w0 1 8 [(.pointer none)] v34_10 v39_12 fun v40_13 =>
 slSlA 1 v40_13 (some a1) none none fun v43_14 =>
 copyA w0 1 v43_14 a2 fun v45_15 =>
 pureQ (fun K => K v40_13) fun v46_16 =>
 pureQ (fun K => K a1) fun v47_17 =>
 pureQ (fun K => K v14_2) fun v48_18 =>
 pureQ (pureA (binA .add v47_17 v48_18)) fun v49_19 =>
 readQ (slSlA 1 v46_16 (some v49_19) none none) fun v50_20 =>
 pureQ (fun K => K a0) fun v51_21 =>
 pureQ (fun K => K a1) fun v52_22 =>
 readQ (slSlA 1 v51_21 (some v52_22) none none) fun v53_23 =>
 allA [
 (copyA w0 1 v50_20 v53_23 fun v54_24 =>
 stillA [] (
 endA (
 retA [v40_13] R)))]) (
 pureA (binA .add v19_4 v14_2) fun v59_25 =>
 slSlA 1 a0 none (some v59_25) none fun v60_26 =>
 pureA (binA .add a1 v14_2) fun v65_27 =>
 slSlA 1 v60_26 (some v65_27) none none fun v66_28 =>
 ovA P w0 n_slices_overlaps_prun_Run a2 v66_28 fun v67_29 =>
 pureA (unA .not v67_29) fun v68_30 =>
 condA v68_30 (
 pureQ (fun K => K v60_26) fun v69_31 =>
 pureQ (fun K => K a1) fun v70_32 =>
 pureQ (fun K => K v14_2) fun v71_33 =>
 pureQ (pureA (binA .add v70_32 v71_33)) fun v72_34 =>
 readQ (slSlA 1 v69_31 (some v72_34) none none) fun v73_35 =>
 pureQ (fun K => K v60_26) fun v74_36 =>
 pureQ (fun K => K a1) fun v75_37 =>
 readQ (slSlA 1 v74_36 (some v75_37) none none) fun v76_38 =>
 allA [
 (copyA w0 1 v73_35 v76_38 fun v77_39 =>
 stillA [] (
 endA (
 slSlA 1 v60_26 (some a1) none none fun v80_40 =>
 copyA w0 1 v80_40 a2 fun v82_41 =>
 retA [v60_26] R)))]) (
 slSlA 1 v60_26 (some v19_4) none none fun v86_42 =>
 copyA w0 1 v86_42 a2 fun v88_43 =>
 slSlA 1 v60_26 (some a1) none none fun v91_44 =>
 callA P w0 n_slices_rotateRight_prun_Run [v91_44, v14_2] fun v93_45 =>
 retA [v60_26] R))))
theorem c_slices_Insert_lprun_Run_prun_Run {w0 : World} {h : Hp} {R : Kont} {a0 a1 a2 : Value} (hj : ∀ v, v ∈ [a0, a1, a2] → v ≠ junk) (hv : s_slices_Insert_lprun_Run_prun_Run prog w0 a0 a1 a2 R h) : ACalls prog w0 n_slices_Insert_lprun_Run_prun_Run [a0, a1, a2] h R := by
  have e : vcFn ⟨prog, w0, 95, ks_slices_Insert_lprun_Run_prun_Run⟩ (drw w0 95) fn_slices_Insert_lprun_Run_prun_Run [a0, a1, a2] R h = s_slices_Insert_lprun_Run_prun_Run prog w0 a0 a1 a2 R h := by
    kernel_rfl
  exact acalls_of_eq (fn := fn_slices_Insert_lprun_Run_prun_Run) (ks := ks_slices_Insert_lprun_Run_prun_Run) (n := 95) (by kernel_rfl) (by kernel_rfl) (draw_ok (by kernel_rfl)) (by simp) hj e hv

abbrev fn_slices_Clone_lprun_Run_prun_Run : Func := f44
def ks_slices_Clone_lprun_Run_prun_Run : List (Nat × List Nat × List Nat) := []
def s_slices_Clone_lprun_Run_prun_Run (P : Program) (w0 : World) (a0 : Value) (R : Kont) : Hp → Prop :=
 pureA (binSlA .eql a0 (.slice none 0 0)) fun v4_1 =>
 condA v4_1 (
 retA [(.slice none 0 0)] R) (
 bslA [] (zerosL [(.pointer none)] 0) 0 1 fun v5_2 =>
 appA w0 1 8 v5_2 a0 fun v7_3 =>
 retA [v7_3] R)
theorem c_slices_Clone_lprun_Run_prun_Run {w0 : World} {h : Hp} {R : Kont} {a0 : Value} (hj : ∀ v, v ∈ [a0] → v ≠ junk) (hv : s_slices_Clone_lprun_Run_prun_Run prog w0 a0 R h) : ACalls prog w0 n_slices_Clone_lprun_Run_prun_Run [a0] h R := by
  have e : vcFn ⟨prog, w0, 8, ks_slices_Clone_lprun_Run_prun_Run⟩ (drw w0 8) fn_slices_Clone_lprun_Run_prun_Run [a0] R h = s_slices_Clone_lprun_Run_prun_Run prog w0 a0 R h := by
    kernel_rfl
  exact acalls_of_eq (fn := fn_slices_Clone_lprun_Run_prun_Run) (ks := ks_slices_Clone_lprun_Run_prun_Run) (n := 8) (by kernel_rfl) (by kernel_rfl) (draw_ok (by kernel_rfl)) (by simp) hj e hv

abbrev fn_slices_Collect_api_Entry : Func := f46
def ks_slices_Collect_api_Entry : List (Nat × List Nat × List Nat) := []
def s_slices_Collect_api_Entry (P : Program) (w0 : World) (a0 : Value) (R : Kont) : Hp → Prop :=
 callA P w0 n_slices_AppendSeq_lapi_Entry_api_Entry [(.slice none 0 0), a0] fun v4_1 =>
 retA [v4_1] R
theorem c_slices_Collect_api_Entry {w0 : World} {h : Hp} {R : Kont} {a0 : Value} (hj : ∀ v, v ∈ [a0] → v ≠ junk) (hv : s_slices_Collect_api_Entry prog w0 a0 R h) : ACalls prog w0 n_slices_Collect_api_Entry [a0] h R := by
  have e : vcFn ⟨prog, w0, 5, ks_slices_Collect_api_Entry⟩ (drw w0 5) fn_slices_Collect_api_Entry [a0] R h = s_slices_Collect_api_Entry prog w0 a0 R h := by
    kernel_rfl
  exact acalls_of_eq (fn := fn_slices_Collect_api_Entry) (ks := ks_slices_Collect_api_Entry) (n := 5) (by kernel_rfl) (by kernel_rfl) (draw_ok (by kernel_rfl)) (by simp) hj e hv

abbrev fn_slices_ContainsFunc_llprun_Run_lprun_Run : Func := f50
def ks_slices_ContainsFunc_llprun_Run_lprun_Run : List (Nat × List Nat × List Nat) := []
def s_slices_ContainsFunc_llprun_Run_lprun_Run (P : Program) (w0 : World) (a0 a1 : Value) (R : Kont) : Hp → Prop :=
 callA P w0 n_slices_IndexFunc_llprun_Run_lprun_Run [a0, a1] fun v7_1 =>
 pureA (binA .geq v7_1 (.int .i64 0)) fun v8_2 =>
 retA [v8_2] R
theorem c_slices_ContainsFunc_llprun_Run_lprun_Run {w0 : World} {h : Hp} {R : Kont} {a0 a1 : Value} (hj : ∀ v, v ∈ [a0, a1] → v ≠ junk) (hv : s_slices_ContainsFunc_llprun_Run_lprun_Run prog w0 a0 a1 R h) : ACalls prog w0 n_slices_ContainsFunc_llprun_Run_lprun_Run [a0, a1] h R := by
  have e : vcFn ⟨prog, w0, 9, ks_slices_ContainsFunc_llprun_Run_lprun_Run⟩ (drw w0 9) fn_slices_ContainsFunc_llprun_Run_lprun_Run [a0, a1] R h = s_slices_ContainsFunc_llprun_Run_lprun_Run prog w0 a0 a1 R h := by
    kernel_rfl
  exact acalls_of_eq (fn := fn_slices_ContainsFunc_llprun_Run_lprun_Run) (ks := ks_slices_ContainsFunc_llprun_Run_lprun_Run) (n := 9) (by kernel_rfl) (by kernel_rfl) (draw_ok (by kernel_rfl)) (by simp) hj e hv

abbrev fn_slices_AppendSeq_lapi_Entry_api_Entry : Func := f97
def ks_slices_AppendSeq_lapi_Entry_api_Entry : List (Nat × List Nat × List Nat) := []
def slices_AppendSeq_lapi_Entry_api_Entry_R1 (P : Program) (w0 : World) (b : Nat) (g : Lp) (K : Kont) (x2 y7 : Value) : Hp → Prop :=
 newA [(.string .empty), (.string .empty), (.bool false)] 3 fun v5_2 =>
 storeNA w0 v5_2 y7 3 fun _ =>
 beginA b g (
 loadA w0 x2 fun v8_3 =>
 loadNA w0 v5_2 3 fun v9_4 =>
 bslA [(0, 3, true, v9_4)] (zerosL [(.string .empty), (.string .empty), (.bool false)] 1) 1 3 fun v10_5 =>
 appA w0 3 40 v8_3 v10_5 fun v11_6 =>
 storeA w0 x2 v11_6 fun _ =>
 endR b g none K)
def s_slices_AppendSeq_lapi_Entry_api_Entry (P : Program) (w0 : World) (a0 a1 : Value) (R : Kont) : Hp → Prop :=
 fun h0 => (boxA false 1 a0 fun v2_1 =>
 rangeA P w0 a1 1 (fun b g args K => slices_AppendSeq_lapi_Entry_api_Entry_R1 P w0 b g K v2_1 (args.getD 0 undef)) (
 loadA w0 v2_1 fun v12_7 =>
 cutA h0 (
 retA [v12_7] R)) []) h0
theorem c_slices_AppendSeq_lapi_Entry_api_Entry {w0 : World} {h : Hp} {R : Kont} {a0 a1 : Value} (hj : ∀ v, v ∈ [a0, a1] → v ≠ junk) (hv : s_slices_AppendSeq_lapi_Entry_api_Entry prog w0 a0 a1 R h) : ACalls prog w0 n_slices_AppendSeq_lapi_Entry_api_Entry [a0, a1] h R := by
  have e : vcFnM ⟨prog, w0, 13, ks_slices_AppendSeq_lapi_Entry_api_Entry⟩ (drw w0 13) fn_slices_AppendSeq_lapi_Entry_api_Entry [a0, a1] R h = s_slices_AppendSeq_lapi_Entry_api_Entry prog w0 a0 a1 R h := by
    kernel_rfl
  exact acalls_of_eqM (fn := fn_slices_AppendSeq_lapi_Entry_api_Entry) (ks := ks_slices_AppendSeq_lapi_Entry_api_Entry) (n := 13) (by kernel_rfl) (by kernel_rfl) (draw_ok (by kernel_rfl)) (by simp) hj e hv

abbrev fn_slices_IndexFunc_llprun_Run_lprun_Run : Func := f101
def ks_slices_IndexFunc_llprun_Run_lprun_Run : List (Nat × List Nat × List Nat) := [(2, [0, 1, 4, 7, 8], [4])]
def slices_IndexFunc_llprun_Run_lprun_Run_B1 (P : Program) (w0 : World) (R : Value → Value → Value → Value → Value → Hp → Prop) (k0 : Value → Hp → Prop) (kr : Value → Hp → Prop) (x0 x1 x4 x7 x8 : Value) : Hp → Prop :=
 pureA (binA .lss x8 x7) fun v9_2 =>
 condA v9_2 (
 idxSlA 1 x0 x8 fun v14_3 =>
 loadA w0 v14_3 fun v15_4 =>
 callVA P w0 x1 [v15_4] fun v16_5 =>
 condA v16_5 (
 kr x8) (
 pureA (binA .add x8 (.int .i64 1)) fun v18_6 =>
 R x0 x1 x4 x7 v18_6)) (
 k0 x4)
def slices_IndexFunc_llprun_Run_lprun_Run_L1 (P : Program) (w0 : World) (k0 : Value → Hp → Prop) (kr : Value → Hp → Prop) : Nat → Value → Value → Value → Value → Value → Hp → Prop
  | 0, _, _, _, _, _ => fun _ => False
  | m + 1, x0, x1, x4, x7, x8 => slices_IndexFunc_llprun_Run_lprun_Run_B1 P w0 (slices_IndexFunc_llprun_Run_lprun_Run_L1 P w0 k0 kr m) k0 kr x0 x1 x4 x7 x8
def slices_IndexFunc_llprun_Run_lprun_Run_E1 (P : Program) (w0 : World) (k0 : Value → Hp → Prop) (kr : Value → Hp → Prop) (x0 x1 x4 x7 x8 : Value) : Hp → Prop := fun h => ∃ m, slices_IndexFunc_llprun_Run_lprun_Run_L1 P w0 k0 kr m x0 x1 x4 x7 x8 h
def s_slices_IndexFunc_llprun_Run_lprun_Run (P : Program) (w0 : World) (a0 a1 : Value) (R : Kont) : Hp → Prop :=
 pureA (lenSl a0) fun v7_1 =>
 slices_IndexFunc_llprun_Run_lprun_Run_E1 P w0 (fun y4_7 =>
 retA [(.int .i64 (-1))] R) (fun y4_8 =>
 retA [y4_8] R) a0 a1 (.int .i64 0) v7_1 (.int .i64 0)
theorem slices_IndexFunc_llprun_Run_lprun_Run_L1_eq (w0 : World) (k0 : Value → Hp → Prop) (kr : Value → Hp → Prop) : ∀ (m : Nat) (x0 x1 x4 x7 x8 : Value) (h : Hp), loopA (stepL ⟨prog, w0, 19, ks_slices_IndexFunc_llprun_Run_lprun_Run⟩ (drw w0 19) (loopAt fn_slices_IndexFunc_llprun_Run_lprun_Run 0)) m (mkFr [(0, x0), (1, x1), (4, x4), (7, x7), (8, x8)]) [fun t => k0 (t 4), fun t => kr (t 4)] h = slices_IndexFunc_llprun_Run_lprun_Run_L1 prog w0 k0 kr m x0 x1 x4 x7 x8 h := by
  intro m
  induction m with
  | zero => intros; kernel_rfl
  | succ m ih =>
    intro x0 x1 x4 x7 x8 h
    have e : slices_IndexFunc_llprun_Run_lprun_Run_L1 prog w0 k0 kr m = fun x0 x1 x4 x7 x8 h => loopA (stepL ⟨prog, w0, 19, ks_slices_IndexFunc_llprun_Run_lprun_Run⟩ (drw w0 19) (loopAt fn_slices_IndexFunc_llprun_Run_lprun_Run 0)) m (mkFr [(0, x0), (1, x1), (4, x4), (7, x7), (8, x8)]) [fun t => k0 (t 4), fun t => kr (t 4)] h := by funext x0 x1 x4 x7 x8 h; exact (ih x0 x1 x4 x7 x8 h).symm
    show _ = slices_IndexFunc_llprun_Run_lprun_Run_B1 prog w0 (slices_IndexFunc_llprun_Run_lprun_Run_L1 prog w0 k0 kr m) k0 kr x0 x1 x4 x7 x8 h
    rw [e]
    kernel_rfl
theorem slices_IndexFunc_llprun_Run_lprun_Run_E1_eq (w0 : World) : slices_IndexFunc_llprun_Run_lprun_Run_E1 prog w0 = fun k0 kr x0 x1 x4 x7 x8 h => ∃ m, loopA (stepL ⟨prog, w0, 19, ks_slices_IndexFunc_llprun_Run_lprun_Run⟩ (drw w0 19) (loopAt fn_slices_IndexFunc_llprun_Run_lprun_Run 0)) m (mkFr [(0, x0), (1, x1), (4, x4), (7, x7), (8, x8)]) [fun t => k0 (t 4), fun t => kr (t 4)] h := by
  funext k0 kr x0 x1 x4 x7 x8 h
  exact congrArg Exists (funext fun m => (slices_IndexFunc_llprun_Run_lprun_Run_L1_eq w0 k0 kr m x0 x1 x4 x7 x8 h).symm)
theorem c_slices_IndexFunc_llprun_Run_lprun_Run {w0 : World} {h : Hp} {R : Kont} {a0 a1 : Value} (hj : ∀ v, v ∈ [a0, a1] → v ≠ junk) (hv : s_slices_IndexFunc_llprun_Run_lprun_Run prog w0 a0 a1 R h) : ACalls prog w0 n_slices_IndexFunc_llprun_Run_lprun_Run [a0, a1] h R := by
  have e : vcFn ⟨prog, w0, 19, ks_slices_IndexFunc_llprun_Run_lprun_Run⟩ (drw w0 19) fn_slices_IndexFunc_llprun_Run_lprun_Run [a0, a1] R h = s_slices_IndexFunc_llprun_Run_lprun_Run prog w0 a0 a1 R h := by
    unfold s_slices_IndexFunc_llprun_Run_lprun_Run
    rw [slices_IndexFunc_llprun_Run_lprun_Run_E1_eq w0]
    kernel_rfl
  exact acalls_of_eq (fn := fn_slices_IndexFunc_llprun_Run_lprun_Run) (ks := ks_slices_IndexFunc_llprun_Run_lprun_Run) (n := 19) (by kernel_rfl) (by kernel_rfl) (draw_ok (by kernel_rfl)) (by simp) hj e hv

abbrev fn_bytes_Equal : Func := f136
def ks_bytes_Equal : List (Nat × List Nat × List Nat) := []
def s_bytes_Equal (P : Program) (w0 : World) (a0 a1 : Value) (R : Kont) : Hp → Prop :=
 b2sA w0 a0 fun v6_1 =>
 b2sA w0 a1 fun v8_2 =>
 pureA (binA .eql v6_1 v8_2) fun v9_3 =>
 retA [v9_3] R
theorem c_bytes_Equal {w0 : World} {h : Hp} {R : Kont} {a0 a1 : Value} (hj : ∀ v, v ∈ [a0, a1] → v ≠ junk) (hv : s_bytes_Equal prog w0 a0 a1 R h) : ACalls prog w0 n_bytes_Equal [a0, a1] h R := by
  have e : vcFn ⟨prog, w0, 10, ks_bytes_Equal⟩ (drw w0 10) fn_bytes_Equal [a0, a1] R h = s_bytes_Equal prog w0 a0 a1 R h := by
    kernel_rfl
  exact acalls_of_eq (fn := fn_bytes_Equal) (ks := ks_bytes_Equal) (n := 10) (by kernel_rfl) (by kernel_rfl) (draw_ok (by kernel_rfl)) (by simp) hj e hv

abbrev fn_cmp_Compare_string : Func := f142
def ks_cmp_Compare_string : List (Nat × List Nat × List Nat) := []
def s_cmp_Compare_string (P : Program) (w0 : World) (a0 a1 : Value) (R : Kont) : Hp → Prop :=
 callA P w0 n_cmp_isNaN_string [a0] fun v8_1 =>
 callA P w0 n_cmp_isNaN_string [a1] fun v10_2 =>
 condA v8_1 (
 condA v10_2 (
 retA [(.int .i64 0)] R) (
 retA [(.int .i64 (-1))] R)) (
 condA v10_2 (
 retA [(.int .i64 1)] R) (
 pureA (binA .lss a0 a1) fun v16_3 =>
 condA v16_3 (
 retA [(.int .i64 (-1))] R) (
 pureA (binA .gtr a0 a1) fun v19_4 =>
 condA v19_4 (
 retA [(.int .i64 1)] R) (
 retA [(.int .i64 0)] R))))
theorem c_cmp_Compare_string {w0 : World} {h : Hp} {R : Kont} {a0 a1 : Value} (hj : ∀ v, v ∈ [a0, a1] → v ≠ junk) (hv : s_cmp_Compare_string prog w0 a0 a1 R h) : ACalls prog w0 n_cmp_Compare_string [a0, a1] h R := by
  have e : vcFn ⟨prog, w0, 20, ks_cmp_Compare_string⟩ (drw w0 20) fn_cmp_Compare_string [a0, a1] R h = s_cmp_Compare_string prog w0 a0 a1 R h := by
    kernel_rfl
  exact acalls_of_eq (fn := fn_cmp_Compare_string) (ks := ks_cmp_Compare_string) (n := 20) (by kernel_rfl) (by kernel_rfl) (draw_ok (by kernel_rfl)) (by simp) hj e hv

abbrev fn_slices_Clone_lseq_Item_string_api_Entry_seq_Item_string_api_Entry : Func := f152
def ks_slices_Clone_lseq_Item_string_api_Entry_seq_Item_string_api_Entry : List (Nat × List Nat × List Nat) := []
def s_slices_Clone_lseq_Item_string_api_Entry_seq_Item_string_api_Entry (P : Program) (w0 : World) (a0 : Value) (R : Kont) : Hp → Prop :=
 pureA (binSlA .eql a0 (.slice none 0 0)) fun v4_1 =>
 condA v4_1 (
 retA [(.slice none 0 0)] R) (
 bslA [] (zerosL [(.string .empty), (.string .empty), (.string .empty), (.bool false)] 0) 0 4 fun v5_2 =>
 appA w0 4 56 v5_2 a0 fun v7_3 =>
 retA [v7_3] R)
theorem c_slices_Clone_lseq_Item_string_api_Entry_seq_Item_string_api_Entry {w0 : World} {h : Hp} {R : Kont} {a0 : Value} (hj : ∀ v, v ∈ [a0] → v ≠ junk) (hv : s_slices_Clone_lseq_Item_string_api_Entry_seq_Item_string_api_Entry prog w0 a0 R h) : ACalls prog w0 n_slices_Clone_lseq_Item_string_api_Entry_seq_Item_string_api_Entry [a0] h R := by
  have e : vcFn ⟨prog, w0, 8, ks_slices_Clone_lseq_Item_string_api_Entry_seq_Item_string_api_Entry⟩ (drw w0 8) fn_slices_Clone_lseq_Item_string_api_Entry_seq_Item_string_api_Entry [a0] R h = s_slices_Clone_lseq_Item_string_api_Entry_seq_Item_string_api_Entry prog w0 a0 R h := by
    kernel_rfl
  exact acalls_of_eq (fn := fn_slices_Clone_lseq_Item_string_api_Entry_seq_Item_string_api_Entry) (ks := ks_slices_Clone_lseq_Item_string_api_Entry_seq_Item_string_api_Entry) (n := 8) (by kernel_rfl) (by kernel_rfl) (draw_ok (by kernel_rfl)) (by simp) hj e hv

abbrev fn_slices_Insert_lseq_Item_string_api_Entry_seq_Item_string_api_Entry : Func := f155
def ks_slices_Insert_lseq_Item_string_api_Entry_seq_Item_string_api_Entry : List (Nat × List Nat × List Nat) := []
def s_slices_Insert_lseq_Item_string_api_Entry_seq_Item_string_api_Entry (P : Program) (w0 : World) (a0 a1 a2 : Value) (R : Kont) : Hp → Prop :=
 slSlA 4 a0 (some a1) none none fun v12_1 =>
 pureA (lenSl a2) fun v14_2 =>
 pureA (binA .eql v14_2 (.int .i64 0)) fun v16_3 =>
 condA v16_3 (
 retA [a0] R) (
 pureA (lenSl a0) fun v19_4 =>
 pureA (binA .eql a1 v19_4) fun v22_5 =>
 condA v22_5 (
 appA w0 4 56 a0 a2 fun v25_6 =>
 retA [v25_6] R) (
 pureA (binA .add v19_4 v14_2) fun v28_7 =>
 capA w0 4 a0 fun v30_8 =>
 pureA (binA .gtr v28_7 v30_8) fun v31_9 =>
 condA v31_9 (
 slSlA 4 a0 none (some a1) none fun v34_10 =>
 pureA (binA .add v19_4 v14_2) fun v37_11 =>
 pureA (binA .sub v37_11 a1) fun v39_12 =>
 appZA w0 4 56 [(.string .empty), (.string .empty), (.string .empty), (.bool false)] v34_10 v39_12 fun v40_13 =>
 slSlA 4 v40_13 (some a1) none none fun v43_14 =>
 copyA w0 4 v43_14 a2 fun v45_15 =>
 pureQ (fun K => K v40_13) fun v46_16 =>
 pureQ (fun K => K a1) fun v47_17 =>
 pureQ (fun K => K v14_2) fun v48_18 =>
 pureQ (pureA (binA .add v47_17 v48_18)) fun v49_19 =>
 readQ (slSlA 4 v46_16 (some v49_19) none none) fun v50_20 =>
 pureQ (fun K => K a0) fun v51_21 =>
 pureQ (fun K => K a1) fun v52_22 =>
 readQ (slSlA 4 v51_21 (some v52_22) none none) fun v53_23 =>
 allA [
 (copyA w0 4 v50_20 v53_23 fun v54_24 =>
 stillA [] (
 endA (
 retA [v40_13] R)))]) (
 pureA (binA .add v19_4 v14_2) fun v59_25 =>
 slSlA 4 a0 none (some v59_25) none fun v60_26 =>
 pureA (binA .add a1 v14_2) fun v65_27 =>
 slSlA 4 v60_26 (some v65_27) none none fun v66_28 =>
 ovA P w0 n_slices_overlaps_seq_Item_string_api_Entry a2 v66_28 fun v67_29 =>
 pureA (unA .not v67_29) fun v68_30 =>
 condA v68_30 (
 pureQ (fun K => K v60_26) fun v69_31 =>
 pureQ (fun K => K a1) fun v70_32 =>
 pureQ (fun K => K v14_2) fun v71_33 =>
 pureQ (pureA (binA .add v70_32 v71_33)) fun v72_34 =>
 readQ (slSlA 4 v69_31 (some v72_34) none none) fun v73_35 =>
 pureQ (fun K => K v60_26) fun v74_36 =>
 pureQ (fun K => K a1) fun v75_37 =>
 readQ (slSlA 4 v74_36 (some v75_37) none none) fun v76_38 =>
 allA [
 (copyA w0 4 v73_35 v76_38 fun v77_39 =>
 stillA [] (
 endA (
 slSlA 4 v60_26 (some a1) none none fun v80_40 =>
 copyA w0 4 v80_40 a2 fun v82_41 =>
 retA [v60_26] R)))]) (
 slSlA 4 v60_26 (some v19_4) none none fun v86_42 =>
 copyA w0 4 v86_42 a2 fun v88_43 =>
 slSlA 4 v60_26 (some a1) none none fun v91_44 =>
 callA P w0 n_slices_rotateRight_seq_Item_string_api_Entry [v91_44, v14_2] fun v93_45 =>
 retA [v60_26] R))))
theorem c_slices_Insert_lseq_Item_string_api_Entry_seq_Item_string_api_Entry {w0 : World} {h : Hp} {R : Kont} {a0 a1 a2 : Value} (hj : ∀ v, v ∈ [a0, a1, a2] → v ≠ junk) (hv : s_slices_Insert_lseq_Item_string_api_Entry_seq_Item_string_api_Entry prog w0 a0 a1 a2 R h) : ACalls prog w0 n_slices_Insert_lseq_Item_string_api_Entry_seq_Item_string_api_Entry [a0, a1, a2] h R := by
  have e : vcFn ⟨prog, w0, 95, ks_slices_Insert_lseq_Item_string_api_Entry_seq_Item_string_api_Entry⟩ (drw w0 95) fn_slices_Insert_lseq_Item_string_api_Entry_seq_Item_string_api_Entry [a0, a1, a2] R h = s_slices_Insert_lseq_Item_string_api_Entry_seq_Item_string_api_Entry prog w0 a0 a1 a2 R h := by
    kernel_rfl
  exact acalls_of_eq (fn := fn_slices_Insert_lseq_Item_string_api_Entry_seq_Item_string_api_Entry) (ks := ks_slices_Insert_lseq_Item_string_api_Entry_seq_Item_string_api_Entry) (n := 95) (by kernel_rfl) (by kernel_rfl) (draw_ok (by kernel_rfl)) (by simp) hj e hv

abbrev fn_slices_BinarySearchFunc_lapi_Entry_api_Entry_string : Func := f162
def ks_slices_BinarySearchFunc_lapi_Entry_api_Entry_string : List (Nat × List Nat × List Nat) := [(3, [0, 1, 2, 8, 9, 10], [0, 1, 2, 8, 9])]
def slices_BinarySearchFunc_lapi_Entry_api_Entry_string_B1 (P : Program) (w0 : World) (R : Value → Value → Value → Value → Value → Value → Hp → Prop) (k0 : Value → Value → Value → Value → Value → Hp → Prop) (x0 x1 x2 x8 x9 x10 : Value) : Hp → Prop :=
 pureA (binA .lss x9 x10) fun v17_2 =>
 condA v17_2 (
 pureA (binA .add x9 x10) fun v20_3 =>
 pureA (convA .u64 v20_3) fun v21_4 =>
 pureA (binA .shr v21_4 (.int .u64 1)) fun v22_5 =>
 pureA (convA .i64 v22_5) fun v23_6 =>
 idxSlA 3 x0 v23_6 fun v27_7 =>
 loadNA w0 v27_7 3 fun v28_8 =>
 callVA P w0 x2 [v28_8, x1] fun v30_9 =>
 pureA (binA .lss v30_9 (.int .i64 0)) fun v31_10 =>
 condA v31_10 (
 pureA (binA .add v23_6 (.int .i64 1)) fun v33_11 =>
 R x0 x1 x2 x8 v33_11 x10) (
 R x0 x1 x2 x8 x9 v23_6)) (
 k0 x0 x1 x2 x8 x9)
def slices_BinarySearchFunc_lapi_Entry_api_Entry_string_L1 (P : Program) (w0 : World) (k0 : Value → Value → Value → Value → Value → Hp → Prop) : Nat → Value → Value → Value → Value → Value → Value → Hp → Prop
  | 0, _, _, _, _, _, _ => fun _ => False
  | m + 1, x0, x1, x2, x8, x9, x10 => slices_BinarySearchFunc_lapi_Entry_api_Entry_string_B1 P w0 (slices_BinarySearchFunc_lapi_Entry_api_Entry_string_L1 P w0 k0 m) k0 x0 x1 x2 x8 x9 x10
def slices_BinarySearchFunc_lapi_Entry_api_Entry_string_E1 (P : Program) (w0 : World) (k0 : Value → Value → Value → Value → Value → Hp → Prop) (x0 x1 x2 x8 x9 x10 : Value) : Hp → Prop := fun h => ∃ m, slices_BinarySearchFunc_lapi_Entry_api_Entry_string_L1 P w0 k0 m x0 x1 x2 x8 x9 x10 h
def s_slices_BinarySearchFunc_lapi_Entry_api_Entry_string (P : Program) (w0 : World) (a0 a1 a2 : Value) (R : Kont) : Hp → Prop :=
 pureA (lenSl a0) fun v13_1 =>
 slices_BinarySearchFunc_lapi_Entry_api_Entry_string_E1 P w0 (fun y0_12 y1_13 y2_14 y8_15 y9_16 =>
 pureA (binA .lss y9_16 y8_15) fun v38_17 =>
 guardA v38_17 true (fun K => K y2_14) fun v40_18 =>
 guardA v38_17 true (fun K => K y0_12) fun v41_19 =>
 guardA v38_17 true (fun K => K y9_16) fun v42_20 =>
 guardA v38_17 true (idxSlA 3 v41_19 v42_20) fun v43_21 =>
 guardA v38_17 true (loadNA w0 v43_21 3) fun v44_22 =>
 guardA v38_17 true (fun K => K y1_13) fun v45_23 =>
 guardA v38_17 true (callVA P w0 v40_18 [v44_22, v45_23]) fun v46_24 =>
 guardA v38_17 true (pureA (binA .eql v46_24 (.int .i64 0))) fun v47_25 =>
 pickA v38_17 v47_25 (.bool false) fun v48_26 =>
 retA [y9_16, v48_26] R) a0 a1 a2 v13_1 (.int .i64 0) v13_1
theorem slices_BinarySearchFunc_lapi_Entry_api_Entry_string_L1_eq (w0 : World) (k0 : Value → Value → Value → Value → Value → Hp → Prop) : ∀ (m : Nat) (x0 x1 x2 x8 x9 x10 : Value) (h : Hp), loopA (stepL ⟨prog, w0, 49, ks_slices_BinarySearchFunc_lapi_Entry_api_Entry_string⟩ (drw w0 49) (loopAt fn_slices_BinarySearchFunc_lapi_Entry_api_Entry_string 0)) m (mkFr [(0, x0), (1, x1), (2, x2), (8, x8), (9, x9), (10, x10)]) [fun t => k0 (t 0) (t 1) (t 2) (t 8) (t 9)] h = slices_BinarySearchFunc_lapi_Entry_api_Entry_string_L1 prog w0 k0 m x0 x1 x2 x8 x9 x10 h := by
  intro m
  induction m with
  | zero => intros; kernel_rfl
  | succ m ih =>
    intro x0 x1 x2 x8 x9 x10 h
    have e : slices_BinarySearchFunc_lapi_Entry_api_Entry_string_L1 prog w0 k0 m = fun x0 x1 x2 x8 x9 x10 h => loopA (stepL ⟨prog, w0, 49, ks_slices_BinarySearchFunc_lapi_Entry_api_Entry_string⟩ (drw w0 49) (loopAt fn_slices_BinarySearchFunc_lapi_Entry_api_Entry_string 0)) m (mkFr [(0, x0), (1, x1), (2, x2), (8, x8), (9, x9), (10, x10)]) [fun t => k0 (t 0) (t 1) (t 2) (t 8) (t 9)] h := by funext x0 x1 x2 x8 x9 x10 h; exact (ih x0 x1 x2 x8 x9 x10 h).symm
    show _ = slices_BinarySearchFunc_lapi_Entry_api_Entry_string_B1 prog w0 (slices_BinarySearchFunc_lapi_Entry_api_Entry_string_L1 prog w0 k0 m) k0 x0 x1 x2 x8 x9 x10 h
    rw [e]
    kernel_rfl
theorem slices_BinarySearchFunc_lapi_Entry_api_Entry_string_E1_eq (w0 : World) : slices_BinarySearchFunc_lapi_Entry_api_Entry_string_E1 prog w0 = fun k0 x0 x1 x2 x8 x9 x10 h => ∃ m, loopA (stepL ⟨prog, w0, 49, ks_slices_BinarySearchFunc_lapi_Entry_api_Entry_string⟩ (drw w0 49) (loopAt fn_slices_BinarySearchFunc_lapi_Entry_api_Entry_string 0)) m (mkFr [(0, x0), (1, x1), (2, x2), (8, x8), (9, x9), (10, x10)]) [fun t => k0 (t 0) (t 1) (t 2) (t 8) (t 9)] h := by
  funext k0 x0 x1 x2 x8 x9 x10 h
  exact congrArg Exists (funext fun m => (slices_BinarySearchFunc_lapi_Entry_api_Entry_string_L1_eq w0 k0 m x0 x1 x2 x8 x9 x10 h).symm)
theorem c_slices_BinarySearchFunc_lapi_Entry_api_Entry_string {w0 : World} {h : Hp} {R : Kont} {a0 a1 a2 : Value} (hj : ∀ v, v ∈ [a0, a1, a2] → v ≠ junk) (hv : s_slices_BinarySearchFunc_lapi_Entry_api_Entry_string prog w0 a0 a1 a2 R h) : ACalls prog w0 n_slices_BinarySearchFunc_lapi_Entry_api_Entry_string [a0, a1, a2] h R := by
  have e : vcFn ⟨prog, w0, 49, ks_slices_BinarySearchFunc_lapi_Entry_api_Entry_string⟩ (drw w0 49) fn_slices_BinarySearchFunc_lapi_Entry_api_Entry_string [a0, a1, a2] R h = s_slices_BinarySearchFunc_lapi_Entry_api_Entry_string prog w0 a0 a1 a2 R h := by
    unfold s_slices_BinarySearchFunc_lapi_Entry_api_Entry_string
    rw [slices_BinarySearchFunc_lapi_Entry_api_Entry_string_E1_eq w0]
    kernel_rfl
  exact acalls_of_eq (fn := fn_slices_BinarySearchFunc_lapi_Entry_api_Entry_string) (ks := ks_slices_BinarySearchFunc_lapi_Entry_api_Entry_string) (n := 49) (by kernel_rfl) (by kernel_rfl) (draw_ok (by kernel_rfl)) (by simp) hj e hv

abbrev fn_strings_Compare : Func := f164
def ks_strings_Compare : List (Nat × List Nat × List Nat) := []
def s_strings_Compare (P : Program) (w0 : World) (a0 a1 : Value) (R : Kont) : Hp → Prop :=
 callA P w0 n_internal_bytealg_CompareString [a0, a1] fun v7_1 =>
 retA [v7_1] R
theorem c_strings_Compare {w0 : World} {h : Hp} {R : Kont} {a0 a1 : Value} (hj : ∀ v, v ∈ [a0, a1] → v ≠ junk) (hv : s_strings_Compare prog w0 a0 a1 R h) : ACalls prog w0 n_strings_Compare [a0, a1] h R := by
  have e : vcFn ⟨prog, w0, 8, ks_strings_Compare⟩ (drw w0 8) fn_strings_Compare [a0, a1] R h = s_strings_Compare prog w0 a0 a1 R h := by
    kernel_rfl
  exact acalls_of_eq (fn := fn_strings_Compare) (ks := ks_strings_Compare) (n := 8) (by kernel_rfl) (by kernel_rfl) (draw_ok (by kernel_rfl)) (by simp) hj e hv

abbrev fn_cmp_isNaN_string : Func := f165
def ks_cmp_isNaN_string : List (Nat × List Nat × List Nat) := []
def s_cmp_isNaN_string (P : Program) (w0 : World) (a0 : Value) (R : Kont) : Hp → Prop :=
 pureA (binA .neq a0 a0) fun v5_1 =>
 retA [v5_1] R
theorem c_cmp_isNaN_string {w0 : World} {h : Hp} {R : Kont} {a0 : Value} (hj : ∀ v, v ∈ [a0] → v ≠ junk) (hv : s_cmp_isNaN_string prog w0 a0 R h) : ACalls prog w0 n_cmp_isNaN_string [a0] h R := by
  have e : vcFn ⟨prog, w0, 6, ks_cmp_isNaN_string⟩ (drw w0 6) fn_cmp_isNaN_string [a0] R h = s_cmp_isNaN_string prog w0 a0 R h := by
    kernel_rfl
  exact acalls_of_eq (fn := fn_cmp_isNaN_string) (ks := ks_cmp_isNaN_string) (n := 6) (by kernel_rfl) (by kernel_rfl) (draw_ok (by kernel_rfl)) (by simp) hj e hv

abbrev fn_internal_bytealg_CompareString : Func := f172
def ks_internal_bytealg_CompareString : List (Nat × List Nat × List Nat) := []
def s_internal_bytealg_CompareString (P : Program) (w0 : World) (a0 a1 : Value) (R : Kont) : Hp → Prop :=
 ovA P w0 n_internal_bytealg_abigen_runtime_cmpstring a0 a1 fun v7_1 =>
 retA [v7_1] R
theorem c_internal_bytealg_CompareString {w0 : World} {h : Hp} {R : Kont} {a0 a1 : Value} (hj : ∀ v, v ∈ [a0, a1] → v ≠ junk) (hv : s_internal_bytealg_CompareString prog w0 a0 a1 R h) : ACalls prog w0 n_internal_bytealg_CompareString [a0, a1] h R := by
  have e : vcFn ⟨prog, w0, 8, ks_internal_bytealg_CompareString⟩ (drw w0 8) fn_internal_bytealg_CompareString [a0, a1] R h = s_internal_bytealg_CompareString prog w0 a0 a1 R h := by
    kernel_rfl
  exact acalls_of_eq (fn := fn_internal_bytealg_CompareString) (ks := ks_internal_bytealg_CompareString) (n := 8) (by kernel_rfl) (by kernel_rfl) (draw_ok (by kernel_rfl)) (by simp) hj e hv

abbrev fn_slices_BinarySearchFunc_lseq_Item_string_api_Entry_seq_Item_string_api_Entry_string : Func := f173
def ks_slices_BinarySearchFunc_lseq_Item_string_api_Entry_seq_Item_string_api_Entry_string : List (Nat × List Nat × List Nat) := [(3, [0, 1, 2, 8, 9, 10], [0, 1, 2, 8, 9])]
def slices_BinarySearchFunc_lseq_Item_string_api_Entry_seq_Item_string_api_Entry_string_B1 (P : Program) (w0 : World) (R : Value → Value → Value → Value → Value → Value → Hp → Prop) (k0 : Value → Value → Value → Value → Value → Hp → Prop) (x0 x1 x2 x8 x9 x10 : Value) : Hp → Prop :=
 pureA (binA .lss x9 x10) fun v17_2 =>
 condA v17_2 (
 pureA (binA .add x9 x10) fun v20_3 =>
 pureA (convA .u64 v20_3) fun v21_4 =>
 pureA (binA .shr v21_4 (.int .u64 1)) fun v22_5 =>
 pureA (convA .i64 v22_5) fun v23_6 =>
 idxSlA 4 x0 v23_6 fun v27_7 =>
 loadNA w0 v27_7 4 fun v28_8 =>
 callVA P w0 x2 [v28_8, x1] fun v30_9 =>
 pureA (binA .lss v30_9 (.int .i64 0)) fun v31_10 =>
 condA v31_10 (
 pureA (binA .add v23_6 (.int .i64 1)) fun v33_11 =>
 R x0 x1 x2 x8 v33_11 x10) (
 R x0 x1 x2 x8 x9 v23_6)) (
 k0 x0 x1 x2 x8 x9)
def slices_BinarySearchFunc_lseq_Item_string_api_Entry_seq_Item_string_api_Entry_string_L1 (P : Program) (w0 : World) (k0 : Value → Value → Value → Value → Value → Hp → Prop) : Nat → Value → Value → Value → Value → Value → Value → Hp → Prop
  | 0, _, _, _, _, _, _ => fun _ => False
  | m + 1, x0, x1, x2, x8, x9, x10 => slices_BinarySearchFunc_lseq_Item_string_api_Entry_seq_Item_string_api_Entry_string_B1 P w0 (slices_BinarySearchFunc_lseq_Item_string_api_Entry_seq_Item_string_api_Entry_string_L1 P w0 k0 m) k0 x0 x1 x2 x8 x9 x10
def slices_BinarySearchFunc_lseq_Item_string_api_Entry_seq_Item_string_api_Entry_string_E1 (P : Program) (w0 : World) (k0 : Value → Value → Value → Value → Value → Hp → Prop) (x0 x1 x2 x8 x9 x10 : Value) : Hp → Prop := fun h => ∃ m, slices_BinarySearchFunc_lseq_Item_string_api_Entry_seq_Item_string_api_Entry_string_L1 P w0 k0 m x0 x1 x2 x8 x9 x10 h
def s_slices_BinarySearchFunc_lseq_Item_string_api_Entry_seq_Item_string_api_Entry_string (P : Program) (w0 : World) (a0 a1 a2 : Value) (R : Kont) : Hp → Prop :=
 pureA (lenSl a0) fun v13_1 =>
 slices_BinarySearchFunc_lseq_Item_string_api_Entry_seq_Item_string_api_Entry_string_E1 P w0 (fun y0_12 y1_13 y2_14 y8_15 y9_16 =>
 pureA (binA .lss y9_16 y8_15) fun v38_17 =>
 guardA v38_17 true (fun K => K y2_14) fun v40_18 =>
 guardA v38_17 true (fun K => K y0_12) fun v41_19 =>
 guardA v38_17 true (fun K => K y9_16) fun v42_20 =>
 guardA v38_17 true (idxSlA 4 v41_19 v42_20) fun v43_21 =>
 guardA v38_17 true (loadNA w0 v43_21 4) fun v44_22 =>
 guardA v38_17 true (fun K => K y1_13) fun v45_23 =>
 guardA v38_17 true (callVA P w0 v40_18 [v44_22, v45_23]) fun v46_24 =>
 guardA v38_17 true (pureA (binA .eql v46_24 (.int .i64 0))) fun v47_25 =>
 pickA v38_17 v47_25 (.bool false) fun v48_26 =>
 retA [y9_16, v48_26] R) a0 a1 a2 v13_1 (.int .i64 0) v13_1
theorem slices_BinarySearchFunc_lseq_Item_string_api_Entry_seq_Item_string_api_Entry_string_L1_eq (w0 : World) (k0 : Value → Value → Value → Value → Value → Hp → Prop) : ∀ (m : Nat) (x0 x1 x2 x8 x9 x10 : Value) (h : Hp), loopA (stepL ⟨prog, w0, 49, ks_slices_BinarySearchFunc_lseq_Item_string_api_Entry_seq_Item_string_api_Entry_string⟩ (drw w0 49) (loopAt fn_slices_BinarySearchFunc_lseq_Item_string_api_Entry_seq_Item_string_api_Entry_string 0)) m (mkFr [(0, x0), (1, x1), (2, x2), (8, x8), (9, x9), (10, x10)]) [fun t => k0 (t 0) (t 1) (t 2) (t 8) (t 9)] h = slices_BinarySearchFunc_lseq_Item_string_api_Entry_seq_Item_string_api_Entry_string_L1 prog w0 k0 m x0 x1 x2 x8 x9 x10 h := by
  intro m
  induction m with
  | zero => intros; kernel_rfl
  | succ m ih =>
    intro x0 x1 x2 x8 x9 x10 h
    have e : slices_BinarySearchFunc_lseq_Item_string_api_Entry_seq_Item_string_api_Entry_string_L1 prog w0 k0 m = fun x0 x1 x2 x8 x9 x10 h => loopA (stepL ⟨prog, w0, 49, ks_slices_BinarySearchFunc_lseq_Item_string_api_Entry_seq_Item_string_api_Entry_string⟩ (drw w0 49) (loopAt fn_slices_BinarySearchFunc_lseq_Item_string_api_Entry_seq_Item_string_api_Entry_string 0)) m (mkFr [(0, x0), (1, x1), (2, x2), (8, x8), (9, x9), (10, x10)]) [fun t => k0 (t 0) (t 1) (t 2) (t 8) (t 9)] h := by funext x0 x1 x2 x8 x9 x10 h; exact (ih x0 x1 x2 x8 x9 x10 h).symm
    show _ = slices_BinarySearchFunc_lseq_Item_string_api_Entry_seq_Item_string_api_Entry_string_B1 prog w0 (slices_BinarySearchFunc_lseq_Item_string_api_Entry_seq_Item_string_api_Entry_string_L1 prog w0 k0 m) k0 x0 x1 x2 x8 x9 x10 h
    rw [e]
    kernel_rfl
theorem slices_BinarySearchFunc_lseq_Item_string_api_Entry_seq_Item_string_api_Entry_string_E1_eq (w0 : World) : slices_BinarySearchFunc_lseq_Item_string_api_Entry_seq_Item_string_api_Entry_string_E1 prog w0 = fun k0 x0 x1 x2 x8 x9 x10 h => ∃ m, loopA (stepL ⟨prog, w0, 49, ks_slices_BinarySearchFunc_lseq_Item_string_api_Entry_seq_Item_string_api_Entry_string⟩ (drw w0 49) (loopAt fn_slices_BinarySearchFunc_lseq_Item_string_api_Entry_seq_Item_string_api_Entry_string 0)) m (mkFr [(0, x0), (1, x1), (2, x2), (8, x8), (9, x9), (10, x10)]) [fun t => k0 (t 0) (t 1) (t 2) (t 8) (t 9)] h := by
  funext k0 x0 x1 x2 x8 x9 x10 h
  exact congrArg Exists (funext fun m => (slices_BinarySearchFunc_lseq_Item_string_api_Entry_seq_Item_string_api_Entry_string_L1_eq w0 k0 m x0 x1 x2 x8 x9 x10 h).symm)
theorem c_slices_BinarySearchFunc_lseq_Item_string_api_Entry_seq_Item_string_api_Entry_string {w0 : World} {h : Hp} {R : Kont} {a0 a1 a2 : Value} (hj : ∀ v, v ∈ [a0, a1, a2] → v ≠ junk) (hv : s_slices_BinarySearchFunc_lseq_Item_string_api_Entry_seq_Item_string_api_Entry_string prog w0 a0 a1 a2 R h) : ACalls prog w0 n_slices_BinarySearchFunc_lseq_Item_string_api_Entry_seq_Item_string_api_Entry_string [a0, a1, a2] h R := by
  have e : vcFn ⟨prog, w0, 49, ks_slices_BinarySearchFunc_lseq_Item_string_api_Entry_seq_Item_string_api_Entry_string⟩ (drw w0 49) fn_slices_BinarySearchFunc_lseq_Item_string_api_Entry_seq_Item_string_api_Entry_string [a0, a1, a2] R h = s_slices_BinarySearchFunc_lseq_Item_string_api_Entry_seq_Item_string_api_Entry_string prog w0 a0 a1 a2 R h := by
    unfold s_slices_BinarySearchFunc_lseq_Item_string_api_Entry_seq_Item_string_api_Entry_string
    rw [slices_BinarySearchFunc_lseq_Item_string_api_Entry_seq_Item_string_api_Entry_string_E1_eq w0]
    kernel_rfl
  exact acalls_of_eq (fn := fn_slices_BinarySearchFunc_lseq_Item_string_api_Entry_seq_Item_string_api_Entry_string) (ks := ks_slices_BinarySearchFunc_lseq_Item_string_api_Entry_seq_Item_string_api_Entry_string) (n := 49) (by kernel_rfl) (by kernel_rfl) (draw_ok (by kernel_rfl)) (by simp) hj e hv

end
end Go.Proofs.YtfmoemconapmhaaGreat.Ah
