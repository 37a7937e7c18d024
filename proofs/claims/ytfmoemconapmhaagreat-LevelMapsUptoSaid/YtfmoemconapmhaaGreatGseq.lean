/- PRINTED by wip/tools/shallow.py: functions of the program as readable words, and that each is what its text says. -/
import Derived.Test.YtfmoemconapmhaaGreatGn
set_option linter.unusedVariables false
set_option linter.unusedSimpArgs false
namespace Go.Proofs.YtfmoemconapmhaaGreat.Ah
open Go Go.Proofs.Tryz
noncomputable section

abbrev fn_seq_Map_string_api_Entry_Len : Func := f92
def ks_seq_Map_string_api_Entry_Len : List (Nat × List Nat × List Nat) := []
def s_seq_Map_string_api_Entry_Len (P : Program) (w0 : World) (a0 : Value) (R : Kont) : Hp → Prop :=
 pureA (binPtrA .eql a0 (.pointer none)) fun v4_1 =>
 condA v4_1 (
 retA [(.int .i64 0)] R) (
 nilA a0 fun v6_2 =>
 addA v6_2 0 fun v7_3 =>
 loadA w0 v7_3 fun v8_4 =>
 pureA (lenSl v8_4) fun v9_5 =>
 retA [v9_5] R)
theorem c_seq_Map_string_api_Entry_Len {w0 : World} {h : Hp} {R : Kont} {a0 : Value} (hj : ∀ v, v ∈ [a0] → v ≠ junk) (hv : s_seq_Map_string_api_Entry_Len prog w0 a0 R h) : ACalls prog w0 n_seq_Map_string_api_Entry_Len [a0] h R := by
  have e : vcFn ⟨prog, w0, 10, ks_seq_Map_string_api_Entry_Len⟩ (drw w0 10) fn_seq_Map_string_api_Entry_Len [a0] R h = s_seq_Map_string_api_Entry_Len prog w0 a0 R h := by
    kernel_rfl
  exact acalls_of_eq (fn := fn_seq_Map_string_api_Entry_Len) (ks := ks_seq_Map_string_api_Entry_Len) (n := 10) (by kernel_rfl) (by kernel_rfl) (draw_ok (by kernel_rfl)) (by simp) hj e hv

abbrev fn_seq_Map_string_api_Entry_All : Func := f99
def ks_seq_Map_string_api_Entry_All : List (Nat × List Nat × List Nat) := []
def s_seq_Map_string_api_Entry_All (P : Program) (w0 : World) (a0 : Value) (R : Kont) : Hp → Prop :=
 callA P w0 n_seq_Map_string_api_Entry_over [a0, (.func (.func n_seq_Map_string_api_Entry_All_S1) #[] #[])] fun v4_1 =>
 retA [v4_1] R
theorem c_seq_Map_string_api_Entry_All {w0 : World} {h : Hp} {R : Kont} {a0 : Value} (hj : ∀ v, v ∈ [a0] → v ≠ junk) (hv : s_seq_Map_string_api_Entry_All prog w0 a0 R h) : ACalls prog w0 n_seq_Map_string_api_Entry_All [a0] h R := by
  have e : vcFn ⟨prog, w0, 5, ks_seq_Map_string_api_Entry_All⟩ (drw w0 5) fn_seq_Map_string_api_Entry_All [a0] R h = s_seq_Map_string_api_Entry_All prog w0 a0 R h := by
    kernel_rfl
  exact acalls_of_eq (fn := fn_seq_Map_string_api_Entry_All) (ks := ks_seq_Map_string_api_Entry_All) (n := 5) (by kernel_rfl) (by kernel_rfl) (draw_ok (by kernel_rfl)) (by simp) hj e hv

abbrev fn_seq_NewMap_string_api_Entry : Func := f100
def ks_seq_NewMap_string_api_Entry : List (Nat × List Nat × List Nat) := []
def s_seq_NewMap_string_api_Entry (P : Program) (w0 : World) (R : Kont) : Hp → Prop :=
 buildA [] [(.slice none 0 0)] fun v1_1 =>
 boxA true 1 v1_1 fun v2_2 =>
 retA [v2_2] R
theorem c_seq_NewMap_string_api_Entry {w0 : World} {h : Hp} {R : Kont} (hj : ∀ v, v ∈ [] → v ≠ junk) (hv : s_seq_NewMap_string_api_Entry prog w0  R h) : ACalls prog w0 n_seq_NewMap_string_api_Entry [] h R := by
  have e : vcFn ⟨prog, w0, 3, ks_seq_NewMap_string_api_Entry⟩ (drw w0 3) fn_seq_NewMap_string_api_Entry [] R h = s_seq_NewMap_string_api_Entry prog w0  R h := by
    kernel_rfl
  exact acalls_of_eq (fn := fn_seq_NewMap_string_api_Entry) (ks := ks_seq_NewMap_string_api_Entry) (n := 3) (by kernel_rfl) (by kernel_rfl) (draw_ok (by kernel_rfl)) (by simp) hj e hv

abbrev fn_seq_Merge_string_api_Entry : Func := f103
def ks_seq_Merge_string_api_Entry : List (Nat × List Nat × List Nat) := [(3, [3, 11, 12, 13], [3]), (10, [3, 6], [6])]
def seq_Merge_string_api_Entry_B1 (P : Program) (w0 : World) (R : Value → Value → Value → Value → Hp → Prop) (k0 : Value → Hp → Prop) (x3 x11 x12 x13 : Value) : Hp → Prop :=
 pureA (binA .lss x13 x12) fun v14_4 =>
 condA v14_4 (
 idxSlA 1 x11 x13 fun v16_5 =>
 loadA w0 v16_5 fun v17_6 =>
 callA P w0 n_seq_sorted_string_api_Entry [v17_6] fun v19_7 =>
 pureA (lenSl v19_7) fun v21_8 =>
 pureA (binA .gtr v21_8 (.int .i64 0)) fun v22_9 =>
 condA v22_9 (
 buildA [(0, 1, false, v19_7), (1, 1, false, x13)] [(.slice none 0 0), (.int .i64 0)] fun v26_10 =>
 callA P w0 n_seq_heap_seq_head_string_api_Entry_push [x3, v26_10] fun v27_11 =>
 pureA (binA .add x13 (.int .i64 1)) fun v28_12 =>
 R x3 x11 x12 v28_12) (
 pureA (binA .add x13 (.int .i64 1)) fun v28_13 =>
 R x3 x11 x12 v28_13)) (
 k0 x3)
def seq_Merge_string_api_Entry_L1 (P : Program) (w0 : World) (k0 : Value → Hp → Prop) : Nat → Value → Value → Value → Value → Hp → Prop
  | 0, _, _, _, _ => fun _ => False
  | m + 1, x3, x11, x12, x13 => seq_Merge_string_api_Entry_B1 P w0 (seq_Merge_string_api_Entry_L1 P w0 k0 m) k0 x3 x11 x12 x13
def seq_Merge_string_api_Entry_E1 (P : Program) (w0 : World) (k0 : Value → Hp → Prop) (x3 x11 x12 x13 : Value) : Hp → Prop := fun h => ∃ m, seq_Merge_string_api_Entry_L1 P w0 k0 m x3 x11 x12 x13 h
def seq_Merge_string_api_Entry_B2 (P : Program) (w0 : World) (R : Value → Value → Hp → Prop) (k2 : Value → Hp → Prop) (x3 x6 : Value) : Hp → Prop :=
 nilA x3 fun v30_15 =>
 addA v30_15 0 fun v31_16 =>
 loadA w0 v31_16 fun v32_17 =>
 pureA (lenSl v32_17) fun v33_18 =>
 pureA (binA .gtr v33_18 (.int .i64 0)) fun v34_19 =>
 condA v34_19 (
 callA P w0 n_seq_heap_seq_head_string_api_Entry_pop [x3] fun v36_20 =>
 newA [(.slice none 0 0), (.int .i64 0)] 2 fun v7_21 =>
 storeNA w0 v7_21 v36_20 2 fun _ =>
 pureA (lenSl x6) fun v38_22 =>
 pureQ (fun K => K v38_22) fun v39_23 =>
 pureQ (pureA (binA .eql v39_23 (.int .i64 0))) fun v40_24 =>
 pureQ (fun K => K v40_24) fun v41_25 =>
 pureQ (guardA v41_25 false (fun K => K x6)) fun v42_26 =>
 pureQ (guardA v41_25 false (fun K => K v38_22)) fun v43_27 =>
 pureQ (guardA v41_25 false (pureA (binA .sub v43_27 (.int .i64 1)))) fun v44_28 =>
 pureQ (guardA v41_25 false (idxSlA 4 v42_26 v44_28)) fun v45_29 =>
 pureQ (guardA v41_25 false (addA v45_29 0)) fun v46_30 =>
 readQ (guardA v41_25 false (loadA w0 v46_30)) fun v47_31 =>
 pureQ (guardA v41_25 false (addA v7_21 0)) fun v48_32 =>
 readQ (guardA v41_25 false (loadA w0 v48_32)) fun v49_33 =>
 pureQ (guardA v41_25 false (idxSlA 4 v49_33 (.int .i64 0))) fun v50_34 =>
 pureQ (guardA v41_25 false (addA v50_34 0)) fun v51_35 =>
 readQ (guardA v41_25 false (loadA w0 v51_35)) fun v52_36 =>
 pureQ (guardA v41_25 false (pureA (binA .neq v47_31 v52_36))) fun v53_37 =>
 pureQ (pickA v41_25 (.bool true) v53_37) fun v54_38 =>
 endA (
 condA v54_38 (
 addA v7_21 0 fun v56_39 =>
 loadA w0 v56_39 fun v57_40 =>
 idxSlA 4 v57_40 (.int .i64 0) fun v58_41 =>
 loadNA w0 v58_41 4 fun v59_42 =>
 bslA [(0, 4, true, v59_42)] (zerosL [(.string .empty), (.string .empty), (.string .empty), (.bool false)] 1) 1 4 fun v60_43 =>
 appA w0 4 56 x6 v60_43 fun v61_44 =>
 addA v7_21 0 fun v62_45 =>
 loadA w0 v62_45 fun v63_46 =>
 pureA (lenSl v63_46) fun v64_47 =>
 pureA (binA .gtr v64_47 (.int .i64 1)) fun v65_48 =>
 condA v65_48 (
 pureQ (fun K => K x3) fun v66_49 =>
 pureQ (addA v7_21 0) fun v67_50 =>
 readQ (loadA w0 v67_50) fun v68_51 =>
 readQ (slSlA 4 v68_51 (some (.int .i64 1)) none none) fun v69_52 =>
 pureQ (addA v7_21 1) fun v70_53 =>
 readQ (loadA w0 v70_53) fun v71_54 =>
 allA [
 (buildA [(0, 1, false, v69_52), (1, 1, false, v71_54)] [(.slice none 0 0), (.int .i64 0)] fun v72_55 =>
 stillA [] (
 allA [
 (callA P w0 n_seq_heap_seq_head_string_api_Entry_push [v66_49, v72_55] fun v73_56 =>
 stillA [] (
 endA (
 R x3 v61_44)))]))]) (
 R x3 v61_44)) (
 addA v7_21 0 fun v62_57 =>
 loadA w0 v62_57 fun v63_58 =>
 pureA (lenSl v63_58) fun v64_59 =>
 pureA (binA .gtr v64_59 (.int .i64 1)) fun v65_60 =>
 condA v65_60 (
 pureQ (fun K => K x3) fun v66_61 =>
 pureQ (addA v7_21 0) fun v67_62 =>
 readQ (loadA w0 v67_62) fun v68_63 =>
 readQ (slSlA 4 v68_63 (some (.int .i64 1)) none none) fun v69_64 =>
 pureQ (addA v7_21 1) fun v70_65 =>
 readQ (loadA w0 v70_65) fun v71_66 =>
 allA [
 (buildA [(0, 1, false, v69_64), (1, 1, false, v71_66)] [(.slice none 0 0), (.int .i64 0)] fun v72_67 =>
 stillA [] (
 allA [
 (callA P w0 n_seq_heap_seq_head_string_api_Entry_push [v66_61, v72_67] fun v73_68 =>
 stillA [] (
 endA (
 R x3 x6)))]))]) (
 R x3 x6)))) (
 k2 x6)
def seq_Merge_string_api_Entry_L2 (P : Program) (w0 : World) (k2 : Value → Hp → Prop) : Nat → Value → Value → Hp → Prop
  | 0, _, _ => fun _ => False
  | m + 1, x3, x6 => seq_Merge_string_api_Entry_B2 P w0 (seq_Merge_string_api_Entry_L2 P w0 k2 m) k2 x3 x6
def seq_Merge_string_api_Entry_E2 (P : Program) (w0 : World) (k2 : Value → Hp → Prop) (x3 x6 : Value) : Hp → Prop := fun h => ∃ m, seq_Merge_string_api_Entry_L2 P w0 k2 m x3 x6 h
def s_seq_Merge_string_api_Entry (P : Program) (w0 : World) (a0 : Value) (R : Kont) : Hp → Prop :=
 buildA [(1, 1, false, (.func (.func n_seq_Merge_string_api_Entry_S1) #[] #[]))] [(.slice none 0 0), .nilFunc] fun v9_1 =>
 boxA true 2 v9_1 fun v10_2 =>
 pureA (lenSl a0) fun v12_3 =>
 seq_Merge_string_api_Entry_E1 P w0 (fun y3_14 =>
 seq_Merge_string_api_Entry_E2 P w0 (fun y6_69 =>
 retA [y6_69] R) y3_14 (.slice none 0 0)) v10_2 a0 v12_3 (.int .i64 0)
theorem seq_Merge_string_api_Entry_L2_eq (w0 : World) (k2 : Value → Hp → Prop) : ∀ (m : Nat) (x3 x6 : Value) (h : Hp), loopA (stepL ⟨prog, w0, 75, ks_seq_Merge_string_api_Entry⟩ (drw w0 75) (loopAt fn_seq_Merge_string_api_Entry 1)) m (mkFr [(3, x3), (6, x6)]) [fun t => k2 (t 6)] h = seq_Merge_string_api_Entry_L2 prog w0 k2 m x3 x6 h := by
  intro m
  induction m with
  | zero => intros; kernel_rfl
  | succ m ih =>
    intro x3 x6 h
    have e : seq_Merge_string_api_Entry_L2 prog w0 k2 m = fun x3 x6 h => loopA (stepL ⟨prog, w0, 75, ks_seq_Merge_string_api_Entry⟩ (drw w0 75) (loopAt fn_seq_Merge_string_api_Entry 1)) m (mkFr [(3, x3), (6, x6)]) [fun t => k2 (t 6)] h := by funext x3 x6 h; exact (ih x3 x6 h).symm
    show _ = seq_Merge_string_api_Entry_B2 prog w0 (seq_Merge_string_api_Entry_L2 prog w0 k2 m) k2 x3 x6 h
    rw [e]
    kernel_rfl
theorem seq_Merge_string_api_Entry_E2_eq (w0 : World) : seq_Merge_string_api_Entry_E2 prog w0 = fun k2 x3 x6 h => ∃ m, loopA (stepL ⟨prog, w0, 75, ks_seq_Merge_string_api_Entry⟩ (drw w0 75) (loopAt fn_seq_Merge_string_api_Entry 1)) m (mkFr [(3, x3), (6, x6)]) [fun t => k2 (t 6)] h := by
  funext k2 x3 x6 h
  exact congrArg Exists (funext fun m => (seq_Merge_string_api_Entry_L2_eq w0 k2 m x3 x6 h).symm)
theorem seq_Merge_string_api_Entry_L1_eq (w0 : World) (k0 : Value → Hp → Prop) : ∀ (m : Nat) (x3 x11 x12 x13 : Value) (h : Hp), loopA (stepL ⟨prog, w0, 75, ks_seq_Merge_string_api_Entry⟩ (drw w0 75) (loopAt fn_seq_Merge_string_api_Entry 0)) m (mkFr [(3, x3), (11, x11), (12, x12), (13, x13)]) [fun t => k0 (t 3)] h = seq_Merge_string_api_Entry_L1 prog w0 k0 m x3 x11 x12 x13 h := by
  intro m
  induction m with
  | zero => intros; kernel_rfl
  | succ m ih =>
    intro x3 x11 x12 x13 h
    have e : seq_Merge_string_api_Entry_L1 prog w0 k0 m = fun x3 x11 x12 x13 h => loopA (stepL ⟨prog, w0, 75, ks_seq_Merge_string_api_Entry⟩ (drw w0 75) (loopAt fn_seq_Merge_string_api_Entry 0)) m (mkFr [(3, x3), (11, x11), (12, x12), (13, x13)]) [fun t => k0 (t 3)] h := by funext x3 x11 x12 x13 h; exact (ih x3 x11 x12 x13 h).symm
    show _ = seq_Merge_string_api_Entry_B1 prog w0 (seq_Merge_string_api_Entry_L1 prog w0 k0 m) k0 x3 x11 x12 x13 h
    rw [e]
    kernel_rfl
theorem seq_Merge_string_api_Entry_E1_eq (w0 : World) : seq_Merge_string_api_Entry_E1 prog w0 = fun k0 x3 x11 x12 x13 h => ∃ m, loopA (stepL ⟨prog, w0, 75, ks_seq_Merge_string_api_Entry⟩ (drw w0 75) (loopAt fn_seq_Merge_string_api_Entry 0)) m (mkFr [(3, x3), (11, x11), (12, x12), (13, x13)]) [fun t => k0 (t 3)] h := by
  funext k0 x3 x11 x12 x13 h
  exact congrArg Exists (funext fun m => (seq_Merge_string_api_Entry_L1_eq w0 k0 m x3 x11 x12 x13 h).symm)
theorem c_seq_Merge_string_api_Entry {w0 : World} {h : Hp} {R : Kont} {a0 : Value} (hj : ∀ v, v ∈ [a0] → v ≠ junk) (hv : s_seq_Merge_string_api_Entry prog w0 a0 R h) : ACalls prog w0 n_seq_Merge_string_api_Entry [a0] h R := by
  have e : vcFn ⟨prog, w0, 75, ks_seq_Merge_string_api_Entry⟩ (drw w0 75) fn_seq_Merge_string_api_Entry [a0] R h = s_seq_Merge_string_api_Entry prog w0 a0 R h := by
    unfold s_seq_Merge_string_api_Entry
    rw [seq_Merge_string_api_Entry_E1_eq w0, seq_Merge_string_api_Entry_E2_eq w0]
    kernel_rfl
  exact acalls_of_eq (fn := fn_seq_Merge_string_api_Entry) (ks := ks_seq_Merge_string_api_Entry) (n := 75) (by kernel_rfl) (by kernel_rfl) (draw_ok (by kernel_rfl)) (by simp) hj e hv

abbrev fn_seq_Map_string_api_Entry_Put : Func := f131
def ks_seq_Map_string_api_Entry_Put : List (Nat × List Nat × List Nat) := []
def s_seq_Map_string_api_Entry_Put (P : Program) (w0 : World) (a0 a1 a2 : Value) (R : Kont) : Hp → Prop :=
 boxA true 3 a2 fun v5_1 =>
 newA [(.string .empty), (.string .empty), (.bool false)] 3 fun v6_2 =>
 newA [(.string .empty), (.string .empty), (.bool false)] 3 fun v8_3 =>
 pureA (binPtrA .eql a0 (.pointer none)) fun v13_4 =>
 condA v13_4 (
 loadNA w0 v8_3 3 fun v14_5 =>
 storeNA w0 v6_2 v14_5 3 fun _ =>
 loadNA w0 v6_2 3 fun v6_6 =>
 retA [v6_6, (.bool false)] R) (
 callA P w0 n_seq_Map_string_api_Entry_find [a0, a1] fun v18_7 =>
 pureA (extA v18_7 0) fun v19_8 =>
 pureA (extA v18_7 1) fun v20_9 =>
 condA v20_9 (
 nilA a0 fun v23_10 =>
 addA v23_10 0 fun v24_11 =>
 loadA w0 v24_11 fun v25_12 =>
 idxSlA 4 v25_12 v19_8 fun v27_13 =>
 addA v27_13 1 fun v28_14 =>
 loadNA w0 v28_14 3 fun v29_15 =>
 newA [(.string .empty), (.string .empty), (.bool false)] 3 fun v11_16 =>
 storeNA w0 v11_16 v29_15 3 fun _ =>
 pureQ (fun K => K a0) fun v30_17 =>
 pureQ (nilA v30_17) fun v31_18 =>
 pureQ (addA v31_18 0) fun v32_19 =>
 readQ (loadA w0 v32_19) fun v33_20 =>
 pureQ (fun K => K v19_8) fun v34_21 =>
 readQ (loadNA w0 v5_1 3) fun v35_22 =>
 pureQ (idxSlA 4 v33_20 v34_21) fun v36_23 =>
 pureQ (addA v36_23 1) fun v37_24 =>
 allA [
 (storeNA w0 v37_24 v35_22 3 fun _ =>
 stillA [] (
 endA (
 loadNA w0 v11_16 3 fun v38_25 =>
 storeNA w0 v6_2 v38_25 3 fun _ =>
 loadNA w0 v6_2 3 fun v6_26 =>
 retA [v6_26, (.bool true)] R)))]) (
 pureQ (fun K => K a0) fun v39_27 =>
 pureQ (fun K => K a0) fun v40_28 =>
 pureQ (nilA v40_28) fun v41_29 =>
 pureQ (addA v41_29 0) fun v42_30 =>
 readQ (loadA w0 v42_30) fun v43_31 =>
 pureQ (fun K => K v19_8) fun v44_32 =>
 pureQ (fun K => K a1) fun v45_33 =>
 readQ (loadNA w0 v5_1 3) fun v46_34 =>
 allA [
 (buildA [(0, 1, false, v45_33), (1, 3, true, v46_34)] [(.string .empty), (.string .empty), (.string .empty), (.bool false)] fun v47_35 =>
 stillA [(sameQ (loadA w0 v42_30) v43_31)] (
 allA [
 (bslA [(0, 4, true, v47_35)] (zerosL [(.string .empty), (.string .empty), (.string .empty), (.bool false)] 1) 1 4 fun v48_36 =>
 stillA [(sameQ (loadA w0 v42_30) v43_31)] (
 allA [
 (callA P w0 n_slices_Insert_lseq_Item_string_api_Entry_seq_Item_string_api_Entry [v43_31, v44_32, v48_36] fun v49_37 =>
 stillA [] (
 pureQ (nilA v39_27) fun v50_38 =>
 pureQ (addA v50_38 0) fun v51_39 =>
 allA [
 (storeA w0 v51_39 v49_37 fun _ =>
 stillA [] (
 endA (
 loadNA w0 v8_3 3 fun v52_40 =>
 storeNA w0 v6_2 v52_40 3 fun _ =>
 loadNA w0 v6_2 3 fun v6_41 =>
 retA [v6_41, (.bool false)] R)))]))]))]))]))
theorem c_seq_Map_string_api_Entry_Put {w0 : World} {h : Hp} {R : Kont} {a0 a1 a2 : Value} (hj : ∀ v, v ∈ [a0, a1, a2] → v ≠ junk) (hv : s_seq_Map_string_api_Entry_Put prog w0 a0 a1 a2 R h) : ACalls prog w0 n_seq_Map_string_api_Entry_Put [a0, a1, a2] h R := by
  have e : vcFn ⟨prog, w0, 53, ks_seq_Map_string_api_Entry_Put⟩ (drw w0 53) fn_seq_Map_string_api_Entry_Put [a0, a1, a2] R h = s_seq_Map_string_api_Entry_Put prog w0 a0 a1 a2 R h := by
    kernel_rfl
  exact acalls_of_eq (fn := fn_seq_Map_string_api_Entry_Put) (ks := ks_seq_Map_string_api_Entry_Put) (n := 53) (by kernel_rfl) (by kernel_rfl) (draw_ok (by kernel_rfl)) (by simp) hj e hv

abbrev fn_seq_Map_string_api_Entry_over : Func := f137
def ks_seq_Map_string_api_Entry_over : List (Nat × List Nat × List Nat) := []
def s_seq_Map_string_api_Entry_over (P : Program) (w0 : World) (a0 a1 : Value) (R : Kont) : Hp → Prop :=
 boxA false 1 a0 fun v2_1 =>
 boxA false 1 a1 fun v3_2 =>
 mkFnA n_seq_Map_string_api_Entry_over_S1 [] [v2_1, v3_2] fun v5_3 =>
 retA [v5_3] R
theorem c_seq_Map_string_api_Entry_over {w0 : World} {h : Hp} {R : Kont} {a0 a1 : Value} (hj : ∀ v, v ∈ [a0, a1] → v ≠ junk) (hv : s_seq_Map_string_api_Entry_over prog w0 a0 a1 R h) : ACalls prog w0 n_seq_Map_string_api_Entry_over [a0, a1] h R := by
  have e : vcFn ⟨prog, w0, 6, ks_seq_Map_string_api_Entry_over⟩ (drw w0 6) fn_seq_Map_string_api_Entry_over [a0, a1] R h = s_seq_Map_string_api_Entry_over prog w0 a0 a1 R h := by
    kernel_rfl
  exact acalls_of_eq (fn := fn_seq_Map_string_api_Entry_over) (ks := ks_seq_Map_string_api_Entry_over) (n := 6) (by kernel_rfl) (by kernel_rfl) (draw_ok (by kernel_rfl)) (by simp) hj e hv

abbrev fn_seq_Map_string_api_Entry_All_S1 : Func := f138
def ks_seq_Map_string_api_Entry_All_S1 : List (Nat × List Nat × List Nat) := []
def s_seq_Map_string_api_Entry_All_S1 (P : Program) (w0 : World) (a0 : Value) (R : Kont) : Hp → Prop :=
 retA [(.bool true)] R
theorem c_seq_Map_string_api_Entry_All_S1 {w0 : World} {h : Hp} {R : Kont} {a0 : Value} (hj : ∀ v, v ∈ [a0] → v ≠ junk) (hv : s_seq_Map_string_api_Entry_All_S1 prog w0 a0 R h) : ACalls prog w0 n_seq_Map_string_api_Entry_All_S1 [a0] h R := by
  have e : vcFn ⟨prog, w0, 3, ks_seq_Map_string_api_Entry_All_S1⟩ (drw w0 3) fn_seq_Map_string_api_Entry_All_S1 [a0] R h = s_seq_Map_string_api_Entry_All_S1 prog w0 a0 R h := by
    kernel_rfl
  exact acalls_of_eq (fn := fn_seq_Map_string_api_Entry_All_S1) (ks := ks_seq_Map_string_api_Entry_All_S1) (n := 3) (by kernel_rfl) (by kernel_rfl) (draw_ok (by kernel_rfl)) (by simp) hj e hv

abbrev fn_seq_Merge_string_api_Entry_S1 : Func := f141
def ks_seq_Merge_string_api_Entry_S1 : List (Nat × List Nat × List Nat) := []
def s_seq_Merge_string_api_Entry_S1 (P : Program) (w0 : World) (a0 a1 : Value) (R : Kont) : Hp → Prop :=
 boxA true 2 a0 fun v2_1 =>
 boxA true 2 a1 fun v3_2 =>
 pureQ (addA v2_1 0) fun v6_3 =>
 readQ (loadA w0 v6_3) fun v7_4 =>
 pureQ (idxSlA 4 v7_4 (.int .i64 0)) fun v8_5 =>
 pureQ (addA v8_5 0) fun v9_6 =>
 readQ (loadA w0 v9_6) fun v10_7 =>
 pureQ (addA v3_2 0) fun v11_8 =>
 readQ (loadA w0 v11_8) fun v12_9 =>
 pureQ (idxSlA 4 v12_9 (.int .i64 0)) fun v13_10 =>
 pureQ (addA v13_10 0) fun v14_11 =>
 readQ (loadA w0 v14_11) fun v15_12 =>
 allA [
 (callA P w0 n_cmp_Compare_string [v10_7, v15_12] fun v16_13 =>
 stillA [] (
 pureQ (fun K => K v16_13) fun v5_14 =>
 endA (
 pureA (binA .lss v5_14 (.int .i64 0)) fun v18_15 =>
 guardA v18_15 false (fun K => K v5_14) fun v20_16 =>
 guardA v18_15 false (pureA (binA .eql v20_16 (.int .i64 0))) fun v21_17 =>
 guardA v18_15 false (fun K => K v21_17) fun v22_18 =>
 guardA v22_18 true (addA v2_1 1) fun v23_19 =>
 guardA v22_18 true (loadA w0 v23_19) fun v24_20 =>
 guardA v22_18 true (addA v3_2 1) fun v25_21 =>
 guardA v22_18 true (loadA w0 v25_21) fun v26_22 =>
 guardA v22_18 true (pureA (binA .lss v24_20 v26_22)) fun v27_23 =>
 guardA v18_15 false (pickA v22_18 v27_23 (.bool false)) fun v28_24 =>
 pickA v18_15 (.bool true) v28_24 fun v29_25 =>
 retA [v29_25] R)))]
theorem c_seq_Merge_string_api_Entry_S1 {w0 : World} {h : Hp} {R : Kont} {a0 a1 : Value} (hj : ∀ v, v ∈ [a0, a1] → v ≠ junk) (hv : s_seq_Merge_string_api_Entry_S1 prog w0 a0 a1 R h) : ACalls prog w0 n_seq_Merge_string_api_Entry_S1 [a0, a1] h R := by
  have e : vcFn ⟨prog, w0, 30, ks_seq_Merge_string_api_Entry_S1⟩ (drw w0 30) fn_seq_Merge_string_api_Entry_S1 [a0, a1] R h = s_seq_Merge_string_api_Entry_S1 prog w0 a0 a1 R h := by
    kernel_rfl
  exact acalls_of_eq (fn := fn_seq_Merge_string_api_Entry_S1) (ks := ks_seq_Merge_string_api_Entry_S1) (n := 30) (by kernel_rfl) (by kernel_rfl) (draw_ok (by kernel_rfl)) (by simp) hj e hv

abbrev fn_seq_sorted_string_api_Entry : Func := f143
def ks_seq_sorted_string_api_Entry : List (Nat × List Nat × List Nat) := [(3, [3, 7, 8, 9], [3])]
def seq_sorted_string_api_Entry_B1 (P : Program) (w0 : World) (R : Value → Value → Value → Value → Hp → Prop) (k0 : Value → Hp → Prop) (x3 x7 x8 x9 : Value) : Hp → Prop :=
 pureA (binA .lss x9 x8) fun v10_2 =>
 condA v10_2 (
 idxSlA 4 x7 x9 fun v11_3 =>
 loadNA w0 v11_3 4 fun v12_4 =>
 newA [(.string .empty), (.string .empty), (.string .empty), (.bool false)] 4 fun v5_5 =>
 storeNA w0 v5_5 v12_4 4 fun _ =>
 pureA (lenSl x3) fun v14_6 =>
 pureQ (fun K => K v14_6) fun v15_7 =>
 pureQ (pureA (binA .eql v15_7 (.int .i64 0))) fun v16_8 =>
 pureQ (fun K => K v16_8) fun v17_9 =>
 pureQ (guardA v17_9 false (addA v5_5 0)) fun v18_10 =>
 readQ (guardA v17_9 false (loadA w0 v18_10)) fun v19_11 =>
 pureQ (guardA v17_9 false (fun K => K x3)) fun v20_12 =>
 pureQ (guardA v17_9 false (fun K => K v14_6)) fun v21_13 =>
 pureQ (guardA v17_9 false (pureA (binA .sub v21_13 (.int .i64 1)))) fun v22_14 =>
 pureQ (guardA v17_9 false (idxSlA 4 v20_12 v22_14)) fun v23_15 =>
 pureQ (guardA v17_9 false (addA v23_15 0)) fun v24_16 =>
 readQ (guardA v17_9 false (loadA w0 v24_16)) fun v25_17 =>
 pureQ (guardA v17_9 false (pureA (binA .gtr v19_11 v25_17))) fun v26_18 =>
 pureQ (pickA v17_9 (.bool true) v26_18) fun v27_19 =>
 endA (
 condA v27_19 (
 loadNA w0 v5_5 4 fun v29_20 =>
 bslA [(0, 4, true, v29_20)] (zerosL [(.string .empty), (.string .empty), (.string .empty), (.bool false)] 1) 1 4 fun v30_21 =>
 appA w0 4 56 x3 v30_21 fun v31_22 =>
 pureA (binA .add x9 (.int .i64 1)) fun v32_23 =>
 R v31_22 x7 x8 v32_23) (
 pureA (binA .add x9 (.int .i64 1)) fun v32_24 =>
 R x3 x7 x8 v32_24))) (
 k0 x3)
def seq_sorted_string_api_Entry_L1 (P : Program) (w0 : World) (k0 : Value → Hp → Prop) : Nat → Value → Value → Value → Value → Hp → Prop
  | 0, _, _, _, _ => fun _ => False
  | m + 1, x3, x7, x8, x9 => seq_sorted_string_api_Entry_B1 P w0 (seq_sorted_string_api_Entry_L1 P w0 k0 m) k0 x3 x7 x8 x9
def seq_sorted_string_api_Entry_E1 (P : Program) (w0 : World) (k0 : Value → Hp → Prop) (x3 x7 x8 x9 : Value) : Hp → Prop := fun h => ∃ m, seq_sorted_string_api_Entry_L1 P w0 k0 m x3 x7 x8 x9 h
def s_seq_sorted_string_api_Entry (P : Program) (w0 : World) (a0 : Value) (R : Kont) : Hp → Prop :=
 pureA (lenSl a0) fun v8_1 =>
 seq_sorted_string_api_Entry_E1 P w0 (fun y3_25 =>
 retA [y3_25] R) (.slice none 0 0) a0 v8_1 (.int .i64 0)
theorem seq_sorted_string_api_Entry_L1_eq (w0 : World) (k0 : Value → Hp → Prop) : ∀ (m : Nat) (x3 x7 x8 x9 : Value) (h : Hp), loopA (stepL ⟨prog, w0, 34, ks_seq_sorted_string_api_Entry⟩ (drw w0 34) (loopAt fn_seq_sorted_string_api_Entry 0)) m (mkFr [(3, x3), (7, x7), (8, x8), (9, x9)]) [fun t => k0 (t 3)] h = seq_sorted_string_api_Entry_L1 prog w0 k0 m x3 x7 x8 x9 h := by
  intro m
  induction m with
  | zero => intros; kernel_rfl
  | succ m ih =>
    intro x3 x7 x8 x9 h
    have e : seq_sorted_string_api_Entry_L1 prog w0 k0 m = fun x3 x7 x8 x9 h => loopA (stepL ⟨prog, w0, 34, ks_seq_sorted_string_api_Entry⟩ (drw w0 34) (loopAt fn_seq_sorted_string_api_Entry 0)) m (mkFr [(3, x3), (7, x7), (8, x8), (9, x9)]) [fun t => k0 (t 3)] h := by funext x3 x7 x8 x9 h; exact (ih x3 x7 x8 x9 h).symm
    show _ = seq_sorted_string_api_Entry_B1 prog w0 (seq_sorted_string_api_Entry_L1 prog w0 k0 m) k0 x3 x7 x8 x9 h
    rw [e]
    kernel_rfl
theorem seq_sorted_string_api_Entry_E1_eq (w0 : World) : seq_sorted_string_api_Entry_E1 prog w0 = fun k0 x3 x7 x8 x9 h => ∃ m, loopA (stepL ⟨prog, w0, 34, ks_seq_sorted_string_api_Entry⟩ (drw w0 34) (loopAt fn_seq_sorted_string_api_Entry 0)) m (mkFr [(3, x3), (7, x7), (8, x8), (9, x9)]) [fun t => k0 (t 3)] h := by
  funext k0 x3 x7 x8 x9 h
  exact congrArg Exists (funext fun m => (seq_sorted_string_api_Entry_L1_eq w0 k0 m x3 x7 x8 x9 h).symm)
theorem c_seq_sorted_string_api_Entry {w0 : World} {h : Hp} {R : Kont} {a0 : Value} (hj : ∀ v, v ∈ [a0] → v ≠ junk) (hv : s_seq_sorted_string_api_Entry prog w0 a0 R h) : ACalls prog w0 n_seq_sorted_string_api_Entry [a0] h R := by
  have e : vcFn ⟨prog, w0, 34, ks_seq_sorted_string_api_Entry⟩ (drw w0 34) fn_seq_sorted_string_api_Entry [a0] R h = s_seq_sorted_string_api_Entry prog w0 a0 R h := by
    unfold s_seq_sorted_string_api_Entry
    rw [seq_sorted_string_api_Entry_E1_eq w0]
    kernel_rfl
  exact acalls_of_eq (fn := fn_seq_sorted_string_api_Entry) (ks := ks_seq_sorted_string_api_Entry) (n := 34) (by kernel_rfl) (by kernel_rfl) (draw_ok (by kernel_rfl)) (by simp) hj e hv

abbrev fn_seq_heap_seq_head_string_api_Entry_push : Func := f144
def ks_seq_heap_seq_head_string_api_Entry_push : List (Nat × List Nat × List Nat) := [(3, [0, 4], [])]
def seq_heap_seq_head_string_api_Entry_push_B1 (P : Program) (w0 : World) (R : Value → Value → Hp → Prop) (k0 : Hp → Prop) (kr : Hp → Prop) (x0 x4 : Value) : Hp → Prop :=
 pureA (binA .gtr x4 (.int .i64 0)) fun v23_17 =>
 condA v23_17 (
 pureA (binA .sub x4 (.int .i64 1)) fun v25_18 =>
 pureA (binA .quo v25_18 (.int .i64 2)) fun v26_19 =>
 pureQ (fun K => K x0) fun v27_20 =>
 pureQ (nilA v27_20) fun v28_21 =>
 pureQ (addA v28_21 1) fun v29_22 =>
 readQ (loadA w0 v29_22) fun v30_23 =>
 pureQ (fun K => K x0) fun v31_24 =>
 pureQ (nilA v31_24) fun v32_25 =>
 pureQ (addA v32_25 0) fun v33_26 =>
 readQ (loadA w0 v33_26) fun v34_27 =>
 pureQ (fun K => K x4) fun v35_28 =>
 pureQ (idxSlA 2 v34_27 v35_28) fun v36_29 =>
 readQ (loadNA w0 v36_29 2) fun v37_30 =>
 pureQ (fun K => K x0) fun v38_31 =>
 pureQ (nilA v38_31) fun v39_32 =>
 pureQ (addA v39_32 0) fun v40_33 =>
 readQ (loadA w0 v40_33) fun v41_34 =>
 pureQ (fun K => K v26_19) fun v42_35 =>
 pureQ (idxSlA 2 v41_34 v42_35) fun v43_36 =>
 readQ (loadNA w0 v43_36 2) fun v44_37 =>
 allA [
 (callVA P w0 v30_23 [v37_30, v44_37] fun v45_38 =>
 stillA [] (
 pureQ (pureA (unA .not v45_38)) fun v46_39 =>
 endA (
 condA v46_39 (
 kr) (
 pureQ (fun K => K x0) fun v47_40 =>
 pureQ (nilA v47_40) fun v48_41 =>
 pureQ (addA v48_41 0) fun v49_42 =>
 readQ (loadA w0 v49_42) fun v50_43 =>
 pureQ (fun K => K x4) fun v51_44 =>
 pureQ (fun K => K x0) fun v52_45 =>
 pureQ (nilA v52_45) fun v53_46 =>
 pureQ (addA v53_46 0) fun v54_47 =>
 readQ (loadA w0 v54_47) fun v55_48 =>
 pureQ (fun K => K v26_19) fun v56_49 =>
 pureQ (fun K => K x0) fun v57_50 =>
 pureQ (nilA v57_50) fun v58_51 =>
 pureQ (addA v58_51 0) fun v59_52 =>
 readQ (loadA w0 v59_52) fun v60_53 =>
 pureQ (fun K => K v26_19) fun v61_54 =>
 pureQ (idxSlA 2 v60_53 v61_54) fun v62_55 =>
 readQ (loadNA w0 v62_55 2) fun v63_56 =>
 pureQ (fun K => K x0) fun v64_57 =>
 pureQ (nilA v64_57) fun v65_58 =>
 pureQ (addA v65_58 0) fun v66_59 =>
 readQ (loadA w0 v66_59) fun v67_60 =>
 pureQ (fun K => K x4) fun v68_61 =>
 pureQ (idxSlA 2 v67_60 v68_61) fun v69_62 =>
 readQ (loadNA w0 v69_62 2) fun v70_63 =>
 pureQ (idxSlA 2 v50_43 v51_44) fun v71_64 =>
 allA [
 (storeNA w0 v71_64 v63_56 2 fun _ =>
 stillA [] (
 pureQ (idxSlA 2 v55_48 v56_49) fun v72_65 =>
 allA [
 (storeNA w0 v72_65 v70_63 2 fun _ =>
 stillA [] (
 endA (
 R x0 v26_19)))]))]))))]) (
 k0)
def seq_heap_seq_head_string_api_Entry_push_L1 (P : Program) (w0 : World) (k0 : Hp → Prop) (kr : Hp → Prop) : Nat → Value → Value → Hp → Prop
  | 0, _, _ => fun _ => False
  | m + 1, x0, x4 => seq_heap_seq_head_string_api_Entry_push_B1 P w0 (seq_heap_seq_head_string_api_Entry_push_L1 P w0 k0 kr m) k0 kr x0 x4
def seq_heap_seq_head_string_api_Entry_push_E1 (P : Program) (w0 : World) (k0 : Hp → Prop) (kr : Hp → Prop) (x0 x4 : Value) : Hp → Prop := fun h => ∃ m, seq_heap_seq_head_string_api_Entry_push_L1 P w0 k0 kr m x0 x4 h
def s_seq_heap_seq_head_string_api_Entry_push (P : Program) (w0 : World) (a0 a1 : Value) (R : Kont) : Hp → Prop :=
 boxA true 2 a1 fun v3_1 =>
 pureQ (fun K => K a0) fun v6_2 =>
 pureQ (fun K => K a0) fun v7_3 =>
 pureQ (nilA v7_3) fun v8_4 =>
 pureQ (addA v8_4 0) fun v9_5 =>
 readQ (loadA w0 v9_5) fun v10_6 =>
 readQ (loadNA w0 v3_1 2) fun v11_7 =>
 allA [
 (bslA [(0, 2, true, v11_7)] (zerosL [(.slice none 0 0), (.int .i64 0)] 1) 1 2 fun v12_8 =>
 stillA [(sameQ (loadA w0 v9_5) v10_6)] (
 allA [
 (appA w0 2 32 v10_6 v12_8 fun v13_9 =>
 stillA [] (
 pureQ (nilA v6_2) fun v14_10 =>
 pureQ (addA v14_10 0) fun v15_11 =>
 allA [
 (storeA w0 v15_11 v13_9 fun _ =>
 stillA [] (
 endA (
 nilA a0 fun v17_12 =>
 addA v17_12 0 fun v18_13 =>
 loadA w0 v18_13 fun v19_14 =>
 pureA (lenSl v19_14) fun v20_15 =>
 pureA (binA .sub v20_15 (.int .i64 1)) fun v21_16 =>
 seq_heap_seq_head_string_api_Entry_push_E1 P w0 (
 retA [] R) (
 retA [] R) a0 v21_16)))]))]))]
theorem seq_heap_seq_head_string_api_Entry_push_L1_eq (w0 : World) (k0 : Hp → Prop) (kr : Hp → Prop) : ∀ (m : Nat) (x0 x4 : Value) (h : Hp), loopA (stepL ⟨prog, w0, 74, ks_seq_heap_seq_head_string_api_Entry_push⟩ (drw w0 74) (loopAt fn_seq_heap_seq_head_string_api_Entry_push 0)) m (mkFr [(0, x0), (4, x4)]) [fun t => k0, fun t => kr] h = seq_heap_seq_head_string_api_Entry_push_L1 prog w0 k0 kr m x0 x4 h := by
  intro m
  induction m with
  | zero => intros; kernel_rfl
  | succ m ih =>
    intro x0 x4 h
    have e : seq_heap_seq_head_string_api_Entry_push_L1 prog w0 k0 kr m = fun x0 x4 h => loopA (stepL ⟨prog, w0, 74, ks_seq_heap_seq_head_string_api_Entry_push⟩ (drw w0 74) (loopAt fn_seq_heap_seq_head_string_api_Entry_push 0)) m (mkFr [(0, x0), (4, x4)]) [fun t => k0, fun t => kr] h := by funext x0 x4 h; exact (ih x0 x4 h).symm
    show _ = seq_heap_seq_head_string_api_Entry_push_B1 prog w0 (seq_heap_seq_head_string_api_Entry_push_L1 prog w0 k0 kr m) k0 kr x0 x4 h
    rw [e]
    kernel_rfl
theorem seq_heap_seq_head_string_api_Entry_push_E1_eq (w0 : World) : seq_heap_seq_head_string_api_Entry_push_E1 prog w0 = fun k0 kr x0 x4 h => ∃ m, loopA (stepL ⟨prog, w0, 74, ks_seq_heap_seq_head_string_api_Entry_push⟩ (drw w0 74) (loopAt fn_seq_heap_seq_head_string_api_Entry_push 0)) m (mkFr [(0, x0), (4, x4)]) [fun t => k0, fun t => kr] h := by
  funext k0 kr x0 x4 h
  exact congrArg Exists (funext fun m => (seq_heap_seq_head_string_api_Entry_push_L1_eq w0 k0 kr m x0 x4 h).symm)
theorem c_seq_heap_seq_head_string_api_Entry_push {w0 : World} {h : Hp} {R : Kont} {a0 a1 : Value} (hj : ∀ v, v ∈ [a0, a1] → v ≠ junk) (hv : s_seq_heap_seq_head_string_api_Entry_push prog w0 a0 a1 R h) : ACalls prog w0 n_seq_heap_seq_head_string_api_Entry_push [a0, a1] h R := by
  have e : vcFn ⟨prog, w0, 74, ks_seq_heap_seq_head_string_api_Entry_push⟩ (drw w0 74) fn_seq_heap_seq_head_string_api_Entry_push [a0, a1] R h = s_seq_heap_seq_head_string_api_Entry_push prog w0 a0 a1 R h := by
    unfold s_seq_heap_seq_head_string_api_Entry_push
    rw [seq_heap_seq_head_string_api_Entry_push_E1_eq w0]
    kernel_rfl
  exact acalls_of_eq (fn := fn_seq_heap_seq_head_string_api_Entry_push) (ks := ks_seq_heap_seq_head_string_api_Entry_push) (n := 74) (by kernel_rfl) (by kernel_rfl) (draw_ok (by kernel_rfl)) (by simp) hj e hv

abbrev fn_seq_heap_seq_head_string_api_Entry_pop : Func := f145
def ks_seq_heap_seq_head_string_api_Entry_pop : List (Nat × List Nat × List Nat) := [(8, [0, 2, 3, 4, 6], [2])]
def seq_heap_seq_head_string_api_Entry_pop_B1 (P : Program) (w0 : World) (R : Value → Value → Value → Value → Value → Hp → Prop) (kr : Value → Hp → Prop) (x0 x2 x3 x4 x6 : Value) : Hp → Prop :=
 pureA (binA .mul (.int .i64 2) x6) fun v49_39 =>
 pureA (binA .add v49_39 (.int .i64 1)) fun v50_40 =>
 pureA (binA .geq v50_40 x4) fun v53_41 =>
 condA v53_41 (
 loadNA w0 x3 2 fun v54_42 =>
 storeNA w0 x2 v54_42 2 fun _ =>
 kr x2) (
 pureQ (fun K => K v50_40) fun v55_43 =>
 pureQ (pureA (binA .add v55_43 (.int .i64 1))) fun v56_44 =>
 pureQ (fun K => K x4) fun v57_45 =>
 pureQ (pureA (binA .lss v56_44 v57_45)) fun v58_46 =>
 pureQ (fun K => K v58_46) fun v59_47 =>
 pureQ (guardA v59_47 true (fun K => K x0)) fun v60_48 =>
 pureQ (guardA v59_47 true (nilA v60_48)) fun v61_49 =>
 pureQ (guardA v59_47 true (addA v61_49 1)) fun v62_50 =>
 readQ (guardA v59_47 true (loadA w0 v62_50)) fun v63_51 =>
 pureQ (guardA v59_47 true (fun K => K x0)) fun v64_52 =>
 pureQ (guardA v59_47 true (nilA v64_52)) fun v65_53 =>
 pureQ (guardA v59_47 true (addA v65_53 0)) fun v66_54 =>
 readQ (guardA v59_47 true (loadA w0 v66_54)) fun v67_55 =>
 pureQ (guardA v59_47 true (fun K => K v50_40)) fun v68_56 =>
 pureQ (guardA v59_47 true (pureA (binA .add v68_56 (.int .i64 1)))) fun v69_57 =>
 pureQ (guardA v59_47 true (idxSlA 2 v67_55 v69_57)) fun v70_58 =>
 readQ (guardA v59_47 true (loadNA w0 v70_58 2)) fun v71_59 =>
 pureQ (guardA v59_47 true (fun K => K x0)) fun v72_60 =>
 pureQ (guardA v59_47 true (nilA v72_60)) fun v73_61 =>
 pureQ (guardA v59_47 true (addA v73_61 0)) fun v74_62 =>
 readQ (guardA v59_47 true (loadA w0 v74_62)) fun v75_63 =>
 pureQ (guardA v59_47 true (fun K => K v50_40)) fun v76_64 =>
 pureQ (guardA v59_47 true (idxSlA 2 v75_63 v76_64)) fun v77_65 =>
 readQ (guardA v59_47 true (loadNA w0 v77_65 2)) fun v78_66 =>
 allA [
 (guardA v59_47 true (callVA P w0 v63_51 [v71_59, v78_66]) fun v79_67 =>
 stillA [] (
 pureQ (pickA v59_47 v79_67 (.bool false)) fun v80_68 =>
 endA (
 condA v80_68 (
 pureA (binA .add v50_40 (.int .i64 1)) fun v82_69 =>
 pureQ (fun K => K x0) fun v83_70 =>
 pureQ (nilA v83_70) fun v84_71 =>
 pureQ (addA v84_71 1) fun v85_72 =>
 readQ (loadA w0 v85_72) fun v86_73 =>
 pureQ (fun K => K x0) fun v87_74 =>
 pureQ (nilA v87_74) fun v88_75 =>
 pureQ (addA v88_75 0) fun v89_76 =>
 readQ (loadA w0 v89_76) fun v90_77 =>
 pureQ (fun K => K v82_69) fun v91_78 =>
 pureQ (idxSlA 2 v90_77 v91_78) fun v92_79 =>
 readQ (loadNA w0 v92_79 2) fun v93_80 =>
 pureQ (fun K => K x0) fun v94_81 =>
 pureQ (nilA v94_81) fun v95_82 =>
 pureQ (addA v95_82 0) fun v96_83 =>
 readQ (loadA w0 v96_83) fun v97_84 =>
 pureQ (fun K => K x6) fun v98_85 =>
 pureQ (idxSlA 2 v97_84 v98_85) fun v99_86 =>
 readQ (loadNA w0 v99_86 2) fun v100_87 =>
 allA [
 (callVA P w0 v86_73 [v93_80, v100_87] fun v101_88 =>
 stillA [] (
 pureQ (pureA (unA .not v101_88)) fun v102_89 =>
 endA (
 condA v102_89 (
 loadNA w0 x3 2 fun v103_90 =>
 storeNA w0 x2 v103_90 2 fun _ =>
 kr x2) (
 pureQ (fun K => K x0) fun v104_91 =>
 pureQ (nilA v104_91) fun v105_92 =>
 pureQ (addA v105_92 0) fun v106_93 =>
 readQ (loadA w0 v106_93) fun v107_94 =>
 pureQ (fun K => K x6) fun v108_95 =>
 pureQ (fun K => K x0) fun v109_96 =>
 pureQ (nilA v109_96) fun v110_97 =>
 pureQ (addA v110_97 0) fun v111_98 =>
 readQ (loadA w0 v111_98) fun v112_99 =>
 pureQ (fun K => K v82_69) fun v113_100 =>
 pureQ (fun K => K x0) fun v114_101 =>
 pureQ (nilA v114_101) fun v115_102 =>
 pureQ (addA v115_102 0) fun v116_103 =>
 readQ (loadA w0 v116_103) fun v117_104 =>
 pureQ (fun K => K v82_69) fun v118_105 =>
 pureQ (idxSlA 2 v117_104 v118_105) fun v119_106 =>
 readQ (loadNA w0 v119_106 2) fun v120_107 =>
 pureQ (fun K => K x0) fun v121_108 =>
 pureQ (nilA v121_108) fun v122_109 =>
 pureQ (addA v122_109 0) fun v123_110 =>
 readQ (loadA w0 v123_110) fun v124_111 =>
 pureQ (fun K => K x6) fun v125_112 =>
 pureQ (idxSlA 2 v124_111 v125_112) fun v126_113 =>
 readQ (loadNA w0 v126_113 2) fun v127_114 =>
 pureQ (idxSlA 2 v107_94 v108_95) fun v128_115 =>
 allA [
 (storeNA w0 v128_115 v120_107 2 fun _ =>
 stillA [] (
 pureQ (idxSlA 2 v112_99 v113_100) fun v129_116 =>
 allA [
 (storeNA w0 v129_116 v127_114 2 fun _ =>
 stillA [] (
 endA (
 R x0 x2 x3 x4 v82_69)))]))]))))]) (
 pureQ (fun K => K x0) fun v83_117 =>
 pureQ (nilA v83_117) fun v84_118 =>
 pureQ (addA v84_118 1) fun v85_119 =>
 readQ (loadA w0 v85_119) fun v86_120 =>
 pureQ (fun K => K x0) fun v87_121 =>
 pureQ (nilA v87_121) fun v88_122 =>
 pureQ (addA v88_122 0) fun v89_123 =>
 readQ (loadA w0 v89_123) fun v90_124 =>
 pureQ (fun K => K v50_40) fun v91_125 =>
 pureQ (idxSlA 2 v90_124 v91_125) fun v92_126 =>
 readQ (loadNA w0 v92_126 2) fun v93_127 =>
 pureQ (fun K => K x0) fun v94_128 =>
 pureQ (nilA v94_128) fun v95_129 =>
 pureQ (addA v95_129 0) fun v96_130 =>
 readQ (loadA w0 v96_130) fun v97_131 =>
 pureQ (fun K => K x6) fun v98_132 =>
 pureQ (idxSlA 2 v97_131 v98_132) fun v99_133 =>
 readQ (loadNA w0 v99_133 2) fun v100_134 =>
 allA [
 (callVA P w0 v86_120 [v93_127, v100_134] fun v101_135 =>
 stillA [] (
 pureQ (pureA (unA .not v101_135)) fun v102_136 =>
 endA (
 condA v102_136 (
 loadNA w0 x3 2 fun v103_137 =>
 storeNA w0 x2 v103_137 2 fun _ =>
 kr x2) (
 pureQ (fun K => K x0) fun v104_138 =>
 pureQ (nilA v104_138) fun v105_139 =>
 pureQ (addA v105_139 0) fun v106_140 =>
 readQ (loadA w0 v106_140) fun v107_141 =>
 pureQ (fun K => K x6) fun v108_142 =>
 pureQ (fun K => K x0) fun v109_143 =>
 pureQ (nilA v109_143) fun v110_144 =>
 pureQ (addA v110_144 0) fun v111_145 =>
 readQ (loadA w0 v111_145) fun v112_146 =>
 pureQ (fun K => K v50_40) fun v113_147 =>
 pureQ (fun K => K x0) fun v114_148 =>
 pureQ (nilA v114_148) fun v115_149 =>
 pureQ (addA v115_149 0) fun v116_150 =>
 readQ (loadA w0 v116_150) fun v117_151 =>
 pureQ (fun K => K v50_40) fun v118_152 =>
 pureQ (idxSlA 2 v117_151 v118_152) fun v119_153 =>
 readQ (loadNA w0 v119_153 2) fun v120_154 =>
 pureQ (fun K => K x0) fun v121_155 =>
 pureQ (nilA v121_155) fun v122_156 =>
 pureQ (addA v122_156 0) fun v123_157 =>
 readQ (loadA w0 v123_157) fun v124_158 =>
 pureQ (fun K => K x6) fun v125_159 =>
 pureQ (idxSlA 2 v124_158 v125_159) fun v126_160 =>
 readQ (loadNA w0 v126_160 2) fun v127_161 =>
 pureQ (idxSlA 2 v107_141 v108_142) fun v128_162 =>
 allA [
 (storeNA w0 v128_162 v120_154 2 fun _ =>
 stillA [] (
 pureQ (idxSlA 2 v112_146 v113_147) fun v129_163 =>
 allA [
 (storeNA w0 v129_163 v127_161 2 fun _ =>
 stillA [] (
 endA (
 R x0 x2 x3 x4 v50_40)))]))]))))]))))])
def seq_heap_seq_head_string_api_Entry_pop_L1 (P : Program) (w0 : World) (kr : Value → Hp → Prop) : Nat → Value → Value → Value → Value → Value → Hp → Prop
  | 0, _, _, _, _, _ => fun _ => False
  | m + 1, x0, x2, x3, x4, x6 => seq_heap_seq_head_string_api_Entry_pop_B1 P w0 (seq_heap_seq_head_string_api_Entry_pop_L1 P w0 kr m) kr x0 x2 x3 x4 x6
def seq_heap_seq_head_string_api_Entry_pop_E1 (P : Program) (w0 : World) (kr : Value → Hp → Prop) (x0 x2 x3 x4 x6 : Value) : Hp → Prop := fun h => ∃ m, seq_heap_seq_head_string_api_Entry_pop_L1 P w0 kr m x0 x2 x3 x4 x6 h
def s_seq_heap_seq_head_string_api_Entry_pop (P : Program) (w0 : World) (a0 : Value) (R : Kont) : Hp → Prop :=
 newA [(.slice none 0 0), (.int .i64 0)] 2 fun v2_1 =>
 nilA a0 fun v9_2 =>
 addA v9_2 0 fun v10_3 =>
 loadA w0 v10_3 fun v11_4 =>
 idxSlA 2 v11_4 (.int .i64 0) fun v12_5 =>
 loadNA w0 v12_5 2 fun v13_6 =>
 newA [(.slice none 0 0), (.int .i64 0)] 2 fun v3_7 =>
 storeNA w0 v3_7 v13_6 2 fun _ =>
 nilA a0 fun v15_8 =>
 addA v15_8 0 fun v16_9 =>
 loadA w0 v16_9 fun v17_10 =>
 pureA (lenSl v17_10) fun v18_11 =>
 pureA (binA .sub v18_11 (.int .i64 1)) fun v19_12 =>
 pureQ (fun K => K a0) fun v20_13 =>
 pureQ (nilA v20_13) fun v21_14 =>
 pureQ (addA v21_14 0) fun v22_15 =>
 readQ (loadA w0 v22_15) fun v23_16 =>
 pureQ (fun K => K a0) fun v24_17 =>
 pureQ (nilA v24_17) fun v25_18 =>
 pureQ (addA v25_18 0) fun v26_19 =>
 readQ (loadA w0 v26_19) fun v27_20 =>
 pureQ (fun K => K v19_12) fun v28_21 =>
 pureQ (idxSlA 2 v27_20 v28_21) fun v29_22 =>
 readQ (loadNA w0 v29_22 2) fun v30_23 =>
 pureQ (idxSlA 2 v23_16 (.int .i64 0)) fun v31_24 =>
 allA [
 (storeNA w0 v31_24 v30_23 2 fun _ =>
 stillA [] (
 endA (
 newA [(.slice none 0 0), (.int .i64 0)] 2 fun v5_25 =>
 pureQ (fun K => K a0) fun v32_26 =>
 pureQ (nilA v32_26) fun v33_27 =>
 pureQ (addA v33_27 0) fun v34_28 =>
 readQ (loadA w0 v34_28) fun v35_29 =>
 pureQ (fun K => K v19_12) fun v36_30 =>
 readQ (loadNA w0 v5_25 2) fun v37_31 =>
 pureQ (idxSlA 2 v35_29 v36_30) fun v38_32 =>
 allA [
 (storeNA w0 v38_32 v37_31 2 fun _ =>
 stillA [] (
 endA (
 nilA a0 fun v41_33 =>
 addA v41_33 0 fun v42_34 =>
 loadA w0 v42_34 fun v43_35 =>
 slSlA 2 v43_35 none (some v19_12) none fun v45_36 =>
 nilA a0 fun v46_37 =>
 addA v46_37 0 fun v47_38 =>
 storeA w0 v47_38 v45_36 fun _ =>
 seq_heap_seq_head_string_api_Entry_pop_E1 P w0 (fun y2_164 =>
 loadNA w0 y2_164 2 fun v2_165 =>
 retA [v2_165] R) a0 v2_1 v3_7 v19_12 (.int .i64 0))))])))]
theorem seq_heap_seq_head_string_api_Entry_pop_L1_eq (w0 : World) (kr : Value → Hp → Prop) : ∀ (m : Nat) (x0 x2 x3 x4 x6 : Value) (h : Hp), loopA (stepL ⟨prog, w0, 131, ks_seq_heap_seq_head_string_api_Entry_pop⟩ (drw w0 131) (loopAt fn_seq_heap_seq_head_string_api_Entry_pop 0)) m (mkFr [(0, x0), (2, x2), (3, x3), (4, x4), (6, x6)]) [fun t => kr (t 2)] h = seq_heap_seq_head_string_api_Entry_pop_L1 prog w0 kr m x0 x2 x3 x4 x6 h := by
  intro m
  induction m with
  | zero => intros; kernel_rfl
  | succ m ih =>
    intro x0 x2 x3 x4 x6 h
    have e : seq_heap_seq_head_string_api_Entry_pop_L1 prog w0 kr m = fun x0 x2 x3 x4 x6 h => loopA (stepL ⟨prog, w0, 131, ks_seq_heap_seq_head_string_api_Entry_pop⟩ (drw w0 131) (loopAt fn_seq_heap_seq_head_string_api_Entry_pop 0)) m (mkFr [(0, x0), (2, x2), (3, x3), (4, x4), (6, x6)]) [fun t => kr (t 2)] h := by funext x0 x2 x3 x4 x6 h; exact (ih x0 x2 x3 x4 x6 h).symm
    show _ = seq_heap_seq_head_string_api_Entry_pop_B1 prog w0 (seq_heap_seq_head_string_api_Entry_pop_L1 prog w0 kr m) kr x0 x2 x3 x4 x6 h
    rw [e]
    kernel_rfl
theorem seq_heap_seq_head_string_api_Entry_pop_E1_eq (w0 : World) : seq_heap_seq_head_string_api_Entry_pop_E1 prog w0 = fun kr x0 x2 x3 x4 x6 h => ∃ m, loopA (stepL ⟨prog, w0, 131, ks_seq_heap_seq_head_string_api_Entry_pop⟩ (drw w0 131) (loopAt fn_seq_heap_seq_head_string_api_Entry_pop 0)) m (mkFr [(0, x0), (2, x2), (3, x3), (4, x4), (6, x6)]) [fun t => kr (t 2)] h := by
  funext kr x0 x2 x3 x4 x6 h
  exact congrArg Exists (funext fun m => (seq_heap_seq_head_string_api_Entry_pop_L1_eq w0 kr m x0 x2 x3 x4 x6 h).symm)
theorem c_seq_heap_seq_head_string_api_Entry_pop {w0 : World} {h : Hp} {R : Kont} {a0 : Value} (hj : ∀ v, v ∈ [a0] → v ≠ junk) (hv : s_seq_heap_seq_head_string_api_Entry_pop prog w0 a0 R h) : ACalls prog w0 n_seq_heap_seq_head_string_api_Entry_pop [a0] h R := by
  have e : vcFn ⟨prog, w0, 131, ks_seq_heap_seq_head_string_api_Entry_pop⟩ (drw w0 131) fn_seq_heap_seq_head_string_api_Entry_pop [a0] R h = s_seq_heap_seq_head_string_api_Entry_pop prog w0 a0 R h := by
    unfold s_seq_heap_seq_head_string_api_Entry_pop
    rw [seq_heap_seq_head_string_api_Entry_pop_E1_eq w0]
    kernel_rfl
  exact acalls_of_eq (fn := fn_seq_heap_seq_head_string_api_Entry_pop) (ks := ks_seq_heap_seq_head_string_api_Entry_pop) (n := 131) (by kernel_rfl) (by kernel_rfl) (draw_ok (by kernel_rfl)) (by simp) hj e hv

abbrev fn_seq_Map_string_api_Entry_Get : Func := f153
def ks_seq_Map_string_api_Entry_Get : List (Nat × List Nat × List Nat) := []
def s_seq_Map_string_api_Entry_Get (P : Program) (w0 : World) (a0 a1 : Value) (R : Kont) : Hp → Prop :=
 newA [(.string .empty), (.string .empty), (.bool false)] 3 fun v4_1 =>
 newA [(.string .empty), (.string .empty), (.bool false)] 3 fun v6_2 =>
 callA P w0 n_seq_Map_string_api_Entry_find [a0, a1] fun v12_3 =>
 pureA (extA v12_3 0) fun v13_4 =>
 pureA (extA v12_3 1) fun v14_5 =>
 pureA (unA .not v14_5) fun v16_6 =>
 condA v16_6 (
 loadNA w0 v6_2 3 fun v17_7 =>
 storeNA w0 v4_1 v17_7 3 fun _ =>
 loadNA w0 v4_1 3 fun v4_8 =>
 retA [v4_8, (.bool false)] R) (
 nilA a0 fun v19_9 =>
 addA v19_9 0 fun v20_10 =>
 loadA w0 v20_10 fun v21_11 =>
 idxSlA 4 v21_11 v13_4 fun v23_12 =>
 addA v23_12 1 fun v24_13 =>
 loadNA w0 v24_13 3 fun v25_14 =>
 storeNA w0 v4_1 v25_14 3 fun _ =>
 loadNA w0 v4_1 3 fun v4_15 =>
 retA [v4_15, (.bool true)] R)
theorem c_seq_Map_string_api_Entry_Get {w0 : World} {h : Hp} {R : Kont} {a0 a1 : Value} (hj : ∀ v, v ∈ [a0, a1] → v ≠ junk) (hv : s_seq_Map_string_api_Entry_Get prog w0 a0 a1 R h) : ACalls prog w0 n_seq_Map_string_api_Entry_Get [a0, a1] h R := by
  have e : vcFn ⟨prog, w0, 26, ks_seq_Map_string_api_Entry_Get⟩ (drw w0 26) fn_seq_Map_string_api_Entry_Get [a0, a1] R h = s_seq_Map_string_api_Entry_Get prog w0 a0 a1 R h := by
    kernel_rfl
  exact acalls_of_eq (fn := fn_seq_Map_string_api_Entry_Get) (ks := ks_seq_Map_string_api_Entry_Get) (n := 26) (by kernel_rfl) (by kernel_rfl) (draw_ok (by kernel_rfl)) (by simp) hj e hv

abbrev fn_seq_Map_string_api_Entry_find : Func := f154
def ks_seq_Map_string_api_Entry_find : List (Nat × List Nat × List Nat) := []
def s_seq_Map_string_api_Entry_find (P : Program) (w0 : World) (a0 a1 : Value) (R : Kont) : Hp → Prop :=
 pureA (binPtrA .eql a0 (.pointer none)) fun v7_1 =>
 condA v7_1 (
 retA [(.int .i64 0), (.bool false)] R) (
 nilA a0 fun v9_2 =>
 addA v9_2 0 fun v10_3 =>
 loadA w0 v10_3 fun v11_4 =>
 callA P w0 n_seq_Search_string_api_Entry [v11_4, a1] fun v13_5 =>
 pureA (extA v13_5 0) fun v14_6 =>
 pureA (extA v13_5 1) fun v15_7 =>
 retA [v14_6, v15_7] R)
theorem c_seq_Map_string_api_Entry_find {w0 : World} {h : Hp} {R : Kont} {a0 a1 : Value} (hj : ∀ v, v ∈ [a0, a1] → v ≠ junk) (hv : s_seq_Map_string_api_Entry_find prog w0 a0 a1 R h) : ACalls prog w0 n_seq_Map_string_api_Entry_find [a0, a1] h R := by
  have e : vcFn ⟨prog, w0, 16, ks_seq_Map_string_api_Entry_find⟩ (drw w0 16) fn_seq_Map_string_api_Entry_find [a0, a1] R h = s_seq_Map_string_api_Entry_find prog w0 a0 a1 R h := by
    kernel_rfl
  exact acalls_of_eq (fn := fn_seq_Map_string_api_Entry_find) (ks := ks_seq_Map_string_api_Entry_find) (n := 16) (by kernel_rfl) (by kernel_rfl) (draw_ok (by kernel_rfl)) (by simp) hj e hv

abbrev fn_seq_Map_string_api_Entry_over_S1 : Func := f161
def ks_seq_Map_string_api_Entry_over_S1 : List (Nat × List Nat × List Nat) := [(2, [0, 2, 12, 13, 14], [])]
def seq_Map_string_api_Entry_over_S1_B1 (P : Program) (w0 : World) (R : Value → Value → Value → Value → Value → Hp → Prop) (k0 : Hp → Prop) (kr : Hp → Prop) (x0 x2 x12 x13 x14 : Value) : Hp → Prop :=
 pureA (binA .lss x14 x13) fun v15_9 =>
 condA v15_9 (
 idxSlA 4 x12 x14 fun v16_10 =>
 loadNA w0 v16_10 4 fun v17_11 =>
 newA [(.string .empty), (.string .empty), (.string .empty), (.bool false)] 4 fun v5_12 =>
 storeNA w0 v5_12 v17_11 4 fun _ =>
 loadA w0 x2 fun v18_13 =>
 addA v5_12 0 fun v19_14 =>
 loadA w0 v19_14 fun v20_15 =>
 callVA P w0 v18_13 [v20_15] fun v21_16 =>
 guardA v21_16 true (fun K => K x0) fun v23_17 =>
 guardA v21_16 true (addA v5_12 0) fun v24_18 =>
 guardA v21_16 true (loadA w0 v24_18) fun v25_19 =>
 guardA v21_16 true (addA v5_12 1) fun v26_20 =>
 guardA v21_16 true (loadNA w0 v26_20 3) fun v27_21 =>
 guardA v21_16 true (callVA P w0 v23_17 [v25_19, v27_21]) fun v28_22 =>
 guardA v21_16 true (pureA (unA .not v28_22)) fun v29_23 =>
 pickA v21_16 v29_23 (.bool false) fun v30_24 =>
 condA v30_24 (
 kr) (
 pureA (binA .add x14 (.int .i64 1)) fun v31_25 =>
 R x0 x2 x12 x13 v31_25)) (
 k0)
def seq_Map_string_api_Entry_over_S1_L1 (P : Program) (w0 : World) (k0 : Hp → Prop) (kr : Hp → Prop) : Nat → Value → Value → Value → Value → Value → Hp → Prop
  | 0, _, _, _, _, _ => fun _ => False
  | m + 1, x0, x2, x12, x13, x14 => seq_Map_string_api_Entry_over_S1_B1 P w0 (seq_Map_string_api_Entry_over_S1_L1 P w0 k0 kr m) k0 kr x0 x2 x12 x13 x14
def seq_Map_string_api_Entry_over_S1_E1 (P : Program) (w0 : World) (k0 : Hp → Prop) (kr : Hp → Prop) (x0 x2 x12 x13 x14 : Value) : Hp → Prop := fun h => ∃ m, seq_Map_string_api_Entry_over_S1_L1 P w0 k0 kr m x0 x2 x12 x13 x14 h
def s_seq_Map_string_api_Entry_over_S1 (P : Program) (w0 : World) (a0 a1 a2 : Value) (R : Kont) : Hp → Prop :=
 loadA w0 a1 fun v6_1 =>
 pureA (binPtrA .eql v6_1 (.pointer none)) fun v7_2 =>
 condA v7_2 (
 retA [] R) (
 loadA w0 a1 fun v8_3 =>
 nilA v8_3 fun v9_4 =>
 addA v9_4 0 fun v10_5 =>
 loadA w0 v10_5 fun v11_6 =>
 callA P w0 n_slices_Clone_lseq_Item_string_api_Entry_seq_Item_string_api_Entry [v11_6] fun v12_7 =>
 pureA (lenSl v12_7) fun v13_8 =>
 seq_Map_string_api_Entry_over_S1_E1 P w0 (
 retA [] R) (
 retA [] R) a0 a2 v12_7 v13_8 (.int .i64 0))
theorem seq_Map_string_api_Entry_over_S1_L1_eq (w0 : World) (k0 : Hp → Prop) (kr : Hp → Prop) : ∀ (m : Nat) (x0 x2 x12 x13 x14 : Value) (h : Hp), loopA (stepL ⟨prog, w0, 32, ks_seq_Map_string_api_Entry_over_S1⟩ (drw w0 32) (loopAt fn_seq_Map_string_api_Entry_over_S1 0)) m (mkFr [(0, x0), (2, x2), (12, x12), (13, x13), (14, x14)]) [fun t => k0, fun t => kr] h = seq_Map_string_api_Entry_over_S1_L1 prog w0 k0 kr m x0 x2 x12 x13 x14 h := by
  intro m
  induction m with
  | zero => intros; kernel_rfl
  | succ m ih =>
    intro x0 x2 x12 x13 x14 h
    have e : seq_Map_string_api_Entry_over_S1_L1 prog w0 k0 kr m = fun x0 x2 x12 x13 x14 h => loopA (stepL ⟨prog, w0, 32, ks_seq_Map_string_api_Entry_over_S1⟩ (drw w0 32) (loopAt fn_seq_Map_string_api_Entry_over_S1 0)) m (mkFr [(0, x0), (2, x2), (12, x12), (13, x13), (14, x14)]) [fun t => k0, fun t => kr] h := by funext x0 x2 x12 x13 x14 h; exact (ih x0 x2 x12 x13 x14 h).symm
    show _ = seq_Map_string_api_Entry_over_S1_B1 prog w0 (seq_Map_string_api_Entry_over_S1_L1 prog w0 k0 kr m) k0 kr x0 x2 x12 x13 x14 h
    rw [e]
    kernel_rfl
theorem seq_Map_string_api_Entry_over_S1_E1_eq (w0 : World) : seq_Map_string_api_Entry_over_S1_E1 prog w0 = fun k0 kr x0 x2 x12 x13 x14 h => ∃ m, loopA (stepL ⟨prog, w0, 32, ks_seq_Map_string_api_Entry_over_S1⟩ (drw w0 32) (loopAt fn_seq_Map_string_api_Entry_over_S1 0)) m (mkFr [(0, x0), (2, x2), (12, x12), (13, x13), (14, x14)]) [fun t => k0, fun t => kr] h := by
  funext k0 kr x0 x2 x12 x13 x14 h
  exact congrArg Exists (funext fun m => (seq_Map_string_api_Entry_over_S1_L1_eq w0 k0 kr m x0 x2 x12 x13 x14 h).symm)
theorem c_seq_Map_string_api_Entry_over_S1 {w0 : World} {h : Hp} {R : Kont} {a0 a1 a2 : Value} (hj : ∀ v, v ∈ [a0, a1, a2] → v ≠ junk) (hv : s_seq_Map_string_api_Entry_over_S1 prog w0 a0 a1 a2 R h) : ACalls prog w0 n_seq_Map_string_api_Entry_over_S1 [a0, a1, a2] h R := by
  have e : vcFn ⟨prog, w0, 32, ks_seq_Map_string_api_Entry_over_S1⟩ (drw w0 32) fn_seq_Map_string_api_Entry_over_S1 [a0, a1, a2] R h = s_seq_Map_string_api_Entry_over_S1 prog w0 a0 a1 a2 R h := by
    unfold s_seq_Map_string_api_Entry_over_S1
    rw [seq_Map_string_api_Entry_over_S1_E1_eq w0]
    kernel_rfl
  exact acalls_of_eq (fn := fn_seq_Map_string_api_Entry_over_S1) (ks := ks_seq_Map_string_api_Entry_over_S1) (n := 32) (by kernel_rfl) (by kernel_rfl) (draw_ok (by kernel_rfl)) (by simp) hj e hv

abbrev fn_seq_Search_string_api_Entry : Func := f167
def ks_seq_Search_string_api_Entry : List (Nat × List Nat × List Nat) := []
def s_seq_Search_string_api_Entry (P : Program) (w0 : World) (a0 a1 : Value) (R : Kont) : Hp → Prop :=
 callA P w0 n_slices_BinarySearchFunc_lseq_Item_string_api_Entry_seq_Item_string_api_Entry_string [a0, a1, (.func (.func n_seq_Search_string_api_Entry_S1) #[] #[])] fun v11_1 =>
 pureA (extA v11_1 0) fun v12_2 =>
 pureA (extA v11_1 1) fun v13_3 =>
 pureQ (fun K => K v12_2) fun v14_4 =>
 pureQ (fun K => K v12_2) fun v15_5 =>
 pureQ (fun K => K a0) fun v16_6 =>
 pureQ (pureA (lenSl v16_6)) fun v17_7 =>
 pureQ (pureA (binA .lss v15_5 v17_7)) fun v18_8 =>
 pureQ (fun K => K v18_8) fun v19_9 =>
 pureQ (guardA v19_9 true (fun K => K a0)) fun v20_10 =>
 pureQ (guardA v19_9 true (fun K => K v12_2)) fun v21_11 =>
 pureQ (guardA v19_9 true (idxSlA 4 v20_10 v21_11)) fun v22_12 =>
 pureQ (guardA v19_9 true (addA v22_12 0)) fun v23_13 =>
 readQ (guardA v19_9 true (loadA w0 v23_13)) fun v24_14 =>
 pureQ (guardA v19_9 true (fun K => K a1)) fun v25_15 =>
 pureQ (guardA v19_9 true (pureA (binA .eql v24_14 v25_15))) fun v26_16 =>
 pureQ (pickA v19_9 v26_16 (.bool false)) fun v27_17 =>
 pureQ (fun K => K v14_4) fun v4_18 =>
 pureQ (fun K => K v27_17) fun v5_19 =>
 endA (
 retA [v4_18, v5_19] R)
theorem c_seq_Search_string_api_Entry {w0 : World} {h : Hp} {R : Kont} {a0 a1 : Value} (hj : ∀ v, v ∈ [a0, a1] → v ≠ junk) (hv : s_seq_Search_string_api_Entry prog w0 a0 a1 R h) : ACalls prog w0 n_seq_Search_string_api_Entry [a0, a1] h R := by
  have e : vcFn ⟨prog, w0, 28, ks_seq_Search_string_api_Entry⟩ (drw w0 28) fn_seq_Search_string_api_Entry [a0, a1] R h = s_seq_Search_string_api_Entry prog w0 a0 a1 R h := by
    kernel_rfl
  exact acalls_of_eq (fn := fn_seq_Search_string_api_Entry) (ks := ks_seq_Search_string_api_Entry) (n := 28) (by kernel_rfl) (by kernel_rfl) (draw_ok (by kernel_rfl)) (by simp) hj e hv

abbrev fn_seq_Search_string_api_Entry_S1 : Func := f174
def ks_seq_Search_string_api_Entry_S1 : List (Nat × List Nat × List Nat) := []
def s_seq_Search_string_api_Entry_S1 (P : Program) (w0 : World) (a0 a1 : Value) (R : Kont) : Hp → Prop :=
 boxA true 4 a0 fun v2_1 =>
 addA v2_1 0 fun v5_2 =>
 loadA w0 v5_2 fun v6_3 =>
 callA P w0 n_cmp_Compare_string [v6_3, a1] fun v8_4 =>
 retA [v8_4] R
theorem c_seq_Search_string_api_Entry_S1 {w0 : World} {h : Hp} {R : Kont} {a0 a1 : Value} (hj : ∀ v, v ∈ [a0, a1] → v ≠ junk) (hv : s_seq_Search_string_api_Entry_S1 prog w0 a0 a1 R h) : ACalls prog w0 n_seq_Search_string_api_Entry_S1 [a0, a1] h R := by
  have e : vcFn ⟨prog, w0, 9, ks_seq_Search_string_api_Entry_S1⟩ (drw w0 9) fn_seq_Search_string_api_Entry_S1 [a0, a1] R h = s_seq_Search_string_api_Entry_S1 prog w0 a0 a1 R h := by
    kernel_rfl
  exact acalls_of_eq (fn := fn_seq_Search_string_api_Entry_S1) (ks := ks_seq_Search_string_api_Entry_S1) (n := 9) (by kernel_rfl) (by kernel_rfl) (draw_ok (by kernel_rfl)) (by simp) hj e hv

end
end Go.Proofs.YtfmoemconapmhaaGreat.Ah
