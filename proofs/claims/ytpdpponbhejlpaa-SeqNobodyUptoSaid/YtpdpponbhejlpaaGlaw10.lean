/- PRINTED by wip/tools/shallow.py: functions of the program as readable words, and that each is what its text says. -/
import Derived.Test.YtpdpponbhejlpaaGn
set_option linter.unusedVariables false
set_option linter.unusedSimpArgs false
namespace Go.Proofs.Ytpdpponbhejlpaa.Ah
open Go Go.Proofs.Try
noncomputable section

abbrev fn_deduplaw10_SeqSorts : Func := f3
def ks_deduplaw10_SeqSorts : List (Nat × List Nat × List Nat) := [(6, [0, 2, 3, 4, 26, 27, 28], [0, 2, 3, 4]), (12, [0, 2, 3, 4, 7, 37, 38], [2, 3]), (19, [0, 2, 3, 4, 9, 11, 37, 38, 57, 58, 59], [0, 2, 3, 4, 9, 11, 37, 38])]
def deduplaw10_SeqSorts_B1 (P : Program) (w0 : World) (R : Value → Value → Value → Value → Value → Value → Value → Hp → Prop) (k0 : Value → Value → Value → Value → Hp → Prop) (x0 x2 x3 x4 x26 x27 x28 : Value) : Hp → Prop :=
 pureA (binA .lss x28 x27) fun v29_10 =>
 condA v29_10 (
 idxSlA 1 x26 x28 fun v30_11 =>
 loadA w0 v30_11 fun v31_12 =>
 callA P w0 n_seq_Heap_string_Push [x3, v31_12] fun v34_13 =>
 pureA (binA .add x28 (.int .i64 1)) fun v35_14 =>
 R x0 x2 x3 x4 x26 x27 v35_14) (
 k0 x0 x2 x3 x4)
def deduplaw10_SeqSorts_L1 (P : Program) (w0 : World) (k0 : Value → Value → Value → Value → Hp → Prop) : Nat → Value → Value → Value → Value → Value → Value → Value → Hp → Prop
  | 0, _, _, _, _, _, _, _ => fun _ => False
  | m + 1, x0, x2, x3, x4, x26, x27, x28 => deduplaw10_SeqSorts_B1 P w0 (deduplaw10_SeqSorts_L1 P w0 k0 m) k0 x0 x2 x3 x4 x26 x27 x28
def deduplaw10_SeqSorts_E1 (P : Program) (w0 : World) (k0 : Value → Value → Value → Value → Hp → Prop) (x0 x2 x3 x4 x26 x27 x28 : Value) : Hp → Prop := fun h => ∃ m, deduplaw10_SeqSorts_L1 P w0 k0 m x0 x2 x3 x4 x26 x27 x28 h
def deduplaw10_SeqSorts_B3 (P : Program) (w0 : World) (R : Value → Value → Value → Value → Value → Value → Value → Value → Value → Value → Value → Hp → Prop) (k4 : Value → Value → Value → Value → Value → Value → Value → Value → Hp → Prop) (x0 x2 x3 x4 x9 x11 x37 x38 x57 x58 x59 : Value) : Hp → Prop :=
 pureA (binA .lss x59 x58) fun v60_34 =>
 condA v60_34 (
 idxSlA 1 x57 x59 fun v62_35 =>
 loadA w0 v62_35 fun v63_36 =>
 pureA (binA .eql v63_36 x9) fun v66_37 =>
 guardA v66_37 true (fun K => K x4) fun v68_38 =>
 guardA v66_37 true (fun K => K x59) fun v69_39 =>
 guardA v66_37 true (idxSlA 1 v68_38 v69_39) fun v70_40 =>
 guardA v66_37 true (loadA w0 v70_40) fun v71_41 =>
 guardA v66_37 true (pureA (binA .eql v71_41 (.int .i64 0))) fun v72_42 =>
 pickA v66_37 v72_42 (.bool false) fun v73_43 =>
 guardA v73_43 true (fun K => K x11) fun v75_44 =>
 guardA v73_43 true (pureA (unA .not v75_44)) fun v76_45 =>
 pickA v73_43 v76_45 (.bool false) fun v77_46 =>
 condA v77_46 (
 idxSlA 1 x4 x59 fun v80_47 =>
 storeA w0 v80_47 (.int .i64 1) fun _ =>
 pureA (binA .add x59 (.int .i64 1)) fun v81_48 =>
 R x0 x2 x3 x4 x9 (.bool true) x37 x38 x57 x58 v81_48) (
 pureA (binA .add x59 (.int .i64 1)) fun v81_49 =>
 R x0 x2 x3 x4 x9 x11 x37 x38 x57 x58 v81_49)) (
 k4 x0 x2 x3 x4 x9 x11 x37 x38)
def deduplaw10_SeqSorts_L3 (P : Program) (w0 : World) (k4 : Value → Value → Value → Value → Value → Value → Value → Value → Hp → Prop) : Nat → Value → Value → Value → Value → Value → Value → Value → Value → Value → Value → Value → Hp → Prop
  | 0, _, _, _, _, _, _, _, _, _, _, _ => fun _ => False
  | m + 1, x0, x2, x3, x4, x9, x11, x37, x38, x57, x58, x59 => deduplaw10_SeqSorts_B3 P w0 (deduplaw10_SeqSorts_L3 P w0 k4 m) k4 x0 x2 x3 x4 x9 x11 x37 x38 x57 x58 x59
def deduplaw10_SeqSorts_E3 (P : Program) (w0 : World) (k4 : Value → Value → Value → Value → Value → Value → Value → Value → Hp → Prop) (x0 x2 x3 x4 x9 x11 x37 x38 x57 x58 x59 : Value) : Hp → Prop := fun h => ∃ m, deduplaw10_SeqSorts_L3 P w0 k4 m x0 x2 x3 x4 x9 x11 x37 x38 x57 x58 x59 h
def deduplaw10_SeqSorts_B2 (P : Program) (w0 : World) (R : Value → Value → Value → Value → Value → Value → Value → Hp → Prop) (k2 : Value → Value → Hp → Prop) (kr : Value → Value → Hp → Prop) (x0 x2 x3 x4 x7 x37 x38 : Value) : Hp → Prop :=
 pureA (binA .lss x38 x37) fun v39_20 =>
 condA v39_20 (
 callA P w0 n_seq_Heap_string_Pop [x3] fun v43_21 =>
 pureA (extA v43_21 0) fun v44_22 =>
 pureA (extA v43_21 1) fun v45_23 =>
 pureA (unA .not v45_23) fun v47_24 =>
 guardA v47_24 false (fun K => K x38) fun v49_25 =>
 guardA v47_24 false (pureA (binA .gtr v49_25 (.int .i64 0))) fun v50_26 =>
 guardA v47_24 false (fun K => K v50_26) fun v51_27 =>
 guardA v51_27 true (fun K => K v44_22) fun v52_28 =>
 guardA v51_27 true (fun K => K x7) fun v53_29 =>
 guardA v51_27 true (pureA (binA .lss v52_28 v53_29)) fun v54_30 =>
 guardA v47_24 false (pickA v51_27 v54_30 (.bool false)) fun v55_31 =>
 pickA v47_24 (.bool true) v55_31 fun v56_32 =>
 condA v56_32 (
 kr (.bool false) x3) (
 pureA (lenSl x0) fun v58_33 =>
 deduplaw10_SeqSorts_E3 P w0 (fun y0_50 y2_51 y3_52 y4_53 y9_54 y11_55 y37_56 y38_57 =>
 pureA (unA .not y11_55) fun v83_58 =>
 condA v83_58 (
 kr (.bool false) y3_52) (
 pureA (binA .add y38_57 (.int .i64 1)) fun v85_59 =>
 R y0_50 y2_51 y3_52 y4_53 y9_54 y37_56 v85_59)) x0 x2 x3 x4 v44_22 (.bool false) x37 x38 x0 v58_33 (.int .i64 0))) (
 k2 x2 x3)
def deduplaw10_SeqSorts_L2 (P : Program) (w0 : World) (k2 : Value → Value → Hp → Prop) (kr : Value → Value → Hp → Prop) : Nat → Value → Value → Value → Value → Value → Value → Value → Hp → Prop
  | 0, _, _, _, _, _, _, _ => fun _ => False
  | m + 1, x0, x2, x3, x4, x7, x37, x38 => deduplaw10_SeqSorts_B2 P w0 (deduplaw10_SeqSorts_L2 P w0 k2 kr m) k2 kr x0 x2 x3 x4 x7 x37 x38
def deduplaw10_SeqSorts_E2 (P : Program) (w0 : World) (k2 : Value → Value → Hp → Prop) (kr : Value → Value → Hp → Prop) (x0 x2 x3 x4 x7 x37 x38 : Value) : Hp → Prop := fun h => ∃ m, deduplaw10_SeqSorts_L2 P w0 k2 kr m x0 x2 x3 x4 x7 x37 x38 h
def s_deduplaw10_SeqSorts (P : Program) (w0 : World) (a0 : Value) (R : Kont) : Hp → Prop :=
 callA P w0 n_seq_NewHeap_string [] fun v16_1 =>
 callA P w0 n_deduplaw10_awake [] fun v17_2 =>
 pureA (unA .not v17_2) fun v18_3 =>
 guardA v18_3 false (fun K => K v16_1) fun v20_4 =>
 guardA v18_3 false (pureA (binPtrA .eql v20_4 (.pointer none))) fun v21_5 =>
 pickA v18_3 (.bool true) v21_5 fun v22_6 =>
 condA v22_6 (
 retA [(.bool false)] R) (
 pureA (lenSl a0) fun v24_7 =>
 mkA 1 8 [(.int .i64 0)] v24_7 v24_7 fun v25_8 =>
 pureA (lenSl a0) fun v27_9 =>
 deduplaw10_SeqSorts_E1 P w0 (fun y0_15 y2_16 y3_17 y4_18 =>
 pureA (lenSl y0_15) fun v37_19 =>
 deduplaw10_SeqSorts_E2 P w0 (fun y2_60 y3_61 =>
 callA P w0 n_seq_Heap_string_Pop [y3_61] fun v88_62 =>
 pureA (extA v88_62 0) fun v89_63 =>
 pureA (extA v88_62 1) fun v90_64 =>
 pureA (unA .not v90_64) fun v92_65 =>
 guardA v92_65 true (fun K => K y3_61) fun v94_66 =>
 guardA v92_65 true (callA P w0 n_seq_Heap_string_Len [v94_66]) fun v95_67 =>
 guardA v92_65 true (pureA (binA .eql v95_67 (.int .i64 0))) fun v96_68 =>
 pickA v92_65 v96_68 (.bool false) fun v97_69 =>
 retA [v97_69] R) (fun y2_70 y3_71 =>
 retA [y2_70] R) y0_15 y2_16 y3_17 y4_18 (.string .empty) v37_19 (.int .i64 0)) a0 (.bool false) v16_1 v25_8 a0 v27_9 (.int .i64 0))
theorem deduplaw10_SeqSorts_L3_eq (w0 : World) (k4 : Value → Value → Value → Value → Value → Value → Value → Value → Hp → Prop) : ∀ (m : Nat) (x0 x2 x3 x4 x9 x11 x37 x38 x57 x58 x59 : Value) (h : Hp), loopA (stepL ⟨prog, w0, 98, ks_deduplaw10_SeqSorts⟩ (drw w0 98) (loopAt fn_deduplaw10_SeqSorts 2)) m (mkFr [(0, x0), (2, x2), (3, x3), (4, x4), (9, x9), (11, x11), (37, x37), (38, x38), (57, x57), (58, x58), (59, x59)]) [fun t => k4 (t 0) (t 2) (t 3) (t 4) (t 9) (t 11) (t 37) (t 38)] h = deduplaw10_SeqSorts_L3 prog w0 k4 m x0 x2 x3 x4 x9 x11 x37 x38 x57 x58 x59 h := by
  intro m
  induction m with
  | zero => intros; kernel_rfl
  | succ m ih =>
    intro x0 x2 x3 x4 x9 x11 x37 x38 x57 x58 x59 h
    have e : deduplaw10_SeqSorts_L3 prog w0 k4 m = fun x0 x2 x3 x4 x9 x11 x37 x38 x57 x58 x59 h => loopA (stepL ⟨prog, w0, 98, ks_deduplaw10_SeqSorts⟩ (drw w0 98) (loopAt fn_deduplaw10_SeqSorts 2)) m (mkFr [(0, x0), (2, x2), (3, x3), (4, x4), (9, x9), (11, x11), (37, x37), (38, x38), (57, x57), (58, x58), (59, x59)]) [fun t => k4 (t 0) (t 2) (t 3) (t 4) (t 9) (t 11) (t 37) (t 38)] h := by funext x0 x2 x3 x4 x9 x11 x37 x38 x57 x58 x59 h; exact (ih x0 x2 x3 x4 x9 x11 x37 x38 x57 x58 x59 h).symm
    show _ = deduplaw10_SeqSorts_B3 prog w0 (deduplaw10_SeqSorts_L3 prog w0 k4 m) k4 x0 x2 x3 x4 x9 x11 x37 x38 x57 x58 x59 h
    rw [e]
    kernel_rfl
theorem deduplaw10_SeqSorts_E3_eq (w0 : World) : deduplaw10_SeqSorts_E3 prog w0 = fun k4 x0 x2 x3 x4 x9 x11 x37 x38 x57 x58 x59 h => ∃ m, loopA (stepL ⟨prog, w0, 98, ks_deduplaw10_SeqSorts⟩ (drw w0 98) (loopAt fn_deduplaw10_SeqSorts 2)) m (mkFr [(0, x0), (2, x2), (3, x3), (4, x4), (9, x9), (11, x11), (37, x37), (38, x38), (57, x57), (58, x58), (59, x59)]) [fun t => k4 (t 0) (t 2) (t 3) (t 4) (t 9) (t 11) (t 37) (t 38)] h := by
  funext k4 x0 x2 x3 x4 x9 x11 x37 x38 x57 x58 x59 h
  exact congrArg Exists (funext fun m => (deduplaw10_SeqSorts_L3_eq w0 k4 m x0 x2 x3 x4 x9 x11 x37 x38 x57 x58 x59 h).symm)
theorem deduplaw10_SeqSorts_L2_eq (w0 : World) (k2 : Value → Value → Hp → Prop) (kr : Value → Value → Hp → Prop) : ∀ (m : Nat) (x0 x2 x3 x4 x7 x37 x38 : Value) (h : Hp), loopA (stepL ⟨prog, w0, 98, ks_deduplaw10_SeqSorts⟩ (drw w0 98) (loopAt fn_deduplaw10_SeqSorts 1)) m (mkFr [(0, x0), (2, x2), (3, x3), (4, x4), (7, x7), (37, x37), (38, x38)]) [fun t => k2 (t 2) (t 3), fun t => kr (t 2) (t 3)] h = deduplaw10_SeqSorts_L2 prog w0 k2 kr m x0 x2 x3 x4 x7 x37 x38 h := by
  intro m
  induction m with
  | zero => intros; kernel_rfl
  | succ m ih =>
    intro x0 x2 x3 x4 x7 x37 x38 h
    have e : deduplaw10_SeqSorts_L2 prog w0 k2 kr m = fun x0 x2 x3 x4 x7 x37 x38 h => loopA (stepL ⟨prog, w0, 98, ks_deduplaw10_SeqSorts⟩ (drw w0 98) (loopAt fn_deduplaw10_SeqSorts 1)) m (mkFr [(0, x0), (2, x2), (3, x3), (4, x4), (7, x7), (37, x37), (38, x38)]) [fun t => k2 (t 2) (t 3), fun t => kr (t 2) (t 3)] h := by funext x0 x2 x3 x4 x7 x37 x38 h; exact (ih x0 x2 x3 x4 x7 x37 x38 h).symm
    show _ = deduplaw10_SeqSorts_B2 prog w0 (deduplaw10_SeqSorts_L2 prog w0 k2 kr m) k2 kr x0 x2 x3 x4 x7 x37 x38 h
    rw [e]
    unfold deduplaw10_SeqSorts_B2
    rw [deduplaw10_SeqSorts_E3_eq w0]
    kernel_rfl
theorem deduplaw10_SeqSorts_E2_eq (w0 : World) : deduplaw10_SeqSorts_E2 prog w0 = fun k2 kr x0 x2 x3 x4 x7 x37 x38 h => ∃ m, loopA (stepL ⟨prog, w0, 98, ks_deduplaw10_SeqSorts⟩ (drw w0 98) (loopAt fn_deduplaw10_SeqSorts 1)) m (mkFr [(0, x0), (2, x2), (3, x3), (4, x4), (7, x7), (37, x37), (38, x38)]) [fun t => k2 (t 2) (t 3), fun t => kr (t 2) (t 3)] h := by
  funext k2 kr x0 x2 x3 x4 x7 x37 x38 h
  exact congrArg Exists (funext fun m => (deduplaw10_SeqSorts_L2_eq w0 k2 kr m x0 x2 x3 x4 x7 x37 x38 h).symm)
theorem deduplaw10_SeqSorts_L1_eq (w0 : World) (k0 : Value → Value → Value → Value → Hp → Prop) : ∀ (m : Nat) (x0 x2 x3 x4 x26 x27 x28 : Value) (h : Hp), loopA (stepL ⟨prog, w0, 98, ks_deduplaw10_SeqSorts⟩ (drw w0 98) (loopAt fn_deduplaw10_SeqSorts 0)) m (mkFr [(0, x0), (2, x2), (3, x3), (4, x4), (26, x26), (27, x27), (28, x28)]) [fun t => k0 (t 0) (t 2) (t 3) (t 4)] h = deduplaw10_SeqSorts_L1 prog w0 k0 m x0 x2 x3 x4 x26 x27 x28 h := by
  intro m
  induction m with
  | zero => intros; kernel_rfl
  | succ m ih =>
    intro x0 x2 x3 x4 x26 x27 x28 h
    have e : deduplaw10_SeqSorts_L1 prog w0 k0 m = fun x0 x2 x3 x4 x26 x27 x28 h => loopA (stepL ⟨prog, w0, 98, ks_deduplaw10_SeqSorts⟩ (drw w0 98) (loopAt fn_deduplaw10_SeqSorts 0)) m (mkFr [(0, x0), (2, x2), (3, x3), (4, x4), (26, x26), (27, x27), (28, x28)]) [fun t => k0 (t 0) (t 2) (t 3) (t 4)] h := by funext x0 x2 x3 x4 x26 x27 x28 h; exact (ih x0 x2 x3 x4 x26 x27 x28 h).symm
    show _ = deduplaw10_SeqSorts_B1 prog w0 (deduplaw10_SeqSorts_L1 prog w0 k0 m) k0 x0 x2 x3 x4 x26 x27 x28 h
    rw [e]
    kernel_rfl
theorem deduplaw10_SeqSorts_E1_eq (w0 : World) : deduplaw10_SeqSorts_E1 prog w0 = fun k0 x0 x2 x3 x4 x26 x27 x28 h => ∃ m, loopA (stepL ⟨prog, w0, 98, ks_deduplaw10_SeqSorts⟩ (drw w0 98) (loopAt fn_deduplaw10_SeqSorts 0)) m (mkFr [(0, x0), (2, x2), (3, x3), (4, x4), (26, x26), (27, x27), (28, x28)]) [fun t => k0 (t 0) (t 2) (t 3) (t 4)] h := by
  funext k0 x0 x2 x3 x4 x26 x27 x28 h
  exact congrArg Exists (funext fun m => (deduplaw10_SeqSorts_L1_eq w0 k0 m x0 x2 x3 x4 x26 x27 x28 h).symm)
theorem c_deduplaw10_SeqSorts {w0 : World} {h : Hp} {R : Kont} {a0 : Value} (hj : ∀ v, v ∈ [a0] → v ≠ junk) (hv : s_deduplaw10_SeqSorts prog w0 a0 R h) : ACalls prog w0 n_deduplaw10_SeqSorts [a0] h R := by
  have e : vcFn ⟨prog, w0, 98, ks_deduplaw10_SeqSorts⟩ (drw w0 98) fn_deduplaw10_SeqSorts [a0] R h = s_deduplaw10_SeqSorts prog w0 a0 R h := by
    unfold s_deduplaw10_SeqSorts
    rw [deduplaw10_SeqSorts_E1_eq w0, deduplaw10_SeqSorts_E2_eq w0]
    kernel_rfl
  exact acalls_of_eq (fn := fn_deduplaw10_SeqSorts) (ks := ks_deduplaw10_SeqSorts) (n := 98) (by kernel_rfl) (by kernel_rfl) (draw_ok (by kernel_rfl)) (by simp) hj e hv

abbrev fn_deduplaw10_SeqHeaps : Func := f4
def ks_deduplaw10_SeqHeaps : List (Nat × List Nat × List Nat) := [(6, [2, 3, 4, 18, 19, 20], [2, 3, 4])]
def deduplaw10_SeqHeaps_B1 (P : Program) (w0 : World) (R : Value → Value → Value → Value → Value → Value → Hp → Prop) (k0 : Value → Value → Value → Hp → Prop) (kr : Value → Value → Value → Hp → Prop) (x2 x3 x4 x18 x19 x20 : Value) : Hp → Prop :=
 pureA (binA .lss x20 x19) fun v21_8 =>
 condA v21_8 (
 idxSlA 1 x18 x20 fun v22_9 =>
 loadA w0 v22_9 fun v23_10 =>
 pureA (binA .eql v23_10 (.int .i64 1099511627776)) fun v36_11 =>
 condA v36_11 (
 callA P w0 n_seq_Heap_int_Pop [x3] fun v39_12 =>
 pureA (extA v39_12 0) fun v40_13 =>
 pureA (extA v39_12 1) fun v41_14 =>
 pureA (lenSl x4) fun v44_15 =>
 pureA (binA .gtr v44_15 (.int .i64 0)) fun v45_16 =>
 pureA (binBoolA .neq v41_14 v45_16) fun v46_17 =>
 guardA v46_17 false (fun K => K v41_14) fun v48_18 =>
 guardA v46_17 false (fun K => K v48_18) fun v49_19 =>
 guardA v49_19 true (fun K => K v40_13) fun v50_20 =>
 guardA v49_19 true (fun K => K x4) fun v51_21 =>
 guardA v49_19 true (idxSlA 1 v51_21 (.int .i64 0)) fun v52_22 =>
 guardA v49_19 true (loadA w0 v52_22) fun v53_23 =>
 guardA v49_19 true (pureA (binA .neq v50_20 v53_23)) fun v54_24 =>
 guardA v46_17 false (pickA v49_19 v54_24 (.bool false)) fun v55_25 =>
 pickA v46_17 (.bool true) v55_25 fun v56_26 =>
 guardA v56_26 false (fun K => K v41_14) fun v58_27 =>
 guardA v56_26 false (pureA (unA .not v58_27)) fun v59_28 =>
 guardA v56_26 false (fun K => K v59_28) fun v60_29 =>
 guardA v60_29 true (fun K => K v40_13) fun v61_30 =>
 guardA v60_29 true (pureA (binA .neq v61_30 (.int .i64 0))) fun v62_31 =>
 guardA v56_26 false (pickA v60_29 v62_31 (.bool false)) fun v63_32 =>
 pickA v56_26 (.bool true) v63_32 fun v64_33 =>
 condA v64_33 (
 kr (.bool false) x3 x4) (
 condA v41_14 (
 slSlA 1 x4 (some (.int .i64 1)) none none fun v67_34 =>
 pureA (binA .add x20 (.int .i64 1)) fun v105_35 =>
 R x2 x3 v67_34 x18 x19 v105_35) (
 pureA (binA .add x20 (.int .i64 1)) fun v105_36 =>
 R x2 x3 x4 x18 x19 v105_36))) (
 pureA (binA .eql v23_10 (.int .i64 1099511627777)) fun v69_37 =>
 condA v69_37 (
 callA P w0 n_seq_Heap_int_Least [x3] fun v72_38 =>
 pureA (extA v72_38 0) fun v73_39 =>
 pureA (extA v72_38 1) fun v74_40 =>
 pureA (lenSl x4) fun v77_41 =>
 pureA (binA .gtr v77_41 (.int .i64 0)) fun v78_42 =>
 pureA (binBoolA .neq v74_40 v78_42) fun v79_43 =>
 guardA v79_43 false (fun K => K v74_40) fun v81_44 =>
 guardA v79_43 false (fun K => K v81_44) fun v82_45 =>
 guardA v82_45 true (fun K => K v73_39) fun v83_46 =>
 guardA v82_45 true (fun K => K x4) fun v84_47 =>
 guardA v82_45 true (idxSlA 1 v84_47 (.int .i64 0)) fun v85_48 =>
 guardA v82_45 true (loadA w0 v85_48) fun v86_49 =>
 guardA v82_45 true (pureA (binA .neq v83_46 v86_49)) fun v87_50 =>
 guardA v79_43 false (pickA v82_45 v87_50 (.bool false)) fun v88_51 =>
 pickA v79_43 (.bool true) v88_51 fun v89_52 =>
 guardA v89_52 false (fun K => K v74_40) fun v91_53 =>
 guardA v89_52 false (pureA (unA .not v91_53)) fun v92_54 =>
 guardA v89_52 false (fun K => K v92_54) fun v93_55 =>
 guardA v93_55 true (fun K => K v73_39) fun v94_56 =>
 guardA v93_55 true (pureA (binA .neq v94_56 (.int .i64 0))) fun v95_57 =>
 guardA v89_52 false (pickA v93_55 v95_57 (.bool false)) fun v96_58 =>
 pickA v89_52 (.bool true) v96_58 fun v97_59 =>
 guardA v97_59 false (fun K => K x3) fun v99_60 =>
 guardA v97_59 false (callA P w0 n_seq_Heap_int_Len [v99_60]) fun v100_61 =>
 guardA v97_59 false (fun K => K x4) fun v101_62 =>
 guardA v97_59 false (pureA (lenSl v101_62)) fun v102_63 =>
 guardA v97_59 false (pureA (binA .neq v100_61 v102_63)) fun v103_64 =>
 pickA v97_59 (.bool true) v103_64 fun v104_65 =>
 condA v104_65 (
 kr (.bool false) x3 x4) (
 pureA (binA .add x20 (.int .i64 1)) fun v105_66 =>
 R x2 x3 x4 x18 x19 v105_66)) (
 callA P w0 n_seq_Heap_int_Push [x3, v23_10] fun v27_67 =>
 bslA [] (zerosL [(.int .i64 0)] 0) 0 1 fun v28_68 =>
 appA w0 1 8 v28_68 x4 fun v30_69 =>
 bslA [(0, 1, false, v23_10)] (zerosL [(.int .i64 0)] 1) 1 1 fun v32_70 =>
 appA w0 1 8 v30_69 v32_70 fun v33_71 =>
 callA P w0 n_dedupref10_Sort [v33_71] fun v34_72 =>
 pureA (binA .add x20 (.int .i64 1)) fun v105_73 =>
 R x2 x3 v34_72 x18 x19 v105_73))) (
 k0 x2 x3 x4)
def deduplaw10_SeqHeaps_L1 (P : Program) (w0 : World) (k0 : Value → Value → Value → Hp → Prop) (kr : Value → Value → Value → Hp → Prop) : Nat → Value → Value → Value → Value → Value → Value → Hp → Prop
  | 0, _, _, _, _, _, _ => fun _ => False
  | m + 1, x2, x3, x4, x18, x19, x20 => deduplaw10_SeqHeaps_B1 P w0 (deduplaw10_SeqHeaps_L1 P w0 k0 kr m) k0 kr x2 x3 x4 x18 x19 x20
def deduplaw10_SeqHeaps_E1 (P : Program) (w0 : World) (k0 : Value → Value → Value → Hp → Prop) (kr : Value → Value → Value → Hp → Prop) (x2 x3 x4 x18 x19 x20 : Value) : Hp → Prop := fun h => ∃ m, deduplaw10_SeqHeaps_L1 P w0 k0 kr m x2 x3 x4 x18 x19 x20 h
def s_deduplaw10_SeqHeaps (P : Program) (w0 : World) (a0 : Value) (R : Kont) : Hp → Prop :=
 callA P w0 n_seq_NewHeap_int [] fun v11_1 =>
 callA P w0 n_deduplaw10_awake [] fun v12_2 =>
 pureA (unA .not v12_2) fun v13_3 =>
 guardA v13_3 false (fun K => K v11_1) fun v15_4 =>
 guardA v13_3 false (pureA (binPtrA .eql v15_4 (.pointer none))) fun v16_5 =>
 pickA v13_3 (.bool true) v16_5 fun v17_6 =>
 condA v17_6 (
 retA [(.bool false)] R) (
 pureA (lenSl a0) fun v19_7 =>
 deduplaw10_SeqHeaps_E1 P w0 (fun y2_74 y3_75 y4_76 =>
 callA P w0 n_seq_Heap_int_Len [y3_75] fun v107_77 =>
 pureA (lenSl y4_76) fun v109_78 =>
 pureA (binA .eql v107_77 v109_78) fun v110_79 =>
 retA [v110_79] R) (fun y2_80 y3_81 y4_82 =>
 retA [y2_80] R) (.bool false) v11_1 (.slice none 0 0) a0 v19_7 (.int .i64 0))
theorem deduplaw10_SeqHeaps_L1_eq (w0 : World) (k0 : Value → Value → Value → Hp → Prop) (kr : Value → Value → Value → Hp → Prop) : ∀ (m : Nat) (x2 x3 x4 x18 x19 x20 : Value) (h : Hp), loopA (stepL ⟨prog, w0, 111, ks_deduplaw10_SeqHeaps⟩ (drw w0 111) (loopAt fn_deduplaw10_SeqHeaps 0)) m (mkFr [(2, x2), (3, x3), (4, x4), (18, x18), (19, x19), (20, x20)]) [fun t => k0 (t 2) (t 3) (t 4), fun t => kr (t 2) (t 3) (t 4)] h = deduplaw10_SeqHeaps_L1 prog w0 k0 kr m x2 x3 x4 x18 x19 x20 h := by
  intro m
  induction m with
  | zero => intros; kernel_rfl
  | succ m ih =>
    intro x2 x3 x4 x18 x19 x20 h
    have e : deduplaw10_SeqHeaps_L1 prog w0 k0 kr m = fun x2 x3 x4 x18 x19 x20 h => loopA (stepL ⟨prog, w0, 111, ks_deduplaw10_SeqHeaps⟩ (drw w0 111) (loopAt fn_deduplaw10_SeqHeaps 0)) m (mkFr [(2, x2), (3, x3), (4, x4), (18, x18), (19, x19), (20, x20)]) [fun t => k0 (t 2) (t 3) (t 4), fun t => kr (t 2) (t 3) (t 4)] h := by funext x2 x3 x4 x18 x19 x20 h; exact (ih x2 x3 x4 x18 x19 x20 h).symm
    show _ = deduplaw10_SeqHeaps_B1 prog w0 (deduplaw10_SeqHeaps_L1 prog w0 k0 kr m) k0 kr x2 x3 x4 x18 x19 x20 h
    rw [e]
    kernel_rfl
theorem deduplaw10_SeqHeaps_E1_eq (w0 : World) : deduplaw10_SeqHeaps_E1 prog w0 = fun k0 kr x2 x3 x4 x18 x19 x20 h => ∃ m, loopA (stepL ⟨prog, w0, 111, ks_deduplaw10_SeqHeaps⟩ (drw w0 111) (loopAt fn_deduplaw10_SeqHeaps 0)) m (mkFr [(2, x2), (3, x3), (4, x4), (18, x18), (19, x19), (20, x20)]) [fun t => k0 (t 2) (t 3) (t 4), fun t => kr (t 2) (t 3) (t 4)] h := by
  funext k0 kr x2 x3 x4 x18 x19 x20 h
  exact congrArg Exists (funext fun m => (deduplaw10_SeqHeaps_L1_eq w0 k0 kr m x2 x3 x4 x18 x19 x20 h).symm)
theorem c_deduplaw10_SeqHeaps {w0 : World} {h : Hp} {R : Kont} {a0 : Value} (hj : ∀ v, v ∈ [a0] → v ≠ junk) (hv : s_deduplaw10_SeqHeaps prog w0 a0 R h) : ACalls prog w0 n_deduplaw10_SeqHeaps [a0] h R := by
  have e : vcFn ⟨prog, w0, 111, ks_deduplaw10_SeqHeaps⟩ (drw w0 111) fn_deduplaw10_SeqHeaps [a0] R h = s_deduplaw10_SeqHeaps prog w0 a0 R h := by
    unfold s_deduplaw10_SeqHeaps
    rw [deduplaw10_SeqHeaps_E1_eq w0]
    kernel_rfl
  exact acalls_of_eq (fn := fn_deduplaw10_SeqHeaps) (ks := ks_deduplaw10_SeqHeaps) (n := 111) (by kernel_rfl) (by kernel_rfl) (draw_ok (by kernel_rfl)) (by simp) hj e hv

abbrev fn_deduplaw10_SeqWithout : Func := f5
def ks_deduplaw10_SeqWithout : List (Nat × List Nat × List Nat) := []
def s_deduplaw10_SeqWithout (P : Program) (w0 : World) (a0 a1 a2 : Value) (R : Kont) : Hp → Prop :=
 callA P w0 n_deduplaw10_awake [] fun v13_1 =>
 pureA (unA .not v13_1) fun v14_2 =>
 condA v14_2 (
 retA [(.bool false)] R) (
 callA P w0 n_deduplaw10_items [a0] fun v16_3 =>
 callA P w0 n_seq_Without_string_int [v16_3, a1] fun v19_4 =>
 callA P w0 n_dedupref10_Without [a0, a1] fun v22_5 =>
 callA P w0 n_deduplaw10_same [v19_4, v22_5] fun v23_6 =>
 pureA (unA .not v23_6) fun v24_7 =>
 guardA v24_7 false (fun K => K v16_3) fun v26_8 =>
 guardA v24_7 false (fun K => K a0) fun v27_9 =>
 guardA v24_7 false (callA P w0 n_deduplaw10_same [v26_8, v27_9]) fun v28_10 =>
 guardA v24_7 false (pureA (unA .not v28_10)) fun v29_11 =>
 pickA v24_7 (.bool true) v29_11 fun v30_12 =>
 condA v30_12 (
 retA [(.bool false)] R) (
 callA P w0 n_dedupref10_SortOut [a0] fun v32_13 =>
 callA P w0 n_deduplaw10_items [v32_13] fun v35_14 =>
 callA P w0 n_seq_Search_string_int [v35_14, a2] fun v37_15 =>
 pureA (extA v37_15 0) fun v38_16 =>
 pureA (extA v37_15 1) fun v39_17 =>
 callA P w0 n_dedupref10_Find [v32_13, a2] fun v43_18 =>
 pureA (extA v43_18 0) fun v44_19 =>
 pureA (extA v43_18 1) fun v45_20 =>
 pureA (binA .neq v38_16 v44_19) fun v48_21 =>
 guardA v48_21 false (fun K => K v39_17) fun v50_22 =>
 guardA v48_21 false (fun K => K v45_20) fun v51_23 =>
 guardA v48_21 false (pureA (binBoolA .neq v50_22 v51_23)) fun v52_24 =>
 pickA v48_21 (.bool true) v52_24 fun v53_25 =>
 condA v53_25 (
 retA [(.bool false)] R) (
 callA P w0 n_seq_Search_string_int [v16_3, a2] fun v57_26 =>
 pureA (extA v57_26 0) fun v58_27 =>
 pureA (extA v57_26 1) fun v59_28 =>
 pureA (binA .geq v58_27 (.int .i64 0)) fun v61_29 =>
 guardA v61_29 true (fun K => K v58_27) fun v63_30 =>
 guardA v61_29 true (fun K => K a0) fun v64_31 =>
 guardA v61_29 true (pureA (lenSl v64_31)) fun v65_32 =>
 guardA v61_29 true (pureA (binA .leq v63_30 v65_32)) fun v66_33 =>
 pickA v61_29 v66_33 (.bool false) fun v67_34 =>
 guardA v67_34 true (fun K => K v59_28) fun v69_35 =>
 guardA v67_34 true (fun K => K v58_27) fun v70_36 =>
 guardA v67_34 true (fun K => K a0) fun v71_37 =>
 guardA v67_34 true (pureA (lenSl v71_37)) fun v72_38 =>
 guardA v67_34 true (pureA (binA .lss v70_36 v72_38)) fun v73_39 =>
 guardA v67_34 true (fun K => K v73_39) fun v74_40 =>
 guardA v74_40 true (fun K => K a0) fun v75_41 =>
 guardA v74_40 true (fun K => K v58_27) fun v76_42 =>
 guardA v74_40 true (idxSlA 2 v75_41 v76_42) fun v77_43 =>
 guardA v74_40 true (addA v77_43 0) fun v78_44 =>
 guardA v74_40 true (loadA w0 v78_44) fun v79_45 =>
 guardA v74_40 true (fun K => K a2) fun v80_46 =>
 guardA v74_40 true (pureA (binA .eql v79_45 v80_46)) fun v81_47 =>
 guardA v67_34 true (pickA v74_40 v81_47 (.bool false)) fun v82_48 =>
 guardA v67_34 true (pureA (binBoolA .eql v69_35 v82_48)) fun v83_49 =>
 pickA v67_34 v83_49 (.bool false) fun v84_50 =>
 retA [v84_50] R)))
theorem c_deduplaw10_SeqWithout {w0 : World} {h : Hp} {R : Kont} {a0 a1 a2 : Value} (hj : ∀ v, v ∈ [a0, a1, a2] → v ≠ junk) (hv : s_deduplaw10_SeqWithout prog w0 a0 a1 a2 R h) : ACalls prog w0 n_deduplaw10_SeqWithout [a0, a1, a2] h R := by
  have e : vcFn ⟨prog, w0, 85, ks_deduplaw10_SeqWithout⟩ (drw w0 85) fn_deduplaw10_SeqWithout [a0, a1, a2] R h = s_deduplaw10_SeqWithout prog w0 a0 a1 a2 R h := by
    kernel_rfl
  exact acalls_of_eq (fn := fn_deduplaw10_SeqWithout) (ks := ks_deduplaw10_SeqWithout) (n := 85) (by kernel_rfl) (by kernel_rfl) (draw_ok (by kernel_rfl)) (by simp) hj e hv

abbrev fn_deduplaw10_SeqMerges : Func := f6
def ks_deduplaw10_SeqMerges : List (Nat × List Nat × List Nat) := [(9, [7, 8, 9, 10, 11, 54, 55], [7, 8, 9, 11])]
def deduplaw10_SeqMerges_B1 (P : Program) (w0 : World) (R : Value → Value → Value → Value → Value → Value → Value → Hp → Prop) (k0 : Value → Value → Value → Value → Hp → Prop) (x7 x8 x9 x10 x11 x54 x55 : Value) : Hp → Prop :=
 pureA (binA .lss x55 x54) fun v56_28 =>
 condA v56_28 (
 idxSlA 2 x10 x55 fun v60_29 =>
 addA v60_29 1 fun v61_30 =>
 storeA w0 v61_30 (.int .i64 (-1)) fun _ =>
 pureA (binA .add x55 (.int .i64 1)) fun v62_31 =>
 R x7 x8 x9 x10 x11 x54 v62_31) (
 k0 x7 x8 x9 x11)
def deduplaw10_SeqMerges_L1 (P : Program) (w0 : World) (k0 : Value → Value → Value → Value → Hp → Prop) : Nat → Value → Value → Value → Value → Value → Value → Value → Hp → Prop
  | 0, _, _, _, _, _, _, _ => fun _ => False
  | m + 1, x7, x8, x9, x10, x11, x54, x55 => deduplaw10_SeqMerges_B1 P w0 (deduplaw10_SeqMerges_L1 P w0 k0 m) k0 x7 x8 x9 x10 x11 x54 x55
def deduplaw10_SeqMerges_E1 (P : Program) (w0 : World) (k0 : Value → Value → Value → Value → Hp → Prop) (x7 x8 x9 x10 x11 x54 x55 : Value) : Hp → Prop := fun h => ∃ m, deduplaw10_SeqMerges_L1 P w0 k0 m x7 x8 x9 x10 x11 x54 x55 h
def s_deduplaw10_SeqMerges (P : Program) (w0 : World) (a0 a1 a2 : Value) (R : Kont) : Hp → Prop :=
 callA P w0 n_deduplaw10_awake [] fun v13_1 =>
 pureA (unA .not v13_1) fun v14_2 =>
 condA v14_2 (
 retA [(.bool false)] R) (
 callA P w0 n_deduplaw10_items [a0] fun v16_3 =>
 callA P w0 n_deduplaw10_items [a1] fun v18_4 =>
 callA P w0 n_deduplaw10_items [a2] fun v20_5 =>
 bslA [(0, 1, false, v16_3), (1, 1, false, v18_4), (2, 1, false, v20_5)] (zerosL [(.slice none 0 0)] 3) 3 1 fun v24_6 =>
 callA P w0 n_seq_Merge_string_int [v24_6] fun v25_7 =>
 bslA [(0, 1, false, a0), (1, 1, false, a1), (2, 1, false, a2)] (zerosL [(.slice none 0 0)] 3) 3 1 fun v29_8 =>
 callA P w0 n_dedupref10_Merge [v29_8] fun v30_9 =>
 callA P w0 n_deduplaw10_same [v25_7, v30_9] fun v33_10 =>
 pureA (unA .not v33_10) fun v34_11 =>
 guardA v34_11 false (fun K => K v16_3) fun v36_12 =>
 guardA v34_11 false (fun K => K a0) fun v37_13 =>
 guardA v34_11 false (callA P w0 n_deduplaw10_same [v36_12, v37_13]) fun v38_14 =>
 guardA v34_11 false (pureA (unA .not v38_14)) fun v39_15 =>
 pickA v34_11 (.bool true) v39_15 fun v40_16 =>
 guardA v40_16 false (fun K => K v18_4) fun v42_17 =>
 guardA v40_16 false (fun K => K a1) fun v43_18 =>
 guardA v40_16 false (callA P w0 n_deduplaw10_same [v42_17, v43_18]) fun v44_19 =>
 guardA v40_16 false (pureA (unA .not v44_19)) fun v45_20 =>
 pickA v40_16 (.bool true) v45_20 fun v46_21 =>
 guardA v46_21 false (fun K => K v20_5) fun v48_22 =>
 guardA v46_21 false (fun K => K a2) fun v49_23 =>
 guardA v46_21 false (callA P w0 n_deduplaw10_same [v48_22, v49_23]) fun v50_24 =>
 guardA v46_21 false (pureA (unA .not v50_24)) fun v51_25 =>
 pickA v46_21 (.bool true) v51_25 fun v52_26 =>
 condA v52_26 (
 retA [(.bool false)] R) (
 pureA (lenSl v25_7) fun v54_27 =>
 deduplaw10_SeqMerges_E1 P w0 (fun y7_32 y8_33 y9_34 y11_35 =>
 bslA [(0, 1, false, y7_32), (1, 1, false, y8_33), (2, 1, false, y9_34)] (zerosL [(.slice none 0 0)] 3) 3 1 fun v66_36 =>
 callA P w0 n_seq_Merge_string_int [v66_36] fun v67_37 =>
 callA P w0 n_deduplaw10_same [v67_37, y11_35] fun v69_38 =>
 guardA v69_38 true (callA P w0 n_seq_Merge_string_int [(.slice none 0 0)]) fun v71_39 =>
 guardA v69_38 true (pureA (lenSl v71_39)) fun v72_40 =>
 guardA v69_38 true (pureA (binA .eql v72_40 (.int .i64 0))) fun v73_41 =>
 pickA v69_38 v73_41 (.bool false) fun v74_42 =>
 retA [v74_42] R) v16_3 v18_4 v20_5 v25_7 v30_9 v54_27 (.int .i64 0)))
theorem deduplaw10_SeqMerges_L1_eq (w0 : World) (k0 : Value → Value → Value → Value → Hp → Prop) : ∀ (m : Nat) (x7 x8 x9 x10 x11 x54 x55 : Value) (h : Hp), loopA (stepL ⟨prog, w0, 75, ks_deduplaw10_SeqMerges⟩ (drw w0 75) (loopAt fn_deduplaw10_SeqMerges 0)) m (mkFr [(7, x7), (8, x8), (9, x9), (10, x10), (11, x11), (54, x54), (55, x55)]) [fun t => k0 (t 7) (t 8) (t 9) (t 11)] h = deduplaw10_SeqMerges_L1 prog w0 k0 m x7 x8 x9 x10 x11 x54 x55 h := by
  intro m
  induction m with
  | zero => intros; kernel_rfl
  | succ m ih =>
    intro x7 x8 x9 x10 x11 x54 x55 h
    have e : deduplaw10_SeqMerges_L1 prog w0 k0 m = fun x7 x8 x9 x10 x11 x54 x55 h => loopA (stepL ⟨prog, w0, 75, ks_deduplaw10_SeqMerges⟩ (drw w0 75) (loopAt fn_deduplaw10_SeqMerges 0)) m (mkFr [(7, x7), (8, x8), (9, x9), (10, x10), (11, x11), (54, x54), (55, x55)]) [fun t => k0 (t 7) (t 8) (t 9) (t 11)] h := by funext x7 x8 x9 x10 x11 x54 x55 h; exact (ih x7 x8 x9 x10 x11 x54 x55 h).symm
    show _ = deduplaw10_SeqMerges_B1 prog w0 (deduplaw10_SeqMerges_L1 prog w0 k0 m) k0 x7 x8 x9 x10 x11 x54 x55 h
    rw [e]
    kernel_rfl
theorem deduplaw10_SeqMerges_E1_eq (w0 : World) : deduplaw10_SeqMerges_E1 prog w0 = fun k0 x7 x8 x9 x10 x11 x54 x55 h => ∃ m, loopA (stepL ⟨prog, w0, 75, ks_deduplaw10_SeqMerges⟩ (drw w0 75) (loopAt fn_deduplaw10_SeqMerges 0)) m (mkFr [(7, x7), (8, x8), (9, x9), (10, x10), (11, x11), (54, x54), (55, x55)]) [fun t => k0 (t 7) (t 8) (t 9) (t 11)] h := by
  funext k0 x7 x8 x9 x10 x11 x54 x55 h
  exact congrArg Exists (funext fun m => (deduplaw10_SeqMerges_L1_eq w0 k0 m x7 x8 x9 x10 x11 x54 x55 h).symm)
theorem c_deduplaw10_SeqMerges {w0 : World} {h : Hp} {R : Kont} {a0 a1 a2 : Value} (hj : ∀ v, v ∈ [a0, a1, a2] → v ≠ junk) (hv : s_deduplaw10_SeqMerges prog w0 a0 a1 a2 R h) : ACalls prog w0 n_deduplaw10_SeqMerges [a0, a1, a2] h R := by
  have e : vcFn ⟨prog, w0, 75, ks_deduplaw10_SeqMerges⟩ (drw w0 75) fn_deduplaw10_SeqMerges [a0, a1, a2] R h = s_deduplaw10_SeqMerges prog w0 a0 a1 a2 R h := by
    unfold s_deduplaw10_SeqMerges
    rw [deduplaw10_SeqMerges_E1_eq w0]
    kernel_rfl
  exact acalls_of_eq (fn := fn_deduplaw10_SeqMerges) (ks := ks_deduplaw10_SeqMerges) (n := 75) (by kernel_rfl) (by kernel_rfl) (draw_ok (by kernel_rfl)) (by simp) hj e hv

abbrev fn_deduplaw10_SeqMerged : Func := f7
def ks_deduplaw10_SeqMerged : List (Nat × List Nat × List Nat) := [(9, [6, 7, 8, 9, 48, 49], [6])]
def deduplaw10_SeqMerged_B1 (P : Program) (w0 : World) (R : Value → Value → Value → Value → Value → Value → Hp → Prop) (k0 : Value → Hp → Prop) (kr : Value → Hp → Prop) (x6 x7 x8 x9 x48 x49 : Value) : Hp → Prop :=
 pureA (binA .lss x49 x48) fun v50_27 =>
 condA v50_27 (
 pureQ (fun K => K x8) fun v52_28 =>
 pureQ (fun K => K x49) fun v53_29 =>
 pureQ (idxSlA 2 v52_28 v53_29) fun v54_30 =>
 readQ (loadNA w0 v54_30 2) fun v55_31 =>
 pureQ (fun K => K x7) fun v56_32 =>
 pureQ (fun K => K x49) fun v57_33 =>
 pureQ (idxSlA 2 v56_32 v57_33) fun v58_34 =>
 readQ (loadNA w0 v58_34 2) fun v59_35 =>
 pureQ (eqStA P .neq 54 v55_31 v59_35) fun v60_36 =>
 pureQ (fun K => K v60_36) fun v61_37 =>
 pureQ (guardA v61_37 false (fun K => K x9)) fun v62_38 =>
 pureQ (guardA v61_37 false (fun K => K x49)) fun v63_39 =>
 pureQ (guardA v61_37 false (idxSlA 2 v62_38 v63_39)) fun v64_40 =>
 readQ (guardA v61_37 false (loadNA w0 v64_40 2)) fun v65_41 =>
 pureQ (guardA v61_37 false (fun K => K x7)) fun v66_42 =>
 pureQ (guardA v61_37 false (fun K => K x49)) fun v67_43 =>
 pureQ (guardA v61_37 false (idxSlA 2 v66_42 v67_43)) fun v68_44 =>
 readQ (guardA v61_37 false (loadNA w0 v68_44 2)) fun v69_45 =>
 pureQ (guardA v61_37 false (eqStA P .neq 54 v65_41 v69_45)) fun v70_46 =>
 pureQ (pickA v61_37 (.bool true) v70_46) fun v71_47 =>
 pureQ (fun K => K v71_47) fun v72_48 =>
 pureQ (guardA v72_48 false (fun K => K x49)) fun v73_49 =>
 pureQ (guardA v72_48 false (pureA (binA .gtr v73_49 (.int .i64 0)))) fun v74_50 =>
 pureQ (guardA v72_48 false (fun K => K v74_50)) fun v75_51 =>
 pureQ (guardA v75_51 true (fun K => K x7)) fun v76_52 =>
 pureQ (guardA v75_51 true (fun K => K x49)) fun v77_53 =>
 pureQ (guardA v75_51 true (pureA (binA .sub v77_53 (.int .i64 1)))) fun v78_54 =>
 pureQ (guardA v75_51 true (idxSlA 2 v76_52 v78_54)) fun v79_55 =>
 pureQ (guardA v75_51 true (addA v79_55 0)) fun v80_56 =>
 readQ (guardA v75_51 true (loadA w0 v80_56)) fun v81_57 =>
 pureQ (guardA v75_51 true (fun K => K x7)) fun v82_58 =>
 pureQ (guardA v75_51 true (fun K => K x49)) fun v83_59 =>
 pureQ (guardA v75_51 true (idxSlA 2 v82_58 v83_59)) fun v84_60 =>
 pureQ (guardA v75_51 true (addA v84_60 0)) fun v85_61 =>
 readQ (guardA v75_51 true (loadA w0 v85_61)) fun v86_62 =>
 pureQ (guardA v75_51 true (pureA (binA .geq v81_57 v86_62))) fun v87_63 =>
 pureQ (guardA v72_48 false (pickA v75_51 v87_63 (.bool false))) fun v88_64 =>
 pureQ (pickA v72_48 (.bool true) v88_64) fun v89_65 =>
 endA (
 condA v89_65 (
 kr (.bool false)) (
 pureA (binA .add x49 (.int .i64 1)) fun v90_66 =>
 R x6 x7 x8 x9 x48 v90_66))) (
 k0 x6)
def deduplaw10_SeqMerged_L1 (P : Program) (w0 : World) (k0 : Value → Hp → Prop) (kr : Value → Hp → Prop) : Nat → Value → Value → Value → Value → Value → Value → Hp → Prop
  | 0, _, _, _, _, _, _ => fun _ => False
  | m + 1, x6, x7, x8, x9, x48, x49 => deduplaw10_SeqMerged_B1 P w0 (deduplaw10_SeqMerged_L1 P w0 k0 kr m) k0 kr x6 x7 x8 x9 x48 x49
def deduplaw10_SeqMerged_E1 (P : Program) (w0 : World) (k0 : Value → Hp → Prop) (kr : Value → Hp → Prop) (x6 x7 x8 x9 x48 x49 : Value) : Hp → Prop := fun h => ∃ m, deduplaw10_SeqMerged_L1 P w0 k0 kr m x6 x7 x8 x9 x48 x49 h
def s_deduplaw10_SeqMerged (P : Program) (w0 : World) (a0 a1 a2 : Value) (R : Kont) : Hp → Prop :=
 callA P w0 n_deduplaw10_awake [] fun v11_1 =>
 pureA (unA .not v11_1) fun v12_2 =>
 condA v12_2 (
 retA [(.bool false)] R) (
 callA P w0 n_deduplaw10_items [a0] fun v14_3 =>
 callA P w0 n_deduplaw10_items [a1] fun v16_4 =>
 callA P w0 n_deduplaw10_items [a2] fun v18_5 =>
 bslA [(0, 1, false, v14_3), (1, 1, false, v16_4), (2, 1, false, v18_5)] (zerosL [(.slice none 0 0)] 3) 3 1 fun v19_6 =>
 callA P w0 n_seq_Merge_string_int [v19_6] fun v20_7 =>
 callA P w0 n_deduplaw10_items [a0] fun v22_8 =>
 callA P w0 n_deduplaw10_items [a1] fun v24_9 =>
 bslA [(0, 1, false, v22_8), (1, 1, false, v24_9)] (zerosL [(.slice none 0 0)] 2) 2 1 fun v25_10 =>
 callA P w0 n_seq_Merge_string_int [v25_10] fun v26_11 =>
 callA P w0 n_deduplaw10_items [a2] fun v28_12 =>
 bslA [(0, 1, false, v26_11), (1, 1, false, v28_12)] (zerosL [(.slice none 0 0)] 2) 2 1 fun v29_13 =>
 callA P w0 n_seq_Merge_string_int [v29_13] fun v30_14 =>
 bslA [(0, 1, false, v20_7), (1, 1, false, v20_7)] (zerosL [(.slice none 0 0)] 2) 2 1 fun v33_15 =>
 callA P w0 n_seq_Merge_string_int [v33_15] fun v34_16 =>
 pureA (lenSl v30_14) fun v36_17 =>
 pureA (lenSl v20_7) fun v38_18 =>
 pureA (binA .neq v36_17 v38_18) fun v39_19 =>
 guardA v39_19 false (fun K => K v34_16) fun v41_20 =>
 guardA v39_19 false (pureA (lenSl v41_20)) fun v42_21 =>
 guardA v39_19 false (fun K => K v20_7) fun v43_22 =>
 guardA v39_19 false (pureA (lenSl v43_22)) fun v44_23 =>
 guardA v39_19 false (pureA (binA .neq v42_21 v44_23)) fun v45_24 =>
 pickA v39_19 (.bool true) v45_24 fun v46_25 =>
 condA v46_25 (
 retA [(.bool false)] R) (
 pureA (lenSl v20_7) fun v48_26 =>
 deduplaw10_SeqMerged_E1 P w0 (fun y6_67 =>
 retA [(.bool true)] R) (fun y6_68 =>
 retA [y6_68] R) (.bool false) v20_7 v30_14 v34_16 v48_26 (.int .i64 0)))
theorem deduplaw10_SeqMerged_L1_eq (w0 : World) (k0 : Value → Hp → Prop) (kr : Value → Hp → Prop) : ∀ (m : Nat) (x6 x7 x8 x9 x48 x49 : Value) (h : Hp), loopA (stepL ⟨prog, w0, 91, ks_deduplaw10_SeqMerged⟩ (drw w0 91) (loopAt fn_deduplaw10_SeqMerged 0)) m (mkFr [(6, x6), (7, x7), (8, x8), (9, x9), (48, x48), (49, x49)]) [fun t => k0 (t 6), fun t => kr (t 6)] h = deduplaw10_SeqMerged_L1 prog w0 k0 kr m x6 x7 x8 x9 x48 x49 h := by
  intro m
  induction m with
  | zero => intros; kernel_rfl
  | succ m ih =>
    intro x6 x7 x8 x9 x48 x49 h
    have e : deduplaw10_SeqMerged_L1 prog w0 k0 kr m = fun x6 x7 x8 x9 x48 x49 h => loopA (stepL ⟨prog, w0, 91, ks_deduplaw10_SeqMerged⟩ (drw w0 91) (loopAt fn_deduplaw10_SeqMerged 0)) m (mkFr [(6, x6), (7, x7), (8, x8), (9, x9), (48, x48), (49, x49)]) [fun t => k0 (t 6), fun t => kr (t 6)] h := by funext x6 x7 x8 x9 x48 x49 h; exact (ih x6 x7 x8 x9 x48 x49 h).symm
    show _ = deduplaw10_SeqMerged_B1 prog w0 (deduplaw10_SeqMerged_L1 prog w0 k0 kr m) k0 kr x6 x7 x8 x9 x48 x49 h
    rw [e]
    kernel_rfl
theorem deduplaw10_SeqMerged_E1_eq (w0 : World) : deduplaw10_SeqMerged_E1 prog w0 = fun k0 kr x6 x7 x8 x9 x48 x49 h => ∃ m, loopA (stepL ⟨prog, w0, 91, ks_deduplaw10_SeqMerged⟩ (drw w0 91) (loopAt fn_deduplaw10_SeqMerged 0)) m (mkFr [(6, x6), (7, x7), (8, x8), (9, x9), (48, x48), (49, x49)]) [fun t => k0 (t 6), fun t => kr (t 6)] h := by
  funext k0 kr x6 x7 x8 x9 x48 x49 h
  exact congrArg Exists (funext fun m => (deduplaw10_SeqMerged_L1_eq w0 k0 kr m x6 x7 x8 x9 x48 x49 h).symm)
theorem c_deduplaw10_SeqMerged {w0 : World} {h : Hp} {R : Kont} {a0 a1 a2 : Value} (hj : ∀ v, v ∈ [a0, a1, a2] → v ≠ junk) (hv : s_deduplaw10_SeqMerged prog w0 a0 a1 a2 R h) : ACalls prog w0 n_deduplaw10_SeqMerged [a0, a1, a2] h R := by
  have e : vcFn ⟨prog, w0, 91, ks_deduplaw10_SeqMerged⟩ (drw w0 91) fn_deduplaw10_SeqMerged [a0, a1, a2] R h = s_deduplaw10_SeqMerged prog w0 a0 a1 a2 R h := by
    unfold s_deduplaw10_SeqMerged
    rw [deduplaw10_SeqMerged_E1_eq w0]
    kernel_rfl
  exact acalls_of_eq (fn := fn_deduplaw10_SeqMerged) (ks := ks_deduplaw10_SeqMerged) (n := 91) (by kernel_rfl) (by kernel_rfl) (draw_ok (by kernel_rfl)) (by simp) hj e hv

abbrev fn_deduplaw10_SeqAgrees : Func := f8
def ks_deduplaw10_SeqAgrees : List (Nat × List Nat × List Nat) := [(5, [2, 3, 20, 21, 22], [2, 3])]
def deduplaw10_SeqAgrees_B1 (P : Program) (w0 : World) (R : Value → Value → Value → Value → Value → Hp → Prop) (k0 : Value → Value → Hp → Prop) (x2 x3 x20 x21 x22 : Value) : Hp → Prop :=
 pureA (binA .lss x22 x21) fun v23_11 =>
 condA v23_11 (
 idxSlA 4 x20 x22 fun v24_12 =>
 loadNA w0 v24_12 4 fun v25_13 =>
 newA [(.int .i64 0), (.string .empty), (.string .empty), (.int .i64 0)] 4 fun v5_14 =>
 storeNA w0 v5_14 v25_13 4 fun _ =>
 addA v5_14 0 fun v26_15 =>
 loadA w0 v26_15 fun v27_16 =>
 pureA (binA .eql v27_16 (.int .i64 0)) fun v29_17 =>
 condA v29_17 (
 loadA w0 x3 fun v30_18 =>
 addA v5_14 1 fun v31_19 =>
 loadA w0 v31_19 fun v32_20 =>
 addA v5_14 3 fun v33_21 =>
 loadA w0 v33_21 fun v34_22 =>
 callA P w0 n_seq_Map_string_int_Put [v30_18, v32_20, v34_22] fun v35_23 =>
 pureA (binA .add x22 (.int .i64 1)) fun v42_24 =>
 R x2 x3 x20 x21 v42_24) (
 pureA (binA .eql v27_16 (.int .i64 2)) fun v37_25 =>
 condA v37_25 (
 loadA w0 x3 fun v38_26 =>
 addA v5_14 1 fun v39_27 =>
 loadA w0 v39_27 fun v40_28 =>
 callA P w0 n_seq_Map_string_int_Delete [v38_26, v40_28] fun v41_29 =>
 pureA (binA .add x22 (.int .i64 1)) fun v42_30 =>
 R x2 x3 x20 x21 v42_30) (
 pureA (binA .add x22 (.int .i64 1)) fun v42_31 =>
 R x2 x3 x20 x21 v42_31))) (
 k0 x2 x3)
def deduplaw10_SeqAgrees_L1 (P : Program) (w0 : World) (k0 : Value → Value → Hp → Prop) : Nat → Value → Value → Value → Value → Value → Hp → Prop
  | 0, _, _, _, _, _ => fun _ => False
  | m + 1, x2, x3, x20, x21, x22 => deduplaw10_SeqAgrees_B1 P w0 (deduplaw10_SeqAgrees_L1 P w0 k0 m) k0 x2 x3 x20 x21 x22
def deduplaw10_SeqAgrees_E1 (P : Program) (w0 : World) (k0 : Value → Value → Hp → Prop) (x2 x3 x20 x21 x22 : Value) : Hp → Prop := fun h => ∃ m, deduplaw10_SeqAgrees_L1 P w0 k0 m x2 x3 x20 x21 x22 h
def deduplaw10_SeqAgrees_R1 (P : Program) (w0 : World) (b : Nat) (g : Lp) (K : Kont) (x2 x3 x6 y45 y46 : Value) : Hp → Prop :=
 beginA b g (
 loadA w0 x3 fun v48_37 =>
 loadA w0 x6 fun v49_38 =>
 callA P w0 n_seq_Map_string_int_At [v48_37, v49_38] fun v50_39 =>
 pureA (extA v50_39 0) fun v51_40 =>
 pureA (extA v50_39 1) fun v52_41 =>
 newA [(.string .empty), (.int .i64 0)] 2 fun v9_42 =>
 storeNA w0 v9_42 v51_40 2 fun _ =>
 loadA w0 x3 fun v54_43 =>
 callA P w0 n_seq_Map_string_int_Get [v54_43, y45] fun v56_44 =>
 pureA (extA v56_44 0) fun v57_45 =>
 pureA (extA v56_44 1) fun v58_46 =>
 pureQ (fun K => K v52_41) fun v59_47 =>
 pureQ (pureA (unA .not v59_47)) fun v60_48 =>
 pureQ (fun K => K v60_48) fun v61_49 =>
 pureQ (guardA v61_49 false (addA v9_42 0)) fun v62_50 =>
 readQ (guardA v61_49 false (loadA w0 v62_50)) fun v63_51 =>
 pureQ (guardA v61_49 false (fun K => K y45)) fun v64_52 =>
 pureQ (guardA v61_49 false (pureA (binA .neq v63_51 v64_52))) fun v65_53 =>
 pureQ (pickA v61_49 (.bool true) v65_53) fun v66_54 =>
 pureQ (fun K => K v66_54) fun v67_55 =>
 pureQ (guardA v67_55 false (addA v9_42 1)) fun v68_56 =>
 readQ (guardA v67_55 false (loadA w0 v68_56)) fun v69_57 =>
 pureQ (guardA v67_55 false (fun K => K y46)) fun v70_58 =>
 pureQ (guardA v67_55 false (pureA (binA .neq v69_57 v70_58))) fun v71_59 =>
 pureQ (pickA v67_55 (.bool true) v71_59) fun v72_60 =>
 pureQ (fun K => K v72_60) fun v73_61 =>
 pureQ (guardA v73_61 false (fun K => K v58_46)) fun v74_62 =>
 pureQ (guardA v73_61 false (pureA (unA .not v74_62))) fun v75_63 =>
 pureQ (pickA v73_61 (.bool true) v75_63) fun v76_64 =>
 pureQ (fun K => K v76_64) fun v77_65 =>
 pureQ (guardA v77_65 false (fun K => K v57_45)) fun v78_66 =>
 pureQ (guardA v77_65 false (fun K => K y46)) fun v79_67 =>
 pureQ (guardA v77_65 false (pureA (binA .neq v78_66 v79_67))) fun v80_68 =>
 pureQ (pickA v77_65 (.bool true) v80_68) fun v81_69 =>
 pureQ (fun K => K v81_69) fun v82_70 =>
 readQ (guardA v82_70 false (loadA w0 x3)) fun v83_71 =>
 pureQ (guardA v82_70 false (fun K => K y45)) fun v84_72 =>
 readQ (guardA v82_70 false (loadA w0 x6)) fun v86_73 =>
 allA [
 (guardA v82_70 false (callA P w0 n_seq_Map_string_int_Rank [v83_71, v84_72]) fun v85_74 =>
 stillA [(sameQ (guardA v82_70 false (loadA w0 x6)) v86_73)] (
 pureQ (guardA v82_70 false (pureA (binA .neq v85_74 v86_73))) fun v87_75 =>
 pureQ (pickA v82_70 (.bool true) v87_75) fun v88_76 =>
 endA (
 condA v88_76 (
 storeA w0 x2 (.bool false) fun _ =>
 endR b g (some none) K) (
 loadA w0 x6 fun v89_77 =>
 pureA (binA .add v89_77 (.int .i64 1)) fun v90_78 =>
 storeA w0 x6 v90_78 fun _ =>
 endR b g none K))))])
def s_deduplaw10_SeqAgrees (P : Program) (w0 : World) (a0 : Value) (R : Kont) : Hp → Prop :=
 fun h0 => (newA [(.bool false)] 1 fun v2_1 =>
 callA P w0 n_seq_NewMap_string_int [] fun v13_2 =>
 newA [(.pointer none)] 1 fun v3_3 =>
 storeA w0 v3_3 v13_2 fun _ =>
 callA P w0 n_deduplaw10_awake [] fun v14_4 =>
 pureA (unA .not v14_4) fun v15_5 =>
 guardA v15_5 false (loadA w0 v3_3) fun v17_6 =>
 guardA v15_5 false (pureA (binPtrA .eql v17_6 (.pointer none))) fun v18_7 =>
 pickA v15_5 (.bool true) v18_7 fun v19_8 =>
 condA v19_8 (
 storeA w0 v2_1 (.bool false) fun _ =>
 cutA h0 (
 loadA w0 v2_1 fun v2_9 =>
 retA [v2_9] R)) (
 pureA (lenSl a0) fun v21_10 =>
 deduplaw10_SeqAgrees_E1 P w0 (fun y2_32 y3_33 =>
 newA [(.int .i64 0)] 1 fun v6_34 =>
 storeA w0 v6_34 (.int .i64 0) fun _ =>
 loadA w0 y3_33 fun v43_35 =>
 callA P w0 n_seq_Map_string_int_All [v43_35] fun v44_36 =>
 rangeA P w0 v44_36 2 (fun b g args K => deduplaw10_SeqAgrees_R1 P w0 b g K y2_32 y3_33 v6_34 (args.getD 0 undef) (args.tail.getD 0 undef)) (
 readQ (loadA w0 v6_34) fun v91_80 =>
 readQ (loadA w0 y3_33) fun v92_81 =>
 allA [
 (callA P w0 n_seq_Map_string_int_Len [v92_81] fun v93_82 =>
 stillA [(sameQ (loadA w0 v6_34) v91_80)] (
 pureQ (pureA (binA .eql v91_80 v93_82)) fun v94_83 =>
 allA [
 (storeA w0 y2_32 v94_83 fun _ =>
 stillA [] (
 endA (
 cutA h0 (
 loadA w0 y2_32 fun v2_84 =>
 retA [v2_84] R))))]))]) [(none, (
 cutA h0 (
 loadA w0 y2_32 fun v2_79 =>
 retA [v2_79] R)))]) v2_1 v3_3 a0 v21_10 (.int .i64 0))) h0
theorem deduplaw10_SeqAgrees_L1_eq (w0 : World) (k0 : Value → Value → Hp → Prop) : ∀ (m : Nat) (x2 x3 x20 x21 x22 : Value) (h : Hp), loopA (stepLM ⟨prog, w0, 95, ks_deduplaw10_SeqAgrees⟩ (drw w0 95) (loopAt fn_deduplaw10_SeqAgrees 0)) m (mkFr [(2, x2), (3, x3), (20, x20), (21, x21), (22, x22)]) [fun t => k0 (t 2) (t 3)] h = deduplaw10_SeqAgrees_L1 prog w0 k0 m x2 x3 x20 x21 x22 h := by
  intro m
  induction m with
  | zero => intros; kernel_rfl
  | succ m ih =>
    intro x2 x3 x20 x21 x22 h
    have e : deduplaw10_SeqAgrees_L1 prog w0 k0 m = fun x2 x3 x20 x21 x22 h => loopA (stepLM ⟨prog, w0, 95, ks_deduplaw10_SeqAgrees⟩ (drw w0 95) (loopAt fn_deduplaw10_SeqAgrees 0)) m (mkFr [(2, x2), (3, x3), (20, x20), (21, x21), (22, x22)]) [fun t => k0 (t 2) (t 3)] h := by funext x2 x3 x20 x21 x22 h; exact (ih x2 x3 x20 x21 x22 h).symm
    show _ = deduplaw10_SeqAgrees_B1 prog w0 (deduplaw10_SeqAgrees_L1 prog w0 k0 m) k0 x2 x3 x20 x21 x22 h
    rw [e]
    kernel_rfl
theorem deduplaw10_SeqAgrees_E1_eq (w0 : World) : deduplaw10_SeqAgrees_E1 prog w0 = fun k0 x2 x3 x20 x21 x22 h => ∃ m, loopA (stepLM ⟨prog, w0, 95, ks_deduplaw10_SeqAgrees⟩ (drw w0 95) (loopAt fn_deduplaw10_SeqAgrees 0)) m (mkFr [(2, x2), (3, x3), (20, x20), (21, x21), (22, x22)]) [fun t => k0 (t 2) (t 3)] h := by
  funext k0 x2 x3 x20 x21 x22 h
  exact congrArg Exists (funext fun m => (deduplaw10_SeqAgrees_L1_eq w0 k0 m x2 x3 x20 x21 x22 h).symm)
theorem c_deduplaw10_SeqAgrees {w0 : World} {h : Hp} {R : Kont} {a0 : Value} (hj : ∀ v, v ∈ [a0] → v ≠ junk) (hv : s_deduplaw10_SeqAgrees prog w0 a0 R h) : ACalls prog w0 n_deduplaw10_SeqAgrees [a0] h R := by
  have e : vcFnM ⟨prog, w0, 95, ks_deduplaw10_SeqAgrees⟩ (drw w0 95) fn_deduplaw10_SeqAgrees [a0] R h = s_deduplaw10_SeqAgrees prog w0 a0 R h := by
    unfold s_deduplaw10_SeqAgrees
    rw [deduplaw10_SeqAgrees_E1_eq w0]
    kernel_rfl
  exact acalls_of_eqM (fn := fn_deduplaw10_SeqAgrees) (ks := ks_deduplaw10_SeqAgrees) (n := 95) (by kernel_rfl) (by kernel_rfl) (draw_ok (by kernel_rfl)) (by simp) hj e hv

abbrev fn_deduplaw10_SeqMaps : Func := f9
def ks_deduplaw10_SeqMaps : List (Nat × List Nat × List Nat) := [(7, [2, 3, 4, 16, 17, 18], [2, 3, 4])]
def deduplaw10_SeqMaps_B1 (P : Program) (w0 : World) (R : Value → Value → Value → Value → Value → Value → Hp → Prop) (k0 : Value → Value → Value → Hp → Prop) (kr : Value → Value → Value → Hp → Prop) (x2 x3 x4 x16 x17 x18 : Value) : Hp → Prop :=
 pureA (binA .lss x18 x17) fun v19_8 =>
 condA v19_8 (
 idxSlA 4 x16 x18 fun v20_9 =>
 loadNA w0 v20_9 4 fun v21_10 =>
 newA [(.int .i64 0), (.string .empty), (.string .empty), (.int .i64 0)] 4 fun v7_11 =>
 storeNA w0 v7_11 v21_10 4 fun _ =>
 addA v7_11 0 fun v22_12 =>
 loadA w0 v22_12 fun v23_13 =>
 pureA (binA .eql v23_13 (.int .i64 8)) fun v24_14 =>
 condA v24_14 (
 callA P w0 n_seq_Map_string_int_Fork [x3] fun v26_15 =>
 pureA (binPtrA .eql v26_15 (.pointer none)) fun v28_16 =>
 condA v28_16 (
 kr (.bool false) x3 x4) (
 callA P w0 n_seq_Map_string_int_Put [x3, (.string ⟨#[97, 32, 102, 111, 114, 107, 39, 115, 32, 111, 119, 110]⟩), (.int .i64 1)] fun v30_17 =>
 addA v7_11 1 fun v32_18 =>
 loadA w0 v32_18 fun v33_19 =>
 callA P w0 n_seq_Map_string_int_Delete [x3, v33_19] fun v34_20 =>
 pureA (binA .add x18 (.int .i64 1)) fun v45_21 =>
 R x2 v26_15 x4 x16 x17 v45_21)) (
 loadNA w0 v7_11 4 fun v39_22 =>
 callA P w0 n_deduplaw10_step [x3, x4, v39_22] fun v40_23 =>
 pureA (extA v40_23 0) fun v41_24 =>
 pureA (extA v40_23 1) fun v42_25 =>
 pureA (unA .not v42_25) fun v44_26 =>
 condA v44_26 (
 kr (.bool false) x3 v41_24) (
 pureA (binA .add x18 (.int .i64 1)) fun v45_27 =>
 R x2 x3 v41_24 x16 x17 v45_27))) (
 k0 x2 x3 x4)
def deduplaw10_SeqMaps_L1 (P : Program) (w0 : World) (k0 : Value → Value → Value → Hp → Prop) (kr : Value → Value → Value → Hp → Prop) : Nat → Value → Value → Value → Value → Value → Value → Hp → Prop
  | 0, _, _, _, _, _, _ => fun _ => False
  | m + 1, x2, x3, x4, x16, x17, x18 => deduplaw10_SeqMaps_B1 P w0 (deduplaw10_SeqMaps_L1 P w0 k0 kr m) k0 kr x2 x3 x4 x16 x17 x18
def deduplaw10_SeqMaps_E1 (P : Program) (w0 : World) (k0 : Value → Value → Value → Hp → Prop) (kr : Value → Value → Value → Hp → Prop) (x2 x3 x4 x16 x17 x18 : Value) : Hp → Prop := fun h => ∃ m, deduplaw10_SeqMaps_L1 P w0 k0 kr m x2 x3 x4 x16 x17 x18 h
def s_deduplaw10_SeqMaps (P : Program) (w0 : World) (a0 : Value) (R : Kont) : Hp → Prop :=
 callA P w0 n_seq_NewMap_string_int [] fun v9_1 =>
 callA P w0 n_deduplaw10_awake [] fun v10_2 =>
 pureA (unA .not v10_2) fun v11_3 =>
 guardA v11_3 false (fun K => K v9_1) fun v13_4 =>
 guardA v11_3 false (pureA (binPtrA .eql v13_4 (.pointer none))) fun v14_5 =>
 pickA v11_3 (.bool true) v14_5 fun v15_6 =>
 condA v15_6 (
 retA [(.bool false)] R) (
 pureA (lenSl a0) fun v17_7 =>
 deduplaw10_SeqMaps_E1 P w0 (fun y2_28 y3_29 y4_30 =>
 buildA [(0, 1, false, (.int .i64 7)), (3, 1, false, (.int .i64 1))] [(.int .i64 0), (.string .empty), (.string .empty), (.int .i64 0)] fun v49_31 =>
 callA P w0 n_deduplaw10_step [y3_29, y4_30, v49_31] fun v50_32 =>
 pureA (extA v50_32 0) fun v51_33 =>
 pureA (extA v50_32 1) fun v52_34 =>
 guardA v52_34 true (fun K => K y3_29) fun v55_35 =>
 guardA v52_34 true (callA P w0 n_seq_Map_string_int_Len [v55_35]) fun v56_36 =>
 guardA v52_34 true (fun K => K y4_30) fun v57_37 =>
 guardA v52_34 true (pureA (lenSl v57_37)) fun v58_38 =>
 guardA v52_34 true (pureA (binA .eql v56_36 v58_38)) fun v59_39 =>
 pickA v52_34 v59_39 (.bool false) fun v60_40 =>
 retA [v60_40] R) (fun y2_41 y3_42 y4_43 =>
 retA [y2_41] R) (.bool false) v9_1 (.slice none 0 0) a0 v17_7 (.int .i64 0))
theorem deduplaw10_SeqMaps_L1_eq (w0 : World) (k0 : Value → Value → Value → Hp → Prop) (kr : Value → Value → Value → Hp → Prop) : ∀ (m : Nat) (x2 x3 x4 x16 x17 x18 : Value) (h : Hp), loopA (stepL ⟨prog, w0, 61, ks_deduplaw10_SeqMaps⟩ (drw w0 61) (loopAt fn_deduplaw10_SeqMaps 0)) m (mkFr [(2, x2), (3, x3), (4, x4), (16, x16), (17, x17), (18, x18)]) [fun t => k0 (t 2) (t 3) (t 4), fun t => kr (t 2) (t 3) (t 4)] h = deduplaw10_SeqMaps_L1 prog w0 k0 kr m x2 x3 x4 x16 x17 x18 h := by
  intro m
  induction m with
  | zero => intros; kernel_rfl
  | succ m ih =>
    intro x2 x3 x4 x16 x17 x18 h
    have e : deduplaw10_SeqMaps_L1 prog w0 k0 kr m = fun x2 x3 x4 x16 x17 x18 h => loopA (stepL ⟨prog, w0, 61, ks_deduplaw10_SeqMaps⟩ (drw w0 61) (loopAt fn_deduplaw10_SeqMaps 0)) m (mkFr [(2, x2), (3, x3), (4, x4), (16, x16), (17, x17), (18, x18)]) [fun t => k0 (t 2) (t 3) (t 4), fun t => kr (t 2) (t 3) (t 4)] h := by funext x2 x3 x4 x16 x17 x18 h; exact (ih x2 x3 x4 x16 x17 x18 h).symm
    show _ = deduplaw10_SeqMaps_B1 prog w0 (deduplaw10_SeqMaps_L1 prog w0 k0 kr m) k0 kr x2 x3 x4 x16 x17 x18 h
    rw [e]
    kernel_rfl
theorem deduplaw10_SeqMaps_E1_eq (w0 : World) : deduplaw10_SeqMaps_E1 prog w0 = fun k0 kr x2 x3 x4 x16 x17 x18 h => ∃ m, loopA (stepL ⟨prog, w0, 61, ks_deduplaw10_SeqMaps⟩ (drw w0 61) (loopAt fn_deduplaw10_SeqMaps 0)) m (mkFr [(2, x2), (3, x3), (4, x4), (16, x16), (17, x17), (18, x18)]) [fun t => k0 (t 2) (t 3) (t 4), fun t => kr (t 2) (t 3) (t 4)] h := by
  funext k0 kr x2 x3 x4 x16 x17 x18 h
  exact congrArg Exists (funext fun m => (deduplaw10_SeqMaps_L1_eq w0 k0 kr m x2 x3 x4 x16 x17 x18 h).symm)
theorem c_deduplaw10_SeqMaps {w0 : World} {h : Hp} {R : Kont} {a0 : Value} (hj : ∀ v, v ∈ [a0] → v ≠ junk) (hv : s_deduplaw10_SeqMaps prog w0 a0 R h) : ACalls prog w0 n_deduplaw10_SeqMaps [a0] h R := by
  have e : vcFn ⟨prog, w0, 61, ks_deduplaw10_SeqMaps⟩ (drw w0 61) fn_deduplaw10_SeqMaps [a0] R h = s_deduplaw10_SeqMaps prog w0 a0 R h := by
    unfold s_deduplaw10_SeqMaps
    rw [deduplaw10_SeqMaps_E1_eq w0]
    kernel_rfl
  exact acalls_of_eq (fn := fn_deduplaw10_SeqMaps) (ks := ks_deduplaw10_SeqMaps) (n := 61) (by kernel_rfl) (by kernel_rfl) (draw_ok (by kernel_rfl)) (by simp) hj e hv

abbrev fn_deduplaw10_SeqNobody : Func := f10
def ks_deduplaw10_SeqNobody : List (Nat × List Nat × List Nat) := []
def deduplaw10_SeqNobody_R1 (P : Program) (w0 : World) (b : Nat) (g : Lp) (K : Kont) (x2 y99 y100 : Value) : Hp → Prop :=
 beginA b g (
 storeA w0 x2 (.bool false) fun _ =>
 endR b g (some none) K)
def deduplaw10_SeqNobody_R2 (P : Program) (w0 : World) (b : Nat) (g : Lp) (K : Kont) (x2 y105 y106 : Value) : Hp → Prop :=
 beginA b g (
 storeA w0 x2 (.bool false) fun _ =>
 endR b g (some none) K)
def s_deduplaw10_SeqNobody (P : Program) (w0 : World) (a0 : Value) (R : Kont) : Hp → Prop :=
 fun h0 => (boxA true 4 a0 fun v1_1 =>
 newA [(.bool false)] 1 fun v2_2 =>
 addA v1_1 3 fun v18_3 =>
 loadA w0 v18_3 fun v19_4 =>
 callA P w0 n_seq_Heap_int_Push [(.pointer none), v19_4] fun v20_5 =>
 callA P w0 n_seq_Heap_int_Pop [(.pointer none)] fun v23_6 =>
 pureA (extA v23_6 0) fun v24_7 =>
 pureA (extA v23_6 1) fun v25_8 =>
 callA P w0 n_seq_Heap_int_Least [(.pointer none)] fun v28_9 =>
 pureA (extA v28_9 0) fun v29_10 =>
 pureA (extA v28_9 1) fun v30_11 =>
 callA P w0 n_deduplaw10_awake [] fun v31_12 =>
 pureA (unA .not v31_12) fun v32_13 =>
 guardA v32_13 false (fun K => K v24_7) fun v34_14 =>
 guardA v32_13 false (pureA (binA .neq v34_14 (.int .i64 0))) fun v35_15 =>
 pickA v32_13 (.bool true) v35_15 fun v36_16 =>
 guardA v36_16 false (fun K => K v29_10) fun v38_17 =>
 guardA v36_16 false (pureA (binA .neq v38_17 (.int .i64 0))) fun v39_18 =>
 pickA v36_16 (.bool true) v39_18 fun v40_19 =>
 guardA v40_19 false (fun K => K v25_8) fun v42_20 =>
 pickA v40_19 (.bool true) v42_20 fun v43_21 =>
 guardA v43_21 false (fun K => K v30_11) fun v45_22 =>
 pickA v43_21 (.bool true) v45_22 fun v46_23 =>
 guardA v46_23 false (fun K => K (.pointer none)) fun v48_24 =>
 guardA v46_23 false (callA P w0 n_seq_Heap_int_Len [v48_24]) fun v49_25 =>
 guardA v46_23 false (pureA (binA .neq v49_25 (.int .i64 0))) fun v50_26 =>
 pickA v46_23 (.bool true) v50_26 fun v51_27 =>
 guardA v51_27 false (fun K => K (.pointer none)) fun v53_28 =>
 guardA v51_27 false (callA P w0 n_seq_Map_string_int_Len [v53_28]) fun v54_29 =>
 guardA v51_27 false (pureA (binA .neq v54_29 (.int .i64 0))) fun v55_30 =>
 pickA v51_27 (.bool true) v55_30 fun v56_31 =>
 guardA v56_31 false (fun K => K (.pointer none)) fun v58_32 =>
 guardA v56_31 false (addA v1_1 1) fun v59_33 =>
 guardA v56_31 false (loadA w0 v59_33) fun v60_34 =>
 guardA v56_31 false (callA P w0 n_seq_Map_string_int_Rank [v58_32, v60_34]) fun v61_35 =>
 guardA v56_31 false (pureA (binA .neq v61_35 (.int .i64 0))) fun v62_36 =>
 pickA v56_31 (.bool true) v62_36 fun v63_37 =>
 guardA v63_37 false (fun K => K (.pointer none)) fun v65_38 =>
 guardA v63_37 false (callA P w0 n_seq_Map_string_int_Fork [v65_38]) fun v66_39 =>
 guardA v63_37 false (pureA (binPtrA .neq v66_39 (.pointer none))) fun v67_40 =>
 pickA v63_37 (.bool true) v67_40 fun v68_41 =>
 condA v68_41 (
 storeA w0 v2_2 (.bool false) fun _ =>
 cutA h0 (
 loadA w0 v2_2 fun v2_42 =>
 retA [v2_42] R)) (
 addA v1_1 1 fun v71_43 =>
 loadA w0 v71_43 fun v72_44 =>
 addA v1_1 3 fun v73_45 =>
 loadA w0 v73_45 fun v74_46 =>
 callA P w0 n_seq_Map_string_int_Put [(.pointer none), v72_44, v74_46] fun v75_47 =>
 pureA (extA v75_47 0) fun v76_48 =>
 pureA (extA v75_47 1) fun v77_49 =>
 addA v1_1 1 fun v80_50 =>
 loadA w0 v80_50 fun v81_51 =>
 callA P w0 n_seq_Map_string_int_Get [(.pointer none), v81_51] fun v82_52 =>
 pureA (extA v82_52 0) fun v83_53 =>
 pureA (extA v82_52 1) fun v84_54 =>
 addA v1_1 1 fun v87_55 =>
 loadA w0 v87_55 fun v88_56 =>
 callA P w0 n_seq_Map_string_int_Delete [(.pointer none), v88_56] fun v89_57 =>
 pureA (extA v89_57 0) fun v90_58 =>
 pureA (extA v89_57 1) fun v91_59 =>
 callA P w0 n_seq_Map_string_int_At [(.pointer none), (.int .i64 0)] fun v94_60 =>
 pureA (extA v94_60 0) fun v95_61 =>
 pureA (extA v94_60 1) fun v96_62 =>
 newA [(.string .empty), (.int .i64 0)] 2 fun v15_63 =>
 storeNA w0 v15_63 v95_61 2 fun _ =>
 callA P w0 n_seq_Map_string_int_All [(.pointer none)] fun v98_64 =>
 rangeA P w0 v98_64 2 (fun b g args K => deduplaw10_SeqNobody_R1 P w0 b g K v2_2 (args.getD 0 undef) (args.tail.getD 0 undef)) (
 addA v1_1 1 fun v102_66 =>
 loadA w0 v102_66 fun v103_67 =>
 callA P w0 n_seq_Map_string_int_Range [(.pointer none), (.string .empty), v103_67] fun v104_68 =>
 rangeA P w0 v104_68 2 (fun b g args K => deduplaw10_SeqNobody_R2 P w0 b g K v2_2 (args.getD 0 undef) (args.tail.getD 0 undef)) (
 pureA (binA .eql v76_48 (.int .i64 0)) fun v108_70 =>
 guardA v108_70 true (fun K => K v83_53) fun v110_71 =>
 guardA v108_70 true (pureA (binA .eql v110_71 (.int .i64 0))) fun v111_72 =>
 pickA v108_70 v111_72 (.bool false) fun v112_73 =>
 guardA v112_73 true (fun K => K v90_58) fun v114_74 =>
 guardA v112_73 true (pureA (binA .eql v114_74 (.int .i64 0))) fun v115_75 =>
 pickA v112_73 v115_75 (.bool false) fun v116_76 =>
 guardA v116_76 true (addA v15_63 0) fun v118_77 =>
 guardA v116_76 true (loadA w0 v118_77) fun v119_78 =>
 guardA v116_76 true (pureA (binA .eql v119_78 (.string .empty))) fun v120_79 =>
 pickA v116_76 v120_79 (.bool false) fun v121_80 =>
 guardA v121_80 true (fun K => K v77_49) fun v123_81 =>
 guardA v121_80 true (pureA (unA .not v123_81)) fun v124_82 =>
 pickA v121_80 v124_82 (.bool false) fun v125_83 =>
 guardA v125_83 true (fun K => K v84_54) fun v127_84 =>
 guardA v125_83 true (pureA (unA .not v127_84)) fun v128_85 =>
 pickA v125_83 v128_85 (.bool false) fun v129_86 =>
 guardA v129_86 true (fun K => K v91_59) fun v131_87 =>
 guardA v129_86 true (pureA (unA .not v131_87)) fun v132_88 =>
 pickA v129_86 v132_88 (.bool false) fun v133_89 =>
 guardA v133_89 true (fun K => K v96_62) fun v135_90 =>
 guardA v133_89 true (pureA (unA .not v135_90)) fun v136_91 =>
 pickA v133_89 v136_91 (.bool false) fun v137_92 =>
 storeA w0 v2_2 v137_92 fun _ =>
 cutA h0 (
 loadA w0 v2_2 fun v2_93 =>
 retA [v2_93] R)) [(none, (
 cutA h0 (
 loadA w0 v2_2 fun v2_69 =>
 retA [v2_69] R)))]) [(none, (
 cutA h0 (
 loadA w0 v2_2 fun v2_65 =>
 retA [v2_65] R)))])) h0
theorem c_deduplaw10_SeqNobody {w0 : World} {h : Hp} {R : Kont} {a0 : Value} (hj : ∀ v, v ∈ [a0] → v ≠ junk) (hv : s_deduplaw10_SeqNobody prog w0 a0 R h) : ACalls prog w0 n_deduplaw10_SeqNobody [a0] h R := by
  have e : vcFnM ⟨prog, w0, 138, ks_deduplaw10_SeqNobody⟩ (drw w0 138) fn_deduplaw10_SeqNobody [a0] R h = s_deduplaw10_SeqNobody prog w0 a0 R h := by
    kernel_rfl
  exact acalls_of_eqM (fn := fn_deduplaw10_SeqNobody) (ks := ks_deduplaw10_SeqNobody) (n := 138) (by kernel_rfl) (by kernel_rfl) (draw_ok (by kernel_rfl)) (by simp) hj e hv

abbrev fn_deduplaw10_awake : Func := f12
def ks_deduplaw10_awake : List (Nat × List Nat × List Nat) := []
def s_deduplaw10_awake (P : Program) (w0 : World) (R : Kont) : Hp → Prop :=
 callA P w0 n_seq_NewHeap_int [] fun v8_1 =>
 callA P w0 n_seq_NewMap_string_int [] fun v9_2 =>
 pureA (binPtrA .eql v8_1 (.pointer none)) fun v11_3 =>
 guardA v11_3 false (fun K => K v9_2) fun v13_4 =>
 guardA v11_3 false (pureA (binPtrA .eql v13_4 (.pointer none))) fun v14_5 =>
 pickA v11_3 (.bool true) v14_5 fun v15_6 =>
 guardA v15_6 false (fun K => K v9_2) fun v17_7 =>
 guardA v15_6 false (callA P w0 n_seq_Map_string_int_All [v17_7]) fun v18_8 =>
 guardA v15_6 false (pureA (binFnA .eql v18_8 .nilFunc)) fun v19_9 =>
 pickA v15_6 (.bool true) v19_9 fun v20_10 =>
 guardA v20_10 false (fun K => K v9_2) fun v22_11 =>
 guardA v20_10 false (callA P w0 n_seq_Map_string_int_Range [v22_11, (.string .empty), (.string .empty)]) fun v23_12 =>
 guardA v20_10 false (pureA (binFnA .eql v23_12 .nilFunc)) fun v24_13 =>
 pickA v20_10 (.bool true) v24_13 fun v25_14 =>
 guardA v25_14 false (fun K => K (.pointer none)) fun v27_15 =>
 guardA v25_14 false (callA P w0 n_seq_Map_string_int_All [v27_15]) fun v28_16 =>
 guardA v25_14 false (pureA (binFnA .eql v28_16 .nilFunc)) fun v29_17 =>
 pickA v25_14 (.bool true) v29_17 fun v30_18 =>
 guardA v30_18 false (fun K => K (.pointer none)) fun v32_19 =>
 guardA v30_18 false (callA P w0 n_seq_Map_string_int_Range [v32_19, (.string .empty), (.string .empty)]) fun v33_20 =>
 guardA v30_18 false (pureA (binFnA .eql v33_20 .nilFunc)) fun v34_21 =>
 pickA v30_18 (.bool true) v34_21 fun v35_22 =>
 condA v35_22 (
 retA [(.bool false)] R) (
 callA P w0 n_seq_Heap_int_Push [v8_1, (.int .i64 3)] fun v37_23 =>
 callA P w0 n_seq_Heap_int_Push [v8_1, (.int .i64 1)] fun v39_24 =>
 callA P w0 n_seq_Heap_int_Pop [v8_1] fun v42_25 =>
 pureA (extA v42_25 0) fun v43_26 =>
 pureA (extA v42_25 1) fun v44_27 =>
 callA P w0 n_seq_Map_string_int_Put [v9_2, (.string ⟨#[98]⟩), (.int .i64 1)] fun v46_28 =>
 callA P w0 n_seq_Map_string_int_Put [v9_2, (.string ⟨#[97]⟩), (.int .i64 2)] fun v48_29 =>
 callA P w0 n_seq_Map_string_int_At [v9_2, (.int .i64 0)] fun v51_30 =>
 pureA (extA v51_30 0) fun v52_31 =>
 pureA (extA v51_30 1) fun v53_32 =>
 newA [(.string .empty), (.int .i64 0)] 2 fun v6_33 =>
 storeNA w0 v6_33 v52_31 2 fun _ =>
 pureA (binA .eql v43_26 (.int .i64 1)) fun v55_34 =>
 guardA v55_34 true (fun K => K v44_27) fun v57_35 =>
 pickA v55_34 v57_35 (.bool false) fun v58_36 =>
 guardA v58_36 true (fun K => K v53_32) fun v60_37 =>
 pickA v58_36 v60_37 (.bool false) fun v61_38 =>
 guardA v61_38 true (addA v6_33 0) fun v63_39 =>
 guardA v61_38 true (loadA w0 v63_39) fun v64_40 =>
 guardA v61_38 true (pureA (binA .eql v64_40 (.string ⟨#[97]⟩))) fun v65_41 =>
 pickA v61_38 v65_41 (.bool false) fun v66_42 =>
 guardA v66_42 true (addA v6_33 1) fun v68_43 =>
 guardA v66_42 true (loadA w0 v68_43) fun v69_44 =>
 guardA v66_42 true (pureA (binA .eql v69_44 (.int .i64 2))) fun v70_45 =>
 pickA v66_42 v70_45 (.bool false) fun v71_46 =>
 guardA v71_46 true (fun K => K v9_2) fun v73_47 =>
 guardA v71_46 true (callA P w0 n_seq_Map_string_int_Len [v73_47]) fun v74_48 =>
 guardA v71_46 true (pureA (binA .eql v74_48 (.int .i64 2))) fun v75_49 =>
 pickA v71_46 v75_49 (.bool false) fun v76_50 =>
 retA [v76_50] R)
theorem c_deduplaw10_awake {w0 : World} {h : Hp} {R : Kont} (hj : ∀ v, v ∈ [] → v ≠ junk) (hv : s_deduplaw10_awake prog w0  R h) : ACalls prog w0 n_deduplaw10_awake [] h R := by
  have e : vcFn ⟨prog, w0, 77, ks_deduplaw10_awake⟩ (drw w0 77) fn_deduplaw10_awake [] R h = s_deduplaw10_awake prog w0  R h := by
    kernel_rfl
  exact acalls_of_eq (fn := fn_deduplaw10_awake) (ks := ks_deduplaw10_awake) (n := 77) (by kernel_rfl) (by kernel_rfl) (draw_ok (by kernel_rfl)) (by simp) hj e hv

abbrev fn_deduplaw10_items : Func := f22
def ks_deduplaw10_items : List (Nat × List Nat × List Nat) := [(3, [3, 6, 7, 8], [3])]
def deduplaw10_items_B1 (P : Program) (w0 : World) (R : Value → Value → Value → Value → Hp → Prop) (k0 : Value → Hp → Prop) (x3 x6 x7 x8 : Value) : Hp → Prop :=
 pureA (binA .lss x8 x7) fun v9_2 =>
 condA v9_2 (
 idxSlA 2 x6 x8 fun v10_3 =>
 loadNA w0 v10_3 2 fun v11_4 =>
 newA [(.string .empty), (.int .i64 0)] 2 fun v5_5 =>
 storeNA w0 v5_5 v11_4 2 fun _ =>
 addA v5_5 0 fun v13_6 =>
 loadA w0 v13_6 fun v14_7 =>
 addA v5_5 1 fun v15_8 =>
 loadA w0 v15_8 fun v16_9 =>
 buildA [(0, 1, false, v14_7), (1, 1, false, v16_9)] [(.string .empty), (.int .i64 0)] fun v17_10 =>
 bslA [(0, 2, true, v17_10)] (zerosL [(.string .empty), (.int .i64 0)] 1) 1 2 fun v18_11 =>
 appA w0 2 24 x3 v18_11 fun v19_12 =>
 pureA (binA .add x8 (.int .i64 1)) fun v20_13 =>
 R v19_12 x6 x7 v20_13) (
 k0 x3)
def deduplaw10_items_L1 (P : Program) (w0 : World) (k0 : Value → Hp → Prop) : Nat → Value → Value → Value → Value → Hp → Prop
  | 0, _, _, _, _ => fun _ => False
  | m + 1, x3, x6, x7, x8 => deduplaw10_items_B1 P w0 (deduplaw10_items_L1 P w0 k0 m) k0 x3 x6 x7 x8
def deduplaw10_items_E1 (P : Program) (w0 : World) (k0 : Value → Hp → Prop) (x3 x6 x7 x8 : Value) : Hp → Prop := fun h => ∃ m, deduplaw10_items_L1 P w0 k0 m x3 x6 x7 x8 h
def s_deduplaw10_items (P : Program) (w0 : World) (a0 : Value) (R : Kont) : Hp → Prop :=
 pureA (lenSl a0) fun v7_1 =>
 deduplaw10_items_E1 P w0 (fun y3_14 =>
 retA [y3_14] R) (.slice none 0 0) a0 v7_1 (.int .i64 0)
theorem deduplaw10_items_L1_eq (w0 : World) (k0 : Value → Hp → Prop) : ∀ (m : Nat) (x3 x6 x7 x8 : Value) (h : Hp), loopA (stepL ⟨prog, w0, 22, ks_deduplaw10_items⟩ (drw w0 22) (loopAt fn_deduplaw10_items 0)) m (mkFr [(3, x3), (6, x6), (7, x7), (8, x8)]) [fun t => k0 (t 3)] h = deduplaw10_items_L1 prog w0 k0 m x3 x6 x7 x8 h := by
  intro m
  induction m with
  | zero => intros; kernel_rfl
  | succ m ih =>
    intro x3 x6 x7 x8 h
    have e : deduplaw10_items_L1 prog w0 k0 m = fun x3 x6 x7 x8 h => loopA (stepL ⟨prog, w0, 22, ks_deduplaw10_items⟩ (drw w0 22) (loopAt fn_deduplaw10_items 0)) m (mkFr [(3, x3), (6, x6), (7, x7), (8, x8)]) [fun t => k0 (t 3)] h := by funext x3 x6 x7 x8 h; exact (ih x3 x6 x7 x8 h).symm
    show _ = deduplaw10_items_B1 prog w0 (deduplaw10_items_L1 prog w0 k0 m) k0 x3 x6 x7 x8 h
    rw [e]
    kernel_rfl
theorem deduplaw10_items_E1_eq (w0 : World) : deduplaw10_items_E1 prog w0 = fun k0 x3 x6 x7 x8 h => ∃ m, loopA (stepL ⟨prog, w0, 22, ks_deduplaw10_items⟩ (drw w0 22) (loopAt fn_deduplaw10_items 0)) m (mkFr [(3, x3), (6, x6), (7, x7), (8, x8)]) [fun t => k0 (t 3)] h := by
  funext k0 x3 x6 x7 x8 h
  exact congrArg Exists (funext fun m => (deduplaw10_items_L1_eq w0 k0 m x3 x6 x7 x8 h).symm)
theorem c_deduplaw10_items {w0 : World} {h : Hp} {R : Kont} {a0 : Value} (hj : ∀ v, v ∈ [a0] → v ≠ junk) (hv : s_deduplaw10_items prog w0 a0 R h) : ACalls prog w0 n_deduplaw10_items [a0] h R := by
  have e : vcFn ⟨prog, w0, 22, ks_deduplaw10_items⟩ (drw w0 22) fn_deduplaw10_items [a0] R h = s_deduplaw10_items prog w0 a0 R h := by
    unfold s_deduplaw10_items
    rw [deduplaw10_items_E1_eq w0]
    kernel_rfl
  exact acalls_of_eq (fn := fn_deduplaw10_items) (ks := ks_deduplaw10_items) (n := 22) (by kernel_rfl) (by kernel_rfl) (draw_ok (by kernel_rfl)) (by simp) hj e hv

abbrev fn_deduplaw10_same : Func := f23
def ks_deduplaw10_same : List (Nat × List Nat × List Nat) := [(4, [0, 1, 4, 12, 13], [4])]
def deduplaw10_same_B1 (P : Program) (w0 : World) (R : Value → Value → Value → Value → Value → Hp → Prop) (k0 : Value → Hp → Prop) (kr : Value → Hp → Prop) (x0 x1 x4 x12 x13 : Value) : Hp → Prop :=
 pureA (binA .lss x13 x12) fun v14_5 =>
 condA v14_5 (
 pureQ (fun K => K x0) fun v16_6 =>
 pureQ (fun K => K x13) fun v17_7 =>
 pureQ (idxSlA 2 v16_6 v17_7) fun v18_8 =>
 pureQ (addA v18_8 0) fun v19_9 =>
 readQ (loadA w0 v19_9) fun v20_10 =>
 pureQ (fun K => K x1) fun v21_11 =>
 pureQ (fun K => K x13) fun v22_12 =>
 pureQ (idxSlA 2 v21_11 v22_12) fun v23_13 =>
 pureQ (addA v23_13 0) fun v24_14 =>
 readQ (loadA w0 v24_14) fun v25_15 =>
 pureQ (pureA (binA .neq v20_10 v25_15)) fun v26_16 =>
 pureQ (fun K => K v26_16) fun v27_17 =>
 pureQ (guardA v27_17 false (fun K => K x0)) fun v28_18 =>
 pureQ (guardA v27_17 false (fun K => K x13)) fun v29_19 =>
 pureQ (guardA v27_17 false (idxSlA 2 v28_18 v29_19)) fun v30_20 =>
 pureQ (guardA v27_17 false (addA v30_20 1)) fun v31_21 =>
 readQ (guardA v27_17 false (loadA w0 v31_21)) fun v32_22 =>
 pureQ (guardA v27_17 false (fun K => K x1)) fun v33_23 =>
 pureQ (guardA v27_17 false (fun K => K x13)) fun v34_24 =>
 pureQ (guardA v27_17 false (idxSlA 2 v33_23 v34_24)) fun v35_25 =>
 pureQ (guardA v27_17 false (addA v35_25 1)) fun v36_26 =>
 readQ (guardA v27_17 false (loadA w0 v36_26)) fun v37_27 =>
 pureQ (guardA v27_17 false (pureA (binA .neq v32_22 v37_27))) fun v38_28 =>
 pureQ (pickA v27_17 (.bool true) v38_28) fun v39_29 =>
 endA (
 condA v39_29 (
 kr (.bool false)) (
 pureA (binA .add x13 (.int .i64 1)) fun v40_30 =>
 R x0 x1 x4 x12 v40_30))) (
 k0 x4)
def deduplaw10_same_L1 (P : Program) (w0 : World) (k0 : Value → Hp → Prop) (kr : Value → Hp → Prop) : Nat → Value → Value → Value → Value → Value → Hp → Prop
  | 0, _, _, _, _, _ => fun _ => False
  | m + 1, x0, x1, x4, x12, x13 => deduplaw10_same_B1 P w0 (deduplaw10_same_L1 P w0 k0 kr m) k0 kr x0 x1 x4 x12 x13
def deduplaw10_same_E1 (P : Program) (w0 : World) (k0 : Value → Hp → Prop) (kr : Value → Hp → Prop) (x0 x1 x4 x12 x13 : Value) : Hp → Prop := fun h => ∃ m, deduplaw10_same_L1 P w0 k0 kr m x0 x1 x4 x12 x13 h
def s_deduplaw10_same (P : Program) (w0 : World) (a0 a1 : Value) (R : Kont) : Hp → Prop :=
 pureA (lenSl a0) fun v7_1 =>
 pureA (lenSl a1) fun v9_2 =>
 pureA (binA .neq v7_1 v9_2) fun v10_3 =>
 condA v10_3 (
 retA [(.bool false)] R) (
 pureA (lenSl a0) fun v12_4 =>
 deduplaw10_same_E1 P w0 (fun y4_31 =>
 retA [(.bool true)] R) (fun y4_32 =>
 retA [y4_32] R) a0 a1 (.bool false) v12_4 (.int .i64 0))
theorem deduplaw10_same_L1_eq (w0 : World) (k0 : Value → Hp → Prop) (kr : Value → Hp → Prop) : ∀ (m : Nat) (x0 x1 x4 x12 x13 : Value) (h : Hp), loopA (stepL ⟨prog, w0, 41, ks_deduplaw10_same⟩ (drw w0 41) (loopAt fn_deduplaw10_same 0)) m (mkFr [(0, x0), (1, x1), (4, x4), (12, x12), (13, x13)]) [fun t => k0 (t 4), fun t => kr (t 4)] h = deduplaw10_same_L1 prog w0 k0 kr m x0 x1 x4 x12 x13 h := by
  intro m
  induction m with
  | zero => intros; kernel_rfl
  | succ m ih =>
    intro x0 x1 x4 x12 x13 h
    have e : deduplaw10_same_L1 prog w0 k0 kr m = fun x0 x1 x4 x12 x13 h => loopA (stepL ⟨prog, w0, 41, ks_deduplaw10_same⟩ (drw w0 41) (loopAt fn_deduplaw10_same 0)) m (mkFr [(0, x0), (1, x1), (4, x4), (12, x12), (13, x13)]) [fun t => k0 (t 4), fun t => kr (t 4)] h := by funext x0 x1 x4 x12 x13 h; exact (ih x0 x1 x4 x12 x13 h).symm
    show _ = deduplaw10_same_B1 prog w0 (deduplaw10_same_L1 prog w0 k0 kr m) k0 kr x0 x1 x4 x12 x13 h
    rw [e]
    kernel_rfl
theorem deduplaw10_same_E1_eq (w0 : World) : deduplaw10_same_E1 prog w0 = fun k0 kr x0 x1 x4 x12 x13 h => ∃ m, loopA (stepL ⟨prog, w0, 41, ks_deduplaw10_same⟩ (drw w0 41) (loopAt fn_deduplaw10_same 0)) m (mkFr [(0, x0), (1, x1), (4, x4), (12, x12), (13, x13)]) [fun t => k0 (t 4), fun t => kr (t 4)] h := by
  funext k0 kr x0 x1 x4 x12 x13 h
  exact congrArg Exists (funext fun m => (deduplaw10_same_L1_eq w0 k0 kr m x0 x1 x4 x12 x13 h).symm)
theorem c_deduplaw10_same {w0 : World} {h : Hp} {R : Kont} {a0 a1 : Value} (hj : ∀ v, v ∈ [a0, a1] → v ≠ junk) (hv : s_deduplaw10_same prog w0 a0 a1 R h) : ACalls prog w0 n_deduplaw10_same [a0, a1] h R := by
  have e : vcFn ⟨prog, w0, 41, ks_deduplaw10_same⟩ (drw w0 41) fn_deduplaw10_same [a0, a1] R h = s_deduplaw10_same prog w0 a0 a1 R h := by
    unfold s_deduplaw10_same
    rw [deduplaw10_same_E1_eq w0]
    kernel_rfl
  exact acalls_of_eq (fn := fn_deduplaw10_same) (ks := ks_deduplaw10_same) (n := 41) (by kernel_rfl) (by kernel_rfl) (draw_ok (by kernel_rfl)) (by simp) hj e hv

abbrev fn_deduplaw10_step : Func := f40
def ks_deduplaw10_step : List (Nat × List Nat × List Nat) := []
def s_deduplaw10_step (P : Program) (w0 : World) (a0 a1 a2 : Value) (R : Kont) : Hp → Prop :=
 boxA true 4 a2 fun v5_1 =>
 addA v5_1 1 fun v26_2 =>
 loadA w0 v26_2 fun v27_3 =>
 callA P w0 n_dedupref10_Find [a1, v27_3] fun v28_4 =>
 pureA (extA v28_4 0) fun v29_5 =>
 pureA (extA v28_4 1) fun v30_6 =>
 addA v5_1 0 fun v31_7 =>
 loadA w0 v31_7 fun v32_8 =>
 pureA (binA .eql v32_8 (.int .i64 0)) fun v34_9 =>
 condA v34_9 (
 addA v5_1 1 fun v37_10 =>
 loadA w0 v37_10 fun v38_11 =>
 addA v5_1 3 fun v39_12 =>
 loadA w0 v39_12 fun v40_13 =>
 callA P w0 n_seq_Map_string_int_Put [a0, v38_11, v40_13] fun v41_14 =>
 pureA (extA v41_14 0) fun v42_15 =>
 pureA (extA v41_14 1) fun v43_16 =>
 addA v5_1 1 fun v46_17 =>
 loadA w0 v46_17 fun v47_18 =>
 addA v5_1 3 fun v48_19 =>
 loadA w0 v48_19 fun v49_20 =>
 buildA [(0, 1, false, v47_18), (1, 1, false, v49_20)] [(.string .empty), (.int .i64 0)] fun v50_21 =>
 callA P w0 n_dedupref10_Put [a1, v50_21] fun v51_22 =>
 pureA (extA v51_22 0) fun v52_23 =>
 pureA (extA v51_22 1) fun v53_24 =>
 pureA (extA v51_22 2) fun v54_25 =>
 newA [(.string .empty), (.int .i64 0)] 2 fun v13_26 =>
 storeNA w0 v13_26 v53_24 2 fun _ =>
 addA v13_26 1 fun v57_27 =>
 loadA w0 v57_27 fun v58_28 =>
 pureA (binA .eql v42_15 v58_28) fun v59_29 =>
 guardA v59_29 true (fun K => K v43_16) fun v61_30 =>
 guardA v59_29 true (fun K => K v54_25) fun v62_31 =>
 guardA v59_29 true (pureA (binBoolA .eql v61_30 v62_31)) fun v63_32 =>
 pickA v59_29 v63_32 (.bool false) fun v64_33 =>
 retA [v52_23, v64_33] R) (
 pureA (binA .eql v32_8 (.int .i64 1)) fun v66_34 =>
 condA v66_34 (
 addA v5_1 1 fun v69_35 =>
 loadA w0 v69_35 fun v70_36 =>
 callA P w0 n_seq_Map_string_int_Get [a0, v70_36] fun v71_37 =>
 pureA (extA v71_37 0) fun v72_38 =>
 pureA (extA v71_37 1) fun v73_39 =>
 pureA (binBoolA .eql v73_39 v30_6) fun v77_40 =>
 guardA v77_40 true (fun K => K v30_6) fun v79_41 =>
 guardA v77_40 true (fun K => K v79_41) fun v80_42 =>
 guardA v80_42 true (fun K => K v72_38) fun v81_43 =>
 guardA v80_42 true (fun K => K a1) fun v82_44 =>
 guardA v80_42 true (fun K => K v29_5) fun v83_45 =>
 guardA v80_42 true (idxSlA 2 v82_44 v83_45) fun v84_46 =>
 guardA v80_42 true (addA v84_46 1) fun v85_47 =>
 guardA v80_42 true (loadA w0 v85_47) fun v86_48 =>
 guardA v80_42 true (pureA (binA .eql v81_43 v86_48)) fun v87_49 =>
 guardA v77_40 true (pickA v80_42 v87_49 (.bool false)) fun v88_50 =>
 guardA v77_40 true (fun K => K v88_50) fun v89_51 =>
 guardA v89_51 false (fun K => K v30_6) fun v90_52 =>
 guardA v89_51 false (pureA (unA .not v90_52)) fun v91_53 =>
 guardA v89_51 false (fun K => K v91_53) fun v92_54 =>
 guardA v92_54 true (fun K => K v72_38) fun v93_55 =>
 guardA v92_54 true (pureA (binA .eql v93_55 (.int .i64 0))) fun v94_56 =>
 guardA v89_51 false (pickA v92_54 v94_56 (.bool false)) fun v95_57 =>
 guardA v77_40 true (pickA v89_51 (.bool true) v95_57) fun v96_58 =>
 pickA v77_40 v96_58 (.bool false) fun v97_59 =>
 retA [a1, v97_59] R) (
 pureA (binA .eql v32_8 (.int .i64 2)) fun v99_60 =>
 condA v99_60 (
 addA v5_1 1 fun v102_61 =>
 loadA w0 v102_61 fun v103_62 =>
 callA P w0 n_seq_Map_string_int_Delete [a0, v103_62] fun v104_63 =>
 pureA (extA v104_63 0) fun v105_64 =>
 pureA (extA v104_63 1) fun v106_65 =>
 addA v5_1 1 fun v109_66 =>
 loadA w0 v109_66 fun v110_67 =>
 callA P w0 n_dedupref10_Delete [a1, v110_67] fun v111_68 =>
 pureA (extA v111_68 0) fun v112_69 =>
 pureA (extA v111_68 1) fun v113_70 =>
 pureA (extA v111_68 2) fun v114_71 =>
 newA [(.string .empty), (.int .i64 0)] 2 fun v20_72 =>
 storeNA w0 v20_72 v113_70 2 fun _ =>
 addA v20_72 1 fun v117_73 =>
 loadA w0 v117_73 fun v118_74 =>
 pureA (binA .eql v105_64 v118_74) fun v119_75 =>
 guardA v119_75 true (fun K => K v106_65) fun v121_76 =>
 guardA v119_75 true (fun K => K v114_71) fun v122_77 =>
 guardA v119_75 true (pureA (binBoolA .eql v121_76 v122_77)) fun v123_78 =>
 pickA v119_75 v123_78 (.bool false) fun v124_79 =>
 retA [v112_69, v124_79] R) (
 pureA (binA .eql v32_8 (.int .i64 3)) fun v126_80 =>
 condA v126_80 (
 callA P w0 n_seq_Map_string_int_Len [a0] fun v129_81 =>
 pureA (lenSl a1) fun v131_82 =>
 pureA (binA .eql v129_81 v131_82) fun v132_83 =>
 retA [a1, v132_83] R) (
 pureA (binA .eql v32_8 (.int .i64 4)) fun v134_84 =>
 condA v134_84 (
 addA v5_1 3 fun v137_85 =>
 loadA w0 v137_85 fun v138_86 =>
 callA P w0 n_seq_Map_string_int_At [a0, v138_86] fun v139_87 =>
 pureA (extA v139_87 0) fun v140_88 =>
 pureA (extA v139_87 1) fun v141_89 =>
 newA [(.string .empty), (.int .i64 0)] 2 fun v22_90 =>
 storeNA w0 v22_90 v140_88 2 fun _ =>
 addA v5_1 3 fun v142_91 =>
 loadA w0 v142_91 fun v143_92 =>
 pureA (binA .lss v143_92 (.int .i64 0)) fun v144_93 =>
 guardA v144_93 false (addA v5_1 3) fun v146_94 =>
 guardA v144_93 false (loadA w0 v146_94) fun v147_95 =>
 guardA v144_93 false (fun K => K a1) fun v148_96 =>
 guardA v144_93 false (pureA (lenSl v148_96)) fun v149_97 =>
 guardA v144_93 false (pureA (binA .geq v147_95 v149_97)) fun v150_98 =>
 pickA v144_93 (.bool true) v150_98 fun v151_99 =>
 condA v151_99 (
 pureQ (fun K => K a1) fun v152_100 =>
 pureQ (fun K => K v141_89) fun v153_101 =>
 pureQ (pureA (unA .not v153_101)) fun v154_102 =>
 pureQ (fun K => K v154_102) fun v155_103 =>
 pureQ (guardA v155_103 true (addA v22_90 0)) fun v156_104 =>
 readQ (guardA v155_103 true (loadA w0 v156_104)) fun v157_105 =>
 pureQ (guardA v155_103 true (pureA (binA .eql v157_105 (.string .empty)))) fun v158_106 =>
 pureQ (pickA v155_103 v158_106 (.bool false)) fun v159_107 =>
 pureQ (fun K => K v159_107) fun v160_108 =>
 pureQ (guardA v160_108 true (addA v22_90 1)) fun v161_109 =>
 readQ (guardA v160_108 true (loadA w0 v161_109)) fun v162_110 =>
 pureQ (guardA v160_108 true (pureA (binA .eql v162_110 (.int .i64 0)))) fun v163_111 =>
 pureQ (pickA v160_108 v163_111 (.bool false)) fun v164_112 =>
 pureQ (fun K => K v152_100) fun v6_113 =>
 pureQ (fun K => K v164_112) fun v7_114 =>
 endA (
 retA [v6_113, v7_114] R)) (
 pureQ (fun K => K a1) fun v165_115 =>
 pureQ (fun K => K v141_89) fun v166_116 =>
 pureQ (fun K => K v166_116) fun v167_117 =>
 pureQ (guardA v167_117 true (addA v22_90 0)) fun v168_118 =>
 readQ (guardA v167_117 true (loadA w0 v168_118)) fun v169_119 =>
 pureQ (guardA v167_117 true (fun K => K a1)) fun v170_120 =>
 pureQ (guardA v167_117 true (addA v5_1 3)) fun v171_121 =>
 readQ (guardA v167_117 true (loadA w0 v171_121)) fun v172_122 =>
 pureQ (guardA v167_117 true (idxSlA 2 v170_120 v172_122)) fun v173_123 =>
 pureQ (guardA v167_117 true (addA v173_123 0)) fun v174_124 =>
 readQ (guardA v167_117 true (loadA w0 v174_124)) fun v175_125 =>
 pureQ (guardA v167_117 true (pureA (binA .eql v169_119 v175_125))) fun v176_126 =>
 pureQ (pickA v167_117 v176_126 (.bool false)) fun v177_127 =>
 pureQ (fun K => K v177_127) fun v178_128 =>
 pureQ (guardA v178_128 true (addA v22_90 1)) fun v179_129 =>
 readQ (guardA v178_128 true (loadA w0 v179_129)) fun v180_130 =>
 pureQ (guardA v178_128 true (fun K => K a1)) fun v181_131 =>
 pureQ (guardA v178_128 true (addA v5_1 3)) fun v182_132 =>
 readQ (guardA v178_128 true (loadA w0 v182_132)) fun v183_133 =>
 pureQ (guardA v178_128 true (idxSlA 2 v181_131 v183_133)) fun v184_134 =>
 pureQ (guardA v178_128 true (addA v184_134 1)) fun v185_135 =>
 readQ (guardA v178_128 true (loadA w0 v185_135)) fun v186_136 =>
 pureQ (guardA v178_128 true (pureA (binA .eql v180_130 v186_136))) fun v187_137 =>
 pureQ (pickA v178_128 v187_137 (.bool false)) fun v188_138 =>
 pureQ (fun K => K v165_115) fun v6_139 =>
 pureQ (fun K => K v188_138) fun v7_140 =>
 endA (
 retA [v6_139, v7_140] R))) (
 pureA (binA .eql v32_8 (.int .i64 5)) fun v190_141 =>
 condA v190_141 (
 addA v5_1 1 fun v193_142 =>
 loadA w0 v193_142 fun v194_143 =>
 callA P w0 n_seq_Map_string_int_Rank [a0, v194_143] fun v195_144 =>
 pureA (binA .eql v195_144 v29_5) fun v197_145 =>
 retA [a1, v197_145] R) (
 pureA (binA .eql v32_8 (.int .i64 6)) fun v199_146 =>
 condA v199_146 (
 pureQ (fun K => K a1) fun v200_147 =>
 pureQ (fun K => K a0) fun v201_148 =>
 pureQ (addA v5_1 1) fun v202_149 =>
 readQ (loadA w0 v202_149) fun v203_150 =>
 pureQ (addA v5_1 2) fun v204_151 =>
 readQ (loadA w0 v204_151) fun v205_152 =>
 pureQ (fun K => K a1) fun v206_153 =>
 pureQ (addA v5_1 1) fun v207_154 =>
 readQ (loadA w0 v207_154) fun v208_155 =>
 pureQ (addA v5_1 2) fun v209_156 =>
 readQ (loadA w0 v209_156) fun v210_157 =>
 pureQ (addA v5_1 3) fun v212_158 =>
 readQ (loadA w0 v212_158) fun v213_159 =>
 allA [
 (callA P w0 n_deduplaw10_part [v206_153, v208_155, v210_157] fun v211_160 =>
 stillA [(sameQ (loadA w0 v212_158) v213_159), (sameQ (loadA w0 v204_151) v205_152), (sameQ (loadA w0 v202_149) v203_150)] (
 allA [
 (callA P w0 n_deduplaw10_goes [v201_148, v203_150, v205_152, (.bool false), v211_160, v213_159] fun v214_161 =>
 stillA [] (
 pureQ (fun K => K v200_147) fun v6_162 =>
 pureQ (fun K => K v214_161) fun v7_163 =>
 endA (
 retA [v6_162, v7_163] R)))]))]) (
 pureA (binA .eql v32_8 (.int .i64 7)) fun v216_164 =>
 condA v216_164 (
 addA v5_1 3 fun v220_165 =>
 loadA w0 v220_165 fun v221_166 =>
 callA P w0 n_deduplaw10_goes [a0, (.string .empty), (.string .empty), (.bool true), a1, v221_166] fun v222_167 =>
 retA [a1, v222_167] R) (
 retA [a1, (.bool true)] R))))))))
theorem c_deduplaw10_step {w0 : World} {h : Hp} {R : Kont} {a0 a1 a2 : Value} (hj : ∀ v, v ∈ [a0, a1, a2] → v ≠ junk) (hv : s_deduplaw10_step prog w0 a0 a1 a2 R h) : ACalls prog w0 n_deduplaw10_step [a0, a1, a2] h R := by
  have e : vcFn ⟨prog, w0, 224, ks_deduplaw10_step⟩ (drw w0 224) fn_deduplaw10_step [a0, a1, a2] R h = s_deduplaw10_step prog w0 a0 a1 a2 R h := by
    kernel_rfl
  exact acalls_of_eq (fn := fn_deduplaw10_step) (ks := ks_deduplaw10_step) (n := 224) (by kernel_rfl) (by kernel_rfl) (draw_ok (by kernel_rfl)) (by simp) hj e hv

abbrev fn_deduplaw10_goes : Func := f64
def ks_deduplaw10_goes : List (Nat × List Nat × List Nat) := [(5, [10, 11, 12, 13, 14], [12])]
def deduplaw10_goes_R1 (P : Program) (w0 : World) (b : Nat) (g : Lp) (K : Kont) (x10 x11 x12 x14 x15 y30 y31 : Value) : Hp → Prop :=
 beginA b g (
 loadA w0 x15 fun v32_10 =>
 loadA w0 x10 fun v33_11 =>
 pureA (lenSl v33_11) fun v34_12 =>
 pureA (binA .geq v32_10 v34_12) fun v35_13 =>
 guardA v35_13 false (fun K => K y30) fun v37_14 =>
 guardA v35_13 false (loadA w0 x10) fun v38_15 =>
 guardA v35_13 false (loadA w0 x15) fun v39_16 =>
 guardA v35_13 false (idxSlA 2 v38_15 v39_16) fun v40_17 =>
 guardA v35_13 false (addA v40_17 0) fun v41_18 =>
 guardA v35_13 false (loadA w0 v41_18) fun v42_19 =>
 guardA v35_13 false (pureA (binA .neq v37_14 v42_19)) fun v43_20 =>
 pickA v35_13 (.bool true) v43_20 fun v44_21 =>
 guardA v44_21 false (fun K => K y31) fun v46_22 =>
 guardA v44_21 false (loadA w0 x10) fun v47_23 =>
 guardA v44_21 false (loadA w0 x15) fun v48_24 =>
 guardA v44_21 false (idxSlA 2 v47_23 v48_24) fun v49_25 =>
 guardA v44_21 false (addA v49_25 1) fun v50_26 =>
 guardA v44_21 false (loadA w0 v50_26) fun v51_27 =>
 guardA v44_21 false (pureA (binA .neq v46_22 v51_27)) fun v52_28 =>
 pickA v44_21 (.bool true) v52_28 fun v53_29 =>
 condA v53_29 (
 storeA w0 x12 (.bool false) fun _ =>
 endR b g (some none) K) (
 loadA w0 x15 fun v54_30 =>
 pureA (binA .add v54_30 (.int .i64 1)) fun v55_31 =>
 storeA w0 x15 v55_31 fun _ =>
 loadA w0 x14 fun v56_32 =>
 pureA (binA .eql v56_32 (.int .i64 0)) fun v57_33 =>
 guardA v57_33 true (loadA w0 x15) fun v59_34 =>
 guardA v57_33 true (loadA w0 x11) fun v60_35 =>
 guardA v57_33 true (pureA (binA .eql v59_34 v60_35)) fun v61_36 =>
 pickA v57_33 v61_36 (.bool false) fun v62_37 =>
 condA v62_37 (
 endR b g (some (some 2)) K) (
 endR b g none K)))
def deduplaw10_goes_B1 (P : Program) (w0 : World) (R : Value → Value → Value → Value → Value → Hp → Prop) (k0 : Value → Hp → Prop) (kr : Value → Hp → Prop) (x10 x11 x12 x13 x14 : Value) : Hp → Prop :=
 loadA w0 x14 fun v25_7 =>
 pureA (binA .lss v25_7 (.int .i64 2)) fun v26_8 =>
 condA v26_8 (
 newA [(.int .i64 0)] 1 fun v15_9 =>
 storeA w0 v15_9 (.int .i64 0) fun _ =>
 rangeA P w0 x13 2 (fun b g args K => deduplaw10_goes_R1 P w0 b g K x10 x11 x12 x14 v15_9 (args.getD 0 undef) (args.tail.getD 0 undef)) (
 loadA w0 v15_9 fun v63_54 =>
 loadA w0 x10 fun v64_55 =>
 pureA (lenSl v64_55) fun v65_56 =>
 pureA (binA .neq v63_54 v65_56) fun v66_57 =>
 guardA v66_57 true (loadA w0 x14) fun v68_58 =>
 guardA v66_57 true (pureA (binA .neq v68_58 (.int .i64 0))) fun v69_59 =>
 guardA v66_57 true (fun K => K v69_59) fun v70_60 =>
 guardA v70_60 false (loadA w0 v15_9) fun v71_61 =>
 guardA v70_60 false (loadA w0 x11) fun v72_62 =>
 guardA v70_60 false (pureA (binA .neq v71_61 v72_62)) fun v73_63 =>
 guardA v66_57 true (pickA v70_60 (.bool true) v73_63) fun v74_64 =>
 pickA v66_57 v74_64 (.bool false) fun v75_65 =>
 condA v75_65 (
 storeA w0 x12 (.bool false) fun _ =>
 kr x12) (
 loadA w0 x14 fun v76_66 =>
 newA [(.int .i64 0)] 1 fun v14_67 =>
 storeA w0 v14_67 v76_66 fun _ =>
 loadA w0 v14_67 fun v27_68 =>
 pureA (binA .add v27_68 (.int .i64 1)) fun v28_69 =>
 storeA w0 v14_67 v28_69 fun _ =>
 R x10 x11 x12 x13 v14_67)) [(none, (
 kr x12)), (some 2, (
 loadA w0 v15_9 fun v63_38 =>
 loadA w0 x10 fun v64_39 =>
 pureA (lenSl v64_39) fun v65_40 =>
 pureA (binA .neq v63_38 v65_40) fun v66_41 =>
 guardA v66_41 true (loadA w0 x14) fun v68_42 =>
 guardA v66_41 true (pureA (binA .neq v68_42 (.int .i64 0))) fun v69_43 =>
 guardA v66_41 true (fun K => K v69_43) fun v70_44 =>
 guardA v70_44 false (loadA w0 v15_9) fun v71_45 =>
 guardA v70_44 false (loadA w0 x11) fun v72_46 =>
 guardA v70_44 false (pureA (binA .neq v71_45 v72_46)) fun v73_47 =>
 guardA v66_41 true (pickA v70_44 (.bool true) v73_47) fun v74_48 =>
 pickA v66_41 v74_48 (.bool false) fun v75_49 =>
 condA v75_49 (
 storeA w0 x12 (.bool false) fun _ =>
 kr x12) (
 loadA w0 x14 fun v76_50 =>
 newA [(.int .i64 0)] 1 fun v14_51 =>
 storeA w0 v14_51 v76_50 fun _ =>
 loadA w0 v14_51 fun v27_52 =>
 pureA (binA .add v27_52 (.int .i64 1)) fun v28_53 =>
 storeA w0 v14_51 v28_53 fun _ =>
 R x10 x11 x12 x13 v14_51)))]) (
 k0 x12)
def deduplaw10_goes_L1 (P : Program) (w0 : World) (k0 : Value → Hp → Prop) (kr : Value → Hp → Prop) : Nat → Value → Value → Value → Value → Value → Hp → Prop
  | 0, _, _, _, _, _ => fun _ => False
  | m + 1, x10, x11, x12, x13, x14 => deduplaw10_goes_B1 P w0 (deduplaw10_goes_L1 P w0 k0 kr m) k0 kr x10 x11 x12 x13 x14
def deduplaw10_goes_E1 (P : Program) (w0 : World) (k0 : Value → Hp → Prop) (kr : Value → Hp → Prop) (x10 x11 x12 x13 x14 : Value) : Hp → Prop := fun h => ∃ m, deduplaw10_goes_L1 P w0 k0 kr m x10 x11 x12 x13 x14 h
def s_deduplaw10_goes (P : Program) (w0 : World) (a0 a1 a2 a3 a4 a5 : Value) (R : Kont) : Hp → Prop :=
 fun h0 => (boxA false 1 a4 fun v10_1 =>
 boxA false 1 a5 fun v11_2 =>
 newA [(.bool false)] 1 fun v12_3 =>
 callA P w0 n_seq_Map_string_int_Range [a0, a1, a2] fun v21_4 =>
 condA a3 (
 callA P w0 n_seq_Map_string_int_All [a0] fun v24_5 =>
 newA [(.int .i64 0)] 1 fun v14_6 =>
 storeA w0 v14_6 (.int .i64 0) fun _ =>
 deduplaw10_goes_E1 P w0 (fun y12_70 =>
 storeA w0 y12_70 (.bool true) fun _ =>
 cutA h0 (
 loadA w0 y12_70 fun v12_71 =>
 retA [v12_71] R)) (fun y12_72 =>
 cutA h0 (
 loadA w0 y12_72 fun v12_73 =>
 retA [v12_73] R)) v10_1 v11_2 v12_3 v24_5 v14_6) (
 newA [(.int .i64 0)] 1 fun v14_74 =>
 storeA w0 v14_74 (.int .i64 0) fun _ =>
 deduplaw10_goes_E1 P w0 (fun y12_75 =>
 storeA w0 y12_75 (.bool true) fun _ =>
 cutA h0 (
 loadA w0 y12_75 fun v12_76 =>
 retA [v12_76] R)) (fun y12_77 =>
 cutA h0 (
 loadA w0 y12_77 fun v12_78 =>
 retA [v12_78] R)) v10_1 v11_2 v12_3 v21_4 v14_74)) h0
theorem deduplaw10_goes_L1_eq (w0 : World) (k0 : Value → Hp → Prop) (kr : Value → Hp → Prop) : ∀ (m : Nat) (x10 x11 x12 x13 x14 : Value) (h : Hp), loopA (stepLM ⟨prog, w0, 77, ks_deduplaw10_goes⟩ (drw w0 77) (loopAt fn_deduplaw10_goes 0)) m (mkFr [(10, x10), (11, x11), (12, x12), (13, x13), (14, x14)]) [fun t => k0 (t 12), fun t => kr (t 12)] h = deduplaw10_goes_L1 prog w0 k0 kr m x10 x11 x12 x13 x14 h := by
  intro m
  induction m with
  | zero => intros; kernel_rfl
  | succ m ih =>
    intro x10 x11 x12 x13 x14 h
    have e : deduplaw10_goes_L1 prog w0 k0 kr m = fun x10 x11 x12 x13 x14 h => loopA (stepLM ⟨prog, w0, 77, ks_deduplaw10_goes⟩ (drw w0 77) (loopAt fn_deduplaw10_goes 0)) m (mkFr [(10, x10), (11, x11), (12, x12), (13, x13), (14, x14)]) [fun t => k0 (t 12), fun t => kr (t 12)] h := by funext x10 x11 x12 x13 x14 h; exact (ih x10 x11 x12 x13 x14 h).symm
    show _ = deduplaw10_goes_B1 prog w0 (deduplaw10_goes_L1 prog w0 k0 kr m) k0 kr x10 x11 x12 x13 x14 h
    rw [e]
    kernel_rfl
theorem deduplaw10_goes_E1_eq (w0 : World) : deduplaw10_goes_E1 prog w0 = fun k0 kr x10 x11 x12 x13 x14 h => ∃ m, loopA (stepLM ⟨prog, w0, 77, ks_deduplaw10_goes⟩ (drw w0 77) (loopAt fn_deduplaw10_goes 0)) m (mkFr [(10, x10), (11, x11), (12, x12), (13, x13), (14, x14)]) [fun t => k0 (t 12), fun t => kr (t 12)] h := by
  funext k0 kr x10 x11 x12 x13 x14 h
  exact congrArg Exists (funext fun m => (deduplaw10_goes_L1_eq w0 k0 kr m x10 x11 x12 x13 x14 h).symm)
theorem c_deduplaw10_goes {w0 : World} {h : Hp} {R : Kont} {a0 a1 a2 a3 a4 a5 : Value} (hj : ∀ v, v ∈ [a0, a1, a2, a3, a4, a5] → v ≠ junk) (hv : s_deduplaw10_goes prog w0 a0 a1 a2 a3 a4 a5 R h) : ACalls prog w0 n_deduplaw10_goes [a0, a1, a2, a3, a4, a5] h R := by
  have e : vcFnM ⟨prog, w0, 77, ks_deduplaw10_goes⟩ (drw w0 77) fn_deduplaw10_goes [a0, a1, a2, a3, a4, a5] R h = s_deduplaw10_goes prog w0 a0 a1 a2 a3 a4 a5 R h := by
    unfold s_deduplaw10_goes
    rw [deduplaw10_goes_E1_eq w0]
    kernel_rfl
  exact acalls_of_eqM (fn := fn_deduplaw10_goes) (ks := ks_deduplaw10_goes) (n := 77) (by kernel_rfl) (by kernel_rfl) (draw_ok (by kernel_rfl)) (by simp) hj e hv

abbrev fn_deduplaw10_part : Func := f65
def ks_deduplaw10_part : List (Nat × List Nat × List Nat) := [(3, [1, 2, 7, 10, 11, 12], [7])]
def deduplaw10_part_B1 (P : Program) (w0 : World) (R : Value → Value → Value → Value → Value → Value → Hp → Prop) (k0 : Value → Hp → Prop) (x1 x2 x7 x10 x11 x12 : Value) : Hp → Prop :=
 pureA (binA .lss x12 x11) fun v13_2 =>
 condA v13_2 (
 idxSlA 2 x10 x12 fun v14_3 =>
 loadNA w0 v14_3 2 fun v15_4 =>
 newA [(.string .empty), (.int .i64 0)] 2 fun v9_5 =>
 storeNA w0 v9_5 v15_4 2 fun _ =>
 addA v9_5 0 fun v16_6 =>
 loadA w0 v16_6 fun v17_7 =>
 pureA (binA .geq v17_7 x1) fun v19_8 =>
 guardA v19_8 true (addA v9_5 0) fun v21_9 =>
 guardA v19_8 true (loadA w0 v21_9) fun v22_10 =>
 guardA v19_8 true (fun K => K x2) fun v23_11 =>
 guardA v19_8 true (pureA (binA .lss v22_10 v23_11)) fun v24_12 =>
 pickA v19_8 v24_12 (.bool false) fun v25_13 =>
 condA v25_13 (
 loadNA w0 v9_5 2 fun v27_14 =>
 bslA [(0, 2, true, v27_14)] (zerosL [(.string .empty), (.int .i64 0)] 1) 1 2 fun v28_15 =>
 appA w0 2 24 x7 v28_15 fun v29_16 =>
 pureA (binA .add x12 (.int .i64 1)) fun v30_17 =>
 R x1 x2 v29_16 x10 x11 v30_17) (
 pureA (binA .add x12 (.int .i64 1)) fun v30_18 =>
 R x1 x2 x7 x10 x11 v30_18)) (
 k0 x7)
def deduplaw10_part_L1 (P : Program) (w0 : World) (k0 : Value → Hp → Prop) : Nat → Value → Value → Value → Value → Value → Value → Hp → Prop
  | 0, _, _, _, _, _, _ => fun _ => False
  | m + 1, x1, x2, x7, x10, x11, x12 => deduplaw10_part_B1 P w0 (deduplaw10_part_L1 P w0 k0 m) k0 x1 x2 x7 x10 x11 x12
def deduplaw10_part_E1 (P : Program) (w0 : World) (k0 : Value → Hp → Prop) (x1 x2 x7 x10 x11 x12 : Value) : Hp → Prop := fun h => ∃ m, deduplaw10_part_L1 P w0 k0 m x1 x2 x7 x10 x11 x12 h
def s_deduplaw10_part (P : Program) (w0 : World) (a0 a1 a2 : Value) (R : Kont) : Hp → Prop :=
 pureA (lenSl a0) fun v11_1 =>
 deduplaw10_part_E1 P w0 (fun y7_19 =>
 retA [y7_19] R) a1 a2 (.slice none 0 0) a0 v11_1 (.int .i64 0)
theorem deduplaw10_part_L1_eq (w0 : World) (k0 : Value → Hp → Prop) : ∀ (m : Nat) (x1 x2 x7 x10 x11 x12 : Value) (h : Hp), loopA (stepL ⟨prog, w0, 32, ks_deduplaw10_part⟩ (drw w0 32) (loopAt fn_deduplaw10_part 0)) m (mkFr [(1, x1), (2, x2), (7, x7), (10, x10), (11, x11), (12, x12)]) [fun t => k0 (t 7)] h = deduplaw10_part_L1 prog w0 k0 m x1 x2 x7 x10 x11 x12 h := by
  intro m
  induction m with
  | zero => intros; kernel_rfl
  | succ m ih =>
    intro x1 x2 x7 x10 x11 x12 h
    have e : deduplaw10_part_L1 prog w0 k0 m = fun x1 x2 x7 x10 x11 x12 h => loopA (stepL ⟨prog, w0, 32, ks_deduplaw10_part⟩ (drw w0 32) (loopAt fn_deduplaw10_part 0)) m (mkFr [(1, x1), (2, x2), (7, x7), (10, x10), (11, x11), (12, x12)]) [fun t => k0 (t 7)] h := by funext x1 x2 x7 x10 x11 x12 h; exact (ih x1 x2 x7 x10 x11 x12 h).symm
    show _ = deduplaw10_part_B1 prog w0 (deduplaw10_part_L1 prog w0 k0 m) k0 x1 x2 x7 x10 x11 x12 h
    rw [e]
    kernel_rfl
theorem deduplaw10_part_E1_eq (w0 : World) : deduplaw10_part_E1 prog w0 = fun k0 x1 x2 x7 x10 x11 x12 h => ∃ m, loopA (stepL ⟨prog, w0, 32, ks_deduplaw10_part⟩ (drw w0 32) (loopAt fn_deduplaw10_part 0)) m (mkFr [(1, x1), (2, x2), (7, x7), (10, x10), (11, x11), (12, x12)]) [fun t => k0 (t 7)] h := by
  funext k0 x1 x2 x7 x10 x11 x12 h
  exact congrArg Exists (funext fun m => (deduplaw10_part_L1_eq w0 k0 m x1 x2 x7 x10 x11 x12 h).symm)
theorem c_deduplaw10_part {w0 : World} {h : Hp} {R : Kont} {a0 a1 a2 : Value} (hj : ∀ v, v ∈ [a0, a1, a2] → v ≠ junk) (hv : s_deduplaw10_part prog w0 a0 a1 a2 R h) : ACalls prog w0 n_deduplaw10_part [a0, a1, a2] h R := by
  have e : vcFn ⟨prog, w0, 32, ks_deduplaw10_part⟩ (drw w0 32) fn_deduplaw10_part [a0, a1, a2] R h = s_deduplaw10_part prog w0 a0 a1 a2 R h := by
    unfold s_deduplaw10_part
    rw [deduplaw10_part_E1_eq w0]
    kernel_rfl
  exact acalls_of_eq (fn := fn_deduplaw10_part) (ks := ks_deduplaw10_part) (n := 32) (by kernel_rfl) (by kernel_rfl) (draw_ok (by kernel_rfl)) (by simp) hj e hv

end
end Go.Proofs.Ytpdpponbhejlpaa.Ah
