/- PRINTED by wip/tools/shallow.py: functions of the program as readable words, and that each is what its text says. -/
import Derived.Test.YtiakadkooclelaaGn
set_option linter.unusedVariables false
set_option linter.unusedSimpArgs false
namespace Go.Proofs.Ytiakadkooclelaa.Ah
open Go Go.Proofs.Try
noncomputable section

abbrev fn_codec_NewReader : Func := f40
def ks_codec_NewReader : List (Nat × List Nat × List Nat) := []
def s_codec_NewReader (P : Program) (w0 : World) (a0 : Value) (R : Kont) : Hp → Prop :=
 buildA [(0, 1, false, a0)] [(.string .empty), (.int .i64 0)] fun v4_1 =>
 boxA true 2 v4_1 fun v5_2 =>
 retA [v5_2] R
theorem c_codec_NewReader {w0 : World} {h : Hp} {R : Kont} {a0 : Value} (hj : ∀ v, v ∈ [a0] → v ≠ junk) (hv : s_codec_NewReader prog w0 a0 R h) : ACalls prog w0 n_codec_NewReader [a0] h R :=
  c_of fn_codec_NewReader ks_codec_NewReader 6 (by kernel_rfl) (by kernel_rfl) (by simp) hj (by
    kernel_rfl) hv

abbrev fn_codec_Reader_U32 : Func := f41
def ks_codec_Reader_U32 : List (Nat × List Nat × List Nat) := []
def s_codec_Reader_U32 (P : Program) (w0 : World) (a0 : Value) (R : Kont) : Hp → Prop :=
 callA P w0 n_codec_Reader_read [a0, (.int .i64 4)] fun v4_1 =>
 pureA (convA .u32 v4_1) fun v5_2 =>
 retA [v5_2] R
theorem c_codec_Reader_U32 {w0 : World} {h : Hp} {R : Kont} {a0 : Value} (hj : ∀ v, v ∈ [a0] → v ≠ junk) (hv : s_codec_Reader_U32 prog w0 a0 R h) : ACalls prog w0 n_codec_Reader_U32 [a0] h R :=
  c_of fn_codec_Reader_U32 ks_codec_Reader_U32 6 (by kernel_rfl) (by kernel_rfl) (by simp) hj (by
    kernel_rfl) hv

abbrev fn_codec_NewWriter : Func := f45
def ks_codec_NewWriter : List (Nat × List Nat × List Nat) := []
def s_codec_NewWriter (P : Program) (w0 : World) (a0 : Value) (R : Kont) : Hp → Prop :=
 pureA (foldA max2A a0 [(.int .i64 0)]) fun v4_1 =>
 buildA [(0, 1, false, v4_1)] [(.int .i64 0), (.slice none 0 0), (.bool false)] fun v5_2 =>
 boxA true 3 v5_2 fun v6_3 =>
 retA [v6_3] R
theorem c_codec_NewWriter {w0 : World} {h : Hp} {R : Kont} {a0 : Value} (hj : ∀ v, v ∈ [a0] → v ≠ junk) (hv : s_codec_NewWriter prog w0 a0 R h) : ACalls prog w0 n_codec_NewWriter [a0] h R :=
  c_of fn_codec_NewWriter ks_codec_NewWriter 7 (by kernel_rfl) (by kernel_rfl) (by simp) hj (by
    kernel_rfl) hv

abbrev fn_codec_Writer_Raw : Func := f46
def ks_codec_Writer_Raw : List (Nat × List Nat × List Nat) := []
def s_codec_Writer_Raw (P : Program) (w0 : World) (a0 a1 : Value) (R : Kont) : Hp → Prop :=
 s2bA a1 fun v6_1 =>
 callA P w0 n_codec_Writer_put [a0, v6_1] fun v7_2 =>
 retA [] R
theorem c_codec_Writer_Raw {w0 : World} {h : Hp} {R : Kont} {a0 a1 : Value} (hj : ∀ v, v ∈ [a0, a1] → v ≠ junk) (hv : s_codec_Writer_Raw prog w0 a0 a1 R h) : ACalls prog w0 n_codec_Writer_Raw [a0, a1] h R :=
  c_of fn_codec_Writer_Raw ks_codec_Writer_Raw 8 (by kernel_rfl) (by kernel_rfl) (by simp) hj (by
    kernel_rfl) hv

abbrev fn_codec_Writer_U64 : Func := f47
def ks_codec_Writer_U64 : List (Nat × List Nat × List Nat) := []
def s_codec_Writer_U64 (P : Program) (w0 : World) (a0 a1 : Value) (R : Kont) : Hp → Prop :=
 callA P w0 n_codec_number_uint64 [a0, a1, (.int .i64 8)] fun v6_1 =>
 retA [] R
theorem c_codec_Writer_U64 {w0 : World} {h : Hp} {R : Kont} {a0 a1 : Value} (hj : ∀ v, v ∈ [a0, a1] → v ≠ junk) (hv : s_codec_Writer_U64 prog w0 a0 a1 R h) : ACalls prog w0 n_codec_Writer_U64 [a0, a1] h R :=
  c_of fn_codec_Writer_U64 ks_codec_Writer_U64 7 (by kernel_rfl) (by kernel_rfl) (by simp) hj (by
    kernel_rfl) hv

abbrev fn_codec_Writer_U32 : Func := f48
def ks_codec_Writer_U32 : List (Nat × List Nat × List Nat) := []
def s_codec_Writer_U32 (P : Program) (w0 : World) (a0 a1 : Value) (R : Kont) : Hp → Prop :=
 callA P w0 n_codec_number_uint32 [a0, a1, (.int .i64 4)] fun v6_1 =>
 retA [] R
theorem c_codec_Writer_U32 {w0 : World} {h : Hp} {R : Kont} {a0 a1 : Value} (hj : ∀ v, v ∈ [a0, a1] → v ≠ junk) (hv : s_codec_Writer_U32 prog w0 a0 a1 R h) : ACalls prog w0 n_codec_Writer_U32 [a0, a1] h R :=
  c_of fn_codec_Writer_U32 ks_codec_Writer_U32 7 (by kernel_rfl) (by kernel_rfl) (by simp) hj (by
    kernel_rfl) hv

abbrev fn_codec_Writer_Done : Func := f49
def ks_codec_Writer_Done : List (Nat × List Nat × List Nat) := []
def s_codec_Writer_Done (P : Program) (w0 : World) (a0 : Value) (R : Kont) : Hp → Prop :=
 pureA (binPtrA .eql a0 (.pointer none)) fun v6_1 =>
 condA v6_1 (
 retA [(.string .empty), (.int .i64 6)] R) (
 nilA a0 fun v9_2 =>
 addA v9_2 2 fun v10_3 =>
 loadA w0 v10_3 fun v11_4 =>
 condA v11_4 (
 retA [(.string .empty), (.int .i64 3)] R) (
 nilA a0 fun v13_5 =>
 addA v13_5 1 fun v14_6 =>
 loadA w0 v14_6 fun v15_7 =>
 b2sA w0 v15_7 fun v16_8 =>
 retA [v16_8, (.int .i64 0)] R))
theorem c_codec_Writer_Done {w0 : World} {h : Hp} {R : Kont} {a0 : Value} (hj : ∀ v, v ∈ [a0] → v ≠ junk) (hv : s_codec_Writer_Done prog w0 a0 R h) : ACalls prog w0 n_codec_Writer_Done [a0] h R :=
  c_of fn_codec_Writer_Done ks_codec_Writer_Done 17 (by kernel_rfl) (by kernel_rfl) (by simp) hj (by
    kernel_rfl) hv

abbrev fn_codec_Crc : Func := f50
def ks_codec_Crc : List (Nat × List Nat × List Nat) := [(3, [0, 3, 6, 7], [3]), (7, [0, 3, 6, 7, 16], [0, 3, 6, 7])]
def codec_Crc_B2 (P : Program) (w0 : World) (R : Value → Value → Value → Value → Value → Hp → Prop) (k2 : Value → Value → Value → Value → Hp → Prop) (x0 x3 x6 x7 x16 : Value) : Hp → Prop :=
 pureA (binA .lss x16 (.int .i64 8)) fun v17_6 =>
 condA v17_6 (
 pureA (binA .shr x3 (.int .u64 1)) fun v19_7 =>
 pureA (binA .and x3 (.int .u32 1)) fun v21_8 =>
 pureA (unA .neg v21_8) fun v22_9 =>
 pureA (binA .and (.int .u32 2197175160) v22_9) fun v23_10 =>
 pureA (binA .xor v19_7 v23_10) fun v24_11 =>
 pureA (binA .add x16 (.int .i64 1)) fun v25_12 =>
 R x0 v24_11 x6 x7 v25_12) (
 k2 x0 x3 x6 x7)
def codec_Crc_L2 (P : Program) (w0 : World) (k2 : Value → Value → Value → Value → Hp → Prop) : Nat → Value → Value → Value → Value → Value → Hp → Prop
  | 0, _, _, _, _, _ => fun _ => False
  | m + 1, x0, x3, x6, x7, x16 => codec_Crc_B2 P w0 (codec_Crc_L2 P w0 k2 m) k2 x0 x3 x6 x7 x16
def codec_Crc_E2 (P : Program) (w0 : World) (k2 : Value → Value → Value → Value → Hp → Prop) (x0 x3 x6 x7 x16 : Value) : Hp → Prop := fun h => ∃ m, codec_Crc_L2 P w0 k2 m x0 x3 x6 x7 x16 h
def codec_Crc_B1 (P : Program) (w0 : World) (R : Value → Value → Value → Value → Hp → Prop) (k0 : Value → Hp → Prop) (x0 x3 x6 x7 : Value) : Hp → Prop :=
 pureA (binA .lss x7 x6) fun v8_2 =>
 condA v8_2 (
 pureA (strIdxA x0 x7) fun v13_3 =>
 pureA (convA .u32 v13_3) fun v14_4 =>
 pureA (binA .xor x3 v14_4) fun v15_5 =>
 codec_Crc_E2 P w0 (fun y0_13 y3_14 y6_15 y7_16 =>
 pureA (binA .add y7_16 (.int .i64 1)) fun v26_17 =>
 R y0_13 y3_14 y6_15 v26_17) x0 v15_5 x6 x7 (.int .i64 0)) (
 k0 x3)
def codec_Crc_L1 (P : Program) (w0 : World) (k0 : Value → Hp → Prop) : Nat → Value → Value → Value → Value → Hp → Prop
  | 0, _, _, _, _ => fun _ => False
  | m + 1, x0, x3, x6, x7 => codec_Crc_B1 P w0 (codec_Crc_L1 P w0 k0 m) k0 x0 x3 x6 x7
def codec_Crc_E1 (P : Program) (w0 : World) (k0 : Value → Hp → Prop) (x0 x3 x6 x7 : Value) : Hp → Prop := fun h => ∃ m, codec_Crc_L1 P w0 k0 m x0 x3 x6 x7 h
def s_codec_Crc (P : Program) (w0 : World) (a0 : Value) (R : Kont) : Hp → Prop :=
 pureA (lenStr a0) fun v6_1 =>
 codec_Crc_E1 P w0 (fun y3_18 =>
 pureA (unA .xor y3_18) fun v28_19 =>
 retA [v28_19] R) a0 (.int .u32 4294967295) v6_1 (.int .i64 0)
def codec_Crc_F2 (w0 : World) (k2 : Value → Value → Value → Value → Hp → Prop) (m : Nat) (x0 x3 x6 x7 x16 : Value) : Hp → Prop := loopA (stepL ⟨prog, w0, 29, ks_codec_Crc⟩ (drw w0 29) (loopAt fn_codec_Crc 1)) m (mkFr [(0, x0), (3, x3), (6, x6), (7, x7), (16, x16)]) [fun t => k2 (t 0) (t 3) (t 6) (t 7)]
theorem codec_Crc_L2_eq (w0 : World) (k2 : Value → Value → Value → Value → Hp → Prop) : ∀ m, codec_Crc_F2 w0 k2 m = codec_Crc_L2 prog w0 k2 m := by
  intro m
  induction m with
  | zero => kernel_rfl
  | succ m ih =>
    show _ = fun x0 x3 x6 x7 x16 => codec_Crc_B2 prog w0 (codec_Crc_L2 prog w0 k2 m) k2 x0 x3 x6 x7 x16
    rw [← ih]
    kernel_rfl
theorem codec_Crc_E2_eq (w0 : World) : codec_Crc_E2 prog w0 = fun k2 x0 x3 x6 x7 x16 h => ∃ m, codec_Crc_F2 w0 k2 m x0 x3 x6 x7 x16 h := by
  funext k2 x0 x3 x6 x7 x16 h
  simp only [codec_Crc_L2_eq]
  rfl
def codec_Crc_F1 (w0 : World) (k0 : Value → Hp → Prop) (m : Nat) (x0 x3 x6 x7 : Value) : Hp → Prop := loopA (stepL ⟨prog, w0, 29, ks_codec_Crc⟩ (drw w0 29) (loopAt fn_codec_Crc 0)) m (mkFr [(0, x0), (3, x3), (6, x6), (7, x7)]) [fun t => k0 (t 3)]
theorem codec_Crc_L1_eq (w0 : World) (k0 : Value → Hp → Prop) : ∀ m, codec_Crc_F1 w0 k0 m = codec_Crc_L1 prog w0 k0 m := by
  intro m
  induction m with
  | zero => kernel_rfl
  | succ m ih =>
    show _ = fun x0 x3 x6 x7 => codec_Crc_B1 prog w0 (codec_Crc_L1 prog w0 k0 m) k0 x0 x3 x6 x7
    rw [← ih]
    unfold codec_Crc_B1
    rw [codec_Crc_E2_eq w0]
    kernel_rfl
theorem codec_Crc_E1_eq (w0 : World) : codec_Crc_E1 prog w0 = fun k0 x0 x3 x6 x7 h => ∃ m, codec_Crc_F1 w0 k0 m x0 x3 x6 x7 h := by
  funext k0 x0 x3 x6 x7 h
  simp only [codec_Crc_L1_eq]
  rfl
theorem c_codec_Crc {w0 : World} {h : Hp} {R : Kont} {a0 : Value} (hj : ∀ v, v ∈ [a0] → v ≠ junk) (hv : s_codec_Crc prog w0 a0 R h) : ACalls prog w0 n_codec_Crc [a0] h R :=
  c_of fn_codec_Crc ks_codec_Crc 29 (by kernel_rfl) (by kernel_rfl) (by simp) hj (by
    unfold s_codec_Crc
    rw [codec_Crc_E1_eq w0]
    kernel_rfl) hv

abbrev fn_codec_Reader_read : Func := f53
def ks_codec_Reader_read : List (Nat × List Nat × List Nat) := [(3, [5, 11, 12, 13], [5])]
def codec_Reader_read_B1 (P : Program) (w0 : World) (R : Value → Value → Value → Value → Hp → Prop) (k0 : Value → Hp → Prop) (x5 x11 x12 x13 : Value) : Hp → Prop :=
 pureA (binA .lss x13 x12) fun v14_4 =>
 condA v14_4 (
 idxSlA 1 x11 x13 fun v15_5 =>
 loadA w0 v15_5 fun v16_6 =>
 pureA (binA .shl x5 (.int .u64 8)) fun v18_7 =>
 pureA (convA .u64 v16_6) fun v20_8 =>
 pureA (binA .or v18_7 v20_8) fun v21_9 =>
 pureA (binA .add x13 (.int .i64 1)) fun v22_10 =>
 R v21_9 x11 x12 v22_10) (
 k0 x5)
def codec_Reader_read_L1 (P : Program) (w0 : World) (k0 : Value → Hp → Prop) : Nat → Value → Value → Value → Value → Hp → Prop
  | 0, _, _, _, _ => fun _ => False
  | m + 1, x5, x11, x12, x13 => codec_Reader_read_B1 P w0 (codec_Reader_read_L1 P w0 k0 m) k0 x5 x11 x12 x13
def codec_Reader_read_E1 (P : Program) (w0 : World) (k0 : Value → Hp → Prop) (x5 x11 x12 x13 : Value) : Hp → Prop := fun h => ∃ m, codec_Reader_read_L1 P w0 k0 m x5 x11 x12 x13 h
def s_codec_Reader_read (P : Program) (w0 : World) (a0 a1 : Value) (R : Kont) : Hp → Prop :=
 callA P w0 n_codec_Reader_Raw [a0, a1] fun v10_1 =>
 s2bA v10_1 fun v11_2 =>
 pureA (lenSl v11_2) fun v12_3 =>
 codec_Reader_read_E1 P w0 (fun y5_11 =>
 retA [y5_11] R) (.int .u64 0) v11_2 v12_3 (.int .i64 0)
def codec_Reader_read_F1 (w0 : World) (k0 : Value → Hp → Prop) (m : Nat) (x5 x11 x12 x13 : Value) : Hp → Prop := loopA (stepL ⟨prog, w0, 24, ks_codec_Reader_read⟩ (drw w0 24) (loopAt fn_codec_Reader_read 0)) m (mkFr [(5, x5), (11, x11), (12, x12), (13, x13)]) [fun t => k0 (t 5)]
theorem codec_Reader_read_L1_eq (w0 : World) (k0 : Value → Hp → Prop) : ∀ m, codec_Reader_read_F1 w0 k0 m = codec_Reader_read_L1 prog w0 k0 m := by
  intro m
  induction m with
  | zero => kernel_rfl
  | succ m ih =>
    show _ = fun x5 x11 x12 x13 => codec_Reader_read_B1 prog w0 (codec_Reader_read_L1 prog w0 k0 m) k0 x5 x11 x12 x13
    rw [← ih]
    kernel_rfl
theorem codec_Reader_read_E1_eq (w0 : World) : codec_Reader_read_E1 prog w0 = fun k0 x5 x11 x12 x13 h => ∃ m, codec_Reader_read_F1 w0 k0 m x5 x11 x12 x13 h := by
  funext k0 x5 x11 x12 x13 h
  simp only [codec_Reader_read_L1_eq]
  rfl
theorem c_codec_Reader_read {w0 : World} {h : Hp} {R : Kont} {a0 a1 : Value} (hj : ∀ v, v ∈ [a0, a1] → v ≠ junk) (hv : s_codec_Reader_read prog w0 a0 a1 R h) : ACalls prog w0 n_codec_Reader_read [a0, a1] h R :=
  c_of fn_codec_Reader_read ks_codec_Reader_read 24 (by kernel_rfl) (by kernel_rfl) (by simp) hj (by
    unfold s_codec_Reader_read
    rw [codec_Reader_read_E1_eq w0]
    kernel_rfl) hv

abbrev fn_codec_Writer_put : Func := f55
def ks_codec_Writer_put : List (Nat × List Nat × List Nat) := []
def s_codec_Writer_put (P : Program) (w0 : World) (a0 a1 : Value) (R : Kont) : Hp → Prop :=
 pureA (binPtrA .eql a0 (.pointer none)) fun v15_1 =>
 guardA v15_1 false (fun K => K a0) fun v17_2 =>
 guardA v15_1 false (nilA v17_2) fun v18_3 =>
 guardA v15_1 false (addA v18_3 2) fun v19_4 =>
 guardA v15_1 false (loadA w0 v19_4) fun v20_5 =>
 pickA v15_1 (.bool true) v20_5 fun v21_6 =>
 condA v21_6 (
 retA [] R) (
 pureQ (fun K => K a1) fun v23_7 =>
 pureQ (pureA (lenSl v23_7)) fun v24_8 =>
 pureQ (fun K => K a0) fun v25_9 =>
 pureQ (nilA v25_9) fun v26_10 =>
 pureQ (addA v26_10 0) fun v27_11 =>
 readQ (loadA w0 v27_11) fun v28_12 =>
 pureQ (fun K => K a0) fun v29_13 =>
 pureQ (nilA v29_13) fun v30_14 =>
 pureQ (addA v30_14 1) fun v31_15 =>
 readQ (loadA w0 v31_15) fun v32_16 =>
 pureQ (pureA (lenSl v32_16)) fun v33_17 =>
 pureQ (pureA (binA .sub v28_12 v33_17)) fun v34_18 =>
 pureQ (pureA (binA .gtr v24_8 v34_18)) fun v35_19 =>
 pureQ (fun K => K v35_19) fun v22_20 =>
 endA (
 condA v22_20 (
 nilA a0 fun v37_21 =>
 addA v37_21 2 fun v38_22 =>
 storeA w0 v38_22 (.bool true) fun _ =>
 retA [] R) (
 nilA a0 fun v6_23 =>
 addA v6_23 1 fun v7_24 =>
 loadA w0 v7_24 fun v8_25 =>
 appA w0 1 1 v8_25 a1 fun v10_26 =>
 nilA a0 fun v11_27 =>
 addA v11_27 1 fun v12_28 =>
 storeA w0 v12_28 v10_26 fun _ =>
 retA [] R)))
theorem c_codec_Writer_put {w0 : World} {h : Hp} {R : Kont} {a0 a1 : Value} (hj : ∀ v, v ∈ [a0, a1] → v ≠ junk) (hv : s_codec_Writer_put prog w0 a0 a1 R h) : ACalls prog w0 n_codec_Writer_put [a0, a1] h R :=
  c_of fn_codec_Writer_put ks_codec_Writer_put 39 (by kernel_rfl) (by kernel_rfl) (by simp) hj (by
    kernel_rfl) hv

abbrev fn_codec_number_uint64 : Func := f56
def ks_codec_number_uint64 : List (Nat × List Nat × List Nat) := [(2, [0, 1, 2, 6, 11, 12], [0, 6])]
def codec_number_uint64_B1 (P : Program) (w0 : World) (R : Value → Value → Value → Value → Value → Value → Hp → Prop) (k0 : Value → Value → Hp → Prop) (x0 x1 x2 x6 x11 x12 : Value) : Hp → Prop :=
 pureA (binA .lss x12 x11) fun v13_3 =>
 condA v13_3 (
 pureA (binA .sub x2 (.int .i64 1)) fun v17_4 =>
 pureA (binA .sub v17_4 x12) fun v19_5 =>
 pureA (convA .u8 x1) fun v21_6 =>
 idxSlA 1 x6 v19_5 fun v22_7 =>
 storeA w0 v22_7 v21_6 fun _ =>
 pureA (binA .shr x1 (.int .u64 4)) fun v24_8 =>
 pureA (binA .shr v24_8 (.int .u64 4)) fun v26_9 =>
 pureA (binA .add x12 (.int .i64 1)) fun v27_10 =>
 R x0 v26_9 x2 x6 x11 v27_10) (
 k0 x0 x6)
def codec_number_uint64_L1 (P : Program) (w0 : World) (k0 : Value → Value → Hp → Prop) : Nat → Value → Value → Value → Value → Value → Value → Hp → Prop
  | 0, _, _, _, _, _, _ => fun _ => False
  | m + 1, x0, x1, x2, x6, x11, x12 => codec_number_uint64_B1 P w0 (codec_number_uint64_L1 P w0 k0 m) k0 x0 x1 x2 x6 x11 x12
def codec_number_uint64_E1 (P : Program) (w0 : World) (k0 : Value → Value → Hp → Prop) (x0 x1 x2 x6 x11 x12 : Value) : Hp → Prop := fun h => ∃ m, codec_number_uint64_L1 P w0 k0 m x0 x1 x2 x6 x11 x12 h
def s_codec_number_uint64 (P : Program) (w0 : World) (a0 a1 a2 : Value) (R : Kont) : Hp → Prop :=
 mkA 1 1 [(.int .u8 0)] a2 a2 fun v9_1 =>
 pureA (lenSl v9_1) fun v11_2 =>
 codec_number_uint64_E1 P w0 (fun y0_11 y6_12 =>
 callA P w0 n_codec_Writer_put [y0_11, y6_12] fun v30_13 =>
 retA [] R) a0 a1 a2 v9_1 v11_2 (.int .i64 0)
def codec_number_uint64_F1 (w0 : World) (k0 : Value → Value → Hp → Prop) (m : Nat) (x0 x1 x2 x6 x11 x12 : Value) : Hp → Prop := loopA (stepL ⟨prog, w0, 31, ks_codec_number_uint64⟩ (drw w0 31) (loopAt fn_codec_number_uint64 0)) m (mkFr [(0, x0), (1, x1), (2, x2), (6, x6), (11, x11), (12, x12)]) [fun t => k0 (t 0) (t 6)]
theorem codec_number_uint64_L1_eq (w0 : World) (k0 : Value → Value → Hp → Prop) : ∀ m, codec_number_uint64_F1 w0 k0 m = codec_number_uint64_L1 prog w0 k0 m := by
  intro m
  induction m with
  | zero => kernel_rfl
  | succ m ih =>
    show _ = fun x0 x1 x2 x6 x11 x12 => codec_number_uint64_B1 prog w0 (codec_number_uint64_L1 prog w0 k0 m) k0 x0 x1 x2 x6 x11 x12
    rw [← ih]
    kernel_rfl
theorem codec_number_uint64_E1_eq (w0 : World) : codec_number_uint64_E1 prog w0 = fun k0 x0 x1 x2 x6 x11 x12 h => ∃ m, codec_number_uint64_F1 w0 k0 m x0 x1 x2 x6 x11 x12 h := by
  funext k0 x0 x1 x2 x6 x11 x12 h
  simp only [codec_number_uint64_L1_eq]
  rfl
theorem c_codec_number_uint64 {w0 : World} {h : Hp} {R : Kont} {a0 a1 a2 : Value} (hj : ∀ v, v ∈ [a0, a1, a2] → v ≠ junk) (hv : s_codec_number_uint64 prog w0 a0 a1 a2 R h) : ACalls prog w0 n_codec_number_uint64 [a0, a1, a2] h R :=
  c_of fn_codec_number_uint64 ks_codec_number_uint64 31 (by kernel_rfl) (by kernel_rfl) (by simp) hj (by
    unfold s_codec_number_uint64
    rw [codec_number_uint64_E1_eq w0]
    kernel_rfl) hv

abbrev fn_codec_number_uint32 : Func := f57
def ks_codec_number_uint32 : List (Nat × List Nat × List Nat) := [(2, [0, 1, 2, 6, 11, 12], [0, 6])]
def codec_number_uint32_B1 (P : Program) (w0 : World) (R : Value → Value → Value → Value → Value → Value → Hp → Prop) (k0 : Value → Value → Hp → Prop) (x0 x1 x2 x6 x11 x12 : Value) : Hp → Prop :=
 pureA (binA .lss x12 x11) fun v13_3 =>
 condA v13_3 (
 pureA (binA .sub x2 (.int .i64 1)) fun v17_4 =>
 pureA (binA .sub v17_4 x12) fun v19_5 =>
 pureA (convA .u8 x1) fun v21_6 =>
 idxSlA 1 x6 v19_5 fun v22_7 =>
 storeA w0 v22_7 v21_6 fun _ =>
 pureA (binA .shr x1 (.int .u64 4)) fun v24_8 =>
 pureA (binA .shr v24_8 (.int .u64 4)) fun v26_9 =>
 pureA (binA .add x12 (.int .i64 1)) fun v27_10 =>
 R x0 v26_9 x2 x6 x11 v27_10) (
 k0 x0 x6)
def codec_number_uint32_L1 (P : Program) (w0 : World) (k0 : Value → Value → Hp → Prop) : Nat → Value → Value → Value → Value → Value → Value → Hp → Prop
  | 0, _, _, _, _, _, _ => fun _ => False
  | m + 1, x0, x1, x2, x6, x11, x12 => codec_number_uint32_B1 P w0 (codec_number_uint32_L1 P w0 k0 m) k0 x0 x1 x2 x6 x11 x12
def codec_number_uint32_E1 (P : Program) (w0 : World) (k0 : Value → Value → Hp → Prop) (x0 x1 x2 x6 x11 x12 : Value) : Hp → Prop := fun h => ∃ m, codec_number_uint32_L1 P w0 k0 m x0 x1 x2 x6 x11 x12 h
def s_codec_number_uint32 (P : Program) (w0 : World) (a0 a1 a2 : Value) (R : Kont) : Hp → Prop :=
 mkA 1 1 [(.int .u8 0)] a2 a2 fun v9_1 =>
 pureA (lenSl v9_1) fun v11_2 =>
 codec_number_uint32_E1 P w0 (fun y0_11 y6_12 =>
 callA P w0 n_codec_Writer_put [y0_11, y6_12] fun v30_13 =>
 retA [] R) a0 a1 a2 v9_1 v11_2 (.int .i64 0)
def codec_number_uint32_F1 (w0 : World) (k0 : Value → Value → Hp → Prop) (m : Nat) (x0 x1 x2 x6 x11 x12 : Value) : Hp → Prop := loopA (stepL ⟨prog, w0, 31, ks_codec_number_uint32⟩ (drw w0 31) (loopAt fn_codec_number_uint32 0)) m (mkFr [(0, x0), (1, x1), (2, x2), (6, x6), (11, x11), (12, x12)]) [fun t => k0 (t 0) (t 6)]
theorem codec_number_uint32_L1_eq (w0 : World) (k0 : Value → Value → Hp → Prop) : ∀ m, codec_number_uint32_F1 w0 k0 m = codec_number_uint32_L1 prog w0 k0 m := by
  intro m
  induction m with
  | zero => kernel_rfl
  | succ m ih =>
    show _ = fun x0 x1 x2 x6 x11 x12 => codec_number_uint32_B1 prog w0 (codec_number_uint32_L1 prog w0 k0 m) k0 x0 x1 x2 x6 x11 x12
    rw [← ih]
    kernel_rfl
theorem codec_number_uint32_E1_eq (w0 : World) : codec_number_uint32_E1 prog w0 = fun k0 x0 x1 x2 x6 x11 x12 h => ∃ m, codec_number_uint32_F1 w0 k0 m x0 x1 x2 x6 x11 x12 h := by
  funext k0 x0 x1 x2 x6 x11 x12 h
  simp only [codec_number_uint32_L1_eq]
  rfl
theorem c_codec_number_uint32 {w0 : World} {h : Hp} {R : Kont} {a0 a1 a2 : Value} (hj : ∀ v, v ∈ [a0, a1, a2] → v ≠ junk) (hv : s_codec_number_uint32 prog w0 a0 a1 a2 R h) : ACalls prog w0 n_codec_number_uint32 [a0, a1, a2] h R :=
  c_of fn_codec_number_uint32 ks_codec_number_uint32 31 (by kernel_rfl) (by kernel_rfl) (by simp) hj (by
    unfold s_codec_number_uint32
    rw [codec_number_uint32_E1_eq w0]
    kernel_rfl) hv

abbrev fn_codec_Reader_Raw : Func := f60
def ks_codec_Reader_Raw : List (Nat × List Nat × List Nat) := []
def s_codec_Reader_Raw (P : Program) (w0 : World) (a0 a1 : Value) (R : Kont) : Hp → Prop :=
 pureA (binPtrA .eql a0 (.pointer none)) fun v8_1 =>
 guardA v8_1 false (fun K => K a0) fun v10_2 =>
 guardA v8_1 false (nilA v10_2) fun v11_3 =>
 guardA v8_1 false (addA v11_3 1) fun v12_4 =>
 guardA v8_1 false (loadA w0 v12_4) fun v13_5 =>
 guardA v8_1 false (pureA (binA .neq v13_5 (.int .i64 0))) fun v14_6 =>
 pickA v8_1 (.bool true) v14_6 fun v15_7 =>
 condA v15_7 (
 retA [(.string .empty)] R) (
 pureA (binA .lss a1 (.int .i64 0)) fun v18_8 =>
 condA v18_8 (
 callA P w0 n_codec_Reader_fault [a0, (.int .i64 1)] fun v20_9 =>
 retA [v20_9] R) (
 nilA a0 fun v24_10 =>
 addA v24_10 0 fun v25_11 =>
 loadA w0 v25_11 fun v26_12 =>
 pureA (lenStr v26_12) fun v27_13 =>
 pureA (binA .gtr a1 v27_13) fun v28_14 =>
 condA v28_14 (
 callA P w0 n_codec_Reader_fault [a0, (.int .i64 20)] fun v30_15 =>
 retA [v30_15] R) (
 nilA a0 fun v32_16 =>
 addA v32_16 0 fun v33_17 =>
 loadA w0 v33_17 fun v34_18 =>
 pureA (strSlA v34_18 none (some a1)) fun v36_19 =>
 nilA a0 fun v39_20 =>
 addA v39_20 0 fun v40_21 =>
 loadA w0 v40_21 fun v41_22 =>
 pureA (strSlA v41_22 (some a1) none) fun v43_23 =>
 nilA a0 fun v44_24 =>
 addA v44_24 0 fun v45_25 =>
 storeA w0 v45_25 v43_23 fun _ =>
 retA [v36_19] R)))
theorem c_codec_Reader_Raw {w0 : World} {h : Hp} {R : Kont} {a0 a1 : Value} (hj : ∀ v, v ∈ [a0, a1] → v ≠ junk) (hv : s_codec_Reader_Raw prog w0 a0 a1 R h) : ACalls prog w0 n_codec_Reader_Raw [a0, a1] h R :=
  c_of fn_codec_Reader_Raw ks_codec_Reader_Raw 47 (by kernel_rfl) (by kernel_rfl) (by simp) hj (by
    kernel_rfl) hv

abbrev fn_codec_Reader_fault : Func := f61
def ks_codec_Reader_fault : List (Nat × List Nat × List Nat) := []
def s_codec_Reader_fault (P : Program) (w0 : World) (a0 a1 : Value) (R : Kont) : Hp → Prop :=
 nilA a0 fun v6_1 =>
 addA v6_1 1 fun v7_2 =>
 loadA w0 v7_2 fun v8_3 =>
 pureA (binA .eql v8_3 (.int .i64 0)) fun v9_4 =>
 condA v9_4 (
 nilA a0 fun v12_5 =>
 addA v12_5 1 fun v13_6 =>
 storeA w0 v13_6 a1 fun _ =>
 retA [(.string .empty)] R) (
 retA [(.string .empty)] R)
theorem c_codec_Reader_fault {w0 : World} {h : Hp} {R : Kont} {a0 a1 : Value} (hj : ∀ v, v ∈ [a0, a1] → v ≠ junk) (hv : s_codec_Reader_fault prog w0 a0 a1 R h) : ACalls prog w0 n_codec_Reader_fault [a0, a1] h R :=
  c_of fn_codec_Reader_fault ks_codec_Reader_fault 14 (by kernel_rfl) (by kernel_rfl) (by simp) hj (by
    kernel_rfl) hv

end
end Go.Proofs.Ytiakadkooclelaa.Ah
