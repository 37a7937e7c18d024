/- PRINTED by wip/tools/shallow.py: functions of the program as readable words, and that each is what its text says. -/
import Derived.Test.YtfmoemconapmhaaGreatGn
set_option linter.unusedVariables false
set_option linter.unusedSimpArgs false
namespace Go.Proofs.YtfmoemconapmhaaGreat.Ah
open Go Go.Proofs.Tryz
noncomputable section

abbrev fn_codec_NewReader : Func := f55
def ks_codec_NewReader : List (Nat × List Nat × List Nat) := []
def s_codec_NewReader (P : Program) (w0 : World) (a0 : Value) (R : Kont) : Hp → Prop :=
 buildA [(0, 1, false, a0)] [(.string .empty), (.int .i64 0)] fun v4_1 =>
 boxA true 2 v4_1 fun v5_2 =>
 retA [v5_2] R
theorem c_codec_NewReader {w0 : World} {h : Hp} {R : Kont} {a0 : Value} (hj : ∀ v, v ∈ [a0] → v ≠ junk) (hv : s_codec_NewReader prog w0 a0 R h) : ACalls prog w0 n_codec_NewReader [a0] h R := by
  have e : vcFn ⟨prog, w0, 6, ks_codec_NewReader⟩ (drw w0 6) fn_codec_NewReader [a0] R h = s_codec_NewReader prog w0 a0 R h := by
    kernel_rfl
  exact acalls_of_eq (fn := fn_codec_NewReader) (ks := ks_codec_NewReader) (n := 6) (by kernel_rfl) (by kernel_rfl) (draw_ok (by kernel_rfl)) (by simp) hj e hv

abbrev fn_codec_NewWriter : Func := f56
def ks_codec_NewWriter : List (Nat × List Nat × List Nat) := []
def s_codec_NewWriter (P : Program) (w0 : World) (a0 : Value) (R : Kont) : Hp → Prop :=
 pureA (foldA max2A a0 [(.int .i64 0)]) fun v4_1 =>
 buildA [(0, 1, false, v4_1)] [(.int .i64 0), (.slice none 0 0), (.bool false)] fun v5_2 =>
 boxA true 3 v5_2 fun v6_3 =>
 retA [v6_3] R
theorem c_codec_NewWriter {w0 : World} {h : Hp} {R : Kont} {a0 : Value} (hj : ∀ v, v ∈ [a0] → v ≠ junk) (hv : s_codec_NewWriter prog w0 a0 R h) : ACalls prog w0 n_codec_NewWriter [a0] h R := by
  have e : vcFn ⟨prog, w0, 7, ks_codec_NewWriter⟩ (drw w0 7) fn_codec_NewWriter [a0] R h = s_codec_NewWriter prog w0 a0 R h := by
    kernel_rfl
  exact acalls_of_eq (fn := fn_codec_NewWriter) (ks := ks_codec_NewWriter) (n := 7) (by kernel_rfl) (by kernel_rfl) (draw_ok (by kernel_rfl)) (by simp) hj e hv

abbrev fn_codec_Writer_Varint : Func := f57
def ks_codec_Writer_Varint : List (Nat × List Nat × List Nat) := []
def s_codec_Writer_Varint (P : Program) (w0 : World) (a0 a1 : Value) (R : Kont) : Hp → Prop :=
 callA P w0 n_codec_varint [a1] fun v6_1 =>
 callA P w0 n_codec_Writer_put [a0, v6_1] fun v7_2 =>
 retA [] R
theorem c_codec_Writer_Varint {w0 : World} {h : Hp} {R : Kont} {a0 a1 : Value} (hj : ∀ v, v ∈ [a0, a1] → v ≠ junk) (hv : s_codec_Writer_Varint prog w0 a0 a1 R h) : ACalls prog w0 n_codec_Writer_Varint [a0, a1] h R := by
  have e : vcFn ⟨prog, w0, 8, ks_codec_Writer_Varint⟩ (drw w0 8) fn_codec_Writer_Varint [a0, a1] R h = s_codec_Writer_Varint prog w0 a0 a1 R h := by
    kernel_rfl
  exact acalls_of_eq (fn := fn_codec_Writer_Varint) (ks := ks_codec_Writer_Varint) (n := 8) (by kernel_rfl) (by kernel_rfl) (draw_ok (by kernel_rfl)) (by simp) hj e hv

abbrev fn_codec_Crc : Func := f59
def ks_codec_Crc : List (Nat × List Nat × List Nat) := [(3, [0, 3, 6, 7], [3]), (7, [0, 3, 6, 7, 16], [0, 3, 6, 7])]
def codec_Crc_B2 (P : Program) (w0 : World) (R : Value → Value → Value → Value → Value → Hp → Prop) (k2 : Value → Value → Value → Value → Hp → Prop) (x0 x3 x6 x7 x16 : Value) : Hp → Prop :=
 pureA (binA .lss x16 (.int .i64 8)) fun v17_6 =>
 condA v17_6 (
 pureA (binA .shr x3 (.int .u64 1)) fun v19_7 =>
 pureA (binA .and x3 (.int .u32 1)) fun v21_8 =>
 pureA (unA .neg v21_8) fun v22_9 =>
 pureA (binA .and (.int .u32 2197175160) v22_9) fun v23_10 =>
 pureA (binA .xor v19_7 v23_10) fun v24_11 =>
 pureA (binA .add x16 (.int .i64 1)) fun v25_12 =>
 R x0 v24_11 x6 x7 v25_12) (
 k2 x0 x3 x6 x7)
def codec_Crc_L2 (P : Program) (w0 : World) (k2 : Value → Value → Value → Value → Hp → Prop) : Nat → Value → Value → Value → Value → Value → Hp → Prop
  | 0, _, _, _, _, _ => fun _ => False
  | m + 1, x0, x3, x6, x7, x16 => codec_Crc_B2 P w0 (codec_Crc_L2 P w0 k2 m) k2 x0 x3 x6 x7 x16
def codec_Crc_E2 (P : Program) (w0 : World) (k2 : Value → Value → Value → Value → Hp → Prop) (x0 x3 x6 x7 x16 : Value) : Hp → Prop := fun h => ∃ m, codec_Crc_L2 P w0 k2 m x0 x3 x6 x7 x16 h
def codec_Crc_B1 (P : Program) (w0 : World) (R : Value → Value → Value → Value → Hp → Prop) (k0 : Value → Hp → Prop) (x0 x3 x6 x7 : Value) : Hp → Prop :=
 pureA (binA .lss x7 x6) fun v8_2 =>
 condA v8_2 (
 pureA (strIdxA x0 x7) fun v13_3 =>
 pureA (convA .u32 v13_3) fun v14_4 =>
 pureA (binA .xor x3 v14_4) fun v15_5 =>
 codec_Crc_E2 P w0 (fun y0_13 y3_14 y6_15 y7_16 =>
 pureA (binA .add y7_16 (.int .i64 1)) fun v26_17 =>
 R y0_13 y3_14 y6_15 v26_17) x0 v15_5 x6 x7 (.int .i64 0)) (
 k0 x3)
def codec_Crc_L1 (P : Program) (w0 : World) (k0 : Value → Hp → Prop) : Nat → Value → Value → Value → Value → Hp → Prop
  | 0, _, _, _, _ => fun _ => False
  | m + 1, x0, x3, x6, x7 => codec_Crc_B1 P w0 (codec_Crc_L1 P w0 k0 m) k0 x0 x3 x6 x7
def codec_Crc_E1 (P : Program) (w0 : World) (k0 : Value → Hp → Prop) (x0 x3 x6 x7 : Value) : Hp → Prop := fun h => ∃ m, codec_Crc_L1 P w0 k0 m x0 x3 x6 x7 h
def s_codec_Crc (P : Program) (w0 : World) (a0 : Value) (R : Kont) : Hp → Prop :=
 pureA (lenStr a0) fun v6_1 =>
 codec_Crc_E1 P w0 (fun y3_18 =>
 pureA (unA .xor y3_18) fun v28_19 =>
 retA [v28_19] R) a0 (.int .u32 4294967295) v6_1 (.int .i64 0)
theorem codec_Crc_L2_eq (w0 : World) (k2 : Value → Value → Value → Value → Hp → Prop) : ∀ (m : Nat) (x0 x3 x6 x7 x16 : Value) (h : Hp), loopA (stepL ⟨prog, w0, 29, ks_codec_Crc⟩ (drw w0 29) (loopAt fn_codec_Crc 1)) m (mkFr [(0, x0), (3, x3), (6, x6), (7, x7), (16, x16)]) [fun t => k2 (t 0) (t 3) (t 6) (t 7)] h = codec_Crc_L2 prog w0 k2 m x0 x3 x6 x7 x16 h := by
  intro m
  induction m with
  | zero => intros; kernel_rfl
  | succ m ih =>
    intro x0 x3 x6 x7 x16 h
    have e : codec_Crc_L2 prog w0 k2 m = fun x0 x3 x6 x7 x16 h => loopA (stepL ⟨prog, w0, 29, ks_codec_Crc⟩ (drw w0 29) (loopAt fn_codec_Crc 1)) m (mkFr [(0, x0), (3, x3), (6, x6), (7, x7), (16, x16)]) [fun t => k2 (t 0) (t 3) (t 6) (t 7)] h := by funext x0 x3 x6 x7 x16 h; exact (ih x0 x3 x6 x7 x16 h).symm
    show _ = codec_Crc_B2 prog w0 (codec_Crc_L2 prog w0 k2 m) k2 x0 x3 x6 x7 x16 h
    rw [e]
    kernel_rfl
theorem codec_Crc_E2_eq (w0 : World) : codec_Crc_E2 prog w0 = fun k2 x0 x3 x6 x7 x16 h => ∃ m, loopA (stepL ⟨prog, w0, 29, ks_codec_Crc⟩ (drw w0 29) (loopAt fn_codec_Crc 1)) m (mkFr [(0, x0), (3, x3), (6, x6), (7, x7), (16, x16)]) [fun t => k2 (t 0) (t 3) (t 6) (t 7)] h := by
  funext k2 x0 x3 x6 x7 x16 h
  exact congrArg Exists (funext fun m => (codec_Crc_L2_eq w0 k2 m x0 x3 x6 x7 x16 h).symm)
theorem codec_Crc_L1_eq (w0 : World) (k0 : Value → Hp → Prop) : ∀ (m : Nat) (x0 x3 x6 x7 : Value) (h : Hp), loopA (stepL ⟨prog, w0, 29, ks_codec_Crc⟩ (drw w0 29) (loopAt fn_codec_Crc 0)) m (mkFr [(0, x0), (3, x3), (6, x6), (7, x7)]) [fun t => k0 (t 3)] h = codec_Crc_L1 prog w0 k0 m x0 x3 x6 x7 h := by
  intro m
  induction m with
  | zero => intros; kernel_rfl
  | succ m ih =>
    intro x0 x3 x6 x7 h
    have e : codec_Crc_L1 prog w0 k0 m = fun x0 x3 x6 x7 h => loopA (stepL ⟨prog, w0, 29, ks_codec_Crc⟩ (drw w0 29) (loopAt fn_codec_Crc 0)) m (mkFr [(0, x0), (3, x3), (6, x6), (7, x7)]) [fun t => k0 (t 3)] h := by funext x0 x3 x6 x7 h; exact (ih x0 x3 x6 x7 h).symm
    show _ = codec_Crc_B1 prog w0 (codec_Crc_L1 prog w0 k0 m) k0 x0 x3 x6 x7 h
    rw [e]
    unfold codec_Crc_B1
    rw [codec_Crc_E2_eq w0]
    kernel_rfl
theorem codec_Crc_E1_eq (w0 : World) : codec_Crc_E1 prog w0 = fun k0 x0 x3 x6 x7 h => ∃ m, loopA (stepL ⟨prog, w0, 29, ks_codec_Crc⟩ (drw w0 29) (loopAt fn_codec_Crc 0)) m (mkFr [(0, x0), (3, x3), (6, x6), (7, x7)]) [fun t => k0 (t 3)] h := by
  funext k0 x0 x3 x6 x7 h
  exact congrArg Exists (funext fun m => (codec_Crc_L1_eq w0 k0 m x0 x3 x6 x7 h).symm)
theorem c_codec_Crc {w0 : World} {h : Hp} {R : Kont} {a0 : Value} (hj : ∀ v, v ∈ [a0] → v ≠ junk) (hv : s_codec_Crc prog w0 a0 R h) : ACalls prog w0 n_codec_Crc [a0] h R := by
  have e : vcFn ⟨prog, w0, 29, ks_codec_Crc⟩ (drw w0 29) fn_codec_Crc [a0] R h = s_codec_Crc prog w0 a0 R h := by
    unfold s_codec_Crc
    rw [codec_Crc_E1_eq w0]
    kernel_rfl
  exact acalls_of_eq (fn := fn_codec_Crc) (ks := ks_codec_Crc) (n := 29) (by kernel_rfl) (by kernel_rfl) (draw_ok (by kernel_rfl)) (by simp) hj e hv

abbrev fn_codec_Writer_Done : Func := f60
def ks_codec_Writer_Done : List (Nat × List Nat × List Nat) := []
def s_codec_Writer_Done (P : Program) (w0 : World) (a0 : Value) (R : Kont) : Hp → Prop :=
 pureA (binPtrA .eql a0 (.pointer none)) fun v6_1 =>
 condA v6_1 (
 retA [(.string .empty), (.int .i64 6)] R) (
 nilA a0 fun v9_2 =>
 addA v9_2 2 fun v10_3 =>
 loadA w0 v10_3 fun v11_4 =>
 condA v11_4 (
 retA [(.string .empty), (.int .i64 3)] R) (
 nilA a0 fun v13_5 =>
 addA v13_5 1 fun v14_6 =>
 loadA w0 v14_6 fun v15_7 =>
 b2sA w0 v15_7 fun v16_8 =>
 retA [v16_8, (.int .i64 0)] R))
theorem c_codec_Writer_Done {w0 : World} {h : Hp} {R : Kont} {a0 : Value} (hj : ∀ v, v ∈ [a0] → v ≠ junk) (hv : s_codec_Writer_Done prog w0 a0 R h) : ACalls prog w0 n_codec_Writer_Done [a0] h R := by
  have e : vcFn ⟨prog, w0, 17, ks_codec_Writer_Done⟩ (drw w0 17) fn_codec_Writer_Done [a0] R h = s_codec_Writer_Done prog w0 a0 R h := by
    kernel_rfl
  exact acalls_of_eq (fn := fn_codec_Writer_Done) (ks := ks_codec_Writer_Done) (n := 17) (by kernel_rfl) (by kernel_rfl) (draw_ok (by kernel_rfl)) (by simp) hj e hv

abbrev fn_codec_Reader_Raw : Func := f104
def ks_codec_Reader_Raw : List (Nat × List Nat × List Nat) := []
def s_codec_Reader_Raw (P : Program) (w0 : World) (a0 a1 : Value) (R : Kont) : Hp → Prop :=
 pureA (binPtrA .eql a0 (.pointer none)) fun v8_1 =>
 guardA v8_1 false (fun K => K a0) fun v10_2 =>
 guardA v8_1 false (nilA v10_2) fun v11_3 =>
 guardA v8_1 false (addA v11_3 1) fun v12_4 =>
 guardA v8_1 false (loadA w0 v12_4) fun v13_5 =>
 guardA v8_1 false (pureA (binA .neq v13_5 (.int .i64 0))) fun v14_6 =>
 pickA v8_1 (.bool true) v14_6 fun v15_7 =>
 condA v15_7 (
 retA [(.string .empty)] R) (
 pureA (binA .lss a1 (.int .i64 0)) fun v18_8 =>
 condA v18_8 (
 callA P w0 n_codec_Reader_fault [a0, (.int .i64 1)] fun v20_9 =>
 retA [v20_9] R) (
 nilA a0 fun v24_10 =>
 addA v24_10 0 fun v25_11 =>
 loadA w0 v25_11 fun v26_12 =>
 pureA (lenStr v26_12) fun v27_13 =>
 pureA (binA .gtr a1 v27_13) fun v28_14 =>
 condA v28_14 (
 callA P w0 n_codec_Reader_fault [a0, (.int .i64 20)] fun v30_15 =>
 retA [v30_15] R) (
 nilA a0 fun v32_16 =>
 addA v32_16 0 fun v33_17 =>
 loadA w0 v33_17 fun v34_18 =>
 pureA (strSlA v34_18 none (some a1)) fun v36_19 =>
 nilA a0 fun v39_20 =>
 addA v39_20 0 fun v40_21 =>
 loadA w0 v40_21 fun v41_22 =>
 pureA (strSlA v41_22 (some a1) none) fun v43_23 =>
 nilA a0 fun v44_24 =>
 addA v44_24 0 fun v45_25 =>
 storeA w0 v45_25 v43_23 fun _ =>
 retA [v36_19] R)))
theorem c_codec_Reader_Raw {w0 : World} {h : Hp} {R : Kont} {a0 a1 : Value} (hj : ∀ v, v ∈ [a0, a1] → v ≠ junk) (hv : s_codec_Reader_Raw prog w0 a0 a1 R h) : ACalls prog w0 n_codec_Reader_Raw [a0, a1] h R := by
  have e : vcFn ⟨prog, w0, 47, ks_codec_Reader_Raw⟩ (drw w0 47) fn_codec_Reader_Raw [a0, a1] R h = s_codec_Reader_Raw prog w0 a0 a1 R h := by
    kernel_rfl
  exact acalls_of_eq (fn := fn_codec_Reader_Raw) (ks := ks_codec_Reader_Raw) (n := 47) (by kernel_rfl) (by kernel_rfl) (draw_ok (by kernel_rfl)) (by simp) hj e hv

abbrev fn_codec_Reader_U8 : Func := f105
def ks_codec_Reader_U8 : List (Nat × List Nat × List Nat) := []
def s_codec_Reader_U8 (P : Program) (w0 : World) (a0 : Value) (R : Kont) : Hp → Prop :=
 callA P w0 n_codec_Reader_read [a0, (.int .i64 1)] fun v4_1 =>
 pureA (convA .u8 v4_1) fun v5_2 =>
 retA [v5_2] R
theorem c_codec_Reader_U8 {w0 : World} {h : Hp} {R : Kont} {a0 : Value} (hj : ∀ v, v ∈ [a0] → v ≠ junk) (hv : s_codec_Reader_U8 prog w0 a0 R h) : ACalls prog w0 n_codec_Reader_U8 [a0] h R := by
  have e : vcFn ⟨prog, w0, 6, ks_codec_Reader_U8⟩ (drw w0 6) fn_codec_Reader_U8 [a0] R h = s_codec_Reader_U8 prog w0 a0 R h := by
    kernel_rfl
  exact acalls_of_eq (fn := fn_codec_Reader_U8) (ks := ks_codec_Reader_U8) (n := 6) (by kernel_rfl) (by kernel_rfl) (draw_ok (by kernel_rfl)) (by simp) hj e hv

abbrev fn_codec_Reader_U32 : Func := f106
def ks_codec_Reader_U32 : List (Nat × List Nat × List Nat) := []
def s_codec_Reader_U32 (P : Program) (w0 : World) (a0 : Value) (R : Kont) : Hp → Prop :=
 callA P w0 n_codec_Reader_read [a0, (.int .i64 4)] fun v4_1 =>
 pureA (convA .u32 v4_1) fun v5_2 =>
 retA [v5_2] R
theorem c_codec_Reader_U32 {w0 : World} {h : Hp} {R : Kont} {a0 : Value} (hj : ∀ v, v ∈ [a0] → v ≠ junk) (hv : s_codec_Reader_U32 prog w0 a0 R h) : ACalls prog w0 n_codec_Reader_U32 [a0] h R := by
  have e : vcFn ⟨prog, w0, 6, ks_codec_Reader_U32⟩ (drw w0 6) fn_codec_Reader_U32 [a0] R h = s_codec_Reader_U32 prog w0 a0 R h := by
    kernel_rfl
  exact acalls_of_eq (fn := fn_codec_Reader_U32) (ks := ks_codec_Reader_U32) (n := 6) (by kernel_rfl) (by kernel_rfl) (draw_ok (by kernel_rfl)) (by simp) hj e hv

abbrev fn_codec_Reader_Err : Func := f107
def ks_codec_Reader_Err : List (Nat × List Nat × List Nat) := []
def s_codec_Reader_Err (P : Program) (w0 : World) (a0 : Value) (R : Kont) : Hp → Prop :=
 pureA (binPtrA .eql a0 (.pointer none)) fun v4_1 =>
 condA v4_1 (
 retA [(.int .i64 6)] R) (
 nilA a0 fun v6_2 =>
 addA v6_2 1 fun v7_3 =>
 loadA w0 v7_3 fun v8_4 =>
 retA [v8_4] R)
theorem c_codec_Reader_Err {w0 : World} {h : Hp} {R : Kont} {a0 : Value} (hj : ∀ v, v ∈ [a0] → v ≠ junk) (hv : s_codec_Reader_Err prog w0 a0 R h) : ACalls prog w0 n_codec_Reader_Err [a0] h R := by
  have e : vcFn ⟨prog, w0, 9, ks_codec_Reader_Err⟩ (drw w0 9) fn_codec_Reader_Err [a0] R h = s_codec_Reader_Err prog w0 a0 R h := by
    kernel_rfl
  exact acalls_of_eq (fn := fn_codec_Reader_Err) (ks := ks_codec_Reader_Err) (n := 9) (by kernel_rfl) (by kernel_rfl) (draw_ok (by kernel_rfl)) (by simp) hj e hv

abbrev fn_codec_Reader_Varint : Func := f108
def ks_codec_Reader_Varint : List (Nat × List Nat × List Nat) := []
def s_codec_Reader_Varint (P : Program) (w0 : World) (a0 : Value) (R : Kont) : Hp → Prop :=
 pureA (binPtrA .eql a0 (.pointer none)) fun v7_1 =>
 guardA v7_1 false (fun K => K a0) fun v9_2 =>
 guardA v7_1 false (nilA v9_2) fun v10_3 =>
 guardA v7_1 false (addA v10_3 1) fun v11_4 =>
 guardA v7_1 false (loadA w0 v11_4) fun v12_5 =>
 guardA v7_1 false (pureA (binA .neq v12_5 (.int .i64 0))) fun v13_6 =>
 pickA v7_1 (.bool true) v13_6 fun v14_7 =>
 condA v14_7 (
 retA [(.int .u64 0)] R) (
 nilA a0 fun v17_8 =>
 addA v17_8 0 fun v18_9 =>
 loadA w0 v18_9 fun v19_10 =>
 callA P w0 n_codec_shape [v19_10] fun v20_11 =>
 pureA (extA v20_11 0) fun v21_12 =>
 pureA (extA v20_11 1) fun v22_13 =>
 pureA (extA v20_11 2) fun v23_14 =>
 pureA (binA .neq v23_14 (.int .i64 0)) fun v25_15 =>
 condA v25_15 (
 callA P w0 n_codec_Reader_fault [a0, v23_14] fun v28_16 =>
 retA [(.int .u64 0)] R) (
 nilA a0 fun v31_17 =>
 addA v31_17 0 fun v32_18 =>
 loadA w0 v32_18 fun v33_19 =>
 pureA (strSlA v33_19 (some v22_13) none) fun v35_20 =>
 nilA a0 fun v36_21 =>
 addA v36_21 0 fun v37_22 =>
 storeA w0 v37_22 v35_20 fun _ =>
 retA [v21_12] R))
theorem c_codec_Reader_Varint {w0 : World} {h : Hp} {R : Kont} {a0 : Value} (hj : ∀ v, v ∈ [a0] → v ≠ junk) (hv : s_codec_Reader_Varint prog w0 a0 R h) : ACalls prog w0 n_codec_Reader_Varint [a0] h R := by
  have e : vcFn ⟨prog, w0, 39, ks_codec_Reader_Varint⟩ (drw w0 39) fn_codec_Reader_Varint [a0] R h = s_codec_Reader_Varint prog w0 a0 R h := by
    kernel_rfl
  exact acalls_of_eq (fn := fn_codec_Reader_Varint) (ks := ks_codec_Reader_Varint) (n := 39) (by kernel_rfl) (by kernel_rfl) (draw_ok (by kernel_rfl)) (by simp) hj e hv

abbrev fn_codec_Writer_put : Func := f110
def ks_codec_Writer_put : List (Nat × List Nat × List Nat) := []
def s_codec_Writer_put (P : Program) (w0 : World) (a0 a1 : Value) (R : Kont) : Hp → Prop :=
 pureA (binPtrA .eql a0 (.pointer none)) fun v15_1 =>
 guardA v15_1 false (fun K => K a0) fun v17_2 =>
 guardA v15_1 false (nilA v17_2) fun v18_3 =>
 guardA v15_1 false (addA v18_3 2) fun v19_4 =>
 guardA v15_1 false (loadA w0 v19_4) fun v20_5 =>
 pickA v15_1 (.bool true) v20_5 fun v21_6 =>
 condA v21_6 (
 retA [] R) (
 pureQ (fun K => K a1) fun v23_7 =>
 pureQ (pureA (lenSl v23_7)) fun v24_8 =>
 pureQ (fun K => K a0) fun v25_9 =>
 pureQ (nilA v25_9) fun v26_10 =>
 pureQ (addA v26_10 0) fun v27_11 =>
 readQ (loadA w0 v27_11) fun v28_12 =>
 pureQ (fun K => K a0) fun v29_13 =>
 pureQ (nilA v29_13) fun v30_14 =>
 pureQ (addA v30_14 1) fun v31_15 =>
 readQ (loadA w0 v31_15) fun v32_16 =>
 pureQ (pureA (lenSl v32_16)) fun v33_17 =>
 pureQ (pureA (binA .sub v28_12 v33_17)) fun v34_18 =>
 pureQ (pureA (binA .gtr v24_8 v34_18)) fun v35_19 =>
 pureQ (fun K => K v35_19) fun v22_20 =>
 endA (
 condA v22_20 (
 nilA a0 fun v37_21 =>
 addA v37_21 2 fun v38_22 =>
 storeA w0 v38_22 (.bool true) fun _ =>
 retA [] R) (
 nilA a0 fun v6_23 =>
 addA v6_23 1 fun v7_24 =>
 loadA w0 v7_24 fun v8_25 =>
 appA w0 1 1 v8_25 a1 fun v10_26 =>
 nilA a0 fun v11_27 =>
 addA v11_27 1 fun v12_28 =>
 storeA w0 v12_28 v10_26 fun _ =>
 retA [] R)))
theorem c_codec_Writer_put {w0 : World} {h : Hp} {R : Kont} {a0 a1 : Value} (hj : ∀ v, v ∈ [a0, a1] → v ≠ junk) (hv : s_codec_Writer_put prog w0 a0 a1 R h) : ACalls prog w0 n_codec_Writer_put [a0, a1] h R := by
  have e : vcFn ⟨prog, w0, 39, ks_codec_Writer_put⟩ (drw w0 39) fn_codec_Writer_put [a0, a1] R h = s_codec_Writer_put prog w0 a0 a1 R h := by
    kernel_rfl
  exact acalls_of_eq (fn := fn_codec_Writer_put) (ks := ks_codec_Writer_put) (n := 39) (by kernel_rfl) (by kernel_rfl) (draw_ok (by kernel_rfl)) (by simp) hj e hv

abbrev fn_codec_varint : Func := f111
def ks_codec_varint : List (Nat × List Nat × List Nat) := [(2, [0, 3], [0, 3])]
def codec_varint_B1 (P : Program) (w0 : World) (R : Value → Value → Hp → Prop) (k0 : Value → Value → Hp → Prop) (x0 x3 : Value) : Hp → Prop :=
 pureA (binA .geq x0 (.int .u64 128)) fun v5_1 =>
 condA v5_1 (
 pureA (convA .u8 x0) fun v8_2 =>
 pureA (binA .or v8_2 (.int .u8 128)) fun v9_3 =>
 bslA [(0, 1, false, v9_3)] (zerosL [(.int .u8 0)] 1) 1 1 fun v10_4 =>
 appA w0 1 1 x3 v10_4 fun v11_5 =>
 pureA (binA .shr x0 (.int .u64 7)) fun v13_6 =>
 R v13_6 v11_5) (
 k0 x0 x3)
def codec_varint_L1 (P : Program) (w0 : World) (k0 : Value → Value → Hp → Prop) : Nat → Value → Value → Hp → Prop
  | 0, _, _ => fun _ => False
  | m + 1, x0, x3 => codec_varint_B1 P w0 (codec_varint_L1 P w0 k0 m) k0 x0 x3
def codec_varint_E1 (P : Program) (w0 : World) (k0 : Value → Value → Hp → Prop) (x0 x3 : Value) : Hp → Prop := fun h => ∃ m, codec_varint_L1 P w0 k0 m x0 x3 h
def s_codec_varint (P : Program) (w0 : World) (a0 : Value) (R : Kont) : Hp → Prop :=
 codec_varint_E1 P w0 (fun y0_7 y3_8 =>
 pureA (convA .u8 y0_7) fun v16_9 =>
 bslA [(0, 1, false, v16_9)] (zerosL [(.int .u8 0)] 1) 1 1 fun v17_10 =>
 appA w0 1 1 y3_8 v17_10 fun v18_11 =>
 retA [v18_11] R) a0 (.slice none 0 0)
theorem codec_varint_L1_eq (w0 : World) (k0 : Value → Value → Hp → Prop) : ∀ (m : Nat) (x0 x3 : Value) (h : Hp), loopA (stepL ⟨prog, w0, 19, ks_codec_varint⟩ (drw w0 19) (loopAt fn_codec_varint 0)) m (mkFr [(0, x0), (3, x3)]) [fun t => k0 (t 0) (t 3)] h = codec_varint_L1 prog w0 k0 m x0 x3 h := by
  intro m
  induction m with
  | zero => intros; kernel_rfl
  | succ m ih =>
    intro x0 x3 h
    have e : codec_varint_L1 prog w0 k0 m = fun x0 x3 h => loopA (stepL ⟨prog, w0, 19, ks_codec_varint⟩ (drw w0 19) (loopAt fn_codec_varint 0)) m (mkFr [(0, x0), (3, x3)]) [fun t => k0 (t 0) (t 3)] h := by funext x0 x3 h; exact (ih x0 x3 h).symm
    show _ = codec_varint_B1 prog w0 (codec_varint_L1 prog w0 k0 m) k0 x0 x3 h
    rw [e]
    kernel_rfl
theorem codec_varint_E1_eq (w0 : World) : codec_varint_E1 prog w0 = fun k0 x0 x3 h => ∃ m, loopA (stepL ⟨prog, w0, 19, ks_codec_varint⟩ (drw w0 19) (loopAt fn_codec_varint 0)) m (mkFr [(0, x0), (3, x3)]) [fun t => k0 (t 0) (t 3)] h := by
  funext k0 x0 x3 h
  exact congrArg Exists (funext fun m => (codec_varint_L1_eq w0 k0 m x0 x3 h).symm)
theorem c_codec_varint {w0 : World} {h : Hp} {R : Kont} {a0 : Value} (hj : ∀ v, v ∈ [a0] → v ≠ junk) (hv : s_codec_varint prog w0 a0 R h) : ACalls prog w0 n_codec_varint [a0] h R := by
  have e : vcFn ⟨prog, w0, 19, ks_codec_varint⟩ (drw w0 19) fn_codec_varint [a0] R h = s_codec_varint prog w0 a0 R h := by
    unfold s_codec_varint
    rw [codec_varint_E1_eq w0]
    kernel_rfl
  exact acalls_of_eq (fn := fn_codec_varint) (ks := ks_codec_varint) (n := 19) (by kernel_rfl) (by kernel_rfl) (draw_ok (by kernel_rfl)) (by simp) hj e hv

abbrev fn_codec_Writer_Raw : Func := f114
def ks_codec_Writer_Raw : List (Nat × List Nat × List Nat) := []
def s_codec_Writer_Raw (P : Program) (w0 : World) (a0 a1 : Value) (R : Kont) : Hp → Prop :=
 s2bA a1 fun v6_1 =>
 callA P w0 n_codec_Writer_put [a0, v6_1] fun v7_2 =>
 retA [] R
theorem c_codec_Writer_Raw {w0 : World} {h : Hp} {R : Kont} {a0 a1 : Value} (hj : ∀ v, v ∈ [a0, a1] → v ≠ junk) (hv : s_codec_Writer_Raw prog w0 a0 a1 R h) : ACalls prog w0 n_codec_Writer_Raw [a0, a1] h R := by
  have e : vcFn ⟨prog, w0, 8, ks_codec_Writer_Raw⟩ (drw w0 8) fn_codec_Writer_Raw [a0, a1] R h = s_codec_Writer_Raw prog w0 a0 a1 R h := by
    kernel_rfl
  exact acalls_of_eq (fn := fn_codec_Writer_Raw) (ks := ks_codec_Writer_Raw) (n := 8) (by kernel_rfl) (by kernel_rfl) (draw_ok (by kernel_rfl)) (by simp) hj e hv

abbrev fn_codec_Writer_U32 : Func := f116
def ks_codec_Writer_U32 : List (Nat × List Nat × List Nat) := []
def s_codec_Writer_U32 (P : Program) (w0 : World) (a0 a1 : Value) (R : Kont) : Hp → Prop :=
 callA P w0 n_codec_number_uint32 [a0, a1, (.int .i64 4)] fun v6_1 =>
 retA [] R
theorem c_codec_Writer_U32 {w0 : World} {h : Hp} {R : Kont} {a0 a1 : Value} (hj : ∀ v, v ∈ [a0, a1] → v ≠ junk) (hv : s_codec_Writer_U32 prog w0 a0 a1 R h) : ACalls prog w0 n_codec_Writer_U32 [a0, a1] h R := by
  have e : vcFn ⟨prog, w0, 7, ks_codec_Writer_U32⟩ (drw w0 7) fn_codec_Writer_U32 [a0, a1] R h = s_codec_Writer_U32 prog w0 a0 a1 R h := by
    kernel_rfl
  exact acalls_of_eq (fn := fn_codec_Writer_U32) (ks := ks_codec_Writer_U32) (n := 7) (by kernel_rfl) (by kernel_rfl) (draw_ok (by kernel_rfl)) (by simp) hj e hv

abbrev fn_codec_Writer_Text : Func := f134
def ks_codec_Writer_Text : List (Nat × List Nat × List Nat) := []
def s_codec_Writer_Text (P : Program) (w0 : World) (a0 a1 : Value) (R : Kont) : Hp → Prop :=
 pureA (lenStr a1) fun v6_1 =>
 pureA (convA .u64 v6_1) fun v7_2 =>
 callA P w0 n_codec_varint [v7_2] fun v8_3 =>
 appA w0 1 1 v8_3 a1 fun v10_4 =>
 callA P w0 n_codec_Writer_put [a0, v10_4] fun v11_5 =>
 retA [] R
theorem c_codec_Writer_Text {w0 : World} {h : Hp} {R : Kont} {a0 a1 : Value} (hj : ∀ v, v ∈ [a0, a1] → v ≠ junk) (hv : s_codec_Writer_Text prog w0 a0 a1 R h) : ACalls prog w0 n_codec_Writer_Text [a0, a1] h R := by
  have e : vcFn ⟨prog, w0, 12, ks_codec_Writer_Text⟩ (drw w0 12) fn_codec_Writer_Text [a0, a1] R h = s_codec_Writer_Text prog w0 a0 a1 R h := by
    kernel_rfl
  exact acalls_of_eq (fn := fn_codec_Writer_Text) (ks := ks_codec_Writer_Text) (n := 12) (by kernel_rfl) (by kernel_rfl) (draw_ok (by kernel_rfl)) (by simp) hj e hv

abbrev fn_codec_Reader_fault : Func := f146
def ks_codec_Reader_fault : List (Nat × List Nat × List Nat) := []
def s_codec_Reader_fault (P : Program) (w0 : World) (a0 a1 : Value) (R : Kont) : Hp → Prop :=
 nilA a0 fun v6_1 =>
 addA v6_1 1 fun v7_2 =>
 loadA w0 v7_2 fun v8_3 =>
 pureA (binA .eql v8_3 (.int .i64 0)) fun v9_4 =>
 condA v9_4 (
 nilA a0 fun v12_5 =>
 addA v12_5 1 fun v13_6 =>
 storeA w0 v13_6 a1 fun _ =>
 retA [(.string .empty)] R) (
 retA [(.string .empty)] R)
theorem c_codec_Reader_fault {w0 : World} {h : Hp} {R : Kont} {a0 a1 : Value} (hj : ∀ v, v ∈ [a0, a1] → v ≠ junk) (hv : s_codec_Reader_fault prog w0 a0 a1 R h) : ACalls prog w0 n_codec_Reader_fault [a0, a1] h R := by
  have e : vcFn ⟨prog, w0, 14, ks_codec_Reader_fault⟩ (drw w0 14) fn_codec_Reader_fault [a0, a1] R h = s_codec_Reader_fault prog w0 a0 a1 R h := by
    kernel_rfl
  exact acalls_of_eq (fn := fn_codec_Reader_fault) (ks := ks_codec_Reader_fault) (n := 14) (by kernel_rfl) (by kernel_rfl) (draw_ok (by kernel_rfl)) (by simp) hj e hv

abbrev fn_codec_Reader_read : Func := f147
def ks_codec_Reader_read : List (Nat × List Nat × List Nat) := [(3, [5, 11, 12, 13], [5])]
def codec_Reader_read_B1 (P : Program) (w0 : World) (R : Value → Value → Value → Value → Hp → Prop) (k0 : Value → Hp → Prop) (x5 x11 x12 x13 : Value) : Hp → Prop :=
 pureA (binA .lss x13 x12) fun v14_4 =>
 condA v14_4 (
 idxSlA 1 x11 x13 fun v15_5 =>
 loadA w0 v15_5 fun v16_6 =>
 pureA (binA .shl x5 (.int .u64 8)) fun v18_7 =>
 pureA (convA .u64 v16_6) fun v20_8 =>
 pureA (binA .or v18_7 v20_8) fun v21_9 =>
 pureA (binA .add x13 (.int .i64 1)) fun v22_10 =>
 R v21_9 x11 x12 v22_10) (
 k0 x5)
def codec_Reader_read_L1 (P : Program) (w0 : World) (k0 : Value → Hp → Prop) : Nat → Value → Value → Value → Value → Hp → Prop
  | 0, _, _, _, _ => fun _ => False
  | m + 1, x5, x11, x12, x13 => codec_Reader_read_B1 P w0 (codec_Reader_read_L1 P w0 k0 m) k0 x5 x11 x12 x13
def codec_Reader_read_E1 (P : Program) (w0 : World) (k0 : Value → Hp → Prop) (x5 x11 x12 x13 : Value) : Hp → Prop := fun h => ∃ m, codec_Reader_read_L1 P w0 k0 m x5 x11 x12 x13 h
def s_codec_Reader_read (P : Program) (w0 : World) (a0 a1 : Value) (R : Kont) : Hp → Prop :=
 callA P w0 n_codec_Reader_Raw [a0, a1] fun v10_1 =>
 s2bA v10_1 fun v11_2 =>
 pureA (lenSl v11_2) fun v12_3 =>
 codec_Reader_read_E1 P w0 (fun y5_11 =>
 retA [y5_11] R) (.int .u64 0) v11_2 v12_3 (.int .i64 0)
theorem codec_Reader_read_L1_eq (w0 : World) (k0 : Value → Hp → Prop) : ∀ (m : Nat) (x5 x11 x12 x13 : Value) (h : Hp), loopA (stepL ⟨prog, w0, 24, ks_codec_Reader_read⟩ (drw w0 24) (loopAt fn_codec_Reader_read 0)) m (mkFr [(5, x5), (11, x11), (12, x12), (13, x13)]) [fun t => k0 (t 5)] h = codec_Reader_read_L1 prog w0 k0 m x5 x11 x12 x13 h := by
  intro m
  induction m with
  | zero => intros; kernel_rfl
  | succ m ih =>
    intro x5 x11 x12 x13 h
    have e : codec_Reader_read_L1 prog w0 k0 m = fun x5 x11 x12 x13 h => loopA (stepL ⟨prog, w0, 24, ks_codec_Reader_read⟩ (drw w0 24) (loopAt fn_codec_Reader_read 0)) m (mkFr [(5, x5), (11, x11), (12, x12), (13, x13)]) [fun t => k0 (t 5)] h := by funext x5 x11 x12 x13 h; exact (ih x5 x11 x12 x13 h).symm
    show _ = codec_Reader_read_B1 prog w0 (codec_Reader_read_L1 prog w0 k0 m) k0 x5 x11 x12 x13 h
    rw [e]
    kernel_rfl
theorem codec_Reader_read_E1_eq (w0 : World) : codec_Reader_read_E1 prog w0 = fun k0 x5 x11 x12 x13 h => ∃ m, loopA (stepL ⟨prog, w0, 24, ks_codec_Reader_read⟩ (drw w0 24) (loopAt fn_codec_Reader_read 0)) m (mkFr [(5, x5), (11, x11), (12, x12), (13, x13)]) [fun t => k0 (t 5)] h := by
  funext k0 x5 x11 x12 x13 h
  exact congrArg Exists (funext fun m => (codec_Reader_read_L1_eq w0 k0 m x5 x11 x12 x13 h).symm)
theorem c_codec_Reader_read {w0 : World} {h : Hp} {R : Kont} {a0 a1 : Value} (hj : ∀ v, v ∈ [a0, a1] → v ≠ junk) (hv : s_codec_Reader_read prog w0 a0 a1 R h) : ACalls prog w0 n_codec_Reader_read [a0, a1] h R := by
  have e : vcFn ⟨prog, w0, 24, ks_codec_Reader_read⟩ (drw w0 24) fn_codec_Reader_read [a0, a1] R h = s_codec_Reader_read prog w0 a0 a1 R h := by
    unfold s_codec_Reader_read
    rw [codec_Reader_read_E1_eq w0]
    kernel_rfl
  exact acalls_of_eq (fn := fn_codec_Reader_read) (ks := ks_codec_Reader_read) (n := 24) (by kernel_rfl) (by kernel_rfl) (draw_ok (by kernel_rfl)) (by simp) hj e hv

abbrev fn_codec_shape : Func := f148
def ks_codec_shape : List (Nat × List Nat × List Nat) := [(2, [0, 2, 3, 4, 8, 9], [2, 3, 4])]
def codec_shape_B1 (P : Program) (w0 : World) (R : Value → Value → Value → Value → Value → Value → Hp → Prop) (k0 : Value → Value → Value → Hp → Prop) (kr : Value → Value → Value → Hp → Prop) (x0 x2 x3 x4 x8 x9 : Value) : Hp → Prop :=
 pureA (binA .lss x9 x8) fun v10_2 =>
 condA v10_2 (
 pureA (strIdxA x0 x9) fun v14_3 =>
 pureA (binA .eql x9 (.int .i64 9)) fun v16_4 =>
 guardA v16_4 true (fun K => K v14_3) fun v18_5 =>
 guardA v16_4 true (pureA (binA .neq v18_5 (.int .u8 1))) fun v19_6 =>
 pickA v16_4 v19_6 (.bool false) fun v20_7 =>
 condA v20_7 (
 kr (.int .u64 0) (.int .i64 0) (.int .i64 21)) (
 pureA (binA .and v14_3 (.int .u8 127)) fun v23_8 =>
 pureA (convA .u64 v23_8) fun v24_9 =>
 pureA (binA .mul (.int .i64 7) x9) fun v26_10 =>
 pureA (binA .shl v24_9 v26_10) fun v27_11 =>
 pureA (binA .or x2 v27_11) fun v28_12 =>
 pureA (binA .lss v14_3 (.int .u8 128)) fun v30_13 =>
 condA v30_13 (
 pureA (binA .eql v14_3 (.int .u8 0)) fun v32_14 =>
 guardA v32_14 true (fun K => K x9) fun v34_15 =>
 guardA v32_14 true (pureA (binA .gtr v34_15 (.int .i64 0))) fun v35_16 =>
 pickA v32_14 v35_16 (.bool false) fun v36_17 =>
 condA v36_17 (
 kr (.int .u64 0) (.int .i64 0) (.int .i64 21)) (
 pureA (binA .add x9 (.int .i64 1)) fun v39_18 =>
 kr v28_12 v39_18 (.int .i64 0))) (
 pureA (binA .add x9 (.int .i64 1)) fun v40_19 =>
 R x0 v28_12 x3 x4 x8 v40_19))) (
 k0 x2 x3 x4)
def codec_shape_L1 (P : Program) (w0 : World) (k0 : Value → Value → Value → Hp → Prop) (kr : Value → Value → Value → Hp → Prop) : Nat → Value → Value → Value → Value → Value → Value → Hp → Prop
  | 0, _, _, _, _, _, _ => fun _ => False
  | m + 1, x0, x2, x3, x4, x8, x9 => codec_shape_B1 P w0 (codec_shape_L1 P w0 k0 kr m) k0 kr x0 x2 x3 x4 x8 x9
def codec_shape_E1 (P : Program) (w0 : World) (k0 : Value → Value → Value → Hp → Prop) (kr : Value → Value → Value → Hp → Prop) (x0 x2 x3 x4 x8 x9 : Value) : Hp → Prop := fun h => ∃ m, codec_shape_L1 P w0 k0 kr m x0 x2 x3 x4 x8 x9 h
def s_codec_shape (P : Program) (w0 : World) (a0 : Value) (R : Kont) : Hp → Prop :=
 pureA (lenStr a0) fun v8_1 =>
 codec_shape_E1 P w0 (fun y2_20 y3_21 y4_22 =>
 retA [(.int .u64 0), (.int .i64 0), (.int .i64 20)] R) (fun y2_23 y3_24 y4_25 =>
 retA [y2_23, y3_24, y4_25] R) a0 (.int .u64 0) (.int .i64 0) (.int .i64 0) v8_1 (.int .i64 0)
theorem codec_shape_L1_eq (w0 : World) (k0 : Value → Value → Value → Hp → Prop) (kr : Value → Value → Value → Hp → Prop) : ∀ (m : Nat) (x0 x2 x3 x4 x8 x9 : Value) (h : Hp), loopA (stepL ⟨prog, w0, 41, ks_codec_shape⟩ (drw w0 41) (loopAt fn_codec_shape 0)) m (mkFr [(0, x0), (2, x2), (3, x3), (4, x4), (8, x8), (9, x9)]) [fun t => k0 (t 2) (t 3) (t 4), fun t => kr (t 2) (t 3) (t 4)] h = codec_shape_L1 prog w0 k0 kr m x0 x2 x3 x4 x8 x9 h := by
  intro m
  induction m with
  | zero => intros; kernel_rfl
  | succ m ih =>
    intro x0 x2 x3 x4 x8 x9 h
    have e : codec_shape_L1 prog w0 k0 kr m = fun x0 x2 x3 x4 x8 x9 h => loopA (stepL ⟨prog, w0, 41, ks_codec_shape⟩ (drw w0 41) (loopAt fn_codec_shape 0)) m (mkFr [(0, x0), (2, x2), (3, x3), (4, x4), (8, x8), (9, x9)]) [fun t => k0 (t 2) (t 3) (t 4), fun t => kr (t 2) (t 3) (t 4)] h := by funext x0 x2 x3 x4 x8 x9 h; exact (ih x0 x2 x3 x4 x8 x9 h).symm
    show _ = codec_shape_B1 prog w0 (codec_shape_L1 prog w0 k0 kr m) k0 kr x0 x2 x3 x4 x8 x9 h
    rw [e]
    kernel_rfl
theorem codec_shape_E1_eq (w0 : World) : codec_shape_E1 prog w0 = fun k0 kr x0 x2 x3 x4 x8 x9 h => ∃ m, loopA (stepL ⟨prog, w0, 41, ks_codec_shape⟩ (drw w0 41) (loopAt fn_codec_shape 0)) m (mkFr [(0, x0), (2, x2), (3, x3), (4, x4), (8, x8), (9, x9)]) [fun t => k0 (t 2) (t 3) (t 4), fun t => kr (t 2) (t 3) (t 4)] h := by
  funext k0 kr x0 x2 x3 x4 x8 x9 h
  exact congrArg Exists (funext fun m => (codec_shape_L1_eq w0 k0 kr m x0 x2 x3 x4 x8 x9 h).symm)
theorem c_codec_shape {w0 : World} {h : Hp} {R : Kont} {a0 : Value} (hj : ∀ v, v ∈ [a0] → v ≠ junk) (hv : s_codec_shape prog w0 a0 R h) : ACalls prog w0 n_codec_shape [a0] h R := by
  have e : vcFn ⟨prog, w0, 41, ks_codec_shape⟩ (drw w0 41) fn_codec_shape [a0] R h = s_codec_shape prog w0 a0 R h := by
    unfold s_codec_shape
    rw [codec_shape_E1_eq w0]
    kernel_rfl
  exact acalls_of_eq (fn := fn_codec_shape) (ks := ks_codec_shape) (n := 41) (by kernel_rfl) (by kernel_rfl) (draw_ok (by kernel_rfl)) (by simp) hj e hv

abbrev fn_codec_number_uint32 : Func := f150
def ks_codec_number_uint32 : List (Nat × List Nat × List Nat) := [(2, [0, 1, 2, 6, 11, 12], [0, 6])]
def codec_number_uint32_B1 (P : Program) (w0 : World) (R : Value → Value → Value → Value → Value → Value → Hp → Prop) (k0 : Value → Value → Hp → Prop) (x0 x1 x2 x6 x11 x12 : Value) : Hp → Prop :=
 pureA (binA .lss x12 x11) fun v13_3 =>
 condA v13_3 (
 pureA (binA .sub x2 (.int .i64 1)) fun v17_4 =>
 pureA (binA .sub v17_4 x12) fun v19_5 =>
 pureA (convA .u8 x1) fun v21_6 =>
 idxSlA 1 x6 v19_5 fun v22_7 =>
 storeA w0 v22_7 v21_6 fun _ =>
 pureA (binA .shr x1 (.int .u64 4)) fun v24_8 =>
 pureA (binA .shr v24_8 (.int .u64 4)) fun v26_9 =>
 pureA (binA .add x12 (.int .i64 1)) fun v27_10 =>
 R x0 v26_9 x2 x6 x11 v27_10) (
 k0 x0 x6)
def codec_number_uint32_L1 (P : Program) (w0 : World) (k0 : Value → Value → Hp → Prop) : Nat → Value → Value → Value → Value → Value → Value → Hp → Prop
  | 0, _, _, _, _, _, _ => fun _ => False
  | m + 1, x0, x1, x2, x6, x11, x12 => codec_number_uint32_B1 P w0 (codec_number_uint32_L1 P w0 k0 m) k0 x0 x1 x2 x6 x11 x12
def codec_number_uint32_E1 (P : Program) (w0 : World) (k0 : Value → Value → Hp → Prop) (x0 x1 x2 x6 x11 x12 : Value) : Hp → Prop := fun h => ∃ m, codec_number_uint32_L1 P w0 k0 m x0 x1 x2 x6 x11 x12 h
def s_codec_number_uint32 (P : Program) (w0 : World) (a0 a1 a2 : Value) (R : Kont) : Hp → Prop :=
 mkA 1 1 [(.int .u8 0)] a2 a2 fun v9_1 =>
 pureA (lenSl v9_1) fun v11_2 =>
 codec_number_uint32_E1 P w0 (fun y0_11 y6_12 =>
 callA P w0 n_codec_Writer_put [y0_11, y6_12] fun v30_13 =>
 retA [] R) a0 a1 a2 v9_1 v11_2 (.int .i64 0)
theorem codec_number_uint32_L1_eq (w0 : World) (k0 : Value → Value → Hp → Prop) : ∀ (m : Nat) (x0 x1 x2 x6 x11 x12 : Value) (h : Hp), loopA (stepL ⟨prog, w0, 31, ks_codec_number_uint32⟩ (drw w0 31) (loopAt fn_codec_number_uint32 0)) m (mkFr [(0, x0), (1, x1), (2, x2), (6, x6), (11, x11), (12, x12)]) [fun t => k0 (t 0) (t 6)] h = codec_number_uint32_L1 prog w0 k0 m x0 x1 x2 x6 x11 x12 h := by
  intro m
  induction m with
  | zero => intros; kernel_rfl
  | succ m ih =>
    intro x0 x1 x2 x6 x11 x12 h
    have e : codec_number_uint32_L1 prog w0 k0 m = fun x0 x1 x2 x6 x11 x12 h => loopA (stepL ⟨prog, w0, 31, ks_codec_number_uint32⟩ (drw w0 31) (loopAt fn_codec_number_uint32 0)) m (mkFr [(0, x0), (1, x1), (2, x2), (6, x6), (11, x11), (12, x12)]) [fun t => k0 (t 0) (t 6)] h := by funext x0 x1 x2 x6 x11 x12 h; exact (ih x0 x1 x2 x6 x11 x12 h).symm
    show _ = codec_number_uint32_B1 prog w0 (codec_number_uint32_L1 prog w0 k0 m) k0 x0 x1 x2 x6 x11 x12 h
    rw [e]
    kernel_rfl
theorem codec_number_uint32_E1_eq (w0 : World) : codec_number_uint32_E1 prog w0 = fun k0 x0 x1 x2 x6 x11 x12 h => ∃ m, loopA (stepL ⟨prog, w0, 31, ks_codec_number_uint32⟩ (drw w0 31) (loopAt fn_codec_number_uint32 0)) m (mkFr [(0, x0), (1, x1), (2, x2), (6, x6), (11, x11), (12, x12)]) [fun t => k0 (t 0) (t 6)] h := by
  funext k0 x0 x1 x2 x6 x11 x12 h
  exact congrArg Exists (funext fun m => (codec_number_uint32_L1_eq w0 k0 m x0 x1 x2 x6 x11 x12 h).symm)
theorem c_codec_number_uint32 {w0 : World} {h : Hp} {R : Kont} {a0 a1 a2 : Value} (hj : ∀ v, v ∈ [a0, a1, a2] → v ≠ junk) (hv : s_codec_number_uint32 prog w0 a0 a1 a2 R h) : ACalls prog w0 n_codec_number_uint32 [a0, a1, a2] h R := by
  have e : vcFn ⟨prog, w0, 31, ks_codec_number_uint32⟩ (drw w0 31) fn_codec_number_uint32 [a0, a1, a2] R h = s_codec_number_uint32 prog w0 a0 a1 a2 R h := by
    unfold s_codec_number_uint32
    rw [codec_number_uint32_E1_eq w0]
    kernel_rfl
  exact acalls_of_eq (fn := fn_codec_number_uint32) (ks := ks_codec_number_uint32) (n := 31) (by kernel_rfl) (by kernel_rfl) (draw_ok (by kernel_rfl)) (by simp) hj e hv

abbrev fn_codec_Reader_Text : Func := f159
def ks_codec_Reader_Text : List (Nat × List Nat × List Nat) := []
def s_codec_Reader_Text (P : Program) (w0 : World) (a0 : Value) (R : Kont) : Hp → Prop :=
 callA P w0 n_codec_Reader_Varint [a0] fun v5_1 =>
 pureA (binPtrA .eql a0 (.pointer none)) fun v7_2 =>
 guardA v7_2 false (fun K => K a0) fun v9_3 =>
 guardA v7_2 false (nilA v9_3) fun v10_4 =>
 guardA v7_2 false (addA v10_4 1) fun v11_5 =>
 guardA v7_2 false (loadA w0 v11_5) fun v12_6 =>
 guardA v7_2 false (pureA (binA .neq v12_6 (.int .i64 0))) fun v13_7 =>
 pickA v7_2 (.bool true) v13_7 fun v14_8 =>
 condA v14_8 (
 retA [(.string .empty)] R) (
 nilA a0 fun v17_9 =>
 addA v17_9 0 fun v18_10 =>
 loadA w0 v18_10 fun v19_11 =>
 pureA (lenStr v19_11) fun v20_12 =>
 pureA (convA .u64 v20_12) fun v21_13 =>
 pureA (binA .gtr v5_1 v21_13) fun v22_14 =>
 condA v22_14 (
 callA P w0 n_codec_Reader_fault [a0, (.int .i64 20)] fun v24_15 =>
 retA [v24_15] R) (
 pureA (convA .i64 v5_1) fun v27_16 =>
 callA P w0 n_codec_Reader_Raw [a0, v27_16] fun v28_17 =>
 retA [v28_17] R))
theorem c_codec_Reader_Text {w0 : World} {h : Hp} {R : Kont} {a0 : Value} (hj : ∀ v, v ∈ [a0] → v ≠ junk) (hv : s_codec_Reader_Text prog w0 a0 R h) : ACalls prog w0 n_codec_Reader_Text [a0] h R := by
  have e : vcFn ⟨prog, w0, 29, ks_codec_Reader_Text⟩ (drw w0 29) fn_codec_Reader_Text [a0] R h = s_codec_Reader_Text prog w0 a0 R h := by
    kernel_rfl
  exact acalls_of_eq (fn := fn_codec_Reader_Text) (ks := ks_codec_Reader_Text) (n := 29) (by kernel_rfl) (by kernel_rfl) (draw_ok (by kernel_rfl)) (by simp) hj e hv

abbrev fn_codec_Reader_Left : Func := f171
def ks_codec_Reader_Left : List (Nat × List Nat × List Nat) := []
def s_codec_Reader_Left (P : Program) (w0 : World) (a0 : Value) (R : Kont) : Hp → Prop :=
 pureA (binPtrA .eql a0 (.pointer none)) fun v4_1 =>
 guardA v4_1 false (fun K => K a0) fun v6_2 =>
 guardA v4_1 false (nilA v6_2) fun v7_3 =>
 guardA v4_1 false (addA v7_3 1) fun v8_4 =>
 guardA v4_1 false (loadA w0 v8_4) fun v9_5 =>
 guardA v4_1 false (pureA (binA .neq v9_5 (.int .i64 0))) fun v10_6 =>
 pickA v4_1 (.bool true) v10_6 fun v11_7 =>
 condA v11_7 (
 retA [(.int .i64 0)] R) (
 nilA a0 fun v13_8 =>
 addA v13_8 0 fun v14_9 =>
 loadA w0 v14_9 fun v15_10 =>
 pureA (lenStr v15_10) fun v16_11 =>
 retA [v16_11] R)
theorem c_codec_Reader_Left {w0 : World} {h : Hp} {R : Kont} {a0 : Value} (hj : ∀ v, v ∈ [a0] → v ≠ junk) (hv : s_codec_Reader_Left prog w0 a0 R h) : ACalls prog w0 n_codec_Reader_Left [a0] h R := by
  have e : vcFn ⟨prog, w0, 17, ks_codec_Reader_Left⟩ (drw w0 17) fn_codec_Reader_Left [a0] R h = s_codec_Reader_Left prog w0 a0 R h := by
    kernel_rfl
  exact acalls_of_eq (fn := fn_codec_Reader_Left) (ks := ks_codec_Reader_Left) (n := 17) (by kernel_rfl) (by kernel_rfl) (draw_ok (by kernel_rfl)) (by simp) hj e hv

end
end Go.Proofs.YtfmoemconapmhaaGreat.Ah
