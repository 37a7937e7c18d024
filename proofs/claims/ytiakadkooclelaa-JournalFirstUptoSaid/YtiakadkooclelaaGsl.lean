/- PRINTED by wip/tools/shallow.py: functions of the program as readable words, and that each is what its text says. -/
import Derived.Test.YtiakadkooclelaaGn
set_option linter.unusedVariables false
set_option linter.unusedSimpArgs false
namespace Go.Proofs.Ytiakadkooclelaa.Ah
open Go Go.Proofs.Try
noncomputable section

abbrev fn_slices_Chunk_lbyte_byte : Func := f51
def ks_slices_Chunk_lbyte_byte : List (Nat × List Nat × List Nat) := []
def s_slices_Chunk_lbyte_byte (P : Program) (w0 : World) (a0 a1 : Value) (R : Kont) : Hp → Prop :=
 boxA false 1 a0 fun v2_1 =>
 boxA false 1 a1 fun v3_2 =>
 loadA w0 v3_2 fun v5_3 =>
 pureA (binA .lss v5_3 (.int .i64 1)) fun v6_4 =>
 condA v6_4 (
 noA (fun _ _ => True)) (
 mkFnA n_slices_Chunk_lbyte_byte_S1 [] [v2_1, v3_2] fun v8_5 =>
 retA [v8_5] R)
theorem c_slices_Chunk_lbyte_byte {w0 : World} {h : Hp} {R : Kont} {a0 a1 : Value} (hj : ∀ v, v ∈ [a0, a1] → v ≠ junk) (hv : s_slices_Chunk_lbyte_byte prog w0 a0 a1 R h) : ACalls prog w0 n_slices_Chunk_lbyte_byte [a0, a1] h R :=
  c_of fn_slices_Chunk_lbyte_byte ks_slices_Chunk_lbyte_byte 9 (by kernel_rfl) (by kernel_rfl) (by simp) hj (by
    kernel_rfl) hv

abbrev fn_slices_Chunk_lbyte_byte_S1 : Func := f58
def ks_slices_Chunk_lbyte_byte_S1 : List (Nat × List Nat × List Nat) := [(1, [0, 1, 2, 4], [])]
def slices_Chunk_lbyte_byte_S1_B1 (P : Program) (w0 : World) (R : Value → Value → Value → Value → Hp → Prop) (k0 : Hp → Prop) (kr : Hp → Prop) (x0 x1 x2 x4 : Value) : Hp → Prop :=
 loadA w0 x1 fun v7_1 =>
 pureA (lenSl v7_1) fun v8_2 =>
 pureA (binA .lss x4 v8_2) fun v9_3 =>
 condA v9_3 (
 readQ (loadA w0 x2) fun v13_4 =>
 readQ (loadA w0 x1) fun v14_5 =>
 pureQ (fun K => K x4) fun v15_6 =>
 readQ (slSlA 1 v14_5 (some v15_6) none none) fun v16_7 =>
 pureQ (pureA (lenSl v16_7)) fun v17_8 =>
 pureQ (pureA (foldA min2A v13_4 [v17_8])) fun v18_9 =>
 pureQ (fun K => K v18_9) fun v5_10 =>
 endA (
 loadA w0 x1 fun v20_11 =>
 pureA (binA .add x4 v5_10) fun v24_12 =>
 pureA (binA .add x4 v5_10) fun v27_13 =>
 slSlA 1 v20_11 (some x4) (some v24_12) (some v27_13) fun v28_14 =>
 callVA P w0 x0 [v28_14] fun v29_15 =>
 pureA (unA .not v29_15) fun v30_16 =>
 condA v30_16 (
 kr) (
 loadA w0 x2 fun v11_17 =>
 pureA (binA .add x4 v11_17) fun v12_18 =>
 R x0 x1 x2 v12_18))) (
 k0)
def slices_Chunk_lbyte_byte_S1_L1 (P : Program) (w0 : World) (k0 : Hp → Prop) (kr : Hp → Prop) : Nat → Value → Value → Value → Value → Hp → Prop
  | 0, _, _, _, _ => fun _ => False
  | m + 1, x0, x1, x2, x4 => slices_Chunk_lbyte_byte_S1_B1 P w0 (slices_Chunk_lbyte_byte_S1_L1 P w0 k0 kr m) k0 kr x0 x1 x2 x4
def slices_Chunk_lbyte_byte_S1_E1 (P : Program) (w0 : World) (k0 : Hp → Prop) (kr : Hp → Prop) (x0 x1 x2 x4 : Value) : Hp → Prop := fun h => ∃ m, slices_Chunk_lbyte_byte_S1_L1 P w0 k0 kr m x0 x1 x2 x4 h
def s_slices_Chunk_lbyte_byte_S1 (P : Program) (w0 : World) (a0 a1 a2 : Value) (R : Kont) : Hp → Prop :=
 slices_Chunk_lbyte_byte_S1_E1 P w0 (
 retA [] R) (
 retA [] R) a0 a1 a2 (.int .i64 0)
def slices_Chunk_lbyte_byte_S1_F1 (w0 : World) (k0 : Hp → Prop) (kr : Hp → Prop) (m : Nat) (x0 x1 x2 x4 : Value) : Hp → Prop := loopA (stepL ⟨prog, w0, 31, ks_slices_Chunk_lbyte_byte_S1⟩ (drw w0 31) (loopAt fn_slices_Chunk_lbyte_byte_S1 0)) m (mkFr [(0, x0), (1, x1), (2, x2), (4, x4)]) [fun t => k0, fun t => kr]
theorem slices_Chunk_lbyte_byte_S1_L1_eq (w0 : World) (k0 : Hp → Prop) (kr : Hp → Prop) : ∀ m, slices_Chunk_lbyte_byte_S1_F1 w0 k0 kr m = slices_Chunk_lbyte_byte_S1_L1 prog w0 k0 kr m := by
  intro m
  induction m with
  | zero => kernel_rfl
  | succ m ih =>
    show _ = fun x0 x1 x2 x4 => slices_Chunk_lbyte_byte_S1_B1 prog w0 (slices_Chunk_lbyte_byte_S1_L1 prog w0 k0 kr m) k0 kr x0 x1 x2 x4
    rw [← ih]
    kernel_rfl
theorem slices_Chunk_lbyte_byte_S1_E1_eq (w0 : World) : slices_Chunk_lbyte_byte_S1_E1 prog w0 = fun k0 kr x0 x1 x2 x4 h => ∃ m, slices_Chunk_lbyte_byte_S1_F1 w0 k0 kr m x0 x1 x2 x4 h := by
  funext k0 kr x0 x1 x2 x4 h
  simp only [slices_Chunk_lbyte_byte_S1_L1_eq]
  rfl
theorem c_slices_Chunk_lbyte_byte_S1 {w0 : World} {h : Hp} {R : Kont} {a0 a1 a2 : Value} (hj : ∀ v, v ∈ [a0, a1, a2] → v ≠ junk) (hv : s_slices_Chunk_lbyte_byte_S1 prog w0 a0 a1 a2 R h) : ACalls prog w0 n_slices_Chunk_lbyte_byte_S1 [a0, a1, a2] h R :=
  c_of fn_slices_Chunk_lbyte_byte_S1 ks_slices_Chunk_lbyte_byte_S1 31 (by kernel_rfl) (by kernel_rfl) (by simp) hj (by
    unfold s_slices_Chunk_lbyte_byte_S1
    rw [slices_Chunk_lbyte_byte_S1_E1_eq w0]
    kernel_rfl) hv

abbrev fn_slices_Equal_lbyte_byte : Func := f59
def ks_slices_Equal_lbyte_byte : List (Nat × List Nat × List Nat) := [(4, [0, 1, 4, 12, 13], [4])]
def slices_Equal_lbyte_byte_B1 (P : Program) (w0 : World) (R : Value → Value → Value → Value → Value → Hp → Prop) (k0 : Value → Hp → Prop) (kr : Value → Hp → Prop) (x0 x1 x4 x12 x13 : Value) : Hp → Prop :=
 pureA (binA .lss x13 x12) fun v14_5 =>
 condA v14_5 (
 pureQ (fun K => K x0) fun v16_6 =>
 pureQ (fun K => K x13) fun v17_7 =>
 pureQ (idxSlA 1 v16_6 v17_7) fun v18_8 =>
 readQ (loadA w0 v18_8) fun v19_9 =>
 pureQ (fun K => K x1) fun v20_10 =>
 pureQ (fun K => K x13) fun v21_11 =>
 pureQ (idxSlA 1 v20_10 v21_11) fun v22_12 =>
 readQ (loadA w0 v22_12) fun v23_13 =>
 pureQ (pureA (binA .neq v19_9 v23_13)) fun v24_14 =>
 endA (
 condA v24_14 (
 kr (.bool false)) (
 pureA (binA .add x13 (.int .i64 1)) fun v25_15 =>
 R x0 x1 x4 x12 v25_15))) (
 k0 x4)
def slices_Equal_lbyte_byte_L1 (P : Program) (w0 : World) (k0 : Value → Hp → Prop) (kr : Value → Hp → Prop) : Nat → Value → Value → Value → Value → Value → Hp → Prop
  | 0, _, _, _, _, _ => fun _ => False
  | m + 1, x0, x1, x4, x12, x13 => slices_Equal_lbyte_byte_B1 P w0 (slices_Equal_lbyte_byte_L1 P w0 k0 kr m) k0 kr x0 x1 x4 x12 x13
def slices_Equal_lbyte_byte_E1 (P : Program) (w0 : World) (k0 : Value → Hp → Prop) (kr : Value → Hp → Prop) (x0 x1 x4 x12 x13 : Value) : Hp → Prop := fun h => ∃ m, slices_Equal_lbyte_byte_L1 P w0 k0 kr m x0 x1 x4 x12 x13 h
def s_slices_Equal_lbyte_byte (P : Program) (w0 : World) (a0 a1 : Value) (R : Kont) : Hp → Prop :=
 pureA (lenSl a0) fun v7_1 =>
 pureA (lenSl a1) fun v9_2 =>
 pureA (binA .neq v7_1 v9_2) fun v10_3 =>
 condA v10_3 (
 retA [(.bool false)] R) (
 pureA (lenSl a0) fun v12_4 =>
 slices_Equal_lbyte_byte_E1 P w0 (fun y4_16 =>
 retA [(.bool true)] R) (fun y4_17 =>
 retA [y4_17] R) a0 a1 (.bool false) v12_4 (.int .i64 0))
def slices_Equal_lbyte_byte_F1 (w0 : World) (k0 : Value → Hp → Prop) (kr : Value → Hp → Prop) (m : Nat) (x0 x1 x4 x12 x13 : Value) : Hp → Prop := loopA (stepL ⟨prog, w0, 26, ks_slices_Equal_lbyte_byte⟩ (drw w0 26) (loopAt fn_slices_Equal_lbyte_byte 0)) m (mkFr [(0, x0), (1, x1), (4, x4), (12, x12), (13, x13)]) [fun t => k0 (t 4), fun t => kr (t 4)]
theorem slices_Equal_lbyte_byte_L1_eq (w0 : World) (k0 : Value → Hp → Prop) (kr : Value → Hp → Prop) : ∀ m, slices_Equal_lbyte_byte_F1 w0 k0 kr m = slices_Equal_lbyte_byte_L1 prog w0 k0 kr m := by
  intro m
  induction m with
  | zero => kernel_rfl
  | succ m ih =>
    show _ = fun x0 x1 x4 x12 x13 => slices_Equal_lbyte_byte_B1 prog w0 (slices_Equal_lbyte_byte_L1 prog w0 k0 kr m) k0 kr x0 x1 x4 x12 x13
    rw [← ih]
    kernel_rfl
theorem slices_Equal_lbyte_byte_E1_eq (w0 : World) : slices_Equal_lbyte_byte_E1 prog w0 = fun k0 kr x0 x1 x4 x12 x13 h => ∃ m, slices_Equal_lbyte_byte_F1 w0 k0 kr m x0 x1 x4 x12 x13 h := by
  funext k0 kr x0 x1 x4 x12 x13 h
  simp only [slices_Equal_lbyte_byte_L1_eq]
  rfl
theorem c_slices_Equal_lbyte_byte {w0 : World} {h : Hp} {R : Kont} {a0 a1 : Value} (hj : ∀ v, v ∈ [a0, a1] → v ≠ junk) (hv : s_slices_Equal_lbyte_byte prog w0 a0 a1 R h) : ACalls prog w0 n_slices_Equal_lbyte_byte [a0, a1] h R :=
  c_of fn_slices_Equal_lbyte_byte ks_slices_Equal_lbyte_byte 26 (by kernel_rfl) (by kernel_rfl) (by simp) hj (by
    unfold s_slices_Equal_lbyte_byte
    rw [slices_Equal_lbyte_byte_E1_eq w0]
    kernel_rfl) hv

end
end Go.Proofs.Ytiakadkooclelaa.Ah
