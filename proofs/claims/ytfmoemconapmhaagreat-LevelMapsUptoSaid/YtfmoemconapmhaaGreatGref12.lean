/- PRINTED by wip/tools/shallow.py: functions of the program as readable words, and that each is what its text says. -/
import Derived.Test.YtfmoemconapmhaaGreatGn
set_option linter.unusedVariables false
set_option linter.unusedSimpArgs false
namespace Go.Proofs.YtfmoemconapmhaaGreat.Ah
open Go Go.Proofs.Tryz
noncomputable section

abbrev fn_dedupref12_With : Func := f27
def ks_dedupref12_With : List (Nat × List Nat × List Nat) := []
def s_dedupref12_With (P : Program) (w0 : World) (a0 a1 : Value) (R : Kont) : Hp → Prop :=
 boxA true 3 a1 fun v3_1 =>
 addA v3_1 0 fun v10_2 =>
 loadA w0 v10_2 fun v11_3 =>
 callA P w0 n_dedupref12_Find [a0, v11_3] fun v12_4 =>
 pureA (extA v12_4 0) fun v13_5 =>
 pureA (extA v12_4 1) fun v14_6 =>
 bslA [] (zerosL [(.string .empty), (.string .empty), (.bool false)] 0) 0 3 fun v15_7 =>
 slSlA 3 a0 none (some v13_5) none fun v18_8 =>
 appA w0 3 40 v15_7 v18_8 fun v19_9 =>
 loadNA w0 v3_1 3 fun v21_10 =>
 bslA [(0, 3, true, v21_10)] (zerosL [(.string .empty), (.string .empty), (.bool false)] 1) 1 3 fun v22_11 =>
 appA w0 3 40 v19_9 v22_11 fun v23_12 =>
 condA v14_6 (
 pureA (binA .add v13_5 (.int .i64 1)) fun v26_13 =>
 slSlA 3 a0 (some v26_13) none none fun v30_14 =>
 appA w0 3 40 v23_12 v30_14 fun v31_15 =>
 retA [v31_15] R) (
 slSlA 3 a0 (some v13_5) none none fun v30_16 =>
 appA w0 3 40 v23_12 v30_16 fun v31_17 =>
 retA [v31_17] R)
theorem c_dedupref12_With {w0 : World} {h : Hp} {R : Kont} {a0 a1 : Value} (hj : ∀ v, v ∈ [a0, a1] → v ≠ junk) (hv : s_dedupref12_With prog w0 a0 a1 R h) : ACalls prog w0 n_dedupref12_With [a0, a1] h R := by
  have e : vcFn ⟨prog, w0, 32, ks_dedupref12_With⟩ (drw w0 32) fn_dedupref12_With [a0, a1] R h = s_dedupref12_With prog w0 a0 a1 R h := by
    kernel_rfl
  exact acalls_of_eq (fn := fn_dedupref12_With) (ks := ks_dedupref12_With) (n := 32) (by kernel_rfl) (by kernel_rfl) (draw_ok (by kernel_rfl)) (by simp) hj e hv

abbrev fn_dedupref12_Find : Func := f29
def ks_dedupref12_Find : List (Nat × List Nat × List Nat) := [(2, [0, 1, 4, 5, 8, 9, 10], [0, 4, 5])]
def dedupref12_Find_B1 (P : Program) (w0 : World) (R : Value → Value → Value → Value → Value → Value → Value → Hp → Prop) (k0 : Value → Value → Value → Hp → Prop) (kr : Value → Value → Value → Hp → Prop) (x0 x1 x4 x5 x8 x9 x10 : Value) : Hp → Prop :=
 pureA (binA .lss x10 x9) fun v11_2 =>
 condA v11_2 (
 idxSlA 3 x8 x10 fun v13_3 =>
 loadNA w0 v13_3 3 fun v14_4 =>
 newA [(.string .empty), (.string .empty), (.bool false)] 3 fun v7_5 =>
 storeNA w0 v7_5 v14_4 3 fun _ =>
 addA v7_5 0 fun v15_6 =>
 loadA w0 v15_6 fun v16_7 =>
 pureA (binA .geq v16_7 x1) fun v18_8 =>
 condA v18_8 (
 pureQ (fun K => K x10) fun v19_9 =>
 pureQ (addA v7_5 0) fun v20_10 =>
 readQ (loadA w0 v20_10) fun v21_11 =>
 pureQ (fun K => K x1) fun v22_12 =>
 pureQ (pureA (binA .eql v21_11 v22_12)) fun v23_13 =>
 pureQ (fun K => K v19_9) fun v4_14 =>
 pureQ (fun K => K v23_13) fun v5_15 =>
 endA (
 kr x0 v4_14 v5_15)) (
 pureA (binA .add x10 (.int .i64 1)) fun v24_16 =>
 R x0 x1 x4 x5 x8 x9 v24_16)) (
 k0 x0 x4 x5)
def dedupref12_Find_L1 (P : Program) (w0 : World) (k0 : Value → Value → Value → Hp → Prop) (kr : Value → Value → Value → Hp → Prop) : Nat → Value → Value → Value → Value → Value → Value → Value → Hp → Prop
  | 0, _, _, _, _, _, _, _ => fun _ => False
  | m + 1, x0, x1, x4, x5, x8, x9, x10 => dedupref12_Find_B1 P w0 (dedupref12_Find_L1 P w0 k0 kr m) k0 kr x0 x1 x4 x5 x8 x9 x10
def dedupref12_Find_E1 (P : Program) (w0 : World) (k0 : Value → Value → Value → Hp → Prop) (kr : Value → Value → Value → Hp → Prop) (x0 x1 x4 x5 x8 x9 x10 : Value) : Hp → Prop := fun h => ∃ m, dedupref12_Find_L1 P w0 k0 kr m x0 x1 x4 x5 x8 x9 x10 h
def s_dedupref12_Find (P : Program) (w0 : World) (a0 a1 : Value) (R : Kont) : Hp → Prop :=
 pureA (lenSl a0) fun v9_1 =>
 dedupref12_Find_E1 P w0 (fun y0_17 y4_18 y5_19 =>
 pureA (lenSl y0_17) fun v26_20 =>
 retA [v26_20, (.bool false)] R) (fun y0_21 y4_22 y5_23 =>
 retA [y4_22, y5_23] R) a0 a1 (.int .i64 0) (.bool false) a0 v9_1 (.int .i64 0)
theorem dedupref12_Find_L1_eq (w0 : World) (k0 : Value → Value → Value → Hp → Prop) (kr : Value → Value → Value → Hp → Prop) : ∀ (m : Nat) (x0 x1 x4 x5 x8 x9 x10 : Value) (h : Hp), loopA (stepL ⟨prog, w0, 27, ks_dedupref12_Find⟩ (drw w0 27) (loopAt fn_dedupref12_Find 0)) m (mkFr [(0, x0), (1, x1), (4, x4), (5, x5), (8, x8), (9, x9), (10, x10)]) [fun t => k0 (t 0) (t 4) (t 5), fun t => kr (t 0) (t 4) (t 5)] h = dedupref12_Find_L1 prog w0 k0 kr m x0 x1 x4 x5 x8 x9 x10 h := by
  intro m
  induction m with
  | zero => intros; kernel_rfl
  | succ m ih =>
    intro x0 x1 x4 x5 x8 x9 x10 h
    have e : dedupref12_Find_L1 prog w0 k0 kr m = fun x0 x1 x4 x5 x8 x9 x10 h => loopA (stepL ⟨prog, w0, 27, ks_dedupref12_Find⟩ (drw w0 27) (loopAt fn_dedupref12_Find 0)) m (mkFr [(0, x0), (1, x1), (4, x4), (5, x5), (8, x8), (9, x9), (10, x10)]) [fun t => k0 (t 0) (t 4) (t 5), fun t => kr (t 0) (t 4) (t 5)] h := by funext x0 x1 x4 x5 x8 x9 x10 h; exact (ih x0 x1 x4 x5 x8 x9 x10 h).symm
    show _ = dedupref12_Find_B1 prog w0 (dedupref12_Find_L1 prog w0 k0 kr m) k0 kr x0 x1 x4 x5 x8 x9 x10 h
    rw [e]
    kernel_rfl
theorem dedupref12_Find_E1_eq (w0 : World) : dedupref12_Find_E1 prog w0 = fun k0 kr x0 x1 x4 x5 x8 x9 x10 h => ∃ m, loopA (stepL ⟨prog, w0, 27, ks_dedupref12_Find⟩ (drw w0 27) (loopAt fn_dedupref12_Find 0)) m (mkFr [(0, x0), (1, x1), (4, x4), (5, x5), (8, x8), (9, x9), (10, x10)]) [fun t => k0 (t 0) (t 4) (t 5), fun t => kr (t 0) (t 4) (t 5)] h := by
  funext k0 kr x0 x1 x4 x5 x8 x9 x10 h
  exact congrArg Exists (funext fun m => (dedupref12_Find_L1_eq w0 k0 kr m x0 x1 x4 x5 x8 x9 x10 h).symm)
theorem c_dedupref12_Find {w0 : World} {h : Hp} {R : Kont} {a0 a1 : Value} (hj : ∀ v, v ∈ [a0, a1] → v ≠ junk) (hv : s_dedupref12_Find prog w0 a0 a1 R h) : ACalls prog w0 n_dedupref12_Find [a0, a1] h R := by
  have e : vcFn ⟨prog, w0, 27, ks_dedupref12_Find⟩ (drw w0 27) fn_dedupref12_Find [a0, a1] R h = s_dedupref12_Find prog w0 a0 a1 R h := by
    unfold s_dedupref12_Find
    rw [dedupref12_Find_E1_eq w0]
    kernel_rfl
  exact acalls_of_eq (fn := fn_dedupref12_Find) (ks := ks_dedupref12_Find) (n := 27) (by kernel_rfl) (by kernel_rfl) (draw_ok (by kernel_rfl)) (by simp) hj e hv

end
end Go.Proofs.YtfmoemconapmhaaGreat.Ah
