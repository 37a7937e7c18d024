/- PRINTED by wip/tools/shallow.py: functions of the program as readable words, and that each is what its text says. -/
import Derived.Test.YtfmoemconapmhaaGreatGn
set_option linter.unusedVariables false
set_option linter.unusedSimpArgs false
namespace Go.Proofs.YtfmoemconapmhaaGreat.Ah
open Go Go.Proofs.Tryz
noncomputable section

abbrev fn_dedupref14_New : Func := f35
def ks_dedupref14_New : List (Nat × List Nat × List Nat) := []
def s_dedupref14_New (P : Program) (w0 : World) (a0 : Value) (R : Kont) : Hp → Prop :=
 boxA true 3 a0 fun v1_1 =>
 loadNA w0 v1_1 3 fun v4_2 =>
 callA P w0 n_dedupref14_Right [v4_2] fun v5_3 =>
 pureA (unA .not v5_3) fun v6_4 =>
 condA v6_4 (
 retA [(.pointer none), (.int .i64 140)] R) (
 readQ (loadNA w0 v1_1 3) fun v7_5 =>
 allA [
 (mkA 1 24 [(.slice none 0 0)] (.int .i64 16) (.int .i64 16) fun v8_6 =>
 stillA [(sameQ (loadNA w0 v1_1 3) v7_5)] (
 allA [
 (buildA [(0, 3, true, v7_5), (4, 1, false, v8_6)] [(.int .i64 0), (.int .i64 0), (.int .i64 0), (.slice none 0 0), (.slice none 0 0)] fun v9_7 =>
 stillA [] (
 allA [
 (boxA true 5 v9_7 fun v10_8 =>
 stillA [] (
 pureQ (fun K => K v10_8) fun v2_9 =>
 pureQ (fun K => K (.int .i64 0)) fun v3_10 =>
 endA (
 retA [v2_9, v3_10] R)))]))]))])
theorem c_dedupref14_New {w0 : World} {h : Hp} {R : Kont} {a0 : Value} (hj : ∀ v, v ∈ [a0] → v ≠ junk) (hv : s_dedupref14_New prog w0 a0 R h) : ACalls prog w0 n_dedupref14_New [a0] h R := by
  have e : vcFn ⟨prog, w0, 11, ks_dedupref14_New⟩ (drw w0 11) fn_dedupref14_New [a0] R h = s_dedupref14_New prog w0 a0 R h := by
    kernel_rfl
  exact acalls_of_eq (fn := fn_dedupref14_New) (ks := ks_dedupref14_New) (n := 11) (by kernel_rfl) (by kernel_rfl) (draw_ok (by kernel_rfl)) (by simp) hj e hv

abbrev fn_dedupref14_Right : Func := f89
def ks_dedupref14_Right : List (Nat × List Nat × List Nat) := []
def s_dedupref14_Right (P : Program) (w0 : World) (a0 : Value) (R : Kont) : Hp → Prop :=
 boxA true 3 a0 fun v1_1 =>
 addA v1_1 0 fun v3_2 =>
 loadA w0 v3_2 fun v4_3 =>
 pureA (binA .geq v4_3 (.int .i64 256)) fun v5_4 =>
 guardA v5_4 true (addA v1_1 0) fun v7_5 =>
 guardA v5_4 true (loadA w0 v7_5) fun v8_6 =>
 guardA v5_4 true (pureA (binA .leq v8_6 (.int .i64 4096))) fun v9_7 =>
 pickA v5_4 v9_7 (.bool false) fun v10_8 =>
 guardA v10_8 true (addA v1_1 1) fun v12_9 =>
 guardA v10_8 true (loadA w0 v12_9) fun v13_10 =>
 guardA v10_8 true (pureA (binA .geq v13_10 (.int .i64 2))) fun v14_11 =>
 pickA v10_8 v14_11 (.bool false) fun v15_12 =>
 guardA v15_12 true (addA v1_1 1) fun v17_13 =>
 guardA v15_12 true (loadA w0 v17_13) fun v18_14 =>
 guardA v15_12 true (pureA (binA .leq v18_14 (.int .i64 16))) fun v19_15 =>
 pickA v15_12 v19_15 (.bool false) fun v20_16 =>
 guardA v20_16 true (addA v1_1 2) fun v22_17 =>
 guardA v20_16 true (loadA w0 v22_17) fun v23_18 =>
 guardA v20_16 true (pureA (binA .geq v23_18 (.int .i64 1))) fun v24_19 =>
 pickA v20_16 v24_19 (.bool false) fun v25_20 =>
 guardA v25_20 true (addA v1_1 2) fun v27_21 =>
 guardA v25_20 true (loadA w0 v27_21) fun v28_22 =>
 guardA v25_20 true (pureA (binA .leq v28_22 (.int .i64 4096))) fun v29_23 =>
 pickA v25_20 v29_23 (.bool false) fun v30_24 =>
 retA [v30_24] R
theorem c_dedupref14_Right {w0 : World} {h : Hp} {R : Kont} {a0 : Value} (hj : ∀ v, v ∈ [a0] → v ≠ junk) (hv : s_dedupref14_Right prog w0 a0 R h) : ACalls prog w0 n_dedupref14_Right [a0] h R := by
  have e : vcFn ⟨prog, w0, 31, ks_dedupref14_Right⟩ (drw w0 31) fn_dedupref14_Right [a0] R h = s_dedupref14_Right prog w0 a0 R h := by
    kernel_rfl
  exact acalls_of_eq (fn := fn_dedupref14_Right) (ks := ks_dedupref14_Right) (n := 31) (by kernel_rfl) (by kernel_rfl) (draw_ok (by kernel_rfl)) (by simp) hj e hv

end
end Go.Proofs.YtfmoemconapmhaaGreat.Ah
