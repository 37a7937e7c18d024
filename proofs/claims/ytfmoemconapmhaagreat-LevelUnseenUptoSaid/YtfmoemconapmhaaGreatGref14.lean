/- PRINTED by wip/tools/shallow.py: functions of the program as readable words, and that each is what its text says. -/
import Derived.Test.YtfmoemconapmhaaGreatGn
set_option linter.unusedVariables false
set_option linter.unusedSimpArgs false
namespace Go.Proofs.YtfmoemconapmhaaGreat.Ah
open Go Go.Proofs.Tryz
noncomputable section
abbrev qn9 : Func := f35
def qnd : List (Nat × List Nat × List Nat) := []
def qf8 (P : Program) (w0 : World) (a0 : Value) (R : Kont) : Hp → Prop :=
 boxA true 3 a0 fun b =>
 loadNA w0 b 3 fun d =>
 callA P w0 qeq [d] fun e =>
 pureA (unA .not e) fun g =>
 condA g (
 retA [(.pointer none), (.int .i64 140)] R) (
 readQ (loadNA w0 b 3) fun c =>
 allA [
 (mkA 1 24 [(.slice none 0 0)] (.int .i64 16) (.int .i64 16) fun i =>
 stillA [(sameQ (loadNA w0 b 3) c)] (
 allA [
 (buildA [(0, 3, true, c), (4, 1, false, i)] [(.int .i64 0), (.int .i64 0), (.int .i64 0), (.slice none 0 0), (.slice none 0 0)] fun j =>
 stillA [] (
 allA [
 (boxA true 5 j fun l =>
 stillA [] (
 pureQ (fun K => K l) fun o =>
 pureQ (fun K => K (.int .i64 0)) fun s =>
 endA (
 retA [o, s] R)))]))]))])
theorem qy9 {w0 : World} {h : Hp} {R : Kont} {a0 : Value} (hj : ∀ v, v ∈ [a0] → v ≠ junk) (hv : qf8 prog w0 a0 R h) : ACalls prog w0 qf5 [a0] h R := by
 have e : vcFn ⟨prog, w0, 11, qnd⟩ (drw w0 11) qn9 [a0] R h = qf8 prog w0 a0 R h := by
  kernel_rfl
 exact qf (fn := qn9) (ks := qnd) (n := 11) (by kernel_rfl) (by kernel_rfl) (qe (by kernel_rfl)) (by simp) hj e hv
abbrev qlz : Func := f89
def qmc : List (Nat × List Nat × List Nat) := []
def qep (P : Program) (w0 : World) (a0 : Value) (R : Kont) : Hp → Prop :=
 boxA true 3 a0 fun b =>
 addA b 0 fun j =>
 loadA w0 j fun l =>
 pureA (binA .geq l (.int .i64 256)) fun c =>
 guardA c true (addA b 0) fun o =>
 guardA c true (loadA w0 o) fun s =>
 guardA c true (pureA (binA .leq s (.int .i64 4096))) fun u =>
 pickA c u (.bool false) fun d =>
 guardA d true (addA b 1) fun v =>
 guardA d true (loadA w0 v) fun z =>
 guardA d true (pureA (binA .geq z (.int .i64 2))) fun ba =>
 pickA d ba (.bool false) fun e =>
 guardA e true (addA b 1) fun bb =>
 guardA e true (loadA w0 bb) fun bc =>
 guardA e true (pureA (binA .leq bc (.int .i64 16))) fun bd =>
 pickA e bd (.bool false) fun g =>
 guardA g true (addA b 2) fun be =>
 guardA g true (loadA w0 be) fun bf =>
 guardA g true (pureA (binA .geq bf (.int .i64 1))) fun bg =>
 pickA g bg (.bool false) fun i =>
 guardA i true (addA b 2) fun bh =>
 guardA i true (loadA w0 bh) fun bi =>
 guardA i true (pureA (binA .leq bi (.int .i64 4096))) fun bj =>
 pickA i bj (.bool false) fun bk =>
 retA [bk] R
theorem qxx {w0 : World} {h : Hp} {R : Kont} {a0 : Value} (hj : ∀ v, v ∈ [a0] → v ≠ junk) (hv : qep prog w0 a0 R h) : ACalls prog w0 qeq [a0] h R := by
 have e : vcFn ⟨prog, w0, 31, qmc⟩ (drw w0 31) qlz [a0] R h = qep prog w0 a0 R h := by
  kernel_rfl
 exact qf (fn := qlz) (ks := qmc) (n := 31) (by kernel_rfl) (by kernel_rfl) (qe (by kernel_rfl)) (by simp) hj e hv
end
end Go.Proofs.YtfmoemconapmhaaGreat.Ah
