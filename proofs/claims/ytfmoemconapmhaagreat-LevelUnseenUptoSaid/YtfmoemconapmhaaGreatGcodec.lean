/- PRINTED by wip/tools/shallow.py: functions of the program as readable words, and that each is what its text says. -/
import Derived.Test.YtfmoemconapmhaaGreatGn
set_option linter.unusedVariables false
set_option linter.unusedSimpArgs false
namespace Go.Proofs.YtfmoemconapmhaaGreat.Ah
open Go Go.Proofs.Tryz
noncomputable section
abbrev qnf : Func := f53
def qnh : List (Nat × List Nat × List Nat) := []
def qah (P : Program) (w0 : World) (a0 : Value) (R : Kont) : Hp → Prop :=
 pureA (lenStr a0) fun g =>
 pureA (binA .lss g (.int .i64 8)) fun i =>
 condA i (
 retA [(.int .u8 0), (.string .empty), (.int .i64 0), (.int .i64 20)] R) (
 callA P w0 q49 [a0] fun b =>
 callA P w0 q18 [b, (.int .i64 2)] fun j =>
 callA P w0 q3g [b] fun l =>
 callA P w0 q3g [b] fun o =>
 callA P w0 q3f [b] fun s =>
 pureA (convA .i64 s) fun c =>
 pureA (binA .neq j (.string ⟨#[68, 70]⟩)) fun d =>
 guardA d false (fun K => K o) fun u =>
 guardA d false (pureA (binA .neq u (.int .u8 0))) fun v =>
 pickA d (.bool true) v fun e =>
 guardA e false (fun K => K c) fun z =>
 guardA e false (pureA (binA .gtr z (.int .i64 1048576))) fun ba =>
 pickA e (.bool true) ba fun bb =>
 condA bb (
 retA [(.int .u8 0), (.string .empty), (.int .i64 0), (.int .i64 21)] R) (
 callA P w0 q18 [b, c] fun bc =>
 callA P w0 q3f [b] fun bd =>
 callA P w0 q0j [b] fun be =>
 pureA (binA .neq be (.int .i64 0)) fun bf =>
 condA bf (
 retA [(.int .u8 0), (.string .empty), (.int .i64 0), (.int .i64 20)] R) (
 pureA (binA .add (.int .i64 8) c) fun bg =>
 pureA (strSlA a0 none (some bg)) fun bh =>
 callA P w0 q3w [bh] fun bi =>
 pureA (binA .neq bi bd) fun bj =>
 condA bj (
 retA [(.int .u8 0), (.string .empty), (.int .i64 0), (.int .i64 23)] R) (
 pureA (binA .add (.int .i64 8) c) fun bk =>
 pureA (binA .add bk (.int .i64 4)) fun bl =>
 retA [l, bc, bl, (.int .i64 0)] R))))
theorem qz1 {w0 : World} {h : Hp} {R : Kont} {a0 : Value} (hj : ∀ v, v ∈ [a0] → v ≠ junk) (hv : qah prog w0 a0 R h) : ACalls prog w0 qfe [a0] h R := by
 have e : vcFn ⟨prog, w0, 55, qnh⟩ (drw w0 55) qnf [a0] R h = qah prog w0 a0 R h := by
  kernel_rfl
 exact qf (fn := qnf) (ks := qnh) (n := 55) (by kernel_rfl) (by kernel_rfl) (qe (by kernel_rfl)) (by simp) hj e hv
abbrev qmz : Func := f55
def qmw : List (Nat × List Nat × List Nat) := []
def qez (P : Program) (w0 : World) (a0 : Value) (R : Kont) : Hp → Prop :=
 buildA [(0, 1, false, a0)] [(.string .empty), (.int .i64 0)] fun b =>
 boxA true 2 b fun c =>
 retA [c] R
theorem qy7 {w0 : World} {h : Hp} {R : Kont} {a0 : Value} (hj : ∀ v, v ∈ [a0] → v ≠ junk) (hv : qez prog w0 a0 R h) : ACalls prog w0 q49 [a0] h R := by
 have e : vcFn ⟨prog, w0, 6, qmw⟩ (drw w0 6) qmz [a0] R h = qez prog w0 a0 R h := by
  kernel_rfl
 exact qf (fn := qmz) (ks := qmw) (n := 6) (by kernel_rfl) (by kernel_rfl) (qe (by kernel_rfl)) (by simp) hj e hv
abbrev qn1 : Func := f56
def qmr : List (Nat × List Nat × List Nat) := []
def qf0 (P : Program) (w0 : World) (a0 : Value) (R : Kont) : Hp → Prop :=
 pureA (foldA max2A a0 [(.int .i64 0)]) fun b =>
 buildA [(0, 1, false, b)] [(.int .i64 0), (.slice none 0 0), (.bool false)] fun c =>
 boxA true 3 c fun d =>
 retA [d] R
theorem qxz {w0 : World} {h : Hp} {R : Kont} {a0 : Value} (hj : ∀ v, v ∈ [a0] → v ≠ junk) (hv : qf0 prog w0 a0 R h) : ACalls prog w0 q4y [a0] h R := by
 have e : vcFn ⟨prog, w0, 7, qmr⟩ (drw w0 7) qn1 [a0] R h = qf0 prog w0 a0 R h := by
  kernel_rfl
 exact qf (fn := qn1) (ks := qmr) (n := 7) (by kernel_rfl) (by kernel_rfl) (qe (by kernel_rfl)) (by simp) hj e hv
abbrev qkt : Func := f57
def qkn : List (Nat × List Nat × List Nat) := []
def ql5 (P : Program) (w0 : World) (a0 a1 : Value) (R : Kont) : Hp → Prop :=
 callA P w0 qak [a1] fun b =>
 callA P w0 q3e [a0, b] fun c =>
 retA [] R
theorem qwr {w0 : World} {h : Hp} {R : Kont} {a0 a1 : Value} (hj : ∀ v, v ∈ [a0, a1] → v ≠ junk) (hv : ql5 prog w0 a0 a1 R h) : ACalls prog w0 q21 [a0, a1] h R := by
 have e : vcFn ⟨prog, w0, 8, qkn⟩ (drw w0 8) qkt [a0, a1] R h = ql5 prog w0 a0 a1 R h := by
  kernel_rfl
 exact qf (fn := qkt) (ks := qkn) (n := 8) (by kernel_rfl) (by kernel_rfl) (qe (by kernel_rfl)) (by simp) hj e hv
abbrev q3m : Func := f59
def q3n : List (Nat × List Nat × List Nat) := [(3, [0, 3, 6, 7], [3]), (7, [0, 3, 6, 7, 16], [0, 3, 6, 7])]
def qau (P : Program) (w0 : World) (R : Ko5) (k2 : Ko4) (x0 x3 x6 x7 x16 : Value) : Hp → Prop :=
 pureA (binA .lss x16 (.int .i64 8)) fun b =>
 condA b (
 pureA (binA .shr x3 (.int .u64 1)) fun c =>
 pureA (binA .and x3 (.int .u32 1)) fun d =>
 pureA (unA .neg d) fun e =>
 pureA (binA .and (.int .u32 2197175160) e) fun g =>
 pureA (binA .xor c g) fun i =>
 pureA (binA .add x16 (.int .i64 1)) fun j =>
 R x0 i x6 x7 j) (
 k2 x0 x3 x6 x7)
def q3r (P : Program) (w0 : World) (k2 : Ko4) : Nat → Value → Value → Value → Value → Value → Hp → Prop
 | 0, _, _, _, _, _ => fun _ => False
 | m + 1, x0, x3, x6, x7, x16 => qau P w0 (q3r P w0 k2 m) k2 x0 x3 x6 x7 x16
def qou (P : Program) (w0 : World) (k2 : Ko4) (x0 x3 x6 x7 x16 : Value) : Hp → Prop := fun h => ∃ m, q3r P w0 k2 m x0 x3 x6 x7 x16 h
def q7m (P : Program) (w0 : World) (R : Ko4) (k0 : Ko1) (x0 x3 x6 x7 : Value) : Hp → Prop :=
 pureA (binA .lss x7 x6) fun b =>
 condA b (
 pureA (strIdxA x0 x7) fun c =>
 pureA (convA .u32 c) fun d =>
 pureA (binA .xor x3 d) fun e =>
 qou P w0 (fun g i j l =>
 pureA (binA .add l (.int .i64 1)) fun o =>
 R g i j o) x0 e x6 x7 (.int .i64 0)) (
 k0 x3)
def q3l (P : Program) (w0 : World) (k0 : Ko1) : Nat → Value → Value → Value → Value → Hp → Prop
 | 0, _, _, _, _ => fun _ => False
 | m + 1, x0, x3, x6, x7 => q7m P w0 (q3l P w0 k0 m) k0 x0 x3 x6 x7
def qox (P : Program) (w0 : World) (k0 : Ko1) (x0 x3 x6 x7 : Value) : Hp → Prop := fun h => ∃ m, q3l P w0 k0 m x0 x3 x6 x7 h
def qb9 (P : Program) (w0 : World) (a0 : Value) (R : Kont) : Hp → Prop :=
 pureA (lenStr a0) fun b =>
 qox P w0 (fun c =>
 pureA (unA .xor c) fun d =>
 retA [d] R) a0 (.int .u32 4294967295) b (.int .i64 0)
theorem qyw (w0 : World) (k2 : Ko4) : ∀ (m : Nat) (x0 x3 x6 x7 x16 : Value) (h : Hp), loopA (stepL ⟨prog, w0, 29, q3n⟩ (drw w0 29) (loopAt q3m 1)) m (mkFr [(0, x0), (3, x3), (6, x6), (7, x7), (16, x16)]) [fun t => k2 (t 0) (t 3) (t 6) (t 7)] h = q3r prog w0 k2 m x0 x3 x6 x7 x16 h := by
 intro m
 induction m with
 | zero => intros; kernel_rfl
 | succ m ih =>
  intro x0 x3 x6 x7 x16 h
  have e : q3r prog w0 k2 m = fun x0 x3 x6 x7 x16 h => loopA (stepL ⟨prog, w0, 29, q3n⟩ (drw w0 29) (loopAt q3m 1)) m (mkFr [(0, x0), (3, x3), (6, x6), (7, x7), (16, x16)]) [fun t => k2 (t 0) (t 3) (t 6) (t 7)] h := by funext x0 x3 x6 x7 x16 h; exact (ih x0 x3 x6 x7 x16 h).symm
  show _ = qau prog w0 (q3r prog w0 k2 m) k2 x0 x3 x6 x7 x16 h
  rw [e]
  kernel_rfl
theorem qyh (w0 : World) : qou prog w0 = fun k2 x0 x3 x6 x7 x16 h => ∃ m, loopA (stepL ⟨prog, w0, 29, q3n⟩ (drw w0 29) (loopAt q3m 1)) m (mkFr [(0, x0), (3, x3), (6, x6), (7, x7), (16, x16)]) [fun t => k2 (t 0) (t 3) (t 6) (t 7)] h := by
 funext k2 x0 x3 x6 x7 x16 h
 exact congrArg Exists (funext fun m => (qyw w0 k2 m x0 x3 x6 x7 x16 h).symm)
theorem qym (w0 : World) (k0 : Ko1) : ∀ (m : Nat) (x0 x3 x6 x7 : Value) (h : Hp), loopA (stepL ⟨prog, w0, 29, q3n⟩ (drw w0 29) (loopAt q3m 0)) m (mkFr [(0, x0), (3, x3), (6, x6), (7, x7)]) [fun t => k0 (t 3)] h = q3l prog w0 k0 m x0 x3 x6 x7 h := by
 intro m
 induction m with
 | zero => intros; kernel_rfl
 | succ m ih =>
  intro x0 x3 x6 x7 h
  have e : q3l prog w0 k0 m = fun x0 x3 x6 x7 h => loopA (stepL ⟨prog, w0, 29, q3n⟩ (drw w0 29) (loopAt q3m 0)) m (mkFr [(0, x0), (3, x3), (6, x6), (7, x7)]) [fun t => k0 (t 3)] h := by funext x0 x3 x6 x7 h; exact (ih x0 x3 x6 x7 h).symm
  show _ = q7m prog w0 (q3l prog w0 k0 m) k0 x0 x3 x6 x7 h
  rw [e]
  unfold q7m
  rw [qyh w0]
  kernel_rfl
theorem qyk (w0 : World) : qox prog w0 = fun k0 x0 x3 x6 x7 h => ∃ m, loopA (stepL ⟨prog, w0, 29, q3n⟩ (drw w0 29) (loopAt q3m 0)) m (mkFr [(0, x0), (3, x3), (6, x6), (7, x7)]) [fun t => k0 (t 3)] h := by
 funext k0 x0 x3 x6 x7 h
 exact congrArg Exists (funext fun m => (qym w0 k0 m x0 x3 x6 x7 h).symm)
theorem q025 {w0 : World} {h : Hp} {R : Kont} {a0 : Value} (hj : ∀ v, v ∈ [a0] → v ≠ junk) (hv : qb9 prog w0 a0 R h) : ACalls prog w0 q3w [a0] h R := by
 have e : vcFn ⟨prog, w0, 29, q3n⟩ (drw w0 29) q3m [a0] R h = qb9 prog w0 a0 R h := by
  unfold qb9
  rw [qyk w0]
  kernel_rfl
 exact qf (fn := q3m) (ks := q3n) (n := 29) (by kernel_rfl) (by kernel_rfl) (qe (by kernel_rfl)) (by simp) hj e hv
abbrev ql8 : Func := f60
def qlc : List (Nat × List Nat × List Nat) := []
def qee (P : Program) (w0 : World) (a0 : Value) (R : Kont) : Hp → Prop :=
 pureA (binPtrA .eql a0 (.pointer none)) fun b =>
 condA b (
 retA [(.string .empty), (.int .i64 6)] R) (
 nilA a0 fun c =>
 addA c 2 fun d =>
 loadA w0 d fun e =>
 condA e (
 retA [(.string .empty), (.int .i64 3)] R) (
 nilA a0 fun g =>
 addA g 1 fun i =>
 loadA w0 i fun j =>
 b2sA w0 j fun l =>
 retA [l, (.int .i64 0)] R))
theorem qxe {w0 : World} {h : Hp} {R : Kont} {a0 : Value} (hj : ∀ v, v ∈ [a0] → v ≠ junk) (hv : qee prog w0 a0 R h) : ACalls prog w0 q39 [a0] h R := by
 have e : vcFn ⟨prog, w0, 17, qlc⟩ (drw w0 17) ql8 [a0] R h = qee prog w0 a0 R h := by
  kernel_rfl
 exact qf (fn := ql8) (ks := qlc) (n := 17) (by kernel_rfl) (by kernel_rfl) (qe (by kernel_rfl)) (by simp) hj e hv
abbrev qo9 : Func := f61
def qob : List (Nat × List Nat × List Nat) := []
def qfw (P : Program) (w0 : World) (a0 a1 : Value) (R : Kont) : Hp → Prop :=
 pureA (lenStr a1) fun e =>
 pureA (binA .gtr e (.int .i64 1048576)) fun g =>
 condA g (
 retA [(.string .empty), (.int .i64 3)] R) (
 pureA (lenStr a1) fun i =>
 pureA (binA .add (.int .i64 8) i) fun j =>
 pureA (binA .add j (.int .i64 4)) fun l =>
 callA P w0 q4y [l] fun b =>
 callA P w0 q73 [b, (.string ⟨#[68, 70]⟩)] fun bb =>
 callA P w0 qag [b, a0] fun bc =>
 callA P w0 qag [b, (.int .u8 0)] fun bd =>
 pureA (lenStr a1) fun o =>
 pureA (convA .u32 o) fun s =>
 callA P w0 q48 [b, s] fun be =>
 callA P w0 q73 [b, a1] fun bf =>
 callA P w0 q39 [b] fun c =>
 pureA (extA c 0) fun u =>
 pureA (extA c 1) fun bg =>
 callA P w0 q3w [u] fun v =>
 callA P w0 q48 [b, v] fun bh =>
 callA P w0 q39 [b] fun d =>
 pureA (extA d 0) fun z =>
 pureA (extA d 1) fun ba =>
 retA [z, ba] R)
theorem qzz {w0 : World} {h : Hp} {R : Kont} {a0 a1 : Value} (hj : ∀ v, v ∈ [a0, a1] → v ≠ junk) (hv : qfw prog w0 a0 a1 R h) : ACalls prog w0 qfl [a0, a1] h R := by
 have e : vcFn ⟨prog, w0, 45, qob⟩ (drw w0 45) qo9 [a0, a1] R h = qfw prog w0 a0 a1 R h := by
  kernel_rfl
 exact qf (fn := qo9) (ks := qob) (n := 45) (by kernel_rfl) (by kernel_rfl) (qe (by kernel_rfl)) (by simp) hj e hv
abbrev qmg : Func := f104
def qm3 : List (Nat × List Nat × List Nat) := []
def qew (P : Program) (w0 : World) (a0 a1 : Value) (R : Kont) : Hp → Prop :=
 pureA (binPtrA .eql a0 (.pointer none)) fun b =>
 guardA b false (fun K => K a0) fun c =>
 guardA b false (nilA c) fun d =>
 guardA b false (addA d 1) fun e =>
 guardA b false (loadA w0 e) fun g =>
 guardA b false (pureA (binA .neq g (.int .i64 0))) fun i =>
 pickA b (.bool true) i fun j =>
 condA j (
 retA [(.string .empty)] R) (
 pureA (binA .lss a1 (.int .i64 0)) fun l =>
 condA l (
 callA P w0 q4v [a0, (.int .i64 1)] fun o =>
 retA [o] R) (
 nilA a0 fun s =>
 addA s 0 fun u =>
 loadA w0 u fun v =>
 pureA (lenStr v) fun z =>
 pureA (binA .gtr a1 z) fun ba =>
 condA ba (
 callA P w0 q4v [a0, (.int .i64 20)] fun bb =>
 retA [bb] R) (
 nilA a0 fun bc =>
 addA bc 0 fun bd =>
 loadA w0 bd fun be =>
 pureA (strSlA be none (some a1)) fun bf =>
 nilA a0 fun bg =>
 addA bg 0 fun bh =>
 loadA w0 bh fun bi =>
 pureA (strSlA bi (some a1) none) fun bj =>
 nilA a0 fun bk =>
 addA bk 0 fun bl =>
 storeA w0 bl bj fun _ =>
 retA [bf] R)))
theorem qxo {w0 : World} {h : Hp} {R : Kont} {a0 a1 : Value} (hj : ∀ v, v ∈ [a0, a1] → v ≠ junk) (hv : qew prog w0 a0 a1 R h) : ACalls prog w0 q18 [a0, a1] h R := by
 have e : vcFn ⟨prog, w0, 47, qm3⟩ (drw w0 47) qmg [a0, a1] R h = qew prog w0 a0 a1 R h := by
  kernel_rfl
 exact qf (fn := qmg) (ks := qm3) (n := 47) (by kernel_rfl) (by kernel_rfl) (qe (by kernel_rfl)) (by simp) hj e hv
abbrev qn3 : Func := f105
def qms : List (Nat × List Nat × List Nat) := []
def qnb (P : Program) (w0 : World) (a0 : Value) (R : Kont) : Hp → Prop :=
 callA P w0 qa6 [a0, (.int .i64 1)] fun b =>
 pureA (convA .u8 b) fun c =>
 retA [c] R
theorem qy3 {w0 : World} {h : Hp} {R : Kont} {a0 : Value} (hj : ∀ v, v ∈ [a0] → v ≠ junk) (hv : qnb prog w0 a0 R h) : ACalls prog w0 q3g [a0] h R := by
 have e : vcFn ⟨prog, w0, 6, qms⟩ (drw w0 6) qn3 [a0] R h = qnb prog w0 a0 R h := by
  kernel_rfl
 exact qf (fn := qn3) (ks := qms) (n := 6) (by kernel_rfl) (by kernel_rfl) (qe (by kernel_rfl)) (by simp) hj e hv
abbrev qmk : Func := f106
def qm4 : List (Nat × List Nat × List Nat) := []
def qmy (P : Program) (w0 : World) (a0 : Value) (R : Kont) : Hp → Prop :=
 callA P w0 qa6 [a0, (.int .i64 4)] fun b =>
 pureA (convA .u32 b) fun c =>
 retA [c] R
theorem qxk {w0 : World} {h : Hp} {R : Kont} {a0 : Value} (hj : ∀ v, v ∈ [a0] → v ≠ junk) (hv : qmy prog w0 a0 R h) : ACalls prog w0 q3f [a0] h R := by
 have e : vcFn ⟨prog, w0, 6, qm4⟩ (drw w0 6) qmk [a0] R h = qmy prog w0 a0 R h := by
  kernel_rfl
 exact qf (fn := qmk) (ks := qm4) (n := 6) (by kernel_rfl) (by kernel_rfl) (qe (by kernel_rfl)) (by simp) hj e hv
abbrev qme : Func := f107
def qmf : List (Nat × List Nat × List Nat) := []
def qen (P : Program) (w0 : World) (a0 : Value) (R : Kont) : Hp → Prop :=
 pureA (binPtrA .eql a0 (.pointer none)) fun b =>
 condA b (
 retA [(.int .i64 6)] R) (
 nilA a0 fun c =>
 addA c 1 fun d =>
 loadA w0 d fun e =>
 retA [e] R)
theorem qxj {w0 : World} {h : Hp} {R : Kont} {a0 : Value} (hj : ∀ v, v ∈ [a0] → v ≠ junk) (hv : qen prog w0 a0 R h) : ACalls prog w0 q0j [a0] h R := by
 have e : vcFn ⟨prog, w0, 9, qmf⟩ (drw w0 9) qme [a0] R h = qen prog w0 a0 R h := by
  kernel_rfl
 exact qf (fn := qme) (ks := qmf) (n := 9) (by kernel_rfl) (by kernel_rfl) (qe (by kernel_rfl)) (by simp) hj e hv
abbrev qkx : Func := f108
def qko : List (Nat × List Nat × List Nat) := []
def qdw (P : Program) (w0 : World) (a0 : Value) (R : Kont) : Hp → Prop :=
 pureA (binPtrA .eql a0 (.pointer none)) fun b =>
 guardA b false (fun K => K a0) fun e =>
 guardA b false (nilA e) fun g =>
 guardA b false (addA g 1) fun i =>
 guardA b false (loadA w0 i) fun j =>
 guardA b false (pureA (binA .neq j (.int .i64 0))) fun l =>
 pickA b (.bool true) l fun o =>
 condA o (
 retA [(.int .u64 0)] R) (
 nilA a0 fun s =>
 addA s 0 fun u =>
 loadA w0 u fun v =>
 callA P w0 qfq [v] fun c =>
 pureA (extA c 0) fun z =>
 pureA (extA c 1) fun ba =>
 pureA (extA c 2) fun d =>
 pureA (binA .neq d (.int .i64 0)) fun bb =>
 condA bb (
 callA P w0 q4v [a0, d] fun bi =>
 retA [(.int .u64 0)] R) (
 nilA a0 fun bc =>
 addA bc 0 fun bd =>
 loadA w0 bd fun be =>
 pureA (strSlA be (some ba) none) fun bf =>
 nilA a0 fun bg =>
 addA bg 0 fun bh =>
 storeA w0 bh bf fun _ =>
 retA [z] R))
theorem qwt {w0 : World} {h : Hp} {R : Kont} {a0 : Value} (hj : ∀ v, v ∈ [a0] → v ≠ junk) (hv : qdw prog w0 a0 R h) : ACalls prog w0 q14 [a0] h R := by
 have e : vcFn ⟨prog, w0, 39, qko⟩ (drw w0 39) qkx [a0] R h = qdw prog w0 a0 R h := by
  kernel_rfl
 exact qf (fn := qkx) (ks := qko) (n := 39) (by kernel_rfl) (by kernel_rfl) (qe (by kernel_rfl)) (by simp) hj e hv
abbrev qlp : Func := f109
def qlb : List (Nat × List Nat × List Nat) := []
def qmd (P : Program) (w0 : World) (a0 : Value) (R : Kont) : Hp → Prop :=
 callA P w0 q0j [a0] fun b =>
 pureA (binA .neq b (.int .i64 0)) fun c =>
 condA c (
 retA [b] R) (
 nilA a0 fun d =>
 addA d 0 fun e =>
 loadA w0 e fun g =>
 pureA (lenStr g) fun i =>
 pureA (binA .gtr i (.int .i64 0)) fun j =>
 condA j (
 retA [(.int .i64 22)] R) (
 retA [(.int .i64 0)] R))
theorem qx9 {w0 : World} {h : Hp} {R : Kont} {a0 : Value} (hj : ∀ v, v ∈ [a0] → v ≠ junk) (hv : qmd prog w0 a0 R h) : ACalls prog w0 qeh [a0] h R := by
 have e : vcFn ⟨prog, w0, 15, qlb⟩ (drw w0 15) qlp [a0] R h = qmd prog w0 a0 R h := by
  kernel_rfl
 exact qf (fn := qlp) (ks := qlb) (n := 15) (by kernel_rfl) (by kernel_rfl) (qe (by kernel_rfl)) (by simp) hj e hv
abbrev qm8 : Func := f110
def qlu : List (Nat × List Nat × List Nat) := []
def qev (P : Program) (w0 : World) (a0 a1 : Value) (R : Kont) : Hp → Prop :=
 pureA (binPtrA .eql a0 (.pointer none)) fun b =>
 guardA b false (fun K => K a0) fun c =>
 guardA b false (nilA c) fun d =>
 guardA b false (addA d 2) fun e =>
 guardA b false (loadA w0 e) fun g =>
 pickA b (.bool true) g fun i =>
 condA i (
 retA [] R) (
 pureQ (fun K => K a1) fun j =>
 pureQ (pureA (lenSl j)) fun l =>
 pureQ (fun K => K a0) fun o =>
 pureQ (nilA o) fun s =>
 pureQ (addA s 0) fun u =>
 readQ (loadA w0 u) fun v =>
 pureQ (fun K => K a0) fun z =>
 pureQ (nilA z) fun ba =>
 pureQ (addA ba 1) fun bb =>
 readQ (loadA w0 bb) fun bc =>
 pureQ (pureA (lenSl bc)) fun bd =>
 pureQ (pureA (binA .sub v bd)) fun be =>
 pureQ (pureA (binA .gtr l be)) fun bf =>
 pureQ (fun K => K bf) fun bg =>
 endA (
 condA bg (
 nilA a0 fun bh =>
 addA bh 2 fun bi =>
 storeA w0 bi (.bool true) fun _ =>
 retA [] R) (
 nilA a0 fun bj =>
 addA bj 1 fun bk =>
 loadA w0 bk fun bl =>
 appA w0 1 1 bl a1 fun bm =>
 nilA a0 fun bn =>
 addA bn 1 fun bo =>
 storeA w0 bo bm fun _ =>
 retA [] R)))
theorem qxh {w0 : World} {h : Hp} {R : Kont} {a0 a1 : Value} (hj : ∀ v, v ∈ [a0, a1] → v ≠ junk) (hv : qev prog w0 a0 a1 R h) : ACalls prog w0 q3e [a0, a1] h R := by
 have e : vcFn ⟨prog, w0, 39, qlu⟩ (drw w0 39) qm8 [a0, a1] R h = qev prog w0 a0 a1 R h := by
  kernel_rfl
 exact qf (fn := qm8) (ks := qlu) (n := 39) (by kernel_rfl) (by kernel_rfl) (qe (by kernel_rfl)) (by simp) hj e hv
abbrev q77 : Func := f111
def q76 : List (Nat × List Nat × List Nat) := [(2, [0, 3], [0, 3])]
def qaj (P : Program) (w0 : World) (R : Ko2) (k0 : Ko2) (x0 x3 : Value) : Hp → Prop :=
 pureA (binA .geq x0 (.int .u64 128)) fun b =>
 condA b (
 pureA (convA .u8 x0) fun c =>
 pureA (binA .or c (.int .u8 128)) fun d =>
 bslA [(0, 1, false, d)] (zerosL [(.int .u8 0)] 1) 1 1 fun e =>
 appA w0 1 1 x3 e fun g =>
 pureA (binA .shr x0 (.int .u64 7)) fun i =>
 R i g) (
 k0 x0 x3)
def q3h (P : Program) (w0 : World) (k0 : Ko2) : Nat → Value → Value → Hp → Prop
 | 0, _, _ => fun _ => False
 | m + 1, x0, x3 => qaj P w0 (q3h P w0 k0 m) k0 x0 x3
def qnp (P : Program) (w0 : World) (k0 : Ko2) (x0 x3 : Value) : Hp → Prop := fun h => ∃ m, q3h P w0 k0 m x0 x3 h
def qfh (P : Program) (w0 : World) (a0 : Value) (R : Kont) : Hp → Prop :=
 qnp P w0 (fun b c =>
 pureA (convA .u8 b) fun d =>
 bslA [(0, 1, false, d)] (zerosL [(.int .u8 0)] 1) 1 1 fun e =>
 appA w0 1 1 c e fun g =>
 retA [g] R) a0 (.slice none 0 0)
theorem qxs (w0 : World) (k0 : Ko2) : ∀ (m : Nat) (x0 x3 : Value) (h : Hp), loopA (stepL ⟨prog, w0, 19, q76⟩ (drw w0 19) (loopAt q77 0)) m (mkFr [(0, x0), (3, x3)]) [fun t => k0 (t 0) (t 3)] h = q3h prog w0 k0 m x0 x3 h := by
 intro m
 induction m with
 | zero => intros; kernel_rfl
 | succ m ih =>
  intro x0 x3 h
  have e : q3h prog w0 k0 m = fun x0 x3 h => loopA (stepL ⟨prog, w0, 19, q76⟩ (drw w0 19) (loopAt q77 0)) m (mkFr [(0, x0), (3, x3)]) [fun t => k0 (t 0) (t 3)] h := by funext x0 x3 h; exact (ih x0 x3 h).symm
  show _ = qaj prog w0 (q3h prog w0 k0 m) k0 x0 x3 h
  rw [e]
  kernel_rfl
theorem qxu (w0 : World) : qnp prog w0 = fun k0 x0 x3 h => ∃ m, loopA (stepL ⟨prog, w0, 19, q76⟩ (drw w0 19) (loopAt q77 0)) m (mkFr [(0, x0), (3, x3)]) [fun t => k0 (t 0) (t 3)] h := by
 funext k0 x0 x3 h
 exact congrArg Exists (funext fun m => (qxs w0 k0 m x0 x3 h).symm)
theorem qz7 {w0 : World} {h : Hp} {R : Kont} {a0 : Value} (hj : ∀ v, v ∈ [a0] → v ≠ junk) (hv : qfh prog w0 a0 R h) : ACalls prog w0 qak [a0] h R := by
 have e : vcFn ⟨prog, w0, 19, q76⟩ (drw w0 19) q77 [a0] R h = qfh prog w0 a0 R h := by
  unfold qfh
  rw [qxu w0]
  kernel_rfl
 exact qf (fn := q77) (ks := q76) (n := 19) (by kernel_rfl) (by kernel_rfl) (qe (by kernel_rfl)) (by simp) hj e hv
abbrev qma : Func := f114
def qlx : List (Nat × List Nat × List Nat) := []
def qes (P : Program) (w0 : World) (a0 a1 : Value) (R : Kont) : Hp → Prop :=
 s2bA a1 fun b =>
 callA P w0 q3e [a0, b] fun c =>
 retA [] R
theorem qxp {w0 : World} {h : Hp} {R : Kont} {a0 a1 : Value} (hj : ∀ v, v ∈ [a0, a1] → v ≠ junk) (hv : qes prog w0 a0 a1 R h) : ACalls prog w0 q73 [a0, a1] h R := by
 have e : vcFn ⟨prog, w0, 8, qlx⟩ (drw w0 8) qma [a0, a1] R h = qes prog w0 a0 a1 R h := by
  kernel_rfl
 exact qf (fn := qma) (ks := qlx) (n := 8) (by kernel_rfl) (by kernel_rfl) (qe (by kernel_rfl)) (by simp) hj e hv
abbrev qmx : Func := f115
def qmt : List (Nat × List Nat × List Nat) := []
def qnc (P : Program) (w0 : World) (a0 a1 : Value) (R : Kont) : Hp → Prop :=
 callA P w0 qlk [a0, a1, (.int .i64 1)] fun b =>
 retA [] R
theorem qy2 {w0 : World} {h : Hp} {R : Kont} {a0 a1 : Value} (hj : ∀ v, v ∈ [a0, a1] → v ≠ junk) (hv : qnc prog w0 a0 a1 R h) : ACalls prog w0 qag [a0, a1] h R := by
 have e : vcFn ⟨prog, w0, 7, qmt⟩ (drw w0 7) qmx [a0, a1] R h = qnc prog w0 a0 a1 R h := by
  kernel_rfl
 exact qf (fn := qmx) (ks := qmt) (n := 7) (by kernel_rfl) (by kernel_rfl) (qe (by kernel_rfl)) (by simp) hj e hv
abbrev qmi : Func := f116
def qm0 : List (Nat × List Nat × List Nat) := []
def qn4 (P : Program) (w0 : World) (a0 a1 : Value) (R : Kont) : Hp → Prop :=
 callA P w0 ql3 [a0, a1, (.int .i64 4)] fun b =>
 retA [] R
theorem qxn {w0 : World} {h : Hp} {R : Kont} {a0 a1 : Value} (hj : ∀ v, v ∈ [a0, a1] → v ≠ junk) (hv : qn4 prog w0 a0 a1 R h) : ACalls prog w0 q48 [a0, a1] h R := by
 have e : vcFn ⟨prog, w0, 7, qm0⟩ (drw w0 7) qmi [a0, a1] R h = qn4 prog w0 a0 a1 R h := by
  kernel_rfl
 exact qf (fn := qmi) (ks := qm0) (n := 7) (by kernel_rfl) (by kernel_rfl) (qe (by kernel_rfl)) (by simp) hj e hv
abbrev qli : Func := f134
def qls : List (Nat × List Nat × List Nat) := []
def qei (P : Program) (w0 : World) (a0 a1 : Value) (R : Kont) : Hp → Prop :=
 pureA (lenStr a1) fun b =>
 pureA (convA .u64 b) fun c =>
 callA P w0 qak [c] fun d =>
 appA w0 1 1 d a1 fun e =>
 callA P w0 q3e [a0, e] fun g =>
 retA [] R
theorem qxd {w0 : World} {h : Hp} {R : Kont} {a0 a1 : Value} (hj : ∀ v, v ∈ [a0, a1] → v ≠ junk) (hv : qei prog w0 a0 a1 R h) : ACalls prog w0 qea [a0, a1] h R := by
 have e : vcFn ⟨prog, w0, 12, qls⟩ (drw w0 12) qli [a0, a1] R h = qei prog w0 a0 a1 R h := by
  kernel_rfl
 exact qf (fn := qli) (ks := qls) (n := 12) (by kernel_rfl) (by kernel_rfl) (qe (by kernel_rfl)) (by simp) hj e hv
abbrev ql4 : Func := f146
def ql2 : List (Nat × List Nat × List Nat) := []
def qe1 (P : Program) (w0 : World) (a0 a1 : Value) (R : Kont) : Hp → Prop :=
 nilA a0 fun b =>
 addA b 1 fun c =>
 loadA w0 c fun d =>
 pureA (binA .eql d (.int .i64 0)) fun e =>
 condA e (
 nilA a0 fun g =>
 addA g 1 fun i =>
 storeA w0 i a1 fun _ =>
 retA [(.string .empty)] R) (
 retA [(.string .empty)] R)
theorem qx2 {w0 : World} {h : Hp} {R : Kont} {a0 a1 : Value} (hj : ∀ v, v ∈ [a0, a1] → v ≠ junk) (hv : qe1 prog w0 a0 a1 R h) : ACalls prog w0 q4v [a0, a1] h R := by
 have e : vcFn ⟨prog, w0, 14, ql2⟩ (drw w0 14) ql4 [a0, a1] R h = qe1 prog w0 a0 a1 R h := by
  kernel_rfl
 exact qf (fn := ql4) (ks := ql2) (n := 14) (by kernel_rfl) (by kernel_rfl) (qe (by kernel_rfl)) (by simp) hj e hv
abbrev q6s : Func := f147
def q6x : List (Nat × List Nat × List Nat) := [(3, [5, 11, 12, 13], [5])]
def qa1 (P : Program) (w0 : World) (R : Ko4) (k0 : Ko1) (x5 x11 x12 x13 : Value) : Hp → Prop :=
 pureA (binA .lss x13 x12) fun b =>
 condA b (
 idxSlA 1 x11 x13 fun c =>
 loadA w0 c fun d =>
 pureA (binA .shl x5 (.int .u64 8)) fun e =>
 pureA (convA .u64 d) fun g =>
 pureA (binA .or e g) fun i =>
 pureA (binA .add x13 (.int .i64 1)) fun j =>
 R i x11 x12 j) (
 k0 x5)
def q34 (P : Program) (w0 : World) (k0 : Ko1) : Nat → Value → Value → Value → Value → Hp → Prop
 | 0, _, _, _, _ => fun _ => False
 | m + 1, x5, x11, x12, x13 => qa1 P w0 (q34 P w0 k0 m) k0 x5 x11 x12 x13
def ql9 (P : Program) (w0 : World) (k0 : Ko1) (x5 x11 x12 x13 : Value) : Hp → Prop := fun h => ∃ m, q34 P w0 k0 m x5 x11 x12 x13 h
def qe9 (P : Program) (w0 : World) (a0 a1 : Value) (R : Kont) : Hp → Prop :=
 callA P w0 q18 [a0, a1] fun c =>
 s2bA c fun b =>
 pureA (lenSl b) fun d =>
 ql9 P w0 (fun e =>
 retA [e] R) (.int .u64 0) b d (.int .i64 0)
theorem qwd (w0 : World) (k0 : Ko1) : ∀ (m : Nat) (x5 x11 x12 x13 : Value) (h : Hp), loopA (stepL ⟨prog, w0, 24, q6x⟩ (drw w0 24) (loopAt q6s 0)) m (mkFr [(5, x5), (11, x11), (12, x12), (13, x13)]) [fun t => k0 (t 5)] h = q34 prog w0 k0 m x5 x11 x12 x13 h := by
 intro m
 induction m with
 | zero => intros; kernel_rfl
 | succ m ih =>
  intro x5 x11 x12 x13 h
  have e : q34 prog w0 k0 m = fun x5 x11 x12 x13 h => loopA (stepL ⟨prog, w0, 24, q6x⟩ (drw w0 24) (loopAt q6s 0)) m (mkFr [(5, x5), (11, x11), (12, x12), (13, x13)]) [fun t => k0 (t 5)] h := by funext x5 x11 x12 x13 h; exact (ih x5 x11 x12 x13 h).symm
  show _ = qa1 prog w0 (q34 prog w0 k0 m) k0 x5 x11 x12 x13 h
  rw [e]
  kernel_rfl
theorem qwa (w0 : World) : ql9 prog w0 = fun k0 x5 x11 x12 x13 h => ∃ m, loopA (stepL ⟨prog, w0, 24, q6x⟩ (drw w0 24) (loopAt q6s 0)) m (mkFr [(5, x5), (11, x11), (12, x12), (13, x13)]) [fun t => k0 (t 5)] h := by
 funext k0 x5 x11 x12 x13 h
 exact congrArg Exists (funext fun m => (qwd w0 k0 m x5 x11 x12 x13 h).symm)
theorem qx7 {w0 : World} {h : Hp} {R : Kont} {a0 a1 : Value} (hj : ∀ v, v ∈ [a0, a1] → v ≠ junk) (hv : qe9 prog w0 a0 a1 R h) : ACalls prog w0 qa6 [a0, a1] h R := by
 have e : vcFn ⟨prog, w0, 24, q6x⟩ (drw w0 24) q6s [a0, a1] R h = qe9 prog w0 a0 a1 R h := by
  unfold qe9
  rw [qwa w0]
  kernel_rfl
 exact qf (fn := q6s) (ks := q6x) (n := 24) (by kernel_rfl) (by kernel_rfl) (qe (by kernel_rfl)) (by simp) hj e hv
abbrev q79 : Func := f148
def q7a : List (Nat × List Nat × List Nat) := [(2, [0, 2, 3, 4, 8, 9], [2, 3, 4])]
def q4b (P : Program) (w0 : World) (R : Ko6) (k0 : Ko3) (kr : Ko3) (x0 x2 x3 x4 x8 x9 : Value) : Hp → Prop :=
 pureA (binA .lss x9 x8) fun g =>
 condA g (
 pureA (strIdxA x0 x9) fun b =>
 pureA (binA .eql x9 (.int .i64 9)) fun c =>
 guardA c true (fun K => K b) fun i =>
 guardA c true (pureA (binA .neq i (.int .u8 1))) fun j =>
 pickA c j (.bool false) fun l =>
 condA l (
 kr (.int .u64 0) (.int .i64 0) (.int .i64 21)) (
 pureA (binA .and b (.int .u8 127)) fun o =>
 pureA (convA .u64 o) fun s =>
 pureA (binA .mul (.int .i64 7) x9) fun u =>
 pureA (binA .shl s u) fun v =>
 pureA (binA .or x2 v) fun e =>
 pureA (binA .lss b (.int .u8 128)) fun z =>
 condA z (
 pureA (binA .eql b (.int .u8 0)) fun d =>
 guardA d true (fun K => K x9) fun ba =>
 guardA d true (pureA (binA .gtr ba (.int .i64 0))) fun bb =>
 pickA d bb (.bool false) fun bc =>
 condA bc (
 kr (.int .u64 0) (.int .i64 0) (.int .i64 21)) (
 pureA (binA .add x9 (.int .i64 1)) fun bd =>
 kr e bd (.int .i64 0))) (
 pureA (binA .add x9 (.int .i64 1)) fun be =>
 R x0 e x3 x4 x8 be))) (
 k0 x2 x3 x4)
def q1i (P : Program) (w0 : World) (k0 : Ko3) (kr : Ko3) : Nat → Value → Value → Value → Value → Value → Value → Hp → Prop
 | 0, _, _, _, _, _, _ => fun _ => False
 | m + 1, x0, x2, x3, x4, x8, x9 => q4b P w0 (q1i P w0 k0 kr m) k0 kr x0 x2 x3 x4 x8 x9
def qo0 (P : Program) (w0 : World) (k0 : Ko3) (kr : Ko3) (x0 x2 x3 x4 x8 x9 : Value) : Hp → Prop := fun h => ∃ m, q1i P w0 k0 kr m x0 x2 x3 x4 x8 x9 h
def qar (P : Program) (w0 : World) (a0 : Value) (R : Kont) : Hp → Prop :=
 pureA (lenStr a0) fun b =>
 qo0 P w0 (fun g i j =>
 retA [(.int .u64 0), (.int .i64 0), (.int .i64 20)] R) (fun c d e =>
 retA [c, d, e] R) a0 (.int .u64 0) (.int .i64 0) (.int .i64 0) b (.int .i64 0)
theorem qy6 (w0 : World) (k0 : Ko3) (kr : Ko3) : ∀ (m : Nat) (x0 x2 x3 x4 x8 x9 : Value) (h : Hp), loopA (stepL ⟨prog, w0, 41, q7a⟩ (drw w0 41) (loopAt q79 0)) m (mkFr [(0, x0), (2, x2), (3, x3), (4, x4), (8, x8), (9, x9)]) [fun t => k0 (t 2) (t 3) (t 4), fun t => kr (t 2) (t 3) (t 4)] h = q1i prog w0 k0 kr m x0 x2 x3 x4 x8 x9 h := by
 intro m
 induction m with
 | zero => intros; kernel_rfl
 | succ m ih =>
  intro x0 x2 x3 x4 x8 x9 h
  have e : q1i prog w0 k0 kr m = fun x0 x2 x3 x4 x8 x9 h => loopA (stepL ⟨prog, w0, 41, q7a⟩ (drw w0 41) (loopAt q79 0)) m (mkFr [(0, x0), (2, x2), (3, x3), (4, x4), (8, x8), (9, x9)]) [fun t => k0 (t 2) (t 3) (t 4), fun t => kr (t 2) (t 3) (t 4)] h := by funext x0 x2 x3 x4 x8 x9 h; exact (ih x0 x2 x3 x4 x8 x9 h).symm
  show _ = q4b prog w0 (q1i prog w0 k0 kr m) k0 kr x0 x2 x3 x4 x8 x9 h
  rw [e]
  kernel_rfl
theorem qy0 (w0 : World) : qo0 prog w0 = fun k0 kr x0 x2 x3 x4 x8 x9 h => ∃ m, loopA (stepL ⟨prog, w0, 41, q7a⟩ (drw w0 41) (loopAt q79 0)) m (mkFr [(0, x0), (2, x2), (3, x3), (4, x4), (8, x8), (9, x9)]) [fun t => k0 (t 2) (t 3) (t 4), fun t => kr (t 2) (t 3) (t 4)] h := by
 funext k0 kr x0 x2 x3 x4 x8 x9 h
 exact congrArg Exists (funext fun m => (qy6 w0 k0 kr m x0 x2 x3 x4 x8 x9 h).symm)
theorem qzh {w0 : World} {h : Hp} {R : Kont} {a0 : Value} (hj : ∀ v, v ∈ [a0] → v ≠ junk) (hv : qar prog w0 a0 R h) : ACalls prog w0 qfq [a0] h R := by
 have e : vcFn ⟨prog, w0, 41, q7a⟩ (drw w0 41) q79 [a0] R h = qar prog w0 a0 R h := by
  unfold qar
  rw [qy0 w0]
  kernel_rfl
 exact qf (fn := q79) (ks := q7a) (n := 41) (by kernel_rfl) (by kernel_rfl) (qe (by kernel_rfl)) (by simp) hj e hv
abbrev q6l : Func := f149
def q6m : List (Nat × List Nat × List Nat) := [(2, [0, 1, 2, 6, 11, 12], [0, 6])]
def qdz (P : Program) (w0 : World) (R : Ko6) (k0 : Ko2) (x0 x1 x2 x6 x11 x12 : Value) : Hp → Prop :=
 pureA (binA .lss x12 x11) fun b =>
 condA b (
 pureA (binA .sub x2 (.int .i64 1)) fun c =>
 pureA (binA .sub c x12) fun d =>
 idxSlA 1 x6 d fun e =>
 storeA w0 e x1 fun _ =>
 pureA (binA .shr x1 (.int .u64 4)) fun g =>
 pureA (binA .shr g (.int .u64 4)) fun i =>
 pureA (binA .add x12 (.int .i64 1)) fun j =>
 R x0 i x2 x6 x11 j) (
 k0 x0 x6)
def q4u (P : Program) (w0 : World) (k0 : Ko2) : Nat → Value → Value → Value → Value → Value → Value → Hp → Prop
 | 0, _, _, _, _, _, _ => fun _ => False
 | m + 1, x0, x1, x2, x6, x11, x12 => qdz P w0 (q4u P w0 k0 m) k0 x0 x1 x2 x6 x11 x12
def qdv (P : Program) (w0 : World) (k0 : Ko2) (x0 x1 x2 x6 x11 x12 : Value) : Hp → Prop := fun h => ∃ m, q4u P w0 k0 m x0 x1 x2 x6 x11 x12 h
def q6w (P : Program) (w0 : World) (a0 a1 a2 : Value) (R : Kont) : Hp → Prop :=
 mkA 1 1 [(.int .u8 0)] a2 a2 fun b =>
 pureA (lenSl b) fun c =>
 qdv P w0 (fun d e =>
 callA P w0 q3e [d, e] fun g =>
 retA [] R) a0 a1 a2 b c (.int .i64 0)
theorem qw4 (w0 : World) (k0 : Ko2) : ∀ (m : Nat) (x0 x1 x2 x6 x11 x12 : Value) (h : Hp), loopA (stepL ⟨prog, w0, 30, q6m⟩ (drw w0 30) (loopAt q6l 0)) m (mkFr [(0, x0), (1, x1), (2, x2), (6, x6), (11, x11), (12, x12)]) [fun t => k0 (t 0) (t 6)] h = q4u prog w0 k0 m x0 x1 x2 x6 x11 x12 h := by
 intro m
 induction m with
 | zero => intros; kernel_rfl
 | succ m ih =>
  intro x0 x1 x2 x6 x11 x12 h
  have e : q4u prog w0 k0 m = fun x0 x1 x2 x6 x11 x12 h => loopA (stepL ⟨prog, w0, 30, q6m⟩ (drw w0 30) (loopAt q6l 0)) m (mkFr [(0, x0), (1, x1), (2, x2), (6, x6), (11, x11), (12, x12)]) [fun t => k0 (t 0) (t 6)] h := by funext x0 x1 x2 x6 x11 x12 h; exact (ih x0 x1 x2 x6 x11 x12 h).symm
  show _ = qdz prog w0 (q4u prog w0 k0 m) k0 x0 x1 x2 x6 x11 x12 h
  rw [e]
  kernel_rfl
theorem qw2 (w0 : World) : qdv prog w0 = fun k0 x0 x1 x2 x6 x11 x12 h => ∃ m, loopA (stepL ⟨prog, w0, 30, q6m⟩ (drw w0 30) (loopAt q6l 0)) m (mkFr [(0, x0), (1, x1), (2, x2), (6, x6), (11, x11), (12, x12)]) [fun t => k0 (t 0) (t 6)] h := by
 funext k0 x0 x1 x2 x6 x11 x12 h
 exact congrArg Exists (funext fun m => (qw4 w0 k0 m x0 x1 x2 x6 x11 x12 h).symm)
theorem qx4 {w0 : World} {h : Hp} {R : Kont} {a0 a1 a2 : Value} (hj : ∀ v, v ∈ [a0, a1, a2] → v ≠ junk) (hv : q6w prog w0 a0 a1 a2 R h) : ACalls prog w0 qlk [a0, a1, a2] h R := by
 have e : vcFn ⟨prog, w0, 30, q6m⟩ (drw w0 30) q6l [a0, a1, a2] R h = q6w prog w0 a0 a1 a2 R h := by
  unfold q6w
  rw [qw2 w0]
  kernel_rfl
 exact qf (fn := q6l) (ks := q6m) (n := 30) (by kernel_rfl) (by kernel_rfl) (qe (by kernel_rfl)) (by simp) hj e hv
abbrev q6h : Func := f150
def q6e : List (Nat × List Nat × List Nat) := [(2, [0, 1, 2, 6, 11, 12], [0, 6])]
def q9q (P : Program) (w0 : World) (R : Ko6) (k0 : Ko2) (x0 x1 x2 x6 x11 x12 : Value) : Hp → Prop :=
 pureA (binA .lss x12 x11) fun b =>
 condA b (
 pureA (binA .sub x2 (.int .i64 1)) fun c =>
 pureA (binA .sub c x12) fun d =>
 pureA (convA .u8 x1) fun e =>
 idxSlA 1 x6 d fun g =>
 storeA w0 g e fun _ =>
 pureA (binA .shr x1 (.int .u64 4)) fun i =>
 pureA (binA .shr i (.int .u64 4)) fun j =>
 pureA (binA .add x12 (.int .i64 1)) fun l =>
 R x0 j x2 x6 x11 l) (
 k0 x0 x6)
def q2x (P : Program) (w0 : World) (k0 : Ko2) : Nat → Value → Value → Value → Value → Value → Value → Hp → Prop
 | 0, _, _, _, _, _, _ => fun _ => False
 | m + 1, x0, x1, x2, x6, x11, x12 => q9q P w0 (q2x P w0 k0 m) k0 x0 x1 x2 x6 x11 x12
def qdq (P : Program) (w0 : World) (k0 : Ko2) (x0 x1 x2 x6 x11 x12 : Value) : Hp → Prop := fun h => ∃ m, q2x P w0 k0 m x0 x1 x2 x6 x11 x12 h
def q6o (P : Program) (w0 : World) (a0 a1 a2 : Value) (R : Kont) : Hp → Prop :=
 mkA 1 1 [(.int .u8 0)] a2 a2 fun b =>
 pureA (lenSl b) fun c =>
 qdq P w0 (fun d e =>
 callA P w0 q3e [d, e] fun g =>
 retA [] R) a0 a1 a2 b c (.int .i64 0)
theorem qvo (w0 : World) (k0 : Ko2) : ∀ (m : Nat) (x0 x1 x2 x6 x11 x12 : Value) (h : Hp), loopA (stepL ⟨prog, w0, 31, q6e⟩ (drw w0 31) (loopAt q6h 0)) m (mkFr [(0, x0), (1, x1), (2, x2), (6, x6), (11, x11), (12, x12)]) [fun t => k0 (t 0) (t 6)] h = q2x prog w0 k0 m x0 x1 x2 x6 x11 x12 h := by
 intro m
 induction m with
 | zero => intros; kernel_rfl
 | succ m ih =>
  intro x0 x1 x2 x6 x11 x12 h
  have e : q2x prog w0 k0 m = fun x0 x1 x2 x6 x11 x12 h => loopA (stepL ⟨prog, w0, 31, q6e⟩ (drw w0 31) (loopAt q6h 0)) m (mkFr [(0, x0), (1, x1), (2, x2), (6, x6), (11, x11), (12, x12)]) [fun t => k0 (t 0) (t 6)] h := by funext x0 x1 x2 x6 x11 x12 h; exact (ih x0 x1 x2 x6 x11 x12 h).symm
  show _ = q9q prog w0 (q2x prog w0 k0 m) k0 x0 x1 x2 x6 x11 x12 h
  rw [e]
  kernel_rfl
theorem qvv (w0 : World) : qdq prog w0 = fun k0 x0 x1 x2 x6 x11 x12 h => ∃ m, loopA (stepL ⟨prog, w0, 31, q6e⟩ (drw w0 31) (loopAt q6h 0)) m (mkFr [(0, x0), (1, x1), (2, x2), (6, x6), (11, x11), (12, x12)]) [fun t => k0 (t 0) (t 6)] h := by
 funext k0 x0 x1 x2 x6 x11 x12 h
 exact congrArg Exists (funext fun m => (qvo w0 k0 m x0 x1 x2 x6 x11 x12 h).symm)
theorem qwv {w0 : World} {h : Hp} {R : Kont} {a0 a1 a2 : Value} (hj : ∀ v, v ∈ [a0, a1, a2] → v ≠ junk) (hv : q6o prog w0 a0 a1 a2 R h) : ACalls prog w0 ql3 [a0, a1, a2] h R := by
 have e : vcFn ⟨prog, w0, 31, q6e⟩ (drw w0 31) q6h [a0, a1, a2] R h = q6o prog w0 a0 a1 a2 R h := by
  unfold q6o
  rw [qvv w0]
  kernel_rfl
 exact qf (fn := q6h) (ks := q6e) (n := 31) (by kernel_rfl) (by kernel_rfl) (qe (by kernel_rfl)) (by simp) hj e hv
abbrev qlg : Func := f159
def qlq : List (Nat × List Nat × List Nat) := []
def qly (P : Program) (w0 : World) (a0 : Value) (R : Kont) : Hp → Prop :=
 callA P w0 q14 [a0] fun c =>
 pureA (binPtrA .eql a0 (.pointer none)) fun b =>
 guardA b false (fun K => K a0) fun d =>
 guardA b false (nilA d) fun e =>
 guardA b false (addA e 1) fun g =>
 guardA b false (loadA w0 g) fun i =>
 guardA b false (pureA (binA .neq i (.int .i64 0))) fun j =>
 pickA b (.bool true) j fun l =>
 condA l (
 retA [(.string .empty)] R) (
 nilA a0 fun o =>
 addA o 0 fun s =>
 loadA w0 s fun u =>
 pureA (lenStr u) fun v =>
 pureA (convA .u64 v) fun z =>
 pureA (binA .gtr c z) fun ba =>
 condA ba (
 callA P w0 q4v [a0, (.int .i64 20)] fun bb =>
 retA [bb] R) (
 pureA (convA .i64 c) fun bc =>
 callA P w0 q18 [a0, bc] fun bd =>
 retA [bd] R))
theorem qxg {w0 : World} {h : Hp} {R : Kont} {a0 : Value} (hj : ∀ v, v ∈ [a0] → v ≠ junk) (hv : qly prog w0 a0 R h) : ACalls prog w0 qe6 [a0] h R := by
 have e : vcFn ⟨prog, w0, 29, qlq⟩ (drw w0 29) qlg [a0] R h = qly prog w0 a0 R h := by
  kernel_rfl
 exact qf (fn := qlg) (ks := qlq) (n := 29) (by kernel_rfl) (by kernel_rfl) (qe (by kernel_rfl)) (by simp) hj e hv
abbrev qlh : Func := f171
def qlt : List (Nat × List Nat × List Nat) := []
def qeb (P : Program) (w0 : World) (a0 : Value) (R : Kont) : Hp → Prop :=
 pureA (binPtrA .eql a0 (.pointer none)) fun b =>
 guardA b false (fun K => K a0) fun c =>
 guardA b false (nilA c) fun d =>
 guardA b false (addA d 1) fun e =>
 guardA b false (loadA w0 e) fun g =>
 guardA b false (pureA (binA .neq g (.int .i64 0))) fun i =>
 pickA b (.bool true) i fun j =>
 condA j (
 retA [(.int .i64 0)] R) (
 nilA a0 fun l =>
 addA l 0 fun o =>
 loadA w0 o fun s =>
 pureA (lenStr s) fun u =>
 retA [u] R)
theorem qxa {w0 : World} {h : Hp} {R : Kont} {a0 : Value} (hj : ∀ v, v ∈ [a0] → v ≠ junk) (hv : qeb prog w0 a0 R h) : ACalls prog w0 qed [a0] h R := by
 have e : vcFn ⟨prog, w0, 17, qlt⟩ (drw w0 17) qlh [a0] R h = qeb prog w0 a0 R h := by
  kernel_rfl
 exact qf (fn := qlh) (ks := qlt) (n := 17) (by kernel_rfl) (by kernel_rfl) (qe (by kernel_rfl)) (by simp) hj e hv
end
end Go.Proofs.YtfmoemconapmhaaGreat.Ah
