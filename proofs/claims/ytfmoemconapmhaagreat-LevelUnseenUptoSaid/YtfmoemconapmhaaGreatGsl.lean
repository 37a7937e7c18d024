/- PRINTED by wip/tools/shallow.py: functions of the program as readable words, and that each is what its text says. -/
import Derived.Test.YtfmoemconapmhaaGreatGn
set_option linter.unusedVariables false
set_option linter.unusedSimpArgs false
namespace Go.Proofs.YtfmoemconapmhaaGreat.Ah
open Go Go.Proofs.Tryz
noncomputable section
abbrev qjc : Func := f43
def qjb : List (Nat × List Nat × List Nat) := []
def qcw (P : Program) (w0 : World) (a0 a1 a2 : Value) (R : Kont) : Hp → Prop :=
 slSlA 1 a0 (some a1) none none fun ca =>
 pureA (lenSl a2) fun b =>
 pureA (binA .eql b (.int .i64 0)) fun g =>
 condA g (
 retA [a0] R) (
 pureA (lenSl a0) fun d =>
 pureA (binA .eql a1 d) fun i =>
 condA i (
 appA w0 1 8 a0 a2 fun j =>
 retA [j] R) (
 pureA (binA .add d b) fun l =>
 capA w0 1 a0 fun o =>
 pureA (binA .gtr l o) fun s =>
 condA s (
 slSlA 1 a0 none (some a1) none fun u =>
 pureA (binA .add d b) fun v =>
 pureA (binA .sub v a1) fun z =>
 appZA w0 1 8 [(.pointer none)] u z fun e =>
 slSlA 1 e (some a1) none none fun ba =>
 copyA w0 1 ba a2 fun cb =>
 pureQ (fun K => K e) fun bb =>
 pureQ (fun K => K a1) fun bc =>
 pureQ (fun K => K b) fun bd =>
 pureQ (pureA (binA .add bc bd)) fun be =>
 readQ (slSlA 1 bb (some be) none none) fun bf =>
 pureQ (fun K => K a0) fun bg =>
 pureQ (fun K => K a1) fun bh =>
 readQ (slSlA 1 bg (some bh) none none) fun bi =>
 allA [
 (copyA w0 1 bf bi fun cc =>
 stillA [] (
 endA (
 retA [e] R)))]) (
 pureA (binA .add d b) fun bj =>
 slSlA 1 a0 none (some bj) none fun c =>
 pureA (binA .add a1 b) fun bk =>
 slSlA 1 c (some bk) none none fun bl =>
 ovA P w0 qk8 a2 bl fun bm =>
 pureA (unA .not bm) fun bn =>
 condA bn (
 pureQ (fun K => K c) fun bo =>
 pureQ (fun K => K a1) fun bp =>
 pureQ (fun K => K b) fun bq =>
 pureQ (pureA (binA .add bp bq)) fun br =>
 readQ (slSlA 1 bo (some br) none none) fun bs =>
 pureQ (fun K => K c) fun bt =>
 pureQ (fun K => K a1) fun bu =>
 readQ (slSlA 1 bt (some bu) none none) fun bv =>
 allA [
 (copyA w0 1 bs bv fun cd =>
 stillA [] (
 endA (
 slSlA 1 c (some a1) none none fun bw =>
 copyA w0 1 bw a2 fun ce =>
 retA [c] R)))]) (
 slSlA 1 c (some d) none none fun bx =>
 copyA w0 1 bx a2 fun cf =>
 slSlA 1 c (some a1) none none fun bz =>
 callA P w0 qv0 [bz, b] fun cg =>
 retA [c] R))))
theorem qug {w0 : World} {h : Hp} {R : Kont} {a0 a1 a2 : Value} (hj : ∀ v, v ∈ [a0, a1, a2] → v ≠ junk) (hv : qcw prog w0 a0 a1 a2 R h) : ACalls prog w0 q64 [a0, a1, a2] h R := by
 have e : vcFn ⟨prog, w0, 95, qjb⟩ (drw w0 95) qjc [a0, a1, a2] R h = qcw prog w0 a0 a1 a2 R h := by
  kernel_rfl
 exact qf (fn := qjc) (ks := qjb) (n := 95) (by kernel_rfl) (by kernel_rfl) (qe (by kernel_rfl)) (by simp) hj e hv
abbrev qje : Func := f44
def qjf : List (Nat × List Nat × List Nat) := []
def qcy (P : Program) (w0 : World) (a0 : Value) (R : Kont) : Hp → Prop :=
 pureA (binSlA .eql a0 (.slice none 0 0)) fun b =>
 condA b (
 retA [(.slice none 0 0)] R) (
 bslA [] (zerosL [(.pointer none)] 0) 0 1 fun c =>
 appA w0 1 8 c a0 fun d =>
 retA [d] R)
theorem quk {w0 : World} {h : Hp} {R : Kont} {a0 : Value} (hj : ∀ v, v ∈ [a0] → v ≠ junk) (hv : qcy prog w0 a0 R h) : ACalls prog w0 q8y [a0] h R := by
 have e : vcFn ⟨prog, w0, 8, qjf⟩ (drw w0 8) qje [a0] R h = qcy prog w0 a0 R h := by
  kernel_rfl
 exact qf (fn := qje) (ks := qjf) (n := 8) (by kernel_rfl) (by kernel_rfl) (qe (by kernel_rfl)) (by simp) hj e hv
abbrev qk7 : Func := f46
def qk6 : List (Nat × List Nat × List Nat) := []
def qdi (P : Program) (w0 : World) (a0 : Value) (R : Kont) : Hp → Prop :=
 callA P w0 qj8 [(.slice none 0 0), a0] fun b =>
 retA [b] R
theorem qvj {w0 : World} {h : Hp} {R : Kont} {a0 : Value} (hj : ∀ v, v ∈ [a0] → v ≠ junk) (hv : qdi prog w0 a0 R h) : ACalls prog w0 qdj [a0] h R := by
 have e : vcFn ⟨prog, w0, 5, qk6⟩ (drw w0 5) qk7 [a0] R h = qdi prog w0 a0 R h := by
  kernel_rfl
 exact qf (fn := qk7) (ks := qk6) (n := 5) (by kernel_rfl) (by kernel_rfl) (qe (by kernel_rfl)) (by simp) hj e hv
abbrev qiz : Func := f50
def qj0 : List (Nat × List Nat × List Nat) := []
def qcu (P : Program) (w0 : World) (a0 a1 : Value) (R : Kont) : Hp → Prop :=
 callA P w0 qj9 [a0, a1] fun b =>
 pureA (binA .geq b (.int .i64 0)) fun c =>
 retA [c] R
theorem qu8 {w0 : World} {h : Hp} {R : Kont} {a0 a1 : Value} (hj : ∀ v, v ∈ [a0, a1] → v ≠ junk) (hv : qcu prog w0 a0 a1 R h) : ACalls prog w0 qct [a0, a1] h R := by
 have e : vcFn ⟨prog, w0, 9, qj0⟩ (drw w0 9) qiz [a0, a1] R h = qcu prog w0 a0 a1 R h := by
  kernel_rfl
 exact qf (fn := qiz) (ks := qj0) (n := 9) (by kernel_rfl) (by kernel_rfl) (qe (by kernel_rfl)) (by simp) hj e hv
abbrev qj6 : Func := f97
def qj5 : List (Nat × List Nat × List Nat) := []
def qj4 (P : Program) (w0 : World) (b : Nat) (g : Lp) (K : Kont) (x2 y7 : Value) : Hp → Prop :=
 newA [(.string .empty), (.string .empty), (.bool false)] 3 fun c =>
 storeNA w0 c y7 3 fun _ =>
 beginA b g (
 loadA w0 x2 fun d =>
 loadNA w0 c 3 fun e =>
 bslA [(0, 3, true, e)] (zerosL [(.string .empty), (.string .empty), (.bool false)] 1) 1 3 fun i =>
 appA w0 3 40 d i fun j =>
 storeA w0 x2 j fun _ =>
 endR b g none K)
def qcv (P : Program) (w0 : World) (a0 a1 : Value) (R : Kont) : Hp → Prop :=
 fun h0 => (boxA false 1 a0 fun c =>
 rangeA P w0 a1 1 (fun b g args K => qj4 P w0 b g K c (args.getD 0 undef)) (
 loadA w0 c fun d =>
 cutA h0 (
 retA [d] R)) []) h0
theorem qub {w0 : World} {h : Hp} {R : Kont} {a0 a1 : Value} (hj : ∀ v, v ∈ [a0, a1] → v ≠ junk) (hv : qcv prog w0 a0 a1 R h) : ACalls prog w0 qj8 [a0, a1] h R := by
 have e : vcFnM ⟨prog, w0, 13, qj5⟩ (drw w0 13) qj6 [a0, a1] R h = qcv prog w0 a0 a1 R h := by
  kernel_rfl
 exact q7e (fn := qj6) (ks := qj5) (n := 13) (by kernel_rfl) (by kernel_rfl) (qe (by kernel_rfl)) (by simp) hj e hv
abbrev q5y : Func := f101
def q5z : List (Nat × List Nat × List Nat) := [(2, [0, 1, 4, 7, 8], [4])]
def q8u (P : Program) (w0 : World) (R : Ko5) (k0 : Ko1) (kr : Ko1) (x0 x1 x4 x7 x8 : Value) : Hp → Prop :=
 pureA (binA .lss x8 x7) fun b =>
 condA b (
 idxSlA 1 x0 x8 fun c =>
 loadA w0 c fun d =>
 callVA P w0 x1 [d] fun e =>
 condA e (
 kr x8) (
 pureA (binA .add x8 (.int .i64 1)) fun g =>
 R x0 x1 x4 x7 g)) (
 k0 x4)
def q2j (P : Program) (w0 : World) (k0 : Ko1) (kr : Ko1) : Nat → Value → Value → Value → Value → Value → Hp → Prop
 | 0, _, _, _, _, _ => fun _ => False
 | m + 1, x0, x1, x4, x7, x8 => q8u P w0 (q2j P w0 k0 kr m) k0 kr x0 x1 x4 x7 x8
def qj7 (P : Program) (w0 : World) (k0 : Ko1) (kr : Ko1) (x0 x1 x4 x7 x8 : Value) : Hp → Prop := fun h => ∃ m, q2j P w0 k0 kr m x0 x1 x4 x7 x8 h
def q8v (P : Program) (w0 : World) (a0 a1 : Value) (R : Kont) : Hp → Prop :=
 pureA (lenSl a0) fun b =>
 qj7 P w0 (fun d =>
 retA [(.int .i64 (-1))] R) (fun c =>
 retA [c] R) a0 a1 (.int .i64 0) b (.int .i64 0)
theorem qu7 (w0 : World) (k0 : Ko1) (kr : Ko1) : ∀ (m : Nat) (x0 x1 x4 x7 x8 : Value) (h : Hp), loopA (stepL ⟨prog, w0, 19, q5z⟩ (drw w0 19) (loopAt q5y 0)) m (mkFr [(0, x0), (1, x1), (4, x4), (7, x7), (8, x8)]) [fun t => k0 (t 4), fun t => kr (t 4)] h = q2j prog w0 k0 kr m x0 x1 x4 x7 x8 h := by
 intro m
 induction m with
 | zero => intros; kernel_rfl
 | succ m ih =>
  intro x0 x1 x4 x7 x8 h
  have e : q2j prog w0 k0 kr m = fun x0 x1 x4 x7 x8 h => loopA (stepL ⟨prog, w0, 19, q5z⟩ (drw w0 19) (loopAt q5y 0)) m (mkFr [(0, x0), (1, x1), (4, x4), (7, x7), (8, x8)]) [fun t => k0 (t 4), fun t => kr (t 4)] h := by funext x0 x1 x4 x7 x8 h; exact (ih x0 x1 x4 x7 x8 h).symm
  show _ = q8u prog w0 (q2j prog w0 k0 kr m) k0 kr x0 x1 x4 x7 x8 h
  rw [e]
  kernel_rfl
theorem qu6 (w0 : World) : qj7 prog w0 = fun k0 kr x0 x1 x4 x7 x8 h => ∃ m, loopA (stepL ⟨prog, w0, 19, q5z⟩ (drw w0 19) (loopAt q5y 0)) m (mkFr [(0, x0), (1, x1), (4, x4), (7, x7), (8, x8)]) [fun t => k0 (t 4), fun t => kr (t 4)] h := by
 funext k0 kr x0 x1 x4 x7 x8 h
 exact congrArg Exists (funext fun m => (qu7 w0 k0 kr m x0 x1 x4 x7 x8 h).symm)
theorem quc {w0 : World} {h : Hp} {R : Kont} {a0 a1 : Value} (hj : ∀ v, v ∈ [a0, a1] → v ≠ junk) (hv : q8v prog w0 a0 a1 R h) : ACalls prog w0 qj9 [a0, a1] h R := by
 have e : vcFn ⟨prog, w0, 19, q5z⟩ (drw w0 19) q5y [a0, a1] R h = q8v prog w0 a0 a1 R h := by
  unfold q8v
  rw [qu6 w0]
  kernel_rfl
 exact qf (fn := q5y) (ks := q5z) (n := 19) (by kernel_rfl) (by kernel_rfl) (qe (by kernel_rfl)) (by simp) hj e hv
abbrev qk9 : Func := f113
def qka : List (Nat × List Nat × List Nat) := []
def qdl (P : Program) (w0 : World) (a0 : Value) (R : Kont) : Hp → Prop :=
 pureA (binSlA .eql a0 (.slice none 0 0)) fun b =>
 condA b (
 retA [(.slice none 0 0)] R) (
 bslA [] (zerosL [(.int .u8 0)] 0) 0 1 fun c =>
 appA w0 1 1 c a0 fun d =>
 retA [d] R)
theorem qvp {w0 : World} {h : Hp} {R : Kont} {a0 : Value} (hj : ∀ v, v ∈ [a0] → v ≠ junk) (hv : qdl prog w0 a0 R h) : ACalls prog w0 qdm [a0] h R := by
 have e : vcFn ⟨prog, w0, 8, qka⟩ (drw w0 8) qk9 [a0] R h = qdl prog w0 a0 R h := by
  kernel_rfl
 exact qf (fn := qk9) (ks := qka) (n := 8) (by kernel_rfl) (by kernel_rfl) (qe (by kernel_rfl)) (by simp) hj e hv
abbrev qoi : Func := f136
def qof : List (Nat × List Nat × List Nat) := []
def qft (P : Program) (w0 : World) (a0 a1 : Value) (R : Kont) : Hp → Prop :=
 b2sA w0 a0 fun b =>
 b2sA w0 a1 fun c =>
 pureA (binA .eql b c) fun d =>
 retA [d] R
theorem qzx {w0 : World} {h : Hp} {R : Kont} {a0 a1 : Value} (hj : ∀ v, v ∈ [a0, a1] → v ≠ junk) (hv : qft prog w0 a0 a1 R h) : ACalls prog w0 qfn [a0, a1] h R := by
 have e : vcFn ⟨prog, w0, 10, qof⟩ (drw w0 10) qoi [a0, a1] R h = qft prog w0 a0 a1 R h := by
  kernel_rfl
 exact qf (fn := qoi) (ks := qof) (n := 10) (by kernel_rfl) (by kernel_rfl) (qe (by kernel_rfl)) (by simp) hj e hv
abbrev qky : Func := f142
def ql7 : List (Nat × List Nat × List Nat) := []
def qe4 (P : Program) (w0 : World) (a0 a1 : Value) (R : Kont) : Hp → Prop :=
 callA P w0 qac [a0] fun c =>
 callA P w0 qac [a1] fun b =>
 condA c (
 condA b (
 retA [(.int .i64 0)] R) (
 retA [(.int .i64 (-1))] R)) (
 condA b (
 retA [(.int .i64 1)] R) (
 pureA (binA .lss a0 a1) fun d =>
 condA d (
 retA [(.int .i64 (-1))] R) (
 pureA (binA .gtr a0 a1) fun e =>
 condA e (
 retA [(.int .i64 1)] R) (
 retA [(.int .i64 0)] R))))
theorem qx0 {w0 : World} {h : Hp} {R : Kont} {a0 a1 : Value} (hj : ∀ v, v ∈ [a0, a1] → v ≠ junk) (hv : qe4 prog w0 a0 a1 R h) : ACalls prog w0 qa3 [a0, a1] h R := by
 have e : vcFn ⟨prog, w0, 20, ql7⟩ (drw w0 20) qky [a0, a1] R h = qe4 prog w0 a0 a1 R h := by
  kernel_rfl
 exact qf (fn := qky) (ks := ql7) (n := 20) (by kernel_rfl) (by kernel_rfl) (qe (by kernel_rfl)) (by simp) hj e hv
abbrev qiw : Func := f152
def qiv : List (Nat × List Nat × List Nat) := []
def qcr (P : Program) (w0 : World) (a0 : Value) (R : Kont) : Hp → Prop :=
 pureA (binSlA .eql a0 (.slice none 0 0)) fun b =>
 condA b (
 retA [(.slice none 0 0)] R) (
 bslA [] (zerosL [(.string .empty), (.string .empty), (.string .empty), (.bool false)] 0) 0 4 fun c =>
 appA w0 4 56 c a0 fun d =>
 retA [d] R)
theorem qtw {w0 : World} {h : Hp} {R : Kont} {a0 : Value} (hj : ∀ v, v ∈ [a0] → v ≠ junk) (hv : qcr prog w0 a0 R h) : ACalls prog w0 qcq [a0] h R := by
 have e : vcFn ⟨prog, w0, 8, qiv⟩ (drw w0 8) qiw [a0] R h = qcr prog w0 a0 R h := by
  kernel_rfl
 exact qf (fn := qiw) (ks := qiv) (n := 8) (by kernel_rfl) (by kernel_rfl) (qe (by kernel_rfl)) (by simp) hj e hv
abbrev qiu : Func := f155
def qit : List (Nat × List Nat × List Nat) := []
def qcp (P : Program) (w0 : World) (a0 a1 a2 : Value) (R : Kont) : Hp → Prop :=
 slSlA 4 a0 (some a1) none none fun ca =>
 pureA (lenSl a2) fun b =>
 pureA (binA .eql b (.int .i64 0)) fun g =>
 condA g (
 retA [a0] R) (
 pureA (lenSl a0) fun d =>
 pureA (binA .eql a1 d) fun i =>
 condA i (
 appA w0 4 56 a0 a2 fun j =>
 retA [j] R) (
 pureA (binA .add d b) fun l =>
 capA w0 4 a0 fun o =>
 pureA (binA .gtr l o) fun s =>
 condA s (
 slSlA 4 a0 none (some a1) none fun u =>
 pureA (binA .add d b) fun v =>
 pureA (binA .sub v a1) fun z =>
 appZA w0 4 56 [(.string .empty), (.string .empty), (.string .empty), (.bool false)] u z fun e =>
 slSlA 4 e (some a1) none none fun ba =>
 copyA w0 4 ba a2 fun cb =>
 pureQ (fun K => K e) fun bb =>
 pureQ (fun K => K a1) fun bc =>
 pureQ (fun K => K b) fun bd =>
 pureQ (pureA (binA .add bc bd)) fun be =>
 readQ (slSlA 4 bb (some be) none none) fun bf =>
 pureQ (fun K => K a0) fun bg =>
 pureQ (fun K => K a1) fun bh =>
 readQ (slSlA 4 bg (some bh) none none) fun bi =>
 allA [
 (copyA w0 4 bf bi fun cc =>
 stillA [] (
 endA (
 retA [e] R)))]) (
 pureA (binA .add d b) fun bj =>
 slSlA 4 a0 none (some bj) none fun c =>
 pureA (binA .add a1 b) fun bk =>
 slSlA 4 c (some bk) none none fun bl =>
 ovA P w0 qj1 a2 bl fun bm =>
 pureA (unA .not bm) fun bn =>
 condA bn (
 pureQ (fun K => K c) fun bo =>
 pureQ (fun K => K a1) fun bp =>
 pureQ (fun K => K b) fun bq =>
 pureQ (pureA (binA .add bp bq)) fun br =>
 readQ (slSlA 4 bo (some br) none none) fun bs =>
 pureQ (fun K => K c) fun bt =>
 pureQ (fun K => K a1) fun bu =>
 readQ (slSlA 4 bt (some bu) none none) fun bv =>
 allA [
 (copyA w0 4 bs bv fun cd =>
 stillA [] (
 endA (
 slSlA 4 c (some a1) none none fun bw =>
 copyA w0 4 bw a2 fun ce =>
 retA [c] R)))]) (
 slSlA 4 c (some d) none none fun bx =>
 copyA w0 4 bx a2 fun cf =>
 slSlA 4 c (some a1) none none fun bz =>
 callA P w0 qu0 [bz, b] fun cg =>
 retA [c] R))))
theorem qtv {w0 : World} {h : Hp} {R : Kont} {a0 a1 a2 : Value} (hj : ∀ v, v ∈ [a0, a1, a2] → v ≠ junk) (hv : qcp prog w0 a0 a1 a2 R h) : ACalls prog w0 q8p [a0, a1, a2] h R := by
 have e : vcFn ⟨prog, w0, 95, qit⟩ (drw w0 95) qiu [a0, a1, a2] R h = qcp prog w0 a0 a1 a2 R h := by
  kernel_rfl
 exact qf (fn := qiu) (ks := qit) (n := 95) (by kernel_rfl) (by kernel_rfl) (qe (by kernel_rfl)) (by simp) hj e hv
abbrev q5t : Func := f162
def q5s : List (Nat × List Nat × List Nat) := [(3, [0, 1, 2, 8, 9, 10], [0, 1, 2, 8, 9])]
def q4s (P : Program) (w0 : World) (R : Ko6) (k0 : Ko5) (x0 x1 x2 x8 x9 x10 : Value) : Hp → Prop :=
 pureA (binA .lss x9 x10) fun c =>
 condA c (
 pureA (binA .add x9 x10) fun d =>
 pureA (convA .u64 d) fun e =>
 pureA (binA .shr e (.int .u64 1)) fun g =>
 pureA (convA .i64 g) fun b =>
 idxSlA 3 x0 b fun i =>
 loadNA w0 i 3 fun j =>
 callVA P w0 x2 [j, x1] fun l =>
 pureA (binA .lss l (.int .i64 0)) fun o =>
 condA o (
 pureA (binA .add b (.int .i64 1)) fun s =>
 R x0 x1 x2 x8 s x10) (
 R x0 x1 x2 x8 x9 b)) (
 k0 x0 x1 x2 x8 x9)
def q1z (P : Program) (w0 : World) (k0 : Ko5) : Nat → Value → Value → Value → Value → Value → Value → Hp → Prop
 | 0, _, _, _, _, _, _ => fun _ => False
 | m + 1, x0, x1, x2, x8, x9, x10 => q4s P w0 (q1z P w0 k0 m) k0 x0 x1 x2 x8 x9 x10
def qix (P : Program) (w0 : World) (k0 : Ko5) (x0 x1 x2 x8 x9 x10 : Value) : Hp → Prop := fun h => ∃ m, q1z P w0 k0 m x0 x1 x2 x8 x9 x10 h
def q8q (P : Program) (w0 : World) (a0 a1 a2 : Value) (R : Kont) : Hp → Prop :=
 pureA (lenSl a0) fun d =>
 qix P w0 (fun e g i j c =>
 pureA (binA .lss c j) fun b =>
 guardA b true (fun K => K i) fun l =>
 guardA b true (fun K => K e) fun o =>
 guardA b true (fun K => K c) fun s =>
 guardA b true (idxSlA 3 o s) fun u =>
 guardA b true (loadNA w0 u 3) fun v =>
 guardA b true (fun K => K g) fun z =>
 guardA b true (callVA P w0 l [v, z]) fun ba =>
 guardA b true (pureA (binA .eql ba (.int .i64 0))) fun bb =>
 pickA b bb (.bool false) fun bc =>
 retA [c, bc] R) a0 a1 a2 d (.int .i64 0) d
theorem qtx (w0 : World) (k0 : Ko5) : ∀ (m : Nat) (x0 x1 x2 x8 x9 x10 : Value) (h : Hp), loopA (stepL ⟨prog, w0, 49, q5s⟩ (drw w0 49) (loopAt q5t 0)) m (mkFr [(0, x0), (1, x1), (2, x2), (8, x8), (9, x9), (10, x10)]) [fun t => k0 (t 0) (t 1) (t 2) (t 8) (t 9)] h = q1z prog w0 k0 m x0 x1 x2 x8 x9 x10 h := by
 intro m
 induction m with
 | zero => intros; kernel_rfl
 | succ m ih =>
  intro x0 x1 x2 x8 x9 x10 h
  have e : q1z prog w0 k0 m = fun x0 x1 x2 x8 x9 x10 h => loopA (stepL ⟨prog, w0, 49, q5s⟩ (drw w0 49) (loopAt q5t 0)) m (mkFr [(0, x0), (1, x1), (2, x2), (8, x8), (9, x9), (10, x10)]) [fun t => k0 (t 0) (t 1) (t 2) (t 8) (t 9)] h := by funext x0 x1 x2 x8 x9 x10 h; exact (ih x0 x1 x2 x8 x9 x10 h).symm
  show _ = q4s prog w0 (q1z prog w0 k0 m) k0 x0 x1 x2 x8 x9 x10 h
  rw [e]
  kernel_rfl
theorem qty (w0 : World) : qix prog w0 = fun k0 x0 x1 x2 x8 x9 x10 h => ∃ m, loopA (stepL ⟨prog, w0, 49, q5s⟩ (drw w0 49) (loopAt q5t 0)) m (mkFr [(0, x0), (1, x1), (2, x2), (8, x8), (9, x9), (10, x10)]) [fun t => k0 (t 0) (t 1) (t 2) (t 8) (t 9)] h := by
 funext k0 x0 x1 x2 x8 x9 x10 h
 exact congrArg Exists (funext fun m => (qtx w0 k0 m x0 x1 x2 x8 x9 x10 h).symm)
theorem qtz {w0 : World} {h : Hp} {R : Kont} {a0 a1 a2 : Value} (hj : ∀ v, v ∈ [a0, a1, a2] → v ≠ junk) (hv : q8q prog w0 a0 a1 a2 R h) : ACalls prog w0 qcs [a0, a1, a2] h R := by
 have e : vcFn ⟨prog, w0, 49, q5s⟩ (drw w0 49) q5t [a0, a1, a2] R h = q8q prog w0 a0 a1 a2 R h := by
  unfold q8q
  rw [qty w0]
  kernel_rfl
 exact qf (fn := q5t) (ks := q5s) (n := 49) (by kernel_rfl) (by kernel_rfl) (qe (by kernel_rfl)) (by simp) hj e hv
abbrev qn5 : Func := f164
def qmq : List (Nat × List Nat × List Nat) := []
def qey (P : Program) (w0 : World) (a0 a1 : Value) (R : Kont) : Hp → Prop :=
 callA P w0 qd1 [a0, a1] fun b =>
 retA [b] R
theorem qy5 {w0 : World} {h : Hp} {R : Kont} {a0 a1 : Value} (hj : ∀ v, v ∈ [a0, a1] → v ≠ junk) (hv : qey prog w0 a0 a1 R h) : ACalls prog w0 qf1 [a0, a1] h R := by
 have e : vcFn ⟨prog, w0, 8, qmq⟩ (drw w0 8) qn5 [a0, a1] R h = qey prog w0 a0 a1 R h := by
  kernel_rfl
 exact qf (fn := qn5) (ks := qmq) (n := 8) (by kernel_rfl) (by kernel_rfl) (qe (by kernel_rfl)) (by simp) hj e hv
abbrev qm2 : Func := f165
def qm6 : List (Nat × List Nat × List Nat) := []
def qer (P : Program) (w0 : World) (a0 : Value) (R : Kont) : Hp → Prop :=
 pureA (binA .neq a0 a0) fun b =>
 retA [b] R
theorem qxq {w0 : World} {h : Hp} {R : Kont} {a0 : Value} (hj : ∀ v, v ∈ [a0] → v ≠ junk) (hv : qer prog w0 a0 R h) : ACalls prog w0 qac [a0] h R := by
 have e : vcFn ⟨prog, w0, 6, qm6⟩ (drw w0 6) qm2 [a0] R h = qer prog w0 a0 R h := by
  kernel_rfl
 exact qf (fn := qm2) (ks := qm6) (n := 6) (by kernel_rfl) (by kernel_rfl) (qe (by kernel_rfl)) (by simp) hj e hv
abbrev qjj : Func := f172
def qjk : List (Nat × List Nat × List Nat) := []
def qd0 (P : Program) (w0 : World) (a0 a1 : Value) (R : Kont) : Hp → Prop :=
 ovA P w0 qiy a0 a1 fun b =>
 retA [b] R
theorem quq {w0 : World} {h : Hp} {R : Kont} {a0 a1 : Value} (hj : ∀ v, v ∈ [a0, a1] → v ≠ junk) (hv : qd0 prog w0 a0 a1 R h) : ACalls prog w0 qd1 [a0, a1] h R := by
 have e : vcFn ⟨prog, w0, 8, qjk⟩ (drw w0 8) qjj [a0, a1] R h = qd0 prog w0 a0 a1 R h := by
  kernel_rfl
 exact qf (fn := qjj) (ks := qjk) (n := 8) (by kernel_rfl) (by kernel_rfl) (qe (by kernel_rfl)) (by simp) hj e hv
abbrev q5q : Func := f173
def q5r : List (Nat × List Nat × List Nat) := [(3, [0, 1, 2, 8, 9, 10], [0, 1, 2, 8, 9])]
def q4r (P : Program) (w0 : World) (R : Ko6) (k0 : Ko5) (x0 x1 x2 x8 x9 x10 : Value) : Hp → Prop :=
 pureA (binA .lss x9 x10) fun c =>
 condA c (
 pureA (binA .add x9 x10) fun d =>
 pureA (convA .u64 d) fun e =>
 pureA (binA .shr e (.int .u64 1)) fun g =>
 pureA (convA .i64 g) fun b =>
 idxSlA 4 x0 b fun i =>
 loadNA w0 i 4 fun j =>
 callVA P w0 x2 [j, x1] fun l =>
 pureA (binA .lss l (.int .i64 0)) fun o =>
 condA o (
 pureA (binA .add b (.int .i64 1)) fun s =>
 R x0 x1 x2 x8 s x10) (
 R x0 x1 x2 x8 x9 b)) (
 k0 x0 x1 x2 x8 x9)
def q1y (P : Program) (w0 : World) (k0 : Ko5) : Nat → Value → Value → Value → Value → Value → Value → Hp → Prop
 | 0, _, _, _, _, _, _ => fun _ => False
 | m + 1, x0, x1, x2, x8, x9, x10 => q4r P w0 (q1y P w0 k0 m) k0 x0 x1 x2 x8 x9 x10
def qis (P : Program) (w0 : World) (k0 : Ko5) (x0 x1 x2 x8 x9 x10 : Value) : Hp → Prop := fun h => ∃ m, q1y P w0 k0 m x0 x1 x2 x8 x9 x10 h
def q8o (P : Program) (w0 : World) (a0 a1 a2 : Value) (R : Kont) : Hp → Prop :=
 pureA (lenSl a0) fun d =>
 qis P w0 (fun e g i j c =>
 pureA (binA .lss c j) fun b =>
 guardA b true (fun K => K i) fun l =>
 guardA b true (fun K => K e) fun o =>
 guardA b true (fun K => K c) fun s =>
 guardA b true (idxSlA 4 o s) fun u =>
 guardA b true (loadNA w0 u 4) fun v =>
 guardA b true (fun K => K g) fun z =>
 guardA b true (callVA P w0 l [v, z]) fun ba =>
 guardA b true (pureA (binA .eql ba (.int .i64 0))) fun bb =>
 pickA b bb (.bool false) fun bc =>
 retA [c, bc] R) a0 a1 a2 d (.int .i64 0) d
theorem qts (w0 : World) (k0 : Ko5) : ∀ (m : Nat) (x0 x1 x2 x8 x9 x10 : Value) (h : Hp), loopA (stepL ⟨prog, w0, 49, q5r⟩ (drw w0 49) (loopAt q5q 0)) m (mkFr [(0, x0), (1, x1), (2, x2), (8, x8), (9, x9), (10, x10)]) [fun t => k0 (t 0) (t 1) (t 2) (t 8) (t 9)] h = q1y prog w0 k0 m x0 x1 x2 x8 x9 x10 h := by
 intro m
 induction m with
 | zero => intros; kernel_rfl
 | succ m ih =>
  intro x0 x1 x2 x8 x9 x10 h
  have e : q1y prog w0 k0 m = fun x0 x1 x2 x8 x9 x10 h => loopA (stepL ⟨prog, w0, 49, q5r⟩ (drw w0 49) (loopAt q5q 0)) m (mkFr [(0, x0), (1, x1), (2, x2), (8, x8), (9, x9), (10, x10)]) [fun t => k0 (t 0) (t 1) (t 2) (t 8) (t 9)] h := by funext x0 x1 x2 x8 x9 x10 h; exact (ih x0 x1 x2 x8 x9 x10 h).symm
  show _ = q4r prog w0 (q1y prog w0 k0 m) k0 x0 x1 x2 x8 x9 x10 h
  rw [e]
  kernel_rfl
theorem qtt (w0 : World) : qis prog w0 = fun k0 x0 x1 x2 x8 x9 x10 h => ∃ m, loopA (stepL ⟨prog, w0, 49, q5r⟩ (drw w0 49) (loopAt q5q 0)) m (mkFr [(0, x0), (1, x1), (2, x2), (8, x8), (9, x9), (10, x10)]) [fun t => k0 (t 0) (t 1) (t 2) (t 8) (t 9)] h := by
 funext k0 x0 x1 x2 x8 x9 x10 h
 exact congrArg Exists (funext fun m => (qts w0 k0 m x0 x1 x2 x8 x9 x10 h).symm)
theorem qtu {w0 : World} {h : Hp} {R : Kont} {a0 a1 a2 : Value} (hj : ∀ v, v ∈ [a0, a1, a2] → v ≠ junk) (hv : q8o prog w0 a0 a1 a2 R h) : ACalls prog w0 qco [a0, a1, a2] h R := by
 have e : vcFn ⟨prog, w0, 49, q5r⟩ (drw w0 49) q5q [a0, a1, a2] R h = q8o prog w0 a0 a1 a2 R h := by
  unfold q8o
  rw [qtt w0]
  kernel_rfl
 exact qf (fn := q5q) (ks := q5r) (n := 49) (by kernel_rfl) (by kernel_rfl) (qe (by kernel_rfl)) (by simp) hj e hv
end
end Go.Proofs.YtfmoemconapmhaaGreat.Ah
