/- PRINTED by wip/tools/shallow.py: functions of the program as readable words, and that each is what its text says. -/
import Derived.Test.YtfmoemconapmhaaGreatGn
set_option linter.unusedVariables false
set_option linter.unusedSimpArgs false
namespace Go.Proofs.YtfmoemconapmhaaGreat.Ah
open Go Go.Proofs.Tryz
noncomputable section
abbrev qnz : Func := f38
def qo7 : List (Nat × List Nat × List Nat) := []
def qfz (P : Program) (w0 : World) (a0 a1 a2 : Value) (R : Kont) : Hp → Prop :=
 buildA [(0, 1, false, a1), (1, 1, false, a2)] [(.string .empty), (.string .empty), (.bool false)] fun b =>
 callA P w0 qaq [a0, b] fun c =>
 retA [c] R
theorem q002 {w0 : World} {h : Hp} {R : Kont} {a0 a1 a2 : Value} (hj : ∀ v, v ∈ [a0, a1, a2] → v ≠ junk) (hv : qfz prog w0 a0 a1 a2 R h) : ACalls prog w0 qfy [a0, a1, a2] h R := by
 have e : vcFn ⟨prog, w0, 12, qo7⟩ (drw w0 12) qnz [a0, a1, a2] R h = qfz prog w0 a0 a1 a2 R h := by
  kernel_rfl
 exact qf (fn := qnz) (ks := qo7) (n := 12) (by kernel_rfl) (by kernel_rfl) (qe (by kernel_rfl)) (by simp) hj e hv
abbrev qna : Func := f40
def qn7 : List (Nat × List Nat × List Nat) := []
def qf4 (P : Program) (w0 : World) (a0 a1 : Value) (R : Kont) : Hp → Prop :=
 buildA [(0, 1, false, a1), (2, 1, false, (.bool true))] [(.string .empty), (.string .empty), (.bool false)] fun b =>
 callA P w0 qaq [a0, b] fun c =>
 retA [c] R
theorem qyf {w0 : World} {h : Hp} {R : Kont} {a0 a1 : Value} (hj : ∀ v, v ∈ [a0, a1] → v ≠ junk) (hv : qf4 prog w0 a0 a1 R h) : ACalls prog w0 qf7 [a0, a1] h R := by
 have e : vcFn ⟨prog, w0, 9, qn7⟩ (drw w0 9) qna [a0, a1] R h = qf4 prog w0 a0 a1 R h := by
  kernel_rfl
 exact qf (fn := qna) (ks := qn7) (n := 9) (by kernel_rfl) (by kernel_rfl) (qe (by kernel_rfl)) (by simp) hj e hv
abbrev qo3 : Func := f42
def qog : List (Nat × List Nat × List Nat) := []
def qfv (P : Program) (w0 : World) (a0 : Value) (R : Kont) : Hp → Prop :=
 callA P w0 q4c [a0] fun b =>
 pureA (unA .not b) fun c =>
 condA c (
 retA [(.int .i64 0)] R) (
 nilA a0 fun d =>
 addA d 0 fun e =>
 loadA w0 e fun g =>
 callA P w0 qd9 [g] fun i =>
 retA [i] R)
theorem qzt {w0 : World} {h : Hp} {R : Kont} {a0 : Value} (hj : ∀ v, v ∈ [a0] → v ≠ junk) (hv : qfv prog w0 a0 R h) : ACalls prog w0 qap [a0] h R := by
 have e : vcFn ⟨prog, w0, 11, qog⟩ (drw w0 11) qo3 [a0] R h = qfv prog w0 a0 R h := by
  kernel_rfl
 exact qf (fn := qo3) (ks := qog) (n := 11) (by kernel_rfl) (by kernel_rfl) (qe (by kernel_rfl)) (by simp) hj e hv
abbrev qoe : Func := f47
def qo8 : List (Nat × List Nat × List Nat) := []
def qfm (P : Program) (w0 : World) (a0 : Value) (R : Kont) : Hp → Prop :=
 boxA false 1 a0 fun b =>
 mkFnA q4z [] [b] fun c =>
 retA [c] R
theorem qze {w0 : World} {h : Hp} {R : Kont} {a0 : Value} (hj : ∀ v, v ∈ [a0] → v ≠ junk) (hv : qfm prog w0 a0 R h) : ACalls prog w0 q7g [a0] h R := by
 have e : vcFn ⟨prog, w0, 4, qo8⟩ (drw w0 4) qoe [a0] R h = qfm prog w0 a0 R h := by
  kernel_rfl
 exact qf (fn := qoe) (ks := qo8) (n := 4) (by kernel_rfl) (by kernel_rfl) (qe (by kernel_rfl)) (by simp) hj e hv
abbrev qnj : Func := f48
def qni : List (Nat × List Nat × List Nat) := []
def qfc (P : Program) (w0 : World) (a0 : Value) (R : Kont) : Hp → Prop :=
 callA P w0 q4c [a0] fun b =>
 condA b (
 callA P w0 q95 [] fun c =>
 nilA a0 fun d =>
 addA d 0 fun e =>
 storeA w0 e c fun _ =>
 retA [] R) (
 retA [] R)
theorem qz2 {w0 : World} {h : Hp} {R : Kont} {a0 : Value} (hj : ∀ v, v ∈ [a0] → v ≠ junk) (hv : qfc prog w0 a0 R h) : ACalls prog w0 qfd [a0] h R := by
 have e : vcFn ⟨prog, w0, 8, qni⟩ (drw w0 8) qnj [a0] R h = qfc prog w0 a0 R h := by
  kernel_rfl
 exact qf (fn := qnj) (ks := qni) (n := 8) (by kernel_rfl) (by kernel_rfl) (qe (by kernel_rfl)) (by simp) hj e hv
abbrev q3p : Func := f52
def q3j : List (Nat × List Nat × List Nat) := [(3, [1, 5, 13, 14, 15], [1, 5]), (13, [1, 10, 35, 36, 37], [10])]
def qp6 (P : Program) (w0 : World) (b : Nat) (g : Lp) (K : Kont) (x8 y21 : Value) : Hp → Prop :=
 newA [(.string .empty), (.string .empty), (.bool false)] 3 fun c =>
 storeNA w0 c y21 3 fun _ =>
 beginA b g (
 loadA w0 x8 fun d =>
 addA c 0 fun e =>
 loadA w0 e fun i =>
 loadNA w0 c 3 fun j =>
 buildA [(0, 1, false, i), (1, 3, true, j)] [(.string .empty), (.string .empty), (.string .empty), (.bool false)] fun l =>
 bslA [(0, 4, true, l)] (zerosL [(.string .empty), (.string .empty), (.string .empty), (.bool false)] 1) 1 4 fun o =>
 appA w0 4 56 d o fun s =>
 storeA w0 x8 s fun _ =>
 endR b g none K)
def qaz (P : Program) (w0 : World) (R : Ko5) (k0 : Ko2) (x1 x5 x13 x14 x15 : Value) : Hp → Prop :=
 pureA (binA .lss x15 x14) fun d =>
 condA d (
 idxSlA 1 x13 x15 fun e =>
 loadA w0 e fun i =>
 newA [(.slice none 0 0)] 1 fun c =>
 callA P w0 qan [i, (.string .empty), (.string .empty)] fun j =>
 rangeA P w0 j 1 (fun b g args K => qp6 P w0 b g K c (args.getD 0 undef)) (
 loadA w0 c fun l =>
 bslA [(0, 1, false, l)] (zerosL [(.slice none 0 0)] 1) 1 1 fun o =>
 appA w0 1 24 x5 o fun s =>
 pureA (binA .add x15 (.int .i64 1)) fun u =>
 R x1 s x13 x14 u) []) (
 k0 x1 x5)
def q3s (P : Program) (w0 : World) (k0 : Ko2) : Nat → Value → Value → Value → Value → Value → Hp → Prop
 | 0, _, _, _, _, _ => fun _ => False
 | m + 1, x1, x5, x13, x14, x15 => qaz P w0 (q3s P w0 k0 m) k0 x1 x5 x13 x14 x15
def qp4 (P : Program) (w0 : World) (k0 : Ko2) (x1 x5 x13 x14 x15 : Value) : Hp → Prop := fun h => ∃ m, q3s P w0 k0 m x1 x5 x13 x14 x15 h
def qb2 (P : Program) (w0 : World) (R : Ko5) (k4 : Ko1) (x1 x10 x35 x36 x37 : Value) : Hp → Prop :=
 pureA (binA .lss x37 x36) fun d =>
 condA d (
 idxSlA 4 x35 x37 fun e =>
 loadNA w0 e 4 fun g =>
 newA [(.string .empty), (.string .empty), (.string .empty), (.bool false)] 4 fun c =>
 storeNA w0 c g 4 fun _ =>
 pureA (unA .not x1) fun b =>
 guardA b false (addA c 1) fun i =>
 guardA b false (addA i 2) fun j =>
 guardA b false (loadA w0 j) fun l =>
 guardA b false (pureA (unA .not l)) fun o =>
 pickA b (.bool true) o fun s =>
 condA s (
 addA c 1 fun u =>
 loadNA w0 u 3 fun v =>
 bslA [(0, 3, true, v)] (zerosL [(.string .empty), (.string .empty), (.bool false)] 1) 1 3 fun z =>
 appA w0 3 40 x10 z fun ba =>
 pureA (binA .add x37 (.int .i64 1)) fun bb =>
 R x1 ba x35 x36 bb) (
 pureA (binA .add x37 (.int .i64 1)) fun bc =>
 R x1 x10 x35 x36 bc)) (
 k4 x10)
def q1k (P : Program) (w0 : World) (k4 : Ko1) : Nat → Value → Value → Value → Value → Value → Hp → Prop
 | 0, _, _, _, _, _ => fun _ => False
 | m + 1, x1, x10, x35, x36, x37 => qb2 P w0 (q1k P w0 k4 m) k4 x1 x10 x35 x36 x37
def qot (P : Program) (w0 : World) (k4 : Ko1) (x1 x10 x35 x36 x37 : Value) : Hp → Prop := fun h => ∃ m, q1k P w0 k4 m x1 x10 x35 x36 x37 h
def qb6 (P : Program) (w0 : World) (a0 a1 : Value) (R : Kont) : Hp → Prop :=
 fun h0 => (pureA (lenSl a0) fun c =>
 qp4 P w0 (fun d e =>
 callA P w0 q97 [e] fun b =>
 pureA (lenSl b) fun g =>
 qot P w0 (fun i =>
 cutA h0 (
 retA [i] R)) d (.slice none 0 0) b g (.int .i64 0)) a1 (.slice none 0 0) a0 c (.int .i64 0)) h0
theorem qyo (w0 : World) (k4 : Ko1) : ∀ (m : Nat) (x1 x10 x35 x36 x37 : Value) (h : Hp), loopA (stepLM ⟨prog, w0, 56, q3j⟩ (drw w0 56) (loopAt q3p 1)) m (mkFr [(1, x1), (10, x10), (35, x35), (36, x36), (37, x37)]) [fun t => k4 (t 10)] h = q1k prog w0 k4 m x1 x10 x35 x36 x37 h := by
 intro m
 induction m with
 | zero => intros; kernel_rfl
 | succ m ih =>
  intro x1 x10 x35 x36 x37 h
  have e : q1k prog w0 k4 m = fun x1 x10 x35 x36 x37 h => loopA (stepLM ⟨prog, w0, 56, q3j⟩ (drw w0 56) (loopAt q3p 1)) m (mkFr [(1, x1), (10, x10), (35, x35), (36, x36), (37, x37)]) [fun t => k4 (t 10)] h := by funext x1 x10 x35 x36 x37 h; exact (ih x1 x10 x35 x36 x37 h).symm
  show _ = qb2 prog w0 (q1k prog w0 k4 m) k4 x1 x10 x35 x36 x37 h
  rw [e]
  kernel_rfl
theorem qyp (w0 : World) : qot prog w0 = fun k4 x1 x10 x35 x36 x37 h => ∃ m, loopA (stepLM ⟨prog, w0, 56, q3j⟩ (drw w0 56) (loopAt q3p 1)) m (mkFr [(1, x1), (10, x10), (35, x35), (36, x36), (37, x37)]) [fun t => k4 (t 10)] h := by
 funext k4 x1 x10 x35 x36 x37 h
 exact congrArg Exists (funext fun m => (qyo w0 k4 m x1 x10 x35 x36 x37 h).symm)
theorem qyr (w0 : World) (k0 : Ko2) : ∀ (m : Nat) (x1 x5 x13 x14 x15 : Value) (h : Hp), loopA (stepLM ⟨prog, w0, 56, q3j⟩ (drw w0 56) (loopAt q3p 0)) m (mkFr [(1, x1), (5, x5), (13, x13), (14, x14), (15, x15)]) [fun t => k0 (t 1) (t 5)] h = q3s prog w0 k0 m x1 x5 x13 x14 x15 h := by
 intro m
 induction m with
 | zero => intros; kernel_rfl
 | succ m ih =>
  intro x1 x5 x13 x14 x15 h
  have e : q3s prog w0 k0 m = fun x1 x5 x13 x14 x15 h => loopA (stepLM ⟨prog, w0, 56, q3j⟩ (drw w0 56) (loopAt q3p 0)) m (mkFr [(1, x1), (5, x5), (13, x13), (14, x14), (15, x15)]) [fun t => k0 (t 1) (t 5)] h := by funext x1 x5 x13 x14 x15 h; exact (ih x1 x5 x13 x14 x15 h).symm
  show _ = qaz prog w0 (q3s prog w0 k0 m) k0 x1 x5 x13 x14 x15 h
  rw [e]
  kernel_rfl
theorem qyn (w0 : World) : qp4 prog w0 = fun k0 x1 x5 x13 x14 x15 h => ∃ m, loopA (stepLM ⟨prog, w0, 56, q3j⟩ (drw w0 56) (loopAt q3p 0)) m (mkFr [(1, x1), (5, x5), (13, x13), (14, x14), (15, x15)]) [fun t => k0 (t 1) (t 5)] h := by
 funext k0 x1 x5 x13 x14 x15 h
 exact congrArg Exists (funext fun m => (qyr w0 k0 m x1 x5 x13 x14 x15 h).symm)
theorem q018 {w0 : World} {h : Hp} {R : Kont} {a0 a1 : Value} (hj : ∀ v, v ∈ [a0, a1] → v ≠ junk) (hv : qb6 prog w0 a0 a1 R h) : ACalls prog w0 qgj [a0, a1] h R := by
 have e : vcFnM ⟨prog, w0, 56, q3j⟩ (drw w0 56) q3p [a0, a1] R h = qb6 prog w0 a0 a1 R h := by
  unfold qb6
  rw [qyn w0, qyp w0]
  kernel_rfl
 exact q7e (fn := q3p) (ks := q3j) (n := 56) (by kernel_rfl) (by kernel_rfl) (qe (by kernel_rfl)) (by simp) hj e hv
abbrev qnn : Func := f58
def qnl : List (Nat × List Nat × List Nat) := []
def qfb (P : Program) (w0 : World) (a0 : Value) (R : Kont) : Hp → Prop :=
 callA P w0 q50 [a0] fun b =>
 pureA (unA .not b) fun c =>
 condA c (
 retA [(.slice none 0 0)] R) (
 nilA a0 fun d =>
 addA d 0 fun e =>
 loadA w0 e fun g =>
 callA P w0 qdm [g] fun i =>
 retA [i] R)
theorem qz3 {w0 : World} {h : Hp} {R : Kont} {a0 : Value} (hj : ∀ v, v ∈ [a0] → v ≠ junk) (hv : qfb prog w0 a0 R h) : ACalls prog w0 qai [a0] h R := by
 have e : vcFn ⟨prog, w0, 11, qnl⟩ (drw w0 11) qnn [a0] R h = qfb prog w0 a0 R h := by
  kernel_rfl
 exact qf (fn := qnn) (ks := qnl) (n := 11) (by kernel_rfl) (by kernel_rfl) (qe (by kernel_rfl)) (by simp) hj e hv
abbrev qoo : Func := f84
def qoj : List (Nat × List Nat × List Nat) := []
def qg1 (P : Program) (w0 : World) (R : Kont) : Hp → Prop :=
 callA P w0 q95 [] fun b =>
 buildA [(0, 1, false, b)] [(.pointer none)] fun c =>
 boxA true 1 c fun d =>
 retA [d] R
theorem q007 {w0 : World} {h : Hp} {R : Kont} (hj : ∀ v, v ∈ [] → v ≠ junk) (hv : qg1 prog w0  R h) : ACalls prog w0 qg3 [] h R := by
 have e : vcFn ⟨prog, w0, 4, qoj⟩ (drw w0 4) qoo [] R h = qg1 prog w0  R h := by
  kernel_rfl
 exact qf (fn := qoo) (ks := qoj) (n := 4) (by kernel_rfl) (by kernel_rfl) (qe (by kernel_rfl)) (by simp) hj e hv
abbrev q7j : Func := f85
def q7l : List (Nat × List Nat × List Nat) := [(2, [0, 2, 5, 6, 7], [2])]
def qb1 (P : Program) (w0 : World) (R : Ko5) (k0 : Ko1) (kr : Ko1) (x0 x2 x5 x6 x7 : Value) : Hp → Prop :=
 pureA (binA .lss x7 x6) fun e =>
 condA e (
 idxSlA 3 x5 x7 fun g =>
 loadNA w0 g 3 fun i =>
 newA [(.string .empty), (.string .empty), (.bool false)] 3 fun d =>
 storeNA w0 d i 3 fun _ =>
 readQ (loadNA w0 d 3) fun j =>
 allA [
 (callA P w0 qbq [j] fun l =>
 stillA [] (
 pureQ (pureA (unA .not l)) fun o =>
 pureQ (fun K => K o) fun c =>
 pureQ (guardA c false (fun K => K x7)) fun s =>
 pureQ (guardA c false (pureA (binA .gtr s (.int .i64 0)))) fun u =>
 pureQ (guardA c false (fun K => K u)) fun b =>
 pureQ (guardA b true (fun K => K x0)) fun v =>
 pureQ (guardA b true (fun K => K x7)) fun z =>
 pureQ (guardA b true (pureA (binA .sub z (.int .i64 1)))) fun ba =>
 pureQ (guardA b true (idxSlA 3 v ba)) fun bb =>
 pureQ (guardA b true (addA bb 0)) fun bc =>
 readQ (guardA b true (loadA w0 bc)) fun bd =>
 pureQ (guardA b true (addA d 0)) fun be =>
 readQ (guardA b true (loadA w0 be)) fun bf =>
 pureQ (guardA b true (pureA (binA .geq bd bf))) fun bg =>
 pureQ (guardA c false (pickA b bg (.bool false))) fun bh =>
 pureQ (pickA c (.bool true) bh) fun bi =>
 endA (
 condA bi (
 kr (.int .i64 120)) (
 pureA (binA .add x7 (.int .i64 1)) fun bj =>
 R x0 x2 x5 x6 bj))))]) (
 k0 x2)
def q25 (P : Program) (w0 : World) (k0 : Ko1) (kr : Ko1) : Nat → Value → Value → Value → Value → Value → Hp → Prop
 | 0, _, _, _, _, _ => fun _ => False
 | m + 1, x0, x2, x5, x6, x7 => qb1 P w0 (q25 P w0 k0 kr m) k0 kr x0 x2 x5 x6 x7
def qor (P : Program) (w0 : World) (k0 : Ko1) (kr : Ko1) (x0 x2 x5 x6 x7 : Value) : Hp → Prop := fun h => ∃ m, q25 P w0 k0 kr m x0 x2 x5 x6 x7 h
def qb4 (P : Program) (w0 : World) (a0 : Value) (R : Kont) : Hp → Prop :=
 pureA (lenSl a0) fun b =>
 qor P w0 (fun d =>
 retA [(.int .i64 0)] R) (fun c =>
 retA [c] R) a0 (.int .i64 0) a0 b (.int .i64 0)
theorem qyx (w0 : World) (k0 : Ko1) (kr : Ko1) : ∀ (m : Nat) (x0 x2 x5 x6 x7 : Value) (h : Hp), loopA (stepL ⟨prog, w0, 31, q7l⟩ (drw w0 31) (loopAt q7j 0)) m (mkFr [(0, x0), (2, x2), (5, x5), (6, x6), (7, x7)]) [fun t => k0 (t 2), fun t => kr (t 2)] h = q25 prog w0 k0 kr m x0 x2 x5 x6 x7 h := by
 intro m
 induction m with
 | zero => intros; kernel_rfl
 | succ m ih =>
  intro x0 x2 x5 x6 x7 h
  have e : q25 prog w0 k0 kr m = fun x0 x2 x5 x6 x7 h => loopA (stepL ⟨prog, w0, 31, q7l⟩ (drw w0 31) (loopAt q7j 0)) m (mkFr [(0, x0), (2, x2), (5, x5), (6, x6), (7, x7)]) [fun t => k0 (t 2), fun t => kr (t 2)] h := by funext x0 x2 x5 x6 x7 h; exact (ih x0 x2 x5 x6 x7 h).symm
  show _ = qb1 prog w0 (q25 prog w0 k0 kr m) k0 kr x0 x2 x5 x6 x7 h
  rw [e]
  kernel_rfl
theorem qyg (w0 : World) : qor prog w0 = fun k0 kr x0 x2 x5 x6 x7 h => ∃ m, loopA (stepL ⟨prog, w0, 31, q7l⟩ (drw w0 31) (loopAt q7j 0)) m (mkFr [(0, x0), (2, x2), (5, x5), (6, x6), (7, x7)]) [fun t => k0 (t 2), fun t => kr (t 2)] h := by
 funext k0 kr x0 x2 x5 x6 x7 h
 exact congrArg Exists (funext fun m => (qyx w0 k0 kr m x0 x2 x5 x6 x7 h).symm)
theorem q027 {w0 : World} {h : Hp} {R : Kont} {a0 : Value} (hj : ∀ v, v ∈ [a0] → v ≠ junk) (hv : qb4 prog w0 a0 R h) : ACalls prog w0 qgf [a0] h R := by
 have e : vcFn ⟨prog, w0, 31, q7l⟩ (drw w0 31) q7j [a0] R h = qb4 prog w0 a0 R h := by
  unfold qb4
  rw [qyg w0]
  kernel_rfl
 exact qf (fn := q7j) (ks := q7l) (n := 31) (by kernel_rfl) (by kernel_rfl) (qe (by kernel_rfl)) (by simp) hj e hv
abbrev qo1 : Func := f90
def qo5 : List (Nat × List Nat × List Nat) := []
def qfu (P : Program) (w0 : World) (a0 a1 : Value) (R : Kont) : Hp → Prop :=
 boxA true 3 a1 fun b =>
 callA P w0 q4c [a0] fun c =>
 pureA (unA .not c) fun d =>
 condA d (
 retA [(.int .i64 6)] R) (
 loadNA w0 b 3 fun e =>
 callA P w0 qbq [e] fun g =>
 pureA (unA .not g) fun i =>
 condA i (
 retA [(.int .i64 120)] R) (
 pureQ (fun K => K a0) fun j =>
 pureQ (nilA j) fun l =>
 pureQ (addA l 0) fun o =>
 readQ (loadA w0 o) fun s =>
 pureQ (addA b 0) fun u =>
 readQ (loadA w0 u) fun v =>
 readQ (loadNA w0 b 3) fun z =>
 allA [
 (callA P w0 qdb [s, v, z] fun ba =>
 stillA [] (
 endA (
 retA [(.int .i64 0)] R)))]))
theorem qzd {w0 : World} {h : Hp} {R : Kont} {a0 a1 : Value} (hj : ∀ v, v ∈ [a0, a1] → v ≠ junk) (hv : qfu prog w0 a0 a1 R h) : ACalls prog w0 qaq [a0, a1] h R := by
 have e : vcFn ⟨prog, w0, 21, qo5⟩ (drw w0 21) qo1 [a0, a1] R h = qfu prog w0 a0 a1 R h := by
  kernel_rfl
 exact qf (fn := qo1) (ks := qo5) (n := 21) (by kernel_rfl) (by kernel_rfl) (qe (by kernel_rfl)) (by simp) hj e hv
abbrev qnw : Func := f91
def qno : List (Nat × List Nat × List Nat) := []
def qfk (P : Program) (w0 : World) (a0 : Value) (R : Kont) : Hp → Prop :=
 pureA (binPtrA .neq a0 (.pointer none)) fun b =>
 guardA b true (fun K => K a0) fun c =>
 guardA b true (nilA c) fun d =>
 guardA b true (addA d 0) fun e =>
 guardA b true (loadA w0 e) fun g =>
 guardA b true (pureA (binPtrA .neq g (.pointer none))) fun i =>
 pickA b i (.bool false) fun j =>
 retA [j] R
theorem qza {w0 : World} {h : Hp} {R : Kont} {a0 : Value} (hj : ∀ v, v ∈ [a0] → v ≠ junk) (hv : qfk prog w0 a0 R h) : ACalls prog w0 q4c [a0] h R := by
 have e : vcFn ⟨prog, w0, 12, qno⟩ (drw w0 12) qnw [a0] R h = qfk prog w0 a0 R h := by
  kernel_rfl
 exact qf (fn := qnw) (ks := qno) (n := 12) (by kernel_rfl) (by kernel_rfl) (qe (by kernel_rfl)) (by simp) hj e hv
abbrev q3q : Func := f95
def q3t : List (Nat × List Nat × List Nat) := [(9, [0, 1, 7, 8, 9, 35, 36, 37], [0, 1, 7, 8, 9]), (16, [7, 9, 63, 64, 65], [7, 9])]
def qb3 (P : Program) (w0 : World) (R : Ko8) (k0 : Ko5) (x0 x1 x7 x8 x9 x35 x36 x37 : Value) : Hp → Prop :=
 pureA (binA .lss x37 x36) fun c =>
 condA c (
 idxSlA 3 x35 x37 fun d =>
 loadNA w0 d 3 fun e =>
 newA [(.string .empty), (.int .i64 0), (.int .i64 0)] 3 fun b =>
 storeNA w0 b e 3 fun _ =>
 addA b 0 fun g =>
 loadA w0 g fun i =>
 callA P w0 qea [x9, i] fun ba =>
 addA b 1 fun j =>
 loadA w0 j fun l =>
 pureA (convA .u64 l) fun o =>
 callA P w0 q21 [x9, o] fun bb =>
 addA b 2 fun s =>
 loadA w0 s fun u =>
 pureA (convA .u64 u) fun v =>
 callA P w0 q21 [x9, v] fun bc =>
 pureA (binA .add x37 (.int .i64 1)) fun z =>
 R x0 x1 x7 x8 x9 x35 x36 z) (
 k0 x0 x1 x7 x8 x9)
def q3o (P : Program) (w0 : World) (k0 : Ko5) : Nat → Value → Value → Value → Value → Value → Value → Value → Value → Hp → Prop
 | 0, _, _, _, _, _, _, _, _ => fun _ => False
 | m + 1, x0, x1, x7, x8, x9, x35, x36, x37 => qb3 P w0 (q3o P w0 k0 m) k0 x0 x1 x7 x8 x9 x35 x36 x37
def qov (P : Program) (w0 : World) (k0 : Ko5) (x0 x1 x7 x8 x9 x35 x36 x37 : Value) : Hp → Prop := fun h => ∃ m, q3o P w0 k0 m x0 x1 x7 x8 x9 x35 x36 x37 h
def qay (P : Program) (w0 : World) (R : Ko5) (k2 : Ko2) (x7 x9 x63 x64 x65 : Value) : Hp → Prop :=
 pureA (binA .lss x65 x64) fun b =>
 condA b (
 idxSlA 1 x63 x65 fun c =>
 loadA w0 c fun d =>
 pureA (convA .u32 d) fun e =>
 callA P w0 q48 [x9, e] fun i =>
 pureA (binA .add x65 (.int .i64 1)) fun g =>
 R x7 x9 x63 x64 g) (
 k2 x7 x9)
def q3k (P : Program) (w0 : World) (k2 : Ko2) : Nat → Value → Value → Value → Value → Value → Hp → Prop
 | 0, _, _, _, _, _ => fun _ => False
 | m + 1, x7, x9, x63, x64, x65 => qay P w0 (q3k P w0 k2 m) k2 x7 x9 x63 x64 x65
def qow (P : Program) (w0 : World) (k2 : Ko2) (x7 x9 x63 x64 x65 : Value) : Hp → Prop := fun h => ∃ m, q3k P w0 k2 m x7 x9 x63 x64 x65 h
def qb8 (P : Program) (w0 : World) (a0 a1 : Value) (R : Kont) : Hp → Prop :=
 pureA (binA .lss a1 (.int .i64 256)) fun c =>
 guardA c false (fun K => K a1) fun u =>
 guardA c false (pureA (binA .gtr u (.int .i64 4096))) fun v =>
 pickA c (.bool true) v fun z =>
 condA z (
 retA [(.slice none 0 0), (.int .i64 1)] R) (
 callA P w0 qgf [a0] fun e =>
 pureA (binA .neq e (.int .i64 0)) fun ba =>
 condA ba (
 retA [(.slice none 0 0), e] R) (
 callA P w0 qg5 [a0, a1] fun g =>
 pureA (extA g 0) fun bb =>
 pureA (extA g 1) fun d =>
 callA P w0 q4y [(.int .i64 1073741824)] fun bc =>
 pureA (lenSl d) fun bd =>
 qov P w0 (fun be bf i bg bh =>
 pureA (lenSl be) fun bi =>
 pureA (lenSl bg) fun bj =>
 pureA (lenSl i) fun bk =>
 bslA [(0, 1, false, bf), (1, 1, false, bi), (2, 1, false, bj), (3, 1, false, bk)] (zerosL [(.int .i64 0)] 4) 4 1 fun j =>
 pureA (lenSl j) fun bl =>
 qow P w0 (fun bm b =>
 callA P w0 q39 [b] fun l =>
 pureA (extA l 0) fun bn =>
 pureA (extA l 1) fun bs =>
 callA P w0 q3w [bn] fun bo =>
 callA P w0 q48 [b, bo] fun bt =>
 callA P w0 q73 [b, (.string ⟨#[68, 82, 85, 78]⟩)] fun bu =>
 callA P w0 q39 [b] fun o =>
 pureA (extA o 0) fun bp =>
 pureA (extA o 1) fun s =>
 pureA (binA .neq s (.int .i64 0)) fun bq =>
 condA bq (
 retA [(.slice none 0 0), s] R) (
 appA w0 1 1 bm bp fun br =>
 retA [br, (.int .i64 0)] R)) i bh j bl (.int .i64 0)) a0 a1 bb d bc d bd (.int .i64 0)))
theorem qyv (w0 : World) (k2 : Ko2) : ∀ (m : Nat) (x7 x9 x63 x64 x65 : Value) (h : Hp), loopA (stepL ⟨prog, w0, 96, q3t⟩ (drw w0 96) (loopAt q3q 1)) m (mkFr [(7, x7), (9, x9), (63, x63), (64, x64), (65, x65)]) [fun t => k2 (t 7) (t 9)] h = q3k prog w0 k2 m x7 x9 x63 x64 x65 h := by
 intro m
 induction m with
 | zero => intros; kernel_rfl
 | succ m ih =>
  intro x7 x9 x63 x64 x65 h
  have e : q3k prog w0 k2 m = fun x7 x9 x63 x64 x65 h => loopA (stepL ⟨prog, w0, 96, q3t⟩ (drw w0 96) (loopAt q3q 1)) m (mkFr [(7, x7), (9, x9), (63, x63), (64, x64), (65, x65)]) [fun t => k2 (t 7) (t 9)] h := by funext x7 x9 x63 x64 x65 h; exact (ih x7 x9 x63 x64 x65 h).symm
  show _ = qay prog w0 (q3k prog w0 k2 m) k2 x7 x9 x63 x64 x65 h
  rw [e]
  kernel_rfl
theorem qyq (w0 : World) : qow prog w0 = fun k2 x7 x9 x63 x64 x65 h => ∃ m, loopA (stepL ⟨prog, w0, 96, q3t⟩ (drw w0 96) (loopAt q3q 1)) m (mkFr [(7, x7), (9, x9), (63, x63), (64, x64), (65, x65)]) [fun t => k2 (t 7) (t 9)] h := by
 funext k2 x7 x9 x63 x64 x65 h
 exact congrArg Exists (funext fun m => (qyv w0 k2 m x7 x9 x63 x64 x65 h).symm)
theorem qyl (w0 : World) (k0 : Ko5) : ∀ (m : Nat) (x0 x1 x7 x8 x9 x35 x36 x37 : Value) (h : Hp), loopA (stepL ⟨prog, w0, 96, q3t⟩ (drw w0 96) (loopAt q3q 0)) m (mkFr [(0, x0), (1, x1), (7, x7), (8, x8), (9, x9), (35, x35), (36, x36), (37, x37)]) [fun t => k0 (t 0) (t 1) (t 7) (t 8) (t 9)] h = q3o prog w0 k0 m x0 x1 x7 x8 x9 x35 x36 x37 h := by
 intro m
 induction m with
 | zero => intros; kernel_rfl
 | succ m ih =>
  intro x0 x1 x7 x8 x9 x35 x36 x37 h
  have e : q3o prog w0 k0 m = fun x0 x1 x7 x8 x9 x35 x36 x37 h => loopA (stepL ⟨prog, w0, 96, q3t⟩ (drw w0 96) (loopAt q3q 0)) m (mkFr [(0, x0), (1, x1), (7, x7), (8, x8), (9, x9), (35, x35), (36, x36), (37, x37)]) [fun t => k0 (t 0) (t 1) (t 7) (t 8) (t 9)] h := by funext x0 x1 x7 x8 x9 x35 x36 x37 h; exact (ih x0 x1 x7 x8 x9 x35 x36 x37 h).symm
  show _ = qb3 prog w0 (q3o prog w0 k0 m) k0 x0 x1 x7 x8 x9 x35 x36 x37 h
  rw [e]
  kernel_rfl
theorem qyt (w0 : World) : qov prog w0 = fun k0 x0 x1 x7 x8 x9 x35 x36 x37 h => ∃ m, loopA (stepL ⟨prog, w0, 96, q3t⟩ (drw w0 96) (loopAt q3q 0)) m (mkFr [(0, x0), (1, x1), (7, x7), (8, x8), (9, x9), (35, x35), (36, x36), (37, x37)]) [fun t => k0 (t 0) (t 1) (t 7) (t 8) (t 9)] h := by
 funext k0 x0 x1 x7 x8 x9 x35 x36 x37 h
 exact congrArg Exists (funext fun m => (qyl w0 k0 m x0 x1 x7 x8 x9 x35 x36 x37 h).symm)
theorem q02c {w0 : World} {h : Hp} {R : Kont} {a0 a1 : Value} (hj : ∀ v, v ∈ [a0, a1] → v ≠ junk) (hv : qb8 prog w0 a0 a1 R h) : ACalls prog w0 qbc [a0, a1] h R := by
 have e : vcFn ⟨prog, w0, 96, q3t⟩ (drw w0 96) q3q [a0, a1] R h = qb8 prog w0 a0 a1 R h := by
  unfold qb8
  rw [qyt w0, qyq w0]
  kernel_rfl
 exact qf (fn := q3q) (ks := q3t) (n := 96) (by kernel_rfl) (by kernel_rfl) (qe (by kernel_rfl)) (by simp) hj e hv
abbrev qp7 : Func := f96
def qpf : List (Nat × List Nat × List Nat) := []
def qgq (P : Program) (w0 : World) (a0 : Value) (R : Kont) : Hp → Prop :=
 b2sA w0 a0 fun i =>
 callA P w0 qgi [i] fun c =>
 pureA (extA c 0) fun d =>
 pureA (extA c 1) fun j =>
 pureA (extA c 2) fun l =>
 pureA (extA c 3) fun o =>
 pureA (unA .not o) fun s =>
 condA s (
 retA [(.pointer none), (.int .i64 121)] R) (
 callA P w0 qbc [d, j] fun e =>
 pureA (extA e 0) fun g =>
 pureA (extA e 1) fun u =>
 pureA (binA .neq u (.int .i64 0)) fun b =>
 guardA b false (fun K => K a0) fun v =>
 guardA b false (fun K => K g) fun z =>
 guardA b false (callA P w0 qfn [v, z]) fun ba =>
 guardA b false (pureA (unA .not ba)) fun bb =>
 pickA b (.bool true) bb fun bc =>
 condA bc (
 retA [(.pointer none), (.int .i64 121)] R) (
 buildA [(0, 1, false, g), (1, 1, false, d), (2, 1, false, l)] [(.slice none 0 0), (.slice none 0 0), (.int .i64 0)] fun bd =>
 boxA true 3 bd fun be =>
 retA [be, (.int .i64 0)] R))
theorem q03l {w0 : World} {h : Hp} {R : Kont} {a0 : Value} (hj : ∀ v, v ∈ [a0] → v ≠ junk) (hv : qgq prog w0 a0 R h) : ACalls prog w0 qbi [a0] h R := by
 have e : vcFn ⟨prog, w0, 39, qpf⟩ (drw w0 39) qp7 [a0] R h = qgq prog w0 a0 R h := by
  kernel_rfl
 exact qf (fn := qp7) (ks := qpf) (n := 39) (by kernel_rfl) (by kernel_rfl) (qe (by kernel_rfl)) (by simp) hj e hv
abbrev qn6 : Func := f98
def qne : List (Nat × List Nat × List Nat) := []
def qy4 (P : Program) (w0 : World) (b : Nat) (g : Lp) (K : Kont) (x2 y13 y14 : Value) : Hp → Prop :=
 newA [(.string .empty), (.string .empty), (.bool false)] 3 fun c =>
 storeNA w0 c y14 3 fun _ =>
 beginA b g (
 loadA w0 x2 fun d =>
 loadNA w0 c 3 fun e =>
 callVA P w0 d [e] fun i =>
 pureA (unA .not i) fun j =>
 condA j (
 endR b g (some none) K) (
 endR b g none K))
def qf6 (P : Program) (w0 : World) (a0 a1 : Value) (R : Kont) : Hp → Prop :=
 fun h0 => (boxA false 1 a0 fun c =>
 loadA w0 a1 fun d =>
 callA P w0 q4c [d] fun e =>
 pureA (unA .not e) fun i =>
 condA i (
 cutA h0 (
 retA [] R)) (
 loadA w0 a1 fun j =>
 nilA j fun l =>
 addA l 0 fun o =>
 loadA w0 o fun s =>
 callA P w0 qda [s] fun u =>
 rangeA P w0 u 2 (fun b g args K => qy4 P w0 b g K c (args.getD 0 undef) (args.tail.getD 0 undef)) (
 cutA h0 (
 retA [] R)) [(none, (
 cutA h0 (
 retA [] R)))])) h0
theorem qyc {w0 : World} {h : Hp} {R : Kont} {a0 a1 : Value} (hj : ∀ v, v ∈ [a0, a1] → v ≠ junk) (hv : qf6 prog w0 a0 a1 R h) : ACalls prog w0 q4z [a0, a1] h R := by
 have e : vcFnM ⟨prog, w0, 19, qne⟩ (drw w0 19) qn6 [a0, a1] R h = qf6 prog w0 a0 a1 R h := by
  kernel_rfl
 exact q7e (fn := qn6) (ks := qne) (n := 19) (by kernel_rfl) (by kernel_rfl) (qe (by kernel_rfl)) (by simp) hj e hv
abbrev qns : Func := f102
def qnq : List (Nat × List Nat × List Nat) := []
def qfj (P : Program) (w0 : World) (a0 a1 a2 : Value) (R : Kont) : Hp → Prop :=
 boxA false 1 a0 fun b =>
 boxA false 1 a1 fun c =>
 boxA false 1 a2 fun d =>
 mkFnA q4x [] [b, c, d] fun e =>
 retA [e] R
theorem qz6 {w0 : World} {h : Hp} {R : Kont} {a0 a1 a2 : Value} (hj : ∀ v, v ∈ [a0, a1, a2] → v ≠ junk) (hv : qfj prog w0 a0 a1 a2 R h) : ACalls prog w0 qan [a0, a1, a2] h R := by
 have e : vcFn ⟨prog, w0, 8, qnq⟩ (drw w0 8) qns [a0, a1, a2] R h = qfj prog w0 a0 a1 a2 R h := by
  kernel_rfl
 exact qf (fn := qns) (ks := qnq) (n := 8) (by kernel_rfl) (by kernel_rfl) (qe (by kernel_rfl)) (by simp) hj e hv
abbrev qnr : Func := f112
def qnv : List (Nat × List Nat × List Nat) := []
def q78 (P : Program) (w0 : World) (a0 : Value) (R : Kont) : Hp → Prop :=
 pureA (binPtrA .neq a0 (.pointer none)) fun b =>
 guardA b true (fun K => K a0) fun c =>
 guardA b true (nilA c) fun d =>
 guardA b true (addA d 0) fun e =>
 guardA b true (loadA w0 e) fun g =>
 guardA b true (pureA (binSlA .neq g (.slice none 0 0))) fun i =>
 pickA b i (.bool false) fun j =>
 retA [j] R
theorem qo4 {w0 : World} {h : Hp} {R : Kont} {a0 : Value} (hj : ∀ v, v ∈ [a0] → v ≠ junk) (hv : q78 prog w0 a0 R h) : ACalls prog w0 q50 [a0] h R := by
 have e : vcFn ⟨prog, w0, 12, qnv⟩ (drw w0 12) qnr [a0] R h = q78 prog w0 a0 R h := by
  kernel_rfl
 exact qf (fn := qnr) (ks := qnv) (n := 12) (by kernel_rfl) (by kernel_rfl) (qe (by kernel_rfl)) (by simp) hj e hv
abbrev qny : Func := f127
def qo2 : List (Nat × List Nat × List Nat) := []
def qfx (P : Program) (w0 : World) (a0 a1 : Value) (R : Kont) : Hp → Prop :=
 newA [(.string .empty), (.string .empty), (.bool false)] 3 fun b =>
 callA P w0 q4c [a0] fun d =>
 pureA (unA .not d) fun e =>
 condA e (
 buildA [] [(.string .empty), (.string .empty), (.bool false)] fun g =>
 storeNA w0 b g 3 fun _ =>
 loadNA w0 b 3 fun i =>
 retA [i, (.bool false)] R) (
 nilA a0 fun j =>
 addA j 0 fun l =>
 loadA w0 l fun o =>
 callA P w0 qd8 [o, a1] fun c =>
 pureA (extA c 0) fun s =>
 pureA (extA c 1) fun u =>
 storeNA w0 b s 3 fun _ =>
 loadNA w0 b 3 fun v =>
 retA [v, u] R)
theorem qzc {w0 : World} {h : Hp} {R : Kont} {a0 a1 : Value} (hj : ∀ v, v ∈ [a0, a1] → v ≠ junk) (hv : qfx prog w0 a0 a1 R h) : ACalls prog w0 qfp [a0, a1] h R := by
 have e : vcFn ⟨prog, w0, 18, qo2⟩ (drw w0 18) qny [a0, a1] R h = qfx prog w0 a0 a1 R h := by
  kernel_rfl
 exact qf (fn := qny) (ks := qo2) (n := 18) (by kernel_rfl) (by kernel_rfl) (qe (by kernel_rfl)) (by simp) hj e hv
abbrev qoh : Func := f128
def qod : List (Nat × List Nat × List Nat) := []
def qg0 (P : Program) (w0 : World) (a0 a1 : Value) (R : Kont) : Hp → Prop :=
 newA [(.string .empty), (.string .empty), (.bool false)] 3 fun b =>
 callA P w0 q50 [a0] fun d =>
 pureA (unA .not d) fun e =>
 condA e (
 buildA [] [(.string .empty), (.string .empty), (.bool false)] fun g =>
 storeNA w0 b g 3 fun _ =>
 loadNA w0 b 3 fun i =>
 retA [i, (.bool false)] R) (
 callA P w0 qal [a0, a1] fun c =>
 pureA (extA c 0) fun j =>
 pureA (extA c 1) fun l =>
 pureA (unA .not l) fun o =>
 condA o (
 buildA [] [(.string .empty), (.string .empty), (.bool false)] fun s =>
 storeNA w0 b s 3 fun _ =>
 loadNA w0 b 3 fun u =>
 retA [u, (.bool false)] R) (
 nilA a0 fun v =>
 addA v 1 fun z =>
 loadA w0 z fun ba =>
 idxSlA 3 ba j fun bb =>
 loadNA w0 bb 3 fun bc =>
 storeNA w0 b bc 3 fun _ =>
 loadNA w0 b 3 fun bd =>
 retA [bd, (.bool true)] R))
theorem qzr {w0 : World} {h : Hp} {R : Kont} {a0 a1 : Value} (hj : ∀ v, v ∈ [a0, a1] → v ≠ junk) (hv : qg0 prog w0 a0 a1 R h) : ACalls prog w0 qfo [a0, a1] h R := by
 have e : vcFn ⟨prog, w0, 28, qod⟩ (drw w0 28) qoh [a0, a1] R h = qg0 prog w0 a0 a1 R h := by
  kernel_rfl
 exact qf (fn := qoh) (ks := qod) (n := 28) (by kernel_rfl) (by kernel_rfl) (qe (by kernel_rfl)) (by simp) hj e hv
abbrev qpy : Func := f130
def qpu : List (Nat × List Nat × List Nat) := []
def qgx (P : Program) (w0 : World) (a0 : Value) (R : Kont) : Hp → Prop :=
 boxA true 3 a0 fun c =>
 addA c 0 fun i =>
 loadA w0 i fun j =>
 pureA (lenStr j) fun l =>
 pureA (binA .geq l (.int .i64 1)) fun d =>
 guardA d true (addA c 0) fun o =>
 guardA d true (loadA w0 o) fun s =>
 guardA d true (pureA (lenStr s)) fun u =>
 guardA d true (pureA (binA .leq u (.int .i64 64))) fun v =>
 pickA d v (.bool false) fun e =>
 guardA e true (addA c 1) fun z =>
 guardA e true (loadA w0 z) fun ba =>
 guardA e true (pureA (lenStr ba)) fun bb =>
 guardA e true (pureA (binA .leq bb (.int .i64 64))) fun bc =>
 pickA e bc (.bool false) fun b =>
 guardA b true (addA c 2) fun bd =>
 guardA b true (loadA w0 bd) fun be =>
 guardA b true (fun K => K be) fun g =>
 guardA g true (addA c 1) fun bf =>
 guardA g true (loadA w0 bf) fun bg =>
 guardA g true (pureA (binA .neq bg (.string .empty))) fun bh =>
 guardA b true (pickA g bh (.bool false)) fun bi =>
 guardA b true (pureA (unA .not bi)) fun bj =>
 pickA b bj (.bool false) fun bk =>
 retA [bk] R
theorem q04b {w0 : World} {h : Hp} {R : Kont} {a0 : Value} (hj : ∀ v, v ∈ [a0] → v ≠ junk) (hv : qgx prog w0 a0 R h) : ACalls prog w0 qbq [a0] h R := by
 have e : vcFn ⟨prog, w0, 29, qpu⟩ (drw w0 29) qpy [a0] R h = qgx prog w0 a0 R h := by
  kernel_rfl
 exact qf (fn := qpy) (ks := qpu) (n := 29) (by kernel_rfl) (by kernel_rfl) (qe (by kernel_rfl)) (by simp) hj e hv
abbrev q7d : Func := f133
def q7c : List (Nat × List Nat × List Nat) := [(6, [1, 6, 7, 8, 9, 10, 15, 16, 17], [6, 8, 10])]
def qas (P : Program) (w0 : World) (R : Ko9) (k0 : Ko3) (x1 x6 x7 x8 x9 x10 x15 x16 x17 : Value) : Hp → Prop :=
 pureA (binA .lss x17 x16) fun g =>
 condA g (
 idxSlA 3 x15 x17 fun i =>
 loadNA w0 i 3 fun j =>
 newA [(.string .empty), (.string .empty), (.bool false)] 3 fun b =>
 storeNA w0 b j 3 fun _ =>
 loadA w0 x9 fun l =>
 loadNA w0 b 3 fun o =>
 callA P w0 qbb [l, o] fun d =>
 loadA w0 x7 fun s =>
 pureA (lenSl s) fun u =>
 pureA (binA .gtr u (.int .i64 0)) fun c =>
 guardA c true (loadA w0 x7) fun v =>
 guardA c true (pureA (lenSl v)) fun z =>
 guardA c true (fun K => K d) fun ba =>
 guardA c true (pureA (lenSl ba)) fun bb =>
 guardA c true (pureA (binA .add z bb)) fun bc =>
 guardA c true (fun K => K x1) fun bd =>
 guardA c true (pureA (binA .gtr bc bd)) fun be =>
 pickA c be (.bool false) fun bf =>
 condA bf (
 callVA P w0 x10 [] fun cy =>
 loadNA w0 b 3 fun bg =>
 callA P w0 qbb [(.string .empty), bg] fun e =>
 loadA w0 x7 fun bh =>
 pureA (lenSl bh) fun bi =>
 pureA (binA .eql bi (.int .i64 0)) fun bj =>
 condA bj (
 loadA w0 x8 fun bk =>
 addA b 0 fun bl =>
 loadA w0 bl fun bm =>
 loadA w0 x6 fun bn =>
 pureA (lenSl bn) fun bo =>
 buildA [(0, 1, false, bm), (1, 1, false, bo)] [(.string .empty), (.int .i64 0), (.int .i64 0)] fun bp =>
 bslA [(0, 3, true, bp)] (zerosL [(.string .empty), (.int .i64 0), (.int .i64 0)] 1) 1 3 fun bq =>
 appA w0 3 32 bk bq fun br =>
 storeA w0 x8 br fun _ =>
 loadA w0 x7 fun bs =>
 appA w0 1 1 bs e fun bt =>
 storeA w0 x7 bt fun _ =>
 addA b 0 fun bu =>
 loadA w0 bu fun bv =>
 storeA w0 x9 bv fun _ =>
 pureA (binA .add x17 (.int .i64 1)) fun bw =>
 R x1 x6 x7 x8 x9 x10 x15 x16 bw) (
 loadA w0 x7 fun bx =>
 appA w0 1 1 bx e fun bz =>
 storeA w0 x7 bz fun _ =>
 addA b 0 fun ca =>
 loadA w0 ca fun cb =>
 storeA w0 x9 cb fun _ =>
 pureA (binA .add x17 (.int .i64 1)) fun cc =>
 R x1 x6 x7 x8 x9 x10 x15 x16 cc)) (
 loadA w0 x7 fun cd =>
 pureA (lenSl cd) fun ce =>
 pureA (binA .eql ce (.int .i64 0)) fun cf =>
 condA cf (
 loadA w0 x8 fun cg =>
 addA b 0 fun ch =>
 loadA w0 ch fun ci =>
 loadA w0 x6 fun cj =>
 pureA (lenSl cj) fun ck =>
 buildA [(0, 1, false, ci), (1, 1, false, ck)] [(.string .empty), (.int .i64 0), (.int .i64 0)] fun cl =>
 bslA [(0, 3, true, cl)] (zerosL [(.string .empty), (.int .i64 0), (.int .i64 0)] 1) 1 3 fun cm =>
 appA w0 3 32 cg cm fun cn =>
 storeA w0 x8 cn fun _ =>
 loadA w0 x7 fun co =>
 appA w0 1 1 co d fun cp =>
 storeA w0 x7 cp fun _ =>
 addA b 0 fun cq =>
 loadA w0 cq fun cr =>
 storeA w0 x9 cr fun _ =>
 pureA (binA .add x17 (.int .i64 1)) fun cs =>
 R x1 x6 x7 x8 x9 x10 x15 x16 cs) (
 loadA w0 x7 fun ct =>
 appA w0 1 1 ct d fun cu =>
 storeA w0 x7 cu fun _ =>
 addA b 0 fun cv =>
 loadA w0 cv fun cw =>
 storeA w0 x9 cw fun _ =>
 pureA (binA .add x17 (.int .i64 1)) fun cx =>
 R x1 x6 x7 x8 x9 x10 x15 x16 cx))) (
 k0 x6 x8 x10)
def q1j (P : Program) (w0 : World) (k0 : Ko3) : Nat → Value → Value → Value → Value → Value → Value → Value → Value → Value → Hp → Prop
 | 0, _, _, _, _, _, _, _, _, _ => fun _ => False
 | m + 1, x1, x6, x7, x8, x9, x10, x15, x16, x17 => qas P w0 (q1j P w0 k0 m) k0 x1 x6 x7 x8 x9 x10 x15 x16 x17
def qon (P : Program) (w0 : World) (k0 : Ko3) (x1 x6 x7 x8 x9 x10 x15 x16 x17 : Value) : Hp → Prop := fun h => ∃ m, q1j P w0 k0 m x1 x6 x7 x8 x9 x10 x15 x16 x17 h
def qb0 (P : Program) (w0 : World) (a0 a1 : Value) (R : Kont) : Hp → Prop :=
 newA [(.slice none 0 0)] 1 fun c =>
 newA [(.slice none 0 0)] 1 fun d =>
 newA [(.slice none 0 0)] 1 fun e =>
 newA [(.string .empty)] 1 fun b =>
 storeA w0 b (.string .empty) fun _ =>
 mkFnA q4a [] [d, e, c, b] fun g =>
 pureA (lenSl a0) fun i =>
 qon P w0 (fun j l o =>
 callVA P w0 o [] fun ba =>
 readQ (loadA w0 j) fun s =>
 readQ (loadA w0 l) fun u =>
 pureQ (fun K => K s) fun v =>
 pureQ (fun K => K u) fun z =>
 endA (
 retA [v, z] R)) a1 c d e b g a0 i (.int .i64 0)
theorem qyd (w0 : World) (k0 : Ko3) : ∀ (m : Nat) (x1 x6 x7 x8 x9 x10 x15 x16 x17 : Value) (h : Hp), loopA (stepL ⟨prog, w0, 61, q7c⟩ (drw w0 61) (loopAt q7d 0)) m (mkFr [(1, x1), (6, x6), (7, x7), (8, x8), (9, x9), (10, x10), (15, x15), (16, x16), (17, x17)]) [fun t => k0 (t 6) (t 8) (t 10)] h = q1j prog w0 k0 m x1 x6 x7 x8 x9 x10 x15 x16 x17 h := by
 intro m
 induction m with
 | zero => intros; kernel_rfl
 | succ m ih =>
  intro x1 x6 x7 x8 x9 x10 x15 x16 x17 h
  have e : q1j prog w0 k0 m = fun x1 x6 x7 x8 x9 x10 x15 x16 x17 h => loopA (stepL ⟨prog, w0, 61, q7c⟩ (drw w0 61) (loopAt q7d 0)) m (mkFr [(1, x1), (6, x6), (7, x7), (8, x8), (9, x9), (10, x10), (15, x15), (16, x16), (17, x17)]) [fun t => k0 (t 6) (t 8) (t 10)] h := by funext x1 x6 x7 x8 x9 x10 x15 x16 x17 h; exact (ih x1 x6 x7 x8 x9 x10 x15 x16 x17 h).symm
  show _ = qas prog w0 (q1j prog w0 k0 m) k0 x1 x6 x7 x8 x9 x10 x15 x16 x17 h
  rw [e]
  kernel_rfl
theorem qye (w0 : World) : qon prog w0 = fun k0 x1 x6 x7 x8 x9 x10 x15 x16 x17 h => ∃ m, loopA (stepL ⟨prog, w0, 61, q7c⟩ (drw w0 61) (loopAt q7d 0)) m (mkFr [(1, x1), (6, x6), (7, x7), (8, x8), (9, x9), (10, x10), (15, x15), (16, x16), (17, x17)]) [fun t => k0 (t 6) (t 8) (t 10)] h := by
 funext k0 x1 x6 x7 x8 x9 x10 x15 x16 x17 h
 exact congrArg Exists (funext fun m => (qyd w0 k0 m x1 x6 x7 x8 x9 x10 x15 x16 x17 h).symm)
theorem q00l {w0 : World} {h : Hp} {R : Kont} {a0 a1 : Value} (hj : ∀ v, v ∈ [a0, a1] → v ≠ junk) (hv : qb0 prog w0 a0 a1 R h) : ACalls prog w0 qg5 [a0, a1] h R := by
 have e : vcFn ⟨prog, w0, 61, q7c⟩ (drw w0 61) q7d [a0, a1] R h = qb0 prog w0 a0 a1 R h := by
  unfold qb0
  rw [qye w0]
  kernel_rfl
 exact qf (fn := q7d) (ks := q7c) (n := 61) (by kernel_rfl) (by kernel_rfl) (qe (by kernel_rfl)) (by simp) hj e hv
abbrev q7o : Func := f135
def q7q : List (Nat × List Nat × List Nat) := [(10, [0, 2, 3, 4, 5, 6, 7, 8, 9, 48, 49], [2, 3, 4, 5, 7, 8])]
def qax (P : Program) (w0 : World) (R : Ko11) (k0 : Ko6) (kr : Ko6) (x0 x2 x3 x4 x5 x6 x7 x8 x9 x48 x49 : Value) : Hp → Prop :=
 pureA (binA .lss x49 x48) fun j =>
 condA j (
 callA P w0 qe6 [x6] fun bl =>
 callA P w0 q14 [x6] fun d =>
 callA P w0 q14 [x6] fun e =>
 callA P w0 q0j [x6] fun l =>
 pureA (binA .neq l (.int .i64 0)) fun c =>
 guardA c false (fun K => K d) fun o =>
 guardA c false (fun K => K x9) fun s =>
 guardA c false (pureA (convA .u64 s)) fun u =>
 guardA c false (pureA (binA .gtr o u)) fun v =>
 pickA c (.bool true) v fun b =>
 guardA b false (fun K => K e) fun z =>
 guardA b false (fun K => K x9) fun ba =>
 guardA b false (pureA (convA .u64 ba)) fun bb =>
 guardA b false (fun K => K d) fun bc =>
 guardA b false (pureA (binA .sub bb bc)) fun bd =>
 guardA b false (pureA (binA .gtr z bd)) fun be =>
 pickA b (.bool true) be fun bf =>
 condA bf (
 kr (.slice none 0 0) (.int .i64 0) (.int .i64 0) (.bool false) x7 x8) (
 pureA (binA .add d e) fun bg =>
 pureA (strSlA x0 (some d) (some bg)) fun bh =>
 callA P w0 qgv [bh, x2] fun g =>
 pureA (extA g 0) fun bi =>
 pureA (extA g 1) fun i =>
 pureA (unA .not i) fun bj =>
 condA bj (
 kr (.slice none 0 0) (.int .i64 0) (.int .i64 0) (.bool false) x7 x8) (
 pureA (binA .add x49 (.int .i64 1)) fun bk =>
 R x0 bi x3 x4 i x6 x7 x8 x9 x48 bk))) (
 k0 x2 x3 x4 x5 x7 x8)
def q3u (P : Program) (w0 : World) (k0 : Ko6) (kr : Ko6) : Nat → Value → Value → Value → Value → Value → Value → Value → Value → Value → Value → Value → Hp → Prop
 | 0, _, _, _, _, _, _, _, _, _, _, _ => fun _ => False
 | m + 1, x0, x2, x3, x4, x5, x6, x7, x8, x9, x48, x49 => qax P w0 (q3u P w0 k0 kr m) k0 kr x0 x2 x3 x4 x5 x6 x7 x8 x9 x48 x49
def qp2 (P : Program) (w0 : World) (k0 : Ko6) (kr : Ko6) (x0 x2 x3 x4 x5 x6 x7 x8 x9 x48 x49 : Value) : Hp → Prop := fun h => ∃ m, q3u P w0 k0 kr m x0 x2 x3 x4 x5 x6 x7 x8 x9 x48 x49 h
def qb7 (P : Program) (w0 : World) (a0 : Value) (R : Kont) : Hp → Prop :=
 pureA (lenStr a0) fun g =>
 pureA (binA .lss g (.int .i64 24)) fun i =>
 condA i (
 retA [(.slice none 0 0), (.int .i64 0), (.int .i64 0), (.bool false)] R) (
 pureA (lenStr a0) fun j =>
 pureA (binA .sub j (.int .i64 24)) fun l =>
 pureA (strSlA a0 (some l) none) fun o =>
 callA P w0 q49 [o] fun b =>
 callA P w0 q3f [b] fun s =>
 pureA (convA .i64 s) fun u =>
 callA P w0 q3f [b] fun v =>
 pureA (convA .i64 v) fun z =>
 callA P w0 q3f [b] fun ba =>
 pureA (convA .i64 ba) fun d =>
 callA P w0 q3f [b] fun bb =>
 pureA (convA .i64 bb) fun c =>
 pureA (lenStr a0) fun bc =>
 pureA (binA .sub bc (.int .i64 24)) fun bd =>
 pureA (binA .gtr c bd) fun be =>
 condA be (
 retA [(.slice none 0 0), (.int .i64 0), (.int .i64 0), (.bool false)] R) (
 pureA (lenStr a0) fun bf =>
 pureA (binA .sub bf (.int .i64 24)) fun bg =>
 pureA (strSlA a0 (some c) (some bg)) fun bh =>
 callA P w0 q49 [bh] fun bi =>
 pureA (lenStr a0) fun bj =>
 pureA (foldA min2A d [bj]) fun bk =>
 qp2 P w0 (fun e bl bu bv bm bn =>
 pureA (lenSl e) fun bo =>
 pureA (binA .eql bo bm) fun bp =>
 retA [e, bl, bn, bp] R) (fun bq br bs bt bw bx =>
 retA [bq, br, bs, bt] R) a0 (.slice none 0 0) u (.int .i64 0) (.bool false) bi z d c bk (.int .i64 0)))
theorem qyi (w0 : World) (k0 : Ko6) (kr : Ko6) : ∀ (m : Nat) (x0 x2 x3 x4 x5 x6 x7 x8 x9 x48 x49 : Value) (h : Hp), loopA (stepL ⟨prog, w0, 95, q7q⟩ (drw w0 95) (loopAt q7o 0)) m (mkFr [(0, x0), (2, x2), (3, x3), (4, x4), (5, x5), (6, x6), (7, x7), (8, x8), (9, x9), (48, x48), (49, x49)]) [fun t => k0 (t 2) (t 3) (t 4) (t 5) (t 7) (t 8), fun t => kr (t 2) (t 3) (t 4) (t 5) (t 7) (t 8)] h = q3u prog w0 k0 kr m x0 x2 x3 x4 x5 x6 x7 x8 x9 x48 x49 h := by
 intro m
 induction m with
 | zero => intros; kernel_rfl
 | succ m ih =>
  intro x0 x2 x3 x4 x5 x6 x7 x8 x9 x48 x49 h
  have e : q3u prog w0 k0 kr m = fun x0 x2 x3 x4 x5 x6 x7 x8 x9 x48 x49 h => loopA (stepL ⟨prog, w0, 95, q7q⟩ (drw w0 95) (loopAt q7o 0)) m (mkFr [(0, x0), (2, x2), (3, x3), (4, x4), (5, x5), (6, x6), (7, x7), (8, x8), (9, x9), (48, x48), (49, x49)]) [fun t => k0 (t 2) (t 3) (t 4) (t 5) (t 7) (t 8), fun t => kr (t 2) (t 3) (t 4) (t 5) (t 7) (t 8)] h := by funext x0 x2 x3 x4 x5 x6 x7 x8 x9 x48 x49 h; exact (ih x0 x2 x3 x4 x5 x6 x7 x8 x9 x48 x49 h).symm
  show _ = qax prog w0 (q3u prog w0 k0 kr m) k0 kr x0 x2 x3 x4 x5 x6 x7 x8 x9 x48 x49 h
  rw [e]
  kernel_rfl
theorem qys (w0 : World) : qp2 prog w0 = fun k0 kr x0 x2 x3 x4 x5 x6 x7 x8 x9 x48 x49 h => ∃ m, loopA (stepL ⟨prog, w0, 95, q7q⟩ (drw w0 95) (loopAt q7o 0)) m (mkFr [(0, x0), (2, x2), (3, x3), (4, x4), (5, x5), (6, x6), (7, x7), (8, x8), (9, x9), (48, x48), (49, x49)]) [fun t => k0 (t 2) (t 3) (t 4) (t 5) (t 7) (t 8), fun t => kr (t 2) (t 3) (t 4) (t 5) (t 7) (t 8)] h := by
 funext k0 kr x0 x2 x3 x4 x5 x6 x7 x8 x9 x48 x49 h
 exact congrArg Exists (funext fun m => (qyi w0 k0 kr m x0 x2 x3 x4 x5 x6 x7 x8 x9 x48 x49 h).symm)
theorem q026 {w0 : World} {h : Hp} {R : Kont} {a0 : Value} (hj : ∀ v, v ∈ [a0] → v ≠ junk) (hv : qb7 prog w0 a0 R h) : ACalls prog w0 qgi [a0] h R := by
 have e : vcFn ⟨prog, w0, 95, q7q⟩ (drw w0 95) q7o [a0] R h = qb7 prog w0 a0 R h := by
  unfold qb7
  rw [qys w0]
  kernel_rfl
 exact qf (fn := q7o) (ks := q7q) (n := 95) (by kernel_rfl) (by kernel_rfl) (qe (by kernel_rfl)) (by simp) hj e hv
abbrev q72 : Func := f139
def q74 : List (Nat × List Nat × List Nat) := [(3, [0, 3, 23, 24, 25], [])]
def qaf (P : Program) (w0 : World) (R : Ko5) (k0 : Hp → Prop) (kr : Hp → Prop) (x0 x3 x23 x24 x25 : Value) : Hp → Prop :=
 pureA (binA .lss x25 x24) fun e =>
 condA e (
 idxSlA 3 x23 x25 fun g =>
 loadNA w0 g 3 fun i =>
 newA [(.string .empty), (.string .empty), (.bool false)] 3 fun d =>
 storeNA w0 d i 3 fun _ =>
 loadA w0 x3 fun j =>
 pureA (binA .neq j (.string .empty)) fun b =>
 guardA b true (addA d 0) fun l =>
 guardA b true (loadA w0 l) fun o =>
 guardA b true (loadA w0 x3) fun s =>
 guardA b true (pureA (binA .geq o s)) fun u =>
 pickA b u (.bool false) fun c =>
 guardA c false (fun K => K x0) fun v =>
 guardA c false (loadNA w0 d 3) fun z =>
 guardA c false (callVA P w0 v [z]) fun ba =>
 guardA c false (pureA (unA .not ba)) fun bb =>
 pickA c (.bool true) bb fun bc =>
 condA bc (
 kr) (
 pureA (binA .add x25 (.int .i64 1)) fun bd =>
 R x0 x3 x23 x24 bd)) (
 k0)
def q22 (P : Program) (w0 : World) (k0 : Hp → Prop) (kr : Hp → Prop) : Nat → Value → Value → Value → Value → Value → Hp → Prop
 | 0, _, _, _, _, _ => fun _ => False
 | m + 1, x0, x3, x23, x24, x25 => qaf P w0 (q22 P w0 k0 kr m) k0 kr x0 x3 x23 x24 x25
def qmo (P : Program) (w0 : World) (k0 : Hp → Prop) (kr : Hp → Prop) (x0 x3 x23 x24 x25 : Value) : Hp → Prop := fun h => ∃ m, q22 P w0 k0 kr m x0 x3 x23 x24 x25 h
def q75 (P : Program) (w0 : World) (a0 a1 a2 a3 : Value) (R : Kont) : Hp → Prop :=
 loadA w0 a1 fun d =>
 callA P w0 q50 [d] fun e =>
 pureA (unA .not e) fun g =>
 condA g (
 retA [] R) (
 loadA w0 a1 fun i =>
 loadA w0 a2 fun j =>
 callA P w0 qal [i, j] fun b =>
 pureA (extA b 0) fun l =>
 pureA (extA b 1) fun ba =>
 loadA w0 a1 fun o =>
 nilA o fun s =>
 addA s 1 fun u =>
 loadA w0 u fun v =>
 slSlA 3 v (some l) none none fun c =>
 pureA (lenSl c) fun z =>
 qmo P w0 (
 retA [] R) (
 retA [] R) a0 a3 c z (.int .i64 0))
theorem qwu (w0 : World) (k0 : Hp → Prop) (kr : Hp → Prop) : ∀ (m : Nat) (x0 x3 x23 x24 x25 : Value) (h : Hp), loopA (stepL ⟨prog, w0, 44, q74⟩ (drw w0 44) (loopAt q72 0)) m (mkFr [(0, x0), (3, x3), (23, x23), (24, x24), (25, x25)]) [fun t => k0, fun t => kr] h = q22 prog w0 k0 kr m x0 x3 x23 x24 x25 h := by
 intro m
 induction m with
 | zero => intros; kernel_rfl
 | succ m ih =>
  intro x0 x3 x23 x24 x25 h
  have e : q22 prog w0 k0 kr m = fun x0 x3 x23 x24 x25 h => loopA (stepL ⟨prog, w0, 44, q74⟩ (drw w0 44) (loopAt q72 0)) m (mkFr [(0, x0), (3, x3), (23, x23), (24, x24), (25, x25)]) [fun t => k0, fun t => kr] h := by funext x0 x3 x23 x24 x25 h; exact (ih x0 x3 x23 x24 x25 h).symm
  show _ = qaf prog w0 (q22 prog w0 k0 kr m) k0 kr x0 x3 x23 x24 x25 h
  rw [e]
  kernel_rfl
theorem qwq (w0 : World) : qmo prog w0 = fun k0 kr x0 x3 x23 x24 x25 h => ∃ m, loopA (stepL ⟨prog, w0, 44, q74⟩ (drw w0 44) (loopAt q72 0)) m (mkFr [(0, x0), (3, x3), (23, x23), (24, x24), (25, x25)]) [fun t => k0, fun t => kr] h := by
 funext k0 kr x0 x3 x23 x24 x25 h
 exact congrArg Exists (funext fun m => (qwu w0 k0 kr m x0 x3 x23 x24 x25 h).symm)
theorem qn8 {w0 : World} {h : Hp} {R : Kont} {a0 a1 a2 a3 : Value} (hj : ∀ v, v ∈ [a0, a1, a2, a3] → v ≠ junk) (hv : q75 prog w0 a0 a1 a2 a3 R h) : ACalls prog w0 q4x [a0, a1, a2, a3] h R := by
 have e : vcFn ⟨prog, w0, 44, q74⟩ (drw w0 44) q72 [a0, a1, a2, a3] R h = q75 prog w0 a0 a1 a2 a3 R h := by
  unfold q75
  rw [qwq w0]
  kernel_rfl
 exact qf (fn := q72) (ks := q74) (n := 44) (by kernel_rfl) (by kernel_rfl) (qe (by kernel_rfl)) (by simp) hj e hv
abbrev qnt : Func := f140
def qnu : List (Nat × List Nat × List Nat) := []
def qff (P : Program) (w0 : World) (a0 a1 : Value) (R : Kont) : Hp → Prop :=
 nilA a0 fun c =>
 addA c 1 fun d =>
 loadA w0 d fun e =>
 callA P w0 qcs [e, a1, (.func (.func q23) #[] #[])] fun b =>
 pureA (extA b 0) fun g =>
 pureA (extA b 1) fun i =>
 retA [g, i] R
theorem qzb {w0 : World} {h : Hp} {R : Kont} {a0 a1 : Value} (hj : ∀ v, v ∈ [a0, a1] → v ≠ junk) (hv : qff prog w0 a0 a1 R h) : ACalls prog w0 qal [a0, a1] h R := by
 have e : vcFn ⟨prog, w0, 14, qnu⟩ (drw w0 14) qnt [a0, a1] R h = qff prog w0 a0 a1 R h := by
  kernel_rfl
 exact qf (fn := qnt) (ks := qnu) (n := 14) (by kernel_rfl) (by kernel_rfl) (qe (by kernel_rfl)) (by simp) hj e hv
abbrev qnk : Func := f157
def qng : List (Nat × List Nat × List Nat) := []
def qfa (P : Program) (w0 : World) (a0 a1 a2 a3 : Value) (R : Kont) : Hp → Prop :=
 loadA w0 a0 fun d =>
 pureA (lenSl d) fun e =>
 pureA (binA .gtr e (.int .i64 0)) fun g =>
 condA g (
 loadA w0 a1 fun i =>
 loadA w0 a1 fun j =>
 pureA (lenSl j) fun l =>
 pureA (binA .sub l (.int .i64 1)) fun o =>
 loadA w0 a0 fun s =>
 pureA (lenSl s) fun u =>
 idxSlA 3 i o fun v =>
 addA v 2 fun z =>
 storeA w0 z u fun _ =>
 callA P w0 q4y [(.int .i64 4)] fun b =>
 loadA w0 a0 fun ba =>
 b2sA w0 ba fun bb =>
 callA P w0 q3w [bb] fun bc =>
 callA P w0 q48 [b, bc] fun bi =>
 callA P w0 q39 [b] fun c =>
 pureA (extA c 0) fun bd =>
 pureA (extA c 1) fun bj =>
 loadA w0 a2 fun be =>
 loadA w0 a0 fun bf =>
 appA w0 1 1 be bf fun bg =>
 appA w0 1 1 bg bd fun bh =>
 storeA w0 a2 bh fun _ =>
 storeA w0 a0 (.slice none 0 0) fun _ =>
 storeA w0 a3 (.string .empty) fun _ =>
 retA [] R) (
 storeA w0 a0 (.slice none 0 0) fun _ =>
 storeA w0 a3 (.string .empty) fun _ =>
 retA [] R)
theorem qyz {w0 : World} {h : Hp} {R : Kont} {a0 a1 a2 a3 : Value} (hj : ∀ v, v ∈ [a0, a1, a2, a3] → v ≠ junk) (hv : qfa prog w0 a0 a1 a2 a3 R h) : ACalls prog w0 q4a [a0, a1, a2, a3] h R := by
 have e : vcFn ⟨prog, w0, 34, qng⟩ (drw w0 34) qnk [a0, a1, a2, a3] R h = qfa prog w0 a0 a1 a2 a3 R h := by
  kernel_rfl
 exact qf (fn := qnk) (ks := qng) (n := 34) (by kernel_rfl) (by kernel_rfl) (qe (by kernel_rfl)) (by simp) hj e hv
abbrev qp3 : Func := f158
def qos : List (Nat × List Nat × List Nat) := []
def qgc (P : Program) (w0 : World) (a0 a1 : Value) (R : Kont) : Hp → Prop :=
 boxA true 3 a1 fun b =>
 addA b 0 fun j =>
 loadA w0 j fun l =>
 callA P w0 qg4 [a0, l] fun c =>
 addA b 2 fun o =>
 loadA w0 o fun s =>
 condA s (
 pureA (convA .u8 c) fun u =>
 addA b 0 fun v =>
 loadA w0 v fun z =>
 pureA (lenStr z) fun ba =>
 pureA (binA .sub ba c) fun bb =>
 pureA (convA .u8 bb) fun bc =>
 addA b 1 fun bd =>
 loadA w0 bd fun be =>
 pureA (lenStr be) fun bf =>
 pureA (convA .u8 bf) fun bg =>
 bslA [(0, 1, false, u), (1, 1, false, bc), (2, 1, false, (.int .u8 1)), (3, 1, false, bg)] (zerosL [(.int .u8 0)] 4) 4 1 fun bh =>
 pureQ (fun K => K bh) fun bi =>
 pureQ (addA b 0) fun bj =>
 readQ (loadA w0 bj) fun bk =>
 pureQ (fun K => K c) fun bl =>
 pureQ (pureA (strSlA bk (some bl) none)) fun bm =>
 pureQ (addA b 1) fun d =>
 readQ (loadA w0 d) fun e =>
 allA [
 (appA w0 1 1 bi bm fun bn =>
 stillA [(sameQ (loadA w0 d) e)] (
 allA [
 (appA w0 1 1 bn e fun bo =>
 stillA [] (
 pureQ (fun K => K bo) fun bp =>
 endA (
 retA [bp] R)))]))]) (
 pureA (convA .u8 c) fun bq =>
 addA b 0 fun br =>
 loadA w0 br fun bs =>
 pureA (lenStr bs) fun bt =>
 pureA (binA .sub bt c) fun bu =>
 pureA (convA .u8 bu) fun bv =>
 addA b 1 fun bw =>
 loadA w0 bw fun bx =>
 pureA (lenStr bx) fun bz =>
 pureA (convA .u8 bz) fun ca =>
 bslA [(0, 1, false, bq), (1, 1, false, bv), (2, 1, false, (.int .u8 0)), (3, 1, false, ca)] (zerosL [(.int .u8 0)] 4) 4 1 fun cb =>
 pureQ (fun K => K cb) fun cc =>
 pureQ (addA b 0) fun cd =>
 readQ (loadA w0 cd) fun ce =>
 pureQ (fun K => K c) fun cf =>
 pureQ (pureA (strSlA ce (some cf) none)) fun cg =>
 pureQ (addA b 1) fun g =>
 readQ (loadA w0 g) fun i =>
 allA [
 (appA w0 1 1 cc cg fun ch =>
 stillA [(sameQ (loadA w0 g) i)] (
 allA [
 (appA w0 1 1 ch i fun ci =>
 stillA [] (
 pureQ (fun K => K ci) fun cj =>
 endA (
 retA [cj] R)))]))])
theorem q017 {w0 : World} {h : Hp} {R : Kont} {a0 a1 : Value} (hj : ∀ v, v ∈ [a0, a1] → v ≠ junk) (hv : qgc prog w0 a0 a1 R h) : ACalls prog w0 qbb [a0, a1] h R := by
 have e : vcFn ⟨prog, w0, 37, qos⟩ (drw w0 37) qp3 [a0, a1] R h = qgc prog w0 a0 a1 R h := by
  kernel_rfl
 exact qf (fn := qp3) (ks := qos) (n := 37) (by kernel_rfl) (by kernel_rfl) (qe (by kernel_rfl)) (by simp) hj e hv
abbrev q7v : Func := f160
def q7t : List (Nat × List Nat × List Nat) := [(3, [1, 4, 5, 6, 7], [1, 4, 5])]
def qge (P : Program) (w0 : World) (R : Ko5) (k0 : Ko3) (kr : Ko3) (x1 x4 x5 x6 x7 : Value) : Hp → Prop :=
 callA P w0 qed [x7] fun bc =>
 pureA (binA .gtr bc (.int .i64 0)) fun bd =>
 condA bd (
 callA P w0 q3g [x7] fun be =>
 pureA (convA .i64 be) fun s =>
 callA P w0 q3g [x7] fun bf =>
 pureA (convA .i64 bf) fun bg =>
 callA P w0 q3g [x7] fun u =>
 callA P w0 q3g [x7] fun bh =>
 pureA (convA .i64 bh) fun bi =>
 pureA (lenStr x6) fun bj =>
 pureA (binA .gtr s bj) fun c =>
 guardA c false (fun K => K u) fun bk =>
 guardA c false (pureA (binA .gtr bk (.int .u8 1))) fun bl =>
 pickA c (.bool true) bl fun bm =>
 condA bm (
 kr x1 (.slice none 0 0) (.bool false)) (
 pureQ (fun K => K x6) fun bn =>
 pureQ (fun K => K s) fun bo =>
 pureQ (pureA (strSlA bn none (some bo))) fun v =>
 pureQ (fun K => K x7) fun z =>
 pureQ (fun K => K bg) fun ba =>
 pureQ (fun K => K u) fun bp =>
 pureQ (pureA (binA .eql bp (.int .u8 1))) fun b =>
 pureQ (fun K => K x7) fun d =>
 pureQ (fun K => K bi) fun e =>
 allA [
 (callA P w0 q18 [z, ba] fun bq =>
 stillA [] (
 pureQ (pureA (binA .add v bq)) fun g =>
 allA [
 (callA P w0 q18 [d, e] fun bb =>
 stillA [] (
 allA [
 (buildA [(0, 1, false, g), (2, 1, false, b), (1, 1, false, bb)] [(.string .empty), (.string .empty), (.bool false)] fun br =>
 stillA [] (
 allA [
 (newA [(.string .empty), (.string .empty), (.bool false)] 3 fun i =>
 stillA [] (
 allA [
 (storeNA w0 i br 3 fun _ =>
 stillA [] (
 endA (
 callA P w0 q0j [x7] fun bs =>
 pureA (binA .neq bs (.int .i64 0)) fun bt =>
 condA bt (
 kr x1 (.slice none 0 0) (.bool false)) (
 addA i 0 fun bu =>
 loadA w0 bu fun bv =>
 loadNA w0 i 3 fun bw =>
 bslA [(0, 3, true, bw)] (zerosL [(.string .empty), (.string .empty), (.bool false)] 1) 1 3 fun bx =>
 appA w0 3 40 x1 bx fun bz =>
 R bz x4 x5 bv x7))))]))])),
 (newA [(.string .empty), (.string .empty), (.bool false)] 3 fun j =>
 stillA [] (
 allA [
 (buildA [(0, 1, false, g), (2, 1, false, b), (1, 1, false, bb)] [(.string .empty), (.string .empty), (.bool false)] fun ca =>
 stillA [] (
 allA [
 (storeNA w0 j ca 3 fun _ =>
 stillA [] (
 endA (
 callA P w0 q0j [x7] fun cb =>
 pureA (binA .neq cb (.int .i64 0)) fun cc =>
 condA cc (
 kr x1 (.slice none 0 0) (.bool false)) (
 addA j 0 fun cd =>
 loadA w0 cd fun ce =>
 loadNA w0 j 3 fun cf =>
 bslA [(0, 3, true, cf)] (zerosL [(.string .empty), (.string .empty), (.bool false)] 1) 1 3 fun cg =>
 appA w0 3 40 x1 cg fun ch =>
 R ch x4 x5 ce x7))))]))]))])),
 (newA [(.string .empty), (.string .empty), (.bool false)] 3 fun l =>
 stillA [] (
 allA [
 (callA P w0 q18 [d, e] fun ci =>
 stillA [] (
 allA [
 (buildA [(0, 1, false, g), (2, 1, false, b), (1, 1, false, ci)] [(.string .empty), (.string .empty), (.bool false)] fun cj =>
 stillA [] (
 allA [
 (storeNA w0 l cj 3 fun _ =>
 stillA [] (
 endA (
 callA P w0 q0j [x7] fun ck =>
 pureA (binA .neq ck (.int .i64 0)) fun cl =>
 condA cl (
 kr x1 (.slice none 0 0) (.bool false)) (
 addA l 0 fun cm =>
 loadA w0 cm fun cn =>
 loadNA w0 l 3 fun co =>
 bslA [(0, 3, true, co)] (zerosL [(.string .empty), (.string .empty), (.bool false)] 1) 1 3 fun cp =>
 appA w0 3 40 x1 cp fun cq =>
 R cq x4 x5 cn x7))))]))]))]))])),
 (newA [(.string .empty), (.string .empty), (.bool false)] 3 fun o =>
 stillA [] (
 allA [
 (callA P w0 q18 [z, ba] fun cr =>
 stillA [] (
 pureQ (pureA (binA .add v cr)) fun cs =>
 allA [
 (callA P w0 q18 [d, e] fun ct =>
 stillA [] (
 allA [
 (buildA [(0, 1, false, cs), (2, 1, false, b), (1, 1, false, ct)] [(.string .empty), (.string .empty), (.bool false)] fun cu =>
 stillA [] (
 allA [
 (storeNA w0 o cu 3 fun _ =>
 stillA [] (
 endA (
 callA P w0 q0j [x7] fun cv =>
 pureA (binA .neq cv (.int .i64 0)) fun cw =>
 condA cw (
 kr x1 (.slice none 0 0) (.bool false)) (
 addA o 0 fun cx =>
 loadA w0 cx fun cy =>
 loadNA w0 o 3 fun cz =>
 bslA [(0, 3, true, cz)] (zerosL [(.string .empty), (.string .empty), (.bool false)] 1) 1 3 fun da =>
 appA w0 3 40 x1 da fun db =>
 R db x4 x5 cy x7))))]))]))]))]))])) (
 k0 x1 x4 x5)
def q0x (P : Program) (w0 : World) (k0 : Ko3) (kr : Ko3) : Nat → Value → Value → Value → Value → Value → Hp → Prop
 | 0, _, _, _, _, _ => fun _ => False
 | m + 1, x1, x4, x5, x6, x7 => qge P w0 (q0x P w0 k0 kr m) k0 kr x1 x4 x5 x6 x7
def qpi (P : Program) (w0 : World) (k0 : Ko3) (kr : Ko3) (x1 x4 x5 x6 x7 : Value) : Hp → Prop := fun h => ∃ m, q0x P w0 k0 kr m x1 x4 x5 x6 x7 h
def qbj (P : Program) (w0 : World) (a0 a1 : Value) (R : Kont) : Hp → Prop :=
 callA P w0 q49 [a0] fun b =>
 qpi P w0 (fun c g i =>
 retA [c, (.bool true)] R) (fun j d e =>
 retA [d, e] R) a1 (.slice none 0 0) (.bool false) (.string .empty) b
theorem qz8 (w0 : World) (k0 : Ko3) (kr : Ko3) : ∀ (m : Nat) (x1 x4 x5 x6 x7 : Value) (h : Hp), loopA (stepL ⟨prog, w0, 60, q7t⟩ (drw w0 60) (loopAt q7v 0)) m (mkFr [(1, x1), (4, x4), (5, x5), (6, x6), (7, x7)]) [fun t => k0 (t 1) (t 4) (t 5), fun t => kr (t 1) (t 4) (t 5)] h = q0x prog w0 k0 kr m x1 x4 x5 x6 x7 h := by
 intro m
 induction m with
 | zero => intros; kernel_rfl
 | succ m ih =>
  intro x1 x4 x5 x6 x7 h
  have e : q0x prog w0 k0 kr m = fun x1 x4 x5 x6 x7 h => loopA (stepL ⟨prog, w0, 60, q7t⟩ (drw w0 60) (loopAt q7v 0)) m (mkFr [(1, x1), (4, x4), (5, x5), (6, x6), (7, x7)]) [fun t => k0 (t 1) (t 4) (t 5), fun t => kr (t 1) (t 4) (t 5)] h := by funext x1 x4 x5 x6 x7 h; exact (ih x1 x4 x5 x6 x7 h).symm
  show _ = qge prog w0 (q0x prog w0 k0 kr m) k0 kr x1 x4 x5 x6 x7 h
  rw [e]
  kernel_rfl
theorem qz9 (w0 : World) : qpi prog w0 = fun k0 kr x1 x4 x5 x6 x7 h => ∃ m, loopA (stepL ⟨prog, w0, 60, q7t⟩ (drw w0 60) (loopAt q7v 0)) m (mkFr [(1, x1), (4, x4), (5, x5), (6, x6), (7, x7)]) [fun t => k0 (t 1) (t 4) (t 5), fun t => kr (t 1) (t 4) (t 5)] h := by
 funext k0 kr x1 x4 x5 x6 x7 h
 exact congrArg Exists (funext fun m => (qz8 w0 k0 kr m x1 x4 x5 x6 x7 h).symm)
theorem q041 {w0 : World} {h : Hp} {R : Kont} {a0 a1 : Value} (hj : ∀ v, v ∈ [a0, a1] → v ≠ junk) (hv : qbj prog w0 a0 a1 R h) : ACalls prog w0 qgv [a0, a1] h R := by
 have e : vcFn ⟨prog, w0, 60, q7t⟩ (drw w0 60) q7v [a0, a1] R h = qbj prog w0 a0 a1 R h := by
  unfold qbj
  rw [qz9 w0]
  kernel_rfl
 exact qf (fn := q7v) (ks := q7t) (n := 60) (by kernel_rfl) (by kernel_rfl) (qe (by kernel_rfl)) (by simp) hj e hv
abbrev qmu : Func := f163
def qn0 : List (Nat × List Nat × List Nat) := []
def qf3 (P : Program) (w0 : World) (a0 a1 : Value) (R : Kont) : Hp → Prop :=
 boxA true 3 a0 fun b =>
 addA b 0 fun c =>
 loadA w0 c fun d =>
 callA P w0 qf1 [d, a1] fun e =>
 retA [e] R
theorem qy8 {w0 : World} {h : Hp} {R : Kont} {a0 a1 : Value} (hj : ∀ v, v ∈ [a0, a1] → v ≠ junk) (hv : qf3 prog w0 a0 a1 R h) : ACalls prog w0 q23 [a0, a1] h R := by
 have e : vcFn ⟨prog, w0, 9, qn0⟩ (drw w0 9) qmu [a0, a1] R h = qf3 prog w0 a0 a1 R h := by
  kernel_rfl
 exact qf (fn := qmu) (ks := qn0) (n := 9) (by kernel_rfl) (by kernel_rfl) (qe (by kernel_rfl)) (by simp) hj e hv
abbrev q7f : Func := f170
def q7i : List (Nat × List Nat × List Nat) := [(2, [0, 1, 5], [5])]
def q7h (P : Program) (w0 : World) (R : Ko3) (k0 : Ko1) (x0 x1 x5 : Value) : Hp → Prop :=
 pureQ (fun K => K x5) fun d =>
 pureQ (fun K => K x0) fun e =>
 pureQ (pureA (lenStr e)) fun g =>
 pureQ (pureA (binA .lss d g)) fun i =>
 pureQ (fun K => K i) fun c =>
 pureQ (guardA c true (fun K => K x5)) fun j =>
 pureQ (guardA c true (fun K => K x1)) fun l =>
 pureQ (guardA c true (pureA (lenStr l))) fun o =>
 pureQ (guardA c true (pureA (binA .lss j o))) fun s =>
 pureQ (pickA c s (.bool false)) fun u =>
 pureQ (fun K => K u) fun b =>
 pureQ (guardA b true (fun K => K x0)) fun v =>
 pureQ (guardA b true (fun K => K x5)) fun z =>
 pureQ (guardA b true (pureA (strIdxA v z))) fun ba =>
 pureQ (guardA b true (fun K => K x1)) fun bb =>
 pureQ (guardA b true (fun K => K x5)) fun bc =>
 pureQ (guardA b true (pureA (strIdxA bb bc))) fun bd =>
 pureQ (guardA b true (pureA (binA .eql ba bd))) fun be =>
 pureQ (pickA b be (.bool false)) fun bf =>
 endA (
 condA bf (
 pureA (binA .add x5 (.int .i64 1)) fun bg =>
 R x0 x1 bg) (
 k0 x5))
def q3i (P : Program) (w0 : World) (k0 : Ko1) : Nat → Value → Value → Value → Hp → Prop
 | 0, _, _, _ => fun _ => False
 | m + 1, x0, x1, x5 => q7h P w0 (q3i P w0 k0 m) k0 x0 x1 x5
def qop (P : Program) (w0 : World) (k0 : Ko1) (x0 x1 x5 : Value) : Hp → Prop := fun h => ∃ m, q3i P w0 k0 m x0 x1 x5 h
def qav (P : Program) (w0 : World) (a0 a1 : Value) (R : Kont) : Hp → Prop :=
 qop P w0 (fun b =>
 retA [b] R) a0 a1 (.int .i64 0)
theorem qya (w0 : World) (k0 : Ko1) : ∀ (m : Nat) (x0 x1 x5 : Value) (h : Hp), loopA (stepL ⟨prog, w0, 28, q7i⟩ (drw w0 28) (loopAt q7f 0)) m (mkFr [(0, x0), (1, x1), (5, x5)]) [fun t => k0 (t 5)] h = q3i prog w0 k0 m x0 x1 x5 h := by
 intro m
 induction m with
 | zero => intros; kernel_rfl
 | succ m ih =>
  intro x0 x1 x5 h
  have e : q3i prog w0 k0 m = fun x0 x1 x5 h => loopA (stepL ⟨prog, w0, 28, q7i⟩ (drw w0 28) (loopAt q7f 0)) m (mkFr [(0, x0), (1, x1), (5, x5)]) [fun t => k0 (t 5)] h := by funext x0 x1 x5 h; exact (ih x0 x1 x5 h).symm
  show _ = q7h prog w0 (q3i prog w0 k0 m) k0 x0 x1 x5 h
  rw [e]
  kernel_rfl
theorem qyb (w0 : World) : qop prog w0 = fun k0 x0 x1 x5 h => ∃ m, loopA (stepL ⟨prog, w0, 28, q7i⟩ (drw w0 28) (loopAt q7f 0)) m (mkFr [(0, x0), (1, x1), (5, x5)]) [fun t => k0 (t 5)] h := by
 funext k0 x0 x1 x5 h
 exact congrArg Exists (funext fun m => (qya w0 k0 m x0 x1 x5 h).symm)
theorem q009 {w0 : World} {h : Hp} {R : Kont} {a0 a1 : Value} (hj : ∀ v, v ∈ [a0, a1] → v ≠ junk) (hv : qav prog w0 a0 a1 R h) : ACalls prog w0 qg4 [a0, a1] h R := by
 have e : vcFn ⟨prog, w0, 28, q7i⟩ (drw w0 28) q7f [a0, a1] R h = qav prog w0 a0 a1 R h := by
  unfold qav
  rw [qyb w0]
  kernel_rfl
 exact qf (fn := q7f) (ks := q7i) (n := 28) (by kernel_rfl) (by kernel_rfl) (qe (by kernel_rfl)) (by simp) hj e hv
end
end Go.Proofs.YtfmoemconapmhaaGreat.Ah
