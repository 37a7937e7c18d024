/- PRINTED by wip/tools/shallow.py: functions of the program as readable words, and that each is what its text says. -/
import Derived.Test.YtfmoemconapmhaaGreatGn
set_option linter.unusedVariables false
set_option linter.unusedSimpArgs false
namespace Go.Proofs.YtfmoemconapmhaaGreat.Ah
open Go Go.Proofs.Tryz
noncomputable section
abbrev qjs : Func := f92
def qjt : List (Nat × List Nat × List Nat) := []
def qdc (P : Program) (w0 : World) (a0 : Value) (R : Kont) : Hp → Prop :=
 pureA (binPtrA .eql a0 (.pointer none)) fun b =>
 condA b (
 retA [(.int .i64 0)] R) (
 nilA a0 fun c =>
 addA c 0 fun d =>
 loadA w0 d fun e =>
 pureA (lenSl e) fun g =>
 retA [g] R)
theorem quv {w0 : World} {h : Hp} {R : Kont} {a0 : Value} (hj : ∀ v, v ∈ [a0] → v ≠ junk) (hv : qdc prog w0 a0 R h) : ACalls prog w0 qd9 [a0] h R := by
 have e : vcFn ⟨prog, w0, 10, qjt⟩ (drw w0 10) qjs [a0] R h = qdc prog w0 a0 R h := by
  kernel_rfl
 exact qf (fn := qjs) (ks := qjt) (n := 10) (by kernel_rfl) (by kernel_rfl) (qe (by kernel_rfl)) (by simp) hj e hv
abbrev qju : Func := f99
def qjy : List (Nat × List Nat × List Nat) := []
def qdd (P : Program) (w0 : World) (a0 : Value) (R : Kont) : Hp → Prop :=
 callA P w0 qd3 [a0, (.func (.func q8z) #[] #[])] fun b =>
 retA [b] R
theorem quw {w0 : World} {h : Hp} {R : Kont} {a0 : Value} (hj : ∀ v, v ∈ [a0] → v ≠ junk) (hv : qdd prog w0 a0 R h) : ACalls prog w0 qda [a0] h R := by
 have e : vcFn ⟨prog, w0, 5, qjy⟩ (drw w0 5) qju [a0] R h = qdd prog w0 a0 R h := by
  kernel_rfl
 exact qf (fn := qju) (ks := qjy) (n := 5) (by kernel_rfl) (by kernel_rfl) (qe (by kernel_rfl)) (by simp) hj e hv
abbrev qk1 : Func := f100
def qk3 : List (Nat × List Nat × List Nat) := []
def qdf (P : Program) (w0 : World) (R : Kont) : Hp → Prop :=
 buildA [] [(.slice none 0 0)] fun b =>
 boxA true 1 b fun c =>
 retA [c] R
theorem qv1 {w0 : World} {h : Hp} {R : Kont} (hj : ∀ v, v ∈ [] → v ≠ junk) (hv : qdf prog w0  R h) : ACalls prog w0 q95 [] h R := by
 have e : vcFn ⟨prog, w0, 3, qk3⟩ (drw w0 3) qk1 [] R h = qdf prog w0  R h := by
  kernel_rfl
 exact qf (fn := qk1) (ks := qk3) (n := 3) (by kernel_rfl) (by kernel_rfl) (qe (by kernel_rfl)) (by simp) hj e hv
abbrev q2l : Func := f103
def q2k : List (Nat × List Nat × List Nat) := [(3, [3, 11, 12, 13], [3]), (10, [3, 6], [6])]
def q94 (P : Program) (w0 : World) (R : Ko4) (k0 : Ko1) (x3 x11 x12 x13 : Value) : Hp → Prop :=
 pureA (binA .lss x13 x12) fun c =>
 condA c (
 idxSlA 1 x11 x13 fun d =>
 loadA w0 d fun e =>
 callA P w0 qdg [e] fun b =>
 pureA (lenSl b) fun g =>
 pureA (binA .gtr g (.int .i64 0)) fun i =>
 condA i (
 buildA [(0, 1, false, b), (1, 1, false, x13)] [(.slice none 0 0), (.int .i64 0)] fun j =>
 callA P w0 q2h [x3, j] fun s =>
 pureA (binA .add x13 (.int .i64 1)) fun l =>
 R x3 x11 x12 l) (
 pureA (binA .add x13 (.int .i64 1)) fun o =>
 R x3 x11 x12 o)) (
 k0 x3)
def q2m (P : Program) (w0 : World) (k0 : Ko1) : Nat → Value → Value → Value → Value → Hp → Prop
 | 0, _, _, _, _ => fun _ => False
 | m + 1, x3, x11, x12, x13 => q94 P w0 (q2m P w0 k0 m) k0 x3 x11 x12 x13
def qk5 (P : Program) (w0 : World) (k0 : Ko1) (x3 x11 x12 x13 : Value) : Hp → Prop := fun h => ∃ m, q2m P w0 k0 m x3 x11 x12 x13 h
def q67 (P : Program) (w0 : World) (R : Ko2) (k2 : Ko1) (x3 x6 : Value) : Hp → Prop :=
 nilA x3 fun g =>
 addA g 0 fun i =>
 loadA w0 i fun j =>
 pureA (lenSl j) fun l =>
 pureA (binA .gtr l (.int .i64 0)) fun o =>
 condA o (
 callA P w0 q60 [x3] fun s =>
 newA [(.slice none 0 0), (.int .i64 0)] 2 fun c =>
 storeNA w0 c s 2 fun _ =>
 pureA (lenSl x6) fun d =>
 pureQ (fun K => K d) fun u =>
 pureQ (pureA (binA .eql u (.int .i64 0))) fun v =>
 pureQ (fun K => K v) fun b =>
 pureQ (guardA b false (fun K => K x6)) fun z =>
 pureQ (guardA b false (fun K => K d)) fun ba =>
 pureQ (guardA b false (pureA (binA .sub ba (.int .i64 1)))) fun bb =>
 pureQ (guardA b false (idxSlA 4 z bb)) fun bc =>
 pureQ (guardA b false (addA bc 0)) fun bd =>
 readQ (guardA b false (loadA w0 bd)) fun be =>
 pureQ (guardA b false (addA c 0)) fun bf =>
 readQ (guardA b false (loadA w0 bf)) fun bg =>
 pureQ (guardA b false (idxSlA 4 bg (.int .i64 0))) fun bh =>
 pureQ (guardA b false (addA bh 0)) fun bi =>
 readQ (guardA b false (loadA w0 bi)) fun bj =>
 pureQ (guardA b false (pureA (binA .neq be bj))) fun bk =>
 pureQ (pickA b (.bool true) bk) fun bl =>
 endA (
 condA bl (
 addA c 0 fun bm =>
 loadA w0 bm fun bn =>
 idxSlA 4 bn (.int .i64 0) fun bo =>
 loadNA w0 bo 4 fun bp =>
 bslA [(0, 4, true, bp)] (zerosL [(.string .empty), (.string .empty), (.string .empty), (.bool false)] 1) 1 4 fun bq =>
 appA w0 4 56 x6 bq fun e =>
 addA c 0 fun br =>
 loadA w0 br fun bs =>
 pureA (lenSl bs) fun bt =>
 pureA (binA .gtr bt (.int .i64 1)) fun bu =>
 condA bu (
 pureQ (fun K => K x3) fun bv =>
 pureQ (addA c 0) fun bw =>
 readQ (loadA w0 bw) fun bx =>
 readQ (slSlA 4 bx (some (.int .i64 1)) none none) fun bz =>
 pureQ (addA c 1) fun ca =>
 readQ (loadA w0 ca) fun cb =>
 allA [
 (buildA [(0, 1, false, bz), (1, 1, false, cb)] [(.slice none 0 0), (.int .i64 0)] fun cc =>
 stillA [] (
 allA [
 (callA P w0 q2h [bv, cc] fun co =>
 stillA [] (
 endA (
 R x3 e)))]))]) (
 R x3 e)) (
 addA c 0 fun cd =>
 loadA w0 cd fun ce =>
 pureA (lenSl ce) fun cf =>
 pureA (binA .gtr cf (.int .i64 1)) fun cg =>
 condA cg (
 pureQ (fun K => K x3) fun ch =>
 pureQ (addA c 0) fun ci =>
 readQ (loadA w0 ci) fun cj =>
 readQ (slSlA 4 cj (some (.int .i64 1)) none none) fun ck =>
 pureQ (addA c 1) fun cl =>
 readQ (loadA w0 cl) fun cm =>
 allA [
 (buildA [(0, 1, false, ck), (1, 1, false, cm)] [(.slice none 0 0), (.int .i64 0)] fun cn =>
 stillA [] (
 allA [
 (callA P w0 q2h [ch, cn] fun cp =>
 stillA [] (
 endA (
 R x3 x6)))]))]) (
 R x3 x6)))) (
 k2 x6)
def q0m (P : Program) (w0 : World) (k2 : Ko1) : Nat → Value → Value → Hp → Prop
 | 0, _, _ => fun _ => False
 | m + 1, x3, x6 => q67 P w0 (q0m P w0 k2 m) k2 x3 x6
def qk4 (P : Program) (w0 : World) (k2 : Ko1) (x3 x6 : Value) : Hp → Prop := fun h => ∃ m, q0m P w0 k2 m x3 x6 h
def q96 (P : Program) (w0 : World) (a0 : Value) (R : Kont) : Hp → Prop :=
 buildA [(1, 1, false, (.func (.func q91) #[] #[]))] [(.slice none 0 0), .nilFunc] fun b =>
 boxA true 2 b fun c =>
 pureA (lenSl a0) fun d =>
 qk5 P w0 (fun e =>
 qk4 P w0 (fun g =>
 retA [g] R) e (.slice none 0 0)) c a0 d (.int .i64 0)
theorem qum (w0 : World) (k2 : Ko1) : ∀ (m : Nat) (x3 x6 : Value) (h : Hp), loopA (stepL ⟨prog, w0, 75, q2k⟩ (drw w0 75) (loopAt q2l 1)) m (mkFr [(3, x3), (6, x6)]) [fun t => k2 (t 6)] h = q0m prog w0 k2 m x3 x6 h := by
 intro m
 induction m with
 | zero => intros; kernel_rfl
 | succ m ih =>
  intro x3 x6 h
  have e : q0m prog w0 k2 m = fun x3 x6 h => loopA (stepL ⟨prog, w0, 75, q2k⟩ (drw w0 75) (loopAt q2l 1)) m (mkFr [(3, x3), (6, x6)]) [fun t => k2 (t 6)] h := by funext x3 x6 h; exact (ih x3 x6 h).symm
  show _ = q67 prog w0 (q0m prog w0 k2 m) k2 x3 x6 h
  rw [e]
  kernel_rfl
theorem qul (w0 : World) : qk4 prog w0 = fun k2 x3 x6 h => ∃ m, loopA (stepL ⟨prog, w0, 75, q2k⟩ (drw w0 75) (loopAt q2l 1)) m (mkFr [(3, x3), (6, x6)]) [fun t => k2 (t 6)] h := by
 funext k2 x3 x6 h
 exact congrArg Exists (funext fun m => (qum w0 k2 m x3 x6 h).symm)
theorem qup (w0 : World) (k0 : Ko1) : ∀ (m : Nat) (x3 x11 x12 x13 : Value) (h : Hp), loopA (stepL ⟨prog, w0, 75, q2k⟩ (drw w0 75) (loopAt q2l 0)) m (mkFr [(3, x3), (11, x11), (12, x12), (13, x13)]) [fun t => k0 (t 3)] h = q2m prog w0 k0 m x3 x11 x12 x13 h := by
 intro m
 induction m with
 | zero => intros; kernel_rfl
 | succ m ih =>
  intro x3 x11 x12 x13 h
  have e : q2m prog w0 k0 m = fun x3 x11 x12 x13 h => loopA (stepL ⟨prog, w0, 75, q2k⟩ (drw w0 75) (loopAt q2l 0)) m (mkFr [(3, x3), (11, x11), (12, x12), (13, x13)]) [fun t => k0 (t 3)] h := by funext x3 x11 x12 x13 h; exact (ih x3 x11 x12 x13 h).symm
  show _ = q94 prog w0 (q2m prog w0 k0 m) k0 x3 x11 x12 x13 h
  rw [e]
  kernel_rfl
theorem qun (w0 : World) : qk5 prog w0 = fun k0 x3 x11 x12 x13 h => ∃ m, loopA (stepL ⟨prog, w0, 75, q2k⟩ (drw w0 75) (loopAt q2l 0)) m (mkFr [(3, x3), (11, x11), (12, x12), (13, x13)]) [fun t => k0 (t 3)] h := by
 funext k0 x3 x11 x12 x13 h
 exact congrArg Exists (funext fun m => (qup w0 k0 m x3 x11 x12 x13 h).symm)
theorem qv3 {w0 : World} {h : Hp} {R : Kont} {a0 : Value} (hj : ∀ v, v ∈ [a0] → v ≠ junk) (hv : q96 prog w0 a0 R h) : ACalls prog w0 q97 [a0] h R := by
 have e : vcFn ⟨prog, w0, 75, q2k⟩ (drw w0 75) q2l [a0] R h = q96 prog w0 a0 R h := by
  unfold q96
  rw [qun w0, qul w0]
  kernel_rfl
 exact qf (fn := q2l) (ks := q2k) (n := 75) (by kernel_rfl) (by kernel_rfl) (qe (by kernel_rfl)) (by simp) hj e hv
abbrev qjv : Func := f131
def qjx : List (Nat × List Nat × List Nat) := []
def qd6 (P : Program) (w0 : World) (a0 a1 a2 : Value) (R : Kont) : Hp → Prop :=
 boxA true 3 a2 fun g =>
 newA [(.string .empty), (.string .empty), (.bool false)] 3 fun b =>
 newA [(.string .empty), (.string .empty), (.bool false)] 3 fun i =>
 pureA (binPtrA .eql a0 (.pointer none)) fun o =>
 condA o (
 loadNA w0 i 3 fun s =>
 storeNA w0 b s 3 fun _ =>
 loadNA w0 b 3 fun u =>
 retA [u, (.bool false)] R) (
 callA P w0 q90 [a0, a1] fun j =>
 pureA (extA j 0) fun c =>
 pureA (extA j 1) fun v =>
 condA v (
 nilA a0 fun z =>
 addA z 0 fun ba =>
 loadA w0 ba fun bb =>
 idxSlA 4 bb c fun bc =>
 addA bc 1 fun bd =>
 loadNA w0 bd 3 fun be =>
 newA [(.string .empty), (.string .empty), (.bool false)] 3 fun l =>
 storeNA w0 l be 3 fun _ =>
 pureQ (fun K => K a0) fun bf =>
 pureQ (nilA bf) fun bg =>
 pureQ (addA bg 0) fun bh =>
 readQ (loadA w0 bh) fun bi =>
 pureQ (fun K => K c) fun bj =>
 readQ (loadNA w0 g 3) fun bk =>
 pureQ (idxSlA 4 bi bj) fun bl =>
 pureQ (addA bl 1) fun bm =>
 allA [
 (storeNA w0 bm bk 3 fun _ =>
 stillA [] (
 endA (
 loadNA w0 l 3 fun bn =>
 storeNA w0 b bn 3 fun _ =>
 loadNA w0 b 3 fun bo =>
 retA [bo, (.bool true)] R)))]) (
 pureQ (fun K => K a0) fun bp =>
 pureQ (fun K => K a0) fun bq =>
 pureQ (nilA bq) fun br =>
 pureQ (addA br 0) fun d =>
 readQ (loadA w0 d) fun e =>
 pureQ (fun K => K c) fun bs =>
 pureQ (fun K => K a1) fun bt =>
 readQ (loadNA w0 g 3) fun bu =>
 allA [
 (buildA [(0, 1, false, bt), (1, 3, true, bu)] [(.string .empty), (.string .empty), (.string .empty), (.bool false)] fun bv =>
 stillA [(sameQ (loadA w0 d) e)] (
 allA [
 (bslA [(0, 4, true, bv)] (zerosL [(.string .empty), (.string .empty), (.string .empty), (.bool false)] 1) 1 4 fun bw =>
 stillA [(sameQ (loadA w0 d) e)] (
 allA [
 (callA P w0 q8p [e, bs, bw] fun bx =>
 stillA [] (
 pureQ (nilA bp) fun bz =>
 pureQ (addA bz 0) fun ca =>
 allA [
 (storeA w0 ca bx fun _ =>
 stillA [] (
 endA (
 loadNA w0 i 3 fun cb =>
 storeNA w0 b cb 3 fun _ =>
 loadNA w0 b 3 fun cc =>
 retA [cc, (.bool false)] R)))]))]))]))]))
theorem quy {w0 : World} {h : Hp} {R : Kont} {a0 a1 a2 : Value} (hj : ∀ v, v ∈ [a0, a1, a2] → v ≠ junk) (hv : qd6 prog w0 a0 a1 a2 R h) : ACalls prog w0 qdb [a0, a1, a2] h R := by
 have e : vcFn ⟨prog, w0, 53, qjx⟩ (drw w0 53) qjv [a0, a1, a2] R h = qd6 prog w0 a0 a1 a2 R h := by
  kernel_rfl
 exact qf (fn := qjv) (ks := qjx) (n := 53) (by kernel_rfl) (by kernel_rfl) (qe (by kernel_rfl)) (by simp) hj e hv
abbrev qjl : Func := f137
def qjn : List (Nat × List Nat × List Nat) := []
def qd4 (P : Program) (w0 : World) (a0 a1 : Value) (R : Kont) : Hp → Prop :=
 boxA false 1 a0 fun b =>
 boxA false 1 a1 fun c =>
 mkFnA q63 [] [b, c] fun d =>
 retA [d] R
theorem quu {w0 : World} {h : Hp} {R : Kont} {a0 a1 : Value} (hj : ∀ v, v ∈ [a0, a1] → v ≠ junk) (hv : qd4 prog w0 a0 a1 R h) : ACalls prog w0 qd3 [a0, a1] h R := by
 have e : vcFn ⟨prog, w0, 6, qjn⟩ (drw w0 6) qjl [a0, a1] R h = qd4 prog w0 a0 a1 R h := by
  kernel_rfl
 exact qf (fn := qjl) (ks := qjn) (n := 6) (by kernel_rfl) (by kernel_rfl) (qe (by kernel_rfl)) (by simp) hj e hv
abbrev qjd : Func := f138
def qjg : List (Nat × List Nat × List Nat) := []
def qcx (P : Program) (w0 : World) (a0 : Value) (R : Kont) : Hp → Prop :=
 retA [(.bool true)] R
theorem quj {w0 : World} {h : Hp} {R : Kont} {a0 : Value} (hj : ∀ v, v ∈ [a0] → v ≠ junk) (hv : qcx prog w0 a0 R h) : ACalls prog w0 q8z [a0] h R := by
 have e : vcFn ⟨prog, w0, 3, qjg⟩ (drw w0 3) qjd [a0] R h = qcx prog w0 a0 R h := by
  kernel_rfl
 exact qf (fn := qjd) (ks := qjg) (n := 3) (by kernel_rfl) (by kernel_rfl) (qe (by kernel_rfl)) (by simp) hj e hv
abbrev qjo : Func := f141
def qjp : List (Nat × List Nat × List Nat) := []
def qd5 (P : Program) (w0 : World) (a0 a1 : Value) (R : Kont) : Hp → Prop :=
 boxA true 2 a0 fun d =>
 boxA true 2 a1 fun e =>
 pureQ (addA d 0) fun i =>
 readQ (loadA w0 i) fun j =>
 pureQ (idxSlA 4 j (.int .i64 0)) fun l =>
 pureQ (addA l 0) fun o =>
 readQ (loadA w0 o) fun s =>
 pureQ (addA e 0) fun u =>
 readQ (loadA w0 u) fun v =>
 pureQ (idxSlA 4 v (.int .i64 0)) fun z =>
 pureQ (addA z 0) fun ba =>
 readQ (loadA w0 ba) fun bb =>
 allA [
 (callA P w0 qa3 [s, bb] fun bc =>
 stillA [] (
 pureQ (fun K => K bc) fun g =>
 endA (
 pureA (binA .lss g (.int .i64 0)) fun c =>
 guardA c false (fun K => K g) fun bd =>
 guardA c false (pureA (binA .eql bd (.int .i64 0))) fun be =>
 guardA c false (fun K => K be) fun b =>
 guardA b true (addA d 1) fun bf =>
 guardA b true (loadA w0 bf) fun bg =>
 guardA b true (addA e 1) fun bh =>
 guardA b true (loadA w0 bh) fun bi =>
 guardA b true (pureA (binA .lss bg bi)) fun bj =>
 guardA c false (pickA b bj (.bool false)) fun bk =>
 pickA c (.bool true) bk fun bl =>
 retA [bl] R)))]
theorem qus {w0 : World} {h : Hp} {R : Kont} {a0 a1 : Value} (hj : ∀ v, v ∈ [a0, a1] → v ≠ junk) (hv : qd5 prog w0 a0 a1 R h) : ACalls prog w0 q91 [a0, a1] h R := by
 have e : vcFn ⟨prog, w0, 30, qjp⟩ (drw w0 30) qjo [a0, a1] R h = qd5 prog w0 a0 a1 R h := by
  kernel_rfl
 exact qf (fn := qjo) (ks := qjp) (n := 30) (by kernel_rfl) (by kernel_rfl) (qe (by kernel_rfl)) (by simp) hj e hv
abbrev q65 : Func := f143
def q66 : List (Nat × List Nat × List Nat) := [(3, [3, 7, 8, 9], [3])]
def q92 (P : Program) (w0 : World) (R : Ko4) (k0 : Ko1) (x3 x7 x8 x9 : Value) : Hp → Prop :=
 pureA (binA .lss x9 x8) fun e =>
 condA e (
 idxSlA 4 x7 x9 fun g =>
 loadNA w0 g 4 fun i =>
 newA [(.string .empty), (.string .empty), (.string .empty), (.bool false)] 4 fun c =>
 storeNA w0 c i 4 fun _ =>
 pureA (lenSl x3) fun d =>
 pureQ (fun K => K d) fun j =>
 pureQ (pureA (binA .eql j (.int .i64 0))) fun l =>
 pureQ (fun K => K l) fun b =>
 pureQ (guardA b false (addA c 0)) fun o =>
 readQ (guardA b false (loadA w0 o)) fun s =>
 pureQ (guardA b false (fun K => K x3)) fun u =>
 pureQ (guardA b false (fun K => K d)) fun v =>
 pureQ (guardA b false (pureA (binA .sub v (.int .i64 1)))) fun z =>
 pureQ (guardA b false (idxSlA 4 u z)) fun ba =>
 pureQ (guardA b false (addA ba 0)) fun bb =>
 readQ (guardA b false (loadA w0 bb)) fun bc =>
 pureQ (guardA b false (pureA (binA .gtr s bc))) fun bd =>
 pureQ (pickA b (.bool true) bd) fun be =>
 endA (
 condA be (
 loadNA w0 c 4 fun bf =>
 bslA [(0, 4, true, bf)] (zerosL [(.string .empty), (.string .empty), (.string .empty), (.bool false)] 1) 1 4 fun bg =>
 appA w0 4 56 x3 bg fun bh =>
 pureA (binA .add x9 (.int .i64 1)) fun bi =>
 R bh x7 x8 bi) (
 pureA (binA .add x9 (.int .i64 1)) fun bj =>
 R x3 x7 x8 bj))) (
 k0 x3)
def q1e (P : Program) (w0 : World) (k0 : Ko1) : Nat → Value → Value → Value → Value → Hp → Prop
 | 0, _, _, _, _ => fun _ => False
 | m + 1, x3, x7, x8, x9 => q92 P w0 (q1e P w0 k0 m) k0 x3 x7 x8 x9
def qk0 (P : Program) (w0 : World) (k0 : Ko1) (x3 x7 x8 x9 : Value) : Hp → Prop := fun h => ∃ m, q1e P w0 k0 m x3 x7 x8 x9 h
def q93 (P : Program) (w0 : World) (a0 : Value) (R : Kont) : Hp → Prop :=
 pureA (lenSl a0) fun b =>
 qk0 P w0 (fun c =>
 retA [c] R) (.slice none 0 0) a0 b (.int .i64 0)
theorem quh (w0 : World) (k0 : Ko1) : ∀ (m : Nat) (x3 x7 x8 x9 : Value) (h : Hp), loopA (stepL ⟨prog, w0, 34, q66⟩ (drw w0 34) (loopAt q65 0)) m (mkFr [(3, x3), (7, x7), (8, x8), (9, x9)]) [fun t => k0 (t 3)] h = q1e prog w0 k0 m x3 x7 x8 x9 h := by
 intro m
 induction m with
 | zero => intros; kernel_rfl
 | succ m ih =>
  intro x3 x7 x8 x9 h
  have e : q1e prog w0 k0 m = fun x3 x7 x8 x9 h => loopA (stepL ⟨prog, w0, 34, q66⟩ (drw w0 34) (loopAt q65 0)) m (mkFr [(3, x3), (7, x7), (8, x8), (9, x9)]) [fun t => k0 (t 3)] h := by funext x3 x7 x8 x9 h; exact (ih x3 x7 x8 x9 h).symm
  show _ = q92 prog w0 (q1e prog w0 k0 m) k0 x3 x7 x8 x9 h
  rw [e]
  kernel_rfl
theorem qui (w0 : World) : qk0 prog w0 = fun k0 x3 x7 x8 x9 h => ∃ m, loopA (stepL ⟨prog, w0, 34, q66⟩ (drw w0 34) (loopAt q65 0)) m (mkFr [(3, x3), (7, x7), (8, x8), (9, x9)]) [fun t => k0 (t 3)] h := by
 funext k0 x3 x7 x8 x9 h
 exact congrArg Exists (funext fun m => (quh w0 k0 m x3 x7 x8 x9 h).symm)
theorem quz {w0 : World} {h : Hp} {R : Kont} {a0 : Value} (hj : ∀ v, v ∈ [a0] → v ≠ junk) (hv : q93 prog w0 a0 R h) : ACalls prog w0 qdg [a0] h R := by
 have e : vcFn ⟨prog, w0, 34, q66⟩ (drw w0 34) q65 [a0] R h = q93 prog w0 a0 R h := by
  unfold q93
  rw [qui w0]
  kernel_rfl
 exact qf (fn := q65) (ks := q66) (n := 34) (by kernel_rfl) (by kernel_rfl) (qe (by kernel_rfl)) (by simp) hj e hv
abbrev q5u : Func := f144
def q5v : List (Nat × List Nat × List Nat) := [(3, [0, 4], [])]
def q8r (P : Program) (w0 : World) (R : Ko2) (k0 : Hp → Prop) (kr : Hp → Prop) (x0 x4 : Value) : Hp → Prop :=
 pureA (binA .gtr x4 (.int .i64 0)) fun c =>
 condA c (
 pureA (binA .sub x4 (.int .i64 1)) fun d =>
 pureA (binA .quo d (.int .i64 2)) fun b =>
 pureQ (fun K => K x0) fun e =>
 pureQ (nilA e) fun g =>
 pureQ (addA g 1) fun i =>
 readQ (loadA w0 i) fun j =>
 pureQ (fun K => K x0) fun l =>
 pureQ (nilA l) fun o =>
 pureQ (addA o 0) fun s =>
 readQ (loadA w0 s) fun u =>
 pureQ (fun K => K x4) fun v =>
 pureQ (idxSlA 2 u v) fun z =>
 readQ (loadNA w0 z 2) fun ba =>
 pureQ (fun K => K x0) fun bb =>
 pureQ (nilA bb) fun bc =>
 pureQ (addA bc 0) fun bd =>
 readQ (loadA w0 bd) fun be =>
 pureQ (fun K => K b) fun bf =>
 pureQ (idxSlA 2 be bf) fun bg =>
 readQ (loadNA w0 bg 2) fun bh =>
 allA [
 (callVA P w0 j [ba, bh] fun bi =>
 stillA [] (
 pureQ (pureA (unA .not bi)) fun bj =>
 endA (
 condA bj (
 kr) (
 pureQ (fun K => K x0) fun bk =>
 pureQ (nilA bk) fun bl =>
 pureQ (addA bl 0) fun bm =>
 readQ (loadA w0 bm) fun bn =>
 pureQ (fun K => K x4) fun bo =>
 pureQ (fun K => K x0) fun bp =>
 pureQ (nilA bp) fun bq =>
 pureQ (addA bq 0) fun br =>
 readQ (loadA w0 br) fun bs =>
 pureQ (fun K => K b) fun bt =>
 pureQ (fun K => K x0) fun bu =>
 pureQ (nilA bu) fun bv =>
 pureQ (addA bv 0) fun bw =>
 readQ (loadA w0 bw) fun bx =>
 pureQ (fun K => K b) fun bz =>
 pureQ (idxSlA 2 bx bz) fun ca =>
 readQ (loadNA w0 ca 2) fun cb =>
 pureQ (fun K => K x0) fun cc =>
 pureQ (nilA cc) fun cd =>
 pureQ (addA cd 0) fun ce =>
 readQ (loadA w0 ce) fun cf =>
 pureQ (fun K => K x4) fun cg =>
 pureQ (idxSlA 2 cf cg) fun ch =>
 readQ (loadNA w0 ch 2) fun ci =>
 pureQ (idxSlA 2 bn bo) fun cj =>
 allA [
 (storeNA w0 cj cb 2 fun _ =>
 stillA [] (
 pureQ (idxSlA 2 bs bt) fun ck =>
 allA [
 (storeNA w0 ck ci 2 fun _ =>
 stillA [] (
 endA (
 R x0 b)))]))]))))]) (
 k0)
def q46 (P : Program) (w0 : World) (k0 : Hp → Prop) (kr : Hp → Prop) : Nat → Value → Value → Hp → Prop
 | 0, _, _ => fun _ => False
 | m + 1, x0, x4 => q8r P w0 (q46 P w0 k0 kr m) k0 kr x0 x4
def qj2 (P : Program) (w0 : World) (k0 : Hp → Prop) (kr : Hp → Prop) (x0 x4 : Value) : Hp → Prop := fun h => ∃ m, q46 P w0 k0 kr m x0 x4 h
def q8s (P : Program) (w0 : World) (a0 a1 : Value) (R : Kont) : Hp → Prop :=
 boxA true 2 a1 fun d =>
 pureQ (fun K => K a0) fun e =>
 pureQ (fun K => K a0) fun g =>
 pureQ (nilA g) fun i =>
 pureQ (addA i 0) fun b =>
 readQ (loadA w0 b) fun c =>
 readQ (loadNA w0 d 2) fun j =>
 allA [
 (bslA [(0, 2, true, j)] (zerosL [(.slice none 0 0), (.int .i64 0)] 1) 1 2 fun l =>
 stillA [(sameQ (loadA w0 b) c)] (
 allA [
 (appA w0 2 32 c l fun o =>
 stillA [] (
 pureQ (nilA e) fun s =>
 pureQ (addA s 0) fun u =>
 allA [
 (storeA w0 u o fun _ =>
 stillA [] (
 endA (
 nilA a0 fun v =>
 addA v 0 fun z =>
 loadA w0 z fun ba =>
 pureA (lenSl ba) fun bb =>
 pureA (binA .sub bb (.int .i64 1)) fun bc =>
 qj2 P w0 (
 retA [] R) (
 retA [] R) a0 bc)))]))]))]
theorem qu3 (w0 : World) (k0 : Hp → Prop) (kr : Hp → Prop) : ∀ (m : Nat) (x0 x4 : Value) (h : Hp), loopA (stepL ⟨prog, w0, 74, q5v⟩ (drw w0 74) (loopAt q5u 0)) m (mkFr [(0, x0), (4, x4)]) [fun t => k0, fun t => kr] h = q46 prog w0 k0 kr m x0 x4 h := by
 intro m
 induction m with
 | zero => intros; kernel_rfl
 | succ m ih =>
  intro x0 x4 h
  have e : q46 prog w0 k0 kr m = fun x0 x4 h => loopA (stepL ⟨prog, w0, 74, q5v⟩ (drw w0 74) (loopAt q5u 0)) m (mkFr [(0, x0), (4, x4)]) [fun t => k0, fun t => kr] h := by funext x0 x4 h; exact (ih x0 x4 h).symm
  show _ = q8r prog w0 (q46 prog w0 k0 kr m) k0 kr x0 x4 h
  rw [e]
  kernel_rfl
theorem qu2 (w0 : World) : qj2 prog w0 = fun k0 kr x0 x4 h => ∃ m, loopA (stepL ⟨prog, w0, 74, q5v⟩ (drw w0 74) (loopAt q5u 0)) m (mkFr [(0, x0), (4, x4)]) [fun t => k0, fun t => kr] h := by
 funext k0 kr x0 x4 h
 exact congrArg Exists (funext fun m => (qu3 w0 k0 kr m x0 x4 h).symm)
theorem qu9 {w0 : World} {h : Hp} {R : Kont} {a0 a1 : Value} (hj : ∀ v, v ∈ [a0, a1] → v ≠ junk) (hv : q8s prog w0 a0 a1 R h) : ACalls prog w0 q2h [a0, a1] h R := by
 have e : vcFn ⟨prog, w0, 74, q5v⟩ (drw w0 74) q5u [a0, a1] R h = q8s prog w0 a0 a1 R h := by
  unfold q8s
  rw [qu2 w0]
  kernel_rfl
 exact qf (fn := q5u) (ks := q5v) (n := 74) (by kernel_rfl) (by kernel_rfl) (qe (by kernel_rfl)) (by simp) hj e hv
abbrev q5w : Func := f145
def q5x : List (Nat × List Nat × List Nat) := [(8, [0, 2, 3, 4, 6], [2])]
def q4t (P : Program) (w0 : World) (R : Ko5) (kr : Ko1) (x0 x2 x3 x4 x6 : Value) : Hp → Prop :=
 pureA (binA .mul (.int .i64 2) x6) fun e =>
 pureA (binA .add e (.int .i64 1)) fun c =>
 pureA (binA .geq c x4) fun g =>
 condA g (
 loadNA w0 x3 2 fun i =>
 storeNA w0 x2 i 2 fun _ =>
 kr x2) (
 pureQ (fun K => K c) fun j =>
 pureQ (pureA (binA .add j (.int .i64 1))) fun l =>
 pureQ (fun K => K x4) fun o =>
 pureQ (pureA (binA .lss l o)) fun s =>
 pureQ (fun K => K s) fun b =>
 pureQ (guardA b true (fun K => K x0)) fun u =>
 pureQ (guardA b true (nilA u)) fun v =>
 pureQ (guardA b true (addA v 1)) fun z =>
 readQ (guardA b true (loadA w0 z)) fun ba =>
 pureQ (guardA b true (fun K => K x0)) fun bb =>
 pureQ (guardA b true (nilA bb)) fun bc =>
 pureQ (guardA b true (addA bc 0)) fun bd =>
 readQ (guardA b true (loadA w0 bd)) fun be =>
 pureQ (guardA b true (fun K => K c)) fun bf =>
 pureQ (guardA b true (pureA (binA .add bf (.int .i64 1)))) fun bg =>
 pureQ (guardA b true (idxSlA 2 be bg)) fun bh =>
 readQ (guardA b true (loadNA w0 bh 2)) fun bi =>
 pureQ (guardA b true (fun K => K x0)) fun bj =>
 pureQ (guardA b true (nilA bj)) fun bk =>
 pureQ (guardA b true (addA bk 0)) fun bl =>
 readQ (guardA b true (loadA w0 bl)) fun bm =>
 pureQ (guardA b true (fun K => K c)) fun bn =>
 pureQ (guardA b true (idxSlA 2 bm bn)) fun bo =>
 readQ (guardA b true (loadNA w0 bo 2)) fun bp =>
 allA [
 (guardA b true (callVA P w0 ba [bi, bp]) fun bq =>
 stillA [] (
 pureQ (pickA b bq (.bool false)) fun br =>
 endA (
 condA br (
 pureA (binA .add c (.int .i64 1)) fun d =>
 pureQ (fun K => K x0) fun bs =>
 pureQ (nilA bs) fun bt =>
 pureQ (addA bt 1) fun bu =>
 readQ (loadA w0 bu) fun bv =>
 pureQ (fun K => K x0) fun bw =>
 pureQ (nilA bw) fun bx =>
 pureQ (addA bx 0) fun bz =>
 readQ (loadA w0 bz) fun ca =>
 pureQ (fun K => K d) fun cb =>
 pureQ (idxSlA 2 ca cb) fun cc =>
 readQ (loadNA w0 cc 2) fun cd =>
 pureQ (fun K => K x0) fun ce =>
 pureQ (nilA ce) fun cf =>
 pureQ (addA cf 0) fun cg =>
 readQ (loadA w0 cg) fun ch =>
 pureQ (fun K => K x6) fun ci =>
 pureQ (idxSlA 2 ch ci) fun cj =>
 readQ (loadNA w0 cj 2) fun ck =>
 allA [
 (callVA P w0 bv [cd, ck] fun cl =>
 stillA [] (
 pureQ (pureA (unA .not cl)) fun cm =>
 endA (
 condA cm (
 loadNA w0 x3 2 fun cn =>
 storeNA w0 x2 cn 2 fun _ =>
 kr x2) (
 pureQ (fun K => K x0) fun co =>
 pureQ (nilA co) fun cp =>
 pureQ (addA cp 0) fun cq =>
 readQ (loadA w0 cq) fun cr =>
 pureQ (fun K => K x6) fun cs =>
 pureQ (fun K => K x0) fun ct =>
 pureQ (nilA ct) fun cu =>
 pureQ (addA cu 0) fun cv =>
 readQ (loadA w0 cv) fun cw =>
 pureQ (fun K => K d) fun cx =>
 pureQ (fun K => K x0) fun cy =>
 pureQ (nilA cy) fun cz =>
 pureQ (addA cz 0) fun da =>
 readQ (loadA w0 da) fun db =>
 pureQ (fun K => K d) fun dc =>
 pureQ (idxSlA 2 db dc) fun dd =>
 readQ (loadNA w0 dd 2) fun de =>
 pureQ (fun K => K x0) fun df =>
 pureQ (nilA df) fun dg =>
 pureQ (addA dg 0) fun dh =>
 readQ (loadA w0 dh) fun di =>
 pureQ (fun K => K x6) fun dj =>
 pureQ (idxSlA 2 di dj) fun dk =>
 readQ (loadNA w0 dk 2) fun dl =>
 pureQ (idxSlA 2 cr cs) fun dm =>
 allA [
 (storeNA w0 dm de 2 fun _ =>
 stillA [] (
 pureQ (idxSlA 2 cw cx) fun dn =>
 allA [
 (storeNA w0 dn dl 2 fun _ =>
 stillA [] (
 endA (
 R x0 x2 x3 x4 d)))]))]))))]) (
 pureQ (fun K => K x0) fun dp =>
 pureQ (nilA dp) fun dq =>
 pureQ (addA dq 1) fun dr =>
 readQ (loadA w0 dr) fun ds =>
 pureQ (fun K => K x0) fun dt =>
 pureQ (nilA dt) fun du =>
 pureQ (addA du 0) fun dv =>
 readQ (loadA w0 dv) fun dw =>
 pureQ (fun K => K c) fun dx =>
 pureQ (idxSlA 2 dw dx) fun dy =>
 readQ (loadNA w0 dy 2) fun dz =>
 pureQ (fun K => K x0) fun ea =>
 pureQ (nilA ea) fun eb =>
 pureQ (addA eb 0) fun ec =>
 readQ (loadA w0 ec) fun ed =>
 pureQ (fun K => K x6) fun ee =>
 pureQ (idxSlA 2 ed ee) fun ef =>
 readQ (loadNA w0 ef 2) fun eg =>
 allA [
 (callVA P w0 ds [dz, eg] fun eh =>
 stillA [] (
 pureQ (pureA (unA .not eh)) fun ei =>
 endA (
 condA ei (
 loadNA w0 x3 2 fun ej =>
 storeNA w0 x2 ej 2 fun _ =>
 kr x2) (
 pureQ (fun K => K x0) fun ek =>
 pureQ (nilA ek) fun el =>
 pureQ (addA el 0) fun em =>
 readQ (loadA w0 em) fun en =>
 pureQ (fun K => K x6) fun eo =>
 pureQ (fun K => K x0) fun ep =>
 pureQ (nilA ep) fun eq =>
 pureQ (addA eq 0) fun er =>
 readQ (loadA w0 er) fun es =>
 pureQ (fun K => K c) fun et =>
 pureQ (fun K => K x0) fun eu =>
 pureQ (nilA eu) fun ev =>
 pureQ (addA ev 0) fun ew =>
 readQ (loadA w0 ew) fun ex =>
 pureQ (fun K => K c) fun ey =>
 pureQ (idxSlA 2 ex ey) fun ez =>
 readQ (loadNA w0 ez 2) fun ga =>
 pureQ (fun K => K x0) fun gb =>
 pureQ (nilA gb) fun gc =>
 pureQ (addA gc 0) fun gd =>
 readQ (loadA w0 gd) fun ge =>
 pureQ (fun K => K x6) fun gf =>
 pureQ (idxSlA 2 ge gf) fun gg =>
 readQ (loadNA w0 gg 2) fun gh =>
 pureQ (idxSlA 2 en eo) fun gi =>
 allA [
 (storeNA w0 gi ga 2 fun _ =>
 stillA [] (
 pureQ (idxSlA 2 es et) fun gj =>
 allA [
 (storeNA w0 gj gh 2 fun _ =>
 stillA [] (
 endA (
 R x0 x2 x3 x4 c)))]))]))))]))))])
def q2i (P : Program) (w0 : World) (kr : Ko1) : Nat → Value → Value → Value → Value → Value → Hp → Prop
 | 0, _, _, _, _, _ => fun _ => False
 | m + 1, x0, x2, x3, x4, x6 => q4t P w0 (q2i P w0 kr m) kr x0 x2 x3 x4 x6
def qj3 (P : Program) (w0 : World) (kr : Ko1) (x0 x2 x3 x4 x6 : Value) : Hp → Prop := fun h => ∃ m, q2i P w0 kr m x0 x2 x3 x4 x6 h
def q8t (P : Program) (w0 : World) (a0 : Value) (R : Kont) : Hp → Prop :=
 newA [(.slice none 0 0), (.int .i64 0)] 2 fun d =>
 nilA a0 fun e =>
 addA e 0 fun g =>
 loadA w0 g fun i =>
 idxSlA 2 i (.int .i64 0) fun j =>
 loadNA w0 j 2 fun l =>
 newA [(.slice none 0 0), (.int .i64 0)] 2 fun c =>
 storeNA w0 c l 2 fun _ =>
 nilA a0 fun o =>
 addA o 0 fun s =>
 loadA w0 s fun u =>
 pureA (lenSl u) fun v =>
 pureA (binA .sub v (.int .i64 1)) fun b =>
 pureQ (fun K => K a0) fun z =>
 pureQ (nilA z) fun ba =>
 pureQ (addA ba 0) fun bb =>
 readQ (loadA w0 bb) fun bc =>
 pureQ (fun K => K a0) fun bd =>
 pureQ (nilA bd) fun be =>
 pureQ (addA be 0) fun bf =>
 readQ (loadA w0 bf) fun bg =>
 pureQ (fun K => K b) fun bh =>
 pureQ (idxSlA 2 bg bh) fun bi =>
 readQ (loadNA w0 bi 2) fun bj =>
 pureQ (idxSlA 2 bc (.int .i64 0)) fun bk =>
 allA [
 (storeNA w0 bk bj 2 fun _ =>
 stillA [] (
 endA (
 newA [(.slice none 0 0), (.int .i64 0)] 2 fun bl =>
 pureQ (fun K => K a0) fun bm =>
 pureQ (nilA bm) fun bn =>
 pureQ (addA bn 0) fun bo =>
 readQ (loadA w0 bo) fun bp =>
 pureQ (fun K => K b) fun bq =>
 readQ (loadNA w0 bl 2) fun br =>
 pureQ (idxSlA 2 bp bq) fun bs =>
 allA [
 (storeNA w0 bs br 2 fun _ =>
 stillA [] (
 endA (
 nilA a0 fun bt =>
 addA bt 0 fun bu =>
 loadA w0 bu fun bv =>
 slSlA 2 bv none (some b) none fun bw =>
 nilA a0 fun bx =>
 addA bx 0 fun bz =>
 storeA w0 bz bw fun _ =>
 qj3 P w0 (fun ca =>
 loadNA w0 ca 2 fun cb =>
 retA [cb] R) a0 d c b (.int .i64 0))))])))]
theorem qu5 (w0 : World) (kr : Ko1) : ∀ (m : Nat) (x0 x2 x3 x4 x6 : Value) (h : Hp), loopA (stepL ⟨prog, w0, 131, q5x⟩ (drw w0 131) (loopAt q5w 0)) m (mkFr [(0, x0), (2, x2), (3, x3), (4, x4), (6, x6)]) [fun t => kr (t 2)] h = q2i prog w0 kr m x0 x2 x3 x4 x6 h := by
 intro m
 induction m with
 | zero => intros; kernel_rfl
 | succ m ih =>
  intro x0 x2 x3 x4 x6 h
  have e : q2i prog w0 kr m = fun x0 x2 x3 x4 x6 h => loopA (stepL ⟨prog, w0, 131, q5x⟩ (drw w0 131) (loopAt q5w 0)) m (mkFr [(0, x0), (2, x2), (3, x3), (4, x4), (6, x6)]) [fun t => kr (t 2)] h := by funext x0 x2 x3 x4 x6 h; exact (ih x0 x2 x3 x4 x6 h).symm
  show _ = q4t prog w0 (q2i prog w0 kr m) kr x0 x2 x3 x4 x6 h
  rw [e]
  kernel_rfl
theorem qu4 (w0 : World) : qj3 prog w0 = fun kr x0 x2 x3 x4 x6 h => ∃ m, loopA (stepL ⟨prog, w0, 131, q5x⟩ (drw w0 131) (loopAt q5w 0)) m (mkFr [(0, x0), (2, x2), (3, x3), (4, x4), (6, x6)]) [fun t => kr (t 2)] h := by
 funext kr x0 x2 x3 x4 x6 h
 exact congrArg Exists (funext fun m => (qu5 w0 kr m x0 x2 x3 x4 x6 h).symm)
theorem qua {w0 : World} {h : Hp} {R : Kont} {a0 : Value} (hj : ∀ v, v ∈ [a0] → v ≠ junk) (hv : q8t prog w0 a0 R h) : ACalls prog w0 q60 [a0] h R := by
 have e : vcFn ⟨prog, w0, 131, q5x⟩ (drw w0 131) q5w [a0] R h = q8t prog w0 a0 R h := by
  unfold q8t
  rw [qu4 w0]
  kernel_rfl
 exact qf (fn := q5w) (ks := q5x) (n := 131) (by kernel_rfl) (by kernel_rfl) (qe (by kernel_rfl)) (by simp) hj e hv
abbrev qjw : Func := f153
def qjr : List (Nat × List Nat × List Nat) := []
def qd7 (P : Program) (w0 : World) (a0 a1 : Value) (R : Kont) : Hp → Prop :=
 newA [(.string .empty), (.string .empty), (.bool false)] 3 fun b =>
 newA [(.string .empty), (.string .empty), (.bool false)] 3 fun d =>
 callA P w0 q90 [a0, a1] fun c =>
 pureA (extA c 0) fun e =>
 pureA (extA c 1) fun g =>
 pureA (unA .not g) fun i =>
 condA i (
 loadNA w0 d 3 fun j =>
 storeNA w0 b j 3 fun _ =>
 loadNA w0 b 3 fun l =>
 retA [l, (.bool false)] R) (
 nilA a0 fun o =>
 addA o 0 fun s =>
 loadA w0 s fun u =>
 idxSlA 4 u e fun v =>
 addA v 1 fun z =>
 loadNA w0 z 3 fun ba =>
 storeNA w0 b ba 3 fun _ =>
 loadNA w0 b 3 fun bb =>
 retA [bb, (.bool true)] R)
theorem qux {w0 : World} {h : Hp} {R : Kont} {a0 a1 : Value} (hj : ∀ v, v ∈ [a0, a1] → v ≠ junk) (hv : qd7 prog w0 a0 a1 R h) : ACalls prog w0 qd8 [a0, a1] h R := by
 have e : vcFn ⟨prog, w0, 26, qjr⟩ (drw w0 26) qjw [a0, a1] R h = qd7 prog w0 a0 a1 R h := by
  kernel_rfl
 exact qf (fn := qjw) (ks := qjr) (n := 26) (by kernel_rfl) (by kernel_rfl) (qe (by kernel_rfl)) (by simp) hj e hv
abbrev qjm : Func := f154
def qjq : List (Nat × List Nat × List Nat) := []
def qd2 (P : Program) (w0 : World) (a0 a1 : Value) (R : Kont) : Hp → Prop :=
 pureA (binPtrA .eql a0 (.pointer none)) fun c =>
 condA c (
 retA [(.int .i64 0), (.bool false)] R) (
 nilA a0 fun d =>
 addA d 0 fun e =>
 loadA w0 e fun g =>
 callA P w0 qde [g, a1] fun b =>
 pureA (extA b 0) fun i =>
 pureA (extA b 1) fun j =>
 retA [i, j] R)
theorem qut {w0 : World} {h : Hp} {R : Kont} {a0 a1 : Value} (hj : ∀ v, v ∈ [a0, a1] → v ≠ junk) (hv : qd2 prog w0 a0 a1 R h) : ACalls prog w0 q90 [a0, a1] h R := by
 have e : vcFn ⟨prog, w0, 16, qjq⟩ (drw w0 16) qjm [a0, a1] R h = qd2 prog w0 a0 a1 R h := by
  kernel_rfl
 exact qf (fn := qjm) (ks := qjq) (n := 16) (by kernel_rfl) (by kernel_rfl) (qe (by kernel_rfl)) (by simp) hj e hv
abbrev q62 : Func := f161
def q61 : List (Nat × List Nat × List Nat) := [(2, [0, 2, 12, 13, 14], [])]
def q8w (P : Program) (w0 : World) (R : Ko5) (k0 : Hp → Prop) (kr : Hp → Prop) (x0 x2 x12 x13 x14 : Value) : Hp → Prop :=
 pureA (binA .lss x14 x13) fun d =>
 condA d (
 idxSlA 4 x12 x14 fun e =>
 loadNA w0 e 4 fun g =>
 newA [(.string .empty), (.string .empty), (.string .empty), (.bool false)] 4 fun c =>
 storeNA w0 c g 4 fun _ =>
 loadA w0 x2 fun i =>
 addA c 0 fun j =>
 loadA w0 j fun l =>
 callVA P w0 i [l] fun b =>
 guardA b true (fun K => K x0) fun o =>
 guardA b true (addA c 0) fun s =>
 guardA b true (loadA w0 s) fun u =>
 guardA b true (addA c 1) fun v =>
 guardA b true (loadNA w0 v 3) fun z =>
 guardA b true (callVA P w0 o [u, z]) fun ba =>
 guardA b true (pureA (unA .not ba)) fun bb =>
 pickA b bb (.bool false) fun bc =>
 condA bc (
 kr) (
 pureA (binA .add x14 (.int .i64 1)) fun bd =>
 R x0 x2 x12 x13 bd)) (
 k0)
def q1d (P : Program) (w0 : World) (k0 : Hp → Prop) (kr : Hp → Prop) : Nat → Value → Value → Value → Value → Value → Hp → Prop
 | 0, _, _, _, _, _ => fun _ => False
 | m + 1, x0, x2, x12, x13, x14 => q8w P w0 (q1d P w0 k0 kr m) k0 kr x0 x2 x12 x13 x14
def qja (P : Program) (w0 : World) (k0 : Hp → Prop) (kr : Hp → Prop) (x0 x2 x12 x13 x14 : Value) : Hp → Prop := fun h => ∃ m, q1d P w0 k0 kr m x0 x2 x12 x13 x14 h
def q8x (P : Program) (w0 : World) (a0 a1 a2 : Value) (R : Kont) : Hp → Prop :=
 loadA w0 a1 fun c =>
 pureA (binPtrA .eql c (.pointer none)) fun d =>
 condA d (
 retA [] R) (
 loadA w0 a1 fun e =>
 nilA e fun g =>
 addA g 0 fun i =>
 loadA w0 i fun j =>
 callA P w0 qcq [j] fun b =>
 pureA (lenSl b) fun l =>
 qja P w0 (
 retA [] R) (
 retA [] R) a0 a2 b l (.int .i64 0))
theorem que (w0 : World) (k0 : Hp → Prop) (kr : Hp → Prop) : ∀ (m : Nat) (x0 x2 x12 x13 x14 : Value) (h : Hp), loopA (stepL ⟨prog, w0, 32, q61⟩ (drw w0 32) (loopAt q62 0)) m (mkFr [(0, x0), (2, x2), (12, x12), (13, x13), (14, x14)]) [fun t => k0, fun t => kr] h = q1d prog w0 k0 kr m x0 x2 x12 x13 x14 h := by
 intro m
 induction m with
 | zero => intros; kernel_rfl
 | succ m ih =>
  intro x0 x2 x12 x13 x14 h
  have e : q1d prog w0 k0 kr m = fun x0 x2 x12 x13 x14 h => loopA (stepL ⟨prog, w0, 32, q61⟩ (drw w0 32) (loopAt q62 0)) m (mkFr [(0, x0), (2, x2), (12, x12), (13, x13), (14, x14)]) [fun t => k0, fun t => kr] h := by funext x0 x2 x12 x13 x14 h; exact (ih x0 x2 x12 x13 x14 h).symm
  show _ = q8w prog w0 (q1d prog w0 k0 kr m) k0 kr x0 x2 x12 x13 x14 h
  rw [e]
  kernel_rfl
theorem qud (w0 : World) : qja prog w0 = fun k0 kr x0 x2 x12 x13 x14 h => ∃ m, loopA (stepL ⟨prog, w0, 32, q61⟩ (drw w0 32) (loopAt q62 0)) m (mkFr [(0, x0), (2, x2), (12, x12), (13, x13), (14, x14)]) [fun t => k0, fun t => kr] h := by
 funext k0 kr x0 x2 x12 x13 x14 h
 exact congrArg Exists (funext fun m => (que w0 k0 kr m x0 x2 x12 x13 x14 h).symm)
theorem quf {w0 : World} {h : Hp} {R : Kont} {a0 a1 a2 : Value} (hj : ∀ v, v ∈ [a0, a1, a2] → v ≠ junk) (hv : q8x prog w0 a0 a1 a2 R h) : ACalls prog w0 q63 [a0, a1, a2] h R := by
 have e : vcFn ⟨prog, w0, 32, q61⟩ (drw w0 32) q62 [a0, a1, a2] R h = q8x prog w0 a0 a1 a2 R h := by
  unfold q8x
  rw [qud w0]
  kernel_rfl
 exact qf (fn := q62) (ks := q61) (n := 32) (by kernel_rfl) (by kernel_rfl) (qe (by kernel_rfl)) (by simp) hj e hv
abbrev qk2 : Func := f167
def qjz : List (Nat × List Nat × List Nat) := []
def qdh (P : Program) (w0 : World) (a0 a1 : Value) (R : Kont) : Hp → Prop :=
 callA P w0 qco [a0, a1, (.func (.func q20) #[] #[])] fun d =>
 pureA (extA d 0) fun c =>
 pureA (extA d 1) fun bf =>
 pureQ (fun K => K c) fun e =>
 pureQ (fun K => K c) fun g =>
 pureQ (fun K => K a0) fun i =>
 pureQ (pureA (lenSl i)) fun j =>
 pureQ (pureA (binA .lss g j)) fun l =>
 pureQ (fun K => K l) fun b =>
 pureQ (guardA b true (fun K => K a0)) fun o =>
 pureQ (guardA b true (fun K => K c)) fun s =>
 pureQ (guardA b true (idxSlA 4 o s)) fun u =>
 pureQ (guardA b true (addA u 0)) fun v =>
 readQ (guardA b true (loadA w0 v)) fun z =>
 pureQ (guardA b true (fun K => K a1)) fun ba =>
 pureQ (guardA b true (pureA (binA .eql z ba))) fun bb =>
 pureQ (pickA b bb (.bool false)) fun bc =>
 pureQ (fun K => K e) fun bd =>
 pureQ (fun K => K bc) fun be =>
 endA (
 retA [bd, be] R)
theorem qv2 {w0 : World} {h : Hp} {R : Kont} {a0 a1 : Value} (hj : ∀ v, v ∈ [a0, a1] → v ≠ junk) (hv : qdh prog w0 a0 a1 R h) : ACalls prog w0 qde [a0, a1] h R := by
 have e : vcFn ⟨prog, w0, 28, qjz⟩ (drw w0 28) qk2 [a0, a1] R h = qdh prog w0 a0 a1 R h := by
  kernel_rfl
 exact qf (fn := qk2) (ks := qjz) (n := 28) (by kernel_rfl) (by kernel_rfl) (qe (by kernel_rfl)) (by simp) hj e hv
abbrev qji : Func := f174
def qjh : List (Nat × List Nat × List Nat) := []
def qcz (P : Program) (w0 : World) (a0 a1 : Value) (R : Kont) : Hp → Prop :=
 boxA true 4 a0 fun b =>
 addA b 0 fun c =>
 loadA w0 c fun d =>
 callA P w0 qa3 [d, a1] fun e =>
 retA [e] R
theorem qur {w0 : World} {h : Hp} {R : Kont} {a0 a1 : Value} (hj : ∀ v, v ∈ [a0, a1] → v ≠ junk) (hv : qcz prog w0 a0 a1 R h) : ACalls prog w0 q20 [a0, a1] h R := by
 have e : vcFn ⟨prog, w0, 9, qjh⟩ (drw w0 9) qji [a0, a1] R h = qcz prog w0 a0 a1 R h := by
  kernel_rfl
 exact qf (fn := qji) (ks := qjh) (n := 9) (by kernel_rfl) (by kernel_rfl) (qe (by kernel_rfl)) (by simp) hj e hv
end
end Go.Proofs.YtfmoemconapmhaaGreat.Ah
