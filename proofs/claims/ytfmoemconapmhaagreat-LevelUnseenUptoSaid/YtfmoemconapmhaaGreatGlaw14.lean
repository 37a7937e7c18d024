/- PRINTED by wip/tools/shallow.py: functions of the program as readable words, and that each is what its text says. -/
import Derived.Test.YtfmoemconapmhaaGreatGn
set_option linter.unusedVariables false
set_option linter.unusedSimpArgs false
namespace Go.Proofs.YtfmoemconapmhaaGreat.Ah
open Go Go.Proofs.Tryz
noncomputable section
abbrev q0i : Func := f3
def q0h : List (Nat × List Nat × List Nat) := [(7, [1, 2, 3, 40, 41, 42], [1, 2, 3]), (31, [1, 2, 3, 11, 12, 102, 103, 104], [1, 2, 3, 11, 12]), (36, [1, 2, 3, 11, 12, 15], [1, 2, 3, 11]), (41, [1, 2, 3, 11, 121, 122, 123], [2, 3, 11])]
def q9a (P : Program) (w0 : World) (R : Ko6) (k0 : Ko3) (kr : Ko3) (x1 x2 x3 x40 x41 x42 : Value) : Hp → Prop :=
 pureA (binA .lss x42 x41) fun o =>
 condA o (
 idxSlA 5 x40 x42 fun s =>
 loadNA w0 s 5 fun u =>
 newA [(.int .i64 0), (.string .empty), (.string .empty), (.string .empty), (.int .i64 0)] 5 fun b =>
 storeNA w0 b u 5 fun _ =>
 callA P w0 q0k [x3] fun d =>
 addA b 0 fun v =>
 loadA w0 v fun c =>
 pureA (binA .eql c (.int .i64 0)) fun z =>
 condA z (
 addA b 1 fun ba =>
 loadA w0 ba fun bb =>
 addA b 3 fun bc =>
 loadA w0 bc fun bd =>
 callA P w0 q4w [x3, bb, bd] fun co =>
 pureA (binA .add x42 (.int .i64 1)) fun be =>
 R x1 x2 x3 x40 x41 be) (
 pureA (binA .eql c (.int .i64 1)) fun bf =>
 condA bf (
 addA b 1 fun bg =>
 loadA w0 bg fun bh =>
 callA P w0 q9u [x3, bh] fun cp =>
 pureA (binA .add x42 (.int .i64 1)) fun bi =>
 R x1 x2 x3 x40 x41 bi) (
 pureA (binA .eql c (.int .i64 4)) fun bj =>
 condA bj (
 callA P w0 q6r [x3] fun cq =>
 callA P w0 q0k [x3] fun bk =>
 callA P w0 q1g [bk, d] fun bl =>
 pureA (unA .not bl) fun bm =>
 condA bm (
 kr x1 (.bool false) x3) (
 pureA (binA .add x42 (.int .i64 1)) fun bn =>
 R x1 x2 x3 x40 x41 bn)) (
 pureA (binA .eql c (.int .i64 5)) fun bo =>
 condA bo (
 callA P w0 q71 [x3] fun cr =>
 callA P w0 q0k [x3] fun bp =>
 callA P w0 q1g [bp, d] fun bq =>
 pureA (unA .not bq) fun br =>
 condA br (
 kr x1 (.bool false) x3) (
 pureA (binA .add x42 (.int .i64 1)) fun bs =>
 R x1 x2 x3 x40 x41 bs)) (
 pureA (binA .eql c (.int .i64 8)) fun bt =>
 condA bt (
 callA P w0 q6r [x3] fun cs =>
 pureQ (addA x1 0) fun g =>
 readQ (loadNA w0 g 3) fun i =>
 pureQ (fun K => K x3) fun bu =>
 pureQ (fun K => K x3) fun bv =>
 allA [
 (callA P w0 q9i [bu] fun bw =>
 stillA [(sameQ (loadNA w0 g 3) i)] (
 allA [
 (callA P w0 qe5 [bv] fun bx =>
 stillA [(sameQ (loadNA w0 g 3) i)] (
 allA [
 (callA P w0 qg2 [i, bw, bx] fun bz =>
 stillA [] (
 pureQ (fun K => K bz) fun l =>
 pureQ (pureA (extA l 0)) fun ca =>
 pureQ (pureA (extA l 1)) fun cb =>
 pureQ (fun K => K ca) fun e =>
 pureQ (fun K => K cb) fun cc =>
 endA (
 pureA (binA .neq cc (.int .i64 0)) fun j =>
 guardA j false (fun K => K e) fun cd =>
 guardA j false (pureA (binPtrA .eql cd (.pointer none))) fun ce =>
 pickA j (.bool true) ce fun cf =>
 condA cf (
 kr x1 (.bool false) x3) (
 callA P w0 q0k [e] fun cg =>
 callA P w0 q1g [cg, d] fun ch =>
 pureA (unA .not ch) fun ci =>
 condA ci (
 kr x1 (.bool false) e) (
 pureA (binA .add x42 (.int .i64 1)) fun cj =>
 R x1 x2 e x40 x41 cj)))))]))]))]) (
 callA P w0 q0k [x3] fun ck =>
 callA P w0 q1g [ck, d] fun cl =>
 pureA (unA .not cl) fun cm =>
 condA cm (
 kr x1 (.bool false) x3) (
 pureA (binA .add x42 (.int .i64 1)) fun cn =>
 R x1 x2 x3 x40 x41 cn))))))) (
 k0 x1 x2 x3)
def q1f (P : Program) (w0 : World) (k0 : Ko3) (kr : Ko3) : Nat → Value → Value → Value → Value → Value → Value → Hp → Prop
 | 0, _, _, _, _, _, _ => fun _ => False
 | m + 1, x1, x2, x3, x40, x41, x42 => q9a P w0 (q1f P w0 k0 kr m) k0 kr x1 x2 x3 x40 x41 x42
def qdk (P : Program) (w0 : World) (k0 : Ko3) (kr : Ko3) (x1 x2 x3 x40 x41 x42 : Value) : Hp → Prop := fun h => ∃ m, q1f P w0 k0 kr m x1 x2 x3 x40 x41 x42 h
def q99 (P : Program) (w0 : World) (R : Ko8) (k3 : Ko5) (x1 x2 x3 x11 x12 x102 x103 x104 : Value) : Hp → Prop :=
 pureA (binA .lss x104 x103) fun b =>
 condA b (
 idxSlA 1 x102 x104 fun c =>
 loadA w0 c fun d =>
 pureA (binA .mul (.int .i64 16) d) fun e =>
 pureA (binA .add x12 e) fun g =>
 pureA (binA .add x104 (.int .i64 1)) fun i =>
 R x1 x2 x3 x11 g x102 x103 i) (
 k3 x1 x2 x3 x11 x12)
def q2o (P : Program) (w0 : World) (k3 : Ko5) : Nat → Value → Value → Value → Value → Value → Value → Value → Value → Hp → Prop
 | 0, _, _, _, _, _, _, _, _ => fun _ => False
 | m + 1, x1, x2, x3, x11, x12, x102, x103, x104 => q99 P w0 (q2o P w0 k3 m) k3 x1 x2 x3 x11 x12 x102 x103 x104
def q9c (P : Program) (w0 : World) (k3 : Ko5) (x1 x2 x3 x11 x12 x102 x103 x104 : Value) : Hp → Prop := fun h => ∃ m, q2o P w0 k3 m x1 x2 x3 x11 x12 x102 x103 x104 h
def q98 (P : Program) (w0 : World) (R : Ko6) (k5 : Ko4) (kr : Ko4) (x1 x2 x3 x11 x12 x15 : Value) : Hp → Prop :=
 callA P w0 q71 [x3] fun c =>
 condA c (
 pureA (binA .add x15 (.int .i64 1)) fun b =>
 pureA (binA .gtr b x12) fun d =>
 condA d (
 kr x1 (.bool false) x3 x11) (
 R x1 x2 x3 x11 x12 b)) (
 k5 x1 x2 x3 x11)
def q2p (P : Program) (w0 : World) (k5 : Ko4) (kr : Ko4) : Nat → Value → Value → Value → Value → Value → Value → Hp → Prop
 | 0, _, _, _, _, _, _ => fun _ => False
 | m + 1, x1, x2, x3, x11, x12, x15 => q98 P w0 (q2p P w0 k5 kr m) k5 kr x1 x2 x3 x11 x12 x15
def q9e (P : Program) (w0 : World) (k5 : Ko4) (kr : Ko4) (x1 x2 x3 x11 x12 x15 : Value) : Hp → Prop := fun h => ∃ m, q2p P w0 k5 kr m x1 x2 x3 x11 x12 x15 h
def q9d (P : Program) (w0 : World) (R : Ko7) (k7 : Ko3) (kr : Ko3) (x1 x2 x3 x11 x121 x122 x123 : Value) : Hp → Prop :=
 pureA (binA .lss x123 x122) fun c =>
 condA c (
 idxSlA 1 x121 x123 fun d =>
 loadA w0 d fun e =>
 addA x1 0 fun g =>
 addA g 1 fun i =>
 loadA w0 i fun j =>
 pureA (binA .geq e j) fun b =>
 guardA b true (fun K => K x123) fun l =>
 guardA b true (pureA (binA .lss l (.int .i64 15))) fun o =>
 pickA b o (.bool false) fun s =>
 condA s (
 kr (.bool false) x3 x11) (
 pureA (binA .add x123 (.int .i64 1)) fun u =>
 R x1 x2 x3 x11 x121 x122 u)) (
 k7 x2 x3 x11)
def q2n (P : Program) (w0 : World) (k7 : Ko3) (kr : Ko3) : Nat → Value → Value → Value → Value → Value → Value → Value → Hp → Prop
 | 0, _, _, _, _, _, _, _ => fun _ => False
 | m + 1, x1, x2, x3, x11, x121, x122, x123 => q9d P w0 (q2n P w0 k7 kr m) k7 kr x1 x2 x3 x11 x121 x122 x123
def q9b (P : Program) (w0 : World) (k7 : Ko3) (kr : Ko3) (x1 x2 x3 x11 x121 x122 x123 : Value) : Hp → Prop := fun h => ∃ m, q2n P w0 k7 kr m x1 x2 x3 x11 x121 x122 x123 h
def q9f (P : Program) (w0 : World) (a0 : Value) (R : Kont) : Hp → Prop :=
 boxA true 4 a0 fun b =>
 loadNA w0 b 4 fun bc =>
 callA P w0 qel [bc] fun c =>
 pureA (extA c 0) fun i =>
 pureA (extA c 1) fun bd =>
 pureA (extA c 2) fun j =>
 pureA (unA .not j) fun d =>
 guardA d false (fun K => K bd) fun be =>
 guardA d false (pureA (binPtrA .eql be (.pointer none))) fun bf =>
 pickA d (.bool true) bf fun bg =>
 condA bg (
 retA [j] R) (
 addA b 3 fun bh =>
 loadA w0 bh fun bi =>
 pureA (lenSl bi) fun bj =>
 pureA (binA .gtr bj (.int .i64 1000)) fun bk =>
 condA bk (
 addA b 3 fun bl =>
 loadA w0 bl fun bm =>
 slSlA 5 bm none (some (.int .i64 1000)) none fun bn =>
 addA b 3 fun bo =>
 storeA w0 bo bn fun _ =>
 addA b 3 fun bp =>
 loadA w0 bp fun l =>
 pureA (lenSl l) fun bq =>
 qdk P w0 (fun br bs e =>
 callA P w0 q0k [e] fun bt =>
 callA P w0 q17 [e] fun o =>
 pureA (lenSl o) fun bu =>
 q9c P w0 (fun bv bw bx bz ca =>
 q9e P w0 (fun cb cc s cd =>
 callA P w0 q17 [s] fun u =>
 pureA (lenSl u) fun ce =>
 q9b P w0 (fun di cf cg =>
 callA P w0 q0k [cf] fun ch =>
 callA P w0 q1g [ch, cg] fun ci =>
 retA [ci] R) (fun cj dj dk =>
 retA [cj] R) cb cc s cd u ce (.int .i64 0)) (fun dl ck dm dn =>
 retA [ck] R) bv bw bx bz ca (.int .i64 0)) br bs e bt (.int .i64 1) o bu (.int .i64 0)) (fun dp cl dq =>
 retA [cl] R) b (.bool false) i l bq (.int .i64 0)) (
 addA b 3 fun cm =>
 loadA w0 cm fun v =>
 pureA (lenSl v) fun cn =>
 qdk P w0 (fun co cp g =>
 callA P w0 q0k [g] fun cq =>
 callA P w0 q17 [g] fun z =>
 pureA (lenSl z) fun cr =>
 q9c P w0 (fun cs ct cu cv cw =>
 q9e P w0 (fun cx cy ba cz =>
 callA P w0 q17 [ba] fun bb =>
 pureA (lenSl bb) fun da =>
 q9b P w0 (fun dr db dc =>
 callA P w0 q0k [db] fun dd =>
 callA P w0 q1g [dd, dc] fun de =>
 retA [de] R) (fun df ds dt =>
 retA [df] R) cx cy ba cz bb da (.int .i64 0)) (fun du dg dv dw =>
 retA [dg] R) cs ct cu cv cw (.int .i64 0)) co cp g cq (.int .i64 1) z cr (.int .i64 0)) (fun dx dh dy =>
 retA [dh] R) b (.bool false) i v cn (.int .i64 0)))
theorem qv7 (w0 : World) (k7 : Ko3) (kr : Ko3) : ∀ (m : Nat) (x1 x2 x3 x11 x121 x122 x123 : Value) (h : Hp), loopA (stepL ⟨prog, w0, 142, q0h⟩ (drw w0 142) (loopAt q0i 3)) m (mkFr [(1, x1), (2, x2), (3, x3), (11, x11), (121, x121), (122, x122), (123, x123)]) [fun t => k7 (t 2) (t 3) (t 11), fun t => kr (t 2) (t 3) (t 11)] h = q2n prog w0 k7 kr m x1 x2 x3 x11 x121 x122 x123 h := by
 intro m
 induction m with
 | zero => intros; kernel_rfl
 | succ m ih =>
  intro x1 x2 x3 x11 x121 x122 x123 h
  have e : q2n prog w0 k7 kr m = fun x1 x2 x3 x11 x121 x122 x123 h => loopA (stepL ⟨prog, w0, 142, q0h⟩ (drw w0 142) (loopAt q0i 3)) m (mkFr [(1, x1), (2, x2), (3, x3), (11, x11), (121, x121), (122, x122), (123, x123)]) [fun t => k7 (t 2) (t 3) (t 11), fun t => kr (t 2) (t 3) (t 11)] h := by funext x1 x2 x3 x11 x121 x122 x123 h; exact (ih x1 x2 x3 x11 x121 x122 x123 h).symm
  show _ = q9d prog w0 (q2n prog w0 k7 kr m) k7 kr x1 x2 x3 x11 x121 x122 x123 h
  rw [e]
  kernel_rfl
theorem qv4 (w0 : World) : q9b prog w0 = fun k7 kr x1 x2 x3 x11 x121 x122 x123 h => ∃ m, loopA (stepL ⟨prog, w0, 142, q0h⟩ (drw w0 142) (loopAt q0i 3)) m (mkFr [(1, x1), (2, x2), (3, x3), (11, x11), (121, x121), (122, x122), (123, x123)]) [fun t => k7 (t 2) (t 3) (t 11), fun t => kr (t 2) (t 3) (t 11)] h := by
 funext k7 kr x1 x2 x3 x11 x121 x122 x123 h
 exact congrArg Exists (funext fun m => (qv7 w0 k7 kr m x1 x2 x3 x11 x121 x122 x123 h).symm)
theorem qv9 (w0 : World) (k5 : Ko4) (kr : Ko4) : ∀ (m : Nat) (x1 x2 x3 x11 x12 x15 : Value) (h : Hp), loopA (stepL ⟨prog, w0, 142, q0h⟩ (drw w0 142) (loopAt q0i 2)) m (mkFr [(1, x1), (2, x2), (3, x3), (11, x11), (12, x12), (15, x15)]) [fun t => k5 (t 1) (t 2) (t 3) (t 11), fun t => kr (t 1) (t 2) (t 3) (t 11)] h = q2p prog w0 k5 kr m x1 x2 x3 x11 x12 x15 h := by
 intro m
 induction m with
 | zero => intros; kernel_rfl
 | succ m ih =>
  intro x1 x2 x3 x11 x12 x15 h
  have e : q2p prog w0 k5 kr m = fun x1 x2 x3 x11 x12 x15 h => loopA (stepL ⟨prog, w0, 142, q0h⟩ (drw w0 142) (loopAt q0i 2)) m (mkFr [(1, x1), (2, x2), (3, x3), (11, x11), (12, x12), (15, x15)]) [fun t => k5 (t 1) (t 2) (t 3) (t 11), fun t => kr (t 1) (t 2) (t 3) (t 11)] h := by funext x1 x2 x3 x11 x12 x15 h; exact (ih x1 x2 x3 x11 x12 x15 h).symm
  show _ = q98 prog w0 (q2p prog w0 k5 kr m) k5 kr x1 x2 x3 x11 x12 x15 h
  rw [e]
  kernel_rfl
theorem qvc (w0 : World) : q9e prog w0 = fun k5 kr x1 x2 x3 x11 x12 x15 h => ∃ m, loopA (stepL ⟨prog, w0, 142, q0h⟩ (drw w0 142) (loopAt q0i 2)) m (mkFr [(1, x1), (2, x2), (3, x3), (11, x11), (12, x12), (15, x15)]) [fun t => k5 (t 1) (t 2) (t 3) (t 11), fun t => kr (t 1) (t 2) (t 3) (t 11)] h := by
 funext k5 kr x1 x2 x3 x11 x12 x15 h
 exact congrArg Exists (funext fun m => (qv9 w0 k5 kr m x1 x2 x3 x11 x12 x15 h).symm)
theorem qv6 (w0 : World) (k3 : Ko5) : ∀ (m : Nat) (x1 x2 x3 x11 x12 x102 x103 x104 : Value) (h : Hp), loopA (stepL ⟨prog, w0, 142, q0h⟩ (drw w0 142) (loopAt q0i 1)) m (mkFr [(1, x1), (2, x2), (3, x3), (11, x11), (12, x12), (102, x102), (103, x103), (104, x104)]) [fun t => k3 (t 1) (t 2) (t 3) (t 11) (t 12)] h = q2o prog w0 k3 m x1 x2 x3 x11 x12 x102 x103 x104 h := by
 intro m
 induction m with
 | zero => intros; kernel_rfl
 | succ m ih =>
  intro x1 x2 x3 x11 x12 x102 x103 x104 h
  have e : q2o prog w0 k3 m = fun x1 x2 x3 x11 x12 x102 x103 x104 h => loopA (stepL ⟨prog, w0, 142, q0h⟩ (drw w0 142) (loopAt q0i 1)) m (mkFr [(1, x1), (2, x2), (3, x3), (11, x11), (12, x12), (102, x102), (103, x103), (104, x104)]) [fun t => k3 (t 1) (t 2) (t 3) (t 11) (t 12)] h := by funext x1 x2 x3 x11 x12 x102 x103 x104 h; exact (ih x1 x2 x3 x11 x12 x102 x103 x104 h).symm
  show _ = q99 prog w0 (q2o prog w0 k3 m) k3 x1 x2 x3 x11 x12 x102 x103 x104 h
  rw [e]
  kernel_rfl
theorem qv5 (w0 : World) : q9c prog w0 = fun k3 x1 x2 x3 x11 x12 x102 x103 x104 h => ∃ m, loopA (stepL ⟨prog, w0, 142, q0h⟩ (drw w0 142) (loopAt q0i 1)) m (mkFr [(1, x1), (2, x2), (3, x3), (11, x11), (12, x12), (102, x102), (103, x103), (104, x104)]) [fun t => k3 (t 1) (t 2) (t 3) (t 11) (t 12)] h := by
 funext k3 x1 x2 x3 x11 x12 x102 x103 x104 h
 exact congrArg Exists (funext fun m => (qv6 w0 k3 m x1 x2 x3 x11 x12 x102 x103 x104 h).symm)
theorem qva (w0 : World) (k0 : Ko3) (kr : Ko3) : ∀ (m : Nat) (x1 x2 x3 x40 x41 x42 : Value) (h : Hp), loopA (stepL ⟨prog, w0, 142, q0h⟩ (drw w0 142) (loopAt q0i 0)) m (mkFr [(1, x1), (2, x2), (3, x3), (40, x40), (41, x41), (42, x42)]) [fun t => k0 (t 1) (t 2) (t 3), fun t => kr (t 1) (t 2) (t 3)] h = q1f prog w0 k0 kr m x1 x2 x3 x40 x41 x42 h := by
 intro m
 induction m with
 | zero => intros; kernel_rfl
 | succ m ih =>
  intro x1 x2 x3 x40 x41 x42 h
  have e : q1f prog w0 k0 kr m = fun x1 x2 x3 x40 x41 x42 h => loopA (stepL ⟨prog, w0, 142, q0h⟩ (drw w0 142) (loopAt q0i 0)) m (mkFr [(1, x1), (2, x2), (3, x3), (40, x40), (41, x41), (42, x42)]) [fun t => k0 (t 1) (t 2) (t 3), fun t => kr (t 1) (t 2) (t 3)] h := by funext x1 x2 x3 x40 x41 x42 h; exact (ih x1 x2 x3 x40 x41 x42 h).symm
  show _ = q9a prog w0 (q1f prog w0 k0 kr m) k0 kr x1 x2 x3 x40 x41 x42 h
  rw [e]
  kernel_rfl
theorem qv8 (w0 : World) : qdk prog w0 = fun k0 kr x1 x2 x3 x40 x41 x42 h => ∃ m, loopA (stepL ⟨prog, w0, 142, q0h⟩ (drw w0 142) (loopAt q0i 0)) m (mkFr [(1, x1), (2, x2), (3, x3), (40, x40), (41, x41), (42, x42)]) [fun t => k0 (t 1) (t 2) (t 3), fun t => kr (t 1) (t 2) (t 3)] h := by
 funext k0 kr x1 x2 x3 x40 x41 x42 h
 exact congrArg Exists (funext fun m => (qva w0 k0 kr m x1 x2 x3 x40 x41 x42 h).symm)
theorem qvz {w0 : World} {h : Hp} {R : Kont} {a0 : Value} (hj : ∀ v, v ∈ [a0] → v ≠ junk) (hv : q9f prog w0 a0 R h) : ACalls prog w0 qkd [a0] h R := by
 have e : vcFn ⟨prog, w0, 142, q0h⟩ (drw w0 142) q0i [a0] R h = q9f prog w0 a0 R h := by
  unfold q9f
  rw [qv8 w0, qv5 w0, qvc w0, qv4 w0]
  kernel_rfl
 exact qf (fn := q0i) (ks := q0h) (n := 142) (by kernel_rfl) (by kernel_rfl) (qe (by kernel_rfl)) (by simp) hj e hv
abbrev qmb : Func := f9
def qlw : List (Nat × List Nat × List Nat) := []
def qem (P : Program) (w0 : World) (a0 : Value) (R : Kont) : Hp → Prop :=
 boxA true 4 a0 fun d =>
 addA d 0 fun l =>
 loadNA w0 l 3 fun o =>
 callA P w0 q54 [o] fun e =>
 pureA (extA e 0) fun g =>
 pureA (extA e 1) fun s =>
 addA d 0 fun u =>
 loadNA w0 u 3 fun v =>
 callA P w0 qf5 [v] fun i =>
 pureA (extA i 0) fun j =>
 pureA (extA i 1) fun z =>
 callA P w0 qek [] fun c =>
 guardA c true (fun K => K s) fun ba =>
 guardA c true (fun K => K z) fun bb =>
 guardA c true (pureA (binA .eql ba bb)) fun bc =>
 pickA c bc (.bool false) fun b =>
 guardA b true (fun K => K g) fun bd =>
 guardA b true (pureA (binPtrA .neq bd (.pointer none))) fun be =>
 guardA b true (fun K => K j) fun bf =>
 guardA b true (pureA (binPtrA .neq bf (.pointer none))) fun bg =>
 guardA b true (pureA (binBoolA .eql be bg)) fun bh =>
 pickA b bh (.bool false) fun bi =>
 retA [g, j, bi] R
theorem qxm {w0 : World} {h : Hp} {R : Kont} {a0 : Value} (hj : ∀ v, v ∈ [a0] → v ≠ junk) (hv : qem prog w0 a0 R h) : ACalls prog w0 qel [a0] h R := by
 have e : vcFn ⟨prog, w0, 34, qlw⟩ (drw w0 34) qmb [a0] R h = qem prog w0 a0 R h := by
  kernel_rfl
 exact qf (fn := qmb) (ks := qlw) (n := 34) (by kernel_rfl) (by kernel_rfl) (qe (by kernel_rfl)) (by simp) hj e hv
abbrev qmv : Func := f10
def qmp : List (Nat × List Nat × List Nat) := []
def qn2 (P : Program) (w0 : World) (b : Nat) (g : Lp) (K : Kont) (x3 y8 y9 : Value) : Hp → Prop :=
 beginA b g (
 loadA w0 x3 fun c =>
 buildA [(0, 1, false, y8), (1, 1, false, y9)] [(.string .empty), (.string .empty)] fun d =>
 bslA [(0, 2, true, d)] (zerosL [(.string .empty), (.string .empty)] 1) 1 2 fun e =>
 appA w0 2 32 c e fun i =>
 storeA w0 x3 i fun _ =>
 endR b g none K)
def qf2 (P : Program) (w0 : World) (a0 : Value) (R : Kont) : Hp → Prop :=
 fun h0 => (newA [(.slice none 0 0)] 1 fun c =>
 callA P w0 qa9 [a0, (.string .empty), (.string .empty)] fun d =>
 rangeA P w0 d 2 (fun b g args K => qn2 P w0 b g K c (args.getD 0 undef) (args.tail.getD 0 undef)) (
 loadA w0 c fun e =>
 cutA h0 (
 retA [e] R)) []) h0
theorem qxy {w0 : World} {h : Hp} {R : Kont} {a0 : Value} (hj : ∀ v, v ∈ [a0] → v ≠ junk) (hv : qf2 prog w0 a0 R h) : ACalls prog w0 q0k [a0] h R := by
 have e : vcFnM ⟨prog, w0, 17, qmp⟩ (drw w0 17) qmv [a0] R h = qf2 prog w0 a0 R h := by
  kernel_rfl
 exact q7e (fn := qmv) (ks := qmp) (n := 17) (by kernel_rfl) (by kernel_rfl) (qe (by kernel_rfl)) (by simp) hj e hv
abbrev q69 : Func := f18
def q6b : List (Nat × List Nat × List Nat) := [(4, [0, 1, 4, 12, 13], [4])]
def q9k (P : Program) (w0 : World) (R : Ko5) (k0 : Ko1) (kr : Ko1) (x0 x1 x4 x12 x13 : Value) : Hp → Prop :=
 pureA (binA .lss x13 x12) fun b =>
 condA b (
 pureQ (fun K => K x0) fun c =>
 pureQ (fun K => K x13) fun d =>
 pureQ (idxSlA 2 c d) fun e =>
 readQ (loadNA w0 e 2) fun g =>
 pureQ (fun K => K x1) fun i =>
 pureQ (fun K => K x13) fun j =>
 pureQ (idxSlA 2 i j) fun l =>
 readQ (loadNA w0 l 2) fun o =>
 pureQ (eqStA P .neq 85 g o) fun s =>
 endA (
 condA s (
 kr (.bool false)) (
 pureA (binA .add x13 (.int .i64 1)) fun u =>
 R x0 x1 x4 x12 u))) (
 k0 x4)
def q2u (P : Program) (w0 : World) (k0 : Ko1) (kr : Ko1) : Nat → Value → Value → Value → Value → Value → Hp → Prop
 | 0, _, _, _, _, _ => fun _ => False
 | m + 1, x0, x1, x4, x12, x13 => q9k P w0 (q2u P w0 k0 kr m) k0 kr x0 x1 x4 x12 x13
def qkg (P : Program) (w0 : World) (k0 : Ko1) (kr : Ko1) (x0 x1 x4 x12 x13 : Value) : Hp → Prop := fun h => ∃ m, q2u P w0 k0 kr m x0 x1 x4 x12 x13 h
def q9m (P : Program) (w0 : World) (a0 a1 : Value) (R : Kont) : Hp → Prop :=
 pureA (lenSl a0) fun b =>
 pureA (lenSl a1) fun c =>
 pureA (binA .neq b c) fun d =>
 condA d (
 retA [(.bool false)] R) (
 pureA (lenSl a0) fun e =>
 qkg P w0 (fun i =>
 retA [(.bool true)] R) (fun g =>
 retA [g] R) a0 a1 (.bool false) e (.int .i64 0))
theorem qvn (w0 : World) (k0 : Ko1) (kr : Ko1) : ∀ (m : Nat) (x0 x1 x4 x12 x13 : Value) (h : Hp), loopA (stepL ⟨prog, w0, 26, q6b⟩ (drw w0 26) (loopAt q69 0)) m (mkFr [(0, x0), (1, x1), (4, x4), (12, x12), (13, x13)]) [fun t => k0 (t 4), fun t => kr (t 4)] h = q2u prog w0 k0 kr m x0 x1 x4 x12 x13 h := by
 intro m
 induction m with
 | zero => intros; kernel_rfl
 | succ m ih =>
  intro x0 x1 x4 x12 x13 h
  have e : q2u prog w0 k0 kr m = fun x0 x1 x4 x12 x13 h => loopA (stepL ⟨prog, w0, 26, q6b⟩ (drw w0 26) (loopAt q69 0)) m (mkFr [(0, x0), (1, x1), (4, x4), (12, x12), (13, x13)]) [fun t => k0 (t 4), fun t => kr (t 4)] h := by funext x0 x1 x4 x12 x13 h; exact (ih x0 x1 x4 x12 x13 h).symm
  show _ = q9k prog w0 (q2u prog w0 k0 kr m) k0 kr x0 x1 x4 x12 x13 h
  rw [e]
  kernel_rfl
theorem qvl (w0 : World) : qkg prog w0 = fun k0 kr x0 x1 x4 x12 x13 h => ∃ m, loopA (stepL ⟨prog, w0, 26, q6b⟩ (drw w0 26) (loopAt q69 0)) m (mkFr [(0, x0), (1, x1), (4, x4), (12, x12), (13, x13)]) [fun t => k0 (t 4), fun t => kr (t 4)] h := by
 funext k0 kr x0 x1 x4 x12 x13 h
 exact congrArg Exists (funext fun m => (qvn w0 k0 kr m x0 x1 x4 x12 x13 h).symm)
theorem qwm {w0 : World} {h : Hp} {R : Kont} {a0 a1 : Value} (hj : ∀ v, v ∈ [a0, a1] → v ≠ junk) (hv : q9m prog w0 a0 a1 R h) : ACalls prog w0 q1g [a0, a1] h R := by
 have e : vcFn ⟨prog, w0, 26, q6b⟩ (drw w0 26) q69 [a0, a1] R h = q9m prog w0 a0 a1 R h := by
  unfold q9m
  rw [qvl w0]
  kernel_rfl
 exact qf (fn := q69) (ks := q6b) (n := 26) (by kernel_rfl) (by kernel_rfl) (qe (by kernel_rfl)) (by simp) hj e hv
abbrev qlv : Func := f30
def qm7 : List (Nat × List Nat × List Nat) := []
def qeo (P : Program) (w0 : World) (R : Kont) : Hp → Prop :=
 buildA [(0, 1, false, (.int .i64 256)), (1, 1, false, (.int .i64 2)), (2, 1, false, (.int .i64 2))] [(.int .i64 0), (.int .i64 0), (.int .i64 0)] fun v =>
 callA P w0 q54 [v] fun l =>
 pureA (extA l 0) fun b =>
 pureA (extA l 1) fun z =>
 pureA (binA .neq z (.int .i64 0)) fun e =>
 guardA e false (fun K => K b) fun ba =>
 guardA e false (pureA (binPtrA .eql ba (.pointer none))) fun bb =>
 pickA e (.bool true) bb fun d =>
 guardA d false (fun K => K b) fun bc =>
 guardA d false (callA P w0 qa9 [bc, (.string .empty), (.string .empty)]) fun bd =>
 guardA d false (pureA (binFnA .eql bd .nilFunc)) fun be =>
 pickA d (.bool true) be fun bf =>
 condA bf (
 retA [(.bool false)] R) (
 callA P w0 q4w [b, (.string ⟨#[97]⟩), (.string ⟨#[49]⟩)] fun bx =>
 callA P w0 q4w [b, (.string ⟨#[98]⟩), (.string ⟨#[50]⟩)] fun bz =>
 callA P w0 q4w [b, (.string ⟨#[97]⟩), (.string ⟨#[51]⟩)] fun ca =>
 callA P w0 q9u [b, (.string ⟨#[98]⟩)] fun cb =>
 callA P w0 q17 [b] fun bg =>
 bslA [(0, 1, false, (.int .i64 2))] (zerosL [(.int .i64 0)] 1) 1 1 fun bh =>
 callA P w0 q9t [bg, bh] fun g =>
 callA P w0 qae [b, (.string ⟨#[97]⟩)] fun o =>
 pureA (extA o 0) fun bi =>
 pureA (extA o 1) fun bj =>
 callA P w0 qae [b, (.string ⟨#[98]⟩)] fun s =>
 pureA (extA s 0) fun cc =>
 pureA (extA s 1) fun bk =>
 guardA g true (fun K => K b) fun bl =>
 guardA g true (callA P w0 q71 [bl]) fun bm =>
 pickA g bm (.bool false) fun c =>
 guardA c true (fun K => K b) fun bn =>
 guardA c true (callA P w0 q17 [bn]) fun bo =>
 guardA c true (bslA [(0, 1, false, (.int .i64 0)), (1, 1, false, (.int .i64 1))] (zerosL [(.int .i64 0)] 2) 2 1) fun bp =>
 guardA c true (callA P w0 q9t [bo, bp]) fun bq =>
 pickA c bq (.bool false) fun i =>
 guardA i true (fun K => K bi) fun br =>
 guardA i true (pureA (binA .eql br (.string ⟨#[51]⟩))) fun bs =>
 pickA i bs (.bool false) fun u =>
 guardA u true (fun K => K bj) fun bt =>
 pickA u bt (.bool false) fun j =>
 guardA j true (fun K => K bk) fun bu =>
 guardA j true (pureA (unA .not bu)) fun bv =>
 pickA j bv (.bool false) fun bw =>
 retA [bw] R)
theorem qxv {w0 : World} {h : Hp} {R : Kont} (hj : ∀ v, v ∈ [] → v ≠ junk) (hv : qeo prog w0  R h) : ACalls prog w0 qek [] h R := by
 have e : vcFn ⟨prog, w0, 68, qm7⟩ (drw w0 68) qlv [] R h = qeo prog w0  R h := by
  kernel_rfl
 exact qf (fn := qlv) (ks := qm7) (n := 68) (by kernel_rfl) (by kernel_rfl) (qe (by kernel_rfl)) (by simp) hj e hv
abbrev q6g : Func := f79
def q6j : List (Nat × List Nat × List Nat) := [(4, [0, 1, 4, 12, 13], [4])]
def q9p (P : Program) (w0 : World) (R : Ko5) (k0 : Ko1) (kr : Ko1) (x0 x1 x4 x12 x13 : Value) : Hp → Prop :=
 pureA (binA .lss x13 x12) fun b =>
 condA b (
 pureQ (fun K => K x0) fun c =>
 pureQ (fun K => K x13) fun d =>
 pureQ (idxSlA 1 c d) fun e =>
 readQ (loadA w0 e) fun g =>
 pureQ (fun K => K x1) fun i =>
 pureQ (fun K => K x13) fun j =>
 pureQ (idxSlA 1 i j) fun l =>
 readQ (loadA w0 l) fun o =>
 pureQ (pureA (binA .neq g o)) fun s =>
 endA (
 condA s (
 kr (.bool false)) (
 pureA (binA .add x13 (.int .i64 1)) fun u =>
 R x0 x1 x4 x12 u))) (
 k0 x4)
def q2v (P : Program) (w0 : World) (k0 : Ko1) (kr : Ko1) : Nat → Value → Value → Value → Value → Value → Hp → Prop
 | 0, _, _, _, _, _ => fun _ => False
 | m + 1, x0, x1, x4, x12, x13 => q9p P w0 (q2v P w0 k0 kr m) k0 kr x0 x1 x4 x12 x13
def qks (P : Program) (w0 : World) (k0 : Ko1) (kr : Ko1) (x0 x1 x4 x12 x13 : Value) : Hp → Prop := fun h => ∃ m, q2v P w0 k0 kr m x0 x1 x4 x12 x13 h
def q9v (P : Program) (w0 : World) (a0 a1 : Value) (R : Kont) : Hp → Prop :=
 pureA (lenSl a0) fun b =>
 pureA (lenSl a1) fun c =>
 pureA (binA .neq b c) fun d =>
 condA d (
 retA [(.bool false)] R) (
 pureA (lenSl a0) fun e =>
 qks P w0 (fun i =>
 retA [(.bool true)] R) (fun g =>
 retA [g] R) a0 a1 (.bool false) e (.int .i64 0))
theorem qvw (w0 : World) (k0 : Ko1) (kr : Ko1) : ∀ (m : Nat) (x0 x1 x4 x12 x13 : Value) (h : Hp), loopA (stepL ⟨prog, w0, 26, q6j⟩ (drw w0 26) (loopAt q6g 0)) m (mkFr [(0, x0), (1, x1), (4, x4), (12, x12), (13, x13)]) [fun t => k0 (t 4), fun t => kr (t 4)] h = q2v prog w0 k0 kr m x0 x1 x4 x12 x13 h := by
 intro m
 induction m with
 | zero => intros; kernel_rfl
 | succ m ih =>
  intro x0 x1 x4 x12 x13 h
  have e : q2v prog w0 k0 kr m = fun x0 x1 x4 x12 x13 h => loopA (stepL ⟨prog, w0, 26, q6j⟩ (drw w0 26) (loopAt q6g 0)) m (mkFr [(0, x0), (1, x1), (4, x4), (12, x12), (13, x13)]) [fun t => k0 (t 4), fun t => kr (t 4)] h := by funext x0 x1 x4 x12 x13 h; exact (ih x0 x1 x4 x12 x13 h).symm
  show _ = q9p prog w0 (q2v prog w0 k0 kr m) k0 kr x0 x1 x4 x12 x13 h
  rw [e]
  kernel_rfl
theorem qvt (w0 : World) : qks prog w0 = fun k0 kr x0 x1 x4 x12 x13 h => ∃ m, loopA (stepL ⟨prog, w0, 26, q6j⟩ (drw w0 26) (loopAt q6g 0)) m (mkFr [(0, x0), (1, x1), (4, x4), (12, x12), (13, x13)]) [fun t => k0 (t 4), fun t => kr (t 4)] h := by
 funext k0 kr x0 x1 x4 x12 x13 h
 exact congrArg Exists (funext fun m => (qvw w0 k0 kr m x0 x1 x4 x12 x13 h).symm)
theorem qws {w0 : World} {h : Hp} {R : Kont} {a0 a1 : Value} (hj : ∀ v, v ∈ [a0, a1] → v ≠ junk) (hv : q9v prog w0 a0 a1 R h) : ACalls prog w0 q9t [a0, a1] h R := by
 have e : vcFn ⟨prog, w0, 26, q6j⟩ (drw w0 26) q6g [a0, a1] R h = q9v prog w0 a0 a1 R h := by
  unfold q9v
  rw [qvt w0]
  kernel_rfl
 exact qf (fn := q6g) (ks := q6j) (n := 26) (by kernel_rfl) (by kernel_rfl) (qe (by kernel_rfl)) (by simp) hj e hv
end
end Go.Proofs.YtfmoemconapmhaaGreat.Ah
