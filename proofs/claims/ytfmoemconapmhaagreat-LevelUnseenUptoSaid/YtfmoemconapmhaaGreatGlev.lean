/- PRINTED by wip/tools/shallow.py: functions of the program as readable words, and that each is what its text says. -/
import Derived.Test.YtfmoemconapmhaaGreatGn
set_option linter.unusedVariables false
set_option linter.unusedSimpArgs false
namespace Go.Proofs.YtfmoemconapmhaaGreat.Ah
open Go Go.Proofs.Tryz
noncomputable section
abbrev qm9 : Func := f11
def qmj : List (Nat × List Nat × List Nat) := []
def qej (P : Program) (w0 : World) (a0 a1 a2 : Value) (R : Kont) : Hp → Prop :=
 boxA false 1 a1 fun b =>
 boxA false 1 a2 fun c =>
 mkFnA qdx [] [b, c] fun d =>
 callA P w0 qad [a0, d] fun e =>
 retA [e] R
theorem qxi {w0 : World} {h : Hp} {R : Kont} {a0 a1 a2 : Value} (hj : ∀ v, v ∈ [a0, a1, a2] → v ≠ junk) (hv : qej prog w0 a0 a1 a2 R h) : ACalls prog w0 q4w [a0, a1, a2] h R := by
 have e : vcFn ⟨prog, w0, 10, qmj⟩ (drw w0 10) qm9 [a0, a1, a2] R h = qej prog w0 a0 a1 a2 R h := by
  kernel_rfl
 exact qf (fn := qm9) (ks := qmj) (n := 10) (by kernel_rfl) (by kernel_rfl) (qe (by kernel_rfl)) (by simp) hj e hv
abbrev qkl : Func := f12
def qku : List (Nat × List Nat × List Nat) := []
def qds (P : Program) (w0 : World) (a0 a1 : Value) (R : Kont) : Hp → Prop :=
 boxA false 1 a1 fun b =>
 mkFnA qdo [] [b] fun c =>
 callA P w0 qad [a0, c] fun d =>
 retA [d] R
theorem qwx {w0 : World} {h : Hp} {R : Kont} {a0 a1 : Value} (hj : ∀ v, v ∈ [a0, a1] → v ≠ junk) (hv : qds prog w0 a0 a1 R h) : ACalls prog w0 q9u [a0, a1] h R := by
 have e : vcFn ⟨prog, w0, 8, qku⟩ (drw w0 8) qkl [a0, a1] R h = qds prog w0 a0 a1 R h := by
  kernel_rfl
 exact qf (fn := qkl) (ks := qku) (n := 8) (by kernel_rfl) (by kernel_rfl) (qe (by kernel_rfl)) (by simp) hj e hv
abbrev qkz : Func := f13
def ql1 : List (Nat × List Nat × List Nat) := []
def qe0 (P : Program) (w0 : World) (a0 : Value) (R : Kont) : Hp → Prop :=
 callA P w0 q1h [a0] fun i =>
 pureA (unA .not i) fun b =>
 guardA b false (fun K => K a0) fun j =>
 guardA b false (nilA j) fun l =>
 guardA b false (addA l 3) fun o =>
 guardA b false (loadA w0 o) fun s =>
 guardA b false (callA P w0 qap [s]) fun u =>
 guardA b false (pureA (binA .eql u (.int .i64 0))) fun v =>
 pickA b (.bool true) v fun z =>
 condA z (
 retA [(.bool false)] R) (
 pureQ (fun K => K a0) fun ba =>
 pureQ (fun K => K a0) fun bb =>
 pureQ (nilA bb) fun bc =>
 pureQ (addA bc 4) fun bd =>
 pureQ (idxArA 16 1 bd (.int .i64 0)) fun be =>
 readQ (loadA w0 be) fun bf =>
 pureQ (fun K => K a0) fun bg =>
 pureQ (nilA bg) fun bh =>
 pureQ (addA bh 3) fun e =>
 readQ (loadA w0 e) fun g =>
 pureQ (fun K => K a0) fun bi =>
 pureQ (nilA bi) fun bj =>
 pureQ (addA bj 0) fun bk =>
 pureQ (addA bk 0) fun c =>
 readQ (loadA w0 c) fun d =>
 pureQ (nilA ba) fun bl =>
 pureQ (addA bl 4) fun bm =>
 allA [
 (callA P w0 q8y [bf] fun bn =>
 stillA [(sameQ (loadA w0 c) d), (sameQ (loadA w0 e) g)] (
 allA [
 (callA P w0 q7g [g] fun bo =>
 stillA [(sameQ (loadA w0 c) d)] (
 allA [
 (callA P w0 qdj [bo] fun bp =>
 stillA [(sameQ (loadA w0 c) d)] (
 allA [
 (callA P w0 qao [bp, d] fun bq =>
 stillA [] (
 allA [
 (bslA [(0, 1, false, bq)] (zerosL [(.pointer none)] 1) 1 1 fun br =>
 stillA [] (
 allA [
 (callA P w0 q64 [bn, (.int .i64 0), br] fun bs =>
 stillA [] (
 pureQ (idxArA 16 1 bm (.int .i64 0)) fun bt =>
 allA [
 (storeA w0 bt bs fun _ =>
 stillA [] (
 endA (
 nilA a0 fun bu =>
 addA bu 3 fun bv =>
 loadA w0 bv fun bw =>
 callA P w0 qfd [bw] fun bx =>
 retA [(.bool true)] R)))]))]))]))]))]))]))])
theorem qx3 {w0 : World} {h : Hp} {R : Kont} {a0 : Value} (hj : ∀ v, v ∈ [a0] → v ≠ junk) (hv : qe0 prog w0 a0 R h) : ACalls prog w0 q6r [a0] h R := by
 have e : vcFn ⟨prog, w0, 43, ql1⟩ (drw w0 43) qkz [a0] R h = qe0 prog w0 a0 R h := by
  kernel_rfl
 exact qf (fn := qkz) (ks := ql1) (n := 43) (by kernel_rfl) (by kernel_rfl) (qe (by kernel_rfl)) (by simp) hj e hv
abbrev qlr : Func := f14
def qlj : List (Nat × List Nat × List Nat) := []
def qef (P : Program) (w0 : World) (a0 : Value) (R : Kont) : Hp → Prop :=
 callA P w0 q1h [a0] fun j =>
 pureA (unA .not j) fun l =>
 condA l (
 retA [(.bool false)] R) (
 callA P w0 qe7 [a0] fun c =>
 pureA (extA c 0) fun b =>
 pureA (extA c 1) fun o =>
 pureA (unA .not o) fun s =>
 condA s (
 retA [(.bool false)] R) (
 nilA a0 fun u =>
 addA u 4 fun v =>
 pureA (binA .add b (.int .i64 1)) fun z =>
 arSlA 16 1 v (some z) none fun ba =>
 callA P w0 qct [ba, (.func (.func q6i) #[] #[])] fun bb =>
 nilA a0 fun bc =>
 addA bc 4 fun bd =>
 idxArA 16 1 bd b fun be =>
 loadA w0 be fun bf =>
 pureA (unA .not bb) fun bg =>
 callA P w0 qgj [bf, bg] fun d =>
 nilA a0 fun bh =>
 addA bh 4 fun bi =>
 idxArA 16 1 bi b fun bj =>
 storeA w0 bj (.slice none 0 0) fun _ =>
 pureA (lenSl d) fun bk =>
 pureA (binA .gtr bk (.int .i64 0)) fun bl =>
 condA bl (
 pureA (binA .add b (.int .i64 1)) fun bm =>
 pureA (foldA min2A bm [(.int .i64 15)]) fun e =>
 pureQ (fun K => K a0) fun bn =>
 pureQ (fun K => K e) fun bo =>
 pureQ (fun K => K a0) fun bp =>
 pureQ (fun K => K e) fun bq =>
 pureQ (nilA bp) fun br =>
 pureQ (addA br 4) fun bs =>
 pureQ (idxArA 16 1 bs bq) fun bt =>
 readQ (loadA w0 bt) fun bu =>
 pureQ (fun K => K d) fun bv =>
 pureQ (fun K => K a0) fun bw =>
 pureQ (nilA bw) fun bx =>
 pureQ (addA bx 0) fun bz =>
 pureQ (addA bz 0) fun g =>
 readQ (loadA w0 g) fun i =>
 pureQ (nilA bn) fun ca =>
 pureQ (addA ca 4) fun cb =>
 allA [
 (callA P w0 q8y [bu] fun cc =>
 stillA [(sameQ (loadA w0 g) i)] (
 allA [
 (callA P w0 qao [bv, i] fun cd =>
 stillA [] (
 allA [
 (bslA [(0, 1, false, cd)] (zerosL [(.pointer none)] 1) 1 1 fun ce =>
 stillA [] (
 allA [
 (callA P w0 q64 [cc, (.int .i64 0), ce] fun cf =>
 stillA [] (
 pureQ (idxArA 16 1 cb bo) fun cg =>
 allA [
 (storeA w0 cg cf fun _ =>
 stillA [] (
 endA (
 retA [(.bool true)] R)))]))]))]))]))]) (
 retA [(.bool true)] R)))
theorem qx5 {w0 : World} {h : Hp} {R : Kont} {a0 : Value} (hj : ∀ v, v ∈ [a0] → v ≠ junk) (hv : qef prog w0 a0 R h) : ACalls prog w0 q71 [a0] h R := by
 have e : vcFn ⟨prog, w0, 66, qlj⟩ (drw w0 66) qlr [a0] R h = qef prog w0 a0 R h := by
  kernel_rfl
 exact qf (fn := qlr) (ks := qlj) (n := 66) (by kernel_rfl) (by kernel_rfl) (qe (by kernel_rfl)) (by simp) hj e hv
abbrev qok : Func := f15
def qol : List (Nat × List Nat × List Nat) := []
def qg8 (P : Program) (w0 : World) (a0 a1 a2 : Value) (R : Kont) : Hp → Prop :=
 boxA true 3 a0 fun u =>
 loadNA w0 u 3 fun v =>
 callA P w0 q54 [v] fun j =>
 pureA (extA j 0) fun g =>
 pureA (extA j 1) fun l =>
 pureA (binA .neq l (.int .i64 0)) fun z =>
 condA z (
 retA [(.pointer none), l] R) (
 b2sA w0 a1 fun ba =>
 callA P w0 qfe [ba] fun e =>
 pureA (extA e 0) fun bb =>
 pureA (extA e 1) fun bc =>
 pureA (extA e 2) fun bd =>
 pureA (extA e 3) fun be =>
 pureQ (fun K => K be) fun bf =>
 pureQ (pureA (binA .neq bf (.int .i64 0))) fun bg =>
 pureQ (fun K => K bg) fun i =>
 pureQ (guardA i false (fun K => K bb)) fun bh =>
 pureQ (guardA i false (pureA (binA .neq bh (.int .u8 77)))) fun bi =>
 pureQ (pickA i (.bool true) bi) fun bj =>
 pureQ (fun K => K bj) fun d =>
 pureQ (guardA d false (fun K => K bd)) fun bk =>
 pureQ (guardA d false (fun K => K a1)) fun bl =>
 pureQ (guardA d false (pureA (lenSl bl))) fun bm =>
 pureQ (guardA d false (pureA (binA .neq bk bm))) fun bn =>
 pureQ (pickA d (.bool true) bn) fun bo =>
 pureQ (fun K => K bo) fun c =>
 pureQ (guardA c false (fun K => K g)) fun bp =>
 pureQ (guardA c false (fun K => K bc)) fun bq =>
 pureQ (guardA c false (fun K => K a2)) fun br =>
 allA [
 (guardA c false (callA P w0 q49 [bq]) fun bs =>
 stillA [] (
 allA [
 (guardA c false (callA P w0 qe8 [bp, bs, br]) fun bt =>
 stillA [] (
 pureQ (guardA c false (pureA (unA .not bt))) fun bu =>
 pureQ (pickA c (.bool true) bu) fun bv =>
 pureQ (fun K => K bv) fun b =>
 pureQ (guardA b false (fun K => K g)) fun bw =>
 pureQ (guardA b false (fun K => K a1)) fun o =>
 readQ (guardA b false (b2sA w0 o)) fun s =>
 allA [
 (guardA b false (callA P w0 q9i [bw]) fun bx =>
 stillA [(sameQ (guardA b false (b2sA w0 o)) s)] (
 readQ (guardA b false (b2sA w0 bx)) fun bz =>
 pureQ (guardA b false (pureA (binA .neq bz s))) fun ca =>
 pureQ (pickA b (.bool true) ca) fun cb =>
 endA (
 condA cb (
 retA [(.pointer none), (.int .i64 141)] R) (
 retA [g, (.int .i64 0)] R))))]))]))])
theorem q00t {w0 : World} {h : Hp} {R : Kont} {a0 a1 a2 : Value} (hj : ∀ v, v ∈ [a0, a1, a2] → v ≠ junk) (hv : qg8 prog w0 a0 a1 a2 R h) : ACalls prog w0 qg2 [a0, a1, a2] h R := by
 have e : vcFn ⟨prog, w0, 58, qol⟩ (drw w0 58) qok [a0, a1, a2] R h = qg8 prog w0 a0 a1 a2 R h := by
  kernel_rfl
 exact qf (fn := qok) (ks := qol) (n := 58) (by kernel_rfl) (by kernel_rfl) (qe (by kernel_rfl)) (by simp) hj e hv
abbrev q13 : Func := f16
def q12 : List (Nat × List Nat × List Nat) := [(6, [0, 3, 4, 39, 40, 41], [0, 3, 4]), (11, [0, 3, 50, 51, 52], [3]), (15, [0, 3, 50, 51, 52, 66, 67, 68], [0, 3, 50, 51, 52])]
def q9g (P : Program) (w0 : World) (R : Ko6) (k0 : Ko3) (x0 x3 x4 x39 x40 x41 : Value) : Hp → Prop :=
 pureA (binA .lss x41 x40) fun b =>
 condA b (
 idxSlA 1 x39 x41 fun c =>
 loadA w0 c fun d =>
 pureA (convA .u64 d) fun e =>
 callA P w0 q21 [x3, e] fun i =>
 pureA (binA .add x41 (.int .i64 1)) fun g =>
 R x0 x3 x4 x39 x40 g) (
 k0 x0 x3 x4)
def q2s (P : Program) (w0 : World) (k0 : Ko3) : Nat → Value → Value → Value → Value → Value → Value → Hp → Prop
 | 0, _, _, _, _, _, _ => fun _ => False
 | m + 1, x0, x3, x4, x39, x40, x41 => q9g P w0 (q2s P w0 k0 m) k0 x0 x3 x4 x39 x40 x41
def qdp (P : Program) (w0 : World) (k0 : Ko3) (x0 x3 x4 x39 x40 x41 : Value) : Hp → Prop := fun h => ∃ m, q2s P w0 k0 m x0 x3 x4 x39 x40 x41 h
def q9h (P : Program) (w0 : World) (R : Ko8) (k4 : Ko5) (x0 x3 x50 x51 x52 x66 x67 x68 : Value) : Hp → Prop :=
 pureA (binA .lss x68 x67) fun c =>
 condA c (
 idxSlA 1 x66 x68 fun d =>
 loadA w0 d fun e =>
 callA P w0 qai [e] fun b =>
 pureA (lenSl b) fun g =>
 pureA (convA .u64 g) fun i =>
 callA P w0 q21 [x3, i] fun u =>
 b2sA w0 b fun j =>
 callA P w0 q3w [j] fun l =>
 pureA (convA .u64 l) fun o =>
 callA P w0 q21 [x3, o] fun v =>
 pureA (binA .add x68 (.int .i64 1)) fun s =>
 R x0 x3 x50 x51 x52 x66 x67 s) (
 k4 x0 x3 x50 x51 x52)
def q2q (P : Program) (w0 : World) (k4 : Ko5) : Nat → Value → Value → Value → Value → Value → Value → Value → Value → Hp → Prop
 | 0, _, _, _, _, _, _, _, _ => fun _ => False
 | m + 1, x0, x3, x50, x51, x52, x66, x67, x68 => q9h P w0 (q2q P w0 k4 m) k4 x0 x3 x50 x51 x52 x66 x67 x68
def qkf (P : Program) (w0 : World) (k4 : Ko5) (x0 x3 x50 x51 x52 x66 x67 x68 : Value) : Hp → Prop := fun h => ∃ m, q2q P w0 k4 m x0 x3 x50 x51 x52 x66 x67 x68 h
def q68 (P : Program) (w0 : World) (R : Ko5) (k2 : Ko1) (x0 x3 x50 x51 x52 : Value) : Hp → Prop :=
 pureA (binA .lss x52 x51) fun c =>
 condA c (
 idxSlA 1 x50 x52 fun d =>
 loadA w0 d fun e =>
 pureA (convA .u64 e) fun g =>
 callA P w0 q21 [x3, g] fun bc =>
 nilA x0 fun i =>
 addA i 4 fun j =>
 idxArA 16 1 j x52 fun l =>
 loadA w0 l fun b =>
 pureA (lenSl b) fun o =>
 qkf P w0 (fun s u v z ba =>
 pureA (binA .add ba (.int .i64 1)) fun bb =>
 R s u v z bb) x0 x3 x50 x51 x52 b o (.int .i64 0)) (
 k2 x3)
def q2r (P : Program) (w0 : World) (k2 : Ko1) : Nat → Value → Value → Value → Value → Value → Hp → Prop
 | 0, _, _, _, _, _ => fun _ => False
 | m + 1, x0, x3, x50, x51, x52 => q68 P w0 (q2r P w0 k2 m) k2 x0 x3 x50 x51 x52
def qke (P : Program) (w0 : World) (k2 : Ko1) (x0 x3 x50 x51 x52 : Value) : Hp → Prop := fun h => ∃ m, q2r P w0 k2 m x0 x3 x50 x51 x52 h
def q9l (P : Program) (w0 : World) (a0 : Value) (R : Kont) : Hp → Prop :=
 callA P w0 q1h [a0] fun i =>
 pureA (unA .not i) fun j =>
 condA j (
 retA [(.slice none 0 0)] R) (
 callA P w0 q4y [(.int .i64 1048576)] fun l =>
 callA P w0 q17 [a0] fun b =>
 pureQ (fun K => K a0) fun o =>
 pureQ (nilA o) fun s =>
 pureQ (addA s 0) fun u =>
 pureQ (addA u 0) fun v =>
 readQ (loadA w0 v) fun z =>
 pureQ (fun K => K a0) fun ba =>
 pureQ (nilA ba) fun bb =>
 pureQ (addA bb 0) fun bc =>
 pureQ (addA bc 1) fun bd =>
 readQ (loadA w0 bd) fun be =>
 pureQ (fun K => K a0) fun bf =>
 pureQ (nilA bf) fun bg =>
 pureQ (addA bg 0) fun bh =>
 pureQ (addA bh 2) fun bi =>
 readQ (loadA w0 bi) fun bj =>
 pureQ (fun K => K b) fun bk =>
 pureQ (pureA (lenSl bk)) fun bl =>
 pureQ (fun K => K (.int .i64 0)) fun bm =>
 allA [
 (bslA [(0, 1, false, z), (1, 1, false, be), (2, 1, false, bj), (3, 1, false, bl)] (zerosL [(.int .i64 0)] 4) 4 1 fun c =>
 stillA [] (
 pureQ (pureA (lenSl c)) fun bn =>
 endA (
 qdp P w0 (fun bo bp d =>
 pureA (lenSl d) fun bq =>
 qke P w0 (fun br =>
 callA P w0 q39 [br] fun e =>
 pureA (extA e 0) fun bs =>
 pureA (extA e 1) fun bv =>
 callA P w0 qfl [(.int .u8 77), bs] fun g =>
 pureA (extA g 0) fun bt =>
 pureA (extA g 1) fun bw =>
 s2bA bt fun bu =>
 retA [bu] R) bo bp d bq (.int .i64 0)) a0 l b c bn bm)))])
theorem qvg (w0 : World) (k4 : Ko5) : ∀ (m : Nat) (x0 x3 x50 x51 x52 x66 x67 x68 : Value) (h : Hp), loopA (stepL ⟨prog, w0, 99, q12⟩ (drw w0 99) (loopAt q13 2)) m (mkFr [(0, x0), (3, x3), (50, x50), (51, x51), (52, x52), (66, x66), (67, x67), (68, x68)]) [fun t => k4 (t 0) (t 3) (t 50) (t 51) (t 52)] h = q2q prog w0 k4 m x0 x3 x50 x51 x52 x66 x67 x68 h := by
 intro m
 induction m with
 | zero => intros; kernel_rfl
 | succ m ih =>
  intro x0 x3 x50 x51 x52 x66 x67 x68 h
  have e : q2q prog w0 k4 m = fun x0 x3 x50 x51 x52 x66 x67 x68 h => loopA (stepL ⟨prog, w0, 99, q12⟩ (drw w0 99) (loopAt q13 2)) m (mkFr [(0, x0), (3, x3), (50, x50), (51, x51), (52, x52), (66, x66), (67, x67), (68, x68)]) [fun t => k4 (t 0) (t 3) (t 50) (t 51) (t 52)] h := by funext x0 x3 x50 x51 x52 x66 x67 x68 h; exact (ih x0 x3 x50 x51 x52 x66 x67 x68 h).symm
  show _ = q9h prog w0 (q2q prog w0 k4 m) k4 x0 x3 x50 x51 x52 x66 x67 x68 h
  rw [e]
  kernel_rfl
theorem qve (w0 : World) : qkf prog w0 = fun k4 x0 x3 x50 x51 x52 x66 x67 x68 h => ∃ m, loopA (stepL ⟨prog, w0, 99, q12⟩ (drw w0 99) (loopAt q13 2)) m (mkFr [(0, x0), (3, x3), (50, x50), (51, x51), (52, x52), (66, x66), (67, x67), (68, x68)]) [fun t => k4 (t 0) (t 3) (t 50) (t 51) (t 52)] h := by
 funext k4 x0 x3 x50 x51 x52 x66 x67 x68 h
 exact congrArg Exists (funext fun m => (qvg w0 k4 m x0 x3 x50 x51 x52 x66 x67 x68 h).symm)
theorem qvh (w0 : World) (k2 : Ko1) : ∀ (m : Nat) (x0 x3 x50 x51 x52 : Value) (h : Hp), loopA (stepL ⟨prog, w0, 99, q12⟩ (drw w0 99) (loopAt q13 1)) m (mkFr [(0, x0), (3, x3), (50, x50), (51, x51), (52, x52)]) [fun t => k2 (t 3)] h = q2r prog w0 k2 m x0 x3 x50 x51 x52 h := by
 intro m
 induction m with
 | zero => intros; kernel_rfl
 | succ m ih =>
  intro x0 x3 x50 x51 x52 h
  have e : q2r prog w0 k2 m = fun x0 x3 x50 x51 x52 h => loopA (stepL ⟨prog, w0, 99, q12⟩ (drw w0 99) (loopAt q13 1)) m (mkFr [(0, x0), (3, x3), (50, x50), (51, x51), (52, x52)]) [fun t => k2 (t 3)] h := by funext x0 x3 x50 x51 x52 h; exact (ih x0 x3 x50 x51 x52 h).symm
  show _ = q68 prog w0 (q2r prog w0 k2 m) k2 x0 x3 x50 x51 x52 h
  rw [e]
  unfold q68
  rw [qve w0]
  kernel_rfl
theorem qvf (w0 : World) : qke prog w0 = fun k2 x0 x3 x50 x51 x52 h => ∃ m, loopA (stepL ⟨prog, w0, 99, q12⟩ (drw w0 99) (loopAt q13 1)) m (mkFr [(0, x0), (3, x3), (50, x50), (51, x51), (52, x52)]) [fun t => k2 (t 3)] h := by
 funext k2 x0 x3 x50 x51 x52 h
 exact congrArg Exists (funext fun m => (qvh w0 k2 m x0 x3 x50 x51 x52 h).symm)
theorem qvd (w0 : World) (k0 : Ko3) : ∀ (m : Nat) (x0 x3 x4 x39 x40 x41 : Value) (h : Hp), loopA (stepL ⟨prog, w0, 99, q12⟩ (drw w0 99) (loopAt q13 0)) m (mkFr [(0, x0), (3, x3), (4, x4), (39, x39), (40, x40), (41, x41)]) [fun t => k0 (t 0) (t 3) (t 4)] h = q2s prog w0 k0 m x0 x3 x4 x39 x40 x41 h := by
 intro m
 induction m with
 | zero => intros; kernel_rfl
 | succ m ih =>
  intro x0 x3 x4 x39 x40 x41 h
  have e : q2s prog w0 k0 m = fun x0 x3 x4 x39 x40 x41 h => loopA (stepL ⟨prog, w0, 99, q12⟩ (drw w0 99) (loopAt q13 0)) m (mkFr [(0, x0), (3, x3), (4, x4), (39, x39), (40, x40), (41, x41)]) [fun t => k0 (t 0) (t 3) (t 4)] h := by funext x0 x3 x4 x39 x40 x41 h; exact (ih x0 x3 x4 x39 x40 x41 h).symm
  show _ = q9g prog w0 (q2s prog w0 k0 m) k0 x0 x3 x4 x39 x40 x41 h
  rw [e]
  kernel_rfl
theorem qvi (w0 : World) : qdp prog w0 = fun k0 x0 x3 x4 x39 x40 x41 h => ∃ m, loopA (stepL ⟨prog, w0, 99, q12⟩ (drw w0 99) (loopAt q13 0)) m (mkFr [(0, x0), (3, x3), (4, x4), (39, x39), (40, x40), (41, x41)]) [fun t => k0 (t 0) (t 3) (t 4)] h := by
 funext k0 x0 x3 x4 x39 x40 x41 h
 exact congrArg Exists (funext fun m => (qvd w0 k0 m x0 x3 x4 x39 x40 x41 h).symm)
theorem qw7 {w0 : World} {h : Hp} {R : Kont} {a0 : Value} (hj : ∀ v, v ∈ [a0] → v ≠ junk) (hv : q9l prog w0 a0 R h) : ACalls prog w0 q9i [a0] h R := by
 have e : vcFn ⟨prog, w0, 99, q12⟩ (drw w0 99) q13 [a0] R h = q9l prog w0 a0 R h := by
  unfold q9l
  rw [qvi w0, qvf w0]
  kernel_rfl
 exact qf (fn := q13) (ks := q12) (n := 99) (by kernel_rfl) (by kernel_rfl) (qe (by kernel_rfl)) (by simp) hj e hv
abbrev q6p : Func := f17
def q6q : List (Nat × List Nat × List Nat) := [(5, [3, 10, 11, 12], [3])]
def q9r (P : Program) (w0 : World) (R : Ko4) (k0 : Ko1) (x3 x10 x11 x12 : Value) : Hp → Prop :=
 pureA (binA .lss x12 x11) fun b =>
 condA b (
 idxSlA 1 x10 x12 fun c =>
 loadA w0 c fun d =>
 callA P w0 qai [d] fun e =>
 bslA [(0, 1, false, e)] (zerosL [(.slice none 0 0)] 1) 1 1 fun g =>
 appA w0 1 24 x3 g fun i =>
 pureA (binA .add x12 (.int .i64 1)) fun j =>
 R i x10 x11 j) (
 k0 x3)
def q31 (P : Program) (w0 : World) (k0 : Ko1) : Nat → Value → Value → Value → Value → Hp → Prop
 | 0, _, _, _, _ => fun _ => False
 | m + 1, x3, x10, x11, x12 => q9r P w0 (q31 P w0 k0 m) k0 x3 x10 x11 x12
def ql0 (P : Program) (w0 : World) (k0 : Ko1) (x3 x10 x11 x12 : Value) : Hp → Prop := fun h => ∃ m, q31 P w0 k0 m x3 x10 x11 x12 h
def q9y (P : Program) (w0 : World) (a0 : Value) (R : Kont) : Hp → Prop :=
 callA P w0 q1h [a0] fun c =>
 pureA (unA .not c) fun d =>
 condA d (
 retA [(.slice none 0 0)] R) (
 callA P w0 qe3 [a0] fun b =>
 pureA (lenSl b) fun e =>
 ql0 P w0 (fun g =>
 retA [g] R) (.slice none 0 0) b e (.int .i64 0))
theorem qw1 (w0 : World) (k0 : Ko1) : ∀ (m : Nat) (x3 x10 x11 x12 : Value) (h : Hp), loopA (stepL ⟨prog, w0, 23, q6q⟩ (drw w0 23) (loopAt q6p 0)) m (mkFr [(3, x3), (10, x10), (11, x11), (12, x12)]) [fun t => k0 (t 3)] h = q31 prog w0 k0 m x3 x10 x11 x12 h := by
 intro m
 induction m with
 | zero => intros; kernel_rfl
 | succ m ih =>
  intro x3 x10 x11 x12 h
  have e : q31 prog w0 k0 m = fun x3 x10 x11 x12 h => loopA (stepL ⟨prog, w0, 23, q6q⟩ (drw w0 23) (loopAt q6p 0)) m (mkFr [(3, x3), (10, x10), (11, x11), (12, x12)]) [fun t => k0 (t 3)] h := by funext x3 x10 x11 x12 h; exact (ih x3 x10 x11 x12 h).symm
  show _ = q9r prog w0 (q31 prog w0 k0 m) k0 x3 x10 x11 x12 h
  rw [e]
  kernel_rfl
theorem qw0 (w0 : World) : ql0 prog w0 = fun k0 x3 x10 x11 x12 h => ∃ m, loopA (stepL ⟨prog, w0, 23, q6q⟩ (drw w0 23) (loopAt q6p 0)) m (mkFr [(3, x3), (10, x10), (11, x11), (12, x12)]) [fun t => k0 (t 3)] h := by
 funext k0 x3 x10 x11 x12 h
 exact congrArg Exists (funext fun m => (qw1 w0 k0 m x3 x10 x11 x12 h).symm)
theorem qx1 {w0 : World} {h : Hp} {R : Kont} {a0 : Value} (hj : ∀ v, v ∈ [a0] → v ≠ junk) (hv : q9y prog w0 a0 R h) : ACalls prog w0 qe5 [a0] h R := by
 have e : vcFn ⟨prog, w0, 23, q6q⟩ (drw w0 23) q6p [a0] R h = q9y prog w0 a0 R h := by
  unfold q9y
  rw [qw0 w0]
  kernel_rfl
 exact qf (fn := q6p) (ks := q6q) (n := 23) (by kernel_rfl) (by kernel_rfl) (qe (by kernel_rfl)) (by simp) hj e hv
abbrev q6v : Func := f19
def q6u : List (Nat × List Nat × List Nat) := [(6, [3, 4, 13, 14], [3, 4])]
def qa0 (P : Program) (w0 : World) (R : Ko4) (k0 : Ko2) (x3 x4 x13 x14 : Value) : Hp → Prop :=
 pureA (binA .lss x14 (.int .i64 16)) fun d =>
 condA d (
 pureA (arIdxA false 16 1 x13 x14) fun b =>
 pureA (lenSl b) fun e =>
 bslA [(0, 1, false, e)] (zerosL [(.int .i64 0)] 1) 1 1 fun g =>
 appA w0 1 8 x3 g fun c =>
 pureA (lenSl b) fun i =>
 pureA (binA .gtr i (.int .i64 0)) fun j =>
 condA j (
 pureA (binA .add x14 (.int .i64 1)) fun l =>
 pureA (binA .add x14 (.int .i64 1)) fun o =>
 R c l x13 o) (
 pureA (binA .add x14 (.int .i64 1)) fun s =>
 R c x4 x13 s)) (
 k0 x3 x4)
def q36 (P : Program) (w0 : World) (k0 : Ko2) : Nat → Value → Value → Value → Value → Hp → Prop
 | 0, _, _, _, _ => fun _ => False
 | m + 1, x3, x4, x13, x14 => qa0 P w0 (q36 P w0 k0 m) k0 x3 x4 x13 x14
def qle (P : Program) (w0 : World) (k0 : Ko2) (x3 x4 x13 x14 : Value) : Hp → Prop := fun h => ∃ m, q36 P w0 k0 m x3 x4 x13 x14 h
def qa7 (P : Program) (w0 : World) (a0 : Value) (R : Kont) : Hp → Prop :=
 callA P w0 q1h [a0] fun b =>
 pureA (unA .not b) fun c =>
 condA c (
 retA [(.slice none 0 0)] R) (
 nilA a0 fun d =>
 addA d 4 fun e =>
 loadNA w0 e 16 fun g =>
 qle P w0 (fun i j =>
 slSlA 1 i none (some j) none fun l =>
 retA [l] R) (.slice none 0 0) (.int .i64 0) g (.int .i64 0))
theorem qwh (w0 : World) (k0 : Ko2) : ∀ (m : Nat) (x3 x4 x13 x14 : Value) (h : Hp), loopA (stepL ⟨prog, w0, 32, q6u⟩ (drw w0 32) (loopAt q6v 0)) m (mkFr [(3, x3), (4, x4), (13, x13), (14, x14)]) [fun t => k0 (t 3) (t 4)] h = q36 prog w0 k0 m x3 x4 x13 x14 h := by
 intro m
 induction m with
 | zero => intros; kernel_rfl
 | succ m ih =>
  intro x3 x4 x13 x14 h
  have e : q36 prog w0 k0 m = fun x3 x4 x13 x14 h => loopA (stepL ⟨prog, w0, 32, q6u⟩ (drw w0 32) (loopAt q6v 0)) m (mkFr [(3, x3), (4, x4), (13, x13), (14, x14)]) [fun t => k0 (t 3) (t 4)] h := by funext x3 x4 x13 x14 h; exact (ih x3 x4 x13 x14 h).symm
  show _ = qa0 prog w0 (q36 prog w0 k0 m) k0 x3 x4 x13 x14 h
  rw [e]
  kernel_rfl
theorem qw9 (w0 : World) : qle prog w0 = fun k0 x3 x4 x13 x14 h => ∃ m, loopA (stepL ⟨prog, w0, 32, q6u⟩ (drw w0 32) (loopAt q6v 0)) m (mkFr [(3, x3), (4, x4), (13, x13), (14, x14)]) [fun t => k0 (t 3) (t 4)] h := by
 funext k0 x3 x4 x13 x14 h
 exact congrArg Exists (funext fun m => (qwh w0 k0 m x3 x4 x13 x14 h).symm)
theorem qxc {w0 : World} {h : Hp} {R : Kont} {a0 : Value} (hj : ∀ v, v ∈ [a0] → v ≠ junk) (hv : qa7 prog w0 a0 R h) : ACalls prog w0 q17 [a0] h R := by
 have e : vcFn ⟨prog, w0, 32, q6u⟩ (drw w0 32) q6v [a0] R h = qa7 prog w0 a0 R h := by
  unfold qa7
  rw [qw9 w0]
  kernel_rfl
 exact qf (fn := q6v) (ks := q6u) (n := 32) (by kernel_rfl) (by kernel_rfl) (qe (by kernel_rfl)) (by simp) hj e hv
abbrev qml : Func := f28
def qmm : List (Nat × List Nat × List Nat) := []
def qex (P : Program) (w0 : World) (a0 a1 : Value) (R : Kont) : Hp → Prop :=
 callA P w0 q1h [a0] fun e =>
 pureA (unA .not e) fun g =>
 condA g (
 retA [(.string .empty), (.bool false)] R) (
 callA P w0 qdt [a0, a1] fun d =>
 pureA (extA d 0) fun i =>
 pureA (extA d 1) fun j =>
 newA [(.string .empty), (.string .empty), (.bool false)] 3 fun c =>
 storeNA w0 c i 3 fun _ =>
 pureQ (addA c 1) fun l =>
 readQ (loadA w0 l) fun o =>
 pureQ (fun K => K j) fun s =>
 pureQ (fun K => K s) fun b =>
 pureQ (guardA b true (addA c 2)) fun u =>
 readQ (guardA b true (loadA w0 u)) fun v =>
 pureQ (guardA b true (pureA (unA .not v))) fun z =>
 pureQ (pickA b z (.bool false)) fun ba =>
 pureQ (fun K => K o) fun bb =>
 pureQ (fun K => K ba) fun bc =>
 endA (
 retA [bb, bc] R))
theorem qxt {w0 : World} {h : Hp} {R : Kont} {a0 a1 : Value} (hj : ∀ v, v ∈ [a0, a1] → v ≠ junk) (hv : qex prog w0 a0 a1 R h) : ACalls prog w0 qae [a0, a1] h R := by
 have e : vcFn ⟨prog, w0, 25, qmm⟩ (drw w0 25) qml [a0, a1] R h = qex prog w0 a0 a1 R h := by
  kernel_rfl
 exact qf (fn := qml) (ks := qmm) (n := 25) (by kernel_rfl) (by kernel_rfl) (qe (by kernel_rfl)) (by simp) hj e hv
abbrev qll : Func := f31
def qld : List (Nat × List Nat × List Nat) := []
def qec (P : Program) (w0 : World) (a0 a1 a2 : Value) (R : Kont) : Hp → Prop :=
 boxA false 1 a0 fun b =>
 boxA false 1 a1 fun c =>
 boxA false 1 a2 fun d =>
 mkFnA q6d [] [b, c, d] fun e =>
 retA [e] R
theorem qx6 {w0 : World} {h : Hp} {R : Kont} {a0 a1 a2 : Value} (hj : ∀ v, v ∈ [a0, a1, a2] → v ≠ junk) (hv : qec prog w0 a0 a1 a2 R h) : ACalls prog w0 qa9 [a0, a1, a2] h R := by
 have e : vcFn ⟨prog, w0, 8, qld⟩ (drw w0 8) qll [a0, a1, a2] R h = qec prog w0 a0 a1 a2 R h := by
  kernel_rfl
 exact qf (fn := qll) (ks := qld) (n := 8) (by kernel_rfl) (by kernel_rfl) (qe (by kernel_rfl)) (by simp) hj e hv
abbrev qoy : Func := f34
def qp1 : List (Nat × List Nat × List Nat) := []
def qba (P : Program) (w0 : World) (a0 : Value) (R : Kont) : Hp → Prop :=
 boxA true 3 a0 fun b =>
 loadNA w0 b 3 fun d =>
 callA P w0 qgh [d] fun e =>
 pureA (unA .not e) fun g =>
 condA g (
 retA [(.pointer none), (.int .i64 140)] R) (
 readQ (loadNA w0 b 3) fun c =>
 allA [
 (callA P w0 qg3 [] fun i =>
 stillA [(sameQ (loadNA w0 b 3) c)] (
 allA [
 (buildA [(0, 3, true, c), (3, 1, false, i)] [(.int .i64 0), (.int .i64 0), (.int .i64 0), (.pointer none), (.slice none 0 0), (.slice none 0 0), (.slice none 0 0), (.slice none 0 0), (.slice none 0 0), (.slice none 0 0), (.slice none 0 0), (.slice none 0 0), (.slice none 0 0), (.slice none 0 0), (.slice none 0 0), (.slice none 0 0), (.slice none 0 0), (.slice none 0 0), (.slice none 0 0), (.slice none 0 0)] fun j =>
 stillA [] (
 allA [
 (boxA true 20 j fun l =>
 stillA [] (
 pureQ (fun K => K l) fun o =>
 pureQ (fun K => K (.int .i64 0)) fun s =>
 endA (
 retA [o, s] R)))]))]))])
theorem qp8 {w0 : World} {h : Hp} {R : Kont} {a0 : Value} (hj : ∀ v, v ∈ [a0] → v ≠ junk) (hv : qba prog w0 a0 R h) : ACalls prog w0 q54 [a0] h R := by
 have e : vcFn ⟨prog, w0, 11, qp1⟩ (drw w0 11) qoy [a0] R h = qba prog w0 a0 R h := by
  kernel_rfl
 exact qf (fn := qoy) (ks := qp1) (n := 11) (by kernel_rfl) (by kernel_rfl) (qe (by kernel_rfl)) (by simp) hj e hv
abbrev qm5 : Func := f36
def qm1 : List (Nat × List Nat × List Nat) := []
def qeu (P : Program) (w0 : World) (a0 a1 : Value) (R : Kont) : Hp → Prop :=
 callA P w0 q1h [a0] fun e =>
 pureA (unA .not e) fun g =>
 condA g (
 retA [(.int .i64 6)] R) (
 nilA a0 fun i =>
 addA i 3 fun j =>
 loadA w0 j fun l =>
 callVA P w0 a1 [l] fun b =>
 pureA (binA .neq b (.int .i64 0)) fun o =>
 condA o (
 retA [b] R) (
 pureQ (fun K => K a0) fun s =>
 pureQ (nilA s) fun u =>
 pureQ (addA u 3) fun v =>
 readQ (loadA w0 v) fun z =>
 pureQ (fun K => K a0) fun ba =>
 pureQ (nilA ba) fun bb =>
 pureQ (addA bb 0) fun bc =>
 pureQ (addA bc 2) fun c =>
 readQ (loadA w0 c) fun d =>
 allA [
 (callA P w0 qap [z] fun bd =>
 stillA [(sameQ (loadA w0 c) d)] (
 pureQ (pureA (binA .geq bd d)) fun be =>
 endA (
 condA be (
 callA P w0 q6r [a0] fun bf =>
 retA [(.int .i64 0)] R) (
 retA [(.int .i64 0)] R))))]))
theorem qxl {w0 : World} {h : Hp} {R : Kont} {a0 a1 : Value} (hj : ∀ v, v ∈ [a0, a1] → v ≠ junk) (hv : qeu prog w0 a0 a1 R h) : ACalls prog w0 qad [a0, a1] h R := by
 have e : vcFn ⟨prog, w0, 31, qm1⟩ (drw w0 31) qm5 [a0, a1] R h = qeu prog w0 a0 a1 R h := by
  kernel_rfl
 exact qf (fn := qm5) (ks := qm1) (n := 31) (by kernel_rfl) (by kernel_rfl) (qe (by kernel_rfl)) (by simp) hj e hv
abbrev qkw : Func := f37
def qkm : List (Nat × List Nat × List Nat) := []
def qdy (P : Program) (w0 : World) (a0 a1 a2 : Value) (R : Kont) : Hp → Prop :=
 loadA w0 a1 fun b =>
 loadA w0 a2 fun c =>
 callA P w0 qfy [a0, b, c] fun d =>
 retA [d] R
theorem qwy {w0 : World} {h : Hp} {R : Kont} {a0 a1 a2 : Value} (hj : ∀ v, v ∈ [a0, a1, a2] → v ≠ junk) (hv : qdy prog w0 a0 a1 a2 R h) : ACalls prog w0 qdx [a0, a1, a2] h R := by
 have e : vcFn ⟨prog, w0, 9, qkm⟩ (drw w0 9) qkw [a0, a1, a2] R h = qdy prog w0 a0 a1 a2 R h := by
  kernel_rfl
 exact qf (fn := qkw) (ks := qkm) (n := 9) (by kernel_rfl) (by kernel_rfl) (qe (by kernel_rfl)) (by simp) hj e hv
abbrev qkc : Func := f39
def qkb : List (Nat × List Nat × List Nat) := []
def qdn (P : Program) (w0 : World) (a0 a1 : Value) (R : Kont) : Hp → Prop :=
 loadA w0 a1 fun b =>
 callA P w0 qf7 [a0, b] fun c =>
 retA [c] R
theorem qvy {w0 : World} {h : Hp} {R : Kont} {a0 a1 : Value} (hj : ∀ v, v ∈ [a0, a1] → v ≠ junk) (hv : qdn prog w0 a0 a1 R h) : ACalls prog w0 qdo [a0, a1] h R := by
 have e : vcFn ⟨prog, w0, 7, qkb⟩ (drw w0 7) qkc [a0, a1] R h = qdn prog w0 a0 a1 R h := by
  kernel_rfl
 exact qf (fn := qkc) (ks := qkb) (n := 7) (by kernel_rfl) (by kernel_rfl) (qe (by kernel_rfl)) (by simp) hj e hv
abbrev qlf : Func := f41
def qlm : List (Nat × List Nat × List Nat) := []
def qeg (P : Program) (w0 : World) (a0 : Value) (R : Kont) : Hp → Prop :=
 pureA (binPtrA .neq a0 (.pointer none)) fun b =>
 guardA b true (fun K => K a0) fun c =>
 guardA b true (nilA c) fun d =>
 guardA b true (addA d 3) fun e =>
 guardA b true (loadA w0 e) fun g =>
 guardA b true (pureA (binPtrA .neq g (.pointer none))) fun i =>
 pickA b i (.bool false) fun j =>
 retA [j] R
theorem qx8 {w0 : World} {h : Hp} {R : Kont} {a0 : Value} (hj : ∀ v, v ∈ [a0] → v ≠ junk) (hv : qeg prog w0 a0 R h) : ACalls prog w0 q1h [a0] h R := by
 have e : vcFn ⟨prog, w0, 12, qlm⟩ (drw w0 12) qlf [a0] R h = qeg prog w0 a0 R h := by
  kernel_rfl
 exact qf (fn := qlf) (ks := qlm) (n := 12) (by kernel_rfl) (by kernel_rfl) (qe (by kernel_rfl)) (by simp) hj e hv
abbrev qo6 : Func := f45
def qoc : List (Nat × List Nat × List Nat) := []
def qfs (P : Program) (w0 : World) (a0 a1 : Value) (R : Kont) : Hp → Prop :=
 callA P w0 qbc [a0, a1] fun b =>
 pureA (extA b 0) fun d =>
 pureA (extA b 1) fun g =>
 callA P w0 qbi [d] fun c =>
 pureA (extA c 0) fun e =>
 pureA (extA c 1) fun i =>
 retA [e] R
theorem qzi {w0 : World} {h : Hp} {R : Kont} {a0 a1 : Value} (hj : ∀ v, v ∈ [a0, a1] → v ≠ junk) (hv : qfs prog w0 a0 a1 R h) : ACalls prog w0 qao [a0, a1] h R := by
 have e : vcFn ⟨prog, w0, 21, qoc⟩ (drw w0 21) qo6 [a0, a1] R h = qfs prog w0 a0 a1 R h := by
  kernel_rfl
 exact qf (fn := qo6) (ks := qoc) (n := 21) (by kernel_rfl) (by kernel_rfl) (qe (by kernel_rfl)) (by simp) hj e hv
abbrev q6z : Func := f49
def q6t : List (Nat × List Nat × List Nat) := [(2, [0, 2, 3, 9, 10], [2, 3])]
def q9x (P : Program) (w0 : World) (R : Ko5) (k0 : Ko2) (kr : Ko2) (x0 x2 x3 x9 x10 : Value) : Hp → Prop :=
 pureA (binA .lss x10 (.int .i64 16)) fun b =>
 condA b (
 pureA (arIdxA false 16 1 x9 x10) fun c =>
 pureA (lenSl c) fun d =>
 nilA x0 fun e =>
 addA e 0 fun g =>
 addA g 1 fun i =>
 loadA w0 i fun j =>
 pureA (binA .geq d j) fun l =>
 condA l (
 kr x10 (.bool true)) (
 pureA (binA .add x10 (.int .i64 1)) fun o =>
 R x0 x2 x3 x9 o)) (
 k0 x2 x3)
def q33 (P : Program) (w0 : World) (k0 : Ko2) (kr : Ko2) : Nat → Value → Value → Value → Value → Value → Hp → Prop
 | 0, _, _, _, _, _ => fun _ => False
 | m + 1, x0, x2, x3, x9, x10 => q9x P w0 (q33 P w0 k0 kr m) k0 kr x0 x2 x3 x9 x10
def qlo (P : Program) (w0 : World) (k0 : Ko2) (kr : Ko2) (x0 x2 x3 x9 x10 : Value) : Hp → Prop := fun h => ∃ m, q33 P w0 k0 kr m x0 x2 x3 x9 x10 h
def qaa (P : Program) (w0 : World) (a0 : Value) (R : Kont) : Hp → Prop :=
 nilA a0 fun b =>
 addA b 4 fun c =>
 loadNA w0 c 16 fun d =>
 qlo P w0 (fun i j =>
 retA [(.int .i64 0), (.bool false)] R) (fun e g =>
 retA [e, g] R) a0 (.int .i64 0) (.bool false) d (.int .i64 0)
theorem qwg (w0 : World) (k0 : Ko2) (kr : Ko2) : ∀ (m : Nat) (x0 x2 x3 x9 x10 : Value) (h : Hp), loopA (stepL ⟨prog, w0, 24, q6t⟩ (drw w0 24) (loopAt q6z 0)) m (mkFr [(0, x0), (2, x2), (3, x3), (9, x9), (10, x10)]) [fun t => k0 (t 2) (t 3), fun t => kr (t 2) (t 3)] h = q33 prog w0 k0 kr m x0 x2 x3 x9 x10 h := by
 intro m
 induction m with
 | zero => intros; kernel_rfl
 | succ m ih =>
  intro x0 x2 x3 x9 x10 h
  have e : q33 prog w0 k0 kr m = fun x0 x2 x3 x9 x10 h => loopA (stepL ⟨prog, w0, 24, q6t⟩ (drw w0 24) (loopAt q6z 0)) m (mkFr [(0, x0), (2, x2), (3, x3), (9, x9), (10, x10)]) [fun t => k0 (t 2) (t 3), fun t => kr (t 2) (t 3)] h := by funext x0 x2 x3 x9 x10 h; exact (ih x0 x2 x3 x9 x10 h).symm
  show _ = q9x prog w0 (q33 prog w0 k0 kr m) k0 kr x0 x2 x3 x9 x10 h
  rw [e]
  kernel_rfl
theorem qwe (w0 : World) : qlo prog w0 = fun k0 kr x0 x2 x3 x9 x10 h => ∃ m, loopA (stepL ⟨prog, w0, 24, q6t⟩ (drw w0 24) (loopAt q6z 0)) m (mkFr [(0, x0), (2, x2), (3, x3), (9, x9), (10, x10)]) [fun t => k0 (t 2) (t 3), fun t => kr (t 2) (t 3)] h := by
 funext k0 kr x0 x2 x3 x9 x10 h
 exact congrArg Exists (funext fun m => (qwg w0 k0 kr m x0 x2 x3 x9 x10 h).symm)
theorem qxb {w0 : World} {h : Hp} {R : Kont} {a0 : Value} (hj : ∀ v, v ∈ [a0] → v ≠ junk) (hv : qaa prog w0 a0 R h) : ACalls prog w0 qe7 [a0] h R := by
 have e : vcFn ⟨prog, w0, 24, q6t⟩ (drw w0 24) q6z [a0] R h = qaa prog w0 a0 R h := by
  unfold qaa
  rw [qwe w0]
  kernel_rfl
 exact qf (fn := q6z) (ks := q6t) (n := 24) (by kernel_rfl) (by kernel_rfl) (qe (by kernel_rfl)) (by simp) hj e hv
abbrev qkj : Func := f51
def qkh : List (Nat × List Nat × List Nat) := []
def qdr (P : Program) (w0 : World) (a0 : Value) (R : Kont) : Hp → Prop :=
 pureA (lenSl a0) fun b =>
 pureA (binA .gtr b (.int .i64 0)) fun c =>
 retA [c] R
theorem qwl {w0 : World} {h : Hp} {R : Kont} {a0 : Value} (hj : ∀ v, v ∈ [a0] → v ≠ junk) (hv : qdr prog w0 a0 R h) : ACalls prog w0 q6i [a0] h R := by
 have e : vcFn ⟨prog, w0, 6, qkh⟩ (drw w0 6) qkj [a0] R h = qdr prog w0 a0 R h := by
  kernel_rfl
 exact qf (fn := qkj) (ks := qkh) (n := 6) (by kernel_rfl) (by kernel_rfl) (qe (by kernel_rfl)) (by simp) hj e hv
abbrev q15 : Func := f54
def q16 : List (Nat × List Nat × List Nat) := [(2, [0, 1, 2, 6, 31, 32, 33], [0, 1, 2, 6]), (11, [0, 1, 2, 6, 48, 49], [1, 2, 6]), (14, [0, 1, 2, 6, 10, 11, 48, 49], [0, 1, 2, 6, 48, 49])]
def qa4 (P : Program) (w0 : World) (R : Ko7) (k0 : Ko4) (kr : Ko4) (x0 x1 x2 x6 x31 x32 x33 : Value) : Hp → Prop :=
 pureA (binA .lss x33 x32) fun b =>
 condA b (
 idxSlA 1 x31 x33 fun c =>
 loadA w0 c fun d =>
 callA P w0 q14 [x1] fun e =>
 pureA (convA .u64 d) fun g =>
 pureA (binA .neq e g) fun i =>
 condA i (
 kr x0 x1 x2 (.bool false)) (
 pureA (binA .add x33 (.int .i64 1)) fun j =>
 R x0 x1 x2 x6 x31 x32 j)) (
 k0 x0 x1 x2 x6)
def q38 (P : Program) (w0 : World) (k0 : Ko4) (kr : Ko4) : Nat → Value → Value → Value → Value → Value → Value → Value → Hp → Prop
 | 0, _, _, _, _, _, _, _ => fun _ => False
 | m + 1, x0, x1, x2, x6, x31, x32, x33 => qa4 P w0 (q38 P w0 k0 kr m) k0 kr x0 x1 x2 x6 x31 x32 x33
def qe2 (P : Program) (w0 : World) (k0 : Ko4) (kr : Ko4) (x0 x1 x2 x6 x31 x32 x33 : Value) : Hp → Prop := fun h => ∃ m, q38 P w0 k0 kr m x0 x1 x2 x6 x31 x32 x33 h
def qa2 (P : Program) (w0 : World) (R : Ko8) (k4 : Ko6) (kr : Ko6) (x0 x1 x2 x6 x10 x11 x48 x49 : Value) : Hp → Prop :=
 pureA (binA .gtr x11 (.int .u64 0)) fun j =>
 condA j (
 callA P w0 q14 [x1] fun l =>
 callA P w0 q14 [x1] fun o =>
 callA P w0 q0j [x1] fun s =>
 pureA (binA .neq s (.int .i64 0)) fun d =>
 guardA d false (fun K => K x2) fun u =>
 guardA d false (pureA (lenSl u)) fun v =>
 guardA d false (pureA (binA .eql v (.int .i64 0))) fun z =>
 pickA d (.bool true) z fun c =>
 guardA c false (fun K => K l) fun ba =>
 guardA c false (fun K => K x2) fun bb =>
 guardA c false (idxSlA 1 bb (.int .i64 0)) fun bc =>
 guardA c false (loadA w0 bc) fun bd =>
 guardA c false (pureA (lenSl bd)) fun be =>
 guardA c false (pureA (convA .u64 be)) fun bf =>
 guardA c false (pureA (binA .neq ba bf)) fun bg =>
 pickA c (.bool true) bg fun b =>
 guardA b false (fun K => K o) fun bh =>
 guardA b false (fun K => K x2) fun bi =>
 guardA b false (idxSlA 1 bi (.int .i64 0)) fun bj =>
 guardA b false (loadA w0 bj) fun bk =>
 guardA b false (b2sA w0 bk) fun bl =>
 guardA b false (callA P w0 q3w [bl]) fun bm =>
 guardA b false (pureA (convA .u64 bm)) fun bn =>
 guardA b false (pureA (binA .neq bh bn)) fun bo =>
 pickA b (.bool true) bo fun bp =>
 condA bp (
 kr x0 x1 x2 (.bool false) x48 x49) (
 idxSlA 1 x2 (.int .i64 0) fun bq =>
 loadA w0 bq fun br =>
 callA P w0 qbi [br] fun e =>
 pureA (extA e 0) fun bs =>
 pureA (extA e 1) fun bt =>
 pureA (binA .neq bt (.int .i64 0)) fun bu =>
 condA bu (
 kr x0 x1 x2 (.bool false) x48 x49) (
 pureQ (fun K => K x0) fun bv =>
 pureQ (fun K => K x10) fun bw =>
 pureQ (fun K => K x0) fun bx =>
 pureQ (fun K => K x10) fun bz =>
 pureQ (nilA bx) fun ca =>
 pureQ (addA ca 4) fun cb =>
 pureQ (idxArA 16 1 cb bz) fun g =>
 readQ (loadA w0 g) fun i =>
 pureQ (fun K => K bs) fun cc =>
 pureQ (nilA bv) fun cd =>
 pureQ (addA cd 4) fun ce =>
 allA [
 (bslA [(0, 1, false, cc)] (zerosL [(.pointer none)] 1) 1 1 fun cf =>
 stillA [(sameQ (loadA w0 g) i)] (
 allA [
 (appA w0 1 8 i cf fun cg =>
 stillA [] (
 pureQ (idxArA 16 1 ce bw) fun ch =>
 allA [
 (storeA w0 ch cg fun _ =>
 stillA [] (
 endA (
 slSlA 1 x2 (some (.int .i64 1)) none none fun ci =>
 pureA (binA .sub x11 (.int .u64 1)) fun cj =>
 R x0 x1 ci x6 x10 cj x48 x49)))]))]))]))) (
 k4 x0 x1 x2 x6 x48 x49)
def q37 (P : Program) (w0 : World) (k4 : Ko6) (kr : Ko6) : Nat → Value → Value → Value → Value → Value → Value → Value → Value → Hp → Prop
 | 0, _, _, _, _, _, _, _, _ => fun _ => False
 | m + 1, x0, x1, x2, x6, x10, x11, x48, x49 => qa2 P w0 (q37 P w0 k4 kr m) k4 kr x0 x1 x2 x6 x10 x11 x48 x49
def qln (P : Program) (w0 : World) (k4 : Ko6) (kr : Ko6) (x0 x1 x2 x6 x10 x11 x48 x49 : Value) : Hp → Prop := fun h => ∃ m, q37 P w0 k4 kr m x0 x1 x2 x6 x10 x11 x48 x49 h
def q6y (P : Program) (w0 : World) (R : Ko6) (k2 : Ko3) (kr : Ko3) (x0 x1 x2 x6 x48 x49 : Value) : Hp → Prop :=
 pureA (binA .lss x49 x48) fun b =>
 condA b (
 callA P w0 q14 [x1] fun c =>
 qln P w0 (fun d e g i j l =>
 pureA (binA .add l (.int .i64 1)) fun o =>
 R d e g i j o) (fun z s u v ba bb =>
 kr s u v) x0 x1 x2 x6 x49 c x48 x49) (
 k2 x1 x2 x6)
def q35 (P : Program) (w0 : World) (k2 : Ko3) (kr : Ko3) : Nat → Value → Value → Value → Value → Value → Value → Hp → Prop
 | 0, _, _, _, _, _, _ => fun _ => False
 | m + 1, x0, x1, x2, x6, x48, x49 => q6y P w0 (q35 P w0 k2 kr m) k2 kr x0 x1 x2 x6 x48 x49
def qla (P : Program) (w0 : World) (k2 : Ko3) (kr : Ko3) (x0 x1 x2 x6 x48 x49 : Value) : Hp → Prop := fun h => ∃ m, q35 P w0 k2 kr m x0 x1 x2 x6 x48 x49 h
def qa8 (P : Program) (w0 : World) (a0 a1 a2 : Value) (R : Kont) : Hp → Prop :=
 pureQ (fun K => K a0) fun g =>
 pureQ (nilA g) fun i =>
 pureQ (addA i 0) fun j =>
 pureQ (addA j 0) fun l =>
 readQ (loadA w0 l) fun o =>
 pureQ (fun K => K a0) fun s =>
 pureQ (nilA s) fun u =>
 pureQ (addA u 0) fun v =>
 pureQ (addA v 1) fun z =>
 readQ (loadA w0 z) fun ba =>
 pureQ (fun K => K a0) fun bb =>
 pureQ (nilA bb) fun bc =>
 pureQ (addA bc 0) fun bd =>
 pureQ (addA bd 2) fun be =>
 readQ (loadA w0 be) fun bf =>
 pureQ (fun K => K (.int .i64 0)) fun bg =>
 allA [
 (bslA [(0, 1, false, o), (1, 1, false, ba), (2, 1, false, bf)] (zerosL [(.int .i64 0)] 3) 3 1 fun c =>
 stillA [] (
 pureQ (pureA (lenSl c)) fun bh =>
 endA (
 qe2 P w0 (fun bi d bj bk =>
 callA P w0 q14 [d] fun e =>
 pureA (binA .gtr e (.int .u64 16)) fun bl =>
 condA bl (
 retA [(.bool false)] R) (
 pureA (convA .i64 e) fun bm =>
 qla P w0 (fun bn bo bw =>
 callA P w0 qeh [bn] fun bp =>
 pureA (binA .eql bp (.int .i64 0)) fun b =>
 guardA b true (fun K => K bo) fun bq =>
 guardA b true (pureA (lenSl bq)) fun br =>
 guardA b true (pureA (binA .eql br (.int .i64 0))) fun bs =>
 pickA b bs (.bool false) fun bt =>
 retA [bt] R) (fun bx bz bu =>
 retA [bu] R) bi d bj bk bm (.int .i64 0))) (fun ca cb cc bv =>
 retA [bv] R) a0 a1 a2 (.bool false) c bh bg)))]
theorem qw8 (w0 : World) (k4 : Ko6) (kr : Ko6) : ∀ (m : Nat) (x0 x1 x2 x6 x10 x11 x48 x49 : Value) (h : Hp), loopA (stepL ⟨prog, w0, 123, q16⟩ (drw w0 123) (loopAt q15 2)) m (mkFr [(0, x0), (1, x1), (2, x2), (6, x6), (10, x10), (11, x11), (48, x48), (49, x49)]) [fun t => k4 (t 0) (t 1) (t 2) (t 6) (t 48) (t 49), fun t => kr (t 0) (t 1) (t 2) (t 6) (t 48) (t 49)] h = q37 prog w0 k4 kr m x0 x1 x2 x6 x10 x11 x48 x49 h := by
 intro m
 induction m with
 | zero => intros; kernel_rfl
 | succ m ih =>
  intro x0 x1 x2 x6 x10 x11 x48 x49 h
  have e : q37 prog w0 k4 kr m = fun x0 x1 x2 x6 x10 x11 x48 x49 h => loopA (stepL ⟨prog, w0, 123, q16⟩ (drw w0 123) (loopAt q15 2)) m (mkFr [(0, x0), (1, x1), (2, x2), (6, x6), (10, x10), (11, x11), (48, x48), (49, x49)]) [fun t => k4 (t 0) (t 1) (t 2) (t 6) (t 48) (t 49), fun t => kr (t 0) (t 1) (t 2) (t 6) (t 48) (t 49)] h := by funext x0 x1 x2 x6 x10 x11 x48 x49 h; exact (ih x0 x1 x2 x6 x10 x11 x48 x49 h).symm
  show _ = qa2 prog w0 (q37 prog w0 k4 kr m) k4 kr x0 x1 x2 x6 x10 x11 x48 x49 h
  rw [e]
  kernel_rfl
theorem qw6 (w0 : World) : qln prog w0 = fun k4 kr x0 x1 x2 x6 x10 x11 x48 x49 h => ∃ m, loopA (stepL ⟨prog, w0, 123, q16⟩ (drw w0 123) (loopAt q15 2)) m (mkFr [(0, x0), (1, x1), (2, x2), (6, x6), (10, x10), (11, x11), (48, x48), (49, x49)]) [fun t => k4 (t 0) (t 1) (t 2) (t 6) (t 48) (t 49), fun t => kr (t 0) (t 1) (t 2) (t 6) (t 48) (t 49)] h := by
 funext k4 kr x0 x1 x2 x6 x10 x11 x48 x49 h
 exact congrArg Exists (funext fun m => (qw8 w0 k4 kr m x0 x1 x2 x6 x10 x11 x48 x49 h).symm)
theorem qwc (w0 : World) (k2 : Ko3) (kr : Ko3) : ∀ (m : Nat) (x0 x1 x2 x6 x48 x49 : Value) (h : Hp), loopA (stepL ⟨prog, w0, 123, q16⟩ (drw w0 123) (loopAt q15 1)) m (mkFr [(0, x0), (1, x1), (2, x2), (6, x6), (48, x48), (49, x49)]) [fun t => k2 (t 1) (t 2) (t 6), fun t => kr (t 1) (t 2) (t 6)] h = q35 prog w0 k2 kr m x0 x1 x2 x6 x48 x49 h := by
 intro m
 induction m with
 | zero => intros; kernel_rfl
 | succ m ih =>
  intro x0 x1 x2 x6 x48 x49 h
  have e : q35 prog w0 k2 kr m = fun x0 x1 x2 x6 x48 x49 h => loopA (stepL ⟨prog, w0, 123, q16⟩ (drw w0 123) (loopAt q15 1)) m (mkFr [(0, x0), (1, x1), (2, x2), (6, x6), (48, x48), (49, x49)]) [fun t => k2 (t 1) (t 2) (t 6), fun t => kr (t 1) (t 2) (t 6)] h := by funext x0 x1 x2 x6 x48 x49 h; exact (ih x0 x1 x2 x6 x48 x49 h).symm
  show _ = q6y prog w0 (q35 prog w0 k2 kr m) k2 kr x0 x1 x2 x6 x48 x49 h
  rw [e]
  unfold q6y
  rw [qw6 w0]
  kernel_rfl
theorem qwb (w0 : World) : qla prog w0 = fun k2 kr x0 x1 x2 x6 x48 x49 h => ∃ m, loopA (stepL ⟨prog, w0, 123, q16⟩ (drw w0 123) (loopAt q15 1)) m (mkFr [(0, x0), (1, x1), (2, x2), (6, x6), (48, x48), (49, x49)]) [fun t => k2 (t 1) (t 2) (t 6), fun t => kr (t 1) (t 2) (t 6)] h := by
 funext k2 kr x0 x1 x2 x6 x48 x49 h
 exact congrArg Exists (funext fun m => (qwc w0 k2 kr m x0 x1 x2 x6 x48 x49 h).symm)
theorem qwf (w0 : World) (k0 : Ko4) (kr : Ko4) : ∀ (m : Nat) (x0 x1 x2 x6 x31 x32 x33 : Value) (h : Hp), loopA (stepL ⟨prog, w0, 123, q16⟩ (drw w0 123) (loopAt q15 0)) m (mkFr [(0, x0), (1, x1), (2, x2), (6, x6), (31, x31), (32, x32), (33, x33)]) [fun t => k0 (t 0) (t 1) (t 2) (t 6), fun t => kr (t 0) (t 1) (t 2) (t 6)] h = q38 prog w0 k0 kr m x0 x1 x2 x6 x31 x32 x33 h := by
 intro m
 induction m with
 | zero => intros; kernel_rfl
 | succ m ih =>
  intro x0 x1 x2 x6 x31 x32 x33 h
  have e : q38 prog w0 k0 kr m = fun x0 x1 x2 x6 x31 x32 x33 h => loopA (stepL ⟨prog, w0, 123, q16⟩ (drw w0 123) (loopAt q15 0)) m (mkFr [(0, x0), (1, x1), (2, x2), (6, x6), (31, x31), (32, x32), (33, x33)]) [fun t => k0 (t 0) (t 1) (t 2) (t 6), fun t => kr (t 0) (t 1) (t 2) (t 6)] h := by funext x0 x1 x2 x6 x31 x32 x33 h; exact (ih x0 x1 x2 x6 x31 x32 x33 h).symm
  show _ = qa4 prog w0 (q38 prog w0 k0 kr m) k0 kr x0 x1 x2 x6 x31 x32 x33 h
  rw [e]
  kernel_rfl
theorem qw5 (w0 : World) : qe2 prog w0 = fun k0 kr x0 x1 x2 x6 x31 x32 x33 h => ∃ m, loopA (stepL ⟨prog, w0, 123, q16⟩ (drw w0 123) (loopAt q15 0)) m (mkFr [(0, x0), (1, x1), (2, x2), (6, x6), (31, x31), (32, x32), (33, x33)]) [fun t => k0 (t 0) (t 1) (t 2) (t 6), fun t => kr (t 0) (t 1) (t 2) (t 6)] h := by
 funext k0 kr x0 x1 x2 x6 x31 x32 x33 h
 exact congrArg Exists (funext fun m => (qwf w0 k0 kr m x0 x1 x2 x6 x31 x32 x33 h).symm)
theorem qxf {w0 : World} {h : Hp} {R : Kont} {a0 a1 a2 : Value} (hj : ∀ v, v ∈ [a0, a1, a2] → v ≠ junk) (hv : qa8 prog w0 a0 a1 a2 R h) : ACalls prog w0 qe8 [a0, a1, a2] h R := by
 have e : vcFn ⟨prog, w0, 123, q16⟩ (drw w0 123) q15 [a0, a1, a2] R h = qa8 prog w0 a0 a1 a2 R h := by
  unfold qa8
  rw [qw5 w0, qwb w0]
  kernel_rfl
 exact qf (fn := q15) (ks := q16) (n := 123) (by kernel_rfl) (by kernel_rfl) (qe (by kernel_rfl)) (by simp) hj e hv
abbrev q6n : Func := f62
def q6k : List (Nat × List Nat × List Nat) := [(3, [3, 9, 10], [3])]
def q9w (P : Program) (w0 : World) (R : Ko3) (k0 : Ko1) (x3 x9 x10 : Value) : Hp → Prop :=
 pureA (binA .lss x10 (.int .i64 16)) fun b =>
 condA b (
 pureA (arIdxA false 16 1 x9 x10) fun c =>
 appA w0 1 8 x3 c fun d =>
 pureA (binA .add x10 (.int .i64 1)) fun e =>
 R d x9 e) (
 k0 x3)
def q32 (P : Program) (w0 : World) (k0 : Ko1) : Nat → Value → Value → Value → Hp → Prop
 | 0, _, _, _ => fun _ => False
 | m + 1, x3, x9, x10 => q9w P w0 (q32 P w0 k0 m) k0 x3 x9 x10
def ql6 (P : Program) (w0 : World) (k0 : Ko1) (x3 x9 x10 : Value) : Hp → Prop := fun h => ∃ m, q32 P w0 k0 m x3 x9 x10 h
def q9z (P : Program) (w0 : World) (a0 : Value) (R : Kont) : Hp → Prop :=
 nilA a0 fun b =>
 addA b 4 fun c =>
 loadNA w0 c 16 fun d =>
 ql6 P w0 (fun e =>
 retA [e] R) (.slice none 0 0) d (.int .i64 0)
theorem qw3 (w0 : World) (k0 : Ko1) : ∀ (m : Nat) (x3 x9 x10 : Value) (h : Hp), loopA (stepL ⟨prog, w0, 18, q6k⟩ (drw w0 18) (loopAt q6n 0)) m (mkFr [(3, x3), (9, x9), (10, x10)]) [fun t => k0 (t 3)] h = q32 prog w0 k0 m x3 x9 x10 h := by
 intro m
 induction m with
 | zero => intros; kernel_rfl
 | succ m ih =>
  intro x3 x9 x10 h
  have e : q32 prog w0 k0 m = fun x3 x9 x10 h => loopA (stepL ⟨prog, w0, 18, q6k⟩ (drw w0 18) (loopAt q6n 0)) m (mkFr [(3, x3), (9, x9), (10, x10)]) [fun t => k0 (t 3)] h := by funext x3 x9 x10 h; exact (ih x3 x9 x10 h).symm
  show _ = q9w prog w0 (q32 prog w0 k0 m) k0 x3 x9 x10 h
  rw [e]
  kernel_rfl
theorem qvx (w0 : World) : ql6 prog w0 = fun k0 x3 x9 x10 h => ∃ m, loopA (stepL ⟨prog, w0, 18, q6k⟩ (drw w0 18) (loopAt q6n 0)) m (mkFr [(3, x3), (9, x9), (10, x10)]) [fun t => k0 (t 3)] h := by
 funext k0 x3 x9 x10 h
 exact congrArg Exists (funext fun m => (qw3 w0 k0 m x3 x9 x10 h).symm)
theorem qwz {w0 : World} {h : Hp} {R : Kont} {a0 : Value} (hj : ∀ v, v ∈ [a0] → v ≠ junk) (hv : q9z prog w0 a0 R h) : ACalls prog w0 qe3 [a0] h R := by
 have e : vcFn ⟨prog, w0, 18, q6k⟩ (drw w0 18) q6n [a0] R h = q9z prog w0 a0 R h := by
  unfold q9z
  rw [qvx w0]
  kernel_rfl
 exact qf (fn := q6n) (ks := q6k) (n := 18) (by kernel_rfl) (by kernel_rfl) (qe (by kernel_rfl)) (by simp) hj e hv
abbrev q2y : Func := f81
def q30 : List (Nat × List Nat × List Nat) := [(5, [1, 4, 5, 28, 29], [4, 5]), (8, [1, 4, 5, 28, 29, 32, 33, 34], [1, 4, 5, 28, 29])]
def q9n (P : Program) (w0 : World) (R : Ko8) (k2 : Ko5) (kr : Ko5) (x1 x4 x5 x28 x29 x32 x33 x34 : Value) : Hp → Prop :=
 pureA (binA .lss x34 x33) fun d =>
 condA d (
 idxSlA 1 x32 x34 fun e =>
 loadA w0 e fun g =>
 callA P w0 qfo [g, x1] fun b =>
 pureA (extA b 0) fun i =>
 pureA (extA b 1) fun j =>
 newA [(.string .empty), (.string .empty), (.bool false)] 3 fun c =>
 storeNA w0 c i 3 fun _ =>
 condA j (
 loadNA w0 c 3 fun l =>
 storeNA w0 x4 l 3 fun _ =>
 kr x1 x4 (.bool true) x28 x29) (
 pureA (binA .add x34 (.int .i64 1)) fun o =>
 R x1 x4 x5 x28 x29 x32 x33 o)) (
 k2 x1 x4 x5 x28 x29)
def q2w (P : Program) (w0 : World) (k2 : Ko5) (kr : Ko5) : Nat → Value → Value → Value → Value → Value → Value → Value → Value → Hp → Prop
 | 0, _, _, _, _, _, _, _, _ => fun _ => False
 | m + 1, x1, x4, x5, x28, x29, x32, x33, x34 => q9n P w0 (q2w P w0 k2 kr m) k2 kr x1 x4 x5 x28 x29 x32 x33 x34
def qkr (P : Program) (w0 : World) (k2 : Ko5) (kr : Ko5) (x1 x4 x5 x28 x29 x32 x33 x34 : Value) : Hp → Prop := fun h => ∃ m, q2w P w0 k2 kr m x1 x4 x5 x28 x29 x32 x33 x34 h
def q6f (P : Program) (w0 : World) (R : Ko5) (k0 : Ko2) (kr : Ko2) (x1 x4 x5 x28 x29 : Value) : Hp → Prop :=
 pureA (binA .lss x29 (.int .i64 16)) fun c =>
 condA c (
 pureA (arIdxA false 16 1 x28 x29) fun b =>
 pureA (lenSl b) fun d =>
 qkr P w0 (fun e g i j l =>
 pureA (binA .add l (.int .i64 1)) fun o =>
 R e g i j o) (fun v s u z ba =>
 kr s u) x1 x4 x5 x28 x29 b d (.int .i64 0)) (
 k0 x4 x5)
def q2z (P : Program) (w0 : World) (k0 : Ko2) (kr : Ko2) : Nat → Value → Value → Value → Value → Value → Hp → Prop
 | 0, _, _, _, _, _ => fun _ => False
 | m + 1, x1, x4, x5, x28, x29 => q6f P w0 (q2z P w0 k0 kr m) k0 kr x1 x4 x5 x28 x29
def qkp (P : Program) (w0 : World) (k0 : Ko2) (kr : Ko2) (x1 x4 x5 x28 x29 : Value) : Hp → Prop := fun h => ∃ m, q2z P w0 k0 kr m x1 x4 x5 x28 x29 h
def q9s (P : Program) (w0 : World) (a0 a1 : Value) (R : Kont) : Hp → Prop :=
 newA [(.string .empty), (.string .empty), (.bool false)] 3 fun b =>
 nilA a0 fun g =>
 addA g 3 fun i =>
 loadA w0 i fun j =>
 callA P w0 qfp [j, a1] fun c =>
 pureA (extA c 0) fun l =>
 pureA (extA c 1) fun o =>
 newA [(.string .empty), (.string .empty), (.bool false)] 3 fun d =>
 storeNA w0 d l 3 fun _ =>
 condA o (
 loadNA w0 d 3 fun s =>
 storeNA w0 b s 3 fun _ =>
 loadNA w0 b 3 fun u =>
 retA [u, (.bool true)] R) (
 nilA a0 fun v =>
 addA v 4 fun z =>
 loadNA w0 z 16 fun ba =>
 qkp P w0 (fun e bg =>
 buildA [] [(.string .empty), (.string .empty), (.bool false)] fun bb =>
 storeNA w0 e bb 3 fun _ =>
 loadNA w0 e 3 fun bc =>
 retA [bc, (.bool false)] R) (fun bd be =>
 loadNA w0 bd 3 fun bf =>
 retA [bf, be] R) a1 b (.bool false) ba (.int .i64 0))
theorem qvs (w0 : World) (k2 : Ko5) (kr : Ko5) : ∀ (m : Nat) (x1 x4 x5 x28 x29 x32 x33 x34 : Value) (h : Hp), loopA (stepL ⟨prog, w0, 49, q30⟩ (drw w0 49) (loopAt q2y 1)) m (mkFr [(1, x1), (4, x4), (5, x5), (28, x28), (29, x29), (32, x32), (33, x33), (34, x34)]) [fun t => k2 (t 1) (t 4) (t 5) (t 28) (t 29), fun t => kr (t 1) (t 4) (t 5) (t 28) (t 29)] h = q2w prog w0 k2 kr m x1 x4 x5 x28 x29 x32 x33 x34 h := by
 intro m
 induction m with
 | zero => intros; kernel_rfl
 | succ m ih =>
  intro x1 x4 x5 x28 x29 x32 x33 x34 h
  have e : q2w prog w0 k2 kr m = fun x1 x4 x5 x28 x29 x32 x33 x34 h => loopA (stepL ⟨prog, w0, 49, q30⟩ (drw w0 49) (loopAt q2y 1)) m (mkFr [(1, x1), (4, x4), (5, x5), (28, x28), (29, x29), (32, x32), (33, x33), (34, x34)]) [fun t => k2 (t 1) (t 4) (t 5) (t 28) (t 29), fun t => kr (t 1) (t 4) (t 5) (t 28) (t 29)] h := by funext x1 x4 x5 x28 x29 x32 x33 x34 h; exact (ih x1 x4 x5 x28 x29 x32 x33 x34 h).symm
  show _ = q9n prog w0 (q2w prog w0 k2 kr m) k2 kr x1 x4 x5 x28 x29 x32 x33 x34 h
  rw [e]
  kernel_rfl
theorem qvu (w0 : World) : qkr prog w0 = fun k2 kr x1 x4 x5 x28 x29 x32 x33 x34 h => ∃ m, loopA (stepL ⟨prog, w0, 49, q30⟩ (drw w0 49) (loopAt q2y 1)) m (mkFr [(1, x1), (4, x4), (5, x5), (28, x28), (29, x29), (32, x32), (33, x33), (34, x34)]) [fun t => k2 (t 1) (t 4) (t 5) (t 28) (t 29), fun t => kr (t 1) (t 4) (t 5) (t 28) (t 29)] h := by
 funext k2 kr x1 x4 x5 x28 x29 x32 x33 x34 h
 exact congrArg Exists (funext fun m => (qvs w0 k2 kr m x1 x4 x5 x28 x29 x32 x33 x34 h).symm)
theorem qvq (w0 : World) (k0 : Ko2) (kr : Ko2) : ∀ (m : Nat) (x1 x4 x5 x28 x29 : Value) (h : Hp), loopA (stepL ⟨prog, w0, 49, q30⟩ (drw w0 49) (loopAt q2y 0)) m (mkFr [(1, x1), (4, x4), (5, x5), (28, x28), (29, x29)]) [fun t => k0 (t 4) (t 5), fun t => kr (t 4) (t 5)] h = q2z prog w0 k0 kr m x1 x4 x5 x28 x29 h := by
 intro m
 induction m with
 | zero => intros; kernel_rfl
 | succ m ih =>
  intro x1 x4 x5 x28 x29 h
  have e : q2z prog w0 k0 kr m = fun x1 x4 x5 x28 x29 h => loopA (stepL ⟨prog, w0, 49, q30⟩ (drw w0 49) (loopAt q2y 0)) m (mkFr [(1, x1), (4, x4), (5, x5), (28, x28), (29, x29)]) [fun t => k0 (t 4) (t 5), fun t => kr (t 4) (t 5)] h := by funext x1 x4 x5 x28 x29 h; exact (ih x1 x4 x5 x28 x29 h).symm
  show _ = q6f prog w0 (q2z prog w0 k0 kr m) k0 kr x1 x4 x5 x28 x29 h
  rw [e]
  unfold q6f
  rw [qvu w0]
  kernel_rfl
theorem qvr (w0 : World) : qkp prog w0 = fun k0 kr x1 x4 x5 x28 x29 h => ∃ m, loopA (stepL ⟨prog, w0, 49, q30⟩ (drw w0 49) (loopAt q2y 0)) m (mkFr [(1, x1), (4, x4), (5, x5), (28, x28), (29, x29)]) [fun t => k0 (t 4) (t 5), fun t => kr (t 4) (t 5)] h := by
 funext k0 kr x1 x4 x5 x28 x29 h
 exact congrArg Exists (funext fun m => (qvq w0 k0 kr m x1 x4 x5 x28 x29 h).symm)
theorem qww {w0 : World} {h : Hp} {R : Kont} {a0 a1 : Value} (hj : ∀ v, v ∈ [a0, a1] → v ≠ junk) (hv : q9s prog w0 a0 a1 R h) : ACalls prog w0 qdt [a0, a1] h R := by
 have e : vcFn ⟨prog, w0, 49, q30⟩ (drw w0 49) q2y [a0, a1] R h = q9s prog w0 a0 a1 R h := by
  unfold q9s
  rw [qvr w0]
  kernel_rfl
 exact qf (fn := q2y) (ks := q30) (n := 49) (by kernel_rfl) (by kernel_rfl) (qe (by kernel_rfl)) (by simp) hj e hv
abbrev q6c : Func := f82
def q6a : List (Nat × List Nat × List Nat) := [(2, [0, 13, 14, 15], [])]
def q9j (P : Program) (w0 : World) (R : Ko4) (k0 : Hp → Prop) (kr : Hp → Prop) (x0 x13 x14 x15 : Value) : Hp → Prop :=
 pureA (binA .lss x15 x14) fun d =>
 condA d (
 idxSlA 4 x13 x15 fun e =>
 loadNA w0 e 4 fun g =>
 newA [(.string .empty), (.string .empty), (.string .empty), (.bool false)] 4 fun c =>
 storeNA w0 c g 4 fun _ =>
 addA c 1 fun i =>
 addA i 2 fun j =>
 loadA w0 j fun l =>
 pureA (unA .not l) fun b =>
 guardA b true (fun K => K x0) fun o =>
 guardA b true (addA c 0) fun s =>
 guardA b true (loadA w0 s) fun u =>
 guardA b true (addA c 1) fun v =>
 guardA b true (addA v 1) fun z =>
 guardA b true (loadA w0 z) fun ba =>
 guardA b true (callVA P w0 o [u, ba]) fun bb =>
 guardA b true (pureA (unA .not bb)) fun bc =>
 pickA b bc (.bool false) fun bd =>
 condA bd (
 kr) (
 pureA (binA .add x15 (.int .i64 1)) fun be =>
 R x0 x13 x14 be)) (
 k0)
def q2t (P : Program) (w0 : World) (k0 : Hp → Prop) (kr : Hp → Prop) : Nat → Value → Value → Value → Value → Hp → Prop
 | 0, _, _, _, _ => fun _ => False
 | m + 1, x0, x13, x14, x15 => q9j P w0 (q2t P w0 k0 kr m) k0 kr x0 x13 x14 x15
def qki (P : Program) (w0 : World) (k0 : Hp → Prop) (kr : Hp → Prop) (x0 x13 x14 x15 : Value) : Hp → Prop := fun h => ∃ m, q2t P w0 k0 kr m x0 x13 x14 x15 h
def q9o (P : Program) (w0 : World) (a0 a1 a2 a3 : Value) (R : Kont) : Hp → Prop :=
 loadA w0 a1 fun c =>
 callA P w0 q1h [c] fun d =>
 pureA (unA .not d) fun e =>
 condA e (
 retA [] R) (
 loadA w0 a1 fun g =>
 loadA w0 a2 fun i =>
 loadA w0 a3 fun j =>
 callA P w0 qet [g, i, j] fun b =>
 pureA (lenSl b) fun l =>
 qki P w0 (
 retA [] R) (
 retA [] R) a0 b l (.int .i64 0))
theorem qvk (w0 : World) (k0 : Hp → Prop) (kr : Hp → Prop) : ∀ (m : Nat) (x0 x13 x14 x15 : Value) (h : Hp), loopA (stepL ⟨prog, w0, 34, q6a⟩ (drw w0 34) (loopAt q6c 0)) m (mkFr [(0, x0), (13, x13), (14, x14), (15, x15)]) [fun t => k0, fun t => kr] h = q2t prog w0 k0 kr m x0 x13 x14 x15 h := by
 intro m
 induction m with
 | zero => intros; kernel_rfl
 | succ m ih =>
  intro x0 x13 x14 x15 h
  have e : q2t prog w0 k0 kr m = fun x0 x13 x14 x15 h => loopA (stepL ⟨prog, w0, 34, q6a⟩ (drw w0 34) (loopAt q6c 0)) m (mkFr [(0, x0), (13, x13), (14, x14), (15, x15)]) [fun t => k0, fun t => kr] h := by funext x0 x13 x14 x15 h; exact (ih x0 x13 x14 x15 h).symm
  show _ = q9j prog w0 (q2t prog w0 k0 kr m) k0 kr x0 x13 x14 x15 h
  rw [e]
  kernel_rfl
theorem qvm (w0 : World) : qki prog w0 = fun k0 kr x0 x13 x14 x15 h => ∃ m, loopA (stepL ⟨prog, w0, 34, q6a⟩ (drw w0 34) (loopAt q6c 0)) m (mkFr [(0, x0), (13, x13), (14, x14), (15, x15)]) [fun t => k0, fun t => kr] h := by
 funext k0 kr x0 x13 x14 x15 h
 exact congrArg Exists (funext fun m => (qvk w0 k0 kr m x0 x13 x14 x15 h).symm)
theorem qwo {w0 : World} {h : Hp} {R : Kont} {a0 a1 a2 a3 : Value} (hj : ∀ v, v ∈ [a0, a1, a2, a3] → v ≠ junk) (hv : q9o prog w0 a0 a1 a2 a3 R h) : ACalls prog w0 q6d [a0, a1, a2, a3] h R := by
 have e : vcFn ⟨prog, w0, 34, q6a⟩ (drw w0 34) q6c [a0, a1, a2, a3] R h = q9o prog w0 a0 a1 a2 a3 R h := by
  unfold q9o
  rw [qvm w0]
  kernel_rfl
 exact qf (fn := q6c) (ks := q6a) (n := 34) (by kernel_rfl) (by kernel_rfl) (qe (by kernel_rfl)) (by simp) hj e hv
abbrev q3b : Func := f83
def q3d : List (Nat × List Nat × List Nat) := [(5, [4, 5, 7, 8, 24, 25], [7]), (8, [4, 5, 7, 8, 24, 25, 28, 29, 30], [4, 5, 7, 8, 24, 25])]
def qa5 (P : Program) (w0 : World) (R : Ko9) (k2 : Ko6) (x4 x5 x7 x8 x24 x25 x28 x29 x30 : Value) : Hp → Prop :=
 pureA (binA .lss x30 x29) fun b =>
 condA b (
 idxSlA 1 x28 x30 fun c =>
 loadA w0 c fun d =>
 loadA w0 x4 fun e =>
 loadA w0 x5 fun g =>
 callA P w0 qan [d, e, g] fun i =>
 callVA P w0 x8 [i] fun l =>
 pureA (binA .add x30 (.int .i64 1)) fun j =>
 R x4 x5 x7 x8 x24 x25 x28 x29 j) (
 k2 x4 x5 x7 x8 x24 x25)
def q3a (P : Program) (w0 : World) (k2 : Ko6) : Nat → Value → Value → Value → Value → Value → Value → Value → Value → Value → Hp → Prop
 | 0, _, _, _, _, _, _, _, _, _ => fun _ => False
 | m + 1, x4, x5, x7, x8, x24, x25, x28, x29, x30 => qa5 P w0 (q3a P w0 k2 m) k2 x4 x5 x7 x8 x24 x25 x28 x29 x30
def qmh (P : Program) (w0 : World) (k2 : Ko6) (x4 x5 x7 x8 x24 x25 x28 x29 x30 : Value) : Hp → Prop := fun h => ∃ m, q3a P w0 k2 m x4 x5 x7 x8 x24 x25 x28 x29 x30 h
def q70 (P : Program) (w0 : World) (R : Ko6) (k0 : Ko1) (x4 x5 x7 x8 x24 x25 : Value) : Hp → Prop :=
 pureA (binA .lss x25 (.int .i64 16)) fun c =>
 condA c (
 pureA (arIdxA false 16 1 x24 x25) fun b =>
 pureA (lenSl b) fun d =>
 qmh P w0 (fun e g i j l o =>
 pureA (binA .add o (.int .i64 1)) fun s =>
 R e g i j l s) x4 x5 x7 x8 x24 x25 b d (.int .i64 0)) (
 k0 x7)
def q3c (P : Program) (w0 : World) (k0 : Ko1) : Nat → Value → Value → Value → Value → Value → Value → Hp → Prop
 | 0, _, _, _, _, _, _ => fun _ => False
 | m + 1, x4, x5, x7, x8, x24, x25 => q70 P w0 (q3c P w0 k0 m) k0 x4 x5 x7 x8 x24 x25
def qmn (P : Program) (w0 : World) (k0 : Ko1) (x4 x5 x7 x8 x24 x25 : Value) : Hp → Prop := fun h => ∃ m, q3c P w0 k0 m x4 x5 x7 x8 x24 x25 h
def qab (P : Program) (w0 : World) (a0 a1 a2 : Value) (R : Kont) : Hp → Prop :=
 boxA false 1 a1 fun b =>
 boxA false 1 a2 fun c =>
 newA [(.slice none 0 0)] 1 fun d =>
 mkFnA q47 [] [b, c, d] fun e =>
 nilA a0 fun g =>
 addA g 3 fun i =>
 loadA w0 i fun j =>
 callA P w0 q7g [j] fun l =>
 callVA P w0 e [l] fun bb =>
 nilA a0 fun o =>
 addA o 4 fun s =>
 loadNA w0 s 16 fun u =>
 qmn P w0 (fun v =>
 loadA w0 v fun z =>
 callA P w0 q97 [z] fun ba =>
 retA [ba] R) b c d e u (.int .i64 0)
theorem qwn (w0 : World) (k2 : Ko6) : ∀ (m : Nat) (x4 x5 x7 x8 x24 x25 x28 x29 x30 : Value) (h : Hp), loopA (stepL ⟨prog, w0, 44, q3d⟩ (drw w0 44) (loopAt q3b 1)) m (mkFr [(4, x4), (5, x5), (7, x7), (8, x8), (24, x24), (25, x25), (28, x28), (29, x29), (30, x30)]) [fun t => k2 (t 4) (t 5) (t 7) (t 8) (t 24) (t 25)] h = q3a prog w0 k2 m x4 x5 x7 x8 x24 x25 x28 x29 x30 h := by
 intro m
 induction m with
 | zero => intros; kernel_rfl
 | succ m ih =>
  intro x4 x5 x7 x8 x24 x25 x28 x29 x30 h
  have e : q3a prog w0 k2 m = fun x4 x5 x7 x8 x24 x25 x28 x29 x30 h => loopA (stepL ⟨prog, w0, 44, q3d⟩ (drw w0 44) (loopAt q3b 1)) m (mkFr [(4, x4), (5, x5), (7, x7), (8, x8), (24, x24), (25, x25), (28, x28), (29, x29), (30, x30)]) [fun t => k2 (t 4) (t 5) (t 7) (t 8) (t 24) (t 25)] h := by funext x4 x5 x7 x8 x24 x25 x28 x29 x30 h; exact (ih x4 x5 x7 x8 x24 x25 x28 x29 x30 h).symm
  show _ = qa5 prog w0 (q3a prog w0 k2 m) k2 x4 x5 x7 x8 x24 x25 x28 x29 x30 h
  rw [e]
  kernel_rfl
theorem qwj (w0 : World) : qmh prog w0 = fun k2 x4 x5 x7 x8 x24 x25 x28 x29 x30 h => ∃ m, loopA (stepL ⟨prog, w0, 44, q3d⟩ (drw w0 44) (loopAt q3b 1)) m (mkFr [(4, x4), (5, x5), (7, x7), (8, x8), (24, x24), (25, x25), (28, x28), (29, x29), (30, x30)]) [fun t => k2 (t 4) (t 5) (t 7) (t 8) (t 24) (t 25)] h := by
 funext k2 x4 x5 x7 x8 x24 x25 x28 x29 x30 h
 exact congrArg Exists (funext fun m => (qwn w0 k2 m x4 x5 x7 x8 x24 x25 x28 x29 x30 h).symm)
theorem qwk (w0 : World) (k0 : Ko1) : ∀ (m : Nat) (x4 x5 x7 x8 x24 x25 : Value) (h : Hp), loopA (stepL ⟨prog, w0, 44, q3d⟩ (drw w0 44) (loopAt q3b 0)) m (mkFr [(4, x4), (5, x5), (7, x7), (8, x8), (24, x24), (25, x25)]) [fun t => k0 (t 7)] h = q3c prog w0 k0 m x4 x5 x7 x8 x24 x25 h := by
 intro m
 induction m with
 | zero => intros; kernel_rfl
 | succ m ih =>
  intro x4 x5 x7 x8 x24 x25 h
  have e : q3c prog w0 k0 m = fun x4 x5 x7 x8 x24 x25 h => loopA (stepL ⟨prog, w0, 44, q3d⟩ (drw w0 44) (loopAt q3b 0)) m (mkFr [(4, x4), (5, x5), (7, x7), (8, x8), (24, x24), (25, x25)]) [fun t => k0 (t 7)] h := by funext x4 x5 x7 x8 x24 x25 h; exact (ih x4 x5 x7 x8 x24 x25 h).symm
  show _ = q70 prog w0 (q3c prog w0 k0 m) k0 x4 x5 x7 x8 x24 x25 h
  rw [e]
  unfold q70
  rw [qwj w0]
  kernel_rfl
theorem qwi (w0 : World) : qmn prog w0 = fun k0 x4 x5 x7 x8 x24 x25 h => ∃ m, loopA (stepL ⟨prog, w0, 44, q3d⟩ (drw w0 44) (loopAt q3b 0)) m (mkFr [(4, x4), (5, x5), (7, x7), (8, x8), (24, x24), (25, x25)]) [fun t => k0 (t 7)] h := by
 funext k0 x4 x5 x7 x8 x24 x25 h
 exact congrArg Exists (funext fun m => (qwk w0 k0 m x4 x5 x7 x8 x24 x25 h).symm)
theorem qxr {w0 : World} {h : Hp} {R : Kont} {a0 a1 a2 : Value} (hj : ∀ v, v ∈ [a0, a1, a2] → v ≠ junk) (hv : qab prog w0 a0 a1 a2 R h) : ACalls prog w0 qet [a0, a1, a2] h R := by
 have e : vcFn ⟨prog, w0, 44, q3d⟩ (drw w0 44) q3b [a0, a1, a2] R h = qab prog w0 a0 a1 a2 R h := by
  unfold qab
  rw [qwi w0]
  kernel_rfl
 exact qf (fn := q3b) (ks := q3d) (n := 44) (by kernel_rfl) (by kernel_rfl) (qe (by kernel_rfl)) (by simp) hj e hv
abbrev qp0 : Func := f88
def qoq : List (Nat × List Nat × List Nat) := []
def qgl (P : Program) (w0 : World) (a0 : Value) (R : Kont) : Hp → Prop :=
 boxA true 3 a0 fun b =>
 addA b 0 fun j =>
 loadA w0 j fun l =>
 pureA (binA .geq l (.int .i64 256)) fun c =>
 guardA c true (addA b 0) fun o =>
 guardA c true (loadA w0 o) fun s =>
 guardA c true (pureA (binA .leq s (.int .i64 4096))) fun u =>
 pickA c u (.bool false) fun d =>
 guardA d true (addA b 1) fun v =>
 guardA d true (loadA w0 v) fun z =>
 guardA d true (pureA (binA .geq z (.int .i64 2))) fun ba =>
 pickA d ba (.bool false) fun e =>
 guardA e true (addA b 1) fun bb =>
 guardA e true (loadA w0 bb) fun bc =>
 guardA e true (pureA (binA .leq bc (.int .i64 16))) fun bd =>
 pickA e bd (.bool false) fun g =>
 guardA g true (addA b 2) fun be =>
 guardA g true (loadA w0 be) fun bf =>
 guardA g true (pureA (binA .geq bf (.int .i64 1))) fun bg =>
 pickA g bg (.bool false) fun i =>
 guardA i true (addA b 2) fun bh =>
 guardA i true (loadA w0 bh) fun bi =>
 guardA i true (pureA (binA .leq bi (.int .i64 4096))) fun bj =>
 pickA i bj (.bool false) fun bk =>
 retA [bk] R
theorem q01e {w0 : World} {h : Hp} {R : Kont} {a0 : Value} (hj : ∀ v, v ∈ [a0] → v ≠ junk) (hv : qgl prog w0 a0 R h) : ACalls prog w0 qgh [a0] h R := by
 have e : vcFn ⟨prog, w0, 31, qoq⟩ (drw w0 31) qp0 [a0] R h = qgl prog w0 a0 R h := by
  kernel_rfl
 exact qf (fn := qp0) (ks := qoq) (n := 31) (by kernel_rfl) (by kernel_rfl) (qe (by kernel_rfl)) (by simp) hj e hv
abbrev qkv : Func := f129
def qkq : List (Nat × List Nat × List Nat) := []
def qkk (P : Program) (w0 : World) (b : Nat) (g : Lp) (K : Kont) (x1 x2 x5 y8 : Value) : Hp → Prop :=
 newA [(.string .empty), (.string .empty), (.bool false)] 3 fun c =>
 storeNA w0 c y8 3 fun _ =>
 beginA b g (
 addA c 0 fun i =>
 loadA w0 i fun j =>
 loadA w0 x1 fun l =>
 pureA (binA .geq j l) fun d =>
 guardA d true (loadA w0 x2) fun o =>
 guardA d true (pureA (binA .eql o (.string .empty))) fun s =>
 guardA d true (fun K => K s) fun e =>
 guardA e false (addA c 0) fun u =>
 guardA e false (loadA w0 u) fun v =>
 guardA e false (loadA w0 x2) fun z =>
 guardA e false (pureA (binA .lss v z)) fun ba =>
 guardA d true (pickA e (.bool true) ba) fun bb =>
 pickA d bb (.bool false) fun bc =>
 condA bc (
 loadA w0 x5 fun bd =>
 addA c 0 fun be =>
 loadA w0 be fun bf =>
 loadNA w0 c 3 fun bg =>
 buildA [(0, 1, false, bf), (1, 3, true, bg)] [(.string .empty), (.string .empty), (.string .empty), (.bool false)] fun bh =>
 bslA [(0, 4, true, bh)] (zerosL [(.string .empty), (.string .empty), (.string .empty), (.bool false)] 1) 1 4 fun bi =>
 appA w0 4 56 bd bi fun bj =>
 storeA w0 x5 bj fun _ =>
 endR b g none K) (
 endR b g none K))
def qdu (P : Program) (w0 : World) (a0 a1 a2 a3 : Value) (R : Kont) : Hp → Prop :=
 fun h0 => (newA [(.slice none 0 0)] 1 fun c =>
 rangeA P w0 a0 1 (fun b g args K => qkk P w0 b g K a1 a2 c (args.getD 0 undef)) (
 loadA w0 a3 fun d =>
 loadA w0 c fun e =>
 bslA [(0, 1, false, e)] (zerosL [(.slice none 0 0)] 1) 1 1 fun i =>
 appA w0 1 24 d i fun j =>
 storeA w0 a3 j fun _ =>
 cutA h0 (
 retA [] R)) []) h0
theorem qwp {w0 : World} {h : Hp} {R : Kont} {a0 a1 a2 a3 : Value} (hj : ∀ v, v ∈ [a0, a1, a2, a3] → v ≠ junk) (hv : qdu prog w0 a0 a1 a2 a3 R h) : ACalls prog w0 q47 [a0, a1, a2, a3] h R := by
 have e : vcFnM ⟨prog, w0, 34, qkq⟩ (drw w0 34) qkv [a0, a1, a2, a3] R h = qdu prog w0 a0 a1 a2 a3 R h := by
  kernel_rfl
 exact q7e (fn := qkv) (ks := qkq) (n := 34) (by kernel_rfl) (by kernel_rfl) (qe (by kernel_rfl)) (by simp) hj e hv
end
end Go.Proofs.YtfmoemconapmhaaGreat.Ah
