/- PRINTED by wip/tools/shallow.py: functions of the program as readable words, and that each is what its text says. -/
import Derived.Test.YtfmoemconapmhaaGreatGn
set_option linter.all false
namespace Go.Proofs.YtfmoemconapmhaaGreat.Ah
open Go Go.Proofs.Tryz
noncomputable section
variable (P:Program) (w0:World) {h:Hp} {R:qh}
abbrev q07i:Func:=f11
def q07n:List (Nat × List Nat × List Nat):=[]
def qta (a0 a1 a2:Value) (R:qh):Hp→Prop:=
 q15 false 1 a1 λ b=>
 q15 false 1 a2 λ c=>
 q58 qis [] [b,c] λ d=>
 qi P w0 qev [a0,d] λ e=>
 qo [e] R
theorem q08t {w0:World} {a0 a1 a2:Value} (hj:∀ v,v∈[a0,a1,a2]→v≠junk) (hv:qta prog w0 a0 a1 a2 R h):qf prog w0 qbn [a0,a1,a2] h R:=
 q03 q07i q07n 10 (by kernel_rfl) (by kernel_rfl) (by simp) hj (by
  kernel_rfl) hv
abbrev q05z:Func:=f12
def q05o:List (Nat × List Nat × List Nat):=[]
def qq9 (a0 a1:Value) (R:qh):Hp→Prop:=
 q15 false 1 a1 λ b=>
 q58 qig [] [b] λ c=>
 qi P w0 qev [a0,c] λ d=>
 qo [d] R
theorem q067 {w0:World} {a0 a1:Value} (hj:∀ v,v∈[a0,a1]→v≠junk) (hv:qq9 prog w0 a0 a1 R h):qf prog w0 qir [a0,a1] h R:=
 q03 q05z q05o 8 (by kernel_rfl) (by kernel_rfl) (by simp) hj (by
  kernel_rfl) hv
abbrev q065:Func:=f13
def q068:List (Nat × List Nat × List Nat):=[]
def qqx (a0:Value) (R:qh):Hp→Prop:=
 qi P w0 q5e [a0] λ i=>
 qb (unA .not i) λ b=>
 qe b false (λ K=>K a0) λ j=>
 qe b false (q02 j) λ l=>
 qe b false (qk l 3) λ o=>
 qe b false (qg w0 o) λ s=>
 qe b false (qi P w0 qfg [s]) λ u=>
 qe b false (qb (qd .eql u (.int .i64 0))) λ v=>
 q0a b (.bool true) v λ z=>
 qt z (
 qo [(.bool false)] R) (
 qc (λ K=>K a0) λ ba=>
 qc (λ K=>K a0) λ bb=>
 qc (q02 bb) λ bc=>
 qc (qk bc 4) λ bd=>
 qc (q3i 16 1 bd (.int .i64 0)) λ be=>
 qz (qg w0 be) λ bf=>
 qc (λ K=>K a0) λ bg=>
 qc (q02 bg) λ bh=>
 qc (qk bh 3) λ e=>
 qz (qg w0 e) λ g=>
 qc (λ K=>K a0) λ bi=>
 qc (q02 bi) λ bj=>
 qc (qk bj 0) λ bk=>
 qc (qk bk 0) λ c=>
 qz (qg w0 c) λ d=>
 qc (q02 ba) λ bl=>
 qc (qk bl 4) λ bm=>
 q0d [
 (qi P w0 qdf [bf] λ bn=>
 q0c [(q26 (qg w0 c) d),(q26 (qg w0 e) g)] (
 q0d [
 (qi P w0 qa9 [g] λ bo=>
 q0c [(q26 (qg w0 c) d)] (
 q0d [
 (qi P w0 qi8 [bo] λ bp=>
 q0c [(q26 (qg w0 c) d)] (
 q0d [
 (qi P w0 qbt [bp,d] λ bq=>
 q0c [] (
 q0d [
 (q0j [(0,1,false,bq)] (q00 [(.pointer none)] 1) 1 1 λ br=>
 q0c [] (
 q0d [
 (qi P w0 qb5 [bn,(.int .i64 0),br] λ bs=>
 q0c [] (
 qc (q3i 16 1 bm (.int .i64 0)) λ bt=>
 q0d [
 (q0q w0 bt bs λ _=>
 q0c [] (
 q0y (
 q02 a0 λ bu=>
 qk bu 3 λ bv=>
 qg w0 bv λ bw=>
 qi P w0 qk6 [bw] λ bx=>
 qo [(.bool true)] R)))]))]))]))]))]))]))])
theorem q07b {w0:World} {a0:Value} (hj:∀ v,v∈[a0]→v≠junk) (hv:qqx prog w0 a0 R h):qf prog w0 qj1 [a0] h R:=
 q03 q065 q068 43 (by kernel_rfl) (by kernel_rfl) (by simp) hj (by
  kernel_rfl) hv
abbrev q06t:Func:=f14
def q075:List (Nat × List Nat × List Nat):=[]
def qrs (a0:Value) (R:qh):Hp→Prop:=
 qi P w0 q5e [a0] λ j=>
 qb (unA .not j) λ l=>
 qt l (
 qo [(.bool false)] R) (
 qi P w0 qjf [a0] λ c=>
 qb (q0g c 0) λ b=>
 qb (q0g c 1) λ o=>
 qb (unA .not o) λ s=>
 qt s (
 qo [(.bool false)] R) (
 q02 a0 λ u=>
 qk u 4 λ v=>
 qb (qd .add b (.int .i64 1)) λ z=>
 qn8 16 1 v (some z) none λ ba=>
 qi P w0 qhi [ba,(.func (.func qbd) #[] #[])] λ bb=>
 q02 a0 λ bc=>
 qk bc 4 λ bd=>
 q3i 16 1 bd b λ be=>
 qg w0 be λ bf=>
 qb (unA .not bb) λ bg=>
 qi P w0 ql2 [bf,bg] λ d=>
 q02 a0 λ bh=>
 qk bh 4 λ bi=>
 q3i 16 1 bi b λ bj=>
 q0q w0 bj (.slice none 0 0) λ _=>
 qb (q05 d) λ bk=>
 qb (qd .gtr bk (.int .i64 0)) λ bl=>
 qt bl (
 qb (qd .add b (.int .i64 1)) λ bm=>
 qb (q3x q6n bm [(.int .i64 15)]) λ e=>
 qc (λ K=>K a0) λ bn=>
 qc (λ K=>K e) λ bo=>
 qc (λ K=>K a0) λ bp=>
 qc (λ K=>K e) λ bq=>
 qc (q02 bp) λ br=>
 qc (qk br 4) λ bs=>
 qc (q3i 16 1 bs bq) λ bt=>
 qz (qg w0 bt) λ bu=>
 qc (λ K=>K d) λ bv=>
 qc (λ K=>K a0) λ bw=>
 qc (q02 bw) λ bx=>
 qc (qk bx 0) λ bz=>
 qc (qk bz 0) λ g=>
 qz (qg w0 g) λ i=>
 qc (q02 bn) λ ca=>
 qc (qk ca 4) λ cb=>
 q0d [
 (qi P w0 qdf [bu] λ cc=>
 q0c [(q26 (qg w0 g) i)] (
 q0d [
 (qi P w0 qbt [bv,i] λ cd=>
 q0c [] (
 q0d [
 (q0j [(0,1,false,cd)] (q00 [(.pointer none)] 1) 1 1 λ ce=>
 q0c [] (
 q0d [
 (qi P w0 qb5 [cc,(.int .i64 0),ce] λ cf=>
 q0c [] (
 qc (q3i 16 1 cb bo) λ cg=>
 q0d [
 (q0q w0 cg cf λ _=>
 q0c [] (
 q0y (
 qo [(.bool true)] R)))]))]))]))]))]) (
 qo [(.bool true)] R)))
theorem q08k {w0:World} {a0:Value} (hj:∀ v,v∈[a0]→v≠junk) (hv:qrs prog w0 a0 R h):qf prog w0 qje [a0] h R:=
 q03 q06t q075 66 (by kernel_rfl) (by kernel_rfl) (by simp) hj (by
  kernel_rfl) hv
abbrev qdx:Func:=f16
def qdy:List (Nat × List Nat × List Nat):=[(6,[0,3,4,39,40,41],[0,3,4]),(11,[0,3,50,51,52],[3]),(15,[0,3,50,51,52,66,67,68],[0,3,50,51,52])]
def qdz (R:Ko6) (k0:Ko3) (x0 x3 x4 x39 x40 x41:Value):Hp→Prop:=
 qb (qd .lss x41 x40) λ b=>
 qt b (
 q04 1 x39 x41 λ c=>
 qg w0 c λ d=>
 qb (q0t .u64 d) λ e=>
 qi P w0 q5z [x3,e] λ i=>
 qb (qd .add x41 (.int .i64 1)) λ g=>
 R x0 x3 x4 x39 x40 g) (
 k0 x0 x3 x4)
def q7y (P:Program) (w0:World) (k0:Ko3):Nat→Value→Value→Value→Value→Value→Value→Hp→Prop
 | 0,_,_,_,_,_,_=>λ _=>False
 | m + 1,x0,x3,x4,x39,x40,x41=>qdz P w0 (q7y P w0 k0 m) k0 x0 x3 x4 x39 x40 x41
def qih (k0:Ko3) (x0 x3 x4 x39 x40 x41:Value):Hp→Prop:=λ h=>∃ m,q7y P w0 k0 m x0 x3 x4 x39 x40 x41 h
def qe0 (R:Ko8) (k4:Ko5) (x0 x3 x50 x51 x52 x66 x67 x68:Value):Hp→Prop:=
 qb (qd .lss x68 x67) λ c=>
 qt c (
 q04 1 x66 x68 λ d=>
 qg w0 d λ e=>
 qi P w0 qf8 [e] λ b=>
 qb (q05 b) λ g=>
 qb (q0t .u64 g) λ i=>
 qi P w0 q5z [x3,i] λ u=>
 q1z w0 b λ j=>
 qi P w0 qac [j] λ l=>
 qb (q0t .u64 l) λ o=>
 qi P w0 q5z [x3,o] λ v=>
 qb (qd .add x68 (.int .i64 1)) λ s=>
 R x0 x3 x50 x51 x52 x66 x67 s) (
 k4 x0 x3 x50 x51 x52)
def q7z (P:Program) (w0:World) (k4:Ko5):Nat→Value→Value→Value→Value→Value→Value→Value→Value→Hp→Prop
 | 0,_,_,_,_,_,_,_,_=>λ _=>False
 | m + 1,x0,x3,x50,x51,x52,x66,x67,x68=>qe0 P w0 (q7z P w0 k4 m) k4 x0 x3 x50 x51 x52 x66 x67 x68
def qpm (k4:Ko5) (x0 x3 x50 x51 x52 x66 x67 x68:Value):Hp→Prop:=λ h=>∃ m,q7z P w0 k4 m x0 x3 x50 x51 x52 x66 x67 x68 h
def qbb (R:Ko5) (k2:Ko1) (x0 x3 x50 x51 x52:Value):Hp→Prop:=
 qb (qd .lss x52 x51) λ c=>
 qt c (
 q04 1 x50 x52 λ d=>
 qg w0 d λ e=>
 qb (q0t .u64 e) λ g=>
 qi P w0 q5z [x3,g] λ bc=>
 q02 x0 λ i=>
 qk i 4 λ j=>
 q3i 16 1 j x52 λ l=>
 qg w0 l λ b=>
 qb (q05 b) λ o=>
 qpm P w0 (λ s u v z ba=>
 qb (qd .add ba (.int .i64 1)) λ bb=>
 R s u v z bb) x0 x3 x50 x51 x52 b o (.int .i64 0)) (
 k2 x3)
def q7x (P:Program) (w0:World) (k2:Ko1):Nat→Value→Value→Value→Value→Value→Hp→Prop
 | 0,_,_,_,_,_=>λ _=>False
 | m + 1,x0,x3,x50,x51,x52=>qbb P w0 (q7x P w0 k2 m) k2 x0 x3 x50 x51 x52
def qpl (k2:Ko1) (x0 x3 x50 x51 x52:Value):Hp→Prop:=λ h=>∃ m,q7x P w0 k2 m x0 x3 x50 x51 x52 h
def qij (a0:Value) (R:qh):Hp→Prop:=
 qi P w0 q5e [a0] λ i=>
 qb (unA .not i) λ j=>
 qt j (
 qo [(.slice none 0 0)] R) (
 qi P w0 qa5 [(.int .i64 1048576)] λ l=>
 qi P w0 qa2 [a0] λ b=>
 qc (λ K=>K a0) λ o=>
 qc (q02 o) λ s=>
 qc (qk s 0) λ u=>
 qc (qk u 0) λ v=>
 qz (qg w0 v) λ z=>
 qc (λ K=>K a0) λ ba=>
 qc (q02 ba) λ bb=>
 qc (qk bb 0) λ bc=>
 qc (qk bc 1) λ bd=>
 qz (qg w0 bd) λ be=>
 qc (λ K=>K a0) λ bf=>
 qc (q02 bf) λ bg=>
 qc (qk bg 0) λ bh=>
 qc (qk bh 2) λ bi=>
 qz (qg w0 bi) λ bj=>
 qc (λ K=>K b) λ bk=>
 qc (qb (q05 bk)) λ bl=>
 qc (λ K=>K (.int .i64 0)) λ bm=>
 q0d [
 (q0j [(0,1,false,z),(1,1,false,be),(2,1,false,bj),(3,1,false,bl)] (q00 [(.int .i64 0)] 4) 4 1 λ c=>
 q0c [] (
 qc (qb (q05 c)) λ bn=>
 q0y (
 qih P w0 (λ bo bp d=>
 qb (q05 d) λ bq=>
 qpl P w0 (λ br=>
 qi P w0 q6v [br] λ e=>
 qb (q0g e 0) λ bs=>
 qb (q0g e 1) λ bv=>
 qi P w0 qkd [(.int .u8 77),bs] λ g=>
 qb (q0g g 0) λ bt=>
 qb (q0g g 1) λ bw=>
 q9s bt λ bu=>
 qo [bu] R) bo bp d bq (.int .i64 0)) a0 l b c bn bm)))])
def qpo (w0:World) (k4:Ko5) (m:Nat) (x0 x3 x50 x51 x52 x66 x67 x68:Value):Hp→Prop:=q0p (stepL ⟨prog,w0,99,qdy⟩ (drw w0 99) (q0v qdx 2)) m (q0s [(0,x0),(3,x3),(50,x50),(51,x51),(52,x52),(66,x66),(67,x67),(68,x68)]) [λ t=>k4 (t 0) (t 3) (t 50) (t 51) (t 52)]
theorem q03w (w0:World) (k4:Ko5):∀ m,qpo w0 k4 m=q7z prog w0 k4 m:=by
 intro m
 induction m with
 | zero=>kernel_rfl
 | succ m ih=>
  show _=λ x0 x3 x50 x51 x52 x66 x67 x68=>qe0 prog w0 (q7z prog w0 k4 m) k4 x0 x3 x50 x51 x52 x66 x67 x68
  rw [← ih]
  kernel_rfl
theorem q03t (w0:World):qpm prog w0=λ k4 x0 x3 x50 x51 x52 x66 x67 x68 h=>∃ m,qpo w0 k4 m x0 x3 x50 x51 x52 x66 x67 x68 h:=by
 funext k4 x0 x3 x50 x51 x52 x66 x67 x68 h
 simp only [q03w]
 rfl
def qpq (w0:World) (k2:Ko1) (m:Nat) (x0 x3 x50 x51 x52:Value):Hp→Prop:=q0p (stepL ⟨prog,w0,99,qdy⟩ (drw w0 99) (q0v qdx 1)) m (q0s [(0,x0),(3,x3),(50,x50),(51,x51),(52,x52)]) [λ t=>k2 (t 3)]
theorem q03p (w0:World) (k2:Ko1):∀ m,qpq w0 k2 m=q7x prog w0 k2 m:=by
 intro m
 induction m with
 | zero=>kernel_rfl
 | succ m ih=>
  show _=λ x0 x3 x50 x51 x52=>qbb prog w0 (q7x prog w0 k2 m) k2 x0 x3 x50 x51 x52
  rw [← ih]
  unfold qbb
  rw [q03t w0]
  kernel_rfl
theorem q03q (w0:World):qpl prog w0=λ k2 x0 x3 x50 x51 x52 h=>∃ m,qpq w0 k2 m x0 x3 x50 x51 x52 h:=by
 funext k2 x0 x3 x50 x51 x52 h
 simp only [q03p]
 rfl
def qpp (w0:World) (k0:Ko3) (m:Nat) (x0 x3 x4 x39 x40 x41:Value):Hp→Prop:=q0p (stepL ⟨prog,w0,99,qdy⟩ (drw w0 99) (q0v qdx 0)) m (q0s [(0,x0),(3,x3),(4,x4),(39,x39),(40,x40),(41,x41)]) [λ t=>k0 (t 0) (t 3) (t 4)]
theorem q03v (w0:World) (k0:Ko3):∀ m,qpp w0 k0 m=q7y prog w0 k0 m:=by
 intro m
 induction m with
 | zero=>kernel_rfl
 | succ m ih=>
  show _=λ x0 x3 x4 x39 x40 x41=>qdz prog w0 (q7y prog w0 k0 m) k0 x0 x3 x4 x39 x40 x41
  rw [← ih]
  kernel_rfl
theorem q03s (w0:World):qih prog w0=λ k0 x0 x3 x4 x39 x40 x41 h=>∃ m,qpp w0 k0 m x0 x3 x4 x39 x40 x41 h:=by
 funext k0 x0 x3 x4 x39 x40 x41 h
 simp only [q03v]
 rfl
theorem q056 {w0:World} {a0:Value} (hj:∀ v,v∈[a0]→v≠junk) (hv:qij prog w0 a0 R h):qf prog w0 qik [a0] h R:=
 q03 qdx qdy 99 (by kernel_rfl) (by kernel_rfl) (by simp) hj (by
  unfold qij
  rw [q03s w0,q03q w0]
  kernel_rfl) hv
abbrev qqh:Func:=f17
def qql:List (Nat × List Nat × List Nat):=[(5,[3,10,11,12],[3])]
def qe7 (R:Ko4) (k0:Ko1) (x3 x10 x11 x12:Value):Hp→Prop:=
 qb (qd .lss x12 x11) λ b=>
 qt b (
 q04 1 x10 x12 λ c=>
 qg w0 c λ d=>
 qi P w0 qf8 [d] λ e=>
 q0j [(0,1,false,e)] (q00 [(.slice none 0 0)] 1) 1 1 λ g=>
 q0h w0 1 24 x3 g λ i=>
 qb (qd .add x12 (.int .i64 1)) λ j=>
 R i x10 x11 j) (
 k0 x3)
def q88 (P:Program) (w0:World) (k0:Ko1):Nat→Value→Value→Value→Value→Hp→Prop
 | 0,_,_,_,_=>λ _=>False
 | m + 1,x3,x10,x11,x12=>qe7 P w0 (q88 P w0 k0 m) k0 x3 x10 x11 x12
def qqk (k0:Ko1) (x3 x10 x11 x12:Value):Hp→Prop:=λ h=>∃ m,q88 P w0 k0 m x3 x10 x11 x12 h
def qj2 (a0:Value) (R:qh):Hp→Prop:=
 qi P w0 q5e [a0] λ c=>
 qb (unA .not c) λ d=>
 qt d (
 qo [(.slice none 0 0)] R) (
 qi P w0 qiy [a0] λ b=>
 qb (q05 b) λ e=>
 qqk P w0 (λ g=>
 qo [g] R) (.slice none 0 0) b e (.int .i64 0))
def qqc (w0:World) (k0:Ko1) (m:Nat) (x3 x10 x11 x12:Value):Hp→Prop:=q0p (stepL ⟨prog,w0,23,qql⟩ (drw w0 23) (q0v qqh 0)) m (q0s [(3,x3),(10,x10),(11,x11),(12,x12)]) [λ t=>k0 (t 3)]
theorem q04p (w0:World) (k0:Ko1):∀ m,qqc w0 k0 m=q88 prog w0 k0 m:=by
 intro m
 induction m with
 | zero=>kernel_rfl
 | succ m ih=>
  show _=λ x3 x10 x11 x12=>qe7 prog w0 (q88 prog w0 k0 m) k0 x3 x10 x11 x12
  rw [← ih]
  kernel_rfl
theorem q04n (w0:World):qqk prog w0=λ k0 x3 x10 x11 x12 h=>∃ m,qqc w0 k0 m x3 x10 x11 x12 h:=by
 funext k0 x3 x10 x11 x12 h
 simp only [q04p]
 rfl
theorem q078 {w0:World} {a0:Value} (hj:∀ v,v∈[a0]→v≠junk) (hv:qj2 prog w0 a0 R h):qf prog w0 qiw [a0] h R:=
 q03 qqh qql 23 (by kernel_rfl) (by kernel_rfl) (by simp) hj (by
  unfold qj2
  rw [q04n w0]
  kernel_rfl) hv
abbrev qra:Func:=f19
def qr4:List (Nat × List Nat × List Nat):=[(6,[3,4,13,14],[3,4])]
def qee (P:Program) (w0:World) (R:Ko4) (k0:Ko2) (x3 x4 x13 x14:Value):Hp→Prop:=
 qb (qd .lss x14 (.int .i64 16)) λ d=>
 qt d (
 qb (q5m false 16 1 x13 x14) λ b=>
 qb (q05 b) λ e=>
 q0j [(0,1,false,e)] (q00 [(.int .i64 0)] 1) 1 1 λ g=>
 q0h w0 1 8 x3 g λ c=>
 qb (q05 b) λ i=>
 qb (qd .gtr i (.int .i64 0)) λ j=>
 qt j (
 qb (qd .add x14 (.int .i64 1)) λ l=>
 qb (qd .add x14 (.int .i64 1)) λ o=>
 R c l x13 o) (
 qb (qd .add x14 (.int .i64 1)) λ s=>
 R c x4 x13 s)) (
 k0 x3 x4)
def q8d (P:Program) (w0:World) (k0:Ko2):Nat→Value→Value→Value→Value→Hp→Prop
 | 0,_,_,_,_=>λ _=>False
 | m + 1,x3,x4,x13,x14=>qee P w0 (q8d P w0 k0 m) k0 x3 x4 x13 x14
def qr3 (k0:Ko2) (x3 x4 x13 x14:Value):Hp→Prop:=λ h=>∃ m,q8d P w0 k0 m x3 x4 x13 x14 h
def qj4 (a0:Value) (R:qh):Hp→Prop:=
 qi P w0 q5e [a0] λ b=>
 qb (unA .not b) λ c=>
 qt c (
 qo [(.slice none 0 0)] R) (
 q02 a0 λ d=>
 qk d 4 λ e=>
 qw w0 e 16 λ g=>
 qr3 P w0 (λ i j=>
 q1e 1 i none (some j) none λ l=>
 qo [l] R) (.slice none 0 0) (.int .i64 0) g (.int .i64 0))
def qrk (w0:World) (k0:Ko2) (m:Nat) (x3 x4 x13 x14:Value):Hp→Prop:=q0p (stepL ⟨prog,w0,32,qr4⟩ (drw w0 32) (q0v qra 0)) m (q0s [(3,x3),(4,x4),(13,x13),(14,x14)]) [λ t=>k0 (t 3) (t 4)]
theorem q04w (w0:World) (k0:Ko2):∀ m,qrk w0 k0 m=q8d prog w0 k0 m:=by
 intro m
 induction m with
 | zero=>kernel_rfl
 | succ m ih=>
  show _=λ x3 x4 x13 x14=>qee prog w0 (q8d prog w0 k0 m) k0 x3 x4 x13 x14
  rw [← ih]
  kernel_rfl
theorem q04r (w0:World):qr3 prog w0=λ k0 x3 x4 x13 x14 h=>∃ m,qrk w0 k0 m x3 x4 x13 x14 h:=by
 funext k0 x3 x4 x13 x14 h
 simp only [q04w]
 rfl
theorem q07t {w0:World} {a0:Value} (hj:∀ v,v∈[a0]→v≠junk) (hv:qj4 prog w0 a0 R h):qf prog w0 qa2 [a0] h R:=
 q03 qra qr4 32 (by kernel_rfl) (by kernel_rfl) (by simp) hj (by
  unfold qj4
  rw [q04r w0]
  kernel_rfl) hv
abbrev q087:Func:=f28
def q08b:List (Nat × List Nat × List Nat):=[]
def qsi (a0 a1:Value) (R:qh):Hp→Prop:=
 qi P w0 q5e [a0] λ e=>
 qb (unA .not e) λ g=>
 qt g (
 qo [(.string .empty),(.bool false)] R) (
 qi P w0 qiv [a0,a1] λ d=>
 qb (q0g d 0) λ i=>
 qb (q0g d 1) λ j=>
 q0u [(.string .empty),(.string .empty),(.bool false)] 3 λ c=>
 q0k w0 c i 3 λ _=>
 qc (qk c 1) λ l=>
 qz (qg w0 l) λ o=>
 qc (λ K=>K j) λ s=>
 qc (λ K=>K s) λ b=>
 qc (qe b true (qk c 2)) λ u=>
 qz (qe b true (qg w0 u)) λ v=>
 qc (qe b true (qb (unA .not v))) λ z=>
 qc (q0a b z (.bool false)) λ ba=>
 qc (λ K=>K o) λ bb=>
 qc (λ K=>K ba) λ bc=>
 q0y (
 qo [bb,bc] R))
theorem q08q {w0:World} {a0 a1:Value} (hj:∀ v,v∈[a0,a1]→v≠junk) (hv:qsi prog w0 a0 a1 R h):qf prog w0 qes [a0,a1] h R:=
 q03 q087 q08b 25 (by kernel_rfl) (by kernel_rfl) (by simp) hj (by
  kernel_rfl) hv
abbrev q06s:Func:=f31
def q06w:List (Nat × List Nat × List Nat):=[]
def qsb (P:Program) (w0:World) (a0 a1 a2:Value) (R:qh):Hp→Prop:=
 q15 false 1 a0 λ b=>
 q15 false 1 a1 λ c=>
 q15 false 1 a2 λ d=>
 q58 qa0 [] [b,c,d] λ e=>
 qo [e] R
theorem q08a {w0:World} {a0 a1 a2:Value} (hj:∀ v,v∈[a0,a1,a2]→v≠junk) (hv:qsb prog w0 a0 a1 a2 R h):qf prog w0 qej [a0,a1,a2] h R:=
 q03 q06s q06w 8 (by kernel_rfl) (by kernel_rfl) (by simp) hj (by
  kernel_rfl) hv
abbrev qtu:Func:=f32
def qtr:List (Nat × List Nat × List Nat):=[(6,[2,4,5,6,8,22,23,24],[2,4,5,6,8])]
def qf7 (R:Ko8) (k0 kr:Ko5) (x2 x4 x5 x6 x8 x22 x23 x24:Value):Hp→Prop:=
 qb (qd .lss x24 x23) λ c=>
 qt c (
 q04 3 x22 x24 λ d=>
 qw w0 d 3 λ e=>
 q0u [(.string .empty),(.string .empty),(.bool false)] 3 λ b=>
 q0k w0 b e 3 λ _=>
 qw w0 b 3 λ g=>
 q0j [(0,3,true,g)] (q00 [(.string .empty),(.string .empty),(.bool false)] 1) 1 3 λ i=>
 qi P w0 qfw [i] λ j=>
 qb (qd .neq j (.int .i64 0)) λ l=>
 qt l (
 kr x2 (.pointer none) (.int .i64 120) x6 x8) (
 qk b 2 λ o=>
 qg w0 o λ s=>
 qt s (
 qk b 0 λ u=>
 qg w0 u λ v=>
 qi P w0 qf6 [x8,v] λ bf=>
 qb (qd .add x24 (.int .i64 1)) λ z=>
 R x2 x4 x5 x6 x8 x22 x23 z) (
 qk b 0 λ ba=>
 qg w0 ba λ bb=>
 qk b 1 λ bc=>
 qg w0 bc λ bd=>
 qi P w0 qfh [x8,bb,bd] λ bg=>
 qb (qd .add x24 (.int .i64 1)) λ be=>
 R x2 x4 x5 x6 x8 x22 x23 be))) (
 k0 x2 x4 x5 x6 x8)
def q8q (P:Program) (w0:World) (k0 kr:Ko5):Nat→Value→Value→Value→Value→Value→Value→Value→Value→Hp→Prop
 | 0,_,_,_,_,_,_,_,_=>λ _=>False
 | m + 1,x2,x4,x5,x6,x8,x22,x23,x24=>qf7 P w0 (q8q P w0 k0 kr m) k0 kr x2 x4 x5 x6 x8 x22 x23 x24
def qtx (k0 kr:Ko5) (x2 x4 x5 x6 x8 x22 x23 x24:Value):Hp→Prop:=λ h=>∃ m,q8q P w0 k0 kr m x2 x4 x5 x6 x8 x22 x23 x24 h
def qtt (P:Program) (w0:World) (b:Nat) (g:Lp) (K:qh) (x11 y47:Value):Hp→Prop:=
 q0u [(.string .empty),(.string .empty),(.bool false)] 3 λ c=>
 q0k w0 c y47 3 λ _=>
 q6h b g (
 qk c 2 λ d=>
 qg w0 d λ e=>
 qb (unA .not e) λ i=>
 qt i (
 qg w0 x11 λ j=>
 qw w0 c 3 λ l=>
 q0j [(0,3,true,l)] (q00 [(.string .empty),(.string .empty),(.bool false)] 1) 1 3 λ o=>
 q0h w0 3 40 j o λ s=>
 q0q w0 x11 s λ _=>
 q24 b g none K) (
 q24 b g none K))
def qk7 (a0 a1:Value) (R:qh):Hp→Prop:=
 λ h0=>(q15 true 3 a0 λ e=>
 qw w0 e 3 λ l=>
 qi P w0 qft [l] λ i=>
 qb (q0g i 0) λ o=>
 qb (q0g i 1) λ j=>
 qb (qd .neq j (.int .i64 0)) λ s=>
 qt s (
 q2e h0 (
 qo [(.pointer none),j] R)) (
 qi P w0 qfm [] λ u=>
 qb (q05 a1) λ v=>
 qtx P w0 (λ z bq br c ba=>
 q0u [(.slice none 0 0)] 1 λ d=>
 qi P w0 qa9 [ba] λ bb=>
 q3j P w0 bb 1 (λ b g args K=>qtt P w0 b g K d (args.getD 0 undef)) (
 qg w0 d λ bc=>
 qb (q05 bc) λ bd=>
 qb (qd .gtr bd (.int .i64 0)) λ be=>
 qt be (
 qc (λ K=>K c) λ bf=>
 qz (qg w0 d) λ bg=>
 qc (qk z 0) λ bh=>
 qz (qg w0 bh) λ bi=>
 qc (q02 bf) λ bj=>
 qc (qk bj 4) λ bk=>
 q0d [
 (qi P w0 qbt [bg,bi] λ bl=>
 q0c [] (
 q0d [
 (q0j [(0,1,false,bl)] (q00 [(.pointer none)] 1) 1 1 λ bm=>
 q0c [] (
 qc (q3i 16 1 bk (.int .i64 0)) λ bn=>
 q0d [
 (q0q w0 bn bm λ _=>
 q0c [] (
 q0y (
 q2e h0 (
 qo [c,(.int .i64 0)] R))))]))]))]) (
 q2e h0 (
 qo [c,(.int .i64 0)] R))) []) (λ bs bo bp bt bu=>
 q2e h0 (
 qo [bo,bp] R)) e (.pointer none) (.int .i64 0) o u a1 v (.int .i64 0))) h0
def qtp (w0:World) (k0 kr:Ko5) (m:Nat) (x2 x4 x5 x6 x8 x22 x23 x24:Value):Hp→Prop:=q0p (qh3 ⟨prog,w0,68,qtr⟩ (drw w0 68) (q0v qtu 0)) m (q0s [(2,x2),(4,x4),(5,x5),(6,x6),(8,x8),(22,x22),(23,x23),(24,x24)]) [λ t=>k0 (t 2) (t 4) (t 5) (t 6) (t 8),λ t=>kr (t 2) (t 4) (t 5) (t 6) (t 8)]
theorem q07e (w0:World) (k0 kr:Ko5):∀ m,qtp w0 k0 kr m=q8q prog w0 k0 kr m:=by
 intro m
 induction m with
 | zero=>kernel_rfl
 | succ m ih=>
  show _=λ x2 x4 x5 x6 x8 x22 x23 x24=>qf7 prog w0 (q8q prog w0 k0 kr m) k0 kr x2 x4 x5 x6 x8 x22 x23 x24
  rw [← ih]
  kernel_rfl
theorem q080 (w0:World):qtx prog w0=λ k0 kr x2 x4 x5 x6 x8 x22 x23 x24 h=>∃ m,qtp w0 k0 kr m x2 x4 x5 x6 x8 x22 x23 x24 h:=by
 funext k0 kr x2 x4 x5 x6 x8 x22 x23 x24 h
 simp only [q07e]
 rfl
theorem q0bj {w0:World} {a0 a1:Value} (hj:∀ v,v∈[a0,a1]→v≠junk) (hv:qk7 prog w0 a0 a1 R h):qf prog w0 qk5 [a0,a1] h R:=
 qaz qtu qtr 68 (by kernel_rfl) (by kernel_rfl) (by simp) hj (by
  unfold qk7
  rw [q080 w0]
  kernel_rfl) hv
abbrev q0ei:Func:=f34
def q0ea:List (Nat × List Nat × List Nat):=[]
def qw0 (a0:Value) (R:qh):Hp→Prop:=
 q15 true 3 a0 λ b=>
 qw w0 b 3 λ d=>
 qi P w0 ql4 [d] λ e=>
 qb (unA .not e) λ g=>
 qt g (
 qo [(.pointer none),(.int .i64 140)] R) (
 qz (qw w0 b 3) λ c=>
 q0d [
 (qi P w0 qfm [] λ i=>
 q0c [(q26 (qw w0 b 3) c)] (
 q0d [
 (q1t [(0,3,true,c),(3,1,false,i)] [(.int .i64 0),(.int .i64 0),(.int .i64 0),(.pointer none),(.slice none 0 0),(.slice none 0 0),(.slice none 0 0),(.slice none 0 0),(.slice none 0 0),(.slice none 0 0),(.slice none 0 0),(.slice none 0 0),(.slice none 0 0),(.slice none 0 0),(.slice none 0 0),(.slice none 0 0),(.slice none 0 0),(.slice none 0 0),(.slice none 0 0),(.slice none 0 0)] λ j=>
 q0c [] (
 q0d [
 (q15 true 20 j λ l=>
 q0c [] (
 qc (λ K=>K l) λ o=>
 qc (λ K=>K (.int .i64 0)) λ s=>
 q0y (
 qo [o,s] R)))]))]))])
theorem q0fv {w0:World} {a0:Value} (hj:∀ v,v∈[a0]→v≠junk) (hv:qw0 prog w0 a0 R h):qf prog w0 qft [a0] h R:=
 q03 q0ei q0ea 11 (by kernel_rfl) (by kernel_rfl) (by simp) hj (by
  kernel_rfl) hv
abbrev q081:Func:=f36
def q08f:List (Nat × List Nat × List Nat):=[]
def qsx (a0 a1:Value) (R:qh):Hp→Prop:=
 qi P w0 q5e [a0] λ e=>
 qb (unA .not e) λ g=>
 qt g (
 qo [(.int .i64 6)] R) (
 q02 a0 λ i=>
 qk i 3 λ j=>
 qg w0 j λ l=>
 q1n P w0 a1 [l] λ b=>
 qb (qd .neq b (.int .i64 0)) λ o=>
 qt o (
 qo [b] R) (
 qc (λ K=>K a0) λ s=>
 qc (q02 s) λ u=>
 qc (qk u 3) λ v=>
 qz (qg w0 v) λ z=>
 qc (λ K=>K a0) λ ba=>
 qc (q02 ba) λ bb=>
 qc (qk bb 0) λ bc=>
 qc (qk bc 2) λ c=>
 qz (qg w0 c) λ d=>
 q0d [
 (qi P w0 qfg [z] λ bd=>
 q0c [(q26 (qg w0 c) d)] (
 qc (qb (qd .geq bd d)) λ be=>
 q0y (
 qt be (
 qi P w0 qj1 [a0] λ bf=>
 qo [(.int .i64 0)] R) (
 qo [(.int .i64 0)] R))))]))
theorem q09h {w0:World} {a0 a1:Value} (hj:∀ v,v∈[a0,a1]→v≠junk) (hv:qsx prog w0 a0 a1 R h):qf prog w0 qev [a0,a1] h R:=
 q03 q081 q08f 31 (by kernel_rfl) (by kernel_rfl) (by simp) hj (by
  kernel_rfl) hv
abbrev q05b:Func:=f37
def q05g:List (Nat × List Nat × List Nat):=[]
def qqg (a0 a1 a2:Value) (R:qh):Hp→Prop:=
 qg w0 a1 λ b=>
 qg w0 a2 λ c=>
 qi P w0 qfh [a0,b,c] λ d=>
 qo [d] R
theorem q06a {w0:World} {a0 a1 a2:Value} (hj:∀ v,v∈[a0,a1,a2]→v≠junk) (hv:qqg prog w0 a0 a1 a2 R h):qf prog w0 qis [a0,a1,a2] h R:=
 q03 q05b q05g 9 (by kernel_rfl) (by kernel_rfl) (by simp) hj (by
  kernel_rfl) hv
abbrev q04g:Func:=f39
def q047:List (Nat × List Nat × List Nat):=[]
def qpn (a0 a1:Value) (R:qh):Hp→Prop:=
 qg w0 a1 λ b=>
 qi P w0 qf6 [a0,b] λ c=>
 qo [c] R
theorem q04o {w0:World} {a0 a1:Value} (hj:∀ v,v∈[a0,a1]→v≠junk) (hv:qpn prog w0 a0 a1 R h):qf prog w0 qig [a0,a1] h R:=
 q03 q04g q047 7 (by kernel_rfl) (by kernel_rfl) (by simp) hj (by
  kernel_rfl) hv
abbrev q06u:Func:=f41
def q079:List (Nat × List Nat × List Nat):=[]
def qrx (P:Program) (w0:World) (a0:Value) (R:qh):Hp→Prop:=
 qb (q1g .neq a0 (.pointer none)) λ b=>
 qe b true (λ K=>K a0) λ c=>
 qe b true (q02 c) λ d=>
 qe b true (qk d 3) λ e=>
 qe b true (qg w0 e) λ g=>
 qe b true (qb (q1g .neq g (.pointer none))) λ i=>
 q0a b i (.bool false) λ j=>
 qo [j] R
theorem q07h {w0:World} {a0:Value} (hj:∀ v,v∈[a0]→v≠junk) (hv:qrx prog w0 a0 R h):qf prog w0 q5e [a0] h R:=
 q03 q06u q079 12 (by kernel_rfl) (by kernel_rfl) (by simp) hj (by
  kernel_rfl) hv
abbrev q0cf:Func:=f45
def q0ca:List (Nat × List Nat × List Nat):=[]
def qug (a0 a1:Value) (R:qh):Hp→Prop:=
 qi P w0 qfv [a0,a1] λ b=>
 qb (q0g b 0) λ d=>
 qb (q0g b 1) λ g=>
 qi P w0 qlf [d] λ c=>
 qb (q0g c 0) λ e=>
 qb (q0g c 1) λ i=>
 qo [e] R
theorem q0d9 {w0:World} {a0 a1:Value} (hj:∀ v,v∈[a0,a1]→v≠junk) (hv:qug prog w0 a0 a1 R h):qf prog w0 qbt [a0,a1] h R:=
 q03 q0cf q0ca 21 (by kernel_rfl) (by kernel_rfl) (by simp) hj (by
  kernel_rfl) hv
abbrev qqw:Func:=f49
def qr9:List (Nat × List Nat × List Nat):=[(2,[0,2,3,9,10],[2,3])]
def qeg (P:Program) (w0:World) (R:Ko5) (k0 kr:Ko2) (x0 x2 x3 x9 x10:Value):Hp→Prop:=
 qb (qd .lss x10 (.int .i64 16)) λ b=>
 qt b (
 qb (q5m false 16 1 x9 x10) λ c=>
 qb (q05 c) λ d=>
 q02 x0 λ e=>
 qk e 0 λ g=>
 qk g 1 λ i=>
 qg w0 i λ j=>
 qb (qd .geq d j) λ l=>
 qt l (
 kr x10 (.bool true)) (
 qb (qd .add x10 (.int .i64 1)) λ o=>
 R x0 x2 x3 x9 o)) (
 k0 x2 x3)
def q8e (P:Program) (w0:World) (k0 kr:Ko2):Nat→Value→Value→Value→Value→Value→Hp→Prop
 | 0,_,_,_,_,_=>λ _=>False
 | m + 1,x0,x2,x3,x9,x10=>qeg P w0 (q8e P w0 k0 kr m) k0 kr x0 x2 x3 x9 x10
def qqt (k0 kr:Ko2) (x0 x2 x3 x9 x10:Value):Hp→Prop:=λ h=>∃ m,q8e P w0 k0 kr m x0 x2 x3 x9 x10 h
def qj8 (a0:Value) (R:qh):Hp→Prop:=
 q02 a0 λ b=>
 qk b 4 λ c=>
 qw w0 c 16 λ d=>
 qqt P w0 (λ i j=>
 qo [(.int .i64 0),(.bool false)] R) (λ e g=>
 qo [e,g] R) a0 (.int .i64 0) (.bool false) d (.int .i64 0)
def qrm (w0:World) (k0 kr:Ko2) (m:Nat) (x0 x2 x3 x9 x10:Value):Hp→Prop:=q0p (stepL ⟨prog,w0,24,qr9⟩ (drw w0 24) (q0v qqw 0)) m (q0s [(0,x0),(2,x2),(3,x3),(9,x9),(10,x10)]) [λ t=>k0 (t 2) (t 3),λ t=>kr (t 2) (t 3)]
theorem q04y (w0:World) (k0 kr:Ko2):∀ m,qrm w0 k0 kr m=q8e prog w0 k0 kr m:=by
 intro m
 induction m with
 | zero=>kernel_rfl
 | succ m ih=>
  show _=λ x0 x2 x3 x9 x10=>qeg prog w0 (q8e prog w0 k0 kr m) k0 kr x0 x2 x3 x9 x10
  rw [← ih]
  kernel_rfl
theorem q050 (w0:World):qqt prog w0=λ k0 kr x0 x2 x3 x9 x10 h=>∃ m,qrm w0 k0 kr m x0 x2 x3 x9 x10 h:=by
 funext k0 kr x0 x2 x3 x9 x10 h
 simp only [q04y]
 rfl
theorem q08c {w0:World} {a0:Value} (hj:∀ v,v∈[a0]→v≠junk) (hv:qj8 prog w0 a0 R h):qf prog w0 qjf [a0] h R:=
 q03 qqw qr9 24 (by kernel_rfl) (by kernel_rfl) (by simp) hj (by
  unfold qj8
  rw [q050 w0]
  kernel_rfl) hv
abbrev q04s:Func:=f51
def q04z:List (Nat × List Nat × List Nat):=[]
def qpw (P:Program) (w0:World) (a0:Value) (R:qh):Hp→Prop:=
 qb (q05 a0) λ b=>
 qb (qd .gtr b (.int .i64 0)) λ c=>
 qo [c] R
theorem q05t {w0:World} {a0:Value} (hj:∀ v,v∈[a0]→v≠junk) (hv:qpw prog w0 a0 R h):qf prog w0 qbd [a0] h R:=
 q03 q04s q04z 6 (by kernel_rfl) (by kernel_rfl) (by simp) hj (by
  kernel_rfl) hv
abbrev qqo:Func:=f62
def qqi:List (Nat × List Nat × List Nat):=[(3,[3,9,10],[3])]
def qe8 (P:Program) (w0:World) (R:Ko3) (k0:Ko1) (x3 x9 x10:Value):Hp→Prop:=
 qb (qd .lss x10 (.int .i64 16)) λ b=>
 qt b (
 qb (q5m false 16 1 x9 x10) λ c=>
 q0h w0 1 8 x3 c λ d=>
 qb (qd .add x10 (.int .i64 1)) λ e=>
 R d x9 e) (
 k0 x3)
def q87 (P:Program) (w0:World) (k0:Ko1):Nat→Value→Value→Value→Hp→Prop
 | 0,_,_,_=>λ _=>False
 | m + 1,x3,x9,x10=>qe8 P w0 (q87 P w0 k0 m) k0 x3 x9 x10
def qqj (k0:Ko1) (x3 x9 x10:Value):Hp→Prop:=λ h=>∃ m,q87 P w0 k0 m x3 x9 x10 h
def qj0 (a0:Value) (R:qh):Hp→Prop:=
 q02 a0 λ b=>
 qk b 4 λ c=>
 qw w0 c 16 λ d=>
 qqj P w0 (λ e=>
 qo [e] R) (.slice none 0 0) d (.int .i64 0)
def qqp (w0:World) (k0:Ko1) (m:Nat) (x3 x9 x10:Value):Hp→Prop:=q0p (stepL ⟨prog,w0,18,qqi⟩ (drw w0 18) (q0v qqo 0)) m (q0s [(3,x3),(9,x9),(10,x10)]) [λ t=>k0 (t 3)]
theorem q04k (w0:World) (k0:Ko1):∀ m,qqp w0 k0 m=q87 prog w0 k0 m:=by
 intro m
 induction m with
 | zero=>kernel_rfl
 | succ m ih=>
  show _=λ x3 x9 x10=>qe8 prog w0 (q87 prog w0 k0 m) k0 x3 x9 x10
  rw [← ih]
  kernel_rfl
theorem q04h (w0:World):qqj prog w0=λ k0 x3 x9 x10 h=>∃ m,qqp w0 k0 m x3 x9 x10 h:=by
 funext k0 x3 x9 x10 h
 simp only [q04k]
 rfl
theorem q071 {w0:World} {a0:Value} (hj:∀ v,v∈[a0]→v≠junk) (hv:qj0 prog w0 a0 R h):qf prog w0 qiy [a0] h R:=
 q03 qqo qqi 18 (by kernel_rfl) (by kernel_rfl) (by simp) hj (by
  unfold qj0
  rw [q04h w0]
  kernel_rfl) hv
abbrev qil:Func:=f81
def qin:List (Nat × List Nat × List Nat):=[(5,[1,4,5,28,29],[4,5]),(8,[1,4,5,28,29,32,33,34],[1,4,5,28,29])]
def qe4 (R:Ko8) (k2 kr:Ko5) (x1 x4 x5 x28 x29 x32 x33 x34:Value):Hp→Prop:=
 qb (qd .lss x34 x33) λ d=>
 qt d (
 q04 1 x32 x34 λ e=>
 qg w0 e λ g=>
 qi P w0 qkc [g,x1] λ b=>
 qb (q0g b 0) λ i=>
 qb (q0g b 1) λ j=>
 q0u [(.string .empty),(.string .empty),(.bool false)] 3 λ c=>
 q0k w0 c i 3 λ _=>
 qt j (
 qw w0 c 3 λ l=>
 q0k w0 x4 l 3 λ _=>
 kr x1 x4 (.bool true) x28 x29) (
 qb (qd .add x34 (.int .i64 1)) λ o=>
 R x1 x4 x5 x28 x29 x32 x33 o)) (
 k2 x1 x4 x5 x28 x29)
def q81 (P:Program) (w0:World) (k2 kr:Ko5):Nat→Value→Value→Value→Value→Value→Value→Value→Value→Hp→Prop
 | 0,_,_,_,_,_,_,_,_=>λ _=>False
 | m + 1,x1,x4,x5,x28,x29,x32,x33,x34=>qe4 P w0 (q81 P w0 k2 kr m) k2 kr x1 x4 x5 x28 x29 x32 x33 x34
def qq2 (k2 kr:Ko5) (x1 x4 x5 x28 x29 x32 x33 x34:Value):Hp→Prop:=λ h=>∃ m,q81 P w0 k2 kr m x1 x4 x5 x28 x29 x32 x33 x34 h
def qbc (R:Ko5) (k0 kr:Ko2) (x1 x4 x5 x28 x29:Value):Hp→Prop:=
 qb (qd .lss x29 (.int .i64 16)) λ c=>
 qt c (
 qb (q5m false 16 1 x28 x29) λ b=>
 qb (q05 b) λ d=>
 qq2 P w0 (λ e g i j l=>
 qb (qd .add l (.int .i64 1)) λ o=>
 R e g i j o) (λ v s u z ba=>
 kr s u) x1 x4 x5 x28 x29 b d (.int .i64 0)) (
 k0 x4 x5)
def q82 (P:Program) (w0:World) (k0 kr:Ko2):Nat→Value→Value→Value→Value→Value→Hp→Prop
 | 0,_,_,_,_,_=>λ _=>False
 | m + 1,x1,x4,x5,x28,x29=>qbc P w0 (q82 P w0 k0 kr m) k0 kr x1 x4 x5 x28 x29
def qpy (k0 kr:Ko2) (x1 x4 x5 x28 x29:Value):Hp→Prop:=λ h=>∃ m,q82 P w0 k0 kr m x1 x4 x5 x28 x29 h
def qit (a0 a1:Value) (R:qh):Hp→Prop:=
 q0u [(.string .empty),(.string .empty),(.bool false)] 3 λ b=>
 q02 a0 λ g=>
 qk g 3 λ i=>
 qg w0 i λ j=>
 qi P w0 qke [j,a1] λ c=>
 qb (q0g c 0) λ l=>
 qb (q0g c 1) λ o=>
 q0u [(.string .empty),(.string .empty),(.bool false)] 3 λ d=>
 q0k w0 d l 3 λ _=>
 qt o (
 qw w0 d 3 λ s=>
 q0k w0 b s 3 λ _=>
 qw w0 b 3 λ u=>
 qo [u,(.bool true)] R) (
 q02 a0 λ v=>
 qk v 4 λ z=>
 qw w0 z 16 λ ba=>
 qpy P w0 (λ e bg=>
 q1t [] [(.string .empty),(.string .empty),(.bool false)] λ bb=>
 q0k w0 e bb 3 λ _=>
 qw w0 e 3 λ bc=>
 qo [bc,(.bool false)] R) (λ bd be=>
 qw w0 bd 3 λ bf=>
 qo [bf,be] R) a1 b (.bool false) ba (.int .i64 0))
def qpz (w0:World) (k2 kr:Ko5) (m:Nat) (x1 x4 x5 x28 x29 x32 x33 x34:Value):Hp→Prop:=q0p (stepL ⟨prog,w0,49,qin⟩ (drw w0 49) (q0v qil 1)) m (q0s [(1,x1),(4,x4),(5,x5),(28,x28),(29,x29),(32,x32),(33,x33),(34,x34)]) [λ t=>k2 (t 1) (t 4) (t 5) (t 28) (t 29),λ t=>kr (t 1) (t 4) (t 5) (t 28) (t 29)]
theorem q04d (w0:World) (k2 kr:Ko5):∀ m,qpz w0 k2 kr m=q81 prog w0 k2 kr m:=by
 intro m
 induction m with
 | zero=>kernel_rfl
 | succ m ih=>
  show _=λ x1 x4 x5 x28 x29 x32 x33 x34=>qe4 prog w0 (q81 prog w0 k2 kr m) k2 kr x1 x4 x5 x28 x29 x32 x33 x34
  rw [← ih]
  kernel_rfl
theorem q048 (w0:World):qq2 prog w0=λ k2 kr x1 x4 x5 x28 x29 x32 x33 x34 h=>∃ m,qpz w0 k2 kr m x1 x4 x5 x28 x29 x32 x33 x34 h:=by
 funext k2 kr x1 x4 x5 x28 x29 x32 x33 x34 h
 simp only [q04d]
 rfl
def qq4 (w0:World) (k0 kr:Ko2) (m:Nat) (x1 x4 x5 x28 x29:Value):Hp→Prop:=q0p (stepL ⟨prog,w0,49,qin⟩ (drw w0 49) (q0v qil 0)) m (q0s [(1,x1),(4,x4),(5,x5),(28,x28),(29,x29)]) [λ t=>k0 (t 4) (t 5),λ t=>kr (t 4) (t 5)]
theorem q049 (w0:World) (k0 kr:Ko2):∀ m,qq4 w0 k0 kr m=q82 prog w0 k0 kr m:=by
 intro m
 induction m with
 | zero=>kernel_rfl
 | succ m ih=>
  show _=λ x1 x4 x5 x28 x29=>qbc prog w0 (q82 prog w0 k0 kr m) k0 kr x1 x4 x5 x28 x29
  rw [← ih]
  unfold qbc
  rw [q048 w0]
  kernel_rfl
theorem q04e (w0:World):qpy prog w0=λ k0 kr x1 x4 x5 x28 x29 h=>∃ m,qq4 w0 k0 kr m x1 x4 x5 x28 x29 h:=by
 funext k0 kr x1 x4 x5 x28 x29 h
 simp only [q049]
 rfl
theorem q062 {w0:World} {a0 a1:Value} (hj:∀ v,v∈[a0,a1]→v≠junk) (hv:qit prog w0 a0 a1 R h):qf prog w0 qiv [a0,a1] h R:=
 q03 qil qin 49 (by kernel_rfl) (by kernel_rfl) (by simp) hj (by
  unfold qit
  rw [q04e w0]
  kernel_rfl) hv
abbrev qpr:Func:=f82
def qpu:List (Nat × List Nat × List Nat):=[(2,[0,13,14,15],[])]
def qe2 (R:Ko4) (k0:Hp→Prop) (kr:Hp→Prop) (x0 x13 x14 x15:Value):Hp→Prop:=
 qb (qd .lss x15 x14) λ d=>
 qt d (
 q04 4 x13 x15 λ e=>
 qw w0 e 4 λ g=>
 q0u [(.string .empty),(.string .empty),(.string .empty),(.bool false)] 4 λ c=>
 q0k w0 c g 4 λ _=>
 qk c 1 λ i=>
 qk i 2 λ j=>
 qg w0 j λ l=>
 qb (unA .not l) λ b=>
 qe b true (λ K=>K x0) λ o=>
 qe b true (qk c 0) λ s=>
 qe b true (qg w0 s) λ u=>
 qe b true (qk c 1) λ v=>
 qe b true (qk v 1) λ z=>
 qe b true (qg w0 z) λ ba=>
 qe b true (q1n P w0 o [u,ba]) λ bb=>
 qe b true (qb (unA .not bb)) λ bc=>
 q0a b bc (.bool false) λ bd=>
 qt bd (
 kr) (
 qb (qd .add x15 (.int .i64 1)) λ be=>
 R x0 x13 x14 be)) (
 k0)
def q80 (P:Program) (w0:World) (k0:Hp→Prop) (kr:Hp→Prop):Nat→Value→Value→Value→Value→Hp→Prop
 | 0,_,_,_,_=>λ _=>False
 | m + 1,x0,x13,x14,x15=>qe2 P w0 (q80 P w0 k0 kr m) k0 kr x0 x13 x14 x15
def qpt (k0:Hp→Prop) (kr:Hp→Prop) (x0 x13 x14 x15:Value):Hp→Prop:=λ h=>∃ m,q80 P w0 k0 kr m x0 x13 x14 x15 h
def qim (a0 a1 a2 a3:Value) (R:qh):Hp→Prop:=
 qg w0 a1 λ c=>
 qi P w0 q5e [c] λ d=>
 qb (unA .not d) λ e=>
 qt e (
 qo [] R) (
 qg w0 a1 λ g=>
 qg w0 a2 λ i=>
 qg w0 a3 λ j=>
 qi P w0 qjt [g,i,j] λ b=>
 qb (q05 b) λ l=>
 qpt P w0 (
 qo [] R) (
 qo [] R) a0 b l (.int .i64 0))
def qps (w0:World) (k0:Hp→Prop) (kr:Hp→Prop) (m:Nat) (x0 x13 x14 x15:Value):Hp→Prop:=q0p (stepL ⟨prog,w0,34,qpu⟩ (drw w0 34) (q0v qpr 0)) m (q0s [(0,x0),(13,x13),(14,x14),(15,x15)]) [λ t=>k0,λ t=>kr]
theorem q03x (w0:World) (k0:Hp→Prop) (kr:Hp→Prop):∀ m,qps w0 k0 kr m=q80 prog w0 k0 kr m:=by
 intro m
 induction m with
 | zero=>kernel_rfl
 | succ m ih=>
  show _=λ x0 x13 x14 x15=>qe2 prog w0 (q80 prog w0 k0 kr m) k0 kr x0 x13 x14 x15
  rw [← ih]
  kernel_rfl
theorem q043 (w0:World):qpt prog w0=λ k0 kr x0 x13 x14 x15 h=>∃ m,qps w0 k0 kr m x0 x13 x14 x15 h:=by
 funext k0 kr x0 x13 x14 x15 h
 simp only [q03x]
 rfl
theorem q059 {w0:World} {a0 a1 a2 a3:Value} (hj:∀ v,v∈[a0,a1,a2,a3]→v≠junk) (hv:qim prog w0 a0 a1 a2 a3 R h):qf prog w0 qa0 [a0,a1,a2,a3] h R:=
 q03 qpr qpu 34 (by kernel_rfl) (by kernel_rfl) (by simp) hj (by
  unfold qim
  rw [q043 w0]
  kernel_rfl) hv
abbrev qja:Func:=f83
def qjg:List (Nat × List Nat × List Nat):=[(5,[4,5,7,8,24,25],[7]),(8,[4,5,7,8,24,25,28,29,30],[4,5,7,8,24,25])]
def qeq (R:Ko9) (k2:Ko6) (x4 x5 x7 x8 x24 x25 x28 x29 x30:Value):Hp→Prop:=
 qb (qd .lss x30 x29) λ b=>
 qt b (
 q04 1 x28 x30 λ c=>
 qg w0 c λ d=>
 qg w0 x4 λ e=>
 qg w0 x5 λ g=>
 qi P w0 qfc [d,e,g] λ i=>
 q1n P w0 x8 [i] λ l=>
 qb (qd .add x30 (.int .i64 1)) λ j=>
 R x4 x5 x7 x8 x24 x25 x28 x29 j) (
 k2 x4 x5 x7 x8 x24 x25)
def q8h (P:Program) (w0:World) (k2:Ko6):Nat→Value→Value→Value→Value→Value→Value→Value→Value→Value→Hp→Prop
 | 0,_,_,_,_,_,_,_,_,_=>λ _=>False
 | m + 1,x4,x5,x7,x8,x24,x25,x28,x29,x30=>qeq P w0 (q8h P w0 k2 m) k2 x4 x5 x7 x8 x24 x25 x28 x29 x30
def qrq (k2:Ko6) (x4 x5 x7 x8 x24 x25 x28 x29 x30:Value):Hp→Prop:=λ h=>∃ m,q8h P w0 k2 m x4 x5 x7 x8 x24 x25 x28 x29 x30 h
def qbi (R:Ko6) (k0:Ko1) (x4 x5 x7 x8 x24 x25:Value):Hp→Prop:=
 qb (qd .lss x25 (.int .i64 16)) λ c=>
 qt c (
 qb (q5m false 16 1 x24 x25) λ b=>
 qb (q05 b) λ d=>
 qrq P w0 (λ e g i j l o=>
 qb (qd .add o (.int .i64 1)) λ s=>
 R e g i j l s) x4 x5 x7 x8 x24 x25 b d (.int .i64 0)) (
 k0 x7)
def q8k (P:Program) (w0:World) (k0:Ko1):Nat→Value→Value→Value→Value→Value→Value→Hp→Prop
 | 0,_,_,_,_,_,_=>λ _=>False
 | m + 1,x4,x5,x7,x8,x24,x25=>qbi P w0 (q8k P w0 k0 m) k0 x4 x5 x7 x8 x24 x25
def qse (k0:Ko1) (x4 x5 x7 x8 x24 x25:Value):Hp→Prop:=λ h=>∃ m,q8k P w0 k0 m x4 x5 x7 x8 x24 x25 h
def qjs (a0 a1 a2:Value) (R:qh):Hp→Prop:=
 q15 false 1 a1 λ b=>
 q15 false 1 a2 λ c=>
 q0u [(.slice none 0 0)] 1 λ d=>
 q58 q86 [] [b,c,d] λ e=>
 q02 a0 λ g=>
 qk g 3 λ i=>
 qg w0 i λ j=>
 qi P w0 qa9 [j] λ l=>
 q1n P w0 e [l] λ bb=>
 q02 a0 λ o=>
 qk o 4 λ s=>
 qw w0 s 16 λ u=>
 qse P w0 (λ v=>
 qg w0 v λ z=>
 qi P w0 qdq [z] λ ba=>
 qo [ba] R) b c d e u (.int .i64 0)
def qs1 (w0:World) (k2:Ko6) (m:Nat) (x4 x5 x7 x8 x24 x25 x28 x29 x30:Value):Hp→Prop:=q0p (stepL ⟨prog,w0,44,qjg⟩ (drw w0 44) (q0v qja 1)) m (q0s [(4,x4),(5,x5),(7,x7),(8,x8),(24,x24),(25,x25),(28,x28),(29,x29),(30,x30)]) [λ t=>k2 (t 4) (t 5) (t 7) (t 8) (t 24) (t 25)]
theorem q05h (w0:World) (k2:Ko6):∀ m,qs1 w0 k2 m=q8h prog w0 k2 m:=by
 intro m
 induction m with
 | zero=>kernel_rfl
 | succ m ih=>
  show _=λ x4 x5 x7 x8 x24 x25 x28 x29 x30=>qeq prog w0 (q8h prog w0 k2 m) k2 x4 x5 x7 x8 x24 x25 x28 x29 x30
  rw [← ih]
  kernel_rfl
theorem q058 (w0:World):qrq prog w0=λ k2 x4 x5 x7 x8 x24 x25 x28 x29 x30 h=>∃ m,qs1 w0 k2 m x4 x5 x7 x8 x24 x25 x28 x29 x30 h:=by
 funext k2 x4 x5 x7 x8 x24 x25 x28 x29 x30 h
 simp only [q05h]
 rfl
def qru (w0:World) (k0:Ko1) (m:Nat) (x4 x5 x7 x8 x24 x25:Value):Hp→Prop:=q0p (stepL ⟨prog,w0,44,qjg⟩ (drw w0 44) (q0v qja 0)) m (q0s [(4,x4),(5,x5),(7,x7),(8,x8),(24,x24),(25,x25)]) [λ t=>k0 (t 7)]
theorem q05k (w0:World) (k0:Ko1):∀ m,qru w0 k0 m=q8k prog w0 k0 m:=by
 intro m
 induction m with
 | zero=>kernel_rfl
 | succ m ih=>
  show _=λ x4 x5 x7 x8 x24 x25=>qbi prog w0 (q8k prog w0 k0 m) k0 x4 x5 x7 x8 x24 x25
  rw [← ih]
  unfold qbi
  rw [q058 w0]
  kernel_rfl
theorem q05d (w0:World):qse prog w0=λ k0 x4 x5 x7 x8 x24 x25 h=>∃ m,qru w0 k0 m x4 x5 x7 x8 x24 x25 h:=by
 funext k0 x4 x5 x7 x8 x24 x25 h
 simp only [q05k]
 rfl
theorem q09f {w0:World} {a0 a1 a2:Value} (hj:∀ v,v∈[a0,a1,a2]→v≠junk) (hv:qjs prog w0 a0 a1 a2 R h):qf prog w0 qjt [a0,a1,a2] h R:=
 q03 qja qjg 44 (by kernel_rfl) (by kernel_rfl) (by simp) hj (by
  unfold qjs
  rw [q05d w0]
  kernel_rfl) hv
abbrev q0dj:Func:=f88
def q0e4:List (Nat × List Nat × List Nat):=[]
def qvs (P:Program) (w0:World) (a0:Value) (R:qh):Hp→Prop:=
 q15 true 3 a0 λ b=>
 qk b 0 λ j=>
 qg w0 j λ l=>
 qb (qd .geq l (.int .i64 256)) λ c=>
 qe c true (qk b 0) λ o=>
 qe c true (qg w0 o) λ s=>
 qe c true (qb (qd .leq s (.int .i64 4096))) λ u=>
 q0a c u (.bool false) λ d=>
 qe d true (qk b 1) λ v=>
 qe d true (qg w0 v) λ z=>
 qe d true (qb (qd .geq z (.int .i64 2))) λ ba=>
 q0a d ba (.bool false) λ e=>
 qe e true (qk b 1) λ bb=>
 qe e true (qg w0 bb) λ bc=>
 qe e true (qb (qd .leq bc (.int .i64 16))) λ bd=>
 q0a e bd (.bool false) λ g=>
 qe g true (qk b 2) λ be=>
 qe g true (qg w0 be) λ bf=>
 qe g true (qb (qd .geq bf (.int .i64 1))) λ bg=>
 q0a g bg (.bool false) λ i=>
 qe i true (qk b 2) λ bh=>
 qe i true (qg w0 bh) λ bi=>
 qe i true (qb (qd .leq bi (.int .i64 4096))) λ bj=>
 q0a i bj (.bool false) λ bk=>
 qo [bk] R
theorem q0es {w0:World} {a0:Value} (hj:∀ v,v∈[a0]→v≠junk) (hv:qvs prog w0 a0 R h):qf prog w0 ql4 [a0] h R:=
 q03 q0dj q0e4 31 (by kernel_rfl) (by kernel_rfl) (by simp) hj (by
  kernel_rfl) hv
abbrev q05u:Func:=f129
def q05l:List (Nat × List Nat × List Nat):=[]
def qq0 (P:Program) (w0:World) (b:Nat) (g:Lp) (K:qh) (x1 x2 x5 y8:Value):Hp→Prop:=
 q0u [(.string .empty),(.string .empty),(.bool false)] 3 λ c=>
 q0k w0 c y8 3 λ _=>
 q6h b g (
 qk c 0 λ i=>
 qg w0 i λ j=>
 qg w0 x1 λ l=>
 qb (qd .geq j l) λ d=>
 qe d true (qg w0 x2) λ o=>
 qe d true (qb (qd .eql o (.string .empty))) λ s=>
 qe d true (λ K=>K s) λ e=>
 qe e false (qk c 0) λ u=>
 qe e false (qg w0 u) λ v=>
 qe e false (qg w0 x2) λ z=>
 qe e false (qb (qd .lss v z)) λ ba=>
 qe d true (q0a e (.bool true) ba) λ bb=>
 q0a d bb (.bool false) λ bc=>
 qt bc (
 qg w0 x5 λ bd=>
 qk c 0 λ be=>
 qg w0 be λ bf=>
 qw w0 c 3 λ bg=>
 q1t [(0,1,false,bf),(1,3,true,bg)] [(.string .empty),(.string .empty),(.string .empty),(.bool false)] λ bh=>
 q0j [(0,4,true,bh)] (q00 [(.string .empty),(.string .empty),(.string .empty),(.bool false)] 1) 1 4 λ bi=>
 q0h w0 4 56 bd bi λ bj=>
 q0q w0 x5 bj λ _=>
 q24 b g none K) (
 q24 b g none K))
def qqe (a0 a1 a2 a3:Value) (R:qh):Hp→Prop:=
 λ h0=>(q0u [(.slice none 0 0)] 1 λ c=>
 q3j P w0 a0 1 (λ b g args K=>qq0 P w0 b g K a1 a2 c (args.getD 0 undef)) (
 qg w0 a3 λ d=>
 qg w0 c λ e=>
 q0j [(0,1,false,e)] (q00 [(.slice none 0 0)] 1) 1 1 λ i=>
 q0h w0 1 24 d i λ j=>
 q0q w0 a3 j λ _=>
 q2e h0 (
 qo [] R)) []) h0
theorem q069 {w0:World} {a0 a1 a2 a3:Value} (hj:∀ v,v∈[a0,a1,a2,a3]→v≠junk) (hv:qqe prog w0 a0 a1 a2 a3 R h):qf prog w0 q86 [a0,a1,a2,a3] h R:=
 qaz q05u q05l 34 (by kernel_rfl) (by kernel_rfl) (by simp) hj (by
  kernel_rfl) hv
end
end Go.Proofs.YtfmoemconapmhaaGreat.Ah
