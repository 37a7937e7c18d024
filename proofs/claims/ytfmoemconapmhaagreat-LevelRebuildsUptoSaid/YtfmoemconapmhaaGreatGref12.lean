/- PRINTED by wip/tools/shallow.py: functions of the program as readable words, and that each is what its text says. -/
import Derived.Test.YtfmoemconapmhaaGreatGn
set_option linter.all false
namespace Go.Proofs.YtfmoemconapmhaaGreat.Ah
open Go Go.Proofs.Tryz
noncomputable section
variable (P:Program) (w0:World) {h:Hp} {R:qh}
abbrev q08y:Func:=f27
def q08r:List (Nat × List Nat × List Nat):=[]
def qtc (a0 a1:Value) (R:qh):Hp→Prop:=
 q15 true 3 a1 λ c=>
 qk c 0 λ g=>
 qg w0 g λ i=>
 qi P w0 qf2 [a0,i] λ d=>
 qb (q0g d 0) λ b=>
 qb (q0g d 1) λ j=>
 q0j [] (q00 [(.string .empty),(.string .empty),(.bool false)] 0) 0 3 λ l=>
 q1e 3 a0 none (some b) none λ o=>
 q0h w0 3 40 l o λ s=>
 qw w0 c 3 λ u=>
 q0j [(0,3,true,u)] (q00 [(.string .empty),(.string .empty),(.bool false)] 1) 1 3 λ v=>
 q0h w0 3 40 s v λ e=>
 qt j (
 qb (qd .add b (.int .i64 1)) λ z=>
 q1e 3 a0 (some z) none none λ ba=>
 q0h w0 3 40 e ba λ bb=>
 qo [bb] R) (
 q1e 3 a0 (some b) none none λ bc=>
 q0h w0 3 40 e bc λ bd=>
 qo [bd] R)
theorem q0a6 {w0:World} {a0 a1:Value} (hj:∀ v,v∈[a0,a1]→v≠junk) (hv:qtc prog w0 a0 a1 R h):qf prog w0 qf3 [a0,a1] h R:=
 q03 q08y q08r 32 (by kernel_rfl) (by kernel_rfl) (by simp) hj (by
  kernel_rfl) hv
abbrev qsm:Func:=f29
def qsr:List (Nat × List Nat × List Nat):=[(2,[0,1,4,5,8,9,10],[0,4,5])]
def qf0 (P:Program) (w0:World) (R:Ko7) (k0 kr:Ko3) (x0 x1 x4 x5 x8 x9 x10:Value):Hp→Prop:=
 qb (qd .lss x10 x9) λ c=>
 qt c (
 q04 3 x8 x10 λ d=>
 qw w0 d 3 λ e=>
 q0u [(.string .empty),(.string .empty),(.bool false)] 3 λ b=>
 q0k w0 b e 3 λ _=>
 qk b 0 λ g=>
 qg w0 g λ i=>
 qb (qd .geq i x1) λ j=>
 qt j (
 qc (λ K=>K x10) λ l=>
 qc (qk b 0) λ o=>
 qz (qg w0 o) λ s=>
 qc (λ K=>K x1) λ u=>
 qc (qb (qd .eql s u)) λ v=>
 qc (λ K=>K l) λ z=>
 qc (λ K=>K v) λ ba=>
 q0y (
 kr x0 z ba)) (
 qb (qd .add x10 (.int .i64 1)) λ bb=>
 R x0 x1 x4 x5 x8 x9 bb)) (
 k0 x0 x4 x5)
def q8m (P:Program) (w0:World) (k0 kr:Ko3):Nat→Value→Value→Value→Value→Value→Value→Value→Hp→Prop
 | 0,_,_,_,_,_,_,_=>λ _=>False
 | m + 1,x0,x1,x4,x5,x8,x9,x10=>qf0 P w0 (q8m P w0 k0 kr m) k0 kr x0 x1 x4 x5 x8 x9 x10
def qt5 (k0 kr:Ko3) (x0 x1 x4 x5 x8 x9 x10:Value):Hp→Prop:=λ h=>∃ m,q8m P w0 k0 kr m x0 x1 x4 x5 x8 x9 x10 h
def qjw (a0 a1:Value) (R:qh):Hp→Prop:=
 qb (q05 a0) λ b=>
 qt5 P w0 (λ c i j=>
 qb (q05 c) λ d=>
 qo [d,(.bool false)] R) (λ l e g=>
 qo [e,g] R) a0 a1 (.int .i64 0) (.bool false) a0 b (.int .i64 0)
def qt3 (w0:World) (k0 kr:Ko3) (m:Nat) (x0 x1 x4 x5 x8 x9 x10:Value):Hp→Prop:=q0p (stepL ⟨prog,w0,27,qsr⟩ (drw w0 27) (q0v qsm 0)) m (q0s [(0,x0),(1,x1),(4,x4),(5,x5),(8,x8),(9,x9),(10,x10)]) [λ t=>k0 (t 0) (t 4) (t 5),λ t=>kr (t 0) (t 4) (t 5)]
theorem q06d (w0:World) (k0 kr:Ko3):∀ m,qt3 w0 k0 kr m=q8m prog w0 k0 kr m:=by
 intro m
 induction m with
 | zero=>kernel_rfl
 | succ m ih=>
  show _=λ x0 x1 x4 x5 x8 x9 x10=>qf0 prog w0 (q8m prog w0 k0 kr m) k0 kr x0 x1 x4 x5 x8 x9 x10
  rw [← ih]
  kernel_rfl
theorem q06o (w0:World):qt5 prog w0=λ k0 kr x0 x1 x4 x5 x8 x9 x10 h=>∃ m,qt3 w0 k0 kr m x0 x1 x4 x5 x8 x9 x10 h:=by
 funext k0 kr x0 x1 x4 x5 x8 x9 x10 h
 simp only [q06d]
 rfl
theorem q0a7 {w0:World} {a0 a1:Value} (hj:∀ v,v∈[a0,a1]→v≠junk) (hv:qjw prog w0 a0 a1 R h):qf prog w0 qf2 [a0,a1] h R:=
 q03 qsm qsr 27 (by kernel_rfl) (by kernel_rfl) (by simp) hj (by
  unfold qjw
  rw [q06o w0]
  kernel_rfl) hv
abbrev qrr:Func:=f70
def qs6:List (Nat × List Nat × List Nat):=[(9,[0,1,7,8,9,10,31,32,33],[0,1,7,8,9])]
def qeo (R:Ko9) (k0:Ko5) (x0 x1 x7 x8 x9 x10 x31 x32 x33:Value):Hp→Prop:=
 qb (qd .lss x33 x32) λ c=>
 qt c (
 q04 1 x31 x33 λ d=>
 qg w0 d λ b=>
 q04 1 x10 x33 λ e=>
 qg w0 e λ g=>
 qi P w0 qk2 [g] λ i=>
 qb (q1d x7) λ j=>
 qb (q0t .u64 j) λ l=>
 qi P w0 q61 [l] λ o=>
 qb (qd .add i o) λ s=>
 qb (q1d b) λ u=>
 qb (q0t .u64 u) λ v=>
 qi P w0 q61 [v] λ z=>
 qb (qd .add s z) λ ba=>
 qb (qd .add x8 ba) λ bb=>
 qi P w0 q6z [b] λ bc=>
 qb (q0t .u64 bc) λ bd=>
 qi P w0 q45 [bd,(.int .i64 4)] λ be=>
 qb (qd .add b be) λ bf=>
 qb (qd .add x7 bf) λ bg=>
 qb (qd .add x33 (.int .i64 1)) λ bh=>
 R x0 x1 bg bb x9 x10 x31 x32 bh) (
 k0 x0 x1 x7 x8 x9)
def q8f (P:Program) (w0:World) (k0:Ko5):Nat→Value→Value→Value→Value→Value→Value→Value→Value→Value→Hp→Prop
 | 0,_,_,_,_,_,_,_,_,_=>λ _=>False
 | m + 1,x0,x1,x7,x8,x9,x10,x31,x32,x33=>qeo P w0 (q8f P w0 k0 m) k0 x0 x1 x7 x8 x9 x10 x31 x32 x33
def qs7 (k0:Ko5) (x0 x1 x7 x8 x9 x10 x31 x32 x33:Value):Hp→Prop:=λ h=>∃ m,q8f P w0 k0 m x0 x1 x7 x8 x9 x10 x31 x32 x33 h
def qjq (a0 a1:Value) (R:qh):Hp→Prop:=
 qb (qd .lss a1 (.int .i64 256)) λ b=>
 qe b false (λ K=>K a1) λ l=>
 qe b false (qb (qd .gtr l (.int .i64 4096))) λ o=>
 q0a b (.bool true) o λ s=>
 qt s (
 qo [(.string .empty),(.int .i64 1)] R) (
 qi P w0 qjm [a0] λ d=>
 qb (qd .neq d (.int .i64 0)) λ u=>
 qt u (
 qo [(.string .empty),d] R) (
 qi P w0 qj5 [a0,a1] λ e=>
 qb (q0g e 0) λ c=>
 qb (q0g e 1) λ v=>
 qb (q05 c) λ z=>
 qs7 P w0 (λ ba bb g i bc=>
 qb (q0t .u64 bb) λ bd=>
 qi P w0 q45 [bd,(.int .i64 4)] λ be=>
 qb (q05 ba) λ bf=>
 qb (q0t .u64 bf) λ bg=>
 qi P w0 q45 [bg,(.int .i64 4)] λ bh=>
 qb (qd .add be bh) λ bi=>
 qb (q05 bc) λ bj=>
 qb (q0t .u64 bj) λ bk=>
 qi P w0 q45 [bk,(.int .i64 4)] λ bl=>
 qb (qd .add bi bl) λ bm=>
 qb (q1d g) λ bn=>
 qb (q0t .u64 bn) λ bo=>
 qi P w0 q45 [bo,(.int .i64 4)] λ bp=>
 qb (qd .add bm bp) λ j=>
 qb (qd .add g i) λ bq=>
 qb (qd .add bq j) λ br=>
 qb (qd .add i j) λ bs=>
 qi P w0 q6z [bs] λ bt=>
 qb (q0t .u64 bt) λ bu=>
 qi P w0 q45 [bu,(.int .i64 4)] λ bv=>
 qb (qd .add br bv) λ bw=>
 qb (qd .add bw (.string ⟨#[68,82,85,78]⟩)) λ bx=>
 qo [bx,(.int .i64 0)] R) a0 a1 (.string .empty) (.string .empty) c v c z (.int .i64 0)))
def qrp (w0:World) (k0:Ko5) (m:Nat) (x0 x1 x7 x8 x9 x10 x31 x32 x33:Value):Hp→Prop:=q0p (stepL ⟨prog,w0,95,qs6⟩ (drw w0 95) (q0v qrr 0)) m (q0s [(0,x0),(1,x1),(7,x7),(8,x8),(9,x9),(10,x10),(31,x31),(32,x32),(33,x33)]) [λ t=>k0 (t 0) (t 1) (t 7) (t 8) (t 9)]
theorem q05i (w0:World) (k0:Ko5):∀ m,qrp w0 k0 m=q8f prog w0 k0 m:=by
 intro m
 induction m with
 | zero=>kernel_rfl
 | succ m ih=>
  show _=λ x0 x1 x7 x8 x9 x10 x31 x32 x33=>qeo prog w0 (q8f prog w0 k0 m) k0 x0 x1 x7 x8 x9 x10 x31 x32 x33
  rw [← ih]
  kernel_rfl
theorem q05j (w0:World):qs7 prog w0=λ k0 x0 x1 x7 x8 x9 x10 x31 x32 x33 h=>∃ m,qrp w0 k0 m x0 x1 x7 x8 x9 x10 x31 x32 x33 h:=by
 funext k0 x0 x1 x7 x8 x9 x10 x31 x32 x33 h
 simp only [q05i]
 rfl
theorem q091 {w0:World} {a0 a1:Value} (hj:∀ v,v∈[a0,a1]→v≠junk) (hv:qjq prog w0 a0 a1 R h):qf prog w0 qjr [a0,a1] h R:=
 q03 qrr qs6 95 (by kernel_rfl) (by kernel_rfl) (by simp) hj (by
  unfold qjq
  rw [q05j w0]
  kernel_rfl) hv
abbrev q08e:Func:=f86
def q086:List (Nat × List Nat × List Nat):=[]
def qsw (P:Program) (w0:World) (a0:Value) (R:qh):Hp→Prop:=
 q15 true 3 a0 λ c=>
 qk c 0 λ i=>
 qg w0 i λ j=>
 qb (q1d j) λ l=>
 qb (qd .geq l (.int .i64 1)) λ d=>
 qe d true (qk c 0) λ o=>
 qe d true (qg w0 o) λ s=>
 qe d true (qb (q1d s)) λ u=>
 qe d true (qb (qd .leq u (.int .i64 64))) λ v=>
 q0a d v (.bool false) λ e=>
 qe e true (qk c 1) λ z=>
 qe e true (qg w0 z) λ ba=>
 qe e true (qb (q1d ba)) λ bb=>
 qe e true (qb (qd .leq bb (.int .i64 64))) λ bc=>
 q0a e bc (.bool false) λ b=>
 qe b true (qk c 2) λ bd=>
 qe b true (qg w0 bd) λ be=>
 qe b true (qb (unA .not be)) λ bf=>
 qe b true (λ K=>K bf) λ g=>
 qe g false (qk c 1) λ bg=>
 qe g false (qg w0 bg) λ bh=>
 qe g false (qb (qd .eql bh (.string .empty))) λ bi=>
 qe b true (q0a g (.bool true) bi) λ bj=>
 q0a b bj (.bool false) λ bk=>
 qo [bk] R
theorem q09b {w0:World} {a0:Value} (hj:∀ v,v∈[a0]→v≠junk) (hv:qsw prog w0 a0 R h):qf prog w0 qeu [a0] h R:=
 q03 q08e q086 29 (by kernel_rfl) (by kernel_rfl) (by simp) hj (by
  kernel_rfl) hv
abbrev qem:Func:=f87
def qep:List (Nat × List Nat × List Nat):=[(3,[1,5,15,16,17],[1,5]),(6,[1,5,15,16,17,21,22,23],[1,5,15,16,17]),(15,[1,12,41,42,43],[12])]
def qel (R:Ko8) (k2:Ko5) (x1 x5 x15 x16 x17 x21 x22 x23:Value):Hp→Prop:=
 qb (qd .lss x23 x22) λ d=>
 qt d (
 q04 3 x21 x23 λ e=>
 qw w0 e 3 λ g=>
 q0u [(.string .empty),(.string .empty),(.bool false)] 3 λ b=>
 q0k w0 b g 3 λ _=>
 qk b 0 λ i=>
 qg w0 i λ j=>
 qi P w0 qf2 [x5,j] λ c=>
 qb (q0g c 0) λ ba=>
 qb (q0g c 1) λ l=>
 qb (unA .not l) λ o=>
 qt o (
 qw w0 b 3 λ s=>
 qi P w0 qf3 [x5,s] λ u=>
 qb (qd .add x23 (.int .i64 1)) λ v=>
 R x1 u x15 x16 x17 x21 x22 v) (
 qb (qd .add x23 (.int .i64 1)) λ z=>
 R x1 x5 x15 x16 x17 x21 x22 z)) (
 k2 x1 x5 x15 x16 x17)
def q8i (P:Program) (w0:World) (k2:Ko5):Nat→Value→Value→Value→Value→Value→Value→Value→Value→Hp→Prop
 | 0,_,_,_,_,_,_,_,_=>λ _=>False
 | m + 1,x1,x5,x15,x16,x17,x21,x22,x23=>qel P w0 (q8i P w0 k2 m) k2 x1 x5 x15 x16 x17 x21 x22 x23
def qs2 (k2:Ko5) (x1 x5 x15 x16 x17 x21 x22 x23:Value):Hp→Prop:=λ h=>∃ m,q8i P w0 k2 m x1 x5 x15 x16 x17 x21 x22 x23 h
def qbj (R:Ko5) (k0:Ko2) (x1 x5 x15 x16 x17:Value):Hp→Prop:=
 qb (qd .lss x17 x16) λ c=>
 qt c (
 q04 1 x15 x17 λ d=>
 qg w0 d λ b=>
 qb (q05 b) λ e=>
 qs2 P w0 (λ g i j l o=>
 qb (qd .add o (.int .i64 1)) λ s=>
 R g i j l s) x1 x5 x15 x16 x17 b e (.int .i64 0)) (
 k0 x1 x5)
def q8g (P:Program) (w0:World) (k0:Ko2):Nat→Value→Value→Value→Value→Value→Hp→Prop
 | 0,_,_,_,_,_=>λ _=>False
 | m + 1,x1,x5,x15,x16,x17=>qbj P w0 (q8g P w0 k0 m) k0 x1 x5 x15 x16 x17
def qs0 (k0:Ko2) (x1 x5 x15 x16 x17:Value):Hp→Prop:=λ h=>∃ m,q8g P w0 k0 m x1 x5 x15 x16 x17 h
def qei (P:Program) (w0:World) (R:Ko5) (k4:Ko1) (x1 x12 x41 x42 x43:Value):Hp→Prop:=
 qb (qd .lss x43 x42) λ d=>
 qt d (
 q04 3 x41 x43 λ e=>
 qw w0 e 3 λ g=>
 q0u [(.string .empty),(.string .empty),(.bool false)] 3 λ c=>
 q0k w0 c g 3 λ _=>
 qb (unA .not x1) λ b=>
 qe b false (qk c 2) λ i=>
 qe b false (qg w0 i) λ j=>
 qe b false (qb (unA .not j)) λ l=>
 q0a b (.bool true) l λ o=>
 qt o (
 qw w0 c 3 λ s=>
 q0j [(0,3,true,s)] (q00 [(.string .empty),(.string .empty),(.bool false)] 1) 1 3 λ u=>
 q0h w0 3 40 x12 u λ v=>
 qb (qd .add x43 (.int .i64 1)) λ z=>
 R x1 v x41 x42 z) (
 qb (qd .add x43 (.int .i64 1)) λ ba=>
 R x1 x12 x41 x42 ba)) (
 k4 x12)
def q60 (P:Program) (w0:World) (k4:Ko1):Nat→Value→Value→Value→Value→Value→Hp→Prop
 | 0,_,_,_,_,_=>λ _=>False
 | m + 1,x1,x12,x41,x42,x43=>qei P w0 (q60 P w0 k4 m) k4 x1 x12 x41 x42 x43
def qsa (k4:Ko1) (x1 x12 x41 x42 x43:Value):Hp→Prop:=λ h=>∃ m,q60 P w0 k4 m x1 x12 x41 x42 x43 h
def qjj (a0 a1:Value) (R:qh):Hp→Prop:=
 qb (q05 a0) λ c=>
 qs0 P w0 (λ d b=>
 qb (q05 b) λ e=>
 qsa P w0 (λ g=>
 qo [g] R) d (.slice none 0 0) b e (.int .i64 0)) a1 (.slice none 0 0) a0 c (.int .i64 0)
def qsd (w0:World) (k4:Ko1) (m:Nat) (x1 x12 x41 x42 x43:Value):Hp→Prop:=q0p (stepL ⟨prog,w0,60,qep⟩ (drw w0 60) (q0v qem 2)) m (q0s [(1,x1),(12,x12),(41,x41),(42,x42),(43,x43)]) [λ t=>k4 (t 12)]
theorem q05p (w0:World) (k4:Ko1):∀ m,qsd w0 k4 m=q60 prog w0 k4 m:=by
 intro m
 induction m with
 | zero=>kernel_rfl
 | succ m ih=>
  show _=λ x1 x12 x41 x42 x43=>qei prog w0 (q60 prog w0 k4 m) k4 x1 x12 x41 x42 x43
  rw [← ih]
  kernel_rfl
theorem q05v (w0:World):qsa prog w0=λ k4 x1 x12 x41 x42 x43 h=>∃ m,qsd w0 k4 m x1 x12 x41 x42 x43 h:=by
 funext k4 x1 x12 x41 x42 x43 h
 simp only [q05p]
 rfl
def qs9 (w0:World) (k2:Ko5) (m:Nat) (x1 x5 x15 x16 x17 x21 x22 x23:Value):Hp→Prop:=q0p (stepL ⟨prog,w0,60,qep⟩ (drw w0 60) (q0v qem 1)) m (q0s [(1,x1),(5,x5),(15,x15),(16,x16),(17,x17),(21,x21),(22,x22),(23,x23)]) [λ t=>k2 (t 1) (t 5) (t 15) (t 16) (t 17)]
theorem q05c (w0:World) (k2:Ko5):∀ m,qs9 w0 k2 m=q8i prog w0 k2 m:=by
 intro m
 induction m with
 | zero=>kernel_rfl
 | succ m ih=>
  show _=λ x1 x5 x15 x16 x17 x21 x22 x23=>qel prog w0 (q8i prog w0 k2 m) k2 x1 x5 x15 x16 x17 x21 x22 x23
  rw [← ih]
  kernel_rfl
theorem q05n (w0:World):qs2 prog w0=λ k2 x1 x5 x15 x16 x17 x21 x22 x23 h=>∃ m,qs9 w0 k2 m x1 x5 x15 x16 x17 x21 x22 x23 h:=by
 funext k2 x1 x5 x15 x16 x17 x21 x22 x23 h
 simp only [q05c]
 rfl
def qs3 (w0:World) (k0:Ko2) (m:Nat) (x1 x5 x15 x16 x17:Value):Hp→Prop:=q0p (stepL ⟨prog,w0,60,qep⟩ (drw w0 60) (q0v qem 0)) m (q0s [(1,x1),(5,x5),(15,x15),(16,x16),(17,x17)]) [λ t=>k0 (t 1) (t 5)]
theorem q05e (w0:World) (k0:Ko2):∀ m,qs3 w0 k0 m=q8g prog w0 k0 m:=by
 intro m
 induction m with
 | zero=>kernel_rfl
 | succ m ih=>
  show _=λ x1 x5 x15 x16 x17=>qbj prog w0 (q8g prog w0 k0 m) k0 x1 x5 x15 x16 x17
  rw [← ih]
  unfold qbj
  rw [q05n w0]
  kernel_rfl
theorem q061 (w0:World):qs0 prog w0=λ k0 x1 x5 x15 x16 x17 h=>∃ m,qs3 w0 k0 m x1 x5 x15 x16 x17 h:=by
 funext k0 x1 x5 x15 x16 x17 h
 simp only [q05e]
 rfl
theorem q09m {w0:World} {a0 a1:Value} (hj:∀ v,v∈[a0,a1]→v≠junk) (hv:qjj prog w0 a0 a1 R h):qf prog w0 qez [a0,a1] h R:=
 q03 qem qep 60 (by kernel_rfl) (by kernel_rfl) (by simp) hj (by
  unfold qjj
  rw [q061 w0,q05v w0]
  kernel_rfl) hv
abbrev qsh:Func:=f121
def qry:List (Nat × List Nat × List Nat):=[(2,[0,2,5,6,7],[2])]
def qer (R:Ko5) (k0 kr:Ko1) (x0 x2 x5 x6 x7:Value):Hp→Prop:=
 qb (qd .lss x7 x6) λ e=>
 qt e (
 q04 3 x5 x7 λ g=>
 qw w0 g 3 λ i=>
 q0u [(.string .empty),(.string .empty),(.bool false)] 3 λ d=>
 q0k w0 d i 3 λ _=>
 qz (qw w0 d 3) λ j=>
 q0d [
 (qi P w0 qeu [j] λ l=>
 q0c [] (
 qc (qb (unA .not l)) λ o=>
 qc (λ K=>K o) λ c=>
 qc (qe c false (λ K=>K x7)) λ s=>
 qc (qe c false (qb (qd .gtr s (.int .i64 0)))) λ u=>
 qc (qe c false (λ K=>K u)) λ b=>
 qc (qe b true (λ K=>K x0)) λ v=>
 qc (qe b true (λ K=>K x7)) λ z=>
 qc (qe b true (qb (qd .sub z (.int .i64 1)))) λ ba=>
 qc (qe b true (q04 3 v ba)) λ bb=>
 qc (qe b true (qk bb 0)) λ bc=>
 qz (qe b true (qg w0 bc)) λ bd=>
 qc (qe b true (qk d 0)) λ be=>
 qz (qe b true (qg w0 be)) λ bf=>
 qc (qe b true (qb (qd .geq bd bf))) λ bg=>
 qc (qe c false (q0a b bg (.bool false))) λ bh=>
 qc (q0a c (.bool true) bh) λ bi=>
 q0y (
 qt bi (
 kr (.int .i64 120)) (
 qb (qd .add x7 (.int .i64 1)) λ bj=>
 R x0 x2 x5 x6 bj))))]) (
 k0 x2)
def q6u (P:Program) (w0:World) (k0 kr:Ko1):Nat→Value→Value→Value→Value→Value→Hp→Prop
 | 0,_,_,_,_,_=>λ _=>False
 | m + 1,x0,x2,x5,x6,x7=>qer P w0 (q6u P w0 k0 kr m) k0 kr x0 x2 x5 x6 x7
def qsg (k0 kr:Ko1) (x0 x2 x5 x6 x7:Value):Hp→Prop:=λ h=>∃ m,q6u P w0 k0 kr m x0 x2 x5 x6 x7 h
def qjo (a0:Value) (R:qh):Hp→Prop:=
 qb (q05 a0) λ b=>
 qsg P w0 (λ d=>
 qo [(.int .i64 0)] R) (λ c=>
 qo [c] R) a0 (.int .i64 0) a0 b (.int .i64 0)
def qs4 (w0:World) (k0 kr:Ko1) (m:Nat) (x0 x2 x5 x6 x7:Value):Hp→Prop:=q0p (stepL ⟨prog,w0,31,qry⟩ (drw w0 31) (q0v qsh 0)) m (q0s [(0,x0),(2,x2),(5,x5),(6,x6),(7,x7)]) [λ t=>k0 (t 2),λ t=>kr (t 2)]
theorem q05q (w0:World) (k0 kr:Ko1):∀ m,qs4 w0 k0 kr m=q6u prog w0 k0 kr m:=by
 intro m
 induction m with
 | zero=>kernel_rfl
 | succ m ih=>
  show _=λ x0 x2 x5 x6 x7=>qer prog w0 (q6u prog w0 k0 kr m) k0 kr x0 x2 x5 x6 x7
  rw [← ih]
  kernel_rfl
theorem q05w (w0:World):qsg prog w0=λ k0 kr x0 x2 x5 x6 x7 h=>∃ m,qs4 w0 k0 kr m x0 x2 x5 x6 x7 h:=by
 funext k0 kr x0 x2 x5 x6 x7 h
 simp only [q05q]
 rfl
theorem q095 {w0:World} {a0:Value} (hj:∀ v,v∈[a0]→v≠junk) (hv:qjo prog w0 a0 R h):qf prog w0 qjm [a0] h R:=
 q03 qsh qry 31 (by kernel_rfl) (by kernel_rfl) (by simp) hj (by
  unfold qjo
  rw [q05w w0]
  kernel_rfl) hv
abbrev qr8:Func:=f122
def qr2:List (Nat × List Nat × List Nat):=[(3,[1,4,5,6,11,12,13],[4,5])]
def qeh (R:Ko7) (k0:Ko2) (x1 x4 x5 x6 x11 x12 x13:Value):Hp→Prop:=
 qb (qd .lss x13 x12) λ i=>
 qt i (
 q04 3 x11 x13 λ j=>
 qw w0 j 3 λ l=>
 q0u [(.string .empty),(.string .empty),(.bool false)] 3 λ c=>
 q0k w0 c l 3 λ _=>
 qw w0 c 3 λ o=>
 qi P w0 qbm [o,x6] λ e=>
 qb (q05 x4) λ d=>
 qb (qd .eql d (.int .i64 0)) λ b=>
 qe b false (λ K=>K x4) λ s=>
 qe b false (λ K=>K d) λ u=>
 qe b false (qb (qd .sub u (.int .i64 1))) λ v=>
 qe b false (q04 1 s v) λ z=>
 qe b false (qg w0 z) λ ba=>
 qe b false (qb (q1d ba)) λ bb=>
 qe b false (λ K=>K e) λ bc=>
 qe b false (qb (q1d bc)) λ bd=>
 qe b false (qb (qd .add bb bd)) λ be=>
 qe b false (λ K=>K x1) λ bf=>
 qe b false (qb (qd .gtr be bf)) λ bg=>
 q0a b (.bool true) bg λ bh=>
 qt bh (
 qw w0 c 3 λ bi=>
 qi P w0 qbm [bi,(.string .empty)] λ bj=>
 q0j [(0,1,false,bj)] (q00 [(.string .empty)] 1) 1 1 λ bk=>
 q0h w0 1 16 x4 bk λ bl=>
 qk c 0 λ bm=>
 qg w0 bm λ bn=>
 q0j [(0,1,false,bn)] (q00 [(.string .empty)] 1) 1 1 λ bo=>
 q0h w0 1 16 x5 bo λ bp=>
 qk c 0 λ bq=>
 qg w0 bq λ br=>
 qb (qd .add x13 (.int .i64 1)) λ bs=>
 R x1 bl bp br x11 x12 bs) (
 qb (qd .sub d (.int .i64 1)) λ g=>
 q04 1 x4 g λ bt=>
 qg w0 bt λ bu=>
 qb (qd .add bu e) λ bv=>
 q04 1 x4 g λ bw=>
 q0q w0 bw bv λ _=>
 qk c 0 λ bx=>
 qg w0 bx λ bz=>
 qb (qd .add x13 (.int .i64 1)) λ ca=>
 R x1 x4 x5 bz x11 x12 ca)) (
 k0 x4 x5)
def q6t (P:Program) (w0:World) (k0:Ko2):Nat→Value→Value→Value→Value→Value→Value→Value→Hp→Prop
 | 0,_,_,_,_,_,_,_=>λ _=>False
 | m + 1,x1,x4,x5,x6,x11,x12,x13=>qeh P w0 (q6t P w0 k0 m) k0 x1 x4 x5 x6 x11 x12 x13
def qrj (k0:Ko2) (x1 x4 x5 x6 x11 x12 x13:Value):Hp→Prop:=λ h=>∃ m,q6t P w0 k0 m x1 x4 x5 x6 x11 x12 x13 h
def qj9 (a0 a1:Value) (R:qh):Hp→Prop:=
 qb (q05 a0) λ b=>
 qrj P w0 (λ c d=>
 qo [c,d] R) a1 (.slice none 0 0) (.slice none 0 0) (.string .empty) a0 b (.int .i64 0)
def qqz (w0:World) (k0:Ko2) (m:Nat) (x1 x4 x5 x6 x11 x12 x13:Value):Hp→Prop:=q0p (stepL ⟨prog,w0,60,qr2⟩ (drw w0 60) (q0v qr8 0)) m (q0s [(1,x1),(4,x4),(5,x5),(6,x6),(11,x11),(12,x12),(13,x13)]) [λ t=>k0 (t 4) (t 5)]
theorem q054 (w0:World) (k0:Ko2):∀ m,qqz w0 k0 m=q6t prog w0 k0 m:=by
 intro m
 induction m with
 | zero=>kernel_rfl
 | succ m ih=>
  show _=λ x1 x4 x5 x6 x11 x12 x13=>qeh prog w0 (q6t prog w0 k0 m) k0 x1 x4 x5 x6 x11 x12 x13
  rw [← ih]
  kernel_rfl
theorem q055 (w0:World):qrj prog w0=λ k0 x1 x4 x5 x6 x11 x12 x13 h=>∃ m,qqz w0 k0 m x1 x4 x5 x6 x11 x12 x13 h:=by
 funext k0 x1 x4 x5 x6 x11 x12 x13 h
 simp only [q054]
 rfl
theorem q08i {w0:World} {a0 a1:Value} (hj:∀ v,v∈[a0,a1]→v≠junk) (hv:qj9 prog w0 a0 a1 R h):qf prog w0 qj5 [a0,a1] h R:=
 q03 qr8 qr2 60 (by kernel_rfl) (by kernel_rfl) (by simp) hj (by
  unfold qj9
  rw [q055 w0]
  kernel_rfl) hv
abbrev qt7:Func:=f126
def qt8:List (Nat × List Nat × List Nat):=[(3,[1,2,7,10,11,12],[7])]
def qey (P:Program) (w0:World) (R:Ko6) (k0:Ko1) (x1 x2 x7 x10 x11 x12:Value):Hp→Prop:=
 qb (qd .lss x12 x11) λ e=>
 qt e (
 q04 3 x10 x12 λ g=>
 qw w0 g 3 λ i=>
 q0u [(.string .empty),(.string .empty),(.bool false)] 3 λ d=>
 q0k w0 d i 3 λ _=>
 qk d 0 λ j=>
 qg w0 j λ l=>
 qb (qd .geq l x1) λ b=>
 qe b true (λ K=>K x2) λ o=>
 qe b true (qb (qd .eql o (.string .empty))) λ s=>
 qe b true (λ K=>K s) λ c=>
 qe c false (qk d 0) λ u=>
 qe c false (qg w0 u) λ v=>
 qe c false (λ K=>K x2) λ z=>
 qe c false (qb (qd .lss v z)) λ ba=>
 qe b true (q0a c (.bool true) ba) λ bb=>
 q0a b bb (.bool false) λ bc=>
 qt bc (
 qw w0 d 3 λ bd=>
 q0j [(0,3,true,bd)] (q00 [(.string .empty),(.string .empty),(.bool false)] 1) 1 3 λ be=>
 q0h w0 3 40 x7 be λ bf=>
 qb (qd .add x12 (.int .i64 1)) λ bg=>
 R x1 x2 bf x10 x11 bg) (
 qb (qd .add x12 (.int .i64 1)) λ bh=>
 R x1 x2 x7 x10 x11 bh)) (
 k0 x7)
def q62 (P:Program) (w0:World) (k0:Ko1):Nat→Value→Value→Value→Value→Value→Value→Hp→Prop
 | 0,_,_,_,_,_,_=>λ _=>False
 | m + 1,x1,x2,x7,x10,x11,x12=>qey P w0 (q62 P w0 k0 m) k0 x1 x2 x7 x10 x11 x12
def qsl (k0:Ko1) (x1 x2 x7 x10 x11 x12:Value):Hp→Prop:=λ h=>∃ m,q62 P w0 k0 m x1 x2 x7 x10 x11 x12 h
def qjv (a0 a1 a2:Value) (R:qh):Hp→Prop:=
 qb (q05 a0) λ b=>
 qsl P w0 (λ c=>
 qo [c] R) a1 a2 (.slice none 0 0) a0 b (.int .i64 0)
def qt4 (w0:World) (k0:Ko1) (m:Nat) (x1 x2 x7 x10 x11 x12:Value):Hp→Prop:=q0p (stepL ⟨prog,w0,36,qt8⟩ (drw w0 36) (q0v qt7 0)) m (q0s [(1,x1),(2,x2),(7,x7),(10,x10),(11,x11),(12,x12)]) [λ t=>k0 (t 7)]
theorem q06b (w0:World) (k0:Ko1):∀ m,qt4 w0 k0 m=q62 prog w0 k0 m:=by
 intro m
 induction m with
 | zero=>kernel_rfl
 | succ m ih=>
  show _=λ x1 x2 x7 x10 x11 x12=>qey prog w0 (q62 prog w0 k0 m) k0 x1 x2 x7 x10 x11 x12
  rw [← ih]
  kernel_rfl
theorem q06k (w0:World):qsl prog w0=λ k0 x1 x2 x7 x10 x11 x12 h=>∃ m,qt4 w0 k0 m x1 x2 x7 x10 x11 x12 h:=by
 funext k0 x1 x2 x7 x10 x11 x12 h
 simp only [q06b]
 rfl
theorem q0ai {w0:World} {a0 a1 a2:Value} (hj:∀ v,v∈[a0,a1,a2]→v≠junk) (hv:qjv prog w0 a0 a1 a2 R h):qf prog w0 qjx [a0,a1,a2] h R:=
 q03 qt7 qt8 36 (by kernel_rfl) (by kernel_rfl) (by simp) hj (by
  unfold qjv
  rw [q06k w0]
  kernel_rfl) hv
abbrev q07j:Func:=f151
def q07k:List (Nat × List Nat × List Nat):=[]
def qtb (a0 a1:Value) (R:qh):Hp→Prop:=
 q15 true 3 a0 λ b=>
 qk b 0 λ u=>
 qg w0 u λ v=>
 qi P w0 qji [v,a1] λ c=>
 qk b 2 λ z=>
 qg w0 z λ ba=>
 qt ba (
 qc (λ K=>K c) λ bb=>
 qc (qb (q0t .u8 bb)) λ bc=>
 qc (qk b 0) λ bd=>
 qz (qg w0 bd) λ be=>
 qc (qb (q1d be)) λ bf=>
 qc (λ K=>K c) λ bg=>
 qc (qb (qd .sub bf bg)) λ bh=>
 qc (qb (q0t .u8 bh)) λ bi=>
 qc (λ K=>K (.int .u8 1)) λ bj=>
 qc (qk b 1) λ bk=>
 qz (qg w0 bk) λ bl=>
 qc (qb (q1d bl)) λ bm=>
 qc (qb (q0t .u8 bm)) λ bn=>
 qc (qk b 0) λ d=>
 qz (qg w0 d) λ e=>
 qc (λ K=>K c) λ bo=>
 qc (qb (q2y e (some bo) none)) λ bp=>
 qc (qk b 1) λ g=>
 qz (qg w0 g) λ i=>
 q0d [
 (q0j [(0,1,false,bc),(1,1,false,bi),(2,1,false,bj),(3,1,false,bn)] (q00 [(.int .u8 0)] 4) 4 1 λ bq=>
 q0c [(q26 (qg w0 g) i),(q26 (qg w0 d) e)] (
 qz (q1z w0 bq) λ br=>
 qc (qb (qd .add br bp)) λ bs=>
 qc (qb (qd .add bs i)) λ bt=>
 qc (λ K=>K bt) λ bu=>
 q0y (
 qo [bu] R)))]) (
 qc (λ K=>K c) λ bv=>
 qc (qb (q0t .u8 bv)) λ bw=>
 qc (qk b 0) λ bx=>
 qz (qg w0 bx) λ bz=>
 qc (qb (q1d bz)) λ ca=>
 qc (λ K=>K c) λ cb=>
 qc (qb (qd .sub ca cb)) λ cc=>
 qc (qb (q0t .u8 cc)) λ cd=>
 qc (λ K=>K (.int .u8 0)) λ ce=>
 qc (qk b 1) λ cf=>
 qz (qg w0 cf) λ cg=>
 qc (qb (q1d cg)) λ ch=>
 qc (qb (q0t .u8 ch)) λ ci=>
 qc (qk b 0) λ j=>
 qz (qg w0 j) λ l=>
 qc (λ K=>K c) λ cj=>
 qc (qb (q2y l (some cj) none)) λ ck=>
 qc (qk b 1) λ o=>
 qz (qg w0 o) λ s=>
 q0d [
 (q0j [(0,1,false,bw),(1,1,false,cd),(2,1,false,ce),(3,1,false,ci)] (q00 [(.int .u8 0)] 4) 4 1 λ cl=>
 q0c [(q26 (qg w0 o) s),(q26 (qg w0 j) l)] (
 qz (q1z w0 cl) λ cm=>
 qc (qb (qd .add cm ck)) λ cn=>
 qc (qb (qd .add cn s)) λ co=>
 qc (λ K=>K co) λ cp=>
 q0y (
 qo [cp] R)))])
theorem q09p {w0:World} {a0 a1:Value} (hj:∀ v,v∈[a0,a1]→v≠junk) (hv:qtb prog w0 a0 a1 R h):qf prog w0 qbm [a0,a1] h R:=
 q03 q07j q07k 36 (by kernel_rfl) (by kernel_rfl) (by simp) hj (by
  kernel_rfl) hv
abbrev qqy:Func:=f166
def qrf:List (Nat × List Nat × List Nat):=[(2,[0,1,5],[5])]
def qbh (P:Program) (w0:World) (R:Ko3) (k0:Ko1) (x0 x1 x5:Value):Hp→Prop:=
 qc (λ K=>K x5) λ d=>
 qc (λ K=>K x0) λ e=>
 qc (qb (q1d e)) λ g=>
 qc (qb (qd .lss d g)) λ i=>
 qc (λ K=>K i) λ c=>
 qc (qe c true (λ K=>K x5)) λ j=>
 qc (qe c true (λ K=>K x1)) λ l=>
 qc (qe c true (qb (q1d l))) λ o=>
 qc (qe c true (qb (qd .lss j o))) λ s=>
 qc (q0a c s (.bool false)) λ u=>
 qc (λ K=>K u) λ b=>
 qc (qe b true (λ K=>K x0)) λ v=>
 qc (qe b true (λ K=>K x5)) λ z=>
 qc (qe b true (qb (q3t v z))) λ ba=>
 qc (qe b true (λ K=>K x1)) λ bb=>
 qc (qe b true (λ K=>K x5)) λ bc=>
 qc (qe b true (qb (q3t bb bc))) λ bd=>
 qc (qe b true (qb (qd .eql ba bd))) λ be=>
 qc (q0a b be (.bool false)) λ bf=>
 q0y (
 qt bf (
 qb (qd .add x5 (.int .i64 1)) λ bg=>
 R x0 x1 bg) (
 k0 x5))
def q8a (P:Program) (w0:World) (k0:Ko1):Nat→Value→Value→Value→Hp→Prop
 | 0,_,_,_=>λ _=>False
 | m + 1,x0,x1,x5=>qbh P w0 (q8a P w0 k0 m) k0 x0 x1 x5
def qr7 (k0:Ko1) (x0 x1 x5:Value):Hp→Prop:=λ h=>∃ m,q8a P w0 k0 m x0 x1 x5 h
def qjd (a0 a1:Value) (R:qh):Hp→Prop:=
 qr7 P w0 (λ b=>
 qo [b] R) a0 a1 (.int .i64 0)
def qrc (w0:World) (k0:Ko1) (m:Nat) (x0 x1 x5:Value):Hp→Prop:=q0p (stepL ⟨prog,w0,28,qrf⟩ (drw w0 28) (q0v qqy 0)) m (q0s [(0,x0),(1,x1),(5,x5)]) [λ t=>k0 (t 5)]
theorem q051 (w0:World) (k0:Ko1):∀ m,qrc w0 k0 m=q8a prog w0 k0 m:=by
 intro m
 induction m with
 | zero=>kernel_rfl
 | succ m ih=>
  show _=λ x0 x1 x5=>qbh prog w0 (q8a prog w0 k0 m) k0 x0 x1 x5
  rw [← ih]
  kernel_rfl
theorem q052 (w0:World):qr7 prog w0=λ k0 x0 x1 x5 h=>∃ m,qrc w0 k0 m x0 x1 x5 h:=by
 funext k0 x0 x1 x5 h
 simp only [q051]
 rfl
theorem q082 {w0:World} {a0 a1:Value} (hj:∀ v,v∈[a0,a1]→v≠junk) (hv:qjd prog w0 a0 a1 R h):qf prog w0 qji [a0,a1] h R:=
 q03 qqy qrf 28 (by kernel_rfl) (by kernel_rfl) (by simp) hj (by
  unfold qjd
  rw [q052 w0]
  kernel_rfl) hv
end
end Go.Proofs.YtfmoemconapmhaaGreat.Ah
