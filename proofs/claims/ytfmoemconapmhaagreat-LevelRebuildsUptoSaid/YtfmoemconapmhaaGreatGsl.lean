/- PRINTED by wip/tools/shallow.py: functions of the program as readable words, and that each is what its text says. -/
import Derived.Test.YtfmoemconapmhaaGreatGn
set_option linter.all false
namespace Go.Proofs.YtfmoemconapmhaaGreat.Ah
open Go Go.Proofs.Tryz
noncomputable section
variable (P:Program) (w0:World) {h:Hp} {R:qh}
abbrev q01n:Func:=f43
def q01o:List (Nat × List Nat × List Nat):=[]
def qo8 (a0 a1 a2:Value) (R:qh):Hp→Prop:=
 q1e 1 a0 (some a1) none none λ ca=>
 qb (q05 a2) λ b=>
 qb (qd .eql b (.int .i64 0)) λ g=>
 qt g (
 qo [a0] R) (
 qb (q05 a0) λ d=>
 qb (qd .eql a1 d) λ i=>
 qt i (
 q0h w0 1 8 a0 a2 λ j=>
 qo [j] R) (
 qb (qd .add d b) λ l=>
 qhb w0 1 a0 λ o=>
 qb (qd .gtr l o) λ s=>
 qt s (
 q1e 1 a0 none (some a1) none λ u=>
 qb (qd .add d b) λ v=>
 qb (qd .sub v a1) λ z=>
 qh7 w0 1 8 [(.pointer none)] u z λ e=>
 q1e 1 e (some a1) none none λ ba=>
 q4h w0 1 ba a2 λ cb=>
 qc (λ K=>K e) λ bb=>
 qc (λ K=>K a1) λ bc=>
 qc (λ K=>K b) λ bd=>
 qc (qb (qd .add bc bd)) λ be=>
 qz (q1e 1 bb (some be) none none) λ bf=>
 qc (λ K=>K a0) λ bg=>
 qc (λ K=>K a1) λ bh=>
 qz (q1e 1 bg (some bh) none none) λ bi=>
 q0d [
 (q4h w0 1 bf bi λ cc=>
 q0c [] (
 q0y (
 qo [e] R)))]) (
 qb (qd .add d b) λ bj=>
 q1e 1 a0 none (some bj) none λ c=>
 qb (qd .add a1 b) λ bk=>
 q1e 1 c (some bk) none none λ bl=>
 ovA P w0 qp9 a2 bl λ bm=>
 qb (unA .not bm) λ bn=>
 qt bn (
 qc (λ K=>K c) λ bo=>
 qc (λ K=>K a1) λ bp=>
 qc (λ K=>K b) λ bq=>
 qc (qb (qd .add bp bq)) λ br=>
 qz (q1e 1 bo (some br) none none) λ bs=>
 qc (λ K=>K c) λ bt=>
 qc (λ K=>K a1) λ bu=>
 qz (q1e 1 bt (some bu) none none) λ bv=>
 q0d [
 (q4h w0 1 bs bv λ cd=>
 q0c [] (
 q0y (
 q1e 1 c (some a1) none none λ bw=>
 q4h w0 1 bw a2 λ ce=>
 qo [c] R)))]) (
 q1e 1 c (some d) none none λ bx=>
 q4h w0 1 bx a2 λ cf=>
 q1e 1 c (some a1) none none λ bz=>
 qi P w0 q03e [bz,b] λ cg=>
 qo [c] R))))
theorem q01u {w0:World} {a0 a1 a2:Value} (hj:∀ v,v∈[a0,a1,a2]→v≠junk) (hv:qo8 prog w0 a0 a1 a2 R h):qf prog w0 qb5 [a0,a1,a2] h R:=
 q03 q01n q01o 95 (by kernel_rfl) (by kernel_rfl) (by simp) hj (by
  kernel_rfl) hv
abbrev q01r:Func:=f44
def q01s:List (Nat × List Nat × List Nat):=[]
def qoa (P:Program) (w0:World) (a0:Value) (R:qh):Hp→Prop:=
 qb (q3k .eql a0 (.slice none 0 0)) λ b=>
 qt b (
 qo [(.slice none 0 0)] R) (
 q0j [] (q00 [(.pointer none)] 0) 0 1 λ c=>
 q0h w0 1 8 c a0 λ d=>
 qo [d] R)
theorem q020 {w0:World} {a0:Value} (hj:∀ v,v∈[a0]→v≠junk) (hv:qoa prog w0 a0 R h):qf prog w0 qdf [a0] h R:=
 q03 q01r q01s 8 (by kernel_rfl) (by kernel_rfl) (by simp) hj (by
  kernel_rfl) hv
abbrev q03r:Func:=f46
def q03u:List (Nat × List Nat × List Nat):=[]
def qpc (a0:Value) (R:qh):Hp→Prop:=
 qi P w0 qo1 [(.slice none 0 0),a0] λ b=>
 qo [b] R
theorem q03y {w0:World} {a0:Value} (hj:∀ v,v∈[a0]→v≠junk) (hv:qpc prog w0 a0 R h):qf prog w0 qi8 [a0] h R:=
 q03 q03r q03u 5 (by kernel_rfl) (by kernel_rfl) (by simp) hj (by
  kernel_rfl) hv
abbrev q01a:Func:=f50
def q01b:List (Nat × List Nat × List Nat):=[]
def qnn (a0 a1:Value) (R:qh):Hp→Prop:=
 qi P w0 qo2 [a0,a1] λ b=>
 qb (qd .geq b (.int .i64 0)) λ c=>
 qo [c] R
theorem q01e {w0:World} {a0 a1:Value} (hj:∀ v,v∈[a0,a1]→v≠junk) (hv:qnn prog w0 a0 a1 R h):qf prog w0 qhi [a0,a1] h R:=
 q03 q01a q01b 9 (by kernel_rfl) (by kernel_rfl) (by simp) hj (by
  kernel_rfl) hv
abbrev q01h:Func:=f97
def q01i:List (Nat × List Nat × List Nat):=[]
def qnw (P:Program) (w0:World) (b:Nat) (g:Lp) (K:qh) (x2 y7:Value):Hp→Prop:=
 q0u [(.string .empty),(.string .empty),(.bool false)] 3 λ c=>
 q0k w0 c y7 3 λ _=>
 q6h b g (
 qg w0 x2 λ d=>
 qw w0 c 3 λ e=>
 q0j [(0,3,true,e)] (q00 [(.string .empty),(.string .empty),(.bool false)] 1) 1 3 λ i=>
 q0h w0 3 40 d i λ j=>
 q0q w0 x2 j λ _=>
 q24 b g none K)
def qo3 (a0 a1:Value) (R:qh):Hp→Prop:=
 λ h0=>(q15 false 1 a0 λ c=>
 q3j P w0 a1 1 (λ b g args K=>qnw P w0 b g K c (args.getD 0 undef)) (
 qg w0 c λ d=>
 q2e h0 (
 qo [d] R)) []) h0
theorem q01k {w0:World} {a0 a1:Value} (hj:∀ v,v∈[a0,a1]→v≠junk) (hv:qo3 prog w0 a0 a1 R h):qf prog w0 qo1 [a0,a1] h R:=
 qaz q01h q01i 13 (by kernel_rfl) (by kernel_rfl) (by simp) hj (by
  kernel_rfl) hv
abbrev qnz:Func:=f101
def qnx:List (Nat × List Nat × List Nat):=[(2,[0,1,4,7,8],[4])]
def qdd (R:Ko5) (k0 kr:Ko1) (x0 x1 x4 x7 x8:Value):Hp→Prop:=
 qb (qd .lss x8 x7) λ b=>
 qt b (
 q04 1 x0 x8 λ c=>
 qg w0 c λ d=>
 q1n P w0 x1 [d] λ e=>
 qt e (
 kr x8) (
 qb (qd .add x8 (.int .i64 1)) λ g=>
 R x0 x1 x4 x7 g)) (
 k0 x4)
def q7n (P:Program) (w0:World) (k0 kr:Ko1):Nat→Value→Value→Value→Value→Value→Hp→Prop
 | 0,_,_,_,_,_=>λ _=>False
 | m + 1,x0,x1,x4,x7,x8=>qdd P w0 (q7n P w0 k0 kr m) k0 kr x0 x1 x4 x7 x8
def qny (k0 kr:Ko1) (x0 x1 x4 x7 x8:Value):Hp→Prop:=λ h=>∃ m,q7n P w0 k0 kr m x0 x1 x4 x7 x8 h
def qhl (a0 a1:Value) (R:qh):Hp→Prop:=
 qb (q05 a0) λ b=>
 qny P w0 (λ d=>
 qo [(.int .i64 (-1))] R) (λ c=>
 qo [c] R) a0 a1 (.int .i64 0) b (.int .i64 0)
def qo0 (w0:World) (k0 kr:Ko1) (m:Nat) (x0 x1 x4 x7 x8:Value):Hp→Prop:=q0p (stepL ⟨prog,w0,19,qnx⟩ (drw w0 19) (q0v qnz 0)) m (q0s [(0,x0),(1,x1),(4,x4),(7,x7),(8,x8)]) [λ t=>k0 (t 4),λ t=>kr (t 4)]
theorem q01d (w0:World) (k0 kr:Ko1):∀ m,qo0 w0 k0 kr m=q7n prog w0 k0 kr m:=by
 intro m
 induction m with
 | zero=>kernel_rfl
 | succ m ih=>
  show _=λ x0 x1 x4 x7 x8=>qdd prog w0 (q7n prog w0 k0 kr m) k0 kr x0 x1 x4 x7 x8
  rw [← ih]
  kernel_rfl
theorem q01c (w0:World):qny prog w0=λ k0 kr x0 x1 x4 x7 x8 h=>∃ m,qo0 w0 k0 kr m x0 x1 x4 x7 x8 h:=by
 funext k0 kr x0 x1 x4 x7 x8 h
 simp only [q01d]
 rfl
theorem q01j {w0:World} {a0 a1:Value} (hj:∀ v,v∈[a0,a1]→v≠junk) (hv:qhl prog w0 a0 a1 R h):qf prog w0 qo2 [a0,a1] h R:=
 q03 qnz qnx 19 (by kernel_rfl) (by kernel_rfl) (by simp) hj (by
  unfold qhl
  rw [q01c w0]
  kernel_rfl) hv
abbrev q041:Func:=f113
def q040:List (Nat × List Nat × List Nat):=[]
def qpi (P:Program) (w0:World) (a0:Value) (R:qh):Hp→Prop:=
 qb (q3k .eql a0 (.slice none 0 0)) λ b=>
 qt b (
 qo [(.slice none 0 0)] R) (
 q0j [] (q00 [(.int .u8 0)] 0) 0 1 λ c=>
 q0h w0 1 1 c a0 λ d=>
 qo [d] R)
theorem q04f {w0:World} {a0:Value} (hj:∀ v,v∈[a0]→v≠junk) (hv:qpi prog w0 a0 R h):qf prog w0 qid [a0] h R:=
 q03 q041 q040 8 (by kernel_rfl) (by kernel_rfl) (by simp) hj (by
  kernel_rfl) hv
abbrev q0c2:Func:=f136
def q0c5:List (Nat × List Nat × List Nat):=[]
def qux (P:Program) (w0:World) (a0 a1:Value) (R:qh):Hp→Prop:=
 q1z w0 a0 λ b=>
 q1z w0 a1 λ c=>
 qb (qd .eql b c) λ d=>
 qo [d] R
theorem q0d0 {w0:World} {a0 a1:Value} (hj:∀ v,v∈[a0,a1]→v≠junk) (hv:qux prog w0 a0 a1 R h):qf prog w0 qkf [a0,a1] h R:=
 q03 q0c2 q0c5 10 (by kernel_rfl) (by kernel_rfl) (by simp) hj (by
  kernel_rfl) hv
abbrev q06c:Func:=f142
def q06e:List (Nat × List Nat × List Nat):=[]
def qr6 (a0 a1:Value) (R:qh):Hp→Prop:=
 qi P w0 qex [a0] λ c=>
 qi P w0 qex [a1] λ b=>
 qt c (
 qt b (
 qo [(.int .i64 0)] R) (
 qo [(.int .i64 (-1))] R)) (
 qt b (
 qo [(.int .i64 1)] R) (
 qb (qd .lss a0 a1) λ d=>
 qt d (
 qo [(.int .i64 (-1))] R) (
 qb (qd .gtr a0 a1) λ e=>
 qt e (
 qo [(.int .i64 1)] R) (
 qo [(.int .i64 0)] R))))
theorem q06y {w0:World} {a0 a1:Value} (hj:∀ v,v∈[a0,a1]→v≠junk) (hv:qr6 prog w0 a0 a1 R h):qf prog w0 qec [a0,a1] h R:=
 q03 q06c q06e 20 (by kernel_rfl) (by kernel_rfl) (by simp) hj (by
  kernel_rfl) hv
abbrev q00z:Func:=f152
def q00x:List (Nat × List Nat × List Nat):=[]
def qng (P:Program) (w0:World) (a0:Value) (R:qh):Hp→Prop:=
 qb (q3k .eql a0 (.slice none 0 0)) λ b=>
 qt b (
 qo [(.slice none 0 0)] R) (
 q0j [] (q00 [(.string .empty),(.string .empty),(.string .empty),(.bool false)] 0) 0 4 λ c=>
 q0h w0 4 56 c a0 λ d=>
 qo [d] R)
theorem q010 {w0:World} {a0:Value} (hj:∀ v,v∈[a0]→v≠junk) (hv:qng prog w0 a0 R h):qf prog w0 qhf [a0] h R:=
 q03 q00z q00x 8 (by kernel_rfl) (by kernel_rfl) (by simp) hj (by
  kernel_rfl) hv
abbrev q00v:Func:=f155
def q00w:List (Nat × List Nat × List Nat):=[]
def qnf (a0 a1 a2:Value) (R:qh):Hp→Prop:=
 q1e 4 a0 (some a1) none none λ ca=>
 qb (q05 a2) λ b=>
 qb (qd .eql b (.int .i64 0)) λ g=>
 qt g (
 qo [a0] R) (
 qb (q05 a0) λ d=>
 qb (qd .eql a1 d) λ i=>
 qt i (
 q0h w0 4 56 a0 a2 λ j=>
 qo [j] R) (
 qb (qd .add d b) λ l=>
 qhb w0 4 a0 λ o=>
 qb (qd .gtr l o) λ s=>
 qt s (
 q1e 4 a0 none (some a1) none λ u=>
 qb (qd .add d b) λ v=>
 qb (qd .sub v a1) λ z=>
 qh7 w0 4 56 [(.string .empty),(.string .empty),(.string .empty),(.bool false)] u z λ e=>
 q1e 4 e (some a1) none none λ ba=>
 q4h w0 4 ba a2 λ cb=>
 qc (λ K=>K e) λ bb=>
 qc (λ K=>K a1) λ bc=>
 qc (λ K=>K b) λ bd=>
 qc (qb (qd .add bc bd)) λ be=>
 qz (q1e 4 bb (some be) none none) λ bf=>
 qc (λ K=>K a0) λ bg=>
 qc (λ K=>K a1) λ bh=>
 qz (q1e 4 bg (some bh) none none) λ bi=>
 q0d [
 (q4h w0 4 bf bi λ cc=>
 q0c [] (
 q0y (
 qo [e] R)))]) (
 qb (qd .add d b) λ bj=>
 q1e 4 a0 none (some bj) none λ c=>
 qb (qd .add a1 b) λ bk=>
 q1e 4 c (some bk) none none λ bl=>
 ovA P w0 qnm a2 bl λ bm=>
 qb (unA .not bm) λ bn=>
 qt bn (
 qc (λ K=>K c) λ bo=>
 qc (λ K=>K a1) λ bp=>
 qc (λ K=>K b) λ bq=>
 qc (qb (qd .add bp bq)) λ br=>
 qz (q1e 4 bo (some br) none none) λ bs=>
 qc (λ K=>K c) λ bt=>
 qc (λ K=>K a1) λ bu=>
 qz (q1e 4 bt (some bu) none none) λ bv=>
 q0d [
 (q4h w0 4 bs bv λ cd=>
 q0c [] (
 q0y (
 q1e 4 c (some a1) none none λ bw=>
 q4h w0 4 bw a2 λ ce=>
 qo [c] R)))]) (
 q1e 4 c (some d) none none λ bx=>
 q4h w0 4 bx a2 λ cf=>
 q1e 4 c (some a1) none none λ bz=>
 qi P w0 q014 [bz,b] λ cg=>
 qo [c] R))))
theorem q00y {w0:World} {a0 a1 a2:Value} (hj:∀ v,v∈[a0,a1,a2]→v≠junk) (hv:qnf prog w0 a0 a1 a2 R h):qf prog w0 qdb [a0,a1,a2] h R:=
 q03 q00v q00w 95 (by kernel_rfl) (by kernel_rfl) (by simp) hj (by
  kernel_rfl) hv
abbrev qnh:Func:=f162
def qni:List (Nat × List Nat × List Nat):=[(3,[0,1,2,8,9,10],[0,1,2,8,9])]
def q9x (R:Ko6) (k0:Ko5) (x0 x1 x2 x8 x9 x10:Value):Hp→Prop:=
 qb (qd .lss x9 x10) λ c=>
 qt c (
 qb (qd .add x9 x10) λ d=>
 qb (q0t .u64 d) λ e=>
 qb (qd .shr e (.int .u64 1)) λ g=>
 qb (q0t .i64 g) λ b=>
 q04 3 x0 b λ i=>
 qw w0 i 3 λ j=>
 q1n P w0 x2 [j,x1] λ l=>
 qb (qd .lss l (.int .i64 0)) λ o=>
 qt o (
 qb (qd .add b (.int .i64 1)) λ s=>
 R x0 x1 x2 x8 s x10) (
 R x0 x1 x2 x8 x9 b)) (
 k0 x0 x1 x2 x8 x9)
def q6q (P:Program) (w0:World) (k0:Ko5):Nat→Value→Value→Value→Value→Value→Value→Hp→Prop
 | 0,_,_,_,_,_,_=>λ _=>False
 | m + 1,x0,x1,x2,x8,x9,x10=>q9x P w0 (q6q P w0 k0 m) k0 x0 x1 x2 x8 x9 x10
def qnj (k0:Ko5) (x0 x1 x2 x8 x9 x10:Value):Hp→Prop:=λ h=>∃ m,q6q P w0 k0 m x0 x1 x2 x8 x9 x10 h
def qhh (a0 a1 a2:Value) (R:qh):Hp→Prop:=
 qb (q05 a0) λ d=>
 qnj P w0 (λ e g i j c=>
 qb (qd .lss c j) λ b=>
 qe b true (λ K=>K i) λ l=>
 qe b true (λ K=>K e) λ o=>
 qe b true (λ K=>K c) λ s=>
 qe b true (q04 3 o s) λ u=>
 qe b true (qw w0 u 3) λ v=>
 qe b true (λ K=>K g) λ z=>
 qe b true (q1n P w0 l [v,z]) λ ba=>
 qe b true (qb (qd .eql ba (.int .i64 0))) λ bb=>
 q0a b bb (.bool false) λ bc=>
 qo [c,bc] R) a0 a1 a2 d (.int .i64 0) d
def qnk (w0:World) (k0:Ko5) (m:Nat) (x0 x1 x2 x8 x9 x10:Value):Hp→Prop:=q0p (stepL ⟨prog,w0,49,qni⟩ (drw w0 49) (q0v qnh 0)) m (q0s [(0,x0),(1,x1),(2,x2),(8,x8),(9,x9),(10,x10)]) [λ t=>k0 (t 0) (t 1) (t 2) (t 8) (t 9)]
theorem q011 (w0:World) (k0:Ko5):∀ m,qnk w0 k0 m=q6q prog w0 k0 m:=by
 intro m
 induction m with
 | zero=>kernel_rfl
 | succ m ih=>
  show _=λ x0 x1 x2 x8 x9 x10=>q9x prog w0 (q6q prog w0 k0 m) k0 x0 x1 x2 x8 x9 x10
  rw [← ih]
  kernel_rfl
theorem q012 (w0:World):qnj prog w0=λ k0 x0 x1 x2 x8 x9 x10 h=>∃ m,qnk w0 k0 m x0 x1 x2 x8 x9 x10 h:=by
 funext k0 x0 x1 x2 x8 x9 x10 h
 simp only [q011]
 rfl
theorem q013 {w0:World} {a0 a1 a2:Value} (hj:∀ v,v∈[a0,a1,a2]→v≠junk) (hv:qhh prog w0 a0 a1 a2 R h):qf prog w0 qhg [a0,a1,a2] h R:=
 q03 qnh qni 49 (by kernel_rfl) (by kernel_rfl) (by simp) hj (by
  unfold qhh
  rw [q012 w0]
  kernel_rfl) hv
abbrev q097:Func:=f164
def q093:List (Nat × List Nat × List Nat):=[]
def qte (a0 a1:Value) (R:qh):Hp→Prop:=
 qi P w0 qhn [a0,a1] λ b=>
 qo [b] R
theorem q0af {w0:World} {a0 a1:Value} (hj:∀ v,v∈[a0,a1]→v≠junk) (hv:qte prog w0 a0 a1 R h):qf prog w0 qjy [a0,a1] h R:=
 q03 q097 q093 8 (by kernel_rfl) (by kernel_rfl) (by simp) hj (by
  kernel_rfl) hv
abbrev q07s:Func:=f165
def q085:List (Nat × List Nat × List Nat):=[]
def qsn (P:Program) (w0:World) (a0:Value) (R:qh):Hp→Prop:=
 qb (qd .neq a0 a0) λ b=>
 qo [b] R
theorem q09k {w0:World} {a0:Value} (hj:∀ v,v∈[a0]→v≠junk) (hv:qsn prog w0 a0 R h):qf prog w0 qex [a0] h R:=
 q03 q07s q085 6 (by kernel_rfl) (by kernel_rfl) (by simp) hj (by
  kernel_rfl) hv
abbrev q01w:Func:=f172
def q01v:List (Nat × List Nat × List Nat):=[]
def qob (a0 a1:Value) (R:qh):Hp→Prop:=
 ovA P w0 qnl a0 a1 λ b=>
 qo [b] R
theorem q02e {w0:World} {a0 a1:Value} (hj:∀ v,v∈[a0,a1]→v≠junk) (hv:qob prog w0 a0 a1 R h):qf prog w0 qhn [a0,a1] h R:=
 q03 q01w q01v 8 (by kernel_rfl) (by kernel_rfl) (by simp) hj (by
  kernel_rfl) hv
abbrev qnd:Func:=f173
def qnb:List (Nat × List Nat × List Nat):=[(3,[0,1,2,8,9,10],[0,1,2,8,9])]
def q9w (R:Ko6) (k0:Ko5) (x0 x1 x2 x8 x9 x10:Value):Hp→Prop:=
 qb (qd .lss x9 x10) λ c=>
 qt c (
 qb (qd .add x9 x10) λ d=>
 qb (q0t .u64 d) λ e=>
 qb (qd .shr e (.int .u64 1)) λ g=>
 qb (q0t .i64 g) λ b=>
 q04 4 x0 b λ i=>
 qw w0 i 4 λ j=>
 q1n P w0 x2 [j,x1] λ l=>
 qb (qd .lss l (.int .i64 0)) λ o=>
 qt o (
 qb (qd .add b (.int .i64 1)) λ s=>
 R x0 x1 x2 x8 s x10) (
 R x0 x1 x2 x8 x9 b)) (
 k0 x0 x1 x2 x8 x9)
def q6p (P:Program) (w0:World) (k0:Ko5):Nat→Value→Value→Value→Value→Value→Value→Hp→Prop
 | 0,_,_,_,_,_,_=>λ _=>False
 | m + 1,x0,x1,x2,x8,x9,x10=>q9w P w0 (q6p P w0 k0 m) k0 x0 x1 x2 x8 x9 x10
def qne (k0:Ko5) (x0 x1 x2 x8 x9 x10:Value):Hp→Prop:=λ h=>∃ m,q6p P w0 k0 m x0 x1 x2 x8 x9 x10 h
def qhe (a0 a1 a2:Value) (R:qh):Hp→Prop:=
 qb (q05 a0) λ d=>
 qne P w0 (λ e g i j c=>
 qb (qd .lss c j) λ b=>
 qe b true (λ K=>K i) λ l=>
 qe b true (λ K=>K e) λ o=>
 qe b true (λ K=>K c) λ s=>
 qe b true (q04 4 o s) λ u=>
 qe b true (qw w0 u 4) λ v=>
 qe b true (λ K=>K g) λ z=>
 qe b true (q1n P w0 l [v,z]) λ ba=>
 qe b true (qb (qd .eql ba (.int .i64 0))) λ bb=>
 q0a b bb (.bool false) λ bc=>
 qo [c,bc] R) a0 a1 a2 d (.int .i64 0) d
def qnc (w0:World) (k0:Ko5) (m:Nat) (x0 x1 x2 x8 x9 x10:Value):Hp→Prop:=q0p (stepL ⟨prog,w0,49,qnb⟩ (drw w0 49) (q0v qnd 0)) m (q0s [(0,x0),(1,x1),(2,x2),(8,x8),(9,x9),(10,x10)]) [λ t=>k0 (t 0) (t 1) (t 2) (t 8) (t 9)]
theorem q00s (w0:World) (k0:Ko5):∀ m,qnc w0 k0 m=q6p prog w0 k0 m:=by
 intro m
 induction m with
 | zero=>kernel_rfl
 | succ m ih=>
  show _=λ x0 x1 x2 x8 x9 x10=>q9w prog w0 (q6p prog w0 k0 m) k0 x0 x1 x2 x8 x9 x10
  rw [← ih]
  kernel_rfl
theorem q00t (w0:World):qne prog w0=λ k0 x0 x1 x2 x8 x9 x10 h=>∃ m,qnc w0 k0 m x0 x1 x2 x8 x9 x10 h:=by
 funext k0 x0 x1 x2 x8 x9 x10 h
 simp only [q00s]
 rfl
theorem q00u {w0:World} {a0 a1 a2:Value} (hj:∀ v,v∈[a0,a1,a2]→v≠junk) (hv:qhe prog w0 a0 a1 a2 R h):qf prog w0 qhd [a0,a1,a2] h R:=
 q03 qnd qnb 49 (by kernel_rfl) (by kernel_rfl) (by simp) hj (by
  unfold qhe
  rw [q00t w0]
  kernel_rfl) hv
end
end Go.Proofs.YtfmoemconapmhaaGreat.Ah
