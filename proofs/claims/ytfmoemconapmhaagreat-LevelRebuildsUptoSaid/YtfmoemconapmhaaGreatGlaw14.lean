/- PRINTED by wip/tools/shallow.py: functions of the program as readable words, and that each is what its text says. -/
import Derived.Test.YtfmoemconapmhaaGreatGn
set_option linter.all false
namespace Go.Proofs.YtfmoemconapmhaaGreat.Ah
open Go Go.Proofs.Tryz
noncomputable section
variable (P:Program) (w0:World) {h:Hp} {R:qh}
abbrev qp1:Func:=f7
def qp4:List (Nat × List Nat × List Nat):=[(9,[1,4,5,6,8,39,40],[4,6,8])]
def qdr (R:Ko7) (k0 kr:Ko3) (x1 x4 x5 x6 x8 x39 x40:Value):Hp→Prop:=
 qb (qd .lss x40 x39) λ b=>
 qt b (
 qc (λ K=>K x5) λ c=>
 qc (λ K=>K x40) λ d=>
 qc (q04 3 c d) λ e=>
 qz (qw w0 e 3) λ g=>
 qc (λ K=>K x1) λ i=>
 qc (λ K=>K x40) λ j=>
 qc (q04 3 i j) λ l=>
 qz (qw w0 l 3) λ o=>
 qc (q9r P .neq 61 g o) λ s=>
 q0y (
 qt s (
 kr (.bool false) x6 x8) (
 qb (qd .add x40 (.int .i64 1)) λ u=>
 R x1 x4 x5 x6 x8 x39 u))) (
 k0 x4 x6 x8)
def q7r (P:Program) (w0:World) (k0 kr:Ko3):Nat→Value→Value→Value→Value→Value→Value→Value→Hp→Prop
 | 0,_,_,_,_,_,_,_=>λ _=>False
 | m + 1,x1,x4,x5,x6,x8,x39,x40=>qdr P w0 (q7r P w0 k0 kr m) k0 kr x1 x4 x5 x6 x8 x39 x40
def qi3 (k0 kr:Ko3) (x1 x4 x5 x6 x8 x39 x40:Value):Hp→Prop:=λ h=>∃ m,q7r P w0 k0 kr m x1 x4 x5 x6 x8 x39 x40 h
def qia (a0 a1:Value) (R:qh):Hp→Prop:=
 q15 true 3 a0 λ e=>
 qi P w0 qjl [] λ s=>
 qb (unA .not s) λ u=>
 qt u (
 qo [(.bool false)] R) (
 q0j [] (q00 [(.string .empty),(.string .empty),(.bool false)] 0) 0 3 λ v=>
 q0h w0 3 40 v a1 λ d=>
 qw w0 e 3 λ z=>
 qi P w0 qk5 [z,d] λ g=>
 qb (q0g g 0) λ i=>
 qb (q0g g 1) λ ba=>
 qw w0 e 3 λ bb=>
 qi P w0 qiz [bb,a1] λ j=>
 qb (q0g j 0) λ l=>
 qb (q0g j 1) λ bc=>
 qb (qd .neq ba bc) λ b=>
 qe b false (λ K=>K i) λ bd=>
 qe b false (qb (q1g .neq bd (.pointer none))) λ be=>
 qe b false (λ K=>K l) λ bf=>
 qe b false (qb (q1g .neq bf (.pointer none))) λ bg=>
 qe b false (qb (q9b .neq be bg)) λ bh=>
 q0a b (.bool true) bh λ bi=>
 qt bi (
 qo [(.bool false)] R) (
 qb (q05 d) λ bj=>
 qi3 P w0 (λ bq bk o=>
 qb (q1g .eql o (.pointer none)) λ c=>
 qe c false (λ K=>K bk) λ bl=>
 qe c false (λ K=>K o) λ bm=>
 qe c false (qi P w0 qf1 [bl,bm]) λ bn=>
 q0a c (.bool true) bn λ bo=>
 qo [bo] R) (λ bp br bs=>
 qo [bp] R) a1 (.bool false) d i l bj (.int .i64 0)))
def qp2 (w0:World) (k0 kr:Ko3) (m:Nat) (x1 x4 x5 x6 x8 x39 x40:Value):Hp→Prop:=q0p (stepL ⟨prog,w0,60,qp4⟩ (drw w0 60) (q0v qp1 0)) m (q0s [(1,x1),(4,x4),(5,x5),(6,x6),(8,x8),(39,x39),(40,x40)]) [λ t=>k0 (t 4) (t 6) (t 8),λ t=>kr (t 4) (t 6) (t 8)]
theorem q032 (w0:World) (k0 kr:Ko3):∀ m,qp2 w0 k0 kr m=q7r prog w0 k0 kr m:=by
 intro m
 induction m with
 | zero=>kernel_rfl
 | succ m ih=>
  show _=λ x1 x4 x5 x6 x8 x39 x40=>qdr prog w0 (q7r prog w0 k0 kr m) k0 kr x1 x4 x5 x6 x8 x39 x40
  rw [← ih]
  kernel_rfl
theorem q034 (w0:World):qi3 prog w0=λ k0 kr x1 x4 x5 x6 x8 x39 x40 h=>∃ m,qp2 w0 k0 kr m x1 x4 x5 x6 x8 x39 x40 h:=by
 funext k0 kr x1 x4 x5 x6 x8 x39 x40 h
 simp only [q032]
 rfl
theorem q03z {w0:World} {a0 a1:Value} (hj:∀ v,v∈[a0,a1]→v≠junk) (hv:qia prog w0 a0 a1 R h):qf prog w0 qpa [a0,a1] h R:=
 q03 qp1 qp4 60 (by kernel_rfl) (by kernel_rfl) (by simp) hj (by
  unfold qia
  rw [q034 w0]
  kernel_rfl) hv
abbrev q08z:Func:=f26
def q09i:List (Nat × List Nat × List Nat):=[]
def qti (a0 a1:Value) (R:qh):Hp→Prop:=
 qi P w0 qa2 [a0] λ d=>
 qi P w0 qe1 [a1] λ e=>
 qi P w0 qbe [d,e] λ b=>
 qe b true (λ K=>K a0) λ g=>
 qe b true (λ K=>K a1) λ i=>
 qe b true (qi P w0 qic [i,(.string .empty),(.string .empty)]) λ j=>
 qe b true (qi P w0 qk0 [g,(.string .empty),(.string .empty),j,(.int .i64 1)]) λ l=>
 q0a b l (.bool false) λ c=>
 qe c true (λ K=>K a0) λ o=>
 qe c true (λ K=>K a1) λ s=>
 qe c true (qi P w0 qjn [o,s]) λ u=>
 q0a c u (.bool false) λ v=>
 qo [v] R
theorem q09y {w0:World} {a0 a1:Value} (hj:∀ v,v∈[a0,a1]→v≠junk) (hv:qti prog w0 a0 a1 R h):qf prog w0 qf1 [a0,a1] h R:=
 q03 q08z q09i 21 (by kernel_rfl) (by kernel_rfl) (by simp) hj (by
  kernel_rfl) hv
abbrev q08l:Func:=f30
def q08m:List (Nat × List Nat × List Nat):=[]
def qt6 (R:qh):Hp→Prop:=
 q1t [(0,1,false,(.int .i64 256)),(1,1,false,(.int .i64 2)),(2,1,false,(.int .i64 2))] [(.int .i64 0),(.int .i64 0),(.int .i64 0)] λ v=>
 qi P w0 qft [v] λ l=>
 qb (q0g l 0) λ b=>
 qb (q0g l 1) λ z=>
 qb (qd .neq z (.int .i64 0)) λ e=>
 qe e false (λ K=>K b) λ ba=>
 qe e false (qb (q1g .eql ba (.pointer none))) λ bb=>
 q0a e (.bool true) bb λ d=>
 qe d false (λ K=>K b) λ bc=>
 qe d false (qi P w0 qej [bc,(.string .empty),(.string .empty)]) λ bd=>
 qe d false (qb (qd0 .eql bd .nilFunc)) λ be=>
 q0a d (.bool true) be λ bf=>
 qt bf (
 qo [(.bool false)] R) (
 qi P w0 qbn [b,(.string ⟨#[97]⟩),(.string ⟨#[49]⟩)] λ bx=>
 qi P w0 qbn [b,(.string ⟨#[98]⟩),(.string ⟨#[50]⟩)] λ bz=>
 qi P w0 qbn [b,(.string ⟨#[97]⟩),(.string ⟨#[51]⟩)] λ ca=>
 qi P w0 qir [b,(.string ⟨#[98]⟩)] λ cb=>
 qi P w0 qa2 [b] λ bg=>
 q0j [(0,1,false,(.int .i64 2))] (q00 [(.int .i64 0)] 1) 1 1 λ bh=>
 qi P w0 qbe [bg,bh] λ g=>
 qi P w0 qes [b,(.string ⟨#[97]⟩)] λ o=>
 qb (q0g o 0) λ bi=>
 qb (q0g o 1) λ bj=>
 qi P w0 qes [b,(.string ⟨#[98]⟩)] λ s=>
 qb (q0g s 0) λ cc=>
 qb (q0g s 1) λ bk=>
 qe g true (λ K=>K b) λ bl=>
 qe g true (qi P w0 qje [bl]) λ bm=>
 q0a g bm (.bool false) λ c=>
 qe c true (λ K=>K b) λ bn=>
 qe c true (qi P w0 qa2 [bn]) λ bo=>
 qe c true (q0j [(0,1,false,(.int .i64 0)),(1,1,false,(.int .i64 1))] (q00 [(.int .i64 0)] 2) 2 1) λ bp=>
 qe c true (qi P w0 qbe [bo,bp]) λ bq=>
 q0a c bq (.bool false) λ i=>
 qe i true (λ K=>K bi) λ br=>
 qe i true (qb (qd .eql br (.string ⟨#[51]⟩))) λ bs=>
 q0a i bs (.bool false) λ u=>
 qe u true (λ K=>K bj) λ bt=>
 q0a u bt (.bool false) λ j=>
 qe j true (λ K=>K bk) λ bu=>
 qe j true (qb (unA .not bu)) λ bv=>
 q0a j bv (.bool false) λ bw=>
 qo [bw] R)
theorem q09n {w0:World} (hj:∀ v,v∈[]→v≠junk) (hv:qt6 prog w0  R h):qf prog w0 qjl [] h R:=
 q03 q08l q08m 68 (by kernel_rfl) (by kernel_rfl) (by simp) hj (by
  kernel_rfl) hv
abbrev qsu:Func:=f75
def qsy:List (Nat × List Nat × List Nat):=[(3,[8,9,10,11,12],[10])]
def qsj (P:Program) (w0:World) (b:Nat) (g:Lp) (K:qh) (x8 x9 x10 x12 x13 y25 y26:Value):Hp→Prop:=
 q6h b g (
 qg w0 x13 λ i=>
 qg w0 x8 λ j=>
 qb (q05 j) λ l=>
 qb (qd .geq i l) λ c=>
 qe c false (λ K=>K y25) λ o=>
 qe c false (qg w0 x8) λ s=>
 qe c false (qg w0 x13) λ u=>
 qe c false (q04 2 s u) λ v=>
 qe c false (qk v 0) λ z=>
 qe c false (qg w0 z) λ ba=>
 qe c false (qb (qd .neq o ba)) λ bb=>
 q0a c (.bool true) bb λ d=>
 qe d false (λ K=>K y26) λ bc=>
 qe d false (qg w0 x8) λ bd=>
 qe d false (qg w0 x13) λ be=>
 qe d false (q04 2 bd be) λ bf=>
 qe d false (qk bf 1) λ bg=>
 qe d false (qg w0 bg) λ bh=>
 qe d false (qb (qd .neq bc bh)) λ bi=>
 q0a d (.bool true) bi λ bj=>
 qt bj (
 q0q w0 x10 (.bool false) λ _=>
 q24 b g (some none) K) (
 qg w0 x13 λ bk=>
 qb (qd .add bk (.int .i64 1)) λ bl=>
 q0q w0 x13 bl λ _=>
 qg w0 x12 λ bm=>
 qb (qd .eql bm (.int .i64 0)) λ e=>
 qe e true (qg w0 x13) λ bn=>
 qe e true (qg w0 x9) λ bo=>
 qe e true (qb (qd .eql bn bo)) λ bp=>
 q0a e bp (.bool false) λ bq=>
 qt bq (
 q24 b g (some (some 2)) K) (
 q24 b g none K)))
def qew (R:Ko5) (k0 kr:Ko1) (x8 x9 x10 x11 x12:Value):Hp→Prop:=
 qg w0 x12 λ s=>
 qb (qd .lss s (.int .i64 2)) λ u=>
 qt u (
 q0u [(.int .i64 0)] 1 λ c=>
 q0q w0 c (.int .i64 0) λ _=>
 q3j P w0 x11 2 (λ b g args K=>qsj P w0 b g K x8 x9 x10 x12 c (args.getD 0 undef) (args.tail.getD 0 undef)) (
 qg w0 c λ v=>
 qg w0 x8 λ z=>
 qb (q05 z) λ ba=>
 qb (qd .neq v ba) λ d=>
 qe d true (qg w0 x12) λ bb=>
 qe d true (qb (qd .neq bb (.int .i64 0))) λ bc=>
 qe d true (λ K=>K bc) λ i=>
 qe i false (qg w0 c) λ bd=>
 qe i false (qg w0 x9) λ be=>
 qe i false (qb (qd .neq bd be)) λ bf=>
 qe d true (q0a i (.bool true) bf) λ bg=>
 q0a d bg (.bool false) λ bh=>
 qt bh (
 q0q w0 x10 (.bool false) λ _=>
 kr x10) (
 qg w0 x12 λ bi=>
 q0u [(.int .i64 0)] 1 λ j=>
 q0q w0 j bi λ _=>
 qg w0 j λ bj=>
 qb (qd .add bj (.int .i64 1)) λ bk=>
 q0q w0 j bk λ _=>
 R x8 x9 x10 x11 j)) [(none,(
 kr x10)),(some 2,(
 qg w0 c λ bl=>
 qg w0 x8 λ bm=>
 qb (q05 bm) λ bn=>
 qb (qd .neq bl bn) λ e=>
 qe e true (qg w0 x12) λ bo=>
 qe e true (qb (qd .neq bo (.int .i64 0))) λ bp=>
 qe e true (λ K=>K bp) λ l=>
 qe l false (qg w0 c) λ bq=>
 qe l false (qg w0 x9) λ br=>
 qe l false (qb (qd .neq bq br)) λ bs=>
 qe e true (q0a l (.bool true) bs) λ bt=>
 q0a e bt (.bool false) λ bu=>
 qt bu (
 q0q w0 x10 (.bool false) λ _=>
 kr x10) (
 qg w0 x12 λ bv=>
 q0u [(.int .i64 0)] 1 λ o=>
 q0q w0 o bv λ _=>
 qg w0 o λ bw=>
 qb (qd .add bw (.int .i64 1)) λ bx=>
 q0q w0 o bx λ _=>
 R x8 x9 x10 x11 o)))]) (
 k0 x10)
def q6w (P:Program) (w0:World) (k0 kr:Ko1):Nat→Value→Value→Value→Value→Value→Hp→Prop
 | 0,_,_,_,_,_=>λ _=>False
 | m + 1,x8,x9,x10,x11,x12=>qew P w0 (q6w P w0 k0 kr m) k0 kr x8 x9 x10 x11 x12
def qt0 (k0 kr:Ko1) (x8 x9 x10 x11 x12:Value):Hp→Prop:=λ h=>∃ m,q6w P w0 k0 kr m x8 x9 x10 x11 x12 h
def qjz (a0 a1 a2 a3 a4:Value) (R:qh):Hp→Prop:=
 λ h0=>(q15 false 1 a3 λ d=>
 q15 false 1 a4 λ e=>
 q0u [(.bool false)] 1 λ g=>
 qi P w0 qej [a0,a1,a2] λ i=>
 q0u [(.int .i64 0)] 1 λ b=>
 q0q w0 b (.int .i64 0) λ _=>
 qt0 P w0 (λ c=>
 q0q w0 c (.bool true) λ _=>
 q2e h0 (
 qg w0 c λ j=>
 qo [j] R)) (λ l=>
 q2e h0 (
 qg w0 l λ o=>
 qo [o] R)) d e g i b) h0
def qt9 (w0:World) (k0 kr:Ko1) (m:Nat) (x8 x9 x10 x11 x12:Value):Hp→Prop:=q0p (qh3 ⟨prog,w0,72,qsy⟩ (drw w0 72) (q0v qsu 0)) m (q0s [(8,x8),(9,x9),(10,x10),(11,x11),(12,x12)]) [λ t=>k0 (t 10),λ t=>kr (t 10)]
theorem q06m (w0:World) (k0 kr:Ko1):∀ m,qt9 w0 k0 kr m=q6w prog w0 k0 kr m:=by
 intro m
 induction m with
 | zero=>kernel_rfl
 | succ m ih=>
  show _=λ x8 x9 x10 x11 x12=>qew prog w0 (q6w prog w0 k0 kr m) k0 kr x8 x9 x10 x11 x12
  rw [← ih]
  kernel_rfl
theorem q06j (w0:World):qt0 prog w0=λ k0 kr x8 x9 x10 x11 x12 h=>∃ m,qt9 w0 k0 kr m x8 x9 x10 x11 x12 h:=by
 funext k0 kr x8 x9 x10 x11 x12 h
 simp only [q06m]
 rfl
theorem q0ab {w0:World} {a0 a1 a2 a3 a4:Value} (hj:∀ v,v∈[a0,a1,a2,a3,a4]→v≠junk) (hv:qjz prog w0 a0 a1 a2 a3 a4 R h):qf prog w0 qk0 [a0,a1,a2,a3,a4] h R:=
 qaz qsu qsy 72 (by kernel_rfl) (by kernel_rfl) (by simp) hj (by
  unfold qjz
  rw [q06j w0]
  kernel_rfl) hv
abbrev qq1:Func:=f79
def qq7:List (Nat × List Nat × List Nat):=[(4,[0,1,4,12,13],[4])]
def qe3 (P:Program) (w0:World) (R:Ko5) (k0 kr:Ko1) (x0 x1 x4 x12 x13:Value):Hp→Prop:=
 qb (qd .lss x13 x12) λ b=>
 qt b (
 qc (λ K=>K x0) λ c=>
 qc (λ K=>K x13) λ d=>
 qc (q04 1 c d) λ e=>
 qz (qg w0 e) λ g=>
 qc (λ K=>K x1) λ i=>
 qc (λ K=>K x13) λ j=>
 qc (q04 1 i j) λ l=>
 qz (qg w0 l) λ o=>
 qc (qb (qd .neq g o)) λ s=>
 q0y (
 qt s (
 kr (.bool false)) (
 qb (qd .add x13 (.int .i64 1)) λ u=>
 R x0 x1 x4 x12 u))) (
 k0 x4)
def q83 (P:Program) (w0:World) (k0 kr:Ko1):Nat→Value→Value→Value→Value→Value→Hp→Prop
 | 0,_,_,_,_,_=>λ _=>False
 | m + 1,x0,x1,x4,x12,x13=>qe3 P w0 (q83 P w0 k0 kr m) k0 kr x0 x1 x4 x12 x13
def qpx (k0 kr:Ko1) (x0 x1 x4 x12 x13:Value):Hp→Prop:=λ h=>∃ m,q83 P w0 k0 kr m x0 x1 x4 x12 x13 h
def qiq (a0 a1:Value) (R:qh):Hp→Prop:=
 qb (q05 a0) λ b=>
 qb (q05 a1) λ c=>
 qb (qd .neq b c) λ d=>
 qt d (
 qo [(.bool false)] R) (
 qb (q05 a0) λ e=>
 qpx P w0 (λ i=>
 qo [(.bool true)] R) (λ g=>
 qo [g] R) a0 a1 (.bool false) e (.int .i64 0))
def qq3 (w0:World) (k0 kr:Ko1) (m:Nat) (x0 x1 x4 x12 x13:Value):Hp→Prop:=q0p (stepL ⟨prog,w0,26,qq7⟩ (drw w0 26) (q0v qq1 0)) m (q0s [(0,x0),(1,x1),(4,x4),(12,x12),(13,x13)]) [λ t=>k0 (t 4),λ t=>kr (t 4)]
theorem q044 (w0:World) (k0 kr:Ko1):∀ m,qq3 w0 k0 kr m=q83 prog w0 k0 kr m:=by
 intro m
 induction m with
 | zero=>kernel_rfl
 | succ m ih=>
  show _=λ x0 x1 x4 x12 x13=>qe3 prog w0 (q83 prog w0 k0 kr m) k0 kr x0 x1 x4 x12 x13
  rw [← ih]
  kernel_rfl
theorem q04b (w0:World):qpx prog w0=λ k0 kr x0 x1 x4 x12 x13 h=>∃ m,qq3 w0 k0 kr m x0 x1 x4 x12 x13 h:=by
 funext k0 kr x0 x1 x4 x12 x13 h
 simp only [q044]
 rfl
theorem q063 {w0:World} {a0 a1:Value} (hj:∀ v,v∈[a0,a1]→v≠junk) (hv:qiq prog w0 a0 a1 R h):qf prog w0 qbe [a0,a1] h R:=
 q03 qq1 qq7 26 (by kernel_rfl) (by kernel_rfl) (by simp) hj (by
  unfold qiq
  rw [q04b w0]
  kernel_rfl) hv
abbrev qj3:Func:=f80
def qjh:List (Nat × List Nat × List Nat):=[(5,[4,5,6,27,28],[4]),(10,[4,5,6,7,27,28,45,46],[4,5,6,27,28])]
def qen (P:Program) (w0:World) (R:Ko8) (k2:Ko5) (x4 x5 x6 x7 x27 x28 x45 x46:Value):Hp→Prop:=
 qb (qd .lss x46 x45) λ c=>
 qt c (
 q04 1 x5 x7 λ d=>
 qg w0 d λ b=>
 q04 1 b x46 λ e=>
 qg w0 e λ g=>
 qb (qd .add g (.int .u8 1)) λ i=>
 q04 1 b x46 λ j=>
 q0q w0 j i λ _=>
 qb (qd .add x46 (.int .i64 1)) λ l=>
 R x4 x5 x6 x7 x27 x28 x45 l) (
 k2 x4 x5 x6 x27 x28)
def q8l (P:Program) (w0:World) (k2:Ko5):Nat→Value→Value→Value→Value→Value→Value→Value→Value→Hp→Prop
 | 0,_,_,_,_,_,_,_,_=>λ _=>False
 | m + 1,x4,x5,x6,x7,x27,x28,x45,x46=>qen P w0 (q8l P w0 k2 m) k2 x4 x5 x6 x7 x27 x28 x45 x46
def qrv (k2:Ko5) (x4 x5 x6 x7 x27 x28 x45 x46:Value):Hp→Prop:=λ h=>∃ m,q8l P w0 k2 m x4 x5 x6 x7 x27 x28 x45 x46 h
def qbk (R:Ko5) (k0 kr:Ko1) (x4 x5 x6 x27 x28:Value):Hp→Prop:=
 qb (qd .lss x28 x27) λ b=>
 qt b (
 qc (λ K=>K x5) λ c=>
 qc (λ K=>K x28) λ d=>
 qc (q04 1 c d) λ e=>
 qz (qg w0 e) λ g=>
 qz (q1z w0 g) λ i=>
 qc (λ K=>K x6) λ j=>
 qc (λ K=>K x28) λ l=>
 qc (q04 1 j l) λ o=>
 qz (qg w0 o) λ s=>
 qc (qb (qd .neq i s)) λ u=>
 q0y (
 qt u (
 kr (.bool false)) (
 q04 1 x5 x28 λ v=>
 qg w0 v λ z=>
 qb (q05 z) λ ba=>
 qrv P w0 (λ bb bc bd be bf=>
 qb (qd .add bf (.int .i64 1)) λ bg=>
 R bb bc bd be bg) x4 x5 x6 x28 x27 x28 ba (.int .i64 0)))) (
 k0 x4)
def q8j (P:Program) (w0:World) (k0 kr:Ko1):Nat→Value→Value→Value→Value→Value→Hp→Prop
 | 0,_,_,_,_,_=>λ _=>False
 | m + 1,x4,x5,x6,x27,x28=>qbk P w0 (q8j P w0 k0 kr m) k0 kr x4 x5 x6 x27 x28
def qs5 (k0 kr:Ko1) (x4 x5 x6 x27 x28:Value):Hp→Prop:=λ h=>∃ m,q8j P w0 k0 kr m x4 x5 x6 x27 x28 h
def qjp (a0 a1:Value) (R:qh):Hp→Prop:=
 qi P w0 qiw [a0] λ c=>
 qi P w0 qba [a1] λ d=>
 qc (λ K=>K c) λ i=>
 qc (qb (q05 i)) λ j=>
 qc (λ K=>K d) λ l=>
 qc (qb (q05 l)) λ o=>
 qc (qb (qd .neq j o)) λ s=>
 qc (λ K=>K s) λ b=>
 qc (qe b false (λ K=>K a0)) λ u=>
 qc (qe b false (λ K=>K a1)) λ v=>
 q0d [
 (qe b false (qi P w0 qik [u]) λ e=>
 q0c [] (
 qz (qe b false (q1z w0 e)) λ g=>
 q0d [
 (qe b false (qi P w0 qi0 [v]) λ z=>
 q0c [(q26 (qe b false (q1z w0 e)) g)] (
 qc (qe b false (qb (qd .neq g z))) λ ba=>
 qc (q0a b (.bool true) ba) λ bb=>
 q0y (
 qt bb (
 qo [(.bool false)] R) (
 qb (q05 c) λ bc=>
 qs5 P w0 (λ be=>
 qo [(.bool true)] R) (λ bd=>
 qo [bd] R) (.bool false) c d bc (.int .i64 0)))))]))]
def qrt (w0:World) (k2:Ko5) (m:Nat) (x4 x5 x6 x7 x27 x28 x45 x46:Value):Hp→Prop:=q0p (stepL ⟨prog,w0,60,qjh⟩ (drw w0 60) (q0v qj3 1)) m (q0s [(4,x4),(5,x5),(6,x6),(7,x7),(27,x27),(28,x28),(45,x45),(46,x46)]) [λ t=>k2 (t 4) (t 5) (t 6) (t 27) (t 28)]
theorem q05m (w0:World) (k2:Ko5):∀ m,qrt w0 k2 m=q8l prog w0 k2 m:=by
 intro m
 induction m with
 | zero=>kernel_rfl
 | succ m ih=>
  show _=λ x4 x5 x6 x7 x27 x28 x45 x46=>qen prog w0 (q8l prog w0 k2 m) k2 x4 x5 x6 x7 x27 x28 x45 x46
  rw [← ih]
  kernel_rfl
theorem q05r (w0:World):qrv prog w0=λ k2 x4 x5 x6 x7 x27 x28 x45 x46 h=>∃ m,qrt w0 k2 m x4 x5 x6 x7 x27 x28 x45 x46 h:=by
 funext k2 x4 x5 x6 x7 x27 x28 x45 x46 h
 simp only [q05m]
 rfl
def qro (w0:World) (k0 kr:Ko1) (m:Nat) (x4 x5 x6 x27 x28:Value):Hp→Prop:=q0p (stepL ⟨prog,w0,60,qjh⟩ (drw w0 60) (q0v qj3 0)) m (q0s [(4,x4),(5,x5),(6,x6),(27,x27),(28,x28)]) [λ t=>k0 (t 4),λ t=>kr (t 4)]
theorem q060 (w0:World) (k0 kr:Ko1):∀ m,qro w0 k0 kr m=q8j prog w0 k0 kr m:=by
 intro m
 induction m with
 | zero=>kernel_rfl
 | succ m ih=>
  show _=λ x4 x5 x6 x27 x28=>qbk prog w0 (q8j prog w0 k0 kr m) k0 kr x4 x5 x6 x27 x28
  rw [← ih]
  unfold qbk
  rw [q05r w0]
  kernel_rfl
theorem q05x (w0:World):qs5 prog w0=λ k0 kr x4 x5 x6 x27 x28 h=>∃ m,qro w0 k0 kr m x4 x5 x6 x27 x28 h:=by
 funext k0 kr x4 x5 x6 x27 x28 h
 simp only [q060]
 rfl
theorem q08u {w0:World} {a0 a1:Value} (hj:∀ v,v∈[a0,a1]→v≠junk) (hv:qjp prog w0 a0 a1 R h):qf prog w0 qjn [a0,a1] h R:=
 q03 qj3 qjh 60 (by kernel_rfl) (by kernel_rfl) (by simp) hj (by
  unfold qjp
  rw [q05x w0]
  kernel_rfl) hv
end
end Go.Proofs.YtfmoemconapmhaaGreat.Ah
