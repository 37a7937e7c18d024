/- PRINTED by wip/tools/shallow.py: functions of the program as readable words, and that each is what its text says. -/
import Derived.Test.YtfmoemconapmhaaGreatGn
set_option linter.all false
namespace Go.Proofs.YtfmoemconapmhaaGreat.Ah
open Go Go.Proofs.Tryz
noncomputable section
variable (P:Program) (w0:World) {h:Hp} {R:qh}
abbrev q0c8:Func:=f38
def q0cb:List (Nat × List Nat × List Nat):=[]
def quj (a0 a1 a2:Value) (R:qh):Hp→Prop:=
 q1t [(0,1,false,a1),(1,1,false,a2)] [(.string .empty),(.string .empty),(.bool false)] λ b=>
 qi P w0 qfi [a0,b] λ c=>
 qo [c] R
theorem q0d5 {w0:World} {a0 a1 a2:Value} (hj:∀ v,v∈[a0,a1,a2]→v≠junk) (hv:quj prog w0 a0 a1 a2 R h):qf prog w0 qfh [a0,a1,a2] h R:=
 q03 q0c8 q0cb 12 (by kernel_rfl) (by kernel_rfl) (by simp) hj (by
  kernel_rfl) hv
abbrev q0ac:Func:=f40
def q0aj:List (Nat × List Nat × List Nat):=[]
def qtv (a0 a1:Value) (R:qh):Hp→Prop:=
 q1t [(0,1,false,a1),(2,1,false,(.bool true))] [(.string .empty),(.string .empty),(.bool false)] λ b=>
 qi P w0 qfi [a0,b] λ c=>
 qo [c] R
theorem q0aq {w0:World} {a0 a1:Value} (hj:∀ v,v∈[a0,a1]→v≠junk) (hv:qtv prog w0 a0 a1 R h):qf prog w0 qf6 [a0,a1] h R:=
 q03 q0ac q0aj 9 (by kernel_rfl) (by kernel_rfl) (by simp) hj (by
  kernel_rfl) hv
abbrev q0c9:Func:=f42
def q0bu:List (Nat × List Nat × List Nat):=[]
def quh (a0:Value) (R:qh):Hp→Prop:=
 qi P w0 q8t [a0] λ b=>
 qb (unA .not b) λ c=>
 qt c (
 qo [(.int .i64 0)] R) (
 q02 a0 λ d=>
 qk d 0 λ e=>
 qg w0 e λ g=>
 qi P w0 qhs [g] λ i=>
 qo [i] R)
theorem q0cx {w0:World} {a0:Value} (hj:∀ v,v∈[a0]→v≠junk) (hv:quh prog w0 a0 R h):qf prog w0 qfg [a0] h R:=
 q03 q0c9 q0bu 11 (by kernel_rfl) (by kernel_rfl) (by simp) hj (by
  kernel_rfl) hv
abbrev q0by:Func:=f47
def q0c6:List (Nat × List Nat × List Nat):=[]
def qum (P:Program) (w0:World) (a0:Value) (R:qh):Hp→Prop:=
 q15 false 1 a0 λ b=>
 q58 qa7 [] [b] λ c=>
 qo [c] R
theorem q0cs {w0:World} {a0:Value} (hj:∀ v,v∈[a0]→v≠junk) (hv:qum prog w0 a0 R h):qf prog w0 qa9 [a0] h R:=
 q03 q0by q0c6 4 (by kernel_rfl) (by kernel_rfl) (by simp) hj (by
  kernel_rfl) hv
abbrev q0ap:Func:=f48
def q0as:List (Nat × List Nat × List Nat):=[]
def qu0 (a0:Value) (R:qh):Hp→Prop:=
 qi P w0 q8t [a0] λ b=>
 qt b (
 qi P w0 qdm [] λ c=>
 q02 a0 λ d=>
 qk d 0 λ e=>
 q0q w0 e c λ _=>
 qo [] R) (
 qo [] R)
theorem q0br {w0:World} {a0:Value} (hj:∀ v,v∈[a0]→v≠junk) (hv:qu0 prog w0 a0 R h):qf prog w0 qk6 [a0] h R:=
 q03 q0ap q0as 8 (by kernel_rfl) (by kernel_rfl) (by simp) hj (by
  kernel_rfl) hv
abbrev qkj:Func:=f52
def qkq:List (Nat × List Nat × List Nat):=[(3,[1,5,13,14,15],[1,5]),(13,[1,10,35,36,37],[10])]
def qvj (P:Program) (w0:World) (b:Nat) (g:Lp) (K:qh) (x8 y21:Value):Hp→Prop:=
 q0u [(.string .empty),(.string .empty),(.bool false)] 3 λ c=>
 q0k w0 c y21 3 λ _=>
 q6h b g (
 qg w0 x8 λ d=>
 qk c 0 λ e=>
 qg w0 e λ i=>
 qw w0 c 3 λ j=>
 q1t [(0,1,false,i),(1,3,true,j)] [(.string .empty),(.string .empty),(.string .empty),(.bool false)] λ l=>
 q0j [(0,4,true,l)] (q00 [(.string .empty),(.string .empty),(.string .empty),(.bool false)] 1) 1 4 λ o=>
 q0h w0 4 56 d o λ s=>
 q0q w0 x8 s λ _=>
 q24 b g none K)
def qfq (R:Ko5) (k0:Ko2) (x1 x5 x13 x14 x15:Value):Hp→Prop:=
 qb (qd .lss x15 x14) λ d=>
 qt d (
 q04 1 x13 x15 λ e=>
 qg w0 e λ i=>
 q0u [(.slice none 0 0)] 1 λ c=>
 qi P w0 qfc [i,(.string .empty),(.string .empty)] λ j=>
 q3j P w0 j 1 (λ b g args K=>qvj P w0 b g K c (args.getD 0 undef)) (
 qg w0 c λ l=>
 q0j [(0,1,false,l)] (q00 [(.slice none 0 0)] 1) 1 1 λ o=>
 q0h w0 1 24 x5 o λ s=>
 qb (qd .add x15 (.int .i64 1)) λ u=>
 R x1 s x13 x14 u) []) (
 k0 x1 x5)
def q8y (P:Program) (w0:World) (k0:Ko2):Nat→Value→Value→Value→Value→Value→Hp→Prop
 | 0,_,_,_,_,_=>λ _=>False
 | m + 1,x1,x5,x13,x14,x15=>qfq P w0 (q8y P w0 k0 m) k0 x1 x5 x13 x14 x15
def qvi (k0:Ko2) (x1 x5 x13 x14 x15:Value):Hp→Prop:=λ h=>∃ m,q8y P w0 k0 m x1 x5 x13 x14 x15 h
def qfr (P:Program) (w0:World) (R:Ko5) (k4:Ko1) (x1 x10 x35 x36 x37:Value):Hp→Prop:=
 qb (qd .lss x37 x36) λ d=>
 qt d (
 q04 4 x35 x37 λ e=>
 qw w0 e 4 λ g=>
 q0u [(.string .empty),(.string .empty),(.string .empty),(.bool false)] 4 λ c=>
 q0k w0 c g 4 λ _=>
 qb (unA .not x1) λ b=>
 qe b false (qk c 1) λ i=>
 qe b false (qk i 2) λ j=>
 qe b false (qg w0 j) λ l=>
 qe b false (qb (unA .not l)) λ o=>
 q0a b (.bool true) o λ s=>
 qt s (
 qk c 1 λ u=>
 qw w0 u 3 λ v=>
 q0j [(0,3,true,v)] (q00 [(.string .empty),(.string .empty),(.bool false)] 1) 1 3 λ z=>
 q0h w0 3 40 x10 z λ ba=>
 qb (qd .add x37 (.int .i64 1)) λ bb=>
 R x1 ba x35 x36 bb) (
 qb (qd .add x37 (.int .i64 1)) λ bc=>
 R x1 x10 x35 x36 bc)) (
 k4 x10)
def q69 (P:Program) (w0:World) (k4:Ko1):Nat→Value→Value→Value→Value→Value→Hp→Prop
 | 0,_,_,_,_,_=>λ _=>False
 | m + 1,x1,x10,x35,x36,x37=>qfr P w0 (q69 P w0 k4 m) k4 x1 x10 x35 x36 x37
def qv2 (k4:Ko1) (x1 x10 x35 x36 x37:Value):Hp→Prop:=λ h=>∃ m,q69 P w0 k4 m x1 x10 x35 x36 x37 h
def qkv (a0 a1:Value) (R:qh):Hp→Prop:=
 λ h0=>(qb (q05 a0) λ c=>
 qvi P w0 (λ d e=>
 qi P w0 qdq [e] λ b=>
 qb (q05 b) λ g=>
 qv2 P w0 (λ i=>
 q2e h0 (
 qo [i] R)) d (.slice none 0 0) b g (.int .i64 0)) a1 (.slice none 0 0) a0 c (.int .i64 0)) h0
def qv5 (w0:World) (k4:Ko1) (m:Nat) (x1 x10 x35 x36 x37:Value):Hp→Prop:=q0p (qh3 ⟨prog,w0,56,qkq⟩ (drw w0 56) (q0v qkj 1)) m (q0s [(1,x1),(10,x10),(35,x35),(36,x36),(37,x37)]) [λ t=>k4 (t 10)]
theorem q0bf (w0:World) (k4:Ko1):∀ m,qv5 w0 k4 m=q69 prog w0 k4 m:=by
 intro m
 induction m with
 | zero=>kernel_rfl
 | succ m ih=>
  show _=λ x1 x10 x35 x36 x37=>qfr prog w0 (q69 prog w0 k4 m) k4 x1 x10 x35 x36 x37
  rw [← ih]
  kernel_rfl
theorem q0b1 (w0:World):qv2 prog w0=λ k4 x1 x10 x35 x36 x37 h=>∃ m,qv5 w0 k4 m x1 x10 x35 x36 x37 h:=by
 funext k4 x1 x10 x35 x36 x37 h
 simp only [q0bf]
 rfl
def qvb (w0:World) (k0:Ko2) (m:Nat) (x1 x5 x13 x14 x15:Value):Hp→Prop:=q0p (qh3 ⟨prog,w0,56,qkq⟩ (drw w0 56) (q0v qkj 0)) m (q0s [(1,x1),(5,x5),(13,x13),(14,x14),(15,x15)]) [λ t=>k0 (t 1) (t 5)]
theorem q0b8 (w0:World) (k0:Ko2):∀ m,qvb w0 k0 m=q8y prog w0 k0 m:=by
 intro m
 induction m with
 | zero=>kernel_rfl
 | succ m ih=>
  show _=λ x1 x5 x13 x14 x15=>qfq prog w0 (q8y prog w0 k0 m) k0 x1 x5 x13 x14 x15
  rw [← ih]
  kernel_rfl
theorem q0bc (w0:World):qvi prog w0=λ k0 x1 x5 x13 x14 x15 h=>∃ m,qvb w0 k0 m x1 x5 x13 x14 x15 h:=by
 funext k0 x1 x5 x13 x14 x15 h
 simp only [q0b8]
 rfl
theorem q0fc {w0:World} {a0 a1:Value} (hj:∀ v,v∈[a0,a1]→v≠junk) (hv:qkv prog w0 a0 a1 R h):qf prog w0 ql2 [a0,a1] h R:=
 qaz qkj qkq 56 (by kernel_rfl) (by kernel_rfl) (by simp) hj (by
  unfold qkv
  rw [q0bc w0,q0b1 w0]
  kernel_rfl) hv
abbrev q0ao:Func:=f58
def q0al:List (Nat × List Nat × List Nat):=[]
def qty (a0:Value) (R:qh):Hp→Prop:=
 qi P w0 qa8 [a0] λ b=>
 qb (unA .not b) λ c=>
 qt c (
 qo [(.slice none 0 0)] R) (
 q02 a0 λ d=>
 qk d 0 λ e=>
 qg w0 e λ g=>
 qi P w0 qid [g] λ i=>
 qo [i] R)
theorem q0be {w0:World} {a0:Value} (hj:∀ v,v∈[a0]→v≠junk) (hv:qty prog w0 a0 R h):qf prog w0 qf8 [a0] h R:=
 q03 q0ao q0al 11 (by kernel_rfl) (by kernel_rfl) (by simp) hj (by
  kernel_rfl) hv
abbrev q0da:Func:=f84
def q0d1:List (Nat × List Nat × List Nat):=[]
def qv4 (R:qh):Hp→Prop:=
 qi P w0 qdm [] λ b=>
 q1t [(0,1,false,b)] [(.pointer none)] λ c=>
 q15 true 1 c λ d=>
 qo [d] R
theorem q0dk {w0:World} (hj:∀ v,v∈[]→v≠junk) (hv:qv4 prog w0  R h):qf prog w0 qfm [] h R:=
 q03 q0da q0d1 4 (by kernel_rfl) (by kernel_rfl) (by simp) hj (by
  kernel_rfl) hv
abbrev qv1:Func:=f85
def qv3:List (Nat × List Nat × List Nat):=[(2,[0,2,5,6,7],[2])]
def qfk (R:Ko5) (k0 kr:Ko1) (x0 x2 x5 x6 x7:Value):Hp→Prop:=
 qb (qd .lss x7 x6) λ e=>
 qt e (
 q04 3 x5 x7 λ g=>
 qw w0 g 3 λ i=>
 q0u [(.string .empty),(.string .empty),(.bool false)] 3 λ d=>
 q0k w0 d i 3 λ _=>
 qz (qw w0 d 3) λ j=>
 q0d [
 (qi P w0 qg5 [j] λ l=>
 q0c [] (
 qc (qb (unA .not l)) λ o=>
 qc (λ K=>K o) λ c=>
 qc (qe c false (λ K=>K x7)) λ s=>
 qc (qe c false (qb (qd .gtr s (.int .i64 0)))) λ u=>
 qc (qe c false (λ K=>K u)) λ b=>
 qc (qe b true (λ K=>K x0)) λ v=>
 qc (qe b true (λ K=>K x7)) λ z=>
 qc (qe b true (qb (qd .sub z (.int .i64 1)))) λ ba=>
 qc (qe b true (q04 3 v ba)) λ bb=>
 qc (qe b true (qk bb 0)) λ bc=>
 qz (qe b true (qg w0 bc)) λ bd=>
 qc (qe b true (qk d 0)) λ be=>
 qz (qe b true (qg w0 be)) λ bf=>
 qc (qe b true (qb (qd .geq bd bf))) λ bg=>
 qc (qe c false (q0a b bg (.bool false))) λ bh=>
 qc (q0a c (.bool true) bh) λ bi=>
 q0y (
 qt bi (
 kr (.int .i64 120)) (
 qb (qd .add x7 (.int .i64 1)) λ bj=>
 R x0 x2 x5 x6 bj))))]) (
 k0 x2)
def q70 (P:Program) (w0:World) (k0 kr:Ko1):Nat→Value→Value→Value→Value→Value→Hp→Prop
 | 0,_,_,_,_,_=>λ _=>False
 | m + 1,x0,x2,x5,x6,x7=>qfk P w0 (q70 P w0 k0 kr m) k0 kr x0 x2 x5 x6 x7
def qv0 (k0 kr:Ko1) (x0 x2 x5 x6 x7:Value):Hp→Prop:=λ h=>∃ m,q70 P w0 k0 kr m x0 x2 x5 x6 x7 h
def qky (a0:Value) (R:qh):Hp→Prop:=
 qb (q05 a0) λ b=>
 qv0 P w0 (λ d=>
 qo [(.int .i64 0)] R) (λ c=>
 qo [c] R) a0 (.int .i64 0) a0 b (.int .i64 0)
def qvd (w0:World) (k0 kr:Ko1) (m:Nat) (x0 x2 x5 x6 x7:Value):Hp→Prop:=q0p (stepL ⟨prog,w0,31,qv3⟩ (drw w0 31) (q0v qv1 0)) m (q0s [(0,x0),(2,x2),(5,x5),(6,x6),(7,x7)]) [λ t=>k0 (t 2),λ t=>kr (t 2)]
theorem q0b5 (w0:World) (k0 kr:Ko1):∀ m,qvd w0 k0 kr m=q70 prog w0 k0 kr m:=by
 intro m
 induction m with
 | zero=>kernel_rfl
 | succ m ih=>
  show _=λ x0 x2 x5 x6 x7=>qfk prog w0 (q70 prog w0 k0 kr m) k0 kr x0 x2 x5 x6 x7
  rw [← ih]
  kernel_rfl
theorem q0b0 (w0:World):qv0 prog w0=λ k0 kr x0 x2 x5 x6 x7 h=>∃ m,qvd w0 k0 kr m x0 x2 x5 x6 x7 h:=by
 funext k0 kr x0 x2 x5 x6 x7 h
 simp only [q0b5]
 rfl
theorem q0fl {w0:World} {a0:Value} (hj:∀ v,v∈[a0]→v≠junk) (hv:qky prog w0 a0 R h):qf prog w0 qfw [a0] h R:=
 q03 qv1 qv3 31 (by kernel_rfl) (by kernel_rfl) (by simp) hj (by
  unfold qky
  rw [q0b0 w0]
  kernel_rfl) hv
abbrev q0bw:Func:=f90
def q0c3:List (Nat × List Nat × List Nat):=[]
def qut (a0 a1:Value) (R:qh):Hp→Prop:=
 q15 true 3 a1 λ b=>
 qi P w0 q8t [a0] λ c=>
 qb (unA .not c) λ d=>
 qt d (
 qo [(.int .i64 6)] R) (
 qw w0 b 3 λ e=>
 qi P w0 qg5 [e] λ g=>
 qb (unA .not g) λ i=>
 qt i (
 qo [(.int .i64 120)] R) (
 qc (λ K=>K a0) λ j=>
 qc (q02 j) λ l=>
 qc (qk l 0) λ o=>
 qz (qg w0 o) λ s=>
 qc (qk b 0) λ u=>
 qz (qg w0 u) λ v=>
 qz (qw w0 b 3) λ z=>
 q0d [
 (qi P w0 qhp [s,v,z] λ ba=>
 q0c [] (
 q0y (
 qo [(.int .i64 0)] R)))]))
theorem q0cu {w0:World} {a0 a1:Value} (hj:∀ v,v∈[a0,a1]→v≠junk) (hv:qut prog w0 a0 a1 R h):qf prog w0 qfi [a0,a1] h R:=
 q03 q0bw q0c3 21 (by kernel_rfl) (by kernel_rfl) (by simp) hj (by
  kernel_rfl) hv
abbrev q0bm:Func:=f91
def q0az:List (Nat × List Nat × List Nat):=[]
def qu8 (P:Program) (w0:World) (a0:Value) (R:qh):Hp→Prop:=
 qb (q1g .neq a0 (.pointer none)) λ b=>
 qe b true (λ K=>K a0) λ c=>
 qe b true (q02 c) λ d=>
 qe b true (qk d 0) λ e=>
 qe b true (qg w0 e) λ g=>
 qe b true (qb (q1g .neq g (.pointer none))) λ i=>
 q0a b i (.bool false) λ j=>
 qo [j] R
theorem q0cc {w0:World} {a0:Value} (hj:∀ v,v∈[a0]→v≠junk) (hv:qu8 prog w0 a0 R h):qf prog w0 q8t [a0] h R:=
 q03 q0bm q0az 12 (by kernel_rfl) (by kernel_rfl) (by simp) hj (by
  kernel_rfl) hv
abbrev qkh:Func:=f95
def qkr:List (Nat × List Nat × List Nat):=[(9,[0,1,7,8,9,35,36,37],[0,1,7,8,9]),(16,[7,9,63,64,65],[7,9])]
def qfo (R:Ko8) (k0:Ko5) (x0 x1 x7 x8 x9 x35 x36 x37:Value):Hp→Prop:=
 qb (qd .lss x37 x36) λ c=>
 qt c (
 q04 3 x35 x37 λ d=>
 qw w0 d 3 λ e=>
 q0u [(.string .empty),(.int .i64 0),(.int .i64 0)] 3 λ b=>
 q0k w0 b e 3 λ _=>
 qk b 0 λ g=>
 qg w0 g λ i=>
 qi P w0 qj7 [x9,i] λ ba=>
 qk b 1 λ j=>
 qg w0 j λ l=>
 qb (q0t .u64 l) λ o=>
 qi P w0 q5z [x9,o] λ bb=>
 qk b 2 λ s=>
 qg w0 s λ u=>
 qb (q0t .u64 u) λ v=>
 qi P w0 q5z [x9,v] λ bc=>
 qb (qd .add x37 (.int .i64 1)) λ z=>
 R x0 x1 x7 x8 x9 x35 x36 z) (
 k0 x0 x1 x7 x8 x9)
def q8w (P:Program) (w0:World) (k0:Ko5):Nat→Value→Value→Value→Value→Value→Value→Value→Value→Hp→Prop
 | 0,_,_,_,_,_,_,_,_=>λ _=>False
 | m + 1,x0,x1,x7,x8,x9,x35,x36,x37=>qfo P w0 (q8w P w0 k0 m) k0 x0 x1 x7 x8 x9 x35 x36 x37
def qve (k0:Ko5) (x0 x1 x7 x8 x9 x35 x36 x37:Value):Hp→Prop:=λ h=>∃ m,q8w P w0 k0 m x0 x1 x7 x8 x9 x35 x36 x37 h
def qfp (R:Ko5) (k2:Ko2) (x7 x9 x63 x64 x65:Value):Hp→Prop:=
 qb (qd .lss x65 x64) λ b=>
 qt b (
 q04 1 x63 x65 λ c=>
 qg w0 c λ d=>
 qb (q0t .u32 d) λ e=>
 qi P w0 q8n [x9,e] λ i=>
 qb (qd .add x65 (.int .i64 1)) λ g=>
 R x7 x9 x63 x64 g) (
 k2 x7 x9)
def q90 (P:Program) (w0:World) (k2:Ko2):Nat→Value→Value→Value→Value→Value→Hp→Prop
 | 0,_,_,_,_,_=>λ _=>False
 | m + 1,x7,x9,x63,x64,x65=>qfp P w0 (q90 P w0 k2 m) k2 x7 x9 x63 x64 x65
def qv7 (k2:Ko2) (x7 x9 x63 x64 x65:Value):Hp→Prop:=λ h=>∃ m,q90 P w0 k2 m x7 x9 x63 x64 x65 h
def qkw (a0 a1:Value) (R:qh):Hp→Prop:=
 qb (qd .lss a1 (.int .i64 256)) λ c=>
 qe c false (λ K=>K a1) λ u=>
 qe c false (qb (qd .gtr u (.int .i64 4096))) λ v=>
 q0a c (.bool true) v λ z=>
 qt z (
 qo [(.slice none 0 0),(.int .i64 1)] R) (
 qi P w0 qfw [a0] λ e=>
 qb (qd .neq e (.int .i64 0)) λ ba=>
 qt ba (
 qo [(.slice none 0 0),e] R) (
 qi P w0 qki [a0,a1] λ g=>
 qb (q0g g 0) λ bb=>
 qb (q0g g 1) λ d=>
 qi P w0 qa5 [(.int .i64 1073741824)] λ bc=>
 qb (q05 d) λ bd=>
 qve P w0 (λ be bf i bg bh=>
 qb (q05 be) λ bi=>
 qb (q05 bg) λ bj=>
 qb (q05 i) λ bk=>
 q0j [(0,1,false,bf),(1,1,false,bi),(2,1,false,bj),(3,1,false,bk)] (q00 [(.int .i64 0)] 4) 4 1 λ j=>
 qb (q05 j) λ bl=>
 qv7 P w0 (λ bm b=>
 qi P w0 q6v [b] λ l=>
 qb (q0g l 0) λ bn=>
 qb (q0g l 1) λ bs=>
 qi P w0 qac [bn] λ bo=>
 qi P w0 q8n [b,bo] λ bt=>
 qi P w0 qbl [b,(.string ⟨#[68,82,85,78]⟩)] λ bu=>
 qi P w0 q6v [b] λ o=>
 qb (q0g o 0) λ bp=>
 qb (q0g o 1) λ s=>
 qb (qd .neq s (.int .i64 0)) λ bq=>
 qt bq (
 qo [(.slice none 0 0),s] R) (
 q0h w0 1 1 bm bp λ br=>
 qo [br,(.int .i64 0)] R)) i bh j bl (.int .i64 0)) a0 a1 bb d bc d bd (.int .i64 0)))
def qvg (w0:World) (k2:Ko2) (m:Nat) (x7 x9 x63 x64 x65:Value):Hp→Prop:=q0p (stepL ⟨prog,w0,96,qkr⟩ (drw w0 96) (q0v qkh 1)) m (q0s [(7,x7),(9,x9),(63,x63),(64,x64),(65,x65)]) [λ t=>k2 (t 7) (t 9)]
theorem q0b4 (w0:World) (k2:Ko2):∀ m,qvg w0 k2 m=q90 prog w0 k2 m:=by
 intro m
 induction m with
 | zero=>kernel_rfl
 | succ m ih=>
  show _=λ x7 x9 x63 x64 x65=>qfp prog w0 (q90 prog w0 k2 m) k2 x7 x9 x63 x64 x65
  rw [← ih]
  kernel_rfl
theorem q0ba (w0:World):qv7 prog w0=λ k2 x7 x9 x63 x64 x65 h=>∃ m,qvg w0 k2 m x7 x9 x63 x64 x65 h:=by
 funext k2 x7 x9 x63 x64 x65 h
 simp only [q0b4]
 rfl
def qvm (w0:World) (k0:Ko5) (m:Nat) (x0 x1 x7 x8 x9 x35 x36 x37:Value):Hp→Prop:=q0p (stepL ⟨prog,w0,96,qkr⟩ (drw w0 96) (q0v qkh 0)) m (q0s [(0,x0),(1,x1),(7,x7),(8,x8),(9,x9),(35,x35),(36,x36),(37,x37)]) [λ t=>k0 (t 0) (t 1) (t 7) (t 8) (t 9)]
theorem q0b6 (w0:World) (k0:Ko5):∀ m,qvm w0 k0 m=q8w prog w0 k0 m:=by
 intro m
 induction m with
 | zero=>kernel_rfl
 | succ m ih=>
  show _=λ x0 x1 x7 x8 x9 x35 x36 x37=>qfo prog w0 (q8w prog w0 k0 m) k0 x0 x1 x7 x8 x9 x35 x36 x37
  rw [← ih]
  kernel_rfl
theorem q0b3 (w0:World):qve prog w0=λ k0 x0 x1 x7 x8 x9 x35 x36 x37 h=>∃ m,qvm w0 k0 m x0 x1 x7 x8 x9 x35 x36 x37 h:=by
 funext k0 x0 x1 x7 x8 x9 x35 x36 x37 h
 simp only [q0b6]
 rfl
theorem q0fn {w0:World} {a0 a1:Value} (hj:∀ v,v∈[a0,a1]→v≠junk) (hv:qkw prog w0 a0 a1 R h):qf prog w0 qfv [a0,a1] h R:=
 q03 qkh qkr 96 (by kernel_rfl) (by kernel_rfl) (by simp) hj (by
  unfold qkw
  rw [q0b3 w0,q0ba w0]
  kernel_rfl) hv
abbrev q0eo:Func:=f96
def q0fm:List (Nat × List Nat × List Nat):=[]
def qwr (a0:Value) (R:qh):Hp→Prop:=
 q1z w0 a0 λ i=>
 qi P w0 ql6 [i] λ c=>
 qb (q0g c 0) λ d=>
 qb (q0g c 1) λ j=>
 qb (q0g c 2) λ l=>
 qb (q0g c 3) λ o=>
 qb (unA .not o) λ s=>
 qt s (
 qo [(.pointer none),(.int .i64 121)] R) (
 qi P w0 qfv [d,j] λ e=>
 qb (q0g e 0) λ g=>
 qb (q0g e 1) λ u=>
 qb (qd .neq u (.int .i64 0)) λ b=>
 qe b false (λ K=>K a0) λ v=>
 qe b false (λ K=>K g) λ z=>
 qe b false (qi P w0 qkf [v,z]) λ ba=>
 qe b false (qb (unA .not ba)) λ bb=>
 q0a b (.bool true) bb λ bc=>
 qt bc (
 qo [(.pointer none),(.int .i64 121)] R) (
 q1t [(0,1,false,g),(1,1,false,d),(2,1,false,l)] [(.slice none 0 0),(.slice none 0 0),(.int .i64 0)] λ bd=>
 q15 true 3 bd λ be=>
 qo [be,(.int .i64 0)] R))
theorem q0h3 {w0:World} {a0:Value} (hj:∀ v,v∈[a0]→v≠junk) (hv:qwr prog w0 a0 R h):qf prog w0 qlf [a0] h R:=
 q03 q0eo q0fm 39 (by kernel_rfl) (by kernel_rfl) (by simp) hj (by
  kernel_rfl) hv
abbrev q09x:Func:=f98
def q0a1:List (Nat × List Nat × List Nat):=[]
def q0a0 (b:Nat) (g:Lp) (K:qh) (x2 y13 y14:Value):Hp→Prop:=
 q0u [(.string .empty),(.string .empty),(.bool false)] 3 λ c=>
 q0k w0 c y14 3 λ _=>
 q6h b g (
 qg w0 x2 λ d=>
 qw w0 c 3 λ e=>
 q1n P w0 d [e] λ i=>
 qb (unA .not i) λ j=>
 qt j (
 q24 b g (some none) K) (
 q24 b g none K))
def qto (a0 a1:Value) (R:qh):Hp→Prop:=
 λ h0=>(q15 false 1 a0 λ c=>
 qg w0 a1 λ d=>
 qi P w0 q8t [d] λ e=>
 qb (unA .not e) λ i=>
 qt i (
 q2e h0 (
 qo [] R)) (
 qg w0 a1 λ j=>
 q02 j λ l=>
 qk l 0 λ o=>
 qg w0 o λ s=>
 qi P w0 qhq [s] λ u=>
 q3j P w0 u 2 (λ b g args K=>q0a0 P w0 b g K c (args.getD 0 undef) (args.tail.getD 0 undef)) (
 q2e h0 (
 qo [] R)) [(none,(
 q2e h0 (
 qo [] R)))])) h0
theorem q0am {w0:World} {a0 a1:Value} (hj:∀ v,v∈[a0,a1]→v≠junk) (hv:qto prog w0 a0 a1 R h):qf prog w0 qa7 [a0,a1] h R:=
 qaz q09x q0a1 19 (by kernel_rfl) (by kernel_rfl) (by simp) hj (by
  kernel_rfl) hv
abbrev q0bn:Func:=f102
def q0bt:List (Nat × List Nat × List Nat):=[]
def qu7 (P:Program) (w0:World) (a0 a1 a2:Value) (R:qh):Hp→Prop:=
 q15 false 1 a0 λ b=>
 q15 false 1 a1 λ c=>
 q15 false 1 a2 λ d=>
 q58 qa4 [] [b,c,d] λ e=>
 qo [e] R
theorem q0c4 {w0:World} {a0 a1 a2:Value} (hj:∀ v,v∈[a0,a1,a2]→v≠junk) (hv:qu7 prog w0 a0 a1 a2 R h):qf prog w0 qfc [a0,a1,a2] h R:=
 q03 q0bn q0bt 8 (by kernel_rfl) (by kernel_rfl) (by simp) hj (by
  kernel_rfl) hv
abbrev q0bq:Func:=f112
def q0bs:List (Nat × List Nat × List Nat):=[]
def qfa (P:Program) (w0:World) (a0:Value) (R:qh):Hp→Prop:=
 qb (q1g .neq a0 (.pointer none)) λ b=>
 qe b true (λ K=>K a0) λ c=>
 qe b true (q02 c) λ d=>
 qe b true (qk d 0) λ e=>
 qe b true (qg w0 e) λ g=>
 qe b true (qb (q3k .neq g (.slice none 0 0))) λ i=>
 q0a b i (.bool false) λ j=>
 qo [j] R
theorem qu5 {w0:World} {a0:Value} (hj:∀ v,v∈[a0]→v≠junk) (hv:qfa prog w0 a0 R h):qf prog w0 qa8 [a0] h R:=
 q03 q0bq q0bs 12 (by kernel_rfl) (by kernel_rfl) (by simp) hj (by
  kernel_rfl) hv
abbrev q0cg:Func:=f127
def q0c0:List (Nat × List Nat × List Nat):=[]
def quz (a0 a1:Value) (R:qh):Hp→Prop:=
 q0u [(.string .empty),(.string .empty),(.bool false)] 3 λ b=>
 qi P w0 q8t [a0] λ d=>
 qb (unA .not d) λ e=>
 qt e (
 q1t [] [(.string .empty),(.string .empty),(.bool false)] λ g=>
 q0k w0 b g 3 λ _=>
 qw w0 b 3 λ i=>
 qo [i,(.bool false)] R) (
 q02 a0 λ j=>
 qk j 0 λ l=>
 qg w0 l λ o=>
 qi P w0 qhr [o,a1] λ c=>
 qb (q0g c 0) λ s=>
 qb (q0g c 1) λ u=>
 q0k w0 b s 3 λ _=>
 qw w0 b 3 λ v=>
 qo [v,u] R)
theorem q0dd {w0:World} {a0 a1:Value} (hj:∀ v,v∈[a0,a1]→v≠junk) (hv:quz prog w0 a0 a1 R h):qf prog w0 qke [a0,a1] h R:=
 q03 q0cg q0c0 18 (by kernel_rfl) (by kernel_rfl) (by simp) hj (by
  kernel_rfl) hv
abbrev q0c7:Func:=f128
def q0cd:List (Nat × List Nat × List Nat):=[]
def qul (a0 a1:Value) (R:qh):Hp→Prop:=
 q0u [(.string .empty),(.string .empty),(.bool false)] 3 λ b=>
 qi P w0 qa8 [a0] λ d=>
 qb (unA .not d) λ e=>
 qt e (
 q1t [] [(.string .empty),(.string .empty),(.bool false)] λ g=>
 q0k w0 b g 3 λ _=>
 qw w0 b 3 λ i=>
 qo [i,(.bool false)] R) (
 qi P w0 qfe [a0,a1] λ c=>
 qb (q0g c 0) λ j=>
 qb (q0g c 1) λ l=>
 qb (unA .not l) λ o=>
 qt o (
 q1t [] [(.string .empty),(.string .empty),(.bool false)] λ s=>
 q0k w0 b s 3 λ _=>
 qw w0 b 3 λ u=>
 qo [u,(.bool false)] R) (
 q02 a0 λ v=>
 qk v 1 λ z=>
 qg w0 z λ ba=>
 q04 3 ba j λ bb=>
 qw w0 bb 3 λ bc=>
 q0k w0 b bc 3 λ _=>
 qw w0 b 3 λ bd=>
 qo [bd,(.bool true)] R))
theorem q0cj {w0:World} {a0 a1:Value} (hj:∀ v,v∈[a0,a1]→v≠junk) (hv:qul prog w0 a0 a1 R h):qf prog w0 qkc [a0,a1] h R:=
 q03 q0c7 q0cd 28 (by kernel_rfl) (by kernel_rfl) (by simp) hj (by
  kernel_rfl) hv
abbrev q0i1:Func:=f130
def q0go:List (Nat × List Nat × List Nat):=[]
def qx3 (P:Program) (w0:World) (a0:Value) (R:qh):Hp→Prop:=
 q15 true 3 a0 λ c=>
 qk c 0 λ i=>
 qg w0 i λ j=>
 qb (q1d j) λ l=>
 qb (qd .geq l (.int .i64 1)) λ d=>
 qe d true (qk c 0) λ o=>
 qe d true (qg w0 o) λ s=>
 qe d true (qb (q1d s)) λ u=>
 qe d true (qb (qd .leq u (.int .i64 64))) λ v=>
 q0a d v (.bool false) λ e=>
 qe e true (qk c 1) λ z=>
 qe e true (qg w0 z) λ ba=>
 qe e true (qb (q1d ba)) λ bb=>
 qe e true (qb (qd .leq bb (.int .i64 64))) λ bc=>
 q0a e bc (.bool false) λ b=>
 qe b true (qk c 2) λ bd=>
 qe b true (qg w0 bd) λ be=>
 qe b true (λ K=>K be) λ g=>
 qe g true (qk c 1) λ bf=>
 qe g true (qg w0 bf) λ bg=>
 qe g true (qb (qd .neq bg (.string .empty))) λ bh=>
 qe b true (q0a g bh (.bool false)) λ bi=>
 qe b true (qb (unA .not bi)) λ bj=>
 q0a b bj (.bool false) λ bk=>
 qo [bk] R
theorem q0jm {w0:World} {a0:Value} (hj:∀ v,v∈[a0]→v≠junk) (hv:qx3 prog w0 a0 R h):qf prog w0 qg5 [a0] h R:=
 q03 q0i1 q0go 29 (by kernel_rfl) (by kernel_rfl) (by simp) hj (by
  kernel_rfl) hv
abbrev quy:Func:=f133
def qus:List (Nat × List Nat × List Nat):=[(6,[1,6,7,8,9,10,15,16,17],[6,8,10])]
def qff (R:Ko9) (k0:Ko3) (x1 x6 x7 x8 x9 x10 x15 x16 x17:Value):Hp→Prop:=
 qb (qd .lss x17 x16) λ g=>
 qt g (
 q04 3 x15 x17 λ i=>
 qw w0 i 3 λ j=>
 q0u [(.string .empty),(.string .empty),(.bool false)] 3 λ b=>
 q0k w0 b j 3 λ _=>
 qg w0 x9 λ l=>
 qw w0 b 3 λ o=>
 qi P w0 qfu [l,o] λ d=>
 qg w0 x7 λ s=>
 qb (q05 s) λ u=>
 qb (qd .gtr u (.int .i64 0)) λ c=>
 qe c true (qg w0 x7) λ v=>
 qe c true (qb (q05 v)) λ z=>
 qe c true (λ K=>K d) λ ba=>
 qe c true (qb (q05 ba)) λ bb=>
 qe c true (qb (qd .add z bb)) λ bc=>
 qe c true (λ K=>K x1) λ bd=>
 qe c true (qb (qd .gtr bc bd)) λ be=>
 q0a c be (.bool false) λ bf=>
 qt bf (
 q1n P w0 x10 [] λ cy=>
 qw w0 b 3 λ bg=>
 qi P w0 qfu [(.string .empty),bg] λ e=>
 qg w0 x7 λ bh=>
 qb (q05 bh) λ bi=>
 qb (qd .eql bi (.int .i64 0)) λ bj=>
 qt bj (
 qg w0 x8 λ bk=>
 qk b 0 λ bl=>
 qg w0 bl λ bm=>
 qg w0 x6 λ bn=>
 qb (q05 bn) λ bo=>
 q1t [(0,1,false,bm),(1,1,false,bo)] [(.string .empty),(.int .i64 0),(.int .i64 0)] λ bp=>
 q0j [(0,3,true,bp)] (q00 [(.string .empty),(.int .i64 0),(.int .i64 0)] 1) 1 3 λ bq=>
 q0h w0 3 32 bk bq λ br=>
 q0q w0 x8 br λ _=>
 qg w0 x7 λ bs=>
 q0h w0 1 1 bs e λ bt=>
 q0q w0 x7 bt λ _=>
 qk b 0 λ bu=>
 qg w0 bu λ bv=>
 q0q w0 x9 bv λ _=>
 qb (qd .add x17 (.int .i64 1)) λ bw=>
 R x1 x6 x7 x8 x9 x10 x15 x16 bw) (
 qg w0 x7 λ bx=>
 q0h w0 1 1 bx e λ bz=>
 q0q w0 x7 bz λ _=>
 qk b 0 λ ca=>
 qg w0 ca λ cb=>
 q0q w0 x9 cb λ _=>
 qb (qd .add x17 (.int .i64 1)) λ cc=>
 R x1 x6 x7 x8 x9 x10 x15 x16 cc)) (
 qg w0 x7 λ cd=>
 qb (q05 cd) λ ce=>
 qb (qd .eql ce (.int .i64 0)) λ cf=>
 qt cf (
 qg w0 x8 λ cg=>
 qk b 0 λ ch=>
 qg w0 ch λ ci=>
 qg w0 x6 λ cj=>
 qb (q05 cj) λ ck=>
 q1t [(0,1,false,ci),(1,1,false,ck)] [(.string .empty),(.int .i64 0),(.int .i64 0)] λ cl=>
 q0j [(0,3,true,cl)] (q00 [(.string .empty),(.int .i64 0),(.int .i64 0)] 1) 1 3 λ cm=>
 q0h w0 3 32 cg cm λ cn=>
 q0q w0 x8 cn λ _=>
 qg w0 x7 λ co=>
 q0h w0 1 1 co d λ cp=>
 q0q w0 x7 cp λ _=>
 qk b 0 λ cq=>
 qg w0 cq λ cr=>
 q0q w0 x9 cr λ _=>
 qb (qd .add x17 (.int .i64 1)) λ cs=>
 R x1 x6 x7 x8 x9 x10 x15 x16 cs) (
 qg w0 x7 λ ct=>
 q0h w0 1 1 ct d λ cu=>
 q0q w0 x7 cu λ _=>
 qk b 0 λ cv=>
 qg w0 cv λ cw=>
 q0q w0 x9 cw λ _=>
 qb (qd .add x17 (.int .i64 1)) λ cx=>
 R x1 x6 x7 x8 x9 x10 x15 x16 cx))) (
 k0 x6 x8 x10)
def q66 (P:Program) (w0:World) (k0:Ko3):Nat→Value→Value→Value→Value→Value→Value→Value→Value→Value→Hp→Prop
 | 0,_,_,_,_,_,_,_,_,_=>λ _=>False
 | m + 1,x1,x6,x7,x8,x9,x10,x15,x16,x17=>qff P w0 (q66 P w0 k0 m) k0 x1 x6 x7 x8 x9 x10 x15 x16 x17
def quw (k0:Ko3) (x1 x6 x7 x8 x9 x10 x15 x16 x17:Value):Hp→Prop:=λ h=>∃ m,q66 P w0 k0 m x1 x6 x7 x8 x9 x10 x15 x16 x17 h
def qkk (a0 a1:Value) (R:qh):Hp→Prop:=
 q0u [(.slice none 0 0)] 1 λ c=>
 q0u [(.slice none 0 0)] 1 λ d=>
 q0u [(.slice none 0 0)] 1 λ e=>
 q0u [(.string .empty)] 1 λ b=>
 q0q w0 b (.string .empty) λ _=>
 q58 q8s [] [d,e,c,b] λ g=>
 qb (q05 a0) λ i=>
 quw P w0 (λ j l o=>
 q1n P w0 o [] λ ba=>
 qz (qg w0 j) λ s=>
 qz (qg w0 l) λ u=>
 qc (λ K=>K s) λ v=>
 qc (λ K=>K u) λ z=>
 q0y (
 qo [v,z] R)) a1 c d e b g a0 i (.int .i64 0)
def quv (w0:World) (k0:Ko3) (m:Nat) (x1 x6 x7 x8 x9 x10 x15 x16 x17:Value):Hp→Prop:=q0p (stepL ⟨prog,w0,61,qus⟩ (drw w0 61) (q0v quy 0)) m (q0s [(1,x1),(6,x6),(7,x7),(8,x8),(9,x9),(10,x10),(15,x15),(16,x16),(17,x17)]) [λ t=>k0 (t 6) (t 8) (t 10)]
theorem q0ax (w0:World) (k0:Ko3):∀ m,quv w0 k0 m=q66 prog w0 k0 m:=by
 intro m
 induction m with
 | zero=>kernel_rfl
 | succ m ih=>
  show _=λ x1 x6 x7 x8 x9 x10 x15 x16 x17=>qff prog w0 (q66 prog w0 k0 m) k0 x1 x6 x7 x8 x9 x10 x15 x16 x17
  rw [← ih]
  kernel_rfl
theorem q0au (w0:World):quw prog w0=λ k0 x1 x6 x7 x8 x9 x10 x15 x16 x17 h=>∃ m,quv w0 k0 m x1 x6 x7 x8 x9 x10 x15 x16 x17 h:=by
 funext k0 x1 x6 x7 x8 x9 x10 x15 x16 x17 h
 simp only [q0ax]
 rfl
theorem q0do {w0:World} {a0 a1:Value} (hj:∀ v,v∈[a0,a1]→v≠junk) (hv:qkk prog w0 a0 a1 R h):qf prog w0 qki [a0,a1] h R:=
 q03 quy qus 61 (by kernel_rfl) (by kernel_rfl) (by simp) hj (by
  unfold qkk
  rw [q0au w0]
  kernel_rfl) hv
abbrev qvn:Func:=f135
def qvk:List (Nat × List Nat × List Nat):=[(10,[0,2,3,4,5,6,7,8,9,48,49],[2,3,4,5,7,8])]
def qfn (R:q0oi) (k0 kr:Ko6) (x0 x2 x3 x4 x5 x6 x7 x8 x9 x48 x49:Value):Hp→Prop:=
 qb (qd .lss x49 x48) λ j=>
 qt j (
 qi P w0 qjc [x6] λ bl=>
 qi P w0 qbg [x6] λ d=>
 qi P w0 qbg [x6] λ e=>
 qi P w0 q51 [x6] λ l=>
 qb (qd .neq l (.int .i64 0)) λ c=>
 qe c false (λ K=>K d) λ o=>
 qe c false (λ K=>K x9) λ s=>
 qe c false (qb (q0t .u64 s)) λ u=>
 qe c false (qb (qd .gtr o u)) λ v=>
 q0a c (.bool true) v λ b=>
 qe b false (λ K=>K e) λ z=>
 qe b false (λ K=>K x9) λ ba=>
 qe b false (qb (q0t .u64 ba)) λ bb=>
 qe b false (λ K=>K d) λ bc=>
 qe b false (qb (qd .sub bb bc)) λ bd=>
 qe b false (qb (qd .gtr z bd)) λ be=>
 q0a b (.bool true) be λ bf=>
 qt bf (
 kr (.slice none 0 0) (.int .i64 0) (.int .i64 0) (.bool false) x7 x8) (
 qb (qd .add d e) λ bg=>
 qb (q2y x0 (some d) (some bg)) λ bh=>
 qi P w0 qla [bh,x2] λ g=>
 qb (q0g g 0) λ bi=>
 qb (q0g g 1) λ i=>
 qb (unA .not i) λ bj=>
 qt bj (
 kr (.slice none 0 0) (.int .i64 0) (.int .i64 0) (.bool false) x7 x8) (
 qb (qd .add x49 (.int .i64 1)) λ bk=>
 R x0 bi x3 x4 i x6 x7 x8 x9 x48 bk))) (
 k0 x2 x3 x4 x5 x7 x8)
def q8z (P:Program) (w0:World) (k0 kr:Ko6):Nat→Value→Value→Value→Value→Value→Value→Value→Value→Value→Value→Value→Hp→Prop
 | 0,_,_,_,_,_,_,_,_,_,_,_=>λ _=>False
 | m + 1,x0,x2,x3,x4,x5,x6,x7,x8,x9,x48,x49=>qfn P w0 (q8z P w0 k0 kr m) k0 kr x0 x2 x3 x4 x5 x6 x7 x8 x9 x48 x49
def qvh (k0 kr:Ko6) (x0 x2 x3 x4 x5 x6 x7 x8 x9 x48 x49:Value):Hp→Prop:=λ h=>∃ m,q8z P w0 k0 kr m x0 x2 x3 x4 x5 x6 x7 x8 x9 x48 x49 h
def qkx (a0:Value) (R:qh):Hp→Prop:=
 qb (q1d a0) λ g=>
 qb (qd .lss g (.int .i64 24)) λ i=>
 qt i (
 qo [(.slice none 0 0),(.int .i64 0),(.int .i64 0),(.bool false)] R) (
 qb (q1d a0) λ j=>
 qb (qd .sub j (.int .i64 24)) λ l=>
 qb (q2y a0 (some l) none) λ o=>
 qi P w0 qbr [o] λ b=>
 qi P w0 qa3 [b] λ s=>
 qb (q0t .i64 s) λ u=>
 qi P w0 qa3 [b] λ v=>
 qb (q0t .i64 v) λ z=>
 qi P w0 qa3 [b] λ ba=>
 qb (q0t .i64 ba) λ d=>
 qi P w0 qa3 [b] λ bb=>
 qb (q0t .i64 bb) λ c=>
 qb (q1d a0) λ bc=>
 qb (qd .sub bc (.int .i64 24)) λ bd=>
 qb (qd .gtr c bd) λ be=>
 qt be (
 qo [(.slice none 0 0),(.int .i64 0),(.int .i64 0),(.bool false)] R) (
 qb (q1d a0) λ bf=>
 qb (qd .sub bf (.int .i64 24)) λ bg=>
 qb (q2y a0 (some c) (some bg)) λ bh=>
 qi P w0 qbr [bh] λ bi=>
 qb (q1d a0) λ bj=>
 qb (q3x q6n d [bj]) λ bk=>
 qvh P w0 (λ e bl bu bv bm bn=>
 qb (q05 e) λ bo=>
 qb (qd .eql bo bm) λ bp=>
 qo [e,bl,bn,bp] R) (λ bq br bs bt bw bx=>
 qo [bq,br,bs,bt] R) a0 (.slice none 0 0) u (.int .i64 0) (.bool false) bi z d c bk (.int .i64 0)))
def qva (w0:World) (k0 kr:Ko6) (m:Nat) (x0 x2 x3 x4 x5 x6 x7 x8 x9 x48 x49:Value):Hp→Prop:=q0p (stepL ⟨prog,w0,95,qvk⟩ (drw w0 95) (q0v qvn 0)) m (q0s [(0,x0),(2,x2),(3,x3),(4,x4),(5,x5),(6,x6),(7,x7),(8,x8),(9,x9),(48,x48),(49,x49)]) [λ t=>k0 (t 2) (t 3) (t 4) (t 5) (t 7) (t 8),λ t=>kr (t 2) (t 3) (t 4) (t 5) (t 7) (t 8)]
theorem q0bk (w0:World) (k0 kr:Ko6):∀ m,qva w0 k0 kr m=q8z prog w0 k0 kr m:=by
 intro m
 induction m with
 | zero=>kernel_rfl
 | succ m ih=>
  show _=λ x0 x2 x3 x4 x5 x6 x7 x8 x9 x48 x49=>qfn prog w0 (q8z prog w0 k0 kr m) k0 kr x0 x2 x3 x4 x5 x6 x7 x8 x9 x48 x49
  rw [← ih]
  kernel_rfl
theorem q0bh (w0:World):qvh prog w0=λ k0 kr x0 x2 x3 x4 x5 x6 x7 x8 x9 x48 x49 h=>∃ m,qva w0 k0 kr m x0 x2 x3 x4 x5 x6 x7 x8 x9 x48 x49 h:=by
 funext k0 kr x0 x2 x3 x4 x5 x6 x7 x8 x9 x48 x49 h
 simp only [q0bk]
 rfl
theorem q0fk {w0:World} {a0:Value} (hj:∀ v,v∈[a0]→v≠junk) (hv:qkx prog w0 a0 R h):qf prog w0 ql6 [a0] h R:=
 q03 qvn qvk 95 (by kernel_rfl) (by kernel_rfl) (by simp) hj (by
  unfold qkx
  rw [q0bh w0]
  kernel_rfl) hv
abbrev qsk:Func:=f139
def qsp:List (Nat × List Nat × List Nat):=[(3,[0,3,23,24,25],[])]
def qet (R:Ko5) (k0:Hp→Prop) (kr:Hp→Prop) (x0 x3 x23 x24 x25:Value):Hp→Prop:=
 qb (qd .lss x25 x24) λ e=>
 qt e (
 q04 3 x23 x25 λ g=>
 qw w0 g 3 λ i=>
 q0u [(.string .empty),(.string .empty),(.bool false)] 3 λ d=>
 q0k w0 d i 3 λ _=>
 qg w0 x3 λ j=>
 qb (qd .neq j (.string .empty)) λ b=>
 qe b true (qk d 0) λ l=>
 qe b true (qg w0 l) λ o=>
 qe b true (qg w0 x3) λ s=>
 qe b true (qb (qd .geq o s)) λ u=>
 q0a b u (.bool false) λ c=>
 qe c false (λ K=>K x0) λ v=>
 qe c false (qw w0 d 3) λ z=>
 qe c false (q1n P w0 v [z]) λ ba=>
 qe c false (qb (unA .not ba)) λ bb=>
 q0a c (.bool true) bb λ bc=>
 qt bc (
 kr) (
 qb (qd .add x25 (.int .i64 1)) λ bd=>
 R x0 x3 x23 x24 bd)) (
 k0)
def q6y (P:Program) (w0:World) (k0:Hp→Prop) (kr:Hp→Prop):Nat→Value→Value→Value→Value→Value→Hp→Prop
 | 0,_,_,_,_,_=>λ _=>False
 | m + 1,x0,x3,x23,x24,x25=>qet P w0 (q6y P w0 k0 kr m) k0 kr x0 x3 x23 x24 x25
def qt2 (k0:Hp→Prop) (kr:Hp→Prop) (x0 x3 x23 x24 x25:Value):Hp→Prop:=λ h=>∃ m,q6y P w0 k0 kr m x0 x3 x23 x24 x25 h
def qf4 (a0 a1 a2 a3:Value) (R:qh):Hp→Prop:=
 qg w0 a1 λ d=>
 qi P w0 qa8 [d] λ e=>
 qb (unA .not e) λ g=>
 qt g (
 qo [] R) (
 qg w0 a1 λ i=>
 qg w0 a2 λ j=>
 qi P w0 qfe [i,j] λ b=>
 qb (q0g b 0) λ l=>
 qb (q0g b 1) λ ba=>
 qg w0 a1 λ o=>
 q02 o λ s=>
 qk s 1 λ u=>
 qg w0 u λ v=>
 q1e 3 v (some l) none none λ c=>
 qb (q05 c) λ z=>
 qt2 P w0 (
 qo [] R) (
 qo [] R) a0 a3 c z (.int .i64 0))
def qst (w0:World) (k0:Hp→Prop) (kr:Hp→Prop) (m:Nat) (x0 x3 x23 x24 x25:Value):Hp→Prop:=q0p (stepL ⟨prog,w0,44,qsp⟩ (drw w0 44) (q0v qsk 0)) m (q0s [(0,x0),(3,x3),(23,x23),(24,x24),(25,x25)]) [λ t=>k0,λ t=>kr]
theorem q066 (w0:World) (k0:Hp→Prop) (kr:Hp→Prop):∀ m,qst w0 k0 kr m=q6y prog w0 k0 kr m:=by
 intro m
 induction m with
 | zero=>kernel_rfl
 | succ m ih=>
  show _=λ x0 x3 x23 x24 x25=>qet prog w0 (q6y prog w0 k0 kr m) k0 kr x0 x3 x23 x24 x25
  rw [← ih]
  kernel_rfl
theorem q064 (w0:World):qt2 prog w0=λ k0 kr x0 x3 x23 x24 x25 h=>∃ m,qst w0 k0 kr m x0 x3 x23 x24 x25 h:=by
 funext k0 kr x0 x3 x23 x24 x25 h
 simp only [q066]
 rfl
theorem qtm {w0:World} {a0 a1 a2 a3:Value} (hj:∀ v,v∈[a0,a1,a2,a3]→v≠junk) (hv:qf4 prog w0 a0 a1 a2 a3 R h):qf prog w0 qa4 [a0,a1,a2,a3] h R:=
 q03 qsk qsp 44 (by kernel_rfl) (by kernel_rfl) (by simp) hj (by
  unfold qf4
  rw [q064 w0]
  kernel_rfl) hv
abbrev q0b7:Func:=f140
def q0bo:List (Nat × List Nat × List Nat):=[]
def quc (a0 a1:Value) (R:qh):Hp→Prop:=
 q02 a0 λ c=>
 qk c 1 λ d=>
 qg w0 d λ e=>
 qi P w0 qhg [e,a1,(.func (.func q64) #[] #[])] λ b=>
 qb (q0g b 0) λ g=>
 qb (q0g b 1) λ i=>
 qo [g,i] R
theorem q0ce {w0:World} {a0 a1:Value} (hj:∀ v,v∈[a0,a1]→v≠junk) (hv:quc prog w0 a0 a1 R h):qf prog w0 qfe [a0,a1] h R:=
 q03 q0b7 q0bo 14 (by kernel_rfl) (by kernel_rfl) (by simp) hj (by
  kernel_rfl) hv
abbrev q0at:Func:=f157
def q0av:List (Nat × List Nat × List Nat):=[]
def qtz (a0 a1 a2 a3:Value) (R:qh):Hp→Prop:=
 qg w0 a0 λ d=>
 qb (q05 d) λ e=>
 qb (qd .gtr e (.int .i64 0)) λ g=>
 qt g (
 qg w0 a1 λ i=>
 qg w0 a1 λ j=>
 qb (q05 j) λ l=>
 qb (qd .sub l (.int .i64 1)) λ o=>
 qg w0 a0 λ s=>
 qb (q05 s) λ u=>
 q04 3 i o λ v=>
 qk v 2 λ z=>
 q0q w0 z u λ _=>
 qi P w0 qa5 [(.int .i64 4)] λ b=>
 qg w0 a0 λ ba=>
 q1z w0 ba λ bb=>
 qi P w0 qac [bb] λ bc=>
 qi P w0 q8n [b,bc] λ bi=>
 qi P w0 q6v [b] λ c=>
 qb (q0g c 0) λ bd=>
 qb (q0g c 1) λ bj=>
 qg w0 a2 λ be=>
 qg w0 a0 λ bf=>
 q0h w0 1 1 be bf λ bg=>
 q0h w0 1 1 bg bd λ bh=>
 q0q w0 a2 bh λ _=>
 q0q w0 a0 (.slice none 0 0) λ _=>
 q0q w0 a3 (.string .empty) λ _=>
 qo [] R) (
 q0q w0 a0 (.slice none 0 0) λ _=>
 q0q w0 a3 (.string .empty) λ _=>
 qo [] R)
theorem q0b2 {w0:World} {a0 a1 a2 a3:Value} (hj:∀ v,v∈[a0,a1,a2,a3]→v≠junk) (hv:qtz prog w0 a0 a1 a2 a3 R h):qf prog w0 q8s [a0,a1,a2,a3] h R:=
 q03 q0at q0av 34 (by kernel_rfl) (by kernel_rfl) (by simp) hj (by
  kernel_rfl) hv
abbrev q0e3:Func:=f158
def q0eb:List (Nat × List Nat × List Nat):=[]
def qw5 (a0 a1:Value) (R:qh):Hp→Prop:=
 q15 true 3 a1 λ b=>
 qk b 0 λ j=>
 qg w0 j λ l=>
 qi P w0 qkn [a0,l] λ c=>
 qk b 2 λ o=>
 qg w0 o λ s=>
 qt s (
 qb (q0t .u8 c) λ u=>
 qk b 0 λ v=>
 qg w0 v λ z=>
 qb (q1d z) λ ba=>
 qb (qd .sub ba c) λ bb=>
 qb (q0t .u8 bb) λ bc=>
 qk b 1 λ bd=>
 qg w0 bd λ be=>
 qb (q1d be) λ bf=>
 qb (q0t .u8 bf) λ bg=>
 q0j [(0,1,false,u),(1,1,false,bc),(2,1,false,(.int .u8 1)),(3,1,false,bg)] (q00 [(.int .u8 0)] 4) 4 1 λ bh=>
 qc (λ K=>K bh) λ bi=>
 qc (qk b 0) λ bj=>
 qz (qg w0 bj) λ bk=>
 qc (λ K=>K c) λ bl=>
 qc (qb (q2y bk (some bl) none)) λ bm=>
 qc (qk b 1) λ d=>
 qz (qg w0 d) λ e=>
 q0d [
 (q0h w0 1 1 bi bm λ bn=>
 q0c [(q26 (qg w0 d) e)] (
 q0d [
 (q0h w0 1 1 bn e λ bo=>
 q0c [] (
 qc (λ K=>K bo) λ bp=>
 q0y (
 qo [bp] R)))]))]) (
 qb (q0t .u8 c) λ bq=>
 qk b 0 λ br=>
 qg w0 br λ bs=>
 qb (q1d bs) λ bt=>
 qb (qd .sub bt c) λ bu=>
 qb (q0t .u8 bu) λ bv=>
 qk b 1 λ bw=>
 qg w0 bw λ bx=>
 qb (q1d bx) λ bz=>
 qb (q0t .u8 bz) λ ca=>
 q0j [(0,1,false,bq),(1,1,false,bv),(2,1,false,(.int .u8 0)),(3,1,false,ca)] (q00 [(.int .u8 0)] 4) 4 1 λ cb=>
 qc (λ K=>K cb) λ cc=>
 qc (qk b 0) λ cd=>
 qz (qg w0 cd) λ ce=>
 qc (λ K=>K c) λ cf=>
 qc (qb (q2y ce (some cf) none)) λ cg=>
 qc (qk b 1) λ g=>
 qz (qg w0 g) λ i=>
 q0d [
 (q0h w0 1 1 cc cg λ ch=>
 q0c [(q26 (qg w0 g) i)] (
 q0d [
 (q0h w0 1 1 ch i λ ci=>
 q0c [] (
 qc (λ K=>K ci) λ cj=>
 q0y (
 qo [cj] R)))]))])
theorem q0fo {w0:World} {a0 a1:Value} (hj:∀ v,v∈[a0,a1]→v≠junk) (hv:qw5 prog w0 a0 a1 R h):qf prog w0 qfu [a0,a1] h R:=
 q03 q0e3 q0eb 37 (by kernel_rfl) (by kernel_rfl) (by simp) hj (by
  kernel_rfl) hv
abbrev qw6:Func:=f160
def qvx:List (Nat × List Nat × List Nat):=[(3,[1,4,5,6,7],[1,4,5])]
def ql1 (R:Ko5) (k0 kr:Ko3) (x1 x4 x5 x6 x7:Value):Hp→Prop:=
 qi P w0 qjb [x7] λ bc=>
 qb (qd .gtr bc (.int .i64 0)) λ bd=>
 qt bd (
 qi P w0 qa6 [x7] λ be=>
 qb (q0t .i64 be) λ s=>
 qi P w0 qa6 [x7] λ bf=>
 qb (q0t .i64 bf) λ bg=>
 qi P w0 qa6 [x7] λ u=>
 qi P w0 qa6 [x7] λ bh=>
 qb (q0t .i64 bh) λ bi=>
 qb (q1d x6) λ bj=>
 qb (qd .gtr s bj) λ c=>
 qe c false (λ K=>K u) λ bk=>
 qe c false (qb (qd .gtr bk (.int .u8 1))) λ bl=>
 q0a c (.bool true) bl λ bm=>
 qt bm (
 kr x1 (.slice none 0 0) (.bool false)) (
 qc (λ K=>K x6) λ bn=>
 qc (λ K=>K s) λ bo=>
 qc (qb (q2y bn none (some bo))) λ v=>
 qc (λ K=>K x7) λ z=>
 qc (λ K=>K bg) λ ba=>
 qc (λ K=>K u) λ bp=>
 qc (qb (qd .eql bp (.int .u8 1))) λ b=>
 qc (λ K=>K x7) λ d=>
 qc (λ K=>K bi) λ e=>
 q0d [
 (qi P w0 q63 [z,ba] λ bq=>
 q0c [] (
 qc (qb (qd .add v bq)) λ g=>
 q0d [
 (qi P w0 q63 [d,e] λ bb=>
 q0c [] (
 q0d [
 (q1t [(0,1,false,g),(2,1,false,b),(1,1,false,bb)] [(.string .empty),(.string .empty),(.bool false)] λ br=>
 q0c [] (
 q0d [
 (q0u [(.string .empty),(.string .empty),(.bool false)] 3 λ i=>
 q0c [] (
 q0d [
 (q0k w0 i br 3 λ _=>
 q0c [] (
 q0y (
 qi P w0 q51 [x7] λ bs=>
 qb (qd .neq bs (.int .i64 0)) λ bt=>
 qt bt (
 kr x1 (.slice none 0 0) (.bool false)) (
 qk i 0 λ bu=>
 qg w0 bu λ bv=>
 qw w0 i 3 λ bw=>
 q0j [(0,3,true,bw)] (q00 [(.string .empty),(.string .empty),(.bool false)] 1) 1 3 λ bx=>
 q0h w0 3 40 x1 bx λ bz=>
 R bz x4 x5 bv x7))))]))])),
 (q0u [(.string .empty),(.string .empty),(.bool false)] 3 λ j=>
 q0c [] (
 q0d [
 (q1t [(0,1,false,g),(2,1,false,b),(1,1,false,bb)] [(.string .empty),(.string .empty),(.bool false)] λ ca=>
 q0c [] (
 q0d [
 (q0k w0 j ca 3 λ _=>
 q0c [] (
 q0y (
 qi P w0 q51 [x7] λ cb=>
 qb (qd .neq cb (.int .i64 0)) λ cc=>
 qt cc (
 kr x1 (.slice none 0 0) (.bool false)) (
 qk j 0 λ cd=>
 qg w0 cd λ ce=>
 qw w0 j 3 λ cf=>
 q0j [(0,3,true,cf)] (q00 [(.string .empty),(.string .empty),(.bool false)] 1) 1 3 λ cg=>
 q0h w0 3 40 x1 cg λ ch=>
 R ch x4 x5 ce x7))))]))]))])),
 (q0u [(.string .empty),(.string .empty),(.bool false)] 3 λ l=>
 q0c [] (
 q0d [
 (qi P w0 q63 [d,e] λ ci=>
 q0c [] (
 q0d [
 (q1t [(0,1,false,g),(2,1,false,b),(1,1,false,ci)] [(.string .empty),(.string .empty),(.bool false)] λ cj=>
 q0c [] (
 q0d [
 (q0k w0 l cj 3 λ _=>
 q0c [] (
 q0y (
 qi P w0 q51 [x7] λ ck=>
 qb (qd .neq ck (.int .i64 0)) λ cl=>
 qt cl (
 kr x1 (.slice none 0 0) (.bool false)) (
 qk l 0 λ cm=>
 qg w0 cm λ cn=>
 qw w0 l 3 λ co=>
 q0j [(0,3,true,co)] (q00 [(.string .empty),(.string .empty),(.bool false)] 1) 1 3 λ cp=>
 q0h w0 3 40 x1 cp λ cq=>
 R cq x4 x5 cn x7))))]))]))]))])),
 (q0u [(.string .empty),(.string .empty),(.bool false)] 3 λ o=>
 q0c [] (
 q0d [
 (qi P w0 q63 [z,ba] λ cr=>
 q0c [] (
 qc (qb (qd .add v cr)) λ cs=>
 q0d [
 (qi P w0 q63 [d,e] λ ct=>
 q0c [] (
 q0d [
 (q1t [(0,1,false,cs),(2,1,false,b),(1,1,false,ct)] [(.string .empty),(.string .empty),(.bool false)] λ cu=>
 q0c [] (
 q0d [
 (q0k w0 o cu 3 λ _=>
 q0c [] (
 q0y (
 qi P w0 q51 [x7] λ cv=>
 qb (qd .neq cv (.int .i64 0)) λ cw=>
 qt cw (
 kr x1 (.slice none 0 0) (.bool false)) (
 qk o 0 λ cx=>
 qg w0 cx λ cy=>
 qw w0 o 3 λ cz=>
 q0j [(0,3,true,cz)] (q00 [(.string .empty),(.string .empty),(.bool false)] 1) 1 3 λ da=>
 q0h w0 3 40 x1 da λ db=>
 R db x4 x5 cy x7))))]))]))]))]))])) (
 k0 x1 x4 x5)
def q52 (P:Program) (w0:World) (k0 kr:Ko3):Nat→Value→Value→Value→Value→Value→Hp→Prop
 | 0,_,_,_,_,_=>λ _=>False
 | m + 1,x1,x4,x5,x6,x7=>ql1 P w0 (q52 P w0 k0 kr m) k0 kr x1 x4 x5 x6 x7
def qvv (k0 kr:Ko3) (x1 x4 x5 x6 x7:Value):Hp→Prop:=λ h=>∃ m,q52 P w0 k0 kr m x1 x4 x5 x6 x7 h
def qlk (a0 a1:Value) (R:qh):Hp→Prop:=
 qi P w0 qbr [a0] λ b=>
 qvv P w0 (λ c g i=>
 qo [c,(.bool true)] R) (λ j d e=>
 qo [d,e] R) a1 (.slice none 0 0) (.bool false) (.string .empty) b
def qw4 (w0:World) (k0 kr:Ko3) (m:Nat) (x1 x4 x5 x6 x7:Value):Hp→Prop:=q0p (stepL ⟨prog,w0,60,qvx⟩ (drw w0 60) (q0v qw6 0)) m (q0s [(1,x1),(4,x4),(5,x5),(6,x6),(7,x7)]) [λ t=>k0 (t 1) (t 4) (t 5),λ t=>kr (t 1) (t 4) (t 5)]
theorem q0bx (w0:World) (k0 kr:Ko3):∀ m,qw4 w0 k0 kr m=q52 prog w0 k0 kr m:=by
 intro m
 induction m with
 | zero=>kernel_rfl
 | succ m ih=>
  show _=λ x1 x4 x5 x6 x7=>ql1 prog w0 (q52 prog w0 k0 kr m) k0 kr x1 x4 x5 x6 x7
  rw [← ih]
  kernel_rfl
theorem q0c1 (w0:World):qvv prog w0=λ k0 kr x1 x4 x5 x6 x7 h=>∃ m,qw4 w0 k0 kr m x1 x4 x5 x6 x7 h:=by
 funext k0 kr x1 x4 x5 x6 x7 h
 simp only [q0bx]
 rfl
theorem q0hn {w0:World} {a0 a1:Value} (hj:∀ v,v∈[a0,a1]→v≠junk) (hv:qlk prog w0 a0 a1 R h):qf prog w0 qla [a0,a1] h R:=
 q03 qw6 qvx 60 (by kernel_rfl) (by kernel_rfl) (by simp) hj (by
  unfold qlk
  rw [q0c1 w0]
  kernel_rfl) hv
abbrev q090:Func:=f163
def q098:List (Nat × List Nat × List Nat):=[]
def qtd (a0 a1:Value) (R:qh):Hp→Prop:=
 q15 true 3 a0 λ b=>
 qk b 0 λ c=>
 qg w0 c λ d=>
 qi P w0 qjy [d,a1] λ e=>
 qo [e] R
theorem q0a5 {w0:World} {a0 a1:Value} (hj:∀ v,v∈[a0,a1]→v≠junk) (hv:qtd prog w0 a0 a1 R h):qf prog w0 q64 [a0,a1] h R:=
 q03 q090 q098 9 (by kernel_rfl) (by kernel_rfl) (by simp) hj (by
  kernel_rfl) hv
abbrev qur:Func:=f170
def qui:List (Nat × List Nat × List Nat):=[(2,[0,1,5],[5])]
def qbs (P:Program) (w0:World) (R:Ko3) (k0:Ko1) (x0 x1 x5:Value):Hp→Prop:=
 qc (λ K=>K x5) λ d=>
 qc (λ K=>K x0) λ e=>
 qc (qb (q1d e)) λ g=>
 qc (qb (qd .lss d g)) λ i=>
 qc (λ K=>K i) λ c=>
 qc (qe c true (λ K=>K x5)) λ j=>
 qc (qe c true (λ K=>K x1)) λ l=>
 qc (qe c true (qb (q1d l))) λ o=>
 qc (qe c true (qb (qd .lss j o))) λ s=>
 qc (q0a c s (.bool false)) λ u=>
 qc (λ K=>K u) λ b=>
 qc (qe b true (λ K=>K x0)) λ v=>
 qc (qe b true (λ K=>K x5)) λ z=>
 qc (qe b true (qb (q3t v z))) λ ba=>
 qc (qe b true (λ K=>K x1)) λ bb=>
 qc (qe b true (λ K=>K x5)) λ bc=>
 qc (qe b true (qb (q3t bb bc))) λ bd=>
 qc (qe b true (qb (qd .eql ba bd))) λ be=>
 qc (q0a b be (.bool false)) λ bf=>
 q0y (
 qt bf (
 qb (qd .add x5 (.int .i64 1)) λ bg=>
 R x0 x1 bg) (
 k0 x5))
def q8v (P:Program) (w0:World) (k0:Ko1):Nat→Value→Value→Value→Hp→Prop
 | 0,_,_,_=>λ _=>False
 | m + 1,x0,x1,x5=>qbs P w0 (q8v P w0 k0 m) k0 x0 x1 x5
def quu (k0:Ko1) (x0 x1 x5:Value):Hp→Prop:=λ h=>∃ m,q8v P w0 k0 m x0 x1 x5 h
def qkp (a0 a1:Value) (R:qh):Hp→Prop:=
 quu P w0 (λ b=>
 qo [b] R) a0 a1 (.int .i64 0)
def qun (w0:World) (k0:Ko1) (m:Nat) (x0 x1 x5:Value):Hp→Prop:=q0p (stepL ⟨prog,w0,28,qui⟩ (drw w0 28) (q0v qur 0)) m (q0s [(0,x0),(1,x1),(5,x5)]) [λ t=>k0 (t 5)]
theorem q0ar (w0:World) (k0:Ko1):∀ m,qun w0 k0 m=q8v prog w0 k0 m:=by
 intro m
 induction m with
 | zero=>kernel_rfl
 | succ m ih=>
  show _=λ x0 x1 x5=>qbs prog w0 (q8v prog w0 k0 m) k0 x0 x1 x5
  rw [← ih]
  kernel_rfl
theorem q0an (w0:World):quu prog w0=λ k0 x0 x1 x5 h=>∃ m,qun w0 k0 m x0 x1 x5 h:=by
 funext k0 x0 x1 x5 h
 simp only [q0ar]
 rfl
theorem q0df {w0:World} {a0 a1:Value} (hj:∀ v,v∈[a0,a1]→v≠junk) (hv:qkp prog w0 a0 a1 R h):qf prog w0 qkn [a0,a1] h R:=
 q03 qur qui 28 (by kernel_rfl) (by kernel_rfl) (by simp) hj (by
  unfold qkp
  rw [q0an w0]
  kernel_rfl) hv
end
end Go.Proofs.YtfmoemconapmhaaGreat.Ah
