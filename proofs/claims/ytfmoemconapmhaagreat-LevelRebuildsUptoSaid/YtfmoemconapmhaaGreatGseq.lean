/- PRINTED by wip/tools/shallow.py: functions of the program as readable words, and that each is what its text says. -/
import Derived.Test.YtfmoemconapmhaaGreatGn
set_option linter.all false
namespace Go.Proofs.YtfmoemconapmhaaGreat.Ah
open Go Go.Proofs.Tryz
noncomputable section
variable (P:Program) (w0:World) {h:Hp} {R:qh}
abbrev q02q:Func:=f92
def q02m:List (Nat × List Nat × List Nat):=[]
def qok (P:Program) (w0:World) (a0:Value) (R:qh):Hp→Prop:=
 qb (q1g .eql a0 (.pointer none)) λ b=>
 qt b (
 qo [(.int .i64 0)] R) (
 q02 a0 λ c=>
 qk c 0 λ d=>
 qg w0 d λ e=>
 qb (q05 e) λ g=>
 qo [g] R)
theorem q02y {w0:World} {a0:Value} (hj:∀ v,v∈[a0]→v≠junk) (hv:qok prog w0 a0 R h):qf prog w0 qhs [a0] h R:=
 q03 q02q q02m 10 (by kernel_rfl) (by kernel_rfl) (by simp) hj (by
  kernel_rfl) hv
abbrev q02o:Func:=f99
def q02n:List (Nat × List Nat × List Nat):=[]
def qon (a0:Value) (R:qh):Hp→Prop:=
 qi P w0 qho [a0,(.func (.func qdg) #[] #[])] λ b=>
 qo [b] R
theorem q02w {w0:World} {a0:Value} (hj:∀ v,v∈[a0]→v≠junk) (hv:qon prog w0 a0 R h):qf prog w0 qhq [a0] h R:=
 q03 q02o q02n 5 (by kernel_rfl) (by kernel_rfl) (by simp) hj (by
  kernel_rfl) hv
abbrev q037:Func:=f100
def q030:List (Nat × List Nat × List Nat):=[]
def qot (P:Program) (w0:World) (R:qh):Hp→Prop:=
 q1t [] [(.slice none 0 0)] λ b=>
 q15 true 1 b λ c=>
 qo [c] R
theorem q03a {w0:World} (hj:∀ v,v∈[]→v≠junk) (hv:qot prog w0  R h):qf prog w0 qdm [] h R:=
 q03 q037 q030 3 (by kernel_rfl) (by kernel_rfl) (by simp) hj (by
  kernel_rfl) hv
abbrev qht:Func:=f103
def qhz:List (Nat × List Nat × List Nat):=[(3,[3,11,12,13],[3]),(10,[3,6],[6])]
def qdp (R:Ko4) (k0:Ko1) (x3 x11 x12 x13:Value):Hp→Prop:=
 qb (qd .lss x13 x12) λ c=>
 qt c (
 q04 1 x11 x13 λ d=>
 qg w0 d λ e=>
 qi P w0 qhu [e] λ b=>
 qb (q05 b) λ g=>
 qb (qd .gtr g (.int .i64 0)) λ i=>
 qt i (
 q1t [(0,1,false,b),(1,1,false,x13)] [(.slice none 0 0),(.int .i64 0)] λ j=>
 qi P w0 q6r [x3,j] λ s=>
 qb (qd .add x13 (.int .i64 1)) λ l=>
 R x3 x11 x12 l) (
 qb (qd .add x13 (.int .i64 1)) λ o=>
 R x3 x11 x12 o)) (
 k0 x3)
def q7p (P:Program) (w0:World) (k0:Ko1):Nat→Value→Value→Value→Value→Hp→Prop
 | 0,_,_,_,_=>λ _=>False
 | m + 1,x3,x11,x12,x13=>qdp P w0 (q7p P w0 k0 m) k0 x3 x11 x12 x13
def qov (k0:Ko1) (x3 x11 x12 x13:Value):Hp→Prop:=λ h=>∃ m,q7p P w0 k0 m x3 x11 x12 x13 h
def qb8 (R:Ko2) (k2:Ko1) (x3 x6:Value):Hp→Prop:=
 q02 x3 λ g=>
 qk g 0 λ i=>
 qg w0 i λ j=>
 qb (q05 j) λ l=>
 qb (qd .gtr l (.int .i64 0)) λ o=>
 qt o (
 qi P w0 qb4 [x3] λ s=>
 q0u [(.slice none 0 0),(.int .i64 0)] 2 λ c=>
 q0k w0 c s 2 λ _=>
 qb (q05 x6) λ d=>
 qc (λ K=>K d) λ u=>
 qc (qb (qd .eql u (.int .i64 0))) λ v=>
 qc (λ K=>K v) λ b=>
 qc (qe b false (λ K=>K x6)) λ z=>
 qc (qe b false (λ K=>K d)) λ ba=>
 qc (qe b false (qb (qd .sub ba (.int .i64 1)))) λ bb=>
 qc (qe b false (q04 4 z bb)) λ bc=>
 qc (qe b false (qk bc 0)) λ bd=>
 qz (qe b false (qg w0 bd)) λ be=>
 qc (qe b false (qk c 0)) λ bf=>
 qz (qe b false (qg w0 bf)) λ bg=>
 qc (qe b false (q04 4 bg (.int .i64 0))) λ bh=>
 qc (qe b false (qk bh 0)) λ bi=>
 qz (qe b false (qg w0 bi)) λ bj=>
 qc (qe b false (qb (qd .neq be bj))) λ bk=>
 qc (q0a b (.bool true) bk) λ bl=>
 q0y (
 qt bl (
 qk c 0 λ bm=>
 qg w0 bm λ bn=>
 q04 4 bn (.int .i64 0) λ bo=>
 qw w0 bo 4 λ bp=>
 q0j [(0,4,true,bp)] (q00 [(.string .empty),(.string .empty),(.string .empty),(.bool false)] 1) 1 4 λ bq=>
 q0h w0 4 56 x6 bq λ e=>
 qk c 0 λ br=>
 qg w0 br λ bs=>
 qb (q05 bs) λ bt=>
 qb (qd .gtr bt (.int .i64 1)) λ bu=>
 qt bu (
 qc (λ K=>K x3) λ bv=>
 qc (qk c 0) λ bw=>
 qz (qg w0 bw) λ bx=>
 qz (q1e 4 bx (some (.int .i64 1)) none none) λ bz=>
 qc (qk c 1) λ ca=>
 qz (qg w0 ca) λ cb=>
 q0d [
 (q1t [(0,1,false,bz),(1,1,false,cb)] [(.slice none 0 0),(.int .i64 0)] λ cc=>
 q0c [] (
 q0d [
 (qi P w0 q6r [bv,cc] λ co=>
 q0c [] (
 q0y (
 R x3 e)))]))]) (
 R x3 e)) (
 qk c 0 λ cd=>
 qg w0 cd λ ce=>
 qb (q05 ce) λ cf=>
 qb (qd .gtr cf (.int .i64 1)) λ cg=>
 qt cg (
 qc (λ K=>K x3) λ ch=>
 qc (qk c 0) λ ci=>
 qz (qg w0 ci) λ cj=>
 qz (q1e 4 cj (some (.int .i64 1)) none none) λ ck=>
 qc (qk c 1) λ cl=>
 qz (qg w0 cl) λ cm=>
 q0d [
 (q1t [(0,1,false,ck),(1,1,false,cm)] [(.slice none 0 0),(.int .i64 0)] λ cn=>
 q0c [] (
 q0d [
 (qi P w0 q6r [ch,cn] λ cp=>
 q0c [] (
 q0y (
 R x3 x6)))]))]) (
 R x3 x6)))) (
 k2 x6)
def q4k (P:Program) (w0:World) (k2:Ko1):Nat→Value→Value→Hp→Prop
 | 0,_,_=>λ _=>False
 | m + 1,x3,x6=>qb8 P w0 (q4k P w0 k2 m) k2 x3 x6
def qos (k2:Ko1) (x3 x6:Value):Hp→Prop:=λ h=>∃ m,q4k P w0 k2 m x3 x6 h
def qi2 (a0:Value) (R:qh):Hp→Prop:=
 q1t [(1,1,false,(.func (.func qdi) #[] #[]))] [(.slice none 0 0),.nilFunc] λ b=>
 q15 true 2 b λ c=>
 qb (q05 a0) λ d=>
 qov P w0 (λ e=>
 qos P w0 (λ g=>
 qo [g] R) e (.slice none 0 0)) c a0 d (.int .i64 0)
def qor (w0:World) (k2:Ko1) (m:Nat) (x3 x6:Value):Hp→Prop:=q0p (stepL ⟨prog,w0,75,qhz⟩ (drw w0 75) (q0v qht 1)) m (q0s [(3,x3),(6,x6)]) [λ t=>k2 (t 6)]
theorem q02f (w0:World) (k2:Ko1):∀ m,qor w0 k2 m=q4k prog w0 k2 m:=by
 intro m
 induction m with
 | zero=>kernel_rfl
 | succ m ih=>
  show _=λ x3 x6=>qb8 prog w0 (q4k prog w0 k2 m) k2 x3 x6
  rw [← ih]
  kernel_rfl
theorem q02k (w0:World):qos prog w0=λ k2 x3 x6 h=>∃ m,qor w0 k2 m x3 x6 h:=by
 funext k2 x3 x6 h
 simp only [q02f]
 rfl
def qox (w0:World) (k0:Ko1) (m:Nat) (x3 x11 x12 x13:Value):Hp→Prop:=q0p (stepL ⟨prog,w0,75,qhz⟩ (drw w0 75) (q0v qht 0)) m (q0s [(3,x3),(11,x11),(12,x12),(13,x13)]) [λ t=>k0 (t 3)]
theorem q026 (w0:World) (k0:Ko1):∀ m,qox w0 k0 m=q7p prog w0 k0 m:=by
 intro m
 induction m with
 | zero=>kernel_rfl
 | succ m ih=>
  show _=λ x3 x11 x12 x13=>qdp prog w0 (q7p prog w0 k0 m) k0 x3 x11 x12 x13
  rw [← ih]
  kernel_rfl
theorem q028 (w0:World):qov prog w0=λ k0 x3 x11 x12 x13 h=>∃ m,qox w0 k0 m x3 x11 x12 x13 h:=by
 funext k0 x3 x11 x12 x13 h
 simp only [q026]
 rfl
theorem q03o {w0:World} {a0:Value} (hj:∀ v,v∈[a0]→v≠junk) (hv:qi2 prog w0 a0 R h):qf prog w0 qdq [a0] h R:=
 q03 qht qhz 75 (by kernel_rfl) (by kernel_rfl) (by simp) hj (by
  unfold qi2
  rw [q028 w0,q02k w0]
  kernel_rfl) hv
abbrev q02p:Func:=f131
def q02t:List (Nat × List Nat × List Nat):=[]
def qom (a0 a1 a2:Value) (R:qh):Hp→Prop:=
 q15 true 3 a2 λ g=>
 q0u [(.string .empty),(.string .empty),(.bool false)] 3 λ b=>
 q0u [(.string .empty),(.string .empty),(.bool false)] 3 λ i=>
 qb (q1g .eql a0 (.pointer none)) λ o=>
 qt o (
 qw w0 i 3 λ s=>
 q0k w0 b s 3 λ _=>
 qw w0 b 3 λ u=>
 qo [u,(.bool false)] R) (
 qi P w0 qdh [a0,a1] λ j=>
 qb (q0g j 0) λ c=>
 qb (q0g j 1) λ v=>
 qt v (
 q02 a0 λ z=>
 qk z 0 λ ba=>
 qg w0 ba λ bb=>
 q04 4 bb c λ bc=>
 qk bc 1 λ bd=>
 qw w0 bd 3 λ be=>
 q0u [(.string .empty),(.string .empty),(.bool false)] 3 λ l=>
 q0k w0 l be 3 λ _=>
 qc (λ K=>K a0) λ bf=>
 qc (q02 bf) λ bg=>
 qc (qk bg 0) λ bh=>
 qz (qg w0 bh) λ bi=>
 qc (λ K=>K c) λ bj=>
 qz (qw w0 g 3) λ bk=>
 qc (q04 4 bi bj) λ bl=>
 qc (qk bl 1) λ bm=>
 q0d [
 (q0k w0 bm bk 3 λ _=>
 q0c [] (
 q0y (
 qw w0 l 3 λ bn=>
 q0k w0 b bn 3 λ _=>
 qw w0 b 3 λ bo=>
 qo [bo,(.bool true)] R)))]) (
 qc (λ K=>K a0) λ bp=>
 qc (λ K=>K a0) λ bq=>
 qc (q02 bq) λ br=>
 qc (qk br 0) λ d=>
 qz (qg w0 d) λ e=>
 qc (λ K=>K c) λ bs=>
 qc (λ K=>K a1) λ bt=>
 qz (qw w0 g 3) λ bu=>
 q0d [
 (q1t [(0,1,false,bt),(1,3,true,bu)] [(.string .empty),(.string .empty),(.string .empty),(.bool false)] λ bv=>
 q0c [(q26 (qg w0 d) e)] (
 q0d [
 (q0j [(0,4,true,bv)] (q00 [(.string .empty),(.string .empty),(.string .empty),(.bool false)] 1) 1 4 λ bw=>
 q0c [(q26 (qg w0 d) e)] (
 q0d [
 (qi P w0 qdb [e,bs,bw] λ bx=>
 q0c [] (
 qc (q02 bp) λ bz=>
 qc (qk bz 0) λ ca=>
 q0d [
 (q0q w0 ca bx λ _=>
 q0c [] (
 q0y (
 qw w0 i 3 λ cb=>
 q0k w0 b cb 3 λ _=>
 qw w0 b 3 λ cc=>
 qo [cc,(.bool false)] R)))]))]))]))]))
theorem q02x {w0:World} {a0 a1 a2:Value} (hj:∀ v,v∈[a0,a1,a2]→v≠junk) (hv:qom prog w0 a0 a1 a2 R h):qf prog w0 qhp [a0,a1,a2] h R:=
 q03 q02p q02t 53 (by kernel_rfl) (by kernel_rfl) (by simp) hj (by
  kernel_rfl) hv
abbrev q02d:Func:=f137
def q029:List (Nat × List Nat × List Nat):=[]
def qof (P:Program) (w0:World) (a0 a1:Value) (R:qh):Hp→Prop:=
 q15 false 1 a0 λ b=>
 q15 false 1 a1 λ c=>
 q58 qb6 [] [b,c] λ d=>
 qo [d] R
theorem q02s {w0:World} {a0 a1:Value} (hj:∀ v,v∈[a0,a1]→v≠junk) (hv:qof prog w0 a0 a1 R h):qf prog w0 qho [a0,a1] h R:=
 q03 q02d q029 6 (by kernel_rfl) (by kernel_rfl) (by simp) hj (by
  kernel_rfl) hv
abbrev q01t:Func:=f138
def q01q:List (Nat × List Nat × List Nat):=[]
def qo9 (P:Program) (w0:World) (a0:Value) (R:qh):Hp→Prop:=
 qo [(.bool true)] R
theorem q01x {w0:World} {a0:Value} (hj:∀ v,v∈[a0]→v≠junk) (hv:qo9 prog w0 a0 R h):qf prog w0 qdg [a0] h R:=
 q03 q01t q01q 3 (by kernel_rfl) (by kernel_rfl) (by simp) hj (by
  kernel_rfl) hv
abbrev q02i:Func:=f141
def q02g:List (Nat × List Nat × List Nat):=[]
def qoe (a0 a1:Value) (R:qh):Hp→Prop:=
 q15 true 2 a0 λ d=>
 q15 true 2 a1 λ e=>
 qc (qk d 0) λ i=>
 qz (qg w0 i) λ j=>
 qc (q04 4 j (.int .i64 0)) λ l=>
 qc (qk l 0) λ o=>
 qz (qg w0 o) λ s=>
 qc (qk e 0) λ u=>
 qz (qg w0 u) λ v=>
 qc (q04 4 v (.int .i64 0)) λ z=>
 qc (qk z 0) λ ba=>
 qz (qg w0 ba) λ bb=>
 q0d [
 (qi P w0 qec [s,bb] λ bc=>
 q0c [] (
 qc (λ K=>K bc) λ g=>
 q0y (
 qb (qd .lss g (.int .i64 0)) λ c=>
 qe c false (λ K=>K g) λ bd=>
 qe c false (qb (qd .eql bd (.int .i64 0))) λ be=>
 qe c false (λ K=>K be) λ b=>
 qe b true (qk d 1) λ bf=>
 qe b true (qg w0 bf) λ bg=>
 qe b true (qk e 1) λ bh=>
 qe b true (qg w0 bh) λ bi=>
 qe b true (qb (qd .lss bg bi)) λ bj=>
 qe c false (q0a b bj (.bool false)) λ bk=>
 q0a c (.bool true) bk λ bl=>
 qo [bl] R)))]
theorem q02v {w0:World} {a0 a1:Value} (hj:∀ v,v∈[a0,a1]→v≠junk) (hv:qoe prog w0 a0 a1 R h):qf prog w0 qdi [a0,a1] h R:=
 q03 q02i q02g 30 (by kernel_rfl) (by kernel_rfl) (by simp) hj (by
  kernel_rfl) hv
abbrev qoj:Func:=f143
def qog:List (Nat × List Nat × List Nat):=[(3,[3,7,8,9],[3])]
def qdj (P:Program) (w0:World) (R:Ko4) (k0:Ko1) (x3 x7 x8 x9:Value):Hp→Prop:=
 qb (qd .lss x9 x8) λ e=>
 qt e (
 q04 4 x7 x9 λ g=>
 qw w0 g 4 λ i=>
 q0u [(.string .empty),(.string .empty),(.string .empty),(.bool false)] 4 λ c=>
 q0k w0 c i 4 λ _=>
 qb (q05 x3) λ d=>
 qc (λ K=>K d) λ j=>
 qc (qb (qd .eql j (.int .i64 0))) λ l=>
 qc (λ K=>K l) λ b=>
 qc (qe b false (qk c 0)) λ o=>
 qz (qe b false (qg w0 o)) λ s=>
 qc (qe b false (λ K=>K x3)) λ u=>
 qc (qe b false (λ K=>K d)) λ v=>
 qc (qe b false (qb (qd .sub v (.int .i64 1)))) λ z=>
 qc (qe b false (q04 4 u z)) λ ba=>
 qc (qe b false (qk ba 0)) λ bb=>
 qz (qe b false (qg w0 bb)) λ bc=>
 qc (qe b false (qb (qd .gtr s bc))) λ bd=>
 qc (q0a b (.bool true) bd) λ be=>
 q0y (
 qt be (
 qw w0 c 4 λ bf=>
 q0j [(0,4,true,bf)] (q00 [(.string .empty),(.string .empty),(.string .empty),(.bool false)] 1) 1 4 λ bg=>
 q0h w0 4 56 x3 bg λ bh=>
 qb (qd .add x9 (.int .i64 1)) λ bi=>
 R bh x7 x8 bi) (
 qb (qd .add x9 (.int .i64 1)) λ bj=>
 R x3 x7 x8 bj))) (
 k0 x3)
def q5x (P:Program) (w0:World) (k0:Ko1):Nat→Value→Value→Value→Value→Hp→Prop
 | 0,_,_,_,_=>λ _=>False
 | m + 1,x3,x7,x8,x9=>qdj P w0 (q5x P w0 k0 m) k0 x3 x7 x8 x9
def qol (k0:Ko1) (x3 x7 x8 x9:Value):Hp→Prop:=λ h=>∃ m,q5x P w0 k0 m x3 x7 x8 x9 h
def qhv (a0:Value) (R:qh):Hp→Prop:=
 qb (q05 a0) λ b=>
 qol P w0 (λ c=>
 qo [c] R) (.slice none 0 0) a0 b (.int .i64 0)
def qoh (w0:World) (k0:Ko1) (m:Nat) (x3 x7 x8 x9:Value):Hp→Prop:=q0p (stepL ⟨prog,w0,34,qog⟩ (drw w0 34) (q0v qoj 0)) m (q0s [(3,x3),(7,x7),(8,x8),(9,x9)]) [λ t=>k0 (t 3)]
theorem q022 (w0:World) (k0:Ko1):∀ m,qoh w0 k0 m=q5x prog w0 k0 m:=by
 intro m
 induction m with
 | zero=>kernel_rfl
 | succ m ih=>
  show _=λ x3 x7 x8 x9=>qdj prog w0 (q5x prog w0 k0 m) k0 x3 x7 x8 x9
  rw [← ih]
  kernel_rfl
theorem q021 (w0:World):qol prog w0=λ k0 x3 x7 x8 x9 h=>∃ m,qoh w0 k0 m x3 x7 x8 x9 h:=by
 funext k0 x3 x7 x8 x9 h
 simp only [q022]
 rfl
theorem q039 {w0:World} {a0:Value} (hj:∀ v,v∈[a0]→v≠junk) (hv:qhv prog w0 a0 R h):qf prog w0 qhu [a0] h R:=
 q03 qoj qog 34 (by kernel_rfl) (by kernel_rfl) (by simp) hj (by
  unfold qhv
  rw [q021 w0]
  kernel_rfl) hv
abbrev qnp:Func:=f144
def qno:List (Nat × List Nat × List Nat):=[(3,[0,4],[])]
def qdc (R:Ko2) (k0:Hp→Prop) (kr:Hp→Prop) (x0 x4:Value):Hp→Prop:=
 qb (qd .gtr x4 (.int .i64 0)) λ c=>
 qt c (
 qb (qd .sub x4 (.int .i64 1)) λ d=>
 qb (qd .quo d (.int .i64 2)) λ b=>
 qc (λ K=>K x0) λ e=>
 qc (q02 e) λ g=>
 qc (qk g 1) λ i=>
 qz (qg w0 i) λ j=>
 qc (λ K=>K x0) λ l=>
 qc (q02 l) λ o=>
 qc (qk o 0) λ s=>
 qz (qg w0 s) λ u=>
 qc (λ K=>K x4) λ v=>
 qc (q04 2 u v) λ z=>
 qz (qw w0 z 2) λ ba=>
 qc (λ K=>K x0) λ bb=>
 qc (q02 bb) λ bc=>
 qc (qk bc 0) λ bd=>
 qz (qg w0 bd) λ be=>
 qc (λ K=>K b) λ bf=>
 qc (q04 2 be bf) λ bg=>
 qz (qw w0 bg 2) λ bh=>
 q0d [
 (q1n P w0 j [ba,bh] λ bi=>
 q0c [] (
 qc (qb (unA .not bi)) λ bj=>
 q0y (
 qt bj (
 kr) (
 qc (λ K=>K x0) λ bk=>
 qc (q02 bk) λ bl=>
 qc (qk bl 0) λ bm=>
 qz (qg w0 bm) λ bn=>
 qc (λ K=>K x4) λ bo=>
 qc (λ K=>K x0) λ bp=>
 qc (q02 bp) λ bq=>
 qc (qk bq 0) λ br=>
 qz (qg w0 br) λ bs=>
 qc (λ K=>K b) λ bt=>
 qc (λ K=>K x0) λ bu=>
 qc (q02 bu) λ bv=>
 qc (qk bv 0) λ bw=>
 qz (qg w0 bw) λ bx=>
 qc (λ K=>K b) λ bz=>
 qc (q04 2 bx bz) λ ca=>
 qz (qw w0 ca 2) λ cb=>
 qc (λ K=>K x0) λ cc=>
 qc (q02 cc) λ cd=>
 qc (qk cd 0) λ ce=>
 qz (qg w0 ce) λ cf=>
 qc (λ K=>K x4) λ cg=>
 qc (q04 2 cf cg) λ ch=>
 qz (qw w0 ch 2) λ ci=>
 qc (q04 2 bn bo) λ cj=>
 q0d [
 (q0k w0 cj cb 2 λ _=>
 q0c [] (
 qc (q04 2 bs bt) λ ck=>
 q0d [
 (q0k w0 ck ci 2 λ _=>
 q0c [] (
 q0y (
 R x0 b)))]))]))))]) (
 k0)
def q9y (P:Program) (w0:World) (k0:Hp→Prop) (kr:Hp→Prop):Nat→Value→Value→Hp→Prop
 | 0,_,_=>λ _=>False
 | m + 1,x0,x4=>qdc P w0 (q9y P w0 k0 kr m) k0 kr x0 x4
def qnr (k0:Hp→Prop) (kr:Hp→Prop) (x0 x4:Value):Hp→Prop:=λ h=>∃ m,q9y P w0 k0 kr m x0 x4 h
def qhj (a0 a1:Value) (R:qh):Hp→Prop:=
 q15 true 2 a1 λ d=>
 qc (λ K=>K a0) λ e=>
 qc (λ K=>K a0) λ g=>
 qc (q02 g) λ i=>
 qc (qk i 0) λ b=>
 qz (qg w0 b) λ c=>
 qz (qw w0 d 2) λ j=>
 q0d [
 (q0j [(0,2,true,j)] (q00 [(.slice none 0 0),(.int .i64 0)] 1) 1 2 λ l=>
 q0c [(q26 (qg w0 b) c)] (
 q0d [
 (q0h w0 2 32 c l λ o=>
 q0c [] (
 qc (q02 e) λ s=>
 qc (qk s 0) λ u=>
 q0d [
 (q0q w0 u o λ _=>
 q0c [] (
 q0y (
 q02 a0 λ v=>
 qk v 0 λ z=>
 qg w0 z λ ba=>
 qb (q05 ba) λ bb=>
 qb (qd .sub bb (.int .i64 1)) λ bc=>
 qnr P w0 (
 qo [] R) (
 qo [] R) a0 bc)))]))]))]
def qnq (w0:World) (k0:Hp→Prop) (kr:Hp→Prop) (m:Nat) (x0 x4:Value):Hp→Prop:=q0p (stepL ⟨prog,w0,74,qno⟩ (drw w0 74) (q0v qnp 0)) m (q0s [(0,x0),(4,x4)]) [λ t=>k0,λ t=>kr]
theorem q016 (w0:World) (k0:Hp→Prop) (kr:Hp→Prop):∀ m,qnq w0 k0 kr m=q9y prog w0 k0 kr m:=by
 intro m
 induction m with
 | zero=>kernel_rfl
 | succ m ih=>
  show _=λ x0 x4=>qdc prog w0 (q9y prog w0 k0 kr m) k0 kr x0 x4
  rw [← ih]
  kernel_rfl
theorem q017 (w0:World):qnr prog w0=λ k0 kr x0 x4 h=>∃ m,qnq w0 k0 kr m x0 x4 h:=by
 funext k0 kr x0 x4 h
 simp only [q016]
 rfl
theorem q01f {w0:World} {a0 a1:Value} (hj:∀ v,v∈[a0,a1]→v≠junk) (hv:qhj prog w0 a0 a1 R h):qf prog w0 q6r [a0,a1] h R:=
 q03 qnp qno 74 (by kernel_rfl) (by kernel_rfl) (by simp) hj (by
  unfold qhj
  rw [q017 w0]
  kernel_rfl) hv
abbrev qnu:Func:=f145
def qns:List (Nat × List Nat × List Nat):=[(8,[0,2,3,4,6],[2])]
def q9z (R:Ko5) (kr:Ko1) (x0 x2 x3 x4 x6:Value):Hp→Prop:=
 qb (qd .mul (.int .i64 2) x6) λ e=>
 qb (qd .add e (.int .i64 1)) λ c=>
 qb (qd .geq c x4) λ g=>
 qt g (
 qw w0 x3 2 λ i=>
 q0k w0 x2 i 2 λ _=>
 kr x2) (
 qc (λ K=>K c) λ j=>
 qc (qb (qd .add j (.int .i64 1))) λ l=>
 qc (λ K=>K x4) λ o=>
 qc (qb (qd .lss l o)) λ s=>
 qc (λ K=>K s) λ b=>
 qc (qe b true (λ K=>K x0)) λ u=>
 qc (qe b true (q02 u)) λ v=>
 qc (qe b true (qk v 1)) λ z=>
 qz (qe b true (qg w0 z)) λ ba=>
 qc (qe b true (λ K=>K x0)) λ bb=>
 qc (qe b true (q02 bb)) λ bc=>
 qc (qe b true (qk bc 0)) λ bd=>
 qz (qe b true (qg w0 bd)) λ be=>
 qc (qe b true (λ K=>K c)) λ bf=>
 qc (qe b true (qb (qd .add bf (.int .i64 1)))) λ bg=>
 qc (qe b true (q04 2 be bg)) λ bh=>
 qz (qe b true (qw w0 bh 2)) λ bi=>
 qc (qe b true (λ K=>K x0)) λ bj=>
 qc (qe b true (q02 bj)) λ bk=>
 qc (qe b true (qk bk 0)) λ bl=>
 qz (qe b true (qg w0 bl)) λ bm=>
 qc (qe b true (λ K=>K c)) λ bn=>
 qc (qe b true (q04 2 bm bn)) λ bo=>
 qz (qe b true (qw w0 bo 2)) λ bp=>
 q0d [
 (qe b true (q1n P w0 ba [bi,bp]) λ bq=>
 q0c [] (
 qc (q0a b bq (.bool false)) λ br=>
 q0y (
 qt br (
 qb (qd .add c (.int .i64 1)) λ d=>
 qc (λ K=>K x0) λ bs=>
 qc (q02 bs) λ bt=>
 qc (qk bt 1) λ bu=>
 qz (qg w0 bu) λ bv=>
 qc (λ K=>K x0) λ bw=>
 qc (q02 bw) λ bx=>
 qc (qk bx 0) λ bz=>
 qz (qg w0 bz) λ ca=>
 qc (λ K=>K d) λ cb=>
 qc (q04 2 ca cb) λ cc=>
 qz (qw w0 cc 2) λ cd=>
 qc (λ K=>K x0) λ ce=>
 qc (q02 ce) λ cf=>
 qc (qk cf 0) λ cg=>
 qz (qg w0 cg) λ ch=>
 qc (λ K=>K x6) λ ci=>
 qc (q04 2 ch ci) λ cj=>
 qz (qw w0 cj 2) λ ck=>
 q0d [
 (q1n P w0 bv [cd,ck] λ cl=>
 q0c [] (
 qc (qb (unA .not cl)) λ cm=>
 q0y (
 qt cm (
 qw w0 x3 2 λ cn=>
 q0k w0 x2 cn 2 λ _=>
 kr x2) (
 qc (λ K=>K x0) λ co=>
 qc (q02 co) λ cp=>
 qc (qk cp 0) λ cq=>
 qz (qg w0 cq) λ cr=>
 qc (λ K=>K x6) λ cs=>
 qc (λ K=>K x0) λ ct=>
 qc (q02 ct) λ cu=>
 qc (qk cu 0) λ cv=>
 qz (qg w0 cv) λ cw=>
 qc (λ K=>K d) λ cx=>
 qc (λ K=>K x0) λ cy=>
 qc (q02 cy) λ cz=>
 qc (qk cz 0) λ da=>
 qz (qg w0 da) λ db=>
 qc (λ K=>K d) λ dc=>
 qc (q04 2 db dc) λ dd=>
 qz (qw w0 dd 2) λ de=>
 qc (λ K=>K x0) λ df=>
 qc (q02 df) λ dg=>
 qc (qk dg 0) λ dh=>
 qz (qg w0 dh) λ di=>
 qc (λ K=>K x6) λ dj=>
 qc (q04 2 di dj) λ dk=>
 qz (qw w0 dk 2) λ dl=>
 qc (q04 2 cr cs) λ dm=>
 q0d [
 (q0k w0 dm de 2 λ _=>
 q0c [] (
 qc (q04 2 cw cx) λ dn=>
 q0d [
 (q0k w0 dn dl 2 λ _=>
 q0c [] (
 q0y (
 R x0 x2 x3 x4 d)))]))]))))]) (
 qc (λ K=>K x0) λ dp=>
 qc (q02 dp) λ dq=>
 qc (qk dq 1) λ dr=>
 qz (qg w0 dr) λ ds=>
 qc (λ K=>K x0) λ dt=>
 qc (q02 dt) λ du=>
 qc (qk du 0) λ dv=>
 qz (qg w0 dv) λ dw=>
 qc (λ K=>K c) λ dx=>
 qc (q04 2 dw dx) λ dy=>
 qz (qw w0 dy 2) λ dz=>
 qc (λ K=>K x0) λ ea=>
 qc (q02 ea) λ eb=>
 qc (qk eb 0) λ ec=>
 qz (qg w0 ec) λ ed=>
 qc (λ K=>K x6) λ ee=>
 qc (q04 2 ed ee) λ ef=>
 qz (qw w0 ef 2) λ eg=>
 q0d [
 (q1n P w0 ds [dz,eg] λ eh=>
 q0c [] (
 qc (qb (unA .not eh)) λ ei=>
 q0y (
 qt ei (
 qw w0 x3 2 λ ej=>
 q0k w0 x2 ej 2 λ _=>
 kr x2) (
 qc (λ K=>K x0) λ ek=>
 qc (q02 ek) λ el=>
 qc (qk el 0) λ em=>
 qz (qg w0 em) λ en=>
 qc (λ K=>K x6) λ eo=>
 qc (λ K=>K x0) λ ep=>
 qc (q02 ep) λ eq=>
 qc (qk eq 0) λ er=>
 qz (qg w0 er) λ es=>
 qc (λ K=>K c) λ et=>
 qc (λ K=>K x0) λ eu=>
 qc (q02 eu) λ ev=>
 qc (qk ev 0) λ ew=>
 qz (qg w0 ew) λ ex=>
 qc (λ K=>K c) λ ey=>
 qc (q04 2 ex ey) λ ez=>
 qz (qw w0 ez 2) λ ga=>
 qc (λ K=>K x0) λ gb=>
 qc (q02 gb) λ gc=>
 qc (qk gc 0) λ gd=>
 qz (qg w0 gd) λ ge=>
 qc (λ K=>K x6) λ gf=>
 qc (q04 2 ge gf) λ gg=>
 qz (qw w0 gg 2) λ gh=>
 qc (q04 2 en eo) λ gi=>
 q0d [
 (q0k w0 gi ga 2 λ _=>
 q0c [] (
 qc (q04 2 es et) λ gj=>
 q0d [
 (q0k w0 gj gh 2 λ _=>
 q0c [] (
 q0y (
 R x0 x2 x3 x4 c)))]))]))))]))))])
def q7m (P:Program) (w0:World) (kr:Ko1):Nat→Value→Value→Value→Value→Value→Hp→Prop
 | 0,_,_,_,_,_=>λ _=>False
 | m + 1,x0,x2,x3,x4,x6=>q9z P w0 (q7m P w0 kr m) kr x0 x2 x3 x4 x6
def qnv (kr:Ko1) (x0 x2 x3 x4 x6:Value):Hp→Prop:=λ h=>∃ m,q7m P w0 kr m x0 x2 x3 x4 x6 h
def qhk (a0:Value) (R:qh):Hp→Prop:=
 q0u [(.slice none 0 0),(.int .i64 0)] 2 λ d=>
 q02 a0 λ e=>
 qk e 0 λ g=>
 qg w0 g λ i=>
 q04 2 i (.int .i64 0) λ j=>
 qw w0 j 2 λ l=>
 q0u [(.slice none 0 0),(.int .i64 0)] 2 λ c=>
 q0k w0 c l 2 λ _=>
 q02 a0 λ o=>
 qk o 0 λ s=>
 qg w0 s λ u=>
 qb (q05 u) λ v=>
 qb (qd .sub v (.int .i64 1)) λ b=>
 qc (λ K=>K a0) λ z=>
 qc (q02 z) λ ba=>
 qc (qk ba 0) λ bb=>
 qz (qg w0 bb) λ bc=>
 qc (λ K=>K a0) λ bd=>
 qc (q02 bd) λ be=>
 qc (qk be 0) λ bf=>
 qz (qg w0 bf) λ bg=>
 qc (λ K=>K b) λ bh=>
 qc (q04 2 bg bh) λ bi=>
 qz (qw w0 bi 2) λ bj=>
 qc (q04 2 bc (.int .i64 0)) λ bk=>
 q0d [
 (q0k w0 bk bj 2 λ _=>
 q0c [] (
 q0y (
 q0u [(.slice none 0 0),(.int .i64 0)] 2 λ bl=>
 qc (λ K=>K a0) λ bm=>
 qc (q02 bm) λ bn=>
 qc (qk bn 0) λ bo=>
 qz (qg w0 bo) λ bp=>
 qc (λ K=>K b) λ bq=>
 qz (qw w0 bl 2) λ br=>
 qc (q04 2 bp bq) λ bs=>
 q0d [
 (q0k w0 bs br 2 λ _=>
 q0c [] (
 q0y (
 q02 a0 λ bt=>
 qk bt 0 λ bu=>
 qg w0 bu λ bv=>
 q1e 2 bv none (some b) none λ bw=>
 q02 a0 λ bx=>
 qk bx 0 λ bz=>
 q0q w0 bz bw λ _=>
 qnv P w0 (λ ca=>
 qw w0 ca 2 λ cb=>
 qo [cb] R) a0 d c b (.int .i64 0))))])))]
def qnt (w0:World) (kr:Ko1) (m:Nat) (x0 x2 x3 x4 x6:Value):Hp→Prop:=q0p (stepL ⟨prog,w0,131,qns⟩ (drw w0 131) (q0v qnu 0)) m (q0s [(0,x0),(2,x2),(3,x3),(4,x4),(6,x6)]) [λ t=>kr (t 2)]
theorem q018 (w0:World) (kr:Ko1):∀ m,qnt w0 kr m=q7m prog w0 kr m:=by
 intro m
 induction m with
 | zero=>kernel_rfl
 | succ m ih=>
  show _=λ x0 x2 x3 x4 x6=>q9z prog w0 (q7m prog w0 kr m) kr x0 x2 x3 x4 x6
  rw [← ih]
  kernel_rfl
theorem q019 (w0:World):qnv prog w0=λ kr x0 x2 x3 x4 x6 h=>∃ m,qnt w0 kr m x0 x2 x3 x4 x6 h:=by
 funext kr x0 x2 x3 x4 x6 h
 simp only [q018]
 rfl
theorem q01g {w0:World} {a0:Value} (hj:∀ v,v∈[a0]→v≠junk) (hv:qhk prog w0 a0 R h):qf prog w0 qb4 [a0] h R:=
 q03 qnu qns 131 (by kernel_rfl) (by kernel_rfl) (by simp) hj (by
  unfold qhk
  rw [q019 w0]
  kernel_rfl) hv
abbrev q02r:Func:=f153
def q02u:List (Nat × List Nat × List Nat):=[]
def qoi (a0 a1:Value) (R:qh):Hp→Prop:=
 q0u [(.string .empty),(.string .empty),(.bool false)] 3 λ b=>
 q0u [(.string .empty),(.string .empty),(.bool false)] 3 λ d=>
 qi P w0 qdh [a0,a1] λ c=>
 qb (q0g c 0) λ e=>
 qb (q0g c 1) λ g=>
 qb (unA .not g) λ i=>
 qt i (
 qw w0 d 3 λ j=>
 q0k w0 b j 3 λ _=>
 qw w0 b 3 λ l=>
 qo [l,(.bool false)] R) (
 q02 a0 λ o=>
 qk o 0 λ s=>
 qg w0 s λ u=>
 q04 4 u e λ v=>
 qk v 1 λ z=>
 qw w0 z 3 λ ba=>
 q0k w0 b ba 3 λ _=>
 qw w0 b 3 λ bb=>
 qo [bb,(.bool true)] R)
theorem q031 {w0:World} {a0 a1:Value} (hj:∀ v,v∈[a0,a1]→v≠junk) (hv:qoi prog w0 a0 a1 R h):qf prog w0 qhr [a0,a1] h R:=
 q03 q02r q02u 26 (by kernel_rfl) (by kernel_rfl) (by simp) hj (by
  kernel_rfl) hv
abbrev q027:Func:=f154
def q02j:List (Nat × List Nat × List Nat):=[]
def qod (a0 a1:Value) (R:qh):Hp→Prop:=
 qb (q1g .eql a0 (.pointer none)) λ c=>
 qt c (
 qo [(.int .i64 0),(.bool false)] R) (
 q02 a0 λ d=>
 qk d 0 λ e=>
 qg w0 e λ g=>
 qi P w0 qhx [g,a1] λ b=>
 qb (q0g b 0) λ i=>
 qb (q0g b 1) λ j=>
 qo [i,j] R)
theorem q02l {w0:World} {a0 a1:Value} (hj:∀ v,v∈[a0,a1]→v≠junk) (hv:qod prog w0 a0 a1 R h):qf prog w0 qdh [a0,a1] h R:=
 q03 q027 q02j 16 (by kernel_rfl) (by kernel_rfl) (by simp) hj (by
  kernel_rfl) hv
abbrev qo4:Func:=f161
def qo6:List (Nat × List Nat × List Nat):=[(2,[0,2,12,13,14],[])]
def qde (R:Ko5) (k0:Hp→Prop) (kr:Hp→Prop) (x0 x2 x12 x13 x14:Value):Hp→Prop:=
 qb (qd .lss x14 x13) λ d=>
 qt d (
 q04 4 x12 x14 λ e=>
 qw w0 e 4 λ g=>
 q0u [(.string .empty),(.string .empty),(.string .empty),(.bool false)] 4 λ c=>
 q0k w0 c g 4 λ _=>
 qg w0 x2 λ i=>
 qk c 0 λ j=>
 qg w0 j λ l=>
 q1n P w0 i [l] λ b=>
 qe b true (λ K=>K x0) λ o=>
 qe b true (qk c 0) λ s=>
 qe b true (qg w0 s) λ u=>
 qe b true (qk c 1) λ v=>
 qe b true (qw w0 v 3) λ z=>
 qe b true (q1n P w0 o [u,z]) λ ba=>
 qe b true (qb (unA .not ba)) λ bb=>
 q0a b bb (.bool false) λ bc=>
 qt bc (
 kr) (
 qb (qd .add x14 (.int .i64 1)) λ bd=>
 R x0 x2 x12 x13 bd)) (
 k0)
def q5v (P:Program) (w0:World) (k0:Hp→Prop) (kr:Hp→Prop):Nat→Value→Value→Value→Value→Value→Hp→Prop
 | 0,_,_,_,_,_=>λ _=>False
 | m + 1,x0,x2,x12,x13,x14=>qde P w0 (q5v P w0 k0 kr m) k0 kr x0 x2 x12 x13 x14
def qo5 (k0:Hp→Prop) (kr:Hp→Prop) (x0 x2 x12 x13 x14:Value):Hp→Prop:=λ h=>∃ m,q5v P w0 k0 kr m x0 x2 x12 x13 x14 h
def qhm (a0 a1 a2:Value) (R:qh):Hp→Prop:=
 qg w0 a1 λ c=>
 qb (q1g .eql c (.pointer none)) λ d=>
 qt d (
 qo [] R) (
 qg w0 a1 λ e=>
 q02 e λ g=>
 qk g 0 λ i=>
 qg w0 i λ j=>
 qi P w0 qhf [j] λ b=>
 qb (q05 b) λ l=>
 qo5 P w0 (
 qo [] R) (
 qo [] R) a0 a2 b l (.int .i64 0))
def qo7 (w0:World) (k0:Hp→Prop) (kr:Hp→Prop) (m:Nat) (x0 x2 x12 x13 x14:Value):Hp→Prop:=q0p (stepL ⟨prog,w0,32,qo6⟩ (drw w0 32) (q0v qo4 0)) m (q0s [(0,x0),(2,x2),(12,x12),(13,x13),(14,x14)]) [λ t=>k0,λ t=>kr]
theorem q01m (w0:World) (k0:Hp→Prop) (kr:Hp→Prop):∀ m,qo7 w0 k0 kr m=q5v prog w0 k0 kr m:=by
 intro m
 induction m with
 | zero=>kernel_rfl
 | succ m ih=>
  show _=λ x0 x2 x12 x13 x14=>qde prog w0 (q5v prog w0 k0 kr m) k0 kr x0 x2 x12 x13 x14
  rw [← ih]
  kernel_rfl
theorem q01l (w0:World):qo5 prog w0=λ k0 kr x0 x2 x12 x13 x14 h=>∃ m,qo7 w0 k0 kr m x0 x2 x12 x13 x14 h:=by
 funext k0 kr x0 x2 x12 x13 x14 h
 simp only [q01m]
 rfl
theorem q01p {w0:World} {a0 a1 a2:Value} (hj:∀ v,v∈[a0,a1,a2]→v≠junk) (hv:qhm prog w0 a0 a1 a2 R h):qf prog w0 qb6 [a0,a1,a2] h R:=
 q03 qo4 qo6 32 (by kernel_rfl) (by kernel_rfl) (by simp) hj (by
  unfold qhm
  rw [q01l w0]
  kernel_rfl) hv
abbrev q033:Func:=f167
def q035:List (Nat × List Nat × List Nat):=[]
def qoq (a0 a1:Value) (R:qh):Hp→Prop:=
 qi P w0 qhd [a0,a1,(.func (.func q5w) #[] #[])] λ d=>
 qb (q0g d 0) λ c=>
 qb (q0g d 1) λ bf=>
 qc (λ K=>K c) λ e=>
 qc (λ K=>K c) λ g=>
 qc (λ K=>K a0) λ i=>
 qc (qb (q05 i)) λ j=>
 qc (qb (qd .lss g j)) λ l=>
 qc (λ K=>K l) λ b=>
 qc (qe b true (λ K=>K a0)) λ o=>
 qc (qe b true (λ K=>K c)) λ s=>
 qc (qe b true (q04 4 o s)) λ u=>
 qc (qe b true (qk u 0)) λ v=>
 qz (qe b true (qg w0 v)) λ z=>
 qc (qe b true (λ K=>K a1)) λ ba=>
 qc (qe b true (qb (qd .eql z ba))) λ bb=>
 qc (q0a b bb (.bool false)) λ bc=>
 qc (λ K=>K e) λ bd=>
 qc (λ K=>K bc) λ be=>
 q0y (
 qo [bd,be] R)
theorem q03f {w0:World} {a0 a1:Value} (hj:∀ v,v∈[a0,a1]→v≠junk) (hv:qoq prog w0 a0 a1 R h):qf prog w0 qhx [a0,a1] h R:=
 q03 q033 q035 28 (by kernel_rfl) (by kernel_rfl) (by simp) hj (by
  kernel_rfl) hv
abbrev q01y:Func:=f174
def q01z:List (Nat × List Nat × List Nat):=[]
def qoc (a0 a1:Value) (R:qh):Hp→Prop:=
 q15 true 4 a0 λ b=>
 qk b 0 λ c=>
 qg w0 c λ d=>
 qi P w0 qec [d,a1] λ e=>
 qo [e] R
theorem q02a {w0:World} {a0 a1:Value} (hj:∀ v,v∈[a0,a1]→v≠junk) (hv:qoc prog w0 a0 a1 R h):qf prog w0 q5w [a0,a1] h R:=
 q03 q01y q01z 9 (by kernel_rfl) (by kernel_rfl) (by simp) hj (by
  kernel_rfl) hv
end
end Go.Proofs.YtfmoemconapmhaaGreat.Ah
