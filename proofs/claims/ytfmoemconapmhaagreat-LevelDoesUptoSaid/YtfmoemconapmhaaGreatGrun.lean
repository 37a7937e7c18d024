/- PRINTED by wip/tools/shallow.py: functions of the program as readable words, and that each is what its text says. -/
import Derived.Test.YtfmoemconapmhaaGreatGn
set_option linter.all false
namespace Go.Proofs.YtfmoemconapmhaaGreat.Ah
open Go Go.Proofs.Tryz
noncomputable section
variable (P:Program)(w0:World){h:Hp}{R:av}
abbrev Uw:Func:=f38
def WW:List (Nat×List Nat×List Nat):=[]
def K9(a0 a1 a2:Value)(R:av):Hp→Prop:=
 dI [(0,1,false,a1),(1,1,false,a2)] [(.string .empty),(.string .empty),(.bool false)] λb=>
 am P w0 wo [a0,b] λc=>
 ar [c] R
theorem PC{w0:World}{a0 a1 a2:Value}(hj:∀v,v∈[a0,a1,a2]→v≠junk)(hv:K9 prog w0 a0 a1 a2 R h):aj prog w0 AO [a0,a1,a2] h R:=
 aI Uw WW 12 (by kernel_rfl) (by kernel_rfl) (by simp) hj (by
  kernel_rfl) hv
abbrev Us:Func:=f40
def WR:List (Nat×List Nat×List Nat):=[]
def K5(a0 a1:Value)(R:av):Hp→Prop:=
 dI [(0,1,false,a1),(2,1,false,(.bool true))] [(.string .empty),(.string .empty),(.bool false)] λb=>
 am P w0 wo [a0,b] λc=>
 ar [c] R
theorem P8{w0:World}{a0 a1:Value}(hj:∀v,v∈[a0,a1]→v≠junk)(hv:K5 prog w0 a0 a1 R h):aj prog w0 AL [a0,a1] h R:=
 aI Us WR 9 (by kernel_rfl) (by kernel_rfl) (by simp) hj (by
  kernel_rfl) hv
abbrev Uv:Func:=f42
def WV:List (Nat×List Nat×List Nat):=[]
def K8(a0:Value)(R:av):Hp→Prop:=
 am P w0 mV [a0] λb=>
 aa (unA .not b) λc=>
 aB c (
 ar [(.int .i64 0)] R) (
 aF a0 λd=>
 au d 0 λe=>
 al w0 e λg=>
 am P w0 Ba [g] λi=>
 ar [i] R)
theorem PB{w0:World}{a0:Value}(hj:∀v,v∈[a0]→v≠junk)(hv:K8 prog w0 a0 R h):aj prog w0 wm [a0] h R:=
 aI Uv WV 11 (by kernel_rfl) (by kernel_rfl) (by simp) hj (by
  kernel_rfl) hv
abbrev Up:Func:=f47
def WO:List (Nat×List Nat×List Nat):=[]
def K2(P:Program)(w0:World)(a0:Value)(R:av):Hp→Prop:=
 cF false 1 a0 λb=>
 jW qO [] [b] λc=>
 ar [c] R
theorem P5{w0:World}{a0:Value}(hj:∀v,v∈[a0]→v≠junk)(hv:K2 prog w0 a0 R h):aj prog w0 te [a0] h R:=
 aI Up WO 4 (by kernel_rfl) (by kernel_rfl) (by simp) hj (by
  kernel_rfl) hv
abbrev Ur:Func:=f48
def WQ:List (Nat×List Nat×List Nat):=[]
def K4(a0:Value)(R:av):Hp→Prop:=
 am P w0 mV [a0] λb=>
 aB b (
 am P w0 wG [] λc=>
 aF a0 λd=>
 au d 0 λe=>
 bO w0 e c λ_=>
 ar [] R) (
 ar [] R)
theorem P7{w0:World}{a0:Value}(hj:∀v,v∈[a0]→v≠junk)(hv:K4 prog w0 a0 R h):aj prog w0 AK [a0] h R:=
 aI Ur WQ 8 (by kernel_rfl) (by kernel_rfl) (by simp) hj (by
  kernel_rfl) hv
abbrev zl:Func:=f52
def zP:List (Nat×List Nat×List Nat):=[(3,[1,5,13,14,15],[1,5]),(13,[1,10,35,36,37],[10])]
def Jr(P:Program)(w0:World)(b:Nat)(g:Lp)(K:av)(x8 y21:Value):Hp→Prop:=
 cA [(.string .empty),(.string .empty),(.bool false)] 3 λc=>
 bU w0 c y21 3 λ_=>
 mz b g (
 al w0 x8 λd=>
 au c 0 λe=>
 al w0 e λi=>
 aG w0 c 3 λj=>
 dI [(0,1,false,i),(1,3,true,j)] [(.string .empty),(.string .empty),(.string .empty),(.bool false)] λl=>
 bI [(0,4,true,l)] (aL [(.string .empty),(.string .empty),(.string .empty),(.bool false)] 1) 1 4 λo=>
 bD w0 4 56 d o λs=>
 bO w0 x8 s λ_=>
 fq b g none K)
def wZ(R:Ko5)(k0:Ko2)(x1 x5 x13 x14 x15:Value):Hp→Prop:=
 aa (ah .lss x15 x14) λd=>
 aB d (
 aJ 1 x13 x15 λe=>
 al w0 e λi=>
 cA [(.slice none 0 0)] 1 λc=>
 am P w0 wy [i,(.string .empty),(.string .empty)] λj=>
 iY P w0 j 1 (λb g args K=>Jr P w0 b g K c (args.getD 0 undef)) (
 al w0 c λl=>
 bI [(0,1,false,l)] (aL [(.slice none 0 0)] 1) 1 1 λo=>
 bD w0 1 24 x5 o λs=>
 aa (ah .add x15 (.int .i64 1)) λu=>
 R x1 s x13 x14 u) []) (
 k0 x1 x5)
def pG(P:Program)(w0:World)(k0:Ko2):Nat→Value→Value→Value→Value→Value→Hp→Prop
 |0,_,_,_,_,_=>λ_=>False
 |m+1,x1,x5,x13,x14,x15=>wZ P w0 (pG P w0 k0 m) k0 x1 x5 x13 x14 x15
def Jn(k0:Ko2)(x1 x5 x13 x14 x15:Value):Hp→Prop:=λh=>∃m,pG P w0 k0 m x1 x5 x13 x14 x15 h
def xb(P:Program)(w0:World)(R:Ko5)(k4:Ko1)(x1 x10 x35 x36 x37:Value):Hp→Prop:=
 aa (ah .lss x37 x36) λd=>
 aB d (
 aJ 4 x35 x37 λe=>
 aG w0 e 4 λg=>
 cA [(.string .empty),(.string .empty),(.string .empty),(.bool false)] 4 λc=>
 bU w0 c g 4 λ_=>
 aa (unA .not x1) λb=>
 ai b false (au c 1) λi=>
 ai b false (au i 2) λj=>
 ai b false (al w0 j) λl=>
 ai b false (aa (unA .not l)) λo=>
 aQ b (.bool true) o λs=>
 aB s (
 au c 1 λu=>
 aG w0 u 3 λv=>
 bI [(0,3,true,v)] (aL [(.string .empty),(.string .empty),(.bool false)] 1) 1 3 λz=>
 bD w0 3 40 x10 z λba=>
 aa (ah .add x37 (.int .i64 1)) λbb=>
 R x1 ba x35 x36 bb) (
 aa (ah .add x37 (.int .i64 1)) λbc=>
 R x1 x10 x35 x36 bc)) (
 k4 x10)
def lQ(P:Program)(w0:World)(k4:Ko1):Nat→Value→Value→Value→Value→Value→Hp→Prop
 |0,_,_,_,_,_=>λ_=>False
 |m+1,x1,x10,x35,x36,x37=>xb P w0 (lQ P w0 k4 m) k4 x1 x10 x35 x36 x37
def Jo(k4:Ko1)(x1 x10 x35 x36 x37:Value):Hp→Prop:=λh=>∃m,lQ P w0 k4 m x1 x10 x35 x36 x37 h
def Ck(a0 a1:Value)(R:av):Hp→Prop:=
 λh0=>(aa (aM a0) λc=>
 Jn P w0 (λd e=>
 am P w0 wE [e] λb=>
 aa (aM b) λg=>
 Jo P w0 (λi=>
 ie h0 (
 ar [i] R)) d (.slice none 0 0) b g (.int .i64 0)) a1 (.slice none 0 0) a0 c (.int .i64 0)) h0
def Jq(w0:World)(k4:Ko1)(m:Nat)(x1 x10 x35 x36 x37:Value):Hp→Prop:=bJ (C6 ⟨prog,w0,56,zP⟩ (drw w0 56) (bQ zl 1)) m (bK [(1,x1),(10,x10),(35,x35),(36,x36),(37,x37)]) [λt=>k4 (t 10)]
theorem abm(w0:World)(k4:Ko1):∀m,Jq w0 k4 m=lQ prog w0 k4 m:=by
 intro m
 induction m with
 |zero=>kernel_rfl
 |succ m ih=>
  show _=λx1 x10 x35 x36 x37=>xb prog w0 (lQ prog w0 k4 m) k4 x1 x10 x35 x36 x37
  rw[←ih]
  kernel_rfl
theorem abk(w0:World):Jo prog w0=λk4 x1 x10 x35 x36 x37 h=>∃m,Jq w0 k4 m x1 x10 x35 x36 x37 h:=by
 funext k4 x1 x10 x35 x36 x37 h
 simp only[abm]
 rfl
def Jp(w0:World)(k0:Ko2)(m:Nat)(x1 x5 x13 x14 x15:Value):Hp→Prop:=bJ (C6 ⟨prog,w0,56,zP⟩ (drw w0 56) (bQ zl 0)) m (bK [(1,x1),(5,x5),(13,x13),(14,x14),(15,x15)]) [λt=>k0 (t 1) (t 5)]
theorem abl(w0:World)(k0:Ko2):∀m,Jp w0 k0 m=pG prog w0 k0 m:=by
 intro m
 induction m with
 |zero=>kernel_rfl
 |succ m ih=>
  show _=λx1 x5 x13 x14 x15=>wZ prog w0 (pG prog w0 k0 m) k0 x1 x5 x13 x14 x15
  rw[←ih]
  kernel_rfl
theorem abj(w0:World):Jn prog w0=λk0 x1 x5 x13 x14 x15 h=>∃m,Jp w0 k0 m x1 x5 x13 x14 x15 h:=by
 funext k0 x1 x5 x13 x14 x15 h
 simp only[abl]
 rfl
theorem PF{w0:World}{a0 a1:Value}(hj:∀v,v∈[a0,a1]→v≠junk)(hv:Ck prog w0 a0 a1 R h):aj prog w0 AP [a0,a1] h R:=
 rH zl zP 56 (by kernel_rfl) (by kernel_rfl) (by simp) hj (by
  unfold Ck
  rw[abj w0,abk w0]
  kernel_rfl) hv
abbrev U4:Func:=f58
def Xb:List (Nat×List Nat×List Nat):=[]
def KF(a0:Value)(R:av):Hp→Prop:=
 am P w0 qQ [a0] λb=>
 aa (unA .not b) λc=>
 aB c (
 ar [(.slice none 0 0)] R) (
 aF a0 λd=>
 au d 0 λe=>
 al w0 e λg=>
 am P w0 Bh [g] λi=>
 ar [i] R)
theorem PI{w0:World}{a0:Value}(hj:∀v,v∈[a0]→v≠junk)(hv:KF prog w0 a0 R h):aj prog w0 ww [a0] h R:=
 aI U4 Xb 11 (by kernel_rfl) (by kernel_rfl) (by simp) hj (by
  kernel_rfl) hv
abbrev Ut:Func:=f71
def WT:List (Nat×List Nat×List Nat):=[]
def K6(a0:Value)(R:av):Hp→Prop:=
 am P w0 mV [a0] λb=>
 aa (unA .not b) λc=>
 aB c (
 ar [(.pointer none)] R) (
 aF a0 λd=>
 au d 0 λe=>
 al w0 e λg=>
 am P w0 AY [g] λi=>
 dI [(0,1,false,i)] [(.pointer none)] λj=>
 cF true 1 j λl=>
 ar [l] R)
theorem P9{w0:World}{a0:Value}(hj:∀v,v∈[a0]→v≠junk)(hv:K6 prog w0 a0 R h):aj prog w0 AM [a0] h R:=
 aI Ut WT 13 (by kernel_rfl) (by kernel_rfl) (by simp) hj (by
  kernel_rfl) hv
abbrev U0:Func:=f84
def WZ:List (Nat×List Nat×List Nat):=[]
def KD(R:av):Hp→Prop:=
 am P w0 wG [] λb=>
 dI [(0,1,false,b)] [(.pointer none)] λc=>
 cF true 1 c λd=>
 ar [d] R
theorem PG{w0:World}(hj:∀v,v∈[]→v≠junk)(hv:KD prog w0  R h):aj prog w0 AQ [] h R:=
 aI U0 WZ 4 (by kernel_rfl) (by kernel_rfl) (by simp) hj (by
  kernel_rfl) hv
abbrev Gg:Func:=f85
def Hl:List (Nat×List Nat×List Nat):=[(2,[0,2,5,6,7],[2])]
def wY(R:Ko5)(k0 kr:Ko1)(x0 x2 x5 x6 x7:Value):Hp→Prop:=
 aa (ah .lss x7 x6) λe=>
 aB e (
 aJ 3 x5 x7 λg=>
 aG w0 g 3 λi=>
 cA [(.string .empty),(.string .empty),(.bool false)] 3 λd=>
 bU w0 d i 3 λ_=>
 aD (aG w0 d 3) λj=>
 aO [
 (am P w0 wB [j] λl=>
 aP [] (
 af (aa (unA .not l)) λo=>
 af (λK=>K o) λc=>
 af (ai c false (λK=>K x7)) λs=>
 af (ai c false (aa (ah .gtr s (.int .i64 0)))) λu=>
 af (ai c false (λK=>K u)) λb=>
 af (ai b true (λK=>K x0)) λv=>
 af (ai b true (λK=>K x7)) λz=>
 af (ai b true (aa (ah .sub z (.int .i64 1)))) λba=>
 af (ai b true (aJ 3 v ba)) λbb=>
 af (ai b true (au bb 0)) λbc=>
 aD (ai b true (al w0 bc)) λbd=>
 af (ai b true (au d 0)) λbe=>
 aD (ai b true (al w0 be)) λbf=>
 af (ai b true (aa (ah .geq bd bf))) λbg=>
 af (ai c false (aQ b bg (.bool false))) λbh=>
 af (aQ c (.bool true) bh) λbi=>
 bN (
 aB bi (
 kr (.int .i64 120)) (
 aa (ah .add x7 (.int .i64 1)) λbj=>
 R x0 x2 x5 x6 bj))))]) (
 k0 x2)
def na(P:Program)(w0:World)(k0 kr:Ko1):Nat→Value→Value→Value→Value→Value→Hp→Prop
 |0,_,_,_,_,_=>λ_=>False
 |m+1,x0,x2,x5,x6,x7=>wY P w0 (na P w0 k0 kr m) k0 kr x0 x2 x5 x6 x7
def Jl(k0 kr:Ko1)(x0 x2 x5 x6 x7:Value):Hp→Prop:=λh=>∃m,na P w0 k0 kr m x0 x2 x5 x6 x7 h
def Cj(a0:Value)(R:av):Hp→Prop:=
 aa (aM a0) λb=>
 Jl P w0 (λd=>
 ar [(.int .i64 0)] R) (λc=>
 ar [c] R) a0 (.int .i64 0) a0 b (.int .i64 0)
def Jm(w0:World)(k0 kr:Ko1)(m:Nat)(x0 x2 x5 x6 x7:Value):Hp→Prop:=bJ (stepL ⟨prog,w0,31,Hl⟩ (drw w0 31) (bQ Gg 0)) m (bK [(0,x0),(2,x2),(5,x5),(6,x6),(7,x7)]) [λt=>k0 (t 2),λt=>kr (t 2)]
theorem abh(w0:World)(k0 kr:Ko1):∀m,Jm w0 k0 kr m=na prog w0 k0 kr m:=by
 intro m
 induction m with
 |zero=>kernel_rfl
 |succ m ih=>
  show _=λx0 x2 x5 x6 x7=>wY prog w0 (na prog w0 k0 kr m) k0 kr x0 x2 x5 x6 x7
  rw[←ih]
  kernel_rfl
theorem abg(w0:World):Jl prog w0=λk0 kr x0 x2 x5 x6 x7 h=>∃m,Jm w0 k0 kr m x0 x2 x5 x6 x7 h:=by
 funext k0 kr x0 x2 x5 x6 x7 h
 simp only[abh]
 rfl
theorem P4{w0:World}{a0:Value}(hj:∀v,v∈[a0]→v≠junk)(hv:Cj prog w0 a0 R h):aj prog w0 AJ [a0] h R:=
 aI Gg Hl 31 (by kernel_rfl) (by kernel_rfl) (by simp) hj (by
  unfold Cj
  rw[abg w0]
  kernel_rfl) hv
abbrev Uy:Func:=f90
def WY:List (Nat×List Nat×List Nat):=[]
def KC(a0 a1:Value)(R:av):Hp→Prop:=
 cF true 3 a1 λb=>
 am P w0 mV [a0] λc=>
 aa (unA .not c) λd=>
 aB d (
 ar [(.int .i64 6)] R) (
 aG w0 b 3 λe=>
 am P w0 wB [e] λg=>
 aa (unA .not g) λi=>
 aB i (
 ar [(.int .i64 120)] R) (
 af (λK=>K a0) λj=>
 af (aF j) λl=>
 af (au l 0) λo=>
 aD (al w0 o) λs=>
 af (au b 0) λu=>
 aD (al w0 u) λv=>
 aD (aG w0 b 3) λz=>
 aO [
 (am P w0 Bb [s,v,z] λba=>
 aP [] (
 bN (
 ar [(.int .i64 0)] R)))]))
theorem PE{w0:World}{a0 a1:Value}(hj:∀v,v∈[a0,a1]→v≠junk)(hv:KC prog w0 a0 a1 R h):aj prog w0 wo [a0,a1] h R:=
 aI Uy WY 21 (by kernel_rfl) (by kernel_rfl) (by simp) hj (by
  kernel_rfl) hv
abbrev Ux:Func:=f91
def WX:List (Nat×List Nat×List Nat):=[]
def KA(P:Program)(w0:World)(a0:Value)(R:av):Hp→Prop:=
 aa (cN .neq a0 (.pointer none)) λb=>
 ai b true (λK=>K a0) λc=>
 ai b true (aF c) λd=>
 ai b true (au d 0) λe=>
 ai b true (al w0 e) λg=>
 ai b true (aa (cN .neq g (.pointer none))) λi=>
 aQ b i (.bool false) λj=>
 ar [j] R
theorem PD{w0:World}{a0:Value}(hj:∀v,v∈[a0]→v≠junk)(hv:KA prog w0 a0 R h):aj prog w0 mV [a0] h R:=
 aI Ux WX 12 (by kernel_rfl) (by kernel_rfl) (by simp) hj (by
  kernel_rfl) hv
abbrev zk:Func:=f95
def zO:List (Nat×List Nat×List Nat):=[(9,[0,1,7,8,9,35,36,37],[0,1,7,8,9]),(16,[7,9,63,64,65],[7,9])]
def wV(R:Ko8)(k0:Ko5)(x0 x1 x7 x8 x9 x35 x36 x37:Value):Hp→Prop:=
 aa (ah .lss x37 x36) λc=>
 aB c (
 aJ 3 x35 x37 λd=>
 aG w0 d 3 λe=>
 cA [(.string .empty),(.int .i64 0),(.int .i64 0)] 3 λb=>
 bU w0 b e 3 λ_=>
 au b 0 λg=>
 al w0 g λi=>
 am P w0 Ai [x9,i] λba=>
 au b 1 λj=>
 al w0 j λl=>
 aa (bG .u64 l) λo=>
 am P w0 lJ [x9,o] λbb=>
 au b 2 λs=>
 al w0 s λu=>
 aa (bG .u64 u) λv=>
 am P w0 lJ [x9,v] λbc=>
 aa (ah .add x37 (.int .i64 1)) λz=>
 R x0 x1 x7 x8 x9 x35 x36 z) (
 k0 x0 x1 x7 x8 x9)
def pE(P:Program)(w0:World)(k0:Ko5):Nat→Value→Value→Value→Value→Value→Value→Value→Value→Hp→Prop
 |0,_,_,_,_,_,_,_,_=>λ_=>False
 |m+1,x0,x1,x7,x8,x9,x35,x36,x37=>wV P w0 (pE P w0 k0 m) k0 x0 x1 x7 x8 x9 x35 x36 x37
def Jh(k0:Ko5)(x0 x1 x7 x8 x9 x35 x36 x37:Value):Hp→Prop:=λh=>∃m,pE P w0 k0 m x0 x1 x7 x8 x9 x35 x36 x37 h
def wW(R:Ko5)(k2:Ko2)(x7 x9 x63 x64 x65:Value):Hp→Prop:=
 aa (ah .lss x65 x64) λb=>
 aB b (
 aJ 1 x63 x65 λc=>
 al w0 c λd=>
 aa (bG .u32 d) λe=>
 am P w0 pv [x9,e] λi=>
 aa (ah .add x65 (.int .i64 1)) λg=>
 R x7 x9 x63 x64 g) (
 k2 x7 x9)
def pF(P:Program)(w0:World)(k2:Ko2):Nat→Value→Value→Value→Value→Value→Hp→Prop
 |0,_,_,_,_,_=>λ_=>False
 |m+1,x7,x9,x63,x64,x65=>wW P w0 (pF P w0 k2 m) k2 x7 x9 x63 x64 x65
def Ji(k2:Ko2)(x7 x9 x63 x64 x65:Value):Hp→Prop:=λh=>∃m,pF P w0 k2 m x7 x9 x63 x64 x65 h
def Ci(a0 a1:Value)(R:av):Hp→Prop:=
 aa (ah .lss a1 (.int .i64 256)) λc=>
 ai c false (λK=>K a1) λu=>
 ai c false (aa (ah .gtr u (.int .i64 4096))) λv=>
 aQ c (.bool true) v λz=>
 aB z (
 ar [(.slice none 0 0),(.int .i64 1)] R) (
 am P w0 AJ [a0] λe=>
 aa (ah .neq e (.int .i64 0)) λba=>
 aB ba (
 ar [(.slice none 0 0),e] R) (
 am P w0 AT [a0,a1] λg=>
 aa (aV g 0) λbb=>
 aa (aV g 1) λd=>
 am P w0 qG [(.int .i64 1073741824)] λbc=>
 aa (aM d) λbd=>
 Jh P w0 (λbe bf i bg bh=>
 aa (aM be) λbi=>
 aa (aM bg) λbj=>
 aa (aM i) λbk=>
 bI [(0,1,false,bf),(1,1,false,bi),(2,1,false,bj),(3,1,false,bk)] (aL [(.int .i64 0)] 4) 4 1 λj=>
 aa (aM j) λbl=>
 Ji P w0 (λbm b=>
 am P w0 mT [b] λl=>
 aa (aV l 0) λbn=>
 aa (aV l 1) λbs=>
 am P w0 mO [bn] λbo=>
 am P w0 pv [b,bo] λbt=>
 am P w0 sO [b,(.string ⟨#[68,82,85,78]⟩)] λbu=>
 am P w0 mT [b] λo=>
 aa (aV o 0) λbp=>
 aa (aV o 1) λs=>
 aa (ah .neq s (.int .i64 0)) λbq=>
 aB bq (
 ar [(.slice none 0 0),s] R) (
 bD w0 1 1 bm bp λbr=>
 ar [br,(.int .i64 0)] R)) i bh j bl (.int .i64 0)) a0 a1 bb d bc d bd (.int .i64 0)))
def Jk(w0:World)(k2:Ko2)(m:Nat)(x7 x9 x63 x64 x65:Value):Hp→Prop:=bJ (stepL ⟨prog,w0,96,zO⟩ (drw w0 96) (bQ zk 1)) m (bK [(7,x7),(9,x9),(63,x63),(64,x64),(65,x65)]) [λt=>k2 (t 7) (t 9)]
theorem abf(w0:World)(k2:Ko2):∀m,Jk w0 k2 m=pF prog w0 k2 m:=by
 intro m
 induction m with
 |zero=>kernel_rfl
 |succ m ih=>
  show _=λx7 x9 x63 x64 x65=>wW prog w0 (pF prog w0 k2 m) k2 x7 x9 x63 x64 x65
  rw[←ih]
  kernel_rfl
theorem abd(w0:World):Ji prog w0=λk2 x7 x9 x63 x64 x65 h=>∃m,Jk w0 k2 m x7 x9 x63 x64 x65 h:=by
 funext k2 x7 x9 x63 x64 x65 h
 simp only[abf]
 rfl
def Jj(w0:World)(k0:Ko5)(m:Nat)(x0 x1 x7 x8 x9 x35 x36 x37:Value):Hp→Prop:=bJ (stepL ⟨prog,w0,96,zO⟩ (drw w0 96) (bQ zk 0)) m (bK [(0,x0),(1,x1),(7,x7),(8,x8),(9,x9),(35,x35),(36,x36),(37,x37)]) [λt=>k0 (t 0) (t 1) (t 7) (t 8) (t 9)]
theorem abe(w0:World)(k0:Ko5):∀m,Jj w0 k0 m=pE prog w0 k0 m:=by
 intro m
 induction m with
 |zero=>kernel_rfl
 |succ m ih=>
  show _=λx0 x1 x7 x8 x9 x35 x36 x37=>wV prog w0 (pE prog w0 k0 m) k0 x0 x1 x7 x8 x9 x35 x36 x37
  rw[←ih]
  kernel_rfl
theorem abc(w0:World):Jh prog w0=λk0 x0 x1 x7 x8 x9 x35 x36 x37 h=>∃m,Jj w0 k0 m x0 x1 x7 x8 x9 x35 x36 x37 h:=by
 funext k0 x0 x1 x7 x8 x9 x35 x36 x37 h
 simp only[abe]
 rfl
theorem P3{w0:World}{a0 a1:Value}(hj:∀v,v∈[a0,a1]→v≠junk)(hv:Ci prog w0 a0 a1 R h):aj prog w0 wl [a0,a1] h R:=
 aI zk zO 96 (by kernel_rfl) (by kernel_rfl) (by simp) hj (by
  unfold Ci
  rw[abc w0,abd w0]
  kernel_rfl) hv
abbrev U2:Func:=f96
def Xa:List (Nat×List Nat×List Nat):=[]
def KE(a0:Value)(R:av):Hp→Prop:=
 dW w0 a0 λi=>
 am P w0 AU [i] λc=>
 aa (aV c 0) λd=>
 aa (aV c 1) λj=>
 aa (aV c 2) λl=>
 aa (aV c 3) λo=>
 aa (unA .not o) λs=>
 aB s (
 ar [(.pointer none),(.int .i64 121)] R) (
 am P w0 wl [d,j] λe=>
 aa (aV e 0) λg=>
 aa (aV e 1) λu=>
 aa (ah .neq u (.int .i64 0)) λb=>
 ai b false (λK=>K a0) λv=>
 ai b false (λK=>K g) λz=>
 ai b false (am P w0 Ab [v,z]) λba=>
 ai b false (aa (unA .not ba)) λbb=>
 aQ b (.bool true) bb λbc=>
 aB bc (
 ar [(.pointer none),(.int .i64 121)] R) (
 dI [(0,1,false,g),(1,1,false,d),(2,1,false,l)] [(.slice none 0 0),(.slice none 0 0),(.int .i64 0)] λbd=>
 cF true 3 bd λbe=>
 ar [be,(.int .i64 0)] R))
theorem PH{w0:World}{a0:Value}(hj:∀v,v∈[a0]→v≠junk)(hv:KE prog w0 a0 R h):aj prog w0 wt [a0] h R:=
 aI U2 Xa 39 (by kernel_rfl) (by kernel_rfl) (by simp) hj (by
  kernel_rfl) hv
abbrev Uq:Func:=f98
def WP:List (Nat×List Nat×List Nat):=[]
def abi(b:Nat)(g:Lp)(K:av)(x2 y13 y14:Value):Hp→Prop:=
 cA [(.string .empty),(.string .empty),(.bool false)] 3 λc=>
 bU w0 c y14 3 λ_=>
 mz b g (
 al w0 x2 λd=>
 aG w0 c 3 λe=>
 dM P w0 d [e] λi=>
 aa (unA .not i) λj=>
 aB j (
 fq b g (some none) K) (
 fq b g none K))
def K3(a0 a1:Value)(R:av):Hp→Prop:=
 λh0=>(cF false 1 a0 λc=>
 al w0 a1 λd=>
 am P w0 mV [d] λe=>
 aa (unA .not e) λi=>
 aB i (
 ie h0 (
 ar [] R)) (
 al w0 a1 λj=>
 aF j λl=>
 au l 0 λo=>
 al w0 o λs=>
 am P w0 AX [s] λu=>
 iY P w0 u 2 (λb g args K=>abi P w0 b g K c (args.getD 0 undef) (args.tail.getD 0 undef)) (
 ie h0 (
 ar [] R)) [(none,(
 ie h0 (
 ar [] R)))])) h0
theorem P6{w0:World}{a0 a1:Value}(hj:∀v,v∈[a0,a1]→v≠junk)(hv:K3 prog w0 a0 a1 R h):aj prog w0 qO [a0,a1] h R:=
 rH Uq WP 19 (by kernel_rfl) (by kernel_rfl) (by simp) hj (by
  kernel_rfl) hv
abbrev U7:Func:=f102
def Xd:List (Nat×List Nat×List Nat):=[]
def KH(P:Program)(w0:World)(a0 a1 a2:Value)(R:av):Hp→Prop:=
 cF false 1 a0 λb=>
 cF false 1 a1 λc=>
 cF false 1 a2 λd=>
 jW qP [] [b,c,d] λe=>
 ar [e] R
theorem PK{w0:World}{a0 a1 a2:Value}(hj:∀v,v∈[a0,a1,a2]→v≠junk)(hv:KH prog w0 a0 a1 a2 R h):aj prog w0 wy [a0,a1,a2] h R:=
 aI U7 Xd 8 (by kernel_rfl) (by kernel_rfl) (by simp) hj (by
  kernel_rfl) hv
abbrev UA:Func:=f112
def Xg:List (Nat×List Nat×List Nat):=[]
def xl(P:Program)(w0:World)(a0:Value)(R:av):Hp→Prop:=
 aa (cN .neq a0 (.pointer none)) λb=>
 ai b true (λK=>K a0) λc=>
 ai b true (aF c) λd=>
 ai b true (au d 0) λe=>
 ai b true (al w0 e) λg=>
 ai b true (aa (i8 .neq g (.slice none 0 0))) λi=>
 aQ b i (.bool false) λj=>
 ar [j] R
theorem D1{w0:World}{a0:Value}(hj:∀v,v∈[a0]→v≠junk)(hv:xl prog w0 a0 R h):aj prog w0 qQ [a0] h R:=
 aI UA Xg 12 (by kernel_rfl) (by kernel_rfl) (by simp) hj (by
  kernel_rfl) hv
abbrev Uu:Func:=f127
def WU:List (Nat×List Nat×List Nat):=[]
def K7(a0 a1:Value)(R:av):Hp→Prop:=
 cA [(.string .empty),(.string .empty),(.bool false)] 3 λb=>
 am P w0 mV [a0] λd=>
 aa (unA .not d) λe=>
 aB e (
 dI [] [(.string .empty),(.string .empty),(.bool false)] λg=>
 bU w0 b g 3 λ_=>
 aG w0 b 3 λi=>
 ar [i,(.bool false)] R) (
 aF a0 λj=>
 au j 0 λl=>
 al w0 l λo=>
 am P w0 AZ [o,a1] λc=>
 aa (aV c 0) λs=>
 aa (aV c 1) λu=>
 bU w0 b s 3 λ_=>
 aG w0 b 3 λv=>
 ar [v,u] R)
theorem PA{w0:World}{a0 a1:Value}(hj:∀v,v∈[a0,a1]→v≠junk)(hv:K7 prog w0 a0 a1 R h):aj prog w0 AN [a0,a1] h R:=
 aI Uu WU 18 (by kernel_rfl) (by kernel_rfl) (by simp) hj (by
  kernel_rfl) hv
abbrev U5:Func:=f128
def Xc:List (Nat×List Nat×List Nat):=[]
def KG(a0 a1:Value)(R:av):Hp→Prop:=
 cA [(.string .empty),(.string .empty),(.bool false)] 3 λb=>
 am P w0 qQ [a0] λd=>
 aa (unA .not d) λe=>
 aB e (
 dI [] [(.string .empty),(.string .empty),(.bool false)] λg=>
 bU w0 b g 3 λ_=>
 aG w0 b 3 λi=>
 ar [i,(.bool false)] R) (
 am P w0 wz [a0,a1] λc=>
 aa (aV c 0) λj=>
 aa (aV c 1) λl=>
 aa (unA .not l) λo=>
 aB o (
 dI [] [(.string .empty),(.string .empty),(.bool false)] λs=>
 bU w0 b s 3 λ_=>
 aG w0 b 3 λu=>
 ar [u,(.bool false)] R) (
 aF a0 λv=>
 au v 1 λz=>
 al w0 z λba=>
 aJ 3 ba j λbb=>
 aG w0 bb 3 λbc=>
 bU w0 b bc 3 λ_=>
 aG w0 b 3 λbd=>
 ar [bd,(.bool true)] R))
theorem PJ{w0:World}{a0 a1:Value}(hj:∀v,v∈[a0,a1]→v≠junk)(hv:KG prog w0 a0 a1 R h):aj prog w0 AR [a0,a1] h R:=
 aI U5 Xc 28 (by kernel_rfl) (by kernel_rfl) (by simp) hj (by
  kernel_rfl) hv
abbrev UD:Func:=f130
def Xj:List (Nat×List Nat×List Nat):=[]
def KO(P:Program)(w0:World)(a0:Value)(R:av):Hp→Prop:=
 cF true 3 a0 λc=>
 au c 0 λi=>
 al w0 i λj=>
 aa (cD j) λl=>
 aa (ah .geq l (.int .i64 1)) λd=>
 ai d true (au c 0) λo=>
 ai d true (al w0 o) λs=>
 ai d true (aa (cD s)) λu=>
 ai d true (aa (ah .leq u (.int .i64 64))) λv=>
 aQ d v (.bool false) λe=>
 ai e true (au c 1) λz=>
 ai e true (al w0 z) λba=>
 ai e true (aa (cD ba)) λbb=>
 ai e true (aa (ah .leq bb (.int .i64 64))) λbc=>
 aQ e bc (.bool false) λb=>
 ai b true (au c 2) λbd=>
 ai b true (al w0 bd) λbe=>
 ai b true (λK=>K be) λg=>
 ai g true (au c 1) λbf=>
 ai g true (al w0 bf) λbg=>
 ai g true (aa (ah .neq bg (.string .empty))) λbh=>
 ai b true (aQ g bh (.bool false)) λbi=>
 ai b true (aa (unA .not bi)) λbj=>
 aQ b bj (.bool false) λbk=>
 ar [bk] R
theorem PQ{w0:World}{a0:Value}(hj:∀v,v∈[a0]→v≠junk)(hv:KO prog w0 a0 R h):aj prog w0 wB [a0] h R:=
 aI UD Xj 29 (by kernel_rfl) (by kernel_rfl) (by simp) hj (by
  kernel_rfl) hv
abbrev Gi:Func:=f133
def Hn:List (Nat×List Nat×List Nat):=[(6,[1,6,7,8,9,10,15,16,17],[6,8,10])]
def xf(R:Ko9)(k0:Ko3)(x1 x6 x7 x8 x9 x10 x15 x16 x17:Value):Hp→Prop:=
 aa (ah .lss x17 x16) λg=>
 aB g (
 aJ 3 x15 x17 λi=>
 aG w0 i 3 λj=>
 cA [(.string .empty),(.string .empty),(.bool false)] 3 λb=>
 bU w0 b j 3 λ_=>
 al w0 x9 λl=>
 aG w0 b 3 λo=>
 am P w0 wA [l,o] λd=>
 al w0 x7 λs=>
 aa (aM s) λu=>
 aa (ah .gtr u (.int .i64 0)) λc=>
 ai c true (al w0 x7) λv=>
 ai c true (aa (aM v)) λz=>
 ai c true (λK=>K d) λba=>
 ai c true (aa (aM ba)) λbb=>
 ai c true (aa (ah .add z bb)) λbc=>
 ai c true (λK=>K x1) λbd=>
 ai c true (aa (ah .gtr bc bd)) λbe=>
 aQ c be (.bool false) λbf=>
 aB bf (
 dM P w0 x10 [] λcy=>
 aG w0 b 3 λbg=>
 am P w0 wA [(.string .empty),bg] λe=>
 al w0 x7 λbh=>
 aa (aM bh) λbi=>
 aa (ah .eql bi (.int .i64 0)) λbj=>
 aB bj (
 al w0 x8 λbk=>
 au b 0 λbl=>
 al w0 bl λbm=>
 al w0 x6 λbn=>
 aa (aM bn) λbo=>
 dI [(0,1,false,bm),(1,1,false,bo)] [(.string .empty),(.int .i64 0),(.int .i64 0)] λbp=>
 bI [(0,3,true,bp)] (aL [(.string .empty),(.int .i64 0),(.int .i64 0)] 1) 1 3 λbq=>
 bD w0 3 32 bk bq λbr=>
 bO w0 x8 br λ_=>
 al w0 x7 λbs=>
 bD w0 1 1 bs e λbt=>
 bO w0 x7 bt λ_=>
 au b 0 λbu=>
 al w0 bu λbv=>
 bO w0 x9 bv λ_=>
 aa (ah .add x17 (.int .i64 1)) λbw=>
 R x1 x6 x7 x8 x9 x10 x15 x16 bw) (
 al w0 x7 λbx=>
 bD w0 1 1 bx e λbz=>
 bO w0 x7 bz λ_=>
 au b 0 λca=>
 al w0 ca λcb=>
 bO w0 x9 cb λ_=>
 aa (ah .add x17 (.int .i64 1)) λcc=>
 R x1 x6 x7 x8 x9 x10 x15 x16 cc)) (
 al w0 x7 λcd=>
 aa (aM cd) λce=>
 aa (ah .eql ce (.int .i64 0)) λcf=>
 aB cf (
 al w0 x8 λcg=>
 au b 0 λch=>
 al w0 ch λci=>
 al w0 x6 λcj=>
 aa (aM cj) λck=>
 dI [(0,1,false,ci),(1,1,false,ck)] [(.string .empty),(.int .i64 0),(.int .i64 0)] λcl=>
 bI [(0,3,true,cl)] (aL [(.string .empty),(.int .i64 0),(.int .i64 0)] 1) 1 3 λcm=>
 bD w0 3 32 cg cm λcn=>
 bO w0 x8 cn λ_=>
 al w0 x7 λco=>
 bD w0 1 1 co d λcp=>
 bO w0 x7 cp λ_=>
 au b 0 λcq=>
 al w0 cq λcr=>
 bO w0 x9 cr λ_=>
 aa (ah .add x17 (.int .i64 1)) λcs=>
 R x1 x6 x7 x8 x9 x10 x15 x16 cs) (
 al w0 x7 λct=>
 bD w0 1 1 ct d λcu=>
 bO w0 x7 cu λ_=>
 au b 0 λcv=>
 al w0 cv λcw=>
 bO w0 x9 cw λ_=>
 aa (ah .add x17 (.int .i64 1)) λcx=>
 R x1 x6 x7 x8 x9 x10 x15 x16 cx))) (
 k0 x6 x8 x10)
def lR(P:Program)(w0:World)(k0:Ko3):Nat→Value→Value→Value→Value→Value→Value→Value→Value→Value→Hp→Prop
 |0,_,_,_,_,_,_,_,_,_=>λ_=>False
 |m+1,x1,x6,x7,x8,x9,x10,x15,x16,x17=>xf P w0 (lR P w0 k0 m) k0 x1 x6 x7 x8 x9 x10 x15 x16 x17
def Ju(k0:Ko3)(x1 x6 x7 x8 x9 x10 x15 x16 x17:Value):Hp→Prop:=λh=>∃m,lR P w0 k0 m x1 x6 x7 x8 x9 x10 x15 x16 x17 h
def Cm(a0 a1:Value)(R:av):Hp→Prop:=
 cA [(.slice none 0 0)] 1 λc=>
 cA [(.slice none 0 0)] 1 λd=>
 cA [(.slice none 0 0)] 1 λe=>
 cA [(.string .empty)] 1 λb=>
 bO w0 b (.string .empty) λ_=>
 jW p5 [] [d,e,c,b] λg=>
 aa (aM a0) λi=>
 Ju P w0 (λj l o=>
 dM P w0 o [] λba=>
 aD (al w0 j) λs=>
 aD (al w0 l) λu=>
 af (λK=>K s) λv=>
 af (λK=>K u) λz=>
 bN (
 ar [v,z] R)) a1 c d e b g a0 i (.int .i64 0)
def Jv(w0:World)(k0:Ko3)(m:Nat)(x1 x6 x7 x8 x9 x10 x15 x16 x17:Value):Hp→Prop:=bJ (stepL ⟨prog,w0,61,Hn⟩ (drw w0 61) (bQ Gi 0)) m (bK [(1,x1),(6,x6),(7,x7),(8,x8),(9,x9),(10,x10),(15,x15),(16,x16),(17,x17)]) [λt=>k0 (t 6) (t 8) (t 10)]
theorem abr(w0:World)(k0:Ko3):∀m,Jv w0 k0 m=lR prog w0 k0 m:=by
 intro m
 induction m with
 |zero=>kernel_rfl
 |succ m ih=>
  show _=λx1 x6 x7 x8 x9 x10 x15 x16 x17=>xf prog w0 (lR prog w0 k0 m) k0 x1 x6 x7 x8 x9 x10 x15 x16 x17
  rw[←ih]
  kernel_rfl
theorem abq(w0:World):Ju prog w0=λk0 x1 x6 x7 x8 x9 x10 x15 x16 x17 h=>∃m,Jv w0 k0 m x1 x6 x7 x8 x9 x10 x15 x16 x17 h:=by
 funext k0 x1 x6 x7 x8 x9 x10 x15 x16 x17 h
 simp only[abr]
 rfl
theorem PN{w0:World}{a0 a1:Value}(hj:∀v,v∈[a0,a1]→v≠junk)(hv:Cm prog w0 a0 a1 R h):aj prog w0 AT [a0,a1] h R:=
 aI Gi Hn 61 (by kernel_rfl) (by kernel_rfl) (by simp) hj (by
  unfold Cm
  rw[abq w0]
  kernel_rfl) hv
abbrev Gj:Func:=f135
def Ho:List (Nat×List Nat×List Nat):=[(10,[0,2,3,4,5,6,7,8,9,48,49],[2,3,4,5,7,8])]
def xh(R:CR)(k0 kr:Ko6)(x0 x2 x3 x4 x5 x6 x7 x8 x9 x48 x49:Value):Hp→Prop:=
 aa (ah .lss x49 x48) λj=>
 aB j (
 am P w0 Af [x6] λbl=>
 am P w0 jY [x6] λd=>
 am P w0 jY [x6] λe=>
 am P w0 iV [x6] λl=>
 aa (ah .neq l (.int .i64 0)) λc=>
 ai c false (λK=>K d) λo=>
 ai c false (λK=>K x9) λs=>
 ai c false (aa (bG .u64 s)) λu=>
 ai c false (aa (ah .gtr o u)) λv=>
 aQ c (.bool true) v λb=>
 ai b false (λK=>K e) λz=>
 ai b false (λK=>K x9) λba=>
 ai b false (aa (bG .u64 ba)) λbb=>
 ai b false (λK=>K d) λbc=>
 ai b false (aa (ah .sub bb bc)) λbd=>
 ai b false (aa (ah .gtr z bd)) λbe=>
 aQ b (.bool true) be λbf=>
 aB bf (
 kr (.slice none 0 0) (.int .i64 0) (.int .i64 0) (.bool false) x7 x8) (
 aa (ah .add d e) λbg=>
 aa (dD x0 (some d) (some bg)) λbh=>
 am P w0 AV [bh,x2] λg=>
 aa (aV g 0) λbi=>
 aa (aV g 1) λi=>
 aa (unA .not i) λbj=>
 aB bj (
 kr (.slice none 0 0) (.int .i64 0) (.int .i64 0) (.bool false) x7 x8) (
 aa (ah .add x49 (.int .i64 1)) λbk=>
 R x0 bi x3 x4 i x6 x7 x8 x9 x48 bk))) (
 k0 x2 x3 x4 x5 x7 x8)
def pH(P:Program)(w0:World)(k0 kr:Ko6):Nat→Value→Value→Value→Value→Value→Value→Value→Value→Value→Value→Value→Hp→Prop
 |0,_,_,_,_,_,_,_,_,_,_,_=>λ_=>False
 |m+1,x0,x2,x3,x4,x5,x6,x7,x8,x9,x48,x49=>xh P w0 (pH P w0 k0 kr m) k0 kr x0 x2 x3 x4 x5 x6 x7 x8 x9 x48 x49
def Jw(k0 kr:Ko6)(x0 x2 x3 x4 x5 x6 x7 x8 x9 x48 x49:Value):Hp→Prop:=λh=>∃m,pH P w0 k0 kr m x0 x2 x3 x4 x5 x6 x7 x8 x9 x48 x49 h
def Cn(a0:Value)(R:av):Hp→Prop:=
 aa (cD a0) λg=>
 aa (ah .lss g (.int .i64 24)) λi=>
 aB i (
 ar [(.slice none 0 0),(.int .i64 0),(.int .i64 0),(.bool false)] R) (
 aa (cD a0) λj=>
 aa (ah .sub j (.int .i64 24)) λl=>
 aa (dD a0 (some l) none) λo=>
 am P w0 pu [o] λb=>
 am P w0 mQ [b] λs=>
 aa (bG .i64 s) λu=>
 am P w0 mQ [b] λv=>
 aa (bG .i64 v) λz=>
 am P w0 mQ [b] λba=>
 aa (bG .i64 ba) λd=>
 am P w0 mQ [b] λbb=>
 aa (bG .i64 bb) λc=>
 aa (cD a0) λbc=>
 aa (ah .sub bc (.int .i64 24)) λbd=>
 aa (ah .gtr c bd) λbe=>
 aB be (
 ar [(.slice none 0 0),(.int .i64 0),(.int .i64 0),(.bool false)] R) (
 aa (cD a0) λbf=>
 aa (ah .sub bf (.int .i64 24)) λbg=>
 aa (dD a0 (some c) (some bg)) λbh=>
 am P w0 pu [bh] λbi=>
 aa (cD a0) λbj=>
 aa (iL lI d [bj]) λbk=>
 Jw P w0 (λe bl bu bv bm bn=>
 aa (aM e) λbo=>
 aa (ah .eql bo bm) λbp=>
 ar [e,bl,bn,bp] R) (λbq br bs bt bw bx=>
 ar [bq,br,bs,bt] R) a0 (.slice none 0 0) u (.int .i64 0) (.bool false) bi z d c bk (.int .i64 0)))
def Jx(w0:World)(k0 kr:Ko6)(m:Nat)(x0 x2 x3 x4 x5 x6 x7 x8 x9 x48 x49:Value):Hp→Prop:=bJ (stepL ⟨prog,w0,95,Ho⟩ (drw w0 95) (bQ Gj 0)) m (bK [(0,x0),(2,x2),(3,x3),(4,x4),(5,x5),(6,x6),(7,x7),(8,x8),(9,x9),(48,x48),(49,x49)]) [λt=>k0 (t 2) (t 3) (t 4) (t 5) (t 7) (t 8),λt=>kr (t 2) (t 3) (t 4) (t 5) (t 7) (t 8)]
theorem abu(w0:World)(k0 kr:Ko6):∀m,Jx w0 k0 kr m=pH prog w0 k0 kr m:=by
 intro m
 induction m with
 |zero=>kernel_rfl
 |succ m ih=>
  show _=λx0 x2 x3 x4 x5 x6 x7 x8 x9 x48 x49=>xh prog w0 (pH prog w0 k0 kr m) k0 kr x0 x2 x3 x4 x5 x6 x7 x8 x9 x48 x49
  rw[←ih]
  kernel_rfl
theorem abt(w0:World):Jw prog w0=λk0 kr x0 x2 x3 x4 x5 x6 x7 x8 x9 x48 x49 h=>∃m,Jx w0 k0 kr m x0 x2 x3 x4 x5 x6 x7 x8 x9 x48 x49 h:=by
 funext k0 kr x0 x2 x3 x4 x5 x6 x7 x8 x9 x48 x49 h
 simp only[abu]
 rfl
theorem PR{w0:World}{a0:Value}(hj:∀v,v∈[a0]→v≠junk)(hv:Cn prog w0 a0 R h):aj prog w0 AU [a0] h R:=
 aI Gj Ho 95 (by kernel_rfl) (by kernel_rfl) (by simp) hj (by
  unfold Cn
  rw[abt w0]
  kernel_rfl) hv
abbrev Gh:Func:=f139
def Hm:List (Nat×List Nat×List Nat):=[(3,[0,3,23,24,25],[])]
def xd(R:Ko5)(k0:Hp→Prop)(kr:Hp→Prop)(x0 x3 x23 x24 x25:Value):Hp→Prop:=
 aa (ah .lss x25 x24) λe=>
 aB e (
 aJ 3 x23 x25 λg=>
 aG w0 g 3 λi=>
 cA [(.string .empty),(.string .empty),(.bool false)] 3 λd=>
 bU w0 d i 3 λ_=>
 al w0 x3 λj=>
 aa (ah .neq j (.string .empty)) λb=>
 ai b true (au d 0) λl=>
 ai b true (al w0 l) λo=>
 ai b true (al w0 x3) λs=>
 ai b true (aa (ah .geq o s)) λu=>
 aQ b u (.bool false) λc=>
 ai c false (λK=>K x0) λv=>
 ai c false (aG w0 d 3) λz=>
 ai c false (dM P w0 v [z]) λba=>
 ai c false (aa (unA .not ba)) λbb=>
 aQ c (.bool true) bb λbc=>
 aB bc (
 kr) (
 aa (ah .add x25 (.int .i64 1)) λbd=>
 R x0 x3 x23 x24 bd)) (
 k0)
def nc(P:Program)(w0:World)(k0:Hp→Prop)(kr:Hp→Prop):Nat→Value→Value→Value→Value→Value→Hp→Prop
 |0,_,_,_,_,_=>λ_=>False
 |m+1,x0,x3,x23,x24,x25=>xd P w0 (nc P w0 k0 kr m) k0 kr x0 x3 x23 x24 x25
def Js(k0:Hp→Prop)(kr:Hp→Prop)(x0 x3 x23 x24 x25:Value):Hp→Prop:=λh=>∃m,nc P w0 k0 kr m x0 x3 x23 x24 x25 h
def xk(a0 a1 a2 a3:Value)(R:av):Hp→Prop:=
 al w0 a1 λd=>
 am P w0 qQ [d] λe=>
 aa (unA .not e) λg=>
 aB g (
 ar [] R) (
 al w0 a1 λi=>
 al w0 a2 λj=>
 am P w0 wz [i,j] λb=>
 aa (aV b 0) λl=>
 aa (aV b 1) λba=>
 al w0 a1 λo=>
 aF o λs=>
 au s 1 λu=>
 al w0 u λv=>
 cT 3 v (some l) none none λc=>
 aa (aM c) λz=>
 Js P w0 (
 ar [] R) (
 ar [] R) a0 a3 c z (.int .i64 0))
def Jt(w0:World)(k0:Hp→Prop)(kr:Hp→Prop)(m:Nat)(x0 x3 x23 x24 x25:Value):Hp→Prop:=bJ (stepL ⟨prog,w0,44,Hm⟩ (drw w0 44) (bQ Gh 0)) m (bK [(0,x0),(3,x3),(23,x23),(24,x24),(25,x25)]) [λt=>k0,λt=>kr]
theorem abo(w0:World)(k0:Hp→Prop)(kr:Hp→Prop):∀m,Jt w0 k0 kr m=nc prog w0 k0 kr m:=by
 intro m
 induction m with
 |zero=>kernel_rfl
 |succ m ih=>
  show _=λx0 x3 x23 x24 x25=>xd prog w0 (nc prog w0 k0 kr m) k0 kr x0 x3 x23 x24 x25
  rw[←ih]
  kernel_rfl
theorem abn(w0:World):Js prog w0=λk0 kr x0 x3 x23 x24 x25 h=>∃m,Jt w0 k0 kr m x0 x3 x23 x24 x25 h:=by
 funext k0 kr x0 x3 x23 x24 x25 h
 simp only[abo]
 rfl
theorem D0{w0:World}{a0 a1 a2 a3:Value}(hj:∀v,v∈[a0,a1,a2,a3]→v≠junk)(hv:xk prog w0 a0 a1 a2 a3 R h):aj prog w0 qP [a0,a1,a2,a3] h R:=
 aI Gh Hm 44 (by kernel_rfl) (by kernel_rfl) (by simp) hj (by
  unfold xk
  rw[abn w0]
  kernel_rfl) hv
abbrev U8:Func:=f140
def Xe:List (Nat×List Nat×List Nat):=[]
def KI(a0 a1:Value)(R:av):Hp→Prop:=
 aF a0 λc=>
 au c 1 λd=>
 al w0 d λe=>
 am P w0 Bf [e,a1,(.func (.func lM) #[] #[])] λb=>
 aa (aV b 0) λg=>
 aa (aV b 1) λi=>
 ar [g,i] R
theorem PL{w0:World}{a0 a1:Value}(hj:∀v,v∈[a0,a1]→v≠junk)(hv:KI prog w0 a0 a1 R h):aj prog w0 wz [a0,a1] h R:=
 aI U8 Xe 14 (by kernel_rfl) (by kernel_rfl) (by simp) hj (by
  kernel_rfl) hv
abbrev UB:Func:=f157
def Xh:List (Nat×List Nat×List Nat):=[]
def KK(a0 a1 a2 a3:Value)(R:av):Hp→Prop:=
 al w0 a0 λd=>
 aa (aM d) λe=>
 aa (ah .gtr e (.int .i64 0)) λg=>
 aB g (
 al w0 a1 λi=>
 al w0 a1 λj=>
 aa (aM j) λl=>
 aa (ah .sub l (.int .i64 1)) λo=>
 al w0 a0 λs=>
 aa (aM s) λu=>
 aJ 3 i o λv=>
 au v 2 λz=>
 bO w0 z u λ_=>
 am P w0 qG [(.int .i64 4)] λb=>
 al w0 a0 λba=>
 dW w0 ba λbb=>
 am P w0 mO [bb] λbc=>
 am P w0 pv [b,bc] λbi=>
 am P w0 mT [b] λc=>
 aa (aV c 0) λbd=>
 aa (aV c 1) λbj=>
 al w0 a2 λbe=>
 al w0 a0 λbf=>
 bD w0 1 1 be bf λbg=>
 bD w0 1 1 bg bd λbh=>
 bO w0 a2 bh λ_=>
 bO w0 a0 (.slice none 0 0) λ_=>
 bO w0 a3 (.string .empty) λ_=>
 ar [] R) (
 bO w0 a0 (.slice none 0 0) λ_=>
 bO w0 a3 (.string .empty) λ_=>
 ar [] R)
theorem PO{w0:World}{a0 a1 a2 a3:Value}(hj:∀v,v∈[a0,a1,a2,a3]→v≠junk)(hv:KK prog w0 a0 a1 a2 a3 R h):aj prog w0 p5 [a0,a1,a2,a3] h R:=
 aI UB Xh 34 (by kernel_rfl) (by kernel_rfl) (by simp) hj (by
  kernel_rfl) hv
abbrev UC:Func:=f158
def Xi:List (Nat×List Nat×List Nat):=[]
def KM(a0 a1:Value)(R:av):Hp→Prop:=
 cF true 3 a1 λb=>
 au b 0 λj=>
 al w0 j λl=>
 am P w0 AW [a0,l] λc=>
 au b 2 λo=>
 al w0 o λs=>
 aB s (
 aa (bG .u8 c) λu=>
 au b 0 λv=>
 al w0 v λz=>
 aa (cD z) λba=>
 aa (ah .sub ba c) λbb=>
 aa (bG .u8 bb) λbc=>
 au b 1 λbd=>
 al w0 bd λbe=>
 aa (cD be) λbf=>
 aa (bG .u8 bf) λbg=>
 bI [(0,1,false,u),(1,1,false,bc),(2,1,false,(.int .u8 1)),(3,1,false,bg)] (aL [(.int .u8 0)] 4) 4 1 λbh=>
 af (λK=>K bh) λbi=>
 af (au b 0) λbj=>
 aD (al w0 bj) λbk=>
 af (λK=>K c) λbl=>
 af (aa (dD bk (some bl) none)) λbm=>
 af (au b 1) λd=>
 aD (al w0 d) λe=>
 aO [
 (bD w0 1 1 bi bm λbn=>
 aP [(bZ (al w0 d) e)] (
 aO [
 (bD w0 1 1 bn e λbo=>
 aP [] (
 af (λK=>K bo) λbp=>
 bN (
 ar [bp] R)))]))]) (
 aa (bG .u8 c) λbq=>
 au b 0 λbr=>
 al w0 br λbs=>
 aa (cD bs) λbt=>
 aa (ah .sub bt c) λbu=>
 aa (bG .u8 bu) λbv=>
 au b 1 λbw=>
 al w0 bw λbx=>
 aa (cD bx) λbz=>
 aa (bG .u8 bz) λca=>
 bI [(0,1,false,bq),(1,1,false,bv),(2,1,false,(.int .u8 0)),(3,1,false,ca)] (aL [(.int .u8 0)] 4) 4 1 λcb=>
 af (λK=>K cb) λcc=>
 af (au b 0) λcd=>
 aD (al w0 cd) λce=>
 af (λK=>K c) λcf=>
 af (aa (dD ce (some cf) none)) λcg=>
 af (au b 1) λg=>
 aD (al w0 g) λi=>
 aO [
 (bD w0 1 1 cc cg λch=>
 aP [(bZ (al w0 g) i)] (
 aO [
 (bD w0 1 1 ch i λci=>
 aP [] (
 af (λK=>K ci) λcj=>
 bN (
 ar [cj] R)))]))])
theorem PP{w0:World}{a0 a1:Value}(hj:∀v,v∈[a0,a1]→v≠junk)(hv:KM prog w0 a0 a1 R h):aj prog w0 wA [a0,a1] h R:=
 aI UC Xi 37 (by kernel_rfl) (by kernel_rfl) (by simp) hj (by
  kernel_rfl) hv
abbrev Gk:Func:=f160
def Hr:List (Nat×List Nat×List Nat):=[(3,[1,4,5,6,7],[1,4,5])]
def B3(R:Ko5)(k0 kr:Ko3)(x1 x4 x5 x6 x7:Value):Hp→Prop:=
 am P w0 Ae [x7] λbc=>
 aa (ah .gtr bc (.int .i64 0)) λbd=>
 aB bd (
 am P w0 mS [x7] λbe=>
 aa (bG .i64 be) λs=>
 am P w0 mS [x7] λbf=>
 aa (bG .i64 bf) λbg=>
 am P w0 mS [x7] λu=>
 am P w0 mS [x7] λbh=>
 aa (bG .i64 bh) λbi=>
 aa (cD x6) λbj=>
 aa (ah .gtr s bj) λc=>
 ai c false (λK=>K u) λbk=>
 ai c false (aa (ah .gtr bk (.int .u8 1))) λbl=>
 aQ c (.bool true) bl λbm=>
 aB bm (
 kr x1 (.slice none 0 0) (.bool false)) (
 af (λK=>K x6) λbn=>
 af (λK=>K s) λbo=>
 af (aa (dD bn none (some bo))) λv=>
 af (λK=>K x7) λz=>
 af (λK=>K bg) λba=>
 af (λK=>K u) λbp=>
 af (aa (ah .eql bp (.int .u8 1))) λb=>
 af (λK=>K x7) λd=>
 af (λK=>K bi) λe=>
 aO [
 (am P w0 jX [z,ba] λbq=>
 aP [] (
 af (aa (ah .add v bq)) λg=>
 aO [
 (am P w0 jX [d,e] λbb=>
 aP [] (
 aO [
 (dI [(0,1,false,g),(2,1,false,b),(1,1,false,bb)] [(.string .empty),(.string .empty),(.bool false)] λbr=>
 aP [] (
 aO [
 (cA [(.string .empty),(.string .empty),(.bool false)] 3 λi=>
 aP [] (
 aO [
 (bU w0 i br 3 λ_=>
 aP [] (
 bN (
 am P w0 iV [x7] λbs=>
 aa (ah .neq bs (.int .i64 0)) λbt=>
 aB bt (
 kr x1 (.slice none 0 0) (.bool false)) (
 au i 0 λbu=>
 al w0 bu λbv=>
 aG w0 i 3 λbw=>
 bI [(0,3,true,bw)] (aL [(.string .empty),(.string .empty),(.bool false)] 1) 1 3 λbx=>
 bD w0 3 40 x1 bx λbz=>
 R bz x4 x5 bv x7))))]))])),
 (cA [(.string .empty),(.string .empty),(.bool false)] 3 λj=>
 aP [] (
 aO [
 (dI [(0,1,false,g),(2,1,false,b),(1,1,false,bb)] [(.string .empty),(.string .empty),(.bool false)] λca=>
 aP [] (
 aO [
 (bU w0 j ca 3 λ_=>
 aP [] (
 bN (
 am P w0 iV [x7] λcb=>
 aa (ah .neq cb (.int .i64 0)) λcc=>
 aB cc (
 kr x1 (.slice none 0 0) (.bool false)) (
 au j 0 λcd=>
 al w0 cd λce=>
 aG w0 j 3 λcf=>
 bI [(0,3,true,cf)] (aL [(.string .empty),(.string .empty),(.bool false)] 1) 1 3 λcg=>
 bD w0 3 40 x1 cg λch=>
 R ch x4 x5 ce x7))))]))]))])),
 (cA [(.string .empty),(.string .empty),(.bool false)] 3 λl=>
 aP [] (
 aO [
 (am P w0 jX [d,e] λci=>
 aP [] (
 aO [
 (dI [(0,1,false,g),(2,1,false,b),(1,1,false,ci)] [(.string .empty),(.string .empty),(.bool false)] λcj=>
 aP [] (
 aO [
 (bU w0 l cj 3 λ_=>
 aP [] (
 bN (
 am P w0 iV [x7] λck=>
 aa (ah .neq ck (.int .i64 0)) λcl=>
 aB cl (
 kr x1 (.slice none 0 0) (.bool false)) (
 au l 0 λcm=>
 al w0 cm λcn=>
 aG w0 l 3 λco=>
 bI [(0,3,true,co)] (aL [(.string .empty),(.string .empty),(.bool false)] 1) 1 3 λcp=>
 bD w0 3 40 x1 cp λcq=>
 R cq x4 x5 cn x7))))]))]))]))])),
 (cA [(.string .empty),(.string .empty),(.bool false)] 3 λo=>
 aP [] (
 aO [
 (am P w0 jX [z,ba] λcr=>
 aP [] (
 af (aa (ah .add v cr)) λcs=>
 aO [
 (am P w0 jX [d,e] λct=>
 aP [] (
 aO [
 (dI [(0,1,false,cs),(2,1,false,b),(1,1,false,ct)] [(.string .empty),(.string .empty),(.bool false)] λcu=>
 aP [] (
 aO [
 (bU w0 o cu 3 λ_=>
 aP [] (
 bN (
 am P w0 iV [x7] λcv=>
 aa (ah .neq cv (.int .i64 0)) λcw=>
 aB cw (
 kr x1 (.slice none 0 0) (.bool false)) (
 au o 0 λcx=>
 al w0 cx λcy=>
 aG w0 o 3 λcz=>
 bI [(0,3,true,cz)] (aL [(.string .empty),(.string .empty),(.bool false)] 1) 1 3 λda=>
 bD w0 3 40 x1 da λdb=>
 R db x4 x5 cy x7))))]))]))]))]))])) (
 k0 x1 x4 x5)
def kh(P:Program)(w0:World)(k0 kr:Ko3):Nat→Value→Value→Value→Value→Value→Hp→Prop
 |0,_,_,_,_,_=>λ_=>False
 |m+1,x1,x4,x5,x6,x7=>B3 P w0 (kh P w0 k0 kr m) k0 kr x1 x4 x5 x6 x7
def Jy(k0 kr:Ko3)(x1 x4 x5 x6 x7:Value):Hp→Prop:=λh=>∃m,kh P w0 k0 kr m x1 x4 x5 x6 x7 h
def Co(a0 a1:Value)(R:av):Hp→Prop:=
 am P w0 pu [a0] λb=>
 Jy P w0 (λc g i=>
 ar [c,(.bool true)] R) (λj d e=>
 ar [d,e] R) a1 (.slice none 0 0) (.bool false) (.string .empty) b
def Jz(w0:World)(k0 kr:Ko3)(m:Nat)(x1 x4 x5 x6 x7:Value):Hp→Prop:=bJ (stepL ⟨prog,w0,60,Hr⟩ (drw w0 60) (bQ Gk 0)) m (bK [(1,x1),(4,x4),(5,x5),(6,x6),(7,x7)]) [λt=>k0 (t 1) (t 4) (t 5),λt=>kr (t 1) (t 4) (t 5)]
theorem abw(w0:World)(k0 kr:Ko3):∀m,Jz w0 k0 kr m=kh prog w0 k0 kr m:=by
 intro m
 induction m with
 |zero=>kernel_rfl
 |succ m ih=>
  show _=λx1 x4 x5 x6 x7=>B3 prog w0 (kh prog w0 k0 kr m) k0 kr x1 x4 x5 x6 x7
  rw[←ih]
  kernel_rfl
theorem abv(w0:World):Jy prog w0=λk0 kr x1 x4 x5 x6 x7 h=>∃m,Jz w0 k0 kr m x1 x4 x5 x6 x7 h:=by
 funext k0 kr x1 x4 x5 x6 x7 h
 simp only[abw]
 rfl
theorem PS{w0:World}{a0 a1:Value}(hj:∀v,v∈[a0,a1]→v≠junk)(hv:Co prog w0 a0 a1 R h):aj prog w0 AV [a0,a1] h R:=
 aI Gk Hr 60 (by kernel_rfl) (by kernel_rfl) (by simp) hj (by
  unfold Co
  rw[abv w0]
  kernel_rfl) hv
abbrev U9:Func:=f163
def Xf:List (Nat×List Nat×List Nat):=[]
def KJ(a0 a1:Value)(R:av):Hp→Prop:=
 cF true 3 a0 λb=>
 au b 0 λc=>
 al w0 c λd=>
 am P w0 Bk [d,a1] λe=>
 ar [e] R
theorem PM{w0:World}{a0 a1:Value}(hj:∀v,v∈[a0,a1]→v≠junk)(hv:KJ prog w0 a0 a1 R h):aj prog w0 lM [a0,a1] h R:=
 aI U9 Xf 9 (by kernel_rfl) (by kernel_rfl) (by simp) hj (by
  kernel_rfl) hv
abbrev Gl:Func:=f170
def Hs:List (Nat×List Nat×List Nat):=[(2,[0,1,5],[5])]
def tz(P:Program)(w0:World)(R:Ko3)(k0:Ko1)(x0 x1 x5:Value):Hp→Prop:=
 af (λK=>K x5) λd=>
 af (λK=>K x0) λe=>
 af (aa (cD e)) λg=>
 af (aa (ah .lss d g)) λi=>
 af (λK=>K i) λc=>
 af (ai c true (λK=>K x5)) λj=>
 af (ai c true (λK=>K x1)) λl=>
 af (ai c true (aa (cD l))) λo=>
 af (ai c true (aa (ah .lss j o))) λs=>
 af (aQ c s (.bool false)) λu=>
 af (λK=>K u) λb=>
 af (ai b true (λK=>K x0)) λv=>
 af (ai b true (λK=>K x5)) λz=>
 af (ai b true (aa (dR v z))) λba=>
 af (ai b true (λK=>K x1)) λbb=>
 af (ai b true (λK=>K x5)) λbc=>
 af (ai b true (aa (dR bb bc))) λbd=>
 af (ai b true (aa (ah .eql ba bd))) λbe=>
 af (aQ b be (.bool false)) λbf=>
 bN (
 aB bf (
 aa (ah .add x5 (.int .i64 1)) λbg=>
 R x0 x1 bg) (
 k0 x5))
def pI(P:Program)(w0:World)(k0:Ko1):Nat→Value→Value→Value→Hp→Prop
 |0,_,_,_=>λ_=>False
 |m+1,x0,x1,x5=>tz P w0 (pI P w0 k0 m) k0 x0 x1 x5
def J0(k0:Ko1)(x0 x1 x5:Value):Hp→Prop:=λh=>∃m,pI P w0 k0 m x0 x1 x5 h
def Cp(a0 a1:Value)(R:av):Hp→Prop:=
 J0 P w0 (λb=>
 ar [b] R) a0 a1 (.int .i64 0)
def J1(w0:World)(k0:Ko1)(m:Nat)(x0 x1 x5:Value):Hp→Prop:=bJ (stepL ⟨prog,w0,28,Hs⟩ (drw w0 28) (bQ Gl 0)) m (bK [(0,x0),(1,x1),(5,x5)]) [λt=>k0 (t 5)]
theorem aby(w0:World)(k0:Ko1):∀m,J1 w0 k0 m=pI prog w0 k0 m:=by
 intro m
 induction m with
 |zero=>kernel_rfl
 |succ m ih=>
  show _=λx0 x1 x5=>tz prog w0 (pI prog w0 k0 m) k0 x0 x1 x5
  rw[←ih]
  kernel_rfl
theorem abx(w0:World):J0 prog w0=λk0 x0 x1 x5 h=>∃m,J1 w0 k0 m x0 x1 x5 h:=by
 funext k0 x0 x1 x5 h
 simp only[aby]
 rfl
theorem PT{w0:World}{a0 a1:Value}(hj:∀v,v∈[a0,a1]→v≠junk)(hv:Cp prog w0 a0 a1 R h):aj prog w0 AW [a0,a1] h R:=
 aI Gl Hs 28 (by kernel_rfl) (by kernel_rfl) (by simp) hj (by
  unfold Cp
  rw[abx w0]
  kernel_rfl) hv
end
