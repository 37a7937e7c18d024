/- PRINTED by wip/tools/shallow.py: functions of the program as readable words, and that each is what its text says. -/
import Derived.Test.YtfmoemconapmhaaGreatGn
set_option linter.all false
namespace Go.Proofs.YtfmoemconapmhaaGreat.Ah
open Go Go.Proofs.Tryz
noncomputable section
variable (P:Program)(w0:World){h:Hp}{R:av}
abbrev UI:Func:=f92
def Xo:List (Nat×List Nat×List Nat):=[]
def KT(P:Program)(w0:World)(a0:Value)(R:av):Hp→Prop:=
 aa (cN .eql a0 (.pointer none)) λb=>
 aB b (
 ar [(.int .i64 0)] R) (
 aF a0 λc=>
 au c 0 λd=>
 al w0 d λe=>
 aa (aM e) λg=>
 ar [g] R)
theorem PY{w0:World}{a0:Value}(hj:∀v,v∈[a0]→v≠junk)(hv:KT prog w0 a0 R h):aj prog w0 Ba [a0] h R:=
 aI UI Xo 10 (by kernel_rfl) (by kernel_rfl) (by simp) hj (by
  kernel_rfl) hv
abbrev UE:Func:=f99
def Xk:List (Nat×List Nat×List Nat):=[]
def KP(a0:Value)(R:av):Hp→Prop:=
 am P w0 Bc [a0,(.func (.func wC) #[] #[])] λb=>
 ar [b] R
theorem PU{w0:World}{a0:Value}(hj:∀v,v∈[a0]→v≠junk)(hv:KP prog w0 a0 R h):aj prog w0 AX [a0] h R:=
 aI UE Xk 5 (by kernel_rfl) (by kernel_rfl) (by simp) hj (by
  kernel_rfl) hv
abbrev UN:Func:=f100
def Xt:List (Nat×List Nat×List Nat):=[]
def KY(P:Program)(w0:World)(R:av):Hp→Prop:=
 dI [] [(.slice none 0 0)] λb=>
 cF true 1 b λc=>
 ar [c] R
theorem Qf{w0:World}(hj:∀v,v∈[]→v≠junk)(hv:KY prog w0  R h):aj prog w0 wG [] h R:=
 aI UN Xt 3 (by kernel_rfl) (by kernel_rfl) (by simp) hj (by
  kernel_rfl) hv
abbrev zm:Func:=f103
def zQ:List (Nat×List Nat×List Nat):=[(3,[3,11,12,13],[3]),(10,[3,6],[6])]
def xp(R:Ko4)(k0:Ko1)(x3 x11 x12 x13:Value):Hp→Prop:=
 aa (ah .lss x13 x12) λc=>
 aB c (
 aJ 1 x11 x13 λd=>
 al w0 d λe=>
 am P w0 Be [e] λb=>
 aa (aM b) λg=>
 aa (ah .gtr g (.int .i64 0)) λi=>
 aB i (
 dI [(0,1,false,b),(1,1,false,x13)] [(.slice none 0 0),(.int .i64 0)] λj=>
 am P w0 mW [x3,j] λs=>
 aa (ah .add x13 (.int .i64 1)) λl=>
 R x3 x11 x12 l) (
 aa (ah .add x13 (.int .i64 1)) λo=>
 R x3 x11 x12 o)) (
 k0 x3)
def pK(P:Program)(w0:World)(k0:Ko1):Nat→Value→Value→Value→Value→Hp→Prop
 |0,_,_,_,_=>λ_=>False
 |m+1,x3,x11,x12,x13=>xp P w0 (pK P w0 k0 m) k0 x3 x11 x12 x13
def Lt(k0:Ko1)(x3 x11 x12 x13:Value):Hp→Prop:=λh=>∃m,pK P w0 k0 m x3 x11 x12 x13 h
def t5(R:Ko2)(k2:Ko1)(x3 x6:Value):Hp→Prop:=
 aF x3 λg=>
 au g 0 λi=>
 al w0 i λj=>
 aa (aM j) λl=>
 aa (ah .gtr l (.int .i64 0)) λo=>
 aB o (
 am P w0 tg [x3] λs=>
 cA [(.slice none 0 0),(.int .i64 0)] 2 λc=>
 bU w0 c s 2 λ_=>
 aa (aM x6) λd=>
 af (λK=>K d) λu=>
 af (aa (ah .eql u (.int .i64 0))) λv=>
 af (λK=>K v) λb=>
 af (ai b false (λK=>K x6)) λz=>
 af (ai b false (λK=>K d)) λba=>
 af (ai b false (aa (ah .sub ba (.int .i64 1)))) λbb=>
 af (ai b false (aJ 4 z bb)) λbc=>
 af (ai b false (au bc 0)) λbd=>
 aD (ai b false (al w0 bd)) λbe=>
 af (ai b false (au c 0)) λbf=>
 aD (ai b false (al w0 bf)) λbg=>
 af (ai b false (aJ 4 bg (.int .i64 0))) λbh=>
 af (ai b false (au bh 0)) λbi=>
 aD (ai b false (al w0 bi)) λbj=>
 af (ai b false (aa (ah .neq be bj))) λbk=>
 af (aQ b (.bool true) bk) λbl=>
 bN (
 aB bl (
 au c 0 λbm=>
 al w0 bm λbn=>
 aJ 4 bn (.int .i64 0) λbo=>
 aG w0 bo 4 λbp=>
 bI [(0,4,true,bp)] (aL [(.string .empty),(.string .empty),(.string .empty),(.bool false)] 1) 1 4 λbq=>
 bD w0 4 56 x6 bq λe=>
 au c 0 λbr=>
 al w0 br λbs=>
 aa (aM bs) λbt=>
 aa (ah .gtr bt (.int .i64 1)) λbu=>
 aB bu (
 af (λK=>K x3) λbv=>
 af (au c 0) λbw=>
 aD (al w0 bw) λbx=>
 aD (cT 4 bx (some (.int .i64 1)) none none) λbz=>
 af (au c 1) λca=>
 aD (al w0 ca) λcb=>
 aO [
 (dI [(0,1,false,bz),(1,1,false,cb)] [(.slice none 0 0),(.int .i64 0)] λcc=>
 aP [] (
 aO [
 (am P w0 mW [bv,cc] λco=>
 aP [] (
 bN (
 R x3 e)))]))]) (
 R x3 e)) (
 au c 0 λcd=>
 al w0 cd λce=>
 aa (aM ce) λcf=>
 aa (ah .gtr cf (.int .i64 1)) λcg=>
 aB cg (
 af (λK=>K x3) λch=>
 af (au c 0) λci=>
 aD (al w0 ci) λcj=>
 aD (cT 4 cj (some (.int .i64 1)) none none) λck=>
 af (au c 1) λcl=>
 aD (al w0 cl) λcm=>
 aO [
 (dI [(0,1,false,ck),(1,1,false,cm)] [(.slice none 0 0),(.int .i64 0)] λcn=>
 aP [] (
 aO [
 (am P w0 mW [ch,cn] λcp=>
 aP [] (
 bN (
 R x3 x6)))]))]) (
 R x3 x6)))) (
 k2 x6)
def jC(P:Program)(w0:World)(k2:Ko1):Nat→Value→Value→Hp→Prop
 |0,_,_=>λ_=>False
 |m+1,x3,x6=>t5 P w0 (jC P w0 k2 m) k2 x3 x6
def Lu(k2:Ko1)(x3 x6:Value):Hp→Prop:=λh=>∃m,jC P w0 k2 m x3 x6 h
def Cr(a0:Value)(R:av):Hp→Prop:=
 dI [(1,1,false,(.func (.func wF) #[] #[]))] [(.slice none 0 0),.nilFunc] λb=>
 cF true 2 b λc=>
 aa (aM a0) λd=>
 Lt P w0 (λe=>
 Lu P w0 (λg=>
 ar [g] R) e (.slice none 0 0)) c a0 d (.int .i64 0)
def Lx(w0:World)(k2:Ko1)(m:Nat)(x3 x6:Value):Hp→Prop:=bJ (stepL ⟨prog,w0,75,zQ⟩ (drw w0 75) (bQ zm 1)) m (bK [(3,x3),(6,x6)]) [λt=>k2 (t 6)]
theorem aco(w0:World)(k2:Ko1):∀m,Lx w0 k2 m=jC prog w0 k2 m:=by
 intro m
 induction m with
 |zero=>kernel_rfl
 |succ m ih=>
  show _=λx3 x6=>t5 prog w0 (jC prog w0 k2 m) k2 x3 x6
  rw[←ih]
  kernel_rfl
theorem acm(w0:World):Lu prog w0=λk2 x3 x6 h=>∃m,Lx w0 k2 m x3 x6 h:=by
 funext k2 x3 x6 h
 simp only[aco]
 rfl
def Lw(w0:World)(k0:Ko1)(m:Nat)(x3 x11 x12 x13:Value):Hp→Prop:=bJ (stepL ⟨prog,w0,75,zQ⟩ (drw w0 75) (bQ zm 0)) m (bK [(3,x3),(11,x11),(12,x12),(13,x13)]) [λt=>k0 (t 3)]
theorem acn(w0:World)(k0:Ko1):∀m,Lw w0 k0 m=pK prog w0 k0 m:=by
 intro m
 induction m with
 |zero=>kernel_rfl
 |succ m ih=>
  show _=λx3 x11 x12 x13=>xp prog w0 (pK prog w0 k0 m) k0 x3 x11 x12 x13
  rw[←ih]
  kernel_rfl
theorem acl(w0:World):Lt prog w0=λk0 x3 x11 x12 x13 h=>∃m,Lw w0 k0 m x3 x11 x12 x13 h:=by
 funext k0 x3 x11 x12 x13 h
 simp only[acn]
 rfl
theorem Qd{w0:World}{a0:Value}(hj:∀v,v∈[a0]→v≠junk)(hv:Cr prog w0 a0 R h):aj prog w0 wE [a0] h R:=
 aI zm zQ 75 (by kernel_rfl) (by kernel_rfl) (by simp) hj (by
  unfold Cr
  rw[acl w0,acm w0]
  kernel_rfl) hv
abbrev UG:Func:=f124
def Xm:List (Nat×List Nat×List Nat):=[]
def KR(a0:Value)(R:av):Hp→Prop:=
 aa (cN .eql a0 (.pointer none)) λb=>
 aB b (
 ar [(.pointer none)] R) (
 aF a0 λc=>
 au c 0 λd=>
 al w0 d λe=>
 am P w0 wI [e] λg=>
 dI [(0,1,false,g)] [(.slice none 0 0)] λi=>
 cF true 1 i λj=>
 ar [j] R)
theorem PW{w0:World}{a0:Value}(hj:∀v,v∈[a0]→v≠junk)(hv:KR prog w0 a0 R h):aj prog w0 AY [a0] h R:=
 aI UG Xm 12 (by kernel_rfl) (by kernel_rfl) (by simp) hj (by
  kernel_rfl) hv
abbrev UJ:Func:=f131
def Xp:List (Nat×List Nat×List Nat):=[]
def KU(a0 a1 a2:Value)(R:av):Hp→Prop:=
 cF true 3 a2 λg=>
 cA [(.string .empty),(.string .empty),(.bool false)] 3 λb=>
 cA [(.string .empty),(.string .empty),(.bool false)] 3 λi=>
 aa (cN .eql a0 (.pointer none)) λo=>
 aB o (
 aG w0 i 3 λs=>
 bU w0 b s 3 λ_=>
 aG w0 b 3 λu=>
 ar [u,(.bool false)] R) (
 am P w0 wD [a0,a1] λj=>
 aa (aV j 0) λc=>
 aa (aV j 1) λv=>
 aB v (
 aF a0 λz=>
 au z 0 λba=>
 al w0 ba λbb=>
 aJ 4 bb c λbc=>
 au bc 1 λbd=>
 aG w0 bd 3 λbe=>
 cA [(.string .empty),(.string .empty),(.bool false)] 3 λl=>
 bU w0 l be 3 λ_=>
 af (λK=>K a0) λbf=>
 af (aF bf) λbg=>
 af (au bg 0) λbh=>
 aD (al w0 bh) λbi=>
 af (λK=>K c) λbj=>
 aD (aG w0 g 3) λbk=>
 af (aJ 4 bi bj) λbl=>
 af (au bl 1) λbm=>
 aO [
 (bU w0 bm bk 3 λ_=>
 aP [] (
 bN (
 aG w0 l 3 λbn=>
 bU w0 b bn 3 λ_=>
 aG w0 b 3 λbo=>
 ar [bo,(.bool true)] R)))]) (
 af (λK=>K a0) λbp=>
 af (λK=>K a0) λbq=>
 af (aF bq) λbr=>
 af (au br 0) λd=>
 aD (al w0 d) λe=>
 af (λK=>K c) λbs=>
 af (λK=>K a1) λbt=>
 aD (aG w0 g 3) λbu=>
 aO [
 (dI [(0,1,false,bt),(1,3,true,bu)] [(.string .empty),(.string .empty),(.string .empty),(.bool false)] λbv=>
 aP [(bZ (al w0 d) e)] (
 aO [
 (bI [(0,4,true,bv)] (aL [(.string .empty),(.string .empty),(.string .empty),(.bool false)] 1) 1 4 λbw=>
 aP [(bZ (al w0 d) e)] (
 aO [
 (am P w0 wJ [e,bs,bw] λbx=>
 aP [] (
 af (aF bp) λbz=>
 af (au bz 0) λca=>
 aO [
 (bO w0 ca bx λ_=>
 aP [] (
 bN (
 aG w0 i 3 λcb=>
 bU w0 b cb 3 λ_=>
 aG w0 b 3 λcc=>
 ar [cc,(.bool false)] R)))]))]))]))]))
theorem PZ{w0:World}{a0 a1 a2:Value}(hj:∀v,v∈[a0,a1,a2]→v≠junk)(hv:KU prog w0 a0 a1 a2 R h):aj prog w0 Bb [a0,a1,a2] h R:=
 aI UJ Xp 53 (by kernel_rfl) (by kernel_rfl) (by simp) hj (by
  kernel_rfl) hv
abbrev UL:Func:=f137
def Xr:List (Nat×List Nat×List Nat):=[]
def KW(P:Program)(w0:World)(a0 a1:Value)(R:av):Hp→Prop:=
 cF false 1 a0 λb=>
 cF false 1 a1 λc=>
 jW tf [] [b,c] λd=>
 ar [d] R
theorem Qb{w0:World}{a0 a1:Value}(hj:∀v,v∈[a0,a1]→v≠junk)(hv:KW prog w0 a0 a1 R h):aj prog w0 Bc [a0,a1] h R:=
 aI UL Xr 6 (by kernel_rfl) (by kernel_rfl) (by simp) hj (by
  kernel_rfl) hv
abbrev UF:Func:=f138
def Xl:List (Nat×List Nat×List Nat):=[]
def KQ(P:Program)(w0:World)(a0:Value)(R:av):Hp→Prop:=
 ar [(.bool true)] R
theorem PV{w0:World}{a0:Value}(hj:∀v,v∈[a0]→v≠junk)(hv:KQ prog w0 a0 R h):aj prog w0 wC [a0] h R:=
 aI UF Xl 3 (by kernel_rfl) (by kernel_rfl) (by simp) hj (by
  kernel_rfl) hv
abbrev UM:Func:=f141
def Xs:List (Nat×List Nat×List Nat):=[]
def KX(a0 a1:Value)(R:av):Hp→Prop:=
 cF true 2 a0 λd=>
 cF true 2 a1 λe=>
 af (au d 0) λi=>
 aD (al w0 i) λj=>
 af (aJ 4 j (.int .i64 0)) λl=>
 af (au l 0) λo=>
 aD (al w0 o) λs=>
 af (au e 0) λu=>
 aD (al w0 u) λv=>
 af (aJ 4 v (.int .i64 0)) λz=>
 af (au z 0) λba=>
 aD (al w0 ba) λbb=>
 aO [
 (am P w0 vM [s,bb] λbc=>
 aP [] (
 af (λK=>K bc) λg=>
 bN (
 aa (ah .lss g (.int .i64 0)) λc=>
 ai c false (λK=>K g) λbd=>
 ai c false (aa (ah .eql bd (.int .i64 0))) λbe=>
 ai c false (λK=>K be) λb=>
 ai b true (au d 1) λbf=>
 ai b true (al w0 bf) λbg=>
 ai b true (au e 1) λbh=>
 ai b true (al w0 bh) λbi=>
 ai b true (aa (ah .lss bg bi)) λbj=>
 ai c false (aQ b bj (.bool false)) λbk=>
 aQ c (.bool true) bk λbl=>
 ar [bl] R)))]
theorem Qe{w0:World}{a0 a1:Value}(hj:∀v,v∈[a0,a1]→v≠junk)(hv:KX prog w0 a0 a1 R h):aj prog w0 wF [a0,a1] h R:=
 aI UM Xs 30 (by kernel_rfl) (by kernel_rfl) (by simp) hj (by
  kernel_rfl) hv
abbrev Gr:Func:=f143
def Hw:List (Nat×List Nat×List Nat):=[(3,[3,7,8,9],[3])]
def xr(P:Program)(w0:World)(R:Ko4)(k0:Ko1)(x3 x7 x8 x9:Value):Hp→Prop:=
 aa (ah .lss x9 x8) λe=>
 aB e (
 aJ 4 x7 x9 λg=>
 aG w0 g 4 λi=>
 cA [(.string .empty),(.string .empty),(.string .empty),(.bool false)] 4 λc=>
 bU w0 c i 4 λ_=>
 aa (aM x3) λd=>
 af (λK=>K d) λj=>
 af (aa (ah .eql j (.int .i64 0))) λl=>
 af (λK=>K l) λb=>
 af (ai b false (au c 0)) λo=>
 aD (ai b false (al w0 o)) λs=>
 af (ai b false (λK=>K x3)) λu=>
 af (ai b false (λK=>K d)) λv=>
 af (ai b false (aa (ah .sub v (.int .i64 1)))) λz=>
 af (ai b false (aJ 4 u z)) λba=>
 af (ai b false (au ba 0)) λbb=>
 aD (ai b false (al w0 bb)) λbc=>
 af (ai b false (aa (ah .gtr s bc))) λbd=>
 af (aQ b (.bool true) bd) λbe=>
 bN (
 aB be (
 aG w0 c 4 λbf=>
 bI [(0,4,true,bf)] (aL [(.string .empty),(.string .empty),(.string .empty),(.bool false)] 1) 1 4 λbg=>
 bD w0 4 56 x3 bg λbh=>
 aa (ah .add x9 (.int .i64 1)) λbi=>
 R bh x7 x8 bi) (
 aa (ah .add x9 (.int .i64 1)) λbj=>
 R x3 x7 x8 bj))) (
 k0 x3)
def lZ(P:Program)(w0:World)(k0:Ko1):Nat→Value→Value→Value→Value→Hp→Prop
 |0,_,_,_,_=>λ_=>False
 |m+1,x3,x7,x8,x9=>xr P w0 (lZ P w0 k0 m) k0 x3 x7 x8 x9
def L2(k0:Ko1)(x3 x7 x8 x9:Value):Hp→Prop:=λh=>∃m,lZ P w0 k0 m x3 x7 x8 x9 h
def Cu(a0:Value)(R:av):Hp→Prop:=
 aa (aM a0) λb=>
 L2 P w0 (λc=>
 ar [c] R) (.slice none 0 0) a0 b (.int .i64 0)
def L3(w0:World)(k0:Ko1)(m:Nat)(x3 x7 x8 x9:Value):Hp→Prop:=bJ (stepL ⟨prog,w0,34,Hw⟩ (drw w0 34) (bQ Gr 0)) m (bK [(3,x3),(7,x7),(8,x8),(9,x9)]) [λt=>k0 (t 3)]
theorem acu(w0:World)(k0:Ko1):∀m,L3 w0 k0 m=lZ prog w0 k0 m:=by
 intro m
 induction m with
 |zero=>kernel_rfl
 |succ m ih=>
  show _=λx3 x7 x8 x9=>xr prog w0 (lZ prog w0 k0 m) k0 x3 x7 x8 x9
  rw[←ih]
  kernel_rfl
theorem act(w0:World):L2 prog w0=λk0 x3 x7 x8 x9 h=>∃m,L3 w0 k0 m x3 x7 x8 x9 h:=by
 funext k0 x3 x7 x8 x9 h
 simp only[acu]
 rfl
theorem Qk{w0:World}{a0:Value}(hj:∀v,v∈[a0]→v≠junk)(hv:Cu prog w0 a0 R h):aj prog w0 Be [a0] h R:=
 aI Gr Hw 34 (by kernel_rfl) (by kernel_rfl) (by simp) hj (by
  unfold Cu
  rw[act w0]
  kernel_rfl) hv
abbrev Gq:Func:=f144
def Hv:List (Nat×List Nat×List Nat):=[(3,[0,4],[])]
def xq(R:Ko2)(k0:Hp→Prop)(kr:Hp→Prop)(x0 x4:Value):Hp→Prop:=
 aa (ah .gtr x4 (.int .i64 0)) λc=>
 aB c (
 aa (ah .sub x4 (.int .i64 1)) λd=>
 aa (ah .quo d (.int .i64 2)) λb=>
 af (λK=>K x0) λe=>
 af (aF e) λg=>
 af (au g 1) λi=>
 aD (al w0 i) λj=>
 af (λK=>K x0) λl=>
 af (aF l) λo=>
 af (au o 0) λs=>
 aD (al w0 s) λu=>
 af (λK=>K x4) λv=>
 af (aJ 2 u v) λz=>
 aD (aG w0 z 2) λba=>
 af (λK=>K x0) λbb=>
 af (aF bb) λbc=>
 af (au bc 0) λbd=>
 aD (al w0 bd) λbe=>
 af (λK=>K b) λbf=>
 af (aJ 2 be bf) λbg=>
 aD (aG w0 bg 2) λbh=>
 aO [
 (dM P w0 j [ba,bh] λbi=>
 aP [] (
 af (aa (unA .not bi)) λbj=>
 bN (
 aB bj (
 kr) (
 af (λK=>K x0) λbk=>
 af (aF bk) λbl=>
 af (au bl 0) λbm=>
 aD (al w0 bm) λbn=>
 af (λK=>K x4) λbo=>
 af (λK=>K x0) λbp=>
 af (aF bp) λbq=>
 af (au bq 0) λbr=>
 aD (al w0 br) λbs=>
 af (λK=>K b) λbt=>
 af (λK=>K x0) λbu=>
 af (aF bu) λbv=>
 af (au bv 0) λbw=>
 aD (al w0 bw) λbx=>
 af (λK=>K b) λbz=>
 af (aJ 2 bx bz) λca=>
 aD (aG w0 ca 2) λcb=>
 af (λK=>K x0) λcc=>
 af (aF cc) λcd=>
 af (au cd 0) λce=>
 aD (al w0 ce) λcf=>
 af (λK=>K x4) λcg=>
 af (aJ 2 cf cg) λch=>
 aD (aG w0 ch 2) λci=>
 af (aJ 2 bn bo) λcj=>
 aO [
 (bU w0 cj cb 2 λ_=>
 aP [] (
 af (aJ 2 bs bt) λck=>
 aO [
 (bU w0 ck ci 2 λ_=>
 aP [] (
 bN (
 R x0 b)))]))]))))]) (
 k0)
def qU(P:Program)(w0:World)(k0:Hp→Prop)(kr:Hp→Prop):Nat→Value→Value→Hp→Prop
 |0,_,_=>λ_=>False
 |m+1,x0,x4=>xq P w0 (qU P w0 k0 kr m) k0 kr x0 x4
def L0(k0:Hp→Prop)(kr:Hp→Prop)(x0 x4:Value):Hp→Prop:=λh=>∃m,qU P w0 k0 kr m x0 x4 h
def Ct(a0 a1:Value)(R:av):Hp→Prop:=
 cF true 2 a1 λd=>
 af (λK=>K a0) λe=>
 af (λK=>K a0) λg=>
 af (aF g) λi=>
 af (au i 0) λb=>
 aD (al w0 b) λc=>
 aD (aG w0 d 2) λj=>
 aO [
 (bI [(0,2,true,j)] (aL [(.slice none 0 0),(.int .i64 0)] 1) 1 2 λl=>
 aP [(bZ (al w0 b) c)] (
 aO [
 (bD w0 2 32 c l λo=>
 aP [] (
 af (aF e) λs=>
 af (au s 0) λu=>
 aO [
 (bO w0 u o λ_=>
 aP [] (
 bN (
 aF a0 λv=>
 au v 0 λz=>
 al w0 z λba=>
 aa (aM ba) λbb=>
 aa (ah .sub bb (.int .i64 1)) λbc=>
 L0 P w0 (
 ar [] R) (
 ar [] R) a0 bc)))]))]))]
def L1(w0:World)(k0:Hp→Prop)(kr:Hp→Prop)(m:Nat)(x0 x4:Value):Hp→Prop:=bJ (stepL ⟨prog,w0,74,Hv⟩ (drw w0 74) (bQ Gq 0)) m (bK [(0,x0),(4,x4)]) [λt=>k0,λt=>kr]
theorem acs(w0:World)(k0:Hp→Prop)(kr:Hp→Prop):∀m,L1 w0 k0 kr m=qU prog w0 k0 kr m:=by
 intro m
 induction m with
 |zero=>kernel_rfl
 |succ m ih=>
  show _=λx0 x4=>xq prog w0 (qU prog w0 k0 kr m) k0 kr x0 x4
  rw[←ih]
  kernel_rfl
theorem acr(w0:World):L0 prog w0=λk0 kr x0 x4 h=>∃m,L1 w0 k0 kr m x0 x4 h:=by
 funext k0 kr x0 x4 h
 simp only[acs]
 rfl
theorem Qj{w0:World}{a0 a1:Value}(hj:∀v,v∈[a0,a1]→v≠junk)(hv:Ct prog w0 a0 a1 R h):aj prog w0 mW [a0,a1] h R:=
 aI Gq Hv 74 (by kernel_rfl) (by kernel_rfl) (by simp) hj (by
  unfold Ct
  rw[acr w0]
  kernel_rfl) hv
abbrev Gp:Func:=f145
def Hu:List (Nat×List Nat×List Nat):=[(8,[0,2,3,4,6],[2])]
def qT(R:Ko5)(kr:Ko1)(x0 x2 x3 x4 x6:Value):Hp→Prop:=
 aa (ah .mul (.int .i64 2) x6) λe=>
 aa (ah .add e (.int .i64 1)) λc=>
 aa (ah .geq c x4) λg=>
 aB g (
 aG w0 x3 2 λi=>
 bU w0 x2 i 2 λ_=>
 kr x2) (
 af (λK=>K c) λj=>
 af (aa (ah .add j (.int .i64 1))) λl=>
 af (λK=>K x4) λo=>
 af (aa (ah .lss l o)) λs=>
 af (λK=>K s) λb=>
 af (ai b true (λK=>K x0)) λu=>
 af (ai b true (aF u)) λv=>
 af (ai b true (au v 1)) λz=>
 aD (ai b true (al w0 z)) λba=>
 af (ai b true (λK=>K x0)) λbb=>
 af (ai b true (aF bb)) λbc=>
 af (ai b true (au bc 0)) λbd=>
 aD (ai b true (al w0 bd)) λbe=>
 af (ai b true (λK=>K c)) λbf=>
 af (ai b true (aa (ah .add bf (.int .i64 1)))) λbg=>
 af (ai b true (aJ 2 be bg)) λbh=>
 aD (ai b true (aG w0 bh 2)) λbi=>
 af (ai b true (λK=>K x0)) λbj=>
 af (ai b true (aF bj)) λbk=>
 af (ai b true (au bk 0)) λbl=>
 aD (ai b true (al w0 bl)) λbm=>
 af (ai b true (λK=>K c)) λbn=>
 af (ai b true (aJ 2 bm bn)) λbo=>
 aD (ai b true (aG w0 bo 2)) λbp=>
 aO [
 (ai b true (dM P w0 ba [bi,bp]) λbq=>
 aP [] (
 af (aQ b bq (.bool false)) λbr=>
 bN (
 aB br (
 aa (ah .add c (.int .i64 1)) λd=>
 af (λK=>K x0) λbs=>
 af (aF bs) λbt=>
 af (au bt 1) λbu=>
 aD (al w0 bu) λbv=>
 af (λK=>K x0) λbw=>
 af (aF bw) λbx=>
 af (au bx 0) λbz=>
 aD (al w0 bz) λca=>
 af (λK=>K d) λcb=>
 af (aJ 2 ca cb) λcc=>
 aD (aG w0 cc 2) λcd=>
 af (λK=>K x0) λce=>
 af (aF ce) λcf=>
 af (au cf 0) λcg=>
 aD (al w0 cg) λch=>
 af (λK=>K x6) λci=>
 af (aJ 2 ch ci) λcj=>
 aD (aG w0 cj 2) λck=>
 aO [
 (dM P w0 bv [cd,ck] λcl=>
 aP [] (
 af (aa (unA .not cl)) λcm=>
 bN (
 aB cm (
 aG w0 x3 2 λcn=>
 bU w0 x2 cn 2 λ_=>
 kr x2) (
 af (λK=>K x0) λco=>
 af (aF co) λcp=>
 af (au cp 0) λcq=>
 aD (al w0 cq) λcr=>
 af (λK=>K x6) λcs=>
 af (λK=>K x0) λct=>
 af (aF ct) λcu=>
 af (au cu 0) λcv=>
 aD (al w0 cv) λcw=>
 af (λK=>K d) λcx=>
 af (λK=>K x0) λcy=>
 af (aF cy) λcz=>
 af (au cz 0) λda=>
 aD (al w0 da) λdb=>
 af (λK=>K d) λdc=>
 af (aJ 2 db dc) λdd=>
 aD (aG w0 dd 2) λde=>
 af (λK=>K x0) λdf=>
 af (aF df) λdg=>
 af (au dg 0) λdh=>
 aD (al w0 dh) λdi=>
 af (λK=>K x6) λdj=>
 af (aJ 2 di dj) λdk=>
 aD (aG w0 dk 2) λdl=>
 af (aJ 2 cr cs) λdm=>
 aO [
 (bU w0 dm de 2 λ_=>
 aP [] (
 af (aJ 2 cw cx) λdn=>
 aO [
 (bU w0 dn dl 2 λ_=>
 aP [] (
 bN (
 R x0 x2 x3 x4 d)))]))]))))]) (
 af (λK=>K x0) λdp=>
 af (aF dp) λdq=>
 af (au dq 1) λdr=>
 aD (al w0 dr) λds=>
 af (λK=>K x0) λdt=>
 af (aF dt) λdu=>
 af (au du 0) λdv=>
 aD (al w0 dv) λdw=>
 af (λK=>K c) λdx=>
 af (aJ 2 dw dx) λdy=>
 aD (aG w0 dy 2) λdz=>
 af (λK=>K x0) λea=>
 af (aF ea) λeb=>
 af (au eb 0) λec=>
 aD (al w0 ec) λed=>
 af (λK=>K x6) λee=>
 af (aJ 2 ed ee) λef=>
 aD (aG w0 ef 2) λeg=>
 aO [
 (dM P w0 ds [dz,eg] λeh=>
 aP [] (
 af (aa (unA .not eh)) λei=>
 bN (
 aB ei (
 aG w0 x3 2 λej=>
 bU w0 x2 ej 2 λ_=>
 kr x2) (
 af (λK=>K x0) λek=>
 af (aF ek) λel=>
 af (au el 0) λem=>
 aD (al w0 em) λen=>
 af (λK=>K x6) λeo=>
 af (λK=>K x0) λep=>
 af (aF ep) λeq=>
 af (au eq 0) λer=>
 aD (al w0 er) λes=>
 af (λK=>K c) λet=>
 af (λK=>K x0) λeu=>
 af (aF eu) λev=>
 af (au ev 0) λew=>
 aD (al w0 ew) λex=>
 af (λK=>K c) λey=>
 af (aJ 2 ex ey) λez=>
 aD (aG w0 ez 2) λga=>
 af (λK=>K x0) λgb=>
 af (aF gb) λgc=>
 af (au gc 0) λgd=>
 aD (al w0 gd) λge=>
 af (λK=>K x6) λgf=>
 af (aJ 2 ge gf) λgg=>
 aD (aG w0 gg 2) λgh=>
 af (aJ 2 en eo) λgi=>
 aO [
 (bU w0 gi ga 2 λ_=>
 aP [] (
 af (aJ 2 es et) λgj=>
 aO [
 (bU w0 gj gh 2 λ_=>
 aP [] (
 bN (
 R x0 x2 x3 x4 c)))]))]))))]))))])
def pL(P:Program)(w0:World)(kr:Ko1):Nat→Value→Value→Value→Value→Value→Hp→Prop
 |0,_,_,_,_,_=>λ_=>False
 |m+1,x0,x2,x3,x4,x6=>qT P w0 (pL P w0 kr m) kr x0 x2 x3 x4 x6
def Ly(kr:Ko1)(x0 x2 x3 x4 x6:Value):Hp→Prop:=λh=>∃m,pL P w0 kr m x0 x2 x3 x4 x6 h
def Cs(a0:Value)(R:av):Hp→Prop:=
 cA [(.slice none 0 0),(.int .i64 0)] 2 λd=>
 aF a0 λe=>
 au e 0 λg=>
 al w0 g λi=>
 aJ 2 i (.int .i64 0) λj=>
 aG w0 j 2 λl=>
 cA [(.slice none 0 0),(.int .i64 0)] 2 λc=>
 bU w0 c l 2 λ_=>
 aF a0 λo=>
 au o 0 λs=>
 al w0 s λu=>
 aa (aM u) λv=>
 aa (ah .sub v (.int .i64 1)) λb=>
 af (λK=>K a0) λz=>
 af (aF z) λba=>
 af (au ba 0) λbb=>
 aD (al w0 bb) λbc=>
 af (λK=>K a0) λbd=>
 af (aF bd) λbe=>
 af (au be 0) λbf=>
 aD (al w0 bf) λbg=>
 af (λK=>K b) λbh=>
 af (aJ 2 bg bh) λbi=>
 aD (aG w0 bi 2) λbj=>
 af (aJ 2 bc (.int .i64 0)) λbk=>
 aO [
 (bU w0 bk bj 2 λ_=>
 aP [] (
 bN (
 cA [(.slice none 0 0),(.int .i64 0)] 2 λbl=>
 af (λK=>K a0) λbm=>
 af (aF bm) λbn=>
 af (au bn 0) λbo=>
 aD (al w0 bo) λbp=>
 af (λK=>K b) λbq=>
 aD (aG w0 bl 2) λbr=>
 af (aJ 2 bp bq) λbs=>
 aO [
 (bU w0 bs br 2 λ_=>
 aP [] (
 bN (
 aF a0 λbt=>
 au bt 0 λbu=>
 al w0 bu λbv=>
 cT 2 bv none (some b) none λbw=>
 aF a0 λbx=>
 au bx 0 λbz=>
 bO w0 bz bw λ_=>
 Ly P w0 (λca=>
 aG w0 ca 2 λcb=>
 ar [cb] R) a0 d c b (.int .i64 0))))])))]
def Lz(w0:World)(kr:Ko1)(m:Nat)(x0 x2 x3 x4 x6:Value):Hp→Prop:=bJ (stepL ⟨prog,w0,131,Hu⟩ (drw w0 131) (bQ Gp 0)) m (bK [(0,x0),(2,x2),(3,x3),(4,x4),(6,x6)]) [λt=>kr (t 2)]
theorem acq(w0:World)(kr:Ko1):∀m,Lz w0 kr m=pL prog w0 kr m:=by
 intro m
 induction m with
 |zero=>kernel_rfl
 |succ m ih=>
  show _=λx0 x2 x3 x4 x6=>qT prog w0 (pL prog w0 kr m) kr x0 x2 x3 x4 x6
  rw[←ih]
  kernel_rfl
theorem acp(w0:World):Ly prog w0=λkr x0 x2 x3 x4 x6 h=>∃m,Lz w0 kr m x0 x2 x3 x4 x6 h:=by
 funext kr x0 x2 x3 x4 x6 h
 simp only[acq]
 rfl
theorem Qi{w0:World}{a0:Value}(hj:∀v,v∈[a0]→v≠junk)(hv:Cs prog w0 a0 R h):aj prog w0 tg [a0] h R:=
 aI Gp Hu 131 (by kernel_rfl) (by kernel_rfl) (by simp) hj (by
  unfold Cs
  rw[acp w0]
  kernel_rfl) hv
abbrev UH:Func:=f153
def Xn:List (Nat×List Nat×List Nat):=[]
def KS(a0 a1:Value)(R:av):Hp→Prop:=
 cA [(.string .empty),(.string .empty),(.bool false)] 3 λb=>
 cA [(.string .empty),(.string .empty),(.bool false)] 3 λd=>
 am P w0 wD [a0,a1] λc=>
 aa (aV c 0) λe=>
 aa (aV c 1) λg=>
 aa (unA .not g) λi=>
 aB i (
 aG w0 d 3 λj=>
 bU w0 b j 3 λ_=>
 aG w0 b 3 λl=>
 ar [l,(.bool false)] R) (
 aF a0 λo=>
 au o 0 λs=>
 al w0 s λu=>
 aJ 4 u e λv=>
 au v 1 λz=>
 aG w0 z 3 λba=>
 bU w0 b ba 3 λ_=>
 aG w0 b 3 λbb=>
 ar [bb,(.bool true)] R)
theorem PX{w0:World}{a0 a1:Value}(hj:∀v,v∈[a0,a1]→v≠junk)(hv:KS prog w0 a0 a1 R h):aj prog w0 AZ [a0,a1] h R:=
 aI UH Xn 26 (by kernel_rfl) (by kernel_rfl) (by simp) hj (by
  kernel_rfl) hv
abbrev UK:Func:=f154
def Xq:List (Nat×List Nat×List Nat):=[]
def KV(a0 a1:Value)(R:av):Hp→Prop:=
 aa (cN .eql a0 (.pointer none)) λc=>
 aB c (
 ar [(.int .i64 0),(.bool false)] R) (
 aF a0 λd=>
 au d 0 λe=>
 al w0 e λg=>
 am P w0 Bd [g,a1] λb=>
 aa (aV b 0) λi=>
 aa (aV b 1) λj=>
 ar [i,j] R)
theorem Qa{w0:World}{a0 a1:Value}(hj:∀v,v∈[a0,a1]→v≠junk)(hv:KV prog w0 a0 a1 R h):aj prog w0 wD [a0,a1] h R:=
 aI UK Xq 16 (by kernel_rfl) (by kernel_rfl) (by simp) hj (by
  kernel_rfl) hv
abbrev Gm:Func:=f161
def Ht:List (Nat×List Nat×List Nat):=[(2,[0,2,12,13,14],[])]
def xo(R:Ko5)(k0:Hp→Prop)(kr:Hp→Prop)(x0 x2 x12 x13 x14:Value):Hp→Prop:=
 aa (ah .lss x14 x13) λd=>
 aB d (
 aJ 4 x12 x14 λe=>
 aG w0 e 4 λg=>
 cA [(.string .empty),(.string .empty),(.string .empty),(.bool false)] 4 λc=>
 bU w0 c g 4 λ_=>
 al w0 x2 λi=>
 au c 0 λj=>
 al w0 j λl=>
 dM P w0 i [l] λb=>
 ai b true (λK=>K x0) λo=>
 ai b true (au c 0) λs=>
 ai b true (al w0 s) λu=>
 ai b true (au c 1) λv=>
 ai b true (aG w0 v 3) λz=>
 ai b true (dM P w0 o [u,z]) λba=>
 ai b true (aa (unA .not ba)) λbb=>
 aQ b bb (.bool false) λbc=>
 aB bc (
 kr) (
 aa (ah .add x14 (.int .i64 1)) λbd=>
 R x0 x2 x12 x13 bd)) (
 k0)
def lY(P:Program)(w0:World)(k0:Hp→Prop)(kr:Hp→Prop):Nat→Value→Value→Value→Value→Value→Hp→Prop
 |0,_,_,_,_,_=>λ_=>False
 |m+1,x0,x2,x12,x13,x14=>xo P w0 (lY P w0 k0 kr m) k0 kr x0 x2 x12 x13 x14
def Lq(k0:Hp→Prop)(kr:Hp→Prop)(x0 x2 x12 x13 x14:Value):Hp→Prop:=λh=>∃m,lY P w0 k0 kr m x0 x2 x12 x13 x14 h
def Cq(a0 a1 a2:Value)(R:av):Hp→Prop:=
 al w0 a1 λc=>
 aa (cN .eql c (.pointer none)) λd=>
 aB d (
 ar [] R) (
 al w0 a1 λe=>
 aF e λg=>
 au g 0 λi=>
 al w0 i λj=>
 am P w0 wI [j] λb=>
 aa (aM b) λl=>
 Lq P w0 (
 ar [] R) (
 ar [] R) a0 a2 b l (.int .i64 0))
def Lr(w0:World)(k0:Hp→Prop)(kr:Hp→Prop)(m:Nat)(x0 x2 x12 x13 x14:Value):Hp→Prop:=bJ (stepL ⟨prog,w0,32,Ht⟩ (drw w0 32) (bQ Gm 0)) m (bK [(0,x0),(2,x2),(12,x12),(13,x13),(14,x14)]) [λt=>k0,λt=>kr]
theorem ack(w0:World)(k0:Hp→Prop)(kr:Hp→Prop):∀m,Lr w0 k0 kr m=lY prog w0 k0 kr m:=by
 intro m
 induction m with
 |zero=>kernel_rfl
 |succ m ih=>
  show _=λx0 x2 x12 x13 x14=>xo prog w0 (lY prog w0 k0 kr m) k0 kr x0 x2 x12 x13 x14
  rw[←ih]
  kernel_rfl
theorem acj(w0:World):Lq prog w0=λk0 kr x0 x2 x12 x13 x14 h=>∃m,Lr w0 k0 kr m x0 x2 x12 x13 x14 h:=by
 funext k0 kr x0 x2 x12 x13 x14 h
 simp only[ack]
 rfl
theorem Qc{w0:World}{a0 a1 a2:Value}(hj:∀v,v∈[a0,a1,a2]→v≠junk)(hv:Cq prog w0 a0 a1 a2 R h):aj prog w0 tf [a0,a1,a2] h R:=
 aI Gm Ht 32 (by kernel_rfl) (by kernel_rfl) (by simp) hj (by
  unfold Cq
  rw[acj w0]
  kernel_rfl) hv
abbrev UO:Func:=f167
def Xu:List (Nat×List Nat×List Nat):=[]
def KZ(a0 a1:Value)(R:av):Hp→Prop:=
 am P w0 Bg [a0,a1,(.func (.func lN) #[] #[])] λd=>
 aa (aV d 0) λc=>
 aa (aV d 1) λbf=>
 af (λK=>K c) λe=>
 af (λK=>K c) λg=>
 af (λK=>K a0) λi=>
 af (aa (aM i)) λj=>
 af (aa (ah .lss g j)) λl=>
 af (λK=>K l) λb=>
 af (ai b true (λK=>K a0)) λo=>
 af (ai b true (λK=>K c)) λs=>
 af (ai b true (aJ 4 o s)) λu=>
 af (ai b true (au u 0)) λv=>
 aD (ai b true (al w0 v)) λz=>
 af (ai b true (λK=>K a1)) λba=>
 af (ai b true (aa (ah .eql z ba))) λbb=>
 af (aQ b bb (.bool false)) λbc=>
 af (λK=>K e) λbd=>
 af (λK=>K bc) λbe=>
 bN (
 ar [bd,be] R)
theorem Qg{w0:World}{a0 a1:Value}(hj:∀v,v∈[a0,a1]→v≠junk)(hv:KZ prog w0 a0 a1 R h):aj prog w0 Bd [a0,a1] h R:=
 aI UO Xu 28 (by kernel_rfl) (by kernel_rfl) (by simp) hj (by
  kernel_rfl) hv
abbrev UP:Func:=f174
def Xv:List (Nat×List Nat×List Nat):=[]
def La(a0 a1:Value)(R:av):Hp→Prop:=
 cF true 4 a0 λb=>
 au b 0 λc=>
 al w0 c λd=>
 am P w0 vM [d,a1] λe=>
 ar [e] R
theorem Qh{w0:World}{a0 a1:Value}(hj:∀v,v∈[a0,a1]→v≠junk)(hv:La prog w0 a0 a1 R h):aj prog w0 lN [a0,a1] h R:=
 aI UP Xv 9 (by kernel_rfl) (by kernel_rfl) (by simp) hj (by
  kernel_rfl) hv
end
