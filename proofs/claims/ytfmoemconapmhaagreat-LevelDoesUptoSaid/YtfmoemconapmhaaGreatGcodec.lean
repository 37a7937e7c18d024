/- PRINTED by wip/tools/shallow.py: functions of the program as readable words, and that each is what its text says. -/
import Derived.Test.YtfmoemconapmhaaGreatGn
set_option linter.all false
namespace Go.Proofs.YtfmoemconapmhaaGreat.Ah
open Go Go.Proofs.Tryz
noncomputable section
variable (P:Program)(w0:World){h:Hp}{R:av}
abbrev T9:Func:=f53
def We:List (Nat×List Nat×List Nat):=[]
def B7(a0:Value)(R:av):Hp→Prop:=
 aa (cD a0) λg=>
 aa (ah .lss g (.int .i64 8)) λi=>
 aB i (
 ar [(.int .u8 0),(.string .empty),(.int .i64 0),(.int .i64 20)] R) (
 am P w0 pu [a0] λb=>
 am P w0 jX [b,(.int .i64 2)] λj=>
 am P w0 mS [b] λl=>
 am P w0 mS [b] λo=>
 am P w0 mQ [b] λs=>
 aa (bG .i64 s) λc=>
 aa (ah .neq j (.string ⟨#[68,70]⟩)) λd=>
 ai d false (λK=>K o) λu=>
 ai d false (aa (ah .neq u (.int .u8 0))) λv=>
 aQ d (.bool true) v λe=>
 ai e false (λK=>K c) λz=>
 ai e false (aa (ah .gtr z (.int .i64 1048576))) λba=>
 aQ e (.bool true) ba λbb=>
 aB bb (
 ar [(.int .u8 0),(.string .empty),(.int .i64 0),(.int .i64 21)] R) (
 am P w0 jX [b,c] λbc=>
 am P w0 mQ [b] λbd=>
 am P w0 iV [b] λbe=>
 aa (ah .neq be (.int .i64 0)) λbf=>
 aB bf (
 ar [(.int .u8 0),(.string .empty),(.int .i64 0),(.int .i64 20)] R) (
 aa (ah .add (.int .i64 8) c) λbg=>
 aa (dD a0 none (some bg)) λbh=>
 am P w0 mO [bh] λbi=>
 aa (ah .neq bi bd) λbj=>
 aB bj (
 ar [(.int .u8 0),(.string .empty),(.int .i64 0),(.int .i64 23)] R) (
 aa (ah .add (.int .i64 8) c) λbk=>
 aa (ah .add bk (.int .i64 4)) λbl=>
 ar [l,bc,bl,(.int .i64 0)] R))))
theorem Og{w0:World}{a0:Value}(hj:∀v,v∈[a0]→v≠junk)(hv:B7 prog w0 a0 R h):aj prog w0 Ag [a0] h R:=
 aI T9 We 55 (by kernel_rfl) (by kernel_rfl) (by simp) hj (by
  kernel_rfl) hv
abbrev Tt:Func:=f55
def VT:List (Nat×List Nat×List Nat):=[]
def JB(P:Program)(w0:World)(a0:Value)(R:av):Hp→Prop:=
 dI [(0,1,false,a0)] [(.string .empty),(.int .i64 0)] λb=>
 cF true 2 b λc=>
 ar [c] R
theorem NT{w0:World}{a0:Value}(hj:∀v,v∈[a0]→v≠junk)(hv:JB prog w0 a0 R h):aj prog w0 pu [a0] h R:=
 aI Tt VT 6 (by kernel_rfl) (by kernel_rfl) (by simp) hj (by
  kernel_rfl) hv
abbrev Tu:Func:=f56
def VU:List (Nat×List Nat×List Nat):=[]
def JC(P:Program)(w0:World)(a0:Value)(R:av):Hp→Prop:=
 aa (iL pp a0 [(.int .i64 0)]) λb=>
 dI [(0,1,false,b)] [(.int .i64 0),(.slice none 0 0),(.bool false)] λc=>
 cF true 3 c λd=>
 ar [d] R
theorem NU{w0:World}{a0:Value}(hj:∀v,v∈[a0]→v≠junk)(hv:JC prog w0 a0 R h):aj prog w0 qG [a0] h R:=
 aI Tu VU 7 (by kernel_rfl) (by kernel_rfl) (by simp) hj (by
  kernel_rfl) hv
abbrev TF:Func:=f57
def Wk:List (Nat×List Nat×List Nat):=[]
def ab9(a0 a1:Value)(R:av):Hp→Prop:=
 am P w0 vQ [a1] λb=>
 am P w0 mU [a0,b] λc=>
 ar [] R
theorem Om{w0:World}{a0 a1:Value}(hj:∀v,v∈[a0,a1]→v≠junk)(hv:ab9 prog w0 a0 a1 R h):aj prog w0 lJ [a0,a1] h R:=
 aI TF Wk 8 (by kernel_rfl) (by kernel_rfl) (by simp) hj (by
  kernel_rfl) hv
abbrev zc:Func:=f59
def zD:List (Nat×List Nat×List Nat):=[(3,[0,3,6,7],[3]),(7,[0,3,6,7,16],[0,3,6,7])]
def uk(P:Program)(w0:World)(R:Ko5)(k2:Ko4)(x0 x3 x6 x7 x16:Value):Hp→Prop:=
 aa (ah .lss x16 (.int .i64 8)) λb=>
 aB b (
 aa (ah .shr x3 (.int .u64 1)) λc=>
 aa (ah .and x3 (.int .u32 1)) λd=>
 aa (unA .neg d) λe=>
 aa (ah .and (.int .u32 2197175160) e) λg=>
 aa (ah .xor c g) λi=>
 aa (ah .add x16 (.int .i64 1)) λj=>
 R x0 i x6 x7 j) (
 k2 x0 x3 x6 x7)
def nJ(P:Program)(w0:World)(k2:Ko4):Nat→Value→Value→Value→Value→Value→Hp→Prop
 |0,_,_,_,_,_=>λ_=>False
 |m+1,x0,x3,x6,x7,x16=>uk P w0 (nJ P w0 k2 m) k2 x0 x3 x6 x7 x16
def D9(k2:Ko4)(x0 x3 x6 x7 x16:Value):Hp→Prop:=λh=>∃m,nJ P w0 k2 m x0 x3 x6 x7 x16 h
def rL(R:Ko4)(k0:Ko1)(x0 x3 x6 x7:Value):Hp→Prop:=
 aa (ah .lss x7 x6) λb=>
 aB b (
 aa (dR x0 x7) λc=>
 aa (bG .u32 c) λd=>
 aa (ah .xor x3 d) λe=>
 D9 P w0 (λg i j l=>
 aa (ah .add l (.int .i64 1)) λo=>
 R g i j o) x0 e x6 x7 (.int .i64 0)) (
 k0 x3)
def nI(P:Program)(w0:World)(k0:Ko1):Nat→Value→Value→Value→Value→Hp→Prop
 |0,_,_,_,_=>λ_=>False
 |m+1,x0,x3,x6,x7=>rL P w0 (nI P w0 k0 m) k0 x0 x3 x6 x7
def D8(k0:Ko1)(x0 x3 x6 x7:Value):Hp→Prop:=λh=>∃m,nI P w0 k0 m x0 x3 x6 x7 h
def B6(a0:Value)(R:av):Hp→Prop:=
 aa (cD a0) λb=>
 D8 P w0 (λc=>
 aa (unA .xor c) λd=>
 ar [d] R) a0 (.int .u32 4294967295) b (.int .i64 0)
def DB(w0:World)(k2:Ko4)(m:Nat)(x0 x3 x6 x7 x16:Value):Hp→Prop:=bJ (stepL ⟨prog,w0,29,zD⟩ (drw w0 29) (bQ zc 1)) m (bK [(0,x0),(3,x3),(6,x6),(7,x7),(16,x16)]) [λt=>k2 (t 0) (t 3) (t 6) (t 7)]
theorem QC(w0:World)(k2:Ko4):∀m,DB w0 k2 m=nJ prog w0 k2 m:=by
 intro m
 induction m with
 |zero=>kernel_rfl
 |succ m ih=>
  show _=λx0 x3 x6 x7 x16=>uk prog w0 (nJ prog w0 k2 m) k2 x0 x3 x6 x7 x16
  rw[←ih]
  kernel_rfl
theorem QA(w0:World):D9 prog w0=λk2 x0 x3 x6 x7 x16 h=>∃m,DB w0 k2 m x0 x3 x6 x7 x16 h:=by
 funext k2 x0 x3 x6 x7 x16 h
 simp only[QC]
 rfl
def DA(w0:World)(k0:Ko1)(m:Nat)(x0 x3 x6 x7:Value):Hp→Prop:=bJ (stepL ⟨prog,w0,29,zD⟩ (drw w0 29) (bQ zc 0)) m (bK [(0,x0),(3,x3),(6,x6),(7,x7)]) [λt=>k0 (t 3)]
theorem QB(w0:World)(k0:Ko1):∀m,DA w0 k0 m=nI prog w0 k0 m:=by
 intro m
 induction m with
 |zero=>kernel_rfl
 |succ m ih=>
  show _=λx0 x3 x6 x7=>rL prog w0 (nI prog w0 k0 m) k0 x0 x3 x6 x7
  rw[←ih]
  unfold rL
  rw[QA w0]
  kernel_rfl
theorem Q9(w0:World):D8 prog w0=λk0 x0 x3 x6 x7 h=>∃m,DA w0 k0 m x0 x3 x6 x7 h:=by
 funext k0 x0 x3 x6 x7 h
 simp only[QB]
 rfl
theorem NR{w0:World}{a0:Value}(hj:∀v,v∈[a0]→v≠junk)(hv:B6 prog w0 a0 R h):aj prog w0 mO [a0] h R:=
 aI zc zD 29 (by kernel_rfl) (by kernel_rfl) (by simp) hj (by
  unfold B6
  rw[Q9 w0]
  kernel_rfl) hv
abbrev TA:Func:=f60
def Wf:List (Nat×List Nat×List Nat):=[]
def JJ(P:Program)(w0:World)(a0:Value)(R:av):Hp→Prop:=
 aa (cN .eql a0 (.pointer none)) λb=>
 aB b (
 ar [(.string .empty),(.int .i64 6)] R) (
 aF a0 λc=>
 au c 2 λd=>
 al w0 d λe=>
 aB e (
 ar [(.string .empty),(.int .i64 3)] R) (
 aF a0 λg=>
 au g 1 λi=>
 al w0 i λj=>
 dW w0 j λl=>
 ar [l,(.int .i64 0)] R))
theorem Oh{w0:World}{a0:Value}(hj:∀v,v∈[a0]→v≠junk)(hv:JJ prog w0 a0 R h):aj prog w0 mT [a0] h R:=
 aI TA Wf 17 (by kernel_rfl) (by kernel_rfl) (by simp) hj (by
  kernel_rfl) hv
abbrev Ts:Func:=f61
def VS:List (Nat×List Nat×List Nat):=[]
def JA(a0 a1:Value)(R:av):Hp→Prop:=
 aa (cD a1) λe=>
 aa (ah .gtr e (.int .i64 1048576)) λg=>
 aB g (
 ar [(.string .empty),(.int .i64 3)] R) (
 aa (cD a1) λi=>
 aa (ah .add (.int .i64 8) i) λj=>
 aa (ah .add j (.int .i64 4)) λl=>
 am P w0 qG [l] λb=>
 am P w0 sO [b,(.string ⟨#[68,70]⟩)] λbb=>
 am P w0 vP [b,a0] λbc=>
 am P w0 vP [b,(.int .u8 0)] λbd=>
 aa (cD a1) λo=>
 aa (bG .u32 o) λs=>
 am P w0 pv [b,s] λbe=>
 am P w0 sO [b,a1] λbf=>
 am P w0 mT [b] λc=>
 aa (aV c 0) λu=>
 aa (aV c 1) λbg=>
 am P w0 mO [u] λv=>
 am P w0 pv [b,v] λbh=>
 am P w0 mT [b] λd=>
 aa (aV d 0) λz=>
 aa (aV d 1) λba=>
 ar [z,ba] R)
theorem NS{w0:World}{a0 a1:Value}(hj:∀v,v∈[a0,a1]→v≠junk)(hv:JA prog w0 a0 a1 R h):aj prog w0 Ac [a0,a1] h R:=
 aI Ts VS 45 (by kernel_rfl) (by kernel_rfl) (by simp) hj (by
  kernel_rfl) hv
abbrev Tz:Func:=f104
def VY:List (Nat×List Nat×List Nat):=[]
def JF(a0 a1:Value)(R:av):Hp→Prop:=
 aa (cN .eql a0 (.pointer none)) λb=>
 ai b false (λK=>K a0) λc=>
 ai b false (aF c) λd=>
 ai b false (au d 1) λe=>
 ai b false (al w0 e) λg=>
 ai b false (aa (ah .neq g (.int .i64 0))) λi=>
 aQ b (.bool true) i λj=>
 aB j (
 ar [(.string .empty)] R) (
 aa (ah .lss a1 (.int .i64 0)) λl=>
 aB l (
 am P w0 qH [a0,(.int .i64 1)] λo=>
 ar [o] R) (
 aF a0 λs=>
 au s 0 λu=>
 al w0 u λv=>
 aa (cD v) λz=>
 aa (ah .gtr a1 z) λba=>
 aB ba (
 am P w0 qH [a0,(.int .i64 20)] λbb=>
 ar [bb] R) (
 aF a0 λbc=>
 au bc 0 λbd=>
 al w0 bd λbe=>
 aa (dD be none (some a1)) λbf=>
 aF a0 λbg=>
 au bg 0 λbh=>
 al w0 bh λbi=>
 aa (dD bi (some a1) none) λbj=>
 aF a0 λbk=>
 au bk 0 λbl=>
 bO w0 bl bj λ_=>
 ar [bf] R)))
theorem NY{w0:World}{a0 a1:Value}(hj:∀v,v∈[a0,a1]→v≠junk)(hv:JF prog w0 a0 a1 R h):aj prog w0 jX [a0,a1] h R:=
 aI Tz VY 47 (by kernel_rfl) (by kernel_rfl) (by simp) hj (by
  kernel_rfl) hv
abbrev T6:Func:=f105
def Wb:List (Nat×List Nat×List Nat):=[]
def ab6(a0:Value)(R:av):Hp→Prop:=
 am P w0 vO [a0,(.int .i64 1)] λb=>
 aa (bG .u8 b) λc=>
 ar [c] R
theorem Ob{w0:World}{a0:Value}(hj:∀v,v∈[a0]→v≠junk)(hv:ab6 prog w0 a0 R h):aj prog w0 mS [a0] h R:=
 aI T6 Wb 6 (by kernel_rfl) (by kernel_rfl) (by simp) hj (by
  kernel_rfl) hv
abbrev T4:Func:=f106
def Wa:List (Nat×List Nat×List Nat):=[]
def ab5(a0:Value)(R:av):Hp→Prop:=
 am P w0 vO [a0,(.int .i64 4)] λb=>
 aa (bG .u32 b) λc=>
 ar [c] R
theorem Oa{w0:World}{a0:Value}(hj:∀v,v∈[a0]→v≠junk)(hv:ab5 prog w0 a0 R h):aj prog w0 mQ [a0] h R:=
 aI T4 Wa 6 (by kernel_rfl) (by kernel_rfl) (by simp) hj (by
  kernel_rfl) hv
abbrev Tw:Func:=f107
def VW:List (Nat×List Nat×List Nat):=[]
def JD(P:Program)(w0:World)(a0:Value)(R:av):Hp→Prop:=
 aa (cN .eql a0 (.pointer none)) λb=>
 aB b (
 ar [(.int .i64 6)] R) (
 aF a0 λc=>
 au c 1 λd=>
 al w0 d λe=>
 ar [e] R)
theorem NW{w0:World}{a0:Value}(hj:∀v,v∈[a0]→v≠junk)(hv:JD prog w0 a0 R h):aj prog w0 iV [a0] h R:=
 aI Tw VW 9 (by kernel_rfl) (by kernel_rfl) (by simp) hj (by
  kernel_rfl) hv
abbrev T7:Func:=f108
def Wc:List (Nat×List Nat×List Nat):=[]
def JG(a0:Value)(R:av):Hp→Prop:=
 aa (cN .eql a0 (.pointer none)) λb=>
 ai b false (λK=>K a0) λe=>
 ai b false (aF e) λg=>
 ai b false (au g 1) λi=>
 ai b false (al w0 i) λj=>
 ai b false (aa (ah .neq j (.int .i64 0))) λl=>
 aQ b (.bool true) l λo=>
 aB o (
 ar [(.int .u64 0)] R) (
 aF a0 λs=>
 au s 0 λu=>
 al w0 u λv=>
 am P w0 Aj [v] λc=>
 aa (aV c 0) λz=>
 aa (aV c 1) λba=>
 aa (aV c 2) λd=>
 aa (ah .neq d (.int .i64 0)) λbb=>
 aB bb (
 am P w0 qH [a0,d] λbi=>
 ar [(.int .u64 0)] R) (
 aF a0 λbc=>
 au bc 0 λbd=>
 al w0 bd λbe=>
 aa (dD be (some ba) none) λbf=>
 aF a0 λbg=>
 au bg 0 λbh=>
 bO w0 bh bf λ_=>
 ar [z] R))
theorem Oc{w0:World}{a0:Value}(hj:∀v,v∈[a0]→v≠junk)(hv:JG prog w0 a0 R h):aj prog w0 jY [a0] h R:=
 aI T7 Wc 39 (by kernel_rfl) (by kernel_rfl) (by simp) hj (by
  kernel_rfl) hv
abbrev Tv:Func:=f109
def VV:List (Nat×List Nat×List Nat):=[]
def ab3(a0:Value)(R:av):Hp→Prop:=
 am P w0 iV [a0] λb=>
 aa (ah .neq b (.int .i64 0)) λc=>
 aB c (
 ar [b] R) (
 aF a0 λd=>
 au d 0 λe=>
 al w0 e λg=>
 aa (cD g) λi=>
 aa (ah .gtr i (.int .i64 0)) λj=>
 aB j (
 ar [(.int .i64 22)] R) (
 ar [(.int .i64 0)] R))
theorem NV{w0:World}{a0:Value}(hj:∀v,v∈[a0]→v≠junk)(hv:ab3 prog w0 a0 R h):aj prog w0 Ad [a0] h R:=
 aI Tv VV 15 (by kernel_rfl) (by kernel_rfl) (by simp) hj (by
  kernel_rfl) hv
abbrev TG:Func:=f110
def Wl:List (Nat×List Nat×List Nat):=[]
def JM(P:Program)(w0:World)(a0 a1:Value)(R:av):Hp→Prop:=
 aa (cN .eql a0 (.pointer none)) λb=>
 ai b false (λK=>K a0) λc=>
 ai b false (aF c) λd=>
 ai b false (au d 2) λe=>
 ai b false (al w0 e) λg=>
 aQ b (.bool true) g λi=>
 aB i (
 ar [] R) (
 af (λK=>K a1) λj=>
 af (aa (aM j)) λl=>
 af (λK=>K a0) λo=>
 af (aF o) λs=>
 af (au s 0) λu=>
 aD (al w0 u) λv=>
 af (λK=>K a0) λz=>
 af (aF z) λba=>
 af (au ba 1) λbb=>
 aD (al w0 bb) λbc=>
 af (aa (aM bc)) λbd=>
 af (aa (ah .sub v bd)) λbe=>
 af (aa (ah .gtr l be)) λbf=>
 af (λK=>K bf) λbg=>
 bN (
 aB bg (
 aF a0 λbh=>
 au bh 2 λbi=>
 bO w0 bi (.bool true) λ_=>
 ar [] R) (
 aF a0 λbj=>
 au bj 1 λbk=>
 al w0 bk λbl=>
 bD w0 1 1 bl a1 λbm=>
 aF a0 λbn=>
 au bn 1 λbo=>
 bO w0 bo bm λ_=>
 ar [] R)))
theorem On{w0:World}{a0 a1:Value}(hj:∀v,v∈[a0,a1]→v≠junk)(hv:JM prog w0 a0 a1 R h):aj prog w0 mU [a0,a1] h R:=
 aI TG Wl 39 (by kernel_rfl) (by kernel_rfl) (by simp) hj (by
  kernel_rfl) hv
abbrev FF:Func:=f111
def GK:List (Nat×List Nat×List Nat):=[(2,[0,3],[0,3])]
def uq(P:Program)(w0:World)(R k0:Ko2)(x0 x3:Value):Hp→Prop:=
 aa (ah .geq x0 (.int .u64 128)) λb=>
 aB b (
 aa (bG .u8 x0) λc=>
 aa (ah .or c (.int .u8 128)) λd=>
 bI [(0,1,false,d)] (aL [(.int .u8 0)] 1) 1 1 λe=>
 bD w0 1 1 x3 e λg=>
 aa (ah .shr x0 (.int .u64 7)) λi=>
 R i g) (
 k0 x0 x3)
def nN(P:Program)(w0:World)(k0:Ko2):Nat→Value→Value→Hp→Prop
 |0,_,_=>λ_=>False
 |m+1,x0,x3=>uq P w0 (nN P w0 k0 m) k0 x0 x3
def DJ(k0:Ko2)(x0 x3:Value):Hp→Prop:=λh=>∃m,nN P w0 k0 m x0 x3 h
def JN(a0:Value)(R:av):Hp→Prop:=
 DJ P w0 (λb c=>
 aa (bG .u8 b) λd=>
 bI [(0,1,false,d)] (aL [(.int .u8 0)] 1) 1 1 λe=>
 bD w0 1 1 c e λg=>
 ar [g] R) a0 (.slice none 0 0)
def DK(w0:World)(k0:Ko2)(m:Nat)(x0 x3:Value):Hp→Prop:=bJ (stepL ⟨prog,w0,19,GK⟩ (drw w0 19) (bQ FF 0)) m (bK [(0,x0),(3,x3)]) [λt=>k0 (t 0) (t 3)]
theorem QN(w0:World)(k0:Ko2):∀m,DK w0 k0 m=nN prog w0 k0 m:=by
 intro m
 induction m with
 |zero=>kernel_rfl
 |succ m ih=>
  show _=λx0 x3=>uq prog w0 (nN prog w0 k0 m) k0 x0 x3
  rw[←ih]
  kernel_rfl
theorem QM(w0:World):DJ prog w0=λk0 x0 x3 h=>∃m,DK w0 k0 m x0 x3 h:=by
 funext k0 x0 x3 h
 simp only[QN]
 rfl
theorem Ou{w0:World}{a0:Value}(hj:∀v,v∈[a0]→v≠junk)(hv:JN prog w0 a0 R h):aj prog w0 vQ [a0] h R:=
 aI FF GK 19 (by kernel_rfl) (by kernel_rfl) (by simp) hj (by
  unfold JN
  rw[QM w0]
  kernel_rfl) hv
abbrev TB:Func:=f114
def Wg:List (Nat×List Nat×List Nat):=[]
def JK(a0 a1:Value)(R:av):Hp→Prop:=
 pJ a1 λb=>
 am P w0 mU [a0,b] λc=>
 ar [] R
theorem Oi{w0:World}{a0 a1:Value}(hj:∀v,v∈[a0,a1]→v≠junk)(hv:JK prog w0 a0 a1 R h):aj prog w0 sO [a0,a1] h R:=
 aI TB Wg 8 (by kernel_rfl) (by kernel_rfl) (by simp) hj (by
  kernel_rfl) hv
abbrev TE:Func:=f115
def Wj:List (Nat×List Nat×List Nat):=[]
def ab8(a0 a1:Value)(R:av):Hp→Prop:=
 am P w0 Ip [a0,a1,(.int .i64 1)] λb=>
 ar [] R
theorem Ol{w0:World}{a0 a1:Value}(hj:∀v,v∈[a0,a1]→v≠junk)(hv:ab8 prog w0 a0 a1 R h):aj prog w0 vP [a0,a1] h R:=
 aI TE Wj 7 (by kernel_rfl) (by kernel_rfl) (by simp) hj (by
  kernel_rfl) hv
abbrev TD:Func:=f116
def Wi:List (Nat×List Nat×List Nat):=[]
def ab7(a0 a1:Value)(R:av):Hp→Prop:=
 am P w0 Io [a0,a1,(.int .i64 4)] λb=>
 ar [] R
theorem Ok{w0:World}{a0 a1:Value}(hj:∀v,v∈[a0,a1]→v≠junk)(hv:ab7 prog w0 a0 a1 R h):aj prog w0 pv [a0,a1] h R:=
 aI TD Wi 7 (by kernel_rfl) (by kernel_rfl) (by simp) hj (by
  kernel_rfl) hv
abbrev TC:Func:=f134
def Wh:List (Nat×List Nat×List Nat):=[]
def JL(a0 a1:Value)(R:av):Hp→Prop:=
 aa (cD a1) λb=>
 aa (bG .u64 b) λc=>
 am P w0 vQ [c] λd=>
 bD w0 1 1 d a1 λe=>
 am P w0 mU [a0,e] λg=>
 ar [] R
theorem Oj{w0:World}{a0 a1:Value}(hj:∀v,v∈[a0,a1]→v≠junk)(hv:JL prog w0 a0 a1 R h):aj prog w0 Ai [a0,a1] h R:=
 aI TC Wh 12 (by kernel_rfl) (by kernel_rfl) (by simp) hj (by
  kernel_rfl) hv
abbrev T8:Func:=f146
def Wd:List (Nat×List Nat×List Nat):=[]
def JH(P:Program)(w0:World)(a0 a1:Value)(R:av):Hp→Prop:=
 aF a0 λb=>
 au b 1 λc=>
 al w0 c λd=>
 aa (ah .eql d (.int .i64 0)) λe=>
 aB e (
 aF a0 λg=>
 au g 1 λi=>
 bO w0 i a1 λ_=>
 ar [(.string .empty)] R) (
 ar [(.string .empty)] R)
theorem Od{w0:World}{a0 a1:Value}(hj:∀v,v∈[a0,a1]→v≠junk)(hv:JH prog w0 a0 a1 R h):aj prog w0 qH [a0,a1] h R:=
 aI T8 Wd 14 (by kernel_rfl) (by kernel_rfl) (by simp) hj (by
  kernel_rfl) hv
abbrev FB:Func:=f147
def GG:List (Nat×List Nat×List Nat):=[(3,[5,11,12,13],[5])]
def ul(P:Program)(w0:World)(R:Ko4)(k0:Ko1)(x5 x11 x12 x13:Value):Hp→Prop:=
 aa (ah .lss x13 x12) λb=>
 aB b (
 aJ 1 x11 x13 λc=>
 al w0 c λd=>
 aa (ah .shl x5 (.int .u64 8)) λe=>
 aa (bG .u64 d) λg=>
 aa (ah .or e g) λi=>
 aa (ah .add x13 (.int .i64 1)) λj=>
 R i x11 x12 j) (
 k0 x5)
def nK(P:Program)(w0:World)(k0:Ko1):Nat→Value→Value→Value→Value→Hp→Prop
 |0,_,_,_,_=>λ_=>False
 |m+1,x5,x11,x12,x13=>ul P w0 (nK P w0 k0 m) k0 x5 x11 x12 x13
def DC(k0:Ko1)(x5 x11 x12 x13:Value):Hp→Prop:=λh=>∃m,nK P w0 k0 m x5 x11 x12 x13 h
def JI(a0 a1:Value)(R:av):Hp→Prop:=
 am P w0 jX [a0,a1] λc=>
 pJ c λb=>
 aa (aM b) λd=>
 DC P w0 (λe=>
 ar [e] R) (.int .u64 0) b d (.int .i64 0)
def DD(w0:World)(k0:Ko1)(m:Nat)(x5 x11 x12 x13:Value):Hp→Prop:=bJ (stepL ⟨prog,w0,24,GG⟩ (drw w0 24) (bQ FB 0)) m (bK [(5,x5),(11,x11),(12,x12),(13,x13)]) [λt=>k0 (t 5)]
theorem QE(w0:World)(k0:Ko1):∀m,DD w0 k0 m=nK prog w0 k0 m:=by
 intro m
 induction m with
 |zero=>kernel_rfl
 |succ m ih=>
  show _=λx5 x11 x12 x13=>ul prog w0 (nK prog w0 k0 m) k0 x5 x11 x12 x13
  rw[←ih]
  kernel_rfl
theorem QD(w0:World):DC prog w0=λk0 x5 x11 x12 x13 h=>∃m,DD w0 k0 m x5 x11 x12 x13 h:=by
 funext k0 x5 x11 x12 x13 h
 simp only[QE]
 rfl
theorem Oe{w0:World}{a0 a1:Value}(hj:∀v,v∈[a0,a1]→v≠junk)(hv:JI prog w0 a0 a1 R h):aj prog w0 vO [a0,a1] h R:=
 aI FB GG 24 (by kernel_rfl) (by kernel_rfl) (by simp) hj (by
  unfold JI
  rw[QD w0]
  kernel_rfl) hv
abbrev FE:Func:=f148
def GJ:List (Nat×List Nat×List Nat):=[(2,[0,2,3,4,8,9],[2,3,4])]
def nM(P:Program)(w0:World)(R:Ko6)(k0 kr:Ko3)(x0 x2 x3 x4 x8 x9:Value):Hp→Prop:=
 aa (ah .lss x9 x8) λg=>
 aB g (
 aa (dR x0 x9) λb=>
 aa (ah .eql x9 (.int .i64 9)) λc=>
 ai c true (λK=>K b) λi=>
 ai c true (aa (ah .neq i (.int .u8 1))) λj=>
 aQ c j (.bool false) λl=>
 aB l (
 kr (.int .u64 0) (.int .i64 0) (.int .i64 21)) (
 aa (ah .and b (.int .u8 127)) λo=>
 aa (bG .u64 o) λs=>
 aa (ah .mul (.int .i64 7) x9) λu=>
 aa (ah .shl s u) λv=>
 aa (ah .or x2 v) λe=>
 aa (ah .lss b (.int .u8 128)) λz=>
 aB z (
 aa (ah .eql b (.int .u8 0)) λd=>
 ai d true (λK=>K x9) λba=>
 ai d true (aa (ah .gtr ba (.int .i64 0))) λbb=>
 aQ d bb (.bool false) λbc=>
 aB bc (
 kr (.int .u64 0) (.int .i64 0) (.int .i64 21)) (
 aa (ah .add x9 (.int .i64 1)) λbd=>
 kr e bd (.int .i64 0))) (
 aa (ah .add x9 (.int .i64 1)) λbe=>
 R x0 e x3 x4 x8 be))) (
 k0 x2 x3 x4)
def lr(P:Program)(w0:World)(k0 kr:Ko3):Nat→Value→Value→Value→Value→Value→Value→Hp→Prop
 |0,_,_,_,_,_,_=>λ_=>False
 |m+1,x0,x2,x3,x4,x8,x9=>nM P w0 (lr P w0 k0 kr m) k0 kr x0 x2 x3 x4 x8 x9
def DG(k0 kr:Ko3)(x0 x2 x3 x4 x8 x9:Value):Hp→Prop:=λh=>∃m,lr P w0 k0 kr m x0 x2 x3 x4 x8 x9 h
def B8(a0:Value)(R:av):Hp→Prop:=
 aa (cD a0) λb=>
 DG P w0 (λg i j=>
 ar [(.int .u64 0),(.int .i64 0),(.int .i64 20)] R) (λc d e=>
 ar [c,d,e] R) a0 (.int .u64 0) (.int .i64 0) (.int .i64 0) b (.int .i64 0)
def DH(w0:World)(k0 kr:Ko3)(m:Nat)(x0 x2 x3 x4 x8 x9:Value):Hp→Prop:=bJ (stepL ⟨prog,w0,41,GJ⟩ (drw w0 41) (bQ FE 0)) m (bK [(0,x0),(2,x2),(3,x3),(4,x4),(8,x8),(9,x9)]) [λt=>k0 (t 2) (t 3) (t 4),λt=>kr (t 2) (t 3) (t 4)]
theorem QL(w0:World)(k0 kr:Ko3):∀m,DH w0 k0 kr m=lr prog w0 k0 kr m:=by
 intro m
 induction m with
 |zero=>kernel_rfl
 |succ m ih=>
  show _=λx0 x2 x3 x4 x8 x9=>nM prog w0 (lr prog w0 k0 kr m) k0 kr x0 x2 x3 x4 x8 x9
  rw[←ih]
  kernel_rfl
theorem QK(w0:World):DG prog w0=λk0 kr x0 x2 x3 x4 x8 x9 h=>∃m,DH w0 k0 kr m x0 x2 x3 x4 x8 x9 h:=by
 funext k0 kr x0 x2 x3 x4 x8 x9 h
 simp only[QL]
 rfl
theorem Ot{w0:World}{a0:Value}(hj:∀v,v∈[a0]→v≠junk)(hv:B8 prog w0 a0 R h):aj prog w0 Aj [a0] h R:=
 aI FE GJ 41 (by kernel_rfl) (by kernel_rfl) (by simp) hj (by
  unfold B8
  rw[QK w0]
  kernel_rfl) hv
abbrev FD:Func:=f149
def GI:List (Nat×List Nat×List Nat):=[(2,[0,1,2,6,11,12],[0,6])]
def yF(P:Program)(w0:World)(R:Ko6)(k0:Ko2)(x0 x1 x2 x6 x11 x12:Value):Hp→Prop:=
 aa (ah .lss x12 x11) λb=>
 aB b (
 aa (ah .sub x2 (.int .i64 1)) λc=>
 aa (ah .sub c x12) λd=>
 aJ 1 x6 d λe=>
 bO w0 e x1 λ_=>
 aa (ah .shr x1 (.int .u64 4)) λg=>
 aa (ah .shr g (.int .u64 4)) λi=>
 aa (ah .add x12 (.int .i64 1)) λj=>
 R x0 i x2 x6 x11 j) (
 k0 x0 x6)
def rM(P:Program)(w0:World)(k0:Ko2):Nat→Value→Value→Value→Value→Value→Value→Hp→Prop
 |0,_,_,_,_,_,_=>λ_=>False
 |m+1,x0,x1,x2,x6,x11,x12=>yF P w0 (rM P w0 k0 m) k0 x0 x1 x2 x6 x11 x12
def yG(k0:Ko2)(x0 x1 x2 x6 x11 x12:Value):Hp→Prop:=λh=>∃m,rM P w0 k0 m x0 x1 x2 x6 x11 x12 h
def xj(a0 a1 a2:Value)(R:av):Hp→Prop:=
 mkA 1 1 [(.int .u8 0)] a2 a2 λb=>
 aa (aM b) λc=>
 yG P w0 (λd e=>
 am P w0 mU [d,e] λg=>
 ar [] R) a0 a1 a2 b c (.int .i64 0)
def DF(w0:World)(k0:Ko2)(m:Nat)(x0 x1 x2 x6 x11 x12:Value):Hp→Prop:=bJ (stepL ⟨prog,w0,30,GI⟩ (drw w0 30) (bQ FD 0)) m (bK [(0,x0),(1,x1),(2,x2),(6,x6),(11,x11),(12,x12)]) [λt=>k0 (t 0) (t 6)]
theorem QJ(w0:World)(k0:Ko2):∀m,DF w0 k0 m=rM prog w0 k0 m:=by
 intro m
 induction m with
 |zero=>kernel_rfl
 |succ m ih=>
  show _=λx0 x1 x2 x6 x11 x12=>yF prog w0 (rM prog w0 k0 m) k0 x0 x1 x2 x6 x11 x12
  rw[←ih]
  kernel_rfl
theorem QH(w0:World):yG prog w0=λk0 x0 x1 x2 x6 x11 x12 h=>∃m,DF w0 k0 m x0 x1 x2 x6 x11 x12 h:=by
 funext k0 x0 x1 x2 x6 x11 x12 h
 simp only[QJ]
 rfl
theorem Oq{w0:World}{a0 a1 a2:Value}(hj:∀v,v∈[a0,a1,a2]→v≠junk)(hv:xj prog w0 a0 a1 a2 R h):aj prog w0 Ip [a0,a1,a2] h R:=
 aI FD GI 30 (by kernel_rfl) (by kernel_rfl) (by simp) hj (by
  unfold xj
  rw[QH w0]
  kernel_rfl) hv
abbrev FC:Func:=f150
def GH:List (Nat×List Nat×List Nat):=[(2,[0,1,2,6,11,12],[0,6])]
def uo(P:Program)(w0:World)(R:Ko6)(k0:Ko2)(x0 x1 x2 x6 x11 x12:Value):Hp→Prop:=
 aa (ah .lss x12 x11) λb=>
 aB b (
 aa (ah .sub x2 (.int .i64 1)) λc=>
 aa (ah .sub c x12) λd=>
 aa (bG .u8 x1) λe=>
 aJ 1 x6 d λg=>
 bO w0 g e λ_=>
 aa (ah .shr x1 (.int .u64 4)) λi=>
 aa (ah .shr i (.int .u64 4)) λj=>
 aa (ah .add x12 (.int .i64 1)) λl=>
 R x0 j x2 x6 x11 l) (
 k0 x0 x6)
def nL(P:Program)(w0:World)(k0:Ko2):Nat→Value→Value→Value→Value→Value→Value→Hp→Prop
 |0,_,_,_,_,_,_=>λ_=>False
 |m+1,x0,x1,x2,x6,x11,x12=>uo P w0 (nL P w0 k0 m) k0 x0 x1 x2 x6 x11 x12
def yE(k0:Ko2)(x0 x1 x2 x6 x11 x12:Value):Hp→Prop:=λh=>∃m,nL P w0 k0 m x0 x1 x2 x6 x11 x12 h
def xi(a0 a1 a2:Value)(R:av):Hp→Prop:=
 mkA 1 1 [(.int .u8 0)] a2 a2 λb=>
 aa (aM b) λc=>
 yE P w0 (λd e=>
 am P w0 mU [d,e] λg=>
 ar [] R) a0 a1 a2 b c (.int .i64 0)
def DE(w0:World)(k0:Ko2)(m:Nat)(x0 x1 x2 x6 x11 x12:Value):Hp→Prop:=bJ (stepL ⟨prog,w0,31,GH⟩ (drw w0 31) (bQ FC 0)) m (bK [(0,x0),(1,x1),(2,x2),(6,x6),(11,x11),(12,x12)]) [λt=>k0 (t 0) (t 6)]
theorem QG(w0:World)(k0:Ko2):∀m,DE w0 k0 m=nL prog w0 k0 m:=by
 intro m
 induction m with
 |zero=>kernel_rfl
 |succ m ih=>
  show _=λx0 x1 x2 x6 x11 x12=>uo prog w0 (nL prog w0 k0 m) k0 x0 x1 x2 x6 x11 x12
  rw[←ih]
  kernel_rfl
theorem QF(w0:World):yE prog w0=λk0 x0 x1 x2 x6 x11 x12 h=>∃m,DE w0 k0 m x0 x1 x2 x6 x11 x12 h:=by
 funext k0 x0 x1 x2 x6 x11 x12 h
 simp only[QG]
 rfl
theorem Oo{w0:World}{a0 a1 a2:Value}(hj:∀v,v∈[a0,a1,a2]→v≠junk)(hv:xi prog w0 a0 a1 a2 R h):aj prog w0 Io [a0,a1,a2] h R:=
 aI FC GH 31 (by kernel_rfl) (by kernel_rfl) (by simp) hj (by
  unfold xi
  rw[QF w0]
  kernel_rfl) hv
abbrev T3:Func:=f159
def VZ:List (Nat×List Nat×List Nat):=[]
def ab4(a0:Value)(R:av):Hp→Prop:=
 am P w0 jY [a0] λc=>
 aa (cN .eql a0 (.pointer none)) λb=>
 ai b false (λK=>K a0) λd=>
 ai b false (aF d) λe=>
 ai b false (au e 1) λg=>
 ai b false (al w0 g) λi=>
 ai b false (aa (ah .neq i (.int .i64 0))) λj=>
 aQ b (.bool true) j λl=>
 aB l (
 ar [(.string .empty)] R) (
 aF a0 λo=>
 au o 0 λs=>
 al w0 s λu=>
 aa (cD u) λv=>
 aa (bG .u64 v) λz=>
 aa (ah .gtr c z) λba=>
 aB ba (
 am P w0 qH [a0,(.int .i64 20)] λbb=>
 ar [bb] R) (
 aa (bG .i64 c) λbc=>
 am P w0 jX [a0,bc] λbd=>
 ar [bd] R))
theorem NZ{w0:World}{a0:Value}(hj:∀v,v∈[a0]→v≠junk)(hv:ab4 prog w0 a0 R h):aj prog w0 Af [a0] h R:=
 aI T3 VZ 29 (by kernel_rfl) (by kernel_rfl) (by simp) hj (by
  kernel_rfl) hv
abbrev Tx:Func:=f171
def VX:List (Nat×List Nat×List Nat):=[]
def JE(P:Program)(w0:World)(a0:Value)(R:av):Hp→Prop:=
 aa (cN .eql a0 (.pointer none)) λb=>
 ai b false (λK=>K a0) λc=>
 ai b false (aF c) λd=>
 ai b false (au d 1) λe=>
 ai b false (al w0 e) λg=>
 ai b false (aa (ah .neq g (.int .i64 0))) λi=>
 aQ b (.bool true) i λj=>
 aB j (
 ar [(.int .i64 0)] R) (
 aF a0 λl=>
 au l 0 λo=>
 al w0 o λs=>
 aa (cD s) λu=>
 ar [u] R)
theorem NX{w0:World}{a0:Value}(hj:∀v,v∈[a0]→v≠junk)(hv:JE prog w0 a0 R h):aj prog w0 Ae [a0] h R:=
 aI Tx VX 17 (by kernel_rfl) (by kernel_rfl) (by simp) hj (by
  kernel_rfl) hv
end
