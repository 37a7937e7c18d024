/- PRINTED by wip/tools/shallow.py: functions of the program as readable words, and that each is what its text says. -/
import Derived.Test.YtfmoemconapmhaaGreatGn
set_option linter.all false
namespace Go.Proofs.YtfmoemconapmhaaGreat.Ah
open Go Go.Proofs.Tryz
noncomputable section
variable (P:Program)(w0:World){h:Hp}{R:av}
abbrev TN:Func:=f63
def Wt:List (Nat×List Nat×List Nat):=[]
def BE(a0:Value)(R:av):Hp→Prop:=
 aa (cD a0) λg=>
 aa (ah .lss g (.int .i64 8)) λi=>
 aB i (
 ar [(.int .u8 0),(.string .empty),(.int .i64 0),(.int .i64 20)] R) (
 aa (dD a0 (some (.int .i64 4)) (some (.int .i64 8))) λj=>
 am P w0 qJ [j] λe=>
 aa (dD a0 none (some (.int .i64 2))) λl=>
 aa (ah .neq l (.string ⟨#[68,70]⟩)) λc=>
 ai c false (λK=>K a0) λo=>
 ai c false (aa (dR o (.int .i64 3))) λs=>
 ai c false (aa (ah .neq s (.int .u8 0))) λu=>
 aQ c (.bool true) u λd=>
 ai d false (λK=>K e) λv=>
 ai d false (aa (ah .gtr v (.int .u64 1048576))) λz=>
 aQ d (.bool true) z λba=>
 aB ba (
 ar [(.int .u8 0),(.string .empty),(.int .i64 0),(.int .i64 21)] R) (
 aa (bG .i64 e) λbb=>
 aa (ah .add (.int .i64 12) bb) λb=>
 aa (cD a0) λbc=>
 aa (ah .lss bc b) λbd=>
 aB bd (
 ar [(.int .u8 0),(.string .empty),(.int .i64 0),(.int .i64 20)] R) (
 af (λK=>K a0) λbe=>
 af (λK=>K b) λbf=>
 af (aa (ah .sub bf (.int .i64 4))) λbg=>
 af (λK=>K b) λbh=>
 af (aa (dD be (some bg) (some bh))) λbi=>
 af (λK=>K a0) λbj=>
 af (λK=>K b) λbk=>
 af (aa (ah .sub bk (.int .i64 4))) λbl=>
 af (aa (dD bj none (some bl))) λbm=>
 aO [
 (am P w0 qJ [bi] λbn=>
 aP [] (
 aO [
 (am P w0 lK [bm] λbo=>
 aP [] (
 af (aa (bG .u64 bo)) λbp=>
 af (aa (ah .neq bn bp)) λbq=>
 bN (
 aB bq (
 ar [(.int .u8 0),(.string .empty),(.int .i64 0),(.int .i64 23)] R) (
 af (λK=>K a0) λbr=>
 af (aa (dR br (.int .i64 2))) λbs=>
 af (λK=>K a0) λbt=>
 af (λK=>K b) λbu=>
 af (aa (ah .sub bu (.int .i64 4))) λbv=>
 af (aa (dD bt (some (.int .i64 8)) (some bv))) λbw=>
 af (λK=>K b) λbx=>
 af (λK=>K bs) λbz=>
 af (λK=>K bw) λca=>
 af (λK=>K bx) λcb=>
 af (λK=>K (.int .i64 0)) λcc=>
 bN (
 ar [bz,ca,cb,cc] R)))))]))])))
theorem O9{w0:World}{a0:Value}(hj:∀v,v∈[a0]→v≠junk)(hv:BE prog w0 a0 R h):aj prog w0 Ap [a0] h R:=
 aI TN Wt 53 (by kernel_rfl) (by kernel_rfl) (by simp) hj (by
  kernel_rfl) hv
abbrev zf:Func:=f64
def zH:List (Nat×List Nat×List Nat):=[(2,[0,2,3,4,5],[2,3,4]),(13,[0,5,6,7],[5,6])]
def uz(P:Program)(w0:World)(R:Ko4)(k2:Ko2)(x0 x5 x6 x7:Value):Hp→Prop:=
 aa (ah .geq x7 (.int .i64 0)) λb=>
 aB b (
 aa (ah .mul x6 (.int .u64 128)) λc=>
 aa (dR x0 x7) λd=>
 aa (ah .rem d (.int .u8 128)) λe=>
 aa (bG .u64 e) λg=>
 aa (ah .add c g) λi=>
 aa (ah .sub x7 (.int .i64 1)) λj=>
 R x0 x5 i j) (
 k2 x5 x6)
def nZ(P:Program)(w0:World)(k2:Ko2):Nat→Value→Value→Value→Value→Hp→Prop
 |0,_,_,_,_=>λ_=>False
 |m+1,x0,x5,x6,x7=>uz P w0 (nZ P w0 k2 m) k2 x0 x5 x6 x7
def Eg(k2:Ko2)(x0 x5 x6 x7:Value):Hp→Prop:=λh=>∃m,nZ P w0 k2 m x0 x5 x6 x7 h
def rT(R:Ko5)(k0 kr:Ko3)(x0 x2 x3 x4 x5:Value):Hp→Prop:=
 aa (ah .lss x5 (.int .i64 10)) λd=>
 aB d (
 aa (cD x0) λe=>
 aa (ah .geq x5 e) λg=>
 aB g (
 kr (.int .u64 0) (.int .i64 0) (.int .i64 20)) (
 aa (ah .eql x5 (.int .i64 9)) λb=>
 ai b true (λK=>K x0) λi=>
 ai b true (aa (dR i (.int .i64 9))) λj=>
 ai b true (aa (ah .gtr j (.int .u8 1))) λl=>
 aQ b l (.bool false) λo=>
 aB o (
 kr (.int .u64 0) (.int .i64 0) (.int .i64 21)) (
 aa (dR x0 x5) λs=>
 aa (ah .geq s (.int .u8 128)) λu=>
 aB u (
 aa (ah .add x5 (.int .i64 1)) λv=>
 R x0 x2 x3 x4 v) (
 aa (dR x0 x5) λz=>
 aa (ah .eql z (.int .u8 0)) λc=>
 ai c true (λK=>K x5) λba=>
 ai c true (aa (ah .gtr ba (.int .i64 0))) λbb=>
 aQ c bb (.bool false) λbc=>
 aB bc (
 kr (.int .u64 0) (.int .i64 0) (.int .i64 21)) (
 Eg P w0 (λbd be=>
 aa (ah .add bd (.int .i64 1)) λbf=>
 kr be bf (.int .i64 0)) x0 x5 (.int .u64 0) x5))))) (
 k0 x2 x3 x4)
def nY(P:Program)(w0:World)(k0 kr:Ko3):Nat→Value→Value→Value→Value→Value→Hp→Prop
 |0,_,_,_,_,_=>λ_=>False
 |m+1,x0,x2,x3,x4,x5=>rT P w0 (nY P w0 k0 kr m) k0 kr x0 x2 x3 x4 x5
def Ef(k0 kr:Ko3)(x0 x2 x3 x4 x5:Value):Hp→Prop:=λh=>∃m,nY P w0 k0 kr m x0 x2 x3 x4 x5 h
def JV(a0:Value)(R:av):Hp→Prop:=
 Ef P w0 (λe g i=>
 ar [(.int .u64 0),(.int .i64 0),(.int .i64 21)] R) (λb c d=>
 ar [b,c,d] R) a0 (.int .u64 0) (.int .i64 0) (.int .i64 0) (.int .i64 0)
def Ei(w0:World)(k2:Ko2)(m:Nat)(x0 x5 x6 x7:Value):Hp→Prop:=bJ (stepL ⟨prog,w0,51,zH⟩ (drw w0 51) (bQ zf 1)) m (bK [(0,x0),(5,x5),(6,x6),(7,x7)]) [λt=>k2 (t 5) (t 6)]
theorem Rt(w0:World)(k2:Ko2):∀m,Ei w0 k2 m=nZ prog w0 k2 m:=by
 intro m
 induction m with
 |zero=>kernel_rfl
 |succ m ih=>
  show _=λx0 x5 x6 x7=>uz prog w0 (nZ prog w0 k2 m) k2 x0 x5 x6 x7
  rw[←ih]
  kernel_rfl
theorem Rr(w0:World):Eg prog w0=λk2 x0 x5 x6 x7 h=>∃m,Ei w0 k2 m x0 x5 x6 x7 h:=by
 funext k2 x0 x5 x6 x7 h
 simp only[Rt]
 rfl
def Eh(w0:World)(k0 kr:Ko3)(m:Nat)(x0 x2 x3 x4 x5:Value):Hp→Prop:=bJ (stepL ⟨prog,w0,51,zH⟩ (drw w0 51) (bQ zf 0)) m (bK [(0,x0),(2,x2),(3,x3),(4,x4),(5,x5)]) [λt=>k0 (t 2) (t 3) (t 4),λt=>kr (t 2) (t 3) (t 4)]
theorem Rs(w0:World)(k0 kr:Ko3):∀m,Eh w0 k0 kr m=nY prog w0 k0 kr m:=by
 intro m
 induction m with
 |zero=>kernel_rfl
 |succ m ih=>
  show _=λx0 x2 x3 x4 x5=>rT prog w0 (nY prog w0 k0 kr m) k0 kr x0 x2 x3 x4 x5
  rw[←ih]
  unfold rT
  rw[Rr w0]
  kernel_rfl
theorem Rq(w0:World):Ef prog w0=λk0 kr x0 x2 x3 x4 x5 h=>∃m,Eh w0 k0 kr m x0 x2 x3 x4 x5 h:=by
 funext k0 kr x0 x2 x3 x4 x5 h
 simp only[Rs]
 rfl
theorem O7{w0:World}{a0:Value}(hj:∀v,v∈[a0]→v≠junk)(hv:JV prog w0 a0 R h):aj prog w0 qK [a0] h R:=
 aI zf zH 51 (by kernel_rfl) (by kernel_rfl) (by simp) hj (by
  unfold JV
  rw[Rq w0]
  kernel_rfl) hv
abbrev FN:Func:=f67
def GQ:List (Nat×List Nat×List Nat):=[(2,[0,3],[0,3])]
def u6(P:Program)(w0:World)(R k0:Ko2)(x0 x3:Value):Hp→Prop:=
 aa (ah .geq x0 (.int .u64 128)) λb=>
 aB b (
 aa (ah .rem x0 (.int .u64 128)) λc=>
 aa (bG .u8 c) λd=>
 aa (ah .add d (.int .u8 128)) λe=>
 bI [(0,1,false,e)] (aL [(.int .u8 0)] 1) 1 1 λg=>
 bD w0 1 1 x3 g λi=>
 aa (ah .quo x0 (.int .u64 128)) λj=>
 R j i) (
 k0 x0 x3)
def oe(P:Program)(w0:World)(k0:Ko2):Nat→Value→Value→Hp→Prop
 |0,_,_=>λ_=>False
 |m+1,x0,x3=>u6 P w0 (oe P w0 k0 m) k0 x0 x3
def El(k0:Ko2)(x0 x3:Value):Hp→Prop:=λh=>∃m,oe P w0 k0 m x0 x3 h
def JX(a0:Value)(R:av):Hp→Prop:=
 El P w0 (λb c=>
 aa (bG .u8 b) λd=>
 bI [(0,1,false,d)] (aL [(.int .u8 0)] 1) 1 1 λe=>
 bD w0 1 1 c e λg=>
 dW w0 g λi=>
 ar [i] R) a0 (.slice none 0 0)
def Em(w0:World)(k0:Ko2)(m:Nat)(x0 x3:Value):Hp→Prop:=bJ (stepL ⟨prog,w0,21,GQ⟩ (drw w0 21) (bQ FN 0)) m (bK [(0,x0),(3,x3)]) [λt=>k0 (t 0) (t 3)]
theorem Ry(w0:World)(k0:Ko2):∀m,Em w0 k0 m=oe prog w0 k0 m:=by
 intro m
 induction m with
 |zero=>kernel_rfl
 |succ m ih=>
  show _=λx0 x3=>u6 prog w0 (oe prog w0 k0 m) k0 x0 x3
  rw[←ih]
  kernel_rfl
theorem Rx(w0:World):El prog w0=λk0 x0 x3 h=>∃m,Em w0 k0 m x0 x3 h:=by
 funext k0 x0 x3 h
 simp only[Ry]
 rfl
theorem OA{w0:World}{a0:Value}(hj:∀v,v∈[a0]→v≠junk)(hv:JX prog w0 a0 R h):aj prog w0 lL [a0] h R:=
 aI FN GQ 21 (by kernel_rfl) (by kernel_rfl) (by simp) hj (by
  unfold JX
  rw[Rx w0]
  kernel_rfl) hv
abbrev ze:Func:=f68
def zG:List (Nat×List Nat×List Nat):=[(3,[0,3,4],[3]),(7,[0,3,4,5],[0,3,4])]
def rS(P:Program)(w0:World)(R:Ko4)(k2:Ko3)(x0 x3 x4 x5:Value):Hp→Prop:=
 aa (ah .lss x5 (.int .i64 8)) λb=>
 aB b (
 aa (ah .rem x3 (.int .u32 2)) λc=>
 aa (ah .eql c (.int .u32 1)) λd=>
 aB d (
 aa (ah .quo x3 (.int .u32 2)) λe=>
 aa (ah .xor e (.int .u32 2197175160)) λg=>
 aa (ah .add x5 (.int .i64 1)) λi=>
 R x0 g x4 i) (
 aa (ah .quo x3 (.int .u32 2)) λj=>
 aa (ah .add x5 (.int .i64 1)) λl=>
 R x0 j x4 l)) (
 k2 x0 x3 x4)
def nW(P:Program)(w0:World)(k2:Ko3):Nat→Value→Value→Value→Value→Hp→Prop
 |0,_,_,_,_=>λ_=>False
 |m+1,x0,x3,x4,x5=>rS P w0 (nW P w0 k2 m) k2 x0 x3 x4 x5
def Ea(k2:Ko3)(x0 x3 x4 x5:Value):Hp→Prop:=λh=>∃m,nW P w0 k2 m x0 x3 x4 x5 h
def rR(R:Ko3)(k0:Ko1)(x0 x3 x4:Value):Hp→Prop:=
 aa (cD x0) λb=>
 aa (ah .lss x4 b) λc=>
 aB c (
 aa (dR x0 x4) λd=>
 aa (bG .u32 d) λe=>
 aa (ah .xor x3 e) λg=>
 Ea P w0 (λi j l=>
 aa (ah .add l (.int .i64 1)) λo=>
 R i j o) x0 g x4 (.int .i64 0)) (
 k0 x3)
def nV(P:Program)(w0:World)(k0:Ko1):Nat→Value→Value→Value→Hp→Prop
 |0,_,_,_=>λ_=>False
 |m+1,x0,x3,x4=>rR P w0 (nV P w0 k0 m) k0 x0 x3 x4
def DZ(k0:Ko1)(x0 x3 x4:Value):Hp→Prop:=λh=>∃m,nV P w0 k0 m x0 x3 x4 h
def JS(a0:Value)(R:av):Hp→Prop:=
 DZ P w0 (λb=>
 aa (ah .xor b (.int .u32 4294967295)) λc=>
 ar [c] R) a0 (.int .u32 4294967295) (.int .i64 0)
def Ec(w0:World)(k2:Ko3)(m:Nat)(x0 x3 x4 x5:Value):Hp→Prop:=bJ (stepL ⟨prog,w0,32,zG⟩ (drw w0 32) (bQ ze 1)) m (bK [(0,x0),(3,x3),(4,x4),(5,x5)]) [λt=>k2 (t 0) (t 3) (t 4)]
theorem Rm(w0:World)(k2:Ko3):∀m,Ec w0 k2 m=nW prog w0 k2 m:=by
 intro m
 induction m with
 |zero=>kernel_rfl
 |succ m ih=>
  show _=λx0 x3 x4 x5=>rS prog w0 (nW prog w0 k2 m) k2 x0 x3 x4 x5
  rw[←ih]
  kernel_rfl
theorem Rk(w0:World):Ea prog w0=λk2 x0 x3 x4 x5 h=>∃m,Ec w0 k2 m x0 x3 x4 x5 h:=by
 funext k2 x0 x3 x4 x5 h
 simp only[Rm]
 rfl
def Eb(w0:World)(k0:Ko1)(m:Nat)(x0 x3 x4:Value):Hp→Prop:=bJ (stepL ⟨prog,w0,32,zG⟩ (drw w0 32) (bQ ze 0)) m (bK [(0,x0),(3,x3),(4,x4)]) [λt=>k0 (t 3)]
theorem Rl(w0:World)(k0:Ko1):∀m,Eb w0 k0 m=nV prog w0 k0 m:=by
 intro m
 induction m with
 |zero=>kernel_rfl
 |succ m ih=>
  show _=λx0 x3 x4=>rR prog w0 (nV prog w0 k0 m) k0 x0 x3 x4
  rw[←ih]
  unfold rR
  rw[Rk w0]
  kernel_rfl
theorem Rj(w0:World):DZ prog w0=λk0 x0 x3 x4 h=>∃m,Eb w0 k0 m x0 x3 x4 h:=by
 funext k0 x0 x3 x4 h
 simp only[Rl]
 rfl
theorem O3{w0:World}{a0:Value}(hj:∀v,v∈[a0]→v≠junk)(hv:JS prog w0 a0 R h):aj prog w0 lK [a0] h R:=
 aI ze zG 32 (by kernel_rfl) (by kernel_rfl) (by simp) hj (by
  unfold JS
  rw[Rj w0]
  kernel_rfl) hv
abbrev TL:Func:=f69
def Wq:List (Nat×List Nat×List Nat):=[]
def JT(a0 a1:Value)(R:av):Hp→Prop:=
 aa (cD a1) λl=>
 aa (ah .gtr l (.int .i64 1048576)) λo=>
 aB o (
 ar [(.string .empty),(.int .i64 3)] R) (
 af (λK=>K a0) λb=>
 af (λK=>K a1) λs=>
 af (aa (cD s)) λu=>
 af (aa (bG .u64 u)) λc=>
 af (λK=>K a1) λd=>
 aO [
 (bI [(0,1,false,b),(1,1,false,(.int .u8 0))] (aL [(.int .u8 0)] 2) 2 1 λe=>
 aP [] (
 aD (dW w0 e) λg=>
 af (aa (ah .add (.string ⟨#[68,70]⟩) g)) λv=>
 aO [
 (am P w0 jo [c,(.int .i64 4)] λz=>
 aP [(bZ (dW w0 e) g)] (
 af (aa (ah .add v z)) λba=>
 af (aa (ah .add ba d)) λbb=>
 af (λK=>K bb) λi=>
 bN (
 am P w0 lK [i] λbc=>
 aa (bG .u64 bc) λbd=>
 am P w0 jo [bd,(.int .i64 4)] λbe=>
 aa (ah .add i be) λbf=>
 ar [bf,(.int .i64 0)] R)))])),
 (am P w0 jo [c,(.int .i64 4)] λbg=>
 aP [] (
 aO [
 (bI [(0,1,false,b),(1,1,false,(.int .u8 0))] (aL [(.int .u8 0)] 2) 2 1 λbh=>
 aP [] (
 aD (dW w0 bh) λbi=>
 af (aa (ah .add (.string ⟨#[68,70]⟩) bi)) λbj=>
 af (aa (ah .add bj bg)) λbk=>
 af (aa (ah .add bk d)) λbl=>
 af (λK=>K bl) λj=>
 bN (
 am P w0 lK [j] λbm=>
 aa (bG .u64 bm) λbn=>
 am P w0 jo [bn,(.int .i64 4)] λbo=>
 aa (ah .add j bo) λbp=>
 ar [bp,(.int .i64 0)] R)))]))])
theorem O4{w0:World}{a0 a1:Value}(hj:∀v,v∈[a0,a1]→v≠junk)(hv:JT prog w0 a0 a1 R h):aj prog w0 sQ [a0,a1] h R:=
 aI TL Wq 27 (by kernel_rfl) (by kernel_rfl) (by simp) hj (by
  kernel_rfl) hv
abbrev FL:Func:=f117
def GP:List (Nat×List Nat×List Nat):=[(3,[0,3,4],[3])]
def u0(P:Program)(w0:World)(R:Ko3)(k0:Ko1)(x0 x3 x4:Value):Hp→Prop:=
 aa (cD x0) λb=>
 aa (ah .lss x4 b) λc=>
 aB c (
 aa (ah .mul x3 (.int .u64 256)) λd=>
 aa (dR x0 x4) λe=>
 aa (bG .u64 e) λg=>
 aa (ah .add d g) λi=>
 aa (ah .add x4 (.int .i64 1)) λj=>
 R x0 i j) (
 k0 x3)
def od(P:Program)(w0:World)(k0:Ko1):Nat→Value→Value→Value→Hp→Prop
 |0,_,_,_=>λ_=>False
 |m+1,x0,x3,x4=>u0 P w0 (od P w0 k0 m) k0 x0 x3 x4
def Ej(k0:Ko1)(x0 x3 x4:Value):Hp→Prop:=λh=>∃m,od P w0 k0 m x0 x3 x4 h
def JU(a0:Value)(R:av):Hp→Prop:=
 Ej P w0 (λb=>
 ar [b] R) a0 (.int .u64 0) (.int .i64 0)
def Ek(w0:World)(k0:Ko1)(m:Nat)(x0 x3 x4:Value):Hp→Prop:=bJ (stepL ⟨prog,w0,19,GP⟩ (drw w0 19) (bQ FL 0)) m (bK [(0,x0),(3,x3),(4,x4)]) [λt=>k0 (t 3)]
theorem Rw(w0:World)(k0:Ko1):∀m,Ek w0 k0 m=od prog w0 k0 m:=by
 intro m
 induction m with
 |zero=>kernel_rfl
 |succ m ih=>
  show _=λx0 x3 x4=>u0 prog w0 (od prog w0 k0 m) k0 x0 x3 x4
  rw[←ih]
  kernel_rfl
theorem Ru(w0:World):Ej prog w0=λk0 x0 x3 x4 h=>∃m,Ek w0 k0 m x0 x3 x4 h:=by
 funext k0 x0 x3 x4 h
 simp only[Rw]
 rfl
theorem O6{w0:World}{a0:Value}(hj:∀v,v∈[a0]→v≠junk)(hv:JU prog w0 a0 R h):aj prog w0 qJ [a0] h R:=
 aI FL GP 19 (by kernel_rfl) (by kernel_rfl) (by simp) hj (by
  unfold JU
  rw[Ru w0]
  kernel_rfl) hv
abbrev FK:Func:=f120
def GO:List (Nat×List Nat×List Nat):=[(3,[0,5,6],[5])]
def uy(P:Program)(w0:World)(R:Ko3)(k0:Ko1)(x0 x5 x6:Value):Hp→Prop:=
 aa (ah .geq x6 (.int .i64 0)) λb=>
 aB b (
 aa (ah .mul (.int .i64 8) x6) λc=>
 aa (ah .shr x0 c) λd=>
 aa (bG .u8 d) λe=>
 bI [(0,1,false,e)] (aL [(.int .u8 0)] 1) 1 1 λg=>
 bD w0 1 1 x5 g λi=>
 aa (ah .sub x6 (.int .i64 1)) λj=>
 R x0 i j) (
 k0 x5)
def nX(P:Program)(w0:World)(k0:Ko1):Nat→Value→Value→Value→Hp→Prop
 |0,_,_,_=>λ_=>False
 |m+1,x0,x5,x6=>uy P w0 (nX P w0 k0 m) k0 x0 x5 x6
def Ed(k0:Ko1)(x0 x5 x6:Value):Hp→Prop:=λh=>∃m,nX P w0 k0 m x0 x5 x6 h
def BD(a0 a1:Value)(R:av):Hp→Prop:=
 aa (ah .sub a1 (.int .i64 1)) λb=>
 Ed P w0 (λc=>
 dW w0 c λd=>
 ar [d] R) a0 (.slice none 0 0) b
def Ee(w0:World)(k0:Ko1)(m:Nat)(x0 x5 x6:Value):Hp→Prop:=bJ (stepL ⟨prog,w0,23,GO⟩ (drw w0 23) (bQ FK 0)) m (bK [(0,x0),(5,x5),(6,x6)]) [λt=>k0 (t 5)]
theorem Rp(w0:World)(k0:Ko1):∀m,Ee w0 k0 m=nX prog w0 k0 m:=by
 intro m
 induction m with
 |zero=>kernel_rfl
 |succ m ih=>
  show _=λx0 x5 x6=>uy prog w0 (nX prog w0 k0 m) k0 x0 x5 x6
  rw[←ih]
  kernel_rfl
theorem Ro(w0:World):Ed prog w0=λk0 x0 x5 x6 h=>∃m,Ee w0 k0 m x0 x5 x6 h:=by
 funext k0 x0 x5 x6 h
 simp only[Rp]
 rfl
theorem O5{w0:World}{a0 a1:Value}(hj:∀v,v∈[a0,a1]→v≠junk)(hv:BD prog w0 a0 a1 R h):aj prog w0 jo [a0,a1] h R:=
 aI FK GO 23 (by kernel_rfl) (by kernel_rfl) (by simp) hj (by
  unfold BD
  rw[Ro w0]
  kernel_rfl) hv
abbrev TM:Func:=f123
def Ws:List (Nat×List Nat×List Nat):=[]
def JW(a0:Value)(R:av):Hp→Prop:=
 aa (cD a0) λb=>
 aa (bG .u64 b) λc=>
 am P w0 lL [c] λd=>
 aa (ah .add d a0) λe=>
 ar [e] R
theorem O8{w0:World}{a0:Value}(hj:∀v,v∈[a0]→v≠junk)(hv:JW prog w0 a0 R h):aj prog w0 Ao [a0] h R:=
 aI TM Ws 9 (by kernel_rfl) (by kernel_rfl) (by simp) hj (by
  kernel_rfl) hv
end
