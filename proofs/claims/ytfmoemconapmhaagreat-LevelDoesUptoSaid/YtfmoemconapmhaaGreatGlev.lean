/- PRINTED by wip/tools/shallow.py: functions of the program as readable words, and that each is what its text says. -/
import Derived.Test.YtfmoemconapmhaaGreatGn
set_option linter.all false
namespace Go.Proofs.YtfmoemconapmhaaGreat.Ah
open Go Go.Proofs.Tryz
noncomputable section
variable (P:Program)(w0:World){h:Hp}{R:av}
abbrev Ud:Func:=f11
def WC:List (Nat×List Nat×List Nat):=[]
def Ko(a0 a1 a2:Value)(R:av):Hp→Prop:=
 cF false 1 a1 λb=>
 cF false 1 a2 λc=>
 jW AB [] [b,c] λd=>
 am P w0 wj [a0,d] λe=>
 ar [e] R
theorem Pk{w0:World}{a0 a1 a2:Value}(hj:∀v,v∈[a0,a1,a2]→v≠junk)(hv:Ko prog w0 a0 a1 a2 R h):aj prog w0 pw [a0,a1,a2] h R:=
 aI Ud WC 10 (by kernel_rfl) (by kernel_rfl) (by simp) hj (by
  kernel_rfl) hv
abbrev TY:Func:=f12
def W6:List (Nat×List Nat×List Nat):=[]
def Kj(a0 a1:Value)(R:av):Hp→Prop:=
 cF false 1 a1 λb=>
 jW A9 [] [b] λc=>
 am P w0 wj [a0,c] λd=>
 ar [d] R
theorem Pd{w0:World}{a0 a1:Value}(hj:∀v,v∈[a0,a1]→v≠junk)(hv:Kj prog w0 a0 a1 R h):aj prog w0 wc [a0,a1] h R:=
 aI TY W6 8 (by kernel_rfl) (by kernel_rfl) (by simp) hj (by
  kernel_rfl) hv
abbrev Ua:Func:=f13
def W8:List (Nat×List Nat×List Nat):=[]
def Kl(a0:Value)(R:av):Hp→Prop:=
 am P w0 jZ [a0] λi=>
 aa (unA .not i) λb=>
 ai b false (λK=>K a0) λj=>
 ai b false (aF j) λl=>
 ai b false (au l 3) λo=>
 ai b false (al w0 o) λs=>
 ai b false (am P w0 wm [s]) λu=>
 ai b false (aa (ah .eql u (.int .i64 0))) λv=>
 aQ b (.bool true) v λz=>
 aB z (
 ar [(.bool false)] R) (
 af (λK=>K a0) λba=>
 af (λK=>K a0) λbb=>
 af (aF bb) λbc=>
 af (au bc 4) λbd=>
 af (ik 16 1 bd (.int .i64 0)) λbe=>
 aD (al w0 be) λbf=>
 af (λK=>K a0) λbg=>
 af (aF bg) λbh=>
 af (au bh 3) λe=>
 aD (al w0 e) λg=>
 af (λK=>K a0) λbi=>
 af (aF bi) λbj=>
 af (au bj 0) λbk=>
 af (au bk 0) λc=>
 aD (al w0 c) λd=>
 af (aF ba) λbl=>
 af (au bl 4) λbm=>
 aO [
 (am P w0 wH [bf] λbn=>
 aP [(bZ (al w0 c) d),(bZ (al w0 e) g)] (
 aO [
 (am P w0 te [g] λbo=>
 aP [(bZ (al w0 c) d)] (
 aO [
 (am P w0 Bi [bo] λbp=>
 aP [(bZ (al w0 c) d)] (
 aO [
 (am P w0 wk [bp,d] λbq=>
 aP [] (
 aO [
 (bI [(0,1,false,bq)] (aL [(.pointer none)] 1) 1 1 λbr=>
 aP [] (
 aO [
 (am P w0 th [bn,(.int .i64 0),br] λbs=>
 aP [] (
 af (ik 16 1 bm (.int .i64 0)) λbt=>
 aO [
 (bO w0 bt bs λ_=>
 aP [] (
 bN (
 aF a0 λbu=>
 au bu 3 λbv=>
 al w0 bv λbw=>
 am P w0 AK [bw] λbx=>
 ar [(.bool true)] R)))]))]))]))]))]))]))])
theorem Pg{w0:World}{a0:Value}(hj:∀v,v∈[a0]→v≠junk)(hv:Kl prog w0 a0 R h):aj prog w0 sZ [a0] h R:=
 aI Ua W8 43 (by kernel_rfl) (by kernel_rfl) (by simp) hj (by
  kernel_rfl) hv
abbrev Ug:Func:=f14
def WF:List (Nat×List Nat×List Nat):=[]
def Kr(a0:Value)(R:av):Hp→Prop:=
 am P w0 jZ [a0] λj=>
 aa (unA .not j) λl=>
 aB l (
 ar [(.bool false)] R) (
 am P w0 AE [a0] λc=>
 aa (aV c 0) λb=>
 aa (aV c 1) λo=>
 aa (unA .not o) λs=>
 aB s (
 ar [(.bool false)] R) (
 aF a0 λu=>
 au u 4 λv=>
 aa (ah .add b (.int .i64 1)) λz=>
 yn 16 1 v (some z) none λba=>
 am P w0 Bj [ba,(.func (.func td) #[] #[])] λbb=>
 aF a0 λbc=>
 au bc 4 λbd=>
 ik 16 1 bd b λbe=>
 al w0 be λbf=>
 aa (unA .not bb) λbg=>
 am P w0 AP [bf,bg] λd=>
 aF a0 λbh=>
 au bh 4 λbi=>
 ik 16 1 bi b λbj=>
 bO w0 bj (.slice none 0 0) λ_=>
 aa (aM d) λbk=>
 aa (ah .gtr bk (.int .i64 0)) λbl=>
 aB bl (
 aa (ah .add b (.int .i64 1)) λbm=>
 aa (iL lI bm [(.int .i64 15)]) λe=>
 af (λK=>K a0) λbn=>
 af (λK=>K e) λbo=>
 af (λK=>K a0) λbp=>
 af (λK=>K e) λbq=>
 af (aF bp) λbr=>
 af (au br 4) λbs=>
 af (ik 16 1 bs bq) λbt=>
 aD (al w0 bt) λbu=>
 af (λK=>K d) λbv=>
 af (λK=>K a0) λbw=>
 af (aF bw) λbx=>
 af (au bx 0) λbz=>
 af (au bz 0) λg=>
 aD (al w0 g) λi=>
 af (aF bn) λca=>
 af (au ca 4) λcb=>
 aO [
 (am P w0 wH [bu] λcc=>
 aP [(bZ (al w0 g) i)] (
 aO [
 (am P w0 wk [bv,i] λcd=>
 aP [] (
 aO [
 (bI [(0,1,false,cd)] (aL [(.pointer none)] 1) 1 1 λce=>
 aP [] (
 aO [
 (am P w0 th [cc,(.int .i64 0),ce] λcf=>
 aP [] (
 af (ik 16 1 cb bo) λcg=>
 aO [
 (bO w0 cg cf λ_=>
 aP [] (
 bN (
 ar [(.bool true)] R)))]))]))]))]))]) (
 ar [(.bool true)] R)))
theorem Pq{w0:World}{a0:Value}(hj:∀v,v∈[a0]→v≠junk)(hv:Kr prog w0 a0 R h):aj prog w0 wi [a0] h R:=
 aI Ug WF 66 (by kernel_rfl) (by kernel_rfl) (by simp) hj (by
  kernel_rfl) hv
abbrev Ul:Func:=f15
def WK:List (Nat×List Nat×List Nat):=[]
def Kx(a0 a1 a2:Value)(R:av):Hp→Prop:=
 cF true 3 a0 λu=>
 aG w0 u 3 λv=>
 am P w0 qN [v] λj=>
 aa (aV j 0) λg=>
 aa (aV j 1) λl=>
 aa (ah .neq l (.int .i64 0)) λz=>
 aB z (
 ar [(.pointer none),l] R) (
 dW w0 a1 λba=>
 am P w0 Ag [ba] λe=>
 aa (aV e 0) λbb=>
 aa (aV e 1) λbc=>
 aa (aV e 2) λbd=>
 aa (aV e 3) λbe=>
 af (λK=>K be) λbf=>
 af (aa (ah .neq bf (.int .i64 0))) λbg=>
 af (λK=>K bg) λi=>
 af (ai i false (λK=>K bb)) λbh=>
 af (ai i false (aa (ah .neq bh (.int .u8 77)))) λbi=>
 af (aQ i (.bool true) bi) λbj=>
 af (λK=>K bj) λd=>
 af (ai d false (λK=>K bd)) λbk=>
 af (ai d false (λK=>K a1)) λbl=>
 af (ai d false (aa (aM bl))) λbm=>
 af (ai d false (aa (ah .neq bk bm))) λbn=>
 af (aQ d (.bool true) bn) λbo=>
 af (λK=>K bo) λc=>
 af (ai c false (λK=>K g)) λbp=>
 af (ai c false (λK=>K bc)) λbq=>
 af (ai c false (λK=>K a2)) λbr=>
 aO [
 (ai c false (am P w0 pu [bq]) λbs=>
 aP [] (
 aO [
 (ai c false (am P w0 AG [bp,bs,br]) λbt=>
 aP [] (
 af (ai c false (aa (unA .not bt))) λbu=>
 af (aQ c (.bool true) bu) λbv=>
 af (λK=>K bv) λb=>
 af (ai b false (λK=>K g)) λbw=>
 af (ai b false (λK=>K a1)) λo=>
 aD (ai b false (dW w0 o)) λs=>
 aO [
 (ai b false (am P w0 tc [bw]) λbx=>
 aP [(bZ (ai b false (dW w0 o)) s)] (
 aD (ai b false (dW w0 bx)) λbz=>
 af (ai b false (aa (ah .neq bz s))) λca=>
 af (aQ b (.bool true) ca) λcb=>
 bN (
 aB cb (
 ar [(.pointer none),(.int .i64 141)] R) (
 ar [g,(.int .i64 0)] R))))]))]))])
theorem P0{w0:World}{a0 a1 a2:Value}(hj:∀v,v∈[a0,a1,a2]→v≠junk)(hv:Kx prog w0 a0 a1 a2 R h):aj prog w0 AH [a0,a1,a2] h R:=
 aI Ul WK 58 (by kernel_rfl) (by kernel_rfl) (by simp) hj (by
  kernel_rfl) hv
abbrev ve:Func:=f16
def vw:List (Nat×List Nat×List Nat):=[(6,[0,3,4,39,40,41],[0,3,4]),(11,[0,3,50,51,52],[3]),(15,[0,3,50,51,52,66,67,68],[0,3,50,51,52])]
def vC(R:Ko6)(k0:Ko3)(x0 x3 x4 x39 x40 x41:Value):Hp→Prop:=
 aa (ah .lss x41 x40) λb=>
 aB b (
 aJ 1 x39 x41 λc=>
 al w0 c λd=>
 aa (bG .u64 d) λe=>
 am P w0 lJ [x3,e] λi=>
 aa (ah .add x41 (.int .i64 1)) λg=>
 R x0 x3 x4 x39 x40 g) (
 k0 x0 x3 x4)
def oW(P:Program)(w0:World)(k0:Ko3):Nat→Value→Value→Value→Value→Value→Value→Hp→Prop
 |0,_,_,_,_,_,_=>λ_=>False
 |m+1,x0,x3,x4,x39,x40,x41=>vC P w0 (oW P w0 k0 m) k0 x0 x3 x4 x39 x40 x41
def zT(k0:Ko3)(x0 x3 x4 x39 x40 x41:Value):Hp→Prop:=λh=>∃m,oW P w0 k0 m x0 x3 x4 x39 x40 x41 h
def vD(R:Ko8)(k4:Ko5)(x0 x3 x50 x51 x52 x66 x67 x68:Value):Hp→Prop:=
 aa (ah .lss x68 x67) λc=>
 aB c (
 aJ 1 x66 x68 λd=>
 al w0 d λe=>
 am P w0 ww [e] λb=>
 aa (aM b) λg=>
 aa (bG .u64 g) λi=>
 am P w0 lJ [x3,i] λu=>
 dW w0 b λj=>
 am P w0 mO [j] λl=>
 aa (bG .u64 l) λo=>
 am P w0 lJ [x3,o] λv=>
 aa (ah .add x68 (.int .i64 1)) λs=>
 R x0 x3 x50 x51 x52 x66 x67 s) (
 k4 x0 x3 x50 x51 x52)
def oY(P:Program)(w0:World)(k4:Ko5):Nat→Value→Value→Value→Value→Value→Value→Value→Value→Hp→Prop
 |0,_,_,_,_,_,_,_,_=>λ_=>False
 |m+1,x0,x3,x50,x51,x52,x66,x67,x68=>vD P w0 (oY P w0 k4 m) k4 x0 x3 x50 x51 x52 x66 x67 x68
def HC(k4:Ko5)(x0 x3 x50 x51 x52 x66 x67 x68:Value):Hp→Prop:=λh=>∃m,oY P w0 k4 m x0 x3 x50 x51 x52 x66 x67 x68 h
def sI(R:Ko5)(k2:Ko1)(x0 x3 x50 x51 x52:Value):Hp→Prop:=
 aa (ah .lss x52 x51) λc=>
 aB c (
 aJ 1 x50 x52 λd=>
 al w0 d λe=>
 aa (bG .u64 e) λg=>
 am P w0 lJ [x3,g] λbc=>
 aF x0 λi=>
 au i 4 λj=>
 ik 16 1 j x52 λl=>
 al w0 l λb=>
 aa (aM b) λo=>
 HC P w0 (λs u v z ba=>
 aa (ah .add ba (.int .i64 1)) λbb=>
 R s u v z bb) x0 x3 x50 x51 x52 b o (.int .i64 0)) (
 k2 x3)
def oX(P:Program)(w0:World)(k2:Ko1):Nat→Value→Value→Value→Value→Value→Hp→Prop
 |0,_,_,_,_,_=>λ_=>False
 |m+1,x0,x3,x50,x51,x52=>sI P w0 (oX P w0 k2 m) k2 x0 x3 x50 x51 x52
def HA(k2:Ko1)(x0 x3 x50 x51 x52:Value):Hp→Prop:=λh=>∃m,oX P w0 k2 m x0 x3 x50 x51 x52 h
def BY(a0:Value)(R:av):Hp→Prop:=
 am P w0 jZ [a0] λi=>
 aa (unA .not i) λj=>
 aB j (
 ar [(.slice none 0 0)] R) (
 am P w0 qG [(.int .i64 1048576)] λl=>
 am P w0 pz [a0] λb=>
 af (λK=>K a0) λo=>
 af (aF o) λs=>
 af (au s 0) λu=>
 af (au u 0) λv=>
 aD (al w0 v) λz=>
 af (λK=>K a0) λba=>
 af (aF ba) λbb=>
 af (au bb 0) λbc=>
 af (au bc 1) λbd=>
 aD (al w0 bd) λbe=>
 af (λK=>K a0) λbf=>
 af (aF bf) λbg=>
 af (au bg 0) λbh=>
 af (au bh 2) λbi=>
 aD (al w0 bi) λbj=>
 af (λK=>K b) λbk=>
 af (aa (aM bk)) λbl=>
 af (λK=>K (.int .i64 0)) λbm=>
 aO [
 (bI [(0,1,false,z),(1,1,false,be),(2,1,false,bj),(3,1,false,bl)] (aL [(.int .i64 0)] 4) 4 1 λc=>
 aP [] (
 af (aa (aM c)) λbn=>
 bN (
 zT P w0 (λbo bp d=>
 aa (aM d) λbq=>
 HA P w0 (λbr=>
 am P w0 mT [br] λe=>
 aa (aV e 0) λbs=>
 aa (aV e 1) λbv=>
 am P w0 Ac [(.int .u8 77),bs] λg=>
 aa (aV g 0) λbt=>
 aa (aV g 1) λbw=>
 pJ bt λbu=>
 ar [bu] R) bo bp d bq (.int .i64 0)) a0 l b c bn bm)))])
def HF(w0:World)(k4:Ko5)(m:Nat)(x0 x3 x50 x51 x52 x66 x67 x68:Value):Hp→Prop:=bJ (stepL ⟨prog,w0,99,vw⟩ (drw w0 99) (bQ ve 2)) m (bK [(0,x0),(3,x3),(50,x50),(51,x51),(52,x52),(66,x66),(67,x67),(68,x68)]) [λt=>k4 (t 0) (t 3) (t 50) (t 51) (t 52)]
theorem XK(w0:World)(k4:Ko5):∀m,HF w0 k4 m=oY prog w0 k4 m:=by
 intro m
 induction m with
 |zero=>kernel_rfl
 |succ m ih=>
  show _=λx0 x3 x50 x51 x52 x66 x67 x68=>vD prog w0 (oY prog w0 k4 m) k4 x0 x3 x50 x51 x52 x66 x67 x68
  rw[←ih]
  kernel_rfl
theorem XH(w0:World):HC prog w0=λk4 x0 x3 x50 x51 x52 x66 x67 x68 h=>∃m,HF w0 k4 m x0 x3 x50 x51 x52 x66 x67 x68 h:=by
 funext k4 x0 x3 x50 x51 x52 x66 x67 x68 h
 simp only[XK]
 rfl
def HE(w0:World)(k2:Ko1)(m:Nat)(x0 x3 x50 x51 x52:Value):Hp→Prop:=bJ (stepL ⟨prog,w0,99,vw⟩ (drw w0 99) (bQ ve 1)) m (bK [(0,x0),(3,x3),(50,x50),(51,x51),(52,x52)]) [λt=>k2 (t 3)]
theorem XJ(w0:World)(k2:Ko1):∀m,HE w0 k2 m=oX prog w0 k2 m:=by
 intro m
 induction m with
 |zero=>kernel_rfl
 |succ m ih=>
  show _=λx0 x3 x50 x51 x52=>sI prog w0 (oX prog w0 k2 m) k2 x0 x3 x50 x51 x52
  rw[←ih]
  unfold sI
  rw[XH w0]
  kernel_rfl
theorem XG(w0:World):HA prog w0=λk2 x0 x3 x50 x51 x52 h=>∃m,HE w0 k2 m x0 x3 x50 x51 x52 h:=by
 funext k2 x0 x3 x50 x51 x52 h
 simp only[XJ]
 rfl
def HD(w0:World)(k0:Ko3)(m:Nat)(x0 x3 x4 x39 x40 x41:Value):Hp→Prop:=bJ (stepL ⟨prog,w0,99,vw⟩ (drw w0 99) (bQ ve 0)) m (bK [(0,x0),(3,x3),(4,x4),(39,x39),(40,x40),(41,x41)]) [λt=>k0 (t 0) (t 3) (t 4)]
theorem XI(w0:World)(k0:Ko3):∀m,HD w0 k0 m=oW prog w0 k0 m:=by
 intro m
 induction m with
 |zero=>kernel_rfl
 |succ m ih=>
  show _=λx0 x3 x4 x39 x40 x41=>vC prog w0 (oW prog w0 k0 m) k0 x0 x3 x4 x39 x40 x41
  rw[←ih]
  kernel_rfl
theorem XF(w0:World):zT prog w0=λk0 x0 x3 x4 x39 x40 x41 h=>∃m,HD w0 k0 m x0 x3 x4 x39 x40 x41 h:=by
 funext k0 x0 x3 x4 x39 x40 x41 h
 simp only[XI]
 rfl
theorem Pj{w0:World}{a0:Value}(hj:∀v,v∈[a0]→v≠junk)(hv:BY prog w0 a0 R h):aj prog w0 tc [a0] h R:=
 aI ve vw 99 (by kernel_rfl) (by kernel_rfl) (by simp) hj (by
  unfold BY
  rw[XF w0,XG w0]
  kernel_rfl) hv
abbrev Gb:Func:=f17
def Hg:List (Nat×List Nat×List Nat):=[(5,[3,10,11,12],[3])]
def vB(R:Ko4)(k0:Ko1)(x3 x10 x11 x12:Value):Hp→Prop:=
 aa (ah .lss x12 x11) λb=>
 aB b (
 aJ 1 x10 x12 λc=>
 al w0 c λd=>
 am P w0 ww [d] λe=>
 bI [(0,1,false,e)] (aL [(.slice none 0 0)] 1) 1 1 λg=>
 bD w0 1 24 x3 g λi=>
 aa (ah .add x12 (.int .i64 1)) λj=>
 R i x10 x11 j) (
 k0 x3)
def oV(P:Program)(w0:World)(k0:Ko1):Nat→Value→Value→Value→Value→Hp→Prop
 |0,_,_,_,_=>λ_=>False
 |m+1,x3,x10,x11,x12=>vB P w0 (oV P w0 k0 m) k0 x3 x10 x11 x12
def H8(k0:Ko1)(x3 x10 x11 x12:Value):Hp→Prop:=λh=>∃m,oV P w0 k0 m x3 x10 x11 x12 h
def BX(a0:Value)(R:av):Hp→Prop:=
 am P w0 jZ [a0] λc=>
 aa (unA .not c) λd=>
 aB d (
 ar [(.slice none 0 0)] R) (
 am P w0 AD [a0] λb=>
 aa (aM b) λe=>
 H8 P w0 (λg=>
 ar [g] R) (.slice none 0 0) b e (.int .i64 0))
def H9(w0:World)(k0:Ko1)(m:Nat)(x3 x10 x11 x12:Value):Hp→Prop:=bJ (stepL ⟨prog,w0,23,Hg⟩ (drw w0 23) (bQ Gb 0)) m (bK [(3,x3),(10,x10),(11,x11),(12,x12)]) [λt=>k0 (t 3)]
theorem XE(w0:World)(k0:Ko1):∀m,H9 w0 k0 m=oV prog w0 k0 m:=by
 intro m
 induction m with
 |zero=>kernel_rfl
 |succ m ih=>
  show _=λx3 x10 x11 x12=>vB prog w0 (oV prog w0 k0 m) k0 x3 x10 x11 x12
  rw[←ih]
  kernel_rfl
theorem XD(w0:World):H8 prog w0=λk0 x3 x10 x11 x12 h=>∃m,H9 w0 k0 m x3 x10 x11 x12 h:=by
 funext k0 x3 x10 x11 x12 h
 simp only[XE]
 rfl
theorem Pf{w0:World}{a0:Value}(hj:∀v,v∈[a0]→v≠junk)(hv:BX prog w0 a0 R h):aj prog w0 wg [a0] h R:=
 aI Gb Hg 23 (by kernel_rfl) (by kernel_rfl) (by simp) hj (by
  unfold BX
  rw[XD w0]
  kernel_rfl) hv
abbrev Gc:Func:=f19
def Hh:List (Nat×List Nat×List Nat):=[(6,[3,4,13,14],[3,4])]
def vE(P:Program)(w0:World)(R:Ko4)(k0:Ko2)(x3 x4 x13 x14:Value):Hp→Prop:=
 aa (ah .lss x14 (.int .i64 16)) λd=>
 aB d (
 aa (ky false 16 1 x13 x14) λb=>
 aa (aM b) λe=>
 bI [(0,1,false,e)] (aL [(.int .i64 0)] 1) 1 1 λg=>
 bD w0 1 8 x3 g λc=>
 aa (aM b) λi=>
 aa (ah .gtr i (.int .i64 0)) λj=>
 aB j (
 aa (ah .add x14 (.int .i64 1)) λl=>
 aa (ah .add x14 (.int .i64 1)) λo=>
 R c l x13 o) (
 aa (ah .add x14 (.int .i64 1)) λs=>
 R c x4 x13 s)) (
 k0 x3 x4)
def oZ(P:Program)(w0:World)(k0:Ko2):Nat→Value→Value→Value→Value→Hp→Prop
 |0,_,_,_,_=>λ_=>False
 |m+1,x3,x4,x13,x14=>vE P w0 (oZ P w0 k0 m) k0 x3 x4 x13 x14
def HG(k0:Ko2)(x3 x4 x13 x14:Value):Hp→Prop:=λh=>∃m,oZ P w0 k0 m x3 x4 x13 x14 h
def BZ(a0:Value)(R:av):Hp→Prop:=
 am P w0 jZ [a0] λb=>
 aa (unA .not b) λc=>
 aB c (
 ar [(.slice none 0 0)] R) (
 aF a0 λd=>
 au d 4 λe=>
 aG w0 e 16 λg=>
 HG P w0 (λi j=>
 cT 1 i none (some j) none λl=>
 ar [l] R) (.slice none 0 0) (.int .i64 0) g (.int .i64 0))
def HI(w0:World)(k0:Ko2)(m:Nat)(x3 x4 x13 x14:Value):Hp→Prop:=bJ (stepL ⟨prog,w0,32,Hh⟩ (drw w0 32) (bQ Gc 0)) m (bK [(3,x3),(4,x4),(13,x13),(14,x14)]) [λt=>k0 (t 3) (t 4)]
theorem XM(w0:World)(k0:Ko2):∀m,HI w0 k0 m=oZ prog w0 k0 m:=by
 intro m
 induction m with
 |zero=>kernel_rfl
 |succ m ih=>
  show _=λx3 x4 x13 x14=>vE prog w0 (oZ prog w0 k0 m) k0 x3 x4 x13 x14
  rw[←ih]
  kernel_rfl
theorem XL(w0:World):HG prog w0=λk0 x3 x4 x13 x14 h=>∃m,HI w0 k0 m x3 x4 x13 x14 h:=by
 funext k0 x3 x4 x13 x14 h
 simp only[XM]
 rfl
theorem Pn{w0:World}{a0:Value}(hj:∀v,v∈[a0]→v≠junk)(hv:BZ prog w0 a0 R h):aj prog w0 pz [a0] h R:=
 aI Gc Hh 32 (by kernel_rfl) (by kernel_rfl) (by simp) hj (by
  unfold BZ
  rw[XL w0]
  kernel_rfl) hv
abbrev Ub:Func:=f23
def W9:List (Nat×List Nat×List Nat):=[]
def Km(a0:Value)(R:av):Hp→Prop:=
 am P w0 jZ [a0] λc=>
 aa (unA .not c) λd=>
 aB d (
 ar [(.pointer none)] R) (
 aF a0 λe=>
 aG w0 e 20 λg=>
 cA [(.int .i64 0),(.int .i64 0),(.int .i64 0),(.pointer none),(.slice none 0 0),(.slice none 0 0),(.slice none 0 0),(.slice none 0 0),(.slice none 0 0),(.slice none 0 0),(.slice none 0 0),(.slice none 0 0),(.slice none 0 0),(.slice none 0 0),(.slice none 0 0),(.slice none 0 0),(.slice none 0 0),(.slice none 0 0),(.slice none 0 0),(.slice none 0 0)] 20 λb=>
 bU w0 b g 20 λ_=>
 aF a0 λi=>
 au i 3 λj=>
 al w0 j λl=>
 am P w0 AM [l] λo=>
 au b 3 λs=>
 bO w0 s o λ_=>
 ar [b] R)
theorem Ph{w0:World}{a0:Value}(hj:∀v,v∈[a0]→v≠junk)(hv:Km prog w0 a0 R h):aj prog w0 AA [a0] h R:=
 aI Ub W9 16 (by kernel_rfl) (by kernel_rfl) (by simp) hj (by
  kernel_rfl) hv
abbrev Uc:Func:=f28
def WA:List (Nat×List Nat×List Nat):=[]
def Kn(a0 a1:Value)(R:av):Hp→Prop:=
 am P w0 jZ [a0] λe=>
 aa (unA .not e) λg=>
 aB g (
 ar [(.string .empty),(.bool false)] R) (
 am P w0 AF [a0,a1] λd=>
 aa (aV d 0) λi=>
 aa (aV d 1) λj=>
 cA [(.string .empty),(.string .empty),(.bool false)] 3 λc=>
 bU w0 c i 3 λ_=>
 af (au c 1) λl=>
 aD (al w0 l) λo=>
 af (λK=>K j) λs=>
 af (λK=>K s) λb=>
 af (ai b true (au c 2)) λu=>
 aD (ai b true (al w0 u)) λv=>
 af (ai b true (aa (unA .not v))) λz=>
 af (aQ b z (.bool false)) λba=>
 af (λK=>K o) λbb=>
 af (λK=>K ba) λbc=>
 bN (
 ar [bb,bc] R))
theorem Pi{w0:World}{a0 a1:Value}(hj:∀v,v∈[a0,a1]→v≠junk)(hv:Kn prog w0 a0 a1 R h):aj prog w0 ta [a0,a1] h R:=
 aI Uc WA 25 (by kernel_rfl) (by kernel_rfl) (by simp) hj (by
  kernel_rfl) hv
abbrev Uf:Func:=f31
def WE:List (Nat×List Nat×List Nat):=[]
def Kq(P:Program)(w0:World)(a0 a1 a2:Value)(R:av):Hp→Prop:=
 cF false 1 a0 λb=>
 cF false 1 a1 λc=>
 cF false 1 a2 λd=>
 jW qM [] [b,c,d] λe=>
 ar [e] R
theorem Po{w0:World}{a0 a1 a2:Value}(hj:∀v,v∈[a0,a1,a2]→v≠junk)(hv:Kq prog w0 a0 a1 a2 R h):aj prog w0 wh [a0,a1,a2] h R:=
 aI Uf WE 8 (by kernel_rfl) (by kernel_rfl) (by simp) hj (by
  kernel_rfl) hv
abbrev Um:Func:=f34
def WL:List (Nat×List Nat×List Nat):=[]
def Cg(a0:Value)(R:av):Hp→Prop:=
 cF true 3 a0 λb=>
 aG w0 b 3 λd=>
 am P w0 AI [d] λe=>
 aa (unA .not e) λg=>
 aB g (
 ar [(.pointer none),(.int .i64 140)] R) (
 aD (aG w0 b 3) λc=>
 aO [
 (am P w0 AQ [] λi=>
 aP [(bZ (aG w0 b 3) c)] (
 aO [
 (dI [(0,3,true,c),(3,1,false,i)] [(.int .i64 0),(.int .i64 0),(.int .i64 0),(.pointer none),(.slice none 0 0),(.slice none 0 0),(.slice none 0 0),(.slice none 0 0),(.slice none 0 0),(.slice none 0 0),(.slice none 0 0),(.slice none 0 0),(.slice none 0 0),(.slice none 0 0),(.slice none 0 0),(.slice none 0 0),(.slice none 0 0),(.slice none 0 0),(.slice none 0 0),(.slice none 0 0)] λj=>
 aP [] (
 aO [
 (cF true 20 j λl=>
 aP [] (
 af (λK=>K l) λo=>
 af (λK=>K (.int .i64 0)) λs=>
 bN (
 ar [o,s] R)))]))]))])
theorem Dz{w0:World}{a0:Value}(hj:∀v,v∈[a0]→v≠junk)(hv:Cg prog w0 a0 R h):aj prog w0 qN [a0] h R:=
 aI Um WL 11 (by kernel_rfl) (by kernel_rfl) (by simp) hj (by
  kernel_rfl) hv
abbrev Uk:Func:=f36
def WJ:List (Nat×List Nat×List Nat):=[]
def Kw(a0 a1:Value)(R:av):Hp→Prop:=
 am P w0 jZ [a0] λe=>
 aa (unA .not e) λg=>
 aB g (
 ar [(.int .i64 6)] R) (
 aF a0 λi=>
 au i 3 λj=>
 al w0 j λl=>
 dM P w0 a1 [l] λb=>
 aa (ah .neq b (.int .i64 0)) λo=>
 aB o (
 ar [b] R) (
 af (λK=>K a0) λs=>
 af (aF s) λu=>
 af (au u 3) λv=>
 aD (al w0 v) λz=>
 af (λK=>K a0) λba=>
 af (aF ba) λbb=>
 af (au bb 0) λbc=>
 af (au bc 2) λc=>
 aD (al w0 c) λd=>
 aO [
 (am P w0 wm [z] λbd=>
 aP [(bZ (al w0 c) d)] (
 af (aa (ah .geq bd d)) λbe=>
 bN (
 aB be (
 am P w0 sZ [a0] λbf=>
 ar [(.int .i64 0)] R) (
 ar [(.int .i64 0)] R))))]))
theorem Pz{w0:World}{a0 a1:Value}(hj:∀v,v∈[a0,a1]→v≠junk)(hv:Kw prog w0 a0 a1 R h):aj prog w0 wj [a0,a1] h R:=
 aI Uk WJ 31 (by kernel_rfl) (by kernel_rfl) (by simp) hj (by
  kernel_rfl) hv
abbrev Ue:Func:=f37
def WD:List (Nat×List Nat×List Nat):=[]
def Kp(a0 a1 a2:Value)(R:av):Hp→Prop:=
 al w0 a1 λb=>
 al w0 a2 λc=>
 am P w0 AO [a0,b,c] λd=>
 ar [d] R
theorem Pm{w0:World}{a0 a1 a2:Value}(hj:∀v,v∈[a0,a1,a2]→v≠junk)(hv:Kp prog w0 a0 a1 a2 R h):aj prog w0 AB [a0,a1,a2] h R:=
 aI Ue WD 9 (by kernel_rfl) (by kernel_rfl) (by simp) hj (by
  kernel_rfl) hv
abbrev TZ:Func:=f39
def W7:List (Nat×List Nat×List Nat):=[]
def Kk(a0 a1:Value)(R:av):Hp→Prop:=
 al w0 a1 λb=>
 am P w0 AL [a0,b] λc=>
 ar [c] R
theorem Pe{w0:World}{a0 a1:Value}(hj:∀v,v∈[a0,a1]→v≠junk)(hv:Kk prog w0 a0 a1 R h):aj prog w0 A9 [a0,a1] h R:=
 aI TZ W7 7 (by kernel_rfl) (by kernel_rfl) (by simp) hj (by
  kernel_rfl) hv
abbrev Uj:Func:=f41
def WI:List (Nat×List Nat×List Nat):=[]
def Kv(P:Program)(w0:World)(a0:Value)(R:av):Hp→Prop:=
 aa (cN .neq a0 (.pointer none)) λb=>
 ai b true (λK=>K a0) λc=>
 ai b true (aF c) λd=>
 ai b true (au d 3) λe=>
 ai b true (al w0 e) λg=>
 ai b true (aa (cN .neq g (.pointer none))) λi=>
 aQ b i (.bool false) λj=>
 ar [j] R
theorem Pw{w0:World}{a0:Value}(hj:∀v,v∈[a0]→v≠junk)(hv:Kv prog w0 a0 R h):aj prog w0 jZ [a0] h R:=
 aI Uj WI 12 (by kernel_rfl) (by kernel_rfl) (by simp) hj (by
  kernel_rfl) hv
abbrev Un:Func:=f45
def WM:List (Nat×List Nat×List Nat):=[]
def Ky(a0 a1:Value)(R:av):Hp→Prop:=
 am P w0 wl [a0,a1] λb=>
 aa (aV b 0) λd=>
 aa (aV b 1) λg=>
 am P w0 wt [d] λc=>
 aa (aV c 0) λe=>
 aa (aV c 1) λi=>
 ar [e] R
theorem P1{w0:World}{a0 a1:Value}(hj:∀v,v∈[a0,a1]→v≠junk)(hv:Ky prog w0 a0 a1 R h):aj prog w0 wk [a0,a1] h R:=
 aI Un WM 21 (by kernel_rfl) (by kernel_rfl) (by simp) hj (by
  kernel_rfl) hv
abbrev Gf:Func:=f49
def Hk:List (Nat×List Nat×List Nat):=[(2,[0,2,3,9,10],[2,3])]
def vI(P:Program)(w0:World)(R:Ko5)(k0 kr:Ko2)(x0 x2 x3 x9 x10:Value):Hp→Prop:=
 aa (ah .lss x10 (.int .i64 16)) λb=>
 aB b (
 aa (ky false 16 1 x9 x10) λc=>
 aa (aM c) λd=>
 aF x0 λe=>
 au e 0 λg=>
 au g 1 λi=>
 al w0 i λj=>
 aa (ah .geq d j) λl=>
 aB l (
 kr x10 (.bool true)) (
 aa (ah .add x10 (.int .i64 1)) λo=>
 R x0 x2 x3 x9 o)) (
 k0 x2 x3)
def ph(P:Program)(w0:World)(k0 kr:Ko2):Nat→Value→Value→Value→Value→Value→Hp→Prop
 |0,_,_,_,_,_=>λ_=>False
 |m+1,x0,x2,x3,x9,x10=>vI P w0 (ph P w0 k0 kr m) k0 kr x0 x2 x3 x9 x10
def HS(k0 kr:Ko2)(x0 x2 x3 x9 x10:Value):Hp→Prop:=λh=>∃m,ph P w0 k0 kr m x0 x2 x3 x9 x10 h
def Cd(a0:Value)(R:av):Hp→Prop:=
 aF a0 λb=>
 au b 4 λc=>
 aG w0 c 16 λd=>
 HS P w0 (λi j=>
 ar [(.int .i64 0),(.bool false)] R) (λe g=>
 ar [e,g] R) a0 (.int .i64 0) (.bool false) d (.int .i64 0)
def HT(w0:World)(k0 kr:Ko2)(m:Nat)(x0 x2 x3 x9 x10:Value):Hp→Prop:=bJ (stepL ⟨prog,w0,24,Hk⟩ (drw w0 24) (bQ Gf 0)) m (bK [(0,x0),(2,x2),(3,x3),(9,x9),(10,x10)]) [λt=>k0 (t 2) (t 3),λt=>kr (t 2) (t 3)]
theorem XW(w0:World)(k0 kr:Ko2):∀m,HT w0 k0 kr m=ph prog w0 k0 kr m:=by
 intro m
 induction m with
 |zero=>kernel_rfl
 |succ m ih=>
  show _=λx0 x2 x3 x9 x10=>vI prog w0 (ph prog w0 k0 kr m) k0 kr x0 x2 x3 x9 x10
  rw[←ih]
  kernel_rfl
theorem XV(w0:World):HS prog w0=λk0 kr x0 x2 x3 x9 x10 h=>∃m,HT w0 k0 kr m x0 x2 x3 x9 x10 h:=by
 funext k0 kr x0 x2 x3 x9 x10 h
 simp only[XW]
 rfl
theorem Pv{w0:World}{a0:Value}(hj:∀v,v∈[a0]→v≠junk)(hv:Cd prog w0 a0 R h):aj prog w0 AE [a0] h R:=
 aI Gf Hk 24 (by kernel_rfl) (by kernel_rfl) (by simp) hj (by
  unfold Cd
  rw[XV w0]
  kernel_rfl) hv
abbrev Uh:Func:=f51
def WG:List (Nat×List Nat×List Nat):=[]
def Kt(P:Program)(w0:World)(a0:Value)(R:av):Hp→Prop:=
 aa (aM a0) λb=>
 aa (ah .gtr b (.int .i64 0)) λc=>
 ar [c] R
theorem Pr{w0:World}{a0:Value}(hj:∀v,v∈[a0]→v≠junk)(hv:Kt prog w0 a0 R h):aj prog w0 td [a0] h R:=
 aI Uh WG 6 (by kernel_rfl) (by kernel_rfl) (by simp) hj (by
  kernel_rfl) hv
abbrev vg:Func:=f54
def v7:List (Nat×List Nat×List Nat):=[(2,[0,1,2,6,31,32,33],[0,1,2,6]),(11,[0,1,2,6,48,49],[1,2,6]),(14,[0,1,2,6,10,11,48,49],[0,1,2,6,48,49])]
def vK(R:Ko7)(k0 kr:Ko4)(x0 x1 x2 x6 x31 x32 x33:Value):Hp→Prop:=
 aa (ah .lss x33 x32) λb=>
 aB b (
 aJ 1 x31 x33 λc=>
 al w0 c λd=>
 am P w0 jY [x1] λe=>
 aa (bG .u64 d) λg=>
 aa (ah .neq e g) λi=>
 aB i (
 kr x0 x1 x2 (.bool false)) (
 aa (ah .add x33 (.int .i64 1)) λj=>
 R x0 x1 x2 x6 x31 x32 j)) (
 k0 x0 x1 x2 x6)
def pm(P:Program)(w0:World)(k0 kr:Ko4):Nat→Value→Value→Value→Value→Value→Value→Value→Hp→Prop
 |0,_,_,_,_,_,_,_=>λ_=>False
 |m+1,x0,x1,x2,x6,x31,x32,x33=>vK P w0 (pm P w0 k0 kr m) k0 kr x0 x1 x2 x6 x31 x32 x33
def zU(k0 kr:Ko4)(x0 x1 x2 x6 x31 x32 x33:Value):Hp→Prop:=λh=>∃m,pm P w0 k0 kr m x0 x1 x2 x6 x31 x32 x33 h
def vL(R:Ko8)(k4 kr:Ko6)(x0 x1 x2 x6 x10 x11 x48 x49:Value):Hp→Prop:=
 aa (ah .gtr x11 (.int .u64 0)) λj=>
 aB j (
 am P w0 jY [x1] λl=>
 am P w0 jY [x1] λo=>
 am P w0 iV [x1] λs=>
 aa (ah .neq s (.int .i64 0)) λd=>
 ai d false (λK=>K x2) λu=>
 ai d false (aa (aM u)) λv=>
 ai d false (aa (ah .eql v (.int .i64 0))) λz=>
 aQ d (.bool true) z λc=>
 ai c false (λK=>K l) λba=>
 ai c false (λK=>K x2) λbb=>
 ai c false (aJ 1 bb (.int .i64 0)) λbc=>
 ai c false (al w0 bc) λbd=>
 ai c false (aa (aM bd)) λbe=>
 ai c false (aa (bG .u64 be)) λbf=>
 ai c false (aa (ah .neq ba bf)) λbg=>
 aQ c (.bool true) bg λb=>
 ai b false (λK=>K o) λbh=>
 ai b false (λK=>K x2) λbi=>
 ai b false (aJ 1 bi (.int .i64 0)) λbj=>
 ai b false (al w0 bj) λbk=>
 ai b false (dW w0 bk) λbl=>
 ai b false (am P w0 mO [bl]) λbm=>
 ai b false (aa (bG .u64 bm)) λbn=>
 ai b false (aa (ah .neq bh bn)) λbo=>
 aQ b (.bool true) bo λbp=>
 aB bp (
 kr x0 x1 x2 (.bool false) x48 x49) (
 aJ 1 x2 (.int .i64 0) λbq=>
 al w0 bq λbr=>
 am P w0 wt [br] λe=>
 aa (aV e 0) λbs=>
 aa (aV e 1) λbt=>
 aa (ah .neq bt (.int .i64 0)) λbu=>
 aB bu (
 kr x0 x1 x2 (.bool false) x48 x49) (
 af (λK=>K x0) λbv=>
 af (λK=>K x10) λbw=>
 af (λK=>K x0) λbx=>
 af (λK=>K x10) λbz=>
 af (aF bx) λca=>
 af (au ca 4) λcb=>
 af (ik 16 1 cb bz) λg=>
 aD (al w0 g) λi=>
 af (λK=>K bs) λcc=>
 af (aF bv) λcd=>
 af (au cd 4) λce=>
 aO [
 (bI [(0,1,false,cc)] (aL [(.pointer none)] 1) 1 1 λcf=>
 aP [(bZ (al w0 g) i)] (
 aO [
 (bD w0 1 8 i cf λcg=>
 aP [] (
 af (ik 16 1 ce bw) λch=>
 aO [
 (bO w0 ch cg λ_=>
 aP [] (
 bN (
 cT 1 x2 (some (.int .i64 1)) none none λci=>
 aa (ah .sub x11 (.int .u64 1)) λcj=>
 R x0 x1 ci x6 x10 cj x48 x49)))]))]))]))) (
 k4 x0 x1 x2 x6 x48 x49)
def po(P:Program)(w0:World)(k4 kr:Ko6):Nat→Value→Value→Value→Value→Value→Value→Value→Value→Hp→Prop
 |0,_,_,_,_,_,_,_,_=>λ_=>False
 |m+1,x0,x1,x2,x6,x10,x11,x48,x49=>vL P w0 (po P w0 k4 kr m) k4 kr x0 x1 x2 x6 x10 x11 x48 x49
def HZ(k4 kr:Ko6)(x0 x1 x2 x6 x10 x11 x48 x49:Value):Hp→Prop:=λh=>∃m,po P w0 k4 kr m x0 x1 x2 x6 x10 x11 x48 x49 h
def sL(R:Ko6)(k2 kr:Ko3)(x0 x1 x2 x6 x48 x49:Value):Hp→Prop:=
 aa (ah .lss x49 x48) λb=>
 aB b (
 am P w0 jY [x1] λc=>
 HZ P w0 (λd e g i j l=>
 aa (ah .add l (.int .i64 1)) λo=>
 R d e g i j o) (λz s u v ba bb=>
 kr s u v) x0 x1 x2 x6 x49 c x48 x49) (
 k2 x1 x2 x6)
def pn(P:Program)(w0:World)(k2 kr:Ko3):Nat→Value→Value→Value→Value→Value→Value→Hp→Prop
 |0,_,_,_,_,_,_=>λ_=>False
 |m+1,x0,x1,x2,x6,x48,x49=>sL P w0 (pn P w0 k2 kr m) k2 kr x0 x1 x2 x6 x48 x49
def HY(k2 kr:Ko3)(x0 x1 x2 x6 x48 x49:Value):Hp→Prop:=λh=>∃m,pn P w0 k2 kr m x0 x1 x2 x6 x48 x49 h
def Cf(a0 a1 a2:Value)(R:av):Hp→Prop:=
 af (λK=>K a0) λg=>
 af (aF g) λi=>
 af (au i 0) λj=>
 af (au j 0) λl=>
 aD (al w0 l) λo=>
 af (λK=>K a0) λs=>
 af (aF s) λu=>
 af (au u 0) λv=>
 af (au v 1) λz=>
 aD (al w0 z) λba=>
 af (λK=>K a0) λbb=>
 af (aF bb) λbc=>
 af (au bc 0) λbd=>
 af (au bd 2) λbe=>
 aD (al w0 be) λbf=>
 af (λK=>K (.int .i64 0)) λbg=>
 aO [
 (bI [(0,1,false,o),(1,1,false,ba),(2,1,false,bf)] (aL [(.int .i64 0)] 3) 3 1 λc=>
 aP [] (
 af (aa (aM c)) λbh=>
 bN (
 zU P w0 (λbi d bj bk=>
 am P w0 jY [d] λe=>
 aa (ah .gtr e (.int .u64 16)) λbl=>
 aB bl (
 ar [(.bool false)] R) (
 aa (bG .i64 e) λbm=>
 HY P w0 (λbn bo bw=>
 am P w0 Ad [bn] λbp=>
 aa (ah .eql bp (.int .i64 0)) λb=>
 ai b true (λK=>K bo) λbq=>
 ai b true (aa (aM bq)) λbr=>
 ai b true (aa (ah .eql br (.int .i64 0))) λbs=>
 aQ b bs (.bool false) λbt=>
 ar [bt] R) (λbx bz bu=>
 ar [bu] R) bi d bj bk bm (.int .i64 0))) (λca cb cc bv=>
 ar [bv] R) a0 a1 a2 (.bool false) c bh bg)))]
def Ic(w0:World)(k4 kr:Ko6)(m:Nat)(x0 x1 x2 x6 x10 x11 x48 x49:Value):Hp→Prop:=bJ (stepL ⟨prog,w0,123,v7⟩ (drw w0 123) (bQ vg 2)) m (bK [(0,x0),(1,x1),(2,x2),(6,x6),(10,x10),(11,x11),(48,x48),(49,x49)]) [λt=>k4 (t 0) (t 1) (t 2) (t 6) (t 48) (t 49),λt=>kr (t 0) (t 1) (t 2) (t 6) (t 48) (t 49)]
theorem Yg(w0:World)(k4 kr:Ko6):∀m,Ic w0 k4 kr m=po prog w0 k4 kr m:=by
 intro m
 induction m with
 |zero=>kernel_rfl
 |succ m ih=>
  show _=λx0 x1 x2 x6 x10 x11 x48 x49=>vL prog w0 (po prog w0 k4 kr m) k4 kr x0 x1 x2 x6 x10 x11 x48 x49
  rw[←ih]
  kernel_rfl
theorem Yd(w0:World):HZ prog w0=λk4 kr x0 x1 x2 x6 x10 x11 x48 x49 h=>∃m,Ic w0 k4 kr m x0 x1 x2 x6 x10 x11 x48 x49 h:=by
 funext k4 kr x0 x1 x2 x6 x10 x11 x48 x49 h
 simp only[Yg]
 rfl
def Ib(w0:World)(k2 kr:Ko3)(m:Nat)(x0 x1 x2 x6 x48 x49:Value):Hp→Prop:=bJ (stepL ⟨prog,w0,123,v7⟩ (drw w0 123) (bQ vg 1)) m (bK [(0,x0),(1,x1),(2,x2),(6,x6),(48,x48),(49,x49)]) [λt=>k2 (t 1) (t 2) (t 6),λt=>kr (t 1) (t 2) (t 6)]
theorem Yf(w0:World)(k2 kr:Ko3):∀m,Ib w0 k2 kr m=pn prog w0 k2 kr m:=by
 intro m
 induction m with
 |zero=>kernel_rfl
 |succ m ih=>
  show _=λx0 x1 x2 x6 x48 x49=>sL prog w0 (pn prog w0 k2 kr m) k2 kr x0 x1 x2 x6 x48 x49
  rw[←ih]
  unfold sL
  rw[Yd w0]
  kernel_rfl
theorem Yc(w0:World):HY prog w0=λk2 kr x0 x1 x2 x6 x48 x49 h=>∃m,Ib w0 k2 kr m x0 x1 x2 x6 x48 x49 h:=by
 funext k2 kr x0 x1 x2 x6 x48 x49 h
 simp only[Yf]
 rfl
def Ia(w0:World)(k0 kr:Ko4)(m:Nat)(x0 x1 x2 x6 x31 x32 x33:Value):Hp→Prop:=bJ (stepL ⟨prog,w0,123,v7⟩ (drw w0 123) (bQ vg 0)) m (bK [(0,x0),(1,x1),(2,x2),(6,x6),(31,x31),(32,x32),(33,x33)]) [λt=>k0 (t 0) (t 1) (t 2) (t 6),λt=>kr (t 0) (t 1) (t 2) (t 6)]
theorem Ye(w0:World)(k0 kr:Ko4):∀m,Ia w0 k0 kr m=pm prog w0 k0 kr m:=by
 intro m
 induction m with
 |zero=>kernel_rfl
 |succ m ih=>
  show _=λx0 x1 x2 x6 x31 x32 x33=>vK prog w0 (pm prog w0 k0 kr m) k0 kr x0 x1 x2 x6 x31 x32 x33
  rw[←ih]
  kernel_rfl
theorem Yb(w0:World):zU prog w0=λk0 kr x0 x1 x2 x6 x31 x32 x33 h=>∃m,Ia w0 k0 kr m x0 x1 x2 x6 x31 x32 x33 h:=by
 funext k0 kr x0 x1 x2 x6 x31 x32 x33 h
 simp only[Ye]
 rfl
theorem Py{w0:World}{a0 a1 a2:Value}(hj:∀v,v∈[a0,a1,a2]→v≠junk)(hv:Cf prog w0 a0 a1 a2 R h):aj prog w0 AG [a0,a1,a2] h R:=
 aI vg v7 123 (by kernel_rfl) (by kernel_rfl) (by simp) hj (by
  unfold Cf
  rw[Yb w0,Yc w0]
  kernel_rfl) hv
abbrev Ge:Func:=f62
def Hj:List (Nat×List Nat×List Nat):=[(3,[3,9,10],[3])]
def vH(P:Program)(w0:World)(R:Ko3)(k0:Ko1)(x3 x9 x10:Value):Hp→Prop:=
 aa (ah .lss x10 (.int .i64 16)) λb=>
 aB b (
 aa (ky false 16 1 x9 x10) λc=>
 bD w0 1 8 x3 c λd=>
 aa (ah .add x10 (.int .i64 1)) λe=>
 R d x9 e) (
 k0 x3)
def pg(P:Program)(w0:World)(k0:Ko1):Nat→Value→Value→Value→Hp→Prop
 |0,_,_,_=>λ_=>False
 |m+1,x3,x9,x10=>vH P w0 (pg P w0 k0 m) k0 x3 x9 x10
def HQ(k0:Ko1)(x3 x9 x10:Value):Hp→Prop:=λh=>∃m,pg P w0 k0 m x3 x9 x10 h
def Cc(a0:Value)(R:av):Hp→Prop:=
 aF a0 λb=>
 au b 4 λc=>
 aG w0 c 16 λd=>
 HQ P w0 (λe=>
 ar [e] R) (.slice none 0 0) d (.int .i64 0)
def HR(w0:World)(k0:Ko1)(m:Nat)(x3 x9 x10:Value):Hp→Prop:=bJ (stepL ⟨prog,w0,18,Hj⟩ (drw w0 18) (bQ Ge 0)) m (bK [(3,x3),(9,x9),(10,x10)]) [λt=>k0 (t 3)]
theorem XU(w0:World)(k0:Ko1):∀m,HR w0 k0 m=pg prog w0 k0 m:=by
 intro m
 induction m with
 |zero=>kernel_rfl
 |succ m ih=>
  show _=λx3 x9 x10=>vH prog w0 (pg prog w0 k0 m) k0 x3 x9 x10
  rw[←ih]
  kernel_rfl
theorem XT(w0:World):HQ prog w0=λk0 x3 x9 x10 h=>∃m,HR w0 k0 m x3 x9 x10 h:=by
 funext k0 x3 x9 x10 h
 simp only[XU]
 rfl
theorem Pu{w0:World}{a0:Value}(hj:∀v,v∈[a0]→v≠junk)(hv:Cc prog w0 a0 R h):aj prog w0 AD [a0] h R:=
 aI Ge Hj 18 (by kernel_rfl) (by kernel_rfl) (by simp) hj (by
  unfold Cc
  rw[XT w0]
  kernel_rfl) hv
abbrev zj:Func:=f81
def zN:List (Nat×List Nat×List Nat):=[(5,[1,4,5,28,29],[4,5]),(8,[1,4,5,28,29,32,33,34],[1,4,5,28,29])]
def vJ(R:Ko8)(k2 kr:Ko5)(x1 x4 x5 x28 x29 x32 x33 x34:Value):Hp→Prop:=
 aa (ah .lss x34 x33) λd=>
 aB d (
 aJ 1 x32 x34 λe=>
 al w0 e λg=>
 am P w0 AR [g,x1] λb=>
 aa (aV b 0) λi=>
 aa (aV b 1) λj=>
 cA [(.string .empty),(.string .empty),(.bool false)] 3 λc=>
 bU w0 c i 3 λ_=>
 aB j (
 aG w0 c 3 λl=>
 bU w0 x4 l 3 λ_=>
 kr x1 x4 (.bool true) x28 x29) (
 aa (ah .add x34 (.int .i64 1)) λo=>
 R x1 x4 x5 x28 x29 x32 x33 o)) (
 k2 x1 x4 x5 x28 x29)
def pk(P:Program)(w0:World)(k2 kr:Ko5):Nat→Value→Value→Value→Value→Value→Value→Value→Value→Hp→Prop
 |0,_,_,_,_,_,_,_,_=>λ_=>False
 |m+1,x1,x4,x5,x28,x29,x32,x33,x34=>vJ P w0 (pk P w0 k2 kr m) k2 kr x1 x4 x5 x28 x29 x32 x33 x34
def HV(k2 kr:Ko5)(x1 x4 x5 x28 x29 x32 x33 x34:Value):Hp→Prop:=λh=>∃m,pk P w0 k2 kr m x1 x4 x5 x28 x29 x32 x33 x34 h
def sK(R:Ko5)(k0 kr:Ko2)(x1 x4 x5 x28 x29:Value):Hp→Prop:=
 aa (ah .lss x29 (.int .i64 16)) λc=>
 aB c (
 aa (ky false 16 1 x28 x29) λb=>
 aa (aM b) λd=>
 HV P w0 (λe g i j l=>
 aa (ah .add l (.int .i64 1)) λo=>
 R e g i j o) (λv s u z ba=>
 kr s u) x1 x4 x5 x28 x29 b d (.int .i64 0)) (
 k0 x4 x5)
def pj(P:Program)(w0:World)(k0 kr:Ko2):Nat→Value→Value→Value→Value→Value→Hp→Prop
 |0,_,_,_,_,_=>λ_=>False
 |m+1,x1,x4,x5,x28,x29=>sK P w0 (pj P w0 k0 kr m) k0 kr x1 x4 x5 x28 x29
def HU(k0 kr:Ko2)(x1 x4 x5 x28 x29:Value):Hp→Prop:=λh=>∃m,pj P w0 k0 kr m x1 x4 x5 x28 x29 h
def Ce(a0 a1:Value)(R:av):Hp→Prop:=
 cA [(.string .empty),(.string .empty),(.bool false)] 3 λb=>
 aF a0 λg=>
 au g 3 λi=>
 al w0 i λj=>
 am P w0 AN [j,a1] λc=>
 aa (aV c 0) λl=>
 aa (aV c 1) λo=>
 cA [(.string .empty),(.string .empty),(.bool false)] 3 λd=>
 bU w0 d l 3 λ_=>
 aB o (
 aG w0 d 3 λs=>
 bU w0 b s 3 λ_=>
 aG w0 b 3 λu=>
 ar [u,(.bool true)] R) (
 aF a0 λv=>
 au v 4 λz=>
 aG w0 z 16 λba=>
 HU P w0 (λe bg=>
 dI [] [(.string .empty),(.string .empty),(.bool false)] λbb=>
 bU w0 e bb 3 λ_=>
 aG w0 e 3 λbc=>
 ar [bc,(.bool false)] R) (λbd be=>
 aG w0 bd 3 λbf=>
 ar [bf,be] R) a1 b (.bool false) ba (.int .i64 0))
def HX(w0:World)(k2 kr:Ko5)(m:Nat)(x1 x4 x5 x28 x29 x32 x33 x34:Value):Hp→Prop:=bJ (stepL ⟨prog,w0,49,zN⟩ (drw w0 49) (bQ zj 1)) m (bK [(1,x1),(4,x4),(5,x5),(28,x28),(29,x29),(32,x32),(33,x33),(34,x34)]) [λt=>k2 (t 1) (t 4) (t 5) (t 28) (t 29),λt=>kr (t 1) (t 4) (t 5) (t 28) (t 29)]
theorem Ya(w0:World)(k2 kr:Ko5):∀m,HX w0 k2 kr m=pk prog w0 k2 kr m:=by
 intro m
 induction m with
 |zero=>kernel_rfl
 |succ m ih=>
  show _=λx1 x4 x5 x28 x29 x32 x33 x34=>vJ prog w0 (pk prog w0 k2 kr m) k2 kr x1 x4 x5 x28 x29 x32 x33 x34
  rw[←ih]
  kernel_rfl
theorem XY(w0:World):HV prog w0=λk2 kr x1 x4 x5 x28 x29 x32 x33 x34 h=>∃m,HX w0 k2 kr m x1 x4 x5 x28 x29 x32 x33 x34 h:=by
 funext k2 kr x1 x4 x5 x28 x29 x32 x33 x34 h
 simp only[Ya]
 rfl
def HW(w0:World)(k0 kr:Ko2)(m:Nat)(x1 x4 x5 x28 x29:Value):Hp→Prop:=bJ (stepL ⟨prog,w0,49,zN⟩ (drw w0 49) (bQ zj 0)) m (bK [(1,x1),(4,x4),(5,x5),(28,x28),(29,x29)]) [λt=>k0 (t 4) (t 5),λt=>kr (t 4) (t 5)]
theorem XZ(w0:World)(k0 kr:Ko2):∀m,HW w0 k0 kr m=pj prog w0 k0 kr m:=by
 intro m
 induction m with
 |zero=>kernel_rfl
 |succ m ih=>
  show _=λx1 x4 x5 x28 x29=>sK prog w0 (pj prog w0 k0 kr m) k0 kr x1 x4 x5 x28 x29
  rw[←ih]
  unfold sK
  rw[XY w0]
  kernel_rfl
theorem XX(w0:World):HU prog w0=λk0 kr x1 x4 x5 x28 x29 h=>∃m,HW w0 k0 kr m x1 x4 x5 x28 x29 h:=by
 funext k0 kr x1 x4 x5 x28 x29 h
 simp only[XZ]
 rfl
theorem Px{w0:World}{a0 a1:Value}(hj:∀v,v∈[a0,a1]→v≠junk)(hv:Ce prog w0 a0 a1 R h):aj prog w0 AF [a0,a1] h R:=
 aI zj zN 49 (by kernel_rfl) (by kernel_rfl) (by simp) hj (by
  unfold Ce
  rw[XX w0]
  kernel_rfl) hv
abbrev Gd:Func:=f82
def Hi:List (Nat×List Nat×List Nat):=[(2,[0,13,14,15],[])]
def vF(R:Ko4)(k0:Hp→Prop)(kr:Hp→Prop)(x0 x13 x14 x15:Value):Hp→Prop:=
 aa (ah .lss x15 x14) λd=>
 aB d (
 aJ 4 x13 x15 λe=>
 aG w0 e 4 λg=>
 cA [(.string .empty),(.string .empty),(.string .empty),(.bool false)] 4 λc=>
 bU w0 c g 4 λ_=>
 au c 1 λi=>
 au i 2 λj=>
 al w0 j λl=>
 aa (unA .not l) λb=>
 ai b true (λK=>K x0) λo=>
 ai b true (au c 0) λs=>
 ai b true (al w0 s) λu=>
 ai b true (au c 1) λv=>
 ai b true (au v 1) λz=>
 ai b true (al w0 z) λba=>
 ai b true (dM P w0 o [u,ba]) λbb=>
 ai b true (aa (unA .not bb)) λbc=>
 aQ b bc (.bool false) λbd=>
 aB bd (
 kr) (
 aa (ah .add x15 (.int .i64 1)) λbe=>
 R x0 x13 x14 be)) (
 k0)
def pc(P:Program)(w0:World)(k0:Hp→Prop)(kr:Hp→Prop):Nat→Value→Value→Value→Value→Hp→Prop
 |0,_,_,_,_=>λ_=>False
 |m+1,x0,x13,x14,x15=>vF P w0 (pc P w0 k0 kr m) k0 kr x0 x13 x14 x15
def HJ(k0:Hp→Prop)(kr:Hp→Prop)(x0 x13 x14 x15:Value):Hp→Prop:=λh=>∃m,pc P w0 k0 kr m x0 x13 x14 x15 h
def Ca(a0 a1 a2 a3:Value)(R:av):Hp→Prop:=
 al w0 a1 λc=>
 am P w0 jZ [c] λd=>
 aa (unA .not d) λe=>
 aB e (
 ar [] R) (
 al w0 a1 λg=>
 al w0 a2 λi=>
 al w0 a3 λj=>
 am P w0 AC [g,i,j] λb=>
 aa (aM b) λl=>
 HJ P w0 (
 ar [] R) (
 ar [] R) a0 b l (.int .i64 0))
def HK(w0:World)(k0:Hp→Prop)(kr:Hp→Prop)(m:Nat)(x0 x13 x14 x15:Value):Hp→Prop:=bJ (stepL ⟨prog,w0,34,Hi⟩ (drw w0 34) (bQ Gd 0)) m (bK [(0,x0),(13,x13),(14,x14),(15,x15)]) [λt=>k0,λt=>kr]
theorem XO(w0:World)(k0:Hp→Prop)(kr:Hp→Prop):∀m,HK w0 k0 kr m=pc prog w0 k0 kr m:=by
 intro m
 induction m with
 |zero=>kernel_rfl
 |succ m ih=>
  show _=λx0 x13 x14 x15=>vF prog w0 (pc prog w0 k0 kr m) k0 kr x0 x13 x14 x15
  rw[←ih]
  kernel_rfl
theorem XN(w0:World):HJ prog w0=λk0 kr x0 x13 x14 x15 h=>∃m,HK w0 k0 kr m x0 x13 x14 x15 h:=by
 funext k0 kr x0 x13 x14 x15 h
 simp only[XO]
 rfl
theorem Pp{w0:World}{a0 a1 a2 a3:Value}(hj:∀v,v∈[a0,a1,a2,a3]→v≠junk)(hv:Ca prog w0 a0 a1 a2 a3 R h):aj prog w0 qM [a0,a1,a2,a3] h R:=
 aI Gd Hi 34 (by kernel_rfl) (by kernel_rfl) (by simp) hj (by
  unfold Ca
  rw[XN w0]
  kernel_rfl) hv
abbrev zi:Func:=f83
def zM:List (Nat×List Nat×List Nat):=[(5,[4,5,7,8,24,25],[7]),(8,[4,5,7,8,24,25,28,29,30],[4,5,7,8,24,25])]
def vG(R:Ko9)(k2:Ko6)(x4 x5 x7 x8 x24 x25 x28 x29 x30:Value):Hp→Prop:=
 aa (ah .lss x30 x29) λb=>
 aB b (
 aJ 1 x28 x30 λc=>
 al w0 c λd=>
 al w0 x4 λe=>
 al w0 x5 λg=>
 am P w0 wy [d,e,g] λi=>
 dM P w0 x8 [i] λl=>
 aa (ah .add x30 (.int .i64 1)) λj=>
 R x4 x5 x7 x8 x24 x25 x28 x29 j) (
 k2 x4 x5 x7 x8 x24 x25)
def pf(P:Program)(w0:World)(k2:Ko6):Nat→Value→Value→Value→Value→Value→Value→Value→Value→Value→Hp→Prop
 |0,_,_,_,_,_,_,_,_,_=>λ_=>False
 |m+1,x4,x5,x7,x8,x24,x25,x28,x29,x30=>vG P w0 (pf P w0 k2 m) k2 x4 x5 x7 x8 x24 x25 x28 x29 x30
def HM(k2:Ko6)(x4 x5 x7 x8 x24 x25 x28 x29 x30:Value):Hp→Prop:=λh=>∃m,pf P w0 k2 m x4 x5 x7 x8 x24 x25 x28 x29 x30 h
def sJ(R:Ko6)(k0:Ko1)(x4 x5 x7 x8 x24 x25:Value):Hp→Prop:=
 aa (ah .lss x25 (.int .i64 16)) λc=>
 aB c (
 aa (ky false 16 1 x24 x25) λb=>
 aa (aM b) λd=>
 HM P w0 (λe g i j l o=>
 aa (ah .add o (.int .i64 1)) λs=>
 R e g i j l s) x4 x5 x7 x8 x24 x25 b d (.int .i64 0)) (
 k0 x7)
def pd(P:Program)(w0:World)(k0:Ko1):Nat→Value→Value→Value→Value→Value→Value→Hp→Prop
 |0,_,_,_,_,_,_=>λ_=>False
 |m+1,x4,x5,x7,x8,x24,x25=>sJ P w0 (pd P w0 k0 m) k0 x4 x5 x7 x8 x24 x25
def HL(k0:Ko1)(x4 x5 x7 x8 x24 x25:Value):Hp→Prop:=λh=>∃m,pd P w0 k0 m x4 x5 x7 x8 x24 x25 h
def Cb(a0 a1 a2:Value)(R:av):Hp→Prop:=
 cF false 1 a1 λb=>
 cF false 1 a2 λc=>
 cA [(.slice none 0 0)] 1 λd=>
 jW p3 [] [b,c,d] λe=>
 aF a0 λg=>
 au g 3 λi=>
 al w0 i λj=>
 am P w0 te [j] λl=>
 dM P w0 e [l] λbb=>
 aF a0 λo=>
 au o 4 λs=>
 aG w0 s 16 λu=>
 HL P w0 (λv=>
 al w0 v λz=>
 am P w0 wE [z] λba=>
 ar [ba] R) b c d e u (.int .i64 0)
def HO(w0:World)(k2:Ko6)(m:Nat)(x4 x5 x7 x8 x24 x25 x28 x29 x30:Value):Hp→Prop:=bJ (stepL ⟨prog,w0,44,zM⟩ (drw w0 44) (bQ zi 1)) m (bK [(4,x4),(5,x5),(7,x7),(8,x8),(24,x24),(25,x25),(28,x28),(29,x29),(30,x30)]) [λt=>k2 (t 4) (t 5) (t 7) (t 8) (t 24) (t 25)]
theorem XS(w0:World)(k2:Ko6):∀m,HO w0 k2 m=pf prog w0 k2 m:=by
 intro m
 induction m with
 |zero=>kernel_rfl
 |succ m ih=>
  show _=λx4 x5 x7 x8 x24 x25 x28 x29 x30=>vG prog w0 (pf prog w0 k2 m) k2 x4 x5 x7 x8 x24 x25 x28 x29 x30
  rw[←ih]
  kernel_rfl
theorem XQ(w0:World):HM prog w0=λk2 x4 x5 x7 x8 x24 x25 x28 x29 x30 h=>∃m,HO w0 k2 m x4 x5 x7 x8 x24 x25 x28 x29 x30 h:=by
 funext k2 x4 x5 x7 x8 x24 x25 x28 x29 x30 h
 simp only[XS]
 rfl
def HN(w0:World)(k0:Ko1)(m:Nat)(x4 x5 x7 x8 x24 x25:Value):Hp→Prop:=bJ (stepL ⟨prog,w0,44,zM⟩ (drw w0 44) (bQ zi 0)) m (bK [(4,x4),(5,x5),(7,x7),(8,x8),(24,x24),(25,x25)]) [λt=>k0 (t 7)]
theorem XR(w0:World)(k0:Ko1):∀m,HN w0 k0 m=pd prog w0 k0 m:=by
 intro m
 induction m with
 |zero=>kernel_rfl
 |succ m ih=>
  show _=λx4 x5 x7 x8 x24 x25=>sJ prog w0 (pd prog w0 k0 m) k0 x4 x5 x7 x8 x24 x25
  rw[←ih]
  unfold sJ
  rw[XQ w0]
  kernel_rfl
theorem XP(w0:World):HL prog w0=λk0 x4 x5 x7 x8 x24 x25 h=>∃m,HN w0 k0 m x4 x5 x7 x8 x24 x25 h:=by
 funext k0 x4 x5 x7 x8 x24 x25 h
 simp only[XR]
 rfl
theorem Ps{w0:World}{a0 a1 a2:Value}(hj:∀v,v∈[a0,a1,a2]→v≠junk)(hv:Cb prog w0 a0 a1 a2 R h):aj prog w0 AC [a0,a1,a2] h R:=
 aI zi zM 44 (by kernel_rfl) (by kernel_rfl) (by simp) hj (by
  unfold Cb
  rw[XP w0]
  kernel_rfl) hv
abbrev Uo:Func:=f88
def WN:List (Nat×List Nat×List Nat):=[]
def Kz(P:Program)(w0:World)(a0:Value)(R:av):Hp→Prop:=
 cF true 3 a0 λb=>
 au b 0 λj=>
 al w0 j λl=>
 aa (ah .geq l (.int .i64 256)) λc=>
 ai c true (au b 0) λo=>
 ai c true (al w0 o) λs=>
 ai c true (aa (ah .leq s (.int .i64 4096))) λu=>
 aQ c u (.bool false) λd=>
 ai d true (au b 1) λv=>
 ai d true (al w0 v) λz=>
 ai d true (aa (ah .geq z (.int .i64 2))) λba=>
 aQ d ba (.bool false) λe=>
 ai e true (au b 1) λbb=>
 ai e true (al w0 bb) λbc=>
 ai e true (aa (ah .leq bc (.int .i64 16))) λbd=>
 aQ e bd (.bool false) λg=>
 ai g true (au b 2) λbe=>
 ai g true (al w0 be) λbf=>
 ai g true (aa (ah .geq bf (.int .i64 1))) λbg=>
 aQ g bg (.bool false) λi=>
 ai i true (au b 2) λbh=>
 ai i true (al w0 bh) λbi=>
 ai i true (aa (ah .leq bi (.int .i64 4096))) λbj=>
 aQ i bj (.bool false) λbk=>
 ar [bk] R
theorem P2{w0:World}{a0:Value}(hj:∀v,v∈[a0]→v≠junk)(hv:Kz prog w0 a0 R h):aj prog w0 AI [a0] h R:=
 aI Uo WN 31 (by kernel_rfl) (by kernel_rfl) (by simp) hj (by
  kernel_rfl) hv
abbrev Ui:Func:=f129
def WH:List (Nat×List Nat×List Nat):=[]
def HP(P:Program)(w0:World)(b:Nat)(g:Lp)(K:av)(x1 x2 x5 y8:Value):Hp→Prop:=
 cA [(.string .empty),(.string .empty),(.bool false)] 3 λc=>
 bU w0 c y8 3 λ_=>
 mz b g (
 au c 0 λi=>
 al w0 i λj=>
 al w0 x1 λl=>
 aa (ah .geq j l) λd=>
 ai d true (al w0 x2) λo=>
 ai d true (aa (ah .eql o (.string .empty))) λs=>
 ai d true (λK=>K s) λe=>
 ai e false (au c 0) λu=>
 ai e false (al w0 u) λv=>
 ai e false (al w0 x2) λz=>
 ai e false (aa (ah .lss v z)) λba=>
 ai d true (aQ e (.bool true) ba) λbb=>
 aQ d bb (.bool false) λbc=>
 aB bc (
 al w0 x5 λbd=>
 au c 0 λbe=>
 al w0 be λbf=>
 aG w0 c 3 λbg=>
 dI [(0,1,false,bf),(1,3,true,bg)] [(.string .empty),(.string .empty),(.string .empty),(.bool false)] λbh=>
 bI [(0,4,true,bh)] (aL [(.string .empty),(.string .empty),(.string .empty),(.bool false)] 1) 1 4 λbi=>
 bD w0 4 56 bd bi λbj=>
 bO w0 x5 bj λ_=>
 fq b g none K) (
 fq b g none K))
def Ku(a0 a1 a2 a3:Value)(R:av):Hp→Prop:=
 λh0=>(cA [(.slice none 0 0)] 1 λc=>
 iY P w0 a0 1 (λb g args K=>HP P w0 b g K a1 a2 c (args.getD 0 undef)) (
 al w0 a3 λd=>
 al w0 c λe=>
 bI [(0,1,false,e)] (aL [(.slice none 0 0)] 1) 1 1 λi=>
 bD w0 1 24 d i λj=>
 bO w0 a3 j λ_=>
 ie h0 (
 ar [] R)) []) h0
theorem Pt{w0:World}{a0 a1 a2 a3:Value}(hj:∀v,v∈[a0,a1,a2,a3]→v≠junk)(hv:Ku prog w0 a0 a1 a2 a3 R h):aj prog w0 p3 [a0,a1,a2,a3] h R:=
 rH Ui WH 34 (by kernel_rfl) (by kernel_rfl) (by simp) hj (by
  kernel_rfl) hv
end
