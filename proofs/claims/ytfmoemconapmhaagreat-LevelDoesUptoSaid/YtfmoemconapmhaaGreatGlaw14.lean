/- PRINTED by wip/tools/shallow.py: functions of the program as readable words, and that each is what its text says. -/
import Derived.Test.YtfmoemconapmhaaGreatGn
set_option linter.all false
namespace Go.Proofs.YtfmoemconapmhaaGreat.Ah
open Go Go.Proofs.Tryz
noncomputable section
variable (P:Program)(w0:World){h:Hp}{R:av}
abbrev FG:Func:=f4
def GL:List (Nat×List Nat×List Nat):=[(5,[1,2,3,4,28,29,30],[2,3,4])]
def ut(R:Ko7)(k0 kr:Ko3)(x1 x2 x3 x4 x28 x29 x30:Value):Hp→Prop:=
 aa (ah .lss x30 x29) λz=>
 aB z (
 aJ 5 x28 x30 λba=>
 aG w0 ba 5 λbb=>
 cA [(.int .i64 0),(.string .empty),(.string .empty),(.string .empty),(.int .i64 0)] 5 λc=>
 bU w0 c bb 5 λ_=>
 au c 0 λbc=>
 al w0 bc λl=>
 aa (ah .eql l (.int .i64 8)) λbd=>
 aB bd (
 af (au x1 0) λd=>
 aD (aG w0 d 3) λe=>
 af (λK=>K x3) λbe=>
 af (λK=>K x3) λbf=>
 aO [
 (am P w0 tc [be] λbg=>
 aP [(bZ (aG w0 d 3) e)] (
 aO [
 (am P w0 wg [bf] λbh=>
 aP [(bZ (aG w0 d 3) e)] (
 aO [
 (am P w0 AH [e,bg,bh] λbi=>
 aP [] (
 af (λK=>K bi) λo=>
 af (aa (aV o 0)) λbj=>
 af (aa (aV o 1)) λbk=>
 af (λK=>K bj) λs=>
 af (λK=>K bk) λbl=>
 bN (
 af (au x1 0) λg=>
 aD (aG w0 g 3) λi=>
 af (λK=>K x4) λbm=>
 af (λK=>K x4) λbn=>
 aO [
 (am P w0 sT [bm] λbo=>
 aP [(bZ (aG w0 g 3) i)] (
 aO [
 (am P w0 qL [bn] λbp=>
 aP [(bZ (aG w0 g 3) i)] (
 aO [
 (am P w0 A5 [i,bo,bp] λbq=>
 aP [] (
 af (λK=>K bq) λu=>
 af (aa (aV u 0)) λbr=>
 af (aa (aV u 1)) λbs=>
 af (λK=>K br) λj=>
 af (λK=>K bs) λbt=>
 bN (
 aa (ah .neq bl bt) λb=>
 ai b false (λK=>K s) λbu=>
 ai b false (aa (cN .neq bu (.pointer none))) λbv=>
 ai b false (λK=>K j) λbw=>
 ai b false (aa (cN .neq bw (.pointer none))) λbx=>
 ai b false (aa (jz .neq bv bx)) λbz=>
 aQ b (.bool true) bz λca=>
 aB ca (
 kr (.bool false) x3 x4) (
 aa (cN .neq j (.pointer none)) λcb=>
 aB cb (
 aa (ah .add x30 (.int .i64 1)) λcc=>
 R x1 x2 s j x28 x29 cc) (
 aa (ah .add x30 (.int .i64 1)) λcd=>
 R x1 x2 x3 x4 x28 x29 cd)))))]))]))])))]))]))]) (
 aa (ah .eql l (.int .i64 9)) λce=>
 aB ce (
 am P w0 AA [x3] λv=>
 am P w0 Ay [x4] λcf=>
 aa (cN .eql v (.pointer none)) λcg=>
 aB cg (
 kr (.bool false) x3 x4) (
 am P w0 pw [x3,(.string ⟨#[97,32,102,111,114,107,39,115,32,111,119,110]⟩),(.string ⟨#[120]⟩)] λcm=>
 am P w0 sZ [x3] λcn=>
 aa (ah .add x30 (.int .i64 1)) λch=>
 R x1 x2 v cf x28 x29 ch)) (
 aG w0 c 5 λci=>
 am P w0 Am [x3,x4,ci] λcj=>
 aa (unA .not cj) λck=>
 aB ck (
 kr (.bool false) x3 x4) (
 aa (ah .add x30 (.int .i64 1)) λcl=>
 R x1 x2 x3 x4 x28 x29 cl)))) (
 k0 x2 x3 x4)
def mD(P:Program)(w0:World)(k0 kr:Ko3):Nat→Value→Value→Value→Value→Value→Value→Value→Hp→Prop
 |0,_,_,_,_,_,_,_=>λ_=>False
 |m+1,x1,x2,x3,x4,x28,x29,x30=>ut P w0 (mD P w0 k0 kr m) k0 kr x1 x2 x3 x4 x28 x29 x30
def DO(k0 kr:Ko3)(x1 x2 x3 x4 x28 x29 x30:Value):Hp→Prop:=λh=>∃m,mD P w0 k0 kr m x1 x2 x3 x4 x28 x29 x30 h
def B9(a0:Value)(R:av):Hp→Prop:=
 cF true 4 a0 λb=>
 aG w0 b 4 λj=>
 am P w0 Al [j] λc=>
 aa (aV c 0) λl=>
 aa (aV c 1) λe=>
 aa (aV c 2) λg=>
 aa (unA .not g) λd=>
 ai d false (λK=>K e) λo=>
 ai d false (aa (cN .eql o (.pointer none))) λs=>
 aQ d (.bool true) s λu=>
 aB u (
 ar [g] R) (
 au b 3 λv=>
 al w0 v λi=>
 aa (aM i) λz=>
 DO P w0 (λbe ba bb=>
 am P w0 An [ba,bb] λbc=>
 ar [bc] R) (λbd bf bg=>
 ar [bd] R) b (.bool false) l e i z (.int .i64 0))
def DP(w0:World)(k0 kr:Ko3)(m:Nat)(x1 x2 x3 x4 x28 x29 x30:Value):Hp→Prop:=bJ (stepL ⟨prog,w0,95,GL⟩ (drw w0 95) (bQ FG 0)) m (bK [(1,x1),(2,x2),(3,x3),(4,x4),(28,x28),(29,x29),(30,x30)]) [λt=>k0 (t 2) (t 3) (t 4),λt=>kr (t 2) (t 3) (t 4)]
theorem QX(w0:World)(k0 kr:Ko3):∀m,DP w0 k0 kr m=mD prog w0 k0 kr m:=by
 intro m
 induction m with
 |zero=>kernel_rfl
 |succ m ih=>
  show _=λx1 x2 x3 x4 x28 x29 x30=>ut prog w0 (mD prog w0 k0 kr m) k0 kr x1 x2 x3 x4 x28 x29 x30
  rw[←ih]
  kernel_rfl
theorem QW(w0:World):DO prog w0=λk0 kr x1 x2 x3 x4 x28 x29 x30 h=>∃m,DP w0 k0 kr m x1 x2 x3 x4 x28 x29 x30 h:=by
 funext k0 kr x1 x2 x3 x4 x28 x29 x30 h
 simp only[QX]
 rfl
theorem Ov{w0:World}{a0:Value}(hj:∀v,v∈[a0]→v≠junk)(hv:B9 prog w0 a0 R h):aj prog w0 Iq [a0] h R:=
 aI FG GL 95 (by kernel_rfl) (by kernel_rfl) (by simp) hj (by
  unfold B9
  rw[QW w0]
  kernel_rfl) hv
abbrev TI:Func:=f9
def Wn:List (Nat×List Nat×List Nat):=[]
def JP(a0:Value)(R:av):Hp→Prop:=
 cF true 4 a0 λd=>
 au d 0 λl=>
 aG w0 l 3 λo=>
 am P w0 qN [o] λe=>
 aa (aV e 0) λg=>
 aa (aV e 1) λs=>
 au d 0 λu=>
 aG w0 u 3 λv=>
 am P w0 sY [v] λi=>
 aa (aV i 0) λj=>
 aa (aV i 1) λz=>
 am P w0 Ak [] λc=>
 ai c true (λK=>K s) λba=>
 ai c true (λK=>K z) λbb=>
 ai c true (aa (ah .eql ba bb)) λbc=>
 aQ c bc (.bool false) λb=>
 ai b true (λK=>K g) λbd=>
 ai b true (aa (cN .neq bd (.pointer none))) λbe=>
 ai b true (λK=>K j) λbf=>
 ai b true (aa (cN .neq bf (.pointer none))) λbg=>
 ai b true (aa (jz .eql be bg)) λbh=>
 aQ b bh (.bool false) λbi=>
 ar [g,j,bi] R
theorem Ox{w0:World}{a0:Value}(hj:∀v,v∈[a0]→v≠junk)(hv:JP prog w0 a0 R h):aj prog w0 Al [a0] h R:=
 aI TI Wn 34 (by kernel_rfl) (by kernel_rfl) (by simp) hj (by
  kernel_rfl) hv
abbrev TJ:Func:=f25
def Wo:List (Nat×List Nat×List Nat):=[]
def JQ(a0 a1 a2:Value)(R:av):Hp→Prop:=
 cF true 5 a2 λb=>
 au b 0 λbe=>
 al w0 be λc=>
 aa (ah .eql c (.int .i64 0)) λbf=>
 aB bf (
 af (λK=>K a0) λbg=>
 af (au b 1) λbh=>
 aD (al w0 bh) λbi=>
 af (au b 3) λbj=>
 aD (al w0 bj) λbk=>
 af (λK=>K a1) λbl=>
 af (au b 1) λe=>
 aD (al w0 e) λg=>
 af (au b 3) λi=>
 aD (al w0 i) λj=>
 aO [
 (am P w0 pw [bg,bi,bk] λbm=>
 aP [(bZ (al w0 i) j),(bZ (al w0 e) g)] (
 aO [
 (am P w0 A0 [bl,g,j] λbn=>
 aP [] (
 af (aa (ah .eql bm bn)) λbo=>
 af (λK=>K bo) λbp=>
 bN (
 ar [bp] R)))]))]) (
 aa (ah .eql c (.int .i64 1)) λbq=>
 aB bq (
 af (λK=>K a0) λbr=>
 af (au b 1) λbs=>
 aD (al w0 bs) λbt=>
 af (λK=>K a1) λbu=>
 af (au b 1) λl=>
 aD (al w0 l) λo=>
 aO [
 (am P w0 wc [br,bt] λbv=>
 aP [(bZ (al w0 l) o)] (
 aO [
 (am P w0 Ax [bu,o] λbw=>
 aP [] (
 af (aa (ah .eql bv bw)) λbx=>
 af (λK=>K bx) λbz=>
 bN (
 ar [bz] R)))]))]) (
 aa (ah .eql c (.int .i64 2)) λca=>
 aB ca (
 au b 1 λcb=>
 al w0 cb λcc=>
 am P w0 ta [a0,cc] λs=>
 aa (aV s 0) λcd=>
 aa (aV s 1) λce=>
 au b 1 λcf=>
 al w0 cf λcg=>
 am P w0 Az [a1,cg] λu=>
 aa (aV u 0) λch=>
 aa (aV u 1) λci=>
 aa (ah .eql cd ch) λd=>
 ai d true (λK=>K ce) λcj=>
 ai d true (λK=>K ci) λck=>
 ai d true (aa (jz .eql cj ck)) λcl=>
 aQ d cl (.bool false) λcm=>
 ar [cm] R) (
 aa (ah .eql c (.int .i64 3)) λcn=>
 aB cn (
 af (λK=>K a0) λco=>
 af (au b 1) λv=>
 aD (al w0 v) λz=>
 af (au b 2) λba=>
 aD (al w0 ba) λbb=>
 af (λK=>K a1) λcp=>
 af (au b 1) λcq=>
 aD (al w0 cq) λcr=>
 af (au b 2) λcs=>
 aD (al w0 cs) λct=>
 af (au b 4) λbc=>
 aD (al w0 bc) λbd=>
 aO [
 (am P w0 sU [cp,cr,ct] λcu=>
 aP [(bZ (al w0 bc) bd),(bZ (al w0 ba) bb),(bZ (al w0 v) z)] (
 aO [
 (am P w0 vS [co,z,bb,cu,bd] λcv=>
 aP [] (
 af (λK=>K cv) λcw=>
 bN (
 ar [cw] R)))]))]) (
 aa (ah .eql c (.int .i64 4)) λcx=>
 aB cx (
 am P w0 sZ [a0] λcy=>
 am P w0 vY [a1] λcz=>
 aa (jz .eql cy cz) λda=>
 ar [da] R) (
 aa (ah .eql c (.int .i64 5)) λdb=>
 aB db (
 am P w0 wi [a0] λdc=>
 am P w0 A1 [a1] λdd=>
 aa (jz .eql dc dd) λde=>
 ar [de] R) (
 aa (ah .eql c (.int .i64 6)) λdf=>
 aB df (
 am P w0 pz [a0] λdg=>
 am P w0 sW [a1] λdh=>
 am P w0 qI [dg,dh] λdi=>
 ar [di] R) (
 aa (ah .eql c (.int .i64 7)) λdj=>
 aB dj (
 am P w0 vR [a0,a1] λdk=>
 ar [dk] R) (
 ar [(.bool true)] R))))))))
theorem Oy{w0:World}{a0 a1 a2:Value}(hj:∀v,v∈[a0,a1,a2]→v≠junk)(hv:JQ prog w0 a0 a1 a2 R h):aj prog w0 Am [a0,a1,a2] h R:=
 aI TJ Wo 105 (by kernel_rfl) (by kernel_rfl) (by simp) hj (by
  kernel_rfl) hv
abbrev TK:Func:=f26
def Wp:List (Nat×List Nat×List Nat):=[]
def JR(a0 a1:Value)(R:av):Hp→Prop:=
 am P w0 pz [a0] λd=>
 am P w0 sW [a1] λe=>
 am P w0 qI [d,e] λb=>
 ai b true (λK=>K a0) λg=>
 ai b true (λK=>K a1) λi=>
 ai b true (am P w0 sU [i,(.string .empty),(.string .empty)]) λj=>
 ai b true (am P w0 vS [g,(.string .empty),(.string .empty),j,(.int .i64 1)]) λl=>
 aQ b l (.bool false) λc=>
 ai c true (λK=>K a0) λo=>
 ai c true (λK=>K a1) λs=>
 ai c true (am P w0 vR [o,s]) λu=>
 aQ c u (.bool false) λv=>
 ar [v] R
theorem O0{w0:World}{a0 a1:Value}(hj:∀v,v∈[a0,a1]→v≠junk)(hv:JR prog w0 a0 a1 R h):aj prog w0 An [a0,a1] h R:=
 aI TK Wp 21 (by kernel_rfl) (by kernel_rfl) (by simp) hj (by
  kernel_rfl) hv
abbrev TH:Func:=f30
def Wm:List (Nat×List Nat×List Nat):=[]
def JO(R:av):Hp→Prop:=
 dI [(0,1,false,(.int .i64 256)),(1,1,false,(.int .i64 2)),(2,1,false,(.int .i64 2))] [(.int .i64 0),(.int .i64 0),(.int .i64 0)] λv=>
 am P w0 qN [v] λl=>
 aa (aV l 0) λb=>
 aa (aV l 1) λz=>
 aa (ah .neq z (.int .i64 0)) λe=>
 ai e false (λK=>K b) λba=>
 ai e false (aa (cN .eql ba (.pointer none))) λbb=>
 aQ e (.bool true) bb λd=>
 ai d false (λK=>K b) λbc=>
 ai d false (am P w0 wh [bc,(.string .empty),(.string .empty)]) λbd=>
 ai d false (aa (rE .eql bd .nilFunc)) λbe=>
 aQ d (.bool true) be λbf=>
 aB bf (
 ar [(.bool false)] R) (
 am P w0 pw [b,(.string ⟨#[97]⟩),(.string ⟨#[49]⟩)] λbx=>
 am P w0 pw [b,(.string ⟨#[98]⟩),(.string ⟨#[50]⟩)] λbz=>
 am P w0 pw [b,(.string ⟨#[97]⟩),(.string ⟨#[51]⟩)] λca=>
 am P w0 wc [b,(.string ⟨#[98]⟩)] λcb=>
 am P w0 pz [b] λbg=>
 bI [(0,1,false,(.int .i64 2))] (aL [(.int .i64 0)] 1) 1 1 λbh=>
 am P w0 qI [bg,bh] λg=>
 am P w0 ta [b,(.string ⟨#[97]⟩)] λo=>
 aa (aV o 0) λbi=>
 aa (aV o 1) λbj=>
 am P w0 ta [b,(.string ⟨#[98]⟩)] λs=>
 aa (aV s 0) λcc=>
 aa (aV s 1) λbk=>
 ai g true (λK=>K b) λbl=>
 ai g true (am P w0 wi [bl]) λbm=>
 aQ g bm (.bool false) λc=>
 ai c true (λK=>K b) λbn=>
 ai c true (am P w0 pz [bn]) λbo=>
 ai c true (bI [(0,1,false,(.int .i64 0)),(1,1,false,(.int .i64 1))] (aL [(.int .i64 0)] 2) 2 1) λbp=>
 ai c true (am P w0 qI [bo,bp]) λbq=>
 aQ c bq (.bool false) λi=>
 ai i true (λK=>K bi) λbr=>
 ai i true (aa (ah .eql br (.string ⟨#[51]⟩))) λbs=>
 aQ i bs (.bool false) λu=>
 ai u true (λK=>K bj) λbt=>
 aQ u bt (.bool false) λj=>
 ai j true (λK=>K bk) λbu=>
 ai j true (aa (unA .not bu)) λbv=>
 aQ j bv (.bool false) λbw=>
 ar [bw] R)
theorem Ow{w0:World}(hj:∀v,v∈[]→v≠junk)(hv:JO prog w0  R h):aj prog w0 Ak [] h R:=
 aI TH Wm 68 (by kernel_rfl) (by kernel_rfl) (by simp) hj (by
  kernel_rfl) hv
abbrev FJ:Func:=f75
def GN:List (Nat×List Nat×List Nat):=[(3,[8,9,10,11,12],[10])]
def DY(P:Program)(w0:World)(b:Nat)(g:Lp)(K:av)(x8 x9 x10 x12 x13 y25 y26:Value):Hp→Prop:=
 mz b g (
 al w0 x13 λi=>
 al w0 x8 λj=>
 aa (aM j) λl=>
 aa (ah .geq i l) λc=>
 ai c false (λK=>K y25) λo=>
 ai c false (al w0 x8) λs=>
 ai c false (al w0 x13) λu=>
 ai c false (aJ 2 s u) λv=>
 ai c false (au v 0) λz=>
 ai c false (al w0 z) λba=>
 ai c false (aa (ah .neq o ba)) λbb=>
 aQ c (.bool true) bb λd=>
 ai d false (λK=>K y26) λbc=>
 ai d false (al w0 x8) λbd=>
 ai d false (al w0 x13) λbe=>
 ai d false (aJ 2 bd be) λbf=>
 ai d false (au bf 1) λbg=>
 ai d false (al w0 bg) λbh=>
 ai d false (aa (ah .neq bc bh)) λbi=>
 aQ d (.bool true) bi λbj=>
 aB bj (
 bO w0 x10 (.bool false) λ_=>
 fq b g (some none) K) (
 al w0 x13 λbk=>
 aa (ah .add bk (.int .i64 1)) λbl=>
 bO w0 x13 bl λ_=>
 al w0 x12 λbm=>
 aa (ah .eql bm (.int .i64 0)) λe=>
 ai e true (al w0 x13) λbn=>
 ai e true (al w0 x9) λbo=>
 ai e true (aa (ah .eql bn bo)) λbp=>
 aQ e bp (.bool false) λbq=>
 aB bq (
 fq b g (some (some 2)) K) (
 fq b g none K)))
def ux(R:Ko5)(k0 kr:Ko1)(x8 x9 x10 x11 x12:Value):Hp→Prop:=
 al w0 x12 λs=>
 aa (ah .lss s (.int .i64 2)) λu=>
 aB u (
 cA [(.int .i64 0)] 1 λc=>
 bO w0 c (.int .i64 0) λ_=>
 iY P w0 x11 2 (λb g args K=>DY P w0 b g K x8 x9 x10 x12 c (args.getD 0 undef) (args.tail.getD 0 undef)) (
 al w0 c λv=>
 al w0 x8 λz=>
 aa (aM z) λba=>
 aa (ah .neq v ba) λd=>
 ai d true (al w0 x12) λbb=>
 ai d true (aa (ah .neq bb (.int .i64 0))) λbc=>
 ai d true (λK=>K bc) λi=>
 ai i false (al w0 c) λbd=>
 ai i false (al w0 x9) λbe=>
 ai i false (aa (ah .neq bd be)) λbf=>
 ai d true (aQ i (.bool true) bf) λbg=>
 aQ d bg (.bool false) λbh=>
 aB bh (
 bO w0 x10 (.bool false) λ_=>
 kr x10) (
 al w0 x12 λbi=>
 cA [(.int .i64 0)] 1 λj=>
 bO w0 j bi λ_=>
 al w0 j λbj=>
 aa (ah .add bj (.int .i64 1)) λbk=>
 bO w0 j bk λ_=>
 R x8 x9 x10 x11 j)) [(none,(
 kr x10)),(some 2,(
 al w0 c λbl=>
 al w0 x8 λbm=>
 aa (aM bm) λbn=>
 aa (ah .neq bl bn) λe=>
 ai e true (al w0 x12) λbo=>
 ai e true (aa (ah .neq bo (.int .i64 0))) λbp=>
 ai e true (λK=>K bp) λl=>
 ai l false (al w0 c) λbq=>
 ai l false (al w0 x9) λbr=>
 ai l false (aa (ah .neq bq br)) λbs=>
 ai e true (aQ l (.bool true) bs) λbt=>
 aQ e bt (.bool false) λbu=>
 aB bu (
 bO w0 x10 (.bool false) λ_=>
 kr x10) (
 al w0 x12 λbv=>
 cA [(.int .i64 0)] 1 λo=>
 bO w0 o bv λ_=>
 al w0 o λbw=>
 aa (ah .add bw (.int .i64 1)) λbx=>
 bO w0 o bx λ_=>
 R x8 x9 x10 x11 o)))]) (
 k0 x10)
def mE(P:Program)(w0:World)(k0 kr:Ko1):Nat→Value→Value→Value→Value→Value→Hp→Prop
 |0,_,_,_,_,_=>λ_=>False
 |m+1,x8,x9,x10,x11,x12=>ux P w0 (mE P w0 k0 kr m) k0 kr x8 x9 x10 x11 x12
def DW(k0 kr:Ko1)(x8 x9 x10 x11 x12:Value):Hp→Prop:=λh=>∃m,mE P w0 k0 kr m x8 x9 x10 x11 x12 h
def BC(a0 a1 a2 a3 a4:Value)(R:av):Hp→Prop:=
 λh0=>(cF false 1 a3 λd=>
 cF false 1 a4 λe=>
 cA [(.bool false)] 1 λg=>
 am P w0 wh [a0,a1,a2] λi=>
 cA [(.int .i64 0)] 1 λb=>
 bO w0 b (.int .i64 0) λ_=>
 DW P w0 (λc=>
 bO w0 c (.bool true) λ_=>
 ie h0 (
 al w0 c λj=>
 ar [j] R)) (λl=>
 ie h0 (
 al w0 l λo=>
 ar [o] R)) d e g i b) h0
def DX(w0:World)(k0 kr:Ko1)(m:Nat)(x8 x9 x10 x11 x12:Value):Hp→Prop:=bJ (C6 ⟨prog,w0,72,GN⟩ (drw w0 72) (bQ FJ 0)) m (bK [(8,x8),(9,x9),(10,x10),(11,x11),(12,x12)]) [λt=>k0 (t 10),λt=>kr (t 10)]
theorem Ri(w0:World)(k0 kr:Ko1):∀m,DX w0 k0 kr m=mE prog w0 k0 kr m:=by
 intro m
 induction m with
 |zero=>kernel_rfl
 |succ m ih=>
  show _=λx8 x9 x10 x11 x12=>ux prog w0 (mE prog w0 k0 kr m) k0 kr x8 x9 x10 x11 x12
  rw[←ih]
  kernel_rfl
theorem Rh(w0:World):DW prog w0=λk0 kr x8 x9 x10 x11 x12 h=>∃m,DX w0 k0 kr m x8 x9 x10 x11 x12 h:=by
 funext k0 kr x8 x9 x10 x11 x12 h
 simp only[Ri]
 rfl
theorem O2{w0:World}{a0 a1 a2 a3 a4:Value}(hj:∀v,v∈[a0,a1,a2,a3,a4]→v≠junk)(hv:BC prog w0 a0 a1 a2 a3 a4 R h):aj prog w0 vS [a0,a1,a2,a3,a4] h R:=
 rH FJ GN 72 (by kernel_rfl) (by kernel_rfl) (by simp) hj (by
  unfold BC
  rw[Rh w0]
  kernel_rfl) hv
abbrev FH:Func:=f79
def GM:List (Nat×List Nat×List Nat):=[(4,[0,1,4,12,13],[4])]
def uw(P:Program)(w0:World)(R:Ko5)(k0 kr:Ko1)(x0 x1 x4 x12 x13:Value):Hp→Prop:=
 aa (ah .lss x13 x12) λb=>
 aB b (
 af (λK=>K x0) λc=>
 af (λK=>K x13) λd=>
 af (aJ 1 c d) λe=>
 aD (al w0 e) λg=>
 af (λK=>K x1) λi=>
 af (λK=>K x13) λj=>
 af (aJ 1 i j) λl=>
 aD (al w0 l) λo=>
 af (aa (ah .neq g o)) λs=>
 bN (
 aB s (
 kr (.bool false)) (
 aa (ah .add x13 (.int .i64 1)) λu=>
 R x0 x1 x4 x12 u))) (
 k0 x4)
def nT(P:Program)(w0:World)(k0 kr:Ko1):Nat→Value→Value→Value→Value→Value→Hp→Prop
 |0,_,_,_,_,_=>λ_=>False
 |m+1,x0,x1,x4,x12,x13=>uw P w0 (nT P w0 k0 kr m) k0 kr x0 x1 x4 x12 x13
def DU(k0 kr:Ko1)(x0 x1 x4 x12 x13:Value):Hp→Prop:=λh=>∃m,nT P w0 k0 kr m x0 x1 x4 x12 x13 h
def BB(a0 a1:Value)(R:av):Hp→Prop:=
 aa (aM a0) λb=>
 aa (aM a1) λc=>
 aa (ah .neq b c) λd=>
 aB d (
 ar [(.bool false)] R) (
 aa (aM a0) λe=>
 DU P w0 (λi=>
 ar [(.bool true)] R) (λg=>
 ar [g] R) a0 a1 (.bool false) e (.int .i64 0))
def DV(w0:World)(k0 kr:Ko1)(m:Nat)(x0 x1 x4 x12 x13:Value):Hp→Prop:=bJ (stepL ⟨prog,w0,26,GM⟩ (drw w0 26) (bQ FH 0)) m (bK [(0,x0),(1,x1),(4,x4),(12,x12),(13,x13)]) [λt=>k0 (t 4),λt=>kr (t 4)]
theorem Rg(w0:World)(k0 kr:Ko1):∀m,DV w0 k0 kr m=nT prog w0 k0 kr m:=by
 intro m
 induction m with
 |zero=>kernel_rfl
 |succ m ih=>
  show _=λx0 x1 x4 x12 x13=>uw prog w0 (nT prog w0 k0 kr m) k0 kr x0 x1 x4 x12 x13
  rw[←ih]
  kernel_rfl
theorem Rf(w0:World):DU prog w0=λk0 kr x0 x1 x4 x12 x13 h=>∃m,DV w0 k0 kr m x0 x1 x4 x12 x13 h:=by
 funext k0 kr x0 x1 x4 x12 x13 h
 simp only[Rg]
 rfl
theorem O1{w0:World}{a0 a1:Value}(hj:∀v,v∈[a0,a1]→v≠junk)(hv:BB prog w0 a0 a1 R h):aj prog w0 qI [a0,a1] h R:=
 aI FH GM 26 (by kernel_rfl) (by kernel_rfl) (by simp) hj (by
  unfold BB
  rw[Rf w0]
  kernel_rfl) hv
abbrev zd:Func:=f80
def zF:List (Nat×List Nat×List Nat):=[(5,[4,5,6,27,28],[4]),(10,[4,5,6,7,27,28,45,46],[4,5,6,27,28])]
def uu(P:Program)(w0:World)(R:Ko8)(k2:Ko5)(x4 x5 x6 x7 x27 x28 x45 x46:Value):Hp→Prop:=
 aa (ah .lss x46 x45) λc=>
 aB c (
 aJ 1 x5 x7 λd=>
 al w0 d λb=>
 aJ 1 b x46 λe=>
 al w0 e λg=>
 aa (ah .add g (.int .u8 1)) λi=>
 aJ 1 b x46 λj=>
 bO w0 j i λ_=>
 aa (ah .add x46 (.int .i64 1)) λl=>
 R x4 x5 x6 x7 x27 x28 x45 l) (
 k2 x4 x5 x6 x27 x28)
def nS(P:Program)(w0:World)(k2:Ko5):Nat→Value→Value→Value→Value→Value→Value→Value→Value→Hp→Prop
 |0,_,_,_,_,_,_,_,_=>λ_=>False
 |m+1,x4,x5,x6,x7,x27,x28,x45,x46=>uu P w0 (nS P w0 k2 m) k2 x4 x5 x6 x7 x27 x28 x45 x46
def DR(k2:Ko5)(x4 x5 x6 x7 x27 x28 x45 x46:Value):Hp→Prop:=λh=>∃m,nS P w0 k2 m x4 x5 x6 x7 x27 x28 x45 x46 h
def rQ(R:Ko5)(k0 kr:Ko1)(x4 x5 x6 x27 x28:Value):Hp→Prop:=
 aa (ah .lss x28 x27) λb=>
 aB b (
 af (λK=>K x5) λc=>
 af (λK=>K x28) λd=>
 af (aJ 1 c d) λe=>
 aD (al w0 e) λg=>
 aD (dW w0 g) λi=>
 af (λK=>K x6) λj=>
 af (λK=>K x28) λl=>
 af (aJ 1 j l) λo=>
 aD (al w0 o) λs=>
 af (aa (ah .neq i s)) λu=>
 bN (
 aB u (
 kr (.bool false)) (
 aJ 1 x5 x28 λv=>
 al w0 v λz=>
 aa (aM z) λba=>
 DR P w0 (λbb bc bd be bf=>
 aa (ah .add bf (.int .i64 1)) λbg=>
 R bb bc bd be bg) x4 x5 x6 x28 x27 x28 ba (.int .i64 0)))) (
 k0 x4)
def nR(P:Program)(w0:World)(k0 kr:Ko1):Nat→Value→Value→Value→Value→Value→Hp→Prop
 |0,_,_,_,_,_=>λ_=>False
 |m+1,x4,x5,x6,x27,x28=>rQ P w0 (nR P w0 k0 kr m) k0 kr x4 x5 x6 x27 x28
def DQ(k0 kr:Ko1)(x4 x5 x6 x27 x28:Value):Hp→Prop:=λh=>∃m,nR P w0 k0 kr m x4 x5 x6 x27 x28 h
def BA(a0 a1:Value)(R:av):Hp→Prop:=
 am P w0 wg [a0] λc=>
 am P w0 qL [a1] λd=>
 af (λK=>K c) λi=>
 af (aa (aM i)) λj=>
 af (λK=>K d) λl=>
 af (aa (aM l)) λo=>
 af (aa (ah .neq j o)) λs=>
 af (λK=>K s) λb=>
 af (ai b false (λK=>K a0)) λu=>
 af (ai b false (λK=>K a1)) λv=>
 aO [
 (ai b false (am P w0 tc [u]) λe=>
 aP [] (
 aD (ai b false (dW w0 e)) λg=>
 aO [
 (ai b false (am P w0 sT [v]) λz=>
 aP [(bZ (ai b false (dW w0 e)) g)] (
 af (ai b false (aa (ah .neq g z))) λba=>
 af (aQ b (.bool true) ba) λbb=>
 bN (
 aB bb (
 ar [(.bool false)] R) (
 aa (aM c) λbc=>
 DQ P w0 (λbe=>
 ar [(.bool true)] R) (λbd=>
 ar [bd] R) (.bool false) c d bc (.int .i64 0)))))]))]
def DT(w0:World)(k2:Ko5)(m:Nat)(x4 x5 x6 x7 x27 x28 x45 x46:Value):Hp→Prop:=bJ (stepL ⟨prog,w0,60,zF⟩ (drw w0 60) (bQ zd 1)) m (bK [(4,x4),(5,x5),(6,x6),(7,x7),(27,x27),(28,x28),(45,x45),(46,x46)]) [λt=>k2 (t 4) (t 5) (t 6) (t 27) (t 28)]
theorem Re(w0:World)(k2:Ko5):∀m,DT w0 k2 m=nS prog w0 k2 m:=by
 intro m
 induction m with
 |zero=>kernel_rfl
 |succ m ih=>
  show _=λx4 x5 x6 x7 x27 x28 x45 x46=>uu prog w0 (nS prog w0 k2 m) k2 x4 x5 x6 x7 x27 x28 x45 x46
  rw[←ih]
  kernel_rfl
theorem QZ(w0:World):DR prog w0=λk2 x4 x5 x6 x7 x27 x28 x45 x46 h=>∃m,DT w0 k2 m x4 x5 x6 x7 x27 x28 x45 x46 h:=by
 funext k2 x4 x5 x6 x7 x27 x28 x45 x46 h
 simp only[Re]
 rfl
def DS(w0:World)(k0 kr:Ko1)(m:Nat)(x4 x5 x6 x27 x28:Value):Hp→Prop:=bJ (stepL ⟨prog,w0,60,zF⟩ (drw w0 60) (bQ zd 0)) m (bK [(4,x4),(5,x5),(6,x6),(27,x27),(28,x28)]) [λt=>k0 (t 4),λt=>kr (t 4)]
theorem Rc(w0:World)(k0 kr:Ko1):∀m,DS w0 k0 kr m=nR prog w0 k0 kr m:=by
 intro m
 induction m with
 |zero=>kernel_rfl
 |succ m ih=>
  show _=λx4 x5 x6 x27 x28=>rQ prog w0 (nR prog w0 k0 kr m) k0 kr x4 x5 x6 x27 x28
  rw[←ih]
  unfold rQ
  rw[QZ w0]
  kernel_rfl
theorem QY(w0:World):DQ prog w0=λk0 kr x4 x5 x6 x27 x28 h=>∃m,DS w0 k0 kr m x4 x5 x6 x27 x28 h:=by
 funext k0 kr x4 x5 x6 x27 x28 h
 simp only[Rc]
 rfl
theorem Oz{w0:World}{a0 a1:Value}(hj:∀v,v∈[a0,a1]→v≠junk)(hv:BA prog w0 a0 a1 R h):aj prog w0 vR [a0,a1] h R:=
 aI zd zF 60 (by kernel_rfl) (by kernel_rfl) (by simp) hj (by
  unfold BA
  rw[QY w0]
  kernel_rfl) hv
end
