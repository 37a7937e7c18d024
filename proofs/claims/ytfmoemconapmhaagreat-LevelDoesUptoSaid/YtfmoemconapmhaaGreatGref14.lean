/- PRINTED by wip/tools/shallow.py: functions of the program as readable words, and that each is what its text says. -/
import Derived.Test.YtfmoemconapmhaaGreatGn
set_option linter.all false
namespace Go.Proofs.YtfmoemconapmhaaGreat.Ah
open Go Go.Proofs.Tryz
noncomputable section
variable (P:Program)(w0:World){h:Hp}{R:av}
abbrev vd:Func:=f20
def vv:List (Nat×List Nat×List Nat):=[(8,[1,2,3,6,7,8,11,13],[1,2,3,6,7,8,13]),(19,[1,2,3,6,7,8,13,17,18],[1,2,6,7,8,13]),(26,[1,2,3,6,7,8,13,17,18,19,20],[1,2,3,6,7,8,13,17,18])]
def uR(R:Ko8)(k0 kr:Ko7)(x1 x2 x3 x6 x7 x8 x11 x13:Value):Hp→Prop:=
 aa (cD x11) λe=>
 aa (ah .gtr e (.int .i64 0)) λg=>
 aB g (
 am P w0 qK [x11] λb=>
 aa (aV b 0) λd=>
 aa (aV b 1) λi=>
 aa (aV b 2) λj=>
 aa (ah .neq j (.int .i64 0)) λc=>
 ai c false (λK=>K d) λl=>
 ai c false (aa (ah .gtr l (.int .u64 1099511627776))) λo=>
 aQ c (.bool true) o λs=>
 aB s (
 kr x1 x2 x3 (.pointer none) (.int .i64 141) x8 x13) (
 aa (bG .i64 d) λu=>
 bI [(0,1,false,u)] (aL [(.int .i64 0)] 1) 1 1 λv=>
 bD w0 1 8 x13 v λz=>
 aa (dD x11 (some i) none) λba=>
 R x1 x2 x3 x6 x7 x8 ba z)) (
 k0 x1 x2 x3 x6 x7 x8 x13)
def oH(P:Program)(w0:World)(k0 kr:Ko7):Nat→Value→Value→Value→Value→Value→Value→Value→Value→Hp→Prop
 |0,_,_,_,_,_,_,_,_=>λ_=>False
 |m+1,x1,x2,x3,x6,x7,x8,x11,x13=>uR P w0 (oH P w0 k0 kr m) k0 kr x1 x2 x3 x6 x7 x8 x11 x13
def EX(k0 kr:Ko7)(x1 x2 x3 x6 x7 x8 x11 x13:Value):Hp→Prop:=λh=>∃m,oH P w0 k0 kr m x1 x2 x3 x6 x7 x8 x11 x13 h
def uS(R:CR)(k4 kr:Ko9)(x1 x2 x3 x6 x7 x8 x13 x17 x18 x19 x20:Value):Hp→Prop:=
 aa (ah .lss x20 x19) λs=>
 aB s (
 aa (aM x2) λu=>
 aa (ah .eql u (.int .i64 0)) λc=>
 ai c false (λK=>K x13) λv=>
 ai c false (aa (aM v)) λz=>
 ai c false (aa (ah .lss z (.int .i64 2))) λba=>
 aQ c (.bool true) ba λbb=>
 aB bb (
 kr x1 x2 x3 (.pointer none) (.int .i64 141) x8 x13 x17 x18) (
 aJ 1 x2 (.int .i64 0) λbc=>
 al w0 bc λbd=>
 am P w0 As [bd] λd=>
 aa (aV d 0) λbe=>
 aa (aV d 1) λbf=>
 aa (aV d 2) λbg=>
 aa (ah .neq bg (.int .i64 0)) λb=>
 ai b false (λK=>K bf) λbh=>
 ai b false (au x3 0) λbi=>
 ai b false (al w0 bi) λbj=>
 ai b false (aa (ah .neq bh bj)) λbk=>
 aQ b (.bool true) bk λbl=>
 aB bl (
 kr x1 x2 x3 (.pointer none) (.int .i64 141) x8 x13 x17 x18) (
 af (λK=>K x8) λbm=>
 af (aF bm) λbn=>
 af (au bn 4) λe=>
 aD (al w0 e) λg=>
 af (λK=>K x18) λbo=>
 af (λK=>K x8) λbp=>
 af (aF bp) λbq=>
 af (au bq 4) λi=>
 aD (al w0 i) λj=>
 af (λK=>K x18) λbr=>
 af (aJ 1 j br) λl=>
 aD (al w0 l) λo=>
 af (λK=>K be) λbs=>
 aO [
 (bI [(0,1,false,bs)] (aL [(.slice none 0 0)] 1) 1 1 λbt=>
 aP [(bZ (al w0 l) o),(bZ (al w0 i) j),(bZ (al w0 e) g)] (
 aO [
 (bD w0 1 24 o bt λbu=>
 aP [(bZ (al w0 e) g)] (
 af (aJ 1 g bo) λbv=>
 aO [
 (bO w0 bv bu λ_=>
 aP [] (
 bN (
 af (λK=>K x13) λbw=>
 aD (cT 1 bw (some (.int .i64 2)) none none) λbx=>
 af (λK=>K x2) λbz=>
 aD (cT 1 bz (some (.int .i64 1)) none none) λca=>
 af (λK=>K bx) λcb=>
 af (λK=>K ca) λcc=>
 bN (
 aa (ah .add x20 (.int .i64 1)) λcd=>
 R x1 cc x3 x6 x7 x8 cb x17 x18 x19 cd))))]))]))]))) (
 k4 x1 x2 x3 x6 x7 x8 x13 x17 x18)
def oJ(P:Program)(w0:World)(k4 kr:Ko9):Nat→Value→Value→Value→Value→Value→Value→Value→Value→Value→Value→Value→Hp→Prop
 |0,_,_,_,_,_,_,_,_,_,_,_=>λ_=>False
 |m+1,x1,x2,x3,x6,x7,x8,x13,x17,x18,x19,x20=>uS P w0 (oJ P w0 k4 kr m) k4 kr x1 x2 x3 x6 x7 x8 x13 x17 x18 x19 x20
def EZ(k4 kr:Ko9)(x1 x2 x3 x6 x7 x8 x13 x17 x18 x19 x20:Value):Hp→Prop:=λh=>∃m,oJ P w0 k4 kr m x1 x2 x3 x6 x7 x8 x13 x17 x18 x19 x20 h
def rY(R:Ko9)(k2 kr:Ko6)(x1 x2 x3 x6 x7 x8 x13 x17 x18:Value):Hp→Prop:=
 aa (ah .lss x18 x17) λc=>
 aB c (
 aa (aM x13) λd=>
 aa (ah .eql d (.int .i64 0)) λb=>
 ai b false (λK=>K x13) λe=>
 ai b false (aJ 1 e (.int .i64 0)) λg=>
 ai b false (al w0 g) λi=>
 ai b false (λK=>K x2) λj=>
 ai b false (aa (aM j)) λl=>
 ai b false (aa (ah .gtr i l)) λo=>
 aQ b (.bool true) o λs=>
 aB s (
 kr x1 x2 (.pointer none) (.int .i64 141) x8 x13) (
 aJ 1 x13 (.int .i64 0) λu=>
 al w0 u λv=>
 cT 1 x13 (some (.int .i64 1)) none none λz=>
 EZ P w0 (λba bb bc bd be bf bg bh bi=>
 aa (ah .add bi (.int .i64 1)) λbj=>
 R ba bb bc bd be bf bg bh bj) (λbk bl bq bm bn bo bp br bs=>
 kr bk bl bm bn bo bp) x1 x2 x3 x6 x7 x8 z x17 x18 v (.int .i64 0))) (
 k2 x1 x2 x6 x7 x8 x13)
def oI(P:Program)(w0:World)(k2 kr:Ko6):Nat→Value→Value→Value→Value→Value→Value→Value→Value→Value→Hp→Prop
 |0,_,_,_,_,_,_,_,_,_=>λ_=>False
 |m+1,x1,x2,x3,x6,x7,x8,x13,x17,x18=>rY P w0 (oI P w0 k2 kr m) k2 kr x1 x2 x3 x6 x7 x8 x13 x17 x18
def EY(k2 kr:Ko6)(x1 x2 x3 x6 x7 x8 x13 x17 x18:Value):Hp→Prop:=λh=>∃m,oI P w0 k2 kr m x1 x2 x3 x6 x7 x8 x13 x17 x18 h
def BW(a0 a1 a2:Value)(R:av):Hp→Prop:=
 cF true 3 a0 λl=>
 aG w0 l 3 λv=>
 am P w0 sY [v] λo=>
 aa (aV o 0) λz=>
 aa (aV o 1) λs=>
 aa (ah .neq s (.int .i64 0)) λba=>
 aB ba (
 ar [(.pointer none),s] R) (
 am P w0 Ap [a1] λe=>
 aa (aV e 0) λbb=>
 aa (aV e 1) λbc=>
 aa (aV e 2) λbd=>
 aa (aV e 3) λbe=>
 aa (ah .neq be (.int .i64 0)) λj=>
 ai j false (λK=>K bb) λbf=>
 ai j false (aa (ah .neq bf (.int .u8 77))) λbg=>
 aQ j (.bool true) bg λb=>
 ai b false (λK=>K bd) λbh=>
 ai b false (λK=>K a1) λbi=>
 ai b false (aa (cD bi)) λbj=>
 ai b false (aa (ah .neq bh bj)) λbk=>
 aQ b (.bool true) bk λbl=>
 aB bl (
 ar [(.pointer none),(.int .i64 141)] R) (
 EX P w0 (λbm bn bo bp bq br g=>
 aa (aM g) λbs=>
 aa (ah .lss bs (.int .i64 4)) λc=>
 ai c false (λK=>K g) λbt=>
 ai c false (aJ 1 bt (.int .i64 3)) λbu=>
 ai c false (al w0 bu) λbv=>
 ai c false (aa (ah .gtr bv (.int .i64 16))) λbw=>
 aQ c (.bool true) bw λbx=>
 aB bx (
 ar [(.pointer none),(.int .i64 141)] R) (
 aJ 1 g (.int .i64 3) λbz=>
 al w0 bz λca=>
 cT 1 g (some (.int .i64 4)) none none λcb=>
 EY P w0 (λcc cd cs ct u ce=>
 aa (aM ce) λcf=>
 aa (ah .gtr cf (.int .i64 0)) λi=>
 ai i false (λK=>K cd) λcg=>
 ai i false (aa (aM cg)) λch=>
 ai i false (aa (ah .gtr ch (.int .i64 0))) λci=>
 aQ i (.bool true) ci λd=>
 ai d false (λK=>K u) λcj=>
 ai d false (am P w0 sT [cj]) λck=>
 ai d false (λK=>K cc) λcl=>
 ai d false (aa (ah .neq ck cl)) λcm=>
 aQ d (.bool true) cm λcn=>
 aB cn (
 ar [(.pointer none),(.int .i64 141)] R) (
 ar [u,(.int .i64 0)] R)) (λcu cv co cp cw cx=>
 ar [co,cp] R) bm bn bo bp bq br cb ca (.int .i64 0))) (λcy cz da cq cr db dc=>
 ar [cq,cr] R) a1 a2 l (.pointer none) (.int .i64 0) z bc (.slice none 0 0)))
def Fc(w0:World)(k4 kr:Ko9)(m:Nat)(x1 x2 x3 x6 x7 x8 x13 x17 x18 x19 x20:Value):Hp→Prop:=bJ (stepL ⟨prog,w0,173,vv⟩ (drw w0 173) (bQ vd 2)) m (bK [(1,x1),(2,x2),(3,x3),(6,x6),(7,x7),(8,x8),(13,x13),(17,x17),(18,x18),(19,x19),(20,x20)]) [λt=>k4 (t 1) (t 2) (t 3) (t 6) (t 7) (t 8) (t 13) (t 17) (t 18),λt=>kr (t 1) (t 2) (t 3) (t 6) (t 7) (t 8) (t 13) (t 17) (t 18)]
theorem SD(w0:World)(k4 kr:Ko9):∀m,Fc w0 k4 kr m=oJ prog w0 k4 kr m:=by
 intro m
 induction m with
 |zero=>kernel_rfl
 |succ m ih=>
  show _=λx1 x2 x3 x6 x7 x8 x13 x17 x18 x19 x20=>uS prog w0 (oJ prog w0 k4 kr m) k4 kr x1 x2 x3 x6 x7 x8 x13 x17 x18 x19 x20
  rw[←ih]
  kernel_rfl
theorem Sx(w0:World):EZ prog w0=λk4 kr x1 x2 x3 x6 x7 x8 x13 x17 x18 x19 x20 h=>∃m,Fc w0 k4 kr m x1 x2 x3 x6 x7 x8 x13 x17 x18 x19 x20 h:=by
 funext k4 kr x1 x2 x3 x6 x7 x8 x13 x17 x18 x19 x20 h
 simp only[SD]
 rfl
def Fb(w0:World)(k2 kr:Ko6)(m:Nat)(x1 x2 x3 x6 x7 x8 x13 x17 x18:Value):Hp→Prop:=bJ (stepL ⟨prog,w0,173,vv⟩ (drw w0 173) (bQ vd 1)) m (bK [(1,x1),(2,x2),(3,x3),(6,x6),(7,x7),(8,x8),(13,x13),(17,x17),(18,x18)]) [λt=>k2 (t 1) (t 2) (t 6) (t 7) (t 8) (t 13),λt=>kr (t 1) (t 2) (t 6) (t 7) (t 8) (t 13)]
theorem SC(w0:World)(k2 kr:Ko6):∀m,Fb w0 k2 kr m=oI prog w0 k2 kr m:=by
 intro m
 induction m with
 |zero=>kernel_rfl
 |succ m ih=>
  show _=λx1 x2 x3 x6 x7 x8 x13 x17 x18=>rY prog w0 (oI prog w0 k2 kr m) k2 kr x1 x2 x3 x6 x7 x8 x13 x17 x18
  rw[←ih]
  unfold rY
  rw[Sx w0]
  kernel_rfl
theorem Sw(w0:World):EY prog w0=λk2 kr x1 x2 x3 x6 x7 x8 x13 x17 x18 h=>∃m,Fb w0 k2 kr m x1 x2 x3 x6 x7 x8 x13 x17 x18 h:=by
 funext k2 kr x1 x2 x3 x6 x7 x8 x13 x17 x18 h
 simp only[SC]
 rfl
def Fa(w0:World)(k0 kr:Ko7)(m:Nat)(x1 x2 x3 x6 x7 x8 x11 x13:Value):Hp→Prop:=bJ (stepL ⟨prog,w0,173,vv⟩ (drw w0 173) (bQ vd 0)) m (bK [(1,x1),(2,x2),(3,x3),(6,x6),(7,x7),(8,x8),(11,x11),(13,x13)]) [λt=>k0 (t 1) (t 2) (t 3) (t 6) (t 7) (t 8) (t 13),λt=>kr (t 1) (t 2) (t 3) (t 6) (t 7) (t 8) (t 13)]
theorem SA(w0:World)(k0 kr:Ko7):∀m,Fa w0 k0 kr m=oH prog w0 k0 kr m:=by
 intro m
 induction m with
 |zero=>kernel_rfl
 |succ m ih=>
  show _=λx1 x2 x3 x6 x7 x8 x11 x13=>uR prog w0 (oH prog w0 k0 kr m) k0 kr x1 x2 x3 x6 x7 x8 x11 x13
  rw[←ih]
  kernel_rfl
theorem Su(w0:World):EX prog w0=λk0 kr x1 x2 x3 x6 x7 x8 x11 x13 h=>∃m,Fa w0 k0 kr m x1 x2 x3 x6 x7 x8 x11 x13 h:=by
 funext k0 kr x1 x2 x3 x6 x7 x8 x11 x13 h
 simp only[SA]
 rfl
theorem OZ{w0:World}{a0 a1 a2:Value}(hj:∀v,v∈[a0,a1,a2]→v≠junk)(hv:BW prog w0 a0 a1 a2 R h):aj prog w0 A5 [a0,a1,a2] h R:=
 aI vd vv 173 (by kernel_rfl) (by kernel_rfl) (by simp) hj (by
  unfold BW
  rw[Su w0,Sw w0]
  kernel_rfl) hv
abbrev uZ:Func:=f21
def vu:List (Nat×List Nat×List Nat):=[(4,[0,3,4,32,33,34],[0,3,4]),(10,[4,7,46,47,48],[4]),(14,[4,7,9,10,46,47,48],[4,7,46,47,48])]
def uK(R:Ko6)(k0:Ko3)(x0 x3 x4 x32 x33 x34:Value):Hp→Prop:=
 aa (ah .lss x34 x33) λb=>
 aB b (
 aJ 1 x32 x34 λc=>
 al w0 c λd=>
 aa (bG .u64 d) λe=>
 am P w0 lL [e] λg=>
 aa (ah .add x4 g) λi=>
 aa (ah .add x34 (.int .i64 1)) λj=>
 R x0 x3 i x32 x33 j) (
 k0 x0 x3 x4)
def oB(P:Program)(w0:World)(k0:Ko3):Nat→Value→Value→Value→Value→Value→Value→Hp→Prop
 |0,_,_,_,_,_,_=>λ_=>False
 |m+1,x0,x3,x4,x32,x33,x34=>uK P w0 (oB P w0 k0 m) k0 x0 x3 x4 x32 x33 x34
def yM(k0:Ko3)(x0 x3 x4 x32 x33 x34:Value):Hp→Prop:=λh=>∃m,oB P w0 k0 m x0 x3 x4 x32 x33 x34 h
def uL(R:Ko7)(k4:Ko5)(x4 x7 x9 x10 x46 x47 x48:Value):Hp→Prop:=
 aa (ah .lss x10 x9) λd=>
 aB d (
 af (λK=>K x4) λe=>
 af (λK=>K x7) λg=>
 af (aJ 1 g (.int .i64 0)) λi=>
 aD (al w0 i) λj=>
 af (aa (cD j)) λl=>
 af (aa (bG .u64 l)) λo=>
 af (λK=>K x7) λs=>
 af (aJ 1 s (.int .i64 0)) λb=>
 aD (al w0 b) λc=>
 aO [
 (am P w0 lL [o] λu=>
 aP [(bZ (al w0 b) c)] (
 aO [
 (am P w0 lK [c] λv=>
 aP [] (
 af (aa (bG .u64 v)) λz=>
 aO [
 (am P w0 lL [z] λba=>
 aP [] (
 af (aa (ah .add u ba)) λbb=>
 af (aa (ah .add e bb)) λbc=>
 af (λK=>K bc) λbd=>
 bN (
 cT 1 x7 (some (.int .i64 1)) none none λbe=>
 aa (ah .add x10 (.int .i64 1)) λbf=>
 R bd be x9 bf x46 x47 x48)))]))]))]) (
 k4 x4 x7 x46 x47 x48)
def oC(P:Program)(w0:World)(k4:Ko5):Nat→Value→Value→Value→Value→Value→Value→Value→Hp→Prop
 |0,_,_,_,_,_,_,_=>λ_=>False
 |m+1,x4,x7,x9,x10,x46,x47,x48=>uL P w0 (oC P w0 k4 m) k4 x4 x7 x9 x10 x46 x47 x48
def EJ(k4:Ko5)(x4 x7 x9 x10 x46 x47 x48:Value):Hp→Prop:=λh=>∃m,oC P w0 k4 m x4 x7 x9 x10 x46 x47 x48 h
def rX(R:Ko5)(k2:Ko1)(x4 x7 x46 x47 x48:Value):Hp→Prop:=
 aa (ah .lss x48 x47) λc=>
 aB c (
 aJ 1 x46 x48 λd=>
 al w0 d λb=>
 aa (bG .u64 b) λe=>
 am P w0 lL [e] λg=>
 aa (ah .add x4 g) λi=>
 EJ P w0 (λj l o s u=>
 aa (ah .add u (.int .i64 1)) λv=>
 R j l o s v) i x7 b (.int .i64 0) x46 x47 x48) (
 k2 x4)
def mH(P:Program)(w0:World)(k2:Ko1):Nat→Value→Value→Value→Value→Value→Hp→Prop
 |0,_,_,_,_,_=>λ_=>False
 |m+1,x4,x7,x46,x47,x48=>rX P w0 (mH P w0 k2 m) k2 x4 x7 x46 x47 x48
def yN(k2:Ko1)(x4 x7 x46 x47 x48:Value):Hp→Prop:=λh=>∃m,mH P w0 k2 m x4 x7 x46 x47 x48 h
def BR(a0:Value)(R:av):Hp→Prop:=
 am P w0 sW [a0] λb=>
 af (λK=>K a0) λg=>
 af (aF g) λi=>
 af (au i 0) λj=>
 af (au j 0) λl=>
 aD (al w0 l) λo=>
 af (λK=>K a0) λs=>
 af (aF s) λu=>
 af (au u 0) λv=>
 af (au v 1) λz=>
 aD (al w0 z) λba=>
 af (λK=>K a0) λbb=>
 af (aF bb) λbc=>
 af (au bc 0) λbd=>
 af (au bd 2) λbe=>
 aD (al w0 be) λbf=>
 af (λK=>K b) λbg=>
 af (aa (aM bg)) λbh=>
 af (λK=>K (.int .i64 0)) λbi=>
 aO [
 (bI [(0,1,false,o),(1,1,false,ba),(2,1,false,bf),(3,1,false,bh)] (aL [(.int .i64 0)] 4) 4 1 λc=>
 aP [] (
 af (aa (aM c)) λbj=>
 bN (
 yM P w0 (λbk d bl=>
 am P w0 qL [bk] λbm=>
 aa (aM d) λbn=>
 yN P w0 (λbo=>
 am P w0 sQ [(.int .u8 77),bo] λe=>
 aa (aV e 0) λbp=>
 aa (aV e 1) λbq=>
 ar [bp] R) bl bm d bn (.int .i64 0)) a0 b (.string .empty) c bj bi)))]
def EM(w0:World)(k4:Ko5)(m:Nat)(x4 x7 x9 x10 x46 x47 x48:Value):Hp→Prop:=bJ (stepL ⟨prog,w0,86,vu⟩ (drw w0 86) (bQ uZ 2)) m (bK [(4,x4),(7,x7),(9,x9),(10,x10),(46,x46),(47,x47),(48,x48)]) [λt=>k4 (t 4) (t 7) (t 46) (t 47) (t 48)]
theorem Sc(w0:World)(k4:Ko5):∀m,EM w0 k4 m=oC prog w0 k4 m:=by
 intro m
 induction m with
 |zero=>kernel_rfl
 |succ m ih=>
  show _=λx4 x7 x9 x10 x46 x47 x48=>uL prog w0 (oC prog w0 k4 m) k4 x4 x7 x9 x10 x46 x47 x48
  rw[←ih]
  kernel_rfl
theorem RZ(w0:World):EJ prog w0=λk4 x4 x7 x9 x10 x46 x47 x48 h=>∃m,EM w0 k4 m x4 x7 x9 x10 x46 x47 x48 h:=by
 funext k4 x4 x7 x9 x10 x46 x47 x48 h
 simp only[Sc]
 rfl
def EL(w0:World)(k2:Ko1)(m:Nat)(x4 x7 x46 x47 x48:Value):Hp→Prop:=bJ (stepL ⟨prog,w0,86,vu⟩ (drw w0 86) (bQ uZ 1)) m (bK [(4,x4),(7,x7),(46,x46),(47,x47),(48,x48)]) [λt=>k2 (t 4)]
theorem Sb(w0:World)(k2:Ko1):∀m,EL w0 k2 m=mH prog w0 k2 m:=by
 intro m
 induction m with
 |zero=>kernel_rfl
 |succ m ih=>
  show _=λx4 x7 x46 x47 x48=>rX prog w0 (mH prog w0 k2 m) k2 x4 x7 x46 x47 x48
  rw[←ih]
  unfold rX
  rw[RZ w0]
  kernel_rfl
theorem RY(w0:World):yN prog w0=λk2 x4 x7 x46 x47 x48 h=>∃m,EL w0 k2 m x4 x7 x46 x47 x48 h:=by
 funext k2 x4 x7 x46 x47 x48 h
 simp only[Sb]
 rfl
def EK(w0:World)(k0:Ko3)(m:Nat)(x0 x3 x4 x32 x33 x34:Value):Hp→Prop:=bJ (stepL ⟨prog,w0,86,vu⟩ (drw w0 86) (bQ uZ 0)) m (bK [(0,x0),(3,x3),(4,x4),(32,x32),(33,x33),(34,x34)]) [λt=>k0 (t 0) (t 3) (t 4)]
theorem Sa(w0:World)(k0:Ko3):∀m,EK w0 k0 m=oB prog w0 k0 m:=by
 intro m
 induction m with
 |zero=>kernel_rfl
 |succ m ih=>
  show _=λx0 x3 x4 x32 x33 x34=>uK prog w0 (oB prog w0 k0 m) k0 x0 x3 x4 x32 x33 x34
  rw[←ih]
  kernel_rfl
theorem RX(w0:World):yM prog w0=λk0 x0 x3 x4 x32 x33 x34 h=>∃m,EK w0 k0 m x0 x3 x4 x32 x33 x34 h:=by
 funext k0 x0 x3 x4 x32 x33 x34 h
 simp only[Sa]
 rfl
theorem OS{w0:World}{a0:Value}(hj:∀v,v∈[a0]→v≠junk)(hv:BR prog w0 a0 R h):aj prog w0 sT [a0] h R:=
 aI uZ vu 86 (by kernel_rfl) (by kernel_rfl) (by simp) hj (by
  unfold BR
  rw[RX w0,RY w0]
  kernel_rfl) hv
abbrev zg:Func:=f22
def zJ:List (Nat×List Nat×List Nat):=[(3,[0,3,13,14,15],[3]),(6,[0,3,13,14,15,19,20,21],[0,3,13,14,15])]
def uH(R:Ko8)(k2:Ko5)(x0 x3 x13 x14 x15 x19 x20 x21:Value):Hp→Prop:=
 aa (ah .lss x21 x20) λc=>
 aB c (
 aJ 1 x19 x21 λd=>
 al w0 d λe=>
 aF x0 λg=>
 au g 0 λi=>
 au i 0 λj=>
 al w0 j λl=>
 am P w0 vT [e,l] λb=>
 aa (aV b 0) λo=>
 aa (aV b 1) λz=>
 bI [(0,1,false,o)] (aL [(.string .empty)] 1) 1 1 λs=>
 bD w0 1 16 x3 s λu=>
 aa (ah .add x21 (.int .i64 1)) λv=>
 R x0 u x13 x14 x15 x19 x20 v) (
 k2 x0 x3 x13 x14 x15)
def o8(P:Program)(w0:World)(k2:Ko5):Nat→Value→Value→Value→Value→Value→Value→Value→Value→Hp→Prop
 |0,_,_,_,_,_,_,_,_=>λ_=>False
 |m+1,x0,x3,x13,x14,x15,x19,x20,x21=>uH P w0 (o8 P w0 k2 m) k2 x0 x3 x13 x14 x15 x19 x20 x21
def EC(k2:Ko5)(x0 x3 x13 x14 x15 x19 x20 x21:Value):Hp→Prop:=λh=>∃m,o8 P w0 k2 m x0 x3 x13 x14 x15 x19 x20 x21 h
def rW(R:Ko5)(k0:Ko1)(x0 x3 x13 x14 x15:Value):Hp→Prop:=
 aa (ah .lss x15 x14) λc=>
 aB c (
 aJ 1 x13 x15 λd=>
 al w0 d λb=>
 aa (aM b) λe=>
 EC P w0 (λg i j l o=>
 aa (ah .add o (.int .i64 1)) λs=>
 R g i j l s) x0 x3 x13 x14 x15 b e (.int .i64 0)) (
 k0 x3)
def o7(P:Program)(w0:World)(k0:Ko1):Nat→Value→Value→Value→Value→Value→Hp→Prop
 |0,_,_,_,_,_=>λ_=>False
 |m+1,x0,x3,x13,x14,x15=>rW P w0 (o7 P w0 k0 m) k0 x0 x3 x13 x14 x15
def EB(k0:Ko1)(x0 x3 x13 x14 x15:Value):Hp→Prop:=λh=>∃m,o7 P w0 k0 m x0 x3 x13 x14 x15 h
def BO(a0:Value)(R:av):Hp→Prop:=
 aF a0 λc=>
 au c 4 λd=>
 al w0 d λb=>
 aa (aM b) λe=>
 EB P w0 (λg=>
 ar [g] R) a0 (.slice none 0 0) b e (.int .i64 0)
def EE(w0:World)(k2:Ko5)(m:Nat)(x0 x3 x13 x14 x15 x19 x20 x21:Value):Hp→Prop:=bJ (stepL ⟨prog,w0,42,zJ⟩ (drw w0 42) (bQ zg 1)) m (bK [(0,x0),(3,x3),(13,x13),(14,x14),(15,x15),(19,x19),(20,x20),(21,x21)]) [λt=>k2 (t 0) (t 3) (t 13) (t 14) (t 15)]
theorem RR(w0:World)(k2:Ko5):∀m,EE w0 k2 m=o8 prog w0 k2 m:=by
 intro m
 induction m with
 |zero=>kernel_rfl
 |succ m ih=>
  show _=λx0 x3 x13 x14 x15 x19 x20 x21=>uH prog w0 (o8 prog w0 k2 m) k2 x0 x3 x13 x14 x15 x19 x20 x21
  rw[←ih]
  kernel_rfl
theorem RP(w0:World):EC prog w0=λk2 x0 x3 x13 x14 x15 x19 x20 x21 h=>∃m,EE w0 k2 m x0 x3 x13 x14 x15 x19 x20 x21 h:=by
 funext k2 x0 x3 x13 x14 x15 x19 x20 x21 h
 simp only[RR]
 rfl
def ED(w0:World)(k0:Ko1)(m:Nat)(x0 x3 x13 x14 x15:Value):Hp→Prop:=bJ (stepL ⟨prog,w0,42,zJ⟩ (drw w0 42) (bQ zg 0)) m (bK [(0,x0),(3,x3),(13,x13),(14,x14),(15,x15)]) [λt=>k0 (t 3)]
theorem RQ(w0:World)(k0:Ko1):∀m,ED w0 k0 m=o7 prog w0 k0 m:=by
 intro m
 induction m with
 |zero=>kernel_rfl
 |succ m ih=>
  show _=λx0 x3 x13 x14 x15=>rW prog w0 (o7 prog w0 k0 m) k0 x0 x3 x13 x14 x15
  rw[←ih]
  unfold rW
  rw[RP w0]
  kernel_rfl
theorem RO(w0:World):EB prog w0=λk0 x0 x3 x13 x14 x15 h=>∃m,ED w0 k0 m x0 x3 x13 x14 x15 h:=by
 funext k0 x0 x3 x13 x14 x15 h
 simp only[RQ]
 rfl
theorem OO{w0:World}{a0:Value}(hj:∀v,v∈[a0]→v≠junk)(hv:BO prog w0 a0 R h):aj prog w0 qL [a0] h R:=
 aI zg zJ 42 (by kernel_rfl) (by kernel_rfl) (by simp) hj (by
  unfold BO
  rw[RO w0]
  kernel_rfl) hv
abbrev FW:Func:=f24
def Ha:List (Nat×List Nat×List Nat):=[(3,[3,21,22,23],[3])]
def uI(P:Program)(w0:World)(R:Ko4)(k0:Ko1)(x3 x21 x22 x23:Value):Hp→Prop:=
 aa (ah .lss x23 x22) λd=>
 aB d (
 aJ 1 x21 x23 λe=>
 al w0 e λg=>
 af (λK=>K x3) λi=>
 af (λK=>K x3) λj=>
 af (aF j) λl=>
 af (au l 4) λb=>
 aD (al w0 b) λc=>
 af (λK=>K g) λo=>
 aO [
 (bI [] (aL [(.slice none 0 0)] 0) 0 1 λs=>
 aP [(bZ (al w0 b) c)] (
 aO [
 (bD w0 1 24 s o λu=>
 aP [(bZ (al w0 b) c)] (
 aO [
 (bI [(0,1,false,u)] (aL [(.slice none 0 0)] 1) 1 1 λv=>
 aP [(bZ (al w0 b) c)] (
 aO [
 (bD w0 1 24 c v λz=>
 aP [] (
 af (aF i) λba=>
 af (au ba 4) λbb=>
 aO [
 (bO w0 bb z λ_=>
 aP [] (
 bN (
 aa (ah .add x23 (.int .i64 1)) λbc=>
 R x3 x21 x22 bc)))]))]))]))]))]) (
 k0 x3)
def o9(P:Program)(w0:World)(k0:Ko1):Nat→Value→Value→Value→Value→Hp→Prop
 |0,_,_,_,_=>λ_=>False
 |m+1,x3,x21,x22,x23=>uI P w0 (o9 P w0 k0 m) k0 x3 x21 x22 x23
def EF(k0:Ko1)(x3 x21 x22 x23:Value):Hp→Prop:=λh=>∃m,o9 P w0 k0 m x3 x21 x22 x23 h
def BP(a0:Value)(R:av):Hp→Prop:=
 af (λK=>K a0) λi=>
 af (aF i) λj=>
 af (au j 0) λb=>
 aD (aG w0 b 3) λc=>
 af (λK=>K a0) λl=>
 af (aF l) λo=>
 af (au o 3) λd=>
 aD (al w0 d) λe=>
 aO [
 (bI [] (aL [(.string .empty),(.string .empty),(.bool false)] 0) 0 3 λs=>
 aP [(bZ (al w0 d) e),(bZ (aG w0 b 3) c)] (
 aO [
 (bD w0 3 40 s e λu=>
 aP [(bZ (aG w0 b 3) c)] (
 aO [
 (dI [(0,3,true,c),(3,1,false,u)] [(.int .i64 0),(.int .i64 0),(.int .i64 0),(.slice none 0 0),(.slice none 0 0)] λv=>
 aP [] (
 aO [
 (cF true 5 v λz=>
 aP [] (
 af (λK=>K z) λba=>
 bN (
 aF a0 λbb=>
 au bb 4 λbc=>
 al w0 bc λg=>
 aa (aM g) λbd=>
 EF P w0 (λbe=>
 ar [be] R) ba g bd (.int .i64 0))))]))]))]))]
def EG(w0:World)(k0:Ko1)(m:Nat)(x3 x21 x22 x23:Value):Hp→Prop:=bJ (stepL ⟨prog,w0,41,Ha⟩ (drw w0 41) (bQ FW 0)) m (bK [(3,x3),(21,x21),(22,x22),(23,x23)]) [λt=>k0 (t 3)]
theorem RU(w0:World)(k0:Ko1):∀m,EG w0 k0 m=o9 prog w0 k0 m:=by
 intro m
 induction m with
 |zero=>kernel_rfl
 |succ m ih=>
  show _=λx3 x21 x22 x23=>uI prog w0 (o9 prog w0 k0 m) k0 x3 x21 x22 x23
  rw[←ih]
  kernel_rfl
theorem RT(w0:World):EF prog w0=λk0 x3 x21 x22 x23 h=>∃m,EG w0 k0 m x3 x21 x22 x23 h:=by
 funext k0 x3 x21 x22 x23 h
 simp only[RU]
 rfl
theorem OQ{w0:World}{a0:Value}(hj:∀v,v∈[a0]→v≠junk)(hv:BP prog w0 a0 R h):aj prog w0 Ay [a0] h R:=
 aI FW Ha 41 (by kernel_rfl) (by kernel_rfl) (by simp) hj (by
  unfold BP
  rw[RT w0]
  kernel_rfl) hv
abbrev TV:Func:=f35
def W1:List (Nat×List Nat×List Nat):=[]
def Kf(a0:Value)(R:av):Hp→Prop:=
 cF true 3 a0 λb=>
 aG w0 b 3 λd=>
 am P w0 A6 [d] λe=>
 aa (unA .not e) λg=>
 aB g (
 ar [(.pointer none),(.int .i64 140)] R) (
 aD (aG w0 b 3) λc=>
 aO [
 (mkA 1 24 [(.slice none 0 0)] (.int .i64 16) (.int .i64 16) λi=>
 aP [(bZ (aG w0 b 3) c)] (
 aO [
 (dI [(0,3,true,c),(4,1,false,i)] [(.int .i64 0),(.int .i64 0),(.int .i64 0),(.slice none 0 0),(.slice none 0 0)] λj=>
 aP [] (
 aO [
 (cF true 5 j λl=>
 aP [] (
 af (λK=>K l) λo=>
 af (λK=>K (.int .i64 0)) λs=>
 bN (
 ar [o,s] R)))]))]))])
theorem Pa{w0:World}{a0:Value}(hj:∀v,v∈[a0]→v≠junk)(hv:Kf prog w0 a0 R h):aj prog w0 sY [a0] h R:=
 aI TV W1 11 (by kernel_rfl) (by kernel_rfl) (by simp) hj (by
  kernel_rfl) hv
abbrev FY:Func:=f66
def Hc:List (Nat×List Nat×List Nat):=[(3,[0,3,4],[3])]
def uO(R:Ko3)(k0:Ko1)(x0 x3 x4:Value):Hp→Prop:=
 aa (ah .lss x4 (.int .i64 16)) λc=>
 aB c (
 aF x0 λd=>
 au d 4 λe=>
 al w0 e λg=>
 aJ 1 g x4 λi=>
 al w0 i λj=>
 aa (aM j) λl=>
 aa (ah .gtr l (.int .i64 0)) λb=>
 ai b false (λK=>K x0) λo=>
 ai b false (λK=>K x4) λs=>
 ai b false (am P w0 vZ [o,s]) λu=>
 aQ b (.bool true) u λv=>
 aB v (
 aF x0 λz=>
 au z 4 λba=>
 al w0 ba λbb=>
 aJ 1 bb x4 λbc=>
 al w0 bc λbd=>
 aa (aM bd) λbe=>
 bI [(0,1,false,be)] (aL [(.int .i64 0)] 1) 1 1 λbf=>
 bD w0 1 8 x3 bf λbg=>
 aa (ah .add x4 (.int .i64 1)) λbh=>
 R x0 bg bh) (
 aa (ah .add x4 (.int .i64 1)) λbi=>
 R x0 x3 bi)) (
 k0 x3)
def lB(P:Program)(w0:World)(k0:Ko1):Nat→Value→Value→Value→Hp→Prop
 |0,_,_,_=>λ_=>False
 |m+1,x0,x3,x4=>uO P w0 (lB P w0 k0 m) k0 x0 x3 x4
def ER(k0:Ko1)(x0 x3 x4:Value):Hp→Prop:=λh=>∃m,lB P w0 k0 m x0 x3 x4 h
def BT(a0:Value)(R:av):Hp→Prop:=
 ER P w0 (λb=>
 ar [b] R) a0 (.slice none 0 0) (.int .i64 0)
def ES(w0:World)(k0:Ko1)(m:Nat)(x0 x3 x4:Value):Hp→Prop:=bJ (stepL ⟨prog,w0,35,Hc⟩ (drw w0 35) (bQ FY 0)) m (bK [(0,x0),(3,x3),(4,x4)]) [λt=>k0 (t 3)]
theorem Sj(w0:World)(k0:Ko1):∀m,ES w0 k0 m=lB prog w0 k0 m:=by
 intro m
 induction m with
 |zero=>kernel_rfl
 |succ m ih=>
  show _=λx0 x3 x4=>uO prog w0 (lB prog w0 k0 m) k0 x0 x3 x4
  rw[←ih]
  kernel_rfl
theorem Si(w0:World):ER prog w0=λk0 x0 x3 x4 h=>∃m,ES w0 k0 m x0 x3 x4 h:=by
 funext k0 x0 x3 x4 h
 simp only[Sj]
 rfl
theorem OV{w0:World}{a0:Value}(hj:∀v,v∈[a0]→v≠junk)(hv:BT prog w0 a0 R h):aj prog w0 sW [a0] h R:=
 aI FY Hc 35 (by kernel_rfl) (by kernel_rfl) (by simp) hj (by
  unfold BT
  rw[Si w0]
  kernel_rfl) hv
abbrev TT:Func:=f72
def Wz:List (Nat×List Nat×List Nat):=[]
def Kd(a0 a1 a2:Value)(R:av):Hp→Prop:=
 dI [(0,1,false,a1),(1,1,false,a2)] [(.string .empty),(.string .empty),(.bool false)] λb=>
 am P w0 wb [a0,b] λc=>
 ar [c] R
theorem OU{w0:World}{a0 a1 a2:Value}(hj:∀v,v∈[a0,a1,a2]→v≠junk)(hv:Kd prog w0 a0 a1 a2 R h):aj prog w0 A0 [a0,a1,a2] h R:=
 aI TT Wz 12 (by kernel_rfl) (by kernel_rfl) (by simp) hj (by
  kernel_rfl) hv
abbrev TR:Func:=f73
def Wx:List (Nat×List Nat×List Nat):=[]
def Kb(a0 a1:Value)(R:av):Hp→Prop:=
 dI [(0,1,false,a1),(2,1,false,(.bool true))] [(.string .empty),(.string .empty),(.bool false)] λb=>
 am P w0 wb [a0,b] λc=>
 ar [c] R
theorem ON{w0:World}{a0 a1:Value}(hj:∀v,v∈[a0,a1]→v≠junk)(hv:Kb prog w0 a0 a1 R h):aj prog w0 Ax [a0,a1] h R:=
 aI TR Wx 9 (by kernel_rfl) (by kernel_rfl) (by simp) hj (by
  kernel_rfl) hv
abbrev FX:Func:=f74
def Hb:List (Nat×List Nat×List Nat):=[(2,[1,4,5,9,10,11],[4,5])]
def uJ(P:Program)(w0:World)(R:Ko6)(k0 kr:Ko2)(x1 x4 x5 x9 x10 x11:Value):Hp→Prop:=
 aa (ah .lss x11 x10) λc=>
 aB c (
 aJ 2 x9 x11 λd=>
 aG w0 d 2 λe=>
 cA [(.string .empty),(.string .empty)] 2 λb=>
 bU w0 b e 2 λ_=>
 au b 0 λg=>
 al w0 g λi=>
 aa (ah .eql i x1) λj=>
 aB j (
 au b 1 λl=>
 al w0 l λo=>
 kr o (.bool true)) (
 aa (ah .add x11 (.int .i64 1)) λs=>
 R x1 x4 x5 x9 x10 s)) (
 k0 x4 x5)
def oA(P:Program)(w0:World)(k0 kr:Ko2):Nat→Value→Value→Value→Value→Value→Value→Hp→Prop
 |0,_,_,_,_,_,_=>λ_=>False
 |m+1,x1,x4,x5,x9,x10,x11=>uJ P w0 (oA P w0 k0 kr m) k0 kr x1 x4 x5 x9 x10 x11
def EH(k0 kr:Ko2)(x1 x4 x5 x9 x10 x11:Value):Hp→Prop:=λh=>∃m,oA P w0 k0 kr m x1 x4 x5 x9 x10 x11 h
def BQ(a0 a1:Value)(R:av):Hp→Prop:=
 am P w0 sU [a0,(.string .empty),(.string .empty)] λb=>
 aa (aM b) λc=>
 EH P w0 (λg i=>
 ar [(.string .empty),(.bool false)] R) (λd e=>
 ar [d,e] R) a1 (.string .empty) (.bool false) b c (.int .i64 0)
def EI(w0:World)(k0 kr:Ko2)(m:Nat)(x1 x4 x5 x9 x10 x11:Value):Hp→Prop:=bJ (stepL ⟨prog,w0,22,Hb⟩ (drw w0 22) (bQ FX 0)) m (bK [(1,x1),(4,x4),(5,x5),(9,x9),(10,x10),(11,x11)]) [λt=>k0 (t 4) (t 5),λt=>kr (t 4) (t 5)]
theorem RW(w0:World)(k0 kr:Ko2):∀m,EI w0 k0 kr m=oA prog w0 k0 kr m:=by
 intro m
 induction m with
 |zero=>kernel_rfl
 |succ m ih=>
  show _=λx1 x4 x5 x9 x10 x11=>uJ prog w0 (oA prog w0 k0 kr m) k0 kr x1 x4 x5 x9 x10 x11
  rw[←ih]
  kernel_rfl
theorem RV(w0:World):EH prog w0=λk0 kr x1 x4 x5 x9 x10 x11 h=>∃m,EI w0 k0 kr m x1 x4 x5 x9 x10 x11 h:=by
 funext k0 kr x1 x4 x5 x9 x10 x11 h
 simp only[RW]
 rfl
theorem OR{w0:World}{a0 a1:Value}(hj:∀v,v∈[a0,a1]→v≠junk)(hv:BQ prog w0 a0 a1 R h):aj prog w0 Az [a0,a1] h R:=
 aI FX Hb 22 (by kernel_rfl) (by kernel_rfl) (by simp) hj (by
  unfold BQ
  rw[RV w0]
  kernel_rfl) hv
abbrev zh:Func:=f76
def zK:List (Nat×List Nat×List Nat):=[(3,[1,2,7,21,22,23],[1,2,7]),(9,[10,35,36,37],[10])]
def uM(P:Program)(w0:World)(R:Ko6)(k0:Ko3)(x1 x2 x7 x21 x22 x23:Value):Hp→Prop:=
 aa (ah .lss x23 x22) λb=>
 aB b (
 aJ 1 x21 x23 λc=>
 al w0 c λd=>
 bD w0 1 24 x7 d λe=>
 aa (ah .add x23 (.int .i64 1)) λg=>
 R x1 x2 e x21 x22 g) (
 k0 x1 x2 x7)
def oD(P:Program)(w0:World)(k0:Ko3):Nat→Value→Value→Value→Value→Value→Value→Hp→Prop
 |0,_,_,_,_,_,_=>λ_=>False
 |m+1,x1,x2,x7,x21,x22,x23=>uM P w0 (oD P w0 k0 m) k0 x1 x2 x7 x21 x22 x23
def EN(k0:Ko3)(x1 x2 x7 x21 x22 x23:Value):Hp→Prop:=λh=>∃m,oD P w0 k0 m x1 x2 x7 x21 x22 x23 h
def uN(P:Program)(w0:World)(R:Ko4)(k2:Ko1)(x10 x35 x36 x37:Value):Hp→Prop:=
 aa (ah .lss x37 x36) λc=>
 aB c (
 aJ 3 x35 x37 λd=>
 aG w0 d 3 λe=>
 cA [(.string .empty),(.string .empty),(.bool false)] 3 λb=>
 bU w0 b e 3 λ_=>
 au b 0 λg=>
 al w0 g λi=>
 au b 1 λj=>
 al w0 j λl=>
 dI [(0,1,false,i),(1,1,false,l)] [(.string .empty),(.string .empty)] λo=>
 bI [(0,2,true,o)] (aL [(.string .empty),(.string .empty)] 1) 1 2 λs=>
 bD w0 2 32 x10 s λu=>
 aa (ah .add x37 (.int .i64 1)) λv=>
 R u x35 x36 v) (
 k2 x10)
def oE(P:Program)(w0:World)(k2:Ko1):Nat→Value→Value→Value→Value→Hp→Prop
 |0,_,_,_,_=>λ_=>False
 |m+1,x10,x35,x36,x37=>uN P w0 (oE P w0 k2 m) k2 x10 x35 x36 x37
def EO(k2:Ko1)(x10 x35 x36 x37:Value):Hp→Prop:=λh=>∃m,oE P w0 k2 m x10 x35 x36 x37 h
def BS(a0 a1 a2:Value)(R:av):Hp→Prop:=
 aF a0 λd=>
 au d 3 λe=>
 al w0 e λg=>
 bI [(0,1,false,g)] (aL [(.slice none 0 0)] 1) 1 1 λi=>
 aF a0 λj=>
 au j 4 λl=>
 al w0 l λb=>
 aa (aM b) λo=>
 EN P w0 (λs u v=>
 am P w0 vV [v,(.bool true)] λz=>
 am P w0 At [z,s,u] λc=>
 aa (aM c) λba=>
 EO P w0 (λbb=>
 ar [bb] R) (.slice none 0 0) c ba (.int .i64 0)) a1 a2 i b o (.int .i64 0)
def EQ(w0:World)(k2:Ko1)(m:Nat)(x10 x35 x36 x37:Value):Hp→Prop:=bJ (stepL ⟨prog,w0,51,zK⟩ (drw w0 51) (bQ zh 1)) m (bK [(10,x10),(35,x35),(36,x36),(37,x37)]) [λt=>k2 (t 10)]
theorem Sh(w0:World)(k2:Ko1):∀m,EQ w0 k2 m=oE prog w0 k2 m:=by
 intro m
 induction m with
 |zero=>kernel_rfl
 |succ m ih=>
  show _=λx10 x35 x36 x37=>uN prog w0 (oE prog w0 k2 m) k2 x10 x35 x36 x37
  rw[←ih]
  kernel_rfl
theorem Sf(w0:World):EO prog w0=λk2 x10 x35 x36 x37 h=>∃m,EQ w0 k2 m x10 x35 x36 x37 h:=by
 funext k2 x10 x35 x36 x37 h
 simp only[Sh]
 rfl
def EP(w0:World)(k0:Ko3)(m:Nat)(x1 x2 x7 x21 x22 x23:Value):Hp→Prop:=bJ (stepL ⟨prog,w0,51,zK⟩ (drw w0 51) (bQ zh 0)) m (bK [(1,x1),(2,x2),(7,x7),(21,x21),(22,x22),(23,x23)]) [λt=>k0 (t 1) (t 2) (t 7)]
theorem Sg(w0:World)(k0:Ko3):∀m,EP w0 k0 m=oD prog w0 k0 m:=by
 intro m
 induction m with
 |zero=>kernel_rfl
 |succ m ih=>
  show _=λx1 x2 x7 x21 x22 x23=>uM prog w0 (oD prog w0 k0 m) k0 x1 x2 x7 x21 x22 x23
  rw[←ih]
  kernel_rfl
theorem Sd(w0:World):EN prog w0=λk0 x1 x2 x7 x21 x22 x23 h=>∃m,EP w0 k0 m x1 x2 x7 x21 x22 x23 h:=by
 funext k0 x1 x2 x7 x21 x22 x23 h
 simp only[Sg]
 rfl
theorem OT{w0:World}{a0 a1 a2:Value}(hj:∀v,v∈[a0,a1,a2]→v≠junk)(hv:BS prog w0 a0 a1 a2 R h):aj prog w0 sU [a0,a1,a2] h R:=
 aI zh zK 51 (by kernel_rfl) (by kernel_rfl) (by simp) hj (by
  unfold BS
  rw[Sd w0,Sf w0]
  kernel_rfl) hv
abbrev TS:Func:=f77
def Wy:List (Nat×List Nat×List Nat):=[]
def Kc(P:Program)(w0:World)(a0:Value)(R:av):Hp→Prop:=
 aF a0 λj=>
 au j 3 λl=>
 al w0 l λo=>
 aa (aM o) λs=>
 aa (ah .eql s (.int .i64 0)) λu=>
 aB u (
 ar [(.bool false)] R) (
 af (λK=>K a0) λv=>
 af (aF v) λz=>
 af (au z 4) λb=>
 aD (al w0 b) λc=>
 af (λK=>K a0) λba=>
 af (aF ba) λbb=>
 af (au bb 3) λbc=>
 aD (al w0 bc) λbd=>
 af (λK=>K a0) λbe=>
 af (aF be) λbf=>
 af (au bf 4) λd=>
 aD (al w0 d) λe=>
 af (aJ 1 e (.int .i64 0)) λg=>
 aD (al w0 g) λi=>
 aO [
 (bI [(0,1,false,bd)] (aL [(.slice none 0 0)] 1) 1 1 λbg=>
 aP [(bZ (al w0 g) i),(bZ (al w0 d) e),(bZ (al w0 b) c)] (
 aO [
 (bD w0 1 24 bg i λbh=>
 aP [(bZ (al w0 b) c)] (
 af (aJ 1 c (.int .i64 0)) λbi=>
 aO [
 (bO w0 bi bh λ_=>
 aP [] (
 bN (
 aF a0 λbj=>
 au bj 3 λbk=>
 bO w0 bk (.slice none 0 0) λ_=>
 ar [(.bool true)] R)))]))]))])
theorem OP{w0:World}{a0:Value}(hj:∀v,v∈[a0]→v≠junk)(hv:Kc prog w0 a0 R h):aj prog w0 vY [a0] h R:=
 aI TS Wy 29 (by kernel_rfl) (by kernel_rfl) (by simp) hj (by
  kernel_rfl) hv
abbrev FZ:Func:=f78
def He:List (Nat×List Nat×List Nat):=[(2,[0,2,3],[2])]
def uP(R:Ko3)(k0 kr:Ko1)(x0 x2 x3:Value):Hp→Prop:=
 aa (ah .lss x3 (.int .i64 16)) λbf=>
 aB bf (
 af (λK=>K x0) λbg=>
 af (aF bg) λbh=>
 af (au bh 4) λbi=>
 aD (al w0 bi) λbj=>
 af (λK=>K x3) λbk=>
 af (aJ 1 bj bk) λbl=>
 aD (al w0 bl) λbm=>
 af (aa (aM bm)) λbn=>
 af (λK=>K x0) λbo=>
 af (aF bo) λbp=>
 af (au bp 0) λbq=>
 af (au bq 1) λbr=>
 aD (al w0 br) λbs=>
 af (aa (ah .lss bn bs)) λbt=>
 bN (
 aB bt (
 aa (ah .add x3 (.int .i64 1)) λbu=>
 R x0 x2 bu) (
 af (λK=>K x0) λbv=>
 af (aF bv) λbw=>
 af (au bw 4) λj=>
 aD (al w0 j) λl=>
 af (λK=>K x3) λbx=>
 af (aJ 1 l bx) λo=>
 aD (al w0 o) λs=>
 af (λK=>K x0) λbz=>
 af (λK=>K x3) λca=>
 aO [
 (am P w0 vZ [bz,ca] λcb=>
 aP [(bZ (al w0 o) s),(bZ (al w0 j) l)] (
 af (aa (unA .not cb)) λcc=>
 aO [
 (am P w0 vV [s,cc] λcd=>
 aP [] (
 af (λK=>K cd) λb=>
 bN (
 aF x0 λce=>
 au ce 4 λcf=>
 al w0 cf λcg=>
 aJ 1 cg x3 λch=>
 bO w0 ch (.slice none 0 0) λ_=>
 aa (ah .add x3 (.int .i64 1)) λc=>
 aa (ah .eql c (.int .i64 16)) λci=>
 aB ci (
 aa (aM b) λcj=>
 aa (ah .gtr cj (.int .i64 0)) λck=>
 aB ck (
 af (λK=>K x0) λcl=>
 af (aF cl) λcm=>
 af (au cm 4) λd=>
 aD (al w0 d) λe=>
 af (λK=>K x3) λcn=>
 af (λK=>K b) λco=>
 af (λK=>K x0) λcp=>
 af (aF cp) λcq=>
 af (au cq 4) λu=>
 aD (al w0 u) λv=>
 af (λK=>K x3) λcr=>
 af (aJ 1 v cr) λz=>
 aD (al w0 z) λba=>
 aO [
 (bI [(0,1,false,co)] (aL [(.slice none 0 0)] 1) 1 1 λcs=>
 aP [(bZ (al w0 z) ba),(bZ (al w0 u) v),(bZ (al w0 d) e)] (
 aO [
 (bD w0 1 24 cs ba λct=>
 aP [(bZ (al w0 d) e)] (
 af (aJ 1 e cn) λcu=>
 aO [
 (bO w0 cu ct λ_=>
 aP [] (
 bN (
 kr (.bool true))))]))]))]) (
 kr (.bool true))) (
 aa (aM b) λcv=>
 aa (ah .gtr cv (.int .i64 0)) λcw=>
 aB cw (
 af (λK=>K x0) λcx=>
 af (aF cx) λcy=>
 af (au cy 4) λg=>
 aD (al w0 g) λi=>
 af (λK=>K c) λcz=>
 af (λK=>K b) λda=>
 af (λK=>K x0) λdb=>
 af (aF db) λdc=>
 af (au dc 4) λbb=>
 aD (al w0 bb) λbc=>
 af (λK=>K c) λdd=>
 af (aJ 1 bc dd) λbd=>
 aD (al w0 bd) λbe=>
 aO [
 (bI [(0,1,false,da)] (aL [(.slice none 0 0)] 1) 1 1 λde=>
 aP [(bZ (al w0 bd) be),(bZ (al w0 bb) bc),(bZ (al w0 g) i)] (
 aO [
 (bD w0 1 24 de be λdf=>
 aP [(bZ (al w0 g) i)] (
 af (aJ 1 i cz) λdg=>
 aO [
 (bO w0 dg df λ_=>
 aP [] (
 bN (
 kr (.bool true))))]))]))]) (
 kr (.bool true))))))]))]))) (
 k0 x2)
def oF(P:Program)(w0:World)(k0 kr:Ko1):Nat→Value→Value→Value→Hp→Prop
 |0,_,_,_=>λ_=>False
 |m+1,x0,x2,x3=>uP P w0 (oF P w0 k0 kr m) k0 kr x0 x2 x3
def ET(k0 kr:Ko1)(x0 x2 x3:Value):Hp→Prop:=λh=>∃m,oF P w0 k0 kr m x0 x2 x3 h
def BU(a0:Value)(R:av):Hp→Prop:=
 ET P w0 (λc=>
 ar [(.bool false)] R) (λb=>
 ar [b] R) a0 (.bool false) (.int .i64 0)
def EU(w0:World)(k0 kr:Ko1)(m:Nat)(x0 x2 x3:Value):Hp→Prop:=bJ (stepL ⟨prog,w0,66,He⟩ (drw w0 66) (bQ FZ 0)) m (bK [(0,x0),(2,x2),(3,x3)]) [λt=>k0 (t 2),λt=>kr (t 2)]
theorem Sp(w0:World)(k0 kr:Ko1):∀m,EU w0 k0 kr m=oF prog w0 k0 kr m:=by
 intro m
 induction m with
 |zero=>kernel_rfl
 |succ m ih=>
  show _=λx0 x2 x3=>uP prog w0 (oF prog w0 k0 kr m) k0 kr x0 x2 x3
  rw[←ih]
  kernel_rfl
theorem Sk(w0:World):ET prog w0=λk0 kr x0 x2 x3 h=>∃m,EU w0 k0 kr m x0 x2 x3 h:=by
 funext k0 kr x0 x2 x3 h
 simp only[Sp]
 rfl
theorem OW{w0:World}{a0:Value}(hj:∀v,v∈[a0]→v≠junk)(hv:BU prog w0 a0 R h):aj prog w0 A1 [a0] h R:=
 aI FZ He 66 (by kernel_rfl) (by kernel_rfl) (by simp) hj (by
  unfold BU
  rw[Sk w0]
  kernel_rfl) hv
abbrev TW:Func:=f89
def W3:List (Nat×List Nat×List Nat):=[]
def Kg(P:Program)(w0:World)(a0:Value)(R:av):Hp→Prop:=
 cF true 3 a0 λb=>
 au b 0 λj=>
 al w0 j λl=>
 aa (ah .geq l (.int .i64 256)) λc=>
 ai c true (au b 0) λo=>
 ai c true (al w0 o) λs=>
 ai c true (aa (ah .leq s (.int .i64 4096))) λu=>
 aQ c u (.bool false) λd=>
 ai d true (au b 1) λv=>
 ai d true (al w0 v) λz=>
 ai d true (aa (ah .geq z (.int .i64 2))) λba=>
 aQ d ba (.bool false) λe=>
 ai e true (au b 1) λbb=>
 ai e true (al w0 bb) λbc=>
 ai e true (aa (ah .leq bc (.int .i64 16))) λbd=>
 aQ e bd (.bool false) λg=>
 ai g true (au b 2) λbe=>
 ai g true (al w0 be) λbf=>
 ai g true (aa (ah .geq bf (.int .i64 1))) λbg=>
 aQ g bg (.bool false) λi=>
 ai i true (au b 2) λbh=>
 ai i true (al w0 bh) λbi=>
 ai i true (aa (ah .leq bi (.int .i64 4096))) λbj=>
 aQ i bj (.bool false) λbk=>
 ar [bk] R
theorem Pb{w0:World}{a0:Value}(hj:∀v,v∈[a0]→v≠junk)(hv:Kg prog w0 a0 R h):aj prog w0 A6 [a0] h R:=
 aI TW W3 31 (by kernel_rfl) (by kernel_rfl) (by simp) hj (by
  kernel_rfl) hv
abbrev Ga:Func:=f119
def Hf:List (Nat×List Nat×List Nat):=[(2,[0,4,5],[4])]
def uQ(P:Program)(w0:World)(R:Ko3)(k0 kr:Ko1)(x0 x4 x5:Value):Hp→Prop:=
 aa (ah .lss x5 (.int .i64 16)) λb=>
 aB b (
 aF x0 λc=>
 au c 4 λd=>
 al w0 d λe=>
 aJ 1 e x5 λg=>
 al w0 g λi=>
 aa (aM i) λj=>
 aa (ah .gtr j (.int .i64 0)) λl=>
 aB l (
 kr (.bool true)) (
 aa (ah .add x5 (.int .i64 1)) λo=>
 R x0 x4 o)) (
 k0 x4)
def oG(P:Program)(w0:World)(k0 kr:Ko1):Nat→Value→Value→Value→Hp→Prop
 |0,_,_,_=>λ_=>False
 |m+1,x0,x4,x5=>uQ P w0 (oG P w0 k0 kr m) k0 kr x0 x4 x5
def EV(k0 kr:Ko1)(x0 x4 x5:Value):Hp→Prop:=λh=>∃m,oG P w0 k0 kr m x0 x4 x5 h
def BV(a0 a1:Value)(R:av):Hp→Prop:=
 aa (ah .add a1 (.int .i64 1)) λb=>
 EV P w0 (λd=>
 ar [(.bool false)] R) (λc=>
 ar [c] R) a0 (.bool false) b
def EW(w0:World)(k0 kr:Ko1)(m:Nat)(x0 x4 x5:Value):Hp→Prop:=bJ (stepL ⟨prog,w0,21,Hf⟩ (drw w0 21) (bQ Ga 0)) m (bK [(0,x0),(4,x4),(5,x5)]) [λt=>k0 (t 4),λt=>kr (t 4)]
theorem St(w0:World)(k0 kr:Ko1):∀m,EW w0 k0 kr m=oG prog w0 k0 kr m:=by
 intro m
 induction m with
 |zero=>kernel_rfl
 |succ m ih=>
  show _=λx0 x4 x5=>uQ prog w0 (oG prog w0 k0 kr m) k0 kr x0 x4 x5
  rw[←ih]
  kernel_rfl
theorem Sq(w0:World):EV prog w0=λk0 kr x0 x4 x5 h=>∃m,EW w0 k0 kr m x0 x4 x5 h:=by
 funext k0 kr x0 x4 x5 h
 simp only[St]
 rfl
theorem OX{w0:World}{a0 a1:Value}(hj:∀v,v∈[a0,a1]→v≠junk)(hv:BV prog w0 a0 a1 R h):aj prog w0 vZ [a0,a1] h R:=
 aI Ga Hf 21 (by kernel_rfl) (by kernel_rfl) (by simp) hj (by
  unfold BV
  rw[Sq w0]
  kernel_rfl) hv
abbrev TU:Func:=f125
def W0:List (Nat×List Nat×List Nat):=[]
def Ke(a0 a1:Value)(R:av):Hp→Prop:=
 cF true 3 a1 λb=>
 aG w0 b 3 λc=>
 am P w0 vW [c] λd=>
 aa (unA .not d) λe=>
 aB e (
 ar [(.int .i64 120)] R) (
 af (λK=>K a0) λg=>
 af (λK=>K a0) λi=>
 af (aF i) λj=>
 af (au j 3) λl=>
 aD (al w0 l) λo=>
 aD (aG w0 b 3) λs=>
 aO [
 (am P w0 vX [o,s] λu=>
 aP [] (
 af (aF g) λv=>
 af (au v 3) λz=>
 aO [
 (bO w0 z u λ_=>
 aP [] (
 bN (
 af (λK=>K a0) λba=>
 af (aF ba) λbb=>
 af (au bb 3) λbc=>
 aD (al w0 bc) λbd=>
 af (aa (aM bd)) λbe=>
 af (λK=>K a0) λbf=>
 af (aF bf) λbg=>
 af (au bg 0) λbh=>
 af (au bh 2) λbi=>
 aD (al w0 bi) λbj=>
 af (aa (ah .eql be bj)) λbk=>
 bN (
 aB bk (
 am P w0 vY [a0] λbl=>
 ar [(.int .i64 0)] R) (
 ar [(.int .i64 0)] R)))))]))])
theorem OY{w0:World}{a0 a1:Value}(hj:∀v,v∈[a0,a1]→v≠junk)(hv:Ke prog w0 a0 a1 R h):aj prog w0 wb [a0,a1] h R:=
 aI TU W0 30 (by kernel_rfl) (by kernel_rfl) (by simp) hj (by
  kernel_rfl) hv
end
