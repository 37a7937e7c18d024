/- PRINTED by wip/tools/shallow.py: functions of the program as readable words, and that each is what its text says. -/
import Derived.Test.YtfmoemconapmhaaGreatGn
set_option linter.all false
namespace Go.Proofs.YtfmoemconapmhaaGreat.Ah
open Go Go.Proofs.Tryz
noncomputable section
variable (P:Program)(w0:World){h:Hp}{R:av}
abbrev TP:Func:=f27
def Wv:List (Nat×List Nat×List Nat):=[]
def JZ(a0 a1:Value)(R:av):Hp→Prop:=
 cF true 3 a1 λc=>
 au c 0 λg=>
 al w0 g λi=>
 am P w0 vU [a0,i] λd=>
 aa (aV d 0) λb=>
 aa (aV d 1) λj=>
 bI [] (aL [(.string .empty),(.string .empty),(.bool false)] 0) 0 3 λl=>
 cT 3 a0 none (some b) none λo=>
 bD w0 3 40 l o λs=>
 aG w0 c 3 λu=>
 bI [(0,3,true,u)] (aL [(.string .empty),(.string .empty),(.bool false)] 1) 1 3 λv=>
 bD w0 3 40 s v λe=>
 aB j (
 aa (ah .add b (.int .i64 1)) λz=>
 cT 3 a0 (some z) none none λba=>
 bD w0 3 40 e ba λbb=>
 ar [bb] R) (
 cT 3 a0 (some b) none none λbc=>
 bD w0 3 40 e bc λbd=>
 ar [bd] R)
theorem OI{w0:World}{a0 a1:Value}(hj:∀v,v∈[a0,a1]→v≠junk)(hv:JZ prog w0 a0 a1 R h):aj prog w0 vX [a0,a1] h R:=
 aI TP Wv 32 (by kernel_rfl) (by kernel_rfl) (by simp) hj (by
  kernel_rfl) hv
abbrev FQ:Func:=f29
def GT:List (Nat×List Nat×List Nat):=[(2,[0,1,4,5,8,9,10],[0,4,5])]
def uA(P:Program)(w0:World)(R:Ko7)(k0 kr:Ko3)(x0 x1 x4 x5 x8 x9 x10:Value):Hp→Prop:=
 aa (ah .lss x10 x9) λc=>
 aB c (
 aJ 3 x8 x10 λd=>
 aG w0 d 3 λe=>
 cA [(.string .empty),(.string .empty),(.bool false)] 3 λb=>
 bU w0 b e 3 λ_=>
 au b 0 λg=>
 al w0 g λi=>
 aa (ah .geq i x1) λj=>
 aB j (
 af (λK=>K x10) λl=>
 af (au b 0) λo=>
 aD (al w0 o) λs=>
 af (λK=>K x1) λu=>
 af (aa (ah .eql s u)) λv=>
 af (λK=>K l) λz=>
 af (λK=>K v) λba=>
 bN (
 kr x0 z ba)) (
 aa (ah .add x10 (.int .i64 1)) λbb=>
 R x0 x1 x4 x5 x8 x9 bb)) (
 k0 x0 x4 x5)
def ol(P:Program)(w0:World)(k0 kr:Ko3):Nat→Value→Value→Value→Value→Value→Value→Value→Hp→Prop
 |0,_,_,_,_,_,_,_=>λ_=>False
 |m+1,x0,x1,x4,x5,x8,x9,x10=>uA P w0 (ol P w0 k0 kr m) k0 kr x0 x1 x4 x5 x8 x9 x10
def Et(k0 kr:Ko3)(x0 x1 x4 x5 x8 x9 x10:Value):Hp→Prop:=λh=>∃m,ol P w0 k0 kr m x0 x1 x4 x5 x8 x9 x10 h
def BH(a0 a1:Value)(R:av):Hp→Prop:=
 aa (aM a0) λb=>
 Et P w0 (λc i j=>
 aa (aM c) λd=>
 ar [d,(.bool false)] R) (λl e g=>
 ar [e,g] R) a0 a1 (.int .i64 0) (.bool false) a0 b (.int .i64 0)
def Eu(w0:World)(k0 kr:Ko3)(m:Nat)(x0 x1 x4 x5 x8 x9 x10:Value):Hp→Prop:=bJ (stepL ⟨prog,w0,27,GT⟩ (drw w0 27) (bQ FQ 0)) m (bK [(0,x0),(1,x1),(4,x4),(5,x5),(8,x8),(9,x9),(10,x10)]) [λt=>k0 (t 0) (t 4) (t 5),λt=>kr (t 0) (t 4) (t 5)]
theorem R6(w0:World)(k0 kr:Ko3):∀m,Eu w0 k0 kr m=ol prog w0 k0 kr m:=by
 intro m
 induction m with
 |zero=>kernel_rfl
 |succ m ih=>
  show _=λx0 x1 x4 x5 x8 x9 x10=>uA prog w0 (ol prog w0 k0 kr m) k0 kr x0 x1 x4 x5 x8 x9 x10
  rw[←ih]
  kernel_rfl
theorem R5(w0:World):Et prog w0=λk0 kr x0 x1 x4 x5 x8 x9 x10 h=>∃m,Eu w0 k0 kr m x0 x1 x4 x5 x8 x9 x10 h:=by
 funext k0 kr x0 x1 x4 x5 x8 x9 x10 h
 simp only[R6]
 rfl
theorem OD{w0:World}{a0 a1:Value}(hj:∀v,v∈[a0,a1]→v≠junk)(hv:BH prog w0 a0 a1 R h):aj prog w0 vU [a0,a1] h R:=
 aI FQ GT 27 (by kernel_rfl) (by kernel_rfl) (by simp) hj (by
  unfold BH
  rw[R5 w0]
  kernel_rfl) hv
abbrev FR:Func:=f65
def GU:List (Nat×List Nat×List Nat):=[(9,[0,2,3,4,6,7,8,9],[0,2,3,4,6,9])]
def uD(R:Ko8)(k0 kr:Ko6)(x0 x2 x3 x4 x6 x7 x8 x9:Value):Hp→Prop:=
 aa (cD x8) λbc=>
 aa (ah .gtr bc (.int .i64 0)) λbd=>
 aB bd (
 am P w0 qK [x8] λi=>
 aa (aV i 0) λo=>
 aa (aV i 1) λs=>
 aa (aV i 2) λbe=>
 aa (ah .neq be (.int .i64 0)) λc=>
 ai c false (λK=>K o) λbf=>
 ai c false (λK=>K x8) λbg=>
 ai c false (aa (cD bg)) λbh=>
 ai c false (λK=>K s) λbi=>
 ai c false (aa (ah .sub bh bi)) λbj=>
 ai c false (aa (bG .u64 bj)) λbk=>
 ai c false (aa (ah .gtr bf bk)) λbl=>
 aQ c (.bool true) bl λbm=>
 aB bm (
 kr x0 (.slice none 0 0) (.int .i64 0) (.int .i64 121) x6 x9) (
 aa (bG .i64 o) λbn=>
 aa (ah .add s bn) λbo=>
 aa (dD x8 (some bo) none) λu=>
 am P w0 qK [u] λj=>
 aa (aV j 0) λg=>
 aa (aV j 1) λbp=>
 aa (aV j 2) λbq=>
 aa (ah .neq bq (.int .i64 0)) λbr=>
 aB br (
 kr x0 (.slice none 0 0) (.int .i64 0) (.int .i64 121) x6 x9) (
 aa (dD u (some bp) none) λv=>
 am P w0 qK [v] λl=>
 aa (aV l 0) λz=>
 aa (aV l 1) λbs=>
 aa (aV l 2) λbt=>
 aa (ah .neq bt (.int .i64 0)) λe=>
 ai e false (λK=>K g) λbu=>
 ai e false (λK=>K x7) λbv=>
 ai e false (aa (bG .u64 bv)) λbw=>
 ai e false (aa (ah .gtr bu bw)) λbx=>
 aQ e (.bool true) bx λd=>
 ai d false (λK=>K z) λbz=>
 ai d false (λK=>K x7) λca=>
 ai d false (aa (bG .u64 ca)) λcb=>
 ai d false (λK=>K g) λcc=>
 ai d false (aa (ah .sub cb cc)) λcd=>
 ai d false (aa (ah .gtr bz cd)) λce=>
 aQ d (.bool true) ce λcf=>
 aB cf (
 kr x0 (.slice none 0 0) (.int .i64 0) (.int .i64 121) x6 x9) (
 aa (dD v (some bs) none) λcg=>
 aa (ah .add g z) λch=>
 aa (dD x0 (some g) (some ch)) λci=>
 am P w0 Av [ci] λba=>
 aa (aV ba 0) λbb=>
 aa (aV ba 1) λcj=>
 aa (unA .not cj) λb=>
 ai b false (λK=>K bb) λck=>
 ai b false (aa (aM ck)) λcl=>
 ai b false (λK=>K x0) λcm=>
 ai b false (aa (cD cm)) λcn=>
 ai b false (λK=>K x9) λco=>
 ai b false (aa (aM co)) λcp=>
 ai b false (aa (ah .sub cn cp)) λcq=>
 ai b false (aa (ah .gtr cl cq)) λcr=>
 aQ b (.bool true) cr λcs=>
 aB cs (
 kr x0 (.slice none 0 0) (.int .i64 0) (.int .i64 121) x6 x9) (
 bD w0 3 40 x9 bb λct=>
 R x0 x2 x3 x4 x6 x7 cg ct))))) (
 k0 x0 x2 x3 x4 x6 x9)
def ov(P:Program)(w0:World)(k0 kr:Ko6):Nat→Value→Value→Value→Value→Value→Value→Value→Value→Hp→Prop
 |0,_,_,_,_,_,_,_,_=>λ_=>False
 |m+1,x0,x2,x3,x4,x6,x7,x8,x9=>uD P w0 (ov P w0 k0 kr m) k0 kr x0 x2 x3 x4 x6 x7 x8 x9
def E1(k0 kr:Ko6)(x0 x2 x3 x4 x6 x7 x8 x9:Value):Hp→Prop:=λh=>∃m,ov P w0 k0 kr m x0 x2 x3 x4 x6 x7 x8 x9 h
def BJ(a0:Value)(R:av):Hp→Prop:=
 aa (cD a0) λj=>
 aa (ah .lss j (.int .i64 24)) λl=>
 aB l (
 ar [(.slice none 0 0),(.int .i64 0),(.int .i64 121)] R) (
 aa (cD a0) λo=>
 aa (ah .sub o (.int .i64 24)) λs=>
 aa (dD a0 (some s) none) λd=>
 af (λK=>K d) λu=>
 af (aa (dD u none (some (.int .i64 4)))) λv=>
 af (λK=>K d) λz=>
 af (aa (dD z (some (.int .i64 12)) (some (.int .i64 16)))) λba=>
 aO [
 (am P w0 qJ [v] λbb=>
 aP [] (
 af (aa (bG .i64 bb)) λbc=>
 aO [
 (am P w0 qJ [ba] λbd=>
 aP [] (
 af (aa (bG .i64 bd)) λbe=>
 af (λK=>K bc) λbf=>
 af (λK=>K be) λc=>
 bN (
 aa (cD a0) λbg=>
 aa (ah .sub bg (.int .i64 24)) λbh=>
 aa (ah .gtr c bh) λbi=>
 aB bi (
 ar [(.slice none 0 0),(.int .i64 0),(.int .i64 121)] R) (
 aa (cD a0) λbj=>
 aa (ah .sub bj (.int .i64 24)) λbk=>
 aa (dD a0 (some c) (some bk)) λbl=>
 E1 P w0 (λbm bw bx bz e g=>
 am P w0 vT [g,e] λi=>
 aa (aV i 0) λbn=>
 aa (aV i 1) λbo=>
 aa (ah .neq bo (.int .i64 0)) λb=>
 ai b false (λK=>K bn) λbp=>
 ai b false (λK=>K bm) λbq=>
 ai b false (aa (ah .neq bp bq)) λbr=>
 aQ b (.bool true) br λbs=>
 aB bs (
 ar [(.slice none 0 0),(.int .i64 0),(.int .i64 121)] R) (
 ar [g,e,(.int .i64 0)] R)) (λca bt bu bv cb cc=>
 ar [bt,bu,bv] R) a0 (.slice none 0 0) (.int .i64 0) (.int .i64 0) bf c bl (.slice none 0 0)))))]))])
def E2(w0:World)(k0 kr:Ko6)(m:Nat)(x0 x2 x3 x4 x6 x7 x8 x9:Value):Hp→Prop:=bJ (stepL ⟨prog,w0,147,GU⟩ (drw w0 147) (bQ FR 0)) m (bK [(0,x0),(2,x2),(3,x3),(4,x4),(6,x6),(7,x7),(8,x8),(9,x9)]) [λt=>k0 (t 0) (t 2) (t 3) (t 4) (t 6) (t 9),λt=>kr (t 0) (t 2) (t 3) (t 4) (t 6) (t 9)]
theorem RE(w0:World)(k0 kr:Ko6):∀m,E2 w0 k0 kr m=ov prog w0 k0 kr m:=by
 intro m
 induction m with
 |zero=>kernel_rfl
 |succ m ih=>
  show _=λx0 x2 x3 x4 x6 x7 x8 x9=>uD prog w0 (ov prog w0 k0 kr m) k0 kr x0 x2 x3 x4 x6 x7 x8 x9
  rw[←ih]
  kernel_rfl
theorem RD(w0:World):E1 prog w0=λk0 kr x0 x2 x3 x4 x6 x7 x8 x9 h=>∃m,E2 w0 k0 kr m x0 x2 x3 x4 x6 x7 x8 x9 h:=by
 funext k0 kr x0 x2 x3 x4 x6 x7 x8 x9 h
 simp only[RE]
 rfl
theorem OF{w0:World}{a0:Value}(hj:∀v,v∈[a0]→v≠junk)(hv:BJ prog w0 a0 R h):aj prog w0 As [a0] h R:=
 aI FR GU 147 (by kernel_rfl) (by kernel_rfl) (by simp) hj (by
  unfold BJ
  rw[RD w0]
  kernel_rfl) hv
abbrev FO:Func:=f70
def GR:List (Nat×List Nat×List Nat):=[(9,[0,1,7,8,9,10,31,32,33],[0,1,7,8,9])]
def u7(R:Ko9)(k0:Ko5)(x0 x1 x7 x8 x9 x10 x31 x32 x33:Value):Hp→Prop:=
 aa (ah .lss x33 x32) λc=>
 aB c (
 aJ 1 x31 x33 λd=>
 al w0 d λb=>
 aJ 1 x10 x33 λe=>
 al w0 e λg=>
 am P w0 Ao [g] λi=>
 aa (cD x7) λj=>
 aa (bG .u64 j) λl=>
 am P w0 lL [l] λo=>
 aa (ah .add i o) λs=>
 aa (cD b) λu=>
 aa (bG .u64 u) λv=>
 am P w0 lL [v] λz=>
 aa (ah .add s z) λba=>
 aa (ah .add x8 ba) λbb=>
 am P w0 lK [b] λbc=>
 aa (bG .u64 bc) λbd=>
 am P w0 jo [bd,(.int .i64 4)] λbe=>
 aa (ah .add b be) λbf=>
 aa (ah .add x7 bf) λbg=>
 aa (ah .add x33 (.int .i64 1)) λbh=>
 R x0 x1 bg bb x9 x10 x31 x32 bh) (
 k0 x0 x1 x7 x8 x9)
def oh(P:Program)(w0:World)(k0:Ko5):Nat→Value→Value→Value→Value→Value→Value→Value→Value→Value→Hp→Prop
 |0,_,_,_,_,_,_,_,_,_=>λ_=>False
 |m+1,x0,x1,x7,x8,x9,x10,x31,x32,x33=>u7 P w0 (oh P w0 k0 m) k0 x0 x1 x7 x8 x9 x10 x31 x32 x33
def En(k0:Ko5)(x0 x1 x7 x8 x9 x10 x31 x32 x33:Value):Hp→Prop:=λh=>∃m,oh P w0 k0 m x0 x1 x7 x8 x9 x10 x31 x32 x33 h
def BF(a0 a1:Value)(R:av):Hp→Prop:=
 aa (ah .lss a1 (.int .i64 256)) λb=>
 ai b false (λK=>K a1) λl=>
 ai b false (aa (ah .gtr l (.int .i64 4096))) λo=>
 aQ b (.bool true) o λs=>
 aB s (
 ar [(.string .empty),(.int .i64 1)] R) (
 am P w0 Aq [a0] λd=>
 aa (ah .neq d (.int .i64 0)) λu=>
 aB u (
 ar [(.string .empty),d] R) (
 am P w0 Au [a0,a1] λe=>
 aa (aV e 0) λc=>
 aa (aV e 1) λv=>
 aa (aM c) λz=>
 En P w0 (λba bb g i bc=>
 aa (bG .u64 bb) λbd=>
 am P w0 jo [bd,(.int .i64 4)] λbe=>
 aa (aM ba) λbf=>
 aa (bG .u64 bf) λbg=>
 am P w0 jo [bg,(.int .i64 4)] λbh=>
 aa (ah .add be bh) λbi=>
 aa (aM bc) λbj=>
 aa (bG .u64 bj) λbk=>
 am P w0 jo [bk,(.int .i64 4)] λbl=>
 aa (ah .add bi bl) λbm=>
 aa (cD g) λbn=>
 aa (bG .u64 bn) λbo=>
 am P w0 jo [bo,(.int .i64 4)] λbp=>
 aa (ah .add bm bp) λj=>
 aa (ah .add g i) λbq=>
 aa (ah .add bq j) λbr=>
 aa (ah .add i j) λbs=>
 am P w0 lK [bs] λbt=>
 aa (bG .u64 bt) λbu=>
 am P w0 jo [bu,(.int .i64 4)] λbv=>
 aa (ah .add br bv) λbw=>
 aa (ah .add bw (.string ⟨#[68,82,85,78]⟩)) λbx=>
 ar [bx,(.int .i64 0)] R) a0 a1 (.string .empty) (.string .empty) c v c z (.int .i64 0)))
def Eo(w0:World)(k0:Ko5)(m:Nat)(x0 x1 x7 x8 x9 x10 x31 x32 x33:Value):Hp→Prop:=bJ (stepL ⟨prog,w0,95,GR⟩ (drw w0 95) (bQ FO 0)) m (bK [(0,x0),(1,x1),(7,x7),(8,x8),(9,x9),(10,x10),(31,x31),(32,x32),(33,x33)]) [λt=>k0 (t 0) (t 1) (t 7) (t 8) (t 9)]
theorem R0(w0:World)(k0:Ko5):∀m,Eo w0 k0 m=oh prog w0 k0 m:=by
 intro m
 induction m with
 |zero=>kernel_rfl
 |succ m ih=>
  show _=λx0 x1 x7 x8 x9 x10 x31 x32 x33=>u7 prog w0 (oh prog w0 k0 m) k0 x0 x1 x7 x8 x9 x10 x31 x32 x33
  rw[←ih]
  kernel_rfl
theorem Rz(w0:World):En prog w0=λk0 x0 x1 x7 x8 x9 x10 x31 x32 x33 h=>∃m,Eo w0 k0 m x0 x1 x7 x8 x9 x10 x31 x32 x33 h:=by
 funext k0 x0 x1 x7 x8 x9 x10 x31 x32 x33 h
 simp only[R0]
 rfl
theorem OB{w0:World}{a0 a1:Value}(hj:∀v,v∈[a0,a1]→v≠junk)(hv:BF prog w0 a0 a1 R h):aj prog w0 vT [a0,a1] h R:=
 aI FO GR 95 (by kernel_rfl) (by kernel_rfl) (by simp) hj (by
  unfold BF
  rw[Rz w0]
  kernel_rfl) hv
abbrev TO:Func:=f86
def Wu:List (Nat×List Nat×List Nat):=[]
def JY(P:Program)(w0:World)(a0:Value)(R:av):Hp→Prop:=
 cF true 3 a0 λc=>
 au c 0 λi=>
 al w0 i λj=>
 aa (cD j) λl=>
 aa (ah .geq l (.int .i64 1)) λd=>
 ai d true (au c 0) λo=>
 ai d true (al w0 o) λs=>
 ai d true (aa (cD s)) λu=>
 ai d true (aa (ah .leq u (.int .i64 64))) λv=>
 aQ d v (.bool false) λe=>
 ai e true (au c 1) λz=>
 ai e true (al w0 z) λba=>
 ai e true (aa (cD ba)) λbb=>
 ai e true (aa (ah .leq bb (.int .i64 64))) λbc=>
 aQ e bc (.bool false) λb=>
 ai b true (au c 2) λbd=>
 ai b true (al w0 bd) λbe=>
 ai b true (aa (unA .not be)) λbf=>
 ai b true (λK=>K bf) λg=>
 ai g false (au c 1) λbg=>
 ai g false (al w0 bg) λbh=>
 ai g false (aa (ah .eql bh (.string .empty))) λbi=>
 ai b true (aQ g (.bool true) bi) λbj=>
 aQ b bj (.bool false) λbk=>
 ar [bk] R
theorem OH{w0:World}{a0:Value}(hj:∀v,v∈[a0]→v≠junk)(hv:JY prog w0 a0 R h):aj prog w0 vW [a0] h R:=
 aI TO Wu 29 (by kernel_rfl) (by kernel_rfl) (by simp) hj (by
  kernel_rfl) hv
abbrev uY:Func:=f87
def vr:List (Nat×List Nat×List Nat):=[(3,[1,5,15,16,17],[1,5]),(6,[1,5,15,16,17,21,22,23],[1,5,15,16,17]),(15,[1,12,41,42,43],[12])]
def uB(R:Ko8)(k2:Ko5)(x1 x5 x15 x16 x17 x21 x22 x23:Value):Hp→Prop:=
 aa (ah .lss x23 x22) λd=>
 aB d (
 aJ 3 x21 x23 λe=>
 aG w0 e 3 λg=>
 cA [(.string .empty),(.string .empty),(.bool false)] 3 λb=>
 bU w0 b g 3 λ_=>
 au b 0 λi=>
 al w0 i λj=>
 am P w0 vU [x5,j] λc=>
 aa (aV c 0) λba=>
 aa (aV c 1) λl=>
 aa (unA .not l) λo=>
 aB o (
 aG w0 b 3 λs=>
 am P w0 vX [x5,s] λu=>
 aa (ah .add x23 (.int .i64 1)) λv=>
 R x1 u x15 x16 x17 x21 x22 v) (
 aa (ah .add x23 (.int .i64 1)) λz=>
 R x1 x5 x15 x16 x17 x21 x22 z)) (
 k2 x1 x5 x15 x16 x17)
def ou(P:Program)(w0:World)(k2:Ko5):Nat→Value→Value→Value→Value→Value→Value→Value→Value→Hp→Prop
 |0,_,_,_,_,_,_,_,_=>λ_=>False
 |m+1,x1,x5,x15,x16,x17,x21,x22,x23=>uB P w0 (ou P w0 k2 m) k2 x1 x5 x15 x16 x17 x21 x22 x23
def Ew(k2:Ko5)(x1 x5 x15 x16 x17 x21 x22 x23:Value):Hp→Prop:=λh=>∃m,ou P w0 k2 m x1 x5 x15 x16 x17 x21 x22 x23 h
def rU(R:Ko5)(k0:Ko2)(x1 x5 x15 x16 x17:Value):Hp→Prop:=
 aa (ah .lss x17 x16) λc=>
 aB c (
 aJ 1 x15 x17 λd=>
 al w0 d λb=>
 aa (aM b) λe=>
 Ew P w0 (λg i j l o=>
 aa (ah .add o (.int .i64 1)) λs=>
 R g i j l s) x1 x5 x15 x16 x17 b e (.int .i64 0)) (
 k0 x1 x5)
def ot(P:Program)(w0:World)(k0:Ko2):Nat→Value→Value→Value→Value→Value→Hp→Prop
 |0,_,_,_,_,_=>λ_=>False
 |m+1,x1,x5,x15,x16,x17=>rU P w0 (ot P w0 k0 m) k0 x1 x5 x15 x16 x17
def Ev(k0:Ko2)(x1 x5 x15 x16 x17:Value):Hp→Prop:=λh=>∃m,ot P w0 k0 m x1 x5 x15 x16 x17 h
def uC(P:Program)(w0:World)(R:Ko5)(k4:Ko1)(x1 x12 x41 x42 x43:Value):Hp→Prop:=
 aa (ah .lss x43 x42) λd=>
 aB d (
 aJ 3 x41 x43 λe=>
 aG w0 e 3 λg=>
 cA [(.string .empty),(.string .empty),(.bool false)] 3 λc=>
 bU w0 c g 3 λ_=>
 aa (unA .not x1) λb=>
 ai b false (au c 2) λi=>
 ai b false (al w0 i) λj=>
 ai b false (aa (unA .not j)) λl=>
 aQ b (.bool true) l λo=>
 aB o (
 aG w0 c 3 λs=>
 bI [(0,3,true,s)] (aL [(.string .empty),(.string .empty),(.bool false)] 1) 1 3 λu=>
 bD w0 3 40 x12 u λv=>
 aa (ah .add x43 (.int .i64 1)) λz=>
 R x1 v x41 x42 z) (
 aa (ah .add x43 (.int .i64 1)) λba=>
 R x1 x12 x41 x42 ba)) (
 k4 x12)
def ly(P:Program)(w0:World)(k4:Ko1):Nat→Value→Value→Value→Value→Value→Hp→Prop
 |0,_,_,_,_,_=>λ_=>False
 |m+1,x1,x12,x41,x42,x43=>uC P w0 (ly P w0 k4 m) k4 x1 x12 x41 x42 x43
def Ex(k4:Ko1)(x1 x12 x41 x42 x43:Value):Hp→Prop:=λh=>∃m,ly P w0 k4 m x1 x12 x41 x42 x43 h
def BI(a0 a1:Value)(R:av):Hp→Prop:=
 aa (aM a0) λc=>
 Ev P w0 (λd b=>
 aa (aM b) λe=>
 Ex P w0 (λg=>
 ar [g] R) d (.slice none 0 0) b e (.int .i64 0)) a1 (.slice none 0 0) a0 c (.int .i64 0)
def E0(w0:World)(k4:Ko1)(m:Nat)(x1 x12 x41 x42 x43:Value):Hp→Prop:=bJ (stepL ⟨prog,w0,60,vr⟩ (drw w0 60) (bQ uY 2)) m (bK [(1,x1),(12,x12),(41,x41),(42,x42),(43,x43)]) [λt=>k4 (t 12)]
theorem RC(w0:World)(k4:Ko1):∀m,E0 w0 k4 m=ly prog w0 k4 m:=by
 intro m
 induction m with
 |zero=>kernel_rfl
 |succ m ih=>
  show _=λx1 x12 x41 x42 x43=>uC prog w0 (ly prog w0 k4 m) k4 x1 x12 x41 x42 x43
  rw[←ih]
  kernel_rfl
theorem R9(w0:World):Ex prog w0=λk4 x1 x12 x41 x42 x43 h=>∃m,E0 w0 k4 m x1 x12 x41 x42 x43 h:=by
 funext k4 x1 x12 x41 x42 x43 h
 simp only[RC]
 rfl
def Ez(w0:World)(k2:Ko5)(m:Nat)(x1 x5 x15 x16 x17 x21 x22 x23:Value):Hp→Prop:=bJ (stepL ⟨prog,w0,60,vr⟩ (drw w0 60) (bQ uY 1)) m (bK [(1,x1),(5,x5),(15,x15),(16,x16),(17,x17),(21,x21),(22,x22),(23,x23)]) [λt=>k2 (t 1) (t 5) (t 15) (t 16) (t 17)]
theorem RB(w0:World)(k2:Ko5):∀m,Ez w0 k2 m=ou prog w0 k2 m:=by
 intro m
 induction m with
 |zero=>kernel_rfl
 |succ m ih=>
  show _=λx1 x5 x15 x16 x17 x21 x22 x23=>uB prog w0 (ou prog w0 k2 m) k2 x1 x5 x15 x16 x17 x21 x22 x23
  rw[←ih]
  kernel_rfl
theorem R8(w0:World):Ew prog w0=λk2 x1 x5 x15 x16 x17 x21 x22 x23 h=>∃m,Ez w0 k2 m x1 x5 x15 x16 x17 x21 x22 x23 h:=by
 funext k2 x1 x5 x15 x16 x17 x21 x22 x23 h
 simp only[RB]
 rfl
def Ey(w0:World)(k0:Ko2)(m:Nat)(x1 x5 x15 x16 x17:Value):Hp→Prop:=bJ (stepL ⟨prog,w0,60,vr⟩ (drw w0 60) (bQ uY 0)) m (bK [(1,x1),(5,x5),(15,x15),(16,x16),(17,x17)]) [λt=>k0 (t 1) (t 5)]
theorem RA(w0:World)(k0:Ko2):∀m,Ey w0 k0 m=ot prog w0 k0 m:=by
 intro m
 induction m with
 |zero=>kernel_rfl
 |succ m ih=>
  show _=λx1 x5 x15 x16 x17=>rU prog w0 (ot prog w0 k0 m) k0 x1 x5 x15 x16 x17
  rw[←ih]
  unfold rU
  rw[R8 w0]
  kernel_rfl
theorem R7(w0:World):Ev prog w0=λk0 x1 x5 x15 x16 x17 h=>∃m,Ey w0 k0 m x1 x5 x15 x16 x17 h:=by
 funext k0 x1 x5 x15 x16 x17 h
 simp only[RA]
 rfl
theorem OE{w0:World}{a0 a1:Value}(hj:∀v,v∈[a0,a1]→v≠junk)(hv:BI prog w0 a0 a1 R h):aj prog w0 vV [a0,a1] h R:=
 aI uY vr 60 (by kernel_rfl) (by kernel_rfl) (by simp) hj (by
  unfold BI
  rw[R7 w0,R9 w0]
  kernel_rfl) hv
abbrev FU:Func:=f118
def GY:List (Nat×List Nat×List Nat):=[(3,[0,2,3,4,5],[2,3,4])]
def uG(P:Program)(w0:World)(R:Ko5)(k0 kr:Ko3)(x0 x2 x3 x4 x5:Value):Hp→Prop:=
 aa (cD x0) λl=>
 aa (ah .gtr l (.int .i64 0)) λo=>
 aB o (
 aa (cD x0) λs=>
 aa (ah .lss s (.int .i64 4)) λu=>
 aB u (
 kr x4 (.bool false) x4) (
 af (λK=>K x0) λv=>
 af (aa (dR v (.int .i64 0))) λz=>
 af (aa (bG .i64 z)) λba=>
 af (λK=>K x0) λbb=>
 af (aa (dR bb (.int .i64 1))) λbc=>
 af (aa (bG .i64 bc)) λbd=>
 af (λK=>K x0) λbe=>
 af (aa (dR be (.int .i64 2))) λbf=>
 af (λK=>K x0) λbg=>
 af (aa (dR bg (.int .i64 3))) λbh=>
 af (aa (bG .i64 bh)) λbi=>
 af (λK=>K ba) λg=>
 af (λK=>K bd) λc=>
 af (λK=>K bf) λi=>
 af (λK=>K bi) λd=>
 bN (
 aa (cD x5) λbj=>
 aa (ah .gtr g bj) λe=>
 ai e false (λK=>K i) λbk=>
 ai e false (aa (ah .gtr bk (.int .u8 1))) λbl=>
 aQ e (.bool true) bl λb=>
 ai b false (λK=>K x0) λbm=>
 ai b false (aa (cD bm)) λbn=>
 ai b false (λK=>K c) λbo=>
 ai b false (aa (ah .add (.int .i64 4) bo)) λbp=>
 ai b false (λK=>K d) λbq=>
 ai b false (aa (ah .add bp bq)) λbr=>
 ai b false (aa (ah .lss bn br)) λbs=>
 aQ b (.bool true) bs λbt=>
 aB bt (
 kr x4 (.bool false) x4) (
 af (λK=>K x5) λbu=>
 af (λK=>K g) λbv=>
 af (aa (dD bu none (some bv))) λbw=>
 af (λK=>K x0) λbx=>
 af (λK=>K c) λbz=>
 af (aa (ah .add (.int .i64 4) bz)) λca=>
 af (aa (dD bx (some (.int .i64 4)) (some ca))) λcb=>
 af (aa (ah .add bw cb)) λcc=>
 af (λK=>K cc) λj=>
 bN (
 aa (ah .add (.int .i64 4) c) λcd=>
 aa (ah .add (.int .i64 4) c) λce=>
 aa (ah .add ce d) λcf=>
 aa (dD x0 (some cd) (some cf)) λcg=>
 aa (ah .eql i (.int .u8 1)) λch=>
 dI [(0,1,false,j),(1,1,false,cg),(2,1,false,ch)] [(.string .empty),(.string .empty),(.bool false)] λci=>
 bI [(0,3,true,ci)] (aL [(.string .empty),(.string .empty),(.bool false)] 1) 1 3 λcj=>
 bD w0 3 40 x4 cj λck=>
 aa (ah .add (.int .i64 4) c) λcl=>
 aa (ah .add cl d) λcm=>
 aa (dD x0 (some cm) none) λcn=>
 R cn x2 x3 ck j))))) (
 k0 x2 x3 x4)
def ow(P:Program)(w0:World)(k0 kr:Ko3):Nat→Value→Value→Value→Value→Value→Hp→Prop
 |0,_,_,_,_,_=>λ_=>False
 |m+1,x0,x2,x3,x4,x5=>uG P w0 (ow P w0 k0 kr m) k0 kr x0 x2 x3 x4 x5
def E7(k0 kr:Ko3)(x0 x2 x3 x4 x5:Value):Hp→Prop:=λh=>∃m,ow P w0 k0 kr m x0 x2 x3 x4 x5 h
def BM(a0:Value)(R:av):Hp→Prop:=
 E7 P w0 (λe g b=>
 ar [b,(.bool true)] R) (λc d i=>
 ar [c,d] R) a0 (.slice none 0 0) (.bool false) (.slice none 0 0) (.string .empty)
def E8(w0:World)(k0 kr:Ko3)(m:Nat)(x0 x2 x3 x4 x5:Value):Hp→Prop:=bJ (stepL ⟨prog,w0,76,GY⟩ (drw w0 76) (bQ FU 0)) m (bK [(0,x0),(2,x2),(3,x3),(4,x4),(5,x5)]) [λt=>k0 (t 2) (t 3) (t 4),λt=>kr (t 2) (t 3) (t 4)]
theorem RL(w0:World)(k0 kr:Ko3):∀m,E8 w0 k0 kr m=ow prog w0 k0 kr m:=by
 intro m
 induction m with
 |zero=>kernel_rfl
 |succ m ih=>
  show _=λx0 x2 x3 x4 x5=>uG prog w0 (ow prog w0 k0 kr m) k0 kr x0 x2 x3 x4 x5
  rw[←ih]
  kernel_rfl
theorem RK(w0:World):E7 prog w0=λk0 kr x0 x2 x3 x4 x5 h=>∃m,E8 w0 k0 kr m x0 x2 x3 x4 x5 h:=by
 funext k0 kr x0 x2 x3 x4 x5 h
 simp only[RL]
 rfl
theorem OL{w0:World}{a0:Value}(hj:∀v,v∈[a0]→v≠junk)(hv:BM prog w0 a0 R h):aj prog w0 Av [a0] h R:=
 aI FU GY 76 (by kernel_rfl) (by kernel_rfl) (by simp) hj (by
  unfold BM
  rw[RK w0]
  kernel_rfl) hv
abbrev FP:Func:=f121
def GS:List (Nat×List Nat×List Nat):=[(2,[0,2,5,6,7],[2])]
def u9(R:Ko5)(k0 kr:Ko1)(x0 x2 x5 x6 x7:Value):Hp→Prop:=
 aa (ah .lss x7 x6) λe=>
 aB e (
 aJ 3 x5 x7 λg=>
 aG w0 g 3 λi=>
 cA [(.string .empty),(.string .empty),(.bool false)] 3 λd=>
 bU w0 d i 3 λ_=>
 aD (aG w0 d 3) λj=>
 aO [
 (am P w0 vW [j] λl=>
 aP [] (
 af (aa (unA .not l)) λo=>
 af (λK=>K o) λc=>
 af (ai c false (λK=>K x7)) λs=>
 af (ai c false (aa (ah .gtr s (.int .i64 0)))) λu=>
 af (ai c false (λK=>K u)) λb=>
 af (ai b true (λK=>K x0)) λv=>
 af (ai b true (λK=>K x7)) λz=>
 af (ai b true (aa (ah .sub z (.int .i64 1)))) λba=>
 af (ai b true (aJ 3 v ba)) λbb=>
 af (ai b true (au bb 0)) λbc=>
 aD (ai b true (al w0 bc)) λbd=>
 af (ai b true (au d 0)) λbe=>
 aD (ai b true (al w0 be)) λbf=>
 af (ai b true (aa (ah .geq bd bf))) λbg=>
 af (ai c false (aQ b bg (.bool false))) λbh=>
 af (aQ c (.bool true) bh) λbi=>
 bN (
 aB bi (
 kr (.int .i64 120)) (
 aa (ah .add x7 (.int .i64 1)) λbj=>
 R x0 x2 x5 x6 bj))))]) (
 k0 x2)
def mF(P:Program)(w0:World)(k0 kr:Ko1):Nat→Value→Value→Value→Value→Value→Hp→Prop
 |0,_,_,_,_,_=>λ_=>False
 |m+1,x0,x2,x5,x6,x7=>u9 P w0 (mF P w0 k0 kr m) k0 kr x0 x2 x5 x6 x7
def Ep(k0 kr:Ko1)(x0 x2 x5 x6 x7:Value):Hp→Prop:=λh=>∃m,mF P w0 k0 kr m x0 x2 x5 x6 x7 h
def BG(a0:Value)(R:av):Hp→Prop:=
 aa (aM a0) λb=>
 Ep P w0 (λd=>
 ar [(.int .i64 0)] R) (λc=>
 ar [c] R) a0 (.int .i64 0) a0 b (.int .i64 0)
def Er(w0:World)(k0 kr:Ko1)(m:Nat)(x0 x2 x5 x6 x7:Value):Hp→Prop:=bJ (stepL ⟨prog,w0,31,GS⟩ (drw w0 31) (bQ FP 0)) m (bK [(0,x0),(2,x2),(5,x5),(6,x6),(7,x7)]) [λt=>k0 (t 2),λt=>kr (t 2)]
theorem R4(w0:World)(k0 kr:Ko1):∀m,Er w0 k0 kr m=mF prog w0 k0 kr m:=by
 intro m
 induction m with
 |zero=>kernel_rfl
 |succ m ih=>
  show _=λx0 x2 x5 x6 x7=>u9 prog w0 (mF prog w0 k0 kr m) k0 kr x0 x2 x5 x6 x7
  rw[←ih]
  kernel_rfl
theorem R3(w0:World):Ep prog w0=λk0 kr x0 x2 x5 x6 x7 h=>∃m,Er w0 k0 kr m x0 x2 x5 x6 x7 h:=by
 funext k0 kr x0 x2 x5 x6 x7 h
 simp only[R4]
 rfl
theorem OC{w0:World}{a0:Value}(hj:∀v,v∈[a0]→v≠junk)(hv:BG prog w0 a0 R h):aj prog w0 Aq [a0] h R:=
 aI FP GS 31 (by kernel_rfl) (by kernel_rfl) (by simp) hj (by
  unfold BG
  rw[R3 w0]
  kernel_rfl) hv
abbrev FT:Func:=f122
def GX:List (Nat×List Nat×List Nat):=[(3,[1,4,5,6,11,12,13],[4,5])]
def uF(R:Ko7)(k0:Ko2)(x1 x4 x5 x6 x11 x12 x13:Value):Hp→Prop:=
 aa (ah .lss x13 x12) λi=>
 aB i (
 aJ 3 x11 x13 λj=>
 aG w0 j 3 λl=>
 cA [(.string .empty),(.string .empty),(.bool false)] 3 λc=>
 bU w0 c l 3 λ_=>
 aG w0 c 3 λo=>
 am P w0 sR [o,x6] λe=>
 aa (aM x4) λd=>
 aa (ah .eql d (.int .i64 0)) λb=>
 ai b false (λK=>K x4) λs=>
 ai b false (λK=>K d) λu=>
 ai b false (aa (ah .sub u (.int .i64 1))) λv=>
 ai b false (aJ 1 s v) λz=>
 ai b false (al w0 z) λba=>
 ai b false (aa (cD ba)) λbb=>
 ai b false (λK=>K e) λbc=>
 ai b false (aa (cD bc)) λbd=>
 ai b false (aa (ah .add bb bd)) λbe=>
 ai b false (λK=>K x1) λbf=>
 ai b false (aa (ah .gtr be bf)) λbg=>
 aQ b (.bool true) bg λbh=>
 aB bh (
 aG w0 c 3 λbi=>
 am P w0 sR [bi,(.string .empty)] λbj=>
 bI [(0,1,false,bj)] (aL [(.string .empty)] 1) 1 1 λbk=>
 bD w0 1 16 x4 bk λbl=>
 au c 0 λbm=>
 al w0 bm λbn=>
 bI [(0,1,false,bn)] (aL [(.string .empty)] 1) 1 1 λbo=>
 bD w0 1 16 x5 bo λbp=>
 au c 0 λbq=>
 al w0 bq λbr=>
 aa (ah .add x13 (.int .i64 1)) λbs=>
 R x1 bl bp br x11 x12 bs) (
 aa (ah .sub d (.int .i64 1)) λg=>
 aJ 1 x4 g λbt=>
 al w0 bt λbu=>
 aa (ah .add bu e) λbv=>
 aJ 1 x4 g λbw=>
 bO w0 bw bv λ_=>
 au c 0 λbx=>
 al w0 bx λbz=>
 aa (ah .add x13 (.int .i64 1)) λca=>
 R x1 x4 x5 bz x11 x12 ca)) (
 k0 x4 x5)
def mG(P:Program)(w0:World)(k0:Ko2):Nat→Value→Value→Value→Value→Value→Value→Value→Hp→Prop
 |0,_,_,_,_,_,_,_=>λ_=>False
 |m+1,x1,x4,x5,x6,x11,x12,x13=>uF P w0 (mG P w0 k0 m) k0 x1 x4 x5 x6 x11 x12 x13
def E5(k0:Ko2)(x1 x4 x5 x6 x11 x12 x13:Value):Hp→Prop:=λh=>∃m,mG P w0 k0 m x1 x4 x5 x6 x11 x12 x13 h
def BL(a0 a1:Value)(R:av):Hp→Prop:=
 aa (aM a0) λb=>
 E5 P w0 (λc d=>
 ar [c,d] R) a1 (.slice none 0 0) (.slice none 0 0) (.string .empty) a0 b (.int .i64 0)
def E6(w0:World)(k0:Ko2)(m:Nat)(x1 x4 x5 x6 x11 x12 x13:Value):Hp→Prop:=bJ (stepL ⟨prog,w0,60,GX⟩ (drw w0 60) (bQ FT 0)) m (bK [(1,x1),(4,x4),(5,x5),(6,x6),(11,x11),(12,x12),(13,x13)]) [λt=>k0 (t 4) (t 5)]
theorem RJ(w0:World)(k0:Ko2):∀m,E6 w0 k0 m=mG prog w0 k0 m:=by
 intro m
 induction m with
 |zero=>kernel_rfl
 |succ m ih=>
  show _=λx1 x4 x5 x6 x11 x12 x13=>uF prog w0 (mG prog w0 k0 m) k0 x1 x4 x5 x6 x11 x12 x13
  rw[←ih]
  kernel_rfl
theorem RH(w0:World):E5 prog w0=λk0 x1 x4 x5 x6 x11 x12 x13 h=>∃m,E6 w0 k0 m x1 x4 x5 x6 x11 x12 x13 h:=by
 funext k0 x1 x4 x5 x6 x11 x12 x13 h
 simp only[RJ]
 rfl
theorem OJ{w0:World}{a0 a1:Value}(hj:∀v,v∈[a0,a1]→v≠junk)(hv:BL prog w0 a0 a1 R h):aj prog w0 Au [a0,a1] h R:=
 aI FT GX 60 (by kernel_rfl) (by kernel_rfl) (by simp) hj (by
  unfold BL
  rw[RH w0]
  kernel_rfl) hv
abbrev FS:Func:=f126
def GW:List (Nat×List Nat×List Nat):=[(3,[1,2,7,10,11,12],[7])]
def uE(P:Program)(w0:World)(R:Ko6)(k0:Ko1)(x1 x2 x7 x10 x11 x12:Value):Hp→Prop:=
 aa (ah .lss x12 x11) λe=>
 aB e (
 aJ 3 x10 x12 λg=>
 aG w0 g 3 λi=>
 cA [(.string .empty),(.string .empty),(.bool false)] 3 λd=>
 bU w0 d i 3 λ_=>
 au d 0 λj=>
 al w0 j λl=>
 aa (ah .geq l x1) λb=>
 ai b true (λK=>K x2) λo=>
 ai b true (aa (ah .eql o (.string .empty))) λs=>
 ai b true (λK=>K s) λc=>
 ai c false (au d 0) λu=>
 ai c false (al w0 u) λv=>
 ai c false (λK=>K x2) λz=>
 ai c false (aa (ah .lss v z)) λba=>
 ai b true (aQ c (.bool true) ba) λbb=>
 aQ b bb (.bool false) λbc=>
 aB bc (
 aG w0 d 3 λbd=>
 bI [(0,3,true,bd)] (aL [(.string .empty),(.string .empty),(.bool false)] 1) 1 3 λbe=>
 bD w0 3 40 x7 be λbf=>
 aa (ah .add x12 (.int .i64 1)) λbg=>
 R x1 x2 bf x10 x11 bg) (
 aa (ah .add x12 (.int .i64 1)) λbh=>
 R x1 x2 x7 x10 x11 bh)) (
 k0 x7)
def lz(P:Program)(w0:World)(k0:Ko1):Nat→Value→Value→Value→Value→Value→Value→Hp→Prop
 |0,_,_,_,_,_,_=>λ_=>False
 |m+1,x1,x2,x7,x10,x11,x12=>uE P w0 (lz P w0 k0 m) k0 x1 x2 x7 x10 x11 x12
def E3(k0:Ko1)(x1 x2 x7 x10 x11 x12:Value):Hp→Prop:=λh=>∃m,lz P w0 k0 m x1 x2 x7 x10 x11 x12 h
def BK(a0 a1 a2:Value)(R:av):Hp→Prop:=
 aa (aM a0) λb=>
 E3 P w0 (λc=>
 ar [c] R) a1 a2 (.slice none 0 0) a0 b (.int .i64 0)
def E4(w0:World)(k0:Ko1)(m:Nat)(x1 x2 x7 x10 x11 x12:Value):Hp→Prop:=bJ (stepL ⟨prog,w0,36,GW⟩ (drw w0 36) (bQ FS 0)) m (bK [(1,x1),(2,x2),(7,x7),(10,x10),(11,x11),(12,x12)]) [λt=>k0 (t 7)]
theorem RG(w0:World)(k0:Ko1):∀m,E4 w0 k0 m=lz prog w0 k0 m:=by
 intro m
 induction m with
 |zero=>kernel_rfl
 |succ m ih=>
  show _=λx1 x2 x7 x10 x11 x12=>uE prog w0 (lz prog w0 k0 m) k0 x1 x2 x7 x10 x11 x12
  rw[←ih]
  kernel_rfl
theorem RF(w0:World):E3 prog w0=λk0 x1 x2 x7 x10 x11 x12 h=>∃m,E4 w0 k0 m x1 x2 x7 x10 x11 x12 h:=by
 funext k0 x1 x2 x7 x10 x11 x12 h
 simp only[RG]
 rfl
theorem OG{w0:World}{a0 a1 a2:Value}(hj:∀v,v∈[a0,a1,a2]→v≠junk)(hv:BK prog w0 a0 a1 a2 R h):aj prog w0 At [a0,a1,a2] h R:=
 aI FS GW 36 (by kernel_rfl) (by kernel_rfl) (by simp) hj (by
  unfold BK
  rw[RF w0]
  kernel_rfl) hv
abbrev TQ:Func:=f151
def Ww:List (Nat×List Nat×List Nat):=[]
def Ka(a0 a1:Value)(R:av):Hp→Prop:=
 cF true 3 a0 λb=>
 au b 0 λu=>
 al w0 u λv=>
 am P w0 Aw [v,a1] λc=>
 au b 2 λz=>
 al w0 z λba=>
 aB ba (
 af (λK=>K c) λbb=>
 af (aa (bG .u8 bb)) λbc=>
 af (au b 0) λbd=>
 aD (al w0 bd) λbe=>
 af (aa (cD be)) λbf=>
 af (λK=>K c) λbg=>
 af (aa (ah .sub bf bg)) λbh=>
 af (aa (bG .u8 bh)) λbi=>
 af (λK=>K (.int .u8 1)) λbj=>
 af (au b 1) λbk=>
 aD (al w0 bk) λbl=>
 af (aa (cD bl)) λbm=>
 af (aa (bG .u8 bm)) λbn=>
 af (au b 0) λd=>
 aD (al w0 d) λe=>
 af (λK=>K c) λbo=>
 af (aa (dD e (some bo) none)) λbp=>
 af (au b 1) λg=>
 aD (al w0 g) λi=>
 aO [
 (bI [(0,1,false,bc),(1,1,false,bi),(2,1,false,bj),(3,1,false,bn)] (aL [(.int .u8 0)] 4) 4 1 λbq=>
 aP [(bZ (al w0 g) i),(bZ (al w0 d) e)] (
 aD (dW w0 bq) λbr=>
 af (aa (ah .add br bp)) λbs=>
 af (aa (ah .add bs i)) λbt=>
 af (λK=>K bt) λbu=>
 bN (
 ar [bu] R)))]) (
 af (λK=>K c) λbv=>
 af (aa (bG .u8 bv)) λbw=>
 af (au b 0) λbx=>
 aD (al w0 bx) λbz=>
 af (aa (cD bz)) λca=>
 af (λK=>K c) λcb=>
 af (aa (ah .sub ca cb)) λcc=>
 af (aa (bG .u8 cc)) λcd=>
 af (λK=>K (.int .u8 0)) λce=>
 af (au b 1) λcf=>
 aD (al w0 cf) λcg=>
 af (aa (cD cg)) λch=>
 af (aa (bG .u8 ch)) λci=>
 af (au b 0) λj=>
 aD (al w0 j) λl=>
 af (λK=>K c) λcj=>
 af (aa (dD l (some cj) none)) λck=>
 af (au b 1) λo=>
 aD (al w0 o) λs=>
 aO [
 (bI [(0,1,false,bw),(1,1,false,cd),(2,1,false,ce),(3,1,false,ci)] (aL [(.int .u8 0)] 4) 4 1 λcl=>
 aP [(bZ (al w0 o) s),(bZ (al w0 j) l)] (
 aD (dW w0 cl) λcm=>
 af (aa (ah .add cm ck)) λcn=>
 af (aa (ah .add cn s)) λco=>
 af (λK=>K co) λcp=>
 bN (
 ar [cp] R)))])
theorem OK{w0:World}{a0 a1:Value}(hj:∀v,v∈[a0,a1]→v≠junk)(hv:Ka prog w0 a0 a1 R h):aj prog w0 sR [a0,a1] h R:=
 aI TQ Ww 36 (by kernel_rfl) (by kernel_rfl) (by simp) hj (by
  kernel_rfl) hv
abbrev FV:Func:=f166
def GZ:List (Nat×List Nat×List Nat):=[(2,[0,1,5],[5])]
def rV(P:Program)(w0:World)(R:Ko3)(k0:Ko1)(x0 x1 x5:Value):Hp→Prop:=
 af (λK=>K x5) λd=>
 af (λK=>K x0) λe=>
 af (aa (cD e)) λg=>
 af (aa (ah .lss d g)) λi=>
 af (λK=>K i) λc=>
 af (ai c true (λK=>K x5)) λj=>
 af (ai c true (λK=>K x1)) λl=>
 af (ai c true (aa (cD l))) λo=>
 af (ai c true (aa (ah .lss j o))) λs=>
 af (aQ c s (.bool false)) λu=>
 af (λK=>K u) λb=>
 af (ai b true (λK=>K x0)) λv=>
 af (ai b true (λK=>K x5)) λz=>
 af (ai b true (aa (dR v z))) λba=>
 af (ai b true (λK=>K x1)) λbb=>
 af (ai b true (λK=>K x5)) λbc=>
 af (ai b true (aa (dR bb bc))) λbd=>
 af (ai b true (aa (ah .eql ba bd))) λbe=>
 af (aQ b be (.bool false)) λbf=>
 bN (
 aB bf (
 aa (ah .add x5 (.int .i64 1)) λbg=>
 R x0 x1 bg) (
 k0 x5))
def o0(P:Program)(w0:World)(k0:Ko1):Nat→Value→Value→Value→Hp→Prop
 |0,_,_,_=>λ_=>False
 |m+1,x0,x1,x5=>rV P w0 (o0 P w0 k0 m) k0 x0 x1 x5
def E9(k0:Ko1)(x0 x1 x5:Value):Hp→Prop:=λh=>∃m,o0 P w0 k0 m x0 x1 x5 h
def BN(a0 a1:Value)(R:av):Hp→Prop:=
 E9 P w0 (λb=>
 ar [b] R) a0 a1 (.int .i64 0)
def EA(w0:World)(k0:Ko1)(m:Nat)(x0 x1 x5:Value):Hp→Prop:=bJ (stepL ⟨prog,w0,28,GZ⟩ (drw w0 28) (bQ FV 0)) m (bK [(0,x0),(1,x1),(5,x5)]) [λt=>k0 (t 5)]
theorem RN(w0:World)(k0:Ko1):∀m,EA w0 k0 m=o0 prog w0 k0 m:=by
 intro m
 induction m with
 |zero=>kernel_rfl
 |succ m ih=>
  show _=λx0 x1 x5=>rV prog w0 (o0 prog w0 k0 m) k0 x0 x1 x5
  rw[←ih]
  kernel_rfl
theorem RM(w0:World):E9 prog w0=λk0 x0 x1 x5 h=>∃m,EA w0 k0 m x0 x1 x5 h:=by
 funext k0 x0 x1 x5 h
 simp only[RN]
 rfl
theorem OM{w0:World}{a0 a1:Value}(hj:∀v,v∈[a0,a1]→v≠junk)(hv:BN prog w0 a0 a1 R h):aj prog w0 Aw [a0,a1] h R:=
 aI FV GZ 28 (by kernel_rfl) (by kernel_rfl) (by simp) hj (by
  unfold BN
  rw[RM w0]
  kernel_rfl) hv
end
