/- PRINTED by wip/tools/shallow.py: functions of the program as readable words, and that each is what its text says. -/
import Derived.Test.YtfmoemconapmhaaGreatGn
set_option linter.all false
namespace Go.Proofs.YtfmoemconapmhaaGreat.Ah
open Go Go.Proofs.Tryz
noncomputable section
variable (P:Program)(w0:World){h:Hp}{R:av}
abbrev UW:Func:=f43
def X2:List (Nat×List Nat×List Nat):=[]
def Lh(a0 a1 a2:Value)(R:av):Hp→Prop:=
 cT 1 a0 (some a1) none none λca=>
 aa (aM a2) λb=>
 aa (ah .eql b (.int .i64 0)) λg=>
 aB g (
 ar [a0] R) (
 aa (aM a0) λd=>
 aa (ah .eql a1 d) λi=>
 aB i (
 bD w0 1 8 a0 a2 λj=>
 ar [j] R) (
 aa (ah .add d b) λl=>
 ug w0 1 a0 λo=>
 aa (ah .gtr l o) λs=>
 aB s (
 cT 1 a0 none (some a1) none λu=>
 aa (ah .add d b) λv=>
 aa (ah .sub v a1) λz=>
 ub w0 1 8 [(.pointer none)] u z λe=>
 cT 1 e (some a1) none none λba=>
 jj w0 1 ba a2 λcb=>
 af (λK=>K e) λbb=>
 af (λK=>K a1) λbc=>
 af (λK=>K b) λbd=>
 af (aa (ah .add bc bd)) λbe=>
 aD (cT 1 bb (some be) none none) λbf=>
 af (λK=>K a0) λbg=>
 af (λK=>K a1) λbh=>
 aD (cT 1 bg (some bh) none none) λbi=>
 aO [
 (jj w0 1 bf bi λcc=>
 aP [] (
 bN (
 ar [e] R)))]) (
 aa (ah .add d b) λbj=>
 cT 1 a0 none (some bj) none λc=>
 aa (ah .add a1 b) λbk=>
 cT 1 c (some bk) none none λbl=>
 ovA P w0 Iv a2 bl λbm=>
 aa (unA .not bm) λbn=>
 aB bn (
 af (λK=>K c) λbo=>
 af (λK=>K a1) λbp=>
 af (λK=>K b) λbq=>
 af (aa (ah .add bp bq)) λbr=>
 aD (cT 1 bo (some br) none none) λbs=>
 af (λK=>K c) λbt=>
 af (λK=>K a1) λbu=>
 aD (cT 1 bt (some bu) none none) λbv=>
 aO [
 (jj w0 1 bs bv λcd=>
 aP [] (
 bN (
 cT 1 c (some a1) none none λbw=>
 jj w0 1 bw a2 λce=>
 ar [c] R)))]) (
 cT 1 c (some d) none none λbx=>
 jj w0 1 bx a2 λcf=>
 cT 1 c (some a1) none none λbz=>
 am P w0 YB [bz,b] λcg=>
 ar [c] R))))
theorem Qu{w0:World}{a0 a1 a2:Value}(hj:∀v,v∈[a0,a1,a2]→v≠junk)(hv:Lh prog w0 a0 a1 a2 R h):aj prog w0 th [a0,a1,a2] h R:=
 aI UW X2 95 (by kernel_rfl) (by kernel_rfl) (by simp) hj (by
  kernel_rfl) hv
abbrev US:Func:=f44
def Xy:List (Nat×List Nat×List Nat):=[]
def Ld(P:Program)(w0:World)(a0:Value)(R:av):Hp→Prop:=
 aa (i8 .eql a0 (.slice none 0 0)) λb=>
 aB b (
 ar [(.slice none 0 0)] R) (
 bI [] (aL [(.pointer none)] 0) 0 1 λc=>
 bD w0 1 8 c a0 λd=>
 ar [d] R)
theorem Qp{w0:World}{a0:Value}(hj:∀v,v∈[a0]→v≠junk)(hv:Ld prog w0 a0 R h):aj prog w0 wH [a0] h R:=
 aI US Xy 8 (by kernel_rfl) (by kernel_rfl) (by simp) hj (by
  kernel_rfl) hv
abbrev UU:Func:=f46
def X0:List (Nat×List Nat×List Nat):=[]
def Lf(a0:Value)(R:av):Hp→Prop:=
 am P w0 It [(.slice none 0 0),a0] λb=>
 ar [b] R
theorem Qr{w0:World}{a0:Value}(hj:∀v,v∈[a0]→v≠junk)(hv:Lf prog w0 a0 R h):aj prog w0 Bi [a0] h R:=
 aI UU X0 5 (by kernel_rfl) (by kernel_rfl) (by simp) hj (by
  kernel_rfl) hv
abbrev UV:Func:=f50
def X1:List (Nat×List Nat×List Nat):=[]
def Lg(a0 a1:Value)(R:av):Hp→Prop:=
 am P w0 Iu [a0,a1] λb=>
 aa (ah .geq b (.int .i64 0)) λc=>
 ar [c] R
theorem Qs{w0:World}{a0 a1:Value}(hj:∀v,v∈[a0,a1]→v≠junk)(hv:Lg prog w0 a0 a1 R h):aj prog w0 Bj [a0,a1] h R:=
 aI UV X1 9 (by kernel_rfl) (by kernel_rfl) (by simp) hj (by
  kernel_rfl) hv
abbrev UQ:Func:=f97
def Xw:List (Nat×List Nat×List Nat):=[]
def LA(P:Program)(w0:World)(b:Nat)(g:Lp)(K:av)(x2 y7:Value):Hp→Prop:=
 cA [(.string .empty),(.string .empty),(.bool false)] 3 λc=>
 bU w0 c y7 3 λ_=>
 mz b g (
 al w0 x2 λd=>
 aG w0 c 3 λe=>
 bI [(0,3,true,e)] (aL [(.string .empty),(.string .empty),(.bool false)] 1) 1 3 λi=>
 bD w0 3 40 d i λj=>
 bO w0 x2 j λ_=>
 fq b g none K)
def Lb(a0 a1:Value)(R:av):Hp→Prop:=
 λh0=>(cF false 1 a0 λc=>
 iY P w0 a1 1 (λb g args K=>LA P w0 b g K c (args.getD 0 undef)) (
 al w0 c λd=>
 ie h0 (
 ar [d] R)) []) h0
theorem Ql{w0:World}{a0 a1:Value}(hj:∀v,v∈[a0,a1]→v≠junk)(hv:Lb prog w0 a0 a1 R h):aj prog w0 It [a0,a1] h R:=
 rH UQ Xw 13 (by kernel_rfl) (by kernel_rfl) (by simp) hj (by
  kernel_rfl) hv
abbrev Gu:Func:=f101
def Hz:List (Nat×List Nat×List Nat):=[(2,[0,1,4,7,8],[4])]
def xu(R:Ko5)(k0 kr:Ko1)(x0 x1 x4 x7 x8:Value):Hp→Prop:=
 aa (ah .lss x8 x7) λb=>
 aB b (
 aJ 1 x0 x8 λc=>
 al w0 c λd=>
 dM P w0 x1 [d] λe=>
 aB e (
 kr x8) (
 aa (ah .add x8 (.int .i64 1)) λg=>
 R x0 x1 x4 x7 g)) (
 k0 x4)
def pM(P:Program)(w0:World)(k0 kr:Ko1):Nat→Value→Value→Value→Value→Value→Hp→Prop
 |0,_,_,_,_,_=>λ_=>False
 |m+1,x0,x1,x4,x7,x8=>xu P w0 (pM P w0 k0 kr m) k0 kr x0 x1 x4 x7 x8
def LF(k0 kr:Ko1)(x0 x1 x4 x7 x8:Value):Hp→Prop:=λh=>∃m,pM P w0 k0 kr m x0 x1 x4 x7 x8 h
def Cy(a0 a1:Value)(R:av):Hp→Prop:=
 aa (aM a0) λb=>
 LF P w0 (λd=>
 ar [(.int .i64 (-1))] R) (λc=>
 ar [c] R) a0 a1 (.int .i64 0) b (.int .i64 0)
def LG(w0:World)(k0 kr:Ko1)(m:Nat)(x0 x1 x4 x7 x8:Value):Hp→Prop:=bJ (stepL ⟨prog,w0,19,Hz⟩ (drw w0 19) (bQ Gu 0)) m (bK [(0,x0),(1,x1),(4,x4),(7,x7),(8,x8)]) [λt=>k0 (t 4),λt=>kr (t 4)]
theorem ac6(w0:World)(k0 kr:Ko1):∀m,LG w0 k0 kr m=pM prog w0 k0 kr m:=by
 intro m
 induction m with
 |zero=>kernel_rfl
 |succ m ih=>
  show _=λx0 x1 x4 x7 x8=>xu prog w0 (pM prog w0 k0 kr m) k0 kr x0 x1 x4 x7 x8
  rw[←ih]
  kernel_rfl
theorem ac5(w0:World):LF prog w0=λk0 kr x0 x1 x4 x7 x8 h=>∃m,LG w0 k0 kr m x0 x1 x4 x7 x8 h:=by
 funext k0 kr x0 x1 x4 x7 x8 h
 simp only[ac6]
 rfl
theorem Qt{w0:World}{a0 a1:Value}(hj:∀v,v∈[a0,a1]→v≠junk)(hv:Cy prog w0 a0 a1 R h):aj prog w0 Iu [a0,a1] h R:=
 aI Gu Hz 19 (by kernel_rfl) (by kernel_rfl) (by simp) hj (by
  unfold Cy
  rw[ac5 w0]
  kernel_rfl) hv
abbrev UR:Func:=f113
def Xx:List (Nat×List Nat×List Nat):=[]
def Lc(P:Program)(w0:World)(a0:Value)(R:av):Hp→Prop:=
 aa (i8 .eql a0 (.slice none 0 0)) λb=>
 aB b (
 ar [(.slice none 0 0)] R) (
 bI [] (aL [(.int .u8 0)] 0) 0 1 λc=>
 bD w0 1 1 c a0 λd=>
 ar [d] R)
theorem Qo{w0:World}{a0:Value}(hj:∀v,v∈[a0]→v≠junk)(hv:Lc prog w0 a0 R h):aj prog w0 Bh [a0] h R:=
 aI UR Xx 8 (by kernel_rfl) (by kernel_rfl) (by simp) hj (by
  kernel_rfl) hv
abbrev Tp:Func:=f136
def VP:List (Nat×List Nat×List Nat):=[]
def J7(P:Program)(w0:World)(a0 a1:Value)(R:av):Hp→Prop:=
 dW w0 a0 λb=>
 dW w0 a1 λc=>
 aa (ah .eql b c) λd=>
 ar [d] R
theorem NO{w0:World}{a0 a1:Value}(hj:∀v,v∈[a0,a1]→v≠junk)(hv:J7 prog w0 a0 a1 R h):aj prog w0 Ab [a0,a1] h R:=
 aI Tp VP 10 (by kernel_rfl) (by kernel_rfl) (by simp) hj (by
  kernel_rfl) hv
abbrev Tq:Func:=f142
def VQ:List (Nat×List Nat×List Nat):=[]
def J8(a0 a1:Value)(R:av):Hp→Prop:=
 am P w0 vN [a0] λc=>
 am P w0 vN [a1] λb=>
 aB c (
 aB b (
 ar [(.int .i64 0)] R) (
 ar [(.int .i64 (-1))] R)) (
 aB b (
 ar [(.int .i64 1)] R) (
 aa (ah .lss a0 a1) λd=>
 aB d (
 ar [(.int .i64 (-1))] R) (
 aa (ah .gtr a0 a1) λe=>
 aB e (
 ar [(.int .i64 1)] R) (
 ar [(.int .i64 0)] R))))
theorem NP{w0:World}{a0 a1:Value}(hj:∀v,v∈[a0,a1]→v≠junk)(hv:J8 prog w0 a0 a1 R h):aj prog w0 vM [a0,a1] h R:=
 aI Tq VQ 20 (by kernel_rfl) (by kernel_rfl) (by simp) hj (by
  kernel_rfl) hv
abbrev UT:Func:=f152
def Xz:List (Nat×List Nat×List Nat):=[]
def Le(P:Program)(w0:World)(a0:Value)(R:av):Hp→Prop:=
 aa (i8 .eql a0 (.slice none 0 0)) λb=>
 aB b (
 ar [(.slice none 0 0)] R) (
 bI [] (aL [(.string .empty),(.string .empty),(.string .empty),(.bool false)] 0) 0 4 λc=>
 bD w0 4 56 c a0 λd=>
 ar [d] R)
theorem Qq{w0:World}{a0:Value}(hj:∀v,v∈[a0]→v≠junk)(hv:Le prog w0 a0 R h):aj prog w0 wI [a0] h R:=
 aI UT Xz 8 (by kernel_rfl) (by kernel_rfl) (by simp) hj (by
  kernel_rfl) hv
abbrev UX:Func:=f155
def X3:List (Nat×List Nat×List Nat):=[]
def Li(a0 a1 a2:Value)(R:av):Hp→Prop:=
 cT 4 a0 (some a1) none none λca=>
 aa (aM a2) λb=>
 aa (ah .eql b (.int .i64 0)) λg=>
 aB g (
 ar [a0] R) (
 aa (aM a0) λd=>
 aa (ah .eql a1 d) λi=>
 aB i (
 bD w0 4 56 a0 a2 λj=>
 ar [j] R) (
 aa (ah .add d b) λl=>
 ug w0 4 a0 λo=>
 aa (ah .gtr l o) λs=>
 aB s (
 cT 4 a0 none (some a1) none λu=>
 aa (ah .add d b) λv=>
 aa (ah .sub v a1) λz=>
 ub w0 4 56 [(.string .empty),(.string .empty),(.string .empty),(.bool false)] u z λe=>
 cT 4 e (some a1) none none λba=>
 jj w0 4 ba a2 λcb=>
 af (λK=>K e) λbb=>
 af (λK=>K a1) λbc=>
 af (λK=>K b) λbd=>
 af (aa (ah .add bc bd)) λbe=>
 aD (cT 4 bb (some be) none none) λbf=>
 af (λK=>K a0) λbg=>
 af (λK=>K a1) λbh=>
 aD (cT 4 bg (some bh) none none) λbi=>
 aO [
 (jj w0 4 bf bi λcc=>
 aP [] (
 bN (
 ar [e] R)))]) (
 aa (ah .add d b) λbj=>
 cT 4 a0 none (some bj) none λc=>
 aa (ah .add a1 b) λbk=>
 cT 4 c (some bk) none none λbl=>
 ovA P w0 Iw a2 bl λbm=>
 aa (unA .not bm) λbn=>
 aB bn (
 af (λK=>K c) λbo=>
 af (λK=>K a1) λbp=>
 af (λK=>K b) λbq=>
 af (aa (ah .add bp bq)) λbr=>
 aD (cT 4 bo (some br) none none) λbs=>
 af (λK=>K c) λbt=>
 af (λK=>K a1) λbu=>
 aD (cT 4 bt (some bu) none none) λbv=>
 aO [
 (jj w0 4 bs bv λcd=>
 aP [] (
 bN (
 cT 4 c (some a1) none none λbw=>
 jj w0 4 bw a2 λce=>
 ar [c] R)))]) (
 cT 4 c (some d) none none λbx=>
 jj w0 4 bx a2 λcf=>
 cT 4 c (some a1) none none λbz=>
 am P w0 YC [bz,b] λcg=>
 ar [c] R))))
theorem Qv{w0:World}{a0 a1 a2:Value}(hj:∀v,v∈[a0,a1,a2]→v≠junk)(hv:Li prog w0 a0 a1 a2 R h):aj prog w0 wJ [a0,a1,a2] h R:=
 aI UX X3 95 (by kernel_rfl) (by kernel_rfl) (by simp) hj (by
  kernel_rfl) hv
abbrev Gs:Func:=f162
def Hx:List (Nat×List Nat×List Nat):=[(3,[0,1,2,8,9,10],[0,1,2,8,9])]
def qV(R:Ko6)(k0:Ko5)(x0 x1 x2 x8 x9 x10:Value):Hp→Prop:=
 aa (ah .lss x9 x10) λc=>
 aB c (
 aa (ah .add x9 x10) λd=>
 aa (bG .u64 d) λe=>
 aa (ah .shr e (.int .u64 1)) λg=>
 aa (bG .i64 g) λb=>
 aJ 3 x0 b λi=>
 aG w0 i 3 λj=>
 dM P w0 x2 [j,x1] λl=>
 aa (ah .lss l (.int .i64 0)) λo=>
 aB o (
 aa (ah .add b (.int .i64 1)) λs=>
 R x0 x1 x2 x8 s x10) (
 R x0 x1 x2 x8 x9 b)) (
 k0 x0 x1 x2 x8 x9)
def ng(P:Program)(w0:World)(k0:Ko5):Nat→Value→Value→Value→Value→Value→Value→Hp→Prop
 |0,_,_,_,_,_,_=>λ_=>False
 |m+1,x0,x1,x2,x8,x9,x10=>qV P w0 (ng P w0 k0 m) k0 x0 x1 x2 x8 x9 x10
def LB(k0:Ko5)(x0 x1 x2 x8 x9 x10:Value):Hp→Prop:=λh=>∃m,ng P w0 k0 m x0 x1 x2 x8 x9 x10 h
def Cv(a0 a1 a2:Value)(R:av):Hp→Prop:=
 aa (aM a0) λd=>
 LB P w0 (λe g i j c=>
 aa (ah .lss c j) λb=>
 ai b true (λK=>K i) λl=>
 ai b true (λK=>K e) λo=>
 ai b true (λK=>K c) λs=>
 ai b true (aJ 3 o s) λu=>
 ai b true (aG w0 u 3) λv=>
 ai b true (λK=>K g) λz=>
 ai b true (dM P w0 l [v,z]) λba=>
 ai b true (aa (ah .eql ba (.int .i64 0))) λbb=>
 aQ b bb (.bool false) λbc=>
 ar [c,bc] R) a0 a1 a2 d (.int .i64 0) d
def LC(w0:World)(k0:Ko5)(m:Nat)(x0 x1 x2 x8 x9 x10:Value):Hp→Prop:=bJ (stepL ⟨prog,w0,49,Hx⟩ (drw w0 49) (bQ Gs 0)) m (bK [(0,x0),(1,x1),(2,x2),(8,x8),(9,x9),(10,x10)]) [λt=>k0 (t 0) (t 1) (t 2) (t 8) (t 9)]
theorem ac2(w0:World)(k0:Ko5):∀m,LC w0 k0 m=ng prog w0 k0 m:=by
 intro m
 induction m with
 |zero=>kernel_rfl
 |succ m ih=>
  show _=λx0 x1 x2 x8 x9 x10=>qV prog w0 (ng prog w0 k0 m) k0 x0 x1 x2 x8 x9 x10
  rw[←ih]
  kernel_rfl
theorem ac1(w0:World):LB prog w0=λk0 x0 x1 x2 x8 x9 x10 h=>∃m,LC w0 k0 m x0 x1 x2 x8 x9 x10 h:=by
 funext k0 x0 x1 x2 x8 x9 x10 h
 simp only[ac2]
 rfl
theorem Qm{w0:World}{a0 a1 a2:Value}(hj:∀v,v∈[a0,a1,a2]→v≠junk)(hv:Cv prog w0 a0 a1 a2 R h):aj prog w0 Bf [a0,a1,a2] h R:=
 aI Gs Hx 49 (by kernel_rfl) (by kernel_rfl) (by simp) hj (by
  unfold Cv
  rw[ac1 w0]
  kernel_rfl) hv
abbrev UY:Func:=f164
def X4:List (Nat×List Nat×List Nat):=[]
def Lj(a0 a1:Value)(R:av):Hp→Prop:=
 am P w0 A8 [a0,a1] λb=>
 ar [b] R
theorem Qw{w0:World}{a0 a1:Value}(hj:∀v,v∈[a0,a1]→v≠junk)(hv:Lj prog w0 a0 a1 R h):aj prog w0 Bk [a0,a1] h R:=
 aI UY X4 8 (by kernel_rfl) (by kernel_rfl) (by simp) hj (by
  kernel_rfl) hv
abbrev Tr:Func:=f165
def VR:List (Nat×List Nat×List Nat):=[]
def J9(P:Program)(w0:World)(a0:Value)(R:av):Hp→Prop:=
 aa (ah .neq a0 a0) λb=>
 ar [b] R
theorem NQ{w0:World}{a0:Value}(hj:∀v,v∈[a0]→v≠junk)(hv:J9 prog w0 a0 R h):aj prog w0 vN [a0] h R:=
 aI Tr VR 6 (by kernel_rfl) (by kernel_rfl) (by simp) hj (by
  kernel_rfl) hv
abbrev TX:Func:=f172
def W5:List (Nat×List Nat×List Nat):=[]
def Ki(a0 a1:Value)(R:av):Hp→Prop:=
 ovA P w0 Ir a0 a1 λb=>
 ar [b] R
theorem Pc{w0:World}{a0 a1:Value}(hj:∀v,v∈[a0,a1]→v≠junk)(hv:Ki prog w0 a0 a1 R h):aj prog w0 A8 [a0,a1] h R:=
 aI TX W5 8 (by kernel_rfl) (by kernel_rfl) (by simp) hj (by
  kernel_rfl) hv
abbrev Gt:Func:=f173
def Hy:List (Nat×List Nat×List Nat):=[(3,[0,1,2,8,9,10],[0,1,2,8,9])]
def qW(R:Ko6)(k0:Ko5)(x0 x1 x2 x8 x9 x10:Value):Hp→Prop:=
 aa (ah .lss x9 x10) λc=>
 aB c (
 aa (ah .add x9 x10) λd=>
 aa (bG .u64 d) λe=>
 aa (ah .shr e (.int .u64 1)) λg=>
 aa (bG .i64 g) λb=>
 aJ 4 x0 b λi=>
 aG w0 i 4 λj=>
 dM P w0 x2 [j,x1] λl=>
 aa (ah .lss l (.int .i64 0)) λo=>
 aB o (
 aa (ah .add b (.int .i64 1)) λs=>
 R x0 x1 x2 x8 s x10) (
 R x0 x1 x2 x8 x9 b)) (
 k0 x0 x1 x2 x8 x9)
def ni(P:Program)(w0:World)(k0:Ko5):Nat→Value→Value→Value→Value→Value→Value→Hp→Prop
 |0,_,_,_,_,_,_=>λ_=>False
 |m+1,x0,x1,x2,x8,x9,x10=>qW P w0 (ni P w0 k0 m) k0 x0 x1 x2 x8 x9 x10
def LD(k0:Ko5)(x0 x1 x2 x8 x9 x10:Value):Hp→Prop:=λh=>∃m,ni P w0 k0 m x0 x1 x2 x8 x9 x10 h
def Cw(a0 a1 a2:Value)(R:av):Hp→Prop:=
 aa (aM a0) λd=>
 LD P w0 (λe g i j c=>
 aa (ah .lss c j) λb=>
 ai b true (λK=>K i) λl=>
 ai b true (λK=>K e) λo=>
 ai b true (λK=>K c) λs=>
 ai b true (aJ 4 o s) λu=>
 ai b true (aG w0 u 4) λv=>
 ai b true (λK=>K g) λz=>
 ai b true (dM P w0 l [v,z]) λba=>
 ai b true (aa (ah .eql ba (.int .i64 0))) λbb=>
 aQ b bb (.bool false) λbc=>
 ar [c,bc] R) a0 a1 a2 d (.int .i64 0) d
def LE(w0:World)(k0:Ko5)(m:Nat)(x0 x1 x2 x8 x9 x10:Value):Hp→Prop:=bJ (stepL ⟨prog,w0,49,Hy⟩ (drw w0 49) (bQ Gt 0)) m (bK [(0,x0),(1,x1),(2,x2),(8,x8),(9,x9),(10,x10)]) [λt=>k0 (t 0) (t 1) (t 2) (t 8) (t 9)]
theorem ac4(w0:World)(k0:Ko5):∀m,LE w0 k0 m=ni prog w0 k0 m:=by
 intro m
 induction m with
 |zero=>kernel_rfl
 |succ m ih=>
  show _=λx0 x1 x2 x8 x9 x10=>qW prog w0 (ni prog w0 k0 m) k0 x0 x1 x2 x8 x9 x10
  rw[←ih]
  kernel_rfl
theorem ac3(w0:World):LD prog w0=λk0 x0 x1 x2 x8 x9 x10 h=>∃m,LE w0 k0 m x0 x1 x2 x8 x9 x10 h:=by
 funext k0 x0 x1 x2 x8 x9 x10 h
 simp only[ac4]
 rfl
theorem Qn{w0:World}{a0 a1 a2:Value}(hj:∀v,v∈[a0,a1,a2]→v≠junk)(hv:Cw prog w0 a0 a1 a2 R h):aj prog w0 Bg [a0,a1,a2] h R:=
 aI Gt Hy 49 (by kernel_rfl) (by kernel_rfl) (by simp) hj (by
  unfold Cw
  rw[ac3 w0]
  kernel_rfl) hv
end
