/- deduplaw14.sameInts, awake. -/
import Derived.Test.YtfmoemconapmhaaGreatLxc
import Derived.Test.YtfmoemconapmhaaGreatGlaw14
set_option linter.all false
namespace Go.Proofs.YtfmoemconapmhaaGreat.Ah
open Go
theorem oU{l:List Nat}{i n:Nat}(h:l[i]?=some n):(inV l)[i]?=some (.int .i64 (n:Int)):=by unfold inV;rw[fV,h];rfl
section
variable {w0:World}{h h':Hp}
theorem VF{k0 kr:Value→Hp→Prop}{a b x4:Value}{l m:List Nat}(ha:Sl w0 h 1 a l.length (inV l))(hb:Sl w0 h 1 b m.length (inV m))(hlm:l.length=m.length)(hl:l.length≤1000000000)
  (h0:l=m→k0 x4 h) (h1:l≠m→kr (.bool false) h):∀(k i:Nat),i+k=l.length→(∀j,j<i→l[j]?=m[j]?)→
   nT prog w0 k0 kr (k+1) a b x4 (.int .i64 (l.length:Int)) (.int .i64 (i:Int)) h:=by
 intro k
 induction k with
 |zero=>
  intro i hi hp
  have:i=l.length:=by omega
  subst this
  rw[nT]
  simp only[uw,wd, wa,dQ,decide_false]
  refine h0 (nr λj=>?_)
  by_cases hj:j<l.length
  ·exact hp j hj
  ·rw[fF (by omega),fF (by omega)]
 |succ k ih=>
  intro i hi hp
  have c1:decide ((i:Int)<(l.length:Int))=true:=decide_eq_true (by omega)
  have e6:=wrN i (by omega)
  obtain ⟨x,hx⟩:∃x,l[i]?=some x:=⟨l[i],by simp⟩
  obtain ⟨y,hy⟩:∃y,m[i]?=some y:=⟨m[i],by simp⟩
  rw[nT]
  simp only[uw,wd, wa,c1]
  refine ha.one (oU hx) ?_
  refine hb.one (oU hy) ?_
  simp only[wd, wa]
  by_cases hxy:x=y
  ·have c2:((x:Int) != (y:Int))=false:=by simp[hxy]
   simp only[c2,wd, wa,e6]
   refine ih (i+1) (by omega) λj hj=>?_
   by_cases hji:j=i
   ·rw[hji,hx,hy,hxy]
   ·exact hp j (by omega)
  ·have c2:((x:Int) != (y:Int))=true:=by simp;omega
   simp only[c2,wd, wa]
   refine h1 λe=>hxy ?_
   rw[e,hy]at hx
   exact (Option.some.inj hx).symm
theorem vl{a b:Value}{l m:List Nat}(ha:Sl w0 h 1 a l.length (inV l))(hb:Sl w0 h 1 b m.length (inV m))(hl:l.length≤1000000000):
  aj prog w0 qI [a,b] h λr h'=>r=.bool (decide (l=m))∧h'=h:=by
 refine aj.of_fit (by simp[ha.junk,hb.junk]) λf=>O1 (by simp[ha.junk,hb.junk]) ?_
 simp only[BB,ha.lenv,hb.lenv,wd, wa]
 by_cases hlm:l.length=m.length
 ·have c1:((l.length:Int) != (m.length:Int))=false:=by simp[hlm]
  simp only[c1,wd, wa]
  refine ⟨l.length+1,VF ha hb hlm hl (λe=>?_) (λe=>?_) l.length 0 (by omega) (by omega)⟩
  ·simp only[aC,aU]
   exact ⟨by simp,by simp[e],trivial⟩
  ·simp only[aC,aU]
   exact ⟨by simp,by simp[e],trivial⟩
 ·have c1:((l.length:Int) != (m.length:Int))=true:=by simp;omega
  simp only[c1,wd, wa,aC,aU]
  exact ⟨by simp,by simp;intro e;exact hlm (by rw[e]),trivial⟩
def aw1:LS:=(cW 256 2 2).put ⟨[97],[49],false⟩
def aw2:LS:=aw1.put ⟨[98],[50],false⟩
def aw3:LS:=aw2.put ⟨[97],[51],false⟩
def aw4:LS:=aw3.put ⟨[98],[],true⟩
theorem Nj:bY aw4.lv=[2]:=by rfl
theorem Dp:look aw4.lists [97]=some ⟨[97],[51],false⟩∧look aw4.lists [98]=some ⟨[98],[],true⟩:=by constructor <;> rfl
theorem Nl:bY aw4.step.lv=[0,1]:=by rfl
theorem Nk:fS aw4.lv aw4.fan=some 0:=by rfl
theorem Dq:aj prog w0 Ak [] h λr h'=>r=.bool true∧Step h h' [] []:=by
 refine aj.of_fit (by simp) λf=>Ow (by simp) ?_
 simp only[JO,fg,dX,dJ,cU,fc]
 refine ⟨rfl,by simp,rfl,by simp,rfl,by simp,?_⟩
 refine aA (De 256 2 2) λr h1 ⟨e,_⟩ f1=>?_
 obtain ⟨p,S1,e,m1,s1⟩:=e (by rfl)
 subst e
 have o1:LOk (cW 256 2 2) 0:=Ix (by rfl) 0
 have hpe:cN .eql p (.pointer none)=some (.bool false):=by obtain ⟨q,-,-,-,e,-⟩:=m1;rw[e];rfl
 have c0:((0:Int) != 0)=false:=rfl
 simp only[wd, wa,hpe,c0]
 refine aA (CS p m1.nj m1.isC [] []) λv h2 ⟨q1,q2,q3,e,_,_,_,_,_,_,_,_,_,s2⟩ f2=>?_
 subst e
 have c1:rE .eql (.func (.func qM) #[] #[ptr q1,ptr q2,ptr q3]) .nilFunc=some (.bool false):=rfl
 simp only[wd, wa,c1]
 have m2:Lv w0 h2 p (cW 256 2 2) S1 []:=m1.step0 s2
 refine aA (rt [97] [49] m2 o1 (by simp)) λu h3 ⟨S3,N3,e,m3,s3⟩ f3=>?_
 have r1:bE ⟨[97],[49],false⟩=true:=by rfl
 rw[if_pos r1]at m3
 have o3:LOk aw1 _:=qF o1 r1
 refine aA (rt [98] [50] m3 o3 (by simp)) λu h4 ⟨S4,N4,e,m4,s4⟩ f4=>?_
 have r2:bE ⟨[98],[50],false⟩=true:=by rfl
 rw[if_pos r2]at m4
 have o4:LOk aw2 _:=qF o3 r2
 refine aA (rt [97] [51] m4 o4 (by simp)) λu h5 ⟨S5,N5,e,m5,s5⟩ f5=>?_
 have r3:bE ⟨[97],[51],false⟩=true:=by rfl
 rw[if_pos r3]at m5
 have o5:LOk aw3 _:=qF o4 r3
 refine aA (CM [98] m5 o5 (by simp)) λu h6 ⟨S6,N6,e,m6,s6⟩ f6=>?_
 have r4:bE ⟨[98],[],true⟩=true:=by rfl
 rw[if_pos r4]at m6
 have o6:LOk aw4 _:=qF o5 r4
 have m6':Lv w0 h6 p aw4 S6 _:=m6
 have lS:∀{A B:List Nat} (b:Nat),b∈A→b∈A++B:=λb hb=>by simp[hb]
 have st6:Step h h6 [] S6:=((((s1.trans (s2.keepS λb hb=>(s1.own b hb).1)).trans (s3.less lS)).trans (s4.less lS)).trans (s5.less lS)).trans (s6.less lS)
 have lS6:=m6'.lt
 have hll6:∀i,(aw4.lv.getD i []).length≤1000000:=λi=>by have:=o6.lvl i;have e:(0+([97]:Key).length:Nat)=1:=rfl;simp only[bH,cS]at this;omega
 refine aA (rz m6') λv h7 ⟨S7,g7,_,s7⟩ f7=>?_
 rw[Nj]at g7
 refine ln rfl ?_
 have s8:Step h7 (h7.new [.int .i64 2] 1) [] [h7.next]:=(Step.refl h7 [] (by simp)).new _ _
 have g8:Vec w0 (h7.new [.int .i64 2] 1) 1 (.slice (some ⟨h7.next,0,none⟩) 1 1) 1 (inV [2]) [h7.next]∨True:=.inr trivial
 have g8':Sl w0 (h7.new [.int .i64 2] 1) 1 (.slice (some ⟨h7.next,0,none⟩) 1 1) [2].length (inV [2]):=⟨_,_,rfl,iD f7.base rfl,rfl,.inl ⟨by decide,bF _⟩⟩
 have g7':=g7.step f7 s8 (by simp)
 have st8:Step h6 (h7.new [.int .i64 2] 1) [] []:=(s7.less (by simp)).trans (s8.less (by simp))
 generalize h7.new [.int .i64 2] 1=h8 at *
 refine aA (vl g7' g8' (by decide)) λv h9 ⟨e,e'⟩ f9=>?_
 subst e
 subst h9
 have m8:=m6'.step0 st8
 refine aA (xP m8 hll6 [97]) λv h9 ⟨e,s9⟩ f9=>?_
 subst e
 rw[Dp.1]
 simp only[wd, wa]
 refine aA (xP (m8.step0 s9) hll6 [98]) λv h10 ⟨e,s10⟩ f10=>?_
 subst e
 rw[Dp.2]
 simp only[decide_true,wd, wa]
 have m10:=(m8.step0 s9).step0 s10
 refine aA (Dj m10 o6 (by simp)) λv h11 ⟨S11,N11,e,m11,s11⟩ f11=>?_
 subst e
 rw[Nk]
 simp only[ye,wd, wa]
 refine aA (rz m11) λv h12 ⟨S12,g12,_,s12⟩ f12=>?_
 rw[Nl]at g12
 simp only[i9,dX,dJ,show aL [(.int .i64 0:Value)] 2=[.int .i64 0,.int .i64 0] from rfl,cU,fc]
 refine ⟨rfl,by simp,rfl,by simp,?_⟩
 have s13:Step h12 (h12.new [.int .i64 0,.int .i64 1] 1) [] [h12.next]:=(Step.refl h12 [] (by simp)).new _ _
 have g13:Sl w0 (h12.new [.int .i64 0,.int .i64 1] 1) 1 (.slice (some ⟨h12.next,0,none⟩) 2 2) [0,1].length (inV [0,1]):=⟨_,_,rfl,iD f12.base rfl,rfl,.inl ⟨by decide,bF _⟩⟩
 have g12':=g12.step f12 s13 (by simp)
 have st13:Step h6 (h12.new [.int .i64 0,.int .i64 1] 1) S6 []:=((((st8.trans s9).trans s10).keepS λb hb=>(lS6 b hb).2).trans (s11.less (T:=[]) (by simp))).trans ((s12.less (T:=[]) (by simp)).trans (s13.less (by simp)))
 generalize h12.new [.int .i64 0,.int .i64 1] 1=h13 at *
 refine aA (vl g12' g13 (by decide)) λv h14 ⟨e,e'⟩ f14=>?_
 subst e
 subst h14
 have e1:ah .eql (.string (str (vOf (some ⟨[97],[51],false⟩)))) (.string ⟨#[51]⟩)=some (.bool true):=by
  show ah .eql (.string (str [51])) (.string (str [51]))=_
  rw[lV];rfl
 simp only[decide_true,e1,gOf,wd, wa,aC,aU]
 exact ⟨by simp,trivial,st6.trans st13⟩
end
structure LOp where
 k:Int
 key:Key
 to:Key
 v:Key
 n:Int
def LOp.e(o:LOp):List Value:=[.int .i64 o.k,.string (str o.key),.string (str o.to),.string (str o.v),.int .i64 o.n]
def jQ:Dec LOp:=⟨LOp.e,λ_=>True,λo=>o.key.length+o.to.length+o.v.length+6⟩
section
variable {w0:World}{h h':Hp}
theorem Lno.y{r:Value}(m:Lno w0 h r){N:Nat}(ys:bC N h h' [] []):Lno w0 h' r:=(m.step ys.step:Lno w0 (h'.as h) r)
end
