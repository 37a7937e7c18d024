/- deduplaw14.sameInts, awake. -/
import Derived.Test.YtfmoemconapmhaaGreatLxc
import Derived.Test.YtfmoemconapmhaaGreatGlaw14
set_option linter.all false
namespace Go.Proofs.YtfmoemconapmhaaGreat.Ah
open Go
theorem qaq {l:List Nat} {i n:Nat} (h:l[i]?=some n):(inV l)[i]?=some (.int .i64 (n:Int)):=by unfold inV; rw [List.getElem?_map,h]; rfl
section
variable {w0:World} {h h':Hp}
theorem q0j5 {k0 kr:Value→Hp→Prop} {a b x4:Value} {l m:List Nat} (ha:Sl w0 h 1 a l.length (inV l)) (hb:Sl w0 h 1 b m.length (inV m)) (hlm:l.length=m.length) (hl:l.length≤1000000000)
  (h0:l=m→k0 x4 h) (h1:l≠m→kr (.bool false) h):∀ (k i:Nat),i + k=l.length→(∀ j,j < i→l[j]?=m[j]?)→
   q83 prog w0 k0 kr (k + 1) a b x4 (.int .i64 (l.length:Int)) (.int .i64 (i:Int)) h:=by
 intro k
 induction k with
 | zero=>
  intro i hi hp
  have:i=l.length:=by omega
  subst this
  rw [q83]
  simp only [qe3,wd, wa,Int.lt_irrefl,decide_false]
  refine h0 (List.ext_getElem? λ j=>?_)
  by_cases hj:j < l.length
  ·exact hp j hj
  ·rw [List.getElem?_eq_none (by omega),List.getElem?_eq_none (by omega)]
 | succ k ih=>
  intro i hi hp
  have c1:decide ((i:Int) < (l.length:Int))=true:=decide_eq_true (by omega)
  have e6:=wrN i (by omega)
  obtain ⟨x,hx⟩:∃ x,l[i]?=some x:=⟨l[i],by simp⟩
  obtain ⟨y,hy⟩:∃ y,m[i]?=some y:=⟨m[i],by simp⟩
  rw [q83]
  simp only [qe3,wd, wa,c1]
  refine ha.one (qaq hx) ?_
  refine hb.one (qaq hy) ?_
  simp only [wd, wa]
  by_cases hxy:x=y
  ·have c2:((x:Int) != (y:Int))=false:=by simp [hxy]
   simp only [c2,wd, wa,e6]
   refine ih (i + 1) (by omega) λ j hj=>?_
   by_cases hji:j=i
   ·rw [hji,hx,hy,hxy]
   ·exact hp j (by omega)
  ·have c2:((x:Int) != (y:Int))=true:=by simp; omega
   simp only [c2,wd, wa]
   refine h1 λ e=>hxy ?_
   rw [e,hy] at hx
   exact (Option.some.inj hx).symm
theorem qlr {a b:Value} {l m:List Nat} (ha:Sl w0 h 1 a l.length (inV l)) (hb:Sl w0 h 1 b m.length (inV m)) (hl:l.length≤1000000000):
  qf prog w0 qbe [a,b] h λ r h'=>r=.bool (decide (l=m))∧h'=h:=by
 refine qf.of_fit (by simp [ha.junk,hb.junk]) λ f=>q063 (by simp [ha.junk,hb.junk]) ?_
 simp only [qiq,ha.lenv,hb.lenv,wd, wa]
 by_cases hlm:l.length=m.length
 ·have c1:((l.length:Int) != (m.length:Int))=false:=by simp [hlm]
  simp only [c1,wd, wa]
  refine ⟨l.length + 1,q0j5 ha hb hlm hl (λ e=>?_) (λ e=>?_) l.length 0 (by omega) (by omega)⟩
  ·simp only [qu,q06]
   exact ⟨by simp,by simp [e],trivial⟩
  ·simp only [qu,q06]
   exact ⟨by simp,by simp [e],trivial⟩
 ·have c1:((l.length:Int) != (m.length:Int))=true:=by simp; omega
  simp only [c1,wd, wa,qu,q06]
  exact ⟨by simp,by simp; intro e; exact hlm (by rw [e]),trivial⟩
def aw1:LS:=(q0n 256 2 2).put ⟨[97],[49],false⟩
def aw2:LS:=aw1.put ⟨[98],[50],false⟩
def aw3:LS:=aw2.put ⟨[97],[51],false⟩
def aw4:LS:=aw3.put ⟨[98],[],true⟩
theorem q0lg:q0x aw4.lv=[2]:=by rfl
theorem qyz:look aw4.lists [97]=some ⟨[97],[51],false⟩∧look aw4.lists [98]=some ⟨[98],[],true⟩:=by constructor <;> rfl
theorem q0lp:q0x aw4.step.lv=[0,1]:=by rfl
theorem q0kb:q5q aw4.lv aw4.fan=some 0:=by rfl
theorem q0hv:qf prog w0 qjl [] h λ r h'=>r=.bool true∧Step h h' [] []:=by
 refine qf.of_fit (by simp) λ f=>q09n (by simp) ?_
 simp only [qt6,q2w,q28,q1u,List.set_cons_zero,List.set_cons_succ]
 refine ⟨rfl,by simp,rfl,by simp,rfl,by simp,?_⟩
 refine qq (qxx 256 2 2) λ r h1 ⟨e,_⟩ f1=>?_
 obtain ⟨p,S1,e,m1,s1⟩:=e (by rfl)
 subst e
 have o1:LOk (q0n 256 2 2) 0:=qz5 (by rfl) 0
 have hpe:q1g .eql p (.pointer none)=some (.bool false):=by obtain ⟨q,-,-,-,e,-⟩:=m1; rw [e]; rfl
 have c0:((0:Int) != 0)=false:=rfl
 simp only [wd, wa,hpe,c0]
 refine qq (qwa p m1.nj m1.isC [] []) λ v h2 ⟨q1,q2,q3,e,_,_,_,_,_,_,_,_,_,s2⟩ f2=>?_
 subst e
 have c1:qd0 .eql (.func (.func qa0) #[] #[ptr q1,ptr q2,ptr q3]) .nilFunc=some (.bool false):=rfl
 simp only [wd, wa,c1]
 have m2:Lv w0 h2 p (q0n 256 2 2) S1 []:=m1.step0 s2
 refine qq (qmz [97] [49] m2 o1 (by simp)) λ u h3 ⟨S3,N3,e,m3,s3⟩ f3=>?_
 have r1:q0e ⟨[97],[49],false⟩=true:=by rfl
 rw [if_pos r1] at m3
 have o3:LOk aw1 _:=qgs o1 r1
 refine qq (qmz [98] [50] m3 o3 (by simp)) λ u h4 ⟨S4,N4,e,m4,s4⟩ f4=>?_
 have r2:q0e ⟨[98],[50],false⟩=true:=by rfl
 rw [if_pos r2] at m4
 have o4:LOk aw2 _:=qgs o3 r2
 refine qq (qmz [97] [51] m4 o4 (by simp)) λ u h5 ⟨S5,N5,e,m5,s5⟩ f5=>?_
 have r3:q0e ⟨[97],[51],false⟩=true:=by rfl
 rw [if_pos r3] at m5
 have o5:LOk aw3 _:=qgs o4 r3
 refine qq (q0j2 [98] m5 o5 (by simp)) λ u h6 ⟨S6,N6,e,m6,s6⟩ f6=>?_
 have r4:q0e ⟨[98],[],true⟩=true:=by rfl
 rw [if_pos r4] at m6
 have o6:LOk aw4 _:=qgs o5 r4
 have m6':Lv w0 h6 p aw4 S6 _:=m6
 have lS:∀ {A B:List Nat} (b:Nat),b∈A→b∈A++B:=λ b hb=>by simp [hb]
 have st6:Step h h6 [] S6:=((((s1.trans (s2.keepS λ b hb=>(s1.own b hb).1)).trans (s3.less lS)).trans (s4.less lS)).trans (s5.less lS)).trans (s6.less lS)
 have lS6:=m6'.lt
 have hll6:∀ i,(aw4.lv.getD i []).length≤1000000:=λ i=>by have:=o6.lvl i; have e:(0 + ([97]:Key).length:Nat)=1:=rfl; simp only [List.length_cons,List.length_nil] at this; omega
 refine qq (qgn m6') λ v h7 ⟨S7,g7,_,s7⟩ f7=>?_
 rw [q0lg] at g7
 refine q7k rfl ?_
 have s8:Step h7 (h7.new [.int .i64 2] 1) [] [h7.next]:=(Step.refl h7 [] (by simp)).new _ _
 have g8:Vec w0 (h7.new [.int .i64 2] 1) 1 (.slice (some ⟨h7.next,0,none⟩) 1 1) 1 (inV [2]) [h7.next]∨True:=.inr trivial
 have g8':Sl w0 (h7.new [.int .i64 2] 1) 1 (.slice (some ⟨h7.next,0,none⟩) 1 1) [2].length (inV [2]):=⟨_,_,rfl,q3h f7.base rfl,rfl,.inl ⟨by decide,Nat.le_refl _⟩⟩
 have g7':=g7.step f7 s8 (by simp)
 have st8:Step h6 (h7.new [.int .i64 2] 1) [] []:=(s7.less (by simp)).trans (s8.less (by simp))
 generalize h7.new [.int .i64 2] 1=h8 at *
 refine qq (qlr g7' g8' (by decide)) λ v h9 ⟨e,e'⟩ f9=>?_
 subst e
 subst h9
 have m8:=m6'.step0 st8
 refine qq (q003 m8 hll6 [97]) λ v h9 ⟨e,s9⟩ f9=>?_
 subst e
 rw [qyz.1]
 simp only [wd, wa]
 refine qq (q003 (m8.step0 s9) hll6 [98]) λ v h10 ⟨e,s10⟩ f10=>?_
 subst e
 rw [qyz.2]
 simp only [decide_true,wd, wa]
 have m10:=(m8.step0 s9).step0 s10
 refine qq (q0n4 m10 o6 (by simp)) λ v h11 ⟨S11,N11,e,m11,s11⟩ f11=>?_
 subst e
 rw [q0kb]
 simp only [Option.isSome_some,wd, wa]
 refine qq (qgn m11) λ v h12 ⟨S12,g12,_,s12⟩ f12=>?_
 rw [q0lp] at g12
 simp only [q3s,q28,q1u,show q00 [(.int .i64 0:Value)] 2=[.int .i64 0,.int .i64 0] from rfl,List.set_cons_zero,List.set_cons_succ]
 refine ⟨rfl,by simp,rfl,by simp,?_⟩
 have s13:Step h12 (h12.new [.int .i64 0,.int .i64 1] 1) [] [h12.next]:=(Step.refl h12 [] (by simp)).new _ _
 have g13:Sl w0 (h12.new [.int .i64 0,.int .i64 1] 1) 1 (.slice (some ⟨h12.next,0,none⟩) 2 2) [0,1].length (inV [0,1]):=⟨_,_,rfl,q3h f12.base rfl,rfl,.inl ⟨by decide,Nat.le_refl _⟩⟩
 have g12':=g12.step f12 s13 (by simp)
 have st13:Step h6 (h12.new [.int .i64 0,.int .i64 1] 1) S6 []:=((((st8.trans s9).trans s10).keepS λ b hb=>(lS6 b hb).2).trans (s11.less (T:=[]) (by simp))).trans ((s12.less (T:=[]) (by simp)).trans (s13.less (by simp)))
 generalize h12.new [.int .i64 0,.int .i64 1] 1=h13 at *
 refine qq (qlr g12' g13 (by decide)) λ v h14 ⟨e,e'⟩ f14=>?_
 subst e
 subst h14
 have e1:qd .eql (.string (str (vOf (some ⟨[97],[51],false⟩)))) (.string ⟨#[51]⟩)=some (.bool true):=by
  show qd .eql (.string (str [51])) (.string (str [51]))=_
  rw [q9p]; rfl
 simp only [decide_true,e1,gOf,wd, wa,qu,q06]
 exact ⟨by simp,trivial,st6.trans st13⟩
end
structure LOp where
 k:Int
 key:Key
 to:Key
 v:Key
 n:Int
def LOp.e (o:LOp):List Value:=[.int .i64 o.k,.string (str o.key),.string (str o.to),.string (str o.v),.int .i64 o.n]
section
variable {w0:World} {h h':Hp}
theorem Lno.y {r:Value} (m:Lno w0 h r) {N:Nat} (ys:q09 N h h' [] []):Lno w0 h' r:=(m.step ys.step:Lno w0 (h'.as h) r)
end
end Go.Proofs.YtfmoemconapmhaaGreat.Ah
