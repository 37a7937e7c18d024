/- The document's levels in memory; New. -/
import Derived.Test.YtfmoemconapmhaaGreatGref14
import Derived.Test.YtfmoemconapmhaaGreatLxd
set_option linter.all false
namespace Go.Proofs.YtfmoemconapmhaaGreat.Ah
open Go
section
variable {w0:World}{h h':Hp}
def fG(w0:World)(h:Hp)(A:List Nat)(v:Value)(ls:List (List Ent)):Prop:=
 ∃ps:List (Value×List Ent),ls=ps.map (·.2)∧Sl w0 h 1 v ps.length (ps.map (·.1))∧(∀b,b∈bL v→b∈A)∧∀p:Value×List Ent,p∈ps→Es w0 h p.1 p.2∧∀b,b∈bL p.1→b∈A
theorem fG.nil(A:List Nat):fG w0 h A (.slice none 0 0) []:=⟨[],rfl,.nil,by simp[bL],by simp⟩
theorem fG.frame{A:List Nat}{v:Value}{ls:List (List Ent)}(m:fG w0 h A v ls)(hA:∀b,b∈A→b<h.next){T T':List Nat}(st:Step h h' T T')(hd:∀b,b∈A→b∉T):fG w0 h' A v ls:=by
 obtain ⟨ps,e,a,b,c⟩:=m
 refine ⟨ps,e,a.stepL (λx hx=>hA x (b x hx)) st λx hx=>hd x (b x hx),b,λp hp=>?_⟩
 obtain ⟨r,hS⟩:=c p hp
 exact ⟨Sl.stepL r (λx hx=>hA x (hS x hx)) st λx hx=>hd x (hS x hx),hS⟩
theorem fG.more{A A':List Nat}{v:Value}{ls:List (List Ent)}(m:fG w0 h A v ls)(hA:∀b,b∈A→b∈A'):fG w0 h A' v ls:=by
 obtain ⟨ps,e,a,b,c⟩:=m
 refine ⟨ps,e,a,λx hx=>hA x (b x hx),λp hp=>?_⟩
 obtain ⟨r,hS⟩:=c p hp
 exact ⟨r,λx hx=>hA x (hS x hx)⟩
theorem fG.isC{A:List Nat}{v:Value}{ls:List (List Ent)}(m:fG w0 h A v ls):aE v=true:=by
 obtain ⟨ps,e,a,b,c⟩:=m
 exact a.isC
theorem fG.lenv{A:List Nat}{v:Value}{ls:List (List Ent)}(m:fG w0 h A v ls):aM v=some (.int .i64 (ls.length:Int)):=by
 obtain ⟨ps,e,a,b,c⟩:=m
 rw[a.lenv,e,eA]
def Rv(w0:World)(h:Hp)(r:Value)(s:LS)(S A:List Nat):Prop:=
 ∃q qa c vm us,r=ptr q∧h.blk q=some (aN s++[vm,.slice (some ⟨qa,0,none⟩) 16 c])∧h.blk qa=some us∧us.length=16∧S=[q,qa]∧q≠qa∧w0.heap.size≤q∧q<h.next∧w0.heap.size≤qa∧qa<h.next∧(∀b,b∈A→b<h.next)∧(∀b,b∈S→b∉A)∧s.lv.length=16∧
  Es w0 h vm s.mem∧(∀b,b∈bL vm→b∈A)∧(∀(i:Nat) v,us[i]?=some v→fG w0 h A v (s.lv.getD i []))∧h.esz qa=1∧((c<bA∧16≤c)∨c=bA)
theorem Rv.nj{r:Value}{s:LS}{S A:List Nat}(m:Rv w0 h r s S A):r≠junk:=by obtain ⟨q,qa,c,vm,us,e,-⟩:=m;subst e;simp[ptr,junk]
theorem Rv.isC{r:Value}{s:LS}{S A:List Nat}(m:Rv w0 h r s S A):aE r=true:=by obtain ⟨q,qa,c,vm,us,e,-⟩:=m;subst e;rfl
theorem Rv.lt{r:Value}{s:LS}{S A:List Nat}(m:Rv w0 h r s S A):∀b,b∈S→w0.heap.size≤b∧b<h.next:=by
 obtain ⟨q,qa,c,vm,us,a1,a2,a3,a4,a5,a6,a7,a8,a9,b1,-⟩:=m
 subst a5
 intro b hb
 simp at hb
 rcases hb with rfl|rfl
 ·exact ⟨a7,a8⟩
 ·exact ⟨a9,b1⟩
theorem Rv.ltA{r:Value}{s:LS}{S A:List Nat}(m:Rv w0 h r s S A):∀b,b∈A→b<h.next:=by
 obtain ⟨q,qa,c,vm,us,a1,a2,a3,a4,a5,a6,a7,a8,a9,b1,b2,-⟩:=m
 exact b2
theorem Rv.dis{r:Value}{s:LS}{S A:List Nat}(m:Rv w0 h r s S A):∀b,b∈S→b∉A:=by
 obtain ⟨q,qa,c,vm,us,a1,a2,a3,a4,a5,a6,a7,a8,a9,b1,b2,b3,-⟩:=m
 exact b3
theorem Rv.frame{r:Value}{s:LS}{S A T T':List Nat}(m:Rv w0 h r s S A)(st:Step h h' T T')(hd:∀b,b∈S→b∉T)(hA:∀b,b∈A→b∉T):Rv w0 h' r s S A:=by
 obtain ⟨q,qa,c,vm,us,a1,a2,a3,a4,a5,a6,a7,a8,a9,b1,b2,b3,b4,b5,b6,b7,b8,b9⟩:=m
 subst a5
 have k1:=st.keep q a8 (hd q (by simp))
 have k2:=st.keep qa b1 (hd qa (by simp))
 have hn:=st.1
 exact ⟨q,qa,c,vm,us,a1,by rw[k1.1];exact a2,by rw[k2.1];exact a3,a4,rfl,a6,a7,by omega,a9,by omega,λb hb=>by have:=b2 b hb;omega,b3,b4,
  Sl.stepL b5 (λx hx=>b2 x (b6 x hx)) st (λx hx=>hA x (b6 x hx)),b6,λi v hi=>(b7 i v hi).frame b2 st hA,by rw[k2.2];exact b8,b9⟩
theorem Rv.step0{r:Value}{s:LS}{S A T':List Nat}(m:Rv w0 h r s S A)(st:Step h h' [] T'):Rv w0 h' r s S A:=m.frame st (by simp) (by simp)
theorem aaq(b f t:Int):aj prog w0 A6 [eZ b f t] h λr h'=>r=.bool (dO b f t)∧Step h h' [] []:=by
 refine aj.of_fit (by simp[eZ]) λfi=>Pb (by simp[eZ]) ?_
 have fb:=fi.base
 simp only[Kg,eZ]
 refine iJ (e:=[.int .i64 b,.int .i64 f,.int .i64 t]) ?_
 have s1:Step h (h.new [.int .i64 b,.int .i64 f,.int .i64 t] 3) [] []:=((Step.refl h [] (by simp)).new _ _).less (by simp)
 have b1:(h.new [.int .i64 b,.int .i64 f,.int .i64 t] 3).blk h.next=some [.int .i64 b,.int .i64 f,.int .i64 t]:=by simp
 generalize h.new [.int .i64 b,.int .i64 f,.int .i64 t] 3=h1 at *
 have fin:∀q,q=dO b f t→ar [.bool q] (λr h'=>r=.bool (dO b f t)∧Step h h' [] []) h1:=λq e=>by
  subst e
  simp only[aC,aU]
  exact ⟨by simp,trivial,s1⟩
 simp only[wd, wa]
 refine aq fb b1 rfl ?_
 simp only[wd, wa]
 by_cases g0:(256:Int)≤b
 ·have c0:decide ((256:Int)≤b)=true:=decide_eq_true g0
  simp only[c0,wd, wa]
  refine aq fb b1 rfl ?_
  simp only[wd, wa]
  by_cases g1:b≤(4096:Int)
  ·have c1:decide (b≤(4096:Int))=true:=decide_eq_true g1
   simp only[c1,wd, wa]
   refine aq fb b1 rfl ?_
   simp only[wd, wa]
   by_cases g2:(2:Int)≤f
   ·have c2:decide ((2:Int)≤f)=true:=decide_eq_true g2
    simp only[c2,wd, wa]
    refine aq fb b1 rfl ?_
    simp only[wd, wa]
    by_cases g3:f≤(16:Int)
    ·have c3:decide (f≤(16:Int))=true:=decide_eq_true g3
     simp only[c3,wd, wa]
     refine aq fb b1 rfl ?_
     simp only[wd, wa]
     by_cases g4:(1:Int)≤t
     ·have c4:decide ((1:Int)≤t)=true:=decide_eq_true g4
      simp only[c4,wd, wa]
      refine aq fb b1 rfl ?_
      simp only[wd, wa]
      by_cases g5:t≤(4096:Int)
      ·have c5:decide (t≤(4096:Int))=true:=decide_eq_true g5
       simp only[c5,wd, wa]
       exact fin _ (by simp[dO,c0,c1,c2,c3,c4,c5])
      ·have c5:decide (t≤(4096:Int))=false:=decide_eq_false g5
       simp only[c5,wd, wa]
       exact fin _ (by simp[dO,c0,c1,c2,c3,c4,c5])
     ·have c4:decide ((1:Int)≤t)=false:=decide_eq_false g4
      simp only[c4,wd, wa]
      exact fin _ (by simp[dO,c0,c1,c2,c3,c4])
    ·have c3:decide (f≤(16:Int))=false:=decide_eq_false g3
     simp only[c3,wd, wa]
     exact fin _ (by simp[dO,c0,c1,c2,c3])
   ·have c2:decide ((2:Int)≤f)=false:=decide_eq_false g2
    simp only[c2,wd, wa]
    exact fin _ (by simp[dO,c0,c1,c2])
  ·have c1:decide (b≤(4096:Int))=false:=decide_eq_false g1
   simp only[c1,wd, wa]
   exact fin _ (by simp[dO,c0,c1])
 ·have c0:decide ((256:Int)≤b)=false:=decide_eq_false g0
  simp only[c0,wd, wa]
  exact fin _ (by simp[dO,c0])
theorem IJ(b f t:Int):aj prog w0 sY [eZ b f t] h λr h' =>
  (dO b f t=true→∃q qa,r=.tuple #[.pointer (some ⟨q,0,none⟩),.int .i64 0]∧h'.blk q=some (aN (cW b.toNat f.toNat t.toNat)++[.slice none 0 0,.slice (some ⟨qa,0,none⟩) 16 16])∧h'.blk qa=some (List.replicate 16 (.slice none 0 0))∧h'.esz qa=1∧q≠qa∧(h.next≤q∧q<h'.next)∧(h.next≤qa∧qa<h'.next)∧Step h h' [] [])∧(dO b f t=false→r=.tuple #[.pointer none,.int .i64 140]∧Step h h' [] []):=by
 refine aj.of_fit (by simp[eZ]) λfi=>Pa (by simp[eZ]) ?_
 have fb:=fi.base
 simp only[Kf]
 refine iJ (e:=[.int .i64 b,.int .i64 f,.int .i64 t]) ?_
 have s1:Step h (h.new [.int .i64 b,.int .i64 f,.int .i64 t] 3) [] []:=((Step.refl h [] (by simp)).new _ _).less (by simp)
 have b1:(h.new [.int .i64 b,.int .i64 f,.int .i64 t] 3).blk h.next=some [.int .i64 b,.int .i64 f,.int .i64 t]:=by simp
 have l1:h.next<(h.new [.int .i64 b,.int .i64 f,.int .i64 t] 3).next:=by simp
 generalize h.new [.int .i64 b,.int .i64 f,.int .i64 t] 3=h1 at *
 refine cO fb b1 rfl ?_
 refine aA (aaq b f t) λv h2 ⟨e,s2⟩ f2=>?_
 subst e
 have s12:=s1.trans s2
 cases hr:dO b f t with
 |false=>
  simp only[wd, wa,aC,cG]
  exact ⟨by simp,by simp,λ_=>⟨trivial,s12⟩⟩
 |true=>
  have hn:=(pC _ _ _).1 hr
  simp only[wd, wa]
  have b2:h2.blk h.next=some [.int .i64 b,.int .i64 f,.int .i64 t]:=by rw[(s2.keep _ l1 (by simp)).1];exact b1
  refine cO fb b2 rfl ?_
  refine (Aa 1 24 [.slice none 0 0] .i64 .i64 16 16).2 ⟨by omega,by omega,by omega,?_⟩
  have l2:h.next<h2.next:=cJ l1 s2.1
  have s3:Step h2 (h2.new (List.replicate 16 (.slice none 0 0)) 1) [] [h2.next]:=(Step.refl h2 [] (by simp)).new _ _
  have b3:(h2.new (List.replicate 16 (.slice none 0 0)) 1).blk h.next=some [.int .i64 b,.int .i64 f,.int .i64 t]:=by rw[(s3.keep _ l2 (by simp)).1];exact b2
  have c3:(h2.new (List.replicate 16 (.slice none 0 0)) 1).blk h2.next=some (List.replicate 16 (.slice none 0 0)):=by simp
  have e3:(h2.new (List.replicate 16 (.slice none 0 0)) 1).esz h2.next=1:=by simp
  have n3:(h2.new (List.replicate 16 (.slice none 0 0)) 1).next=h2.next+1:=rfl
  have fb2:=f2.base
  show aP _ _ (h2.new (List.replicate 16 (.slice none 0 0)) 1)
  generalize h2.new (List.replicate 16 (.slice none 0 0)) 1=h3 at *
  simp only[dU,dL,lW]
  refine ⟨cO fb b3 rfl rfl,?_⟩
  simp only[fg]
  rw[lE]
  refine ⟨rfl,by simp,?_⟩
  rw[dX]
  refine ⟨rfl,by simp[splice],?_⟩
  rw[dJ]
  simp only[wd, wa]
  have hb2:((b.toNat:Nat):Int)=b:=by omega
  have hf2:((f.toNat:Nat):Int)=f:=by omega
  have ht2:((t.toNat:Nat):Int)=t:=by omega
  have hcs:([.int .i64 b,.int .i64 f,.int .i64 t,.slice none 0 0,.slice (some ⟨h2.next,0,none⟩) 16 16]:List Value)=aN (cW b.toNat f.toNat t.toNat)++[.slice none 0 0,.slice (some ⟨h2.next,0,none⟩) 16 16]:=by
   simp[aN,cW,hb2,hf2,ht2]
  show cF true 5 (.agg ([.int .i64 b,.int .i64 f,.int .i64 t,.slice none 0 0,.slice (some ⟨h2.next,0,none⟩) 16 16]:List Value).toArray) _ _
  rw[hcs]
  refine iJ ?_
  have s4:Step h3 (h3.new (aN (cW b.toNat f.toNat t.toNat)++[.slice none 0 0,.slice (some ⟨h2.next,0,none⟩) 16 16]) 5) [] [h3.next]:=(Step.refl h3 [] (by simp)).new _ _
  have b4:(h3.new (aN (cW b.toNat f.toNat t.toNat)++[.slice none 0 0,.slice (some ⟨h2.next,0,none⟩) 16 16]) 5).blk h3.next=some (aN (cW b.toNat f.toNat t.toNat)++[.slice none 0 0,.slice (some ⟨h2.next,0,none⟩) 16 16]):=by simp
  have n4:h3.next<(h3.new (aN (cW b.toNat f.toNat t.toNat)++[.slice none 0 0,.slice (some ⟨h2.next,0,none⟩) 16 16]) 5).next:=by simp
  generalize h3.new (aN (cW b.toNat f.toNat t.toNat)++[.slice none 0 0,.slice (some ⟨h2.next,0,none⟩) 16 16]) 5=h4 at *
  have k4:=s4.keep h2.next (by omega) (by simp)
  simp only[wd, wa,aC,cG]
  have n1:=s1.1
  have n2:=s2.1
  exact ⟨by simp,λ_=>⟨h3.next,h2.next,rfl,b4,by rw[k4.1];exact c3,by rw[k4.2];exact e3,by omega,⟨by omega,n4⟩,⟨by omega,by omega⟩,(s12.trans (s3.less (T:=[]) (by simp))).trans (s4.less (T:=[]) (by simp))⟩,by simp⟩
theorem IK(b f t:Int):aj prog w0 sY [eZ b f t] h λr h' =>
  (dO b f t=true→∃p S,r=.tuple #[p,.int .i64 0]∧Rv w0 h' p (cW b.toNat f.toNat t.toNat) S []∧Step h h' [] S)∧(dO b f t=false→r=.tuple #[.pointer none,.int .i64 140]∧Step h h' [] []):=by
 refine aj.of_fit (by simp[eZ]) λfi=>(IJ b f t).mono λr h' ⟨c1,c2⟩=>⟨λhr=>?_,c2⟩
 obtain ⟨q,qa,e,bq,ba,ez,ne,lq,la,st⟩:=c1 hr
 have fb:=fi.base
 refine ⟨_,[q,qa],e,⟨q,qa,16,_,_,rfl,bq,ba,by simp,rfl,ne,by omega,lq.2,by omega,la.2,by simp,by simp,by simp[cW],.nil,by simp[bL],λi v hi=>?_,ez,.inl ⟨by decide,bF _⟩⟩,st.claim (by simp;omega)⟩
 have hv:=pX (cK hi)
 subst hv
 have:(cW b.toNat f.toNat t.toNat).lv.getD i []=[]:=by
  simp only[cW,cR,tN]
  split <;> rfl
 rw[this]
 exact .nil _
end
noncomputable section
end
def gt(b f t:Int)(v:Value):List Value:=[.int .i64 b,.int .i64 f,.int .i64 t,v]
section
variable {w0:World}{h h':Hp}
theorem Sl.elemF{x:Value}{n s i f:Nat}{k:IntKind}{ys e:List Value}{u:Value}{K:av}(sv:Sl w0 h s x n ys)(hi:i<n)(he:(ys.drop (i*s)).take s=e)(hf:f<s)(hu:e[f]?=some u)(hk:K u h):
  aJ s x (.int k (i:Int)) (λp=>au p f λq=>al w0 q K) h:=by
 obtain ⟨a,c,rfl,⟨-,hs⟩,hy,-⟩:=sv
 rcases hs with ⟨h1,-⟩|⟨-,ad,rfl,hg,hcl⟩
 ·omega
 ·obtain ⟨hsp,cs,hb,hle,rfl⟩:=Hp.getN_some hg
  obtain ⟨b,off,sp⟩:=ad
  simp only at hsp hb hle
  subst hsp
  have hm:(i+1)*s≤n*s:=jy _ hi
  rw[fW,nw]at hm
  refine ⟨_,n,c,k,i,rfl,rfl,by omega,by omega,_,rfl,?_⟩
  rw[fN,addr_add,addr_add]
  simp only at he hy hcl
  have hu':cs[off+i*s+f]?=some u:=by
   rw[←he,gS,if_pos hf,iG,gS,if_pos (by omega),iG]at hu
   rw[←hu]
   congr 1
   rw[kw]
  refine ⟨_,u,rfl,by simp[Hp.get,hb,hu'],λhlt=>(hcl hlt u ?_).1,hk⟩
  have hlt2:i*s+f<n*s:=by omega
  refine cK (i:=i*s+f) ?_
  rw[gS,if_pos hlt2,iG,←kw]
  exact hu'
theorem Lv.ptrV{r:Value}{s:LS}{S A:List Nat}(m:Lv w0 h r s S A):∃q,r=.pointer (some ⟨q,0,none⟩):=by obtain ⟨q,-,-,-,e,-⟩:=m;exact ⟨q,e⟩
theorem Rv.ptrV{r:Value}{s:LS}{S A:List Nat}(m:Rv w0 h r s S A):∃q,r=.pointer (some ⟨q,0,none⟩):=by obtain ⟨q,-,-,-,-,e,-⟩:=m;exact ⟨q,e⟩
theorem No{b f t:Int}{v:Value}(hv:aE v=true):aj prog w0 Al [.agg (gt b f t v).toArray] h λr h' =>
  (dO b f t=true→∃p pr S Sr,r=.tuple #[p,pr,.bool true]∧Lv w0 h' p (cW b.toNat f.toNat t.toNat) S []∧Rv w0 h' pr (cW b.toNat f.toNat t.toNat) Sr []∧Step h h' [] (S++Sr)∧∀b,b∈S→b∉Sr)∧
  (dO b f t=false→r=.tuple #[.pointer none,.pointer none,.bool true]∧Step h h' [] []):=by
 refine aj.of_fit (by simp) λfi=>Ox (by simp) ?_
 have fb:=fi.base
 simp only[JP]
 refine iJ (e:=gt b f t v) ?_
 have s1:Step h (h.new (gt b f t v) 4) [] []:=((Step.refl h [] (by simp)).new _ _).less (by simp)
 have b1:(h.new (gt b f t v) 4).blk h.next=some (gt b f t v):=by simp
 have l1:h.next<(h.new (gt b f t v) 4).next:=by simp
 generalize h.new (gt b f t v) 4=h1 at *
 simp only[wd, wa]
 refine gN (e:=[.int .i64 b,.int .i64 f,.int .i64 t]) fb b1 rfl ?_
 refine aA (De b f t) λr h2 ⟨c1,c2⟩ f2=>?_
 cases hr:dO b f t with
 |true=>
  obtain ⟨p,S,e,m2,s2⟩:=c1 hr
  subst e
  obtain ⟨q,e⟩:=m2.ptrV
  subst e
  simp only[wd, wa]
  have b2:h2.blk h.next=some (gt b f t v):=by rw[(s2.keep _ l1 (by simp)).1];exact b1
  refine gN (e:=[.int .i64 b,.int .i64 f,.int .i64 t]) fb b2 rfl ?_
  refine aA (IK b f t) λr h3 ⟨c3,c4⟩ f3=>?_
  obtain ⟨pr,Sr,e,m3,s3⟩:=c3 hr
  subst e
  obtain ⟨qr,e⟩:=m3.ptrV
  subst e
  simp only[wd, wa]
  refine aA Dq λu h4 ⟨e,s4⟩ f4=>?_
  subst e
  have c5:cN .neq (.pointer (some ⟨q,0,none⟩)) (.pointer none)=some (.bool true):=rfl
  have c6:cN .neq (.pointer (some ⟨qr,0,none⟩)) (.pointer none)=some (.bool true):=rfl
  have c7:jz .eql (.bool true) (.bool true)=some (.bool true):=rfl
  have c8:((0:Int)==0)=true:=rfl
  simp only[c5,c6,c7,c8,wd, wa,aC,cG]
  have hS:∀b,b∈S→b<h2.next:=λb hb=>(s2.own b hb).1
  have hSr:∀b,b∈Sr→h2.next≤b:=λb hb=>by rcases (s3.own b hb).2 with w|w;simp at w;exact w
  refine ⟨by simp,λ_=>⟨_,_,S,Sr,rfl,(m2.step0 s3).step0 s4,m3.step0 s4,?_,λb hb hb2=>by have:=hS b hb;have:=hSr b hb2;omega⟩,by simp⟩
  have t1:Step h h3 [] (Sr++S):=(s1.trans s2).trans (s3.more S hS)
  exact (t1.less (T:=S++Sr) (λb hb=>by simp at hb ⊢;rcases hb with w|w <;> simp[w])).trans (s4.keepS λb hb=>by
   rcases aS.1 hb with w|w
   ·have:=hS b w;have:=s3.1;omega
   ·exact (s3.own b w).1)
 |false=>
  obtain ⟨e,s2⟩:=c2 hr
  subst e
  simp only[wd, wa]
  have b2:h2.blk h.next=some (gt b f t v):=by rw[(s2.keep _ l1 (by simp)).1];exact b1
  refine gN (e:=[.int .i64 b,.int .i64 f,.int .i64 t]) fb b2 rfl ?_
  refine aA (IK b f t) λr h3 ⟨c3,c4⟩ f3=>?_
  obtain ⟨e,s3⟩:=c4 hr
  subst e
  simp only[wd, wa]
  refine aA Dq λu h4 ⟨e,s4⟩ f4=>?_
  subst e
  have c5:cN .neq (.pointer none) (.pointer none)=some (.bool false):=rfl
  have c7:jz .eql (.bool false) (.bool false)=some (.bool true):=rfl
  have c8:((140:Int)==140)=true:=rfl
  simp only[c5,c7,c8,wd, wa,aC,cG]
  exact ⟨by simp,by simp,λ_=>⟨trivial,((s1.trans s2).trans s3).trans s4⟩⟩
end
def ke(l:List LOp):Nat:=(l.map jQ.b).sum
theorem YR(l:List LOp):ke l=(l.map jQ.b).sum:=rfl
theorem I0(o:LOp)(l:List LOp):ke (o::l)=(o.key.length+o.to.length+o.v.length+6)+ke l:=by simp[ke,jQ]
theorem YP{l:List LOp}{i:Nat}{x:LOp}(h:l[i]?=some x):((l.flatMap LOp.e).drop (i*5)).take 5=x.e:=yO (e:=LOp.e) (s:=5) (λ_=>rfl) l i x h
def LOp.put(o:LOp):Ent:=⟨o.key,o.v,false⟩
