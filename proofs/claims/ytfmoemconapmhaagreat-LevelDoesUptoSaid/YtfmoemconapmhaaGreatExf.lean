/- Comparing texts; searching entries. (PRINTED by gen_Eo.py) -/
import Derived.Test.YtfmoemconapmhaaGreatExc
import Derived.Test.YtfmoemconapmhaaGreatGsl
import Derived.Test.YtfmoemconapmhaaGreatGseq
set_option linter.all false
namespace Go.Proofs.YtfmoemconapmhaaGreat.Ah
open Go
open Go Go.Proofs.Tryz
theorem sq{α:Type}{e:α→List Value}{s:Nat}(he:∀a,(e a).length=s){xs:List α}{i:Nat}{a:α}(h:xs[i]?=some a):((xs.flatMap e).drop (i*s)).take s=e a:=by
 have:=fJ he [] h
 rwa [dG]at this
def gV(a b:Key):Int:=if blt a b=true then -1 else if blt b a=true then 1 else 0
theorem yC(a b:Key):decide (gV a b<0)=blt a b:=by
 unfold gV
 cases blt a b <;> cases blt b a <;> rfl
theorem yD(a b:Key):(gV a b==0)=decide (a=b):=by
 unfold gV
 cases e1:blt a b with
 |true=>rw[if_pos rfl,decide_eq_false (ji e1)];rfl
 |false=>
  cases e2:blt b a with
  |true=>rw[if_neg (by simp),if_pos rfl,decide_eq_false (λe=>ji e2 e.symm)];rfl
  |false=>rw[if_neg (by simp),if_neg (by simp),decide_eq_true (Dv e1 e2)];rfl
theorem Du(a b:UInt8)(az bs:Key):blt (a::az) (b::bs)=if a<b then true else if b<a then false else blt az bs:=by
 unfold blt
 rw[Op.bytesLess]
 by_cases q1:a<b
 ·simp[q1]
 ·by_cases q2:b<a
  ·have:a≠b:=λe=>by subst e;exact q1 q2
   simp[q1,q2,this]
  ·have:a=b:=UInt8.le_antisymm (UInt8.not_lt.1 q2) (UInt8.not_lt.1 q1)
   simp[q1,q2,this]
theorem D7:∀a b:Key,Lib.compareBytes a b=gV a b
 |[],[]=>rfl
 |[],b::bs=>rfl
 |a::az,[]=>rfl
 |a::az,b::bs=>by
  have q0:a<b→¬ b<a:=λq=>UInt8.lt_asymm q
  rw[Lib.compareBytes,D7 az bs]
  unfold gV
  rw[Du,Du]
  by_cases q1:a<b
  ·rw[if_pos q1,if_pos q1,if_pos rfl]
  ·rw[if_neg q1,if_neg q1]
   by_cases q2:b<a
   ·rw[if_pos q2,if_pos q2,if_pos q2];rfl
   ·rw[if_neg q2,if_neg q2,if_neg q2,if_neg q1]
section
variable {w0:World}{h:Hp}
theorem acb:scX prog Ir:=⟨f176,by kernel_rfl,by kernel_rfl,by kernel_rfl,by kernel_rfl,by kernel_rfl⟩
theorem Mt(a b:Key):aj prog w0 A8 [.string (str a),.string (str b)] h λr h'=>r=.int .i64 (gV a b)∧h'=h:=by
 refine aj.of_fit (by simp) λf=>Pc (by simp) ?_
 simp only[Ki]
 refine .inr ⟨acb,str a,str b,rfl,rfl,?_⟩
 simp only[aC,aU]
 exact ⟨by simp,by rw[←D7];rfl,trivial⟩
theorem ab2(a b:Key):aj prog w0 Bk [.string (str a),.string (str b)] h λr h'=>r=.int .i64 (gV a b)∧h'=h:=by
 refine aj.of_fit (by simp) λf=>Qw (by simp) ?_
 simp only[Lj]
 refine aA (Mt a b) λr h1 ⟨e,e'⟩ f1=>?_
 subst e e'
 simp only[aC,aU]
 exact ⟨by simp,trivial,trivial⟩
def kl(l:List Ent):List (Key×Ent):=l.map λx=>(x.k,x)
def ivE(p:Key×Ent):List Value:=ee p.2
theorem G8(p:Key×Ent):(ivE p).length=3:=rfl
theorem il(l:List Ent):(kl l).length=l.length:=by simp[kl]
theorem VN(l:List Ent):(kl l).flatMap ivE=l.flatMap ee:=by simp[kl,List.flatMap_map,ivE]
theorem Th(x:Ent)(k:Key):aj prog w0 lM [.agg (ee x).toArray,.string (str k)] h λr h'=>r=.int .i64 (gV x.k k)∧Step h h' [] []:=by
 refine aj.of_fit (by simp) λf=>PM (by simp) ?_
 simp only[KJ]
 refine ⟨(ee x).toArray,rfl,?_⟩
 simp only[wd, wa]
 have hb:=f.base
 refine aq (cs:=ee x) (by omega) (by simp) rfl ?_
 refine aA (ab2 x.k k) λr h1 ⟨e,e'⟩ f1=>?_
 subst e e'
 simp only[aC,aU]
 exact ⟨by simp,trivial,((Step.refl h [] (by simp)).new _ _).less (by simp)⟩
theorem Sl.blk_lt'{s n:Nat}{x:Value}{ys:List Value}(v:Sl w0 h s x n ys)(f:Fit w0 h)(h0:0<n):∀b,b∈bL x→b<h.next:=by
 obtain ⟨a,c,rfl,⟨-,hs⟩,-,-⟩:=v
 rcases hs with ⟨h1,-⟩|⟨-,ad,rfl,hg,-⟩
 ·omega
 ·obtain ⟨-,cs,hb,-⟩:=Hp.getN_some hg
  intro b hm
  simp[bL]at hm
  subst hm
  exact f.lt _ _ hb
theorem NF{k0:Value→Value→Value→Value→Value→Hp→Prop}{x:Value}{l:List (Key×Ent)}{k:Key}(hl:l.length≤1000000000)(hS:∀x,x∈l→∀h,aj prog w0 lM [.agg (ivE x).toArray,.string (str k)] h λr h'=>r=.int .i64 (gV x.1 k)∧Step h h' [] []):∀(m i j:Nat) (h1:Hp),i≤j→j≤l.length→j-i≤m→Sl w0 h1 3 x l.length (l.flatMap ivE)→(∀b,b∈bL x→b<h1.next)→
  (∀h',Step h1 h' [] []→k0 x (.string (str k)) (.func (.func lM) #[] #[]) (.int .i64 (l.length:Int)) (.int .i64 (bsK l k m i j:Int)) h')→
  ng prog w0 k0 (m+1) x (.string (str k)) (.func (.func lM) #[] #[]) (.int .i64 (l.length:Int)) (.int .i64 (i:Int)) (.int .i64 (j:Int)) h1:=by
 intro m
 induction m with
 |zero=>
  intro i j h1 hij hj hm v hx hk
  have c1:decide ((i:Int)<(j:Int))=false:=decide_eq_false (by omega)
  rw[ng]
  simp only[qV,wd, wa,c1]
  exact hk h1 (.refl _ _ (by simp))
 |succ m ih=>
  intro i j h1 hij hj hm v hx hk
  rw[ng]
  by_cases hlt:i<j
  ·have c1:decide ((i:Int)<(j:Int))=true:=decide_eq_true (by omega)
   have e1:IntKind.i64.wrap ((i:Int)+(j:Int))=((i+j:Nat):Int):=by rw[bM _ (by omega)];simp
   have e2:IntKind.u64.wrap ((i+j:Nat):Int)=((i+j:Nat):Int):=eL _ (by omega)
   have e3:ah .shr (.int .u64 ((i+j:Nat):Int)) (.int .u64 1)=some (.int .u64 (((i+j)/2:Nat):Int)):=by
    rw[uc _ _ _ _ (by omega)]
    congr 2
   have e4:IntKind.i64.wrap (((i+j)/2:Nat):Int)=(((i+j)/2:Nat):Int):=bM _ (by omega)
   have hml:(i+j)/2<l.length:=by omega
   have hg:l[(i+j)/2]?=some l[(i+j)/2]:=bW hml
   simp only[qV,wd, wa,c1,e1,e2,e3,e4]
   have hs:=v.src
   obtain ⟨a,c,ex⟩:=v.slice
   rw[ex]at hs ⊢
   refine oT hs hml ?_
   rw[sq G8 hg]
   refine j1 (by kernel_rfl) (hS _ (jw hml) h1) λr h2 ⟨e,s2⟩ f2=>?_
   subst e
   rw[←ex]
   have v2:=v.stepL hx s2 (by simp)
   have hx2:∀b,b∈bL x→b<h2.next:=λb hb=>cJ (hx b hb) s2.1
   have hb:bsK l k (m+1) i j=if blt l[(i+j)/2].1 k=true then bsK l k m ((i+j)/2+1) j else bsK l k m i ((i+j)/2):=by
    rw[bsK,if_pos hlt,hg]
   simp only[wd, wa,yC]
   cases e:blt l[(i+j)/2].1 k with
   |true=>
    rw[e,if_pos rfl]at hb
    have e5:IntKind.i64.wrap ((((i+j)/2:Nat):Int)+1)=(((i+j)/2+1:Nat):Int):=by rw[bM _ (by omega)];simp
    simp only[wd, wa,e5]
    exact ih _ _ h2 (by omega) hj (by omega) v2 hx2 (λh' s'=>by have:=hk h' (s2.trans s');rw[hb]at this;exact this)
   |false=>
    rw[e,if_neg (by simp)]at hb
    simp only[wd, wa]
    exact ih _ _ h2 (by omega) (by omega) (by omega) v2 hx2 (λh' s'=>by have:=hk h' (s2.trans s');rw[hb]at this;exact this)
  ·have c1:decide ((i:Int)<(j:Int))=false:=decide_eq_false (by omega)
   have hb:bsK l k (m+1) i j=i:=by rw[bsK,if_neg hlt]
   simp only[qV,wd, wa,c1]
   have:=hk h1 (.refl _ _ (by simp))
   rw[hb]at this
   exact this
theorem NE{x:Value}{l:List (Key×Ent)}{k:Key}(v:Sl w0 h 3 x l.length (l.flatMap ivE))(hl:l.length≤1000000000)(hS:∀x,x∈l→∀h,aj prog w0 lM [.agg (ivE x).toArray,.string (str k)] h λr h'=>r=.int .i64 (gV x.1 k)∧Step h h' [] []):
  aj prog w0 Bf [x,.string (str k),.func (.func lM) #[] #[]] h λr h' =>
   r=.tuple #[.int .i64 (bsK l k l.length 0 l.length:Int),.bool (eU l k (bsK l k l.length 0 l.length))]∧Step h h' [] []:=by
 refine aj.of_fit (by simpa using v.junk) λf=>Qm (by simpa using v.junk) ?_
 obtain ⟨a,c,ex⟩:=v.slice
 have elx:aM x=some (.int .i64 (l.length:Int)):=by rw[ex];rfl
 simp only[Cv,elx,wd, wa]
 refine ⟨l.length+1,?_⟩
 have fin:∀(h1:Hp),Step h h1 [] []→(0<l.length→Sl w0 h1 3 x l.length (l.flatMap ivE))→∀r,r≤l.length→r=bsK l k l.length 0 l.length→
   aa (ah .lss (.int .i64 (r:Int)) (.int .i64 (l.length:Int))) (λv38=>
    ai v38 true (λK=>K (.func (.func lM) #[] #[])) λv40=>
    ai v38 true (λK=>K x) λv41=>
    ai v38 true (λK=>K (.int .i64 (r:Int))) λv42=>
    ai v38 true (aJ 3 v41 v42) λv43=>
    ai v38 true (aG w0 v43 3) λv44=>
    ai v38 true (λK=>K (.string (str k))) λv45=>
    ai v38 true (dM prog w0 v40 [v44,v45]) λv46=>
    ai v38 true (aa (ah .eql v46 (.int .i64 0))) λv47=>
    aQ v38 v47 (.bool false) λv48=>
    ar [.int .i64 (r:Int),v48] λr h'=>r=.tuple #[.int .i64 (bsK l k l.length 0 l.length:Int),.bool (eU l k (bsK l k l.length 0 l.length))]∧Step h h' [] []) h1:=by
  intro h1 s1 hv r hr er
  by_cases hrl:r<l.length
  ·have c1:decide ((r:Int)<(l.length:Int))=true:=decide_eq_true (by omega)
   have hg:l[r]?=some l[r]:=bW hrl
   have v1:=hv (by omega)
   have hs:=v1.src
   simp only[wd, wa,c1]
   rw[ex]at hs ⊢
   refine oT hs hrl ?_
   rw[sq G8 hg]
   refine j1 (by kernel_rfl) (hS _ (jw hrl) h1) λq h2 ⟨e,s2⟩ f2=>?_
   subst e
   simp only[wd, wa,yD,aC,cG]
   refine ⟨by simp,?_,s1.trans s2⟩
   rw[←er]
   simp only[eU,hg]
  ·have c1:decide ((r:Int)<(l.length:Int))=false:=decide_eq_false (by omega)
   simp only[wd, wa,c1,aC,cG]
   refine ⟨by simp,?_,s1⟩
   rw[←er]
   simp only[eU,fF (show l.length≤r by omega)]
 have hrg:=rF l k l.length 0 l.length (fX _) (bF _)
 rcases ic l.length with h0|h0
 ·have c1:decide ((0:Int)<(l.length:Int))=false:=decide_eq_false (by omega)
  rw[h0,ng]
  have c2:decide (((0:Nat):Int)<((0:Nat):Int))=false:=rfl
  have c3:decide ((0:Int)<((0:Nat):Int))=false:=rfl
  simp only[qV,wd, wa,c2,c3]
  have:=fin h (.refl _ _ (by simp)) (λq=>by omega) 0 (by omega) (by omega)
  simp only[h0,wd, wa,c2]at this
  exact this
 ·have hx:=v.blk_lt' f h0
  exact NF hl hS l.length 0 l.length h (fX _) (bF _) (by omega) v hx (λh' s'=>fin h' s' (λ_=>v.stepL hx s' (by simp)) _ hrg.2 rfl)
end
def cC(l:List Ent)(k:Key):Option Ent:=l.find? λx=>decide (x.k=k)
theorem gY{l:List Ent}{k:Key}{x:Ent}(h:cC l k=some x):x∈l∧x.k=k:=by
 unfold cC at h
 exact ⟨List.mem_of_find?_eq_some h,by simpa using List.find?_some h⟩
theorem qw{l:List Ent}{k:Key}(h:cC l k=none):∀x,x∈l→x.k≠k:=by
 unfold cC at h
 intro x hx
 simpa using List.find?_eq_none.1 h x hx
theorem LQ{l:List Ent}(s:l.Pairwise λx y=>blt x.k y.k=true):∀x y,x∈l→y∈l→x.k=y.k→x=y:=by
 induction l with
 |nil=>simp
 |cons z l ih=>
  obtain ⟨h1,h2⟩:=jx.1 s
  intro x y hx hy e
  rcases bB.1 hx with ex|hx2
  ·rcases bB.1 hy with ey|hy2
   ·rw[ex,ey]
   ·subst ex
    exact absurd e (ji (h1 y hy2))
  ·rcases bB.1 hy with ey|hy2
   ·subst ey
    exact absurd e.symm (ji (h1 x hx2))
   ·exact ih h2 x y hx2 hy2 e
theorem zp{l:List Ent}(s:l.Pairwise λx y=>blt x.k y.k=true){x:Ent}(hx:x∈l):cC l x.k=some x:=by
 cases h:cC l x.k with
 |none=>exact absurd rfl (qw h x hx)
 |some y=>
  obtain ⟨h1,h2⟩:=gY h
  rw[LQ s y x h1 hx h2]
theorem jm{l:List Ent}(s:l.Pairwise λx y=>blt x.k y.k=true):Srt (kl l):=by
 unfold Srt kl
 exact List.pairwise_map.2 s
def fE(l:List Ent)(k:Key):Nat:=bV (kl l) k
theorem Fz(l:List Ent)(k:Key):fE l k≤l.length:=by
 have:=qv (kl l) k
 rwa [il]at this
theorem sF(l:List Ent)(k:Key)(i:Nat):eU (kl l) k i=match l[i]? with|some x=>decide (x.k=k)|none=>false:=by
 unfold eU kl
 rw[fV]
 cases l[i]? <;> rfl
theorem G6{l:List Ent}(s:l.Pairwise λx y=>blt x.k y.k=true)(k:Key):(eU (kl l) k (fE l k)=false∧cC l k=none)∨∃x,l[fE l k]?=some x∧x.k=k∧eU (kl l) k (fE l k)=true∧cC l k=some x:=by
 cases h:cC l k with
 |none=>
  left
  refine ⟨?_,rfl⟩
  rw[sF]
  cases hx:l[fE l k]? with
  |none=>rfl
  |some x=>exact decide_eq_false (qw h x (cK hx))
 |some x=>
  right
  obtain ⟨h1,h2⟩:=gY h
  obtain ⟨j,hj,hjx⟩:=List.mem_iff_getElem.1 h1
  have hj2:l[j]?=some x:=by rw[bW hj,hjx]
  have hf:fE l k=j:=by
   refine F3 (by rw[il];omega) (λi y hi hy=>?_) λy hy=>?_
   ·unfold kl at hy
    rw[fV]at hy
    cases hz:l[i]? with
    |none=>rw[hz]at hy;simp at hy
    |some z=>
     rw[hz]at hy
     simp at hy
     subst hy
     have hil:=(cB.1 hz).1
     have:=rh.1 s i j hil hj hi
     rw[hjx,h2,(cB.1 hz).2]at this
     exact this
   ·unfold kl at hy
    rw[fV,hj2]at hy
    simp at hy
    subst hy
    simp only
    rw[h2]
    exact j0 k
  refine ⟨x,by rw[hf];exact hj2,h2,?_,rfl⟩
  rw[sF,hf,hj2]
  exact decide_eq_true h2
section
variable {w0:World}{h h':Hp}
def Rn(w0:World)(h:Hp)(r:Value)(l:List Ent)(n:Nat)(S:List Nat):Prop:=
 ∃p vb x S',r=ptr p∧S=p::S'∧h.blk p=some [vb,x,.int .i64 (n:Int)]∧i8 .neq vb (.slice none 0 0)=some (.bool true)∧w0.heap.size≤p∧p<h.next∧Vec w0 h 3 x l.length (l.flatMap ee) S'∧p∉S'∧ff l=true∧l.length≤2000000
theorem Rn.frame{r:Value}{l:List Ent}{n:Nat}{S T T':List Nat}(m:Rn w0 h r l n S)(st:Step h h' T T')(hd:∀b,b∈S→b∉T):Rn w0 h' r l n S:=by
 obtain ⟨p,vb,x,S',a1,a2,a3,a4,a5,a6,a7,a8,a9⟩:=m
 subst a2
 exact ⟨p,vb,x,S',a1,rfl,by rw[(st.keep p a6 (hd p (by simp))).1];exact a3,a4,a5,cJ a6 st.1,a7.frame st (λb hb=>hd b (by simp[hb])),a8,a9⟩
theorem Rn.lt{r:Value}{l:List Ent}{n:Nat}{S:List Nat}(m:Rn w0 h r l n S):∀b,b∈S→w0.heap.size≤b∧b<h.next:=by
 obtain ⟨p,vb,x,S',a1,a2,a3,a4,a5,a6,a7,a8,a9⟩:=m
 subst a2
 intro b hb
 rcases bB.1 hb with rfl|hb
 ·exact ⟨a5,a6⟩
 ·exact a7.lt b hb
theorem Rn.nj{r:Value}{l:List Ent}{n:Nat}{S:List Nat}(m:Rn w0 h r l n S):r≠junk:=by
 obtain ⟨p,vb,x,S',a1,-⟩:=m
 subst a1
 simp[ptr,junk]
def Rno(w0:World)(h:Hp)(r:Value):Prop:=r=.pointer none∨∃p,r=ptr p∧w0.heap.size≤p∧p<h.next∧h.blk p=some [.slice none 0 0,.slice none 0 0,.int .i64 0]
theorem Rno.step{r:Value}(m:Rno w0 h r)(st:Step h h' [] []):Rno w0 h' r:=by
 rcases m with m|⟨p,a,b,c,d⟩
 ·exact .inl m
 ·exact .inr ⟨p,a,b,cJ c st.1,by rw[(st.keep p c (by simp)).1];exact d⟩
theorem Rno.nj{r:Value}(m:Rno w0 h r):r≠junk:=by
 rcases m with m|⟨p,a,b,c,d⟩ <;> subst r <;> simp[ptr,junk]
theorem zY{r:Value}{l:List Ent}{n:Nat}{S:List Nat}(m:Rn w0 h r l n S):aj prog w0 qQ [r] h λv h'=>v=.bool true∧h'=h:=by
 refine aj.of_fit (by simpa using m.nj) λf=>D1 (by simpa using m.nj) ?_
 obtain ⟨p,vb,x,S',a1,a2,a3,a4,a5,a6,a7,a8,a9⟩:=m
 subst a1
 have c0:cN .neq (.pointer (some ⟨p,0,none⟩)) (.pointer none)=some (.bool true):=rfl
 simp only[xl,ptr,c0,wd, wa]
 refine aq a5 a3 rfl ?_
 simp only[a4,wd, wa,aC,aU]
 exact ⟨by simp,trivial,trivial⟩
theorem Yv{r:Value}(m:Rno w0 h r):aj prog w0 qQ [r] h λv h'=>v=.bool false∧h'=h:=by
 refine aj.of_fit (by simpa using m.nj) λf=>D1 (by simpa using m.nj) ?_
 rcases m with m|⟨p,a,b,c,d⟩
 ·subst m
  have c0:cN .neq (.pointer none) (.pointer none)=some (.bool false):=rfl
  simp only[xl,c0,wd, wa,aC,aU]
  exact ⟨by simp,trivial,trivial⟩
 ·subst a
  have c0:cN .neq (.pointer (some ⟨p,0,none⟩)) (.pointer none)=some (.bool true):=rfl
  have c1:i8 .neq (.slice none 0 0) (.slice none 0 0)=some (.bool false):=rfl
  simp only[xl,ptr,c0,wd, wa]
  refine aq b d rfl ?_
  simp only[c1,wd, wa,aC,aU]
  exact ⟨by simp,trivial,trivial⟩
theorem F4{r:Value}{l:List Ent}{n:Nat}{S:List Nat}(m:Rn w0 h r l n S)(k:Key):aj prog w0 wz [r,.string (str k)] h λv h'=>v=.tuple #[.int .i64 (fE l k:Int),.bool (eU (kl l) k (fE l k))]∧Step h h' [] []:=by
 refine aj.of_fit (by simpa using m.nj) λf=>PL (by simpa using m.nj) ?_
 obtain ⟨p,vb,x,S',a1,a2,a3,a4,a5,a6,a7,a8,a9,a10⟩:=m
 subst a1
 simp only[KI,ptr,wd, wa]
 refine aq a5 a3 rfl ?_
 have v:Sl w0 h 3 x (kl l).length ((kl l).flatMap ivE):=by rw[il,VN];exact a7.sl
 have hs:=Dw (jm (rK a9).1) k
 refine aA (NE v (k:=k) (by rw[il];omega) λq hq hh=>?_) λv h1 ⟨e,s1⟩ f1=>?_
 ·obtain ⟨y,hy,rfl⟩:=eB.1 hq
  exact Th y k
 ·rw[hs]at e
  subst e
  simp only[wd, wa,aC,cG]
  exact ⟨by simp,rfl,s1⟩
def eo(o:Option Ent):List Value:=match o with|some x=>ee x|none=>zE
theorem M0{r:Value}{l:List Ent}{n:Nat}{S:List Nat}(m:Rn w0 h r l n S)(k:Key):aj prog w0 AR [r,.string (str k)] h λv h'=>v=.tuple #[.agg (eo (cC l k)).toArray,.bool (cC l k).isSome]∧Step h h' [] []:=by
 refine aj.of_fit (by simpa using m.nj) λf=>PJ (by simpa using m.nj) ?_
 have hcell:∀v,v∈zE→aE v=true:=by simp[zE,aE]
 simp only[KG,gG]
 refine ⟨hcell,?_⟩
 have fb:=f.base
 have sn:Step h (h.new zE 3) [] [h.next]:=(Step.refl h [] (by simp)).new _ _
 have n1:h.next<(h.new zE 3).next:=by simp
 have bn:(h.new zE 3).blk h.next=some zE:=by simp
 have fn:Fit w0 (h.new zE 3):=f.new hcell
 have mn:=m.frame sn (by simp)
 show am _ _ _ _ _ (h.new zE 3)
 generalize h.new zE 3=h1 at *
 refine aA (zY mn) λv h2 ⟨e,e'⟩ f2=>?_
 subst e e'
 simp only[wd, wa]
 refine aA (F4 mn k) λv h3 ⟨e,s3⟩ f3=>?_
 subst e
 have b3:h3.blk h.next=some zE:=by rw[(s3.keep _ n1 (by simp)).1];exact bn
 have n3:h.next<h3.next:=cJ n1 s3.1
 have m3:=mn.frame s3 (by simp)
 have fin:∀e:List Value,e.length=3→∀b,bU w0 (.pointer (some ⟨h.next,0,none⟩)) (.agg e.toArray) 3 (λ_=>aG w0 (.pointer (some ⟨h.next,0,none⟩)) 3 λv4=>ar [v4,.bool b] λv h'=>v=.tuple #[.agg e.toArray,.bool b]∧Step h h' [] []) h3:=by
  intro e he b
  refine jD fb b3 rfl he ?_
  refine cO (cs:=e) fb (by simp) he ?_
  simp only[aC,cG]
  have s4:Step h h3 [] [h.next]:=sn.trans (s3.keepS (by simpa using n1))
  exact ⟨by simp,trivial,(s4.put (by simp) _).less (by simp)⟩
 obtain ⟨p,vb,x,S',a1,a2,a3,a4,a5,a6,a7,a8,a9,a10⟩:=m3
 subst a1
 rcases G6 (rK a9).1 k with ⟨q1,q2⟩|⟨y,q1,q2,q3,q4⟩
 ·simp only[q1,q2,wd, wa,fg,dJ]
  exact fin zE rfl false
 ·simp only[q3,q4,ptr,wd, wa]
  refine aq a5 a3 rfl ?_
  have hs:=a7.src
  obtain ⟨ax,cx,ex⟩:=a7.slice
  rw[ex]at hs ⊢
  refine oT hs (cB.1 q1).1 ?_
  rw[jT q1]
  exact fin (ee y) rfl true
end
def opn(b:List UInt8):Option (List Ent×Nat):=match prs b with
 |none=>none
 |some (l,bl,n)=>if dH (bl:Int) l=0∧aX (bl:Int) l=b then some (l,n) else none
theorem N1{block:Int}{l:List Ent}(h:dH block l=0):ff l=true∧256≤block∧block≤4096:=by
 unfold dH at h
 split at h
 ·simp at h
 ·split at h
  ·rename_i h1 h2
   exact ⟨h2,by omega⟩
  ·simp at h
section
variable {w0:World}{h h':Hp}
theorem GV.b2s{s n:Nat}{x:Value}{l:List UInt8}{S:List Nat}{K:av}(g:GV w0 h 1 x n (bvs l) S)(hk:K (.string (str l)) h):dW w0 x K h:=by
 have hs:=g.src
 obtain ⟨a,c,ex⟩:=g.slice
 subst ex
 exact my hs hk
theorem Mv{x y:Value}{n m:Nat}{a b:List UInt8}{S T:List Nat}(g:GV w0 h 1 x n (bvs a) S)(g':GV w0 h 1 y m (bvs b) T):aj prog w0 Ab [x,y] h λr h'=>r=.bool (decide (a=b))∧h'=h:=by
 refine aj.of_fit (by simp[g.nj,g'.nj]) λf=>NO (by simp[g.nj,g'.nj]) ?_
 simp only[J7]
 refine GV.b2s (s:=1) g ?_
 refine GV.b2s (s:=1) g' ?_
 simp only[lV,wd, wa,aC,aU]
 exact ⟨by simp,trivial,trivial⟩
def inS(b:Key)(x:Ent):Bool:=!(decide (b≠[])&&!blt x.k b)
def part(l:List Ent)(a b:Key):List Ent:=(l.drop (fE l a)).takeWhile (inS b)
def sV(l:List Ent):List (List Value):=l.map λx=>[.agg (ee x).toArray]
theorem Dh(r:Value)(hr:r≠junk)(hrc:aE r=true)(a b:Key):aj prog w0 wy [r,.string (str a),.string (str b)] h λv h'=>∃q1 q2 q3,v=.func (.func qP) #[] #[ptr q1,ptr q2,ptr q3]∧
  h'.blk q1=some [r]∧h'.blk q2=some [.string (str a)]∧h'.blk q3=some [.string (str b)]∧h.next≤q1∧h.next≤q2∧h.next≤q3∧q1<h'.next∧q2<h'.next∧q3<h'.next∧Step h h' [] []:=by
 refine aj.of_fit (by simp[hr]) λf=>PK (by simp[hr]) ?_
 simp only[KH]
 refine ⟨hrc,rfl,rfl,?_⟩
 refine ⟨by simp,?_⟩
 simp only[aC,aU]
 have h1:h.next≠h.next+1:=by omega
 have h2:h.next≠h.next+1+1:=by omega
 have h3:h.next+1≠h.next+1+1:=by omega
 exact ⟨by simp,h.next,h.next+1,h.next+1+1,rfl,by simp[h1,h2],by simp[h3],by simp,bF _,by omega,by omega,by simp;omega,by simp,by simp,((((Step.refl h [] (by simp)).new _ _).new _ _).new _ _).less (by simp)⟩
theorem ace{hh:Hp}{q3 N:Nat}{y xc:Value}{b:Key}{L:List Ent}{S:List Nat}{C:Nat→Hp→List Nat→Prop}{D:Hp→List Nat→Prop}{R:Hp→Prop}(f:Fit w0 hh)(w3:w0.heap.size≤q3)(b3:hh.blk q3=some [.string (str b)])(hq3:q3∉S)
  (kC:∀i,fB w0 N hh.next (C i)) (hl:L.length≤1000000000)
  (hstep:∀i x h1 S1,(sV (L.takeWhile (inS b)))[i]?=some x→Fit w0 h1→C i h1 S1→dM prog w0 y x (λv h2=>∃S2,bC N h1 h2 S1 S2∧((v=.bool true∧C (i+1) h2 S2)∨(v=.bool false∧D h2 S2))) h1)
  (hR:∀h2 S2,bC N hh h2 S S2→(C (L.takeWhile (inS b)).length h2 S2∨D h2 S2)→R h2):
  ∀(post pre:List Ent) (h1:Hp) (S1:List Nat),pre++post=L→(∀x,x∈pre→inS b x=true)→Fit w0 h1→bC N hh h1 S S1→C pre.length h1 S1→Sl w0 h1 3 xc L.length (L.flatMap ee)→(∀b,b∈bL xc→b<hh.next∧b∉S)→
   nc prog w0 R R (post.length+1) y (ptr q3) xc (.int .i64 (L.length:Int)) (.int .i64 (pre.length:Int)) h1:=by
 intro post
 induction post with
 |nil=>
  intro pre h1 S1 he hpre f1 ys c g hU
  have hpl:pre=L:=by simpa using he
  subst hpl
  rw[cS,nc]
  simp only[xd,wd, wa,dQ,decide_false]
  have ht:pre.takeWhile (inS b)=pre:=by
   have:=CU (l₂:=[]) hpre
   simpa using this
  exact hR h1 S1 ys (.inl (by rw[ht];exact c))
 |cons x post ih=>
  intro pre h1 S1 he hpre f1 ys c g hU
  have hlen:pre.length+(post.length+1)=L.length:=by rw[←he];simp
  have hg:L[pre.length]?=some x:=by rw[←he];simp
  have c1:decide ((pre.length:Int)<(L.length:Int))=true:=decide_eq_true (by omega)
  have e6:=wrS pre x (by omega)
  have htw:L.takeWhile (inS b)=pre++(x::post).takeWhile (inS b):=by rw[←he,CU hpre]
  rw[bH,nc]
  simp only[xd,wd, wa,c1]
  refine g.elem (by omega) (jT hg) ?_
  simp only[gG]
  have hcell:∀v,v∈zE→aE v=true:=by simp[zE,aE]
  refine ⟨hcell,?_⟩
  have hb1:=f1.base
  refine jD (cs:=zE) (e:=ee x) hb1 (by simp[zE]) rfl rfl ?_
  have hne:q3≠h1.next:=by have:=f.lt _ _ b3;have:=ys.next;omega
  have hb3:h1.blk q3=some [.string (str b)]:=by rw[(ys.keep q3 (f.lt _ _ b3) hq3).1];exact b3
  have sx:Step h1 ((h1.new zE 3).put h1.next (ee x)) [] [h1.next]:=((Step.refl h1 [] (by simp)).new _ _).put (by simp) _
  obtain ⟨hx,hhx⟩:∃hx,hx=(h1.new zE 3).put h1.next (ee x):=⟨_,rfl⟩
  have x1:hx.blk q3=some [.string (str b)]:=by rw[hhx,cX,if_neg hne,iq,if_neg hne];exact hb3
  have x2:hx.blk h1.next=some (ee x):=by rw[hhx];simp
  have fx:Fit w0 hx:=by rw[hhx];exact (f1.new hcell).put hb1 (by simp) (by simp[ee,aE])
  show al _ _ _ ((h1.new zE 3).put h1.next (ee x))
  rw[←hhx]at sx ⊢
  have cx':C pre.length hx S1:=(kC _).step h1 hx S1 [] [] f1 c (sx.less (by simp)) (by simp) (by simp)
  have hS1:∀b,b∈S1→b<h1.next:=(kC _).lt h1 S1 c
  have ysx:bC N hh hx S S1:=ys.trans ((sx.wide (T:=S1) (T':=S1) (by simp) (λb hb=>.inr ⟨hb,hS1 b hb⟩)).y N)
  have gx:=g.step f1 sx (by simp)
  simp only[ptr]
  refine aq w3 x1 rfl ?_
  have em:ByteArray.empty=str ([]:Key):=rfl
  have cont:inS b x=true→aG w0 (.pointer (some ⟨h1.next,0,none⟩)) 3 (λv39=>dM prog w0 y [v39] λv40=>aa (unA .not v40) λv42=>aB v42 R (nc prog w0 R R (post.length+1) y (.pointer (some ⟨q3,0,none⟩)) xc (.int .i64 (L.length:Int)) (.int .i64 (((pre++[x]).length:Nat):Int)))) hx:=by
   intro hin
   refine cO hb1 x2 rfl ?_
   have hxi:(sV (L.takeWhile (inS b)))[pre.length]?=some [.agg (ee x).toArray]:=by
    rw[htw,List.takeWhile_cons,if_pos hin]
    simp[sV]
   refine jO (hstep _ _ hx S1 hxi fx cx') λr h3 ⟨S3,ys3,hv⟩ f3=>?_
   have ys4:=ysx.trans ys3
   have hU3:∀b,b∈bL xc→b∉S1:=λb hb hb3=>by
    rcases (ys.own b hb3).2 with q|q
    ·exact (hU b hb).2 q
    ·have:=(hU b hb).1;omega
   have g3:Sl w0 h3 3 xc L.length (L.flatMap ee):=(gx.step fx ys3.step hU3:Sl w0 (h3.as hx) 3 xc L.length (L.flatMap ee))
   rcases hv with ⟨rfl,c3⟩|⟨rfl,d3⟩
   ·simp only[wd, wa]
    exact ih (pre++[x]) h3 S3 (by simpa using he) (λz hz=>by
     rcases aS.1 hz with q|q
     ·exact hpre z q
     ·simp at q;subst q;exact hin) f3 ys4 (by simpa using c3) g3 hU
   ·simp only[wd, wa]
    exact hR h3 S3 ys4 (.inr d3)
  by_cases hbe:b=[]
  ·have c2:decide (b≠[])=false:=decide_eq_false (by simp[hbe])
   rw[em]
   simp only[jB,c2,e6,wd, wa]
   exact cont (by unfold inS;simp[hbe])
  ·have c2:decide (b≠[])=true:=decide_eq_true hbe
   rw[em]
   simp only[jB,c2,wd, wa]
   refine aq hb1 x2 rfl ?_
   refine aq w3 x1 rfl ?_
   simp only[qS,wd, wa]
   cases hbl:blt x.k b with
   |true=>
    simp only[e6,wd, wa]
    exact cont (by unfold inS;simp[hbl])
   |false=>
    simp only[wd, wa]
    have hno:inS b x=false:=by unfold inS;simp[hbl,hbe]
    refine hR hx S1 ysx (.inl ?_)
    rw[htw,List.takeWhile_cons,if_neg (by simp[hno]),dG]
    exact cx'
theorem Ln{hh:Hp}{q1 q2 q3 n:Nat}{r:Value}{l:List Ent}{a b:Key}{T M:List Nat}(b1:hh.blk q1=some [r])(b2:hh.blk q2=some [.string (str a)])(b3:hh.blk q3=some [.string (str b)])(w1:w0.heap.size≤q1)(w2:w0.heap.size≤q2)(w3:w0.heap.size≤q3)
  (m:Rn w0 hh r l n M) (hT:q1∈T∧q2∈T∧q3∈T∧∀b,b∈M→b∈T):
  ItC prog w0 (.func (.func qP) #[] #[ptr q1,ptr q2,ptr q3]) hh T (sV (part l a b)):=by
 intro y N S C D hy hN kC kD hstep h0 hd
 refine ⟨_,_,_,rfl,by kernel_rfl,?_⟩
 refine aj.of_fit (by simp[ptr,hy]) λf=>D0 (by simp[ptr,hy]) ?_
 have hSlt:=(kC 0).lt hh S h0
 simp only[xk,ptr]
 refine aq w1 b1 rfl ?_
 refine aA (zY m) λv h1 ⟨e,e'⟩ f1=>?_
 subst e
 subst h1
 simp only[wd, wa]
 refine aq w1 b1 rfl ?_
 refine aq w2 b2 rfl ?_
 refine aA (F4 m a) λv h2 ⟨e,s2⟩ f2=>?_
 subst e
 simp only[wd, wa]
 have l1:=f.lt _ _ b1
 refine aq w1 (by rw[(s2.keep q1 l1 (by simp)).1];exact b1) rfl ?_
 have m2:=m.frame s2 (by simp)
 have hMT:=hT.2.2.2
 have hML:=m.lt
 obtain ⟨p,vb,x,S',a1,a2,a3,a4,a5,a6,a7,a8,a9,a10⟩:=m2
 subst a1 a2
 obtain ⟨p',vb',x',S'',b1',b2',b3',b4',b5',b6',b7',-⟩:=m
 have hpp:p'=p:=by simpa[ptr]using b1'.symm
 subst hpp
 simp only[ptr,wd, wa]
 refine aq a5 a3 rfl ?_
 have hfl:=Fz l a
 refine a7.sl.cutN (lo:=fE l a) (hi:=l.length) eY fH hfl (bF _) λxc exc hbx vc=>?_
 have hys:((l.flatMap ee).take (l.length*3)).drop (fE l a*3)=(l.drop (fE l a)).flatMap ee:=by
  rw[dY (by rw[uW];omega),Fu]
 have hdl:l.length-fE l a=(l.drop (fE l a)).length:=by simp
 rw[hys,hdl]at vc
 simp only[vc.lenv,wd, wa]
 refine ⟨(l.drop (fE l a)).length+1,?_⟩
 have s2S:Step hh h2 S S:=s2.keepS hSlt
 refine ace (L:=l.drop (fE l a)) (hh:=hh) (b:=b) (S:=S) f w3 b3 (λq=>hd q3 q hT.2.2.1) kC (by simp;omega) hstep (λh3 S3 ys hk=>?_) (l.drop (fE l a)) [] h2 S rfl (by simp) f2 (s2S.y N) ((kC 0).step hh h2 S [] [] f h0 s2 (by simp) (by simp)) vc (λb hb=>?_)
 ·simp only[aC]
  exact ⟨by simp,S3,ys,by simpa[sV,part]using hk⟩
 ·rw[hbx,Vec.sblk_eq a7]at hb
  have h3:b∈p'::S':=mh _ hb
  exact ⟨(hML b h3).2,λq=>hd b q (hMT b h3)⟩
theorem acf{hh:Hp}{q1 q2 q3:Nat}{r:Value}{T:List Nat}(b1:hh.blk q1=some [r])(w1:w0.heap.size≤q1)(m:Rno w0 hh r):ItC prog w0 (.func (.func qP) #[] #[ptr q1,ptr q2,ptr q3]) hh T []:=by
 intro y N S C D hy hN kC kD hstep h0 hd
 refine ⟨_,_,_,rfl,by kernel_rfl,?_⟩
 refine aj.of_fit (by simp[ptr,hy]) λf=>D0 (by simp[ptr,hy]) ?_
 simp only[xk,ptr]
 refine aq w1 b1 rfl ?_
 refine aA (Yv m) λv h1 ⟨e,e'⟩ f1=>?_
 subst e e'
 simp only[wd, wa,aC]
 exact ⟨by simp,S,bC.refl N h1 S ((kC 0).lt h1 S h0),.inl h0⟩
end
theorem Zh(l:List Ent):part l [] []=l:=by
 have h0:fE l []=0:=by
  refine F3 (fX _) (λi x hi=>by omega) λx _=>?_
  unfold blt
  cases x.1 <;> rfl
 unfold part
 rw[h0,i5]
 have:=CU (p:=inS []) (l₁:=l) (l₂:=[]) (λx _=>by simp[inS])
 simpa using this
structure ROp where
 k:Int
 key:Key
 v:Key
 n:Int
def ROp.e(o:ROp):List Value:=[.int .i64 o.k,.string (str o.key),.string (str o.v),.int .i64 o.n]
section
variable {w0:World}
theorem kT.nj{s n:Nat}{v:Value}{ys:List Value}(x:kT w0 s v n ys):v≠junk:=by obtain ⟨a,c,e,-⟩:=x.sl;simp[e]
end
theorem Iz{bl:Nat}{l:List Ent}(h:dH (bl:Int) l=0)(hl:l.length≤2000000):opn (aX (bl:Int) l)=some (l,(grp bl l).length)∧prs (aX (bl:Int) l)=some (l,bl,(grp bl l).length):=by
 obtain ⟨h1,h2,h3⟩:=Dt h
 have hr:∀x,x∈l→bE x=true:=qt h3
 obtain ⟨z1,z2,z3⟩:=yu (block:=bl) hr hl
 have hR:aX (bl:Int) l=bld bl l:=by unfold aX;rw[if_pos h,fN]
 have hp:=Zr (block:=bl) (by omega) hr (by omega) (by omega)
 rw[←hR]at hp
 refine ⟨?_,hp⟩
 unfold opn
 rw[hp]
 simp only
 rw[if_pos ⟨h,trivial⟩]
theorem Zs{b:List UInt8}{q:List Ent×Nat×Nat}(h:prs b=some q):q.2.2=tC b:=by
 unfold prs at h
 split at h
 ·cases h
 ·simp only at h
  split at h
  ·cases h
  ·split at h
   ·cases h
   ·split at h
    ·have:=Option.some.inj h
     rw[←this]
     rfl
    ·cases h
theorem adb{bl:Nat}{l:List Ent}(h:dH (bl:Int) l=0)(hl:l.length≤2000000):tC (aX (bl:Int) l)≤l.length:=by
 rw[←Zs (Iz h hl).2]
 exact qA bl l
section
variable {w0:World}{h h':Hp}
theorem kH(l:List Ent):4*l.length≤aY l:=by
 induction l with
 |nil=>simp
 |cons x l ih=>rw[iU,bH];omega
theorem mB{bl:Nat}{l:List Ent}(hz:dH (bl:Int) l=0)(hl:aY l≤1048576):(aX (bl:Int) l).length≤11534360:=by
 have hR:aX (bl:Int) l=bld bl l:=by unfold aX;rw[if_pos hz,fN]
 have h1:=tm (grp bl l) (λg hg=>mK hg)
 have h2:=zy (grp bl l) 0 (λg hg=>mK hg) (by rw[iM]at h1;omega) (by rw[iM];omega)
 rw[iM]at h1 h2
 rw[hR,nH]
 omega
theorem YA{a b A B C:Nat}(h1:a≤A)(h2:b≤B)(h3:A*B≤C):a*b≤C:=cY (Nat.mul_le_mul h1 h2) h3
theorem ME(r:Value)(hr:r≠junk)(hrc:aE r=true):aj prog w0 te [r] h λv h'=>∃q,v=.func (.func qO) #[] #[ptr q]∧h'.blk q=some [r]∧h.next≤q∧q<h'.next∧Step h h' [] []:=by
 refine aj.of_fit (by simp[hr]) λf=>P5 (by simp[hr]) ?_
 simp only[K2]
 refine ⟨hrc,?_⟩
 refine ⟨by simp,?_⟩
 simp only[aC,aU]
 exact ⟨by simp,h.next,rfl,by simp,bF _,by simp,((Step.refl h [] (by simp)).new _ _).less (by simp)⟩
end
