/- run.Mem: its calls. -/
import Derived.Test.YtfmoemconapmhaaGreatExj
set_option linter.all false
namespace Go.Proofs.YtfmoemconapmhaaGreat.Ah
open Go
def cP(l:List Ent)(x:Ent):List Ent:=l.take (fE l x.k)++x::l.drop (if eG (kl l) x.k=true then fE l x.k+1 else fE l x.k)
theorem GC(a b:List Ent):kl (a++b)=kl a++kl b:=by simp[kl]
theorem GF(l:List Ent)(i:Nat):kl (l.take i)=(kl l).take i:=by simp[kl]
theorem GD(l:List Ent)(i:Nat):kl (l.drop i)=(kl l).drop i:=by simp[kl]
theorem tt(l:List Ent)(x:Ent):fL (kl l) x.k x=kl (cP l x):=by
 unfold cP fL
 rw[GC,show kl (x::l.drop (if eG (kl l) x.k=true then fE l x.k+1 else fE l x.k))=(x.k,x)::kl (l.drop (if eG (kl l) x.k=true then fE l x.k+1 else fE l x.k)) from rfl,GF,GD]
 cases hh:eG (kl l) x.k with
 |false=>rfl
 |true=>
  obtain ⟨u,hu⟩:=oR hh
  have hil:=(cB.1 hu).1
  simp only[if_true]
  exact ya.trans (if_pos hil)
theorem GE{a b:List Ent}(h:kl a=kl b):a=b:=by
 have:=congrArg (List.map (·.2)) h
 simpa[kl,gT,nm]using this
theorem V8{l:List Ent}(s:l.Pairwise λx y=>blt x.k y.k=true)(k:Key):eG (kl l) k=(cC l k).isSome∧j5 (kl l) k=cC l k:=by
 unfold j5 eG
 rcases G6 s k with ⟨q1,q2⟩|⟨x,q1,q2,q3,q4⟩
 ·have:eU (kl l) k (bV (kl l) k)=false:=q1
  rw[this,q2]
  exact ⟨rfl,rfl⟩
 ·have:eU (kl l) k (bV (kl l) k)=true:=q3
  have h2:(kl l)[bV (kl l) k]?=some (x.k,x):=by
   have:l[bV (kl l) k]?=some x:=q1
   unfold kl at this ⊢
   rw[fV,this]
   rfl
  rw[this,q4,h2]
  exact ⟨rfl,rfl⟩
section
variable {w0:World}{h h':Hp}
def Me(w0:World)(h:Hp)(r:Value)(l:List Ent)(S:List Nat):Prop:=
 ∃q p M,r=ptr q∧h.blk q=some [ptr p]∧Mp w0 h p (kl l) M∧w0.heap.size≤q∧q<h.next∧q∉M∧S=q::M∧l.Pairwise (λx y=>blt x.k y.k=true)∧l.length≤10000000
theorem Me.nj{r:Value}{l:List Ent}{S:List Nat}(m:Me w0 h r l S):r≠junk:=by obtain ⟨q,p,M,e,-⟩:=m;subst e;simp[ptr,junk]
theorem Me.isC{r:Value}{l:List Ent}{S:List Nat}(m:Me w0 h r l S):aE r=true:=by obtain ⟨q,p,M,e,-⟩:=m;subst e;rfl
theorem Me.lt{r:Value}{l:List Ent}{S:List Nat}(m:Me w0 h r l S):∀b,b∈S→w0.heap.size≤b∧b<h.next:=by
 obtain ⟨q,p,M,e,a1,a2,a3,a4,a5,a6,a7⟩:=m
 subst a6
 intro b hb
 rcases bB.1 hb with rfl|hb
 ·exact ⟨a3,a4⟩
 ·exact a2.lt b hb
theorem Me.frame{r:Value}{l:List Ent}{S T T':List Nat}(m:Me w0 h r l S)(st:Step h h' T T')(hd:∀b,b∈S→b∉T):Me w0 h' r l S:=by
 obtain ⟨q,p,M,e,a1,a2,a3,a4,a5,a6,a7,a8⟩:=m
 subst a6
 exact ⟨q,p,M,e,by rw[(st.keep q a4 (hd q (by simp))).1];exact a1,a2.frame st (λb hb=>hd b (by simp[hb])),a3,cJ a4 st.1,a5,rfl,a7,a8⟩
def Mno(w0:World)(h:Hp)(r:Value):Prop:=r=.pointer none∨∃p,r=ptr p∧w0.heap.size≤p∧p<h.next∧h.blk p=some [.pointer none]
theorem Mno.step{r:Value}(m:Mno w0 h r)(st:Step h h' [] []):Mno w0 h' r:=by
 rcases m with m|⟨p,a,b,c,d⟩
 ·exact .inl m
 ·exact .inr ⟨p,a,b,cJ c st.1,by rw[(st.keep p c (by simp)).1];exact d⟩
theorem Mno.nj{r:Value}(m:Mno w0 h r):r≠junk:=by
 rcases m with m|⟨p,a,b,c,d⟩ <;> subst r <;> simp[ptr,junk]
theorem pZ{r:Value}{l:List Ent}{S:List Nat}(m:Me w0 h r l S):aj prog w0 mV [r] h λv h'=>v=.bool true∧h'=h:=by
 refine aj.of_fit (by simpa using m.nj) λf=>PD (by simpa using m.nj) ?_
 obtain ⟨q,p,M,e,a1,a2,a3,a4,a5,a6,a7⟩:=m
 subst e
 have c0:cN .neq (.pointer (some ⟨q,0,none⟩)) (.pointer none)=some (.bool true):=rfl
 have c1:cN .neq (.pointer (some ⟨p,0,none⟩)) (.pointer none)=some (.bool true):=rfl
 simp only[KA,ptr,c0,wd, wa]
 refine aq a3 a1 rfl ?_
 simp only[ptr,c1,wd, wa,aC,aU]
 exact ⟨by simp,trivial,trivial⟩
theorem Dd:aj prog w0 AQ [] h λr h'=>∃S,Me w0 h' r [] S∧Step h h' [] S:=by
 refine aj.of_fit (by simp) λf=>PG (by simp) ?_
 simp only[KD]
 refine aA Dc λr h1 ⟨e,m1,s1⟩ f1=>?_
 subst e
 simp only[fg,dX,dJ,cU,iT,aC,aU]
 have sn:Step h1 (h1.new [ptr h.next] 1) [] [h1.next]:=(Step.refl h1 [] (by simp)).new _ _
 have n1:=s1.1
 have hlt:=(s1.own h.next (by simp)).1
 exact ⟨rfl,by simp,by simp,[h1.next,h.next],⟨h1.next,h.next,[h.next],rfl,by simp,m1.frame sn (by simp),f1.base,by simp,by simp;omega,rfl,.nil,by simp⟩,s1.new _ _⟩
theorem CW{r:Value}{l:List Ent}{S:List Nat}(m:Me w0 h r l S):aj prog w0 wm [r] h λv h'=>v=.int .i64 (l.length:Int)∧h'=h:=by
 refine aj.of_fit (by simpa using m.nj) λf=>PB (by simpa using m.nj) ?_
 simp only[K8]
 refine aA (pZ m) λv h1 ⟨e,e'⟩ f1=>?_
 subst e e'
 obtain ⟨q,p,M,e,a1,a2,a3,a4,a5,a6,a7⟩:=m
 subst e
 simp only[ptr,wd, wa]
 refine aq a3 a1 rfl ?_
 refine aA (MB a2) λv h1 ⟨e,e'⟩ f1=>?_
 subst e e'
 simp only[il,aC,aU]
 exact ⟨by simp,trivial,trivial⟩
theorem M9{r:Value}{l:List Ent}{S:List Nat}(m:Me w0 h r l S)(k:Key):aj prog w0 AN [r,.string (str k)] h λv h'=>v=.tuple #[.agg (eo (cC l k)).toArray,.bool (cC l k).isSome]∧Step h h' [] []:=by
 refine aj.of_fit (by simpa using m.nj) λf=>PA (by simpa using m.nj) ?_
 simp only[K7,gG]
 refine ⟨fM,?_⟩
 have fb:=f.base
 have sn:Step h (h.new zE 3) [] [h.next]:=(Step.refl h [] (by simp)).new _ _
 have n1:h.next<(h.new zE 3).next:=by simp
 have bn:(h.new zE 3).blk h.next=some zE:=by simp
 have mn:=m.frame sn (by simp)
 show am _ _ _ _ _ (h.new zE 3)
 generalize h.new zE 3=h1 at *
 refine aA (pZ mn) λv h2 ⟨e,e'⟩ f2=>?_
 subst e e'
 obtain ⟨q,p,M,e,a1,a2,a3,a4,a5,a6,a7,a8⟩:=mn
 subst e
 simp only[ptr,wd, wa]
 refine aq a3 a1 rfl ?_
 refine aA (MA a2 (jm a7) (by rw[il];omega) k) λv h3 ⟨e,s3⟩ f3=>?_
 subst e
 obtain ⟨g1,g2⟩:=V8 a7 k
 rw[g1,g2]
 simp only[wd, wa]
 have b3:h3.blk h.next=some zE:=by rw[(s3.keep _ n1 (by simp)).1];exact bn
 refine jD fb b3 rfl (uV _) ?_
 refine cO (cs:=eo (cC l k)) fb (by simp) (uV _) ?_
 simp only[aC,cG]
 exact ⟨by simp,trivial,((sn.trans (s3.keepS (by simpa using n1))).put (by simp) _).less (by simp)⟩
end
theorem LN{l:List Ent}(s:Srt (kl l)):l.Pairwise λx y=>blt x.k y.k=true:=by
 unfold Srt kl at s
 exact List.pairwise_map.1 s
theorem ra{l:List Ent}(s:l.Pairwise λx y=>blt x.k y.k=true)(x:Ent):(cP l x).Pairwise λx y=>blt x.k y.k=true:=by
 refine LN ?_
 rw[←tt]
 exact IB (jm s) x.k x
theorem CD(l:List Ent)(x:Ent):(cP l x).length≤l.length+1:=by
 have:=Z2 (kl l) x.k x
 rwa [tt,il,il]at this
section
variable {w0:World}{h h':Hp}
theorem Da{r:Value}{l:List Ent}{S:List Nat}(m:Me w0 h r l S)(hl:l.length<10000000)(x:Ent):aj prog w0 wo [r,.agg (ee x).toArray] h λv h'=>∃S',
  v=.int .i64 (if bE x=true then 0 else 120)∧Me w0 h' r (if bE x=true then cP l x else l) S'∧Step h h' S S':=by
 refine aj.of_fit (by simpa using m.nj) λf=>PE (by simpa using m.nj) ?_
 simp only[KC,iT]
 have fb:=f.base
 have sn:Step h (h.new (ee x) 3) [] [h.next]:=(Step.refl h [] (by simp)).new _ _
 have n1:h.next<(h.new (ee x) 3).next:=by simp
 have bn:(h.new (ee x) 3).blk h.next=some (ee x):=by simp
 have mn:=m.frame sn (by simp)
 have hlt:=λb hb=>(m.lt b hb).2
 show am _ _ _ _ _ (h.new (ee x) 3)
 generalize h.new (ee x) 3=h1 at *
 refine aA (pZ mn) λv h2 ⟨e,e'⟩ f2=>?_
 subst e e'
 simp only[wd, wa]
 refine cO fb bn rfl ?_
 refine aA (I3 x) λv h3 ⟨e,s3⟩ f3=>?_
 subst e
 have s03:Step h h3 S S:=((sn.less (T:=[]) (by simp)).trans s3).keepS hlt
 have m3:=mn.frame s3 (by simp)
 have b3:h3.blk h.next=some (ee x):=by rw[(s3.keep _ n1 (by simp)).1];exact bn
 cases hr:bE x with
 |false=>
  simp only[wd, wa,aC,aU]
  exact ⟨by simp,S,by simp,by simpa using m3,s03⟩
 |true=>
  obtain ⟨q,p,M,e,a1,a2,a3,a4,a5,a6,a7,a8⟩:=m3
  subst e a6
  simp only[ptr,wd, wa]
  refine aq a3 a1 rfl ?_
  refine aq fb b3 rfl ?_
  refine cO fb b3 rfl ?_
  refine aA (MD a2 (jm a7) (by rw[il];omega) x.k x) λv h4 ⟨e,M',m4,s4⟩ f4=>?_
  rw[tt]at m4
  simp only[aC,aU]
  have hq':q∉M':=λz=>by
   rcases (s4.own q z).2 with z|z
   ·exact a5 z
   ·omega
  refine ⟨by simp,q::M',by simp,?_,s03.trans (s4.consR a4)⟩
  rw[if_pos trivial]
  have hwl:=CD l x
  exact ⟨q,p,M',rfl,by rw[(s4.keep q a4 a5).1];exact a1,m4,a3,cJ a4 s4.1,hq',rfl,ra a7 x,by omega⟩
theorem MC{r:Value}{l:List Ent}{S:List Nat}(m:Me w0 h r l S)(hl:l.length<10000000)(k v:Key):aj prog w0 AO [r,.string (str k),.string (str v)] h λu h'=>∃S',
  u=.int .i64 (if bE ⟨k,v,false⟩=true then 0 else 120)∧Me w0 h' r (if bE ⟨k,v,false⟩=true then cP l ⟨k,v,false⟩ else l) S'∧Step h h' S S':=by
 refine aj.of_fit (by simpa using m.nj) λf=>PC (by simpa using m.nj) ?_
 simp only[K9,fg,dX,dJ,cU,fc]
 refine ⟨rfl,by simp,rfl,by simp,?_⟩
 refine aA (Da m hl ⟨k,v,false⟩) λu h1 ⟨S',e,m1,s1⟩ f1=>?_
 subst e
 simp only[aC,aU]
 exact ⟨by simp,S',trivial,m1,s1⟩
theorem M6{r:Value}{l:List Ent}{S:List Nat}(m:Me w0 h r l S)(hl:l.length<10000000)(k:Key):aj prog w0 AL [r,.string (str k)] h λu h'=>∃S',
  u=.int .i64 (if bE ⟨k,[],true⟩=true then 0 else 120)∧Me w0 h' r (if bE ⟨k,[],true⟩=true then cP l ⟨k,[],true⟩ else l) S'∧Step h h' S S':=by
 refine aj.of_fit (by simpa using m.nj) λf=>P8 (by simpa using m.nj) ?_
 simp only[K5,fg,dX,dJ,cU,fc]
 refine ⟨rfl,by simp,rfl,by simp,?_⟩
 refine aA (Da m hl ⟨k,[],true⟩) λu h1 ⟨S',e,m1,s1⟩ f1=>?_
 subst e
 simp only[aC,aU]
 exact ⟨by simp,S',trivial,m1,s1⟩
theorem M7{r:Value}{l:List Ent}{S:List Nat}(m:Me w0 h r l S):aj prog w0 AM [r] h λv h'=>∃S' q,v=ptr q∧Me w0 h' v l S'∧Step h h' [] S':=by
 refine aj.of_fit (by simpa using m.nj) λf=>P9 (by simpa using m.nj) ?_
 simp only[K6]
 refine aA (pZ m) λv h1 ⟨e,e'⟩ f1=>?_
 subst e e'
 obtain ⟨q,p,M,e,a1,a2,a3,a4,a5,a6,a7,a8⟩:=m
 subst e
 simp only[ptr,wd, wa]
 refine aq a3 a1 rfl ?_
 refine aA (M8 a2 (by rw[il];omega)) λv h2 ⟨p',M',e,m2,s2⟩ f2=>?_
 subst e
 simp only[fg,dX,dJ,cU,iT,aC,aU]
 have sn:Step h2 (h2.new [ptr p'] 1) [] [h2.next]:=(Step.refl h2 [] (by simp)).new _ _
 have hM:=λb hb=>(m2.lt b hb).2
 exact ⟨rfl,by simp,by simp,h2.next::M',h2.next,rfl,⟨h2.next,p',M',rfl,by simp,m2.frame sn (by simp),f2.base,by simp,λz=>by have:=hM _ z;omega,rfl,a7,a8⟩,s2.trans ((Step.refl h2 M' hM).new _ _)⟩
theorem M5{r:Value}{l:List Ent}{S:List Nat}(m:Me w0 h r l S):aj prog w0 AK [r] h λv h'=>∃S',Me w0 h' r [] S'∧Step h h' S S':=by
 refine aj.of_fit (by simpa using m.nj) λf=>P7 (by simpa using m.nj) ?_
 have hlt:=λb hb=>(m.lt b hb).2
 simp only[K4]
 refine aA (pZ m) λv h1 ⟨e,e'⟩ f1=>?_
 subst e e'
 obtain ⟨q,p,M,e,a1,a2,a3,a4,a5,a6,a7,a8⟩:=m
 subst e a6
 simp only[wd, wa]
 refine aA Dc λv h2 ⟨e,m2,s2⟩ f2=>?_
 subst e
 have b2:h2.blk q=some [ptr p]:=by rw[(s2.keep q a4 (by simp)).1];exact a1
 have n2:=s2.1
 have hlt2:=(s2.own h1.next (by simp)).1
 simp only[ptr,wd, wa]
 refine eH a3 b2 (by simp) rfl ?_
 simp only[cU,aC]
 have sp:Step h2 (h2.put q [ptr h1.next]) [q] [q]:=(Step.refl h2 [q] (by simp;omega)).put (by simp) _
 have s3:Step h1 h2 (q::M) (q::M++[h1.next]):=by
  have:=s2.more (q::M) hlt
  exact this.weaken (λb hb=>.inl (by simpa using hb)) (λb hb=>.inl (by simp at hb ⊢;rcases hb with r|r|r <;> simp[r]))
 refine ⟨by simp,[q,h1.next],⟨q,h1.next,[h1.next],rfl,by simp[ptr],m2.frame sp (by simp;omega),a3,by simp;omega,by simp;omega,rfl,.nil,by simp⟩,(s3.put (p:=q) (by simp) _).less (by simp)⟩
end
section
variable {w0:World}{h h':Hp}
theorem fB.up{N B B':Nat}{C:Hp→List Nat→Prop}(k:fB w0 N B C)(hB:B≤B'):fB w0 N B' C:=
 ⟨k.ins,λh h' S T T' f c st hd hb=>k.step h h' S T T' f c st hd (λb q=>cY hB (hb b q)),k.lt⟩
theorem fB.and_blk{N B q:Nat}{C:Hp→List Nat→Prop}{y:Value}(k:fB w0 N B C)(hq:q<B):fB w0 N B (λh S=>C h S∧h.blk q=some [y]∧q∉S∧q<h.next):=by
 refine ⟨λh lp S e ⟨c,b,n,l⟩=>⟨k.ins h lp S e c,b,n,l⟩,λh h' S T T' f ⟨c,b,n,l⟩ st hd hB=>⟨k.step h h' S T T' f c st hd hB,?_,n,cJ l st.1⟩,λh S ⟨c,_,_,_⟩=>k.lt h S c⟩
 rw[(st.keep q l (λz=>by have:=hB q z;omega)).1]
 exact b
theorem bC.cutN{N:Nat}{S S':List Nat}(s:bC N h h' S S'):bC N h (h'.cutLp h) S S':=⟨s.1,s.2,s.3,λb hN hb=>by rw[rO,if_pos hb];exact s.4 b hN hb⟩
theorem z9(l:List Ent):itV (kl l) (λ_=>true)=l.map λx=>[.string (str x.k),.agg (ee x).toArray]:=by
 unfold itV kl
 rw[xS.2 (by simp),gT]
 rfl
theorem Im{hh:Hp}{q:Nat}{r:Value}{l:List Ent}{T M:List Nat}(bq:hh.blk q=some [r])(wq:w0.heap.size≤q)(m:Me w0 hh r l M)(hT:q∈T∧∀b,b∈M→b∈T):
  ItV prog w0 (.func (.func qO) #[] #[ptr q]) hh T (sV l):=by
 intro y N S C D hy hyc hN kC kD hstep h0 hd
 refine ⟨_,_,_,rfl,by kernel_rfl,?_⟩
 refine aj.of_fit (by simp[ptr,hy]) λf=>P6 (by simp[ptr,hy]) ?_
 have hSlt:=(kC 0).lt hh S h0
 have lq:=f.lt _ _ bq
 have hML:=m.lt
 have fb:=f.base
 simp only[K3,ptr]
 refine ⟨hyc,?_⟩
 have sn:Step hh (hh.new [y] 1) [] [hh.next]:=(Step.refl hh [] (by simp)).new _ _
 have bn:(hh.new [y] 1).blk hh.next=some [y]:=by simp
 have n1:hh.next<(hh.new [y] 1).next:=by simp
 have mn:=m.frame sn (by simp)
 have bqn:(hh.new [y] 1).blk q=some [r]:=by rw[(sn.keep q lq (by simp)).1];exact bq
 have lqn:q<(hh.new [y] 1).next:=by simp;omega
 show al _ _ _ (hh.new [y] 1)
 generalize hh.new [y] 1=h1 at *
 refine aq wq bqn rfl ?_
 refine aA (pZ mn) λv h2 ⟨e,e'⟩ f2=>?_
 subst e
 subst h2
 simp only[wd, wa]
 refine aq wq bqn rfl ?_
 obtain ⟨qm,p,Mm,e,a1,a2,a3,a4,a5,a6,a7,a8⟩:=mn
 subst e a6
 simp only[ptr,wd, wa]
 refine aq a3 a1 rfl ?_
 refine aA (Mo p) λv h2 ⟨q1,q2,e,b1,b2,b3,b4,b5,b6,s2⟩ f2'=>?_
 subst e
 have s02:Step hh h2 [] []:=(sn.less (T:=[]) (by simp)).trans s2
 have m2:=a2.frame s2 (by simp)
 have bn2:h2.blk hh.next=some [y]:=by rw[(s2.keep _ n1 (by simp)).1];exact bn
 have n2:hh.next<h2.next:=cJ n1 s2.1
 have sS:Step hh h2 S S:=s02.keepS hSlt
 have fin:∀h3 S2,bC N h2 h3 S S2→(C (sV l).length h3 S2∨D h3 S2)→ie hh (ar [] λ_ h2=>∃S2,bC N hh h2 S S2∧(C (sV l).length h2 S2∨D h2 S2)) h3:=by
  intro h3 S2 ys hk
  unfold ie
  simp only[aC]
  have hi:∀b,b<N→(h3.cutLp hh).lp b=h3.lp b:=λb hb=>by rw[rO,if_pos (by omega)]
  refine ⟨by simp,S2,((sS.y N).trans ys).cutN,?_⟩
  rcases hk with c|d
  ·exact .inl ((kC _).ins h3 (h3.cutLp hh).lp S2 hi c)
  ·exact .inr (kD.ins h3 (h3.cutLp hh).lp S2 hi d)
 refine wS (xs:=itV (kl l) λ_=>true) (T:=q1::q2::Mm) N (by omega) f2' (λg=>?_) (λb g x K=>cA zE 3 λv=>bU w0 v (x.tail.getD 0 undef) 3 λ_=>al w0 (ptr hh.next) λv15=>aG w0 v 3 λv16=>dM prog w0 v15 [v16] λv17=>aa (unA .not v17) λv18=>aB v18 (fq b g (some none) K) (fq b g none K))
  (λb g x K h1 hl hk=>wU hl hk) S (λi h1 S1=>C i h1 S1∧h1.blk hh.next=some [y]∧hh.next∉S1∧hh.next<h1.next) (λo h1 S1=>o=none∧D h1 S1)
  (λi=>((kC i).up s02.1).and_blk n2) (λo=>⟨λh lp S e ⟨a,b⟩=>⟨a,kD.ins h lp S e b⟩,λh h' S T T' f ⟨a,b⟩ st hd hB=>⟨a,(kD.up s02.1).step h h' S T T' f b st hd hB⟩,λh S ⟨a,b⟩=>kD.lt h S b⟩)
  ⟨(kC 0).step hh h2 S [] [] f h0 s02 (by simp) (by simp),bn2,λz=>by have:=hSlt _ z;omega,n2⟩ (λb hb=>?_) ?_ ?_ ?_ ?_
 ·exact (YX (hh:=h2.newLp g) (p:=p) (q1:=q1) (q2:=q2) (l:=kl l) (kp:=λ_=>true) (T:=q1::q2::Mm) (M:=Mm) b1 b2 (by omega) (by omega) (m2.frame ((bC.refl 0 h2 [] (by simp)).newLp g).step (by simp):Mp w0 ((h2.newLp g).as h2) p (kl l) Mm) (by rw[il];omega) ⟨by simp,by simp,λb hb=>by simp[hb]⟩
   λh1 _ _ x hx=>j1 (by kernel_rfl) (Mn x.1) λr h2 hr f2=>hr).v
 ·have hbl:=hSlt b hb
  have hs1:=sn.1
  simp only[bB]
  intro z
  rcases z with z|z|z
  ·omega
  ·omega
  ·exact hd b hb (hT.2 b (mh _ z))
 ·rw[z9]
  intro z hz
  obtain ⟨x,hx,rfl⟩:=eB.1 hz
  exact ⟨rfl,by simp⟩
 ·rintro i x h3 S1 g1 K hi f3 ⟨c,by_,nq,lq0⟩ lb _ ends exits
  rw[z9,fV]at hi
  obtain ⟨z,hz,rfl⟩:=mu.1 hi
  have hS1:=(kC i).lt h3 S1 c
  simp only[List.tail_cons,tL]
  have fb3:=f3.base
  refine fp fb3 rfl rfl fM ?_
  have sx:Step h3 (h3.new (ee z) 3) [] [h3.next]:=(Step.refl h3 [] (by simp)).new _ _
  have bx:(h3.new (ee z) 3).blk h3.next=some (ee z):=by simp
  have fx:Fit w0 (h3.new (ee z) 3):=f3.new (by simp[ee,aE])
  have by2:(h3.new (ee z) 3).blk hh.next=some [y]:=by rw[(sx.keep _ lq0 (by simp)).1];exact by_
  have cx:=(kC i).step h3 _ S1 [] [] f3 c (sx.less (T:=[]) (by simp)) (by simp) (by simp)
  have ysx:bC N h3 (h3.new (ee z) 3) S1 S1:=((sx.less (T:=[]) (by simp)).keepS hS1).y N
  have nx:h3.next<(h3.new (ee z) 3).next:=by simp
  generalize h3.new (ee z) 3=h4 at *
  simp only[ptr]
  refine aq fb by2 rfl ?_
  refine cO fb3 bx rfl ?_
  have hzi:(sV l)[i]?=some [.agg (ee z).toArray]:=by unfold sV;rw[fV,hz];rfl
  refine jO (hstep i _ h4 S1 hzi fx cx) λv h5 ⟨S2,ys,hv⟩ f5=>?_
  have ys35:=ysx.trans ys
  have hq5:hh.next∉S2:=λw=>by
   rcases (ys35.own _ w).2 with w|w
   ·exact nq w
   ·omega
  rcases hv with ⟨rfl,c5⟩|⟨rfl,d5⟩
  ·simp only[wd, wa]
   exact ends h5 S2 ys35 ⟨c5,by rw[(ys35.keep _ lq0 nq).1];exact by_,hq5,cJ lq0 ys35.next⟩
  ·simp only[wd, wa]
   exact exits none h5 S2 ys35 ⟨rfl,d5⟩
 ·rintro h3 S2 f3 ys ⟨c,-⟩
  have:(itV (kl l) λ_=>true).length=(sV l).length:=by rw[z9];simp[sV]
  rw[this]at c
  exact fin h3 S2 ys (.inl c)
 ·rintro o h3 S2 f3 ys ⟨rfl,d⟩
  exact ⟨_,List.mem_singleton_self _,rfl,fin h3 S2 ys (.inr d)⟩
end
section
variable {w0:World}{h h':Hp}
def RI(w0:World)(B q:Nat)(l:List Ent)(i:Nat)(h1:Hp)(S1:List Nat):Prop:=
 ∃x S',S1=q::S'∧h1.blk q=some [x]∧Vec w0 h1 4 x (l.take i).length (ivs (kl (l.take i))) S'∧q∉S'∧B≤h1.next
theorem aap{B q i:Nat}{l:List Ent}(hq:q<B):fB w0 0 B (RI w0 B q l i):=by
 refine ⟨λh lp S _ c=>c,λh h' S T T' f ⟨x,S',e,b,v,hqs,n⟩ st hd hB=>?_,λh S ⟨x,S',e,b,v,hqs,n⟩ c hc=>?_⟩
 ·subst e
  exact ⟨x,S',rfl,by rw[(st.keep q (by omega) (hd q (by simp))).1];exact b,v.frame st (λc hc=>hd c (by simp[hc])),hqs,cY n st.1⟩
 ·subst e
  rcases bB.1 hc with rfl|hc
  ·omega
  ·exact (v.lt c hc).2
theorem MH{K0:Hp→Prop}{fv:Value}{q:Nat}{l:List Ent}{T:List Nat}(f:Fit w0 h)(hq:w0.heap.size≤q)(hb:h.blk q=some [.slice none 0 0])(hl:l.length≤1000000000)(hqT:q∉T)
  (hit:∀g,ItV prog w0 fv (h.newLp g) T (sV l)) (hk:∀h3 x S',Fit w0 h3→bC 0 h h3 [q] (q::S')→h3.blk q=some [x]→Vec w0 h3 4 x l.length (ivs (kl l)) S'→K0 h3):
  iY prog w0 fv 1 (λb g args K=>Jr prog w0 b g K (ptr q) (args.getD 0 undef)) K0 [] h:=by
 have lq:=f.lt _ _ hb
 refine wS (xs:=sV l) (T:=T) 0 (fX _) f hit (λb g x K=>cA zE 3 λv=>bU w0 v (x.getD 0 undef) 3 λ_=>al w0 (ptr q) λv22=>au v 0 λv23=>al w0 v23 λv24=>aG w0 v 3 λv25=>dI [(0,1,false,v24),(1,3,true,v25)] zI λv26=>bI [(0,4,true,v26)] (aL zI 1) 1 4 λv27=>bD w0 4 56 v22 v27 λv28=>bO w0 (ptr q) v28 λ_=>fq b g none K)
  (λb g x K h1 hl hk=>wU hl hk) [q] (RI w0 h.next q l) (λ_ _ _=>False) (λi=>aap lq) (λo=>⟨λ_ _ _ _ c=>c,λ_ _ _ _ _ _ c=>c.elim,λ_ _ c=>c.elim⟩)
  ⟨_,[],rfl,hb,.nil,by simp,bF _⟩ (λb hb hbT=>by simp at hb;subst hb;exact hqT hbT) ?_ ?_ ?_ ?_
 ·intro y hy
  obtain ⟨x,hx,rfl⟩:=eB.1 hy
  exact ⟨rfl,by simp⟩
 ·rintro i y h1 S1 g1 K hi f1 ⟨x,S',e,b,v,hqs,n⟩ lb _ ends exits
  subst e
  unfold sV at hi
  rw[fV]at hi
  obtain ⟨z,hz,rfl⟩:=mu.1 hi
  have hil:=(cB.1 hz).1
  have hti:(l.take i).length=i:=by rw[dV];omega
  have ht1:l.take (i+1)=l.take i++[z]:=by rw[iH,hz];rfl
  simp only[tL]
  have fb:=f1.base
  refine fp fb rfl rfl fM ?_
  have sx:Step h1 (h1.new (ee z) 3) [] [h1.next]:=(Step.refl h1 [] (by simp)).new _ _
  have bx:(h1.new (ee z) 3).blk h1.next=some (ee z):=by simp
  have nx:h1.next<(h1.new (ee z) 3).next:=by simp
  have bq:(h1.new (ee z) 3).blk q=some [x]:=by rw[(sx.keep q (by omega) (by simp)).1];exact b
  have vx:=v.frame sx (by simp)
  have bsx:=sx.1
  generalize h1.new (ee z) 3=hx at *
  simp only[ptr]
  refine aq hq bq rfl ?_
  simp only[wd, wa]
  refine aq fb bx rfl ?_
  refine cO fb bx rfl ?_
  simp only[fg,dX,dJ,lE,zI,cU,fc]
  refine ⟨rfl,by simp,rfl,by simp,?_⟩
  have hsp:splice [.string (str z.k),.string .empty,.string .empty,.bool false] 1 (ee z)=iv (z.k,z):=rfl
  rw[hsp]
  refine jg (by omega) vx.gv rfl rfl (by omega) (by omega) (by omega) λx' h2 S2 g2 s2=>?_
  have hS':∀b,b∈S'→b<h1.next:=λb hb=>(v.lt b hb).2
  have b2:h2.blk q=some [x]:=by rw[(s2.keep q (by omega) hqs).1];exact bq
  have hq2:q∉S2:=λe=>by
   rcases (s2.own _ e).2 with r|r
   ·exact hqs r
   ·omega
  have s12:Step h1 h2 S' S2:=(sx.wide (T:=S') (T':=S') (by simp) (λb hb=>.inr ⟨hb,hS' b hb⟩)).trans s2
  have lq1:q<h1.next:=by omega
  have hxc:aE x'=true:=by obtain ⟨a,c,e⟩:=g2.slice;rw[e];rfl
  refine eH hq b2 (by simp) hxc ?_
  simp only[cU]
  have s3:Step h1 (h2.put q [x']) (q::S') (q::S2):=(s12.consR lq1).put (by simp) _
  have sp:Step h2 (h2.put q [x']) [q] [q]:=(Step.refl h2 [q] (by simp;have:=s2.1;omega)).put (by simp) _
  refine ends _ _ (s3.y 0) ⟨x',S2,rfl,by simp,?_,hq2,by have:=s3.1;omega⟩
  have g3:Vec w0 (h2.put q [x']) 4 x' _ _ S2:=g2.frame sp (by simpa using λb hb (e:b=q)=>hq2 (by rw[←e];exact hb))
  rw[hti]at g3
  rw[ht1,GC,aT,hti]
  have e4:ivs (kl (l.take i)++kl [z])=ivs (kl (l.take i))++iv (z.k,z):=by simp[ivs,kl]
  rw[e4]
  simpa using g3
 ·rintro h3 S2 f3 ys ⟨x,S',e,b,v,hqs,n⟩
  subst e
  have:(sV l).length=l.length:=by simp[sV]
  rw[this,dY (bF _)]at v
  exact hk h3 x S' f3 ys b v
 ·rintro o h3 S2 f3 ys c
  exact c.elim
def Ra(w0:World)(h:Hp)(p:Value×List Ent)(S:List Nat):Prop:=(∃n,Rn w0 h p.1 p.2 n S)∨(Rno w0 h p.1∧p.2=[])
theorem Ra.nj{p:Value×List Ent}{S:List Nat}(m:Ra w0 h p S):p.1≠junk:=by
 rcases m with ⟨n,m⟩|⟨m,-⟩
 ·exact m.nj
 ·exact m.nj
theorem Ra.isC{p:Value×List Ent}{S:List Nat}(m:Ra w0 h p S):aE p.1=true:=by
 rcases m with ⟨n,m⟩|⟨m,-⟩
 ·obtain ⟨p0,-,-,-,e,-⟩:=m;rw[e];rfl
 ·rcases m with e|⟨p0,e,-⟩ <;> rw[e] <;> rfl
theorem Ra.step{p:Value×List Ent}{S:List Nat}(m:Ra w0 h p S)(st:Step h h' [] []):Ra w0 h' p S:=by
 rcases m with ⟨n,m⟩|⟨m,e⟩
 ·exact .inl ⟨n,m.frame st (by simp)⟩
 ·exact .inr ⟨m.step st,e⟩
theorem Ra.it{hh:Hp}{p:Value×List Ent}{S T:List Nat}{q1 q2 q3:Nat}(m:Ra w0 hh p S)(b1:hh.blk q1=some [p.1])(b2:hh.blk q2=some [.string (str [])])(b3:hh.blk q3=some [.string (str [])])(w1:w0.heap.size≤q1)(w2:w0.heap.size≤q2)(w3:w0.heap.size≤q3)
  (hT:q1∈T∧q2∈T∧q3∈T∧∀b,b∈S→b∈T):ItV prog w0 (.func (.func qP) #[] #[ptr q1,ptr q2,ptr q3]) hh T (sV p.2):=by
 rcases m with ⟨n,m⟩|⟨m,e⟩
 ·have:=Ln (a:=[]) (b:=[]) b1 b2 b3 w1 w2 w3 m hT
  rw[Zh]at this
  exact this.v
 ·rw[e]
  exact (acf b1 w1 m).v
end
theorem LM{l:List Itm}(s:Srt l):srt l=l:=by
 have:∀(l acc:List Itm),Srt (acc++l)→iw acc l=acc++l:=by
  intro l
  induction l with
  |nil=>intro acc _;simp[iw]
  |cons x l ih=>
   intro acc h
   have ha:above acc x=true:=by
    unfold above
    split
    ·rfl
    ·rename_i y e
     exact (mo.1 h).2.2 y (List.mem_of_getLast? e) x (by simp)
   rw[iw,if_pos ha,ih (acc++[x]) (by simpa using h)]
   simp
 exact this l [] (by simpa using s)
def mgf(dr:Bool)(out:List Itm):List Ent:=(out.map (·.2)).filter λx=>!dr||!x.g
section
variable {w0:World}{h h':Hp}
theorem Ra.y{p:Value×List Ent}{S:List Nat}(m:Ra w0 h p S)(ys:bC 0 h h' [] []):Ra w0 h' p S:=(m.step ys.step:Ra w0 (h'.as h) p S)
theorem Y3{k0:Value→Value→Hp→Prop}{v x1:Value}{rs:List (Value×List Ent)}{hh:Hp}(hv:Sl w0 hh 1 v rs.length (rs.map (·.1)))(fh:Fit w0 hh)(hm:∀p,p∈rs→∃S,Ra w0 hh p S∧∀b,b∈S→b<hh.next)(hl:rs.length≤2000000)(hl2:∀p,p∈rs→p.2.length≤100000000)
  (hk:∀(h':Hp) (x5:Value) (ps:List (Value×List Itm)) (S5:List Nat),bC 0 hh h' [] S5→ps.map (·.2)=rs.map (λp=>kl p.2)→Vec w0 h' 1 x5 ps.length (ps.map (·.1)) S5→(∀p:Value×List Itm,p∈ps→Is w0 h' p.1 p.2)→k0 x1 x5 h'):∀(post pre:List (Value×List Ent)) (h1:Hp) (x5:Value) (ps:List (Value×List Itm)) (S5:List Nat),pre++post=rs→bC 0 hh h1 [] S5→
   ps.map (·.2)=pre.map (λp=>kl p.2)→Vec w0 h1 1 x5 ps.length (ps.map (·.1)) S5→(∀p:Value×List Itm,p∈ps→Is w0 h1 p.1 p.2∧∀b,b∈bL p.1→b<h1.next∧b∉S5)→
   pG prog w0 k0 (post.length+1) x1 x5 v (.int .i64 (rs.length:Int)) (.int .i64 (pre.length:Int)) h1:=by
 intro post
 induction post with
 |nil=>
  intro pre h1 x5 ps S5 he ys hps g hi
  have hpre:pre=rs:=by simpa using he
  subst hpre
  rw[cS,pG]
  simp only[wZ,wd, wa,dQ,decide_false]
  exact hk h1 x5 ps S5 ys hps g λp hp=>(hi p hp).1
 |cons x post ih=>
  intro pre h1 x5 ps S5 he ys hps g hi
  have hlen:pre.length+(post.length+1)=rs.length:=by rw[←he];simp
  have hpl:ps.length=pre.length:=by have:=congrArg List.length hps;simpa using this
  have hxr:x∈rs:=by rw[←he];simp
  have c1:decide ((pre.length:Int)<(rs.length:Int))=true:=decide_eq_true (by omega)
  have e6:=wrS pre x (by omega)
  have ys0:bC 0 hh h1 [] []:=ys.less (by simp)
  have v1:Sl w0 h1 1 v rs.length (rs.map (·.1)):=(hv.step fh ys0.step (by simp):Sl w0 (h1.as hh) 1 v rs.length (rs.map (·.1)))
  obtain ⟨M,mx,hML⟩:=hm x hxr
  have mx1:=mx.y ys0
  have hn01:=ys.next
  have hS5:=λb hb=>(g.lt b hb).2
  have hgx:(rs.map (·.1))[pre.length]?=some x.1:=by rw[←he];simp
  rw[bH,pG]
  simp only[wZ,wd, wa,c1]
  refine v1.one hgx ?_
  simp only[gG]
  refine ⟨by simp[aE],?_⟩
  have s4:Step h1 (h1.new [.slice none 0 0] 1) [] [h1.next]:=(Step.refl h1 [] (by simp)).new _ _
  have b4:(h1.new [.slice none 0 0] 1).blk h1.next=some [.slice none 0 0]:=by simp
  have n4:h1.next<(h1.new [.slice none 0 0] 1).next:=by simp
  have fb:w0.heap.size≤h1.next:=cY fh.base ys.next
  have em:ByteArray.empty=str ([]:Key):=rfl
  rw[em]
  generalize h1.new [.slice none 0 0] 1=h4 at *
  refine aA (Dh x.1 mx.nj mx.isC [] []) λr h5 ⟨r1,r2,r3,e,d1,d2,d3,d4,d5,d6,d7,d8,d9,s5⟩ f5=>?_
  subst e
  have s15:Step h1 h5 [] []:=(s4.less (T:=[]) (by simp)).trans s5
  have b5:h5.blk h1.next=some [.slice none 0 0]:=by rw[(s5.keep _ n4 (by simp)).1];exact b4
  have mx5:=mx1.step s15
  refine MH (T:=r1::r2::r3::M) (l:=x.2) f5 fb b5 (by have:=hl2 x hxr;omega) (λq=>?_) (λgl=>?_) λh6 y S6 f6 y6 b6 g6=>?_
  ·simp only[bB]at q
   rcases q with q|q|q|q
   ·omega
   ·omega
   ·omega
   ·have:=hML _ q;omega
  ·have yl:=(bC.refl 0 h5 [] (by simp)).newLp gl
   exact (mx5.y yl).it (q1:=r1) (q2:=r2) (q3:=r3) (T:=r1::r2::r3::M) d1 d2 d3 (by omega) (by omega) (by omega) ⟨by simp,by simp,by simp,λb hb=>by simp[hb]⟩
  ·have y16:bC 0 h1 h6 [] (h1.next::S6):=by
    have n15:=s15.1
    refine ⟨cY n15 y6.next,λb hb hs=>?_,λb hb=>⟨(y6.own b hb).1,.inr ?_⟩,λb hN hb=>?_⟩
    ·obtain ⟨z1,z2⟩:=y6.keep b (by omega) (by simp;omega)
     obtain ⟨z3,z4⟩:=s15.keep b hb (by simp)
     exact ⟨z1.trans z3,z2.trans z4⟩
    ·rcases (y6.own b hb).2 with q|q
     ·simp at q;omega
     ·omega
    ·rw[y6.lp b hN (by omega),s15.lp]
   refine aq fb b6 rfl ?_
   have gc:aE y=true:=by obtain ⟨a,c,e⟩:=g6.slice;rw[e];rfl
   have g56:Vec w0 h6 1 x5 ps.length (ps.map (·.1)) S5:=(g.frame (y16.less (T:=[]) (by simp)).step (by simp):Vec w0 (h6.as h1) 1 x5 ps.length (ps.map (·.1)) S5)
   refine lk (by have:=y16.next;omega) g56.gv gc (by omega) (by omega) λx6 h7 S7 g7 s7=>?_
   simp only[wd, wa,e6]
   have hS6:∀b,b∈S6→h1.next≤b:=λb hb=>by
    rcases (y16.own b (by simp[hb])).2 with q|q
    ·simp at q
    ·exact q
   have own7:∀b,b∈S7→b∈S5∨h6.next≤b:=λb hb=>(s7.own b hb).2
   have hn6:=y16.next
   refine ih (pre++[x]) h7 x6 (ps++[(y,kl x.2)]) S7 (by simpa using he) ?_ (by rw[eI,eI,hps];rfl) (by simpa using g7) ?_
   ·exact ys.trans (((y16.less (T:=[]) (by simp)).wide (T:=S5) (T':=S5) (by simp) (λb hb=>.inr ⟨hb,hS5 b hb⟩)).trans (s7.y 0))
   ·intro p hp
    rcases aS.1 hp with hp|hp
    ·obtain ⟨i1,i2⟩:=hi p hp
     have i3:Is w0 h6 p.1 p.2:=(i1.stepL (λb hb=>(i2 b hb).1) (y16.less (T:=[]) (by simp)).step (by simp):Sl w0 (h6.as h1) 4 p.1 p.2.length (ivs p.2))
     refine ⟨i3.stepL (λb hb=>cJ (i2 b hb).1 hn6) s7 (λb hb=>(i2 b hb).2),λb hb=>⟨cJ (cJ (i2 b hb).1 hn6) s7.1,λq=>?_⟩⟩
     rcases own7 b q with q|q
     ·exact (i2 b hb).2 q
     ·have:=(i2 b hb).1;omega
    ·simp at hp
     subst hp
     have hlt6:∀b,b∈bL y→b<h6.next∧b∉S5:=λb hb=>by
      rw[Vec.sblk_eq g6]at hb
      exact ⟨(g6.lt b hb).2,λq=>by have:=hS6 b hb;have:=hS5 b q;omega⟩
     have g6':Is w0 h6 y (kl x.2):=by
      have:=g6.sl
      rw[←il]at this
      exact this
     refine ⟨g6'.stepL (λb hb=>(hlt6 b hb).1) s7 (λb hb=>(hlt6 b hb).2),λb hb=>⟨cJ (hlt6 b hb).1 s7.1,λq=>?_⟩⟩
     rcases own7 b q with q|q
     ·exact (hlt6 b hb).2 q
     ·have:=(hlt6 b hb).1;omega
theorem Y6(dr:Bool)(l:List Itm)(x:Itm):mgf dr (l++[x])=mgf dr l++(if (!dr||!x.2.g)=true then [x.2] else []):=by
 unfold mgf
 rw[eI,re]
 congr 1
 simp[List.filter_cons]
theorem Y5(dr:Bool)(l:List Itm):(mgf dr l).length≤l.length:=by
 unfold mgf
 exact cY (xW _ _) (by simp)
theorem Y2{k4:Value→Hp→Prop}{v:Value}{dr:Bool}{out:List Itm}{hh:Hp}(hv:Is w0 hh v out)(fh:Fit w0 hh)(hl:out.length≤1000000000)
  (hk:∀h' x S',Step hh h' [] S'→Vec w0 h' 3 x (mgf dr out).length ((mgf dr out).flatMap ee) S'→k4 x h'):∀(post pre:List Itm) (h1:Hp) (x:Value) (S:List Nat),pre++post=out→Step hh h1 [] S→Vec w0 h1 3 x (mgf dr pre).length ((mgf dr pre).flatMap ee) S→
   lQ prog w0 k4 (post.length+1) (.bool dr) x v (.int .i64 (out.length:Int)) (.int .i64 (pre.length:Int)) h1:=by
 intro post
 induction post with
 |nil=>
  intro pre h1 x S he st g
  have hpre:pre=out:=by simpa using he
  subst hpre
  rw[cS,lQ]
  simp only[xb,wd, wa,dQ,decide_false]
  exact hk h1 x S st g
 |cons z post ih=>
  intro pre h1 x S he st g
  have hlen:pre.length+(post.length+1)=out.length:=by rw[←he];simp
  have hg:out[pre.length]?=some z:=by rw[←he];simp
  have c1:decide ((pre.length:Int)<(out.length:Int))=true:=decide_eq_true (by omega)
  have e6:=wrS pre z (by omega)
  have v1:Is w0 h1 v out:=hv.step fh st (by simp)
  have fb:w0.heap.size≤h1.next:=cY fh.base st.1
  have hml:=Y5 dr pre
  have hS:=λb hb=>(g.lt b hb).2
  rw[bH,lQ]
  simp only[xb,wd, wa,c1]
  refine v1.elem (by omega) (qC hg) ?_
  refine fp fb rfl rfl xJ ?_
  have sx:Step h1 (h1.new (iv z) 4) [] [h1.next]:=(Step.refl h1 [] (by simp)).new _ _
  have bx:(h1.new (iv z) 4).blk h1.next=some (iv z):=by simp
  have nx:h1.next<(h1.new (iv z) 4).next:=by simp
  have gx:=g.frame sx (by simp)
  have stx:Step hh (h1.new (iv z) 4) [] S:=st.trans ((sx.less (T:=[]) (by simp)).keepS hS)
  have fbx:w0.heap.size≤(h1.new (iv z) 4).next:=cY fb sx.1
  generalize h1.new (iv z) 4=h2 at *
  have sn:=Y6 dr pre z
  have app:(!dr||!z.2.g)=true→aG w0 (.pointer (some ⟨h1.next,1,none⟩)) 3 (λv51=>bI [(0,3,true,v51)] (aL [.string .empty,.string .empty,.bool false] 1) 1 3 λv52=>bD w0 3 40 x v52 λv53=>lQ prog w0 k4 (post.length+1) (.bool dr) v53 v (.int .i64 (out.length:Int)) (.int .i64 (((pre++[z]).length:Nat):Int))) h2:=by
   intro hq
   rw[if_pos hq]at sn
   refine gN (cs:=iv z) (e:=ee z.2) fb bx rfl ?_
   refine jg fbx gx.gv rfl rfl (by omega) (by omega) (by omega) λx' h3 S3 g3 s3=>?_
   refine ih (pre++[z]) h3 x' S3 (by simpa using he) (stx.trans s3) ?_
   rw[sn,aT,fD]
   simpa using g3
  have skip:(!dr||!z.2.g)=false→lQ prog w0 k4 (post.length+1) (.bool dr) x v (.int .i64 (out.length:Int)) (.int .i64 (((pre++[z]).length:Nat):Int)) h2:=by
   intro hq
   rw[if_neg (by simp[hq]),dG]at sn
   refine ih (pre++[z]) h2 x S (by simpa using he) stx ?_
   rw[sn]
   exact gx
  cases dr with
  |false=>
   simp only[e6,wd, wa]
   exact app rfl
  |true=>
   simp only[wd, wa]
   refine aq (o:=1+2) (v:=.bool z.2.g) fb bx rfl ?_
   cases hzg:z.2.g with
   |false=>
    simp only[e6,wd, wa]
    exact app (by rw[hzg];rfl)
   |true=>
    simp only[e6,wd, wa]
    exact skip (by rw[hzg];rfl)
theorem ZE{v:Value}{rs:List (Value×List Ent)}(dr:Bool)(hv:Sl w0 h 1 v rs.length (rs.map (·.1)))(hm:∀p,p∈rs→∃S,Ra w0 h p S∧∀b,b∈S→b<h.next)(hs:∀p:Value×List Ent,p∈rs→p.2.Pairwise λx y=>blt x.k y.k=true)(hl:rs.length≤2000000)(hl2:(rs.map λp=>p.2.length).sum≤100000000):
  aj prog w0 AP [v,.bool dr] h λr h'=>∃out S',IsM (rs.map λp=>kl p.2) out∧out.length≤(rs.map λp=>p.2.length).sum∧Vec w0 h' 3 r (mgf dr out).length ((mgf dr out).flatMap ee) S'∧Step h h' [] S':=by
 refine aj.of_fit (by simpa using hv.junk) λf=>PF (by simpa using hv.junk) ?_
 simp only[Ck,hv.lenv,wd, wa]
 refine ⟨rs.length+1,Y3 hv f hm hl (λp hp=>?_) (λh1 x5 ps S5 ys hps g hi=>?_) rs [] h _ [] [] rfl (bC.refl 0 h [] (by simp)) rfl .nil (by simp)⟩
 ·have:=qo (λq:Value×List Ent=>q.2.length) hp
  omega
 ·have fZ:(ps.map λq=>q.2.length)=rs.map λp=>p.2.length:=by
   have:=congrArg (List.map List.length) hps
   simpa[gT,nm,il]using this
  have hpl:ps.length=rs.length:=by have:=congrArg List.length hps;simpa using this
  have hmap:(ps.map λq=>srt q.2)=rs.map λp=>kl p.2:=by
   have e1:(ps.map λq=>srt q.2)=(ps.map (·.2)).map srt:=by simp[gT,nm]
   rw[e1,hps,gT]
   exact tQ λp hp=>LM (jm (hs p hp))
  refine aA (CY ⟨g.sl,hi⟩ (by omega) (by rw[fZ];exact hl2)) λr h2 ⟨out,S',im,hol,go,s2⟩ f2=>?_
  rw[hmap]at im
  rw[fZ]at hol
  simp only[go.sl.lenv,wd, wa]
  refine ⟨out.length+1,Y2 go.sl f2 (by omega) (λh3 x3 S3 s3 g3=>?_) out [] h2 _ [] rfl (.refl _ _ (by simp)) .nil⟩
  unfold ie
  simp only[aC,aU]
  have y03:bC 0 h h3 [] S3:=(ys.less (T:=[]) (by simp)).trans (((s2.less (T:=[]) (by simp)).trans s3).y 0)
  exact ⟨by simpa using g3.gv.nj,out,S3,im,hol,g3,y03.cut⟩
end
