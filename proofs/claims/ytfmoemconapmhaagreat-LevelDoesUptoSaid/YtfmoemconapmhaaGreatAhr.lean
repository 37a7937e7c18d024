/- Appending one element; loops that read a slice and write a vector. -/
import Derived.Test.YtfmoemconapmhaaGreatAh30
set_option linter.all false
namespace Go.Proofs.YtfmoemconapmhaaGreat.Ah
open Go
section
section
variable {w0:World}{h h':Hp}{s n:Nat}{x:Value}{cs e z:List Value}{S:List Nat}
theorem NI{K:av}(he:e.length=s)(hz:z.length=s)(hk:K (.slice (some ⟨h.next,0,none⟩) 1 1) (h.new e s)):bI [(0,s,true,.agg e.toArray)] (aL z 1) 1 s K h:=by
 have hz1:aL z 1=z:=by simp[aL]
 rw[i9,lE,dJ,hz1]
 refine ⟨by simpa using he,by omega,?_⟩
 rw[C2 z e.toArray.toList (by simp;omega)]
 exact hk
theorem ln{K:av}{v z1:Value}(hv:aE v=true)(hk:K (.slice (some ⟨h.next,0,none⟩) 1 1) (h.new [v] 1)):bI [(0,1,false,v)] (aL [z1] 1) 1 1 K h:=by
 have hz1:aL [z1] 1=[z1]:=rfl
 rw[i9,dX,dJ,hz1]
 exact ⟨hv,by simp,hk⟩
theorem jg{by_:Nat}{K:av}(hf:w0.heap.size≤h.next)(v:GV w0 h s x n cs S)(he:e.length=s)(hz:z.length=s)(hs0:0<s)(hb:(n+1)*by_≤140737488355328)(hn:n+1≤140737488355328)
  (hk:∀x' h' S',Vec w0 h' s x' (n+1) (cs++e) S'→Step h h' S S'→K x' h'):bI [(0,s,true,.agg e.toArray)] (aL z 1) 1 s (λv=>bD w0 s by_ x v K) h:=by
 refine NI he hz ?_
 have s0:Step h (h.new e s) [] [h.next]:=(Step.refl h [] (by simp)).new _ _
 refine ua (m:=1) (by simp;omega) (v.frame s0 (by simp)) (by omega) rfl (iD hf (by omega)) (by omega) hb hn hs0 λx' h2 S' v' st=>?_
 exact hk x' h2 S' v' ((s0.less (T:=[]) (by simp)).wide (T:=S) (T':=S) (by simp) (λb hb=>.inr ⟨hb,(v.lt b hb).2⟩) |>.trans st)
theorem lk{by_:Nat}{K:av}{v z1:Value}(hf:w0.heap.size≤h.next)(g:GV w0 h 1 x n cs S)(hv:aE v=true)(hb:(n+1)*by_≤140737488355328)(hn:n+1≤140737488355328)
  (hk:∀x' h' S',Vec w0 h' 1 x' (n+1) (cs++[v]) S'→Step h h' S S'→K x' h'):bI [(0,1,false,v)] (aL [z1] 1) 1 1 (λv=>bD w0 1 by_ x v K) h:=by
 refine ln hv ?_
 have s0:Step h (h.new [v] 1) [] [h.next]:=(Step.refl h [] (by simp)).new _ _
 refine ua (m:=1) (by simp;omega) (g.frame s0 (by simp)) (by omega) rfl (iD hf (by simp)) (by simp) hb hn (by omega) λx' h2 S' v' st=>?_
 exact hk x' h2 S' v' ((s0.less (T:=[]) (by simp)).wide (T:=S) (T':=S) (by simp) (λb hb=>.inr ⟨hb,(g.lt b hb).2⟩) |>.trans st)
theorem Step.keepS(a:Step h h' [] [])(hS:∀b,b∈S→b<h.next):Step h h' S S:=a.wide (by simp) (λb hb=>.inr ⟨hb,hS b hb⟩)
theorem Step.claim{T:List Nat}(a:Step h h' S [])(hT:∀b,b∈T→b<h'.next∧h.next≤b):Step h h' S T:=⟨a.1,a.2,λb hb=>⟨(hT b hb).1,.inr (hT b hb).2⟩,a.4⟩
theorem Step.base{S':List Nat}(a:Step h h' S S')(hf:w0.heap.size≤h.next):w0.heap.size≤h'.next:=cY hf a.1
theorem Sl.elem{i:Nat}{ys:List Value}{k:IntKind}{K:av}(v:Sl w0 h s x n ys)(hi:i<n)(he:(ys.drop (i*s)).take s=e)(hk:K (.agg e.toArray) h):aJ s x (.int k (i:Int)) (λp=>aG w0 p s K) h:=by
 obtain ⟨a,c,rfl⟩:=v.slice
 refine oT v.src hi ?_
 rw[he]
 exact hk
theorem Sl.place{i:Nat}{ys:List Value}{k:IntKind}{K:av}(v:Sl w0 h s x n ys)(hi:i<n)(he:(ys.drop (i*s)).take s=e)
  (hk:∀p,(∀h' K',Sl w0 h' s x n ys→K' (.agg e.toArray) h'→aG w0 p s K' h')→K p h):aJ s x (.int k (i:Int)) K h:=by
 obtain ⟨a,c,rfl⟩:=v.slice
 rcases v.src.2 with ⟨q,-⟩|⟨-,ad,rfl,-⟩
 ·omega
 ·refine ⟨ad,n,c,k,i,rfl,rfl,by omega,by omega,hk _ λh' K' v' k'=>?_⟩
  have:=v'.elem (k:=k) hi he k'
  obtain ⟨ad',n',c',k2,j,e1,e2,-,-,r⟩:=this
  cases e1
  cases e2
  exact r
theorem Sl.lenv{ys:List Value}(v:Sl w0 h s x n ys):aM x=some (.int .i64 (n:Int)):=by
 obtain ⟨a,c,rfl⟩:=v.slice
 rfl
theorem Sl.one{i:Nat}{ys:List Value}{u:Value}{k:IntKind}{K:av}(v:Sl w0 h 1 x n ys)(hv:ys[i]?=some u)(hk:K u h):aJ 1 x (.int k (i:Int)) (λp=>al w0 p K) h:=by
 obtain ⟨a,c,rfl⟩:=v.slice
 exact VC v.src (by simpa using v.len) hv hk
theorem GV.nj(g:GV w0 h s x n cs S):x≠junk:=by obtain ⟨a,c,e⟩:=g.slice;simp[e]
theorem GV.isC(g:GV w0 h s x n cs S):aE x=true:=by obtain ⟨a,c,e⟩:=g.slice;rw[e];rfl
theorem GV.sbk(g:GV w0 h s x n cs S):bL x=S:=by
 rcases g with v|⟨q,rfl,rfl,-⟩
 ·exact v.sblk_eq
 ·rfl
theorem Sl.isC{ys:List Value}(v:Sl w0 h s x n ys):aE x=true:=by obtain ⟨a,c,e⟩:=v.slice;rw[e];rfl
theorem fp{K:av}{k m:Nat}(hf:w0.heap.size≤h.next)(hz:z.length=m)(hl:e.length=m)(hzc:∀v,v∈z→aE v=true)(hk:K (.pointer (some ⟨h.next,0,none⟩)) (h.new e k))(hu:e.all fj=false:=by first|rfl|(simp[fj];done)):
  cA z k (λb=>bU w0 b (.agg e.toArray) m λ_=>K b) h:=ND hf hz hl hzc hk hu
end
end
section
def ItV(P:Program)(w0:World)(fv:Value)(hh:Hp)(T:List Nat)(xs:List (List Value)):Prop:=
 ∀(y:Value) (N:Nat) (S:List Nat) (C:Nat→Hp→List Nat→Prop) (D:Hp→List Nat→Prop),y≠junk→aE y=true→N≤hh.next→(∀i,fB w0 N hh.next (C i))→fB w0 N hh.next D→
  (∀i x h1 S1,xs[i]?=some x→Fit w0 h1→C i h1 S1→dM P w0 y x (λv h2=>∃S2,bC N h1 h2 S1 S2∧((v=.bool true∧C (i+1) h2 S2)∨(v=.bool false∧D h2 S2))) h1)→
  C 0 hh S→(∀b,b∈S→b∉T)→rI P w0 fv [y] (λ_ h2=>∃S2,bC N hh h2 S S2∧(C xs.length h2 S2∨D h2 S2)) hh
theorem ItC.v{P:Program}{w0:World}{fv:Value}{hh:Hp}{T:List Nat}{xs:List (List Value)}(it:ItC P w0 fv hh T xs):ItV P w0 fv hh T xs:=
 λy N S C D hy _ hN kC kD hstep h0 hd=>it y N S C D hy hN kC kD hstep h0 hd
theorem wS{P:Program}{w0:World}{fv:Value}{np:Nat}{round:Nat→Lp→List Value→av→Hp→Prop}{K0:Hp→Prop}{Ks:List (Option Nat×(Hp→Prop))}{h:Hp}{xs:List (List Value)}{T:List Nat}
  (N:Nat) (hN:N≤h.next) (f:Fit w0 h) (it:∀g,ItV P w0 fv (h.newLp g) T xs) (body:Nat→Lp→List Value→av→Hp→Prop) (hround:∀b g x K h1,h1.lp b=some (g,.ready)→body b g x K (h1.setLp b g .busy)→round b g x K h1)
  (S:List Nat) (C:Nat→Hp→List Nat→Prop) (D:Option Nat→Hp→List Nat→Prop) (kC:∀i,fB w0 N h.next (C i)) (kD:∀o,fB w0 N h.next (D o)) (h0:C 0 h S) (hd:∀b,b∈S→b∉T)
  (hx:∀x,x∈xs→x.length=np∧∀v,v∈x→v≠junk)
  (hr:∀i x h1 S1 g K,xs[i]?=some x→Fit w0 h1→C i h1 S1→h1.lp h.next=some (g,.busy)→h.next<h1.next→
   (∀h2 S2,bC N h1 h2 S1 S2→C (i+1) h2 S2→fq h.next g none K h2)→(∀o h2 S2,bC N h1 h2 S1 S2→D o h2 S2→fq h.next g (some o) K h2)→body h.next g x K h1)
  (k0:∀h3 S2,Fit w0 h3→bC N h h3 S S2→C xs.length h3 S2→K0 h3)
  (ks:∀o h3 S2,Fit w0 h3→bC N h h3 S S2→D o h3 S2→∃p,p∈Ks∧p.1=o∧p.2 h3):iY P w0 fv np round K0 Ks h:=by
 refine ⟨λg hy=>?_⟩
 let L:Hp→Prop:=λh1=>h.next<h1.next∧∀c,N≤c→c<h.next→h1.lp c=h.lp c
 have hLs:∀h1 h2,L h1→h1.next≤h2.next→(∀c,c<h.next→h2.lp c=h1.lp c)→L h2:=λh1 h2 a n e=>⟨cJ a.1 n,λc h3 h4=>by rw[e c h4];exact a.2 c h3 h4⟩
 have key:=it g (.func (.yield h.next) #[] #[]) (h.next+1) S (λi h1 S1=>C i h1 S1∧h1.lp h.next=some (g,.ready)∧L h1) (λh1 S1=>∃o,D o h1 S1∧h1.lp h.next=some (g,.done o)∧L h1)
  (by simp[junk]) rfl (bF _) (λi=>⟨λh1 lp S1 e ⟨a,b,c⟩=>⟨(kC i).ins h1 lp S1 (λb hb=>e b (by omega)) a,by show lp h.next=_;rw[e _ (by omega)];exact b,hLs h1 _ c (bF _) λc hc=>e c (by omega)⟩,
   λh1 h2 S1 T1 T2 f1 ⟨a,b,c⟩ st hdj hB=>⟨(kC i).step h1 h2 S1 T1 T2 f1 a st hdj (λb hb=>yd (hB b hb)),by rw[st.lp];exact b,hLs h1 _ c st.1 λc hc=>by rw[st.lp]⟩,λh1 S1 ⟨a,b,c⟩=>(kC i).lt h1 S1 a⟩)
  ⟨λh1 lp S1 e ⟨o,a,b,c⟩=>⟨o,(kD o).ins h1 lp S1 (λb hb=>e b (by omega)) a,by show lp h.next=_;rw[e _ (by omega)];exact b,hLs h1 _ c (bF _) λc hc=>e c (by omega)⟩,
   λh1 h2 S1 T1 T2 f1 ⟨o,a,b,c⟩ st hdj hB=>⟨o,(kD o).step h1 h2 S1 T1 T2 f1 a st hdj (λb hb=>yd (hB b hb)),by rw[st.lp];exact b,hLs h1 _ c st.1 λc hc=>by rw[st.lp]⟩,λh1 S1 ⟨o,a,b,c⟩=>(kD o).lt h1 S1 a⟩
  (λi x h1 S1 hi f1 ⟨c1,c2,c3⟩=>?_) ⟨(kC 0).ins { h with next:=h.next+1 } (h.newLp g).lp S (λb hb=>by rw[mX,if_neg (by omega)]) ((kC 0).step h _ S [] [] f h0 ⟨jc _,λ_ _ _=>⟨rfl,rfl⟩,λb hb=>by simp at hb,rfl⟩ (by simp) (by simp)),by simp,by simp,λc h1 h2=>by rw[mX,if_neg (by omega)]⟩ hd
 ·refine D2 key λ_ h2 ⟨S2,ys,hk⟩ f2=>?_
  have hY:L h2→∀s,bC N h (h2.setLp h.next g s) S S2:=λl s=>⟨by have:=ys.next;simp at this ⊢;omega,λb hb hs=>ys.keep b (by simp;omega) hs,λb hb=>⟨(ys.own b hb).1,by
   rcases (ys.own b hb).2 with q|q
   ·exact .inl q
   ·right;simp at q;omega⟩,λb h3 h4=>by rw[gu,if_neg (by omega)];exact l.2 b h3 h4⟩
  rcases hk with ⟨c1,c2,c3⟩|⟨o,c1,c2,c3⟩
  ·exact .inl ⟨c2,k0 _ S2 (f2.setLp f.base c3.1) (hY c3 _) ((kC _).ins h2 _ S2 (λb hb=>by rw[if_neg (by omega)]) c1)⟩
  ·obtain ⟨p,hp,hpo,hpk⟩:=ks o _ S2 (f2.setLp f.base c3.1) (hY c3 .mark) ((kD _).ins h2 _ S2 (λb hb=>by rw[if_neg (by omega)]) c1)
   exact .inr ⟨p,hp,by rw[hpo];exact c2,hpk⟩
 ·obtain ⟨hxl,hxj⟩:=hx x (cK hi)
  refine .inr ⟨h.next,rfl,hy x h1 _ hxl hxj c2 ?_⟩
  refine hround _ _ _ _ _ c2 (hr i x (h1.setLp h.next g .busy) S1 g _ hi (f1.setLp f.base c3.1) ((kC i).ins h1 _ S1 (λb hb=>by rw[if_neg (by omega)]) c1) (by simp) c3.1 (λh2 S2 ys c4=>?_) (λo h2 S2 ys c4=>?_))
  ·refine ⟨by rw[ys.lp h.next hN c3.1];simp,S2,⟨ys.next,ys.keep,ys.own,λb h3 h4=>?_⟩,.inl ⟨rfl,(kC _).ins h2 _ S2 (λb hb=>by rw[if_neg (by omega)]) c4,by simp[kP],cJ c3.1 ys.next,λc h3 h4=>?_⟩⟩
   ·rw[gu,if_neg (by omega),ys.lp b (by omega) h4,gu,if_neg (by omega)]
   ·rw[gu,if_neg (by omega),ys.lp c h3 (by have:=c3.1;simp;omega),gu,if_neg (by omega)]
    exact c3.2 c h3 h4
  ·refine ⟨by rw[ys.lp h.next hN c3.1];simp,S2,⟨ys.next,ys.keep,ys.own,λb h3 h4=>?_⟩,.inr ⟨rfl,o,(kD _).ins h2 _ S2 (λb hb=>by rw[if_neg (by omega)]) c4,by simp[kP],cJ c3.1 ys.next,λc h3 h4=>?_⟩⟩
   ·rw[gu,if_neg (by omega),ys.lp b (by omega) h4,gu,if_neg (by omega)]
   ·rw[gu,if_neg (by omega),ys.lp c h3 (by have:=c3.1;simp;omega),gu,if_neg (by omega)]
    exact c3.2 c h3 h4
theorem wU{w0:World}{b s n:Nat}{g:Lp}{z:List Value}{y:Value}{h1:Hp}{k:Value→Hp→Prop}(hr:h1.lp b=some (g,.ready))
  (hk:cA z s (λv=>bU w0 v y n λ_=>k v) (h1.setLp b g .busy)):cA z s (λv=>bU w0 v y n λ_=>mz b g (k v)) h1:=by
 obtain ⟨hc,q,o,cs,vs,e1,e2,e3,e4,e5,e6,hk⟩:=hk
 exact ⟨hc,q,o,cs,vs,e1,e2,e3,e4,e5,e6,hr,hk⟩
theorem bC.newLp{h h':Hp}{N:Nat}{S S':List Nat}(y:bC N h h' S S')(g:Lp):bC N h (h'.newLp g) S S' :=
 ⟨tW y.next,y.keep,λb hb=>⟨Nat.lt_succ_of_lt (y.own b hb).1,(y.own b hb).2⟩,λb h1 h2=>by
  rw[mX,if_neg (by have:=y.next;omega)]
  exact y.lp b h1 h2⟩
end
section
def mC{α:Type}(w0:World)(s:Nat)(D:Dec α):Dec (Value×List α):=⟨λp=>[p.1],λp=>kT w0 s p.1 p.2.length (p.2.flatMap D.e)∧∀a,a∈p.2→D.ok a,λp=>(p.2.map D.b).sum+1⟩
section
open Go.ChangeShapes
theorem QV{α:Type}{D:Dec α}{P:Program}{w0:World}{t e:TypeId}{s:Nat}(ht:P.underlying t=some (.slice e))(hc:P.cellsOf t=1)(hs:0<s)(hD:D.Of P w0 e s):(mC w0 s D).Of P w0 t 1:=by
 refine ⟨hc,λ_=>rfl,λp hp v hv=>?_,λ{H enc fuel cs x} hx hp=>?_⟩
 ·simp only[mC,List.mem_singleton]at hv
  subst hv
  obtain ⟨a,c,e,-⟩:=hp.1.sl
  exact ⟨hp.1.cl,by rw[e];rfl⟩
 ·rcases DataW.trod_slice ht hx with ⟨rfl,rfl⟩|⟨a,n,c,elems,rest,m,rfl,rfl,rfl,hb,hl,hm,hlen,hel,hrest,-⟩
  ·exact ⟨(.slice none 0 0,[]),rfl,⟨⟨⟨none,0,rfl,bF _,by decide⟩,λ_ _=>.snil,λh f=>by simp[Src]⟩,by simp⟩,by simp[mC,Rows.uptoBulk]⟩
  ·have hcu:c<bA:=by
    have hm':c≤9223372036854775807:=hm
    show c<18446744073709551616
    omega
   have ha:a.block<w0.heap.size∨c=0:=by
    by_cases h0:c=0
    ·exact .inr h0
    ·left
     have hrl:=(hrest rfl).1
     have hlen':0<(elems.length+rest.length)*P.cellsOf e:=by rw[hD.size];exact Nat.mul_pos (by omega) hs
     exact hp (.cell a.block (a.off+0)) (by
      simp only[aS,MemPlace.row,eB,rg]
      exact .inl ⟨0,hlen',rfl⟩)
   rw[hD.size]at hel
   have each:∀i,i<n→∃y,elems[i]?=some y∧∃b,D.ok b∧D.b b≤Rows.uptoBulk y.1∧∀j,j<s→w0.cell? (a.add (i*s+j))=(D.e b)[j]?:=by
    intro i hi
    have h2:=hel i hi
    rw[bW (by omega:i<elems.length)]at h2 ⊢
    rw[tY]at h2
    obtain ⟨cs,h3,h4⟩:=h2
    obtain ⟨b,rfl,o1,b1⟩:=hD.opens h4 (λp hq=>hp p (by simp only[aS,mi];exact .inr ⟨_,.inl (jw _),hq⟩))
    obtain ⟨-,-,h5⟩:=World.cells?_some h3
    refine ⟨_,rfl,b,o1,b1,λj hj=>?_⟩
    rw[←h5 j hj]
    congr 1
    obtain ⟨bl,o,sp⟩:=a
    unfold Addr.add
    split <;> split <;> split <;> simp_all <;> omega
   have all:∀k,k≤n→∃xs:List α,xs.length=k∧(∀b,b∈xs→D.ok b)∧(xs.map D.b).sum≤Rows.uptoBulkAll ((elems.take k).map (·.1))∧∀j,j<k*s→w0.cell? (a.add j)=(xs.flatMap D.e)[j]?:=by
    intro k
    induction k with
    |zero=>intro _;exact ⟨[],rfl,by simp,by simp,λj hj=>by omega⟩
    |succ k ih=>
     intro hk
     obtain ⟨xs,l1,o1,b1,c1⟩:=ih (by omega)
     obtain ⟨y,hy,b,o2,b2,c2⟩:=each k (by omega)
     have hfl:(xs.flatMap D.e).length=k*s:=by
      have:∀l:List α,(l.flatMap D.e).length=l.length*s:=by
       intro l
       induction l with
       |nil=>simp
       |cons x l ih=>simp[hD.len,ih,fW];omega
      rw[this,l1]
     refine ⟨xs++[b],by simp[l1],λb' hb'=>?_,?_,λj hj=>?_⟩
     ·rcases aS.1 hb' with q|q
      ·exact o1 _ q
      ·simp at q;subst q;exact o2
     ·have ht:elems.take (k+1)=elems.take k++[y]:=by
       rw[iH,hy];rfl
      have happ:∀l m:List (DataW H),Rows.uptoBulkAll (l++m)=Rows.uptoBulkAll l+Rows.uptoBulkAll m:=by
       intro l m
       induction l with
       |nil=>simp[Rows.uptoBulkAll]
       |cons x l ih=>simp[Rows.uptoBulkAll,ih];omega
      rw[ht,eI,eI,happ]
      simp only[gA,List.map_nil,List.sum_append,kY,List.sum_nil,Rows.uptoBulkAll]
      omega
     ·rw[fW,nw]at hj
      rw[fD]
      by_cases hjk:j<k*s
      ·rw[c1 j hjk,jv (by omega)]
      ·rw[i6 (by omega),hfl]
       have:=c2 (j-k*s) (by omega)
       rw[show k*s+(j-k*s)=j by omega]at this
       simpa using this
   obtain ⟨xs,l1,o1,b1,c1⟩:=all n (bF _)
   have hfl:(xs.flatMap D.e).length=n*s:=by
    have:∀l:List α,(l.flatMap D.e).length=l.length*s:=by
     intro l
     induction l with
     |nil=>simp
     |cons x l ih=>simp[hD.len,ih,fW];omega
    rw[this,l1]
   refine ⟨(.slice (some a) n c,xs),rfl,⟨?_,o1⟩,?_⟩
   ·show kT w0 s (.slice (some a) n c) xs.length (xs.flatMap D.e)
    rw[l1]
    refine ⟨⟨_,_,rfl,hl,hcu⟩,λnx ι=>by
     by_cases hlt:a.block<w0.heap.size
     ·exact .sext a n c hlt hl hcu
     ·have hc0:=ha.resolve_left hlt
      subst hc0
      have hn0:n=0:=by omega
      subst hn0
      exact .sempty a a (by omega),λh f=>⟨bF _,?_⟩⟩
    by_cases h0:n=0
    ·subst h0;left;exact ⟨rfl,fu (by simpa using hfl)⟩
    ·right
     have hpos:0<n*s:=Nat.mul_pos (by omega) hs
     obtain ⟨q1,q2,q3⟩:=Qz hpos c1 hfl f
     refine ⟨by omega,a,rfl,q3,λ_ v hv=>?_⟩
     obtain ⟨b,hb,hv⟩:=mi.1 hv
     exact hD.cl b (o1 b hb) v hv
   ·rw[dY (by omega)]at b1
    simp only[mC,Rows.uptoBulk]
    omega
end
end
