/- Soundness of kq: all operations. -/
import Derived.Test.YtfmoemconapmhaaGreatAhd
import Derived.LoopNIn
set_option linter.all false
namespace Go.Proofs.YtfmoemconapmhaaGreat.Ah
open Go
section
section
variable {P:Program}{w0:World}{ι:Inj}{h:Hp}{w:World}{K:av}
theorem jM.of{B nx:Nat}{ι:Inj}{n:Nat}{t:Fr}{ρ:Operand→Value}(hev:∀x,ev n t x≠junk→aH B nx ι (ev n t x) (ρ x))(o:Option Operand):jM B nx ι (o.map (ev n t)) (o.map ρ):=by
 cases o with
 |none=>exact .inl ⟨rfl,rfl⟩
 |some x=>exact .inr ⟨_,_,rfl,rfl,hev x⟩
theorem rC{B nx:Nat}{ι:Inj}{n:Nat}{t:Fr}{ρ:Operand→Value}(hev:∀x,ev n t x≠junk→aH B nx ι (ev n t x) (ρ x))(l:List Operand)(hj:∀v,v∈l.map (ev n t)→v≠junk):cE B nx ι (l.map (ev n t)) (l.map ρ):=by
 induction l with
 |nil=>exact .nil
 |cons x l ih=>exact .cons (hev x (hj _ (by simp))) (ih λv hv=>hj v (by simp[eB]at hv ⊢;exact .inr hv))
theorem Zk{B nx:Nat}{ι:Inj}{n:Nat}{t:Fr}{ρ:Operand→Value}{fs:Array Field}(hev:∀x,ev n t x≠junk→aH B nx ι (ev n t x) (ρ x))(hok:∀(i:Nat) f,fs[i]?=some f→okT P f.type=true):
  ∀(l:List (Nat×Operand)),(∀p,p∈l→p.1<fs.size)→qb B nx ι (λi=>fs[i]?.map λf=>(f.offset,szT P f.type)) (l.map (Bp P n t fs)) (l.map λ(i,x)=>(i,ρ x)):=by
 intro l
 induction l with
 |nil=>intro _;trivial
 |cons p l ih=>
  intro hl
  obtain ⟨i,x⟩:=p
  have hi:i<fs.size:=hl (i,x) (by simp)
  have e:fs[i]?=some fs[i]:=by simp[hi]
  simp only[gA,qb,Bp,e]
  exact ⟨by simp[hi],λha=>Bm (hok i _ e) ha,hev x,ih λp hp=>hl p (by simp[hp])⟩
theorem I5{B nx:Nat}{ι:Inj}{n:Nat}{t:Fr}{ρ:Operand→Value}{e:TypeId}(hev:∀x,ev n t x≠junk→aH B nx ι (ev n t x) (ρ x))(hok:okT P e=true):
  ∀(l:List (Nat×Operand)),qb B nx ι (λi=>some (i*szT P e,szT P e)) (l.map (wL P n t e)) (l.map λ(i,x)=>(i,ρ x)):=by
 intro l
 induction l with
 |nil=>trivial
 |cons p l ih=>
  simp only[gA,qb,wL]
  exact ⟨by first|rfl|trivial,λha=>Bm hok ha,hev p.2,ih⟩
theorem abs{fs:Array Field}(hok:∀(i:Nat) f,fs[i]?=some f→okT P f.type=true)(w:World):
  (fs.mapM λf=>do pure (f.offset,←sizeOf f.type):Sem (Array (Nat×Nat))).run P w=.ok (fs.map λf=>(f.offset,szT P f.type)) w:=by
 have key:∀(l:List Field),(∀f,f∈l→okT P f.type=true)→(l.mapM λf=>do pure (f.offset,←sizeOf f.type):Sem (List (Nat×Nat))).run P w=.ok (l.map λf=>(f.offset,szT P f.type)) w:=by
  intro l
  induction l with
  |nil=>intro _;simp
  |cons f l ih=>
   intro hl
   obtain ⟨ti,z,d,hti,_,_,_,hs,_⟩:=fT (hl f (by simp))
   have ih':=ih (λg hg=>hl g (by simp[hg]))
   simp only[List.mapM_cons,eE,gO hti,eC,fY,ih',hs,gA]
 rw[Array.mapM_eq_mapM_toList]
 simp only[Sem.run_map]
 rw[key fs.toList (λf hf=>by
  obtain ⟨j,hj,he⟩:=xL (xM.1 hf)
  exact hok j f (by simp[hj,he]))]
 simp only[eC]
 congr 1
 apply kt
 simp
theorem F8{v:Value}(hf:cV v=true):v≠junk:=by intro e;rw[e]at hf;simp[cV,junk]at hf
theorem yx{f:FuncId}(hok:qq P f=true)(args:Array Value)(w:World):(callFunc f args).run P w=.ok (.enter f args) w:=by
 unfold qq at hok
 split at hok
 ·rename_i fn hfn
  simp only[iE,xN,beq_eq_false_iff_ne]at hok
  have hb:fn.body.isNone=false:=by cases hb:fn.body <;> simp_all
  simp only[callFunc,eE,run_program,eC,hfn]
  rw[if_neg (by simpa using hok.2),if_neg (by simp[hb])]
  rfl
 ·simp at hok
def iP(B nx:Nat)(ι:Inj):List Value→List Value→Prop
 |[],[]=>True
 |v::l,v'::l'=>(v≠junk→aH B nx ι v v')∧iP B nx ι l l'
 |_,_=>False
theorem iP.of{B nx:Nat}{ι:Inj}{n:Nat}{t:Fr}{ρ:Operand→Value}(hev:∀x,ev n t x≠junk→aH B nx ι (ev n t x) (ρ x)):∀(l:List Operand),iP B nx ι (l.map (ev n t)) (l.map ρ)
 |[]=>trivial
 |x::l=>⟨hev x,iP.of hev l⟩
theorem iP.one{B nx:Nat}{ι:Inj}{x:Value}{l:List Value}(ha:iP B nx ι [x] l):∃x',l=[x']∧(x≠junk→aH B nx ι x x'):=by
 cases l with
 |nil=>exact ha.elim
 |cons x' l=>cases l with
  |nil=>exact ⟨x',rfl,ha.1⟩
  |cons _ _=>exact ha.2.elim
theorem iP.two{B nx:Nat}{ι:Inj}{x y:Value}{l:List Value}(ha:iP B nx ι [x,y] l):∃x' y',l=[x',y']∧(x≠junk→aH B nx ι x x')∧(y≠junk→aH B nx ι y y'):=by
 cases l with
 |nil=>exact ha.elim
 |cons x' l=>
  obtain ⟨y',rfl,hy⟩:=iP.one ha.2
  exact ⟨x',y',rfl,ha.1,hy⟩
theorem iP.flats{B nx:Nat}{ι:Inj}:∀{l l':List Value},iP B nx ι l l'→(∀y,y∈l→cV y=true)→l'=l
 |[],[],_,_=>rfl
 |v::l,v'::l',ha,hf=>by
  rw[yZ (hf v (by simp)) (ha.1 (F8 (hf v (by simp)))),iP.flats ha.2 (λy hy=>hf y (by simp[hy]))]
 |[],_::_,ha,_=>ha.elim
 |_::_,[],ha,_=>ha.elim
theorem ad9{b:Builtin}{tl:List TypeId}{vs vs':List Value}{ty:TypeId}{cb:Array Bool}(r:aR w0 ι h w)(ha:iP w0.heap.size h.next ι vs vs')(hv:CA P w0 b tl vs K h):
  ld P w0 ι h K ((builtin b tl.toArray ty cb vs'.toArray).run P w):=by
 unfold CA at hv
 split at hv
 ·-- append
  rename_i T T2 x y
  obtain ⟨x',y',rfl,hx,hy⟩:=ha.two
  split at hv
  ·rename_i hT hT2
   split at hv
   ·rename_i hok
    exact (Do hT hT2 (by simp) hok.1 hok.2 r hx hy hv).op
   ·exact hv.elim
  ·rename_i hT hT2
   split at hv
   ·rename_i hok
    exact (Do hT hT2 (by simp) hok.1 hok.2 r hx hy hv).op
   ·exact hv.elim
  ·rename_i hT hT2
   split at hv
   ·rename_i hok
    exact (Ng hT hT2 hok.1 hok.2 r hx hy hv).op
   ·exact hv.elim
  ·exact hv.elim
 ·-- copy
  rename_i T tr x y
  obtain ⟨x',y',rfl,hx,hy⟩:=ha.two
  split at hv
  ·rename_i e hT
   split at hv
   ·exact (QR (T2:=0) hT (by assumption) r hx hy hv _ (by simp)).op
   ·exact hv.elim
  ·exact hv.elim
 ·-- cap
  rename_i T x
  obtain ⟨x',rfl,hx⟩:=ha.one
  split at hv
  ·rename_i e hT
   split at hv
   ·exact (Qy hT r hx hv).op
   ·exact hv.elim
  ·exact hv.elim
 ·-- clear
  rename_i T x
  obtain ⟨x',rfl,hx⟩:=ha.one
  split at hv
  ·rename_i e hT
   split at hv
   ·exact (Q7 hT (by assumption) r hx hv).op
   ·exact hv.elim
  ·exact hv.elim
 ·-- len
  rename_i T x
  obtain ⟨x',rfl,hx⟩:=ha.one
  split at hv
  ·rename_i hT
   refine dK.op (s:=Builtin.len_ #[T] ty #[x']) (jq r (λv e=>?_) hv)
   split at e
   ·rename_i s
    cases e
    obtain rfl:=(hx (by simp[junk])).string_inv
    exact ⟨_,by simp[Builtin.len_,dC hT,goInt],.int _ _⟩
   ·simp at e
  ·rename_i e hT
   refine dK.op (s:=Builtin.len_ #[T] ty #[x']) (jq r (λv e=>?_) hv)
   split at e
   ·rename_i a n c
    cases e
    have hx:=hx (by simp[junk])
    have:∃a' c',x'=.slice a' n c':=by
     rcases hx.slice_inv with ⟨_,rfl,_,rfl⟩|⟨_,_,_,_,rfl,_⟩ <;> exact ⟨_,_,rfl⟩
    obtain ⟨a',c',rfl⟩:=this
    exact ⟨_,by simp[Builtin.len_,dC hT,goInt],.int _ _⟩
   ·simp at e
  ·rename_i len e hT
   refine dK.op (s:=Builtin.len_ #[T] ty #[x']) (w:=w) ?_
   have:(Builtin.len_ #[T] ty #[x']).run P w=.ok (.int .i64 (len:Int)) w:=by simp[Builtin.len_,dC hT,goInt]
   rw[this]
   exact .mk r (.int _ _) hv
  ·exact hv.elim
 ·-- max
  rename_i x y l
  have key:∀(v:Value),iL pp x (y::l)=some v→∃v',(Builtin.max_ tl.toArray ty vs'.toArray).run P w=.ok v' w∧aH w0.heap.size h.next ι v v':=by
   intro v e
   obtain ⟨h1,h2,h3⟩:=Gv (P:=P) (w:=w) (g:=Builtin.max2) (λx y v e=>Y0 e) (y::l) x v e (by simp)
   rw[ha.flats h1]
   exact ⟨v,h2,mJ h3 _ _⟩
  exact dK.op (s:=Builtin.max_ tl.toArray ty vs'.toArray) (jq r key hv)
 ·-- min
  rename_i x y l
  have key:∀(v:Value),iL lI x (y::l)=some v→∃v',(Builtin.min_ tl.toArray ty vs'.toArray).run P w=.ok v' w∧aH w0.heap.size h.next ι v v':=by
   intro v e
   obtain ⟨h1,h2,h3⟩:=Gv (P:=P) (w:=w) (g:=Builtin.min2) (λx y v e=>Y8 e) (y::l) x v e (by simp)
   rw[ha.flats h1]
   exact ⟨v,h2,mJ h3 _ _⟩
  exact dK.op (s:=Builtin.min_ tl.toArray ty vs'.toArray) (jq r key hv)
 ·exact hv.elim
set_option maxHeartbeats 1000000 in
theorem aea{n:Nat}{o:Oper}{t:Fr}{ρ:Operand→Value}(r:aR w0 ι h w)(hev:∀x,ev n t x≠junk→aH w0.heap.size h.next ι (ev n t x) (ρ x))(hfun:∀f,ρ (.func f)=.func (.func f) #[] #[])
  (hv:kq P w0 n o t K h):ld P w0 ι h K ((execOp ρ o).run P w):=by
 unfold kq at hv
 have hflat:∀(x:Operand),cV (ev n t x)=true→ρ x=ev n t x:=λx hf=>yZ hf (hev x (F8 hf))
 have hjv:∀x,K (ev n t x) h→ld P w0 ι h K (.ok (.value (ρ x)) w):=λx hk=>by
  by_cases hj:ev n t x=junk
  ·exact ⟨ι,h,_,Ext.refl _ _,r,.inl hj,hk⟩
  ·exact ⟨ι,h,_,Ext.refl _ _,r,.inr (hev x hj),hk⟩
 unfold execOp
 split at hv
 all_goals try simp only[*]
 ·exact hjv _ hv
 ·exact hjv _ hv
 ·-- pick
  rename_i c a b _
  obtain ⟨q,e,hk⟩:=hv
  have hc:ρ c=.bool q:=by rw[hflat c (by rw[e];rfl),e]
  simp only[eE,hc,asBool,fY,eC]
  cases q
  ·exact hjv _ hk
  ·exact hjv _ hk
 ·-- alloc
  split at hv
  ·exact (YE (by assumption) r hv).op
  ·exact hv.elim
 ·-- box
  split at hv
  ·exact (NC (by assumption) r (hev _) hv).op
  ·exact hv.elim
 ·-- build
  rename_i T parts _
  split at hv
  case isFalse=>exact hv.elim
  rename_i hT
  obtain ⟨ti,z,d,hti,hz,hd,hzs,hs,hby,hzt,hcst,hagg,hzr⟩:=fT hT
  split at hv
  ·rename_i fs hfs
   split at hv
   case isFalse=>exact hv.elim
   rename_i hall
   have hok:∀(i:Nat) f,fs[i]?=some f→okT P f.type=true:=λi f hf=>iF.1 hall.1 f (by
    obtain ⟨hi,rfl⟩:=gI.1 hf
    simp)
   obtain ⟨l,l',h1,h2,h3,h4,hk⟩:=yY (w0:=w0) (ι:=ι) (h:=h) (place:=λi=>fs[i]?.map λf=>(f.offset,szT P f.type)) _ (parts.toList.map λ(i,x)=>(i,ρ x)) (dP P T) z.cells
    (Zk hev hok _ (λp hp=>by simpa using iF.1 hall.2 p hp)) (by rw[hzt];exact nO hcst) (by rw[hzt];exact lw hcst) hv
   refine dK.op ?_
   have hrun:(Instr.build T (parts.map λx=>(x.1,ρ x.2))).run P w=.ok (.agg l') w:=by
    have hm:=abs (P:=P) hok w
    have hpl:(λi:Nat=>(fs.map λf:Field=>(f.offset,szT P f.type))[i]?)=λi:Nat=>fs[i]?.map λf:Field=>(f.offset,szT P f.type):=by
     funext i
     simp
    simp only[Instr.build,eE,hzr,eC,dC hfs,hm,hpl]
    have:(parts.map λx=>(x.1,ρ x.2)).toList=parts.toList.map λ(i,x)=>(i,ρ x):=by simp
    rw[this,h1]
    rfl
   rw[hrun]
   exact .mk r (.agg _ _ h2.toArray.1 h2.toArray.2 (λi v hv=>h3 v (by have:=cK (l:=l) (i:=i) (a:=v) (by simpa using hv);exact this))) hk
  ·rename_i len e hfs
   split at hv
   case isFalse=>exact hv.elim
   rename_i hoe
   obtain ⟨ti2,_,_,hti2,_,_,_,hs2,_⟩:=fT hoe
   obtain ⟨l,l',h1,h2,h3,h4,hk⟩:=yY (w0:=w0) (ι:=ι) (h:=h) (place:=λi=>some (i*szT P e,szT P e)) _ (parts.toList.map λ(i,x)=>(i,ρ x)) (dP P T) z.cells
    (I5 hev hoe _) (by rw[hzt];exact nO hcst) (by rw[hzt];exact lw hcst) hv
   refine dK.op ?_
   have hrun:(Instr.build T (parts.map λx=>(x.1,ρ x.2))).run P w=.ok (.agg l') w:=by
    simp only[Instr.build,eE,hzr,eC,dC hfs,gO hti2]
    have:(parts.map λx=>(x.1,ρ x.2)).toList=parts.toList.map λ(i,x)=>(i,ρ x):=by simp
    rw[this,←hs2,h1]
    rfl
   rw[hrun]
   exact .mk r (.agg _ _ h2.toArray.1 h2.toArray.2 (λi v hv=>h3 v (by have:=cK (l:=l) (i:=i) (a:=v) (by simpa using hv);exact this))) hk
  ·exact hv.elim
 ·-- buildSlice
  rename_i T len parts _
  split at hv
  case h_2=>exact hv.elim
  rename_i e hT
  split at hv
  case isFalse=>exact hv.elim
  rename_i hoe
  obtain ⟨hoe,hsz,hlen⟩:=hoe
  obtain ⟨ti,z,d,hti,hz,hd,hzs,hs,hby,hzt,hcst,hagg,hzr⟩:=fT hoe
  have hzc:∀v,v∈aL (dP P e) len→kE v=true:=λv hv=>hcst v (by rw[hzt]at hv;exact mN hv)
  obtain ⟨l,l',h1,h2,h3,h4,hk⟩:=yY (w0:=w0) (ι:=ι) (h:=h) (place:=λi=>some (i*szT P e,szT P e)) _ (parts.toList.map λ(i,x)=>(i,ρ x)) (aL (dP P e) len) (aL (dP P e) len).toArray
   (I5 hev hoe _) (nO hzc) (lw hzc) hv
  refine dK.op ?_
  obtain ⟨ι',he,hr,_,hsl⟩:=tk (e:=e) (s:=szT P e) r h3 h2
  have hrun:(Instr.buildSlice T len (parts.map λx=>(x.1,ρ x.2))).run P w=.ok (.slice (some ⟨w.heap.size,0,none⟩) len len) (w.alloc (.cells l' e)):=by
   rw[hs]at hsz h1
   have hpt:(parts.map λx=>(x.1,ρ x.2)).toList=parts.toList.map λ(i,x)=>(i,ρ x):=by simp
   have hzz:((Array.range (len*ti.size)).map (z.cells[· % z.cells.size]!))=(aL (dP P e) len).toArray:=by
    have:=xK (z:=z.cells) (n:=len)
    apply kt
    rw[hzt,←this,hzs]
   by_cases h0:len*ti.size=0
   ·have hz0:(aL (dP P e) len).toArray = #[]:=by
     have:(aL (dP P e) len).length=0:=by rw[rb,hzt];simpa[hzs]using h0
     rw[fu this]
    rw[hz0]at h1
    simp only[Instr.buildSlice,eE,dC hT,eC,gO hti]
    rw[if_neg (by omega)]
    have hr0:∀f:Nat→Value,(Array.range 0).map f = #[]:=λf=>by simp
    simp only[h0,if_true,fY,eE,eC,hr0,hpt,h1,newRow,run_newObj]
    rfl
   ·simp only[Instr.buildSlice,eE,dC hT,eC,gO hti]
    rw[if_neg (by omega)]
    simp only[if_neg h0,fY,eE,eC,hzr,hzz,hpt,h1,newRow,run_newObj]
    rfl
  rw[hrun]
  exact ⟨ι',_,_,he,hr,.inr (hsl len len (bF _) (by unfold bA;omega)),hk⟩
 ·-- load
  split at hv
  case isFalse=>exact hv.elim
  rename_i hT
  split at hv
  ·exact (Yl hT (by assumption) r (hev _) hv).op
  ·exact (Yk hT (by simpa using (by assumption:¬ fl P _=true)) r (hev _) hv).op
 ·-- store
  split at hv
  case isFalse=>exact hv.elim
  rename_i hT
  split at hv
  ·exact adq hT r (hev _) (hev _) hv
  ·exact adp hT (by simpa using (by assumption:¬ fl P _=true)) r (hev _) (hev _) hv
 ·-- nilCheck
  rename_i x _
  obtain ⟨hform,hk⟩:=hv
  rcases hform with ⟨ad,e⟩|⟨f,a,b,e⟩|⟨b,e⟩
  ·have hx:=hev x (by rw[e];simp[junk])
   rw[e]at hx hk
   obtain ⟨a',e'⟩:=eM.of hx
   rw[e']at hx ⊢
   exact ⟨ι,h,_,Ext.refl _ _,r,.inr hx,hk⟩
  ·have hx:=hev x (by rw[e];simp[junk])
   rw[e]at hx hk
   have:∃a' b',ρ x=.func (.func f) a' b':=by
    generalize ρ x=y at hx
    cases hx
    exact ⟨_,_,rfl⟩
   obtain ⟨a',b',e'⟩:=this
   rw[e']at hx ⊢
   exact ⟨ι,h,_,Ext.refl _ _,r,.inr hx,hk⟩
  ·have hx:=hev x (by rw[e];simp[junk])
   rw[e]at hx hk
   have e':ρ x=.func (.yield (ι b).β) #[] #[]:=hx.yld_inv.1
   rw[e']at hx ⊢
   exact ⟨ι,h,_,Ext.refl _ _,r,.inr hx,hk⟩
 ·-- binOp
  rename_i op T x y T2 _
  have pl:∀(o:Option Value),(∀v,o=some v→(binOp op T (ρ x) (ρ y)).run P w=.ok v w∧cV v=true∧(∀c,ρ x≠.agg c)∧ρ x≠.nilIface)→aa o K h→
    ld P w0 ι h K ((do pure (Next.value (←(do eqGuard op T x y (ρ x) (ρ y);binOp op T (ρ x) (ρ y)))):Sem Next).run P w):=by
   intro o ho hp
   refine dK.op (jq r (λv e=>?_) hp)
   obtain ⟨g1,g2,g3,g4⟩:=ho v e
   exact ⟨v,by simp only[eE,SK g3 g4,eC,g1],mJ g2 _ _⟩
  have scal:∀v,ah op (ev n t x) (ev n t y)=some v→(binOp op T (ρ x) (ρ y)).run P w=.ok v w∧cV v=true∧(∀c,ρ x≠.agg c)∧ρ x≠.nilIface:=by
   intro v e
   obtain ⟨f1,f2,g1,g2⟩:=Nq (P:=P) (w:=w) T e
   rw[hflat x f1,hflat y f2]
   exact ⟨g1,g2,λc e=>by rw[e]at f1;simp[cV]at f1,λe=>by rw[e]at f1;simp[cV]at f1⟩
  split at hv
  ·exact pl _ scal hv
  ·exact pl _ scal hv
  ·rename_i hT
   refine pl _ (λv e=>?_) hv
   obtain ⟨f1,f2,g1,g2⟩:=Nt (P:=P) (w:=w) hT e
   rw[hflat x f1,hflat y f2]
   exact ⟨g1,g2,λc e=>by rw[e]at f1;simp[cV]at f1,λe=>by rw[e]at f1;simp[cV]at f1⟩
  ·rename_i hT
   refine pl _ (λv e=>?_) hv
   obtain ⟨g1,g2,a,g3⟩:=Nv (P:=P) (w:=w) hT (hev x) (hev y) e
   refine ⟨g1,g2,?_,?_⟩ <;> simp[g3]
  ·rename_i hT
   refine pl _ (λv e=>?_) hv
   obtain ⟨g1,g2,a,p,q,g3⟩:=Nw (P:=P) (w:=w) hT (hev x) (hev y) e
   refine ⟨g1,g2,?_,?_⟩ <;> simp[g3]
  ·rename_i hT
   refine pl _ (λv e=>?_) hv
   obtain ⟨g1,g2,g3⟩:=Nu (P:=P) (w:=w) hT (hev x) (hev y) e
   rcases g3 with ⟨a,p,q,g3⟩|g3
   ·refine ⟨g1,g2,?_,?_⟩ <;> simp[g3]
   ·refine ⟨g1,g2,?_,?_⟩ <;> simp[g3]
  ·rename_i hT
   obtain ⟨xs,ys,q,ex,ey,fx,fy,hb,hg,hk⟩:=hv
   have rx:ρ x=.agg xs:=F7 fx (by have:=hev x (by rw[ex];simp[junk]);rwa [ex]at this)
   have ry:ρ y=.agg ys:=F7 fy (by have:=hev y (by rw[ey];simp[junk]);rwa [ey]at this)
   refine dK.op ?_
   have hg':(eqGuard op T x y (ρ x) (ρ y)).run P w=.ok () w:=by
    have:=hg w
    rw[ex,ey]at this
    rw[rx,ry]
    exact this
   rw[ex,ey]at hb
   simp only[eE,hg',eC]
   rw[rx,ry,hb w]
   exact .mk r (.bool _) hk
  ·exact hv.elim
 ·-- unOp
  rename_i op T x _
  refine dK.op (jq r (λv e=>?_) hv)
  obtain ⟨f1,g1,g2⟩:=ad6 (P:=P) (w:=w) e
  rw[hflat x f1]
  exact ⟨v,g1,mJ g2 _ _⟩
 ·-- convert
  rename_i src dst x _
  split at hv
  ·rename_i k0 k hs hd
   refine dK.op (jq r (λv e=>?_) hv)
   obtain ⟨f1,g1,g2⟩:=QQ (P:=P) (w:=w) hs hd e
   rw[hflat x f1]
   exact ⟨v,g1,mJ g2 _ _⟩
  ·rename_i hs hd
   refine dK.op (jq r (λv e=>?_) hv)
   obtain ⟨f1,g1,g2⟩:=ads (P:=P) (w:=w) hs hd e
   rw[hflat x f1]
   exact ⟨v,g1,mJ g2 _ _⟩
  ·rename_i e hs hd
   split at hv
   ·rename_i he
    exact (Nm hs he hd r (hev x) hv).op
   ·exact hv.elim
  ·rename_i e hs hd
   split at hv
   ·rename_i he
    exact (ab1 hs hd he r (hev x) hv).op
   ·exact hv.elim
  ·rename_i e e2 hs hd
   split at hv
   ·rename_i he
    split at hv
    ·rename_i hsd
     have hsd:src=dst:=by simpa using hsd
     subst hsd
     exact (acz hs he r (hev x) hv).op
    ·exact hv.elim
   ·exact hv.elim
  ·exact hv.elim
 ·-- makeFunc
  rename_i k first cap _
  obtain ⟨hj,hk⟩:=hv
  have h1:=rC hev first.toList (λv hv=>hj v (aS.2 (.inl hv)))
  have h2:=rC hev cap.toList (λv hv=>hj v (aS.2 (.inr hv)))
  refine dK.op (w:=w) ?_
  have hrun:(Instr.makeFunc (.func k) (first.map ρ) (cap.map ρ)).run P w=.ok (.func (.func k) (first.toList.map ρ).toArray (cap.toList.map ρ).toArray) w:=by
   have e1:first.map ρ=(first.toList.map ρ).toArray:=by apply kt;simp
   have e2:cap.map ρ=(cap.toList.map ρ).toArray:=by apply kt;simp
   rw[e1,e2]
   rfl
  rw[hrun]
  exact .mk r (.func _ _ _ _ _ h1.toArray.1 h2.toArray.1 h1.toArray.2 h2.toArray.2 ⟨k,rfl⟩) hk
 ·-- makeSlice
  split at hv
  ·rename_i e hT
   split at hv
   ·exact (Y9 hT (by assumption) r (hev _) (hev _) hv).op
   ·exact hv.elim
  ·exact hv.elim
 ·-- slice
  rename_i T x lo hi mx _
  split at hv
  ·rename_i hT
   split at hv
   ·rename_i hmx
    have hmx:mx=none:=by simpa using hmx
    subst hmx
    refine dK.op (jq r (λv e=>?_) hv)
    obtain ⟨f1,g1,g2⟩:=adt (P:=P) (w:=w) (w0:=w0) (h:=h) (ι:=ι) hT (.of hev lo) (.of hev hi) e
    rw[hflat x f1]
    exact ⟨v,g1,mJ g2 _ _⟩
   ·exact hv.elim
  ·rename_i e hT
   split at hv
   ·exact (ac0 hT (by assumption) r (hev _) (.of hev _) (.of hev _) (.of hev _) hv).op
   ·exact hv.elim
  ·rename_i len e hT
   split at hv
   ·rename_i hoe
    have hmx:mx=none:=by simpa using hoe.2
    subst hmx
    exact (Ni hT hoe.1 r (hev _) (.of hev _) (.of hev _) hv).op
   ·exact hv.elim
  ·exact hv.elim
 ·-- fieldAddr
  split at hv
  ·rename_i fs hS
   split at hv
   ·rename_i fd hf
    split at hv
    ·rename_i hok
     exact (MX hS hf hok.1 hok.2 r (hev _) hv).op
    ·exact hv.elim
   ·exact hv.elim
  ·exact hv.elim
 ·-- field
  split at hv
  ·rename_i fs hS
   split at hv
   ·rename_i fd hf
    split at hv
    ·exact dK.op (jq r (λv e=>Tl hS hf (by assumption) (hev _) e) hv)
    ·exact hv.elim
   ·exact hv.elim
  ·exact hv.elim
 ·-- indexAddr
  split at hv
  ·rename_i e hT
   split at hv
   ·exact (VB hT (by assumption) r (hev _) (hev _) hv).op
   ·exact hv.elim
  ·rename_i len e hT
   split at hv
   ·exact (VA hT (by assumption) r (hev _) (hev _) hv).op
   ·exact hv.elim
  ·exact hv.elim
 ·-- index
  rename_i T x i _
  split at hv
  ·rename_i hT
   refine dK.op (jq r (λv e=>?_) hv)
   obtain ⟨f1,f2,g1,g2⟩:=adr (P:=P) (w:=w) hT e
   rw[hflat x f1,hflat i f2]
   exact ⟨v,g1,mJ g2 _ _⟩
  ·rename_i len e hT
   split at hv
   ·exact dK.op (jq r (λv e=>Nh hT (by assumption) (hev _) (hev _) e) hv)
   ·exact hv.elim
  ·exact hv.elim
 ·-- extract
  exact dK.op (jq r (λv e=>SU (hev _) e) hv)
 ·-- call
  rename_i c _
  split at hv
  ·-- a builtin
   rename_i b hc
   have hb:=ad9 (b:=b) (tl:=c.argTypes.toList) (ty:=o.type) (cb:=c.args.map λ|.const _=>true|_=>false) r (iP.of hev c.args.toList) hv
   have hca:(c.args.toList.map ρ).toArray=c.args.map ρ:=by apply kt;simp
   rw[hca]at hb
   simp only[eE,resolve,hc,fY,eC,invoke]
   exact hb
  ·-- a function
   rename_i f hc
   split at hv
   ·rename_i hok
    have hargs:=rC hev c.args.toList hv.1
    simp only[eE,resolve,hc,hfun,Deferred.ofValue,fY,eC,invoke,yx hok]
    refine ⟨_,r,?_,hv⟩
    simpa using hargs
   ·simp only[eE,resolve,hc,hfun,Deferred.ofValue,fY,eC,invoke]
    unfold ovL at hv
    split at hv
    ·rename_i x y hxy
     obtain ⟨o1,o2,e1,e2,e3⟩:∃o1 o2,c.args.toList=[o1,o2]∧ev n t o1=x∧ev n t o2=y:=by
      generalize c.args.toList=l at hxy
      cases l with
      |nil=>simp at hxy
      |cons a l=>cases l with
       |nil=>simp at hxy
       |cons b l=>cases l with
        |nil=>simp at hxy;exact ⟨a,b,rfl,hxy.1,hxy.2⟩
        |cons _ _=>simp at hxy
     have hca:c.args = #[o1,o2]:=by apply kt;simpa using e1
     subst e2 e3
     rw[hca]
     simpa using YU r (hev o1) (hev o2) hv
    ·exact hv.elim
  ·-- a function value
   rename_i fo _ hc
   rcases hv with ⟨f,fi,ca,e,hok,hcall⟩|⟨b,e,hcall⟩
   rotate_left
   ·have hf:=hev fo (by rw[e];simp[junk])
    rw[e]at hf
    have e':ρ fo=.func (.yield (ι b).β) #[] #[]:=hf.yld_inv.1
    have hargs:=rC hev c.args.toList hcall.1
    obtain ⟨g,tmps,as,bd,q1,q2⟩:=hcall.2 ι w (c.args.map ρ) r (by simpa using hargs)
    simp only[eE,resolve,hc,e',Deferred.ofValue,fY,eC,invoke,Array.empty_append,q1]
    exact q2
   have hf:=hev fo (by rw[e];simp[junk])
   rw[e]at hf
   have:∃fi' ca',ρ fo=.func (.func f) fi' ca'∧cE w0.heap.size h.next ι fi.toList fi'.toList∧cE w0.heap.size h.next ι ca.toList ca'.toList:=by
    generalize ρ fo=y at hf
    cases hf with
    |func _ _ _ f' c' g1 g2 g3 g4 _=>exact ⟨f',c',rfl,cE.of_array g1 g3,cE.of_array g2 g4⟩
   obtain ⟨fi',ca',e',h1,h2⟩:=this
   have hargs:=rC hev c.args.toList (λv hv=>hcall.1 v (aS.2 (.inl (aS.2 (.inr hv)))))
   simp only[eE,resolve,hc,e',Deferred.ofValue,fY,eC,invoke,yx hok]
   refine ⟨_,r,?_,hcall⟩
   have:=(h1.append hargs).append h2
   simpa using this
  ·exact hv.elim
 ·exact hv.elim
end
end
section
structure ai(x:Value)(want:Bool)(m:av→Hp→Prop)(K:av)(h:Hp):Prop where
 fit:x≠junk∧x≠unk
 yes:x=.bool want→m K h
 no:x≠.bool want→K undef h
def oQ(n:Nat)(all:List Oper)(t:Fr)(j:Nat):Value:=
 match (all[j]?).bind (·.dst) with
 |some d=>ev n t (.tmp d)
 |none=>undef
noncomputable def tG(P:Program)(w0:World)(n:Nat)(all:List Oper)(o:Oper)(t:Fr)(K:av)(h:Hp):Prop:=
 Option.rec (motive:=λ_=>Prop) (kq P w0 n o t K h) (λg=>ai (oQ n all t g.1) g.2 (kq P w0 n o t) K h) o.guard
theorem aeb(P:Program)(w0:World)(n:Nat)(all:List Oper)(o:Oper)(t:Fr)(K:av)(h:Hp):tG P w0 n all o t K h=(match o.guard with
 |none=>kq P w0 n o t K h
 |some (j,want)=>ai (oQ n all t j) want (kq P w0 n o t) K h):=by
 unfold tG
 cases o.guard <;> rfl
noncomputable def tF(P:Program)(w0:World)(n:Nat)(all:List Oper):List Oper→Fr→(Fr→Hp→Prop)→Hp→Prop
 |[],t,K,h=>K t h
 |o::os,t,K,h=>tG P w0 n all o t (λv h=>tF P w0 n all os (iW t o.dst v) K h) h
def Fw(ro:Option Nat):Fence:={ Fence.wide with round:=ro }
section
variable {P:Program}{w0:World}
variable {ι:Inj}{h:Hp}{w:World}{K:av}
theorem YJ{n:Nat}{o:Oper}{t:Fr}(hv:kq P w0 n o t K h):∀c,o.op≠.defer c:=by
 intro c e
 unfold kq at hv
 rw[e]at hv
 exact hv
theorem ad7{ro:Option Nat}{ops:Array Oper}{Q:Exit→Act→World→Prop}{o:Oper}{a:Act}{next:Act→World→Prop}{res:Result Next}(ho:ld P w0 ι h K res)
  (hn:∀ι' h' v v' w',Ext ι h ι' h'→aR w0 ι' h' w'→(v=junk∨aH w0.heap.size h'.next ι' v v')→K v h'→next (a.put o.dst v') w'):o.uponIn (Fw ro) 0 P a next Q res:=by
 have hund:∀nx ι',aH w0.heap.size nx ι' undef undef:=λnx ι'=>.tuple _ _ rfl (λi v v' h=>by simp at h)
 cases res with
 |halt x w'=>exact ho.elim
 |ok x w' =>
  cases x with
  |value v' =>
   obtain ⟨ι',h',v,g1,g2,g3,g4⟩:=ho
   exact hn ι' h' v v' w' g1 g2 g3 g4
  |skip=>
   obtain ⟨ι',h',g1,g2,g3⟩:=ho
   exact hn ι' h' undef undef w' g1 g2 (.inr (hund _ _)) g3
  |enter f args' =>
   obtain ⟨args,g1,g2,g3⟩:=ho
   refine ⟨λhd=>by simp[Fw,Fence.wide]at hd,?_⟩
   have:=(g3.2 ι w' args' g1 g2).mono (R':=λ
    |.returned v,w''=>next (a.put o.dst v) w''
    |.panicked chain,w''=>Q (.panic chain) a w''
    |.outgrown,_=>LetsOut Q) (by
     rintro e w'' ⟨v',ι',h',v,rfl,q1,q2,q3,q4⟩
     exact hn ι' h' v v' w'' q1 q2 (.inr q3) q4)
   exact this
  |round l f tmps as bd=>
   refine ⟨λhd=>by simp[Fw,Fence.wide]at hd,?_⟩
   have:=RoundIn.mono (R':=λ
    |.returned v,w''=>next (a.put o.dst v) w''
    |.panicked chain,w''=>Q (.panic chain) a w''
    |.outgrown,_=>LetsOut Q) ho (by
     rintro e w'' ⟨v',ι',h',v,rfl,q1,q2,q3,q4⟩
     exact hn ι' h' v v' w'' q1 q2 (.inr q3) q4)
   exact this
  |_=>exact ho.elim
theorem aeg{o:Oper}(hg:o.guard=none)(y:Nat→Option Bool):Region.wanted o y=true:=by simp[Region.wanted,hg]
theorem V7{n:Nat}{ops:Array Oper}{t:Fr}{a:Act}{j:Nat}{want:Bool}(f:dF w0.heap.size h.next ι n t a.tmps)(hj:oQ n ops.toList t j≠junk)(hu:oQ n ops.toList t j≠unk):
  (yielded ops a.tmps j==some want)=true↔oQ n ops.toList t j=.bool want:=by
 unfold oQ at hj hu ⊢
 unfold yielded
 have e:(ops.toList[j]?).bind (·.dst)=(ops[j]?).bind (·.dst):=by simp
 rw[e]at hj hu ⊢
 cases hd:(ops[j]?).bind (·.dst) with
 |none=>simp[undef]
 |some d=>
  rw[hd]at hj hu
  simp only[ev]at hj hu ⊢
  split at hj
  case isFalse=>exact absurd rfl hj
  rename_i hdn
  rw[if_pos hdn]
  have hr:=f.2 d hdn hj
  have hdl:d<a.tmps.size:=by rw[f.1];exact hdn
  have hgd:a.tmps.getD d undef=a.tmps[d]:=by simp[Array.getD,hdl]
  rw[hgd]at hr
  simp only[je,CF hdl]
  generalize a.tmps[d]=y at hr
  generalize t d=x at hr hj hu
  rw[if_pos hdn]at hu
  cases hr <;> first|exact absurd rfl hu|simp
theorem C7{ro:Option Nat}{n:Nat}{ops:Array Oper}{Q:Exit→Act→World→Prop}{o:Oper}{t:Fr}{a:Act}{next:Act→World→Prop}(r:aR w0 ι h w)(f:dF w0.heap.size h.next ι n t a.tmps)
  (hv:tG P w0 n ops.toList o t K h)
  (hn:∀ι' h' v v' w',Ext ι h ι' h'→aR w0 ι' h' w'→(v=junk∨aH w0.heap.size h'.next ι' v v')→K v h'→next (a.put o.dst v') w'):
  if Region.wanted o (yielded ops a.tmps) then o.wpIn (Fw ro) 0 P a w next Q else (∀f,o.about P w a.eval=some f→(Fw ro).fn f)∧next (a.put o.dst undef) w:=by
 have hund:aH w0.heap.size h.next ι undef undef:=.tuple _ _ rfl (λi v v' h=>by simp at h)
 have hrun:kq P w0 n o t K h→o.wpIn (Fw ro) 0 P a w next Q:=by
  intro hv
  refine ⟨λ_ _=>trivial,?_⟩
  rw[Oper.semAt_eq _ _ _ (YJ hv)]
  exact ad7 (ops:=ops) (aea r (λx hx=>f.eval x hx) (λ_=>rfl) hv) hn
 rw[aeb]at hv
 split at hv
 ·rename_i hg
  rw[if_pos (aeg hg _)]
  exact hrun hv
 ·rename_i j want hg
  obtain ⟨⟨hj,hu⟩,h1,h2⟩:=hv
  have key:=V7 (w0:=w0) (want:=want) (ops:=ops) f hj hu
  have hw:Region.wanted o (yielded ops a.tmps)=(yielded ops a.tmps j==some want):=by simp[Region.wanted,hg]
  by_cases hy:oQ n ops.toList t j=.bool want
  ·rw[if_pos (by rw[hw];exact key.2 hy)]
   exact hrun (h1 hy)
  ·rw[if_neg (by rw[hw];exact λe=>hy (key.1 e))]
   exact ⟨λ_ _=>trivial,hn ι h undef undef w (Ext.refl _ _) r (.inr hund) (h2 hy)⟩
end
end
section
abbrev pT:=Exit→Fr→Hp→Prop
def bK:List (Nat×Value)→Fr
 |[]=>λ_=>junk
 |(d,v)::l=>upd (bK l) d v
def scrub(keep:List Nat)(t:Fr):Fr:=bK (keep.map λi=>(i,t i))
def aB(c:Value)(x y:Hp→Prop)(h:Hp):Prop:=∃q,c=.bool q∧(q=true→x h)∧(q=false→y h)
def fk:Code→List (Option Nat)
 |.exit id=>[some id]
 |.ret=>[none]
 |.seq a b=>fk a++(fk b).filter λx=>!((fk a).contains x)
 |.cond _ a b=>fk a++(fk b).filter λx=>!((fk a).contains x)
 |.block id c=>(fk c).filter λx=>x != some id
 |.loop c=>fk c
 |.rangeFunc _ _ _ b=>fk b
 |_=>[]
def oL:Option Nat→Exit
 |some id=>.exit id
 |none=>.ret
def iO:List (Option Nat)→List (Fr→Hp→Prop)→Option Nat→Fr→Hp→Prop
 |o::os,k::ks,x,t,h=>bif o==x then k t h else iO os ks x t h
 |_,_,_,_,_=>False
def bJ(step:Fr→(Fr→Hp→Prop)→List (Fr→Hp→Prop)→Hp→Prop):Nat→Fr→List (Fr→Hp→Prop)→Hp→Prop
 |0,_,_,_=>False
 |m+1,t,K,h=>step t (λt h=>bJ step m t K h) K h
theorem wK{K:pT}{x:Option Nat}{t:Fr}{h:Hp}:∀{os:List (Option Nat)},iO os (os.map λo t h=>K (oL o) t h) x t h→K (oL x) t h:=by
 intro os
 induction os with
 |nil=>intro hv;exact hv.elim
 |cons o os ih=>
  intro hv
  simp only[gA,iO]at hv
  cases e:o==x with
  |true=>rw[e]at hv;have:=eq_of_beq e;subst this;exact hv
  |false=>rw[e]at hv;exact ih hv
def keyOf:Code→Nat
 |.region id _ _=>id
 |.seq a _=>keyOf a
 |.block _ c=>keyOf c
 |.loop c=>keyOf c
 |.cond _ a _=>keyOf a
 |.scope c=>keyOf c
 |.rangeFunc _ _ a _=>keyOf a
 |_=>0
def gF(ks:List (Nat×List Nat×List Nat))(k:Nat):List Nat×List Nat:=(ks.lookup k).getD ([],[])
structure Cx where
 P:Program
 w0:World
 n:Nat
 ks:List (Nat×List Nat×List Nat)
noncomputable def jt(C:Cx)(draw:List Oper→Fr→(Fr→Hp→Prop)→Hp→Prop):Code→Fr→pT→Hp→Prop
 |.skip,t,K,h=>K .normal t h
 |.region _ ops d,t,K,h=>bif d then draw ops.toList t (λt h=>K .normal t h) h else tF C.P C.w0 C.n ops.toList ops.toList t (λt h=>K .normal t h) h
 |.seq a b,t,K,h=>jt C draw a t (λe t h=>match e with|.normal=>jt C draw b t K h|e=>K e t h) h
 |.cond c x y,t,K,h=>aB (ev C.n t c) (λh=>jt C draw x t K h) (λh=>jt C draw y t K h) h
 |.block id c,t,K,h=>jt C draw c t (λe t h=>match e with|.exit id'=>if id'=id then K .normal t h else K (.exit id') t h|e=>K e t h) h
 |.loop c,t,K,h=>∃m,bJ (λt R K h=>jt C draw c t (λe t h=>match e with|.normal=>R (scrub (gF C.ks (keyOf c)).1 t) h|.exit id=>iO (fk c) K (some id) (scrub (gF C.ks (keyOf c)).2 t) h|.ret=>iO (fk c) K none (scrub (gF C.ks (keyOf c)).2 t) h|_=>False) h) m (scrub (gF C.ks (keyOf c)).1 t) ((fk c).map λo t h=>K (oL o) t h) h
 |.exit id,t,K,h=>K (.exit id) t h
 |.ret,t,K,h=>K .ret t h
 |_,_,_,_=>False
def jA(P:Program)(w0:World)(n:Nat):List ResultVar→Fr→(List Value→Hp→Prop)→Hp→Prop
 |[],t,K,h=>K [] h
 |.tmp d::r,t,K,h=>jA P w0 n r t (λvs h=>K (ev n t (.tmp d)::vs) h) h
 |.cell a T::r,t,K,h=>
  if okT P T=true then
   (if fl P T=true then aG w0 (ev n t (.tmp a)) (szT P T) (λv h=>jA P w0 n r t (λvs h=>K (v::vs) h) h) h
   else al w0 (ev n t (.tmp a)) (λv h=>jA P w0 n r t (λvs h=>K (v::vs) h) h) h)
  else False
def oneOf:List Value→Value
 |[v]=>v
 |vs=>.tuple vs.toArray
def ar(vs:List Value)(R:av)(h:Hp):Prop:=(∀v,v∈vs→v≠junk)∧R (oneOf vs) h
def qi(args:List Value):Fr:=λi=>args.getD i undef
noncomputable def xG(C:Cx)(draw:List Oper→Fr→(Fr→Hp→Prop)→Hp→Prop)(fn:Func)(args:List Value)(R:av)(h:Hp):Prop:=
 match fn.body with
 |some c=>jt C draw c (qi args) (λe t h=>match e with
  |.normal=>jA C.P C.w0 C.n fn.results.toList t (λvs h=>ar vs R h) h
  |.ret=>jA C.P C.w0 C.n fn.results.toList t (λvs h=>ar vs R h) h
  |_=>False) h
 |none=>False
section
variable {P:Program}{w0:World}{ι:Inj}{h:Hp}{w:World}
theorem Cz(keep:List Nat)(t:Fr)(i:Nat):scrub keep t i=junk∨scrub keep t i=t i:=by
 unfold scrub
 induction keep with
 |nil=>exact .inl rfl
 |cons k r ih=>
  simp only[gA,bK,upd]
  split
  ·rename_i e;rw[e];exact .inr rfl
  ·exact ih
theorem dF.scrub{B nx:Nat}{n:Nat}{t:Fr}{tmps:Array Value}(f:dF B nx ι n t tmps)(keep:List Nat):dF B nx ι n (scrub keep t) tmps:=by
 refine ⟨f.1,λi hi hj=>?_⟩
 rcases Cz keep t i with e|e
 ·exact absurd e hj
 ·rw[e]at hj ⊢;exact f.2 i hi hj
theorem Act.put_ds(a:Act)(d:Option Nat)(v:Value):(a.put d v).defers=a.defers:=by cases d <;> rfl
theorem YQ{ro:Option Nat}{n:Nat}{ops:Array Oper}{K:Fr→Hp→Prop}{Q:Exit→Act→World→Prop}:∀(post pre:List Oper) (t:Fr) (a:Act) (ι:Inj) (h:Hp) (w:World),
  ops.toList=pre++post→aR w0 ι h w→dF w0.heap.size h.next ι n t a.tmps→tF P w0 n ops.toList post t K h→
  (∀ι' h' t' a' w',Ext ι h ι' h'→aR w0 ι' h' w'→dF w0.heap.size h'.next ι' n t' a'.tmps→a'.defers=a.defers→K t' h'→Q .normal a' w')→
  wpOpsIn (Fw ro) 0 P ops Q (List.range' pre.length post.length) a w:=by
 intro post
 induction post with
 |nil=>
  intro pre t a ι h w _ r f hv hq
  exact hq ι h t a w (Ext.refl _ _) r f rfl hv
 |cons o os ih=>
  intro pre t a ι h w he r f hv hq
  have hoi:ops[pre.length]?=some o:=by
   rw[←Array.getElem?_toList,he]
   simp
  simp only[bH,List.range'_succ,wpOpsIn,hoi]
  simp only[tF]at hv
  refine C7 (ro:=ro) r f hv (λι' h' v v' w' g1 g2 g3 g4=>?_)
  have:=ih (pre++[o]) (iW t o.dst v) (a.put o.dst v') ι' h' w' (by rw[he];simp) g2 ((f.mono g1.1 g1.2).put o.dst g3) g4 (λι2 h2 t2 a2 w2 q1 q2 q3 q4 q5=>
   hq ι2 h2 t2 a2 w2 (g1.trans q1) q2 q3 (by rw[q4,Act.put_ds]) q5)
  simpa using this
def kS(P:Program)(w0:World)(n:Nat)(draw:List Oper→Fr→(Fr→Hp→Prop)→Hp→Prop):Prop:=
 ∀(ro:Option Nat) (id:Nat) (ops:Array Oper) (K:Fr→Hp→Prop) (Q:Exit→Act→World→Prop) (t:Fr) (a:Act) (ι:Inj) (h:Hp) (w:World),
  aR w0 ι h w→dF w0.heap.size h.next ι n t a.tmps→draw ops.toList t K h→
  (∀ι' h' t' a' w',Ext ι h ι' h'→aR w0 ι' h' w'→dF w0.heap.size h'.next ι' n t' a'.tmps→a'.defers=a.defers→K t' h'→Q .normal a' w')→
  (Code.region id ops true).wpIn (Fw ro) 0 P Q a w
theorem uj{C:Cx}{draw:List Oper→Fr→(Fr→Hp→Prop)→Hp→Prop}(hd:kS C.P C.w0 C.n draw){ro:Option Nat}:∀(c:Code) (t:Fr) (K:pT) (Q:Exit→Act→World→Prop) (a:Act) (ι:Inj) (h:Hp) (w:World),
  aR C.w0 ι h w→dF C.w0.heap.size h.next ι C.n t a.tmps→jt C draw c t K h→
  (∀e ι' h' t' a' w',Ext ι h ι' h'→aR C.w0 ι' h' w'→dF C.w0.heap.size h'.next ι' C.n t' a'.tmps→a'.defers=a.defers→K e t' h'→Q e a' w')→
  c.wpIn (Fw ro) 0 C.P Q a w:=by
 intro c
 induction c with
 |skip=>intro t K Q a ι h w r f hv hq;exact wpIn_skip (hq .normal ι h t a w (Ext.refl _ _) r f rfl hv)
 |region id ops d=>
  intro t K Q a ι h w r f hv hq
  cases d with
  |true=>exact hd ro id ops _ Q t a ι h w r f hv (λι' h' t' a' w' g1 g2 g3 g4 g5=>hq .normal ι' h' t' a' w' g1 g2 g3 g4 g5)
  |false=>
   refine wpIn_region ?_
   have:=YQ (ro:=ro) (n:=C.n) (ops:=ops) (Q:=Q) ops.toList [] t a ι h w rfl r f hv (λι' h' t' a' w' g1 g2 g3 g4 g5=>hq .normal ι' h' t' a' w' g1 g2 g3 g4 g5)
   simpa[List.range_eq_range']using this
 |seq x y ihx ihy=>
  intro t K Q a ι h w r f hv hq
  refine wpIn_seq (ihx t _ _ a ι h w r f hv (λe ι' h' t' a' w' g1 g2 g3 g4 g5=>?_))
  cases e with
  |normal=>exact ihy t' K Q a' ι' h' w' g2 g3 g5 (λe2 ι2 h2 t2 a2 w2 q1 q2 q3 q4 q5=>hq e2 ι2 h2 t2 a2 w2 (g1.trans q1) q2 q3 (q4.trans g4) q5)
  |exit id=>exact hq _ ι' h' t' a' w' g1 g2 g3 g4 g5
  |goto l=>exact hq _ ι' h' t' a' w' g1 g2 g3 g4 g5
  |ret=>exact hq _ ι' h' t' a' w' g1 g2 g3 g4 g5
  |panic ch=>exact hq _ ι' h' t' a' w' g1 g2 g3 g4 g5
  |outgrown=>exact hq _ ι' h' t' a' w' g1 g2 g3 g4 g5
 |cond c x y ihx ihy=>
  intro t K Q a ι h w r f hv hq
  obtain ⟨q,e,h1,h2⟩:=hv
  have hc:a.eval c=.bool q:=by
   have:=f.eval c (by rw[e];simp[junk])
   rw[e]at this
   exact this.bool_inv
  cases q with
  |true=>exact wpIn_cond hc (ihx t K Q a ι h w r f (h1 rfl) hq)
  |false=>exact wpIn_cond hc (ihy t K Q a ι h w r f (h2 rfl) hq)
 |block id c ih=>
  intro t K Q a ι h w r f hv hq
  refine wpIn_block (ih t _ _ a ι h w r f hv (λe ι' h' t' a' w' g1 g2 g3 g4 g5=>?_))
  cases e with
  |exit id' =>
   simp only[Exit.inBlock]
   by_cases hid:id'=id
   ·rw[if_pos hid]
    simp only[if_pos hid]at g5
    exact hq _ ι' h' t' a' w' g1 g2 g3 g4 g5
   ·rw[if_neg hid]
    simp only[if_neg hid]at g5
    exact hq _ ι' h' t' a' w' g1 g2 g3 g4 g5
  |normal=>exact hq _ ι' h' t' a' w' g1 g2 g3 g4 g5
  |goto l=>exact hq _ ι' h' t' a' w' g1 g2 g3 g4 g5
  |ret=>exact hq _ ι' h' t' a' w' g1 g2 g3 g4 g5
  |panic ch=>exact hq _ ι' h' t' a' w' g1 g2 g3 g4 g5
  |outgrown=>exact hq _ ι' h' t' a' w' g1 g2 g3 g4 g5
 |loop c ih=>
  intro t K Q a ι h w r f hv hq
  obtain ⟨m,hv⟩:=hv
  refine wpIn_loop_rounds m ?_
  have key:∀(m:Nat) (t:Fr) (a2:Act) (ι2:Inj) (h2:Hp) (w2:World),Ext ι h ι2 h2→aR C.w0 ι2 h2 w2→dF C.w0.heap.size h2.next ι2 C.n t a2.tmps→a2.defers=a.defers→
    bJ (λt R K h=>jt C draw c t (λe t h=>match e with|.normal=>R (scrub (gF C.ks (keyOf c)).1 t) h|.exit id=>iO (fk c) K (some id) (scrub (gF C.ks (keyOf c)).2 t) h|.ret=>iO (fk c) K none (scrub (gF C.ks (keyOf c)).2 t) h|_=>False) h) m t ((fk c).map λo t h=>K (oL o) t h) h2→
    Code.roundsIn (Fw ro) 0 C.P c Q m a2 w2:=by
   intro m
   induction m with
   |zero=>intro t a2 ι2 h2 w2 _ _ _ _ hv;exact hv.elim
   |succ m ihm=>
    intro t a2 ι2 h2 w2 hx r2 f2 hds hv
    rw[roundsIn_succ]
    refine ih t _ _ a2 ι2 h2 w2 r2 f2 hv (λe ι' h' t' a' w' g1 g2 g3 g4 g5=>?_)
    cases e with
    |normal=>exact ihm _ a' ι' h' w' (hx.trans g1) g2 (g3.scrub _) (g4.trans hds) g5
    |exit id=>exact hq _ ι' h' _ a' w' (hx.trans g1) g2 (g3.scrub _) (g4.trans hds) (wK (x:=some id) g5)
    |goto l=>exact g5.elim
    |ret=>exact hq _ ι' h' _ a' w' (hx.trans g1) g2 (g3.scrub _) (g4.trans hds) (wK (x:=none) g5)
    |panic ch=>exact g5.elim
    |outgrown=>exact g5.elim
  exact key m _ a ι h w (Ext.refl _ _) r (f.scrub _) rfl hv
 |exit id=>intro t K Q a ι h w r f hv hq;exact wpIn_exit (hq _ ι h t a w (Ext.refl _ _) r f rfl hv)
 |ret=>intro t K Q a ι h w r f hv hq;exact wpIn_ret (hq _ ι h t a w (Ext.refl _ _) r f rfl hv)
 |rangeFunc _ _ _ _ _ _=>intro t K Q a ι h w r f hv hq;exact hv.elim
 |scope _ _=>intro t K Q a ι h w r f hv hq;exact hv.elim
 |label _=>intro t K Q a ι h w r f hv hq;exact hv.elim
 |goto _=>intro t K Q a ι h w r f hv hq;exact hv.elim
 |refuse _=>intro t K Q a ι h w r f hv hq;exact hv.elim
def rvA(tmps:Array Value):ResultVar→Sem Value
 |.tmp t=>pure (tmps.getD t undef)
 |.cell a t=>do loadVar t (←asAddr (tmps.getD a undef))
theorem Jb{n:Nat}{t:Fr}{a:Act}(r:aR w0 ι h w)(f:dF w0.heap.size h.next ι n t a.tmps):∀(l:List ResultVar) (K:List Value→Hp→Prop),jA P w0 n l t K h→
  ∃vs vs',(l.mapM (rvA a.tmps)).run P w=.ok vs' w∧vs.length=l.length∧vs'.length=l.length∧
   (∀(i:Nat) v v',vs[i]?=some v→vs'[i]?=some v'→v≠junk→aH w0.heap.size h.next ι v v')∧K vs h:=by
 intro l
 induction l with
 |nil=>intro K hv;exact ⟨[],[],by simp,rfl,rfl,λi v v' h=>by simp at h,hv⟩
 |cons x l ih=>
  intro K hv
  have fin:∀(v v':Value),(rvA a.tmps x).run P w=.ok v' w→(v≠junk→aH w0.heap.size h.next ι v v')→jA P w0 n l t (λvs h=>K (v::vs) h) h→
   ∃vs vs',((x::l).mapM (rvA a.tmps)).run P w=.ok vs' w∧vs.length=(x::l).length∧vs'.length=(x::l).length∧
    (∀(i:Nat) v v',vs[i]?=some v→vs'[i]?=some v'→v≠junk→aH w0.heap.size h.next ι v v')∧K vs h:=by
   intro v v' hr hvr hk
   obtain ⟨vs,vs',g1,g2,g3,g4,g5⟩:=ih _ hk
   refine ⟨v::vs,v'::vs',?_,by simp[g2],by simp[g3],λi y y' e e' hne=>?_,g5⟩
   ·rw[List.mapM_cons]
    simp only[eE,hr,eC,g1,fY]
   ·cases i with
    |zero=>simp at e e';subst e;subst e';exact hvr hne
    |succ i=>simp at e e';exact g4 i y y' e e' hne
  cases x with
  |tmp d=>exact fin (ev n t (.tmp d)) (a.tmps.getD d undef) rfl (λhne=>f.eval (.tmp d) hne) hv
  |cell b T=>
   simp only[jA]at hv
   split at hv
   case isFalse=>exact hv.elim
   rename_i hT
   have he:a.eval (.tmp b)=a.tmps.getD b undef:=rfl
   have addr:∀ad,ev n t (.tmp b)=.pointer (some ad)→∃a',a.tmps.getD b undef=.pointer (some a')∧eM w0.heap.size h.next ι ad a':=λad e=>by
    have:=f.eval (.tmp b) (by rw[e];simp[junk])
    rw[e,he]at this
    obtain ⟨a',e'⟩:=eM.of this
    exact ⟨a',e',by rw[e']at this;exact this⟩
   obtain ⟨i,z,d,hi,hz,hd,_,hs,_,_,_,hagg,_⟩:=fT hT
   split at hv
   ·rename_i ha
    obtain ⟨ad,vs,e,hg,hcl,hk⟩:=hv
    obtain ⟨a',e',hp⟩:=addr ad e
    obtain ⟨vs',hrun,hr⟩:=r.readN (P:=P) hp hg (λhlt v hv=>(hcl hlt v hv).1)
    have hcell:=r.cells_of hg hcl
    refine fin (.agg vs.toArray) (.agg vs'.toArray) ?_ (λ_=>.agg _ _ hr.toArray.1 hr.toArray.2 (λi v hv=>hcell v (by have:=cK (l:=vs) (i:=i) (a:=v) (by simpa using hv);exact this))) hk
    have h3:=hrun w rfl
    rw[hs]at h3
    simp only[rvA,e',asAddr,pure_bind,loadVar,eE,hagg,ha,eC,if_true,gO hi,h3,fY]
   ·rename_i ha
    have ha:fl P T=false:=by simpa using ha
    obtain ⟨ad,v,e,hg,hcl,hk⟩:=hv
    obtain ⟨a',e',hp⟩:=addr ad e
    obtain ⟨v',hc,hr⟩:=r.read hp hg hcl
    refine fin v v' ?_ (λ_=>hr) hk
    simp only[rvA,e',asAddr,pure_bind,loadVar,eE,hagg,ha,eC,tJ,if_false]
    simp[hc]
theorem Jc(fn:Func)(tmps:Array Value){vs':List Value}(h:(fn.results.toList.mapM (rvA tmps)).run P w=.ok vs' w):(results fn tmps).run P w=.ok (oneOf vs') w:=by
 have e:(results fn tmps)=(do let vs ←fn.results.mapM (rvA tmps);pure (if h:vs.size=1 then vs[0] else .tuple vs)):=by
  unfold results
  congr 1
 rw[e,Array.mapM_eq_mapM_toList]
 simp only[eE,Sem.run_map]
 rw[h]
 simp only[eC,fY]
 congr 1
 unfold oneOf
 split
 ·rename_i hl
  simp at hl
  split
  ·rfl
  ·rename_i hne
   obtain ⟨v,rfl⟩:=List.length_eq_one_iff.1 hl
   exact absurd rfl (hne v)
 ·rename_i hl
  split
  ·simp at hl
  ·rfl
theorem MU{P:Program}{w0:World}{f:FuncId}{fn:Func}{ks:List (Nat×List Nat×List Nat)}{draw:List Oper→Fr→(Fr→Hp→Prop)→Hp→Prop}{args:List Value}{h:Hp}{R:av}
  (hf:P.funcs[f]?=some fn) (hd:kS P w0 fn.ntmps draw) (hn:args.length≤fn.ntmps) (hj:∀v,v∈args→v≠junk)
  (hv:xG ⟨P,w0,fn.ntmps,ks⟩ draw fn args R h):aj P w0 f args h R:=by
 refine ⟨hj,λι w args' r ha=>?_⟩
 unfold xG at hv
 split at hv
 case h_2=>exact hv.elim
 rename_i c hb
 have hal:args'.size=args.length:=by have:=ha.1;simpa using this.symm
 have hfr:dF w0.heap.size h.next ι fn.ntmps (qi args) (args'++Array.replicate (fn.ntmps-args'.size) undef):=by
  refine ⟨by simp;omega,λi hi hne=>?_⟩
  unfold qi at hne ⊢
  by_cases hia:i<args.length
  ·have e:args[i]?=some args[i]:=by simp[hia]
   have e':args'.toList[i]?=some (args'[i]'(by omega)):=by simp
   have h1:args.getD i undef=args[i]:=by simp[List.getD,hia]
   have h2:(args'++Array.replicate (fn.ntmps-args'.size) undef).getD i undef=args'[i]'(by omega):=by
    rw[ja,Array.getElem?_append_left (by omega)]
    simp[show i<args'.size by omega]
   rw[h1,h2]
   exact ha.2 i _ _ e e'
  ·have h1:args.getD i undef=undef:=by simp[List.getD,fF (show args.length≤i by omega)]
   have h2:(args'++Array.replicate (fn.ntmps-args'.size) undef).getD i undef=undef:=by
    rw[ja,Array.getElem?_append_right (by omega)]
    simp[Array.getElem?_replicate]
    split <;> rfl
   rw[h1,h2]
   exact .tuple _ _ rfl (λi v v' h=>by simp at h)
 refine callsIn_of_wp hf hb trivial (uj (C:=⟨P,w0,fn.ntmps,ks⟩) (ro:=none) hd c _ _ _ _ ι h w r hfr hv (λe ι' h' t' a' w' g1 g2 g3 g4 g5=>?_)) rfl
 have fin:jA P w0 fn.ntmps fn.results.toList t' (λvs h=>ar vs R h) h'→a'.defers=[]∧∃v,(results fn a'.tmps).run P w'=.ok v w' ∧
   ∃v' ι'' h'' v2,Ending.returned v=.returned v'∧Ext ι h ι'' h''∧aR w0 ι'' h'' w'∧aH w0.heap.size h''.next ι'' v2 v'∧R v2 h'':=by
  intro hres
  refine ⟨g4,?_⟩
  obtain ⟨vs,vs',q1,q2,q3,q4,q5,q6⟩:=Jb g2 g3 _ _ hres
  have hrels:cE w0.heap.size h'.next ι' vs vs':=⟨by omega,λi v v' e e'=>q4 i v v' e e' (q5 v (cK e))⟩
  have hrun:=Jc fn a'.tmps q1
  refine ⟨_,hrun,_,ι',h',oneOf vs,rfl,g1,g2,?_,q6⟩
  unfold oneOf
  split
  ·obtain ⟨v',l',rfl,hv',hl'⟩:=hrels.cons_inv
   have:l'=[]:=by have:=hl'.1;exact fu (by simpa using this.symm)
   subst this
   exact hv'
  ·rename_i hne
   have hl:=hrels.1
   split
   ·rename_i v'
    obtain ⟨v,rfl⟩:=List.length_eq_one_iff.1 (show vs.length=1 by simpa using hl)
    exact absurd rfl (hne v)
   ·exact .tuple _ _ hrels.toArray.1 hrels.toArray.2
 cases e with
 |normal=>exact fin g5
 |ret=>exact fin g5
 |exit id=>exact g5.elim
 |goto l=>exact g5.elim
 |panic ch=>exact g5.elim
 |outgrown=>exact g5.elim
end
end
