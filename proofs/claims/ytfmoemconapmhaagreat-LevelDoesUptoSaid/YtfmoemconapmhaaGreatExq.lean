/- RunNobody. -/
import Derived.Test.YtfmoemconapmhaaGreatExk
set_option linter.all false
namespace Go.Proofs.YtfmoemconapmhaaGreat.Ah
open Go
theorem Fy(x:Ent)(l:List Ent)(k:Key):fE (x::l) k=if blt x.k k=true then fE l k+1 else 0:=rfl
theorem F0{pre post:List Ent}{k:Key}(h:∀x,x∈pre→blt x.k k=true):fE (pre++post) k=pre.length+fE post k:=by
 induction pre with
 |nil=>simp
 |cons x pre ih=>
  rw[ku,Fy,if_pos (h x (by simp)),ih (λy hy=>h y (by simp[hy])),bH]
  omega
section
variable {w0:World}{h h':Hp}
theorem H5{s n:Nat}{x:Value}{ys:List Value}(v:Sl w0 h s x n ys):lenA x=some n:=by obtain ⟨a,c,e⟩:=v.slice;rw[e];simp
theorem aam{k0 kr:Value→Value→Value→Hp→Prop}{v x4 x5:Value}{l:List Ent}{k:Key}{hh:Hp}(hv:Es w0 hh v l)(fh:Fit w0 hh)(hl:l.length≤1000000000)
  (h1:∀h',Step hh h' [] []→fE l k=l.length→eU (kl l) k (fE l k)=false→k0 v x4 x5 h') (h2:∀h',Step hh h' [] []→kr v (.int .i64 (fE l k:Int)) (.bool (eU (kl l) k (fE l k))) h'):∀(post pre:List Ent) (h3:Hp),pre++post=l→(∀x,x∈pre→blt x.k k=true)→Step hh h3 [] []→
   ol prog w0 k0 kr (post.length+1) v (.string (str k)) x4 x5 v (.int .i64 (l.length:Int)) (.int .i64 (pre.length:Int)) h3:=by
 intro post
 induction post with
 |nil=>
  intro pre h3 he hp st
  have hpre:pre=l:=by simpa using he
  subst hpre
  rw[cS,ol]
  simp only[uA,wd, wa,dQ,decide_false]
  have hf:=F0 (post:=[]) hp
  rw[dG]at hf
  have hf2:fE pre k=pre.length:=by rw[hf];rfl
  refine h1 h3 st hf2 ?_
  rw[sF,hf2]
  simp
 |cons x post ih=>
  intro pre h3 he hp st
  have hlen:pre.length+(post.length+1)=l.length:=by rw[←he];simp
  have hg:l[pre.length]?=some x:=by rw[←he];simp
  have c1:decide ((pre.length:Int)<(l.length:Int))=true:=decide_eq_true (by omega)
  have e6:=wrS pre x (by omega)
  have v3:Es w0 h3 v l:=hv.step fh st (by simp)
  have fb:w0.heap.size≤h3.next:=cY fh.base st.1
  rw[bH,ol]
  simp only[uA,wd, wa,c1]
  refine v3.elem (by omega) (jT hg) ?_
  refine fp fb rfl rfl fM ?_
  have sx:Step h3 (h3.new (ee x) 3) [] [h3.next]:=(Step.refl h3 [] (by simp)).new _ _
  have bx:(h3.new (ee x) 3).blk h3.next=some (ee x):=by simp
  have stx:Step hh (h3.new (ee x) 3) [] []:=st.trans (sx.less (by simp))
  generalize h3.new (ee x) 3=h4 at *
  simp only[wd, wa]
  refine aq fb bx rfl ?_
  simp only[qS,wd, wa]
  cases hb:blt x.k k with
  |true=>
   simp only[ix,e6,wd, wa]
   exact ih (pre++[x]) h4 (by simpa using he) (λy hy=>by
    rcases aS.1 hy with q|q
    ·exact hp y q
    ·simp at q;subst q;exact hb) stx
  |false=>
   simp only[ju,wd, wa]
   refine aq fb bx rfl ?_
   have hf:fE l k=pre.length:=by rw[←he,F0 hp,Fy,if_neg (by simp[hb])];simp
   have ha:eU (kl l) k pre.length=decide (x.k=k):=by rw[sF,hg]
   simp only[lV,wd, wa]
   have:=h2 h4 stx
   rw[hf,ha]at this
   exact this
theorem IG{v:Value}{l:List Ent}(hv:Es w0 h v l)(hl:l.length≤1000000000)(k:Key):aj prog w0 vU [v,.string (str k)] h λr h'=>r=.tuple #[.int .i64 (fE l k:Int),.bool (eU (kl l) k (fE l k))]∧Step h h' [] []:=by
 refine aj.of_fit (by simpa using hv.junk) λf=>OD (by simpa using hv.junk) ?_
 simp only[BH,hv.lenv,wd, wa]
 refine ⟨l.length+1,aam hv f hl (λh' st e1 e2=>?_) (λh' st=>?_) l [] h rfl (by simp) (.refl _ _ (by simp))⟩
 ·simp only[hv.lenv,wd, wa,aC,cG]
  exact ⟨by simp,by rw[e1]at e2 ⊢;rw[e2],st⟩
 ·simp only[aC,cG]
  exact ⟨by simp,trivial,st⟩
theorem IL{v:Value}{l:List Ent}(hv:Es w0 h v l)(hl:l.length≤1000000000)(x:Ent):aj prog w0 vX [v,.agg (ee x).toArray] h λr h'=>∃S',Vec w0 h' 3 r (cP l x).length ((cP l x).flatMap ee) S'∧Step h h' [] S':=by
 refine aj.of_fit (by simp[hv.junk]) λf=>OI (by simp[hv.junk]) ?_
 have fb:=f.base
 have hfl:=Fz l x.k
 simp only[JZ,iT]
 have sx:Step h (h.new (ee x) 3) [] [h.next]:=(Step.refl h [] (by simp)).new _ _
 have bx:(h.new (ee x) 3).blk h.next=some (ee x):=by simp
 have nx:h.next<(h.new (ee x) 3).next:=by simp
 have fx:Fit w0 (h.new (ee x) 3):=f.new (by simp[ee,aE])
 have vx:Es w0 (h.new (ee x) 3) v l:=hv.step f sx (by simp)
 show au _ 0 _ (h.new (ee x) 3)
 generalize h.new (ee x) 3=h1 at *
 simp only[wd, wa]
 refine aq fb bx rfl ?_
 refine aA (IG vx hl x.k) λr h2 ⟨e,s2⟩ f2=>?_
 subst e
 have v2:Es w0 h2 v l:=vx.step fx s2 (by simp)
 have b2:h2.blk h.next=some (ee x):=by rw[(s2.keep _ nx (by simp)).1];exact bx
 have n2:h.next<h2.next:=cJ nx s2.1
 have hz0:aL [(Value.string .empty),.string .empty,.bool false] 0=[]:=rfl
 simp only[i9,dJ,hz0,wd, wa]
 have g3:GV w0 (h2.new [] 3) 3 (.slice (some ⟨h2.next,0,none⟩) 0 0) 0 [] [h2.next]:=GV.new f2.base rfl (by unfold bA;decide)
 have s3:Step h2 (h2.new [] 3) [] [h2.next]:=(Step.refl h2 [] (by simp)).new _ _
 have f3:Fit w0 (h2.new [] 3):=f2.new (by simp)
 have v3:Es w0 (h2.new [] 3) v l:=v2.step f2 s3 (by simp)
 have b3:(h2.new [] 3).blk h.next=some (ee x):=by rw[(s3.keep _ n2 (by simp)).1];exact b2
 have n3:(h2.new [] 3).next=h2.next+1:=rfl
 have s03:Step h (h2.new [] 3) [] [h2.next]:=((sx.less (T:=[]) (by simp)).trans s2).trans s3
 have fb2:=f2.base
 generalize h2.new [] 3=h3 at *
 refine v3.cutN (lo:=0) (hi:=fE l x.k) fH eY (fX _) hfl λx' _ hbx' vx'=>?_
 have hy1:((l.flatMap ee).take (fE l x.k*3)).drop (0*3)=(l.take (fE l x.k)).flatMap ee:=by rw[jd,i5,ST]
 rw[hy1,rm]at vx'
 have htl:(l.take (fE l x.k)).length=fE l x.k:=by rw[dV];omega
 refine mw (by omega) g3 (H5 vx') vx'.src (by rw[uW,htl]) (by omega) (by omega) (by omega) λx4 h4 S4 g4 s4=>?_
 have b4:h4.blk h.next=some (ee x):=by rw[(s4.keep _ (by omega) (by simp;omega)).1];exact b3
 refine cO fb b4 rfl ?_
 have n4:=s4.1
 refine jg (by omega) g4 rfl rfl (by omega) (by omega) (by omega) λx5 h5 S5 g5 s5=>?_
 rw[gU,eO]at g5
 have s35:Step h3 h5 [h2.next] S5:=s4.trans s5
 have v5:Es w0 h5 v l:=v2.step f2 (s3.trans s35) (by simp)
 have n5:=s5.1
 have rest:∀j,j≤l.length→cP l x=l.take (fE l x.k)++x::l.drop j→cT 3 v (some (.int .i64 (j:Int))) none none (λv30=>bD w0 3 40 x5 v30 λv31=>ar [v31] λr h'=>∃S',Vec w0 h' 3 r (cP l x).length ((cP l x).flatMap ee) S'∧Step h h' [] S') h5:=by
  intro j hj hw
  refine v5.cutN (lo:=j) (hi:=l.length) eY fH hj (bF _) λx6 _ hbx6 vx6=>?_
  have hy2:((l.flatMap ee).take (l.length*3)).drop (j*3)=(l.drop j).flatMap ee:=by rw[dY (by rw[uW];omega),Fu]
  rw[hy2]at vx6
  refine gB (by omega) g5 (H5 vx6) vx6.src (by rw[uW];simp) (by omega) (by omega) (by omega) λx7 h7 S7 g7 s7=>?_
  simp only[aC,aU]
  refine ⟨by simpa using g7.gv.nj,S7,?_,s03.trans (s35.trans s7)⟩
  have hlen:(cP l x).length=fE l x.k+1+(l.length-j):=by rw[hw];simp;omega
  have hcell:(cP l x).flatMap ee=(l.take (fE l x.k)).flatMap ee++ee x++(l.drop j).flatMap ee:=by rw[hw];simp
  rw[hlen,hcell]
  exact g7
 cases hh:eU (kl l) x.k (fE l x.k) with
 |true=>
  have hil:fE l x.k<l.length:=by
   rw[sF]at hh
   split at hh
   ·rename_i y hy;exact (cB.1 hy).1
   ·cases hh
  have e6:IntKind.i64.wrap ((fE l x.k:Int)+1)=((fE l x.k+1:Nat):Int):=by rw[bM _ (by omega)];simp
  simp only[e6,wd, wa]
  have hw:cP l x=l.take (fE l x.k)++x::l.drop (fE l x.k+1):=by
   unfold cP eG
   have:eU (kl l) x.k (bV (kl l) x.k)=true:=hh
   rw[this,if_pos rfl]
  exact rest (fE l x.k+1) (by omega) hw
 |false=>
  simp only[wd, wa]
  have hw:cP l x=l.take (fE l x.k)++x::l.drop (fE l x.k):=by
   unfold cP eG
   have:eU (kl l) x.k (bV (kl l) x.k)=false:=hh
   rw[this,if_neg (by simp)]
  exact rest (fE l x.k) hfl hw
end
theorem Z3{l:List Itm}(s:Srt l)(k:Key)(v:Ent)(x:Itm):x∈fL l k v↔x=(k,v)∨(x∈l∧x.1≠k):=by
 cases hh:eG l k with
 |false=>
  rw[IA hh]
  constructor
  ·rintro (h|h)
   ·exact .inl h
   ·exact .inr ⟨h,(zw s k).1 hh x h⟩
  ·rintro (h|⟨h,-⟩)
   ·exact .inl h
   ·exact .inr h
 |true=>
  obtain ⟨u,hu⟩:=oR hh
  have hil:=(cB.1 hu).1
  have e:fL l k v=l.take (bV l k)++(k,v)::l.drop (bV l k+1):=by rw[I9,if_pos hh]
  have el:l=l.take (bV l k)++(k,u)::l.drop (bV l k+1):=by
   have h1:=jI hil
   rw[(cB.1 hu).2]at h1
   rw[←h1,fw]
  have h1:∀y,y∈l.take (bV l k)→y.1≠k:=λy hy=>ji (xB hy)
  have h2:∀y,y∈l.drop (bV l k+1)→y.1≠k:=λy hy=>(ji (Fh s hh hy)).symm
  rw[e,aS,bB]
  constructor
  ·rintro (h|h|h)
   ·exact .inr ⟨jb h,h1 x h⟩
   ·exact .inl h
   ·exact .inr ⟨jJ h,h2 x h⟩
  ·rintro (h|⟨h,hne⟩)
   ·exact .inr (.inl h)
   ·rw[el,aS,bB]at h
    rcases h with h|h|h
    ·exact .inl h
    ·exact absurd (by rw[h]) hne
    ·exact .inr (.inr h)
def iX(l:List Ent)(es:List Ent):List Ent:=es.foldl cP l
theorem wP:∀(es l:List Ent),l.Pairwise (λx y=>blt x.k y.k=true)→(iX l es).Pairwise λx y=>blt x.k y.k=true
 |[],l,h=>h
 |x::es,l,h=>wP es _ (ra h x)
theorem aeh{l:List Ent}(s:l.Pairwise λx y=>blt x.k y.k=true)(x y:Ent):y∈cP l x↔y=x∨(y∈l∧y.k≠x.k):=by
 have h:=Z3 (jm s) x.k x (y.k,y)
 rw[tt]at h
 have km:∀l:List Ent,(y.k,y)∈kl l↔y∈l:=by
  intro l
  unfold kl
  rw[eB]
  constructor
  ·rintro ⟨z,hz,e⟩
   have:z=y:=congrArg (·.2) e
   rw[←this];exact hz
  ·intro hy;exact ⟨y,hy,rfl⟩
 rw[km,km]at h
 rw[h]
 constructor
 ·rintro (e|e)
  ·exact .inl (congrArg (·.2) e)
  ·exact .inr e
 ·rintro (e|e)
  ·exact .inl (by rw[e])
  ·exact .inr e
theorem Bv:∀(es l:List Ent),l.Pairwise (λx y=>blt x.k y.k=true)→es.Pairwise (λx y=>blt x.k y.k=true)→∀y,y∈iX l es↔y∈es∨(y∈l∧∀x,x∈es→y.k≠x.k)
 |[],l,h,_,y=>by simp[iX]
 |x::es,l,h,hs,y=>by
  obtain ⟨h1,h2⟩:=jx.1 hs
  have ih:=Bv es (cP l x) (ra h x) h2 y
  rw[show iX l (x::es)=iX (cP l x) es from rfl,ih,aeh h]
  constructor
  ·rintro (a|⟨a|⟨a,b⟩,c⟩)
   ·exact .inl (mh _ a)
   ·exact .inl (by rw[a];simp)
   ·refine .inr ⟨a,λz hz=>?_⟩
    rcases bB.1 hz with e|e
    ·rw[e];exact b
    ·exact c z e
  ·rintro (a|⟨a,c⟩)
   ·rcases bB.1 a with e|e
    ·refine .inr ⟨.inl e,λz hz=>?_⟩
     rw[e]
     exact ji (h1 z hz)
    ·exact .inl e
   ·exact .inr ⟨.inr ⟨a,c x (by simp)⟩,λz hz=>c z (by simp[hz])⟩
theorem sH{l:List Ent}{y:Ent}:(y.k,y)∈kl l↔y∈l:=by
 unfold kl
 rw[eB]
 constructor
 ·rintro ⟨z,hz,e⟩
  have:z=y:=congrArg (·.2) e
  rw[←this];exact hz
 ·intro hy;exact ⟨y,hy,rfl⟩
theorem QO{a acc:List Ent}{ls:List (List Itm)}(ha:a.Pairwise λx y=>blt x.k y.k=true)(h:IsM ls (kl acc)):IsM (kl a::ls) (kl (iX acc a)):=by
 have hs:=LN h.srt
 have hm:=Bv a acc hs ha
 refine ⟨jm (wP a acc hs),λx hx=>?_,λm l' y hl hy=>?_⟩
 ·obtain ⟨z,hz,rfl⟩:=eB.1 hx
  rcases (hm z).1 hz with h1|⟨h1,h2⟩
  ·exact ⟨0,kl a,rfl,sH.2 h1,λm l' hm=>by omega⟩
  ·obtain ⟨n,l,e1,e2,e3⟩:=h.sub _ (sH.2 h1)
   refine ⟨n+1,l,by simpa using e1,e2,λm l' hm hl' y hy=>?_⟩
   cases m with
   |zero=>
    simp at hl'
    subst hl'
    obtain ⟨w,hw,rfl⟩:=eB.1 hy
    exact (h2 w hw).symm
   |succ m=>exact e3 m l' (by omega) (by simpa using hl') y hy
 ·cases m with
  |zero=>
   simp at hl
   subst hl
   obtain ⟨w,hw,rfl⟩:=eB.1 hy
   exact ⟨(w.k,w),sH.2 ((hm w).2 (.inl hw)),rfl⟩
  |succ m=>
   obtain ⟨o,ho,e⟩:=h.all m l' y (by simpa using hl) hy
   obtain ⟨z,hz,rfl⟩:=eB.1 ho
   by_cases hex:∃x,x∈a∧x.k=z.k
   ·obtain ⟨x,hx,e2⟩:=hex
    exact ⟨(x.k,x),sH.2 ((hm x).2 (.inl hx)),by rw[←e];exact e2⟩
   ·exact ⟨(z.k,z),sH.2 ((hm z).2 (.inr ⟨hz,λx hx e2=>hex ⟨x,hx,e2.symm⟩⟩)),e⟩
def dZ:List (List Ent)→List Ent
 |[]=>[]
 |l::ls=>iX (dZ ls) l
theorem I1:∀ls:List (List Ent),(∀l,l∈ls→l.Pairwise λx y=>blt x.k y.k=true)→IsM (ls.map kl) (kl (dZ ls))
 |[],_=>⟨List.Pairwise.nil,by simp[dZ,kl],λm l' y hm=>by simp at hm⟩
 |l::ls,h=>QO (h l (by simp)) (I1 ls λl' hl'=>h l' (by simp[hl']))
theorem vq{ls:List (List Ent)}{out:List Itm}(h:∀l,l∈ls→l.Pairwise λx y=>blt x.k y.k=true)(im:IsM (ls.map kl) out):out=kl (dZ ls):=
 IsM.uniq (λl hl=>by
  obtain ⟨z,hz,rfl⟩:=eB.1 hl
  exact jm (h z hz)) im (I1 ls h)
section
variable {w0:World}{h h':Hp}
theorem zC{l:List Ent}{i:Nat}{x:Ent}(h:l[i]?=some x):(kl l)[i]?=some (x.k,x):=by unfold kl;rw[fV,h];rfl
theorem aau{k2:Value→Value→Value→Value→Value→Hp→Prop}{v x1 x15 x16 x17:Value}{ha:Hp}{ls:List (List Itm)}{n T:Nat}{l:List Ent}(hv:Es w0 ha v l)(fa:Fit w0 ha)(hl:l.length≤100000000)(hT:T≤100000000)(hln:ls[n]?=some (kl l))
  (hr:∀x' h' out S',Vec w0 h' 3 x' out.length (out.flatMap ee) S'→RInv ls n l.length (kl out)→out.length≤T→Step ha h' [] S'→k2 x1 x' x15 x16 x17 h'):∀(post pre:List Ent) (h1:Hp) (x5:Value) (S1:List Nat) (out:List Ent),pre++post=l→
   Vec w0 h1 3 x5 out.length (out.flatMap ee) S1→RInv ls n pre.length (kl out)→out.length+post.length≤T→Step ha h1 [] S1→
   ou prog w0 k2 (post.length+1) x1 x5 x15 x16 x17 v (.int .i64 (l.length:Int)) (.int .i64 (pre.length:Int)) h1:=by
 intro post
 induction post with
 |nil=>
  intro pre h1 x5 S1 out he g i ho st
  have hpre:pre=l:=by simpa using he
  subst hpre
  rw[cS,ou]
  simp only[uB,wd, wa,dQ,decide_false]
  exact hr x5 h1 out S1 g i (by simpa using ho) st
 |cons x post ih=>
  intro pre h1 x5 S1 out he g i ho st
  have hlen:pre.length+(post.length+1)=l.length:=by rw[←he];simp
  have hg:l[pre.length]?=some x:=by rw[←he];simp
  have c1:decide ((pre.length:Int)<(l.length:Int))=true:=decide_eq_true (by omega)
  have e6:=wrS pre x (by omega)
  simp only[bH]at ho
  have vs:Es w0 h1 v l:=hv.step fa st (by simp)
  have fb:w0.heap.size≤h1.next:=cY fa.base st.1
  rw[bH,ou]
  simp only[uB,wd, wa,c1]
  refine vs.elem (by omega) (jT hg) ?_
  refine fp fb rfl rfl fM ?_
  have sx:Step h1 (h1.new (ee x) 3) [] [h1.next]:=(Step.refl h1 [] (by simp)).new _ _
  have hx:(h1.new (ee x) 3).blk h1.next=some (ee x):=by simp
  have hS1:=λb hb=>(g.lt b hb).2
  have stx:Step ha (h1.new (ee x) 3) [] S1:=st.trans ((sx.less (T:=[]) (by simp)).keepS hS1)
  have gx:=g.frame sx (by simp)
  have hqx:h1.next<(h1.new (ee x) 3).next:=by simp
  generalize h1.new (ee x) 3=hx1 at *
  simp only[wd, wa]
  refine aq fb hx rfl ?_
  refine aA (IG gx.sl (by omega) x.k) λr h2 ⟨e,s2⟩ f2=>?_
  subst e
  have g2:=gx.frame s2 (by simp)
  have st2:Step ha h2 [] S1:=stx.trans (s2.keepS λb hb=>(gx.lt b hb).2)
  have hx2:h2.blk h1.next=some (ee x):=by rw[(s2.keep _ hqx (by simp)).1];exact hx
  simp only[wd, wa]
  cases hh:eU (kl out) x.k (fE out x.k) with
  |true=>
   have hk:eG (kl out) x.k=true:=hh
   simp only[ix,wd, wa,e6]
   exact ih (pre++[x]) h2 x5 S1 out (by simpa using he) g2 (by simpa using i.skip hln (zC hg) hk) (by omega) st2
  |false=>
   have hk:eG (kl out) x.k=false:=hh
   simp only[ju,wd, wa]
   refine cO fb hx2 rfl ?_
   refine aA (IL g2.sl (by omega) x) λr h3 ⟨S3,g3,s3⟩ f3=>?_
   simp only[wd, wa,e6]
   have hpl:=CD out x
   have ip:=i.put hln (zC hg) hk
   simp only at ip
   rw[tt]at ip
   exact ih (pre++[x]) h3 r S3 _ (by simpa using he) g3 (by simpa using ip) (by omega) ((st2.less (T:=[]) (by simp)).trans s3)
theorem aaw{k0:Value→Value→Hp→Prop}{v x1:Value}{ps:List (Value×List Ent)}{hh:Hp}{ls:List (List Itm)}(hv:Sl w0 hh 1 v ps.length (ps.map (·.1)))(hi:∀p:Value×List Ent,p∈ps→Es w0 hh p.1 p.2)(fh:Fit w0 hh)(hls:ls=ps.map λq=>kl q.2)(hl:ps.length≤2000000)(hl2:(ps.map λq=>q.2.length).sum≤100000000)
  (hk:∀x' h' out S',Vec w0 h' 3 x' out.length (out.flatMap ee) S'→RInv ls ps.length 0 (kl out)→out.length≤(ps.map λq=>q.2.length).sum→Step hh h' [] S'→k0 x1 x' h'):
  ∀(post pre:List (Value×List Ent)) (h1:Hp) (x5:Value) (S1:List Nat) (out:List Ent),pre++post=ps→Vec w0 h1 3 x5 out.length (out.flatMap ee) S1→RInv ls pre.length 0 (kl out)→out.length≤(pre.map λq=>q.2.length).sum→Step hh h1 [] S1→
   ot prog w0 k0 (post.length+1) x1 x5 v (.int .i64 (ps.length:Int)) (.int .i64 (pre.length:Int)) h1:=by
 intro post
 induction post with
 |nil=>
  intro pre h1 x5 S1 out he g i ho st
  have hpre:pre=ps:=by simpa using he
  subst hpre
  rw[cS,ot]
  simp only[rU,wd, wa,dQ,decide_false]
  exact hk x5 h1 out S1 g i ho st
 |cons z post ih=>
  intro pre h1 x5 S1 out he g i ho st
  have hlen:pre.length+(post.length+1)=ps.length:=by rw[←he];simp
  have hg:ps[pre.length]?=some z:=by rw[←he];simp
  have hzm:z∈ps:=cK hg
  have hzl:=qo (λq:Value×List Ent=>q.2.length) hzm
  have c1:decide ((pre.length:Int)<(ps.length:Int))=true:=decide_eq_true (by omega)
  have e6:=wrS pre z (by omega)
  have vs:=hv.step fh st (by simp)
  have hsum1:((pre++[z]).map λq=>q.2.length).sum=(pre.map λq=>q.2.length).sum+z.2.length:=by simp
  have hsum2:(ps.map λq=>q.2.length).sum=(pre.map λq=>q.2.length).sum+z.2.length+(post.map λq=>q.2.length).sum:=by rw[←he];simp;omega
  have hln:ls[pre.length]?=some (kl z.2):=by rw[hls,fV,hg];rfl
  rw[bH,ot]
  simp only[rU,wd, wa,c1]
  refine vs.one (u:=z.1) (by rw[fV,hg];rfl) ?_
  simp only[(hi z hzm).lenv,wd, wa]
  refine ⟨z.2.length+1,aau (ha:=hh) (ls:=ls) (n:=pre.length) (T:=(pre.map λq=>q.2.length).sum+z.2.length) (hi z hzm) fh (by omega) (by omega) hln (λx' h' out' S' g' i' ho' st'=>?_) z.2 [] h1 x5 S1 out rfl g i (by omega) st⟩
  simp only[wd, wa,e6]
  have hkl:=il z.2
  rw[←hkl]at i'
  exact ih (pre++[z]) h' x' S' out' (by simpa using he) g' (by simpa using i'.next hln) (by rw[hsum1];exact ho') st'
def flt(dr:Bool)(l:List Ent):List Ent:=l.filter λx=>!dr||!x.g
theorem FA(dr:Bool)(l:List Ent)(x:Ent):flt dr (l++[x])=flt dr l++(if (!dr||!x.g)=true then [x] else []):=by
 unfold flt
 rw[re]
 congr 1
 simp[List.filter_cons]
theorem aav{k4:Value→Hp→Prop}{v:Value}{dr:Bool}{out:List Ent}{hh:Hp}{Sv:List Nat}(hv:Vec w0 hh 3 v out.length (out.flatMap ee) Sv)(fh:w0.heap.size≤hh.next)(hl:out.length≤1000000000)
  (hk:∀h' x S',Step hh h' [] S'→Vec w0 h' 3 x (flt dr out).length ((flt dr out).flatMap ee) S'→k4 x h'):∀(post pre:List Ent) (h1:Hp) (x:Value) (S:List Nat),pre++post=out→Step hh h1 [] S→Vec w0 h1 3 x (flt dr pre).length ((flt dr pre).flatMap ee) S→
   ly prog w0 k4 (post.length+1) (.bool dr) x v (.int .i64 (out.length:Int)) (.int .i64 (pre.length:Int)) h1:=by
 intro post
 induction post with
 |nil=>
  intro pre h1 x S he st g
  have hpre:pre=out:=by simpa using he
  subst hpre
  rw[cS,ly]
  simp only[uC,wd, wa,dQ,decide_false]
  exact hk h1 x S st g
 |cons z post ih=>
  intro pre h1 x S he st g
  have hlen:pre.length+(post.length+1)=out.length:=by rw[←he];simp
  have hg:out[pre.length]?=some z:=by rw[←he];simp
  have c1:decide ((pre.length:Int)<(out.length:Int))=true:=decide_eq_true (by omega)
  have e6:=wrS pre z (by omega)
  have v1:Es w0 h1 v out:=(hv.frame st (by simp)).sl
  have fb:w0.heap.size≤h1.next:=cY fh st.1
  have hml:(flt dr pre).length≤pre.length:=xW _ _
  have hS:=λb hb=>(g.lt b hb).2
  rw[bH,ly]
  simp only[uC,wd, wa,c1]
  refine v1.elem (by omega) (jT hg) ?_
  refine fp fb rfl rfl fM ?_
  have sx:Step h1 (h1.new (ee z) 3) [] [h1.next]:=(Step.refl h1 [] (by simp)).new _ _
  have bx:(h1.new (ee z) 3).blk h1.next=some (ee z):=by simp
  have gx:=g.frame sx (by simp)
  have stx:Step hh (h1.new (ee z) 3) [] S:=st.trans ((sx.less (T:=[]) (by simp)).keepS hS)
  have fbx:w0.heap.size≤(h1.new (ee z) 3).next:=cY fb sx.1
  generalize h1.new (ee z) 3=h2 at *
  have sn:=FA dr pre z
  have app:(!dr||!z.g)=true→aG w0 (.pointer (some ⟨h1.next,0,none⟩)) 3 (λv51=>bI [(0,3,true,v51)] (aL [.string .empty,.string .empty,.bool false] 1) 1 3 λv52=>bD w0 3 40 x v52 λv53=>ly prog w0 k4 (post.length+1) (.bool dr) v53 v (.int .i64 (out.length:Int)) (.int .i64 (((pre++[z]).length:Nat):Int))) h2:=by
   intro hq
   rw[if_pos hq]at sn
   refine cO fb bx rfl ?_
   refine jg fbx gx.gv rfl rfl (by omega) (by omega) (by omega) λx' h3 S3 g3 s3=>?_
   refine ih (pre++[z]) h3 x' S3 (by simpa using he) (stx.trans s3) ?_
   rw[sn,aT,fD]
   simpa using g3
  have skip:(!dr||!z.g)=false→ly prog w0 k4 (post.length+1) (.bool dr) x v (.int .i64 (out.length:Int)) (.int .i64 (((pre++[z]).length:Nat):Int)) h2:=by
   intro hq
   rw[if_neg (by simp[hq]),dG]at sn
   refine ih (pre++[z]) h2 x S (by simpa using he) stx ?_
   rw[sn]
   exact gx
  cases dr with
  |false=>
   simp only[e6,wd, wa]
   exact app rfl
  |true=>
   simp only[wd, wa]
   refine aq (o:=2) (v:=.bool z.g) fb bx rfl ?_
   cases hzg:z.g with
   |false=>
    simp only[e6,wd, wa]
    exact app (by rw[hzg];rfl)
   |true=>
    simp only[e6,wd, wa]
    exact skip (by rw[hzg];rfl)
theorem II{v:Value}{ps:List (Value×List Ent)}(dr:Bool)(hv:Sl w0 h 1 v ps.length (ps.map (·.1)))(hi:∀p:Value×List Ent,p∈ps→Es w0 h p.1 p.2)(hl:ps.length≤2000000)(hl2:(ps.map λq=>q.2.length).sum≤100000000):
  aj prog w0 vV [v,.bool dr] h λr h'=>∃out S',IsM (ps.map λq=>kl q.2) (kl out)∧out.length≤(ps.map λq=>q.2.length).sum∧Vec w0 h' 3 r (flt dr out).length ((flt dr out).flatMap ee) S'∧Step h h' [] S':=by
 refine aj.of_fit (by simpa using hv.junk) λf=>OE (by simpa using hv.junk) ?_
 simp only[BI,hv.lenv,wd, wa]
 refine ⟨ps.length+1,aaw (ls:=ps.map λq=>kl q.2) hv hi f rfl hl hl2 (λx' h1 out S1 g i ho st=>?_) ps [] h _ [] [] rfl .nil ⟨List.Pairwise.nil,by simp[kl],λm l' y hm=>by simp at hm,λl' y _ hy=>by simp at hy⟩ (by simp) (.refl _ _ (by simp))⟩
 have im:IsM (ps.map λq=>kl q.2) (kl out):=by
  have:ps.length=(ps.map λq=>kl q.2).length:=by simp
  rw[this]at i
  exact i.done
 simp only[g.sl.lenv,wd, wa]
 refine ⟨out.length+1,aav g (cY f.base st.1) (by omega) (λh3 x3 S3 s3 g3=>?_) out [] h1 _ [] rfl (.refl _ _ (by simp)) .nil⟩
 simp only[aC,aU]
 exact ⟨by simpa using g3.gv.nj,out,S3,im,ho,g3,(st.less (T:=[]) (by simp)).trans s3⟩
end
