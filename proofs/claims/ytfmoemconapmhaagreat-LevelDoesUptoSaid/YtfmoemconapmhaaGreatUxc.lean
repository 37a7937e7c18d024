/- The document's Step, Get. -/
import Derived.Test.YtfmoemconapmhaaGreatUxb
set_option linter.all false
namespace Go.Proofs.YtfmoemconapmhaaGreat.Ah
open Go
theorem Vs{lv:List (List (List Ent))}{fan n:Nat}(hn:n<lv.length)(h1:∀j,j<n→(lv.getD j []).length<fan)(h2:fan≤(lv.getD n []).length):fS lv fan=some n:=by
 unfold fS
 rw[List.findIdx?_eq_some_iff_getElem]
 refine ⟨hn,?_,λj hj=>?_⟩
 ·rw[cR,bW hn]at h2
  simpa using h2
 ·have:=h1 j hj
  rw[cR,bW (by omega)]at this
  simpa using this
theorem Vu{lv:List (List (List Ent))}{fan:Nat}(h1:∀j,j<lv.length→(lv.getD j []).length<fan):fS lv fan=none:=by
 unfold fS
 rw[List.findIdx?_eq_none_iff]
 intro r hr
 obtain ⟨j,hj,e⟩:=List.mem_iff_getElem.1 hr
 have:=h1 j hj
 rw[cR,bW hj,Option.getD_some,e]at this
 simpa using this
section
variable {w0:World}{h h':Hp}{s:LS}{A:List Nat}
theorem aa9{kr:Value→Hp→Prop}{q qa c n:Nat}{vm xm:Value}{us:List Value}{W:Nat}{x:List Ent}{M:List Nat}(m:RvC w0 h q qa c vm us s A)(ok:LOk s W)(hW:W≤1048576)(fb:w0.heap.size≤h.next)(hn:n<16)(hx:x=eW s.lv n)(g:Vec w0 h 3 xm x.length (x.flatMap ee) M)(hM:∀b,b∈M→b≠q∧b≠qa)
  (hk:∀h' us' U,RvC w0 h' q qa c vm us' { s with lv:=fK s.lv n } (U++(M++A))→Step h h' [qa] (qa::U)→kr (.bool true) h'):
  ∀k:Nat,k=min (n+1) 15→(aF (.pointer (some ⟨q,0,none⟩)) λv37_30=>
 au v37_30 4 λv38_31=>
 al w0 v38_31 λv39_32=>
 aJ 1 v39_32 (.int .i64 (n:Int)) λv41_33=>
 bO w0 v41_33 (.slice none 0 0) λ_=>
 aa (aM xm) λv48_36=>
 aa (ah .gtr v48_36 (.int .i64 0)) λv49_37=>
 aB v49_37 (
 af (λK=>K (.pointer (some ⟨q,0,none⟩))) λv50_38=>
 af (aF v50_38) λv51_39=>
 af (au v51_39 4) λv52_40=>
 aD (al w0 v52_40) λv53_41=>
 af (λK=>K (.int .i64 (k:Int))) λv54_42=>
 af (λK=>K xm) λv55_43=>
 af (λK=>K (.pointer (some ⟨q,0,none⟩))) λv57_44=>
 af (aF v57_44) λv58_45=>
 af (au v58_45 4) λv59_46=>
 aD (al w0 v59_46) λv60_47=>
 af (λK=>K (.int .i64 (k:Int))) λv61_48=>
 af (aJ 1 v60_47 v61_48) λv62_49=>
 aD (al w0 v62_49) λv63_50=>
 p9 w0 v53_41 v60_47 v63_50 v59_46 v62_49 v55_43 k (kr (.bool true))) (
 kr (.bool true))) h:=by
  intro k hkk
  have hlu:=m.lu
  have hlv:=m.ll
  have l1:=m.lq
  have l2:=m.la
  have mM:=m.more (U:=M) λb hb=>⟨(g.lt b hb).2,hM b hb⟩
  simp only[wd, wa]
  refine aq m.hq m.bq (v:=.slice (some ⟨qa,0,none⟩) 16 c) rfl ?_
  refine wrA mM hn rfl ?_
  have sP:Step h (h.put qa (us.set n (.slice none 0 0))) [qa] [qa]:=(Step.refl h [qa] (by simpa using l2)).put (by simp) _
  have bP:(h.put qa (us.set n (.slice none 0 0))).blk qa=some (us.set n (.slice none 0 0)):=by simp
  have m1:=mM.set (U:=[]) sP (by simp) bP m.ez hn (.nil _)
  have nA:∀b,b∈M→b∉[qa]:=λb hb w=>by simp at w;exact (hM b hb).2 w
  have g1:=g.frame sP nA
  have n1:(h.put qa (us.set n (.slice none 0 0))).next=h.next:=rfl
  generalize h.put qa (us.set n (.slice none 0 0))=h1 at *
  simp only[g1.sl.lenv,wd, wa]
  by_cases hz:x=[]
  ·have c0:decide ((0:Int)<(x.length:Int))=false:=by rw[hz];rfl
   have hst:fK s.lv n=s.lv.set n []:=by unfold fK;rw[if_pos (by rw[←hx];exact hz)]
   simp only[c0,wd, wa]
   exact hk h1 _ [] (by rw[hst];exact m1) sP
  ·have hpos:=kX.2 hz
   have c0:decide ((0:Int)<(x.length:Int))=true:=decide_eq_true (by omega)
   have hst:fK s.lv n=(s.lv.set n []).set k (x::(s.lv.set n []).getD k []):=by unfold fK;rw[if_neg (by rw[←hx];exact hz),hkk,hx]
   simp only[c0,wd, wa]
   refine aq m1.hq m1.bq (v:=.slice (some ⟨qa,0,none⟩) 16 c) rfl ?_
   refine aq m1.hq m1.bq (v:=.slice (some ⟨qa,0,none⟩) 16 c) rfl ?_
   have hk16:k<16:=by omega
   obtain ⟨vi,hvi⟩:∃v,(us.set n (.slice none 0 0))[k]?=some v:=⟨_,bW (by rw[i7];omega)⟩
   refine oS hk16 ?_
   refine aq m1.ha m1.ba hvi ?_
   have hln:(({ s with lv:=s.lv.set n [] }:LS).lv.getD k []).length≤1000000:=by
    simp only
    rw[cR,tO]
    split
    ·split <;> simp
    ·rw[←cR]
     have:=ok.lvl k
     omega
   have:=I8 (k:=kr (.bool true)) m1 (by omega) hk16 hvi (x:=xm) (l:=x) g1.sl (λb hb=>by rw[g1.sblk_eq]at hb;simp[hb]) hln λh2 us2 U m2 s2=>?_
   ·simp only[p9,wd, wa]at this ⊢
    exact this
   ·exact hk h2 us2 U (by rw[hst];simpa using m2) (sP.trans s2)
theorem aba{k0 kr:Value→Hp→Prop}{r:Value}{S:List Nat}{W:Nat}(m:Rv w0 h r s S A)(f:Fit w0 h)(ok:LOk s W)(hW:W≤1048576)(h0:fS s.lv s.fan=none→k0 (.bool false) h)
  (hk:∀n,fS s.lv s.fan=some n→∀h' N,Rv w0 h' r { s with lv:=fK s.lv n } S (N++A)→Step h h' S (S++N)→kr (.bool true) h'):
  ∀(k i:Nat),i+k=16→(∀j,j<i→(s.lv.getD j []).length<s.fan)→oF prog w0 k0 kr (k+1) r (.bool false) (.int .i64 (i:Int)) h:=by
 have hlv:=ok.len
 obtain ⟨q,qa,c,vm,us,e,eS,mc⟩:=m.cc
 subst e eS
 intro k
 induction k with
 |zero=>
  intro i hi hj
  have:i=16:=by omega
  subst this
  rw[oF]
  simp only[uP,wd, wa,show decide (((16:Nat):Int)<16)=false from rfl]
  exact h0 (Vu λj hj2=>hj j (by omega))
 |succ k ih=>
  intro i hi hj
  have hlu:=mc.lu
  have c1:decide ((i:Int)<16)=true:=decide_eq_true (by omega)
  have e6:=wrN i (by omega)
  obtain ⟨v,hv⟩:∃v,us[i]?=some v:=⟨us[i]'(by omega),by simp⟩
  have hl:=mc.lv i v hv
  rw[oF]
  simp only[uP,wd, wa,c1]
  refine aq mc.hq mc.bq (v:=.slice (some ⟨qa,0,none⟩) 16 c) rfl ?_
  refine oS (by omega) ?_
  refine aq mc.ha mc.ba hv ?_
  simp only[hl.lenv,wd, wa]
  refine aq mc.hq mc.bq (o:=1) (v:=.int .i64 (s.fan:Int)) rfl ?_
  by_cases hf:(s.lv.getD i []).length<s.fan
  ·have c2:decide (((s.lv.getD i []).length:Int)<(s.fan:Int))=true:=decide_eq_true (by omega)
   simp only[c2,wd, wa,e6]
   exact ih (i+1) (by omega) λj hj2=>by
    by_cases e:j=i
    ·rw[e];exact hf
    ·exact hj j (by omega)
  ·have c2:decide (((s.lv.getD i []).length:Int)<(s.fan:Int))=false:=decide_eq_false (by omega)
   have hfull:=Vs (lv:=s.lv) (by omega) hj (by omega)
   simp only[c2,wd, wa]
   refine aq mc.hq mc.bq (v:=.slice (some ⟨qa,0,none⟩) 16 c) rfl ?_
   refine oS (by omega) ?_
   refine aq mc.ha mc.ba hv ?_
   refine aA (IU m (by omega)) λw h2 ⟨e,e'⟩ f2=>?_
   subst e e'
   simp only[dU,eX,dL,ft]
   refine ⟨⟨aq mc.ha mc.ba hv rfl,aq mc.hq mc.bq rfl rfl⟩,?_⟩
   obtain ⟨ps,ep,gp,op,rp⟩:=hl
   have hgi:s.lv[i]?=some (s.lv.getD i []):=by rw[cR,bW (by omega)];rfl
   have hsum1:=xy hgi
   have hsum2:=LX (s.lv.getD i [])
   have sz:=ok.size
   have hlv4:=ok.lvl i
   have hmem:s.lv.getD i []∈s.lv:=cK hgi
   have hpl:ps.length=(s.lv.getD i []).length:=by rw[ep,eA]
   have hps:(ps.map λq=>q.2.length)=(s.lv.getD i []).map List.length:=by rw[ep,gT];rfl
   simp only[wd, wa]
   refine aA (II (ps:=ps) (!jS s.lv i) gp (λp hp=>(rp p hp).1) (by omega) (by rw[hps];omega)) λv3 h3 ⟨out,M,im,ho,g3,s3⟩ f3=>?_
   have hkm:(ps.map λp=>kl p.2)=(s.lv.getD i []).map kl:=by rw[ep,gT];rfl
   rw[hkm]at im
   have hout:out=dZ (s.lv.getD i []):=GE (vq (λl hl=>uh (ok.rok _ hmem l hl).1) im)
   have l1:=mc.lq
   have l2:=mc.la
   have hM:∀b,b∈M→h2.next≤b:=λb hb=>by rcases (s3.own b hb).2 with w|w;simp at w;exact w
   have m3:=mc.step0 s3
   have fin:∀h4 us4 U,RvC w0 h4 q qa c vm us4 { s with lv:=fK s.lv i } (U++(M++A))→Step h3 h4 [qa] (qa::U)→kr (.bool true) h4:=λh4 us4 U m4 s4=>by
    refine hk i hfull h4 (U++M) (by rw[cM];exact m4.rv) ?_
    have sa:Step h2 h3 [q,qa] ([q,qa]++M):=s3.wide (by simp) λb hb=>by
     rcases aS.1 hb with w|w
     ·exact .inr ⟨w,(m.lt b w).2⟩
     ·exact .inl w
    refine sa.trans (s4.wide (by simp) λb hb=>?_)
    simp only[aS,bB,List.not_mem_nil,or_false]at hb ⊢
    rcases hb with (w|w)|w|w
    ·exact .inr ⟨.inl (.inl w),by have:=s3.1;omega⟩
    ·exact .inl (.inl w)
    ·exact .inl (.inr w)
    ·exact .inr ⟨.inr w,(s3.own b w).1⟩
   have hx:flt (!jS s.lv i) out=eW s.lv i:=by unfold eW;rw[hout]
   have:=aa9 m3 ok hW f3.base (by omega:i<16) hx g3 (λb hb=>by have:=hM b hb;omega) fin
   by_cases h15:i=15
   ·subst h15
    have t:=this 15 rfl
    simp only[p9,wd, wa]at t
    simp only[wd, wa,e6,show (((15+1:Nat):Int)==16)=true from rfl]
    exact t
   ·have t:=this (i+1) (by omega)
    have c3:(((i+1:Nat):Int)==16)=false:=by simp;omega
    simp only[p9,wd, wa]at t
    simp only[wd, wa,e6,c3]
    exact t
theorem ZI{r:Value}{S:List Nat}{W:Nat}(m:Rv w0 h r s S A)(ok:LOk s W)(hW:W≤1048576):
  aj prog w0 A1 [r] h λv h'=>∃N,v=.bool (fS s.lv s.fan).isSome∧Rv w0 h' r s.step S (N++A)∧Step h h' S (S++N):=by
 refine aj.of_fit (by simpa using m.nj) λf=>OW (by simpa using m.nj) ?_
 simp only[BU]
 refine ⟨16+1,aba m f ok hW (λhn=>?_) (λn hn h1 N m1 s1=>?_) 16 0 rfl λj hj=>by omega⟩
 ·simp only[aC,aU,hn]
  exact ⟨by simp,[],rfl,by rw[LT hn];exact m,by rw[dG];exact .refl _ _ λb hb=>(m.lt b hb).2⟩
 ·simp only[aC,aU,hn]
  have:s.step={ s with lv:=fK s.lv n }:=by unfold LS.step;rw[hn]
  exact ⟨by simp,N,rfl,by rw[this];exact m1,s1⟩
theorem aao{k0 kr:Value→Value→Hp→Prop}{v:Value}{k:Key}{l:List Ent}{hh:Hp}(f:Fit w0 hh)(hv:Sl w0 hh 2 v l.length (l.flatMap pe))(hl:l.length≤1000000000)
  (h0:(∀x,x∈l→x.k≠k)→∀h1,Step hh h1 [] []→k0 (.string .empty) (.bool false) h1) (hk:∀x,x∈l→x.k=k→∀h1,Step hh h1 [] []→kr (.string (str x.v)) (.bool true) h1):
  ∀(post pre:List Ent) (h1:Hp),pre++post=l→(∀x,x∈pre→x.k≠k)→Step hh h1 [] []→
   oA prog w0 k0 kr (post.length+1) (.string (str k)) (.string .empty) (.bool false) v (.int .i64 (l.length:Int)) (.int .i64 (pre.length:Int)) h1:=by
 intro post
 induction post with
 |nil=>
  intro pre h1 he hp st
  have hpre:pre=l:=by simpa using he
  subst hpre
  rw[cS,oA]
  simp only[uJ,wd, wa,dQ,decide_false]
  exact h0 hp h1 st
 |cons z post ih=>
  intro pre h1 he hp st
  have hlen:pre.length+(post.length+1)=l.length:=by rw[←he];simp
  have hg:l[pre.length]?=some z:=by rw[←he];simp
  have c1:decide ((pre.length:Int)<(l.length:Int))=true:=decide_eq_true (by omega)
  have e6:=wrS pre z (by omega)
  have fb:w0.heap.size≤h1.next:=cY f.base st.1
  rw[bH,oA]
  simp only[uJ,wd, wa,c1]
  refine Sl.elem (hv.step f st (by simp)) (by omega) (Bo hg) ?_
  refine fp fb rfl rfl (by simp[aE]) ?_
  have sx:Step h1 (h1.new (pe z) 2) [] []:=((Step.refl h1 [] (by simp)).new _ _).less (by simp)
  have bx:(h1.new (pe z) 2).blk h1.next=some (pe z):=by simp
  have stx:=st.trans sx
  generalize h1.new (pe z) 2=hx at *
  simp only[wd, wa]
  refine aq fb bx rfl ?_
  rw[lV]
  by_cases hz:z.k=k
  ·have c2:decide (z.k=k)=true:=decide_eq_true hz
   simp only[c2,wd, wa]
   refine aq fb bx rfl ?_
   exact hk z (by rw[←he];simp) hz hx stx
  ·have c2:decide (z.k=k)=false:=decide_eq_false hz
   simp only[c2,wd, wa,e6]
   exact ih (pre++[z]) hx (by simpa using he) (λx hx=>by
    rcases aS.1 hx with w|w
    ·exact hp x w
    ·simp at w;rw[w];exact hz) stx
theorem ZC{r:Value}{S:List Nat}{W:Nat}(k:Key)(m:Rv w0 h r s S A)(ok:LOk s W)(hW:W≤1048576):
  aj prog w0 Az [r,.string (str k)] h λv h'=>v=.tuple #[.string (str (vOf (look s.lists k))),.bool (gOf (look s.lists k))]∧Step h h' [] []:=by
 refine aj.of_fit (by simp[m.nj]) λf=>OR (by simp[m.nj]) ?_
 have hvl:=CC ok hW
 have em:(.string .empty:Value)=.string (str []):=rfl
 have hval:=V1 ok k
 have hrt:∀x,look s.lists k=some x→bE x=true:=λx hx=>by
  unfold look at hx
  obtain ⟨l,hl,e⟩:=List.exists_of_findSome?_eq_some hx
  have hm:=(gY e).1
  rcases bB.1 hl with w|w
  ·subst w;exact ok.mright x hm
  ·obtain ⟨r,hr,hlr⟩:=ib.1 w
   exact yz (ok.rok r hr l hlr).1 x hm
 simp only[BQ]
 rw[em]
 refine aA (By m ok hW [] []) λv h1 ⟨S1,g1,s1⟩ f1=>?_
 rw[aaz]at g1
 have s10:Step h h1 [] []:=s1.less (by simp)
 simp only[g1.sl.lenv,wd, wa]
 refine ⟨s.view.length+1,aao (hh:=h1) f1 g1.sl (by omega) (λhn h2 s2=>?_) (λx hx hxk h2 s2=>?_) s.view [] h1 rfl (by simp) (.refl _ _ (by simp))⟩
 ·have hg:cC s.view k=none:=by
   cases e:cC s.view k with
   |none=>rfl
   |some x=>obtain ⟨a,b⟩:=gY e;exact absurd b (hn x a)
  rw[hg]at hval
  unfold LS.val at hval
  simp only[aC,cG]
  refine ⟨by simp,?_,s10.trans s2⟩
  cases hlk:look s.lists k with
  |none=>rfl
  |some x=>
   rw[hlk]at hval
   have hxg:x.g=true:=by
    cases hg:x.g with
    |true=>rfl
    |false=>simp[Option.filter,hg]at hval
   have:=((iu x).1 (hrt x hlk)).2.2.2 hxg
   simp only[vOf,gOf,this,hxg]
   rfl
 ·have hg:=(sw (aef s) k x).2 ⟨hx,hxk⟩
  rw[hg]at hval
  unfold LS.val at hval
  simp only[aC,cG]
  refine ⟨by simp,?_,s10.trans s2⟩
  cases hlk:look s.lists k with
  |none=>rw[hlk]at hval;simp at hval
  |some y=>
   rw[hlk]at hval
   cases hyg:y.g with
   |true=>simp[Option.filter,hyg]at hval
   |false=>
    simp[Option.filter,hyg]at hval
    subst hval
    simp[vOf,gOf,hyg]
end
structure DI(s:LS)(W c:Nat):Prop where
 ok:LOk s W
 tot:s.tot≤c
 big:W≤132*c
theorem DI.flush{s:LS}{W c:Nat}(d:DI s W c):DI s.flush W (c+1):=⟨Yh d.ok,by have:=Ma d.ok.len;have:=d.tot;omega,by have:=d.big;omega⟩
theorem DI.step{s:LS}{W c:Nat}(d:DI s W c):DI s.step W (c+1):=⟨Yq d.ok,by have:=adz d.ok;have:=d.tot;omega,by have:=d.big;omega⟩
theorem DI.same{s:LS}{W c:Nat}(d:DI s W c):DI s W (c+1):=⟨d.ok,by have:=d.tot;omega,by have:=d.big;omega⟩
theorem DI.put{s:LS}{W c:Nat}{x:Ent}(d:DI s W c)(hx:bE x=true):DI (s.put x) (W+(x.k.length+x.v.length+4)) (c+1):=
 ⟨qF d.ok hx,by have:=ady x d.ok.len;have:=d.tot;omega,by have:=d.big;have:=(iu x).1 hx;omega⟩
theorem DI.man{s:LS}{W c:Nat}(d:DI s W c)(hW:W+2*c≤1048576):(cH s).length≤1048576:=Yx d.ok hW d.tot
section
variable {w0:World}{h h':Hp}{p r:Value}{s s':LS}{S S' A Sr Ar N:List Nat}
theorem tE(m:Lv w0 h p s S A)(mr:Rv w0 h r s Sr Ar)(d:∀b,b∈S++A→b∉Sr++Ar)(st:Step h h' S (S'++N)):Rv w0 h' r s Sr Ar∧(∀b,b∈S'++(N++A)→b∉Sr++Ar)∧Step h h' (S++Sr) (S'++Sr):=by
 have hlt:∀b,b∈Sr++Ar→b<h.next:=λb hb=>by
  rcases aS.1 hb with w|w
  ·exact (mr.lt b w).2
  ·exact mr.ltA b w
 have hd:∀b,b∈Sr++Ar→b∉S:=λb hb w=>d b (by simp[w]) hb
 refine ⟨mr.frame st (λb hb=>hd b (by simp[hb])) (λb hb=>hd b (by simp[hb])),λb hb w=>?_,st.wide (by simp +contextual) λb hb=>?_⟩
 ·have own:b∈S'++N→False:=λhb=>by
   rcases (st.own b hb).2 with q|q
   ·exact hd b w q
   ·have:=hlt b w;omega
  simp only[aS]at hb
  rcases hb with e|e|e
  ·exact own (by simp[e])
  ·exact own (by simp[e])
  ·exact d b (by simp[e]) w
 ·rcases aS.1 hb with w|w
  ·exact .inl (by simp[w])
  ·exact .inr ⟨by simp[w],(mr.lt b w).2⟩
theorem ad3(m:Lv w0 h p s' S A)(mr:Rv w0 h r s Sr Ar)(d:∀b,b∈S++A→b∉Sr++Ar)(st:Step h h' Sr (Sr++N)):Lv w0 h' p s' S A∧(∀b,b∈S++A→b∉Sr++(N++Ar))∧Step h h' (S++Sr) (S++Sr):=by
 have hlt:∀b,b∈S++A→b<h.next:=λb hb=>by
  rcases aS.1 hb with w|w
  ·exact (m.lt b w).2
  ·exact m.ltA b w
 have hd:∀b,b∈S++A→b∉Sr:=λb hb w=>d b hb (by simp[w])
 refine ⟨m.frame st (λb hb=>hd b (by simp[hb])) (λb hb=>hd b (by simp[hb])),λb hb w=>?_,st.wide (by simp +contextual) λb hb=>?_⟩
 ·simp only[aS]at w
  rcases w with e|e|e
  ·exact hd b hb e
  ·rcases (st.own b (by simp[e])).2 with q|q
   ·exact hd b hb q
   ·have:=hlt b hb;omega
  ·exact d b hb (by simp[e])
 ·rcases aS.1 hb with w|w
  ·exact .inr ⟨by simp[w],(m.lt b w).2⟩
  ·exact .inl (by simp[w])
theorem SG{W c:Nat}(o:LOp)(m:Lv w0 h p s S A)(mr:Rv w0 h r s Sr Ar)(d:∀b,b∈S++A→b∉Sr++Ar)(di:DI s W c)(hW:W+2*c+(o.key.length+o.to.length+o.v.length+6)≤1048576):
  aj prog w0 Am [p,r,.agg o.e.toArray] h λv h'=>∃s' W' S' A' Ar',v=.bool true∧Lv w0 h' p s' S' A'∧Rv w0 h' r s' Sr Ar'∧(∀b,b∈S'++A'→b∉Sr++Ar')∧Step h h' (S++Sr) (S'++Sr)∧DI s' W' (c+1)∧W'+2*(c+1)≤W+2*c+(o.key.length+o.to.length+o.v.length+6)∧s'.bl=s.bl∧s'.fan=s.fan∧s'.top=s.top:=by
 refine aj.of_fit (by simp[m.nj,mr.nj]) λf=>Oy (by simp[m.nj,mr.nj]) ?_
 have fb:=f.base
 have ok:=di.ok
 have hlv:=ok.len
 have hnum:=ok.num
 have hrun:=ok.runs
 have hsz:=ok.size
 have hman:=di.man (by omega)
 have hlS:∀b,b∈S++Sr→b<h.next:=λb hb=>by
  rcases aS.1 hb with w|w
  ·exact (m.lt b w).2
  ·exact (mr.lt b w).2
 simp only[JQ]
 refine iJ (e:=o.e) ?_
 have s1:Step h (h.new o.e 5) [] []:=((Step.refl h [] (by simp)).new _ _).less (by simp)
 have b1:(h.new o.e 5).blk h.next=some o.e:=by simp
 have n1:h.next<(h.new o.e 5).next:=by simp
 have m1:=m.step0 s1
 have mr1:=mr.step0 s1
 generalize h.new o.e 5=h1 at *
 have hbx:∀{h2:Hp} {T X:List Nat},Step h1 h2 T X→(∀b,b∈T→b<h.next)→h2.blk h.next=some o.e:=λst hT=>by rw[(st.keep _ n1 (λw=>by have:=hT _ w;omega)).1];exact b1
 have hS:∀b,b∈S→b<h.next:=λb hb=>hlS b (by simp[hb])
 have hSr:∀b,b∈Sr→b<h.next:=λb hb=>hlS b (by simp[hb])
 have fin:∀{h2:Hp},Step h1 h2 [] []→ar [.bool true] (λv h'=>∃s' W' S' A' Ar',v=.bool true∧Lv w0 h' p s' S' A'∧Rv w0 h' r s' Sr Ar'∧(∀b,b∈S'++A'→b∉Sr++Ar')∧Step h h' (S++Sr) (S'++Sr)∧DI s' W' (c+1)∧W'+2*(c+1)≤W+2*c+(o.key.length+o.to.length+o.v.length+6)∧s'.bl=s.bl∧s'.fan=s.fan∧s'.top=s.top) h2:=λst=>by
  simp only[aC,aU]
  exact ⟨by simp,s,W,S,A,Ar,trivial,m1.step0 st,mr1.step0 st,d,(s1.trans st).keepS hlS,di.same,by omega,rfl,rfl,rfl⟩
 have fin2:∀{h2 h3:Hp} {S2 N2 N3:List Nat} {s2:LS} {W2:Nat},Step h1 h2 S (S2++N2)→Lv w0 h2 p s2 S2 (N2++A)→Step h2 h3 Sr (Sr++N3)→Rv w0 h3 r s2 Sr (N3++Ar)→DI s2 W2 (c+1)→W2+2*(c+1)≤W+2*c+(o.key.length+o.to.length+o.v.length+6)→(s2.bl=s.bl∧s2.fan=s.fan∧s2.top=s.top)→
   ar [.bool true] (λv h'=>∃s' W' S' A' Ar',v=.bool true∧Lv w0 h' p s' S' A'∧Rv w0 h' r s' Sr Ar'∧(∀b,b∈S'++A'→b∉Sr++Ar')∧Step h h' (S++Sr) (S'++Sr)∧DI s' W' (c+1)∧W'+2*(c+1)≤W+2*c+(o.key.length+o.to.length+o.v.length+6)∧s'.bl=s.bl∧s'.fan=s.fan∧s'.top=s.top) h3:=λst2 m2 st3 mr3 di2 hW2 hn2=>by
  obtain ⟨a1,a2,a3⟩:=tE m1 mr1 d st2
  obtain ⟨c1,c2,c3⟩:=ad3 m2 a1 a2 st3
  simp only[aC,aU]
  exact ⟨by simp,_,_,_,_,_,trivial,c1,mr3,c2,(s1.keepS hlS).trans (a3.trans c3),di2,hW2,hn2⟩
 simp only[wd, wa]
 refine aq fb b1 rfl ?_
 simp only[wd, wa]
 by_cases hk0:o.k=0
 ·have d0:(o.k==0)=true:=by simp[hk0]
  simp only[d0,wd, wa]
  refine aq fb b1 rfl ?_
  refine aq fb b1 rfl ?_
  refine aq fb b1 rfl ?_
  refine aq fb b1 rfl ?_
  refine aA (rt o.key o.v m1 ok (by omega)) λu h2 ⟨S2,N2,e,m2,s2⟩ f2=>?_
  subst e
  have b2:=hbx s2 hS
  obtain ⟨a1,a2,a3⟩:=tE m1 mr1 d s2
  simp only[dU,eX,dL,ft]
  refine ⟨⟨aq fb b2 rfl rfl,aq fb b2 rfl rfl⟩,?_⟩
  refine aA (ZH o.key o.v a1 ok (by omega)) λu h3 ⟨N3,e,mr3,s3⟩ f3=>?_
  subst e
  simp only[wd, wa,beq_self_eq_true]
  cases hx:bE ⟨o.key,o.v,false⟩ with
  |true=>
   rw[hx]at m2 mr3
   exact fin2 s2 m2 s3 mr3 (di.put hx) (by simp only;omega) (by simp only[if_true];exact zW s _)
  |false=>
   rw[hx]at m2 mr3
   exact fin2 s2 m2 s3 mr3 di.same (by omega) ⟨rfl,rfl,rfl⟩
 have d0:(o.k==0)=false:=by simpa using hk0
 simp only[d0,wd, wa]
 by_cases hk1:o.k=1
 ·have d1:(o.k==1)=true:=by simp[hk1]
  simp only[d1,wd, wa]
  refine aq fb b1 rfl ?_
  refine aq fb b1 rfl ?_
  refine aA (CM o.key m1 ok (by omega)) λu h2 ⟨S2,N2,e,m2,s2⟩ f2=>?_
  subst e
  have b2:=hbx s2 hS
  obtain ⟨a1,a2,a3⟩:=tE m1 mr1 d s2
  simp only[dU,eX,dL,ft]
  refine ⟨aq fb b2 rfl rfl,?_⟩
  refine aA (Z8 o.key a1 ok (by omega)) λu h3 ⟨N3,e,mr3,s3⟩ f3=>?_
  subst e
  simp only[wd, wa,beq_self_eq_true]
  cases hx:bE ⟨o.key,[],true⟩ with
  |true=>
   rw[hx]at m2 mr3
   exact fin2 s2 m2 s3 mr3 (di.put hx) (by simp only[cS];omega) (by simp only[if_true];exact zW s _)
  |false=>
   rw[hx]at m2 mr3
   exact fin2 s2 m2 s3 mr3 di.same (by omega) ⟨rfl,rfl,rfl⟩
 have d1:(o.k==1)=false:=by simpa using hk1
 simp only[d1,wd, wa]
 have hlvl:∀i,(s.lv.getD i []).length≤1000000:=λi=>by have:=ok.lvl i;omega
 by_cases hk2:o.k=2
 ·have d2:(o.k==2)=true:=by simp[hk2]
  simp only[d2,wd, wa]
  refine aq fb b1 rfl ?_
  refine aA (xP m1 hlvl o.key) λu h2 ⟨e,s2⟩ f2=>?_
  subst e
  simp only[wd, wa]
  refine aq fb (hbx s2 (by simp)) rfl ?_
  refine aA (ZC o.key (mr1.step0 s2) ok (by omega)) λu h3 ⟨e,s3⟩ f3=>?_
  subst e
  simp only[wd, wa]
  rw[lV]
  simp only[decide_true,wd, wa,yr,beq_self_eq_true]
  exact fin (s2.trans s3)
 have d2:(o.k==2)=false:=by simpa using hk2
 simp only[d2,wd, wa]
 by_cases hk3:o.k=3
 ·have d3:(o.k==3)=true:=by simp[hk3]
  simp only[d3,wd, wa]
  refine aq fb b1 rfl ?_
  refine aq fb b1 rfl ?_
  refine aq fb b1 rfl ?_
  refine aq fb b1 rfl ?_
  refine aq fb b1 rfl ?_
  refine aA (By mr1 ok (by omega) o.key o.to) λu h2 ⟨S2,g2,s2⟩ f2=>?_
  have b2:=hbx s2 (by simp)
  have s20:Step h1 h2 [] []:=s2.less (by simp)
  simp only[dU,eX,dL,ft]
  refine ⟨⟨aq fb b2 rfl rfl,aq fb b2 rfl rfl,aq fb b2 rfl rfl⟩,?_⟩
  refine aA (Lm (m1.step0 s20) ok (by omega) g2.sl λb hb=>by rw[g2.sblk_eq]at hb;exact (g2.lt b hb).2) λu h3 ⟨e,s3⟩ f3=>?_
  subst e
  exact fin (s20.trans s3)
 have d3:(o.k==3)=false:=by simpa using hk3
 simp only[d3,wd, wa]
 by_cases hk4:o.k=4
 ·have d4:(o.k==4)=true:=by simp[hk4]
  simp only[d4,wd, wa]
  refine aA (xO m1 hnum.1 hnum.2.1 (rJ ok.mright ok.msrt) (by omega) (hlvl 0)) λu h2 ⟨S2,N2,e,m2,s2⟩ f2=>?_
  subst e
  obtain ⟨a1,a2,a3⟩:=tE m1 mr1 d s2
  refine aA (IH a1 (hlvl 0)) λu h3 ⟨N3,e,mr3,s3⟩ f3=>?_
  subst e
  simp only[wd, wa,yr,beq_self_eq_true]
  exact fin2 s2 m2 s3 mr3 di.flush (by omega) (Ie s)
 have d4:(o.k==4)=false:=by simpa using hk4
 simp only[d4,wd, wa]
 by_cases hk5:o.k=5
 ·have d5:(o.k==5)=true:=by simp[hk5]
  simp only[d5,wd, wa]
  refine aA (Dj m1 ok (by omega)) λu h2 ⟨S2,N2,e,m2,s2⟩ f2=>?_
  subst e
  obtain ⟨a1,a2,a3⟩:=tE m1 mr1 d s2
  refine aA (ZI a1 ok (by omega)) λu h3 ⟨N3,e,mr3,s3⟩ f3=>?_
  subst e
  simp only[wd, wa,yr,beq_self_eq_true]
  exact fin2 s2 m2 s3 mr3 di.step (by omega) (Yp s)
 have d5:(o.k==5)=false:=by simpa using hk5
 simp only[d5,wd, wa]
 by_cases hk6:o.k=6
 ·have d6:(o.k==6)=true:=by simp[hk6]
  have hrl:(bY s.lv).length≤16:=by
   unfold bY
   rw[dV,eA]
   omega
  simp only[d6,wd, wa]
  refine aA (rz m1) λu h2 ⟨S2,g2,o2,s2⟩ f2=>?_
  have s20:Step h1 h2 [] []:=s2.less (by simp)
  refine aA (Bz (mr1.step0 s20)) λu h3 ⟨S3,g3,s3⟩ f3=>?_
  refine aA (vl (g2.step f2 s3 (by simp)) g3.sl (by omega)) λu h4 ⟨e,e'⟩ f4=>?_
  subst e
  subst h4
  simp only[decide_true,wd, wa]
  exact fin (s20.trans (s3.less (by simp)))
 have d6:(o.k==6)=false:=by simpa using hk6
 simp only[d6,wd, wa]
 by_cases hk7:o.k=7
 ·have d7:(o.k==7)=true:=by simp[hk7]
  simp only[d7,wd, wa]
  refine aA (F2 m1 mr1 ok (by omega) hman) λu h2 ⟨e,s2⟩ f2=>?_
  subst e
  exact fin s2
 have d7:(o.k==7)=false:=by simpa using hk7
 simp only[d7,wd, wa]
 exact fin (.refl _ _ (by simp))
end
theorem DI.cut{s:LS}{W c:Nat}(d:DI s W c):DI { s with mem:=[] } W (c+1):=
 ⟨⟨d.ok.right,d.ok.len,.nil,by simp,by have:=d.ok.num;show 0<s.top;omega,d.ok.rok,by
  have:=d.ok.size
  show aY []+(s.lv.flatten.map aY).sum≤W
  have h0:aY []=0:=rfl
  omega⟩, by have:({ s with mem:=[] }:LS).tot=s.tot:=rfl
             have:=d.tot
             omega,by have:=d.big;omega⟩
def fkE:Ent:=⟨[97,32,102,111,114,107,39,115,32,111,119,110],[120],false⟩
section
variable {w0:World}{h h':Hp}
theorem XB{k0 kr:Value→Value→Value→Hp→Prop}{px:Nat}{b f t:Int}{vs v x2:Value}{l:List LOp}(hx:∀h,Fit w0 h→Sl w0 h 5 v l.length (l.flatMap LOp.e))(hl:l.length≤1048576)(hpx:w0.heap.size≤px)
  (hk:∀h1 p r s S A Sr Ar W c,Lv w0 h1 p s S A→Rv w0 h1 r s Sr Ar→DI s W c→W+2*c≤1048576→k0 x2 p r h1):
  ∀(post pre:List LOp) (h1:Hp) (p r:Value) (s:LS) (S A Sr Ar:List Nat) (W c:Nat),pre++post=l→Fit w0 h1→Lv w0 h1 p s S A→Rv w0 h1 r s Sr Ar→(∀b,b∈S++A→b∉Sr++Ar)→DI s W c→W+2*c+ke post≤1048576→((s.bl:Int)=b∧(s.fan:Int)=f∧(s.top:Int)=t)→px∉S++Sr→h1.blk px=some (gt b f t vs)→px<h1.next→
   mD prog w0 k0 kr (post.length+1) (.pointer (some ⟨px,0,none⟩)) x2 p r v (.int .i64 (l.length:Int)) (.int .i64 (pre.length:Int)) h1:=by
 intro post
 induction post with
 |nil=>
  intro pre h1 p r s S A Sr Ar W c he f1 m mr d di hW hn hpS hb hpl
  have hpre:pre=l:=by simpa using he
  subst hpre
  rw[cS,mD]
  simp only[ut,wd, wa,dQ,decide_false]
  exact hk h1 p r s S A Sr Ar W c m mr di (by omega)
 |cons o post ih=>
  intro pre h1 p r s S A Sr Ar W c he f1 m mr d di hW hn hpS hb hpl
  have hlen:pre.length+(post.length+1)=l.length:=by rw[←he];simp
  have hg:l[pre.length]?=some o:=by rw[←he];simp
  have c1:decide ((pre.length:Int)<(l.length:Int))=true:=decide_eq_true (by omega)
  have e6:IntKind.i64.wrap ((pre.length:Int)+1)=((pre.length+1:Nat):Int):=by rw[bM _ (by omega)];simp
  have hcost:=I0 o post
  have ok:=di.ok
  have hnum:=ok.num
  have hsz:=ok.size
  have hrun:=ok.runs
  have hman:=di.man (by omega)
  have nxt:∀(h2:Hp) (p' r':Value) (s':LS) (S' A' Sr' Ar':List Nat) (W' c':Nat),Fit w0 h2→Lv w0 h2 p' s' S' A'→Rv w0 h2 r' s' Sr' Ar'→(∀b,b∈S'++A'→b∉Sr'++Ar')→DI s' W' c'→W'+2*c'+ke post≤1048576→(s'.bl=s.bl∧s'.fan=s.fan∧s'.top=s.top)→px∉S'++Sr'→h2.blk px=some (gt b f t vs)→px<h2.next→
    mD prog w0 k0 kr (post.length+1) (.pointer (some ⟨px,0,none⟩)) x2 p' r' v (.int .i64 (l.length:Int)) (.int .i64 ((pre.length+1:Nat):Int)) h2:=by
   intro h2 p' r' s' S' A' Sr' Ar' W' c' f2 m2 mr2 d2 di2 hW2 hn2 hp2 hb2 hl2
   have:=ih (pre++[o]) h2 p' r' s' S' A' Sr' Ar' W' c' (by simpa using he) f2 m2 mr2 d2 di2 hW2 (by rw[hn2.1,hn2.2.1,hn2.2.2];exact hn) hp2 hb2 hl2
   simpa using this
  have fb:=f1.base
  rw[bH,mD]
  simp only[ut,wd, wa,c1]
  refine (hx h1 f1).elem (by omega) (YP hg) ?_
  refine fp fb rfl rfl (by simp[aE]) ?_
  have s1:Step h1 (h1.new o.e 5) [] []:=((Step.refl h1 [] (by simp)).new _ _).less (by simp)
  have b1:(h1.new o.e 5).blk h1.next=some o.e:=by simp
  have n1:(h1.new o.e 5).next=h1.next+1:=rfl
  have f2:Fit w0 (h1.new o.e 5):=f1.new (by simp[LOp.e,aE])
  have m2:=m.step0 s1
  have mr2:=mr.step0 s1
  have hb2:(h1.new o.e 5).blk px=some (gt b f t vs):=by rw[(s1.keep px hpl (by simp)).1];exact hb
  generalize h1.new o.e 5=h2 at *
  have hlS:∀b,b∈S→b<h2.next:=λb hb=>(m2.lt b hb).2
  have hlA:∀b,b∈A→b<h2.next:=m2.ltA
  have hlSr:∀b,b∈Sr→b<h2.next:=λb hb=>(mr2.lt b hb).2
  have hlAr:∀b,b∈Ar→b<h2.next:=mr2.ltA
  have hpx2:∀{h3:Hp} {X:List Nat},Step h2 h3 [] X→h3.blk px=some (gt b f t vs):=λst=>by rw[(st.keep px (by omega) (by simp)).1];exact hb2
  simp only[wd, wa]
  refine aq fb b1 rfl ?_
  simp only[wd, wa]
  have ht:(.agg ([.int .i64 b,.int .i64 f,.int .i64 t]:List Value).toArray:Value)=eZ (s.bl:Int) (s.fan:Int) (s.top:Int):=by
   rw[hn.1,hn.2.1,hn.2.2];rfl
  by_cases hk8:o.k=8
  ·have d8:(o.k==8)=true:=by simp[hk8]
   simp only[d8,wd, wa]
   refine gN (e:=[.int .i64 b,.int .i64 f,.int .i64 t]) hpx hb2 rfl ?_
   refine aA (yc m2 ok (by omega) hman) λv80 h5 ⟨S5,g5,s5⟩ f5=>?_
   simp only[dU,eX,dL,lW]
   refine ⟨gN (e:=[.int .i64 b,.int .i64 f,.int .i64 t]) hpx (hpx2 s5) rfl rfl,?_⟩
   have m5:=m2.step0 s5
   refine aA (CN m5 (by omega)) λv82 h6 ⟨S0,ps,fm,efm,o1,o2,s6⟩ f6=>?_
   have s26:Step h2 h6 [] []:=(s5.less (T:=[]) (by simp)).trans s6
   simp only[dU,eX,dL,lW]
   refine ⟨gN (e:=[.int .i64 b,.int .i64 f,.int .i64 t]) hpx (hpx2 s26) rfl rfl,?_⟩
   obtain ⟨D,gD,eD,hD⟩:=Mw fm efm
   rw[ht]
   refine aA (M4 ok (by omega) hman (g5.frame s6 (by simp)).gv gD.sl (λb hb=>by rw[gD.sblk_eq]at hb;exact (gD.lt b hb).2) eD hD) λw h7 ⟨p7,S7,A7,e7,m7,s7⟩ f7=>?_
   subst e7
   obtain ⟨qp,ep⟩:=m7.ptrV
   subst ep
   have s27:Step h2 h7 [] []:=s26.trans (s7.less (by simp))
   have mr7:=mr2.step0 s27
   simp only[wd, wa]
   refine gN (e:=[.int .i64 b,.int .i64 f,.int .i64 t]) hpx (hpx2 s27) rfl ?_
   refine aA (Bx mr7 ok (by omega) hman) λu h8 ⟨e8,s8⟩ f8=>?_
   subst e8
   have s28:=s27.trans s8
   simp only[dU,eX,dL,lW]
   refine ⟨gN (e:=[.int .i64 b,.int .i64 f,.int .i64 t]) hpx (hpx2 s28) rfl rfl,?_⟩
   refine aA (Bw (mr7.step0 s8) ok (by omega)) λu h9 ⟨S9,g9,s9⟩ f9=>?_
   have s29:Step h2 h9 [] []:=s28.trans (s9.less (by simp))
   simp only[dU,eX,dL,lW]
   refine ⟨gN (e:=[.int .i64 b,.int .i64 f,.int .i64 t]) hpx (hpx2 s29) rfl rfl,?_⟩
   rw[ht]
   refine aA (ZD ok (by omega) hman g9.sl λb hb=>by rw[g9.sblk_eq]at hb;exact (g9.lt b hb).2) λw h10 ⟨p10,S10,A10,e10,m10,s10⟩ f10=>?_
   subst e10
   obtain ⟨qr,er⟩:=m10.ptrV
   subst er
   have c3:cN .neq (.pointer (some ⟨qp,0,none⟩)) (.pointer none)=some (.bool true):=rfl
   have c4:cN .neq (.pointer (some ⟨qr,0,none⟩)) (.pointer none)=some (.bool true):=rfl
   have s79:Step h7 h9 [] []:=s8.trans (s9.less (by simp))
   have m10':=(m7.step0 s79).step0 s10
   have hN7:∀b,b∈S7++A7→h6.next≤b∧b<h7.next:=λb hb=>⟨by rcases (s7.own b hb).2 with w|w;simp at w;exact w,(s7.own b hb).1⟩
   have hN10:∀b,b∈S10++A10→h9.next≤b:=λb hb=>by rcases (s10.own b hb).2 with w|w;simp at w;exact w
   have n26:=s26.1
   have n79:=s79.1
   have n7:=s7.1
   have n10:=s10.1
   simp only[wd, wa,c3,c4,e6,show ((0:Int) != 0)=false from rfl,Ns,beq_self_eq_true,ix,bne_self_eq_false]
   refine nxt h10 _ _ { s with mem:=[] } S7 A7 S10 A10 W (c+1) f10 m10' m10 (λb hb w=>by have:=hN7 b hb;have:=hN10 b w;omega) di.cut (by omega) ⟨rfl,rfl,rfl⟩ (λw=>?_) (hpx2 (s29.trans s10)) (by omega)
   rcases aS.1 w with w|w
   ·have:=hN7 px (by simp[w]);omega
   ·have:=hN10 px (by simp[w]);omega
  have d8:(o.k==8)=false:=by simpa using hk8
  simp only[d8,wd, wa]
  by_cases hk9:o.k=9
  ·have d9:(o.k==9)=true:=by simp[hk9]
   have hS0:px∉S:=λw=>hpS (by simp[w])
   simp only[d9,wd, wa]
   refine aA (My m2) λu h3 ⟨q3,S3,e3,m3,s3⟩ f3=>?_
   subst e3
   have hN3:∀b,b∈S3→h2.next≤b∧b<h3.next:=λb hb=>⟨by rcases (s3.own b hb).2 with w|w;simp at w;exact w,(s3.own b hb).1⟩
   have n3:=s3.1
   refine aA (ZA (mr2.step0 s3) ok (by omega)) λu h4 ⟨S4,N4,mr4,s4⟩ f4=>?_
   have hN4:∀b,b∈S4++N4→h3.next≤b:=λb hb=>by rcases (s4.own b hb).2 with w|w;simp at w;exact w
   have n4:=s4.1
   have m4:=m3.step0 s4
   have s24:Step h2 h4 [] []:=(s3.less (T:=[]) (by simp)).trans (s4.less (by simp))
   have mo4:=m2.step0 s24
   have c3:cN .eql (.pointer (some ⟨q3,0,none⟩)) (.pointer none)=some (.bool false):=rfl
   have e0:(⟨#[97,32,102,111,114,107,39,115,32,111,119,110]⟩:ByteArray)=str fkE.k:=rfl
   have e1:(⟨#[120]⟩:ByteArray)=str fkE.v:=rfl
   have hr:bE fkE=true:=rfl
   have hk12:fkE.k.length=12:=rfl
   have hv1:fkE.v.length=1:=rfl
   have hbig:=di.big
   simp only[wd, wa,c3]
   rw[e0,e1]
   refine aA (rt fkE.k fkE.v mo4 ok (by rw[hk12,hv1];omega)) λu h5 ⟨S5,N5,e5,mo5,s5⟩ f5=>?_
   have he:(⟨fkE.k,fkE.v,false⟩:Ent)=fkE:=rfl
   rw[he,hr]at mo5
   simp only[if_true]at mo5
   have ok5:=qF ok hr
   rw[hk12,hv1]at ok5
   have hn5:=zW s fkE
   have hz5:=ok5.size
   have hl5:=ok5.lvl 0
   refine aA (xO mo5 (by rw[hn5.1];exact hnum.1) (by rw[hn5.1];exact hnum.2.1) (rJ ok5.mright ok5.msrt) (by omega) (by omega)) λu h6 ⟨S6,N6,e6',mo6,s6⟩ f6=>?_
   have s46:Step h4 h6 S []:=s5.trans (s6.wide (T:=S5++N5) (T':=[]) (by simp +contextual) (by simp))
   have dS:∀b,b∈S→b<h2.next:=hlS
   have x1:∀b,b∈S3→b∉S:=λb hb w=>by have:=hN3 b hb;have:=hlS b w;omega
   have m6:=m4.frame s46 x1 (λb hb w=>m2.dis b w hb)
   have mr6:=mr4.frame s46 (λb hb w=>by have:=hN4 b (by simp[hb]);have:=hlS b w;omega) (λb hb w=>by
    rcases aS.1 hb with q|q
    ·have:=hN4 b (by simp[q]);have:=hlS b w;omega
    ·exact d b (by simp[w]) (by simp[q]))
   have n46:=s46.1
   simp only[wd, wa,e6]
   refine nxt h6 _ _ s S3 A S4 (N4++Ar) W (c+1) f6 m6 mr6 (λb hb w=>?_) di.same (by omega) ⟨rfl,rfl,rfl⟩ (λw=>?_) (by rw[(s46.keep px (by omega) hS0).1];exact hpx2 s24) (by omega)
   ·have w':b∈S4++N4∨b∈Ar:=by
     simp only[aS]at w ⊢
     rcases w with w|w|w
     ·exact .inl (.inl w)
     ·exact .inl (.inr w)
     ·exact .inr w
    rcases aS.1 hb with q|q
    ·have:=hN3 b q
     rcases w' with w|w
     ·have:=hN4 b w;omega
     ·have:=hlAr b w;omega
    ·rcases w' with w|w
     ·have:=hN4 b w;have:=hlA b q;omega
     ·exact d b (by simp[q]) (by simp[w])
   ·rcases aS.1 w with w|w
    ·have:=hN3 px w;omega
    ·have:=hN4 px (by simp[w]);omega
  have d9:(o.k==9)=false:=by simpa using hk9
  simp only[d9,wd, wa]
  refine cO fb b1 rfl ?_
  refine aA (SG o m2 mr2 d di (by omega)) λu h3 ⟨s',W',S',A',Ar',e,m3,mr3,d3,s3,di3,hW3,hn3⟩ f3=>?_
  subst e
  simp only[wd, wa,e6]
  refine nxt h3 _ _ s' S' A' Sr Ar' W' (c+1) f3 m3 mr3 d3 di3 (by omega) hn3 (λw=>?_) (by rw[(s3.keep px (by omega) hpS).1];exact hb2) (by have:=s3.1;omega)
  rcases (s3.own px w).2 with q|q
  ·exact hpS q
  ·omega
theorem M2{b f t:Int}{v:Value}{l:List LOp}(hx:kT w0 5 v l.length (l.flatMap LOp.e))(hl:l.length≤1048576)(hs:ke l≤1048576):
  aj prog w0 Iq [.agg (gt b f t v).toArray] h λr h'=>r=.bool true:=by
 refine aj.of_fit (by simp) λfi=>Ov (by simp) ?_
 have fb:=fi.base
 have hfm:(l.flatMap LOp.e).length=l.length*5:=ii (e:=LOp.e) (s:=5) (λ_=>rfl) l
 have hvc:aE v=true:=(hx.sl' fi hfm).isC
 simp only[B9]
 refine iJ (e:=gt b f t v) ?_
 have s1:Step h (h.new (gt b f t v) 4) [] []:=((Step.refl h [] (by simp)).new _ _).less (by simp)
 have b1:(h.new (gt b f t v) 4).blk h.next=some (gt b f t v):=by simp
 have l1:h.next<(h.new (gt b f t v) 4).next:=by simp
 generalize h.new (gt b f t v) 4=h1 at *
 refine cO fb b1 rfl ?_
 refine aA (No hvc) λr h2 ⟨c1,c2⟩ f2=>?_
 cases hr:dO b f t with
 |false=>
  obtain ⟨e,s2⟩:=c2 hr
  subst e
  have c3:cN .eql (.pointer none) (.pointer none)=some (.bool true):=rfl
  simp only[wd, wa,c3,aC,aU]
  simp
 |true=>
  obtain ⟨p,pr,S,Sr,e,m2,mr,s2,hd⟩:=c1 hr
  subst e
  obtain ⟨qr,e⟩:=mr.ptrV
  subst e
  have c3:cN .eql (.pointer (some ⟨qr,0,none⟩)) (.pointer none)=some (.bool false):=rfl
  have b2:h2.blk h.next=some (gt b f t v):=by rw[(s2.keep _ l1 (by simp)).1];exact b1
  have l2:h.next<h2.next:=by have:=s2.1;omega
  have hpS:h.next∉S++Sr:=λw=>by
   rcases (s2.own h.next w).2 with q|q
   ·simp at q
   ·omega
  simp only[wd, wa,c3]
  refine aq fb b2 rfl ?_
  have hn:=(pC _ _ _).1 hr
  have hrn:dO ((b.toNat:Nat):Int) ((f.toNat:Nat):Int) ((t.toNat:Nat):Int)=true:=by
   rw[show ((b.toNat:Nat):Int)=b by omega,show ((f.toNat:Nat):Int)=f by omega,show ((t.toNat:Nat):Int)=t by omega]
   exact hr
  have hnum:((((cW b.toNat f.toNat t.toNat).bl:Nat):Int)=b∧(((cW b.toNat f.toNat t.toNat).fan:Nat):Int)=f∧(((cW b.toNat f.toNat t.toNat).top:Nat):Int)=t):=by
   simp only[cW]
   omega
  simp only[(hx.sl' f2 hfm).lenv,wd, wa]
  refine ⟨l.length+1,XB (λh fh=>hx.sl' fh hfm) hl fb (λh4 p4 r4 s4 S4 A4 Sr4 Ar4 W4 c4 m4 mr4 di4 hW4=>?_) l [] _ _ _ _ S [] Sr [] 0 0 rfl f2 m2 mr (by simpa using hd) ⟨Ix hrn 0,by simp[cW,LS.tot],by omega⟩ (by omega) hnum hpS b2 l2⟩
  refine aA (aca m4 mr4 di4.ok (by omega) (di4.man hW4)) λu h5 ⟨e,s5⟩ f5=>?_
  subst e
  simp only[aC,aU]
  simp
end
