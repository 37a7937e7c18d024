/- LevelDoes, plain: how long a manifest is. -/
import Derived.Test.YtfmoemconapmhaaGreatTxa
set_option linter.all false
namespace Go.Proofs.YtfmoemconapmhaaGreat.Ah
open Go
theorem N7{bl:Nat}{l:List Ent}(hz:dH (bl:Int) l=0)(hl:aY l≤1048576):(aX (bl:Int) l).length≤11*aY l+24:=by
 have hR:aX (bl:Int) l=bld bl l:=by unfold aX;rw[if_pos hz,fN]
 have h1:=tm (grp bl l) (λg hg=>mK hg)
 have h2:=zy (grp bl l) 0 (λg hg=>mK hg) (by rw[iM]at h1;omega) (by rw[iM];omega)
 rw[iM]at h1 h2
 rw[hR,nH]
 omega
theorem abb{bl:Nat}{l:List Ent}(hz:dH (bl:Int) l=0)(h5:5≤aY l)(hl:aY l≤1048576):16*(dB bl l).length≤15*(aY l+2):=by
 have h1:=N7 hz hl
 have h2:=xI 4 (bS (aX (bl:Int) l)) (by have:=j2 (aX (bl:Int) l);omega)
 rw[dB,aT]
 by_cases h3:(aX (bl:Int) l).length<128
 ·have:=xI 0 _ (by simpa using h3)
  omega
 ·have:=xI 3 (aX (bl:Int) l).length (by omega)
  omega
theorem SI{l:List Ent}(hr:∀x,x∈l→bE x=true)(hne:l≠[]):5≤aY l:=by
 cases l with
 |nil=>exact absurd rfl hne
 |cons x l=>
  have:=(iu x).1 (hr x (by simp))
  rw[iU]
  omega
theorem J4{bl:Nat}:∀(r:List (List Ent)),(∀l,l∈r→16*(dB bl l).length≤15*(aY l+2))→16*(r.flatMap (dB bl)).length≤15*((r.map aY).sum+2*r.length)
 |[],_=>by simp
 |a::r,h=>by
  have h1:=J4 r λl hl=>h l (by simp[hl])
  have h2:=h a (by simp)
  simp only[eN,aT,bH,gA,kY]
  omega
theorem F6{bl:Nat}:∀lv:List (List (List Ent)),(∀l,l∈lv.flatten→16*(dB bl l).length≤15*(aY l+2))→lv.flatten.length<18446744073709551616→16*(lv.flatMap (lvB bl)).length≤160*lv.length+15*((lv.flatten.map aY).sum+2*lv.flatten.length)
 |[],_,_=>by simp
 |r::t,h,hb=>by
  simp only[gw,aT]at hb
  have h1:=F6 t (λl hl=>h l (by rw[gw];exact List.mem_append_right _ hl)) (by omega)
  have h3:=J4 r λl hl=>h l (by rw[gw];exact List.mem_append_left _ hl)
  have h4:=fU (n:=r.length) (by omega)
  simp only[eN,gw,aT,bH,eI,List.sum_append,lvB]
  omega
theorem Yx{s:LS}{W c:Nat}(o:LOk s W)(hW:W+2*c≤1048576)(ht:s.tot≤c):(cH s).length≤1048576:=by
 have hnum:=o.num
 have hla:=j6 s.lv
 have hlv:=o.len
 have hrl:(bY s.lv).length≤16:=by unfold bY;rw[dV,eA];omega
 have h1:=fU (n:=s.bl) (by omega)
 have h2:=fU (n:=s.fan) (by omega)
 have h3:=fU (n:=s.top) (by omega)
 have h4:=fU (n:=(bY s.lv).length) (by omega)
 have hf:=X5 s.lv
 have sz:=o.size
 have h5:=F6 (bl:=s.bl) (s.lv.take (aW s.lv)) (λl hl=>by
  rw[hf]at hl
  obtain ⟨r,hr,hlr⟩:=ib.1 hl
  obtain ⟨hc,hne⟩:=o.rok r hr l hlr
  have hs:aY l≤(s.lv.flatten.map aY).sum:=pP hl
  exact abb (nG hnum.1 hnum.2.1 hc) (SI (yz hc) hne) (by omega)) (by rw[hf];unfold LS.tot at ht;omega)
 rw[hf,dV]at h5
 unfold LS.tot at ht
 unfold cH
 simp only[aT]
 omega
structure RvC(w0:World)(h:Hp)(q qa c:Nat)(vm:Value)(us:List Value)(s:LS)(A:List Nat):Prop where
 bq:h.blk q=some (aN s++[vm,.slice (some ⟨qa,0,none⟩) 16 c])
 ba:h.blk qa=some us
 lu:us.length=16
 ne:q≠qa
 hq:w0.heap.size≤q
 lq:q<h.next
 ha:w0.heap.size≤qa
 la:qa<h.next
 lA:∀b,b∈A→b<h.next
 dA:q∉A∧qa∉A
 ll:s.lv.length=16
 em:Es w0 h vm s.mem
 om:∀b,b∈bL vm→b∈A
 lv:∀(i:Nat) v,us[i]?=some v→fG w0 h A v (s.lv.getD i [])
 ez:h.esz qa=1
 cp:(c<bA∧16≤c)∨c=bA
section
variable {w0:World}{h h':Hp}{q qa c:Nat}{vm:Value}{us:List Value}{s:LS}{A:List Nat}
theorem Rv.cc{r:Value}{S:List Nat}(m:Rv w0 h r s S A):∃q qa c vm us,r=.pointer (some ⟨q,0,none⟩)∧S=[q,qa]∧RvC w0 h q qa c vm us s A:=by
 obtain ⟨q,qa,c,vm,us,a1,a2,a3,a4,a5,a6,a7,a8,a9,b1,b2,b3,b4,b5,b6,b7,b8,b9⟩:=m
 subst a5
 exact ⟨q,qa,c,vm,us,a1,rfl,a2,a3,a4,a6,a7,a8,a9,b1,b2,⟨b3 q (by simp),b3 qa (by simp)⟩,b4,b5,b6,b7,b8,b9⟩
theorem RvC.rv(m:RvC w0 h q qa c vm us s A):Rv w0 h (.pointer (some ⟨q,0,none⟩)) s [q,qa] A:=
 ⟨q,qa,c,vm,us,rfl,m.bq,m.ba,m.lu,rfl,m.ne,m.hq,m.lq,m.ha,m.la,m.lA,by simp;exact m.dA,m.ll,m.em,m.om,m.lv,m.ez,m.cp⟩
theorem RvC.frame(m:RvC w0 h q qa c vm us s A){T T':List Nat}(st:Step h h' T T')(h1:q∉T)(h2:qa∉T)(hA:∀b,b∈A→b∉T):RvC w0 h' q qa c vm us s A:=by
 have k1:=st.keep q m.lq h1
 have k2:=st.keep qa m.la h2
 have n:=st.1
 have:=m.lq
 have:=m.la
 exact ⟨by rw[k1.1];exact m.bq,by rw[k2.1];exact m.ba,m.lu,m.ne,m.hq,by omega,m.ha,by omega,λb hb=>by have:=m.lA b hb;omega,m.dA,m.ll,Sl.stepL m.em (λx hx=>m.lA x (m.om x hx)) st (λx hx=>hA x (m.om x hx)),m.om,λi v hi=>(m.lv i v hi).frame m.lA st hA,by rw[k2.2];exact m.ez,m.cp⟩
theorem RvC.step0(m:RvC w0 h q qa c vm us s A){T':List Nat}(st:Step h h' [] T'):RvC w0 h' q qa c vm us s A:=m.frame st (by simp) (by simp) (by simp)
theorem RvC.more(m:RvC w0 h q qa c vm us s A){U:List Nat}(hU:∀b,b∈U→b<h.next∧b≠q∧b≠qa):RvC w0 h q qa c vm us s (U++A):=
 ⟨m.bq,m.ba,m.lu,m.ne,m.hq,m.lq,m.ha,m.la,λb hb=>by rcases aS.1 hb with w|w;exact (hU b w).1;exact m.lA b w,
  ⟨λw=>by rcases aS.1 w with w|w;exact (hU q w).2.1 rfl;exact m.dA.1 w,λw=>by rcases aS.1 w with w|w;exact (hU qa w).2.2 rfl;exact m.dA.2 w⟩,
  m.ll,m.em,λb hb=>by simp[m.om b hb],λi v hi=>(m.lv i v hi).more (by simp +contextual),m.ez,m.cp⟩
theorem RvC.set(m:RvC w0 h q qa c vm us s A){U:List Nat}{i:Nat}{v':Value}{ls:List (List Ent)}(st:Step h h' [qa] (qa::U))(hU:∀b,b∈U→h.next≤b)(ba':h'.blk qa=some (us.set i v'))(ez:h'.esz qa=1)(hi:i<16)(hv:fG w0 h' (U++A) v' ls):
  RvC w0 h' q qa c vm (us.set i v') { s with lv:=s.lv.set i ls } (U++A):=by
 have k1:=st.keep q m.lq (by simpa using m.ne)
 have n:=st.1
 have h1:=m.lq
 have h2:=m.la
 have hA:∀b,b∈A→b∉[qa]:=λb hb w=>by simp at w;subst w;exact m.dA.2 hb
 refine ⟨by rw[k1.1];exact m.bq,ba',by rw[i7];exact m.lu,m.ne,m.hq,by omega,m.ha,by omega,λb hb=>?_,⟨λw=>?_,λw=>?_⟩,by simpa using m.ll,Sl.stepL m.em (λx hx=>m.lA x (m.om x hx)) st (λx hx=>hA x (m.om x hx)),λb hb=>by simp[m.om b hb],λj v hj=>?_,ez,m.cp⟩
 ·rcases aS.1 hb with w|w
  ·exact (st.own b (by simp[w])).1
  ·have:=m.lA b w;omega
 ·rcases aS.1 w with w|w
  ·have:=hU q w;omega
  ·exact m.dA.1 w
 ·rcases aS.1 w with w|w
  ·have:=hU qa w;omega
  ·exact m.dA.2 w
 ·simp only
  by_cases e:j=i
  ·subst e
   rw[ia (by rw[m.lu];exact hi)]at hj
   cases hj
   rw[cR,ia (by rw[m.ll];exact hi)]
   exact hv
  ·rw[hH (λw=>e w.symm)]at hj
   rw[cR,hH (λw=>e w.symm),←cR]
   exact ((m.lv j v hj).frame m.lA st hA).more (by simp +contextual)
theorem RvC.setMem(m:RvC w0 h q qa c vm us s A){v':Value}{l:List Ent}(hv:Es w0 h v' l)(ho:∀b,b∈bL v'→b∈A):
  RvC w0 (h.put q (aN s++[v',.slice (some ⟨qa,0,none⟩) 16 c])) q qa c v' us { s with mem:=l } A∧Step h (h.put q (aN s++[v',.slice (some ⟨qa,0,none⟩) 16 c])) [q] [q]:=by
 have h1:=m.lq
 have h2:=m.la
 have st:Step h (h.put q (aN s++[v',.slice (some ⟨qa,0,none⟩) 16 c])) [q] [q]:=(Step.refl h [q] (by simpa using h1)).put (by simp) _
 have k2:=st.keep qa h2 (by simpa using λe=>m.ne e.symm)
 have hA:∀b,b∈A→b∉[q]:=λb hb w=>by simp at w;subst w;exact m.dA.1 hb
 exact ⟨⟨by simp[aN],by rw[k2.1];exact m.ba,m.lu,m.ne,m.hq,h1,m.ha,h2,m.lA,m.dA,m.ll,Sl.stepL hv (λx hx=>m.lA x (ho x hx)) st (λx hx=>hA x (ho x hx)),ho,λi v hi=>(m.lv i v hi).frame m.lA st hA,by rw[k2.2];exact m.ez,m.cp⟩,st⟩
def p9(w0:World)(va vb vi pq pi x:Value)(i:Nat)(k:Hp→Prop):Hp→Prop:=
 aO [
 (bI [(0,1,false,x)] (aL [(.slice none 0 0)] 1) 1 1 λv17=>
 aP [(bZ (al w0 pi) vi),(bZ (al w0 pq) vb),(bZ (al w0 pq) va)] (
 aO [
 (bD w0 1 24 v17 vi λv24=>
 aP [(bZ (al w0 pq) va)] (
 af (aJ 1 va (.int .i64 (i:Int))) λv25=>
 aO [
 (bO w0 v25 v24 λ_=>
 aP [] (
 bN k))]))]))]
theorem wrA{c:Nat}{v:Value}{K:av}{i:Nat}(m:RvC w0 h q qa c vm us s A)(hi:i<16)(hv:aE v=true)(hk:K undef (h.put qa (us.set i v))):aJ 1 (.slice (some ⟨qa,0,none⟩) 16 c) (.int .i64 (i:Int)) (λq=>bO w0 q v K) h:=by
 refine wr1 m.ha m.ba hi (by have:=m.lu;omega) hv ?_
 rw[tD _ _ _ (by have:=m.lu;omega),mt]
 exact hk
theorem I8{i:Nat}{x vi:Value}{l:List Ent}{k:Hp→Prop}(m:RvC w0 h q qa c vm us s A)(fb:w0.heap.size≤h.next)(hi:i<16)(hvi:us[i]?=some vi)(hx:Es w0 h x l)(ox:∀b,b∈bL x→b∈A)(hn:(s.lv.getD i []).length≤1000000)
  (hk:∀h' us' U,RvC w0 h' q qa c vm us' { s with lv:=s.lv.set i (l::s.lv.getD i []) } (U++A)→Step h h' [qa] (qa::U)→k h'):p9 w0 (.slice (some ⟨qa,0,none⟩) 16 c) (.slice (some ⟨qa,0,none⟩) 16 c) vi (.pointer (some ⟨q,4,none⟩)) (.pointer (some ⟨qa,i,none⟩)) x i k h:=by
 obtain ⟨ps,ep,g,o,or⟩:=m.lv i vi hvi
 have hpl:ps.length=(s.lv.getD i []).length:=by rw[ep,eA]
 unfold p9
 simp only[wd, wa]
 refine ln (Sl.isC hx) ?_
 have s1:Step h (h.new [x] 1) [] [h.next]:=(Step.refl h [] (by simp)).new _ _
 have g1:GV w0 (h.new [x] 1) 1 (.slice (some ⟨h.next,0,none⟩) 1 1) 1 [x] [h.next]:=.new fb rfl (by decide)
 have n1:(h.new [x] 1).next=h.next+1:=rfl
 have m1:=m.step0 s1
 generalize h.new [x] 1=h1 at *
 have l1:=m.lq
 have l2:=m.la
 simp only[dU,eX,dL,ft]
 refine ⟨⟨aq m1.ha m1.ba hvi rfl,aq m1.hq m1.bq rfl rfl,aq m1.hq m1.bq rfl rfl⟩,?_⟩
 have gl:Sl w0 h1 1 vi ps.length (ps.map (·.1)):=g.stepL (λb hb=>m.lA b (o b hb)) s1 (by simp)
 refine mw (by omega) g1 gl.lenA gl.src gl.len (by omega) (by omega) (by omega) λx' h2 U g2 s2=>?_
 have m2:=m1.frame s2 (by simp;omega) (by simp;omega) (λb hb=>by have:=m.lA b hb;simp;omega)
 have n2:=s2.1
 have hU:∀b,b∈U→h.next≤b∧b<h2.next:=λb hb=>⟨by
  rcases (s2.own b hb).2 with w|w
  ·simp at w;omega
  ·omega,(s2.own b hb).1⟩
 simp only[dU,eX,dL,ft]
 refine ⟨aq m2.hq m2.bq rfl rfl,?_⟩
 refine wrA m2 hi g2.isC ?_
 have sP:Step h2 (h2.put qa (us.set i x')) [qa] [qa]:=(Step.refl h2 [qa] (by simp;omega)).put (by simp) _
 have bP:(h2.put qa (us.set i x')).blk qa=some (us.set i x'):=by simp
 have eP:(h2.put qa (us.set i x')).esz qa=1:=m2.ez
 generalize h2.put qa (us.set i x')=h3 at *
 have s02:Step h h2 [] U:=s1.trans s2
 have st:Step h h3 [qa] (qa::U):=(s02.wide (T:=[qa]) (T':=qa::U) (by simp) λb hb=>by
  rcases bB.1 hb with w|w
  ·subst w;exact .inr ⟨by simp,l2⟩
  ·exact .inl w).trans (sP.wide (by simp) λb hb=>by
  rcases bB.1 hb with w|w
  ·subst w;exact .inl (by simp)
  ·exact .inr ⟨by simp[w],(hU b w).2⟩)
 have nA:∀b,b∈A→b∉[qa]:=λb hb w=>by simp at w;subst w;exact m.dA.2 hb
 refine hk h3 _ U (m.set st (λb hb=>(hU b hb).1) bP eP hi ⟨(x,l)::ps,by rw[ep];rfl,?_,λb hb=>?_,λp hp=>?_⟩) st
 ·have:=(g2.frame sP (λb hb w=>by simp at w;subst w;have:=hU b hb;omega)).sl
  rw[jK]at this
  exact this
 ·rw[g2.sbk]at hb
  simp[hb]
 ·rcases bB.1 hp with w|w
  ·subst w
   exact ⟨Sl.stepL hx (λb hb=>m.lA b (ox b hb)) st (λb hb=>nA b (ox b hb)),λb hb=>by simp[ox b hb]⟩
  ·obtain ⟨r,hr⟩:=or p w
   exact ⟨Sl.stepL r (λb hb=>m.lA b (hr b hb)) st (λb hb=>nA b (hr b hb)),λb hb=>by simp[hr b hb]⟩
theorem Step.inA{U:List Nat}(st:Step h h' [qa] (qa::U))(hq:q<h.next):Step h h' [q,qa] ([q,qa]++U):=st.wide (by simp) λb hb=>by
 simp at hb
 rcases hb with w|w|w
 ·subst w;exact .inr ⟨by simp,hq⟩
 ·subst w;exact .inl (by simp)
 ·exact .inl (by simp[w])
theorem oS{i n c:Nat}{p:Nat}{K:av}(hi:i<n)(hk:K (.pointer (some ⟨p,i,none⟩)) h):aJ 1 (.slice (some ⟨p,0,none⟩) n c) (.int .i64 (i:Int)) K h:=by
 rw[qB]
 refine ⟨by omega,by omega,?_⟩
 rw[addr_add,fN,eO,mt]
 exact hk
theorem IH{r:Value}{S:List Nat}(m:Rv w0 h r s S A)(hr:(s.lv.getD 0 []).length≤1000000):
  aj prog w0 vY [r] h λv h'=>∃N,v=.bool (decide (s.mem≠[]))∧Rv w0 h' r s.flush S (N++A)∧Step h h' S (S++N):=by
 refine aj.of_fit (by simpa using m.nj) λf=>OP (by simpa using m.nj) ?_
 have mm:=m
 obtain ⟨q,qa,c,vm,us,e,eS,mc⟩:=m.cc
 subst e eS
 simp only[Kc,wd, wa]
 refine aq mc.hq mc.bq (v:=vm) rfl ?_
 simp only[Sl.lenv mc.em,wd, wa]
 by_cases hm:s.mem=[]
 ·have c0:((s.mem.length:Int)==0)=true:=by simp[hm]
  simp only[c0,wd, wa,aC,aU]
  have:s.flush=s:=if_pos hm
  refine ⟨by simp,[],by simp[hm],by rw[this];exact mm,?_⟩
  rw[dG]
  exact .refl _ _ λb hb=>(mm.lt b hb).2
 ·have c0:((s.mem.length:Int)==0)=false:=by simpa using hm
  have hlu:=mc.lu
  obtain ⟨vi,hvi⟩:∃v,us[0]?=some v:=⟨us[0]'(by omega),by simp⟩
  simp only[c0,wd, wa]
  refine aq mc.hq mc.bq (v:=.slice (some ⟨qa,0,none⟩) 16 c) rfl ?_
  refine aq mc.hq mc.bq (v:=vm) rfl ?_
  refine aq mc.hq mc.bq (v:=.slice (some ⟨qa,0,none⟩) 16 c) rfl ?_
  refine oS (i:=0) (by omega) ?_
  refine aq mc.ha mc.ba hvi ?_
  have:=I8 (i:=0) (k:=λhz=>bO w0 (.pointer (some ⟨q,3,none⟩)) (.slice none 0 0) (λ_=>ar [.bool true] λv h'=>∃N,v=.bool (decide (s.mem≠[]))∧Rv w0 h' (.pointer (some ⟨q,0,none⟩)) s.flush [q,qa] (N++A)∧Step h h' [q,qa] ([q,qa]++N)) hz) mc f.base (by omega) hvi mc.em mc.om hr λh1 us1 U m1 s1=>?_
  ·simp only[p9,wd, wa]at this
   exact this
  ·refine eH m1.hq m1.bq (by simp[aN]) rfl ?_
   obtain ⟨m2,s2⟩:=m1.setMem (v':=.slice none 0 0) (l:=[]) .nil (by simp[bL])
   have e2:(aN s++[vm,.slice (some ⟨qa,0,none⟩) 16 c]).set 3 (.slice none 0 0)=aN s++[.slice none 0 0,.slice (some ⟨qa,0,none⟩) 16 c]:=rfl
   have hfl:s.flush={ s with mem:=[],lv:=s.lv.set 0 (s.mem::s.lv.getD 0 []) }:=if_neg hm
   show ar _ _ (h1.put q ((aN s++[vm,.slice (some ⟨qa,0,none⟩) 16 c]).set 3 (.slice none 0 0)))
   rw[e2]
   simp only[aC,aU]
   refine ⟨by simp,U,by simp[hm],by rw[hfl];exact m2.rv,?_⟩
   exact (s1.inA mc.lq).trans (s2.wide (by simp) λb hb=>.inr ⟨hb,((s1.inA mc.lq).own b hb).1⟩)
theorem Jf{r:Value}{S:List Nat}{W:Nat}(x:Ent)(m:Rv w0 h r s S A)(ok:LOk s W)(hW:W≤1048576):
  aj prog w0 wb [r,.agg (ee x).toArray] h λv h'=>∃N,v=.int .i64 (if bE x=true then 0 else 120)∧Rv w0 h' r (if bE x=true then s.put x else s) S (N++A)∧Step h h' S (S++N):=by
 refine aj.of_fit (by simp[m.nj]) λf=>OY (by simp[m.nj]) ?_
 have fb:=f.base
 simp only[Ke]
 refine iJ (e:=ee x) ?_
 have s1:Step h (h.new (ee x) 3) [] []:=((Step.refl h [] (by simp)).new _ _).less (by simp)
 have b1:(h.new (ee x) 3).blk h.next=some (ee x):=by simp
 have n1:(h.new (ee x) 3).next=h.next+1:=rfl
 have m1:=m.step0 s1
 generalize h.new (ee x) 3=h1 at *
 refine cO fb b1 rfl ?_
 refine aA (IM x) λv h2 ⟨e,s2⟩ f2=>?_
 subst e
 have b2:h2.blk h.next=some (ee x):=by rw[(s2.keep _ (by omega) (by simp)).1];exact b1
 have m2:=m1.step0 s2
 have n2:=s2.1
 have s02:Step h h2 S S:=(s1.trans s2).keepS λb hb=>(m.lt b hb).2
 cases hx:bE x with
 |false=>
  simp only[wd, wa,aC,aU]
  exact ⟨by simp,[],rfl,m2,by rw[dG];exact s02⟩
 |true=>
  obtain ⟨q,qa,c,vm,us,e,eS,mc⟩:=m2.cc
  subst e eS
  have hmt:=ok.mtop
  have hnum:=ok.num
  simp only[wd, wa]
  refine aq mc.hq mc.bq (v:=vm) rfl ?_
  refine cO fb b2 rfl ?_
  refine aA (IL mc.em (by omega) x) λv3 h3 ⟨M3,g3,s3⟩ f3=>?_
  have hM:∀b,b∈M3→h2.next≤b∧b<h3.next:=λb hb=>⟨by rcases (s3.own b hb).2 with w|w;simp at w;exact w,(s3.own b hb).1⟩
  have l1:=mc.lq
  have l2:=mc.la
  have m3:=(mc.step0 s3).more (U:=M3) λb hb=>by have:=hM b hb;omega
  refine eH m3.hq m3.bq (by simp[aN]) g3.sl.isC ?_
  obtain ⟨m4,s4⟩:=m3.setMem (v':=v3) (l:=cP s.mem x) g3.sl (λb hb=>by rw[g3.sblk_eq]at hb;simp[hb])
  have e4:(aN s++[vm,.slice (some ⟨qa,0,none⟩) 16 c]).set 3 v3=aN s++[v3,.slice (some ⟨qa,0,none⟩) 16 c]:=rfl
  rw[e4]
  have s03:Step h h3 [q,qa] ([q,qa]++M3):=s02.trans (s3.wide (by simp) λb hb=>by
   rcases aS.1 hb with w|w
   ·exact .inr ⟨w,(m2.lt b w).2⟩
   ·exact .inl w)
  have s04:=s03.trans (s4.wide (T:=[q,qa]++M3) (T':=[q,qa]++M3) (by simp) λb hb=>.inr ⟨hb,(s03.own b hb).1⟩)
  generalize h3.put q (aN s++[v3,.slice (some ⟨qa,0,none⟩) 16 c])=h4 at *
  have hmem:({ s with mem:=cP s.mem x }:LS).mem=cP s.mem x:=rfl
  have hlt:=CD s.mem x
  refine aq m4.hq m4.bq (v:=v3) rfl ?_
  have hle:aM v3=some (.int .i64 ((cP s.mem x).length:Int)):=g3.sl.lenv
  simp only[hle,wd, wa]
  refine aq m4.hq m4.bq (o:=2) (v:=.int .i64 (s.top:Int)) rfl ?_
  by_cases hfull:s.top≤(cP s.mem x).length
  ·have hfe:(cP s.mem x).length=s.top:=by omega
   have hput:s.put x=({ s with mem:=cP s.mem x }:LS).flush:=if_pos hfull
   simp only[hfe,beq_self_eq_true,wd, wa]
   refine aA (IH m4.rv (by have:=ok.lvl 0;simp only;omega)) λv5 h5 ⟨N,e,m5,s5⟩ f5=>?_
   simp only[aC,aU,if_true]
   rw[hput]
   refine ⟨by simp,N++M3,trivial,by rw[cM];exact m5,?_⟩
   exact s04.trans (s5.wide (by simp) λb hb=>by
    simp only[aS]at hb ⊢
    rcases hb with w|w|w
    ·exact .inl (.inl w)
    ·exact .inl (.inr w)
    ·exact .inr ⟨.inr w,(s04.own b (by simp[w])).1⟩)
  ·have hfe:(((cP s.mem x).length:Int)==(s.top:Int))=false:=by simp;omega
   have hput:s.put x={ s with mem:=cP s.mem x }:=if_neg hfull
   simp only[hfe,wd, wa,aC,aU,if_true]
   rw[hput]
   exact ⟨by simp,M3,trivial,m4.rv,s04⟩
theorem ZH{r:Value}{S:List Nat}{W:Nat}(k v:Key)(m:Rv w0 h r s S A)(ok:LOk s W)(hW:W≤1048576):
  aj prog w0 A0 [r,.string (str k),.string (str v)] h λu h'=>∃N,u=.int .i64 (if bE ⟨k,v,false⟩=true then 0 else 120)∧Rv w0 h' r (if bE ⟨k,v,false⟩=true then s.put ⟨k,v,false⟩ else s) S (N++A)∧Step h h' S (S++N):=by
 refine aj.of_fit (by simp[m.nj]) λf=>OU (by simp[m.nj]) ?_
 simp only[Kd,fg,dX,dJ,cU,fc]
 refine ⟨rfl,by simp,rfl,by simp,?_⟩
 refine aA (Jf ⟨k,v,false⟩ m ok hW) λu h1 ⟨N,e,m1,s1⟩ f1=>?_
 simp only[aC,aU]
 exact ⟨by rw[e];simp,N,e,m1,s1⟩
theorem Z8{r:Value}{S:List Nat}{W:Nat}(k:Key)(m:Rv w0 h r s S A)(ok:LOk s W)(hW:W≤1048576):
  aj prog w0 Ax [r,.string (str k)] h λu h'=>∃N,u=.int .i64 (if bE ⟨k,[],true⟩=true then 0 else 120)∧Rv w0 h' r (if bE ⟨k,[],true⟩=true then s.put ⟨k,[],true⟩ else s) S (N++A)∧Step h h' S (S++N):=by
 refine aj.of_fit (by simp[m.nj]) λf=>ON (by simp[m.nj]) ?_
 simp only[Kb,fg,dX,dJ,cU,fc]
 refine ⟨rfl,by simp,rfl,by simp,?_⟩
 refine aA (Jf ⟨k,[],true⟩ m ok hW) λu h1 ⟨N,e,m1,s1⟩ f1=>?_
 simp only[aC,aU]
 exact ⟨by rw[e];simp,N,e,m1,s1⟩
end
section
variable {w0:World}{h h':Hp}{s:LS}{A:List Nat}
theorem My{r:Value}{S:List Nat}(m:Lv w0 h r s S A):
  aj prog w0 AA [r] h λv h'=>∃q S',v=.pointer (some ⟨q,0,none⟩)∧Lv w0 h' v s S' A∧Step h h' [] S':=by
 refine aj.of_fit (by simpa using m.nj) λf=>Ph (by simpa using m.nj) ?_
 simp only[Km]
 refine aA (lc m) λv h1 ⟨e,e'⟩ f1=>?_
 subst e e'
 obtain ⟨q,mp,M,sls,a1,a2,a3,a4,a5,a6,a7,a8,a9,b1,b2,b3⟩:=m
 subst a1 a5
 have fb:=f1.base
 have hpm:∃p,mp=ptr p:=by obtain ⟨p,-,-,e,-⟩:=a4;exact ⟨p,e⟩
 simp only[ptr,wd, wa]
 refine cO a7 a2 (by simp[aN,a3]) ?_
 refine fp fb rfl (by simp[aN,a3]) (by simp[aE]) ?_ (by simp[aN,fj])
 have s1:Step h1 (h1.new (aN s++mp::sls) 20) [] [h1.next]:=(Step.refl h1 [] (by simp)).new _ _
 have c1:(h1.new (aN s++mp::sls) 20).blk h1.next=some (aN s++mp::sls):=by simp
 have n1:(h1.new (aN s++mp::sls) 20).next=h1.next+1:=rfl
 have k1:=(s1.keep q a8 (by simp)).1.trans a2
 have m1:=a4.frame s1 (by simp)
 generalize h1.new (aN s++mp::sls) 20=h2 at *
 simp only[wd, wa]
 refine aq a7 k1 (o:=3) (v:=mp) rfl ?_
 refine aA (M7 m1) λv h3 ⟨M',p',e,m3,s3⟩ f3=>?_
 subst e
 have c3:h3.blk h1.next=some (aN s++mp::sls):=by rw[(s3.keep _ (by omega) (by simp)).1];exact c1
 have n3:=s3.1
 refine eH fb c3 (by simp[aN]) rfl ?_
 have sP:Step h3 (h3.put h1.next (aN s++ptr p'::sls)) [h1.next] [h1.next]:=(Step.refl h3 [h1.next] (by simp;omega)).put (by simp) _
 have bP:(h3.put h1.next (aN s++ptr p'::sls)).blk h1.next=some (aN s++ptr p'::sls):=by simp
 have hM:∀b,b∈M'→h2.next≤b∧b<h3.next:=λb hb=>⟨by rcases (s3.own b hb).2 with w|w;simp at w;exact w,(s3.own b hb).1⟩
 show ar _ _ (h3.put h1.next (aN s++ptr p'::sls))
 have mP:=m3.frame sP (λb hb=>by have:=hM b hb;simp;omega)
 have nP:(h3.put h1.next (aN s++ptr p'::sls)).next=h3.next:=rfl
 have s03:Step h1 h3 [] []:=(s1.less (T:=[]) (by simp)).trans (s3.less (T:=[]) (by simp))
 have l3:∀(i:Nat) v,sls[i]?=some v→Lvl w0 h3 A s.bl v (s.lv.getD i []):=λi v hi=>(b3 i v hi).frame a9 s03 (by simp)
 generalize h3.put h1.next (aN s++ptr p'::sls)=h4 at *
 simp only[aC,aU]
 refine ⟨by simp,_,h1.next::M',rfl,⟨h1.next,ptr p',M',sls,rfl,bP,a3,mP,rfl,λw=>by have:=hM _ w;omega,fb,by omega,λb hb=>by have:=a9 b hb;omega,λb hb w=>?_,b2,λi v hi=>(l3 i v hi).frame (λb hb=>by have:=a9 b hb;omega) sP (λb hb w=>by simp at w;have:=a9 b hb;omega)⟩,?_⟩
 ·have:=a9 b w
  rcases bB.1 hb with e|e
  ·omega
  ·have:=hM b e;omega
 ·have sa:Step h1 h3 [] [h1.next]:=s03.claim (by simp;omega)
  exact ((sa.trans sP).less (T:=[]) (by simp)).claim λb hb=>by
   rcases bB.1 hb with e|e
   ·subst e;omega
   ·have:=hM b e;omega
structure FI(w0:World)(hh h1:Hp)(q2:Nat)(s:LS)(vm y:Value)(i:Nat)(zs:List Value)(T C A:List Nat):Prop where
 st:Step hh h1 [] []
 bq:h1.blk q2=some (aN s++[vm,y])
 lq:hh.next≤q2∧q2<h1.next
 vec:Vec w0 h1 1 y i zs T
 lv:∀(j:Nat) v,zs[j]?=some v→fG w0 h1 (C++A) v (s.lv.getD j [])
 em:Es w0 h1 vm s.mem
 om:∀b,b∈bL vm→b∈C
 lC:∀b,b∈C→hh.next≤b∧b<h1.next
 lT:∀b,b∈T→hh.next≤b
 d1:q2∉T∧q2∉C
 d2:∀b,b∈T→b∉C
theorem FI.frame{hh h1:Hp}{q2 i:Nat}{vm y y':Value}{zs:List Value}{T C T':List Nat}(f:FI w0 hh h1 q2 s vm y i zs T C A)(hA:∀b,b∈A→b<hh.next){X X':List Nat}(st:Step h1 h' X X')(hX:∀b,b∈X→hh.next≤b∧b∉C):
  Step hh h' [] []∧(∀(j:Nat) v,zs[j]?=some v→fG w0 h' (C++A) v (s.lv.getD j []))∧Es w0 h' vm s.mem:=by
 have n:=f.st.1
 have lCA:∀b,b∈C++A→b<h1.next:=λb hb=>by
  rcases aS.1 hb with w|w
  ·exact (f.lC b w).2
  ·have:=hA b w;omega
 have dCA:∀b,b∈C++A→b∉X:=λb hb hx=>by
  rcases aS.1 hb with w|w
  ·exact (hX b hx).2 w
  ·have:=hA b w;have:=(hX b hx).1;omega
 refine ⟨?_,λj v hj=>(f.lv j v hj).frame lCA st dCA,Sl.stepL f.em (λx hx=>(f.lC x (f.om x hx)).2) st (λx hx w=>(hX x w).2 (f.om x hx))⟩
 refine ⟨cY n st.1,λb hb _=>?_,by simp,by rw[st.lp,f.st.lp]⟩
 have k1:=f.st.keep b hb (by simp)
 have k2:=st.keep b (by omega) (λw=>by have:=(hX b w).1;omega)
 exact ⟨k2.1.trans k1.1,k2.2.trans k1.2⟩
theorem FI.step0{hh h1:Hp}{q2 i:Nat}{vm y:Value}{zs:List Value}{T C:List Nat}(f:FI w0 hh h1 q2 s vm y i zs T C A)(hA:∀b,b∈A→b<hh.next){X':List Nat}(st:Step h1 h' [] X'):FI w0 hh h' q2 s vm y i zs T C A:=by
 obtain ⟨e1,e2,e3⟩:=f.frame (y':=y) (T':=T) hA st (by simp)
 exact ⟨e1,by rw[(st.keep q2 f.lq.2 (by simp)).1];exact f.bq,⟨f.lq.1,cJ f.lq.2 st.1⟩,f.vec.frame st (by simp),e2,e3,f.om,λb hb=>⟨(f.lC b hb).1,cJ (f.lC b hb).2 st.1⟩,f.lT,f.d1,f.d2⟩
theorem D6{sz by_ n:Nat}{x:Value}{ys z:List Value}{K:av}{Q:List ((Hp→Prop))}(fb:w0.heap.size≤h.next)(g:Sl w0 h sz x n ys)(o:∀b,b∈bL x→b<h.next)(hs:0<sz)(hb:n*by_≤140737488355328)(hn:n≤140737488355328)(hq:∀h',Step h h' [] [h.next]→aO Q h')
  (hk:∀x' h' U,GV w0 h' sz x' n ys U→Step h h' [] U→(∀b,b∈U→h.next≤b)→K x' h'):bI [] (aL z 0) 0 sz (λv=>aP Q (bD w0 sz by_ v x K)) h:=by
 simp only[i9,dJ]
 have s1:Step h (h.new [] sz) [] [h.next]:=(Step.refl h [] (by simp)).new _ _
 have hz:aL z 0=[]:=rfl
 rw[hz]
 refine ⟨hq _ s1,?_⟩
 have g1:GV w0 (h.new [] sz) sz (.slice (some ⟨h.next,0,none⟩) 0 0) 0 [] [h.next]:=.new fb (by simp) (by decide)
 have n1:(h.new [] sz).next=h.next+1:=rfl
 have gl:Sl w0 (h.new [] sz) sz x n ys:=g.stepL o s1 (by simp)
 generalize h.new [] sz=h1 at *
 refine mw (by omega) g1 gl.lenA gl.src gl.len (by rw[eO];exact hb) (by omega) hs λx' h2 U g2 s2=>?_
 rw[eO,gU]at g2
 exact hk x' h2 U g2 (s1.trans s2) λb hb=>by
  rcases (s2.own b hb).2 with w|w
  ·simp at w;omega
  ·omega
theorem aan{k0:Value→Hp→Prop}{q qa c q2:Nat}{vm v2:Value}{us:List Value}{hh:Hp}(mc:RvC w0 hh q qa c vm us s A)(fh:w0.heap.size≤hh.next)(hr:s.lv.flatten.length≤1000000)
  (hk:∀h1 y zs T C,FI w0 hh h1 q2 s v2 y 16 zs T C A→k0 (.pointer (some ⟨q2,0,none⟩)) h1):
  ∀(m i:Nat) (h1:Hp) (y:Value) (zs:List Value) (T C:List Nat),i+m=16→FI w0 hh h1 q2 s v2 y i zs T C A→
   o9 prog w0 k0 (m+1) (.pointer (some ⟨q2,0,none⟩)) (.slice (some ⟨qa,0,none⟩) 16 c) (.int .i64 16) (.int .i64 (i:Int)) h1:=by
 intro m
 induction m with
 |zero=>
  intro i h1 y zs T C hi fi
  have:i=16:=by omega
  subst this
  rw[o9]
  simp only[uI,wd, wa,show decide (((16:Nat):Int)<16)=false from rfl]
  exact hk h1 y zs T C fi
 |succ m ih=>
  intro i h1 y zs T C hi fi
  have hlu:=mc.lu
  have hll:=mc.ll
  have c1:decide ((i:Int)<16)=true:=decide_eq_true (by omega)
  have e6:=wrN i (by omega)
  obtain ⟨v,hv⟩:∃v,us[i]?=some v:=⟨us[i]'(by omega),by simp⟩
  have fb1:w0.heap.size≤h1.next:=cY fh fi.st.1
  have mc1:=mc.step0 fi.st
  obtain ⟨ps,ep,gp,op,rp⟩:=mc1.lv i v hv
  have wq2:w0.heap.size≤q2:=cY fh fi.lq.1
  have hpl:ps.length≤1000000:=by
   have h1:=congrArg List.length ep
   rw[eA]at h1
   have h2:(s.lv.getD i []).length≤s.lv.flatten.length:=by
    have hgi:s.lv[i]?=some (s.lv.getD i []):=by rw[cR,bW (by omega)];rfl
    conv=>rhs;rw[C4 hgi]
    simp only[fO,gw,aT]
    omega
   omega
  have hzl:zs.length=i:=by have:=fi.vec.len;omega
  rw[o9]
  simp only[uI,wd, wa,c1]
  refine oS (by omega) ?_
  refine aq mc1.ha mc1.ba hv ?_
  refine aq wq2 fi.bq (o:=4) (v:=y) rfl ?_
  refine D6 fb1 gp (λb hb=>mc1.lA b (op b hb)) (by omega) (by omega) (by omega) (λh' st=>?_) λx3 h3 U g3 s3 hU=>?_
  ·simp only[dL,ft]
   exact aq wq2 (fi.step0 mc.lA st).bq (o:=4) (v:=y) rfl rfl
  have f3:=fi.step0 mc.lA s3
  simp only[dU,dL,ft]
  refine ⟨aq wq2 f3.bq (o:=4) (v:=y) rfl rfl,?_⟩
  refine ln g3.isC ?_
  have s4:Step h3 (h3.new [x3] 1) [] [h3.next]:=(Step.refl h3 [] (by simp)).new _ _
  have b4:(h3.new [x3] 1).blk h3.next=some [x3]:=by simp
  have n4:(h3.new [x3] 1).next=h3.next+1:=rfl
  have f4:=f3.step0 mc.lA s4
  have g4:=g3.frame s4 (by simp)
  have n3:=s3.1
  generalize h3.new [x3] 1=h4 at *
  simp only[dU,dL,ft]
  refine ⟨aq wq2 f4.bq (o:=4) (v:=y) rfl rfl,?_⟩
  refine gB (by omega) f4.vec rfl (kO (w0:=w0) (by omega) b4 rfl) rfl (by omega) (by omega) (by omega) λy5 h5 T5 g5 s5=>?_
  have lT:=f4.vec.lt
  have hUl:∀b,b∈U→b<h3.next:=λb hb=>(g3.lt b hb).2
  have l1:=fi.lq
  have n5:=s5.1
  have own5:∀b,b∈T5→b∈T∨h4.next≤b:=λb hb=>(s5.own b hb).2
  have hUT:∀b,b∈U→b∉T:=λb hb w=>by have:=hU b hb;have:=(fi.vec.lt b w).2;omega
  have b5:h5.blk q2=some (aN s++[v2,y]):=by rw[(s5.keep q2 f4.lq.2 fi.d1.1).1];exact f4.bq
  refine eH wq2 b5 (by simp[aN]) g5.sl.isC ?_
  have sP:Step h5 (h5.put q2 (aN s++[v2,y5])) [q2] [q2]:=(Step.refl h5 [q2] (by simp;omega)).put (by simp) _
  have bP:(h5.put q2 (aN s++[v2,y5])).blk q2=some (aN s++[v2,y5]):=by simp
  have nP:(h5.put q2 (aN s++[v2,y5])).next=h5.next:=rfl
  have sX:Step h4 (h5.put q2 (aN s++[v2,y5])) (q2::T) (q2::T5):=(s5.consR f4.lq.2).trans (sP.wide (by simp) λb hb=>by
   rcases bB.1 hb with w|w
   ·subst w;exact .inl (by simp)
   ·exact .inr ⟨by simp[w],(s5.own b w).1⟩)
  have e5:(aN s++[v2,y]).set 4 y5=aN s++[v2,y5]:=rfl
  rw[e5,e6]
  obtain ⟨x1,x2,xe⟩:=f4.frame (y':=y) (T':=T) mc.lA sX λb hb=>by
   rcases bB.1 hb with w|w
   ·subst w;exact ⟨l1.1,fi.d1.2⟩
   ·exact ⟨fi.lT b w,fi.d2 b w⟩
  have g6:=g4.frame sX (λb hb w=>by
   rcases bB.1 w with w|w
   ·have:=hU b hb;omega
   ·exact hUT b hb w)
  have g7:=g5.frame sP (λb hb w=>by
   simp at w
   subst w
   rcases own5 _ hb with w|w
   ·exact fi.d1.1 w
   ·omega)
  have sA:Step h1 h4 [] []:=(s3.less (T:=[]) (by simp)).trans (s4.less (T:=[]) (by simp))
  have nh:=fi.st.1
  generalize h5.put q2 (aN s++[v2,y5])=h6 at *
  refine ih (i+1) h6 y5 (zs++[x3]) T5 (U++C) (by omega) ⟨x1,bP,⟨l1.1,by omega⟩,g7,λj z hj=>?_,xe,λb hb=>by simp[fi.om b hb],λb hb=>?_,λb hb=>?_,⟨λw=>?_,λw=>?_⟩,λb hb w=>?_⟩
  ·rcases nu j zs.length with w|w
   ·rw[jv w]at hj
    exact (x2 j z hj).more λb hb=>by simp only[cM,aS]at hb ⊢;exact .inr hb
   ·have hji:j=i:=by
     rw[i6 w]at hj
     have:=(cB.1 hj).1
     simp at this
     omega
    subst hji
    rw[i6 w,hzl,Nat.sub_self]at hj
    simp at hj
    subst hj
    refine ⟨ps,ep,g6.sl,λb hb=>by rw[g6.sbk]at hb;simp[hb],λp hp=>?_⟩
    obtain ⟨r,hr2⟩:=rp p hp
    have lb:∀b,b∈bL p.1→b<hh.next:=λb hb=>mc.lA b (hr2 b hb)
    refine ⟨(Sl.stepL r (λb hb=>by have:=lb b hb;omega) sA (by simp)).stepL (λb hb=>by have:=lb b hb;omega) sX (λb hb w=>?_),λb hb=>by simp[hr2 b hb]⟩
    have:=lb b hb
    rcases bB.1 w with w|w
    ·omega
    ·have:=fi.lT b w;omega
  ·rcases aS.1 hb with w|w
   ·have:=hU b w;have:=hUl b w;omega
   ·have:=fi.lC b w;omega
  ·rcases own5 b hb with w|w
   ·exact fi.lT b w
   ·omega
  ·rcases own5 _ w with w|w
   ·exact fi.d1.1 w
   ·omega
  ·rcases aS.1 w with w|w
   ·have:=hU _ w;omega
   ·exact fi.d1.2 w
  ·rcases own5 b hb with r|r
   ·rcases aS.1 w with w|w
    ·exact hUT b w r
    ·exact fi.d2 b r w
   ·rcases aS.1 w with w|w
    ·have:=hUl b w;omega
    ·have:=(fi.lC b w).2;omega
theorem ZA{r:Value}{S:List Nat}{W:Nat}(m:Rv w0 h r s S A)(ok:LOk s W)(hW:W≤1048576):
  aj prog w0 Ay [r] h λv h'=>∃S' N,Rv w0 h' v s S' (N++A)∧Step h h' [] (S'++N):=by
 refine aj.of_fit (by simpa using m.nj) λf=>OQ (by simpa using m.nj) ?_
 obtain ⟨q,qa,c,vm,us,e,eS,mc⟩:=m.cc
 subst e eS
 have fb:=f.base
 have hmt:=ok.mtop
 have hnum:=ok.num
 have hrun:=ok.runs
 simp only[BP,wd, wa]
 refine gN (e:=aN s) mc.hq mc.bq rfl ?_
 refine aq mc.hq mc.bq (o:=3) (v:=vm) rfl ?_
 refine D6 fb mc.em (λb hb=>mc.lA b (mc.om b hb)) (by omega) (by omega) (by omega) (λh' st=>?_) λx2 h2 U g2 s2 hU=>?_
 ·simp only[eX,dL,ft,lW]
  have m':=mc.step0 st
  exact ⟨aq m'.hq m'.bq (o:=3) (v:=vm) rfl rfl,gN (e:=aN s) m'.hq m'.bq rfl rfl⟩
 have m2:=mc.step0 s2
 have hUl:∀b,b∈U→b<h2.next:=λb hb=>(g2.lt b hb).2
 simp only[dU,dL,lW]
 refine ⟨gN (e:=aN s) m2.hq m2.bq rfl rfl,?_⟩
 simp only[fg]
 rw[lE]
 refine ⟨rfl,by simp[aN],?_⟩
 rw[dX]
 refine ⟨g2.isC,by simp[splice,aN],?_⟩
 rw[dJ]
 simp only[wd, wa]
 show cF true 5 (.agg ([.int .i64 (s.bl:Int),.int .i64 (s.fan:Int),.int .i64 (s.top:Int),x2,.slice none 0 0]:List Value).toArray) _ _
 refine iJ ?_
 have hcs:([.int .i64 (s.bl:Int),.int .i64 (s.fan:Int),.int .i64 (s.top:Int),x2,.slice none 0 0]:List Value)=aN s++[x2,.slice none 0 0]:=rfl
 rw[hcs]
 have s3:Step h2 (h2.new (aN s++[x2,.slice none 0 0]) 5) [] [h2.next]:=(Step.refl h2 [] (by simp)).new _ _
 have b3:(h2.new (aN s++[x2,.slice none 0 0]) 5).blk h2.next=some (aN s++[x2,.slice none 0 0]):=by simp
 have n3:(h2.new (aN s++[x2,.slice none 0 0]) 5).next=h2.next+1:=rfl
 have n2:=s2.1
 have m3:=m2.step0 s3
 have g3:=g2.frame s3 (by simp)
 generalize h2.new (aN s++[x2,.slice none 0 0]) 5=h3 at *
 refine aq m3.hq m3.bq (o:=4) (v:=.slice (some ⟨qa,0,none⟩) 16 c) rfl ?_
 simp only[wd, wa]
 have fi:FI w0 h h3 h2.next s x2 (.slice none 0 0) 0 [] [] U A:=
  ⟨(s2.less (T:=[]) (by simp)).trans (s3.less (T:=[]) (by simp)),b3,⟨n2,by omega⟩,.nil,by simp,g3.sl,λb hb=>by rw[g3.sbk]at hb;exact hb,λb hb=>by have:=hU b hb;have:=hUl b hb;omega,by simp,⟨by simp,λw=>by have:=hUl _ w;omega⟩,by simp⟩
 refine ⟨16+1,aan mc fb (by omega) (λh4 y zs T C f4=>?_) 16 0 h3 _ _ _ _ rfl fi⟩
 have l4:=f4.lq
 have hv:=f4.vec
 rcases hv with ⟨-,w,-⟩|⟨qy,ey,eT,hB,hlt,hb4,hes,hl4⟩
 ·omega
 ·subst ey eT
  have dq:h2.next≠qy:=λw=>f4.d1.1 (by simp[w])
  have hCA:∀b,b∈C++A→b<h4.next:=λb hb=>by
   rcases aS.1 hb with w|w
   ·exact (f4.lC b w).2
   ·have:=mc.lA b w;have:=f4.st.1;omega
  have hqy:=f4.lT qy (by simp)
  have rc:RvC w0 h4 h2.next qy bA x2 zs s (C++A):=⟨f4.bq,hb4,by omega,dq,by omega,l4.2,hB,hlt,hCA,⟨λw=>?_,λw=>?_⟩,mc.ll,f4.em,λb hb=>by simp[f4.om b hb],f4.lv,hes,.inr rfl⟩
  ·simp only[aC,aU]
   refine ⟨by simp,[h2.next,qy],C,rc.rv,f4.st.claim λb hb=>?_⟩
   simp only[aS,bB,List.not_mem_nil,or_false]at hb
   rcases hb with (w|w)|w
   ·subst w;exact ⟨l4.2,l4.1⟩
   ·subst w;exact ⟨hlt,hqy⟩
   ·exact ⟨(f4.lC b w).2,(f4.lC b w).1⟩
  ·rcases aS.1 w with w|w
   ·exact f4.d1.2 w
   ·have:=mc.lA _ w;omega
  ·rcases aS.1 w with w|w
   ·exact f4.d2 qy (by simp) w
   ·have:=mc.lA _ w;omega
end
