/- level.Load: the whole. -/
import Derived.Test.YtfmoemconapmhaaGreatQxa
import Derived.Test.YtfmoemconapmhaaGreatPxa
import Derived.Test.YtfmoemconapmhaaGreatNxa
set_option linter.all false
namespace Go.Proofs.YtfmoemconapmhaaGreat.Ah
open Go
theorem qD{α:Type}:∀(lv:List (List α)) (j:Nat),aW lv≤j→lv.getD j []=[]
 |[],j,_=>rfl
 |r::t,j,h=>by
  have ih:=qD t
  simp only[aW]at h
  split at h
  ·cases j with
   |zero=>omega
   |succ j=>exact ih j (by omega)
  ·split at h
   ·cases j with
    |zero=>omega
    |succ j=>exact ih j (by omega)
   ·rename_i h1 h2
    have hr:r=[]:=by simpa using h2
    cases j with
    |zero=>exact hr
    |succ j=>exact ih j (by omega)
theorem getD_take{α:Type}(l:List α)(n j:Nat)(d:α):(l.take n).getD j d=if j<n then l.getD j d else d:=by
 rw[cR,gS]
 split
 ·rw[←cR]
 ·rfl
theorem F9{α:Type}{lv:List (List α)}{n:Nat}(h:∀j,n≤j→lv.getD j []=[]):(lv.drop n).flatten=[]:=by
 rw[List.flatten_eq_nil_iff]
 intro r hr
 obtain ⟨j,hj⟩:=kV hr
 rw[iG]at hj
 have:=h (n+j) (by omega)
 rw[cR,hj]at this
 exact this
section
variable {w0:World}{h h':Hp}
theorem LI.next{hh:Hp}{q rp i:Nat}{mp vc:Value}{M U A:List Nat}{s:LS}{sls:List Value}{ps:List (Value×List Ent)}(l:LI w0 hh q rp mp M s sls (s.lv.take i) i h vc U ps A)(hl3:sls.length=16)(hlv:s.lv.length=16)(hi:i<16)(hnil:∀j,i≤j→j<16→sls[j]?=some (.slice none 0 0))(e:ps.map (·.2)=s.lv.getD i []):
  LI w0 hh q rp mp M s (sls.set i vc) (s.lv.take (i+1)) (i+1) h (.slice none 0 0) [] [] (U++A)∧(sls.set i vc).length=16∧∀j,i+1≤j→j<16→(sls.set i vc)[j]?=some (.slice none 0 0):=by
 have hnil':∀j,i+1≤j→j<16→(sls.set i vc)[j]?=some (.slice none 0 0):=λj h1 h2=>by
  rw[hH (by omega)]
  exact hnil j (by omega) h2
 have hset:(sls.set i vc).set (i+1) (.slice none 0 0)=sls.set i vc:=by
  refine nr λj=>?_
  by_cases hj:j=i+1
  ·subst hj
   by_cases h16:i+1<16
   ·rw[ia (by simp;omega),hnil' (i+1) (bF _) h16]
   ·rw[fF (by simp;omega),fF (by simp;omega)]
  ·rw[hH (λe=>hj e.symm)]
 obtain ⟨a1,a2,a3,a4,a5,a6,a7,a8,a9,b1,b2,b3,b4⟩:=l
 refine ⟨⟨a1,by rw[hset];exact a2,a3,.nil,by simp,λj v hj hv=>?_,λb hb=>?_,a8,by simp,⟨b1.1,by simp,λw=>?_,b1.2.2.2⟩,λb hb=>⟨by simp,λw=>?_,(b2 b hb).2.2⟩,by simp,⟨λw=>?_,b4.2⟩⟩,by simpa using hl3,hnil'⟩
 ·rw[getD_take]
  by_cases hji:j=i
  ·subst hji
   rw[ia (by omega)]at hv
   cases hv
   rw[if_pos (by omega),←e]
   refine ⟨ps,rfl,a4.sl,λb hb=>?_,λp hp=>?_⟩
   ·rw[a4.sblk_eq]at hb
    simp[hb]
   ·obtain ⟨S,r,hS⟩:=a5 p hp
    exact ⟨S,r,λb hb=>by simp[hS b hb]⟩
  ·rw[hH (λe=>hji e.symm)]at hv
   have:=a6 j v hji hv
   rw[getD_take]at this
   have h2:(if j<i then s.lv.getD j [] else [])=if j<i+1 then s.lv.getD j [] else []:=by
    by_cases h3:j<i
    ·rw[if_pos h3,if_pos (by omega)]
    ·rw[if_neg h3,if_neg (by omega)]
   rw[h2]at this
   exact this.more (by simp +contextual)
 ·rcases aS.1 hb with r|r
  ·exact ⟨a9 b r,(a4.lt b r).2⟩
  ·exact a7 b r
 ·rcases aS.1 w with r|r
  ·exact b1.2.1 r
  ·exact b1.2.2.1 r
 ·rcases aS.1 w with r|r
  ·exact (b2 b hb).1 r
  ·exact (b2 b hb).2.1 r
 ·rcases aS.1 w with r|r
  ·exact (b3 rp r).2 rfl
  ·exact b4.1 r
theorem X9{k2:Value→Value→Value→Hp→Prop}{kr:Value→Value→Value→Hp→Prop}{hh:Hp}{q rp:Nat}{mp x6:Value}{M:List Nat}{s:LS}{W:Nat}(fh:Fit w0 hh)(ok:LOk s W)(hW:W≤1048576)
  (hk:∀h1 x2 sls A,LI w0 hh q rp mp M s sls (s.lv.take (aW s.lv)) (aW s.lv) h1 (.slice none 0 0) [] [] A→sls.length=16→(∀j,aW s.lv≤j→j<16→sls[j]?=some (.slice none 0 0))→Rd w0 h1 rp ⟨[],0⟩→Sl w0 h1 1 x2 0 []→k2 (ptr rp) x2 x6 h1):
  ∀(m i:Nat) (h1:Hp) (x2:Value) (sls:List Value) (A:List Nat) (D:List (Value×List Ent)),i+m=aW s.lv→LI w0 hh q rp mp M s sls (s.lv.take i) i h1 (.slice none 0 0) [] [] A→sls.length=16→(∀j,i≤j→j<16→sls[j]?=some (.slice none 0 0))→Rd w0 h1 rp ⟨((s.lv.take (aW s.lv)).drop i).flatMap (lvB s.bl),0⟩→
   Sl w0 h1 1 x2 D.length (D.map (·.1))→(∀b,b∈bL x2→b<hh.next)→D.map (·.2)=(s.lv.drop i).flatten→(∀p:Value×List Ent,p∈D→∃U,Vec w0 hh 1 p.1 (aX (s.bl:Int) p.2).length (bvs (aX (s.bl:Int) p.2)) U)→
   pn prog w0 k2 kr (m+1) (ptr q) (ptr rp) x2 x6 (.int .i64 (aW s.lv:Int)) (.int .i64 (i:Int)) h1:=by
 have hlv:=ok.len
 have hla:=j6 s.lv
 have hnum:=ok.num
 intro m
 induction m with
 |zero=>
  intro i h1 x2 sls A D hi l hl3 hnil w g o e hD
  have:i=aW s.lv:=by omega
  subst this
  rw[F9 (λj hj=>qD s.lv j hj)]at e
  have hD0:D=[]:=by simpa using e
  subst hD0
  rw[iz (by rw[dV];omega)]at w
  rw[pn]
  simp only[sL,wd, wa,dQ,decide_false]
  exact hk h1 x2 sls A l hl3 hnil w g
 |succ m ih=>
  intro i h1 x2 sls A D hi l hl3 hnil w g o e hD
  have c1:decide ((i:Int)<(aW s.lv:Int))=true:=decide_eq_true (by omega)
  have e6:=wrN i (by omega)
  have hgi:s.lv[i]?=some (s.lv.getD i []):=by rw[cR,bW (by omega)];rfl
  have hgm:s.lv.getD i []∈s.lv:=cK hgi
  have hdi:s.lv.drop i=s.lv.getD i []::s.lv.drop (i+1):=by
   rw[jI (by omega),cR,bW (by omega)]
   rfl
  have hti:(s.lv.take (aW s.lv)).drop i=s.lv.getD i []::(s.lv.take (aW s.lv)).drop (i+1):=by
   rw[jI (by rw[dV];omega),List.getElem_take,cR,bW (by omega)]
   rfl
  rw[hdi,gw]at e
  have hDs:D=D.take (s.lv.getD i []).length++D.drop (s.lv.getD i []).length:=(fw _ _).symm
  have e1:(D.take (s.lv.getD i []).length).map (·.2)=s.lv.getD i []:=by rw[List.map_take,e,mq];rfl
  have e2:(D.drop (s.lv.getD i []).length).map (·.2)=(s.lv.drop (i+1)).flatten:=by rw[List.map_drop,e,mg];rfl
  have hdl:(D.take (s.lv.getD i []).length).length=(s.lv.getD i []).length:=by have:=congrArg List.length e1;simpa using this
  have hDl:D.length≤1000000:=by
   have h1:=congrArg List.length e
   have h2:=ok.runs
   have h3:(s.lv.drop i).flatten.length≤s.lv.flatten.length:=by
    conv=>rhs;rw[←fw i s.lv,fO,aT]
    omega
   rw[hdi,gw]at h3
   rw[eA]at h1
   omega
  have hrn:=ok.lvl i
  generalize hDi:D.take (s.lv.getD i []).length=Di at *
  generalize hDm:D.drop (s.lv.getD i []).length=Dm at *
  have hfl:(Di.flatMap λp=>dB s.bl p.2)=(s.lv.getD i []).flatMap (dB s.bl):=by rw[←e1,List.flatMap_map]
  rw[hti,eN]at w
  have hw:lvB s.bl (s.lv.getD i [])++((s.lv.take (aW s.lv)).drop (i+1)).flatMap (lvB s.bl)=vi (s.lv.getD i []).length++((Di.flatMap λp=>dB s.bl p.2)++((s.lv.take (aW s.lv)).drop (i+1)).flatMap (lvB s.bl)):=by
   rw[hfl]
   simp[lvB]
  rw[hw]at w
  rw[pn]
  simp only[sL,wd, wa,c1]
  refine rdv (by omega) w λh2 f2 w2 s2=>?_
  have l2:=l.frame s2 (by simp)
  rw[hDs]at g
  have g2:Sl w0 h2 1 x2 (Di++Dm).length ((Di++Dm).map (·.1)):=g.stepL (λb hb=>by have:=o b hb;have:=l.st.1;omega) s2 (by simp;exact λb hb e=>by have:=o b hb;have:=l.d4.2;omega)
  rw[←hdl]
  refine ⟨Di.length+1,X8 (hh:=hh) (lvd:=s.lv.take i) (sls:=sls) (Di:=Di) (more:=Dm) (rest:=((s.lv.take (aW s.lv)).drop (i+1)).flatMap (lvB s.bl)) fh hl3 (by omega) hnum.1 hnum.2.1 (λp hp=>?_) (by rw[hDs]at hDl;simpa using hDl) (λh3 x3 vc U ps A3 l3 e3 w3 g3 o3=>?_) Di [] h2 x2 _ [] [] A rfl l2 rfl w2 g2 o⟩
  ·have hpm:p.2∈s.lv.getD i []:=by rw[←e1];exact eB.2 ⟨p,hp,rfl⟩
   refine ⟨hD p (by rw[hDs];simp[hp]),(ok.rok _ hgm p.2 hpm).1,?_⟩
   have h2:=xy hgi
   have h3:=qo aY hpm
   have h4:=ok.size
   omega
  ·obtain ⟨l4,hl4,hn4⟩:=l3.next hl3 hlv (by omega) hnil (by rw[e3,e1])
   simp only[wd, wa,e6]
   exact ih (i+1) h3 x3 _ _ Dm (by omega) l4 hl4 hn4 w3 g3 o3 e2 (λp hp=>hD p (by rw[hDs];simp[hp]))
end
section
variable {w0:World}{h h':Hp}
theorem MI(b f t:Int):aj prog w0 qN [eZ b f t] h λr h' =>
  (dO b f t=true→∃q mp M,r=.tuple #[ptr q,.int .i64 0]∧h'.blk q=some (aN (cW b.toNat f.toNat t.toNat)++mp::List.replicate 16 (.slice none 0 0))∧Me w0 h' mp [] M∧q∉M∧Step h h' [] (q::M)):=by
 refine aj.of_fit (by simp[eZ]) λfi=>Dz (by simp[eZ]) ?_
 have fb:=fi.base
 simp only[Cg]
 refine iJ (e:=[.int .i64 b,.int .i64 f,.int .i64 t]) ?_
 have s1:Step h (h.new [.int .i64 b,.int .i64 f,.int .i64 t] 3) [] []:=((Step.refl h [] (by simp)).new _ _).less (by simp)
 have b1:(h.new [.int .i64 b,.int .i64 f,.int .i64 t] 3).blk h.next=some [.int .i64 b,.int .i64 f,.int .i64 t]:=by simp
 have l1:h.next<(h.new [.int .i64 b,.int .i64 f,.int .i64 t] 3).next:=by simp
 generalize h.new [.int .i64 b,.int .i64 f,.int .i64 t] 3=h1 at *
 refine cO fb b1 rfl ?_
 refine aA (Il b f t) λv h2 ⟨e,s2⟩ f2=>?_
 subst e
 have s12:=s1.trans s2
 cases hr:dO b f t with
 |false=>
  simp only[wd, wa,aC,cG]
  exact ⟨by simp,by simp⟩
 |true=>
  have hn:=(pC _ _ _).1 hr
  simp only[wd, wa]
  have b2:h2.blk h.next=some [.int .i64 b,.int .i64 f,.int .i64 t]:=by rw[(s2.keep _ l1 (by simp)).1];exact b1
  refine cO fb b2 rfl ?_
  refine aA Dd λmp h3 ⟨M,m3,s3⟩ f3=>?_
  have l2:h.next<h2.next:=cJ l1 s2.1
  have b3:h3.blk h.next=some [.int .i64 b,.int .i64 f,.int .i64 t]:=by rw[(s3.keep _ l2 (by simp)).1];exact b2
  simp only[dU,dL,lW]
  refine ⟨cO fb b3 rfl rfl,?_⟩
  have hmc:=m3.isC
  have hML:=m3.lt
  simp only[fg]
  rw[lE]
  refine ⟨rfl,by simp,?_⟩
  rw[dX]
  refine ⟨hmc,by simp[splice],?_⟩
  rw[dJ]
  simp only[wd, wa]
  have hb2:((b.toNat:Nat):Int)=b:=by omega
  have hf2:((f.toNat:Nat):Int)=f:=by omega
  have ht2:((t.toNat:Nat):Int)=t:=by omega
  have hcs:([.int .i64 b,.int .i64 f,.int .i64 t,mp]++List.replicate 16 (.slice none 0 0):List Value)=aN (cW b.toNat f.toNat t.toNat)++mp::List.replicate 16 (.slice none 0 0):=by
   simp[aN,cW,hb2,hf2,ht2]
  show cF true 20 (.agg ([.int .i64 b,.int .i64 f,.int .i64 t,mp]++List.replicate 16 (.slice none 0 0):List Value).toArray) _ _
  rw[hcs]
  refine iJ ?_
  have s4:Step h3 (h3.new (aN (cW b.toNat f.toNat t.toNat)++mp::List.replicate 16 (.slice none 0 0)) 20) [] [h3.next]:=(Step.refl h3 [] (by simp)).new _ _
  have b4:(h3.new (aN (cW b.toNat f.toNat t.toNat)++mp::List.replicate 16 (.slice none 0 0)) 20).blk h3.next=some (aN (cW b.toNat f.toNat t.toNat)++mp::List.replicate 16 (.slice none 0 0)):=by simp
  have n4:h3.next<(h3.new (aN (cW b.toNat f.toNat t.toNat)++mp::List.replicate 16 (.slice none 0 0)) 20).next:=by simp
  generalize h3.new (aN (cW b.toNat f.toNat t.toNat)++mp::List.replicate 16 (.slice none 0 0)) 20=h4 at *
  simp only[wd, wa,aC,cG]
  refine ⟨by simp,λ_=>⟨h3.next,mp,M,rfl,b4,m3.frame s4 (by simp),λq=>by have:=(hML _ q).2;omega,?_⟩⟩
  have s13:Step h h3 [] M:=s12.trans s3
  exact (s13.trans (s4.more M (λb hb=>(hML b hb).2))).weaken (λb hb=>by simp at hb) (λb hb=>.inl (by simpa using hb))
theorem XA{k0:Value→Value→Value→Value→Hp→Prop}{kr:Value→Value→Value→Value→Hp→Prop}{x0 x2 x6 v:Value}{rp:Nat}{ns:List Nat}{rest:List UInt8}{hh:Hp}(hl:ns.length≤1000)(hns:∀n,n∈ns→n<18446744073709551616)
  (hk:∀h1,Step hh h1 [rp] [rp]→Rd w0 h1 rp ⟨rest,0⟩→k0 x0 (ptr rp) x2 x6 h1):∀(post pre:List Nat) (h1:Hp),pre++post=ns→Step hh h1 [rp] [rp]→Sl w0 h1 1 v ns.length (inV ns)→Off h1 v [rp]→Rd w0 h1 rp ⟨post.flatMap vi++rest,0⟩→
   pm prog w0 k0 kr (post.length+1) x0 (ptr rp) x2 x6 v (.int .i64 (ns.length:Int)) (.int .i64 (pre.length:Int)) h1:=by
 intro post
 induction post with
 |nil=>
  intro pre h1 he st g o w
  have hpre:pre=ns:=by simpa using he
  subst hpre
  rw[cS,pm]
  simp only[vK,wd, wa,dQ,decide_false]
  exact hk h1 st w
 |cons z post ih=>
  intro pre h1 he st g o w
  have hlen:pre.length+(post.length+1)=ns.length:=by rw[←he];simp
  have hg:ns[pre.length]?=some z:=by rw[←he];simp
  have hzm:z∈ns:=by rw[←he];simp
  have c1:decide ((pre.length:Int)<(ns.length:Int))=true:=decide_eq_true (by omega)
  have e6:=wrS pre z (by omega)
  rw[eN,cM]at w
  rw[bH,pm]
  simp only[vK,wd, wa,c1]
  refine g.one (oU hg) ?_
  refine rdv (hns z hzm) w λh2 f2 w2 s2=>?_
  have e8:IntKind.u64.wrap (z:Int)=(z:Int):=gR rfl (hns z hzm)
  have c4:((z:Int) != (z:Int))=false:=by simp
  simp only[wd, wa,e8,c4,e6]
  exact ih (pre++[z]) h2 (by simpa using he) (st.trans s2) (o.sl g s2) (o.step s2) w2
theorem aai{q rp:Nat}{mp v:Value}{M:List Nat}{s:LS}{W:Nat}{D:List (Value×List Ent)}{hh:Hp}(fh:Fit w0 hh)(ok:LOk s W)(hW:W≤1048576)(l:LI w0 hh q rp mp M s (List.replicate 16 (.slice none 0 0)) [] 0 h (.slice none 0 0) [] [] [])(w:Rd w0 h rp ⟨cH s,0⟩)
  (g:Sl w0 h 1 v D.length (D.map (·.1))) (o:∀b,b∈bL v→b<hh.next) (e:D.map (·.2)=s.lv.flatten) (hD:∀p:Value×List Ent,p∈D→∃U,Vec w0 hh 1 p.1 (aX (s.bl:Int) p.2).length (bvs (aX (s.bl:Int) p.2)) U):
  aj prog w0 AG [ptr q,ptr rp,v] h λr h'=>r=.bool true∧∃S' A',Lv w0 h' (ptr q) { s with mem:=[] } S' A'∧(∀b,b∈S'++A'→hh.next≤b)∧Step hh h' [] []:=by
 refine aj.of_fit (by simp[ptr,g.junk]) λf=>Py (by simp[ptr,g.junk]) ?_
 have hnum:=ok.num
 have hlv:=ok.len
 have hla:=j6 s.lv
 have hrl:(bY s.lv).length=aW s.lv:=by unfold bY;rw[dV,eA,hlv];omega
 have hmB:cH s=[s.bl,s.fan,s.top].flatMap vi++(vi (aW s.lv)++(s.lv.take (aW s.lv)).flatMap (lvB s.bl)):=by
  unfold cH
  rw[hrl]
  simp[cM]
 rw[hmB]at w
 have wq:w0.heap.size≤q:=cY fh.base l.geq.1
 have bq:h.blk q=some (aN s++mp::List.replicate 16 (.slice none 0 0)):=l.bq
 simp only[Cf,ptr,wd, wa]
 refine aq wq bq rfl ?_
 refine aq wq bq rfl ?_
 refine aq wq bq rfl ?_
 simp only[i9,dX,dJ,show aL [(.int .i64 0:Value)] 3=[.int .i64 0,.int .i64 0,.int .i64 0] from rfl,cU,fc,wd, wa]
 refine ⟨rfl,by simp,rfl,by simp,rfl,by simp,?_⟩
 have s4:Step h (h.new (inV [s.bl,s.fan,s.top]) 1) [] [h.next]:=(Step.refl h [] (by simp)).new _ _
 have g4:Sl w0 (h.new (inV [s.bl,s.fan,s.top]) 1) 1 (.slice (some ⟨h.next,0,none⟩) 3 3) 3 (inV [s.bl,s.fan,s.top]):=⟨_,_,rfl,iD f.base rfl,rfl,.inl ⟨by decide,bF _⟩⟩
 have n4:(h.new (inV [s.bl,s.fan,s.top]) 1).next=h.next+1:=rfl
 show zU _ _ _ _ _ _ _ _ _ _ _ (h.new (inV [s.bl,s.fan,s.top]) 1)
 have w4:=w.frame s4 (by simp)
 have l4:=l.frame s4 (by simp)
 have gx4:Sl w0 (h.new (inV [s.bl,s.fan,s.top]) 1) 1 v D.length (D.map (·.1)):=g.stepL (λb hb=>by have:=o b hb;have:=l.st.1;omega) s4 (by simp)
 have hrp:rp<h.next:=w.2.2.1
 generalize h.new (inV [s.bl,s.fan,s.top]) 1=h4 at *
 have o4:Off h4 (.slice (some ⟨h.next,0,none⟩) 3 3) [rp]:=λb hb=>by
  simp[bL]at hb
  subst hb
  exact ⟨by omega,by simp;omega⟩
 refine ⟨3+1,XA (hh:=h4) (rp:=rp) (ns:=[s.bl,s.fan,s.top]) (by simp) (λn hn=>?_) (λh5 s5 w5=>?_) [s.bl,s.fan,s.top] [] h4 rfl w4.refl g4 o4 w4⟩
 ·simp at hn
  rcases hn with rfl|rfl|rfl <;> omega
 ·have l5:=l4.frame s5 (by simp)
  have gx5:Sl w0 h5 1 v D.length (D.map (·.1)):=gx4.stepL (λb hb=>by have:=o b hb;have:=l4.st.1;omega) s5 (by simp;exact λb hb e=>by have:=o b hb;have:=l.d4.2;omega)
  refine rdv (by omega) w5 λh6 f6 w6 s6=>?_
  have l6:=l5.frame s6 (by simp)
  have gx6:Sl w0 h6 1 v D.length (D.map (·.1)):=gx5.stepL (λb hb=>by have:=o b hb;have:=l5.st.1;omega) s6 (by simp;exact λb hb e=>by have:=o b hb;have:=l.d4.2;omega)
  have c1:decide ((16:Int)<(aW s.lv:Int))=false:=decide_eq_false (by omega)
  have e8:IntKind.i64.wrap (aW s.lv:Int)=(aW s.lv:Int):=bM _ (by omega)
  simp only[wd, wa,c1,e8]
  refine ⟨aW s.lv+1,X9 (hh:=hh) (q:=q) (mp:=mp) (M:=M) fh ok hW (λh7 x2 sls A l7 hl7 hn7 w7 g7=>?_) (aW s.lv) 0 h6 v (List.replicate 16 (.slice none 0 0)) [] D (by omega) l6 (by simp) (λj _ hj=>by rw[tN,if_pos hj]) w6 gx6 o e hD⟩
  refine aA (MJ w7) λu h8 ⟨e8,e8'⟩ f8=>?_
  subst e8
  subst h8
  have c2:(⟨[],0⟩:RS).done=0:=rfl
  have c3:((0:Int)==0)=true:=rfl
  have c4:(((0:Nat):Int)==0)=true:=rfl
  simp only[c2,c3,g7.lenv,c4,wd, wa,aC,aU]
  obtain ⟨a1,a2,a3,a4,a5,a6,a7,a8,a9,b1,b2,b3,b4⟩:=l7
  refine ⟨by simp,trivial,q::M,A,⟨q,mp,M,sls.set (aW s.lv) (.slice none 0 0),rfl,a2,by simpa using hl7,a3,rfl,b1.1,wq,a8.2.1,λb hb=>(a7 b hb).2,λb hb=>?_,hlv,λj u hj=>?_⟩,λb hb=>?_,a1⟩
  ·rcases bB.1 hb with r|r
   ·rw[r];exact b1.2.2.1
   ·exact (b2 b r).2.1
  ·show Lvl w0 h7 A s.bl u (s.lv.getD j [])
   by_cases hjl:j=aW s.lv
   ·have hj16:j<16:=by have:=(cB.1 hj).1;rw[i7]at this;omega
    rw[hjl,ia (by omega)]at hj
    cases hj
    rw[qD s.lv j (by omega)]
    exact .nil _ _
   ·rw[hH (λe=>hjl e.symm)]at hj
    have:=a6 j u hjl hj
    rw[getD_take]at this
    by_cases hlt:j<aW s.lv
    ·rw[if_pos hlt]at this
     exact this
    ·rw[if_neg hlt]at this
     rw[qD s.lv j (by omega)]
     exact this
  ·simp only[ku,bB,aS]at hb
   rcases hb with r|r|r
   ·rw[r];exact a8.1
   ·exact a8.2.2 b r
   ·exact (a7 b r).1
theorem M4{vm v:Value}{s:LS}{W:Nat}{D:List (Value×List Ent)}{Sm:List Nat}(ok:LOk s W)(hW:W≤1048576)(hman:(cH s).length≤1048576)(gm:GV w0 h 1 vm (frame 77 (cH s)).length (bvs (frame 77 (cH s))) Sm)(g:Sl w0 h 1 v D.length (D.map (·.1)))(o:∀b,b∈bL v→b<h.next)
  (e:D.map (·.2)=s.lv.flatten) (hD:∀p:Value×List Ent,p∈D→∃U,Vec w0 h 1 p.1 (aX (s.bl:Int) p.2).length (bvs (aX (s.bl:Int) p.2)) U):
  aj prog w0 AH [eZ (s.bl:Int) (s.fan:Int) (s.top:Int),vm,v] h λr h'=>∃p S' A',r=.tuple #[p,.int .i64 0]∧Lv w0 h' p { s with mem:=[] } S' A'∧Step h h' [] (S'++A'):=by
 refine aj.of_fit (by simp[eZ,gm.nj,g.junk]) λf=>P0 (by simp[eZ,gm.nj,g.junk]) ?_
 have hnum:=ok.num
 have hright:=ok.right
 have fb:=f.base
 simp only[Kx,eZ]
 refine iJ (e:=[.int .i64 (s.bl:Int),.int .i64 (s.fan:Int),.int .i64 (s.top:Int)]) ?_
 have s1:Step h (h.new [.int .i64 (s.bl:Int),.int .i64 (s.fan:Int),.int .i64 (s.top:Int)] 3) [] []:=((Step.refl h [] (by simp)).new _ _).less (by simp)
 have b1:(h.new [.int .i64 (s.bl:Int),.int .i64 (s.fan:Int),.int .i64 (s.top:Int)] 3).blk h.next=some [.int .i64 (s.bl:Int),.int .i64 (s.fan:Int),.int .i64 (s.top:Int)]:=by simp
 generalize h.new [.int .i64 (s.bl:Int),.int .i64 (s.fan:Int),.int .i64 (s.top:Int)] 3=h1 at *
 refine cO fb b1 rfl ?_
 refine aA (MI (s.bl:Int) (s.fan:Int) (s.top:Int)) λr h2 hr f2=>?_
 obtain ⟨q,mp,M,e2,bq,mm,hqM,s2⟩:=hr hright
 subst e2
 have hnn:aN (cW (s.bl:Int).toNat (s.fan:Int).toNat (s.top:Int).toNat)=aN s:=by simp[aN,cW]
 rw[hnn]at bq
 have c0:((0:Int) != 0)=false:=rfl
 simp only[c0,wd, wa]
 have st2:Step h h2 [] []:=s1.trans (s2.less (by simp))
 have gm2:=gm.frame st2 (by simp)
 refine GV.b2s (s:=1) gm2 ?_
 have hfl:(frame 77 (cH s)).length=(cH s).length+12:=by simp[frame,eR];omega
 have hunf:=Mc 77 (by omega) (cH s) [] hman
 rw[dG]at hunf
 refine aA (MQ (frame 77 (cH s)) (by omega)) λr h3 ⟨e3,s3⟩ f3=>?_
 rw[hunf]at e3
 subst e3
 have gm3:=gm2.frame s3 (by simp)
 have c1:(((77:Nat):Int) != 77)=false:=rfl
 have c2:(((12+(cH s).length:Nat):Int) != ((frame 77 (cH s)).length:Int))=false:=by rw[hfl];simp;omega
 simp only[xF,c0,c1,gm3.sl.lenv,c2,wd, wa]
 refine aA (rq (cH s) (by omega)) λr h4 ⟨e4,w4,s4⟩ f4=>?_
 subst e4
 have hq:=s2.own q (by simp)
 have hM:∀b,b∈M→h1.next≤b∧b<h2.next:=λb hb=>by
  have:=s2.own b (by simp[hb])
  refine ⟨?_,this.1⟩
  rcases this.2 with r|r
  ·simp at r
  ·exact r
 have hq1:h1.next≤q:=by
  rcases hq.2 with r|r
  ·simp at r
  ·exact r
 have n1:=s1.1
 have n3:=s3.1
 have n4:h3.next<h4.next:=(s4.own h3.next (by simp)).1
 have s24:Step h2 h4 [] []:=s3.trans (s4.less (by simp))
 have st4:Step h h4 [] []:=st2.trans s24
 have l:LI w0 h q h3.next mp M s (List.replicate 16 (.slice none 0 0)) [] 0 h4 (.slice none 0 0) [] [] []:=
  ⟨st4,by rw[(s24.keep q hq.1 (by simp)).1,bq];rfl,mm.frame s24 (by simp),.nil,by simp,λj u hj hu=>by
   have hv:=pX (cK hu)
   subst hv
   exact .nil _ _,by simp,⟨by omega,by omega,λb hb=>by have:=hM b hb;omega⟩,by simp,⟨hqM,by simp,by simp,by omega⟩,λb hb=>⟨by simp,by simp,by have:=hM b hb;omega⟩,by simp,⟨by simp,by omega⟩⟩
 have g4:Sl w0 h4 1 v D.length (D.map (·.1)):=g.stepL o st4 (by simp)
 refine aA (aai (hh:=h) f ok hW l w4 g4 o e hD) λr h5 ⟨e5,S',A',m5,hge,st5⟩ f5=>?_
 subst e5
 simp only[wd, wa]
 have gm5:=gm.frame st5 (by simp)
 refine GV.b2s (s:=1) gm5 ?_
 have ok':LOk { s with mem:=[] } W:=⟨ok.right,ok.len,.nil,by simp,by show 0<s.top;omega,ok.rok,by
  have:=ok.size
  show aY []+(s.lv.flatten.map aY).sum≤W
  have h0:aY []=0:=rfl
  omega⟩
 have hm':cH { s with mem:=[] } = cH s:=rfl
 refine aA (yc m5 ok' hW (by rw[hm'];exact hman)) λu h6 ⟨S6,g6,s6⟩ f6=>?_
 rw[hm']at g6
 have gm6:=gm5.frame s6 (by simp)
 simp only[dU,dL,Lk]
 refine ⟨GV.b2s (s:=1) gm6 rfl,?_⟩
 refine g6.b2s ?_
 simp only[jB,ne_eq,not_true,decide_false,wd, wa,aC,cG]
 have n6:=s6.1
 refine ⟨by simp,ptr q,S',A',rfl,m5.step0 s6,?_⟩
 refine (st5.trans (s6.less (by simp))).claim λb hb=>⟨?_,hge b hb⟩
 rcases aS.1 hb with r|r
 ·have:=(m5.lt b r).2;omega
 ·have:=m5.ltA b r;omega
end
def pe(x:Ent):List Value:=[.string (str x.k),.string (str x.v)]
theorem aaz(l:List Ent):rng [] [] l=l:=by
 unfold rng
 rw[xS]
 intro x hx
 have:blt x.k []=false:=by
  cases x.k <;> rfl
 simp[inR,this]
section
variable {w0:World}{h h':Hp}
theorem Bo{l:List Ent}{i:Nat}{x:Ent}(h:l[i]?=some x):((l.flatMap pe).drop (i*2)).take 2=pe x:=yO (e:=pe) (s:=2) (λ_=>rfl) l i x h
theorem Lv.y{r:Value}{s:LS}{S A:List Nat}(m:Lv w0 h r s S A){N:Nat}(ys:bC N h h' [] []):Lv w0 h' r s S A:=(m.frame ys.step (by simp) (by simp):Lv w0 (h'.as h) r s S A)
theorem CC{s:LS}{W:Nat}(ok:LOk s W)(hW:W≤1048576):s.view.length≤1048576:=by
 have h2:=kH (dZ s.lists)
 have h3:=sd s.lists
 have h4:=ok.size
 have h5:(s.lists.map aY).sum≤W:=by simpa[LS.lists]using h4
 have h6:s.view.length≤(dZ s.lists).length:=xW _ _
 omega
end
