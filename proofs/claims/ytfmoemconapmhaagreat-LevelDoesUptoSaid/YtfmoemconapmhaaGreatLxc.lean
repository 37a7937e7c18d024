/- level.newest, Get, Runs. -/
import Derived.Test.YtfmoemconapmhaaGreatLxb
set_option linter.all false
namespace Go.Proofs.YtfmoemconapmhaaGreat.Ah
open Go
theorem yV(o:Option Ent):(eo o).all fj=false:=by cases o <;> rfl
theorem yU(o:Option Ent):(eo o).length=3:=by cases o <;> rfl
section
variable {w0:World}{h h':Hp}
theorem YF{k2 kr:Value→Value→Value→Value→Value→Hp→Prop}{x5 x28 x29 v:Value}{k:Key}{p bl:Nat}{A:List Nat}{ps:List (Value×List Ent)}(hsl:Sl w0 h 1 v ps.length (ps.map (·.1)))(hA:∀b,b∈A→b<h.next)(hsb:∀b,b∈bL v→b∈A)
  (hpr:∀q:Value×List Ent,q∈ps→∃S,Rb w0 h q.1 q.2 bl S∧∀b,b∈S→b∈A) (fh:Fit w0 h) (hp:h.next≤p) (hl:ps.length≤1000000)
  (hk:look (ps.map (·.2)) k=none→∀h1,Step h h1 [] []→h1.blk p=some zE→p<h1.next→k2 (.string (str k)) (ptr p) x5 x28 x29 h1)
  (hr:∀x,look (ps.map (·.2)) k=some x→∀h1,Step h h1 [] []→h1.blk p=some (ee x)→kr (.string (str k)) (ptr p) (.bool true) x28 x29 h1):
  ∀(post pre:List (Value×List Ent)) (h1:Hp),pre++post=ps→look (pre.map (·.2)) k=none→Step h h1 [] []→h1.blk p=some zE→p<h1.next→
   pk prog w0 k2 kr (post.length+1) (.string (str k)) (ptr p) x5 x28 x29 v (.int .i64 (ps.length:Int)) (.int .i64 (pre.length:Int)) h1:=by
 intro post
 induction post with
 |nil=>
  intro pre h1 he hn st bp lp
  have hpre:pre=ps:=by simpa using he
  subst hpre
  rw[cS,pk]
  simp only[vJ,wd, wa,dQ,decide_false]
  exact hk hn h1 st bp lp
 |cons z post ih=>
  intro pre h1 he hn st bp lp
  have hlen:pre.length+(post.length+1)=ps.length:=by rw[←he];simp
  have hg:(ps.map (·.1))[pre.length]?=some z.1:=by rw[←he];simp
  have hzm:z∈ps:=by rw[←he];simp
  have c1:decide ((pre.length:Int)<(ps.length:Int))=true:=decide_eq_true (by omega)
  have e6:=wrS pre z (by omega)
  obtain ⟨S,mr,hS⟩:=hpr z hzm
  have v1:Sl w0 h1 1 v ps.length (ps.map (·.1)):=hsl.stepL (λb hb=>hA b (hsb b hb)) st (by simp)
  obtain ⟨n1,S1,r1,-⟩:=(mr.frame st (by simp)).rn
  rw[bH,pk]
  simp only[vJ,wd, wa,c1]
  refine v1.one hg ?_
  refine aA (M0 r1 k) λu h2 ⟨e,s2⟩ f2=>?_
  subst e
  simp only[wd, wa]
  have fb:w0.heap.size≤h2.next:=f2.base
  have bp2:h2.blk p=some zE:=by rw[(s2.keep p lp (by simp)).1];exact bp
  have hn2:=s2.1
  refine fp (e:=eo (cC z.2 k)) fb rfl (yU _) fM ?_ (yV _)
  have sx:Step h2 (h2.new (eo (cC z.2 k)) 3) [] [h2.next]:=(Step.refl h2 [] (by simp)).new _ _
  have bx:(h2.new (eo (cC z.2 k)) 3).blk h2.next=some (eo (cC z.2 k)):=by simp
  have bp3:(h2.new (eo (cC z.2 k)) 3).blk p=some zE:=by rw[(sx.keep p (by omega) (by simp)).1];exact bp2
  have st3:Step h (h2.new (eo (cC z.2 k)) 3) [] []:=(st.trans s2).trans (sx.less (by simp))
  have lp3:p<(h2.new (eo (cC z.2 k)) 3).next:=by simp;omega
  generalize h2.new (eo (cC z.2 k)) 3=h3 at *
  have hlk:look (ps.map (·.2)) k=(cC z.2 k).or (look (post.map (·.2)) k):=by
   rw[←he,eI,sM,hn,gA,qE]
   simp
  cases hgz:cC z.2 k with
  |some x=>
   rw[hgz]at bx hlk
   simp only[ye,wd, wa]
   refine cO fb bx rfl ?_
   refine jD (e:=ee x) (cY fh.base hp) bp3 rfl rfl ?_
   refine hr x (by simpa using hlk) _ ?_ (by simp)
   exact ⟨st3.1,λb hb hs=>by
    obtain ⟨q1,q2⟩:=st3.keep b hb hs
    exact ⟨by rw[cX,if_neg (by omega)];exact q1,q2⟩,by simp,st3.lp⟩
  |none=>
   simp only[Option.isSome_none,wd, wa,e6]
   refine ih (pre++[z]) h3 (by simpa using he) ?_ st3 bp3 lp3
   rw[eI,sM,hn]
   simp[qE,Ig,hgz]
theorem YG{k0 kr:Value→Value→Hp→Prop}{k:Key}{p:Nat}{A:List Nat}{s:LS}{sls:List Value}(b3:∀(i:Nat) v,sls[i]?=some v→Lvl w0 h A s.bl v (s.lv.getD i []))(hl3:sls.length=16)(hlv:s.lv.length=16)(hll:∀i,(s.lv.getD i []).length≤1000000)
  (hA:∀b,b∈A→b<h.next) (fh:Fit w0 h) (hp:h.next≤p)
  (hk:look s.lv.flatten k=none→∀h1,Step h h1 [] []→h1.blk p=some zE→p<h1.next→k0 (ptr p) (.bool false) h1)
  (hr:∀x,look s.lv.flatten k=some x→∀h1,Step h h1 [] []→h1.blk p=some (ee x)→kr (ptr p) (.bool true) h1):∀(m i:Nat) (h1:Hp),i+m=16→look (s.lv.take i).flatten k=none→Step h h1 [] []→h1.blk p=some zE→p<h1.next→
   pj prog w0 k0 kr (m+1) (.string (str k)) (ptr p) (.bool false) (.agg sls.toArray) (.int .i64 (i:Int)) h1:=by
 intro m
 induction m with
 |zero=>
  intro i h1 hi hn st bp lp
  have:i=16:=by omega
  subst this
  rw[dY (by omega)]at hn
  have c1:decide (((16:Nat):Int)<16)=false:=rfl
  rw[pj]
  simp only[sK,wd, wa,c1]
  exact hk hn h1 st bp lp
 |succ m ih=>
  intro i h1 hi hn st bp lp
  obtain ⟨v,hv⟩:=kN hl3 (i:=i) (by omega)
  obtain ⟨ps,ep,hsl,hsb,hpr⟩:=b3 i v hv
  have c1:decide ((i:Int)<16)=true:=decide_eq_true (by omega)
  have e6:=wrN i (by omega)
  have hpl:ps.length≤1000000:=by have:=hll i;rw[ep,eA]at this;exact this
  have hti:s.lv.take (i+1)=s.lv.take i++[s.lv.getD i []]:=by
   rw[iH,bW (by omega),cR,bW (by omega)]
   rfl
  have hsplit:look s.lv.flatten k=(look (s.lv.getD i []) k).or (look (s.lv.drop (i+1)).flatten k):=by
   have e0:s.lv=s.lv.take (i+1)++s.lv.drop (i+1):=(fw _ _).symm
   conv=>lhs;rw[e0]
   rw[fO,sM,hti,fO,sM,hn]
   simp
  rw[ep]at hsplit
  rw[pj]
  simp only[sK,wd, wa,c1,rB hl3 hv,hsl.lenv]
  refine ⟨ps.length+1,YF (h:=h) (p:=p) (bl:=s.bl) hsl hA hsb hpr fh hp hpl (λhn2 h2 st2 bp2 lp2=>?_) (λx hx h2 st2 bp2=>?_) ps [] h1 rfl rfl st bp lp⟩
  ·simp only[e6,wd, wa]
   refine ih (i+1) h2 (by omega) ?_ st2 bp2 lp2
   rw[hti,fO,sM,hn,ep]
   simpa using hn2
  ·exact hr x (by rw[hsplit,hx];rfl) h2 st2 bp2
theorem YH{r:Value}{s:LS}{S A:List Nat}(m:Lv w0 h r s S A)(hll:∀i,(s.lv.getD i []).length≤1000000)(k:Key):
  aj prog w0 AF [r,.string (str k)] h λv h'=>v=.tuple #[.agg (eo (look s.lists k)).toArray,.bool (look s.lists k).isSome]∧Step h h' [] []:=by
 refine aj.of_fit (by simpa using m.nj) λf=>Px (by simpa using m.nj) ?_
 obtain ⟨q,mp,M,sls,a1,a2,a3,a4,a5,a6,a7,a8,a9,b1,b2,b3⟩:=m
 subst a1
 have fb:=f.base
 simp only[Ce,gG,ptr]
 refine ⟨fM,?_⟩
 have s1:Step h (h.new zE 3) [] [h.next]:=(Step.refl h [] (by simp)).new _ _
 have b1':(h.new zE 3).blk h.next=some zE:=by simp
 have n1:h.next<(h.new zE 3).next:=by simp
 show aF _ _ (h.new zE 3)
 generalize h.new zE 3=h1 at *
 have st1:Step h h1 [] []:=s1.less (by simp)
 have bq1:h1.blk q=some (aN s++mp::sls):=by rw[(st1.keep q a8 (by simp)).1];exact a2
 simp only[wd, wa]
 refine aq a7 bq1 rfl ?_
 have hlists:look s.lists k=(cC s.mem k).or (look s.lv.flatten k):=by unfold LS.lists;rw[qE]
 refine aA (M9 (a4.frame st1 (by simp)) k) λu h2 ⟨e,s2⟩ f2=>?_
 subst e
 simp only[wd, wa]
 have fb2:w0.heap.size≤h2.next:=f2.base
 have hn2:=s2.1
 have bp2:h2.blk h.next=some zE:=by rw[(s2.keep _ n1 (by simp)).1];exact b1'
 show cA zE 3 (λb=>bU w0 b (.agg (eo (cC s.mem k)).toArray) 3 λ_=>_) h2
 refine fp (e:=eo (cC s.mem k)) fb2 rfl (yU _) fM ?_ (yV _)
 have sx:Step h2 (h2.new (eo (cC s.mem k)) 3) [] [h2.next]:=(Step.refl h2 [] (by simp)).new _ _
 have bx:(h2.new (eo (cC s.mem k)) 3).blk h2.next=some (eo (cC s.mem k)):=by simp
 have bp3:(h2.new (eo (cC s.mem k)) 3).blk h.next=some zE:=by rw[(sx.keep _ (by omega) (by simp)).1];exact bp2
 have st3:Step h (h2.new (eo (cC s.mem k)) 3) [] []:=(st1.trans s2).trans (sx.less (by simp))
 have lp3:h.next<(h2.new (eo (cC s.mem k)) 3).next:=by simp;omega
 generalize h2.new (eo (cC s.mem k)) 3=h3 at *
 have fin:∀o b h4,Step h h4 [] []→h4.blk h.next=some (eo o)→o=look s.lists k→b=o.isSome→ar [.agg (eo o).toArray,.bool b] (λv h'=>v=.tuple #[.agg (eo (look s.lists k)).toArray,.bool (look s.lists k).isSome]∧Step h h' [] []) h4:=λo b h4 st _ e1 e2=>by
  subst e1 e2
  simp only[aC,cG]
  exact ⟨by simp,trivial,st⟩
 have stp:∀h4 c,Step h h4 [] []→Step h (h4.put h.next c) [] []:=λh4 c st=>⟨st.1,λb hb hs=>by
  obtain ⟨q1,q2⟩:=st.keep b hb hs
  exact ⟨by rw[cX,if_neg (by omega)];exact q1,q2⟩,by simp,st.lp⟩
 cases hgm:cC s.mem k with
 |some x=>
  rw[hgm]at bx hlists
  simp only[ye,wd, wa]
  refine cO fb2 bx rfl ?_
  refine jD (e:=ee x) fb bp3 rfl rfl ?_
  refine cO (cs:=ee x) fb (by simp) rfl ?_
  exact fin (some x) true _ (stp _ _ st3) (by simp[eo]) (by rw[hlists];rfl) rfl
 |none=>
  rw[hgm]at hlists
  have hl0:look s.lists k=look s.lv.flatten k:=by rw[hlists];rfl
  simp only[Option.isSome_none,wd, wa]
  have bq3:h3.blk q=some (aN s++mp::sls):=by rw[(st3.keep q a8 (by simp)).1];exact a2
  refine gN (e:=sls) a7 bq3 ?_ ?_
  ·rw[if_pos (by rw[jU];omega)]
   show (sls:List Value).take 16=sls
   exact dY (by omega)
  refine ⟨16+1,YG (h:=h) (p:=h.next) (A:=A) b3 a3 b2 hll a9 f (bF _) (λhn h4 st4 bp4 lp4=>?_) (λx hx h4 st4 bp4=>?_) 16 0 h3 rfl rfl st3 bp3 lp3⟩
  ·simp only[fg,dJ]
   refine jD (e:=zE) fb bp4 rfl rfl ?_
   refine cO (cs:=zE) fb (by simp) rfl ?_
   exact fin none false _ (stp _ _ st4) (by simp[eo]) (by rw[hl0,hn]) rfl
  ·refine cO fb bp4 rfl ?_
   exact fin (some x) true _ st4 (by simpa[eo]using bp4) (by rw[hl0,hx]) rfl
def vOf(o:Option Ent):Key:=match o with|some x=>x.v|none=>[]
def gOf(o:Option Ent):Bool:=match o with|some x=>!x.g|none=>false
theorem xP{r:Value}{s:LS}{S A:List Nat}(m:Lv w0 h r s S A)(hll:∀i,(s.lv.getD i []).length≤1000000)(k:Key):
  aj prog w0 ta [r,.string (str k)] h λv h'=>v=.tuple #[.string (str (vOf (look s.lists k))),.bool (gOf (look s.lists k))]∧Step h h' [] []:=by
 refine aj.of_fit (by simpa using m.nj) λf=>Pi (by simpa using m.nj) ?_
 simp only[Kn]
 refine aA (lc m) λv h1 ⟨e,e'⟩ f1=>?_
 subst e
 subst h1
 simp only[wd, wa]
 refine aA (YH m hll k) λv h2 ⟨e,s2⟩ f2=>?_
 subst e
 simp only[wd, wa]
 have fb2:w0.heap.size≤h2.next:=f2.base
 refine fp (e:=eo (look s.lists k)) fb2 rfl (yU _) fM ?_ (yV _)
 have sx:Step h2 (h2.new (eo (look s.lists k)) 3) [] [h2.next]:=(Step.refl h2 [] (by simp)).new _ _
 have bx:(h2.new (eo (look s.lists k)) 3).blk h2.next=some (eo (look s.lists k)):=by simp
 have st3:Step h (h2.new (eo (look s.lists k)) 3) [] []:=s2.trans (sx.less (by simp))
 generalize h2.new (eo (look s.lists k)) 3=h3 at *
 cases hlk:look s.lists k with
 |none=>
  rw[hlk]at bx
  simp only[wd, wa]
  refine aq (v:=.string (str [])) fb2 bx rfl ?_
  simp only[Option.isSome_none,wd, wa,aC,cG]
  exact ⟨by simp,rfl,st3⟩
 |some x=>
  rw[hlk]at bx
  simp only[wd, wa]
  refine aq (v:=.string (str x.v)) fb2 bx rfl ?_
  simp only[ye,wd, wa]
  refine aq (v:=.bool x.g) fb2 bx rfl ?_
  simp only[wd, wa,aC,cG]
  exact ⟨by simp,rfl,st3⟩
end
theorem H2{α:Type}(r:List α):∀a:List (List α),aW (a++[r])=if r≠[] then a.length+1 else aW a
 |[]=>by
  simp only[gU,aW]
  by_cases h:r=[] <;> simp[h]
 |x::a=>by
  have ih:=H2 r a
  simp only[ku,aW,ih,bH]
  by_cases h:r=[]
  ·simp[h]
  ·simp[h]
theorem j6{α:Type}:∀a:List (List α),aW a≤a.length
 |[]=>bF _
 |x::a=>by
  have:=j6 a
  simp only[aW,bH]
  split
  ·omega
  ·split <;> omega
def inV(l:List Nat):List Value:=l.map λn:Nat=>.int .i64 (n:Int)
theorem zz(a b:List Nat):inV (a++b)=inV a++inV b:=by simp[inV]
section
variable {w0:World}{h h':Hp}
theorem abz{k0:Value→Value→Hp→Prop}{lv:List (List (List Ent))}{sls:List Value}(hl3:sls.length=16)(hlv:lv.length=16)(hv:∀(i:Nat) v,sls[i]?=some v→aM v=some (.int .i64 ((lv.getD i []).length:Int)))(fh:Fit w0 h)
  (hk:∀h1 x S,Step h h1 [] S→Vec w0 h1 1 x 16 (inV (lv.map List.length)) S→k0 x (.int .i64 (aW lv:Int)) h1):∀(m i:Nat) (h1:Hp) (x:Value) (S:List Nat),i+m=16→Step h h1 [] S→Vec w0 h1 1 x i (inV ((lv.take i).map List.length)) S→
   oZ prog w0 k0 (m+1) x (.int .i64 (aW (lv.take i):Int)) (.agg sls.toArray) (.int .i64 (i:Int)) h1:=by
 intro m
 induction m with
 |zero=>
  intro i h1 x S hi st g
  have:i=16:=by omega
  subst this
  rw[dY (by omega)]at g ⊢
  have c1:decide (((16:Nat):Int)<16)=false:=rfl
  rw[oZ]
  simp only[vE,wd, wa,c1]
  exact hk h1 x S st g
 |succ m ih=>
  intro i h1 x S hi st g
  obtain ⟨v,hvi⟩:=kN hl3 (i:=i) (by omega)
  have c1:decide ((i:Int)<16)=true:=decide_eq_true (by omega)
  have e6:=wrN i (by omega)
  have hti:lv.take (i+1)=lv.take i++[lv.getD i []]:=by
   rw[iH,bW (by omega),cR,bW (by omega)]
   rfl
  have htl:(lv.take i).length=i:=by rw[dV];omega
  have hls:=H2 (lv.getD i []) (lv.take i)
  rw[←hti,htl]at hls
  rw[oZ]
  simp only[vE,wd, wa,c1,rB hl3 hvi,hv i v hvi]
  have fb:w0.heap.size≤h1.next:=cY fh.base st.1
  refine lk fb g.gv rfl (by omega) (by omega) λx' h2 S2 g2 s2=>?_
  have e2:inV ((lv.take i).map List.length)++[.int .i64 ((lv.getD i []).length:Int)]=inV ((lv.take (i+1)).map List.length):=by rw[hti,eI,zz];rfl
  rw[e2]at g2
  by_cases hr:lv.getD i []=[]
  ·have c2:decide ((0:Int)<((lv.getD i []).length:Int))=false:=by rw[hr];rfl
   rw[if_neg (by simpa using hr)]at hls
   simp only[c2,wd, wa,e6]
   rw[←hls]
   exact ih (i+1) h2 x' S2 (by omega) (st.trans s2) g2
  ·have hp:=kX.2 hr
   have c2:decide ((0:Int)<((lv.getD i []).length:Int))=true:=decide_eq_true (by omega)
   rw[if_pos hr]at hls
   simp only[c2,wd, wa,e6]
   have:=ih (i+1) h2 x' S2 (by omega) (st.trans s2) g2
   rw[hls]at this
   exact this
theorem rz{r:Value}{s:LS}{S A:List Nat}(m:Lv w0 h r s S A):
  aj prog w0 pz [r] h λv h'=>∃S',Sl w0 h' 1 v (bY s.lv).length (inV (bY s.lv))∧(∀b,b∈bL v→b∈S')∧Step h h' [] S':=by
 refine aj.of_fit (by simpa using m.nj) λf=>Pn (by simpa using m.nj) ?_
 simp only[BZ]
 refine aA (lc m) λv h1 ⟨e,e'⟩ f1=>?_
 subst e
 subst h1
 obtain ⟨q,mp,M,sls,a1,a2,a3,a4,a5,a6,a7,a8,a9,b1,b2,b3⟩:=m
 subst a1
 simp only[ptr,wd, wa]
 refine gN (e:=sls) a7 a2 ?_ ?_
 ·rw[if_pos (by rw[jU];omega)]
  show (sls:List Value).take 16=sls
  exact dY (by omega)
 refine ⟨16+1,abz (h:=h) a3 b2 (λi v hi=>(b3 i v hi).lenv) f (λh1 x S1 st g=>?_) 16 0 h _ [] rfl (.refl _ _ (by simp)) .nil⟩
 have hle:=j6 s.lv
 rw[b2]at hle
 have hsb:=g.sblk_eq
 refine g.sl.cutN (lo:=0) (hi:=aW s.lv) fH eY (fX _) hle λz hz hz2 hz3=>?_
 have hrl:(bY s.lv).length=aW s.lv:=by unfold bY;rw[dV,eA,b2];omega
 have hrv:inV (bY s.lv)=((inV (s.lv.map List.length)).take (aW s.lv*1)).drop (0*1):=by
  unfold bY inV
  rw[List.map_take]
  simp
 simp only[aC,aU]
 refine ⟨by simpa using hz3.junk,S1,?_,λb hb=>by rw[hz2,hsb]at hb;exact hb,st⟩
 rw[hrl,hrv]
 exact hz3
theorem CS(r:Value)(hr:r≠junk)(hrc:aE r=true)(a b:Key):aj prog w0 wh [r,.string (str a),.string (str b)] h λv h'=>∃q1 q2 q3,v=.func (.func qM) #[] #[ptr q1,ptr q2,ptr q3]∧
  h'.blk q1=some [r]∧h'.blk q2=some [.string (str a)]∧h'.blk q3=some [.string (str b)]∧h.next≤q1∧h.next≤q2∧h.next≤q3∧q1<h'.next∧q2<h'.next∧q3<h'.next∧Step h h' [] []:=by
 refine aj.of_fit (by simp[hr]) λf=>Po (by simp[hr]) ?_
 simp only[Kq]
 refine ⟨hrc,rfl,rfl,by simp[junk],?_⟩
 have st:Step h (((h.new [r] 1).new [.string (str a)] 1).new [.string (str b)] 1) [] []:=((((Step.refl h [] (by simp)).new _ _).new _ _).new _ _).less (by simp)
 simp only[aC,aU]
 refine ⟨by simp[junk],h.next,h.next+1,h.next+2,rfl,by simp;intro e;omega,by simp <;> omega,by simp <;> omega,by omega,by omega,by omega,by simp <;> omega,by simp <;> omega,by simp <;> omega,st⟩
end
