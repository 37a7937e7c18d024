/- level.files, Files. -/
import Derived.Test.YtfmoemconapmhaaGreatLxd
set_option linter.all false
namespace Go.Proofs.YtfmoemconapmhaaGreat.Ah
open Go
def gK(s:LS):List (List UInt8):=s.lv.flatten.map λl=>aX (s.bl:Int) l
section
variable {w0:World}{h h':Hp}
theorem Sl.lenA{s n:Nat}{x:Value}{ys:List Value}(v:Sl w0 h s x n ys):lenA x=some n:=by obtain ⟨a,c,e⟩:=v.slice;rw[e];rfl
theorem Tf{k0:Value→Hp→Prop}{A:List Nat}{s:LS}{sls:List Value}(b3:∀(i:Nat) v,sls[i]?=some v→Lvl w0 h A s.bl v (s.lv.getD i []))(hl3:sls.length=16)(hlv:s.lv.length=16)(hA:∀b,b∈A→b<h.next)(fh:Fit w0 h)(hr:s.lv.flatten.length≤1000000)
  (hk:∀h1 x S (rs:List (Value×List Ent)),Step h h1 [] S→Vec w0 h1 1 x rs.length (rs.map (·.1)) S→rs.map (·.2)=s.lv.flatten→(∀p:Value×List Ent,p∈rs→∃S,Rb w0 h p.1 p.2 s.bl S∧∀b,b∈S→b∈A)→k0 x h1):
  ∀(m i:Nat) (h1:Hp) (x:Value) (S:List Nat) (rs:List (Value×List Ent)),i+m=16→Step h h1 [] S→Vec w0 h1 1 x rs.length (rs.map (·.1)) S→rs.map (·.2)=(s.lv.take i).flatten→(∀p:Value×List Ent,p∈rs→∃S,Rb w0 h p.1 p.2 s.bl S∧∀b,b∈S→b∈A)→
   pg prog w0 k0 (m+1) x (.agg sls.toArray) (.int .i64 (i:Int)) h1:=by
 intro m
 induction m with
 |zero=>
  intro i h1 x S rs hi st g e hr2
  have:i=16:=by omega
  subst this
  rw[dY (by omega)]at e
  have c1:decide (((16:Nat):Int)<16)=false:=rfl
  rw[pg]
  simp only[vH,wd, wa,c1]
  exact hk h1 x S rs st g e hr2
 |succ m ih=>
  intro i h1 x S rs hi st g e hr2
  obtain ⟨v,hv⟩:=kN hl3 (i:=i) (by omega)
  obtain ⟨pr,ep,hsl,hsb,hpr⟩:=b3 i v hv
  have c1:decide ((i:Int)<16)=true:=decide_eq_true (by omega)
  have e6:=wrN i (by omega)
  have hgi:s.lv[i]?=some (s.lv.getD i []):=by rw[cR,bW (by omega)];rfl
  have hti:s.lv.take (i+1)=s.lv.take i++[s.lv.getD i []]:=by rw[iH,hgi];rfl
  have e2:(rs++pr).map (·.2)=(s.lv.take (i+1)).flatten:=by
   rw[hti,eI,fO,e]
   simp[←ep]
  have hlen:rs.length+pr.length≤1000000:=by
   have h1:(s.lv.take (i+1)).flatten.length≤s.lv.flatten.length:=by
    conv=>rhs;rw[←fw (i+1) s.lv,fO,aT]
    omega
   have:=congrArg List.length e2
   simp only[eA,aT]at this
   omega
  rw[pg]
  simp only[vH,wd, wa,c1,rB hl3 hv]
  have v1:Sl w0 h1 1 v pr.length (pr.map (·.1)):=hsl.stepL (λb hb=>hA b (hsb b hb)) (st.less (T:=[]) (by simp)) (by simp)
  have fb:w0.heap.size≤h1.next:=cY fh.base st.1
  refine gB fb g v1.lenA v1.src (by simp) (by omega) (by omega) (by omega) λx' h2 S2 g2 s2=>?_
  simp only[wd, wa,e6]
  refine ih (i+1) h2 x' S2 (rs++pr) (by omega) (st.trans s2) (by simpa using g2) e2 λp hp=>?_
  rcases aS.1 hp with q|q
  ·exact hr2 p q
  ·exact hpr p q
theorem Tg{r:Value}{s:LS}{S A:List Nat}(m:Lv w0 h r s S A)(hr:s.lv.flatten.length≤1000000):
  aj prog w0 AD [r] h λv h'=>∃(S':List Nat) (rs:List (Value×List Ent)),Vec w0 h' 1 v rs.length (rs.map (·.1)) S'∧rs.map (·.2)=s.lv.flatten∧(∀p:Value×List Ent,p∈rs→∃S,Rb w0 h p.1 p.2 s.bl S∧∀b,b∈S→b∈A)∧Step h h' [] S':=by
 refine aj.of_fit (by simpa using m.nj) λf=>Pu (by simpa using m.nj) ?_
 obtain ⟨q,mp,M,sls,a1,a2,a3,a4,a5,a6,a7,a8,a9,b1,b2,b3⟩:=m
 subst a1
 simp only[Cc,ptr,wd, wa]
 refine gN (e:=sls) a7 a2 ?_ ?_
 ·rw[if_pos (by rw[jU];omega)]
  show (sls:List Value).take 16=sls
  exact dY (by omega)
 refine ⟨16+1,Tf (h:=h) b3 a3 b2 a9 f hr (λh1 x S1 rs st g e hp=>?_) 16 0 h _ [] [] rfl (.refl _ _ (by simp)) .nil rfl (by simp)⟩
 simp only[aC,aU]
 exact ⟨by obtain ⟨a,c,e⟩:=g.slice;rw[e];simp[junk],S1,rs,g,e,hp,st⟩
def FM(w0:World)(h:Hp)(v:Value)(ps:List (Value×List UInt8×List Nat))(S0:List Nat):Prop:=
 Vec w0 h 1 v ps.length (ps.map (·.1)) S0∧(∀p:Value×List UInt8×List Nat,p∈ps→Vec w0 h 1 p.1 p.2.1.length (bvs p.2.1) p.2.2∧∀b,b∈p.2.2→b∉S0)∧ps.Pairwise λp q=>∀b,b∈p.2.2→b∉q.2.2
theorem Mx{k0:Value→Hp→Prop}{v:Value}{Sv:List Nat}{s:LS}{rs:List (Value×List Ent)}{hh:Hp}(hv:Vec w0 hh 1 v rs.length (rs.map (·.1)) Sv)(fh:Fit w0 hh)(hr:∀p:Value×List Ent,p∈rs→∃S,Rb w0 hh p.1 p.2 s.bl S)(hl:rs.length≤1000000)
  (hk:∀h1 x S0 ps,Step hh h1 [] []→FM w0 h1 x ps S0→(ps.map λp=>p.2.1)=rs.map (λp=>aX (s.bl:Int) p.2)→(∀b,b∈S0→hh.next≤b)→(∀p:Value×List UInt8×List Nat,p∈ps→∀b,b∈p.2.2→hh.next≤b)→k0 x h1):
  ∀(post pre:List (Value×List Ent)) (h1:Hp) (x:Value) (S0:List Nat) (ps:List (Value×List UInt8×List Nat)),pre++post=rs→Step hh h1 [] []→FM w0 h1 x ps S0→(ps.map λp=>p.2.1)=pre.map (λp=>aX (s.bl:Int) p.2)→(∀b,b∈S0→hh.next≤b)→(∀p:Value×List UInt8×List Nat,p∈ps→∀b,b∈p.2.2→hh.next≤b)→
   oV prog w0 k0 (post.length+1) x v (.int .i64 (rs.length:Int)) (.int .i64 (pre.length:Int)) h1:=by
 intro post
 induction post with
 |nil=>
  intro pre h1 x S0 ps he st g e h0 hp
  have hpre:pre=rs:=by simpa using he
  subst hpre
  rw[cS,oV]
  simp only[vB,wd, wa,dQ,decide_false]
  exact hk h1 x S0 ps st g e h0 hp
 |cons z post ih=>
  intro pre h1 x S0 ps he st g e h0 hp
  have hlen:pre.length+(post.length+1)=rs.length:=by rw[←he];simp
  have hg:(rs.map (·.1))[pre.length]?=some z.1:=by rw[←he];simp
  have hzm:z∈rs:=by rw[←he];simp
  have c1:decide ((pre.length:Int)<(rs.length:Int))=true:=decide_eq_true (by omega)
  have e6:=wrS pre z (by omega)
  have hpl:ps.length=pre.length:=by have:=congrArg List.length e;simpa using this
  obtain ⟨S,mr⟩:=hr z hzm
  obtain ⟨g1,g2,g3⟩:=g
  rw[bH,oV]
  simp only[vB,wd, wa,c1]
  refine (hv.frame st (by simp)).sl.one hg ?_
  refine aA (CH (mr.frame st (by simp))) λy h2 ⟨U,gy,s2⟩ f2=>?_
  have hBz:∃B,aX (s.bl:Int) z.2=B:=⟨_,rfl⟩
  obtain ⟨B,hB⟩:=hBz
  rw[hB]at gy
  have gc:aE y=true:=by obtain ⟨a,c,e⟩:=gy.slice;rw[e];rfl
  have g1':=g1.frame s2 (by simp)
  have hU:∀b,b∈U→h1.next≤b:=λb hb=>by rcases (s2.own b hb).2 with w|w;simp at w;exact w
  have hU2:∀b,b∈U→b<h2.next:=λb hb=>(s2.own b hb).1
  have hS0:∀b,b∈S0→b<h1.next:=λb hb=>(g1.lt b hb).2
  have n1:=st.1
  have n2:=s2.1
  refine lk f2.base g1'.gv gc (by omega) (by omega) λx' h3 S3 g4 s3=>?_
  have own3:∀b,b∈S3→b∈S0∨h2.next≤b:=λb hb=>(s3.own b hb).2
  have keep:∀p:Value×List UInt8×List Nat,Vec w0 h2 1 p.1 p.2.1.length (bvs p.2.1) p.2.2→(∀b,b∈p.2.2→b∉S0)→Vec w0 h3 1 p.1 p.2.1.length (bvs p.2.1) p.2.2∧∀b,b∈p.2.2→b∉S3:=λp vp dp=>⟨vp.frame s3 dp,λb hb w=>by
   rcases own3 b w with r|r
   ·exact dp b hb r
   ·have:=(vp.lt b hb).2;omega⟩
  have sS:Step hh h3 [] []:=by
   have t1:Step hh h2 [] []:=st.trans (s2.less (by simp))
   have t2:Step h2 h3 S0 []:=s3.less (by simp)
   have t3:Step hh h2 [] S0:=⟨t1.1,t1.2,λb hb=>⟨by have:=hS0 b hb;omega,.inr (h0 b hb)⟩,t1.4⟩
   exact t3.trans t2
  simp only[wd, wa,e6]
  refine ih (pre++[z]) h3 x' S3 (ps++[(y,B,U)]) (by simpa using he) sS ⟨by rw[aT,eI];exact g4,λp hp'=>?_,?_⟩ (by rw[eI,eI,e];simp only[gA,List.map_nil,hB]) (λb hb=>?_) (λp hp'=>?_)
  ·rcases aS.1 hp' with q|q
   ·obtain ⟨v1,d1⟩:=g2 p q
    exact keep p (v1.frame s2 (by simp)) d1
   ·simp at q
    subst q
    refine keep (y,B,U) gy ?_
    intro b hb w
    have:=hU b hb
    have:=hS0 b w
    omega
  ·refine mo.2 ⟨g3,by simp,λp hp' q hq b hb=>?_⟩
   simp at hq
   subst hq
   intro w
   have:=hU b w
   have:=((g2 p hp').1.lt b hb).2
   omega
  ·rcases own3 b hb with r|r
   ·exact h0 b r
   ·omega
  ·rcases aS.1 hp' with q|q
   ·exact hp p q
   ·simp at q
    subst q
    intro b hb
    have:=hU b hb
    omega
theorem CN{r:Value}{s:LS}{S A:List Nat}(m:Lv w0 h r s S A)(hr:s.lv.flatten.length≤1000000):
  aj prog w0 wg [r] h λv h'=>∃(S0:List Nat) (ps:List (Value×List UInt8×List Nat)),FM w0 h' v ps S0∧(ps.map λp=>p.2.1)=gK s∧(∀b,b∈S0→h.next≤b)∧(∀p:Value×List UInt8×List Nat,p∈ps→∀b,b∈p.2.2→h.next≤b)∧Step h h' [] []:=by
 refine aj.of_fit (by simpa using m.nj) λf=>Pf (by simpa using m.nj) ?_
 simp only[BX]
 refine aA (lc m) λv h1 ⟨e,e'⟩ f1=>?_
 subst e
 subst h1
 simp only[wd, wa]
 refine aA (Tg m hr) λv h2 ⟨S1,rs,g,e,hp,s2⟩ f2=>?_
 have n2:=s2.1
 have hrl:rs.length=s.lv.flatten.length:=by have:=congrArg List.length e;simpa using this
 simp only[g.sl.lenv,wd, wa]
 refine ⟨rs.length+1,Mx (s:=s) g f2 (λp hp'=>?_) (by omega) (λh3 x S0 ps st3 fm e3 d0 dp=>?_) rs [] h2 _ [] [] rfl (.refl _ _ (by simp)) ⟨.nil,by simp,.nil⟩ rfl (by simp) (by simp)⟩
 ·obtain ⟨S',mr,-⟩:=hp p hp'
  exact ⟨S',mr.frame s2 (by simp)⟩
 ·simp only[aC,aU]
  refine ⟨by obtain ⟨a,c,e⟩:=fm.1.slice;rw[e];simp[junk],S0,ps,fm,?_,λb hb=>by have:=d0 b hb;omega,λp hp' b hb=>by have:=dp p hp' b hb;omega,(s2.less (by simp)).trans st3⟩
  rw[e3]
  unfold gK
  rw[←e,gT]
  exact tQ λp _=>by simp only[Function.comp]
end
def dB(bl:Nat)(l:List Ent):List UInt8:=vi (aX (bl:Int) l).length++vi (bS (aX (bl:Int) l))
def lvB(bl:Nat)(r:List (List Ent)):List UInt8:=vi r.length++r.flatMap (dB bl)
def cH(s:LS):List UInt8:=vi s.bl++vi s.fan++vi s.top++vi (bY s.lv).length++(s.lv.take (aW s.lv)).flatMap (lvB s.bl)
section
variable {w0:World}{h h':Hp}
abbrev WB(w0:World)(h:Hp)(p:Nat)(bs:List UInt8)(S:List Nat):Prop:=Wr w0 h p ⟨1048576,bs,false⟩ S
theorem wv{p n:Nat}{bs:List UInt8}{S:List Nat}{K:av}(hn:n<18446744073709551616)(w:WB w0 h p bs S)(hl:bs.length+(vi n).length≤1048576)(hk:∀v h' S',Fit w0 h'→WB w0 h' p (bs++vi n) S'→Step h h' S S'→K v h'):
  am prog w0 lJ [ptr p,.int .u64 (IntKind.u64.wrap (n:Int))] K h:=by
 have e:IntKind.u64.wrap (n:Int)=(n:Int):=gR rfl hn
 rw[e]
 refine aA (yg n hn w (by simp only;omega)) λv h' ⟨S',w',s'⟩ f'=>?_
 have hp:(⟨1048576,bs,false⟩:WS).put (vi n)=⟨1048576,bs++vi n,false⟩:=by
  unfold WS.put
  rw[if_neg (by simp),if_neg (by simp only;omega)]
 rw[hp]at w'
 exact hk v h' S' f' w' s'
theorem Yy{k4:Value→Value→Value→Value→Value→Hp→Prop}{x0 x50 x51 x52 v:Value}{p:Nat}{A:List Nat}{bl:Nat}{bs0:List UInt8}{pr:List (Value×List Ent)}{hh hs:Hp}{Ss:List Nat}(fh:Fit w0 hh)(hsl:Sl w0 hh 1 v pr.length (pr.map (·.1)))(hA:∀b,b∈A→b<hh.next)(hsb:∀b,b∈bL v→b∈A)
  (hpr:∀q:Value×List Ent,q∈pr→∃S,Rb w0 hh q.1 q.2 bl S∧∀b,b∈S→b∈A) (hl:pr.length≤1000000) (htot:bs0.length+(pr.flatMap λq=>dB bl q.2).length≤1048576)
  (hk:∀h1 S,Fit w0 h1→Step hh h1 [] S→Step hs h1 Ss S→WB w0 h1 p (bs0++pr.flatMap λq=>dB bl q.2) S→k4 x0 (ptr p) x50 x51 x52 h1):
  ∀(post pre:List (Value×List Ent)) (h1:Hp) (S:List Nat),pre++post=pr→Fit w0 h1→Step hh h1 [] S→Step hs h1 Ss S→WB w0 h1 p (bs0++pre.flatMap λq=>dB bl q.2) S→
   oY prog w0 k4 (post.length+1) x0 (ptr p) x50 x51 x52 v (.int .i64 (pr.length:Int)) (.int .i64 (pre.length:Int)) h1:=by
 intro post
 induction post with
 |nil=>
  intro pre h1 S he f1 st su w
  have hpre:pre=pr:=by simpa using he
  subst hpre
  rw[cS,oY]
  simp only[vD,wd, wa,dQ,decide_false]
  exact hk h1 S f1 st su w
 |cons z post ih=>
  intro pre h1 S he f1 st su w
  have hlen:pre.length+(post.length+1)=pr.length:=by rw[←he];simp
  have hg:(pr.map (·.1))[pre.length]?=some z.1:=by rw[←he];simp
  have hzm:z∈pr:=by rw[←he];simp
  have c1:decide ((pre.length:Int)<(pr.length:Int))=true:=decide_eq_true (by omega)
  have e6:=wrS pre z (by omega)
  obtain ⟨S0,mr,hS0⟩:=hpr z hzm
  have st0:=st.less (T:=[]) (by simp)
  have mr1:=mr.frame st0 (by simp)
  have hlen1:(aX (bl:Int) z.2).length≤11534360:=by
   obtain ⟨n,S1,p,y,c1,c2,Sy,a1,a2,a3,a4,a5,a6,a7,a8⟩:=mr
   exact mB a8 a7
  have hcrc:=j2 (aX (bl:Int) z.2)
  have fZ:(bs0++pre.flatMap λq=>dB bl q.2).length+(dB bl z.2).length≤1048576:=by
   have:(pr.flatMap λq=>dB bl q.2).length=(pre.flatMap λq=>dB bl q.2).length+((dB bl z.2).length+(post.flatMap λq=>dB bl q.2).length):=by rw[←he];simp
   rw[aT]
   omega
  have hrl:(dB bl z.2).length=(vi (aX (bl:Int) z.2).length).length+(vi (bS (aX (bl:Int) z.2))).length:=by unfold dB;rw[aT]
  have hfm:(bs0++pre.flatMap λq=>dB bl q.2)++vi (aX (bl:Int) z.2).length++vi (bS (aX (bl:Int) z.2))=bs0++(pre++[z]).flatMap λq=>dB bl q.2:=by
   rw[fD]
   simp[dB]
  have hSlt:∀b,b∈S→b<h1.next:=λb hb=>(w.lt b hb).2
  generalize hbs:(bs0++pre.flatMap λq=>dB bl q.2)=bs at *
  rw[bH,oY]
  simp only[vD,wd, wa,c1]
  have v1:Sl w0 h1 1 v pr.length (pr.map (·.1)):=hsl.stepL (λb hb=>hA b (hsb b hb)) st0 (by simp)
  refine v1.one hg ?_
  refine aA (CH mr1) λy h2 ⟨U,gy,s2⟩ f2=>?_
  generalize aX (bl:Int) z.2=B at *
  have hU:∀b,b∈U→h1.next≤b:=λb hb=>by rcases (s2.own b hb).2 with w|w;simp at w;exact w
  have w2:=w.frame s2 (by simp)
  simp only[gy.sl.lenv,wd, wa]
  refine wv (n:=B.length) (by omega) w2 (by omega) λu h3 S3 f3 w3 s3=>?_
  ·refine (gy.frame s3 (λb hb hb2=>by have:=hU b hb;have:=hSlt b hb2;omega)).b2s ?_
   refine aA (pR B (by omega)) λu h4 ⟨e,e'⟩ f4=>?_
   subst e
   subst h4
   simp only[wd, wa]
   refine wv (by omega) w3 (by rw[aT];omega) λu h4 S4 f4 w4 s4=>?_
   simp only[wd, wa,e6]
   refine ih (pre++[z]) h4 S4 (by simpa using he) f4 ((st.trans (s2.wide (T:=S) (T':=S) (by simp) (λb hb=>.inr ⟨hb,hSlt b hb⟩))).trans (s3.trans s4)) ((su.trans (s2.wide (T:=S) (T':=S) (by simp) (λb hb=>.inr ⟨hb,hSlt b hb⟩))).trans (s3.trans s4)) ?_
   rw[←hfm]
   exact w4
def Off(h:Hp)(v:Value)(S:List Nat):Prop:=∀b,b∈bL v→b<h.next∧b∉S
theorem Off.step{v:Value}{S S':List Nat}(o:Off h v S)(st:Step h h' S S'):Off h' v S':=λb hb=>by
 have h1:=o b hb
 have:=st.1
 refine ⟨by omega,λw=>?_⟩
 rcases (st.own b w).2 with r|r
 ·exact h1.2 r
 ·omega
theorem Off.sl{s n:Nat}{v:Value}{ys:List Value}{S S':List Nat}(o:Off h v S)(g:Sl w0 h s v n ys)(st:Step h h' S S'):Sl w0 h' s v n ys:=g.stepL (λb hb=>(o b hb).1) st λb hb=>(o b hb).2
theorem Yz{k2:Value→Hp→Prop}{q p:Nat}{A M:List Nat}{s:LS}{sls:List Value}{mp v50:Value}{bs0:List UInt8}{W:Nat}{hh:Hp}(fh:Fit w0 hh)(hq:w0.heap.size≤q)(hqn:q<hh.next)(hb:hh.blk q=some (aN s++mp::sls))(b3:∀(i:Nat) v,sls[i]?=some v→Lvl w0 hh A s.bl v (s.lv.getD i []))(hl3:sls.length=16)(hA:∀b,b∈A→b<hh.next)(ok:LOk s W)(hW:W≤1048576)
  (htot:(bs0++(s.lv.take (aW s.lv)).flatMap (lvB s.bl)).length≤1048576)
  (hk:∀h1 S,Fit w0 h1→Step hh h1 [] S→WB w0 h1 p (bs0++(s.lv.take (aW s.lv)).flatMap (lvB s.bl)) S→k2 (ptr p) h1):
  ∀(m i:Nat) (h1:Hp) (S:List Nat),i+m=aW s.lv→Fit w0 h1→Step hh h1 [] S→Sl w0 h1 1 v50 (bY s.lv).length (inV (bY s.lv))→Off h1 v50 S→WB w0 h1 p (bs0++(s.lv.take i).flatMap (lvB s.bl)) S→
   oX prog w0 k2 (m+1) (ptr q) (ptr p) v50 (.int .i64 ((bY s.lv).length:Int)) (.int .i64 (i:Int)) h1:=by
 have hlv:=ok.len
 have hla:=j6 s.lv
 have hrl:(bY s.lv).length=aW s.lv:=by unfold bY;rw[dV,eA,hlv];omega
 intro m
 induction m with
 |zero=>
  intro i h1 S hi f1 st gc oc w
  have:i=aW s.lv:=by omega
  subst this
  rw[oX,hrl]
  simp only[sI,wd, wa,dQ,decide_false]
  exact hk h1 S f1 st w
 |succ m ih=>
  intro i h1 S hi f1 st gc oc w
  obtain ⟨v,hv⟩:=kN hl3 (i:=i) (by omega)
  obtain ⟨pr,ep,hsl,hsb,hpr⟩:=b3 i v hv
  have c1:decide ((i:Int)<((bY s.lv).length:Int))=true:=decide_eq_true (by omega)
  have e6:=wrN i (by omega)
  have hgi:s.lv[i]?=some (s.lv.getD i []):=by rw[cR,bW (by omega)];rfl
  have hti:s.lv.take (i+1)=s.lv.take i++[s.lv.getD i []]:=by rw[iH,hgi];rfl
  have hrg:(bY s.lv)[i]?=some (s.lv.getD i []).length:=by
   unfold bY
   rw[gS,if_pos (by omega),fV,hgi]
   rfl
  have hrn:=ok.lvl i
  have hfm:bs0++(s.lv.take (i+1)).flatMap (lvB s.bl)=bs0++(s.lv.take i).flatMap (lvB s.bl)++vi (s.lv.getD i []).length++pr.flatMap λq=>dB s.bl q.2:=by
   rw[hti,fD]
   have:(s.lv.getD i []).flatMap (dB s.bl)=pr.flatMap λq=>dB s.bl q.2:=by rw[ep,List.flatMap_map]
   simp only[eN,pY,dG,lvB,this,cM]
  have htot1:(bs0++(s.lv.take (i+1)).flatMap (lvB s.bl)).length≤1048576:=by
   have:s.lv.take (aW s.lv)=s.lv.take (i+1)++(s.lv.take (aW s.lv)).drop (i+1):=by
    conv=>lhs;rw[←fw (i+1) (s.lv.take (aW s.lv))]
    rw[tU,kx (by omega)]
   rw[this,fD,←cM,aT]at htot
   omega
  rw[hfm]at htot1
  rw[oX]
  simp only[sI,wd, wa,c1]
  refine gc.one (oU hrg) ?_
  simp only[wd, wa]
  generalize bs0++(s.lv.take i).flatMap (lvB s.bl)=bs at *
  simp only[aT]at htot1
  refine wv (by omega) w (by omega) λu h2 S2 f2 w2 s2=>?_
  have st2:=st.trans s2
  have st20:=st2.less (T:=[]) (by simp)
  have bq2:h2.blk q=some (aN s++mp::sls):=by rw[(st20.keep q hqn (by simp)).1];exact hb
  simp only[ptr,wd, wa]
  refine lG (by omega) ?_
  refine aq hq bq2 (by rw[qz];exact hv) ?_
  simp only[hsl.lenv,wd, wa]
  have hprl:pr.length=(s.lv.getD i []).length:=by rw[ep,eA]
  have o2:=oc.step s2
  have g2:=oc.sl gc s2
  refine ⟨pr.length+1,Yy (hh:=hh) (hs:=h2) (Ss:=S2) (A:=A) (bl:=s.bl) (pr:=pr) (bs0:=bs++vi (s.lv.getD i []).length) fh hsl hA hsb hpr (by omega) (by simp only[aT];omega) (λh3 S3 f3 st3 su3 w3=>?_) pr [] h2 S2 rfl f2 st2 (.refl _ _ λb hb=>(w2.lt b hb).2) (by simpa using w2)⟩
  simp only[wd, wa,e6]
  refine ih (i+1) h3 S3 (by omega) f3 st3 (o2.sl g2 su3) (o2.step su3) ?_
  rw[hfm]
  exact w3
theorem YL{k0:Value→Value→Value→Hp→Prop}{x0 x4 v39:Value}{p:Nat}{ns:List Nat}{hh:Hp}{bs0:List UInt8}{Ss:List Nat}(hl:ns.length≤1000)(hns:∀n,n∈ns→n<18446744073709551616)(htot:(bs0++ns.flatMap vi).length≤1048576)
  (hk:∀h1 S,Fit w0 h1→Step hh h1 Ss S→WB w0 h1 p (bs0++ns.flatMap vi) S→k0 x0 (ptr p) x4 h1):∀(post pre:List Nat) (h1:Hp) (S:List Nat),pre++post=ns→Fit w0 h1→Step hh h1 Ss S→Sl w0 h1 1 v39 ns.length (inV ns)→Off h1 v39 S→WB w0 h1 p (bs0++pre.flatMap vi) S→
   oW prog w0 k0 (post.length+1) x0 (ptr p) x4 v39 (.int .i64 (ns.length:Int)) (.int .i64 (pre.length:Int)) h1:=by
 intro post
 induction post with
 |nil=>
  intro pre h1 S he f1 st g o w
  have hpre:pre=ns:=by simpa using he
  subst hpre
  rw[cS,oW]
  simp only[vC,wd, wa,dQ,decide_false]
  exact hk h1 S f1 st w
 |cons z post ih=>
  intro pre h1 S he f1 st g o w
  have hlen:pre.length+(post.length+1)=ns.length:=by rw[←he];simp
  have hg:ns[pre.length]?=some z:=by rw[←he];simp
  have hzm:z∈ns:=by rw[←he];simp
  have c1:decide ((pre.length:Int)<(ns.length:Int))=true:=decide_eq_true (by omega)
  have e6:=wrS pre z (by omega)
  have fZ:(bs0++pre.flatMap vi).length+(vi z).length≤1048576:=by
   rw[←he,fD,eN]at htot
   simp only[aT]at htot ⊢
   omega
  have hfm:bs0++pre.flatMap vi++vi z=bs0++(pre++[z]).flatMap vi:=by rw[fD];simp
  rw[bH,oW]
  simp only[vC,wd, wa,c1]
  refine g.one (oU hg) ?_
  simp only[wd, wa]
  refine wv (hns z hzm) w fZ λu h2 S2 f2 w2 s2=>?_
  simp only[wd, wa,e6]
  exact ih (pre++[z]) h2 S2 (by simpa using he) f2 (st.trans s2) (o.sl g s2) (o.step s2) (by rw[←hfm];exact w2)
theorem yc{r:Value}{s:LS}{S A:List Nat}{W:Nat}(m:Lv w0 h r s S A)(ok:LOk s W)(hW:W≤1048576)(hman:(cH s).length≤1048576):
  aj prog w0 tc [r] h λv h'=>∃S',Vec w0 h' 1 v (frame 77 (cH s)).length (bvs (frame 77 (cH s))) S'∧Step h h' [] S':=by
 refine aj.of_fit (by simpa using m.nj) λf=>Pj (by simpa using m.nj) ?_
 simp only[BY]
 refine aA (lc m) λv h1 ⟨e,e'⟩ f1=>?_
 subst e
 subst h1
 have hnum:=ok.num
 have hlv:=ok.len
 have hla:=j6 s.lv
 have hrl:(bY s.lv).length=aW s.lv:=by unfold bY;rw[dV,eA,hlv];omega
 have hmB:cH s=[s.bl,s.fan,s.top,(bY s.lv).length].flatMap vi++(s.lv.take (aW s.lv)).flatMap (lvB s.bl):=by
  unfold cH
  simp[cM]
 simp only[wd, wa]
 refine aA (tX 1048576 (by omega)) λwp h2 ⟨e,w2,s2⟩ f2=>?_
 subst e
 have w2':WB w0 h2 h.next [] [h.next]:=w2
 have m2:=m.step0 s2
 refine aA (rz m2) λv50 h3 ⟨S3,g3,d3,s3⟩ f3=>?_
 have w3:=w2'.frame s3 (by simp)
 obtain ⟨q,mp,M,sls,a1,a2,a3,a4,a5,a6,a7,a8,a9,b1,b2,b3⟩:=m
 subst a1
 have st3:Step h h3 [] []:=(s2.less (T:=[]) (by simp)).trans (s3.less (by simp))
 have bq3:h3.blk q=some (aN s++mp::sls):=by rw[(st3.keep q a8 (by simp)).1];exact a2
 have n2:h.next<h2.next:=(s2.own h.next (by simp)).1
 have n3:=s3.1
 simp only[ptr,wd, wa]
 refine aq a7 bq3 rfl ?_
 refine aq a7 bq3 rfl ?_
 refine aq a7 bq3 rfl ?_
 simp only[g3.lenv,wd, wa,i9,dX,dJ,show aL [(.int .i64 0:Value)] 4=[.int .i64 0,.int .i64 0,.int .i64 0,.int .i64 0] from rfl,cU,fc]
 refine ⟨rfl,by simp,rfl,by simp,rfl,by simp,rfl,by simp,?_⟩
 have s4:Step h3 (h3.new (inV [s.bl,s.fan,s.top,(bY s.lv).length]) 1) [] [h3.next]:=(Step.refl h3 [] (by simp)).new _ _
 have g4:Sl w0 (h3.new (inV [s.bl,s.fan,s.top,(bY s.lv).length]) 1) 1 (.slice (some ⟨h3.next,0,none⟩) 4 4) 4 (inV [s.bl,s.fan,s.top,(bY s.lv).length]):=⟨_,_,rfl,iD f3.base rfl,rfl,.inl ⟨by decide,bF _⟩⟩
 have f4:Fit w0 (h3.new (inV [s.bl,s.fan,s.top,(bY s.lv).length]) 1):=f3.new (by simp[inV,aE])
 have n4:(h3.new (inV [s.bl,s.fan,s.top,(bY s.lv).length]) 1).next=h3.next+1:=rfl
 show zT _ _ _ _ _ _ _ _ _ (h3.new (inV [s.bl,s.fan,s.top,(bY s.lv).length]) 1)
 have w4:=w3.frame s4 (by simp)
 have g34:=g3.step f3 s4 (by simp)
 generalize h3.new (inV [s.bl,s.fan,s.top,(bY s.lv).length]) 1=h4 at *
 have st4:Step h h4 [] [h.next]:=(s2.trans (s3.wide (T:=[h.next]) (T':=[h.next]) (by simp) (λb hb=>.inr ⟨hb,by simp at hb;omega⟩))).trans (s4.wide (T:=[h.next]) (T':=[h.next]) (by simp) (λb hb=>.inr ⟨hb,by simp at hb;omega⟩))
 have hS3:∀b,b∈S3→h2.next≤b∧b<h3.next:=λb hb=>⟨by rcases (s3.own b hb).2 with w|w;simp at w;exact w,(s3.own b hb).1⟩
 have o4:Off h4 (.slice (some ⟨h3.next,0,none⟩) 4 4) [h.next]:=λb hb=>by
  simp[bL]at hb
  subst hb
  exact ⟨by omega,by simp;omega⟩
 have o50:Off h4 v50 [h.next]:=λb hb=>by
  have:=hS3 b (d3 b hb)
  exact ⟨by omega,by simp;omega⟩
 rw[hmB]at hman
 refine ⟨4+1,YL (hh:=h4) (Ss:=[h.next]) (bs0:=[]) (ns:=[s.bl,s.fan,s.top,(bY s.lv).length]) (by simp) (λn hn=>?_) ?_ (λh5 S5 f5 s5 w5=>?_) [s.bl,s.fan,s.top,(bY s.lv).length] [] h4 [h.next] rfl f4 (.refl _ _ (by simp;omega)) g4 o4 w4⟩
 ·simp at hn
  rcases hn with rfl|rfl|rfl|rfl <;> omega
 ·rw[aT]at hman
  simp only[gU]
  omega
 ·have g5:=o50.sl g34 s5
  have o5:=o50.step s5
  have st5:=st4.trans s5
  simp only[g5.lenv,wd, wa]
  refine ⟨aW s.lv+1,Yz (hh:=h) (M:=M) (bs0:=[s.bl,s.fan,s.top,(bY s.lv).length].flatMap vi) f a7 a8 a2 b3 a3 a9 ok hW hman (λh6 S6 f6 st6 w6=>?_) (aW s.lv) 0 h5 S5 (by omega) f5 st5 g5 o5 (by simpa using w5)⟩
  refine aA (qf w6) λu h7 ⟨e,e'⟩ f7=>?_
  subst e
  subst h7
  rw[←hmB]at hman ⊢
  have hout:(⟨1048576,cH s,false⟩:WS).out=cH s:=rfl
  rw[hout]
  simp only[wd, wa]
  refine aA (Mz 77 (by omega) (cH s) (by omega)) λu h7 ⟨e,s7⟩ f7=>?_
  rw[if_neg (by omega)]at e
  subst e
  simp only[wd, wa]
  have hfl:(frame 77 (cH s)).length≤2000000:=by
   simp only[frame,eR,aT,kz,bH,cS]
   omega
  refine ⟨_,rfl,?_,?_⟩
  ·rw[cL];omega
  ·simp only[aC,aU]
   refine ⟨by simp[junk],[h7.next],?_,?_⟩
   ·rw[cL]
    exact .inr ⟨h7.next,rfl,rfl,f7.base,by simp,by simp[yw],by simp,by simp⟩
   ·exact ((st6.less (T:=[]) (by simp)).trans s7).new _ _
end
theorem rvi{n:Nat}(hn:n<18446744073709551616)(rest:List UInt8):(⟨vi n++rest,0⟩:RS).varint=(n,⟨rest,0⟩):=by
 have h:=C1 rest n 0 0 (by omega) (by omega)
 simp only[Nat.pow_zero,mt,eO]at h
 simp[RS.varint,h]
section
variable {w0:World}{h h':Hp}
theorem rdv{rp n:Nat}{rest:List UInt8}{K:av}(hn:n<18446744073709551616)(w:Rd w0 h rp ⟨vi n++rest,0⟩)(hk:∀h',Fit w0 h'→Rd w0 h' rp ⟨rest,0⟩→Step h h' [rp] [rp]→K (.int .u64 (n:Int)) h'):am prog w0 jY [ptr rp] K h:=by
 refine aA (tZ w) λv h' ⟨e,w',s'⟩ f'=>?_
 rw[rvi hn]at e w'
 subst e
 exact hk h' f' w' s'
structure LI(w0:World)(hh:Hp)(q rp:Nat)(mp:Value)(M:List Nat)(s:LS)(sls:List Value)(lvd:List (List (List Ent)))(i:Nat)(h1:Hp)(vc:Value)(U:List Nat)(ps:List (Value×List Ent))(A:List Nat):Prop where
 st:Step hh h1 [] []
 bq:h1.blk q=some (aN s++mp::sls.set i vc)
 me:Me w0 h1 mp [] M
 vec:Vec w0 h1 1 vc ps.length (ps.map (·.1)) U
 runs:∀p:Value×List Ent,p∈ps→∃S,Rb w0 h1 p.1 p.2 s.bl S∧∀b,b∈S→b∈A
 oth:∀(j:Nat) v,j≠i→sls[j]?=some v→Lvl w0 h1 A s.bl v (lvd.getD j [])
 ltA:∀b,b∈A→hh.next≤b∧b<h1.next
 geq:hh.next≤q∧q<h1.next∧∀b,b∈M→hh.next≤b
 geU:∀b,b∈U→hh.next≤b
 d1:q∉M∧q∉U∧q∉A∧q≠rp
 d2:∀b,b∈M→b∉U∧b∉A∧b≠rp
 d3:∀b,b∈U→b∉A∧b≠rp
 d4:rp∉A∧hh.next≤rp
theorem LI.frame{hh:Hp}{q rp i:Nat}{mp vc:Value}{M U A:List Nat}{s:LS}{sls:List Value}{lvd:List (List (List Ent))}{ps:List (Value×List Ent)}(l:LI w0 hh q rp mp M s sls lvd i h vc U ps A){T T':List Nat}(st:Step h h' T T')(hT:∀b,b∈T→b=rp):LI w0 hh q rp mp M s sls lvd i h' vc U ps A:=by
 obtain ⟨a1,a2,a3,a4,a5,a6,a7,a8,a9,b1,b2,b3,b4⟩:=l
 have n:=st.1
 have nA:∀b,b∈A→b∉T:=λb hb w=>b4.1 (by rw[←hT b w];exact hb)
 refine ⟨?_,by rw[(st.keep q a8.2.1 (λw=>b1.2.2.2 (hT q w))).1];exact a2,a3.frame st (λb hb w=>(b2 b hb).2.2 (hT b w)),a4.frame st (λb hb w=>(b3 b hb).2 (hT b w)),λp hp=>?_,λj v hj hv=>(a6 j v hj hv).frame (λb hb=>(a7 b hb).2) st nA,λb hb=>⟨(a7 b hb).1,by have:=(a7 b hb).2;omega⟩,⟨a8.1,by omega,a8.2.2⟩,a9,b1,b2,b3,b4⟩
 ·refine ⟨cY a1.1 n,λb hb _=>?_,by simp,?_⟩
  ·have k1:=a1.keep b hb (by simp)
   have k2:=st.keep b (cJ hb a1.1) (λw=>by have:=hT b w;have:=b4.2;omega)
   exact ⟨k2.1.trans k1.1,k2.2.trans k1.2⟩
  ·rw[st.lp,a1.lp]
 ·obtain ⟨S,r,hS⟩:=a5 p hp
  exact ⟨S,r.frame st (λb hb=>nA b (hS b hb)),hS⟩
theorem X8{k4 kr:Value→Value→Value→Value→Value→Value→Hp→Prop}{hh:Hp}{q rp i:Nat}{mp x6 x48 x49:Value}{M:List Nat}{s:LS}{sls:List Value}{lvd:List (List (List Ent))}{rest:List UInt8}{Di more:List (Value×List Ent)}(fh:Fit w0 hh)(hl3:sls.length=16)(hi:i<16)(hb1:256≤s.bl)(hb2:s.bl≤4096)
  (hfs:∀p:Value×List Ent,p∈Di→(∃U,Vec w0 hh 1 p.1 (aX (s.bl:Int) p.2).length (bvs (aX (s.bl:Int) p.2)) U)∧ff p.2=true∧aY p.2≤1048576) (hl:Di.length+more.length≤1000000)
  (hk:∀h1 x2 vc U ps A,LI w0 hh q rp mp M s sls lvd i h1 vc U ps A→ps.map (·.2)=Di.map (·.2)→Rd w0 h1 rp ⟨rest,0⟩→Sl w0 h1 1 x2 more.length (more.map (·.1))→(∀b,b∈bL x2→b<hh.next)→k4 (ptr q) (ptr rp) x2 x6 x48 x49 h1):
  ∀(post pre:List (Value×List Ent)) (h1:Hp) (x2 vc:Value) (U:List Nat) (ps:List (Value×List Ent)) (A:List Nat),pre++post=Di→LI w0 hh q rp mp M s sls lvd i h1 vc U ps A→ps.map (·.2)=pre.map (·.2)→Rd w0 h1 rp ⟨(post.flatMap λp=>dB s.bl p.2)++rest,0⟩→
   Sl w0 h1 1 x2 (post++more).length ((post++more).map (·.1))→(∀b,b∈bL x2→b<hh.next)→
   po prog w0 k4 kr (post.length+1) (ptr q) (ptr rp) x2 x6 (.int .i64 (i:Int)) (.int .u64 (post.length:Int)) x48 x49 h1:=by
 intro post
 induction post with
 |nil=>
  intro pre h1 x2 vc U ps A he l e w g o
  have hpre:pre=Di:=by simpa using he
  subst hpre
  rw[cS,po]
  have c1:decide ((0:Int)<((0:Nat):Int))=false:=rfl
  simp only[vL,wd, wa,c1]
  exact hk h1 x2 vc U ps A l e w g o
 |cons z post ih=>
  intro pre h1 x2 vc U ps A he l e w g o
  have hzm:z∈Di:=by rw[←he];simp
  have hlen:pre.length+(post.length+1)=Di.length:=by rw[←he];simp
  obtain ⟨⟨Uz,vz⟩,hck,hez⟩:=hfs z hzm
  have hbz:=nG hb1 hb2 hck
  have hlen1:=mB hbz hez
  have hcrc:=j2 (aX (s.bl:Int) z.2)
  have hUz:=vz.lt
  have c1:decide ((0:Int)<((z::post).length:Int))=true:=decide_eq_true (by simp)
  have e7:IntKind.u64.wrap (((z::post).length:Int)-1)=(post.length:Int):=by
   rw[show (((z::post).length:Nat):Int)-1=(post.length:Int) by simp]
   have:post.length≤1000000:=by omega
   exact gR rfl (by simp[IntKind.bits];omega)
  have hw:((z::post).flatMap λp=>dB s.bl p.2)++rest=vi (aX (s.bl:Int) z.2).length++(vi (bS (aX (s.bl:Int) z.2))++((post.flatMap λp=>dB s.bl p.2)++rest)):=by simp[dB]
  rw[hw]at w
  have w0':∃B,aX (s.bl:Int) z.2=B:=⟨_,rfl⟩
  rw[bH,po]
  simp only[vL,wd, wa,bH]at c1 e7 ⊢
  simp only[c1,wd, wa]
  refine rdv (by omega) w λh2 f2 w2 s2=>?_
  refine rdv (by omega) w2 λh3 f3 w3 s3=>?_
  have s13:Step h1 h3 [rp] [rp]:=s2.trans s3
  have l3:=l.frame s13 (by simp)
  have st3:=l3.st
  have g3:Sl w0 h3 1 x2 (z::post++more).length ((z::post++more).map (·.1)):=g.stepL (λb hb=>by have:=o b hb;have:=l.st.1;omega) s13 (by simp;exact λb hb e=>by have:=o b hb;have:=l.d4.2;omega)
  refine aA (ru w3) λu h4 ⟨e4,e4'⟩ f4=>?_
  subst e4
  subst h4
  have c2:((0:Int) != 0)=false:=rfl
  have c3:(((z::post++more).length:Int)==0)=false:=by simp;omega
  have hg0:((z::post++more).map (·.1))[0]?=some z.1:=rfl
  simp only[c2,g3.lenv,c3,wd, wa]
  refine g3.one (i:=0) hg0 ?_
  have vz3:=vz.frame st3 (by simp)
  have e8:IntKind.u64.wrap ((aX (s.bl:Int) z.2).length:Int)=((aX (s.bl:Int) z.2).length:Int):=gR rfl (by simp[IntKind.bits];omega)
  have e9:IntKind.u64.wrap ((bS (aX (s.bl:Int) z.2):Nat):Int)=((bS (aX (s.bl:Int) z.2):Nat):Int):=gR rfl (by simp[IntKind.bits];omega)
  have c4:(((aX (s.bl:Int) z.2).length:Int) != ((aX (s.bl:Int) z.2).length:Int))=false:=by simp
  have c5:(((bS (aX (s.bl:Int) z.2):Nat):Int) != ((bS (aX (s.bl:Int) z.2):Nat):Int))=false:=by simp
  simp only[vz3.sl.lenv,e8,c4,wd, wa]
  refine g3.one (i:=0) hg0 ?_
  refine vz3.b2s ?_
  refine aA (pR _ (by omega)) λu h4 ⟨e4,e4'⟩ f4=>?_
  subst e4
  subst h4
  simp only[e9,c5,wd, wa]
  refine g3.one (i:=0) hg0 ?_
  refine aA (Df hbz hez vz3.gv) λu h5 ⟨p,N,e5,mR,s5⟩ f5=>?_
  subst e5
  have l5:=l3.frame s5 (by simp)
  have w5:Rd w0 h5 rp _:=w3.frame s5 (by simp)
  have hN:∀b,b∈N→h3.next≤b∧b<h5.next:=λb hb=>⟨by rcases (s5.own b hb).2 with w|w;simp at w;exact w,(s5.own b hb).1⟩
  have hq5:=l5.geq
  have wq:w0.heap.size≤q:=cY fh.base hq5.1
  simp only[c2,ptr,wd, wa,zn]
  refine lG hi ?_
  refine aq wq l5.bq (by rw[qz,ia (by omega)]) ?_
  refine ln mR.isC ?_
  have s6:Step h5 (h5.new [p] 1) [] [h5.next]:=(Step.refl h5 [] (by simp)).new _ _
  have l6:=l5.frame s6 (by simp)
  have mR6:=mR.frame s6 (by simp)
  have w6:=w5.frame s6 (by simp)
  have by6:(h5.new [p] 1).blk h5.next=some [p]:=by simp
  have n6:(h5.new [p] 1).next=h5.next+1:=rfl
  have fb5:=f5.base
  generalize h5.new [p] 1=h6 at *
  simp only[dU,eX,dL,ft]
  refine ⟨aq wq l6.bq (by rw[qz,ia (by omega)]) rfl,?_⟩
  have hpsl:ps.length=pre.length:=by have:=congrArg List.length e;simpa using this
  have hsrc:Src w0.heap.size h6 1 (.slice (some ⟨h5.next,0,none⟩) 1 1) 1 [p]:=kO fb5 by6 rfl
  refine gB (by omega) l6.vec rfl hsrc rfl (by omega) (by omega) (by omega) λvc' h7 U' g7 s7=>?_
  obtain ⟨a1,a2,a3,a4,a5,a6,a7,a8,a9,b1,b2,b3,b4⟩:=l6
  have n7:=s7.1
  have own7:∀b,b∈U'→b∈U∨h6.next≤b:=λb hb=>(s7.own b hb).2
  have bq7:h7.blk q=some (aN s++mp::sls.set i vc):=by rw[(s7.keep q a8.2.1 b1.2.1).1];exact a2
  refine lG hi ?_
  refine eH wq bq7 (by rw[jU,i7];omega) (by obtain ⟨a,c,e⟩:=g7.slice;rw[e];rfl) ?_
  rw[xt,List.set_set]
  have sP:Step h7 (h7.put q (aN s++mp::sls.set i vc')) [q] [q]:=(Step.refl h7 [q] (by simp;omega)).put (by simp) _
  have bP:(h7.put q (aN s++mp::sls.set i vc')).blk q=some (aN s++mp::sls.set i vc'):=by simp
  have nP:(h7.put q (aN s++mp::sls.set i vc')).next=h7.next:=rfl
  have fP:Fit w0 (h7.put q (aN s++mp::sls.set i vc'))∨True:=.inr trivial
  have hfr:∀b,b<h6.next→b∉U→b≠q→(h7.put q (aN s++mp::sls.set i vc')).blk b=h6.blk b∧(h7.put q (aN s++mp::sls.set i vc')).esz b=h6.esz b:=λb hb hu hbq=>by
   have k1:=s7.keep b hb hu
   have k2:=sP.keep b (by omega) (by simpa using hbq)
   exact ⟨k2.1.trans k1.1,k2.2.trans k1.2⟩
  have hrp6:rp<h6.next:=w6.2.2.1
  have rpU:rp∉U:=λw=>(b3 rp w).2 rfl
  have w8:Rd w0 (h7.put q (aN s++mp::sls.set i vc')) rp _:=(w6.frame s7 rpU).frame sP (by simpa using λe=>b1.2.2.2 e.symm)
  have stT:Step h6 (h7.put q (aN s++mp::sls.set i vc')) (q::U) []:=(s7.consR a8.2.1).trans ((sP.less (T:=[]) (by simp)).wide (T:=q::U') (T':=[]) (by simp) (by simp))
  have hA7:∀b,b∈N++A→b∉q::U:=λb hb w=>by
   rcases bB.1 w with w|w
   ·rcases aS.1 hb with r|r
    ·have:=hN b r;have:=hq5.2.1;have:=(l3.geq).2.1;omega
    ·rw[w]at r;exact b1.2.2.1 r
   ·rcases aS.1 hb with r|r
    ·have:=hN b r;have:=(l3.vec.lt b w).2;omega
    ·exact (b3 b w).1 r
  have hU'q:∀b,b∈U'→b≠q:=λb hb hbq=>by
   rcases own7 b hb with r|r
   ·rw[hbq]at r;exact b1.2.1 r
   ·omega
  have g7':=g7.frame sP (by simpa using hU'q)
  have x2o:∀b,b∈bL x2→b<h6.next∧b∉q::U:=λb hb=>⟨by have:=o b hb;have:=a1.1;omega,λw=>by
   have:=o b hb
   rcases bB.1 w with w|w
   ·have:=a8.1;omega
   ·have:=a9 b w;omega⟩
  have g6:Sl w0 h6 1 x2 (z::post++more).length ((z::post++more).map (·.1)):=(g3.stepL (λb hb=>by have:=o b hb;have:=st3.1;omega) s5 (by simp)).stepL (λb hb=>by have:=o b hb;have:=l5.st.1;omega) s6 (by simp)
  have g8:=g6.stepL (λb hb=>(x2o b hb).1) stT (λb hb=>(x2o b hb).2)
  refine g8.cutN (lo:=1) (hi:=(z::post++more).length) eY fH (by simp) (bF _) λx2' _ hsb gx=>?_
  have hcut:(((z::post++more).map (·.1)).take ((z::post++more).length*1)).drop (1*1)=(post++more).map (·.1):=by
   rw[dY (by simp)]
   rfl
  have hcl:(z::post++more).length-1=(post++more).length:=by simp
  rw[hcut,hcl]at gx
  simp only[wd, wa,e7]
  refine ih (pre++[z]) _ x2' vc' U' (ps++[(p,z.2)]) (N++A) (by simpa using he) ⟨?_,bP,?_,by rw[aT,eI];exact g7',λp' hp'=>?_,λj v hj hv=>?_,λb hb=>?_,⟨a8.1,by omega,a8.2.2⟩,λb hb=>?_,⟨b1.1,λw=>?_,λw=>?_,b1.2.2.2⟩,λb hb=>⟨λw=>?_,λw=>?_,(b2 b hb).2.2⟩,λb hb=>⟨λw=>?_,λw=>?_⟩,⟨λw=>?_,b4.2⟩⟩ (by rw[eI,eI,e];rfl) w8 gx (λb hb=>o b (by rw[←hsb];exact hb))
  ·-- what was there stands
   refine ⟨by have:=a1.1;omega,λb hb _=>?_,by simp,by rw[stT.lp,a1.lp]⟩
   have k1:=a1.keep b hb (by simp)
   have k2:=stT.keep b (by have:=a1.1;omega) (λw=>by
    rcases bB.1 w with w|w
    ·have:=a8.1;omega
    ·have:=a9 b w;omega)
   exact ⟨k2.1.trans k1.1,k2.2.trans k1.2⟩
  ·exact a3.frame stT (λb hb w=>by
    rcases bB.1 w with w|w
    ·rw[w]at hb;exact b1.1 hb
    ·exact (b2 b hb).1 w)
  ·rcases aS.1 hp' with r|r
   ·obtain ⟨S,r0,hS⟩:=a5 p' r
    exact ⟨S,r0.frame stT (λb hb=>hA7 b (by simp[hS b hb])),λb hb=>by simp[hS b hb]⟩
   ·simp at r
    subst r
    exact ⟨N,mR6.frame stT (λb hb=>hA7 b (by simp[hb])),by simp +contextual⟩
  ·exact ((a6 j v hj hv).frame (λb hb=>(a7 b hb).2) stT (λb hb=>hA7 b (by simp[hb]))).more (by simp +contextual)
  ·rcases aS.1 hb with r|r
   ·have:=hN b r;have:=st3.1;omega
   ·have:=a7 b r;omega
  ·rcases own7 b hb with r|r
   ·exact a9 b r
   ·have:=a1.1;omega
  ·exact hU'q q w rfl
  ·rcases aS.1 w with r|r
   ·have:=hN q r;have:=l3.geq.2.1;omega
   ·exact b1.2.2.1 r
  ·rcases own7 b w with r|r
   ·exact (b2 b hb).1 r
   ·have:=(a3.lt b hb).2;omega
  ·rcases aS.1 w with r|r
   ·have:=hN b r;have:=(l3.me.lt b hb).2;omega
   ·exact (b2 b hb).2.1 r
  ·rcases aS.1 w with r|r
   ·have h1:=hN b r
    rcases own7 b hb with r'|r'
    ·have:=(l3.vec.lt b r').2;omega
    ·omega
   ·rcases own7 b hb with r'|r'
    ·exact (b3 b r').1 r
    ·have:=a7 b r;omega
  ·rcases own7 b hb with r'|r'
   ·exact (b3 b r').2 w
   ·omega
  ·rcases aS.1 w with r|r
   ·have:=hN rp r;have:=w3.2.2.1;omega
   ·exact b4.1 r
end
