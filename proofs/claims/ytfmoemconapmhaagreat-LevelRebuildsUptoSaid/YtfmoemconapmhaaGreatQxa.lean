/- level.files, Files. -/
import Derived.Test.YtfmoemconapmhaaGreatLxd
set_option linter.all false
namespace Go.Proofs.YtfmoemconapmhaaGreat.Ah
open Go
def q5l (s:LS):List (List UInt8):=s.lv.flatten.map λ l=>q0i (s.bl:Int) l
section
variable {w0:World} {h h':Hp}
theorem Sl.lenA {s n:Nat} {x:Value} {ys:List Value} (v:Sl w0 h s x n ys):lenA x=some n:=by obtain ⟨a,c,e⟩:=v.slice; rw [e]; rfl
theorem q0hm {k0:Value→Hp→Prop} {A:List Nat} {s:LS} {sls:List Value} (b3:∀ (i:Nat) v,sls[i]?=some v→Lvl w0 h A s.bl v (s.lv.getD i [])) (hl3:sls.length=16) (hlv:s.lv.length=16) (hA:∀ b,b∈A→b < h.next) (fh:Fit w0 h) (hr:s.lv.flatten.length≤1000000)
  (hk:∀ h1 x S (rs:List (Value × List Ent)),Step h h1 [] S→Vec w0 h1 1 x rs.length (rs.map (·.1)) S→rs.map (·.2)=s.lv.flatten→(∀ p:Value × List Ent,p∈rs→∃ S,Rb w0 h p.1 p.2 s.bl S∧∀ b,b∈S→b∈A)→k0 x h1):
  ∀ (m i:Nat) (h1:Hp) (x:Value) (S:List Nat) (rs:List (Value × List Ent)),i + m=16→Step h h1 [] S→Vec w0 h1 1 x rs.length (rs.map (·.1)) S→rs.map (·.2)=(s.lv.take i).flatten→(∀ p:Value × List Ent,p∈rs→∃ S,Rb w0 h p.1 p.2 s.bl S∧∀ b,b∈S→b∈A)→
   q87 prog w0 k0 (m + 1) x (.agg sls.toArray) (.int .i64 (i:Int)) h1:=by
 intro m
 induction m with
 | zero=>
  intro i h1 x S rs hi st g e hr2
  have:i=16:=by omega
  subst this
  rw [List.take_of_length_le (by omega)] at e
  have c1:decide (((16:Nat):Int) < 16)=false:=rfl
  rw [q87]
  simp only [qe8,wd, wa,c1]
  exact hk h1 x S rs st g e hr2
 | succ m ih=>
  intro i h1 x S rs hi st g e hr2
  obtain ⟨v,hv⟩:=q5k hl3 (i:=i) (by omega)
  obtain ⟨pr,ep,hsl,hsb,hpr⟩:=b3 i v hv
  have c1:decide ((i:Int) < 16)=true:=decide_eq_true (by omega)
  have e6:=wrN i (by omega)
  have hgi:s.lv[i]?=some (s.lv.getD i []):=by rw [List.getD_eq_getElem?_getD,List.getElem?_eq_getElem (by omega)]; rfl
  have hti:s.lv.take (i + 1)=s.lv.take i++[s.lv.getD i []]:=by rw [List.take_add_one,hgi]; rfl
  have e2:(rs++pr).map (·.2)=(s.lv.take (i + 1)).flatten:=by
   rw [hti,List.map_append,List.flatten_append,e]
   simp [← ep]
  have hlen:rs.length + pr.length≤1000000:=by
   have h1:(s.lv.take (i + 1)).flatten.length≤s.lv.flatten.length:=by
    conv=>rhs; rw [← List.take_append_drop (i + 1) s.lv,List.flatten_append,List.length_append]
    omega
   have:=congrArg List.length e2
   simp only [List.length_map,List.length_append] at this
   omega
  rw [q87]
  simp only [qe8,wd, wa,c1,qcb hl3 hv]
  have v1:Sl w0 h1 1 v pr.length (pr.map (·.1)):=hsl.stepL (λ b hb=>hA b (hsb b hb)) (st.less (T:=[]) (by simp)) (by simp)
  have fb:w0.heap.size≤h1.next:=Nat.le_trans fh.base st.1
  refine q3g fb g v1.lenA v1.src (by simp) (by omega) (by omega) (by omega) λ x' h2 S2 g2 s2=>?_
  simp only [wd, wa,e6]
  refine ih (i + 1) h2 x' S2 (rs++pr) (by omega) (st.trans s2) (by simpa using g2) e2 λ p hp=>?_
  rcases List.mem_append.1 hp with q | q
  ·exact hr2 p q
  ·exact hpr p q
theorem q0ls {r:Value} {s:LS} {S A:List Nat} (m:Lv w0 h r s S A) (hr:s.lv.flatten.length≤1000000):
  qf prog w0 qiy [r] h λ v h'=>∃ (S':List Nat) (rs:List (Value × List Ent)),Vec w0 h' 1 v rs.length (rs.map (·.1)) S'∧rs.map (·.2)=s.lv.flatten∧(∀ p:Value × List Ent,p∈rs→∃ S,Rb w0 h p.1 p.2 s.bl S∧∀ b,b∈S→b∈A)∧Step h h' [] S':=by
 refine qf.of_fit (by simpa using m.nj) λ f=>q071 (by simpa using m.nj) ?_
 obtain ⟨q,mp,M,sls,a1,a2,a3,a4,a5,a6,a7,a8,a9,b1,b2,b3⟩:=m
 subst a1
 simp only [qj0,ptr,wd, wa]
 refine q9a (e:=sls) a7 a2 ?_ ?_
 ·rw [if_pos (by rw [q55]; omega)]
  show (sls:List Value).take 16=sls
  exact List.take_of_length_le (by omega)
 refine ⟨16 + 1,q0hm (h:=h) b3 a3 b2 a9 f hr (λ h1 x S1 rs st g e hp=>?_) 16 0 h _ [] [] rfl (.refl _ _ (by simp)) .nil rfl (by simp)⟩
 simp only [qu,q06]
 exact ⟨by obtain ⟨a,c,e⟩:=g.slice; rw [e]; simp [junk],S1,rs,g,e,hp,st⟩
def FM (w0:World) (h:Hp) (v:Value) (ps:List (Value × List UInt8 × List Nat)) (S0:List Nat):Prop:=
 Vec w0 h 1 v ps.length (ps.map (·.1)) S0∧(∀ p:Value × List UInt8 × List Nat,p∈ps→Vec w0 h 1 p.1 p.2.1.length (bvs p.2.1) p.2.2∧∀ b,b∈p.2.2→b∉S0)∧ps.Pairwise λ p q=>∀ b,b∈p.2.2→b∉q.2.2
theorem q0gz {k0:Value→Hp→Prop} {v:Value} {Sv:List Nat} {s:LS} {rs:List (Value × List Ent)} {hh:Hp} (hv:Vec w0 hh 1 v rs.length (rs.map (·.1)) Sv) (fh:Fit w0 hh) (hr:∀ p:Value × List Ent,p∈rs→∃ S,Rb w0 hh p.1 p.2 s.bl S) (hl:rs.length≤1000000)
  (hk:∀ h1 x S0 ps,Step hh h1 [] []→FM w0 h1 x ps S0→(ps.map λ p=>p.2.1)=rs.map (λ p=>q0i (s.bl:Int) p.2)→(∀ b,b∈S0→hh.next≤b)→(∀ p:Value × List UInt8 × List Nat,p∈ps→∀ b,b∈p.2.2→hh.next≤b)→k0 x h1):
  ∀ (post pre:List (Value × List Ent)) (h1:Hp) (x:Value) (S0:List Nat) (ps:List (Value × List UInt8 × List Nat)),pre++post=rs→Step hh h1 [] []→FM w0 h1 x ps S0→(ps.map λ p=>p.2.1)=pre.map (λ p=>q0i (s.bl:Int) p.2)→(∀ b,b∈S0→hh.next≤b)→(∀ p:Value × List UInt8 × List Nat,p∈ps→∀ b,b∈p.2.2→hh.next≤b)→
   q88 prog w0 k0 (post.length + 1) x v (.int .i64 (rs.length:Int)) (.int .i64 (pre.length:Int)) h1:=by
 intro post
 induction post with
 | nil=>
  intro pre h1 x S0 ps he st g e h0 hp
  have hpre:pre=rs:=by simpa using he
  subst hpre
  rw [List.length_nil,q88]
  simp only [qe7,wd, wa,Int.lt_irrefl,decide_false]
  exact hk h1 x S0 ps st g e h0 hp
 | cons z post ih=>
  intro pre h1 x S0 ps he st g e h0 hp
  have hlen:pre.length + (post.length + 1)=rs.length:=by rw [← he]; simp
  have hg:(rs.map (·.1))[pre.length]?=some z.1:=by rw [← he]; simp
  have hzm:z∈rs:=by rw [← he]; simp
  have c1:decide ((pre.length:Int) < (rs.length:Int))=true:=decide_eq_true (by omega)
  have e6:=wrS pre z (by omega)
  have hpl:ps.length=pre.length:=by have:=congrArg List.length e; simpa using this
  obtain ⟨S,mr⟩:=hr z hzm
  obtain ⟨g1,g2,g3⟩:=g
  rw [List.length_cons,q88]
  simp only [qe7,wd, wa,c1]
  refine (hv.frame st (by simp)).sl.one hg ?_
  refine qq (qy9 (mr.frame st (by simp))) λ y h2 ⟨U,gy,s2⟩ f2=>?_
  have hBz:∃ B,q0i (s.bl:Int) z.2=B:=⟨_,rfl⟩
  obtain ⟨B,hB⟩:=hBz
  rw [hB] at gy
  have gc:qv y=true:=by obtain ⟨a,c,e⟩:=gy.slice; rw [e]; rfl
  have g1':=g1.frame s2 (by simp)
  have hU:∀ b,b∈U→h1.next≤b:=λ b hb=>by rcases (s2.own b hb).2 with w | w; simp at w; exact w
  have hU2:∀ b,b∈U→b < h2.next:=λ b hb=>(s2.own b hb).1
  have hS0:∀ b,b∈S0→b < h1.next:=λ b hb=>(g1.lt b hb).2
  have n1:=st.1
  have n2:=s2.1
  refine q79 f2.base g1'.gv gc (by omega) (by omega) λ x' h3 S3 g4 s3=>?_
  have own3:∀ b,b∈S3→b∈S0∨h2.next≤b:=λ b hb=>(s3.own b hb).2
  have keep:∀ p:Value × List UInt8 × List Nat,Vec w0 h2 1 p.1 p.2.1.length (bvs p.2.1) p.2.2→(∀ b,b∈p.2.2→b∉S0)→Vec w0 h3 1 p.1 p.2.1.length (bvs p.2.1) p.2.2∧∀ b,b∈p.2.2→b∉S3:=λ p vp dp=>⟨vp.frame s3 dp,λ b hb w=>by
   rcases own3 b w with r | r
   ·exact dp b hb r
   ·have:=(vp.lt b hb).2; omega⟩
  have sS:Step hh h3 [] []:=by
   have t1:Step hh h2 [] []:=st.trans (s2.less (by simp))
   have t2:Step h2 h3 S0 []:=s3.less (by simp)
   have t3:Step hh h2 [] S0:=⟨t1.1,t1.2,λ b hb=>⟨by have:=hS0 b hb; omega,.inr (h0 b hb)⟩,t1.4⟩
   exact t3.trans t2
  simp only [wd, wa,e6]
  refine ih (pre++[z]) h3 x' S3 (ps++[(y,B,U)]) (by simpa using he) sS ⟨by rw [List.length_append,List.map_append]; exact g4,λ p hp'=>?_,?_⟩ (by rw [List.map_append,List.map_append,e]; simp only [List.map_cons,List.map_nil,hB]) (λ b hb=>?_) (λ p hp'=>?_)
  ·rcases List.mem_append.1 hp' with q | q
   ·obtain ⟨v1,d1⟩:=g2 p q
    exact keep p (v1.frame s2 (by simp)) d1
   ·simp at q
    subst q
    refine keep (y,B,U) gy ?_
    intro b hb w
    have:=hU b hb
    have:=hS0 b w
    omega
  ·refine List.pairwise_append.2 ⟨g3,by simp,λ p hp' q hq b hb=>?_⟩
   simp at hq
   subst hq
   intro w
   have:=hU b w
   have:=((g2 p hp').1.lt b hb).2
   omega
  ·rcases own3 b hb with r | r
   ·exact h0 b r
   ·omega
  ·rcases List.mem_append.1 hp' with q | q
   ·exact hp p q
   ·simp at q
    subst q
    intro b hb
    have:=hU b hb
    omega
theorem q0k9 {r:Value} {s:LS} {S A:List Nat} (m:Lv w0 h r s S A) (hr:s.lv.flatten.length≤1000000):
  qf prog w0 qiw [r] h λ v h'=>∃ (S0:List Nat) (ps:List (Value × List UInt8 × List Nat)),FM w0 h' v ps S0∧(ps.map λ p=>p.2.1)=q5l s∧(∀ b,b∈S0→h.next≤b)∧(∀ p:Value × List UInt8 × List Nat,p∈ps→∀ b,b∈p.2.2→h.next≤b)∧Step h h' [] []:=by
 refine qf.of_fit (by simpa using m.nj) λ f=>q078 (by simpa using m.nj) ?_
 simp only [qj2]
 refine qq (q72 m) λ v h1 ⟨e,e'⟩ f1=>?_
 subst e
 subst h1
 simp only [wd, wa]
 refine qq (q0ls m hr) λ v h2 ⟨S1,rs,g,e,hp,s2⟩ f2=>?_
 have n2:=s2.1
 have hrl:rs.length=s.lv.flatten.length:=by have:=congrArg List.length e; simpa using this
 simp only [g.sl.lenv,wd, wa]
 refine ⟨rs.length + 1,q0gz (s:=s) g f2 (λ p hp'=>?_) (by omega) (λ h3 x S0 ps st3 fm e3 d0 dp=>?_) rs [] h2 _ [] [] rfl (.refl _ _ (by simp)) ⟨.nil,by simp,.nil⟩ rfl (by simp) (by simp)⟩
 ·obtain ⟨S',mr,-⟩:=hp p hp'
  exact ⟨S',mr.frame s2 (by simp)⟩
 ·simp only [qu,q06]
  refine ⟨by obtain ⟨a,c,e⟩:=fm.1.slice; rw [e]; simp [junk],S0,ps,fm,?_,λ b hb=>by have:=d0 b hb; omega,λ p hp' b hb=>by have:=dp p hp' b hb; omega,(s2.less (by simp)).trans st3⟩
  rw [e3]
  unfold q5l
  rw [← e,List.map_map]
  exact List.map_congr_left λ p _=>by simp only [Function.comp]
end
def q1s (bl:Nat) (l:List Ent):List UInt8:=vi (q0i (bl:Int) l).length++vi (q14 (q0i (bl:Int) l))
def lvB (bl:Nat) (r:List (List Ent)):List UInt8:=vi r.length++r.flatMap (q1s bl)
def q2q (s:LS):List UInt8:=vi s.bl++vi s.fan++vi s.top++vi (q0x s.lv).length++(s.lv.take (q0o s.lv)).flatMap (lvB s.bl)
section
variable {w0:World} {h h':Hp}
abbrev WB (w0:World) (h:Hp) (p:Nat) (bs:List UInt8) (S:List Nat):Prop:=Wr w0 h p ⟨1048576,bs,false⟩ S
theorem wv {p n:Nat} {bs:List UInt8} {S:List Nat} {K:qh} (hn:n < 18446744073709551616) (w:WB w0 h p bs S) (hl:bs.length + (vi n).length≤1048576) (hk:∀ v h' S',Fit w0 h'→WB w0 h' p (bs++vi n) S'→Step h h' S S'→K v h'):
  qi prog w0 q5z [ptr p,.int .u64 (IntKind.u64.wrap (n:Int))] K h:=by
 have e:IntKind.u64.wrap (n:Int)=(n:Int):=q41 rfl hn
 rw [e]
 refine qq (qku n hn w (by simp only; omega)) λ v h' ⟨S',w',s'⟩ f'=>?_
 have hp:(⟨1048576,bs,false⟩:WS).put (vi n)=⟨1048576,bs++vi n,false⟩:=by
  unfold WS.put
  rw [if_neg (by simp),if_neg (by simp only; omega)]
 rw [hp] at w'
 exact hk v h' S' f' w' s'
theorem q0nr {k4:Value→Value→Value→Value→Value→Hp→Prop} {x0 x50 x51 x52 v:Value} {p:Nat} {A:List Nat} {bl:Nat} {bs0:List UInt8} {pr:List (Value × List Ent)} {hh hs:Hp} {Ss:List Nat} (fh:Fit w0 hh) (hsl:Sl w0 hh 1 v pr.length (pr.map (·.1))) (hA:∀ b,b∈A→b < hh.next) (hsb:∀ b,b∈q0z v→b∈A)
  (hpr:∀ q:Value × List Ent,q∈pr→∃ S,Rb w0 hh q.1 q.2 bl S∧∀ b,b∈S→b∈A) (hl:pr.length≤1000000) (htot:bs0.length + (pr.flatMap λ q=>q1s bl q.2).length≤1048576)
  (hk:∀ h1 S,Fit w0 h1→Step hh h1 [] S→Step hs h1 Ss S→WB w0 h1 p (bs0++pr.flatMap λ q=>q1s bl q.2) S→k4 x0 (ptr p) x50 x51 x52 h1):
  ∀ (post pre:List (Value × List Ent)) (h1:Hp) (S:List Nat),pre++post=pr→Fit w0 h1→Step hh h1 [] S→Step hs h1 Ss S→WB w0 h1 p (bs0++pre.flatMap λ q=>q1s bl q.2) S→
   q7z prog w0 k4 (post.length + 1) x0 (ptr p) x50 x51 x52 v (.int .i64 (pr.length:Int)) (.int .i64 (pre.length:Int)) h1:=by
 intro post
 induction post with
 | nil=>
  intro pre h1 S he f1 st su w
  have hpre:pre=pr:=by simpa using he
  subst hpre
  rw [List.length_nil,q7z]
  simp only [qe0,wd, wa,Int.lt_irrefl,decide_false]
  exact hk h1 S f1 st su w
 | cons z post ih=>
  intro pre h1 S he f1 st su w
  have hlen:pre.length + (post.length + 1)=pr.length:=by rw [← he]; simp
  have hg:(pr.map (·.1))[pre.length]?=some z.1:=by rw [← he]; simp
  have hzm:z∈pr:=by rw [← he]; simp
  have c1:decide ((pre.length:Int) < (pr.length:Int))=true:=decide_eq_true (by omega)
  have e6:=wrS pre z (by omega)
  obtain ⟨S0,mr,hS0⟩:=hpr z hzm
  have st0:=st.less (T:=[]) (by simp)
  have mr1:=mr.frame st0 (by simp)
  have hlen1:(q0i (bl:Int) z.2).length≤11534360:=by
   obtain ⟨n,S1,p,y,c1,c2,Sy,a1,a2,a3,a4,a5,a6,a7,a8⟩:=mr
   exact qas a8 a7
  have hcrc:=q78 (q0i (bl:Int) z.2)
  have q2v:(bs0++pre.flatMap λ q=>q1s bl q.2).length + (q1s bl z.2).length≤1048576:=by
   have:(pr.flatMap λ q=>q1s bl q.2).length=(pre.flatMap λ q=>q1s bl q.2).length + ((q1s bl z.2).length + (post.flatMap λ q=>q1s bl q.2).length):=by rw [← he]; simp
   rw [List.length_append]
   omega
  have hrl:(q1s bl z.2).length=(vi (q0i (bl:Int) z.2).length).length + (vi (q14 (q0i (bl:Int) z.2))).length:=by unfold q1s; rw [List.length_append]
  have hfm:(bs0++pre.flatMap λ q=>q1s bl q.2)++vi (q0i (bl:Int) z.2).length++vi (q14 (q0i (bl:Int) z.2))=bs0++(pre++[z]).flatMap λ q=>q1s bl q.2:=by
   rw [List.flatMap_append]
   simp [q1s]
  have hSlt:∀ b,b∈S→b < h1.next:=λ b hb=>(w.lt b hb).2
  generalize hbs:(bs0++pre.flatMap λ q=>q1s bl q.2)=bs at *
  rw [List.length_cons,q7z]
  simp only [qe0,wd, wa,c1]
  have v1:Sl w0 h1 1 v pr.length (pr.map (·.1)):=hsl.stepL (λ b hb=>hA b (hsb b hb)) st0 (by simp)
  refine v1.one hg ?_
  refine qq (qy9 mr1) λ y h2 ⟨U,gy,s2⟩ f2=>?_
  generalize q0i (bl:Int) z.2=B at *
  have hU:∀ b,b∈U→h1.next≤b:=λ b hb=>by rcases (s2.own b hb).2 with w | w; simp at w; exact w
  have w2:=w.frame s2 (by simp)
  simp only [gy.sl.lenv,wd, wa]
  refine wv (n:=B.length) (by omega) w2 (by omega) λ u h3 S3 f3 w3 s3=>?_
  ·refine (gy.frame s3 (λ b hb hb2=>by have:=hU b hb; have:=hSlt b hb2; omega)).b2s ?_
   refine qq (qgf B (by omega)) λ u h4 ⟨e,e'⟩ f4=>?_
   subst e
   subst h4
   simp only [wd, wa]
   refine wv (by omega) w3 (by rw [List.length_append]; omega) λ u h4 S4 f4 w4 s4=>?_
   simp only [wd, wa,e6]
   refine ih (pre++[z]) h4 S4 (by simpa using he) f4 ((st.trans (s2.wide (T:=S) (T':=S) (by simp) (λ b hb=>.inr ⟨hb,hSlt b hb⟩))).trans (s3.trans s4)) ((su.trans (s2.wide (T:=S) (T':=S) (by simp) (λ b hb=>.inr ⟨hb,hSlt b hb⟩))).trans (s3.trans s4)) ?_
   rw [← hfm]
   exact w4
def Off (h:Hp) (v:Value) (S:List Nat):Prop:=∀ b,b∈q0z v→b < h.next∧b∉S
theorem Off.step {v:Value} {S S':List Nat} (o:Off h v S) (st:Step h h' S S'):Off h' v S':=λ b hb=>by
 have h1:=o b hb
 have:=st.1
 refine ⟨by omega,λ w=>?_⟩
 rcases (st.own b w).2 with r | r
 ·exact h1.2 r
 ·omega
theorem Off.sl {s n:Nat} {v:Value} {ys:List Value} {S S':List Nat} (o:Off h v S) (g:Sl w0 h s v n ys) (st:Step h h' S S'):Sl w0 h' s v n ys:=g.stepL (λ b hb=>(o b hb).1) st λ b hb=>(o b hb).2
theorem q0nh {k2:Value→Hp→Prop} {q p:Nat} {A M:List Nat} {s:LS} {sls:List Value} {mp v50:Value} {bs0:List UInt8} {W:Nat} {hh:Hp} (fh:Fit w0 hh) (hq:w0.heap.size≤q) (hqn:q < hh.next) (hb:hh.blk q=some (q0m s++mp :: sls)) (b3:∀ (i:Nat) v,sls[i]?=some v→Lvl w0 hh A s.bl v (s.lv.getD i [])) (hl3:sls.length=16) (hA:∀ b,b∈A→b < hh.next) (ok:LOk s W) (hW:W≤1048576)
  (htot:(bs0++(s.lv.take (q0o s.lv)).flatMap (lvB s.bl)).length≤1048576)
  (hk:∀ h1 S,Fit w0 h1→Step hh h1 [] S→WB w0 h1 p (bs0++(s.lv.take (q0o s.lv)).flatMap (lvB s.bl)) S→k2 (ptr p) h1):
  ∀ (m i:Nat) (h1:Hp) (S:List Nat),i + m=q0o s.lv→Fit w0 h1→Step hh h1 [] S→Sl w0 h1 1 v50 (q0x s.lv).length (inV (q0x s.lv))→Off h1 v50 S→WB w0 h1 p (bs0++(s.lv.take i).flatMap (lvB s.bl)) S→
   q7x prog w0 k2 (m + 1) (ptr q) (ptr p) v50 (.int .i64 ((q0x s.lv).length:Int)) (.int .i64 (i:Int)) h1:=by
 have hlv:=ok.len
 have hla:=q7b s.lv
 have hrl:(q0x s.lv).length=q0o s.lv:=by unfold q0x; rw [List.length_take,List.length_map,hlv]; omega
 intro m
 induction m with
 | zero=>
  intro i h1 S hi f1 st gc oc w
  have:i=q0o s.lv:=by omega
  subst this
  rw [q7x,hrl]
  simp only [qbb,wd, wa,Int.lt_irrefl,decide_false]
  exact hk h1 S f1 st w
 | succ m ih=>
  intro i h1 S hi f1 st gc oc w
  obtain ⟨v,hv⟩:=q5k hl3 (i:=i) (by omega)
  obtain ⟨pr,ep,hsl,hsb,hpr⟩:=b3 i v hv
  have c1:decide ((i:Int) < ((q0x s.lv).length:Int))=true:=decide_eq_true (by omega)
  have e6:=wrN i (by omega)
  have hgi:s.lv[i]?=some (s.lv.getD i []):=by rw [List.getD_eq_getElem?_getD,List.getElem?_eq_getElem (by omega)]; rfl
  have hti:s.lv.take (i + 1)=s.lv.take i++[s.lv.getD i []]:=by rw [List.take_add_one,hgi]; rfl
  have hrg:(q0x s.lv)[i]?=some (s.lv.getD i []).length:=by
   unfold q0x
   rw [List.getElem?_take,if_pos (by omega),List.getElem?_map,hgi]
   rfl
  have hrn:=ok.lvl i
  have hfm:bs0++(s.lv.take (i + 1)).flatMap (lvB s.bl)=bs0++(s.lv.take i).flatMap (lvB s.bl)++vi (s.lv.getD i []).length++pr.flatMap λ q=>q1s s.bl q.2:=by
   rw [hti,List.flatMap_append]
   have:(s.lv.getD i []).flatMap (q1s s.bl)=pr.flatMap λ q=>q1s s.bl q.2:=by rw [ep,List.flatMap_map]
   simp only [List.flatMap_cons,List.flatMap_nil,List.append_nil,lvB,this,List.append_assoc]
  have htot1:(bs0++(s.lv.take (i + 1)).flatMap (lvB s.bl)).length≤1048576:=by
   have:s.lv.take (q0o s.lv)=s.lv.take (i + 1)++(s.lv.take (q0o s.lv)).drop (i + 1):=by
    conv=>lhs; rw [← List.take_append_drop (i + 1) (s.lv.take (q0o s.lv))]
    rw [List.take_take,Nat.min_eq_left (by omega)]
   rw [this,List.flatMap_append,← List.append_assoc,List.length_append] at htot
   omega
  rw [hfm] at htot1
  rw [q7x]
  simp only [qbb,wd, wa,c1]
  refine gc.one (qaq hrg) ?_
  simp only [wd, wa]
  generalize bs0++(s.lv.take i).flatMap (lvB s.bl)=bs at *
  simp only [List.length_append] at htot1
  refine wv (by omega) w (by omega) λ u h2 S2 f2 w2 s2=>?_
  have st2:=st.trans s2
  have st20:=st2.less (T:=[]) (by simp)
  have bq2:h2.blk q=some (q0m s++mp :: sls):=by rw [(st20.keep q hqn (by simp)).1]; exact hb
  simp only [ptr,wd, wa]
  refine q7i (by omega) ?_
  refine qj hq bq2 (by rw [qh6]; exact hv) ?_
  simp only [hsl.lenv,wd, wa]
  have hprl:pr.length=(s.lv.getD i []).length:=by rw [ep,List.length_map]
  have o2:=oc.step s2
  have g2:=oc.sl gc s2
  refine ⟨pr.length + 1,q0nr (hh:=hh) (hs:=h2) (Ss:=S2) (A:=A) (bl:=s.bl) (pr:=pr) (bs0:=bs++vi (s.lv.getD i []).length) fh hsl hA hsb hpr (by omega) (by simp only [List.length_append]; omega) (λ h3 S3 f3 st3 su3 w3=>?_) pr [] h2 S2 rfl f2 st2 (.refl _ _ λ b hb=>(w2.lt b hb).2) (by simpa using w2)⟩
  simp only [wd, wa,e6]
  refine ih (i + 1) h3 S3 (by omega) f3 st3 (o2.sl g2 su3) (o2.step su3) ?_
  rw [hfm]
  exact w3
theorem q0i9 {k0:Value→Value→Value→Hp→Prop} {x0 x4 v39:Value} {p:Nat} {ns:List Nat} {hh:Hp} {bs0:List UInt8} {Ss:List Nat} (hl:ns.length≤1000) (hns:∀ n,n∈ns→n < 18446744073709551616) (htot:(bs0++ns.flatMap vi).length≤1048576)
  (hk:∀ h1 S,Fit w0 h1→Step hh h1 Ss S→WB w0 h1 p (bs0++ns.flatMap vi) S→k0 x0 (ptr p) x4 h1):∀ (post pre:List Nat) (h1:Hp) (S:List Nat),pre++post=ns→Fit w0 h1→Step hh h1 Ss S→Sl w0 h1 1 v39 ns.length (inV ns)→Off h1 v39 S→WB w0 h1 p (bs0++pre.flatMap vi) S→
   q7y prog w0 k0 (post.length + 1) x0 (ptr p) x4 v39 (.int .i64 (ns.length:Int)) (.int .i64 (pre.length:Int)) h1:=by
 intro post
 induction post with
 | nil=>
  intro pre h1 S he f1 st g o w
  have hpre:pre=ns:=by simpa using he
  subst hpre
  rw [List.length_nil,q7y]
  simp only [qdz,wd, wa,Int.lt_irrefl,decide_false]
  exact hk h1 S f1 st w
 | cons z post ih=>
  intro pre h1 S he f1 st g o w
  have hlen:pre.length + (post.length + 1)=ns.length:=by rw [← he]; simp
  have hg:ns[pre.length]?=some z:=by rw [← he]; simp
  have hzm:z∈ns:=by rw [← he]; simp
  have c1:decide ((pre.length:Int) < (ns.length:Int))=true:=decide_eq_true (by omega)
  have e6:=wrS pre z (by omega)
  have q2v:(bs0++pre.flatMap vi).length + (vi z).length≤1048576:=by
   rw [← he,List.flatMap_append,List.flatMap_cons] at htot
   simp only [List.length_append] at htot ⊢
   omega
  have hfm:bs0++pre.flatMap vi++vi z=bs0++(pre++[z]).flatMap vi:=by rw [List.flatMap_append]; simp
  rw [List.length_cons,q7y]
  simp only [qdz,wd, wa,c1]
  refine g.one (qaq hg) ?_
  simp only [wd, wa]
  refine wv (hns z hzm) w q2v λ u h2 S2 f2 w2 s2=>?_
  simp only [wd, wa,e6]
  exact ih (pre++[z]) h2 S2 (by simpa using he) f2 (st.trans s2) (o.sl g s2) (o.step s2) (by rw [← hfm]; exact w2)
theorem q0fz {r:Value} {s:LS} {S A:List Nat} {W:Nat} (m:Lv w0 h r s S A) (ok:LOk s W) (hW:W≤1048576) (hman:(q2q s).length≤1048576):
  qf prog w0 qik [r] h λ v h'=>∃ S',Vec w0 h' 1 v (frame 77 (q2q s)).length (bvs (frame 77 (q2q s))) S'∧Step h h' [] S':=by
 refine qf.of_fit (by simpa using m.nj) λ f=>q056 (by simpa using m.nj) ?_
 simp only [qij]
 refine qq (q72 m) λ v h1 ⟨e,e'⟩ f1=>?_
 subst e
 subst h1
 have hnum:=ok.num
 have hlv:=ok.len
 have hla:=q7b s.lv
 have hrl:(q0x s.lv).length=q0o s.lv:=by unfold q0x; rw [List.length_take,List.length_map,hlv]; omega
 have hmB:q2q s=[s.bl,s.fan,s.top,(q0x s.lv).length].flatMap vi++(s.lv.take (q0o s.lv)).flatMap (lvB s.bl):=by
  unfold q2q
  simp [List.append_assoc]
 simp only [wd, wa]
 refine qq (qfd 1048576 (by omega)) λ wp h2 ⟨e,w2,s2⟩ f2=>?_
 subst e
 have w2':WB w0 h2 h.next [] [h.next]:=w2
 have m2:=m.step0 s2
 refine qq (qgn m2) λ v50 h3 ⟨S3,g3,d3,s3⟩ f3=>?_
 have w3:=w2'.frame s3 (by simp)
 obtain ⟨q,mp,M,sls,a1,a2,a3,a4,a5,a6,a7,a8,a9,b1,b2,b3⟩:=m
 subst a1
 have st3:Step h h3 [] []:=(s2.less (T:=[]) (by simp)).trans (s3.less (by simp))
 have bq3:h3.blk q=some (q0m s++mp :: sls):=by rw [(st3.keep q a8 (by simp)).1]; exact a2
 have n2:h.next < h2.next:=(s2.own h.next (by simp)).1
 have n3:=s3.1
 simp only [ptr,wd, wa]
 refine qj a7 bq3 rfl ?_
 refine qj a7 bq3 rfl ?_
 refine qj a7 bq3 rfl ?_
 simp only [g3.lenv,wd, wa,q3s,q28,q1u,show q00 [(.int .i64 0:Value)] 4=[.int .i64 0,.int .i64 0,.int .i64 0,.int .i64 0] from rfl,List.set_cons_zero,List.set_cons_succ]
 refine ⟨rfl,by simp,rfl,by simp,rfl,by simp,rfl,by simp,?_⟩
 have s4:Step h3 (h3.new (inV [s.bl,s.fan,s.top,(q0x s.lv).length]) 1) [] [h3.next]:=(Step.refl h3 [] (by simp)).new _ _
 have g4:Sl w0 (h3.new (inV [s.bl,s.fan,s.top,(q0x s.lv).length]) 1) 1 (.slice (some ⟨h3.next,0,none⟩) 4 4) 4 (inV [s.bl,s.fan,s.top,(q0x s.lv).length]):=⟨_,_,rfl,q3h f3.base rfl,rfl,.inl ⟨by decide,Nat.le_refl _⟩⟩
 have f4:Fit w0 (h3.new (inV [s.bl,s.fan,s.top,(q0x s.lv).length]) 1):=f3.new (by simp [inV,qv])
 have n4:(h3.new (inV [s.bl,s.fan,s.top,(q0x s.lv).length]) 1).next=h3.next + 1:=rfl
 show qih _ _ _ _ _ _ _ _ _ (h3.new (inV [s.bl,s.fan,s.top,(q0x s.lv).length]) 1)
 have w4:=w3.frame s4 (by simp)
 have g34:=g3.step f3 s4 (by simp)
 generalize h3.new (inV [s.bl,s.fan,s.top,(q0x s.lv).length]) 1=h4 at *
 have st4:Step h h4 [] [h.next]:=(s2.trans (s3.wide (T:=[h.next]) (T':=[h.next]) (by simp) (λ b hb=>.inr ⟨hb,by simp at hb; omega⟩))).trans (s4.wide (T:=[h.next]) (T':=[h.next]) (by simp) (λ b hb=>.inr ⟨hb,by simp at hb; omega⟩))
 have hS3:∀ b,b∈S3→h2.next≤b∧b < h3.next:=λ b hb=>⟨by rcases (s3.own b hb).2 with w | w; simp at w; exact w,(s3.own b hb).1⟩
 have o4:Off h4 (.slice (some ⟨h3.next,0,none⟩) 4 4) [h.next]:=λ b hb=>by
  simp [q0z] at hb
  subst hb
  exact ⟨by omega,by simp; omega⟩
 have o50:Off h4 v50 [h.next]:=λ b hb=>by
  have:=hS3 b (d3 b hb)
  exact ⟨by omega,by simp; omega⟩
 rw [hmB] at hman
 refine ⟨4 + 1,q0i9 (hh:=h4) (Ss:=[h.next]) (bs0:=[]) (ns:=[s.bl,s.fan,s.top,(q0x s.lv).length]) (by simp) (λ n hn=>?_) ?_ (λ h5 S5 f5 s5 w5=>?_) [s.bl,s.fan,s.top,(q0x s.lv).length] [] h4 [h.next] rfl f4 (.refl _ _ (by simp; omega)) g4 o4 w4⟩
 ·simp at hn
  rcases hn with rfl | rfl | rfl | rfl <;> omega
 ·rw [List.length_append] at hman
  simp only [List.nil_append]
  omega
 ·have g5:=o50.sl g34 s5
  have o5:=o50.step s5
  have st5:=st4.trans s5
  simp only [g5.lenv,wd, wa]
  refine ⟨q0o s.lv + 1,q0nh (hh:=h) (M:=M) (bs0:=[s.bl,s.fan,s.top,(q0x s.lv).length].flatMap vi) f a7 a8 a2 b3 a3 a9 ok hW hman (λ h6 S6 f6 st6 w6=>?_) (q0o s.lv) 0 h5 S5 (by omega) f5 st5 g5 o5 (by simpa using w5)⟩
  refine qq (qad w6) λ u h7 ⟨e,e'⟩ f7=>?_
  subst e
  subst h7
  rw [← hmB] at hman ⊢
  have hout:(⟨1048576,q2q s,false⟩:WS).out=q2q s:=rfl
  rw [hout]
  simp only [wd, wa]
  refine qq (q0hu 77 (by omega) (q2q s) (by omega)) λ u h7 ⟨e,s7⟩ f7=>?_
  rw [if_neg (by omega)] at e
  subst e
  simp only [wd, wa]
  have hfl:(frame 77 (q2q s)).length≤2000000:=by
   simp only [frame,q2o,List.length_append,q6c,List.length_cons,List.length_nil]
   omega
  refine ⟨_,rfl,?_,?_⟩
  ·rw [q1v]; omega
  ·simp only [qu,q06]
   refine ⟨by simp [junk],[h7.next],?_,?_⟩
   ·rw [q1v]
    exact .inr ⟨h7.next,rfl,rfl,f7.base,by simp,by simp [qmv],by simp,by simp⟩
   ·exact ((st6.less (T:=[]) (by simp)).trans s7).new _ _
end
section
variable {w0:World} {h h':Hp}
structure LI (w0:World) (hh:Hp) (q rp:Nat) (mp:Value) (M:List Nat) (s:LS) (sls:List Value) (lvd:List (List (List Ent))) (i:Nat) (h1:Hp) (vc:Value) (U:List Nat) (ps:List (Value × List Ent)) (A:List Nat):Prop where
 st:Step hh h1 [] []
 bq:h1.blk q=some (q0m s++mp :: sls.set i vc)
 me:Me w0 h1 mp [] M
 vec:Vec w0 h1 1 vc ps.length (ps.map (·.1)) U
 runs:∀ p:Value × List Ent,p∈ps→∃ S,Rb w0 h1 p.1 p.2 s.bl S∧∀ b,b∈S→b∈A
 oth:∀ (j:Nat) v,j≠i→sls[j]?=some v→Lvl w0 h1 A s.bl v (lvd.getD j [])
 ltA:∀ b,b∈A→hh.next≤b∧b < h1.next
 geq:hh.next≤q∧q < h1.next∧∀ b,b∈M→hh.next≤b
 geU:∀ b,b∈U→hh.next≤b
 d1:q∉M∧q∉U∧q∉A∧q≠rp
 d2:∀ b,b∈M→b∉U∧b∉A∧b≠rp
 d3:∀ b,b∈U→b∉A∧b≠rp
 d4:rp∉A∧hh.next≤rp
theorem LI.frame {hh:Hp} {q rp i:Nat} {mp vc:Value} {M U A:List Nat} {s:LS} {sls:List Value} {lvd:List (List (List Ent))} {ps:List (Value × List Ent)} (l:LI w0 hh q rp mp M s sls lvd i h vc U ps A) {T T':List Nat} (st:Step h h' T T') (hT:∀ b,b∈T→b=rp):LI w0 hh q rp mp M s sls lvd i h' vc U ps A:=by
 obtain ⟨a1,a2,a3,a4,a5,a6,a7,a8,a9,b1,b2,b3,b4⟩:=l
 have n:=st.1
 have nA:∀ b,b∈A→b∉T:=λ b hb w=>b4.1 (by rw [← hT b w]; exact hb)
 refine ⟨?_,by rw [(st.keep q a8.2.1 (λ w=>b1.2.2.2 (hT q w))).1]; exact a2,a3.frame st (λ b hb w=>(b2 b hb).2.2 (hT b w)),a4.frame st (λ b hb w=>(b3 b hb).2 (hT b w)),λ p hp=>?_,λ j v hj hv=>(a6 j v hj hv).frame (λ b hb=>(a7 b hb).2) st nA,λ b hb=>⟨(a7 b hb).1,by have:=(a7 b hb).2; omega⟩,⟨a8.1,by omega,a8.2.2⟩,a9,b1,b2,b3,b4⟩
 ·refine ⟨Nat.le_trans a1.1 n,λ b hb _=>?_,by simp,?_⟩
  ·have k1:=a1.keep b hb (by simp)
   have k2:=st.keep b (Nat.lt_of_lt_of_le hb a1.1) (λ w=>by have:=hT b w; have:=b4.2; omega)
   exact ⟨k2.1.trans k1.1,k2.2.trans k1.2⟩
  ·rw [st.lp,a1.lp]
 ·obtain ⟨S,r,hS⟩:=a5 p hp
  exact ⟨S,r.frame st (λ b hb=>nA b (hS b hb)),hS⟩
end
end Go.Proofs.YtfmoemconapmhaaGreat.Ah
