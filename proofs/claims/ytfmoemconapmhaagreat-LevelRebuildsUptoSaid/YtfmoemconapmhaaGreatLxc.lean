/- level.newest, Get, Runs. -/
import Derived.Test.YtfmoemconapmhaaGreatLxb
set_option linter.all false
namespace Go.Proofs.YtfmoemconapmhaaGreat.Ah
open Go
theorem qn7 (o:Option Ent):(eo o).all q2d=false:=by cases o <;> rfl
theorem qn6 (o:Option Ent):(eo o).length=3:=by cases o <;> rfl
section
variable {w0:World} {h h':Hp}
theorem q0ic {k2 kr:Value→Value→Value→Value→Value→Hp→Prop} {x5 x28 x29 v:Value} {k:Key} {p bl:Nat} {A:List Nat} {ps:List (Value × List Ent)} (hsl:Sl w0 h 1 v ps.length (ps.map (·.1))) (hA:∀ b,b∈A→b < h.next) (hsb:∀ b,b∈q0z v→b∈A)
  (hpr:∀ q:Value × List Ent,q∈ps→∃ S,Rb w0 h q.1 q.2 bl S∧∀ b,b∈S→b∈A) (fh:Fit w0 h) (hp:h.next≤p) (hl:ps.length≤1000000)
  (hk:look (ps.map (·.2)) k=none→∀ h1,Step h h1 [] []→h1.blk p=some zE→p < h1.next→k2 (.string (str k)) (ptr p) x5 x28 x29 h1)
  (hr:∀ x,look (ps.map (·.2)) k=some x→∀ h1,Step h h1 [] []→h1.blk p=some (ee x)→kr (.string (str k)) (ptr p) (.bool true) x28 x29 h1):
  ∀ (post pre:List (Value × List Ent)) (h1:Hp),pre++post=ps→look (pre.map (·.2)) k=none→Step h h1 [] []→h1.blk p=some zE→p < h1.next→
   q81 prog w0 k2 kr (post.length + 1) (.string (str k)) (ptr p) x5 x28 x29 v (.int .i64 (ps.length:Int)) (.int .i64 (pre.length:Int)) h1:=by
 intro post
 induction post with
 | nil=>
  intro pre h1 he hn st bp lp
  have hpre:pre=ps:=by simpa using he
  subst hpre
  rw [List.length_nil,q81]
  simp only [qe4,wd, wa,Int.lt_irrefl,decide_false]
  exact hk hn h1 st bp lp
 | cons z post ih=>
  intro pre h1 he hn st bp lp
  have hlen:pre.length + (post.length + 1)=ps.length:=by rw [← he]; simp
  have hg:(ps.map (·.1))[pre.length]?=some z.1:=by rw [← he]; simp
  have hzm:z∈ps:=by rw [← he]; simp
  have c1:decide ((pre.length:Int) < (ps.length:Int))=true:=decide_eq_true (by omega)
  have e6:=wrS pre z (by omega)
  obtain ⟨S,mr,hS⟩:=hpr z hzm
  have v1:Sl w0 h1 1 v ps.length (ps.map (·.1)):=hsl.stepL (λ b hb=>hA b (hsb b hb)) st (by simp)
  obtain ⟨n1,S1,r1,-⟩:=(mr.frame st (by simp)).rn
  rw [List.length_cons,q81]
  simp only [qe4,wd, wa,c1]
  refine v1.one hg ?_
  refine qq (q0k4 r1 k) λ u h2 ⟨e,s2⟩ f2=>?_
  subst e
  simp only [wd, wa]
  have fb:w0.heap.size≤h2.next:=f2.base
  have bp2:h2.blk p=some zE:=by rw [(s2.keep p lp (by simp)).1]; exact bp
  have hn2:=s2.1
  refine q2f (e:=eo (q11 z.2 k)) fb rfl (qn6 _) q2b ?_ (qn7 _)
  have sx:Step h2 (h2.new (eo (q11 z.2 k)) 3) [] [h2.next]:=(Step.refl h2 [] (by simp)).new _ _
  have bx:(h2.new (eo (q11 z.2 k)) 3).blk h2.next=some (eo (q11 z.2 k)):=by simp
  have bp3:(h2.new (eo (q11 z.2 k)) 3).blk p=some zE:=by rw [(sx.keep p (by omega) (by simp)).1]; exact bp2
  have st3:Step h (h2.new (eo (q11 z.2 k)) 3) [] []:=(st.trans s2).trans (sx.less (by simp))
  have lp3:p < (h2.new (eo (q11 z.2 k)) 3).next:=by simp; omega
  generalize h2.new (eo (q11 z.2 k)) 3=h3 at *
  have hlk:look (ps.map (·.2)) k=(q11 z.2 k).or (look (post.map (·.2)) k):=by
   rw [← he,List.map_append,qbz,hn,List.map_cons,qaf]
   simp
  cases hgz:q11 z.2 k with
  | some x=>
   rw [hgz] at bx hlk
   simp only [Option.isSome_some,wd, wa]
   refine q16 fb bx rfl ?_
   refine q4l (e:=ee x) (Nat.le_trans fh.base hp) bp3 rfl rfl ?_
   refine hr x (by simpa using hlk) _ ?_ (by simp)
   exact ⟨st3.1,λ b hb hs=>by
    obtain ⟨q1,q2⟩:=st3.keep b hb hs
    exact ⟨by rw [q17,if_neg (by omega)]; exact q1,q2⟩,by simp,st3.lp⟩
  | none=>
   simp only [Option.isSome_none,wd, wa,e6]
   refine ih (pre++[z]) h3 (by simpa using he) ?_ st3 bp3 lp3
   rw [List.map_append,qbz,hn]
   simp [qaf,qy0,hgz]
theorem q0gm {k0 kr:Value→Value→Hp→Prop} {k:Key} {p:Nat} {A:List Nat} {s:LS} {sls:List Value} (b3:∀ (i:Nat) v,sls[i]?=some v→Lvl w0 h A s.bl v (s.lv.getD i [])) (hl3:sls.length=16) (hlv:s.lv.length=16) (hll:∀ i,(s.lv.getD i []).length≤1000000)
  (hA:∀ b,b∈A→b < h.next) (fh:Fit w0 h) (hp:h.next≤p)
  (hk:look s.lv.flatten k=none→∀ h1,Step h h1 [] []→h1.blk p=some zE→p < h1.next→k0 (ptr p) (.bool false) h1)
  (hr:∀ x,look s.lv.flatten k=some x→∀ h1,Step h h1 [] []→h1.blk p=some (ee x)→kr (ptr p) (.bool true) h1):∀ (m i:Nat) (h1:Hp),i + m=16→look (s.lv.take i).flatten k=none→Step h h1 [] []→h1.blk p=some zE→p < h1.next→
   q82 prog w0 k0 kr (m + 1) (.string (str k)) (ptr p) (.bool false) (.agg sls.toArray) (.int .i64 (i:Int)) h1:=by
 intro m
 induction m with
 | zero=>
  intro i h1 hi hn st bp lp
  have:i=16:=by omega
  subst this
  rw [List.take_of_length_le (by omega)] at hn
  have c1:decide (((16:Nat):Int) < 16)=false:=rfl
  rw [q82]
  simp only [qbc,wd, wa,c1]
  exact hk hn h1 st bp lp
 | succ m ih=>
  intro i h1 hi hn st bp lp
  obtain ⟨v,hv⟩:=q5k hl3 (i:=i) (by omega)
  obtain ⟨ps,ep,hsl,hsb,hpr⟩:=b3 i v hv
  have c1:decide ((i:Int) < 16)=true:=decide_eq_true (by omega)
  have e6:=wrN i (by omega)
  have hpl:ps.length≤1000000:=by have:=hll i; rw [ep,List.length_map] at this; exact this
  have hti:s.lv.take (i + 1)=s.lv.take i++[s.lv.getD i []]:=by
   rw [List.take_add_one,List.getElem?_eq_getElem (by omega),List.getD_eq_getElem?_getD,List.getElem?_eq_getElem (by omega)]
   rfl
  have hsplit:look s.lv.flatten k=(look (s.lv.getD i []) k).or (look (s.lv.drop (i + 1)).flatten k):=by
   have e0:s.lv=s.lv.take (i + 1)++s.lv.drop (i + 1):=(List.take_append_drop _ _).symm
   conv=>lhs; rw [e0]
   rw [List.flatten_append,qbz,hti,List.flatten_append,qbz,hn]
   simp
  rw [ep] at hsplit
  rw [q82]
  simp only [qbc,wd, wa,c1,qcb hl3 hv,hsl.lenv]
  refine ⟨ps.length + 1,q0ic (h:=h) (p:=p) (bl:=s.bl) hsl hA hsb hpr fh hp hpl (λ hn2 h2 st2 bp2 lp2=>?_) (λ x hx h2 st2 bp2=>?_) ps [] h1 rfl rfl st bp lp⟩
  ·simp only [e6,wd, wa]
   refine ih (i + 1) h2 (by omega) ?_ st2 bp2 lp2
   rw [hti,List.flatten_append,qbz,hn,ep]
   simpa using hn2
  ·exact hr x (by rw [hsplit,hx]; rfl) h2 st2 bp2
theorem q0f5 {r:Value} {s:LS} {S A:List Nat} (m:Lv w0 h r s S A) (hll:∀ i,(s.lv.getD i []).length≤1000000) (k:Key):
  qf prog w0 qiv [r,.string (str k)] h λ v h'=>v=.tuple #[.agg (eo (look s.lists k)).toArray,.bool (look s.lists k).isSome]∧Step h h' [] []:=by
 refine qf.of_fit (by simpa using m.nj) λ f=>q062 (by simpa using m.nj) ?_
 obtain ⟨q,mp,M,sls,a1,a2,a3,a4,a5,a6,a7,a8,a9,b1,b2,b3⟩:=m
 subst a1
 have fb:=f.base
 simp only [qit,q2t,ptr]
 refine ⟨q2b,?_⟩
 have s1:Step h (h.new zE 3) [] [h.next]:=(Step.refl h [] (by simp)).new _ _
 have b1':(h.new zE 3).blk h.next=some zE:=by simp
 have n1:h.next < (h.new zE 3).next:=by simp
 show q02 _ _ (h.new zE 3)
 generalize h.new zE 3=h1 at *
 have st1:Step h h1 [] []:=s1.less (by simp)
 have bq1:h1.blk q=some (q0m s++mp :: sls):=by rw [(st1.keep q a8 (by simp)).1]; exact a2
 simp only [wd, wa]
 refine qj a7 bq1 rfl ?_
 have hlists:look s.lists k=(q11 s.mem k).or (look s.lv.flatten k):=by unfold LS.lists; rw [qaf]
 refine qq (q0o0 (a4.frame st1 (by simp)) k) λ u h2 ⟨e,s2⟩ f2=>?_
 subst e
 simp only [wd, wa]
 have fb2:w0.heap.size≤h2.next:=f2.base
 have hn2:=s2.1
 have bp2:h2.blk h.next=some zE:=by rw [(s2.keep _ n1 (by simp)).1]; exact b1'
 show q0u zE 3 (λ b=>q0k w0 b (.agg (eo (q11 s.mem k)).toArray) 3 λ _=>_) h2
 refine q2f (e:=eo (q11 s.mem k)) fb2 rfl (qn6 _) q2b ?_ (qn7 _)
 have sx:Step h2 (h2.new (eo (q11 s.mem k)) 3) [] [h2.next]:=(Step.refl h2 [] (by simp)).new _ _
 have bx:(h2.new (eo (q11 s.mem k)) 3).blk h2.next=some (eo (q11 s.mem k)):=by simp
 have bp3:(h2.new (eo (q11 s.mem k)) 3).blk h.next=some zE:=by rw [(sx.keep _ (by omega) (by simp)).1]; exact bp2
 have st3:Step h (h2.new (eo (q11 s.mem k)) 3) [] []:=(st1.trans s2).trans (sx.less (by simp))
 have lp3:h.next < (h2.new (eo (q11 s.mem k)) 3).next:=by simp; omega
 generalize h2.new (eo (q11 s.mem k)) 3=h3 at *
 have fin:∀ o b h4,Step h h4 [] []→h4.blk h.next=some (eo o)→o=look s.lists k→b=o.isSome→qo [.agg (eo o).toArray,.bool b] (λ v h'=>v=.tuple #[.agg (eo (look s.lists k)).toArray,.bool (look s.lists k).isSome]∧Step h h' [] []) h4:=λ o b h4 st _ e1 e2=>by
  subst e1 e2
  simp only [qu,q19]
  exact ⟨by simp,trivial,st⟩
 have stp:∀ h4 c,Step h h4 [] []→Step h (h4.put h.next c) [] []:=λ h4 c st=>⟨st.1,λ b hb hs=>by
  obtain ⟨q1,q2⟩:=st.keep b hb hs
  exact ⟨by rw [q17,if_neg (by omega)]; exact q1,q2⟩,by simp,st.lp⟩
 cases hgm:q11 s.mem k with
 | some x=>
  rw [hgm] at bx hlists
  simp only [Option.isSome_some,wd, wa]
  refine q16 fb2 bx rfl ?_
  refine q4l (e:=ee x) fb bp3 rfl rfl ?_
  refine q16 (cs:=ee x) fb (by simp) rfl ?_
  exact fin (some x) true _ (stp _ _ st3) (by simp [eo]) (by rw [hlists]; rfl) rfl
 | none=>
  rw [hgm] at hlists
  have hl0:look s.lists k=look s.lv.flatten k:=by rw [hlists]; rfl
  simp only [Option.isSome_none,wd, wa]
  have bq3:h3.blk q=some (q0m s++mp :: sls):=by rw [(st3.keep q a8 (by simp)).1]; exact a2
  refine q9a (e:=sls) a7 bq3 ?_ ?_
  ·rw [if_pos (by rw [q55]; omega)]
   show (sls:List Value).take 16=sls
   exact List.take_of_length_le (by omega)
  refine ⟨16 + 1,q0gm (h:=h) (p:=h.next) (A:=A) b3 a3 b2 hll a9 f (Nat.le_refl _) (λ hn h4 st4 bp4 lp4=>?_) (λ x hx h4 st4 bp4=>?_) 16 0 h3 rfl rfl st3 bp3 lp3⟩
  ·simp only [q2w,q1u]
   refine q4l (e:=zE) fb bp4 rfl rfl ?_
   refine q16 (cs:=zE) fb (by simp) rfl ?_
   exact fin none false _ (stp _ _ st4) (by simp [eo]) (by rw [hl0,hn]) rfl
  ·refine q16 fb bp4 rfl ?_
   exact fin (some x) true _ st4 (by simpa [eo] using bp4) (by rw [hl0,hx]) rfl
def vOf (o:Option Ent):Key:=match o with | some x=>x.v | none=>[]
def gOf (o:Option Ent):Bool:=match o with | some x=>!x.g | none=>false
theorem q003 {r:Value} {s:LS} {S A:List Nat} (m:Lv w0 h r s S A) (hll:∀ i,(s.lv.getD i []).length≤1000000) (k:Key):
  qf prog w0 qes [r,.string (str k)] h λ v h'=>v=.tuple #[.string (str (vOf (look s.lists k))),.bool (gOf (look s.lists k))]∧Step h h' [] []:=by
 refine qf.of_fit (by simpa using m.nj) λ f=>q08q (by simpa using m.nj) ?_
 simp only [qsi]
 refine qq (q72 m) λ v h1 ⟨e,e'⟩ f1=>?_
 subst e
 subst h1
 simp only [wd, wa]
 refine qq (q0f5 m hll k) λ v h2 ⟨e,s2⟩ f2=>?_
 subst e
 simp only [wd, wa]
 have fb2:w0.heap.size≤h2.next:=f2.base
 refine q2f (e:=eo (look s.lists k)) fb2 rfl (qn6 _) q2b ?_ (qn7 _)
 have sx:Step h2 (h2.new (eo (look s.lists k)) 3) [] [h2.next]:=(Step.refl h2 [] (by simp)).new _ _
 have bx:(h2.new (eo (look s.lists k)) 3).blk h2.next=some (eo (look s.lists k)):=by simp
 have st3:Step h (h2.new (eo (look s.lists k)) 3) [] []:=s2.trans (sx.less (by simp))
 generalize h2.new (eo (look s.lists k)) 3=h3 at *
 cases hlk:look s.lists k with
 | none=>
  rw [hlk] at bx
  simp only [wd, wa]
  refine qj (v:=.string (str [])) fb2 bx rfl ?_
  simp only [Option.isSome_none,wd, wa,qu,q19]
  exact ⟨by simp,rfl,st3⟩
 | some x=>
  rw [hlk] at bx
  simp only [wd, wa]
  refine qj (v:=.string (str x.v)) fb2 bx rfl ?_
  simp only [Option.isSome_some,wd, wa]
  refine qj (v:=.bool x.g) fb2 bx rfl ?_
  simp only [wd, wa,qu,q19]
  exact ⟨by simp,rfl,st3⟩
end
theorem qwo {α:Type} (r:List α):∀ a:List (List α),q0o (a++[r])=if r≠[] then a.length + 1 else q0o a
 | []=>by
  simp only [List.nil_append,q0o]
  by_cases h:r=[] <;> simp [h]
 | x :: a=>by
  have ih:=qwo r a
  simp only [List.cons_append,q0o,ih,List.length_cons]
  by_cases h:r=[]
  ·simp [h]
  ·simp [h]
theorem q7b {α:Type}:∀ a:List (List α),q0o a≤a.length
 | []=>Nat.le_refl _
 | x :: a=>by
  have:=q7b a
  simp only [q0o,List.length_cons]
  split
  ·omega
  ·split <;> omega
def inV (l:List Nat):List Value:=l.map λ n:Nat=>.int .i64 (n:Int)
theorem qwe (a b:List Nat):inV (a++b)=inV a++inV b:=by simp [inV]
section
variable {w0:World} {h h':Hp}
theorem q0js {k0:Value→Value→Hp→Prop} {lv:List (List (List Ent))} {sls:List Value} (hl3:sls.length=16) (hlv:lv.length=16) (hv:∀ (i:Nat) v,sls[i]?=some v→q05 v=some (.int .i64 ((lv.getD i []).length:Int))) (fh:Fit w0 h)
  (hk:∀ h1 x S,Step h h1 [] S→Vec w0 h1 1 x 16 (inV (lv.map List.length)) S→k0 x (.int .i64 (q0o lv:Int)) h1):∀ (m i:Nat) (h1:Hp) (x:Value) (S:List Nat),i + m=16→Step h h1 [] S→Vec w0 h1 1 x i (inV ((lv.take i).map List.length)) S→
   q8d prog w0 k0 (m + 1) x (.int .i64 (q0o (lv.take i):Int)) (.agg sls.toArray) (.int .i64 (i:Int)) h1:=by
 intro m
 induction m with
 | zero=>
  intro i h1 x S hi st g
  have:i=16:=by omega
  subst this
  rw [List.take_of_length_le (by omega)] at g ⊢
  have c1:decide (((16:Nat):Int) < 16)=false:=rfl
  rw [q8d]
  simp only [qee,wd, wa,c1]
  exact hk h1 x S st g
 | succ m ih=>
  intro i h1 x S hi st g
  obtain ⟨v,hvi⟩:=q5k hl3 (i:=i) (by omega)
  have c1:decide ((i:Int) < 16)=true:=decide_eq_true (by omega)
  have e6:=wrN i (by omega)
  have hti:lv.take (i + 1)=lv.take i++[lv.getD i []]:=by
   rw [List.take_add_one,List.getElem?_eq_getElem (by omega),List.getD_eq_getElem?_getD,List.getElem?_eq_getElem (by omega)]
   rfl
  have htl:(lv.take i).length=i:=by rw [List.length_take]; omega
  have hls:=qwo (lv.getD i []) (lv.take i)
  rw [← hti,htl] at hls
  rw [q8d]
  simp only [qee,wd, wa,c1,qcb hl3 hvi,hv i v hvi]
  have fb:w0.heap.size≤h1.next:=Nat.le_trans fh.base st.1
  refine q79 fb g.gv rfl (by omega) (by omega) λ x' h2 S2 g2 s2=>?_
  have e2:inV ((lv.take i).map List.length)++[.int .i64 ((lv.getD i []).length:Int)]=inV ((lv.take (i + 1)).map List.length):=by rw [hti,List.map_append,qwe]; rfl
  rw [e2] at g2
  by_cases hr:lv.getD i []=[]
  ·have c2:decide ((0:Int) < ((lv.getD i []).length:Int))=false:=by rw [hr]; rfl
   rw [if_neg (by simpa using hr)] at hls
   simp only [c2,wd, wa,e6]
   rw [← hls]
   exact ih (i + 1) h2 x' S2 (by omega) (st.trans s2) g2
  ·have hp:=List.length_pos_iff.2 hr
   have c2:decide ((0:Int) < ((lv.getD i []).length:Int))=true:=decide_eq_true (by omega)
   rw [if_pos hr] at hls
   simp only [c2,wd, wa,e6]
   have:=ih (i + 1) h2 x' S2 (by omega) (st.trans s2) g2
   rw [hls] at this
   exact this
theorem qgn {r:Value} {s:LS} {S A:List Nat} (m:Lv w0 h r s S A):
  qf prog w0 qa2 [r] h λ v h'=>∃ S',Sl w0 h' 1 v (q0x s.lv).length (inV (q0x s.lv))∧(∀ b,b∈q0z v→b∈S')∧Step h h' [] S':=by
 refine qf.of_fit (by simpa using m.nj) λ f=>q07t (by simpa using m.nj) ?_
 simp only [qj4]
 refine qq (q72 m) λ v h1 ⟨e,e'⟩ f1=>?_
 subst e
 subst h1
 obtain ⟨q,mp,M,sls,a1,a2,a3,a4,a5,a6,a7,a8,a9,b1,b2,b3⟩:=m
 subst a1
 simp only [ptr,wd, wa]
 refine q9a (e:=sls) a7 a2 ?_ ?_
 ·rw [if_pos (by rw [q55]; omega)]
  show (sls:List Value).take 16=sls
  exact List.take_of_length_le (by omega)
 refine ⟨16 + 1,q0js (h:=h) a3 b2 (λ i v hi=>(b3 i v hi).lenv) f (λ h1 x S1 st g=>?_) 16 0 h _ [] rfl (.refl _ _ (by simp)) .nil⟩
 have hle:=q7b s.lv
 rw [b2] at hle
 have hsb:=g.sblk_eq
 refine g.sl.cutN (lo:=0) (hi:=q0o s.lv) q2s q2a (Nat.zero_le _) hle λ z hz hz2 hz3=>?_
 have hrl:(q0x s.lv).length=q0o s.lv:=by unfold q0x; rw [List.length_take,List.length_map,b2]; omega
 have hrv:inV (q0x s.lv)=((inV (s.lv.map List.length)).take (q0o s.lv * 1)).drop (0 * 1):=by
  unfold q0x inV
  rw [List.map_take]
  simp
 simp only [qu,q06]
 refine ⟨by simpa using hz3.junk,S1,?_,λ b hb=>by rw [hz2,hsb] at hb; exact hb,st⟩
 rw [hrl,hrv]
 exact hz3
theorem qwa (r:Value) (hr:r≠junk) (hrc:qv r=true) (a b:Key):qf prog w0 qej [r,.string (str a),.string (str b)] h λ v h'=>∃ q1 q2 q3,v=.func (.func qa0) #[] #[ptr q1,ptr q2,ptr q3]∧
  h'.blk q1=some [r]∧h'.blk q2=some [.string (str a)]∧h'.blk q3=some [.string (str b)]∧h.next≤q1∧h.next≤q2∧h.next≤q3∧q1 < h'.next∧q2 < h'.next∧q3 < h'.next∧Step h h' [] []:=by
 refine qf.of_fit (by simp [hr]) λ f=>q08a (by simp [hr]) ?_
 simp only [qsb]
 refine ⟨hrc,rfl,rfl,by simp [junk],?_⟩
 have st:Step h (((h.new [r] 1).new [.string (str a)] 1).new [.string (str b)] 1) [] []:=((((Step.refl h [] (by simp)).new _ _).new _ _).new _ _).less (by simp)
 simp only [qu,q06]
 refine ⟨by simp [junk],h.next,h.next + 1,h.next + 2,rfl,by simp; intro e; omega,by simp <;> omega,by simp <;> omega,by omega,by omega,by omega,by simp <;> omega,by simp <;> omega,by simp <;> omega,st⟩
end
end Go.Proofs.YtfmoemconapmhaaGreat.Ah
