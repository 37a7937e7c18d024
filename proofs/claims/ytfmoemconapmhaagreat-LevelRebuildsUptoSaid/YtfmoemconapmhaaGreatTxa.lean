/- The document's levels: what is read; Runs. -/
import Derived.Test.YtfmoemconapmhaaGreatRxa
set_option linter.all false
namespace Go.Proofs.YtfmoemconapmhaaGreat.Ah
open Go
def q9t (lv:List (List (List Ent))):Bool:=lv.any λ r=>decide (r≠[])
theorem qlu (r:List (List Ent)) (t:List (List (List Ent))):q9t (r :: t)=(decide (r≠[]) || q9t t):=rfl
theorem qwu {α:Type} (r:List α) (t:List (List α)):q0o (r :: t)=if q0o t≠0 then q0o t + 1 else if r≠[] then 1 else 0:=rfl
theorem qm0:∀ (lv:List (List (List Ent))) (i:Nat),q9t (lv.drop i)=decide (i < q0o lv)
 | [],i=>by simp [q9t,q0o]
 | r :: t,0=>by
  have h:=qm0 t 0
  rw [List.drop_zero] at h ⊢
  rw [qlu,h,qwu]
  by_cases h1:q0o t=0
  ·by_cases h2:r=[]
   ·simp [h1,h2]
   ·simp [h1,h2]
  ·rw [if_pos h1,decide_eq_true (Nat.pos_of_ne_zero h1),Bool.or_true]
   simp
 | r :: t,i + 1=>by
  have h:=qm0 t i
  rw [List.drop_succ_cons,h,qwu]
  by_cases h1:q0o t=0
  ·rw [if_neg (by simpa using h1),h1]
   split <;> simp
  ·rw [if_pos h1]
   simp
theorem qlt {lv:List (List (List Ent))} {i:Nat} (h:i < lv.length):lv.drop i=lv.getD i [] :: lv.drop (i + 1):=by
 rw [List.drop_eq_getElem_cons h,List.getD_eq_getElem?_getD,List.getElem?_eq_getElem h]
 rfl
section
variable {w0:World} {h h':Hp}
theorem Rv.read {r:Value} {s:LS} {S A:List Nat} (m:Rv w0 h r s S A):∃ q vm va us,r=.pointer (some ⟨q,0,none⟩)∧w0.heap.size≤q∧q < h.next∧h.blk q=some (q0m s++[vm,va])∧Es w0 h vm s.mem∧Sl w0 h 1 va 16 us∧us.length=16∧(∀ (i:Nat) v,us[i]?=some v→q3c w0 h A v (s.lv.getD i []))∧s.lv.length=16:=by
 obtain ⟨q,qa,c,vm,us,a1,a2,a3,a4,a5,a6,a7,a8,a9,b1,b2,b3,b4,b5,b6,b7,b8,b9⟩:=m
 refine ⟨q,vm,_,us,a1,a7,a8,a2,b5,⟨_,c,rfl,q96 a9 a3 (by omega),by omega,?_⟩,a4,b7,b4⟩
 rcases b9 with w | w
 ·exact .inl w
 ·exact .inr ⟨w,_,rfl,b8,us,a3⟩
theorem q0jb {k0 kr:Value→Hp→Prop} {q:Nat} {x4 vm va:Value} {us:List Value} {lv:List (List (List Ent))} {nums:List Value} (hn:nums.length=3) (hq:w0.heap.size≤q) (hb:h.blk q=some (nums++[vm,va])) (sv:Sl w0 h 1 va 16 us) (hu:us.length=16) (hlv:lv.length=16) (hlen:∀ (i:Nat) v,us[i]?=some v→q05 v=some (.int .i64 ((lv.getD i []).length:Int))):
  ∀ (m j:Nat),j + m=16→(q9t (lv.drop j)=true→kr (.bool true) h)→(q9t (lv.drop j)=false→k0 x4 h)→q7s prog w0 k0 kr (m + 1) (.pointer (some ⟨q,0,none⟩)) x4 (.int .i64 (j:Int)) h:=by
 intro m
 induction m with
 | zero=>
  intro j hj ht hf
  have:j=16:=by omega
  subst this
  rw [q7s]
  simp only [qds,wd, wa,show decide (((16:Nat):Int) < 16)=false from rfl]
  exact hf (by rw [List.drop_of_length_le (by omega)]; rfl)
 | succ m ih=>
  intro j hj ht hf
  have c1:decide ((j:Int) < 16)=true:=decide_eq_true (by omega)
  have e6:=wrN j (by omega)
  rw [qlt (by omega),qlu] at ht hf
  rw [q7s]
  simp only [qds,wd, wa,c1]
  refine qj hq hb (v:=va) (by rw [List.getElem?_append_right (by omega),hn]; rfl) ?_
  obtain ⟨v,hv⟩:∃ v,us[j]?=some v:=⟨us[j]'(by omega),by simp⟩
  refine sv.one hv ?_
  simp only [hlen j v hv,wd, wa]
  by_cases hr:lv.getD j []=[]
  ·have c2:decide ((0:Int) < ((lv.getD j []).length:Int))=false:=by rw [hr]; rfl
   simp only [c2,wd, wa,e6]
   rw [hr] at ht hf
   exact ih (j + 1) (by omega) (by simpa using ht) (by simpa using hf)
  ·have hp:=List.length_pos_iff.2 hr
   have c2:decide ((0:Int) < ((lv.getD j []).length:Int))=true:=decide_eq_true (by omega)
   simp only [c2,wd, wa]
   exact ht (by rw [decide_eq_true hr]; rfl)
theorem q0e5 {r:Value} {s:LS} {S A:List Nat} (m:Rv w0 h r s S A) {i:Nat} (hi:i < 16):qf prog w0 qi7 [r,.int .i64 (i:Int)] h λ v h'=>v=.bool (q6j s.lv i)∧h'=h:=by
 refine qf.of_fit (by simpa using m.nj) λ f=>q042 (by simpa using m.nj) ?_
 obtain ⟨q,vm,va,us,e,hq,hql,hb,hem,sv,hu,hlv,hl⟩:=m.read
 subst e
 have e6:=wrN i (by omega)
 simp only [qib,wd, wa,e6]
 refine ⟨15 - i + 1,q0jb (lv:=s.lv) rfl hq hb sv hu hl (λ i v hv=>(hlv i v hv).lenv) (15 - i) (i + 1) (by omega) (λ e=>?_) (λ e=>?_)⟩
 ·have:q6j s.lv i=true:=e
  simp only [qu,q06,this]
  exact ⟨by simp,trivial,trivial⟩
 ·have:q6j s.lv i=false:=e
  simp only [qu,q06,this]
  exact ⟨by simp,trivial,trivial⟩
theorem q0gp {k0:Value→Hp→Prop} {r:Value} {s:LS} {S A:List Nat} {hh:Hp} (m0:Rv w0 hh r s S A) (f0:Fit w0 hh) (hk:∀ h1 x S1,Step hh h1 [] S1→Vec w0 h1 1 x (q0x s.lv).length (inV (q0x s.lv)) S1→k0 x h1):
  ∀ (m i:Nat) (h1:Hp) (x:Value) (S1:List Nat),i + m=16→Step hh h1 [] S1→Vec w0 h1 1 x ((s.lv.map List.length).take (min i (q0o s.lv))).length (inV ((s.lv.map List.length).take (min i (q0o s.lv)))) S1→q5y prog w0 k0 (m + 1) r x (.int .i64 (i:Int)) h1:=by
 intro m
 have hle:=q7b s.lv
 induction m with
 | zero=>
  intro i h1 x S1 hi st g
  obtain ⟨q,vm,va,us,e,hq,hql,hb,hem,sv,hu,hlv,hl⟩:=m0.read
  subst e
  have:i=16:=by omega
  subst this
  rw [q5y]
  simp only [qdw,wd, wa,show decide (((16:Nat):Int) < 16)=false from rfl]
  rw [show min 16 (q0o s.lv)=q0o s.lv by omega] at g
  exact hk h1 x S1 st g
 | succ m ih=>
  intro i h1 x S1 hi st g
  have fb1:w0.heap.size≤h1.next:=Nat.le_trans f0.base st.1
  have m1:=m0.step0 st
  obtain ⟨q,vm,va,us,e,hq,hql,hb,hem,sv,hu,hlv,hl⟩:=m1.read
  subst e
  have c1:decide ((i:Int) < 16)=true:=decide_eq_true (by omega)
  have e6:=wrN i (by omega)
  have hany:=qm0 s.lv i
  rw [qlt (by omega),qlu] at hany
  have hdp:q9t (s.lv.drop (i + 1))=q6j s.lv i:=rfl
  rw [hdp] at hany
  obtain ⟨v,hv⟩:∃ v,us[i]?=some v:=⟨us[i]'(by omega),by simp⟩
  have hti:i < q0o s.lv→(s.lv.map List.length).take (min (i + 1) (q0o s.lv))=(s.lv.map List.length).take (min i (q0o s.lv))++[(s.lv.getD i []).length]:=by
   intro hil
   rw [show min (i + 1) (q0o s.lv)=i + 1 by omega,show min i (q0o s.lv)=i by omega,List.take_add_one,List.getElem?_map,List.getElem?_eq_getElem (by omega),List.getD_eq_getElem?_getD,List.getElem?_eq_getElem (by omega)]
   rfl
  have push:i < q0o s.lv→(q0j [(0,1,false,.int .i64 ((s.lv.getD i []).length:Int))] (q00 [(.int .i64 0)] 1) 1 1 λ v32=>q0h w0 1 8 x v32 λ v33=>q5y prog w0 k0 (m + 1) (.pointer (some ⟨q,0,none⟩)) v33 (.int .i64 ((i + 1:Nat):Int))) h1:=by
   intro hil
   have hgl:((s.lv.map List.length).take (min i (q0o s.lv))).length≤16:=by simp; omega
   refine q79 fb1 g.gv rfl (by omega) (by omega) λ x' h2 S2 g2 s2=>?_
   refine ih (i + 1) h2 x' S2 (by omega) (st.trans s2) ?_
   rw [hti hil,qwe,List.length_append]
   exact g2
  have skip:¬ i < q0o s.lv→q5y prog w0 k0 (m + 1) (.pointer (some ⟨q,0,none⟩)) x (.int .i64 ((i + 1:Nat):Int)) h1:=by
   intro hil
   rw [show min i (q0o s.lv)=min (i + 1) (q0o s.lv) by omega] at g
   exact ih (i + 1) h1 x S1 (by omega) st g
  rw [q5y]
  simp only [qdw,wd, wa,c1]
  refine qj hq hb (v:=va) rfl ?_
  refine sv.one hv ?_
  simp only [(hlv i v hv).lenv,wd, wa]
  by_cases hr:s.lv.getD i []=[]
  ·have c2:decide ((0:Int) < ((s.lv.getD i []).length:Int))=false:=by rw [hr]; rfl
   simp only [c2,wd, wa]
   refine qq (q0e5 m1 (by omega)) λ w h2 ⟨e,e'⟩ f2=>?_
   subst e
   subst e'
   rw [hr] at hany
   simp only [ne_eq,not_true,decide_false,Bool.false_or] at hany
   by_cases hil:i < q0o s.lv
   ·rw [decide_eq_true hil] at hany
    simp only [hany,wd, wa,e6]
    refine qj hq hb (v:=va) rfl ?_
    refine sv.one hv ?_
    simp only [(hlv i v hv).lenv,wd, wa]
    exact push hil
   ·rw [decide_eq_false hil] at hany
    simp only [hany,wd, wa,e6]
    exact skip hil
  ·have hp:=List.length_pos_iff.2 hr
   have c2:decide ((0:Int) < ((s.lv.getD i []).length:Int))=true:=decide_eq_true (by omega)
   have hil:i < q0o s.lv:=by
    rw [decide_eq_true hr,Bool.true_or] at hany
    exact of_decide_eq_true hany.symm
   simp only [c2,wd, wa,e6]
   refine qj hq hb (v:=va) rfl ?_
   refine sv.one hv ?_
   simp only [(hlv i v hv).lenv,wd, wa]
   exact push hil
theorem qy2 {r:Value} {s:LS} {S A:List Nat} (m:Rv w0 h r s S A):
  qf prog w0 qe1 [r] h λ v h'=>∃ S',Vec w0 h' 1 v (q0x s.lv).length (inV (q0x s.lv)) S'∧Step h h' [] S':=by
 refine qf.of_fit (by simpa using m.nj) λ f=>q04j (by simpa using m.nj) ?_
 simp only [qii]
 refine ⟨16 + 1,q0gp m f (λ h1 x S1 st g=>?_) 16 0 h _ [] rfl (.refl _ _ (by simp)) (by simpa [inV] using Vec.nil)⟩
 simp only [qu,q06]
 exact ⟨by simpa using g.sl.junk,S1,g,st⟩
end
section
variable {w0:World} {h h':Hp}
theorem q0iw {k0:Value→Hp→Prop} {a b:Key} {v:Value} {l:List Ent} {hh:Hp} (hv:Es w0 hh v l) (f:Fit w0 hh) (hl:l.length≤1000000000) (hk:∀ h1 x S,Step hh h1 [] S→Vec w0 h1 3 x (rng a b l).length ((rng a b l).flatMap ee) S→k0 x h1):
  ∀ (post pre:List Ent) (h1:Hp) (x:Value) (S:List Nat),pre++post=l→Step hh h1 [] S→Vec w0 h1 3 x (rng a b pre).length ((rng a b pre).flatMap ee) S→
   q62 prog w0 k0 (post.length + 1) (.string (str a)) (.string (str b)) x v (.int .i64 (l.length:Int)) (.int .i64 (pre.length:Int)) h1:=by
 intro post
 induction post with
 | nil=>
  intro pre h1 x S he st g
  have hpre:pre=l:=by simpa using he
  subst hpre
  rw [List.length_nil,q62]
  simp only [qey,wd, wa,Int.lt_irrefl,decide_false]
  exact hk h1 x S st g
 | cons z post ih=>
  intro pre h1 x S he st g
  have hlen:pre.length + (post.length + 1)=l.length:=by rw [← he]; simp
  have hg:l[pre.length]?=some z:=by rw [← he]; simp
  have c1:decide ((pre.length:Int) < (l.length:Int))=true:=decide_eq_true (by omega)
  have e6:=wrS pre z (by omega)
  have hr1:rng a b (pre++[z])=rng a b pre++(if inR a b z=true then [z] else []):=by
   unfold rng
   rw [List.filter_append]
   congr 1
   simp [List.filter_cons]
  have hrl:=q9m a b pre
  have fb:w0.heap.size≤h1.next:=Nat.le_trans f.base st.1
  have hv1:Es w0 h1 v l:=Sl.step hv f (st.less (T:=[]) (by simp)) (by simp)
  rw [List.length_cons,q62]
  simp only [qey,wd, wa,c1]
  refine Sl.elem hv1 (by omega) (q3u hg) ?_
  refine q2f fb rfl rfl q2b ?_
  have sx:Step h1 (h1.new (ee z) 3) [] [h1.next]:=(Step.refl h1 [] (by simp)).new _ _
  have bx:(h1.new (ee z) 3).blk h1.next=some (ee z):=by simp
  have nx:h1.next < (h1.new (ee z) 3).next:=by simp
  have gx:=g.frame sx (by simp)
  have stx:Step hh (h1.new (ee z) 3) [] S:=st.trans ((sx.less (T:=[]) (by simp)).keepS λ b hb=>(g.lt b hb).2)
  have skip:inR a b z=false→q62 prog w0 k0 (post.length + 1) (.string (str a)) (.string (str b)) x v (.int .i64 (l.length:Int)) (.int .i64 (((pre++[z]).length:Nat):Int)) (h1.new (ee z) 3):=λ hf=>by
   rw [if_neg (by simp [hf]),List.append_nil] at hr1
   exact ih (pre++[z]) _ x S (by simpa using he) stx (by rw [hr1]; exact gx)
  have take:inR a b z=true→qw w0 (.pointer (some ⟨h1.next,0,none⟩)) 3 (λ v31=>q0j [(0,3,true,v31)] (q00 [(.string .empty),(.string .empty),(.bool false)] 1) 1 3 λ v32=>q0h w0 3 40 x v32 λ v33=>q62 prog w0 k0 (post.length + 1) (.string (str a)) (.string (str b)) v33 v (.int .i64 (l.length:Int)) (.int .i64 (((pre++[z]).length:Nat):Int))) (h1.new (ee z) 3):=λ ht=>by
   rw [if_pos ht] at hr1
   refine q16 fb bx rfl ?_
   refine q4a (e:=ee z) (by omega) gx.gv rfl rfl (by omega) (by omega) (by omega) λ x' h2 S2 g2 s2=>?_
   refine ih (pre++[z]) h2 x' S2 (by simpa using he) (stx.trans s2) ?_
   rw [hr1,List.length_append,List.flatMap_append]
   simpa using g2
  generalize h1.new (ee z) 3=hx at *
  simp only [wd, wa]
  refine qj fb bx rfl ?_
  rw [qb0]
  have hin:inR a b z=(!blt z.k a && (decide (b=[]) || blt z.k b)):=rfl
  cases h0:blt z.k a with
  | true=>
   rw [h0] at hin
   simp only [Bool.not_true,wd, wa,e6]
   exact skip (by rw [hin]; rfl)
  | false=>
   rw [h0] at hin
   have em:ByteArray.empty=str ([]:Key):=rfl
   simp only [Bool.not_false,wd, wa]
   rw [em,q9p]
   by_cases hb0:b=[]
   ·have c3:decide (b=[])=true:=decide_eq_true hb0
    rw [c3] at hin ⊢
    simp only [wd, wa,e6]
    exact take (by rw [hin]; rfl)
   ·have c3:decide (b=[])=false:=decide_eq_false hb0
    rw [c3] at hin ⊢
    simp only [wd, wa]
    refine qj fb bx rfl ?_
    rw [qn5]
    cases h3:blt z.k b with
    | true=>
     rw [h3] at hin
     simp only [wd, wa,e6]
     exact take (by rw [hin]; rfl)
    | false=>
     rw [h3] at hin
     simp only [wd, wa,e6]
     exact skip (by rw [hin]; rfl)
theorem q0hs {v:Value} {l:List Ent} (a b:Key) (hv:Es w0 h v l) (hl:l.length≤1000000000):
  qf prog w0 qjx [v,.string (str a),.string (str b)] h λ r h'=>∃ S',Vec w0 h' 3 r (rng a b l).length ((rng a b l).flatMap ee) S'∧Step h h' [] S':=by
 refine qf.of_fit (by simp [hv.junk]) λ f=>q0ai (by simp [hv.junk]) ?_
 simp only [qjv,hv.lenv,wd, wa]
 refine ⟨l.length + 1,q0iw hv f hl (λ h1 x S st g=>?_) l [] h _ [] rfl (.refl _ _ (by simp)) .nil⟩
 simp only [qu,q06]
 exact ⟨by simpa using g.sl.junk,S,g,st⟩
theorem q0j6 {k0:Value→Hp→Prop} {v:Value} {l:List Ent} {hh:Hp} (hv:Es w0 hh v l) (f:Fit w0 hh) (hl:l.length≤1000000000) (hk:∀ h1 x S,Step hh h1 [] S→Vec w0 h1 2 x l.length (l.flatMap pe) S→k0 x h1):
  ∀ (post pre:List Ent) (h1:Hp) (x:Value) (S:List Nat),pre++post=l→Step hh h1 [] S→Vec w0 h1 2 x pre.length (pre.flatMap pe) S→
   q7w prog w0 k0 (post.length + 1) x v (.int .i64 (l.length:Int)) (.int .i64 (pre.length:Int)) h1:=by
 intro post
 induction post with
 | nil=>
  intro pre h1 x S he st g
  have hpre:pre=l:=by simpa using he
  subst hpre
  rw [List.length_nil,q7w]
  simp only [qdu,wd, wa,Int.lt_irrefl,decide_false]
  exact hk h1 x S st g
 | cons z post ih=>
  intro pre h1 x S he st g
  have hlen:pre.length + (post.length + 1)=l.length:=by rw [← he]; simp
  have hg:l[pre.length]?=some z:=by rw [← he]; simp
  have c1:decide ((pre.length:Int) < (l.length:Int))=true:=decide_eq_true (by omega)
  have e6:=wrS pre z (by omega)
  have fb:w0.heap.size≤h1.next:=Nat.le_trans f.base st.1
  have hv1:Es w0 h1 v l:=Sl.step hv f (st.less (T:=[]) (by simp)) (by simp)
  rw [List.length_cons,q7w]
  simp only [qdu,wd, wa,c1]
  refine Sl.elem hv1 (by omega) (q3u hg) ?_
  refine q2f fb rfl rfl q2b ?_
  have sx:Step h1 (h1.new (ee z) 3) [] [h1.next]:=(Step.refl h1 [] (by simp)).new _ _
  have bx:(h1.new (ee z) 3).blk h1.next=some (ee z):=by simp
  have nx:h1.next < (h1.new (ee z) 3).next:=by simp
  have gx:=g.frame sx (by simp)
  have stx:Step hh (h1.new (ee z) 3) [] S:=st.trans ((sx.less (T:=[]) (by simp)).keepS λ b hb=>(g.lt b hb).2)
  generalize h1.new (ee z) 3=hx at *
  simp only [wd, wa]
  refine qj fb bx rfl ?_
  refine qj fb bx rfl ?_
  simp only [q2w,q28,q1u,List.set_cons_zero,List.set_cons_succ]
  refine ⟨rfl,by simp,rfl,by simp,?_⟩
  refine q4a (e:=pe z) (by omega) gx.gv rfl rfl (by omega) (by omega) (by omega) λ x' h2 S2 g2 s2=>?_
  simp only [e6]
  refine ih (pre++[z]) h2 x' S2 (by simpa using he) (stx.trans s2) ?_
  rw [List.length_append,List.flatMap_append]
  simpa using g2
theorem q0hf {k0:Value→Value→Value→Hp→Prop} {x1 x2 va:Value} {s:LS} {us:List Value} {A:List Nat} {hh:Hp} (f:Fit w0 hh) (sv:Sl w0 hh 1 va 16 us) (hu:us.length=16) (hlv:∀ (i:Nat) v,us[i]?=some v→q3c w0 hh A v (s.lv.getD i [])) (hl:s.lv.length=16) (hA:∀ b,b∈A→b < hh.next) (hr:s.lv.flatten.length≤1000000)
  (hk:∀ h1 x S (ps:List (Value × List Ent)),Step hh h1 [] S→GV w0 h1 1 x ps.length (ps.map (·.1)) S→ps.map (·.2)=s.lists→(∀ p:Value × List Ent,p∈ps→Es w0 hh p.1 p.2)→k0 x1 x2 x h1):
  ∀ (m i:Nat) (h1:Hp) (x:Value) (S:List Nat) (ps:List (Value × List Ent)),i + m=16→Step hh h1 [] S→GV w0 h1 1 x ps.length (ps.map (·.1)) S→ps.map (·.2)=s.mem :: (s.lv.take i).flatten→(∀ p:Value × List Ent,p∈ps→Es w0 hh p.1 p.2)→
   q7u prog w0 k0 (m + 1) x1 x2 x va (.int .i64 16) (.int .i64 (i:Int)) h1:=by
 intro m
 induction m with
 | zero=>
  intro i h1 x S ps hi st g e o
  have:i=16:=by omega
  subst this
  rw [q7u]
  simp only [qdt,wd, wa,show decide (((16:Nat):Int) < 16)=false from rfl]
  rw [List.take_of_length_le (by omega)] at e
  exact hk h1 x S ps st g e o
 | succ m ih=>
  intro i h1 x S ps hi st g e o
  have c1:decide ((i:Int) < 16)=true:=decide_eq_true (by omega)
  have e6:=wrN i (by omega)
  have fb:w0.heap.size≤h1.next:=Nat.le_trans f.base st.1
  have st0:Step hh h1 [] []:=st.less (by simp)
  obtain ⟨v,hv⟩:∃ v,us[i]?=some v:=⟨us[i]'(by omega),by simp⟩
  obtain ⟨qs,eq,gq,dq,oq⟩:=hlv i v hv
  have sv1:=sv.step f st0 (by simp)
  have gq1:=gq.step f st0 (by simp)
  have hti:s.lv.take (i + 1)=s.lv.take i++[s.lv.getD i []]:=by
   rw [List.take_add_one,List.getElem?_eq_getElem (by omega),List.getD_eq_getElem?_getD,List.getElem?_eq_getElem (by omega)]
   rfl
  have hpl:ps.length≤1000001:=by
   have:=congrArg List.length e
   have h2:((s.lv.take i).flatten).length≤s.lv.flatten.length:=by
    have:=List.take_append_drop i s.lv
    have h3:s.lv.flatten.length=(s.lv.take i).flatten.length + (s.lv.drop i).flatten.length:=by
     conv=>lhs; rw [← this]
     rw [List.flatten_append,List.length_append]
    omega
   simp only [List.length_map,List.length_cons] at this
   omega
  have hql:qs.length≤1000001:=by
   have h3:s.lv.flatten.length=(s.lv.take (i + 1)).flatten.length + (s.lv.drop (i + 1)).flatten.length:=by
    conv=>lhs; rw [← List.take_append_drop (i + 1) s.lv]
    rw [List.flatten_append,List.length_append]
   rw [hti,List.flatten_append,List.length_append] at h3
   have:=congrArg List.length eq
   rw [List.flatten_cons,List.flatten_nil,List.append_nil] at h3
   rw [List.length_map] at this
   omega
  rw [q7u]
  simp only [qdt,wd, wa,c1]
  refine sv1.one hv ?_
  refine q9i fb g gq1.lenA gq1.src gq1.len (by omega) (by omega) (by omega) λ x' h2 S2 g2 s2=>?_
  simp only [wd, wa,e6]
  refine ih (i + 1) h2 x' S2 (ps++qs) (by omega) (st.trans s2) ?_ ?_ λ p hp=>?_
  ·rw [List.length_append,List.map_append]
   exact g2
  ·rw [List.map_append,e,hti,List.flatten_append,eq]
   simp
  ·rcases List.mem_append.1 hp with q | q
   ·exact o p q
   ·exact (oq p q).1
theorem q0i8 {r:Value} {s:LS} {S A:List Nat} {W:Nat} (m:Rv w0 h r s S A) (ok:LOk s W) (hW:W≤1048576) (a b:Key):
  qf prog w0 qic [r,.string (str a),.string (str b)] h λ v h'=>∃ S',Vec w0 h' 2 v (rng a b s.view).length ((rng a b s.view).flatMap pe) S'∧Step h h' [] S':=by
 refine qf.of_fit (by simp [m.nj]) λ f=>q04c (by simp [m.nj]) ?_
 have hvl:=qyh ok hW
 have hruns:=ok.runs
 have fb:=f.base
 obtain ⟨q,vm,va,us,e,hq,hql,hb,hem,sv,hu,hlv,hl⟩:=m.read
 have hA:=m.ltA
 subst e
 simp only [qie,wd, wa]
 refine qj hq hb (v:=vm) rfl ?_
 refine q7k hem.isC ?_
 have s1:Step h (h.new [vm] 1) [] [h.next]:=(Step.refl h [] (by simp)).new _ _
 have g1:GV w0 (h.new [vm] 1) 1 (.slice (some ⟨h.next,0,none⟩) 1 1) 1 [vm] [h.next]:=.new fb rfl (by decide)
 have hb1:(h.new [vm] 1).blk q=some (q0m s++[vm,va]):=by rw [(s1.keep q hql (by simp)).1]; exact hb
 have s10:Step h (h.new [vm] 1) [] []:=s1.less (by simp)
 refine qj (h:=h.new [vm] 1) hq hb1 (v:=va) rfl ?_
 simp only [(sv.step f s10 (by simp)).lenv,wd, wa]
 refine ⟨16 + 1,q0hf (hh:=h) (s:=s) f sv hu hlv hl hA (by omega) (λ h2 x S2 ps s2 g2 e2 o2=>?_) 16 0 _ _ [h.next] [(vm,s.mem)] rfl s1 g1 rfl (by simpa using hem)⟩
 have s20:Step h h2 [] []:=s2.less (by simp)
 have hle2:(s.lists.map q0f).sum≤W:=by simpa [LS.lists] using ok.size
 have hent:(s.lists.map List.length).sum≤1048576:=by
  have:(s.lists.map List.length).sum≤(s.lists.map q0f).sum:=by
   generalize s.lists=L
   induction L with
   | nil=>simp
   | cons l L ih=>
    have h2:=q4q l
    simp only [List.map_cons,List.sum_cons]
    omega
  omega
 have hpsl:ps.length≤2000000:=by
  have:=congrArg List.length e2
  rw [List.length_map,LS.lists,List.length_cons] at this
  omega
 have hps:(ps.map λ q=>q.2.length)=s.lists.map List.length:=by rw [← e2,List.map_map]; rfl
 refine qq (qup true g2.sl (λ p hp=>Sl.step (o2 p hp) f s20 (by simp)) hpsl (by rw [hps]; omega)) λ v3 h3 ⟨out,S3,im,ho,g3,s3⟩ f3=>?_
 have hov:flt true out=s.view:=by
  have h1:(ps.map λ q=>kl q.2)=s.lists.map kl:=by rw [← e2,List.map_map]; rfl
  rw [h1] at im
  have:=congrArg (List.map (·.2)) (qg7 ok.lsrt im)
  have hk:∀ l:List Ent,(kl l).map (·.2)=l:=λ l=>by simp [kl,Function.comp_def]
  rw [hk,hk] at this
  rw [this]
  rfl
 rw [hov] at g3
 refine qq (q0hs a b g3.sl (by omega)) λ v4 h4 ⟨S4,g4,s4⟩ f4=>?_
 have hrl:=q9m a b s.view
 have s24:Step h h4 [] []:=(s20.trans (s3.less (by simp))).trans (s4.less (by simp))
 simp only [g4.sl.lenv,wd, wa]
 refine ⟨(rng a b s.view).length + 1,q0j6 (hh:=h4) g4.sl f4 (by omega) (λ h5 x S5 s5 g5=>?_) _ [] h4 _ [] rfl (.refl _ _ (by simp)) .nil⟩
 simp only [qu,q06]
 exact ⟨by simpa using g5.sl.junk,S5,g5,s24.trans s5⟩
end
def ScI (w0:World) (B q8 q9 q12 q13:Nat) (wv:Value) (l:List Ent) (most:Int) (p i:Nat) (h1:Hp) (S1:List Nat):Prop:=
 S1=[q13]∧h1.blk q13=some [.int .i64 (i:Int)]∧h1.blk q8=some [wv]∧h1.blk q9=some [.int .i64 most]∧h1.blk q12=some [.int .i64 (p:Int)]∧Sl w0 h1 2 wv l.length (l.flatMap pe)∧B≤h1.next
section
variable {w0:World} {h h':Hp}
theorem qgc {B q8 q9 q12 q13:Nat} {wv:Value} {l:List Ent} {most:Int} {p i:Nat} (h8:q8 < B) (h9:q9 < B) (h12:q12 < B) (h13:q13 < B) (hw:∀ b,b∈q0z wv→b < B):q2h w0 0 B (ScI w0 B q8 q9 q12 q13 wv l most p i):=by
 refine ⟨λ h lp S _ c=>c,λ h h' S T T' f ⟨e,b13,b8,b9,b12,g,n⟩ st hd hB=>?_,λ h S ⟨e,b13,b8,b9,b12,g,n⟩ c hc=>?_⟩
 ·have nt:∀ b,b < B→b∉T:=λ b hb w=>by have:=hB b w; omega
  refine ⟨e,?_,?_,?_,?_,g.step f st λ b hb=>nt b (hw b hb),Nat.le_trans n st.1⟩
  ·rw [(st.keep q13 (by omega) (nt _ h13)).1]; exact b13
  ·rw [(st.keep q8 (by omega) (nt _ h8)).1]; exact b8
  ·rw [(st.keep q9 (by omega) (nt _ h9)).1]; exact b9
  ·rw [(st.keep q12 (by omega) (nt _ h12)).1]; exact b12
 ·subst e
  simp at hc
  omega
theorem q0i5 {K0 KB KN:Hp→Prop} {fv:Value} {q8 q9 q10 q12 q13:Nat} {wv:Value} {l:List Ent} {most:Int} {p:Nat} (f:Fit w0 h) (w8:w0.heap.size≤q8) (w9:w0.heap.size≤q9) (w12:w0.heap.size≤q12) (w13:w0.heap.size≤q13) (hl:l.length≤1000000000)
  (n8:q8≠q13) (n9:q9≠q13) (n12:q12≠q13) (l8:q8 < h.next) (l9:q9 < h.next) (l12:q12 < h.next) (l13:q13 < h.next) (hw:∀ b,b∈q0z wv→b < h.next∧b≠q13) (c0:ScI w0 h.next q8 q9 q12 q13 wv l most p 0 h [q13])
  (hit:∀ g,ItC prog w0 fv (h.newLp g) [] (pV l)) (hk:∀ h3,Fit w0 h3→q09 0 h h3 [q13] [q13]→ScI w0 h.next q8 q9 q12 q13 wv l most p l.length h3 [q13]→K0 h3)
  (hb:∀ h3 (i:Nat),Fit w0 h3→q09 0 h h3 [q13] [q13]→i≤l.length→p=0→(i:Int)=most→ScI w0 h.next q8 q9 q12 q13 wv l most p i h3 [q13]→KB h3):
  q3j prog w0 fv 2 (λ b g args K=>qsj prog w0 b g K (ptr q8) (ptr q9) (ptr q10) (ptr q12) (ptr q13) (args.getD 0 undef) (args.tail.getD 0 undef)) K0 [(none,KN),(some 2,KB)] h:=by
 refine q0k0 (xs:=pV l) (T:=[]) 0 (Nat.zero_le _) f hit _ (λ b g x K=>rfl) [q13] (ScI w0 h.next q8 q9 q12 q13 wv l most p) (λ o h1 S1=>o=some 2∧p=0∧∃ i:Nat,i≤l.length∧(i:Int)=most∧ScI w0 h.next q8 q9 q12 q13 wv l most p i h1 S1) (λ i=>qgc l8 l9 l12 l13 λ b hb=>(hw b hb).1) (λ o=>?_) c0 (by simp) ?_ ?_ ?_ ?_
 ·refine ⟨λ h lp S e ⟨a,b,i,hi,him,c⟩=>⟨a,b,i,hi,him,(qgc l8 l9 l12 l13 λ b hb=>(hw b hb).1).ins h lp S e c⟩,λ h h' S T T' f ⟨a,b,i,hi,him,c⟩ st hd hB=>⟨a,b,i,hi,him,(qgc l8 l9 l12 l13 λ b hb=>(hw b hb).1).step h h' S T T' f c st hd hB⟩,λ h S ⟨a,b,i,hi,him,c⟩=>(qgc (w0:=w0) (wv:=wv) (l:=l) (most:=most) (p:=p) (i:=i) l8 l9 l12 l13 λ b hb=>(hw b hb).1).lt h S c⟩
 ·intro y hy
  obtain ⟨x,hx,rfl⟩:=List.mem_map.1 hy
  exact ⟨rfl,by simp⟩
 ·rintro i y h1 S1 g1 K hi f1 ⟨e,b13,b8,b9,b12,g,n⟩ lb _ ends exits
  subst e
  unfold pV at hi
  rw [List.getElem?_map] at hi
  obtain ⟨z,hz,rfl⟩:=Option.map_eq_some_iff.1 hi
  have hil:=(List.getElem?_eq_some_iff.1 hz).1
  have fb:=f1.base
  have c1:decide ((l.length:Int)≤(i:Int))=false:=decide_eq_false (by omega)
  have e6:=wrN i (by omega)
  have hst:Step h1 (h1.put q13 [.int .i64 ((i + 1:Nat):Int)]) [q13] [q13]:=(Step.refl h1 [q13] (by simp; omega)).put (by simp) _
  have hSI:ScI w0 h.next q8 q9 q12 q13 wv l most p (i + 1) (h1.put q13 [.int .i64 ((i + 1:Nat):Int)]) [q13]:=by
   refine ⟨rfl,by simp,?_,?_,?_,g.step f1 hst λ b hb=>by simpa using (hw b hb).2,by have:=hst.1; omega⟩
   ·rw [(hst.keep q8 (by omega) (by simpa using n8)).1]; exact b8
   ·rw [(hst.keep q9 (by omega) (by simpa using n9)).1]; exact b9
   ·rw [(hst.keep q12 (by omega) (by simpa using n12)).1]; exact b12
  simp only [List.getD_cons_zero,List.tail_cons,ptr]
  refine qj w13 b13 rfl ?_
  refine qj w8 b8 rfl ?_
  simp only [g.lenv,wd, wa,c1]
  refine qj w8 b8 rfl ?_
  refine qj w13 b13 rfl ?_
  refine g.elemF (f:=0) hil (q001 hz) (by omega) (u:=.string (str z.k)) rfl ?_
  rw [q6l]
  simp only [ne_eq,not_true,decide_false,wd, wa]
  refine qj w8 b8 rfl ?_
  refine qj w13 b13 rfl ?_
  refine g.elemF (f:=1) hil (q001 hz) (by omega) (u:=.string (str z.v)) rfl ?_
  rw [q6l]
  simp only [ne_eq,not_true,decide_false,wd, wa]
  refine qj w13 b13 rfl ?_
  simp only [wd, wa,e6]
  refine q21 w13 b13 (by simp) rfl ?_
  simp only [List.set_cons_zero]
  obtain ⟨-,k13,k8,k9,k12,-,-⟩:=hSI
  refine qj w12 k12 rfl ?_
  simp only [wd, wa]
  by_cases hp:p=0
  ·have d0:(((p:Nat):Int) == 0)=true:=by simp [hp]
   simp only [d0,wd, wa]
   refine qj w13 k13 rfl ?_
   refine qj w9 k9 rfl ?_
   simp only [wd, wa]
   by_cases hm:((i + 1:Nat):Int)=most
   ·have d1:(((i + 1:Nat):Int) == most)=true:=by rw [hm]; simp
    simp only [d1,wd, wa]
    exact exits _ _ _ (hst.y 0) ⟨rfl,hp,i + 1,by omega,hm,rfl,k13,k8,k9,k12,g.step f1 hst λ b hb=>by simpa using (hw b hb).2,by have:=hst.1; omega⟩
   ·have d1:(((i + 1:Nat):Int) == most)=false:=by simpa using hm
    simp only [d1,wd, wa]
    exact ends _ _ (hst.y 0) ⟨rfl,k13,k8,k9,k12,g.step f1 hst λ b hb=>by simpa using (hw b hb).2,by have:=hst.1; omega⟩
  ·have d0:(((p:Nat):Int) == 0)=false:=by simpa using hp
   simp only [d0,wd, wa]
   exact ends _ _ (hst.y 0) ⟨rfl,k13,k8,k9,k12,g.step f1 hst λ b hb=>by simpa using (hw b hb).2,by have:=hst.1; omega⟩
 ·rintro h3 S2 f3 ys c
  have e:=c.1
  subst e
  have:(pV l).length=l.length:=by simp [pV]
  rw [this] at c
  exact hk h3 f3 ys c
 ·rintro o h3 S2 f3 ys ⟨rfl,hp,i,hi,him,c⟩
  have e:=c.1
  subst e
  exact ⟨(some 2,KB),by simp,rfl,hb h3 i f3 ys hi hp him c⟩
def SB (w0:World) (fv:Value) (q8 q9 q10:Nat) (wv:Value) (l:List Ent) (most:Int) (r:Value) (s:LS) (S A:List Nat) (a b:Key) (h1:Hp):Prop:=
 h1.blk q8=some [wv]∧h1.blk q9=some [.int .i64 most]∧h1.blk q10=some [.bool false]∧Sl w0 h1 2 wv l.length (l.flatMap pe)∧Lv w0 h1 r s S A∧∃ t1 t2 t3,fv=.func (.func qa0) #[] #[ptr t1,ptr t2,ptr t3]∧h1.blk t1=some [r]∧h1.blk t2=some [.string (str a)]∧h1.blk t3=some [.string (str b)]∧w0.heap.size≤t1∧w0.heap.size≤t2∧w0.heap.size≤t3
theorem SB.y {fv:Value} {q8 q9 q10:Nat} {wv:Value} {l:List Ent} {most:Int} {r:Value} {s:LS} {S A:List Nat} {a b:Key} {N:Nat} (m:SB w0 fv q8 q9 q10 wv l most r s S A a b h) (f:Fit w0 h) (ys:q09 N h h' [] []):SB w0 fv q8 q9 q10 wv l most r s S A a b h':=by
 obtain ⟨b8,b9,b10,g,ml,t1,t2,t3,e,d1,d2,d3,w1,w2,w3⟩:=m
 have k:∀ q c,h.blk q=some c→h'.blk q=some c:=λ q c hb=>by
  have:(h'.as h).blk q=some c:=by rw [(ys.step.keep q (f.lt _ _ hb) (by simp)).1]; exact hb
  exact this
 exact ⟨k _ _ b8,k _ _ b9,k _ _ b10,(g.step f ys.step (by simp):Sl w0 (h'.as h) 2 wv l.length (l.flatMap pe)),ml.y ys,t1,t2,t3,e,k _ _ d1,k _ _ d2,k _ _ d3,w1,w2,w3⟩
theorem q0ew {k0 kr:Value→Hp→Prop} {fv:Value} {q8 q9 q10:Nat} {wv:Value} {most:Int} {r:Value} {s:LS} {S A:List Nat} {a b:Key} {W:Nat} {hh:Hp} (w8:w0.heap.size≤q8) (w9:w0.heap.size≤q9) (ok:LOk s W) (hW:W≤1048576)
  (hw:∀ b,b∈q0z wv→b < hh.next) (hk:∀ h1,Fit w0 h1→q09 0 hh h1 [] []→h1.blk q10=some [.bool false]→k0 (ptr q10) h1):
  ∀ (m p:Nat) (h1:Hp) (q12:Nat),p + m=2→Fit w0 h1→q09 0 hh h1 [] []→SB w0 fv q8 q9 q10 wv (rng a b s.view) most r s S A a b h1→w0.heap.size≤q12→h1.blk q12=some [.int .i64 (p:Int)]→q6w prog w0 k0 kr (m + 1) (ptr q8) (ptr q9) (ptr q10) fv (ptr q12) h1:=by
 have hvl:=qyh ok hW
 have hrl:=q9m a b s.view
 generalize hL:rng a b s.view=L at *
 intro m
 induction m with
 | zero=>
  intro p h1 q12 hp f1 ys sb w12 b12
  have:p=2:=by omega
  subst this
  rw [q6w]
  simp only [qew,ptr]
  refine qj w12 b12 rfl ?_
  simp only [wd, wa,show decide (((2:Nat):Int) < 2)=false from rfl]
  exact hk h1 f1 ys sb.2.2.1
 | succ m ih=>
  intro p h1 q12 hp f1 ys sb w12 b12
  have c1:decide ((p:Int) < 2)=true:=decide_eq_true (by omega)
  have e6:=wrN p (by omega)
  have tail:∀ h3,Fit w0 h3→h3.blk q12=some [.int .i64 (p:Int)]→SB w0 fv q8 q9 q10 wv L most r s S A a b h3→q09 0 hh h3 [] []→
    qg w0 (.pointer (some ⟨q12,0,none⟩)) (λ v71=>q0u [(.int .i64 0)] 1 λ v12=>q0q w0 v12 v71 λ _=>qg w0 v12 λ v22=>qb (qd .add v22 (.int .i64 1)) λ v23=>q0q w0 v12 v23 λ _=>q6w prog w0 k0 kr (m + 1) (ptr q8) (ptr q9) (ptr q10) fv v12) h3:=by
   intro h3 f3 k12 sb3 ys3
   refine qj w12 k12 rfl ?_
   simp only [q2t]
   refine ⟨by simp [qv],?_⟩
   have fb:=f3.base
   have x1:Step h3 (h3.new [.int .i64 0] 1) [] [h3.next]:=(Step.refl h3 [] (by simp)).new _ _
   refine q21 (b:=h3.next) (o:=0) (cs:=[.int .i64 0]) fb (by simp) (by simp) rfl ?_
   refine qj (b:=h3.next) (o:=0) (cs:=[.int .i64 (p:Int)]) fb (by simp) rfl ?_
   simp only [wd, wa,e6]
   refine q21 (b:=h3.next) (o:=0) (cs:=[.int .i64 (p:Int)]) fb (by simp) (by simp) rfl ?_
   simp only [List.set_cons_zero]
   have x2:Step h3 (((h3.new [.int .i64 0] 1).put h3.next [.int .i64 (p:Int)]).put h3.next [.int .i64 ((p + 1:Nat):Int)]) [] [h3.next]:=(x1.put (by simp) _).put (by simp) _
   have f4:Fit w0 (((h3.new [.int .i64 0] 1).put h3.next [.int .i64 (p:Int)]).put h3.next [.int .i64 ((p + 1:Nat):Int)]):=((f3.new (by simp [qv])).put fb (by simp) (by simp [qv])).put fb (by simp) (by simp [qv])
   have y4:=(x2.less (T:=[]) (by simp)).y 0
   exact ih (p + 1) _ h3.next (by omega) f4 (ys3.trans y4) (sb3.y f3 y4) fb (by simp)
  rw [q6w]
  simp only [qew]
  rw [show ptr q12=.pointer (some ⟨q12,0,none⟩) from rfl]
  refine qj w12 b12 rfl ?_
  simp only [wd, wa,c1,q2t]
  refine ⟨by simp [qv],?_⟩
  have fb:=f1.base
  refine q21 (b:=h1.next) (o:=0) (cs:=[.int .i64 0]) fb (by simp) (by simp) rfl ?_
  simp only [List.set_cons_zero]
  have x1:Step h1 ((h1.new [.int .i64 0] 1).put h1.next [.int .i64 0]) [] [h1.next]:=((Step.refl h1 [] (by simp)).new _ _).put (by simp) _
  have k13:((h1.new [.int .i64 0] 1).put h1.next [.int .i64 0]).blk h1.next=some [.int .i64 0]:=by simp
  have f2:Fit w0 ((h1.new [.int .i64 0] 1).put h1.next [.int .i64 0]):=(f1.new (by simp [qv])).put fb (by simp) (by simp [qv])
  have n2:((h1.new [.int .i64 0] 1).put h1.next [.int .i64 0]).next=h1.next + 1:=rfl
  have y1:=(x1.less (T:=[]) (by simp)).y 0
  have sb2:=sb.y f1 y1
  have b12':((h1.new [.int .i64 0] 1).put h1.next [.int .i64 0]).blk q12=some [.int .i64 (p:Int)]:=by rw [(x1.keep q12 (f1.lt _ _ b12) (by simp)).1]; exact b12
  generalize (h1.new [.int .i64 0] 1).put h1.next [.int .i64 0]=h2 at *
  have sbk:=sb2
  obtain ⟨k8,k9,k10,g,ml,t1,t2,t3,e,d1,d2,d3,w1,w2,w3⟩:=sb2
  have old:∀ q c,h1.blk q=some c→q≠h1.next:=λ q c hb=>by have:=f1.lt _ _ hb; omega
  refine q0i5 (l:=L) (p:=p) f2 w8 w9 w12 fb (by omega) (old _ _ sb.1) (old _ _ sb.2.1) (old _ _ b12) (f2.lt _ _ k8) (f2.lt _ _ k9) (f2.lt _ _ b12') (by omega) (λ b hb=>⟨?_,?_⟩) ⟨rfl,k13,k8,k9,b12',g,Nat.le_refl _⟩ (λ gg=>?_) (λ h3 f3 ys3 c3=>?_) (λ h3 i f3 ys3 hi hp0 him c3=>?_)
  ·have:=hw b hb; have:=ys.next; omega
  ·have:=hw b hb; have:=ys.next; omega
  ·have yl:=(q09.refl 0 h2 [] (by simp)).newLp gg
   subst e
   have:=q0k7 (hh:=h2.newLp gg) (T:=[]) (a:=a) (b:=b) (by rw [q99]; exact d1) (by rw [q99]; exact d2) (by rw [q99]; exact d3) w1 w2 w3 (ml.y yl) ok hW
   rw [hL] at this
   exact this
  ·obtain ⟨-,j13,j8,j9,j12,-,-⟩:=c3
   have y3:q09 0 h1 h3 [] []:=((x1.y 0).trans ys3).less (by simp)
   have hne:((L.length:Int) != (L.length:Int))=false:=by simp
   simp only [ptr]
   refine qj fb j13 rfl ?_
   refine qj w8 j8 rfl ?_
   simp only [g.lenv,wd, wa,hne]
   exact tail h3 f3 j12 (sb.y f1 y3) (ys.trans y3)
  ·obtain ⟨-,j13,j8,j9,j12,-,-⟩:=c3
   have y3:q09 0 h1 h3 [] []:=((x1.y 0).trans ys3).less (by simp)
   simp only [ptr]
   refine qj fb j13 rfl ?_
   refine qj w8 j8 rfl ?_
   simp only [g.lenv,wd, wa]
   by_cases hil:i=L.length
   ·have hne:((i:Int) != (L.length:Int))=false:=by rw [hil]; simp
    simp only [wd, wa,hne]
    exact tail h3 f3 j12 (sb.y f1 y3) (ys.trans y3)
   ·have hne:((i:Int) != (L.length:Int))=true:=by simp; omega
    have hp1:(((p:Nat):Int) != 0)=false:=by simp [hp0]
    have hm1:((i:Int) != most)=false:=by simp [him]
    simp only [wd, wa,hne]
    refine qj w12 j12 rfl ?_
    simp only [wd, wa,hp1]
    refine qj fb j13 rfl ?_
    refine qj w9 j9 rfl ?_
    simp only [wd, wa,hm1]
    exact tail h3 f3 j12 (sb.y f1 y3) (ys.trans y3)
theorem q0ez {r:Value} {s:LS} {S A:List Nat} {W:Nat} {a b:Key} {wv:Value} {most:Int} (m:Lv w0 h r s S A) (ok:LOk s W) (hW:W≤1048576) (g:Sl w0 h 2 wv (rng a b s.view).length ((rng a b s.view).flatMap pe)) (o:∀ b,b∈q0z wv→b < h.next):
  qf prog w0 qk0 [r,.string (str a),.string (str b),wv,.int .i64 most] h λ v h'=>v=.bool true∧Step h h' [] []:=by
 refine qf.of_fit (by simp [m.nj,g.junk]) λ f=>q0ab (by simp [m.nj,g.junk]) ?_
 have fb:=f.base
 simp only [qjz,q0ke,q2t]
 refine ⟨g.isC,rfl,by simp [qv],?_⟩
 have s1:Step h (((h.new [wv] 1).new [.int .i64 most] 1).new [.bool false] 1) [] []:=((((Step.refl h [] (by simp)).new _ _).new _ _).new _ _).less (by simp)
 have f1:Fit w0 (((h.new [wv] 1).new [.int .i64 most] 1).new [.bool false] 1):=((f.new (by simpa using g.isC)).new (by simp [qv])).new (by simp [qv])
 have k8:(((h.new [wv] 1).new [.int .i64 most] 1).new [.bool false] 1).blk h.next=some [wv]:=by
  simp
  omega
 have k9:(((h.new [wv] 1).new [.int .i64 most] 1).new [.bool false] 1).blk (h.next + 1)=some [.int .i64 most]:=by simp
 have k10:(((h.new [wv] 1).new [.int .i64 most] 1).new [.bool false] 1).blk (h.next + 1 + 1)=some [.bool false]:=by simp
 show qi _ _ _ _ _ (((h.new [wv] 1).new [.int .i64 most] 1).new [.bool false] 1)
 generalize ((h.new [wv] 1).new [.int .i64 most] 1).new [.bool false] 1=h1 at *
 have m1:=m.step0 s1
 have g1:=g.step f s1 (by simp)
 refine qq (qwa r m1.nj m1.isC a b) λ u h2 ⟨t1,t2,t3,e,d1,d2,d3,d4,d5,d6,d7,d8,d9,s2⟩ f2=>?_
 have fb2:=f2.base
 have x3:Step h2 ((h2.new [.int .i64 0] 1).put h2.next [.int .i64 0]) [] [h2.next]:=((Step.refl h2 [] (by simp)).new _ _).put (by simp) _
 have f3:Fit w0 ((h2.new [.int .i64 0] 1).put h2.next [.int .i64 0]):=(f2.new (by simp [qv])).put fb2 (by simp) (by simp [qv])
 have k12:((h2.new [.int .i64 0] 1).put h2.next [.int .i64 0]).blk h2.next=some [.int .i64 ((0:Nat):Int)]:=by simp
 have sb2:SB w0 u h.next (h.next + 1) (h.next + 1 + 1) wv (rng a b s.view) most r s S A a b h2:=by
  have kk:∀ q c,h1.blk q=some c→h2.blk q=some c:=λ q c hb=>by rw [(s2.keep q (f1.lt _ _ hb) (by simp)).1]; exact hb
  exact ⟨kk _ _ k8,kk _ _ k9,kk _ _ k10,g1.step f1 s2 (by simp),m1.step0 s2,t1,t2,t3,e,d1,d2,d3,Nat.le_trans f1.base d4,Nat.le_trans f1.base d5,Nat.le_trans f1.base d6⟩
 refine ⟨by simp [qv],?_⟩
 refine q21 (b:=h2.next) (o:=0) (cs:=[.int .i64 0]) fb2 (by simp) (by simp) rfl ?_
 simp only [List.set_cons_zero]
 have y3:=(x3.less (T:=[]) (by simp)).y 0
 have sb3:=sb2.y f2 y3
 have n3:h2.next≤((h2.new [.int .i64 0] 1).put h2.next [.int .i64 0]).next:=x3.1
 generalize (h2.new [.int .i64 0] 1).put h2.next [.int .i64 0]=h3 at *
 have s12:Step h h2 [] []:=s1.trans s2
 refine ⟨2 + 1,q0ew (q8:=h.next) (q9:=h.next + 1) (q10:=h.next + 1 + 1) (hh:=h3) (by omega) (by omega) ok hW (λ c hc=>by have:=o c hc; have:=s12.1; omega) (λ h4 f4 y4 b4=>?_) 2 0 h3 h2.next rfl f3 (.refl _ _ _ (by simp)) sb3 fb2 k12⟩
 have fb:=f.base
 simp only [ptr]
 refine q21 (b:=h.next + 1 + 1) (o:=0) (by omega) b4 (by simp) rfl ?_
 unfold q2e
 simp only [List.set_cons_zero]
 have hl4:=f4.lt _ _ b4
 have yA:q09 0 h h4 [] []:=((s12.y 0).trans y3).trans y4
 have x5:Step h4 (h4.put (h.next + 1 + 1) [.bool true]) [h.next + 1 + 1] [h.next + 1 + 1]:=(Step.refl h4 [h.next + 1 + 1] (by simpa using hl4)).put (by simp) _
 have yB:q09 0 h (h4.put (h.next + 1 + 1) [.bool true]) [] []:=by
  have y1:q09 0 h h4 [] [h.next + 1 + 1]:=⟨yA.next,yA.keep,λ c hc=>by simp at hc; subst hc; exact ⟨hl4,.inr (by omega)⟩,yA.lp⟩
  exact (y1.trans (x5.y 0)).less (by simp)
 refine qj (b:=h.next + 1 + 1) (o:=0) (cs:=[.bool true]) (by omega) (by simp) rfl ?_
 simp only [qu,q06]
 exact ⟨by simp,trivial,yB.cut⟩
end
end Go.Proofs.YtfmoemconapmhaaGreat.Ah
