/- seq: items with entries; Search. -/
import Derived.Test.YtfmoemconapmhaaGreatExf
set_option linter.all false
namespace Go.Proofs.YtfmoemconapmhaaGreat.Ah
open Go
section
variable {w0:World} {h:Hp}
theorem qyu (a:Key):qf prog w0 qex [.string (str a)] h λ r h'=>r=.bool false∧h'=h:=by
 refine qf.of_fit (by simp) λ f=>q09k (by simp) ?_
 have e:decide (a≠a)=false:=decide_eq_false (by simp)
 simp only [qsn,q6l,e,wd, wa,qu,q06]
 exact ⟨by simp,trivial,trivial⟩
theorem qxb (a b:Key):qf prog w0 qec [.string (str a),.string (str b)] h λ r h'=>r=.int .i64 (q38 a b)∧h'=h:=by
 refine qf.of_fit (by simp) λ f=>q06y (by simp) ?_
 simp only [qr6]
 refine qq (qyu a) λ r h1 ⟨e,e'⟩ f1=>?_
 subst e e'
 refine qq (qyu b) λ r h1 ⟨e,e'⟩ f1=>?_
 subst e e'
 simp only [wd, wa,qn5,q00h]
 cases e1:blt a b with
 | true=>
  simp only [wd, wa,qu,q06,q38,e1]
  exact ⟨by simp,by simp,trivial⟩
 | false=>
  simp only [wd, wa]
  cases e2:blt b a with
  | true=>
   simp only [wd, wa,qu,q06,q38,e1,e2]
   exact ⟨by simp,rfl,trivial⟩
  | false=>
   simp only [wd, wa,qu,q06,q38,e1,e2]
   exact ⟨by simp,rfl,trivial⟩
def iv (p:Key × Ent):List Value:=.string (str p.1) :: ee p.2
theorem q5p (p:Key × Ent):(iv p).length=4:=rfl
abbrev ivs (l:List (Key × Ent)):List Value:=l.flatMap iv
theorem qma (x:Key × Ent) (l:List (Key × Ent)):ivs (x :: l)=iv x++ivs l:=rfl
theorem qwj (l:List (Key × Ent)):(ivs l).length=l.length * 4:=q3f q5p l
theorem q0ky (l:List (Key × Ent)) (i:Nat):(ivs l).take (i * 4)=ivs (l.take i):=by
 induction l generalizing i with
 | nil=>simp
 | cons x l ih=>
  cases i with
  | zero=>simp
  | succ i=>
   rw [qma,List.take_succ_cons,qma,← ih,List.take_append,List.take_of_length_le (by rw [q5p]; omega),q5p,show (i + 1) * 4 - 4=i * 4 by omega]
theorem qy4 (l:List (Key × Ent)) (i:Nat):(ivs l).drop (i * 4)=ivs (l.drop i):=by
 induction l generalizing i with
 | nil=>simp
 | cons x l ih=>
  cases i with
  | zero=>simp
  | succ i=>
   rw [qma,List.drop_succ_cons,← ih,List.drop_append,List.drop_of_length_le (by rw [q5p]; omega),List.nil_append,q5p,show (i + 1) * 4 - 4=i * 4 by omega]
theorem qat {l:List (Key × Ent)} {i:Nat} {x:Key × Ent} (h:l[i]?=some x):((ivs l).drop (i * 4)).take 4=iv x:=qd6 q5p h
theorem q0mt {l:List (Key × Ent)} {i:Nat} {x:Key × Ent} (h:l[i]?=some x) (o:Nat) (ho:o < 4) {v:Value} (hv:(iv x)[o]?=some v:=by rfl):(ivs l)[i * 4 + o]?=some v:=by
 rw [flat_get q5p h ho,hv]
theorem qcs {l:List (Key × Ent)} {i:Nat} {x:Key × Ent} (h:l[i]?=some x):(ivs l)[i * 4]?=some (.string (str x.1)):=q0mt h 0 (by omega)
abbrev Is (w0:World) (h:Hp) (x:Value) (l:List (Key × Ent)):Prop:=Sl w0 h 4 x l.length (ivs l)
theorem q0lh (x:Key × Ent) (k:Key):qf prog w0 q5w [.agg (iv x).toArray,.string (str k)] h λ r h'=>r=.int .i64 (q38 x.1 k)∧Step h h' [] []:=by
 refine qf.of_fit (by simp) λ f=>q02a (by simp) ?_
 simp only [qoc]
 refine ⟨(iv x).toArray,rfl,?_⟩
 simp only [wd, wa]
 have hb:=f.base
 refine qj (cs:=iv x) (by omega) (by simp) rfl ?_
 refine qq (qxb x.1 k) λ r h1 ⟨e,e'⟩ f1=>?_
 subst e e'
 simp only [qu,q06]
 exact ⟨by simp,trivial,((Step.refl h [] (by simp)).new _ _).less (by simp)⟩
theorem q0iy {k0:Value→Value→Value→Value→Value→Hp→Prop} {x:Value} {l:List (Key × Ent)} {k:Key} (hl:l.length≤1000000000) (hS:∀ x,x∈l→∀ h,qf prog w0 q5w [.agg (iv x).toArray,.string (str k)] h λ r h'=>r=.int .i64 (q38 x.1 k)∧Step h h' [] []):∀ (m i j:Nat) (h1:Hp),i≤j→j≤l.length→j - i≤m→Sl w0 h1 4 x l.length (l.flatMap iv)→(∀ b,b∈q0z x→b < h1.next)→
  (∀ h',Step h1 h' [] []→k0 x (.string (str k)) (.func (.func q5w) #[] #[]) (.int .i64 (l.length:Int)) (.int .i64 (bsK l k m i j:Int)) h')→
  q6p prog w0 k0 (m + 1) x (.string (str k)) (.func (.func q5w) #[] #[]) (.int .i64 (l.length:Int)) (.int .i64 (i:Int)) (.int .i64 (j:Int)) h1:=by
 intro m
 induction m with
 | zero=>
  intro i j h1 hij hj hm v hx hk
  have c1:decide ((i:Int) < (j:Int))=false:=decide_eq_false (by omega)
  rw [q6p]
  simp only [q9w,wd, wa,c1]
  exact hk h1 (.refl _ _ (by simp))
 | succ m ih=>
  intro i j h1 hij hj hm v hx hk
  rw [q6p]
  by_cases hlt:i < j
  ·have c1:decide ((i:Int) < (j:Int))=true:=decide_eq_true (by omega)
   have e1:IntKind.i64.wrap ((i:Int) + (j:Int))=((i + j:Nat):Int):=by rw [IntWalk.i64_in _ (by omega)]; simp
   have e2:IntKind.u64.wrap ((i + j:Nat):Int)=((i + j:Nat):Int):=IntWalk.u64_in _ (by omega)
   have e3:qd .shr (.int .u64 ((i + j:Nat):Int)) (.int .u64 1)=some (.int .u64 (((i + j) / 2:Nat):Int)):=by
    rw [qge _ _ _ _ (by omega)]
    congr 2
   have e4:IntKind.i64.wrap (((i + j) / 2:Nat):Int)=(((i + j) / 2:Nat):Int):=IntWalk.i64_in _ (by omega)
   have hml:(i + j) / 2 < l.length:=by omega
   have hg:l[(i + j) / 2]?=some l[(i + j) / 2]:=List.getElem?_eq_getElem hml
   simp only [q9w,wd, wa,c1,e1,e2,e3,e4]
   have hs:=v.src
   obtain ⟨a,c,ex⟩:=v.slice
   rw [ex] at hs ⊢
   refine q97 hs hml ?_
   rw [qd6 q5p hg]
   refine q4o (by kernel_rfl) (hS _ (List.getElem_mem hml) h1) λ r h2 ⟨e,s2⟩ f2=>?_
   subst e
   rw [← ex]
   have v2:=v.stepL hx s2 (by simp)
   have hx2:∀ b,b∈q0z x→b < h2.next:=λ b hb=>Nat.lt_of_lt_of_le (hx b hb) s2.1
   have hb:bsK l k (m + 1) i j=if blt l[(i + j) / 2].1 k=true then bsK l k m ((i + j) / 2 + 1) j else bsK l k m i ((i + j) / 2):=by
    rw [bsK,if_pos hlt,hg]
   simp only [wd, wa,qm3]
   cases e:blt l[(i + j) / 2].1 k with
   | true=>
    rw [e,if_pos rfl] at hb
    have e5:IntKind.i64.wrap ((((i + j) / 2:Nat):Int) + 1)=(((i + j) / 2 + 1:Nat):Int):=by rw [IntWalk.i64_in _ (by omega)]; simp
    simp only [wd, wa,e5]
    exact ih _ _ h2 (by omega) hj (by omega) v2 hx2 (λ h' s'=>by have:=hk h' (s2.trans s'); rw [hb] at this; exact this)
   | false=>
    rw [e,if_neg (by simp)] at hb
    simp only [wd, wa]
    exact ih _ _ h2 (by omega) (by omega) (by omega) v2 hx2 (λ h' s'=>by have:=hk h' (s2.trans s'); rw [hb] at this; exact this)
  ·have c1:decide ((i:Int) < (j:Int))=false:=decide_eq_false (by omega)
   have hb:bsK l k (m + 1) i j=i:=by rw [bsK,if_neg hlt]
   simp only [q9w,wd, wa,c1]
   have:=hk h1 (.refl _ _ (by simp))
   rw [hb] at this
   exact this
theorem q0ok {x:Value} {l:List (Key × Ent)} {k:Key} (v:Sl w0 h 4 x l.length (l.flatMap iv)) (hl:l.length≤1000000000) (hS:∀ x,x∈l→∀ h,qf prog w0 q5w [.agg (iv x).toArray,.string (str k)] h λ r h'=>r=.int .i64 (q38 x.1 k)∧Step h h' [] []):
  qf prog w0 qhd [x,.string (str k),.func (.func q5w) #[] #[]] h λ r h' =>
   r=.tuple #[.int .i64 (bsK l k l.length 0 l.length:Int),.bool (q25 l k (bsK l k l.length 0 l.length))]∧Step h h' [] []:=by
 refine qf.of_fit (by simpa using v.junk) λ f=>q00u (by simpa using v.junk) ?_
 obtain ⟨a,c,ex⟩:=v.slice
 have elx:q05 x=some (.int .i64 (l.length:Int)):=by rw [ex]; rfl
 simp only [qhe,elx,wd, wa]
 refine ⟨l.length + 1,?_⟩
 have fin:∀ (h1:Hp),Step h h1 [] []→(0 < l.length→Sl w0 h1 4 x l.length (l.flatMap iv))→∀ r,r≤l.length→r=bsK l k l.length 0 l.length→
   qb (qd .lss (.int .i64 (r:Int)) (.int .i64 (l.length:Int))) (λ v38=>
    qe v38 true (λ K=>K (.func (.func q5w) #[] #[])) λ v40=>
    qe v38 true (λ K=>K x) λ v41=>
    qe v38 true (λ K=>K (.int .i64 (r:Int))) λ v42=>
    qe v38 true (q04 4 v41 v42) λ v43=>
    qe v38 true (qw w0 v43 4) λ v44=>
    qe v38 true (λ K=>K (.string (str k))) λ v45=>
    qe v38 true (q1n prog w0 v40 [v44,v45]) λ v46=>
    qe v38 true (qb (qd .eql v46 (.int .i64 0))) λ v47=>
    q0a v38 v47 (.bool false) λ v48=>
    qo [.int .i64 (r:Int),v48] λ r h'=>r=.tuple #[.int .i64 (bsK l k l.length 0 l.length:Int),.bool (q25 l k (bsK l k l.length 0 l.length))]∧Step h h' [] []) h1:=by
  intro h1 s1 hv r hr er
  by_cases hrl:r < l.length
  ·have c1:decide ((r:Int) < (l.length:Int))=true:=decide_eq_true (by omega)
   have hg:l[r]?=some l[r]:=List.getElem?_eq_getElem hrl
   have v1:=hv (by omega)
   have hs:=v1.src
   simp only [wd, wa,c1]
   rw [ex] at hs ⊢
   refine q97 hs hrl ?_
   rw [qd6 q5p hg]
   refine q4o (by kernel_rfl) (hS _ (List.getElem_mem hrl) h1) λ q h2 ⟨e,s2⟩ f2=>?_
   subst e
   simp only [wd, wa,qln,qu,q19]
   refine ⟨by simp,?_,s1.trans s2⟩
   rw [← er]
   simp only [q25,hg]
  ·have c1:decide ((r:Int) < (l.length:Int))=false:=decide_eq_false (by omega)
   simp only [wd, wa,c1,qu,q19]
   refine ⟨by simp,?_,s1⟩
   rw [← er]
   simp only [q25,List.getElem?_eq_none (show l.length≤r by omega)]
 have hrg:=qca l k l.length 0 l.length (Nat.zero_le _) (Nat.le_refl _)
 rcases Nat.eq_zero_or_pos l.length with h0 | h0
 ·have c1:decide ((0:Int) < (l.length:Int))=false:=decide_eq_false (by omega)
  rw [h0,q6p]
  have c2:decide (((0:Nat):Int) < ((0:Nat):Int))=false:=rfl
  have c3:decide ((0:Int) < ((0:Nat):Int))=false:=rfl
  simp only [q9w,wd, wa,c2,c3]
  have:=fin h (.refl _ _ (by simp)) (λ q=>by omega) 0 (by omega) (by omega)
  simp only [h0,wd, wa,c2] at this
  exact this
 ·have hx:=v.blk_lt' f h0
  exact q0iy hl hS l.length 0 l.length h (Nat.zero_le _) (Nat.le_refl _) (by omega) v hx (λ h' s'=>fin h' s' (λ _=>v.stepL hx s' (by simp)) _ hrg.2 rfl)
theorem q0fr {x:Value} {l:List (Key × Ent)} {k:Key} (v:Is w0 h x l) (hl:l.length≤1000000000):
  qf prog w0 qhx [x,.string (str k)] h λ r h' =>
   r=.tuple #[.int .i64 (bsK l k l.length 0 l.length:Int),.bool (q25 l k (bsK l k l.length 0 l.length))]∧Step h h' [] []:=by
 refine qf.of_fit (by simpa using v.junk) λ f=>q03f (by simpa using v.junk) ?_
 obtain ⟨a,c,ex⟩:=v.slice
 have elx:q05 x=some (.int .i64 (l.length:Int)):=by rw [ex]; rfl
 simp only [qoq]
 refine qq (q0ok v hl λ x _ h=>q0lh x k) λ r h1 ⟨e,s1⟩ f1=>?_
 subst e
 have v1:Is w0 h1 x l:=v.step f s1 (by simp)
 have hrg:=(qca l k l.length 0 l.length (Nat.zero_le _) (Nat.le_refl _)).2
 generalize hr:bsK l k l.length 0 l.length=r at *
 simp only [wd, wa,elx]
 by_cases hrl:r < l.length
 ·have c1:decide ((r:Int) < (l.length:Int))=true:=decide_eq_true (by omega)
  have hg:l[r]?=some l[r]:=List.getElem?_eq_getElem hrl
  simp only [wd, wa,c1]
  refine v1.fld hrl (by omega) (qcs hg) ?_
  simp only [wd, wa,q9p,qu,q19]
  exact ⟨by simp,by simp only [q25,hg],s1⟩
 ·have c1:decide ((r:Int) < (l.length:Int))=false:=decide_eq_false (by omega)
  simp only [wd, wa,c1,qu,q19]
  refine ⟨by simp,?_,s1⟩
  simp only [q25,List.getElem?_eq_none (show l.length≤r by omega)]
end
open Go Go.Proofs.Tryz
section
variable {w0:World} {h:Hp}
theorem q015:ovX prog qnm:=⟨f168,4,134,137,by kernel_rfl,by kernel_rfl,by kernel_rfl,by kernel_rfl,by kernel_rfl,by kernel_rfl,by kernel_rfl⟩
theorem q0iq {x:Value} {n i q:Nat} {cs e:List Value} {U:List Nat} (v:GV w0 h 4 x n cs U) (hv:0 < n→Vec w0 h 4 x n cs U) (hi:i≤n) (hn:n≤1000000000) (hq:w0.heap.size≤q) (hqb:h.blk q=some e) (hqe:h.esz q=4) (he:e.length=4) (hqU:q∉U):
  qf prog w0 qdb [x,.int .i64 (i:Int),.slice (some ⟨q,0,none⟩) 1 1] h λ r h'=>∃ U',Vec w0 h' 4 r (n + 1) (cs.take (i * 4)++e++cs.drop (i * 4)) U'∧Step h h' U U':=by
 have hj:x≠junk:=by obtain ⟨a,c,rfl⟩:=v.slice; simp [junk]
 have hlen:=v.len
 have hysrc:∀ {h':Hp},h'.blk q=some e→Src w0.heap.size h' 4 (.slice (some ⟨q,0,none⟩) 1 1) 1 e:=λ hb=>q96 hq hb (by omega)
 have main:qf prog w0 qdb [x,.int .i64 (i:Int),.slice (some ⟨q,0,none⟩) 1 1] h λ r h' =>
   (∃ U',Vec w0 h' 4 r (n + 1) (cs.take (i * 4)++e++cs.drop (i * 4)) U'∧Step h h' U U') ∨
   ∃ u cs',r=.slice (some ⟨u,0,none⟩) (n + 1) q0b∧U=[u]∧w0.heap.size≤u∧u < h'.next∧h'.blk u=some cs'∧h'.esz u=4∧(n + 1) * 4≤cs'.length∧cs'.take ((n + 1) * 4)=cs.take (i * 4)++e++cs.drop (i * 4)∧Step h h' [u] [u]:=by
  refine qf.of_fit (by simpa using hj) λ f=>q00y (by simpa using hj) ?_
  obtain ⟨a,c,ex⟩:=v.slice
  have elx:q05 x=some (.int .i64 (n:Int)):=by rw [ex]; rfl
  have e1:IntKind.i64.wrap ((n:Int) + 1)=((n + 1:Nat):Int):=by rw [IntWalk.i64_in _ (by omega)]; simp
  have e2:IntKind.i64.wrap ((i:Int) + 1)=((i + 1:Nat):Int):=by rw [IntWalk.i64_in _ (by omega)]; simp
  have c0:((((1:Nat):Int)) == 0)=false:=rfl
  simp only [qnf]
  refine v.sl.cutN (lo:=i) (hi:=n) q2a (by rw [q2s]) hi (Nat.le_refl _) λ _ _ _ _=>?_
  simp only [elx,wd, wa,c0]
  by_cases hin:i=n
  ·have c1:((i:Int) == (n:Int))=true:=by rw [beq_iff_eq]; omega
   simp only [c1,wd, wa]
   refine qfs f.base v (m:=1) (by omega) rfl (hysrc hqb) (by omega) (by omega) (by omega) (by omega) λ x' h' S' v' st=>?_
   simp only [qu,q06]
   refine ⟨by obtain ⟨a,c,e⟩:=v'.slice; rw [e]; simp [junk],.inl ⟨S',?_,st⟩⟩
   have:cs.take (i * 4)++e++cs.drop (i * 4)=cs++e:=by rw [List.take_of_length_le (by omega),List.drop_of_length_le (by omega),List.append_nil]
   rw [this]
   exact v'
  ·have c1:((i:Int) == (n:Int))=false:=by rw [beq_eq_false_iff_ne]; omega
   simp only [c1,wd, wa]
   have hilt:i < n:=by omega
   obtain ⟨u,rfl,rfl,hu,hun,hub,hue,-⟩:∃ u,x=.slice (some ⟨u,0,none⟩) n q0b∧U=[u]∧w0.heap.size≤u∧u < h.next∧h.blk u=some cs∧h.esz u=4∧cs.length=n * 4:=by
    rcases hv (by omega) with ⟨-,q0,-,-⟩ | q0
    ·omega
    ·exact q0
   have hqu:q≠u:=by simpa using hqU
   refine ⟨_,n,q0b,rfl,?_⟩
   rw [if_pos rfl]
   refine ⟨by omega,u,0,cs,rfl,hu,hub,by omega,hue,λ c' hc' hc2=>?_⟩
   have hcn:((1:Nat):Int)=1:=rfl
   have hi1:(i + 1) * 4=i * 4 + 4:=by omega
   obtain ⟨h1,hh1⟩:∃ h1,h1=h.fill u (0 + c' * 4) cs:=⟨_,rfl⟩
   have g1:h1.blk u=some (cs++List.replicate (c' * 4 - cs.length) unk):=by rw [hh1]; simp [Hp.fill]
   have g2:h1.esz u=4:=by rw [hh1]; exact hue
   have g3:h1.cp u=some (c' * 4):=by rw [hh1]; simp [Hp.fill]
   have g4:h1.blk q=some e:=by rw [hh1]; simp [Hp.fill,hqu,hqb]
   have g5:h1.next=h.next:=by rw [hh1]; rfl
   have g6:Step h h1 [u] [u]:=by
    rw [hh1]
    refine ⟨Nat.le_refl _,λ b hb hs=>⟨?_,rfl⟩,λ b hb=>⟨by simp at hb; subst hb; exact hun,.inl hb⟩,rfl⟩
    have:b≠u:=by simpa using hs
    simp [Hp.fill,this]
   have g7:h1.esz q=4:=by rw [hh1]; exact hqe
   rw [← hh1]
   have hlc:(cs++List.replicate (c' * 4 - cs.length) unk).length=c' * 4:=by simp; omega
   simp only [wd, wa,e1,hcn]
   by_cases hroom:c' < n + 1
   ·have c2:decide ((c':Int) < ((n + 1:Nat):Int))=true:=decide_eq_true (by omega)
    have e3:IntKind.i64.wrap (((n + 1:Nat):Int) - (i:Int))=((n + 1 - i:Nat):Int):=by rw [IntWalk.i64_in _ (by omega)]; omega
    simp only [wd, wa,c2,e3]
    refine q33 (l:=0) (u:=i) rfl q2a (Nat.zero_le _) g1 g2 (by omega) (by rw [hlc]; omega) ?_
    rw [Nat.zero_mul,Nat.zero_add,Nat.sub_zero]
    have hold:h1.getN ⟨u,0,none⟩ (i * 4)=some (cs.take (i * 4)):=by
     rw [q6e,g1,Option.bind_some,if_pos (by rw [hlc]; omega),List.drop_zero,List.take_append_of_le_length (by omega)]
    refine ⟨u,0,i,n + 1 - i,c' * 4,.i64,cs.take (i * 4),rfl,rfl,by omega,hu,hold,g2,g3,by omega,by omega,by omega,?_⟩
    rw [show i + (n + 1 - i)=n + 1 by omega]
    have hzl:(q00 [(.string .empty),(.string .empty),(.string .empty),(.bool false)] (n + 1 - i)).length=(n + 1 - i) * 4:=by rw [qab]; rfl
    obtain ⟨cs2,hcs2⟩:∃ cs2,cs2=cs.take (i * 4)++q00 [(.string .empty),(.string .empty),(.string .empty),(.bool false)] (n + 1 - i):=⟨_,rfl⟩
    have hcl2:cs2.length=(n + 1) * 4:=by rw [hcs2,List.length_append,hzl,List.length_take]; omega
    rw [← hcs2]
    obtain ⟨h2,hh2⟩:∃ h2,h2=h1.new cs2 4:=⟨_,rfl⟩
    have k1:h2.blk h1.next=some cs2:=by rw [hh2]; simp
    have k2:h2.esz h1.next=4:=by rw [hh2]; simp
    have k3:h2.blk u=some (cs++List.replicate (c' * 4 - cs.length) unk):=by rw [hh2,q3a,if_neg (by omega)]; exact g1
    have hqn:q < h.next:=f.lt _ _ hqb
    have k4:h2.blk q=some e:=by rw [hh2,q3a,if_neg (by omega)]; exact g4
    have k5:h2.esz u=4:=by rw [hh2,qzg,if_neg (by omega)]; exact g2
    have k6:Step h1 h2 [u] [h1.next,u]:=by rw [hh2]; exact (Step.refl h1 [u] (by simp; omega)).new _ _
    have hbn:w0.heap.size≤h1.next:=by rw [g5]; exact f.base
    rw [← hh2]
    refine q33 (l:=i) (u:=n + 1) q2a (by rw [q2s]) (by omega) k1 k2 (by omega) (by omega) ?_
    refine ⟨_,_,_,1,rfl,rfl,λ q0=>by omega,λ q0=>⟨h1.next,0 + i * 4,cs2,e,rfl,hbn,k1,by omega,?_,?_⟩⟩
    ·rw [show min 1 (n + 1 - i)=1 by omega]
     exact hysrc k4
    obtain ⟨cs3,hcs3⟩:∃ cs3,cs3=splice cs2 (0 + i * 4) e:=⟨_,rfl⟩
    have hcl3:cs3.length=(n + 1) * 4:=by rw [hcs3,q67 (by omega)]; exact hcl2
    rw [← hcs3]
    obtain ⟨h3,hh3⟩:∃ h3,h3=h2.put h1.next cs3:=⟨_,rfl⟩
    have m1:h3.blk h1.next=some cs3:=by rw [hh3]; simp
    have m2:h3.esz h1.next=4:=by rw [hh3]; exact k2
    have m3:h3.blk u=some (cs++List.replicate (c' * 4 - cs.length) unk):=by rw [hh3,q17,if_neg (by omega)]; exact k3
    have m5:h3.esz u=4:=by rw [hh3]; exact k5
    have m6:Step h1 h3 [u] [h1.next,u]:=by rw [hh3]; exact k6.put (by simp) _
    rw [← hh3]
    simp only [wd, wa,e2]
    refine q33 (l:=i + 1) (u:=n + 1) q2a (by rw [q2s]) (by omega) m1 m2 (by omega) (by omega) ?_
    refine q33 (l:=i) (u:=n) q2a (by rw [q2s]) (by omega) m3 m5 (by omega) (by rw [hlc]; omega) ?_
    simp only [wd, wa]
    refine ⟨_,_,_,n - i,rfl,rfl,λ q0=>by omega,λ q0=>⟨h1.next,(i + 1) * 4,cs3,cs.drop (i * 4),rfl,hbn,m1,by omega,?_,?_⟩⟩
    ·rw [show min (n - i) (n + 1 - (i + 1))=n - i by omega]
     have:=q7e (w0:=w0) (h:=h3) (s:=4) (n:=n - i) (o:=0 + i * 4) (c:=q0b) hu m3 (by rw [hlc]; omega)
     rw [List.drop_append_of_le_length (by omega),List.take_append_of_le_length (by simp; omega),List.take_of_length_le (by simp; omega),Nat.zero_add] at this
     exact this
    simp only [wd, wa,qu,q06]
    refine ⟨by simp [junk],.inl ⟨[h1.next],.inr ⟨h1.next,rfl,rfl,hbn,?_,?_,m2,?_⟩,?_⟩⟩
    ·have:=m6.1; have:=(m6.own h1.next (by simp)).1; simpa using this
    ·rw [q17,if_pos rfl]
     congr 1
     have:=q00f (A:=cs.take (i * 4)) (B:=cs.drop (i * 4)) (Z:=q00 [(.string .empty),(.string .empty),(.string .empty),(.bool false)] (n + 1 - i)) (e:=e) (by rw [hzl,List.length_drop]; omega)
     rw [show (cs.take (i * 4)).length=i * 4 by simp; omega,he,← hcs2] at this
     rw [hcs3,Nat.zero_add,hi1]
     exact this
    ·simp only [List.length_append,List.length_take,List.length_drop]; omega
    ·exact ((g6.trans m6).put (by simp) _).less (by simp)
   ·have c2:decide ((c':Int) < ((n + 1:Nat):Int))=false:=decide_eq_false (by omega)
    simp only [wd, wa,c2]
    refine q33 (l:=0) (u:=n + 1) rfl q2a (Nat.zero_le _) g1 g2 (by omega) (by rw [hlc]; omega) ?_
    rw [Nat.zero_mul,Nat.zero_add,Nat.sub_zero]
    simp only [wd, wa,e2]
    refine q33 (l:=i + 1) (u:=n + 1) q2a (by rw [q2s]) (by omega) g1 g2 (by omega) (by rw [hlc]; omega) ?_
    refine .inl ⟨q015,q,0,1,1,u,_,_,_,e,_,rfl,rfl,hqu,hq,hu,g4,g1,by omega,by rw [hlc]; omega,by omega,by omega,.inr (by rw [g7]; omega),?_⟩
    simp only [wd, wa,e2]
    refine q33 (l:=i + 1) (u:=n + 1) q2a (by rw [q2s]) (by omega) g1 g2 (by omega) (by rw [hlc]; omega) ?_
    refine q33 (l:=i) (u:=n + 1) q2a (by rw [q2s]) (by omega) g1 g2 (by omega) (by rw [hlc]; omega) ?_
    simp only [wd, wa]
    refine ⟨_,_,_,n + 1 - i,rfl,rfl,λ q0=>by omega,λ q0=>⟨u,(i + 1) * 4,_,cs.drop (i * 4),rfl,hu,g1,by rw [hlc]; omega,?_,?_⟩⟩
    ·rw [show min (n + 1 - i) (n + 1 - (i + 1))=n - i by omega]
     have:=q7e (w0:=w0) (h:=h1) (s:=4) (n:=n - i) (o:=0 + i * 4) (c:=q0b) hu g1 (by rw [hlc]; omega)
     rw [List.drop_append_of_le_length (by omega),List.take_append_of_le_length (by simp; omega),List.take_of_length_le (by simp; omega),Nat.zero_add] at this
     exact ⟨by omega,this.2⟩
    obtain ⟨cs3,hcs3⟩:∃ cs3,cs3=splice (cs++List.replicate (c' * 4 - cs.length) unk) ((i + 1) * 4) (cs.drop (i * 4)):=⟨_,rfl⟩
    have hcl3:cs3.length=c' * 4:=by rw [hcs3,q67 (by rw [hlc]; simp; omega)]; exact hlc
    rw [← hcs3]
    obtain ⟨h3,hh3⟩:∃ h3,h3=h1.put u cs3:=⟨_,rfl⟩
    have m1:h3.blk u=some cs3:=by rw [hh3]; simp
    have m2:h3.esz u=4:=by rw [hh3]; exact g2
    have m4:h3.blk q=some e:=by rw [hh3,q17,if_neg hqu]; exact g4
    rw [← hh3]
    refine q33 (l:=i) (u:=n + 1) q2a (by rw [q2s]) (by omega) m1 m2 (by omega) (by omega) ?_
    refine ⟨_,_,_,1,rfl,rfl,λ q0=>by omega,λ q0=>⟨u,0 + i * 4,cs3,e,rfl,hu,m1,by omega,?_,?_⟩⟩
    ·rw [show min 1 (n + 1 - i)=1 by omega]
     exact hysrc m4
    simp only [wd, wa,qu,q06]
    refine ⟨by simp [junk],.inr ⟨u,splice cs3 (0 + i * 4) e,rfl,rfl,hu,?_,by simp,m2,?_,?_,?_⟩⟩
    ·rw [hh3]; simp; omega
    ·rw [q67 (by omega)]; omega
    ·have:=q00j (A:=cs.take (i * 4)) (B:=cs.drop (i * 4)) (R:=List.replicate (c' * 4 - cs.length) unk) (e:=e) (by simp; omega)
     rw [show (cs.take (i * 4)).length=i * 4 by simp; omega,he,← List.append_assoc,List.take_append_drop,List.length_drop] at this
     rw [hcs3,Nat.zero_add,hi1,show (n + 1) * 4=i * 4 + 4 + (cs.length - i * 4) by omega]
     exact this
    ·have:Step h1 ((h1.put u cs3).put u (splice cs3 (0 + i * 4) e)) [u] [u]:=(((Step.refl h1 [u] (by simp; omega)).put (by simp) _).put (by simp) _)
     rw [← hh3,Nat.zero_add] at this
     exact g6.trans this
 exact main.forget λ r h' hr f'=>by
  rcases hr with hr | ⟨u,cs',rfl,rfl,hu,hun,hb,hes,hl,ht,st⟩
  ·exact .inl hr
  ·refine .inr ⟨u,cs',(n + 1) * 4,hu,hb,[u],.inr ⟨u,rfl,rfl,hu,hun,by simp [ht],hes,?_⟩,st.put (by simp) _⟩
   rw [← ht,List.length_take]
   omega
theorem q0ko {x:Value} {n:Nat} {cs:List Value} (v:Sl w0 h 4 x n cs) (hn:n≤1000000000):
  qf prog w0 qhf [x] h λ r h'=>∃ U,GV w0 h' 4 r n cs U∧(0 < n→Vec w0 h' 4 r n cs U)∧Step h h' [] U:=by
 refine qf.of_fit (by simpa using v.junk) λ f=>q010 (by simpa using v.junk) ?_
 obtain ⟨a,c,hx⟩:=v.slice
 simp only [qng]
 cases a with
 | none=>
  subst hx
  have h0:n=0∧cs=[]:=by
   rcases v.src.2 with h0 | ⟨-,ad,e,-⟩
   ·exact h0
   ·simp at e
  obtain ⟨rfl,rfl⟩:=h0
  simp only [show q3k .eql (.slice none 0 c) (.slice none 0 0)=some (.bool true) from rfl,wd, wa,qu,q06]
  exact ⟨by simp,[],.inl .nil,λ _=>.nil,.refl _ _ (by simp)⟩
 | some ad=>
  have hb:q3k .eql x (.slice none 0 0)=some (.bool false):=by rw [hx]; rfl
  simp only [hb,wd, wa]
  refine qmm f v (by omega) (by omega) (by omega) λ x' h' S' g gv st hn=>?_
  obtain ⟨a',c',hx'⟩:=g.slice
  simp only [qu,q06]
  exact ⟨by rw [hx']; simp,S',g,gv,st⟩
end
theorem qys {l:List (Key × Ent)} {i:Nat} {x:Key × Ent} (h:l[i]?=some x):((ivs l).drop (i * 4 + 1)).take 3=ee x.2:=by
 have:=qat h
 have h2:((ivs l).drop (i * 4 + 1)).take 3=(((ivs l).drop (i * 4)).take 4).drop 1:=by rw [List.drop_take,List.drop_drop]
 rw [h2,this]
 rfl
def Mp (w0:World) (h:Hp) (p:Nat) (l:List (Key × Ent)) (S:List Nat):Prop:=
 ∃ x U,h.blk p=some [x]∧GV w0 h 4 x l.length (ivs l) U∧(0 < l.length→Vec w0 h 4 x l.length (ivs l) U)∧w0.heap.size≤p∧p < h.next∧p∉U∧S=p :: U∧qv x=true
theorem q0fj {cs e:List Value} {o:Nat} {c:Value} (h:cs[o]?=some c):splice cs (o + 1) e=splice cs o (c :: e):=by
 unfold splice
 rw [List.take_add_one,h,Option.toList_some,List.length_cons,show o + 1 + e.length=o + (e.length + 1) by omega]
 simp
theorem q0ku {l:List (Key × Ent)} {i:Nat} {k:Key} {u v:Ent} (h:l[i]?=some (k,u)):splice (ivs l) (i * 4 + 1) (ee v)=ivs (l.set i (k,v)):=by
 rw [q0fj (qcs h)]
 have:=q5o q5p (xs:=l) (i:=i) [] (List.getElem?_eq_some_iff.1 h).1 (k,v)
 rw [List.append_nil,List.append_nil] at this
 exact this
theorem Sl.sub {w0:World} {h:Hp} {x:Value} {m n s i o:Nat} {k:IntKind} {ys e:List Value} {K:qh} (v:Sl w0 h s x n ys) (hi:i < n) (ho:o + m≤s) (he:(ys.drop (i * s + o)).take m=e) (hk:K (.agg e.toArray) h):
  q04 s x (.int k (i:Int)) (λ p=>qk p o λ q=>qw w0 q m K) h:=by
 obtain ⟨a,c,rfl,⟨-,hs⟩,hy,-⟩:=v
 rcases hs with ⟨h1,-⟩ | ⟨-,ad,rfl,hg,hcl⟩
 ·omega
 ·obtain ⟨hsp,cs,hb,hle,rfl⟩:=Hp.getN_some hg
  obtain ⟨b,off,sp⟩:=ad
  simp only at hsp hb hle
  subst hsp
  have hm:(i + 1) * s≤n * s:=Nat.mul_le_mul_right _ hi
  rw [Nat.add_mul,Nat.one_mul] at hm
  refine ⟨_,n,c,k,i,rfl,rfl,by omega,by omega,_,rfl,?_⟩
  rw [Int.toNat_natCast,addr_add,addr_add]
  refine ⟨_,e,rfl,?_,λ hb v hv=>hcl hb v (by rw [← he] at hv; exact List.mem_of_mem_drop (List.mem_of_mem_take hv)),hk⟩
  rw [q6e,hb,Option.bind_some,if_pos (by omega),← he]
  congr 1
  rw [List.drop_take,List.take_take,Nat.min_eq_left (by omega),List.drop_drop]
  show (cs.drop (off + i * s + o)).take m=(cs.drop (off + (i * s + o))).take m
  rw [Nat.add_assoc]
section
variable {w0:World} {h h':Hp} {p:Nat} {l:List (Key × Ent)} {S:List Nat}
theorem GV.cell {s n:Nat} {x:Value} {cs:List Value} {U:List Nat} (v:GV w0 h s x n cs U):qv x=true:=by obtain ⟨a,c,rfl⟩:=v.slice; rfl
theorem Mp.lt (m:Mp w0 h p l S):∀ b,b∈S→w0.heap.size≤b∧b < h.next:=by
 obtain ⟨x,U,a,v,_,b,c,d,rfl,_⟩:=m
 intro q hq
 rcases List.mem_cons.1 hq with rfl | hq
 ·exact ⟨b,c⟩
 ·exact v.lt q hq
theorem Mp.mem (m:Mp w0 h p l S):p∈S:=by obtain ⟨x,U,a,v,_,b,c,d,rfl,_⟩:=m; simp
theorem Mp.frame (m:Mp w0 h p l S) {T T':List Nat} (st:Step h h' T T') (hd:∀ b,b∈S→b∉T):Mp w0 h' p l S:=by
 obtain ⟨x,U,a,v,v',b,c,d,rfl,e⟩:=m
 exact ⟨x,U,by rw [(st.keep p c (hd p (by simp))).1]; exact a,v.frame st (λ q hq=>hd q (by simp [hq])),λ h0=>(v' h0).frame st (λ q hq=>hd q (by simp [hq])),b,by have:=st.1; omega,d,rfl,e⟩
theorem Mp.refl (m:Mp w0 h p l S):Step h h S S:=.refl _ _ λ b hb=>(m.lt b hb).2
theorem qvw:qf prog w0 qdm [] h λ r h'=>r=ptr h.next∧Mp w0 h' h.next [] [h.next]∧Step h h' [] [h.next]:=by
 refine qf.of_fit (by simp) λ f=>q03a (by simp) ?_
 simp only [qot,q1t,q1u]
 refine ⟨_,rfl,?_⟩
 simp only [qu,q06]
 have hb:=f.base
 exact ⟨by simp,rfl,⟨.slice none 0 0,[],by simp,.inl .nil,λ _=>.nil,hb,by simp,by simp,rfl,rfl⟩,(Step.refl h [] (by simp)).new _ _⟩
theorem q0ip (m:Mp w0 h p l S):qf prog w0 qhs [ptr p] h λ r h'=>r=.int .i64 (l.length:Int)∧h'=h:=by
 refine qf.of_fit (by simp [ptr]) λ f=>q02y (by simp [ptr]) ?_
 obtain ⟨x,U,a,v,v',b,c,d,rfl,e⟩:=m
 obtain ⟨ax,cx,ex⟩:=v.slice
 have elx:q05 x=some (.int .i64 (l.length:Int)):=by rw [ex]; rfl
 have c0:q1g .eql (.pointer (some ⟨p,0,none⟩)) (.pointer none)=some (.bool false):=rfl
 simp only [qok,c0,wd, wa,ptr]
 refine qj b a rfl ?_
 simp only [elx,wd, wa,qu,q06]
 exact ⟨by simp,trivial,trivial⟩
theorem qws (m:Mp w0 h p l S) (hs:Srt l) (hl:l.length≤1000000000) (k:Key):qf prog w0 qdh [ptr p,.string (str k)] h λ r h' =>
  r=.tuple #[.int .i64 (q0r l k:Int),.bool (q1x l k)]∧Step h h' [] []:=by
 refine qf.of_fit (by simp [ptr]) λ f=>q02l (by simp [ptr]) ?_
 obtain ⟨x,U,a,v,v',b,c,d,rfl,e⟩:=m
 have c0:q1g .eql (.pointer (some ⟨p,0,none⟩)) (.pointer none)=some (.bool false):=rfl
 simp only [qod,c0,wd, wa,ptr]
 refine qj b a rfl ?_
 refine qq (q0fr v.sl hl) λ r h1 ⟨e1,s1⟩ f1=>?_
 subst e1
 rw [qzn hs]
 simp only [wd, wa,qu,q19]
 exact ⟨by simp,rfl,s1⟩
def q4x (l:List (Key × Ent)) (k:Key):Option Ent:=if q1x l k=true then (l[q0r l k]?).map (·.2) else none
def q2m (l:List (Key × Ent)) (k:Key) (v:Ent):List (Key × Ent):=if q1x l k=true then l.set (q0r l k) (k,v) else l.take (q0r l k)++(k,v) :: l.drop (q0r l k)
theorem q98 {l:List (Key × Ent)} {k:Key} (h:q1x l k=true):∃ v:Ent,l[q0r l k]?=some (k,v):=by
 unfold q1x q25 at h
 split at h
 ·rename_i x e
  have:=of_decide_eq_true h
  exact ⟨x.2,by rw [e,← this]⟩
 ·cases h
theorem qh4 (o:Option Ent):(eo o).length=3:=by unfold eo; split <;> rfl
theorem q2b:∀ v,v∈zE→qv v=true:=by simp [zE,qv]
theorem q0ik (m:Mp w0 h p l S) (hs:Srt l) (hl:l.length≤1000000000) (k:Key):qf prog w0 qhr [ptr p,.string (str k)] h λ r h' =>
  r=.tuple #[.agg (eo (q4x l k)).toArray,.bool (q1x l k)]∧Step h h' [] []:=by
 refine qf.of_fit (by simp [ptr]) λ f=>q031 (by simp [ptr]) ?_
 simp only [qoi,q2t]
 refine ⟨q2b,q2b,?_⟩
 have fb:=f.base
 have s0:Step h ((h.new zE 3).new zE 3) [] [h.next]:=(((Step.refl h [] (by simp)).new zE 3).new zE 3).less (by simp)
 have f0:Fit w0 ((h.new zE 3).new zE 3):=(f.new q2b).new q2b
 have hne:h.next≠h.next + 1:=by omega
 have b1:((h.new zE 3).new zE 3).blk h.next=some zE:=by simp [hne]
 have b2:((h.new zE 3).new zE 3).blk (h.next + 1)=some zE:=by simp
 have n1:((h.new zE 3).new zE 3).next=h.next + 2:=rfl
 show qi _ _ _ _ _ ((h.new zE 3).new zE 3)
 rw [show (h.new [Value.string ByteArray.empty,.string .empty,.bool false] 3).next=h.next + 1 from rfl]
 generalize (h.new zE 3).new zE 3=h0 at *
 refine qq (qws (m.frame s0 (by simp)) hs hl k) λ r h1 ⟨e1,s1⟩ f1=>?_
 subst e1
 have b3:h1.blk h.next=some zE:=by rw [(s1.keep _ (by omega) (by simp)).1]; exact b1
 have b4:h1.blk (h.next + 1)=some zE:=by rw [(s1.keep _ (by omega) (by simp)).1]; exact b2
 have s01:Step h h1 [] [h.next]:=s0.trans (s1.keepS (by simp; omega))
 have fin:∀ (e:List Value) (t:Bool),e.length=3→q0k w0 (.pointer (some ⟨h.next,0,none⟩)) (.agg e.toArray) 3 (λ _=>qw w0 (.pointer (some ⟨h.next,0,none⟩)) 3 λ v4=>qo [v4,(.bool t)] (λ r h' =>
  r=.tuple #[.agg e.toArray,.bool t]∧Step h h' [] [])) h1:=λ e t he=>by
  refine q4l fb b3 rfl he ?_
  refine q16 fb (by simp) he ?_
  simp only [qu,q19]
  exact ⟨by simp,trivial,(s01.put (by simp) _).less (by simp)⟩
 obtain ⟨x,U,a,v,v',b,c,d,rfl,e⟩:=(m.frame s0 (by simp)).frame s1 (by simp)
 simp only [wd, wa]
 cases hh:q1x l k with
 | false=>
  have hg:q4x l k=none:=by unfold q4x; rw [hh]; rfl
  simp only [wd, wa]
  refine q16 (by omega) b4 rfl ?_
  rw [hg]
  exact fin zE false rfl
 | true=>
  obtain ⟨u,hu⟩:=q98 hh
  have hg:q4x l k=some u:=by unfold q4x; rw [hh,hu]; rfl
  rw [hg]
  simp only [wd, wa,ptr]
  refine qj b a rfl ?_
  refine v.sl.sub (o:=1) (m:=3) (List.getElem?_eq_some_iff.1 hu).1 (by omega) (e:=ee u) (qys hu) ?_
  exact fin (ee u) true rfl
theorem q0k2 (m:Mp w0 h p l S) (hs:Srt l) (hl:l.length≤100000000) (k:Key) (v:Ent):qf prog w0 qhp [ptr p,.string (str k),.agg (ee v).toArray] h λ r h' =>
  r=.tuple #[.agg (eo (q4x l k)).toArray,.bool (q1x l k)]∧∃ S',Mp w0 h' p (q2m l k v) S'∧Step h h' S S':=by
 refine qf.of_fit (by simp [ptr]) λ f=>q02x (by simp [ptr]) ?_
 have c0:q1g .eql (.pointer (some ⟨p,0,none⟩)) (.pointer none)=some (.bool false):=rfl
 simp only [qom,q2t,q4c]
 refine ⟨q2b,q2b,?_⟩
 have fb:=f.base
 have s0:Step h (((h.new (ee v) 3).new zE 3).new zE 3) [] [h.next,h.next + 1,h.next + 2]:=((((Step.refl h [] (by simp)).new (ee v) 3).new zE 3).new zE 3).less (λ b hb=>by
  simp at hb ⊢
  rcases hb with rfl | rfl | rfl
  ·simp
  ·simp
  ·simp)
 have f0:Fit w0 (((h.new (ee v) 3).new zE 3).new zE 3):=((f.new (by simp [ee,qv])).new q2b).new q2b
 have hne1:h.next≠h.next + 1:=by omega
 have hne2:h.next≠h.next + 1 + 1:=by omega
 have hne3:h.next + 1≠h.next + 1 + 1:=by omega
 have b5:(((h.new (ee v) 3).new zE 3).new zE 3).blk h.next=some (ee v):=by simp [hne1,hne2]
 have b6:(((h.new (ee v) 3).new zE 3).new zE 3).blk (h.next + 1)=some zE:=by simp [hne3]
 have b8:(((h.new (ee v) 3).new zE 3).new zE 3).blk (h.next + 2)=some zE:=by simp
 have n0:(((h.new (ee v) 3).new zE 3).new zE 3).next=h.next + 3:=rfl
 show qb _ _ (((h.new (ee v) 3).new zE 3).new zE 3)
 rw [show (h.new (ee v).toArray.toList 3).next=h.next + 1 from rfl,show ((h.new (ee v).toArray.toList 3).new [Value.string ByteArray.empty,.string .empty,.bool false] 3).next=h.next + 2 from rfl]
 generalize ((h.new (ee v) 3).new zE 3).new zE 3=h0 at *
 simp only [c0,ptr,wd, wa]
 refine qq (qws (m.frame s0 (by simp)) hs (by omega) k) λ r h1 ⟨e1,s1⟩ f1=>?_
 subst e1
 have k1:=λ b (hb:b < h0.next)=>(s1.keep b hb (by simp)).1
 have b51:h1.blk h.next=some (ee v):=by rw [k1 _ (by omega)]; exact b5
 have b61:h1.blk (h.next + 1)=some zE:=by rw [k1 _ (by omega)]; exact b6
 have b81:h1.blk (h.next + 2)=some zE:=by rw [k1 _ (by omega)]; exact b8
 have m1:=(m.frame s0 (by simp)).frame s1 (by simp)
 have n01:=s1.1
 have hlt:=λ b hb=>(m.lt b hb).2
 have sS:Step h h1 S (S++[h.next + 1]):=by
  refine ⟨by omega,λ b hb hn=>?_,λ b hb=>?_,by rw [s1.lp,s0.lp]⟩
  ·obtain ⟨e1,e2⟩:=s1.keep b (by omega) (by simp)
   obtain ⟨e3,e4⟩:=s0.keep b hb (by simp)
   exact ⟨e1.trans e3,e2.trans e4⟩
  ·rcases List.mem_append.1 hb with q | q
   ·exact ⟨by have:=hlt b q; omega,.inl q⟩
   ·simp at q; exact ⟨by omega,.inr (by omega)⟩
 obtain ⟨x,U,a,g,g',b,c,d,hSe,e⟩:=m1
 have hpl:p < h.next:=hlt p (by rw [hSe]; simp)
 have hUl:∀ b,b∈U→b < h.next:=λ b hb=>hlt b (by rw [hSe]; simp [hb])
 have fin:∀ (hX:Hp) (o:Option Ent) (t:Bool) (l':List (Key × Ent)) (S':List Nat),hX.blk (h.next + 1)=some zE→h.next + 1 < hX.next→Mp w0 hX p l' S'→h.next + 1∉S'→Step h hX S (S'++[h.next + 1])→
   q0k w0 (.pointer (some ⟨h.next + 1,0,none⟩)) (.agg (eo o).toArray) 3 (λ _=>qw w0 (.pointer (some ⟨h.next + 1,0,none⟩)) 3 λ v6=>qo [v6,.bool t] λ r h'=>r=.tuple #[.agg (eo o).toArray,.bool t]∧∃ S',Mp w0 h' p l' S'∧Step h h' S S') hX:=by
  intro hX o t l' S' hb hlt6 hm hn6 st
  refine q4l (by omega) hb rfl (qh4 o) ?_
  refine q16 (by omega) (by simp) (qh4 o) ?_
  simp only [qu,q19]
  have sp:Step hX (hX.put (h.next + 1) (eo o)) [h.next + 1] [h.next + 1]:=(Step.refl hX [h.next + 1] (by simpa using hlt6)).put (by simp) _
  exact ⟨by simp,trivial,S',hm.frame sp (λ b hb q=>by simp at q; subst q; exact hn6 hb),(st.put (by simp) _).less λ b hb=>List.mem_append_left _ hb⟩
 simp only [wd, wa]
 cases hh:q1x l k with
 | true=>
  obtain ⟨u,hu⟩:=q98 hh
  have hil:=(List.getElem?_eq_some_iff.1 hu).1
  have hg:q4x l k=some u:=by unfold q4x; rw [hh,hu]; rfl
  rw [hg]
  simp only [wd, wa]
  refine qj b a rfl ?_
  refine g.sl.sub (o:=1) (m:=3) hil (by omega) (e:=ee u) (qys hu) ?_
  refine q2f f1.base rfl rfl q2b ?_
  have sx:Step h1 (h1.new (ee u) 3) [] [h1.next]:=(Step.refl h1 [] (by simp)).new _ _
  have bx:(h1.new (ee u) 3).blk h1.next=some (ee u):=by simp
  have x5:(h1.new (ee u) 3).blk h.next=some (ee v):=by rw [(sx.keep _ (by omega) (by simp)).1]; exact b51
  have x6:(h1.new (ee u) 3).blk (h.next + 1)=some zE:=by rw [(sx.keep _ (by omega) (by simp)).1]; exact b61
  have xa:(h1.new (ee u) 3).blk p=some [x]:=by rw [(sx.keep _ c (by simp)).1]; exact a
  have xg:0 < l.length→Vec w0 (h1.new (ee u) 3) 4 x l.length (ivs l) U:=λ h0=>(g' h0).frame sx (by simp)
  have nx:(h1.new (ee u) 3).next=h1.next + 1:=rfl
  have ssx:Step h (h1.new (ee u) 3) S (S++[h.next + 1]):=(sS.new (ee u) 3).less λ b hb=>List.mem_cons_of_mem _ hb
  generalize h1.new (ee u) 3=h2 at *
  refine qj b xa rfl ?_
  refine q16 fb x5 rfl ?_
  obtain ⟨q,rfl,rfl,hq,hqn,hqb,hqe,hql⟩:∃ q,x=.slice (some ⟨q,0,none⟩) l.length q0b∧U=[q]∧w0.heap.size≤q∧q < h2.next∧h2.blk q=some (ivs l)∧h2.esz q=4∧(ivs l).length=l.length * 4:=by
   rcases xg (by omega) with ⟨-,q0,-,-⟩ | q0
   ·omega
   ·exact q0
  have hq1:q < h.next:=hUl q (by simp)
  refine ⟨_,_,_,_,_,rfl,rfl,by omega,by omega,?_⟩
  simp only [wd, wa,Int.toNat_natCast]
  refine ⟨q,_,ivs l,(ee v).toArray,rfl,hq,rfl,rfl,hqb,by omega,?_⟩
  rw [show (ee v).toArray.toList=ee v from rfl,q0ku hu]
  have hpq:p≠q:=by simpa using d
  have e3:q2m l k v=l.set (q0r l k) (k,v):=by unfold q2m; rw [hh,if_pos rfl]
  have sp:Step h2 (h2.put q (ivs (l.set (q0r l k) (k,v)))) [q] [q]:=(Step.refl h2 [q] (by simpa using hqn)).put (by simp) _
  have y11:(h2.put q (ivs (l.set (q0r l k) (k,v)))).blk h1.next=some (ee u):=by rw [q17,if_neg (by omega)]; exact bx
  have y6:(h2.put q (ivs (l.set (q0r l k) (k,v)))).blk (h.next + 1)=some zE:=by rw [q17,if_neg (by omega)]; exact x6
  refine q16 f1.base y11 rfl ?_
  have hv:Vec w0 (h2.put q (ivs (l.set (q0r l k) (k,v)))) 4 (.slice (some ⟨q,0,none⟩) l.length q0b) (q2m l k v).length (ivs (q2m l k v)) [q]:=by
   rw [e3,List.length_set]
   exact .inr ⟨q,rfl,rfl,hq,hqn,by simp,hqe,by rw [qwj,List.length_set]⟩
  subst hSe
  exact fin _ (some u) true (q2m l k v) [p,q] y6 (by simp; omega) ⟨_,[q],by rw [q17,if_neg hpq]; exact xa,.inl hv,λ _=>hv,b,by simp; omega,d,rfl,rfl⟩ (by simp; omega) (ssx.put (by simp) _)
 | false=>
  have hg:q4x l k=none:=by unfold q4x; rw [hh]; rfl
  rw [hg]
  simp only [wd, wa]
  refine qj b a rfl ?_
  refine q16 fb b51 rfl ?_
  have hz:q00 [(.string .empty:Value),.string .empty,.string .empty,.bool false] 1=[.string .empty,.string .empty,.string .empty,.bool false]:=rfl
  simp only [q2w,q28,q1u,q95,List.set_cons_zero,List.set_cons_succ,q3s,hz,q3o,q32,q4n]
  have hsp:splice [(.string .empty:Value),.string .empty,.string .empty,.bool false] 0 (splice [.string (str k),.string .empty,.string .empty,.bool false] 1 (ee v))=iv (k,v):=rfl
  rw [hsp]
  have ss:Step h1 (h1.new (iv (k,v)) 4) [] [h1.next]:=(Step.refl h1 [] (by simp)).new _ _
  have xa:(h1.new (iv (k,v)) 4).blk p=some [x]:=by rw [(ss.keep _ c (by simp)).1]; exact a
  refine ⟨rfl,by simp,rfl,by simp,qj b a rfl rfl,rfl,by simp,qj b xa rfl rfl,?_⟩
  have g2:=g.frame ss (by simp)
  have hU:h1.next∉U:=λ q=>by have:=(g.lt _ q).2; omega
  have hle:=qao l k
  refine qq (q0iq (i:=q0r l k) (e:=iv (k,v)) g2 (λ h0=>(g' h0).frame ss (by simp)) hle (by omega) f1.base (by simp) (by simp) rfl hU) λ r h3 ⟨U3,v3,s3⟩ f3=>?_
  have hb3:h3.blk p=some [x]:=by rw [(s3.keep p (by simp; omega) d).1]; exact xa
  have hrc:qv r=true:=by obtain ⟨q1,q2,q3⟩:=v3.slice; rw [q3]; rfl
  have n3:=s3.1
  simp only [qci] at n3
  refine q21 b hb3 (by simp) hrc ?_
  simp only [List.set_cons_zero]
  have own3:∀ q,q∈U3→q∈U∨h1.next < q:=λ q hq=>by
   rcases (s3.own q hq).2 with r | r
   ·exact .inl r
   ·simp at r; exact .inr (by omega)
  have hpU3:p∉U3:=λ q=>by
   rcases own3 p q with q | q
   ·exact d q
   ·omega
  have e3:q2m l k v=l.take (q0r l k)++(k,v) :: l.drop (q0r l k):=by unfold q2m; rw [hh,if_neg (by simp)]
  have e4:(ivs l).take (q0r l k * 4)++iv (k,v)++(ivs l).drop (q0r l k * 4)=ivs (q2m l k v):=by
   rw [e3,q0ky,qy4,ivs,ivs,ivs,List.flatMap_append,List.flatMap_cons,List.append_assoc]
  have e5:l.length + 1=(q2m l k v).length:=by rw [e3]; simp; omega
  rw [e4,e5] at v3
  have v4:=v3.put hpU3 [r]
  have nU6:h.next + 1∉U:=λ q=>by have:=hUl _ q; omega
  have nU8:h.next + 2∉U:=λ q=>by have:=hUl _ q; omega
  have x6:h3.blk (h.next + 1)=some zE:=by rw [(s3.keep _ (by simp; omega) nU6).1,(ss.keep _ (by omega) (by simp)).1]; exact b61
  have x8:h3.blk (h.next + 2)=some zE:=by rw [(s3.keep _ (by simp; omega) nU8).1,(ss.keep _ (by omega) (by simp)).1]; exact b81
  have y6:(h3.put p [r]).blk (h.next + 1)=some zE:=by rw [q17,if_neg (by omega)]; exact x6
  have y8:(h3.put p [r]).blk (h.next + 2)=some zE:=by rw [q17,if_neg (by omega)]; exact x8
  refine q16 (by omega) y8 rfl ?_
  subst hSe
  have nS6:h.next + 1∉p :: U3:=λ q=>by
   rcases List.mem_cons.1 q with q | q
   ·omega
   ·rcases own3 _ q with q | q
    ·exact nU6 q
    ·omega
  have stX:Step h (h3.put p [r]) (p :: U) ((p :: U3)++[h.next + 1]):=by
   refine ⟨by simp; omega,λ b hb hn=>?_,λ b hb=>?_,?_⟩
   ·obtain ⟨z1,z2⟩:=s3.keep b (by simp; omega) (λ q=>hn (by simp [q]))
    obtain ⟨z3,z4⟩:=ss.keep b (by omega) (by simp)
    obtain ⟨z5,z6⟩:=sS.keep b hb hn
    refine ⟨?_,?_⟩
    ·rw [q17,if_neg (λ q=>hn (by simp [q]))]
     exact z1.trans (z3.trans z5)
    ·exact z2.trans (z4.trans z6)
   ·rcases List.mem_append.1 hb with q | q
    ·rcases List.mem_cons.1 q with rfl | q
     ·exact ⟨by simp; omega,.inl (by simp)⟩
     ·refine ⟨(s3.own b q).1,?_⟩
      rcases own3 b q with r | r
      ·exact .inl (by simp [r])
      ·exact .inr (by omega)
    ·simp at q
     subst q
     exact ⟨by simp; omega,.inr (by omega)⟩
   ·have:=s3.lp
    have e1:=ss.lp
    have e2:=sS.lp
    exact this.trans (e1.trans e2)
  exact fin _ none false (q2m l k v) (p :: U3) y6 (by simp; omega) ⟨r,U3,by simp,.inl v4,λ _=>v4,b,by simp; omega,hpU3,rfl,hrc⟩ nS6 stX
end
def zI:List Value:=[.string .empty,.string .empty,.string .empty,.bool false]
theorem qgq:∀ v,v∈zI→qv v=true:=by simp [zI,qv]
section
variable {w0:World} {h:Hp}
theorem q9a {b o m:Nat} {cs e:List Value} {K:qh} (hB:w0.heap.size≤b) (hb:h.blk b=some cs) (he:if o + m≤cs.length then (cs.drop o).take m=e else False) (hk:K (.agg e.toArray) h):qw w0 (.pointer (some ⟨b,o,none⟩)) m K h:=by
 split at he
 ·rename_i hl
  rw [qlg]
  exact ⟨e,by rw [q6e,hb,Option.bind_some,if_pos hl,he],λ q=>by omega,hk⟩
 ·exact he.elim
theorem q0k3 {a keep:Value} (ha:a≠junk) (hac:qv a=true) (hk:keep≠junk) (hkc:qv keep=true):qf prog w0 qho [a,keep] h λ r h'=>∃ q1 q2,r=.func (.func qb6) #[] #[ptr q1,ptr q2]∧
  h'.blk q1=some [a]∧h'.blk q2=some [keep]∧h.next≤q1∧h.next≤q2∧q1 < h'.next∧q2 < h'.next∧Step h h' [] []:=by
 refine qf.of_fit (by simp [ha,hk]) λ f=>q02s (by simp [ha,hk]) ?_
 simp only [qof]
 refine ⟨hac,hkc,?_⟩
 refine ⟨by simp,?_⟩
 simp only [qu,q06]
 have hne:h.next≠h.next + 1:=by omega
 exact ⟨by simp,h.next,h.next + 1,rfl,by simp,by simp,Nat.le_refl _,by omega,by simp; omega,by simp,(((Step.refl h [] (by simp)).new _ _).new _ _).less (by simp)⟩
def iA (p:Key × Ent):List Value:=[.string (str p.1),.agg (ee p.2).toArray]
def itV (l:List (Key × Ent)) (kp:Key→Bool):List (List Value):=(l.filter λ x=>kp x.1).map iA
theorem q0k1 {hh:Hp} {q2 N:Nat} {keep y xc:Value} {l:List (Key × Ent)} {kp:Key→Bool} {S U:List Nat} {C:Nat→Hp→List Nat→Prop} {D:Hp→List Nat→Prop} {R:Hp→Prop} (f:Fit w0 hh) (w2:w0.heap.size≤q2) (b2:hh.blk q2=some [keep]) (hq2:q2∉S)
  (hkp:∀ h1 S1,q09 N hh h1 S S1→∀ x,x∈l→q1n prog w0 keep [.string (str x.1)] (λ r h2=>r=.bool (kp x.1)∧Step h1 h2 [] []) h1)
  (kC:∀ i,q2h w0 N hh.next (C i)) (hl:l.length≤1000000000)
  (hstep:∀ i x h1 S1,(itV l kp)[i]?=some x→Fit w0 h1→C i h1 S1→q1n prog w0 y x (λ v h2=>∃ S2,q09 N h1 h2 S1 S2∧((v=.bool true∧C (i + 1) h2 S2)∨(v=.bool false∧D h2 S2))) h1)
  (hR:∀ h2 S2,q09 N hh h2 S S2→(C (itV l kp).length h2 S2∨D h2 S2)→R h2):
  ∀ (post pre:List (Key × Ent)) (h1:Hp) (S1:List Nat),pre++post=l→Fit w0 h1→q09 N hh h1 S S1→C (itV pre kp).length h1 S1→GV w0 h1 4 xc l.length (ivs l) U→(∀ b,b∈U→b∉S1)→
   q5v prog w0 R R (post.length + 1) y (ptr q2) xc (.int .i64 (l.length:Int)) (.int .i64 (pre.length:Int)) h1:=by
 intro post
 induction post with
 | nil=>
  intro pre h1 S1 he f1 ys c g hU
  have hpl:pre=l:=by simpa using he
  subst hpl
  rw [List.length_nil,q5v]
  simp only [qde,wd, wa,Int.lt_irrefl,decide_false]
  exact hR h1 S1 ys (.inl c)
 | cons x post ih=>
  intro pre h1 S1 he f1 ys c g hU
  have hlen:pre.length + (post.length + 1)=l.length:=by rw [← he]; simp
  have hg:l[pre.length]?=some x:=by rw [← he]; simp
  have hxl:x∈l:=by rw [← he]; simp
  have c1:decide ((pre.length:Int) < (l.length:Int))=true:=decide_eq_true (by omega)
  have e6:=wrS pre x (by omega)
  rw [List.length_cons,q5v]
  simp only [qde,wd, wa,c1]
  have hs:=g.src
  obtain ⟨ax,cx,ex⟩:=g.slice
  rw [ex] at hs
  rw [show (q5v prog w0 R R (post.length + 1) y (ptr q2) xc)=(q5v prog w0 R R (post.length + 1) y (ptr q2) (.slice ax l.length cx)) by rw [ex]]
  rw [ex]
  refine q97 hs (by omega) ?_
  rw [qat hg]
  simp only [q2t]
  refine ⟨qgq,?_⟩
  have hb1:=f1.base
  refine q4l (cs:=zI) (e:=iv x) hb1 (by simp [zI]) rfl rfl ?_
  have hne:q2≠h1.next:=by have:=f.lt _ _ b2; have:=ys.next; omega
  have hb2:h1.blk q2=some [keep]:=by rw [(ys.keep q2 (f.lt _ _ b2) hq2).1]; exact b2
  have sx:Step h1 ((h1.new zI 4).put h1.next (iv x)) [] [h1.next]:=((Step.refl h1 [] (by simp)).new _ _).put (by simp) _
  obtain ⟨hx,hhx⟩:∃ hx,hx=(h1.new zI 4).put h1.next (iv x):=⟨_,rfl⟩
  have x1:hx.blk q2=some [keep]:=by rw [hhx,q17,if_neg hne,q3a,if_neg hne]; exact hb2
  have x2:hx.blk h1.next=some (iv x):=by rw [hhx]; simp
  have fx:Fit w0 hx:=by rw [hhx]; exact (f1.new qgq).put hb1 (by simp) (by simp [iv,ee,qv])
  show qg _ _ _ ((h1.new zI 4).put h1.next (iv x))
  rw [← hhx] at sx ⊢
  have cx':C (itV pre kp).length hx S1:=(kC _).step h1 hx S1 [] [] f1 c (sx.less (by simp)) (by simp) (by simp)
  have hS1:∀ b,b∈S1→b < h1.next:=(kC _).lt h1 S1 c
  have ysx:q09 N hh hx S S1:=ys.trans ((sx.wide (T:=S1) (T':=S1) (by simp) (λ b hb=>.inr ⟨hb,hS1 b hb⟩)).y N)
  have gx:=g.frame sx (by simp)
  simp only [ptr]
  refine qj w2 x1 rfl ?_
  simp only [wd, wa]
  refine qj hb1 x2 rfl ?_
  refine q54 (hkp hx S1 ysx x hxl) λ r h2 ⟨er,s2⟩ f2=>?_
  subst er
  have c2:C (itV pre kp).length h2 S1:=(kC _).step hx h2 S1 [] [] fx cx' s2 (by simp) (by simp)
  have hS2:∀ b,b∈S1→b < hx.next:=λ b hb=>Nat.lt_of_lt_of_le (hS1 b hb) sx.1
  have ys2:q09 N hh h2 S S1:=ysx.trans ((s2.wide (T:=S1) (T':=S1) (by simp) (λ b hb=>.inr ⟨hb,hS2 b hb⟩)).y N)
  have g2:=gx.frame s2 (by simp)
  cases hk:kp x.1 with
  | false=>
   simp only [wd, wa,e6]
   have hi:itV (pre++[x]) kp=itV pre kp:=by simp [itV,hk]
   rw [← ex]
   exact ih (pre++[x]) h2 S1 (by simpa using he) f2 ys2 (by rw [hi]; exact c2) g2 hU
  | true=>
   simp only [wd, wa]
   have hi:itV (pre++[x]) kp=itV pre kp++[iA x]:=by simp [itV,hk]
   have x3:h2.blk h1.next=some (iv x):=by rw [(s2.keep h1.next (fx.lt _ _ x2) (by simp)).1]; exact x2
   refine qj hb1 x3 rfl ?_
   refine q9a (cs:=iv x) (e:=ee x.2) hb1 x3 rfl ?_
   have hxi:(itV l kp)[(itV pre kp).length]?=some (iA x):=by
    have:itV l kp=itV pre kp++([iA x]++itV post kp):=by rw [← he]; simp [itV,hk]
    rw [this,List.getElem?_append_right (Nat.le_refl _),Nat.sub_self]
    rfl
   refine q54 (hstep _ _ h2 S1 hxi f2 c2) λ r h3 ⟨S3,ys3,hv⟩ f3=>?_
   have ys4:=ys2.trans ys3
   have hU3:∀ b,b∈U→b∉S3:=λ b hb hb3=>by
    rcases (ys3.own b hb3).2 with q | q
    ·exact hU b hb q
    ·have:=(g2.lt b hb).2; omega
   have g3:GV w0 h3 4 xc l.length (ivs l) U:=(g2.frame ys3.step hU:GV w0 (h3.as h2) 4 xc l.length (ivs l) U)
   rcases hv with ⟨rfl,c3⟩ | ⟨rfl,d3⟩
   ·simp only [wd, wa,e6]
    rw [← ex]
    exact ih (pre++[x]) h3 S3 (by simpa using he) f3 ys4 (by rw [hi]; simpa using c3) g3 hU3
   ·simp only [wd, wa]
    exact hR h3 S3 ys4 (.inr d3)
theorem q0md {hh:Hp} {p q1 q2:Nat} {keep:Value} {l:List (Key × Ent)} {kp:Key→Bool} {T M:List Nat} (b1:hh.blk q1=some [ptr p]) (b2:hh.blk q2=some [keep]) (w1:w0.heap.size≤q1) (w2:w0.heap.size≤q2) (m:Mp w0 hh p l M) (hl:l.length≤1000000000)
  (hT:q1∈T∧q2∈T∧∀ b,b∈M→b∈T)
  (hkp:∀ h1,hh.next≤h1.next→(∀ b,b∈T→b < hh.next→h1.blk b=hh.blk b)→∀ x,x∈l→q1n prog w0 keep [.string (str x.1)] (λ r h2=>r=.bool (kp x.1)∧Step h1 h2 [] []) h1):
  ItC prog w0 (.func (.func qb6) #[] #[ptr q1,ptr q2]) hh T (itV l kp):=by
 intro y N S C D hy hN kC kD hstep h0 hd
 refine ⟨_,_,_,rfl,by kernel_rfl,?_⟩
 refine qf.of_fit (by simp [ptr,hy]) λ f=>q01p (by simp [ptr,hy]) ?_
 obtain ⟨x,U,a,g,g',b,c,d,rfl,e⟩:=m
 have c0:q1g .eql (.pointer (some ⟨p,0,none⟩)) (.pointer none)=some (.bool false):=rfl
 simp only [qhm,ptr]
 refine qj w1 b1 rfl ?_
 simp only [ptr,c0,wd, wa]
 refine qj w1 b1 rfl ?_
 simp only [ptr,wd, wa]
 refine qj b a rfl ?_
 refine qq (q0ko g.sl hl) λ xc h1 ⟨U1,g1,v1,s1⟩ f1=>?_
 obtain ⟨ax,cx,ex⟩:=g1.slice
 have elx:q05 xc=some (.int .i64 (l.length:Int)):=by rw [ex]; rfl
 simp only [elx,wd, wa]
 have hSlt:=(kC 0).lt hh S h0
 have ys1:q09 N hh h1 S S:=((s1.less (T:=[]) (by simp)).wide (T:=S) (T':=S) (by simp) (λ b hb=>.inr ⟨hb,hSlt b hb⟩)).y N
 have hU1:∀ b,b∈U1→hh.next≤b:=λ b hb=>by
  rcases (s1.own b hb).2 with q | q
  ·simp at q
  ·exact q
 refine ⟨l.length + 1,?_⟩
 refine q0k1 (U:=U1) (hh:=hh) (kp:=kp) (S:=S) f w2 b2 (λ q=>hd q2 q hT.2.1) (λ h2 S2 ys x hx=>hkp h2 ys.next (λ b hb hlt=>(ys.keep b hlt (λ q=>hd b q hb)).1) x hx) kC hl hstep (λ h2 S2 ys hk=>?_) l [] h1 S rfl f1 ys1 ?_ g1 (λ b hb q=>by have:=hU1 b hb; have:=hSlt b q; omega)
 ·simp only [qu]
  exact ⟨by simp,S2,ys,hk⟩
 ·exact (kC 0).step hh h1 S [] [] f h0 (s1.less (by simp)) (by simp) (by simp)
theorem q0nw (k:Key):qf prog w0 qdg [.string (str k)] h λ r h'=>r=.bool true∧Step h h' [] []:=by
 refine qf.of_fit (by simp) λ f=>q01x (by simp) ?_
 simp only [qo9,qu,q06]
 exact ⟨by simp,trivial,.refl _ _ (by simp)⟩
theorem q0kl (p:Nat):qf prog w0 qhq [ptr p] h λ r h'=>∃ q1 q2,r=.func (.func qb6) #[] #[ptr q1,ptr q2]∧h'.blk q1=some [ptr p]∧h'.blk q2=some [.func (.func qdg) #[] #[]]∧
  h.next≤q1∧h.next≤q2∧q1 < h'.next∧q2 < h'.next∧Step h h' [] []:=by
 refine qf.of_fit (by simp [ptr]) λ f=>q02w (by simp [ptr]) ?_
 simp only [qon]
 refine qq (q0k3 (by simp [ptr,junk]) rfl (by simp [junk]) rfl) λ r h1 ⟨q1,q2,e,a1,a2,a3,a4,a5,a6,s1⟩ f1=>?_
 subst e
 simp only [qu,q06]
 exact ⟨by simp,q1,q2,rfl,a1,a2,a3,a4,a5,a6,s1⟩
end
theorem qmd {l:List (Key × Ent)} (s:Srt l) (k:Key):q1x l k=true↔∃ o,o∈l∧o.1=k:=by
 constructor
 ·intro h
  obtain ⟨v,hv⟩:=q98 h
  exact ⟨_,List.mem_of_getElem? hv,rfl⟩
 ·rintro ⟨o,ho,rfl⟩
  obtain ⟨j,hj⟩:=List.getElem?_of_mem ho
  have hjl:=(List.getElem?_eq_some_iff.1 hj).1
  have hle:q0r l o.1≤j:=by
   rcases Nat.lt_or_ge j (q0r l o.1) with q | q
   ·have:=qc0 l o.1 j o q hj
    rw [q4p] at this
    cases this
   ·exact q
  have hf:l[q0r l o.1]?=some l[q0r l o.1]:=List.getElem?_eq_getElem (by omega)
  have h1:=qcm l o.1 _ hf
  unfold q1x q25
  rw [hf]
  simp only [decide_eq_true_eq]
  rcases Nat.lt_or_eq_of_le hle with q | q
  ·have:=List.pairwise_iff_getElem.1 s (q0r l o.1) j (by omega) hjl q
   have e:l[j]=o:=(List.getElem?_eq_some_iff.1 hj).2
   rw [e,h1] at this
   cases this
  ·have e:l[j]=o:=(List.getElem?_eq_some_iff.1 hj).2
   have:l[q0r l o.1]=l[j]:=by congr 1
   rw [this,e]
theorem qmb {l:List (Key × Ent)} (s:Srt l) (k:Key):q1x l k=false↔∀ o,o∈l→o.1≠k:=by
 constructor
 ·intro h o ho e
  have:=(qmd s k).2 ⟨o,ho,e⟩
  rw [h] at this
  cases this
 ·intro h
  cases e:q1x l k with
  | false=>rfl
  | true=>
   obtain ⟨o,ho,e⟩:=(qmd s k).1 e
   exact absurd e (h o ho)
theorem qgu {l:List (Key × Ent)} {k:Key} {x:(Key × Ent)} (h:x∈l.take (q0r l k)):blt x.1 k=true:=by
 obtain ⟨i,hi⟩:=List.getElem?_of_mem h
 rw [List.getElem?_take] at hi
 split at hi
 ·rename_i q
  exact qc0 l k i x q hi
 ·cases hi
theorem qzi {l:List (Key × Ent)} (s:Srt l) {k:Key} {x:(Key × Ent)} {i:Nat} (hi:q0r l k≤i) (h:x∈l.drop i):blt x.1 k=false:=by
 obtain ⟨j,hj⟩:=List.getElem?_of_mem h
 rw [List.getElem?_drop] at hj
 exact s.above (by omega) hj
theorem q0ni {l:List (Key × Ent)} (s:Srt l) {k:Key} (hn:q1x l k=false) {x:(Key × Ent)} (h:x∈l.drop (q0r l k)):blt k x.1=true:=by
 rcases qav (qzi s (Nat.le_refl _) h) with e | e
 ·exact absurd e ((qmb s k).1 hn x (List.mem_of_mem_drop h))
 ·exact e
theorem qyl {l:List (Key × Ent)} (s:Srt l) {k:Key} (hn:q1x l k=true) {x:(Key × Ent)} (h:x∈l.drop (q0r l k + 1)):blt k x.1=true:=by
 obtain ⟨v,hv⟩:=q98 hn
 obtain ⟨j,hj⟩:=List.getElem?_of_mem h
 rw [List.getElem?_drop] at hj
 obtain ⟨h1,e1⟩:=List.getElem?_eq_some_iff.1 hv
 obtain ⟨h2,e2⟩:=List.getElem?_eq_some_iff.1 hj
 have:=List.pairwise_iff_getElem.1 s _ _ h1 h2 (by omega)
 rw [e1,e2] at this
 exact this
theorem qzr (l:List (Key × Ent)) (k:Key) (v:Ent):q2m l k v=l.take (q0r l k)++(k,v) :: l.drop (if q1x l k=true then q0r l k + 1 else q0r l k):=by
 unfold q2m
 split
 ·rename_i h
  obtain ⟨u,hu⟩:=q98 h
  rw [List.set_eq_take_append_cons_drop,if_pos (List.getElem?_eq_some_iff.1 hu).1]
 ·rfl
theorem qyo {l:List (Key × Ent)} (s:Srt l) (k:Key) (v:Ent):Srt (q2m l k v):=by
 rw [qzr]
 have s1:Srt (l.take (q0r l k)):=List.Pairwise.sublist (List.take_sublist _ _) s
 have s2:∀ i,Srt (l.drop i):=λ i=>List.Pairwise.sublist (List.drop_sublist _ _) s
 have hgt:∀ x,x∈l.drop (if q1x l k=true then q0r l k + 1 else q0r l k)→blt k x.1=true:=by
  intro x hx
  cases h:q1x l k with
  | true=>rw [h,if_pos rfl] at hx; exact qyl s h hx
  | false=>rw [h,if_neg (by simp)] at hx; exact q0ni s h hx
 refine List.pairwise_append.2 ⟨s1,List.pairwise_cons.2 ⟨λ x hx=>hgt x hx,s2 _⟩,λ a ha b hb=>?_⟩
 rcases List.mem_cons.1 hb with rfl | hb
 ·exact qgu ha
 ·exact q5h (qgu ha) (hgt b hb)
theorem q0l4 (l:List (Key × Ent)) (k:Key) (v:Ent):(q2m l k v).length≤l.length + 1:=by
 unfold q2m
 have:=qao l k
 split
 ·simp
 ·simp; omega
theorem qyn {l:List (Key × Ent)} {k:Key} (hn:q1x l k=false) (v:Ent) (x:(Key × Ent)):x∈q2m l k v↔x=(k,v)∨x∈l:=by
 unfold q2m
 rw [hn,if_neg (by simp)]
 conv=>rhs; rw [← List.take_append_drop (q0r l k) l]
 simp only [List.mem_append,List.mem_cons]
 constructor
 ·rintro (q | q | q)
  ·exact .inr (.inl q)
  ·exact .inl q
  ·exact .inr (.inr q)
 ·rintro (q | q | q)
  ·exact .inr (.inl q)
  ·exact .inl q
  ·exact .inr (.inr q)
end Go.Proofs.YtfmoemconapmhaaGreat.Ah
