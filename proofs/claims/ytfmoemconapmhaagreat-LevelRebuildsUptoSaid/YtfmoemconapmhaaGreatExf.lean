/- Comparing texts; searching entries. (PRINTED by gen_Eo.py) -/
import Derived.Test.YtfmoemconapmhaaGreatExc
import Derived.Test.YtfmoemconapmhaaGreatGsl
import Derived.Test.YtfmoemconapmhaaGreatGseq
set_option linter.all false
namespace Go.Proofs.YtfmoemconapmhaaGreat.Ah
open Go
open Go Go.Proofs.Tryz
theorem qd6 {α:Type} {e:α→List Value} {s:Nat} (he:∀ a,(e a).length=s) {xs:List α} {i:Nat} {a:α} (h:xs[i]?=some a):((xs.flatMap e).drop (i * s)).take s=e a:=by
 have:=q2l he [] h
 rwa [List.append_nil] at this
def q38 (a b:Key):Int:=if blt a b=true then -1 else if blt b a=true then 1 else 0
theorem qm3 (a b:Key):decide (q38 a b < 0)=blt a b:=by
 unfold q38
 cases blt a b <;> cases blt b a <;> rfl
theorem qln (a b:Key):(q38 a b == 0)=decide (a=b):=by
 unfold q38
 cases e1:blt a b with
 | true=>rw [if_pos rfl,decide_eq_false (q4f e1)]; rfl
 | false=>
  cases e2:blt b a with
  | true=>rw [if_neg (by simp),if_pos rfl,decide_eq_false (λ e=>q4f e2 e.symm)]; rfl
  | false=>rw [if_neg (by simp),if_neg (by simp),decide_eq_true (qzc e1 e2)]; rfl
theorem qy5 (a b:UInt8) (az bs:Key):blt (a :: az) (b :: bs)=if a < b then true else if b < a then false else blt az bs:=by
 unfold blt
 rw [Op.bytesLess]
 by_cases q1:a < b
 ·simp [q1]
 ·by_cases q2:b < a
  ·have:a≠b:=λ e=>by subst e; exact q1 q2
   simp [q1,q2,this]
  ·have:a=b:=UInt8.le_antisymm (UInt8.not_lt.1 q2) (UInt8.not_lt.1 q1)
   simp [q1,q2,this]
theorem q00p:∀ a b:Key,Lib.compareBytes a b=q38 a b
 | [],[]=>rfl
 | [],b :: bs=>rfl
 | a :: az,[]=>rfl
 | a :: az,b :: bs=>by
  have q0:a < b→¬ b < a:=λ q=>UInt8.lt_asymm q
  rw [Lib.compareBytes,q00p az bs]
  unfold q38
  rw [qy5,qy5]
  by_cases q1:a < b
  ·rw [if_pos q1,if_pos q1,if_pos rfl]
  ·rw [if_neg q1,if_neg q1]
   by_cases q2:b < a
   ·rw [if_pos q2,if_pos q2,if_pos q2]; rfl
   ·rw [if_neg q2,if_neg q2,if_neg q2,if_neg q1]
section
variable {w0:World} {h:Hp}
theorem q0of:scX prog qnl:=⟨f176,by kernel_rfl,by kernel_rfl,by kernel_rfl,by kernel_rfl,by kernel_rfl⟩
theorem q08p (a b:Key):qf prog w0 qhn [.string (str a),.string (str b)] h λ r h'=>r=.int .i64 (q38 a b)∧h'=h:=by
 refine qf.of_fit (by simp) λ f=>q02e (by simp) ?_
 simp only [qob]
 refine .inr ⟨q0of,str a,str b,rfl,rfl,?_⟩
 simp only [qu,q06]
 exact ⟨by simp,by rw [← q00p]; rfl,trivial⟩
theorem q0dc (a b:Key):qf prog w0 qjy [.string (str a),.string (str b)] h λ r h'=>r=.int .i64 (q38 a b)∧h'=h:=by
 refine qf.of_fit (by simp) λ f=>q0af (by simp) ?_
 simp only [qte]
 refine qq (q08p a b) λ r h1 ⟨e,e'⟩ f1=>?_
 subst e e'
 simp only [qu,q06]
 exact ⟨by simp,trivial,trivial⟩
def kl (l:List Ent):List (Key × Ent):=l.map λ x=>(x.k,x)
def ivE (p:Key × Ent):List Value:=ee p.2
theorem qzv (p:Key × Ent):(ivE p).length=3:=rfl
theorem q3e (l:List Ent):(kl l).length=l.length:=by simp [kl]
theorem q0mw (l:List Ent):(kl l).flatMap ivE=l.flatMap ee:=by simp [kl,List.flatMap_map,ivE]
theorem q0o4 (x:Ent) (k:Key):qf prog w0 q64 [.agg (ee x).toArray,.string (str k)] h λ r h'=>r=.int .i64 (q38 x.k k)∧Step h h' [] []:=by
 refine qf.of_fit (by simp) λ f=>q0a5 (by simp) ?_
 simp only [qtd]
 refine ⟨(ee x).toArray,rfl,?_⟩
 simp only [wd, wa]
 have hb:=f.base
 refine qj (cs:=ee x) (by omega) (by simp) rfl ?_
 refine qq (q0dc x.k k) λ r h1 ⟨e,e'⟩ f1=>?_
 subst e e'
 simp only [qu,q06]
 exact ⟨by simp,trivial,((Step.refl h [] (by simp)).new _ _).less (by simp)⟩
theorem Sl.blk_lt' {s n:Nat} {x:Value} {ys:List Value} (v:Sl w0 h s x n ys) (f:Fit w0 h) (h0:0 < n):∀ b,b∈q0z x→b < h.next:=by
 obtain ⟨a,c,rfl,⟨-,hs⟩,-,-⟩:=v
 rcases hs with ⟨h1,-⟩ | ⟨-,ad,rfl,hg,-⟩
 ·omega
 ·obtain ⟨-,cs,hb,-⟩:=Hp.getN_some hg
  intro b hm
  simp [q0z] at hm
  subst hm
  exact f.lt _ _ hb
theorem q0j1 {k0:Value→Value→Value→Value→Value→Hp→Prop} {x:Value} {l:List (Key × Ent)} {k:Key} (hl:l.length≤1000000000) (hS:∀ x,x∈l→∀ h,qf prog w0 q64 [.agg (ivE x).toArray,.string (str k)] h λ r h'=>r=.int .i64 (q38 x.1 k)∧Step h h' [] []):∀ (m i j:Nat) (h1:Hp),i≤j→j≤l.length→j - i≤m→Sl w0 h1 3 x l.length (l.flatMap ivE)→(∀ b,b∈q0z x→b < h1.next)→
  (∀ h',Step h1 h' [] []→k0 x (.string (str k)) (.func (.func q64) #[] #[]) (.int .i64 (l.length:Int)) (.int .i64 (bsK l k m i j:Int)) h')→
  q6q prog w0 k0 (m + 1) x (.string (str k)) (.func (.func q64) #[] #[]) (.int .i64 (l.length:Int)) (.int .i64 (i:Int)) (.int .i64 (j:Int)) h1:=by
 intro m
 induction m with
 | zero=>
  intro i j h1 hij hj hm v hx hk
  have c1:decide ((i:Int) < (j:Int))=false:=decide_eq_false (by omega)
  rw [q6q]
  simp only [q9x,wd, wa,c1]
  exact hk h1 (.refl _ _ (by simp))
 | succ m ih=>
  intro i j h1 hij hj hm v hx hk
  rw [q6q]
  by_cases hlt:i < j
  ·have c1:decide ((i:Int) < (j:Int))=true:=decide_eq_true (by omega)
   have e1:IntKind.i64.wrap ((i:Int) + (j:Int))=((i + j:Nat):Int):=by rw [IntWalk.i64_in _ (by omega)]; simp
   have e2:IntKind.u64.wrap ((i + j:Nat):Int)=((i + j:Nat):Int):=IntWalk.u64_in _ (by omega)
   have e3:qd .shr (.int .u64 ((i + j:Nat):Int)) (.int .u64 1)=some (.int .u64 (((i + j) / 2:Nat):Int)):=by
    rw [qge _ _ _ _ (by omega)]
    congr 2
   have e4:IntKind.i64.wrap (((i + j) / 2:Nat):Int)=(((i + j) / 2:Nat):Int):=IntWalk.i64_in _ (by omega)
   have hml:(i + j) / 2 < l.length:=by omega
   have hg:l[(i + j) / 2]?=some l[(i + j) / 2]:=List.getElem?_eq_getElem hml
   simp only [q9x,wd, wa,c1,e1,e2,e3,e4]
   have hs:=v.src
   obtain ⟨a,c,ex⟩:=v.slice
   rw [ex] at hs ⊢
   refine q97 hs hml ?_
   rw [qd6 qzv hg]
   refine q4o (by kernel_rfl) (hS _ (List.getElem_mem hml) h1) λ r h2 ⟨e,s2⟩ f2=>?_
   subst e
   rw [← ex]
   have v2:=v.stepL hx s2 (by simp)
   have hx2:∀ b,b∈q0z x→b < h2.next:=λ b hb=>Nat.lt_of_lt_of_le (hx b hb) s2.1
   have hb:bsK l k (m + 1) i j=if blt l[(i + j) / 2].1 k=true then bsK l k m ((i + j) / 2 + 1) j else bsK l k m i ((i + j) / 2):=by
    rw [bsK,if_pos hlt,hg]
   simp only [wd, wa,qm3]
   cases e:blt l[(i + j) / 2].1 k with
   | true=>
    rw [e,if_pos rfl] at hb
    have e5:IntKind.i64.wrap ((((i + j) / 2:Nat):Int) + 1)=(((i + j) / 2 + 1:Nat):Int):=by rw [IntWalk.i64_in _ (by omega)]; simp
    simp only [wd, wa,e5]
    exact ih _ _ h2 (by omega) hj (by omega) v2 hx2 (λ h' s'=>by have:=hk h' (s2.trans s'); rw [hb] at this; exact this)
   | false=>
    rw [e,if_neg (by simp)] at hb
    simp only [wd, wa]
    exact ih _ _ h2 (by omega) (by omega) (by omega) v2 hx2 (λ h' s'=>by have:=hk h' (s2.trans s'); rw [hb] at this; exact this)
  ·have c1:decide ((i:Int) < (j:Int))=false:=decide_eq_false (by omega)
   have hb:bsK l k (m + 1) i j=i:=by rw [bsK,if_neg hlt]
   simp only [q9x,wd, wa,c1]
   have:=hk h1 (.refl _ _ (by simp))
   rw [hb] at this
   exact this
theorem q0og {x:Value} {l:List (Key × Ent)} {k:Key} (v:Sl w0 h 3 x l.length (l.flatMap ivE)) (hl:l.length≤1000000000) (hS:∀ x,x∈l→∀ h,qf prog w0 q64 [.agg (ivE x).toArray,.string (str k)] h λ r h'=>r=.int .i64 (q38 x.1 k)∧Step h h' [] []):
  qf prog w0 qhg [x,.string (str k),.func (.func q64) #[] #[]] h λ r h' =>
   r=.tuple #[.int .i64 (bsK l k l.length 0 l.length:Int),.bool (q25 l k (bsK l k l.length 0 l.length))]∧Step h h' [] []:=by
 refine qf.of_fit (by simpa using v.junk) λ f=>q013 (by simpa using v.junk) ?_
 obtain ⟨a,c,ex⟩:=v.slice
 have elx:q05 x=some (.int .i64 (l.length:Int)):=by rw [ex]; rfl
 simp only [qhh,elx,wd, wa]
 refine ⟨l.length + 1,?_⟩
 have fin:∀ (h1:Hp),Step h h1 [] []→(0 < l.length→Sl w0 h1 3 x l.length (l.flatMap ivE))→∀ r,r≤l.length→r=bsK l k l.length 0 l.length→
   qb (qd .lss (.int .i64 (r:Int)) (.int .i64 (l.length:Int))) (λ v38=>
    qe v38 true (λ K=>K (.func (.func q64) #[] #[])) λ v40=>
    qe v38 true (λ K=>K x) λ v41=>
    qe v38 true (λ K=>K (.int .i64 (r:Int))) λ v42=>
    qe v38 true (q04 3 v41 v42) λ v43=>
    qe v38 true (qw w0 v43 3) λ v44=>
    qe v38 true (λ K=>K (.string (str k))) λ v45=>
    qe v38 true (q1n prog w0 v40 [v44,v45]) λ v46=>
    qe v38 true (qb (qd .eql v46 (.int .i64 0))) λ v47=>
    q0a v38 v47 (.bool false) λ v48=>
    qo [.int .i64 (r:Int),v48] λ r h'=>r=.tuple #[.int .i64 (bsK l k l.length 0 l.length:Int),.bool (q25 l k (bsK l k l.length 0 l.length))]∧Step h h' [] []) h1:=by
  intro h1 s1 hv r hr er
  by_cases hrl:r < l.length
  ·have c1:decide ((r:Int) < (l.length:Int))=true:=decide_eq_true (by omega)
   have hg:l[r]?=some l[r]:=List.getElem?_eq_getElem hrl
   have v1:=hv (by omega)
   have hs:=v1.src
   simp only [wd, wa,c1]
   rw [ex] at hs ⊢
   refine q97 hs hrl ?_
   rw [qd6 qzv hg]
   refine q4o (by kernel_rfl) (hS _ (List.getElem_mem hrl) h1) λ q h2 ⟨e,s2⟩ f2=>?_
   subst e
   simp only [wd, wa,qln,qu,q19]
   refine ⟨by simp,?_,s1.trans s2⟩
   rw [← er]
   simp only [q25,hg]
  ·have c1:decide ((r:Int) < (l.length:Int))=false:=decide_eq_false (by omega)
   simp only [wd, wa,c1,qu,q19]
   refine ⟨by simp,?_,s1⟩
   rw [← er]
   simp only [q25,List.getElem?_eq_none (show l.length≤r by omega)]
 have hrg:=qca l k l.length 0 l.length (Nat.zero_le _) (Nat.le_refl _)
 rcases Nat.eq_zero_or_pos l.length with h0 | h0
 ·have c1:decide ((0:Int) < (l.length:Int))=false:=decide_eq_false (by omega)
  rw [h0,q6q]
  have c2:decide (((0:Nat):Int) < ((0:Nat):Int))=false:=rfl
  have c3:decide ((0:Int) < ((0:Nat):Int))=false:=rfl
  simp only [q9x,wd, wa,c2,c3]
  have:=fin h (.refl _ _ (by simp)) (λ q=>by omega) 0 (by omega) (by omega)
  simp only [h0,wd, wa,c2] at this
  exact this
 ·have hx:=v.blk_lt' f h0
  exact q0j1 hl hS l.length 0 l.length h (Nat.zero_le _) (Nat.le_refl _) (by omega) v hx (λ h' s'=>fin h' s' (λ _=>v.stepL hx s' (by simp)) _ hrg.2 rfl)
end
def q11 (l:List Ent) (k:Key):Option Ent:=l.find? λ x=>decide (x.k=k)
theorem q49 {l:List Ent} {k:Key} {x:Ent} (h:q11 l k=some x):x∈l∧x.k=k:=by
 unfold q11 at h
 exact ⟨List.mem_of_find?_eq_some h,by simpa using List.find?_some h⟩
theorem qcc {l:List Ent} {k:Key} (h:q11 l k=none):∀ x,x∈l→x.k≠k:=by
 unfold q11 at h
 intro x hx
 simpa using List.find?_eq_none.1 h x hx
theorem qyc {l:List Ent} (s:l.Pairwise λ x y=>blt x.k y.k=true):∀ x y,x∈l→y∈l→x.k=y.k→x=y:=by
 induction l with
 | nil=>simp
 | cons z l ih=>
  obtain ⟨h1,h2⟩:=List.pairwise_cons.1 s
  intro x y hx hy e
  rcases List.mem_cons.1 hx with ex | hx2
  ·rcases List.mem_cons.1 hy with ey | hy2
   ·rw [ex,ey]
   ·subst ex
    exact absurd e (q4f (h1 y hy2))
  ·rcases List.mem_cons.1 hy with ey | hy2
   ·subst ey
    exact absurd e.symm (q4f (h1 x hx2))
   ·exact ih h2 x y hx2 hy2 e
theorem qmi {l:List Ent} (s:l.Pairwise λ x y=>blt x.k y.k=true) {x:Ent} (hx:x∈l):q11 l x.k=some x:=by
 cases h:q11 l x.k with
 | none=>exact absurd rfl (qcc h x hx)
 | some y=>
  obtain ⟨h1,h2⟩:=q49 h
  rw [qyc s y x h1 hx h2]
theorem q4d {l:List Ent} (s:l.Pairwise λ x y=>blt x.k y.k=true):Srt (kl l):=by
 unfold Srt kl
 exact List.pairwise_map.2 s
def fE (l:List Ent) (k:Key):Nat:=q0r (kl l) k
theorem q00i (l:List Ent) (k:Key):fE l k≤l.length:=by
 have:=qao (kl l) k
 rwa [q3e] at this
theorem qcq (l:List Ent) (k:Key) (i:Nat):q25 (kl l) k i=match l[i]? with | some x=>decide (x.k=k) | none=>false:=by
 unfold q25 kl
 rw [List.getElem?_map]
 cases l[i]? <;> rfl
theorem qxe {l:List Ent} (s:l.Pairwise λ x y=>blt x.k y.k=true) (k:Key):(q25 (kl l) k (fE l k)=false∧q11 l k=none)∨∃ x,l[fE l k]?=some x∧x.k=k∧q25 (kl l) k (fE l k)=true∧q11 l k=some x:=by
 cases h:q11 l k with
 | none=>
  left
  refine ⟨?_,rfl⟩
  rw [qcq]
  cases hx:l[fE l k]? with
  | none=>rfl
  | some x=>exact decide_eq_false (qcc h x (List.mem_of_getElem? hx))
 | some x=>
  right
  obtain ⟨h1,h2⟩:=q49 h
  obtain ⟨j,hj,hjx⟩:=List.mem_iff_getElem.1 h1
  have hj2:l[j]?=some x:=by rw [List.getElem?_eq_getElem hj,hjx]
  have hf:fE l k=j:=by
   refine qwb (by rw [q3e]; omega) (λ i y hi hy=>?_) λ y hy=>?_
   ·unfold kl at hy
    rw [List.getElem?_map] at hy
    cases hz:l[i]? with
    | none=>rw [hz] at hy; simp at hy
    | some z=>
     rw [hz] at hy
     simp at hy
     subst hy
     have hil:=(List.getElem?_eq_some_iff.1 hz).1
     have:=List.pairwise_iff_getElem.1 s i j hil hj hi
     rw [hjx,h2,(List.getElem?_eq_some_iff.1 hz).2] at this
     exact this
   ·unfold kl at hy
    rw [List.getElem?_map,hj2] at hy
    simp at hy
    subst hy
    simp only
    rw [h2]
    exact q4p k
  refine ⟨x,by rw [hf]; exact hj2,h2,?_,rfl⟩
  rw [qcq,hf,hj2]
  exact decide_eq_true h2
section
variable {w0:World} {h h':Hp}
def Rn (w0:World) (h:Hp) (r:Value) (l:List Ent) (n:Nat) (S:List Nat):Prop:=
 ∃ p vb x S',r=ptr p∧S=p :: S'∧h.blk p=some [vb,x,.int .i64 (n:Int)]∧q3k .neq vb (.slice none 0 0)=some (.bool true)∧w0.heap.size≤p∧p < h.next∧Vec w0 h 3 x l.length (l.flatMap ee) S'∧p∉S'∧q27 l=true∧l.length≤2000000
theorem Rn.frame {r:Value} {l:List Ent} {n:Nat} {S T T':List Nat} (m:Rn w0 h r l n S) (st:Step h h' T T') (hd:∀ b,b∈S→b∉T):Rn w0 h' r l n S:=by
 obtain ⟨p,vb,x,S',a1,a2,a3,a4,a5,a6,a7,a8,a9⟩:=m
 subst a2
 exact ⟨p,vb,x,S',a1,rfl,by rw [(st.keep p a6 (hd p (by simp))).1]; exact a3,a4,a5,Nat.lt_of_lt_of_le a6 st.1,a7.frame st (λ b hb=>hd b (by simp [hb])),a8,a9⟩
theorem Rn.lt {r:Value} {l:List Ent} {n:Nat} {S:List Nat} (m:Rn w0 h r l n S):∀ b,b∈S→w0.heap.size≤b∧b < h.next:=by
 obtain ⟨p,vb,x,S',a1,a2,a3,a4,a5,a6,a7,a8,a9⟩:=m
 subst a2
 intro b hb
 rcases List.mem_cons.1 hb with rfl | hb
 ·exact ⟨a5,a6⟩
 ·exact a7.lt b hb
theorem Rn.nj {r:Value} {l:List Ent} {n:Nat} {S:List Nat} (m:Rn w0 h r l n S):r≠junk:=by
 obtain ⟨p,vb,x,S',a1,-⟩:=m
 subst a1
 simp [ptr,junk]
def Rno (w0:World) (h:Hp) (r:Value):Prop:=r=.pointer none∨∃ p,r=ptr p∧w0.heap.size≤p∧p < h.next∧h.blk p=some [.slice none 0 0,.slice none 0 0,.int .i64 0]
theorem Rno.step {r:Value} (m:Rno w0 h r) (st:Step h h' [] []):Rno w0 h' r:=by
 rcases m with m | ⟨p,a,b,c,d⟩
 ·exact .inl m
 ·exact .inr ⟨p,a,b,Nat.lt_of_lt_of_le c st.1,by rw [(st.keep p c (by simp)).1]; exact d⟩
theorem Rno.nj {r:Value} (m:Rno w0 h r):r≠junk:=by
 rcases m with m | ⟨p,a,b,c,d⟩ <;> subst r <;> simp [ptr,junk]
theorem qlz {r:Value} {l:List Ent} {n:Nat} {S:List Nat} (m:Rn w0 h r l n S):qf prog w0 qa8 [r] h λ v h'=>v=.bool true∧h'=h:=by
 refine qf.of_fit (by simpa using m.nj) λ f=>qu5 (by simpa using m.nj) ?_
 obtain ⟨p,vb,x,S',a1,a2,a3,a4,a5,a6,a7,a8,a9⟩:=m
 subst a1
 have c0:q1g .neq (.pointer (some ⟨p,0,none⟩)) (.pointer none)=some (.bool true):=rfl
 simp only [qfa,ptr,c0,wd, wa]
 refine qj a5 a3 rfl ?_
 simp only [a4,wd, wa,qu,q06]
 exact ⟨by simp,trivial,trivial⟩
theorem q0m2 {r:Value} (m:Rno w0 h r):qf prog w0 qa8 [r] h λ v h'=>v=.bool false∧h'=h:=by
 refine qf.of_fit (by simpa using m.nj) λ f=>qu5 (by simpa using m.nj) ?_
 rcases m with m | ⟨p,a,b,c,d⟩
 ·subst m
  have c0:q1g .neq (.pointer none) (.pointer none)=some (.bool false):=rfl
  simp only [qfa,c0,wd, wa,qu,q06]
  exact ⟨by simp,trivial,trivial⟩
 ·subst a
  have c0:q1g .neq (.pointer (some ⟨p,0,none⟩)) (.pointer none)=some (.bool true):=rfl
  have c1:q3k .neq (.slice none 0 0) (.slice none 0 0)=some (.bool false):=rfl
  simp only [qfa,ptr,c0,wd, wa]
  refine qj b d rfl ?_
  simp only [c1,wd, wa,qu,q06]
  exact ⟨by simp,trivial,trivial⟩
theorem qxn {r:Value} {l:List Ent} {n:Nat} {S:List Nat} (m:Rn w0 h r l n S) (k:Key):qf prog w0 qfe [r,.string (str k)] h λ v h'=>v=.tuple #[.int .i64 (fE l k:Int),.bool (q25 (kl l) k (fE l k))]∧Step h h' [] []:=by
 refine qf.of_fit (by simpa using m.nj) λ f=>q0ce (by simpa using m.nj) ?_
 obtain ⟨p,vb,x,S',a1,a2,a3,a4,a5,a6,a7,a8,a9,a10⟩:=m
 subst a1
 simp only [quc,ptr,wd, wa]
 refine qj a5 a3 rfl ?_
 have v:Sl w0 h 3 x (kl l).length ((kl l).flatMap ivE):=by rw [q3e,q0mw]; exact a7.sl
 have hs:=qzn (q4d (qcl a9).1) k
 refine qq (q0og v (k:=k) (by rw [q3e]; omega) λ q hq hh=>?_) λ v h1 ⟨e,s1⟩ f1=>?_
 ·obtain ⟨y,hy,rfl⟩:=List.mem_map.1 hq
  exact q0o4 y k
 ·rw [hs] at e
  subst e
  simp only [wd, wa,qu,q19]
  exact ⟨by simp,rfl,s1⟩
def eo (o:Option Ent):List Value:=match o with | some x=>ee x | none=>zE
theorem q0k4 {r:Value} {l:List Ent} {n:Nat} {S:List Nat} (m:Rn w0 h r l n S) (k:Key):qf prog w0 qkc [r,.string (str k)] h λ v h'=>v=.tuple #[.agg (eo (q11 l k)).toArray,.bool (q11 l k).isSome]∧Step h h' [] []:=by
 refine qf.of_fit (by simpa using m.nj) λ f=>q0cj (by simpa using m.nj) ?_
 have hcell:∀ v,v∈zE→qv v=true:=by simp [zE,qv]
 simp only [qul,q2t]
 refine ⟨hcell,?_⟩
 have fb:=f.base
 have sn:Step h (h.new zE 3) [] [h.next]:=(Step.refl h [] (by simp)).new _ _
 have n1:h.next < (h.new zE 3).next:=by simp
 have bn:(h.new zE 3).blk h.next=some zE:=by simp
 have fn:Fit w0 (h.new zE 3):=f.new hcell
 have mn:=m.frame sn (by simp)
 show qi _ _ _ _ _ (h.new zE 3)
 generalize h.new zE 3=h1 at *
 refine qq (qlz mn) λ v h2 ⟨e,e'⟩ f2=>?_
 subst e e'
 simp only [wd, wa]
 refine qq (qxn mn k) λ v h3 ⟨e,s3⟩ f3=>?_
 subst e
 have b3:h3.blk h.next=some zE:=by rw [(s3.keep _ n1 (by simp)).1]; exact bn
 have n3:h.next < h3.next:=Nat.lt_of_lt_of_le n1 s3.1
 have m3:=mn.frame s3 (by simp)
 have fin:∀ e:List Value,e.length=3→∀ b,q0k w0 (.pointer (some ⟨h.next,0,none⟩)) (.agg e.toArray) 3 (λ _=>qw w0 (.pointer (some ⟨h.next,0,none⟩)) 3 λ v4=>qo [v4,.bool b] λ v h'=>v=.tuple #[.agg e.toArray,.bool b]∧Step h h' [] []) h3:=by
  intro e he b
  refine q4l fb b3 rfl he ?_
  refine q16 (cs:=e) fb (by simp) he ?_
  simp only [qu,q19]
  have s4:Step h h3 [] [h.next]:=sn.trans (s3.keepS (by simpa using n1))
  exact ⟨by simp,trivial,(s4.put (by simp) _).less (by simp)⟩
 obtain ⟨p,vb,x,S',a1,a2,a3,a4,a5,a6,a7,a8,a9,a10⟩:=m3
 subst a1
 rcases qxe (qcl a9).1 k with ⟨q1,q2⟩ | ⟨y,q1,q2,q3,q4⟩
 ·simp only [q1,q2,wd, wa,q2w,q1u]
  exact fin zE rfl false
 ·simp only [q3,q4,ptr,wd, wa]
  refine qj a5 a3 rfl ?_
  have hs:=a7.src
  obtain ⟨ax,cx,ex⟩:=a7.slice
  rw [ex] at hs ⊢
  refine q97 hs (List.getElem?_eq_some_iff.1 q1).1 ?_
  rw [q3u q1]
  exact fin (ee y) rfl true
end
def opn (b:List UInt8):Option (List Ent × Nat):=match prs b with
 | none=>none
 | some (l,bl,n)=>if q1r (bl:Int) l=0∧q0i (bl:Int) l=b then some (l,n) else none
theorem q0jy {block:Int} {l:List Ent} (h:q1r block l=0):q27 l=true∧256≤block∧block≤4096:=by
 unfold q1r at h
 split at h
 ·simp at h
 ·split at h
  ·rename_i h1 h2
   exact ⟨h2,by omega⟩
  ·simp at h
section
variable {w0:World} {h h':Hp}
theorem GV.b2s {s n:Nat} {x:Value} {l:List UInt8} {S:List Nat} {K:qh} (g:GV w0 h 1 x n (bvs l) S) (hk:K (.string (str l)) h):q1z w0 x K h:=by
 have hs:=g.src
 obtain ⟨a,c,ex⟩:=g.slice
 subst ex
 exact q7d hs hk
theorem q0h9 {x y:Value} {n m:Nat} {a b:List UInt8} {S T:List Nat} (g:GV w0 h 1 x n (bvs a) S) (g':GV w0 h 1 y m (bvs b) T):qf prog w0 qkf [x,y] h λ r h'=>r=.bool (decide (a=b))∧h'=h:=by
 refine qf.of_fit (by simp [g.nj,g'.nj]) λ f=>q0d0 (by simp [g.nj,g'.nj]) ?_
 simp only [qux]
 refine GV.b2s (s:=1) g ?_
 refine GV.b2s (s:=1) g' ?_
 simp only [q9p,wd, wa,qu,q06]
 exact ⟨by simp,trivial,trivial⟩
def inS (b:Key) (x:Ent):Bool:=!(decide (b≠[]) && !blt x.k b)
def part (l:List Ent) (a b:Key):List Ent:=(l.drop (fE l a)).takeWhile (inS b)
def sV (l:List Ent):List (List Value):=l.map λ x=>[.agg (ee x).toArray]
theorem qxs (r:Value) (hr:r≠junk) (hrc:qv r=true) (a b:Key):qf prog w0 qfc [r,.string (str a),.string (str b)] h λ v h'=>∃ q1 q2 q3,v=.func (.func qa4) #[] #[ptr q1,ptr q2,ptr q3]∧
  h'.blk q1=some [r]∧h'.blk q2=some [.string (str a)]∧h'.blk q3=some [.string (str b)]∧h.next≤q1∧h.next≤q2∧h.next≤q3∧q1 < h'.next∧q2 < h'.next∧q3 < h'.next∧Step h h' [] []:=by
 refine qf.of_fit (by simp [hr]) λ f=>q0c4 (by simp [hr]) ?_
 simp only [qu7]
 refine ⟨hrc,rfl,rfl,?_⟩
 refine ⟨by simp,?_⟩
 simp only [qu,q06]
 have h1:h.next≠h.next + 1:=by omega
 have h2:h.next≠h.next + 1 + 1:=by omega
 have h3:h.next + 1≠h.next + 1 + 1:=by omega
 exact ⟨by simp,h.next,h.next + 1,h.next + 1 + 1,rfl,by simp [h1,h2],by simp [h3],by simp,Nat.le_refl _,by omega,by omega,by simp; omega,by simp,by simp,((((Step.refl h [] (by simp)).new _ _).new _ _).new _ _).less (by simp)⟩
theorem q0it {hh:Hp} {q3 N:Nat} {y xc:Value} {b:Key} {L:List Ent} {S:List Nat} {C:Nat→Hp→List Nat→Prop} {D:Hp→List Nat→Prop} {R:Hp→Prop} (f:Fit w0 hh) (w3:w0.heap.size≤q3) (b3:hh.blk q3=some [.string (str b)]) (hq3:q3∉S)
  (kC:∀ i,q2h w0 N hh.next (C i)) (hl:L.length≤1000000000)
  (hstep:∀ i x h1 S1,(sV (L.takeWhile (inS b)))[i]?=some x→Fit w0 h1→C i h1 S1→q1n prog w0 y x (λ v h2=>∃ S2,q09 N h1 h2 S1 S2∧((v=.bool true∧C (i + 1) h2 S2)∨(v=.bool false∧D h2 S2))) h1)
  (hR:∀ h2 S2,q09 N hh h2 S S2→(C (L.takeWhile (inS b)).length h2 S2∨D h2 S2)→R h2):
  ∀ (post pre:List Ent) (h1:Hp) (S1:List Nat),pre++post=L→(∀ x,x∈pre→inS b x=true)→Fit w0 h1→q09 N hh h1 S S1→C pre.length h1 S1→Sl w0 h1 3 xc L.length (L.flatMap ee)→(∀ b,b∈q0z xc→b < hh.next∧b∉S)→
   q6y prog w0 R R (post.length + 1) y (ptr q3) xc (.int .i64 (L.length:Int)) (.int .i64 (pre.length:Int)) h1:=by
 intro post
 induction post with
 | nil=>
  intro pre h1 S1 he hpre f1 ys c g hU
  have hpl:pre=L:=by simpa using he
  subst hpl
  rw [List.length_nil,q6y]
  simp only [qet,wd, wa,Int.lt_irrefl,decide_false]
  have ht:pre.takeWhile (inS b)=pre:=by
   have:=List.takeWhile_append_of_pos (l₂:=[]) hpre
   simpa using this
  exact hR h1 S1 ys (.inl (by rw [ht]; exact c))
 | cons x post ih=>
  intro pre h1 S1 he hpre f1 ys c g hU
  have hlen:pre.length + (post.length + 1)=L.length:=by rw [← he]; simp
  have hg:L[pre.length]?=some x:=by rw [← he]; simp
  have c1:decide ((pre.length:Int) < (L.length:Int))=true:=decide_eq_true (by omega)
  have e6:=wrS pre x (by omega)
  have htw:L.takeWhile (inS b)=pre++(x :: post).takeWhile (inS b):=by rw [← he,List.takeWhile_append_of_pos hpre]
  rw [List.length_cons,q6y]
  simp only [qet,wd, wa,c1]
  refine g.elem (by omega) (q3u hg) ?_
  simp only [q2t]
  have hcell:∀ v,v∈zE→qv v=true:=by simp [zE,qv]
  refine ⟨hcell,?_⟩
  have hb1:=f1.base
  refine q4l (cs:=zE) (e:=ee x) hb1 (by simp [zE]) rfl rfl ?_
  have hne:q3≠h1.next:=by have:=f.lt _ _ b3; have:=ys.next; omega
  have hb3:h1.blk q3=some [.string (str b)]:=by rw [(ys.keep q3 (f.lt _ _ b3) hq3).1]; exact b3
  have sx:Step h1 ((h1.new zE 3).put h1.next (ee x)) [] [h1.next]:=((Step.refl h1 [] (by simp)).new _ _).put (by simp) _
  obtain ⟨hx,hhx⟩:∃ hx,hx=(h1.new zE 3).put h1.next (ee x):=⟨_,rfl⟩
  have x1:hx.blk q3=some [.string (str b)]:=by rw [hhx,q17,if_neg hne,q3a,if_neg hne]; exact hb3
  have x2:hx.blk h1.next=some (ee x):=by rw [hhx]; simp
  have fx:Fit w0 hx:=by rw [hhx]; exact (f1.new hcell).put hb1 (by simp) (by simp [ee,qv])
  show qg _ _ _ ((h1.new zE 3).put h1.next (ee x))
  rw [← hhx] at sx ⊢
  have cx':C pre.length hx S1:=(kC _).step h1 hx S1 [] [] f1 c (sx.less (by simp)) (by simp) (by simp)
  have hS1:∀ b,b∈S1→b < h1.next:=(kC _).lt h1 S1 c
  have ysx:q09 N hh hx S S1:=ys.trans ((sx.wide (T:=S1) (T':=S1) (by simp) (λ b hb=>.inr ⟨hb,hS1 b hb⟩)).y N)
  have gx:=g.step f1 sx (by simp)
  simp only [ptr]
  refine qj w3 x1 rfl ?_
  have em:ByteArray.empty=str ([]:Key):=rfl
  have cont:inS b x=true→qw w0 (.pointer (some ⟨h1.next,0,none⟩)) 3 (λ v39=>q1n prog w0 y [v39] λ v40=>qb (unA .not v40) λ v42=>qt v42 R (q6y prog w0 R R (post.length + 1) y (.pointer (some ⟨q3,0,none⟩)) xc (.int .i64 (L.length:Int)) (.int .i64 (((pre++[x]).length:Nat):Int)))) hx:=by
   intro hin
   refine q16 hb1 x2 rfl ?_
   have hxi:(sV (L.takeWhile (inS b)))[pre.length]?=some [.agg (ee x).toArray]:=by
    rw [htw,List.takeWhile_cons,if_pos hin]
    simp [sV]
   refine q54 (hstep _ _ hx S1 hxi fx cx') λ r h3 ⟨S3,ys3,hv⟩ f3=>?_
   have ys4:=ysx.trans ys3
   have hU3:∀ b,b∈q0z xc→b∉S1:=λ b hb hb3=>by
    rcases (ys.own b hb3).2 with q | q
    ·exact (hU b hb).2 q
    ·have:=(hU b hb).1; omega
   have g3:Sl w0 h3 3 xc L.length (L.flatMap ee):=(gx.step fx ys3.step hU3:Sl w0 (h3.as hx) 3 xc L.length (L.flatMap ee))
   rcases hv with ⟨rfl,c3⟩ | ⟨rfl,d3⟩
   ·simp only [wd, wa]
    exact ih (pre++[x]) h3 S3 (by simpa using he) (λ z hz=>by
     rcases List.mem_append.1 hz with q | q
     ·exact hpre z q
     ·simp at q; subst q; exact hin) f3 ys4 (by simpa using c3) g3 hU
   ·simp only [wd, wa]
    exact hR h3 S3 ys4 (.inr d3)
  by_cases hbe:b=[]
  ·have c2:decide (b≠[])=false:=decide_eq_false (by simp [hbe])
   rw [em]
   simp only [q6l,c2,e6,wd, wa]
   exact cont (by unfold inS; simp [hbe])
  ·have c2:decide (b≠[])=true:=decide_eq_true hbe
   rw [em]
   simp only [q6l,c2,wd, wa]
   refine qj hb1 x2 rfl ?_
   refine qj w3 x1 rfl ?_
   simp only [qb0,wd, wa]
   cases hbl:blt x.k b with
   | true=>
    simp only [e6,wd, wa]
    exact cont (by unfold inS; simp [hbl])
   | false=>
    simp only [wd, wa]
    have hno:inS b x=false:=by unfold inS; simp [hbl,hbe]
    refine hR hx S1 ysx (.inl ?_)
    rw [htw,List.takeWhile_cons,if_neg (by simp [hno]),List.append_nil]
    exact cx'
theorem qzs {hh:Hp} {q1 q2 q3 n:Nat} {r:Value} {l:List Ent} {a b:Key} {T M:List Nat} (b1:hh.blk q1=some [r]) (b2:hh.blk q2=some [.string (str a)]) (b3:hh.blk q3=some [.string (str b)]) (w1:w0.heap.size≤q1) (w2:w0.heap.size≤q2) (w3:w0.heap.size≤q3)
  (m:Rn w0 hh r l n M) (hT:q1∈T∧q2∈T∧q3∈T∧∀ b,b∈M→b∈T):
  ItC prog w0 (.func (.func qa4) #[] #[ptr q1,ptr q2,ptr q3]) hh T (sV (part l a b)):=by
 intro y N S C D hy hN kC kD hstep h0 hd
 refine ⟨_,_,_,rfl,by kernel_rfl,?_⟩
 refine qf.of_fit (by simp [ptr,hy]) λ f=>qtm (by simp [ptr,hy]) ?_
 have hSlt:=(kC 0).lt hh S h0
 simp only [qf4,ptr]
 refine qj w1 b1 rfl ?_
 refine qq (qlz m) λ v h1 ⟨e,e'⟩ f1=>?_
 subst e
 subst h1
 simp only [wd, wa]
 refine qj w1 b1 rfl ?_
 refine qj w2 b2 rfl ?_
 refine qq (qxn m a) λ v h2 ⟨e,s2⟩ f2=>?_
 subst e
 simp only [wd, wa]
 have l1:=f.lt _ _ b1
 refine qj w1 (by rw [(s2.keep q1 l1 (by simp)).1]; exact b1) rfl ?_
 have m2:=m.frame s2 (by simp)
 have hMT:=hT.2.2.2
 have hML:=m.lt
 obtain ⟨p,vb,x,S',a1,a2,a3,a4,a5,a6,a7,a8,a9,a10⟩:=m2
 subst a1 a2
 obtain ⟨p',vb',x',S'',b1',b2',b3',b4',b5',b6',b7',-⟩:=m
 have hpp:p'=p:=by simpa [ptr] using b1'.symm
 subst hpp
 simp only [ptr,wd, wa]
 refine qj a5 a3 rfl ?_
 have hfl:=q00i l a
 refine a7.sl.cutN (lo:=fE l a) (hi:=l.length) q2a q2s hfl (Nat.le_refl _) λ xc exc hbx vc=>?_
 have hys:((l.flatMap ee).take (l.length * 3)).drop (fE l a * 3)=(l.drop (fE l a)).flatMap ee:=by
  rw [List.take_of_length_le (by rw [q53]; omega),qzp]
 have hdl:l.length - fE l a=(l.drop (fE l a)).length:=by simp
 rw [hys,hdl] at vc
 simp only [vc.lenv,wd, wa]
 refine ⟨(l.drop (fE l a)).length + 1,?_⟩
 have s2S:Step hh h2 S S:=s2.keepS hSlt
 refine q0it (L:=l.drop (fE l a)) (hh:=hh) (b:=b) (S:=S) f w3 b3 (λ q=>hd q3 q hT.2.2.1) kC (by simp; omega) hstep (λ h3 S3 ys hk=>?_) (l.drop (fE l a)) [] h2 S rfl (by simp) f2 (s2S.y N) ((kC 0).step hh h2 S [] [] f h0 s2 (by simp) (by simp)) vc (λ b hb=>?_)
 ·simp only [qu]
  exact ⟨by simp,S3,ys,by simpa [sV,part] using hk⟩
 ·rw [hbx,Vec.sblk_eq a7] at hb
  have h3:b∈p' :: S':=List.mem_cons_of_mem _ hb
  exact ⟨(hML b h3).2,λ q=>hd b q (hMT b h3)⟩
theorem q0nc {hh:Hp} {q1 q2 q3:Nat} {r:Value} {T:List Nat} (b1:hh.blk q1=some [r]) (w1:w0.heap.size≤q1) (m:Rno w0 hh r):ItC prog w0 (.func (.func qa4) #[] #[ptr q1,ptr q2,ptr q3]) hh T []:=by
 intro y N S C D hy hN kC kD hstep h0 hd
 refine ⟨_,_,_,rfl,by kernel_rfl,?_⟩
 refine qf.of_fit (by simp [ptr,hy]) λ f=>qtm (by simp [ptr,hy]) ?_
 simp only [qf4,ptr]
 refine qj w1 b1 rfl ?_
 refine qq (q0m2 m) λ v h1 ⟨e,e'⟩ f1=>?_
 subst e e'
 simp only [wd, wa,qu]
 exact ⟨by simp,S,q09.refl N h1 S ((kC 0).lt h1 S h0),.inl h0⟩
end
theorem q0km (l:List Ent):part l [] []=l:=by
 have h0:fE l []=0:=by
  refine qwb (Nat.zero_le _) (λ i x hi=>by omega) λ x _=>?_
  unfold blt
  cases x.1 <;> rfl
 unfold part
 rw [h0,List.drop_zero]
 have:=List.takeWhile_append_of_pos (p:=inS []) (l₁:=l) (l₂:=[]) (λ x _=>by simp [inS])
 simpa using this
structure ROp where
 k:Int
 key:Key
 v:Key
 n:Int
def ROp.e (o:ROp):List Value:=[.int .i64 o.k,.string (str o.key),.string (str o.v),.int .i64 o.n]
def qda:Dec Ent:=⟨ee,λ _=>True,λ x=>x.k.length + x.v.length + 4⟩
theorem q0n3 (l:List Ent):q0f l=(l.map qda.b).sum:=rfl
section
variable {w0:World}
theorem q7h.nj {s n:Nat} {v:Value} {ys:List Value} (x:q7h w0 s v n ys):v≠junk:=by obtain ⟨a,c,e,-⟩:=x.sl; simp [e]
end
theorem q0oe (w0:World) (x:Ent):q9r prog .neq 61 (.agg (ee x).toArray) (.agg (ee x).toArray)=λ K=>K (.bool false):=by
 have hS:prog.underlying 61=some (.struct (prog.fieldsOf 61)):=by kernel_rfl
 have hp:prog.stoodInHeld 61=false:=by kernel_rfl
 have key:∀ w,(binOp .neq 61 (.agg (ee x).toArray) (.agg (ee x).toArray)).run prog w=.ok (.bool false) w:=by
  obtain ⟨k,v,g⟩:=x
  intro w
  rw [run_neq_struct,show (10000:Nat)=9999 + 1 from rfl,run_equalIn_agg w 9999 61 _ _ hS hp]
  simp only [Program.fieldsOf,Tryz.underlying61,ee]
  go_simp
 funext K h
 refine propext ⟨?_,λ hk=>?_⟩
 ·rintro ⟨xs,ys,q,e1,e2,-,-,e3,-,hk⟩
  cases e1
  cases e2
  have:=(e3 w0).symm.trans (key w0)
  simp at this
  subst this
  exact hk
 ·refine ⟨_,_,_,rfl,rfl,λ v hv=>?_,λ v hv=>?_,key,λ w=>run_eqGuard_agg w _ _ _ _ _ _ (by kernel_rfl),hk⟩
  all_goals
   simp [ee] at hv
   rcases hv with rfl | rfl | rfl <;> rfl
theorem qzo {bl:Nat} {l:List Ent} (h:q1r (bl:Int) l=0) (hl:l.length≤2000000):opn (q0i (bl:Int) l)=some (l,(grp bl l).length)∧prs (q0i (bl:Int) l)=some (l,bl,(grp bl l).length):=by
 obtain ⟨h1,h2,h3⟩:=q0mc h
 have hr:∀ x,x∈l→q0e x=true:=qc7 h3
 obtain ⟨z1,z2,z3⟩:=qmu (block:=bl) hr hl
 have hR:q0i (bl:Int) l=bld bl l:=by unfold q0i; rw [if_pos h,Int.toNat_natCast]
 have hp:=q0m8 (block:=bl) (by omega) hr (by omega) (by omega)
 rw [← hR] at hp
 refine ⟨?_,hp⟩
 unfold opn
 rw [hp]
 simp only
 rw [if_pos ⟨h,trivial⟩]
theorem q0ju {b:List UInt8} {q:List Ent × Nat × Nat} (h:prs b=some q):q.2.2=qd2 b:=by
 unfold prs at h
 split at h
 ·cases h
 ·simp only at h
  split at h
  ·cases h
  ·split at h
   ·cases h
   ·split at h
    ·have:=Option.some.inj h
     rw [← this]
     rfl
    ·cases h
theorem q0hd {bl:Nat} {l:List Ent} (h:q1r (bl:Int) l=0) (hl:l.length≤2000000):qd2 (q0i (bl:Int) l)≤l.length:=by
 rw [← q0ju (qzo h hl).2]
 exact qae bl l
section
variable {w0:World} {h h':Hp}
theorem q4q (l:List Ent):4 * l.length≤q0f l:=by
 induction l with
 | nil=>simp
 | cons x l ih=>rw [q47,List.length_cons]; omega
theorem qas {bl:Nat} {l:List Ent} (hz:q1r (bl:Int) l=0) (hl:q0f l≤1048576):(q0i (bl:Int) l).length≤11534360:=by
 have hR:q0i (bl:Int) l=bld bl l:=by unfold q0i; rw [if_pos hz,Int.toNat_natCast]
 have h1:=qgp (grp bl l) (λ g hg=>qd4 hg)
 have h2:=qzy (grp bl l) 0 (λ g hg=>qd4 hg) (by rw [q5i] at h1; omega) (by rw [q5i]; omega)
 rw [q5i] at h1 h2
 rw [hR,qcr]
 omega
theorem q0ma {a b A B C:Nat} (h1:a≤A) (h2:b≤B) (h3:A * B≤C):a * b≤C:=Nat.le_trans (Nat.mul_le_mul h1 h2) h3
theorem q0kg (r:Value) (hr:r≠junk) (hrc:qv r=true):qf prog w0 qa9 [r] h λ v h'=>∃ q,v=.func (.func qa7) #[] #[ptr q]∧h'.blk q=some [r]∧h.next≤q∧q < h'.next∧Step h h' [] []:=by
 refine qf.of_fit (by simp [hr]) λ f=>q0cs (by simp [hr]) ?_
 simp only [qum]
 refine ⟨hrc,?_⟩
 refine ⟨by simp,?_⟩
 simp only [qu,q06]
 exact ⟨by simp,h.next,rfl,by simp,Nat.le_refl _,by simp,((Step.refl h [] (by simp)).new _ _).less (by simp)⟩
end
end Go.Proofs.YtfmoemconapmhaaGreat.Ah
