/- The document's levels in memory; New. -/
import Derived.Test.YtfmoemconapmhaaGreatGref14
import Derived.Test.YtfmoemconapmhaaGreatLxd
set_option linter.all false
namespace Go.Proofs.YtfmoemconapmhaaGreat.Ah
open Go
section
variable {w0:World} {h h':Hp}
def q3c (w0:World) (h:Hp) (A:List Nat) (v:Value) (ls:List (List Ent)):Prop:=
 ∃ ps:List (Value × List Ent),ls=ps.map (·.2)∧Sl w0 h 1 v ps.length (ps.map (·.1))∧(∀ b,b∈q0z v→b∈A)∧∀ p:Value × List Ent,p∈ps→Es w0 h p.1 p.2∧∀ b,b∈q0z p.1→b∈A
theorem q3c.nil (A:List Nat):q3c w0 h A (.slice none 0 0) []:=⟨[],rfl,.nil,by simp [q0z],by simp⟩
theorem q3c.frame {A:List Nat} {v:Value} {ls:List (List Ent)} (m:q3c w0 h A v ls) (hA:∀ b,b∈A→b < h.next) {T T':List Nat} (st:Step h h' T T') (hd:∀ b,b∈A→b∉T):q3c w0 h' A v ls:=by
 obtain ⟨ps,e,a,b,c⟩:=m
 refine ⟨ps,e,a.stepL (λ x hx=>hA x (b x hx)) st λ x hx=>hd x (b x hx),b,λ p hp=>?_⟩
 obtain ⟨r,hS⟩:=c p hp
 exact ⟨Sl.stepL r (λ x hx=>hA x (hS x hx)) st λ x hx=>hd x (hS x hx),hS⟩
theorem q3c.more {A A':List Nat} {v:Value} {ls:List (List Ent)} (m:q3c w0 h A v ls) (hA:∀ b,b∈A→b∈A'):q3c w0 h A' v ls:=by
 obtain ⟨ps,e,a,b,c⟩:=m
 refine ⟨ps,e,a,λ x hx=>hA x (b x hx),λ p hp=>?_⟩
 obtain ⟨r,hS⟩:=c p hp
 exact ⟨r,λ x hx=>hA x (hS x hx)⟩
theorem q3c.isC {A:List Nat} {v:Value} {ls:List (List Ent)} (m:q3c w0 h A v ls):qv v=true:=by
 obtain ⟨ps,e,a,b,c⟩:=m
 exact a.isC
theorem q3c.lenv {A:List Nat} {v:Value} {ls:List (List Ent)} (m:q3c w0 h A v ls):q05 v=some (.int .i64 (ls.length:Int)):=by
 obtain ⟨ps,e,a,b,c⟩:=m
 rw [a.lenv,e,List.length_map]
def Rv (w0:World) (h:Hp) (r:Value) (s:LS) (S A:List Nat):Prop:=
 ∃ q qa c vm us,r=ptr q∧h.blk q=some (q0m s++[vm,.slice (some ⟨qa,0,none⟩) 16 c])∧h.blk qa=some us∧us.length=16∧S=[q,qa]∧q≠qa∧w0.heap.size≤q∧q < h.next∧w0.heap.size≤qa∧qa < h.next∧(∀ b,b∈A→b < h.next)∧(∀ b,b∈S→b∉A)∧s.lv.length=16∧
  Es w0 h vm s.mem∧(∀ b,b∈q0z vm→b∈A)∧(∀ (i:Nat) v,us[i]?=some v→q3c w0 h A v (s.lv.getD i []))∧h.esz qa=1∧((c < q0b∧16≤c)∨c=q0b)
theorem Rv.nj {r:Value} {s:LS} {S A:List Nat} (m:Rv w0 h r s S A):r≠junk:=by obtain ⟨q,qa,c,vm,us,e,-⟩:=m; subst e; simp [ptr,junk]
theorem Rv.isC {r:Value} {s:LS} {S A:List Nat} (m:Rv w0 h r s S A):qv r=true:=by obtain ⟨q,qa,c,vm,us,e,-⟩:=m; subst e; rfl
theorem Rv.lt {r:Value} {s:LS} {S A:List Nat} (m:Rv w0 h r s S A):∀ b,b∈S→w0.heap.size≤b∧b < h.next:=by
 obtain ⟨q,qa,c,vm,us,a1,a2,a3,a4,a5,a6,a7,a8,a9,b1,-⟩:=m
 subst a5
 intro b hb
 simp at hb
 rcases hb with rfl | rfl
 ·exact ⟨a7,a8⟩
 ·exact ⟨a9,b1⟩
theorem Rv.ltA {r:Value} {s:LS} {S A:List Nat} (m:Rv w0 h r s S A):∀ b,b∈A→b < h.next:=by
 obtain ⟨q,qa,c,vm,us,a1,a2,a3,a4,a5,a6,a7,a8,a9,b1,b2,-⟩:=m
 exact b2
theorem Rv.frame {r:Value} {s:LS} {S A T T':List Nat} (m:Rv w0 h r s S A) (st:Step h h' T T') (hd:∀ b,b∈S→b∉T) (hA:∀ b,b∈A→b∉T):Rv w0 h' r s S A:=by
 obtain ⟨q,qa,c,vm,us,a1,a2,a3,a4,a5,a6,a7,a8,a9,b1,b2,b3,b4,b5,b6,b7,b8,b9⟩:=m
 subst a5
 have k1:=st.keep q a8 (hd q (by simp))
 have k2:=st.keep qa b1 (hd qa (by simp))
 have hn:=st.1
 exact ⟨q,qa,c,vm,us,a1,by rw [k1.1]; exact a2,by rw [k2.1]; exact a3,a4,rfl,a6,a7,by omega,a9,by omega,λ b hb=>by have:=b2 b hb; omega,b3,b4,
  Sl.stepL b5 (λ x hx=>b2 x (b6 x hx)) st (λ x hx=>hA x (b6 x hx)),b6,λ i v hi=>(b7 i v hi).frame b2 st hA,by rw [k2.2]; exact b8,b9⟩
theorem Rv.step0 {r:Value} {s:LS} {S A T':List Nat} (m:Rv w0 h r s S A) (st:Step h h' [] T'):Rv w0 h' r s S A:=m.frame st (by simp) (by simp)
theorem q0g3 (b f t:Int):qf prog w0 qjk [q2i b f t] h λ r h'=>r=.bool (q1k b f t)∧Step h h' [] []:=by
 refine qf.of_fit (by simp [q2i]) λ fi=>q09r (by simp [q2i]) ?_
 have fb:=fi.base
 simp only [qsz,q2i]
 refine q6d (e:=[.int .i64 b,.int .i64 f,.int .i64 t]) ?_
 have s1:Step h (h.new [.int .i64 b,.int .i64 f,.int .i64 t] 3) [] []:=((Step.refl h [] (by simp)).new _ _).less (by simp)
 have b1:(h.new [.int .i64 b,.int .i64 f,.int .i64 t] 3).blk h.next=some [.int .i64 b,.int .i64 f,.int .i64 t]:=by simp
 generalize h.new [.int .i64 b,.int .i64 f,.int .i64 t] 3=h1 at *
 have fin:∀ q,q=q1k b f t→qo [.bool q] (λ r h'=>r=.bool (q1k b f t)∧Step h h' [] []) h1:=λ q e=>by
  subst e
  simp only [qu,q06]
  exact ⟨by simp,trivial,s1⟩
 simp only [wd, wa]
 refine qj fb b1 rfl ?_
 simp only [wd, wa]
 by_cases g0:(256:Int)≤b
 ·have c0:decide ((256:Int)≤b)=true:=decide_eq_true g0
  simp only [c0,wd, wa]
  refine qj fb b1 rfl ?_
  simp only [wd, wa]
  by_cases g1:b≤(4096:Int)
  ·have c1:decide (b≤(4096:Int))=true:=decide_eq_true g1
   simp only [c1,wd, wa]
   refine qj fb b1 rfl ?_
   simp only [wd, wa]
   by_cases g2:(2:Int)≤f
   ·have c2:decide ((2:Int)≤f)=true:=decide_eq_true g2
    simp only [c2,wd, wa]
    refine qj fb b1 rfl ?_
    simp only [wd, wa]
    by_cases g3:f≤(16:Int)
    ·have c3:decide (f≤(16:Int))=true:=decide_eq_true g3
     simp only [c3,wd, wa]
     refine qj fb b1 rfl ?_
     simp only [wd, wa]
     by_cases g4:(1:Int)≤t
     ·have c4:decide ((1:Int)≤t)=true:=decide_eq_true g4
      simp only [c4,wd, wa]
      refine qj fb b1 rfl ?_
      simp only [wd, wa]
      by_cases g5:t≤(4096:Int)
      ·have c5:decide (t≤(4096:Int))=true:=decide_eq_true g5
       simp only [c5,wd, wa]
       exact fin _ (by simp [q1k,c0,c1,c2,c3,c4,c5])
      ·have c5:decide (t≤(4096:Int))=false:=decide_eq_false g5
       simp only [c5,wd, wa]
       exact fin _ (by simp [q1k,c0,c1,c2,c3,c4,c5])
     ·have c4:decide ((1:Int)≤t)=false:=decide_eq_false g4
      simp only [c4,wd, wa]
      exact fin _ (by simp [q1k,c0,c1,c2,c3,c4])
    ·have c3:decide (f≤(16:Int))=false:=decide_eq_false g3
     simp only [c3,wd, wa]
     exact fin _ (by simp [q1k,c0,c1,c2,c3])
   ·have c2:decide ((2:Int)≤f)=false:=decide_eq_false g2
    simp only [c2,wd, wa]
    exact fin _ (by simp [q1k,c0,c1,c2])
  ·have c1:decide (b≤(4096:Int))=false:=decide_eq_false g1
   simp only [c1,wd, wa]
   exact fin _ (by simp [q1k,c0,c1])
 ·have c0:decide ((256:Int)≤b)=false:=decide_eq_false g0
  simp only [c0,wd, wa]
  exact fin _ (by simp [q1k,c0])
theorem q0in (b f t:Int):qf prog w0 qk3 [q2i b f t] h λ r h' =>
  (q1k b f t=true→∃ p S,r=.tuple #[p,.int .i64 0]∧Rv w0 h' p (q0n b.toNat f.toNat t.toNat) S []∧Step h h' [] S)∧(q1k b f t=false→r=.tuple #[.pointer none,.int .i64 140]∧Step h h' [] []):=by
 refine qf.of_fit (by simp [q2i]) λ fi=>q0aw (by simp [q2i]) ?_
 have fb:=fi.base
 simp only [qtq]
 refine q6d (e:=[.int .i64 b,.int .i64 f,.int .i64 t]) ?_
 have s1:Step h (h.new [.int .i64 b,.int .i64 f,.int .i64 t] 3) [] []:=((Step.refl h [] (by simp)).new _ _).less (by simp)
 have b1:(h.new [.int .i64 b,.int .i64 f,.int .i64 t] 3).blk h.next=some [.int .i64 b,.int .i64 f,.int .i64 t]:=by simp
 have l1:h.next < (h.new [.int .i64 b,.int .i64 f,.int .i64 t] 3).next:=by simp
 generalize h.new [.int .i64 b,.int .i64 f,.int .i64 t] 3=h1 at *
 refine q16 fb b1 rfl ?_
 refine qq (q0g3 b f t) λ v h2 ⟨e,s2⟩ f2=>?_
 subst e
 have s12:=s1.trans s2
 cases hr:q1k b f t with
 | false=>
  simp only [wd, wa,qu,q19]
  exact ⟨by simp,by simp,λ _=>⟨trivial,s12⟩⟩
 | true=>
  have hn:=(q73 _ _ _).1 hr
  simp only [wd, wa]
  have b2:h2.blk h.next=some [.int .i64 b,.int .i64 f,.int .i64 t]:=by rw [(s2.keep _ l1 (by simp)).1]; exact b1
  refine q16 fb b2 rfl ?_
  refine (qmj 1 24 [.slice none 0 0] .i64 .i64 16 16).2 ⟨by omega,by omega,by omega,?_⟩
  have l2:h.next < h2.next:=Nat.lt_of_lt_of_le l1 s2.1
  have s3:Step h2 (h2.new (List.replicate 16 (.slice none 0 0)) 1) [] [h2.next]:=(Step.refl h2 [] (by simp)).new _ _
  have b3:(h2.new (List.replicate 16 (.slice none 0 0)) 1).blk h.next=some [.int .i64 b,.int .i64 f,.int .i64 t]:=by rw [(s3.keep _ l2 (by simp)).1]; exact b2
  have c3:(h2.new (List.replicate 16 (.slice none 0 0)) 1).blk h2.next=some (List.replicate 16 (.slice none 0 0)):=by simp
  have e3:(h2.new (List.replicate 16 (.slice none 0 0)) 1).esz h2.next=1:=by simp
  have n3:(h2.new (List.replicate 16 (.slice none 0 0)) 1).next=h2.next + 1:=rfl
  have fb2:=f2.base
  show q0c _ _ (h2.new (List.replicate 16 (.slice none 0 0)) 1)
  generalize h2.new (List.replicate 16 (.slice none 0 0)) 1=h3 at *
  simp only [q3o,q32,qv9]
  refine ⟨q16 fb b3 rfl rfl,?_⟩
  simp only [q2w]
  rw [q95]
  refine ⟨rfl,by simp,?_⟩
  rw [q28]
  refine ⟨rfl,by simp [splice],?_⟩
  rw [q1u]
  simp only [wd, wa]
  have hb2:((b.toNat:Nat):Int)=b:=by omega
  have hf2:((f.toNat:Nat):Int)=f:=by omega
  have ht2:((t.toNat:Nat):Int)=t:=by omega
  have hcs:([.int .i64 b,.int .i64 f,.int .i64 t,.slice none 0 0,.slice (some ⟨h2.next,0,none⟩) 16 16]:List Value)=q0m (q0n b.toNat f.toNat t.toNat)++[.slice none 0 0,.slice (some ⟨h2.next,0,none⟩) 16 16]:=by
   simp [q0m,q0n,hb2,hf2,ht2]
  show q15 true 5 (.agg ([.int .i64 b,.int .i64 f,.int .i64 t,.slice none 0 0,.slice (some ⟨h2.next,0,none⟩) 16 16]:List Value).toArray) _ _
  rw [hcs]
  refine q6d ?_
  have s4:Step h3 (h3.new (q0m (q0n b.toNat f.toNat t.toNat)++[.slice none 0 0,.slice (some ⟨h2.next,0,none⟩) 16 16]) 5) [] [h3.next]:=(Step.refl h3 [] (by simp)).new _ _
  have b4:(h3.new (q0m (q0n b.toNat f.toNat t.toNat)++[.slice none 0 0,.slice (some ⟨h2.next,0,none⟩) 16 16]) 5).blk h3.next=some (q0m (q0n b.toNat f.toNat t.toNat)++[.slice none 0 0,.slice (some ⟨h2.next,0,none⟩) 16 16]):=by simp
  have n4:h3.next < (h3.new (q0m (q0n b.toNat f.toNat t.toNat)++[.slice none 0 0,.slice (some ⟨h2.next,0,none⟩) 16 16]) 5).next:=by simp
  generalize h3.new (q0m (q0n b.toNat f.toNat t.toNat)++[.slice none 0 0,.slice (some ⟨h2.next,0,none⟩) 16 16]) 5=h4 at *
  have k4:=s4.keep h2.next (by omega) (by simp)
  simp only [wd, wa,qu,q19]
  refine ⟨by simp,λ _=>⟨_,[h3.next,h2.next],rfl,⟨h3.next,h2.next,16,_,_,rfl,b4,by rw [k4.1]; exact c3,by simp,rfl,by omega,by omega,n4,fb2,by omega,by simp,by simp,by simp [q0n],.nil,by simp [q0z],λ i v hi=>?_,by rw [k4.2]; exact e3,.inl ⟨by decide,Nat.le_refl _⟩⟩,?_⟩,by simp⟩
  ·have hv:=List.eq_of_mem_replicate (List.mem_of_getElem? hi)
   subst hv
   have:(q0n b.toNat f.toNat t.toNat).lv.getD i []=[]:=by
    simp only [q0n,List.getD_eq_getElem?_getD,List.getElem?_replicate]
    split <;> rfl
   rw [this]
   exact .nil _
  ·exact (s12.trans (s3.less (T:=[]) (by simp))).trans (s4.less (T:=[]) (by simp)) |>.claim (by simp; have:=s1.1; have:=s2.1; omega)
end
noncomputable section
end
section
variable {w0:World} {h h':Hp}
theorem Sl.elemF {x:Value} {n s i f:Nat} {k:IntKind} {ys e:List Value} {u:Value} {K:qh} (sv:Sl w0 h s x n ys) (hi:i < n) (he:(ys.drop (i * s)).take s=e) (hf:f < s) (hu:e[f]?=some u) (hk:K u h):
  q04 s x (.int k (i:Int)) (λ p=>qk p f λ q=>qg w0 q K) h:=by
 obtain ⟨a,c,rfl,⟨-,hs⟩,hy,-⟩:=sv
 rcases hs with ⟨h1,-⟩ | ⟨-,ad,rfl,hg,hcl⟩
 ·omega
 ·obtain ⟨hsp,cs,hb,hle,rfl⟩:=Hp.getN_some hg
  obtain ⟨b,off,sp⟩:=ad
  simp only at hsp hb hle
  subst hsp
  have hm:(i + 1) * s≤n * s:=Nat.mul_le_mul_right _ hi
  rw [Nat.add_mul,Nat.one_mul] at hm
  refine ⟨_,n,c,k,i,rfl,rfl,by omega,by omega,_,rfl,?_⟩
  rw [Int.toNat_natCast,addr_add,addr_add]
  simp only at he hy hcl
  have hu':cs[off + i * s + f]?=some u:=by
   rw [← he,List.getElem?_take,if_pos hf,List.getElem?_drop,List.getElem?_take,if_pos (by omega),List.getElem?_drop] at hu
   rw [← hu]
   congr 1
   rw [Nat.add_assoc]
  refine ⟨_,u,rfl,by simp [Hp.get,hb,hu'],λ hlt=>(hcl hlt u ?_).1,hk⟩
  have hlt2:i * s + f < n * s:=by omega
  refine List.mem_of_getElem? (i:=i * s + f) ?_
  rw [List.getElem?_take,if_pos hlt2,List.getElem?_drop,← Nat.add_assoc]
  exact hu'
theorem Lv.ptrV {r:Value} {s:LS} {S A:List Nat} (m:Lv w0 h r s S A):∃ q,r=.pointer (some ⟨q,0,none⟩):=by obtain ⟨q,-,-,-,e,-⟩:=m; exact ⟨q,e⟩
theorem Rv.ptrV {r:Value} {s:LS} {S A:List Nat} (m:Rv w0 h r s S A):∃ q,r=.pointer (some ⟨q,0,none⟩):=by obtain ⟨q,-,-,-,-,e,-⟩:=m; exact ⟨q,e⟩
end
def LOp.put (o:LOp):Ent:=⟨o.key,o.v,false⟩
end Go.Proofs.YtfmoemconapmhaaGreat.Ah
