/- Functions that are ranged over: what one promises, and how a loop over it goes. -/
import Derived.Test.YtfmoemconapmhaaGreatAh27
import Derived.Test.YtfmoemconapmhaaGreatAh28
set_option linter.all false
namespace Go.Proofs.YtfmoemconapmhaaGreat.Ah
open Go
section
variable {P:Program} {w0:World} {h h' h1 h2:Hp} {b:Nat} {args:List Value} {R:qh}
theorem q4e.fit (c:q4e P w0 b args h λ v h'=>Fit w0 h'→R v h'):q4e P w0 b args h R:=
 ⟨c.1,λ ι w args' r v=>by
  obtain ⟨f,tmps,as',bd,e,k⟩:=c.2 ι w args' r v
  exact ⟨f,tmps,as',bd,e,k.mono λ e w' ⟨v',ι',h',v,a,b,c,d,e⟩=>⟨v',ι',h',v,a,b,c,d,e c.fit⟩⟩⟩
theorem q4e.of_fit (hj:∀ v,v∈args→v≠junk) (c:Fit w0 h→q4e P w0 b args h R):q4e P w0 b args h R:=
 ⟨hj,λ ι w args' r v=>(c r.fit).2 ι w args' r v⟩
theorem q54 {y:Value} {K:qh} (c:q1n P w0 y args R h) (hk:∀ v h',R v h'→Fit w0 h'→K v h'):q1n P w0 y args K h:=by
 rcases c with ⟨f,a,c,e,ok,k⟩ | ⟨b,e,k⟩
 ·exact .inl ⟨f,a,c,e,ok,qf.fit (k.mono λ v h' r f=>hk v h' r f)⟩
 ·exact .inr ⟨b,e,q4e.fit (k.mono λ v h' r f=>hk v h' r f)⟩
theorem qwy {y:Value} {K:qh} (c:qcz P w0 y args R h) (hk:∀ v h',R v h'→Fit w0 h'→K v h'):qcz P w0 y args K h:=by
 obtain ⟨f,a,c,e,ok,k⟩:=c
 exact ⟨f,a,c,e,ok,qf.fit (k.mono λ v h' r f=>hk v h' r f)⟩
theorem q4o {f:FuncId} {a c:Array Value} {K:qh} (ok:qaw P f=true) (k:qf P w0 f (a.toList++args++c.toList) h R) (hk:∀ v h',R v h'→Fit w0 h'→K v h'):q1n P w0 (.func (.func f) a c) args K h:=
 .inl ⟨f,a,c,rfl,ok,qf.fit (k.mono λ v h' r f=>hk v h' r f)⟩
theorem Fit.setLp (f:Fit w0 h) {g:Lp} {s:Lst} (hB:w0.heap.size≤b) (hb:b < h.next):Fit w0 (h.setLp b g s):=
 ⟨f.base,f.ext,f.lt,f.cell,λ c x e=>by
  rw [q2u] at e
  split at e
  ·rename_i e'; subst e'; exact ⟨hB,hb⟩
  ·exact f.lps c x e,f.um⟩
end
def Hp.as (h' h:Hp):Hp:={ h' with lp:=h.lp }
structure q09 (N:Nat) (h h':Hp) (S S':List Nat):Prop where
 next:h.next≤h'.next
 keep:∀ b,b < h.next→b∉S→h'.blk b=h.blk b∧h'.esz b=h.esz b
 own:∀ b,b∈S'→b < h'.next∧(b∈S∨h.next≤b)
 lp:∀ b,N≤b→b < h.next→h'.lp b=h.lp b
section
variable {N:Nat} {h h' h1 h2:Hp} {S S' S1 S2 T T':List Nat}
theorem Step.y (s:Step h h' S S') (N:Nat):q09 N h h' S S':=⟨s.1,s.2,s.3,λ b _ _=>by rw [s.4]⟩
theorem q09.step (s:q09 N h h' S S'):Step h (h'.as h) S S':=⟨s.1,s.2,s.3,rfl⟩
theorem q09.refl (N:Nat) (h:Hp) (S:List Nat) (hs:∀ b,b∈S→b < h.next):q09 N h h S S:=(Step.refl h S hs).y N
theorem q09.trans (a:q09 N h h1 S S1) (b:q09 N h1 h2 S1 S2):q09 N h h2 S S2:=by
 refine ⟨Nat.le_trans a.1 b.1,λ i hi hs=>?_,λ i hi=>?_,λ i hN hi=>?_⟩
 ·have h1:i∉S1:=λ e=>by rcases (a.3 i e).2 with e | e; exact hs e; omega
  have:=b.2 i (by have:=a.1; omega) h1
  rw [this.1,this.2]
  exact a.2 i hi hs
 ·refine ⟨(b.3 i hi).1,?_⟩
  rcases (b.3 i hi).2 with e | e
  ·exact (a.3 i e).2
  ·right; have:=a.1; omega
 ·rw [b.4 i hN (by have:=a.1; omega)]
  exact a.4 i hN hi
theorem q09.up (a:q09 N h h' S S') {M:Nat} (hm:N≤M):q09 M h h' S S':=⟨a.1,a.2,a.3,λ b hM hb=>a.4 b (Nat.le_trans hm hM) hb⟩
theorem q09.less (a:q09 N h h' S S') (hT:∀ b,b∈T→b∈S'):q09 N h h' S T:=⟨a.1,a.2,λ b hb=>a.3 b (hT b hb),a.4⟩
theorem q09.wide (a:q09 N h h' S S') (hS:∀ b,b∈S→b∈T∨h.next≤b) (hS':∀ b,b∈T'→b∈S'∨(b∈T∧b < h.next)):q09 N h h' T T':=by
 refine ⟨a.1,λ b hb hs=>a.2 b hb (λ e=>by rcases hS b e with q | q; exact hs q; omega),λ b hb=>?_,a.4⟩
 rcases hS' b hb with e | ⟨e,f⟩
 ·exact ⟨(a.3 b e).1,by rcases (a.3 b e).2 with q | q; exact hS b q; exact .inr q⟩
 ·exact ⟨by have:=a.1; omega,.inl e⟩
theorem q09.cut (s:q09 0 h h' S S'):Step h (h'.cutLp h) S S':=⟨s.1,s.2,s.3,by
 funext b
 rw [qcj]
 split
 ·rename_i hb; exact s.4 b (Nat.zero_le _) hb
 ·rfl⟩
theorem q09.more (a:q09 N h h' S S') (T:List Nat) (ht:∀ b,b∈T→b < h.next):q09 N h h' (S++T) (S'++T):=by
 refine ⟨a.1,λ b hb hs=>a.2 b hb (λ e=>hs (by simp [e])),λ b hb=>?_,a.4⟩
 rcases List.mem_append.1 hb with e | e
 ·exact ⟨(a.3 b e).1,by rcases (a.3 b e).2 with q | q <;> simp [q]⟩
 ·exact ⟨by have:=ht b e; have:=a.1; omega,by simp [e]⟩
end
structure q2h (w0:World) (N B:Nat) (C:Hp→List Nat→Prop):Prop where
 ins:∀ h lp S,(∀ b,b < N→lp b=h.lp b)→C h S→C { h with lp:=lp } S
 step:∀ h h' S T T',Fit w0 h→C h S→Step h h' T T'→(∀ b,b∈S→b∉T)→(∀ b,b∈T→B≤b)→C h' S
 lt:∀ h S,C h S→∀ b,b∈S→b < h.next
theorem q2h.y {w0:World} {N M B:Nat} {C:Hp→List Nat→Prop} (k:q2h w0 N B C) {h h':Hp} {S T T':List Nat} (f:Fit w0 h) (c:C h S) (st:q09 M h h' T T') (hd:∀ b,b∈S→b∉T) (hB:∀ b,b∈T→B≤b) (hl:∀ b,b < N→h'.lp b=h.lp b):C h' S:=
 k.ins (h'.as h) h'.lp S hl (k.step h _ S T T' f c st.step hd hB)
def ItC (P:Program) (w0:World) (fv:Value) (hh:Hp) (T:List Nat) (xs:List (List Value)):Prop:=
 ∀ (y:Value) (N:Nat) (S:List Nat) (C:Nat→Hp→List Nat→Prop) (D:Hp→List Nat→Prop),y≠junk→N≤hh.next→(∀ i,q2h w0 N hh.next (C i))→q2h w0 N hh.next D→
  (∀ i x h1 S1,xs[i]?=some x→Fit w0 h1→C i h1 S1→q1n P w0 y x (λ v h2=>∃ S2,q09 N h1 h2 S1 S2∧((v=.bool true∧C (i + 1) h2 S2)∨(v=.bool false∧D h2 S2))) h1)→
  C 0 hh S→(∀ b,b∈S→b∉T)→qcz P w0 fv [y] (λ _ h2=>∃ S2,q09 N hh h2 S S2∧(C xs.length h2 S2∨D h2 S2)) hh
theorem q0k0 {P:Program} {w0:World} {fv:Value} {np:Nat} {round:Nat→Lp→List Value→qh→Hp→Prop} {K0:Hp→Prop} {Ks:List (Option Nat × (Hp→Prop))} {h:Hp} {xs:List (List Value)} {T:List Nat}
  (N:Nat) (hN:N≤h.next) (f:Fit w0 h) (it:∀ g,ItC P w0 fv (h.newLp g) T xs) (body:Nat→Lp→List Value→qh→Hp→Prop) (hround:∀ b g x K,round b g x K=q6h b g (body b g x K))
  (S:List Nat) (C:Nat→Hp→List Nat→Prop) (D:Option Nat→Hp→List Nat→Prop) (kC:∀ i,q2h w0 N h.next (C i)) (kD:∀ o,q2h w0 N h.next (D o)) (h0:C 0 h S) (hd:∀ b,b∈S→b∉T)
  (hx:∀ x,x∈xs→x.length=np∧∀ v,v∈x→v≠junk)
  (hr:∀ i x h1 S1 g K,xs[i]?=some x→Fit w0 h1→C i h1 S1→h1.lp h.next=some (g,.busy)→h.next < h1.next→
   (∀ h2 S2,q09 N h1 h2 S1 S2→C (i + 1) h2 S2→q24 h.next g none K h2)→(∀ o h2 S2,q09 N h1 h2 S1 S2→D o h2 S2→q24 h.next g (some o) K h2)→body h.next g x K h1)
  (k0:∀ h3 S2,Fit w0 h3→q09 N h h3 S S2→C xs.length h3 S2→K0 h3)
  (ks:∀ o h3 S2,Fit w0 h3→q09 N h h3 S S2→D o h3 S2→∃ p,p∈Ks∧p.1=o∧p.2 h3):q3j P w0 fv np round K0 Ks h:=by
 refine ⟨λ g hy=>?_⟩
 let L:Hp→Prop:=λ h1=>h.next < h1.next∧∀ c,N≤c→c < h.next→h1.lp c=h.lp c
 have hLs:∀ h1 h2,L h1→h1.next≤h2.next→(∀ c,c < h.next→h2.lp c=h1.lp c)→L h2:=λ h1 h2 a n e=>⟨Nat.lt_of_lt_of_le a.1 n,λ c h3 h4=>by rw [e c h4]; exact a.2 c h3 h4⟩
 have key:=it g (.func (.yield h.next) #[] #[]) (h.next + 1) S (λ i h1 S1=>C i h1 S1∧h1.lp h.next=some (g,.ready)∧L h1) (λ h1 S1=>∃ o,D o h1 S1∧h1.lp h.next=some (g,.done o)∧L h1)
  (by simp [junk]) (Nat.le_refl _) (λ i=>⟨λ h1 lp S1 e ⟨a,b,c⟩=>⟨(kC i).ins h1 lp S1 (λ b hb=>e b (by omega)) a,by show lp h.next=_; rw [e _ (by omega)]; exact b,hLs h1 _ c (Nat.le_refl _) λ c hc=>e c (by omega)⟩,
   λ h1 h2 S1 T1 T2 f1 ⟨a,b,c⟩ st hdj hB=>⟨(kC i).step h1 h2 S1 T1 T2 f1 a st hdj (λ b hb=>Nat.le_of_succ_le (hB b hb)),by rw [st.lp]; exact b,hLs h1 _ c st.1 λ c hc=>by rw [st.lp]⟩,λ h1 S1 ⟨a,b,c⟩=>(kC i).lt h1 S1 a⟩)
  ⟨λ h1 lp S1 e ⟨o,a,b,c⟩=>⟨o,(kD o).ins h1 lp S1 (λ b hb=>e b (by omega)) a,by show lp h.next=_; rw [e _ (by omega)]; exact b,hLs h1 _ c (Nat.le_refl _) λ c hc=>e c (by omega)⟩,
   λ h1 h2 S1 T1 T2 f1 ⟨o,a,b,c⟩ st hdj hB=>⟨o,(kD o).step h1 h2 S1 T1 T2 f1 a st hdj (λ b hb=>Nat.le_of_succ_le (hB b hb)),by rw [st.lp]; exact b,hLs h1 _ c st.1 λ c hc=>by rw [st.lp]⟩,λ h1 S1 ⟨o,a,b,c⟩=>(kD o).lt h1 S1 a⟩
  (λ i x h1 S1 hi f1 ⟨c1,c2,c3⟩=>?_) ⟨(kC 0).ins { h with next:=h.next + 1 } (h.newLp g).lp S (λ b hb=>by rw [q77,if_neg (by omega)]) ((kC 0).step h _ S [] [] f h0 ⟨Nat.le_succ _,λ _ _ _=>⟨rfl,rfl⟩,λ b hb=>by simp at hb,rfl⟩ (by simp) (by simp)),by simp,by simp,λ c h1 h2=>by rw [q77,if_neg (by omega)]⟩ hd
 ·refine qwy key λ _ h2 ⟨S2,ys,hk⟩ f2=>?_
  have hY:L h2→∀ s,q09 N h (h2.setLp h.next g s) S S2:=λ l s=>⟨by have:=ys.next; simp at this ⊢; omega,λ b hb hs=>ys.keep b (by simp; omega) hs,λ b hb=>⟨(ys.own b hb).1,by
   rcases (ys.own b hb).2 with q | q
   ·exact .inl q
   ·right; simp at q; omega⟩,λ b h3 h4=>by rw [q2u,if_neg (by omega)]; exact l.2 b h3 h4⟩
  rcases hk with ⟨c1,c2,c3⟩ | ⟨o,c1,c2,c3⟩
  ·exact .inl ⟨c2,k0 _ S2 (f2.setLp f.base c3.1) (hY c3 _) ((kC _).ins h2 _ S2 (λ b hb=>by rw [if_neg (by omega)]) c1)⟩
  ·obtain ⟨p,hp,hpo,hpk⟩:=ks o _ S2 (f2.setLp f.base c3.1) (hY c3 .mark) ((kD _).ins h2 _ S2 (λ b hb=>by rw [if_neg (by omega)]) c1)
   exact .inr ⟨p,hp,by rw [hpo]; exact c2,hpk⟩
 ·obtain ⟨hxl,hxj⟩:=hx x (List.mem_of_getElem? hi)
  refine .inr ⟨h.next,rfl,hy x h1 _ hxl hxj c2 ?_⟩
  rw [hround]
  refine ⟨c2,hr i x (h1.setLp h.next g .busy) S1 g _ hi (f1.setLp f.base c3.1) ((kC i).ins h1 _ S1 (λ b hb=>by rw [if_neg (by omega)]) c1) (by simp) c3.1 (λ h2 S2 ys c4=>?_) (λ o h2 S2 ys c4=>?_)⟩
  ·refine ⟨by rw [ys.lp h.next hN c3.1]; simp,S2,⟨ys.next,ys.keep,ys.own,λ b h3 h4=>?_⟩,.inl ⟨rfl,(kC _).ins h2 _ S2 (λ b hb=>by rw [if_neg (by omega)]) c4,by simp [q5s],Nat.lt_of_lt_of_le c3.1 ys.next,λ c h3 h4=>?_⟩⟩
   ·rw [q2u,if_neg (by omega),ys.lp b (by omega) h4,q2u,if_neg (by omega)]
   ·rw [q2u,if_neg (by omega),ys.lp c h3 (by have:=c3.1; simp; omega),q2u,if_neg (by omega)]
    exact c3.2 c h3 h4
  ·refine ⟨by rw [ys.lp h.next hN c3.1]; simp,S2,⟨ys.next,ys.keep,ys.own,λ b h3 h4=>?_⟩,.inr ⟨rfl,o,(kD _).ins h2 _ S2 (λ b hb=>by rw [if_neg (by omega)]) c4,by simp [q5s],Nat.lt_of_lt_of_le c3.1 ys.next,λ c h3 h4=>?_⟩⟩
   ·rw [q2u,if_neg (by omega),ys.lp b (by omega) h4,q2u,if_neg (by omega)]
   ·rw [q2u,if_neg (by omega),ys.lp c h3 (by have:=c3.1; simp; omega),q2u,if_neg (by omega)]
    exact c3.2 c h3 h4
section
variable {w0:World} {h:Hp}
theorem Sl.stepL {h':Hp} {s n:Nat} {x:Value} {ys:List Value} (v:Sl w0 h s x n ys) (hx:∀ b,b∈q0z x→b < h.next) {S S':List Nat} (st:Step h h' S S') (hd:∀ b,b∈q0z x→b∉S):Sl w0 h' s x n ys:=by
 obtain ⟨a,c,rfl,h1,h2,h3⟩:=v
 refine ⟨a,c,rfl,h1.frame λ b cs hb hbk=>by rw [(st.keep b (hx b hb) (hd b hb)).1]; exact hbk,h2,?_⟩
 rcases h3 with h3 | ⟨rfl,ad,rfl,h4,cs,h5⟩
 ·exact .inl h3
 ·obtain ⟨k1,k2⟩:=st.keep ad.block (hx _ (by simp [q0z])) (hd _ (by simp [q0z]))
  exact .inr ⟨rfl,ad,rfl,by rw [k2]; exact h4,cs,by rw [k1]; exact h5⟩
theorem Vec.sblk_eq {s n:Nat} {x:Value} {cs:List Value} {S:List Nat} (v:Vec w0 h s x n cs S):q0z x=S:=by
 rcases v with ⟨rfl,-,-,rfl⟩ | ⟨q,rfl,rfl,-⟩ <;> rfl
end
section
variable {w0:World} {h:Hp}
theorem Sl.fld {s n i o:Nat} {x u:Value} {ys:List Value} {k:IntKind} {K:qh} (v:Sl w0 h s x n ys) (hi:i < n) (ho:o < s) (hv:ys[i * s + o]?=some u) (hk:K u h):
  q04 s x (.int k (i:Int)) (λ p=>qk p o λ q=>qg w0 q K) h:=by
 obtain ⟨a,c,rfl,⟨-,hs⟩,hy,-⟩:=v
 rcases hs with ⟨h1,-⟩ | ⟨-,ad,rfl,hg,hcl⟩
 ·omega
 ·obtain ⟨hsp,cs,hb,hle,rfl⟩:=Hp.getN_some hg
  obtain ⟨b,off,sp⟩:=ad
  simp only at hsp hb hle
  subst hsp
  have hm:(i + 1) * s≤n * s:=Nat.mul_le_mul_right _ hi
  rw [Nat.add_mul,Nat.one_mul] at hm
  refine ⟨_,n,c,k,i,rfl,rfl,by omega,by omega,_,rfl,_,u,rfl,?_,λ hlt=>(hcl (by rw [add_block,add_block] at hlt; exact hlt) u (List.mem_of_getElem? hv)).1,hk⟩
  rw [Int.toNat_natCast,addr_add,addr_add,q002,hb,Option.bind_some]
  rw [List.getElem?_take,if_pos (by omega),List.getElem?_drop] at hv
  simp only at hv
  rw [← hv,Nat.add_assoc]
end
section
variable {w0:World} {h:Hp}
theorem q4l {q n:Nat} {cs e:List Value} {K:qh} (hB:w0.heap.size≤q) (hb:h.blk q=some cs) (hl:cs.length=n) (he:e.length=n) (hk:K undef (h.put q e)):q0k w0 (.pointer (some ⟨q,0,none⟩)) (.agg e.toArray) n K h:=by
 refine ⟨q,0,cs,e.toArray,rfl,hB,rfl,by simpa using he,hb,by omega,?_⟩
 rw [qld _ _ (by simp; omega)]
 simpa using hk
end
theorem q01.shrink {w0:World} {ι:Inj} {h:Hp} {w:World} (r:q01 w0 ι h w) {b:Nat} {cs:List Value} (hb:w0.heap.size≤b) (hc:h.blk b=some cs) (k:Nat):q01 w0 ι (h.put b (cs.take k)) w:=by
 refine ⟨r.base,r.size,r.ext,λ i hi=>?_,r.os,r.tape,r.output,λ i c hi hc'=>?_,λ i j c c' hi hj hc1 hc2 hne=>?_,r.loops⟩
 ·rw [q17,if_neg (by omega)]
  exact r.exta i hi
 ·rw [q17] at hc'
  split at hc'
  ·rename_i e
   subst e
   cases hc'
   obtain ⟨lt,len,sz,cell,row,cp,um⟩:=r.live i cs hi hc
   refine ⟨lt,by simp; omega,sz,λ v hv=>cell v (List.mem_of_mem_take hv),λ hp=>?_,cp,λ hu=>?_⟩
   rotate_left
   ·simp only [Hp.put,if_true,Bool.and_eq_true] at hu
    exact ⟨λ v hv=>List.all_eq_true.1 hu.2 v hv,(um hu.1).2⟩
   obtain ⟨q1,arr,e,lo,hi',q2,q3,q4,q5,q6⟩:=row hp
   refine ⟨q1,arr,e,lo,hi',q2,q3,q4,q5,λ j v hj=>?_⟩
   rw [List.getElem?_take] at hj
   split at hj
   ·exact q6 j v hj
   ·cases hj
  ·rename_i hne
   obtain ⟨lt,len,sz,cell,row,cp,um⟩:=r.live i c hi hc'
   exact ⟨lt,len,sz,cell,row,cp,λ hu=>um (by simp only [Hp.put,if_neg hne] at hu; exact hu)⟩
 ·have key:∀ x cx,(h.put b (cs.take k)).blk x=some cx→∃ cy,h.blk x=some cy:=λ x cx hx=>by
   rw [q17] at hx
   split at hx
   ·rename_i e; subst e; exact ⟨cs,hc⟩
   ·exact ⟨cx,hx⟩
  obtain ⟨_,y1⟩:=key i c hc1
  obtain ⟨_,y2⟩:=key j c' hc2
  exact r.apart i j _ _ hi hj y1 y2 hne
theorem qf.forget {P:Program} {w0:World} {f:FuncId} {args:List Value} {h:Hp} {R R':qh} (c:qf P w0 f args h R)
  (hr:∀ v h',R v h'→Fit w0 h'→R' v h'∨∃ b cs k,w0.heap.size≤b∧h'.blk b=some cs∧R' v (h'.put b (cs.take k))):qf P w0 f args h R' :=
 ⟨c.1,λ ι w args' r v=>(c.2 ι w args' r v).mono λ e w' ⟨v',ι',h',v,a,x,rl,d,e⟩=>by
  rcases hr v h' e rl.fit with q | ⟨b,cs,k,q1,q2,q3⟩
  ·exact ⟨v',ι',h',v,a,x,rl,d,q⟩
  ·exact ⟨v',ι',h'.put b (cs.take k),v,a,⟨x.1,x.2,x.3⟩,rl.shrink q1 q2 k,d,q3⟩⟩
theorem qg2 {A Z e:List Value} (h:e.length≤Z.length):splice (A++Z) A.length e=A++e++Z.drop e.length:=by
 unfold splice
 rw [List.take_left,List.drop_append,List.drop_of_length_le (by omega),List.nil_append]
 congr 2
 omega
theorem q00f {A B Z e:List Value} (hZ:Z.length=e.length + B.length):splice (splice (A++Z) A.length e) (A.length + e.length) B=A++e++B:=by
 rw [qg2 (by omega),← List.length_append,qg2 (by simp; omega),List.drop_of_length_le (by simp; omega),List.append_nil]
theorem q00j {A B R e:List Value} (hR:e.length≤R.length):(splice (splice (A++(B++R)) (A.length + e.length) B) A.length e).take (A.length + e.length + B.length)=A++e++B:=by
 have e1:A++(B++R)=(A++(B++R).take e.length)++(B++R).drop e.length:=by rw [List.append_assoc,List.take_append_drop]
 have e2:A.length + e.length=(A++(B++R).take e.length).length:=by simp; omega
 rw [e1,e2,qg2 (by simp; omega),List.append_assoc,List.append_assoc,qg2 (by simp; omega),List.drop_append,List.drop_of_length_le (by simp; omega),List.nil_append]
 have e3:e.length - ((B++R).take e.length).length=0:=by simp; omega
 rw [e3,List.drop_zero,← e2,← List.append_assoc,List.take_append_of_le_length (by simp; omega),List.take_of_length_le (by simp; omega)]
theorem q0kp {h:Hp} {b o n s u:Nat} {cs:List Value} (hb:h.blk b=some cs) (h0:0 < s) (hu:n < u) (hl:o + u * s≤cs.length):q00g h (some ⟨b,o,none⟩) n s u:=⟨h0,hu,_,cs,rfl,hb,hl⟩
theorem q33 {h:Hp} {s b o n l u:Nat} {olo ohi:Option Value} {cs:List Value} {K:qh} (h1:q2p olo 0=some l) (h2:q2p ohi n=some u) (hlu:l≤u) (hb:h.blk b=some cs) (hs:h.esz b=s) (h0:0 < s) (hl:o + u * s≤cs.length)
  (hk:K (.slice (some ⟨b,o + l * s,none⟩) (u - l) q0b) h):q1e s (.slice (some ⟨b,o,none⟩) n q0b) olo ohi none K h:=by
 refine ⟨some ⟨b,o,none⟩,n,q0b,l,u,rfl,h1,h2,hlu,by simp,?_⟩
 show (if q0b=q0b then _ else _)
 rw [if_pos rfl]
 refine ⟨?_,_,rfl,hs,⟨cs,hb⟩,by simpa using hk⟩
 by_cases hun:u≤n
 ·exact .inl hun
 ·exact .inr (q0kp hb h0 (by omega) hl)
end Go.Proofs.YtfmoemconapmhaaGreat.Ah
