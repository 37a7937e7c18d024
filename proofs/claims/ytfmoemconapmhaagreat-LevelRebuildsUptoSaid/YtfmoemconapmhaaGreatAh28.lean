/- Loops over functions: what is to be shown of one, and that it then runs so. -/
import Derived.Test.YtfmoemconapmhaaGreatAhg
import Derived.RangeFuncRecord
set_option linter.all false
namespace Go.Proofs.YtfmoemconapmhaaGreat.Ah
open Go
def Hp.newLp (h:Hp) (g:Lp):Hp:={ blk:=h.blk,next:=h.next + 1,esz:=h.esz,lp:=λ i=>if i=h.next then some (g,.ready) else h.lp i,cp:=h.cp,um:=h.um }
def Hp.setLp (h:Hp) (b:Nat) (g:Lp) (s:Lst):Hp:={ h with lp:=λ i=>if i=b then some (g,s) else h.lp i }
def Hp.cutLp (h h0:Hp):Hp:={ h with lp:=λ i=>if i < h0.next then h.lp i else h0.lp i }
@[simp] theorem q99 (h:Hp) (g:Lp):(h.newLp g).blk=h.blk:=rfl
@[simp] theorem q0p7 (h:Hp) (g:Lp):(h.newLp g).next=h.next + 1:=rfl
@[simp] theorem q0pn (h:Hp) (g:Lp):(h.newLp g).esz=h.esz:=rfl
@[simp] theorem q77 (h:Hp) (g:Lp) (i:Nat):(h.newLp g).lp i=if i=h.next then some (g,.ready) else h.lp i:=rfl
@[simp] theorem q0pu (h:Hp) (b:Nat) (g:Lp) (s:Lst):(h.setLp b g s).blk=h.blk:=rfl
@[simp] theorem q0p9 (h:Hp) (b:Nat) (g:Lp) (s:Lst):(h.setLp b g s).next=h.next:=rfl
@[simp] theorem q0pt (h:Hp) (b:Nat) (g:Lp) (s:Lst):(h.setLp b g s).esz=h.esz:=rfl
@[simp] theorem q2u (h:Hp) (b:Nat) (g:Lp) (s:Lst) (i:Nat):(h.setLp b g s).lp i=if i=b then some (g,s) else h.lp i:=rfl
@[simp] theorem q0ib (h h0:Hp):(h.cutLp h0).blk=h.blk:=rfl
@[simp] theorem q0pd (h h0:Hp):(h.cutLp h0).next=h.next:=rfl
@[simp] theorem q0pm (h h0:Hp):(h.cutLp h0).esz=h.esz:=rfl
@[simp] theorem qcj (h h0:Hp) (i:Nat):(h.cutLp h0).lp i=if i < h0.next then h.lp i else h0.lp i:=rfl
def q6h (b:Nat) (g:Lp) (k:Hp→Prop) (h:Hp):Prop:=h.lp b=some (g,.ready)∧k (h.setLp b g .busy)
def q5s:Option (Option Nat)→Lst
 | none=>.ready
 | some o=>.done o
def q24 (b:Nat) (g:Lp) (o:Option (Option Nat)) (K:qh) (h:Hp):Prop:=h.lp b=some (g,.busy)∧K (.bool o.isNone) (h.setLp b g (q5s o))
def q0oj (b:Nat) (g:Lp) (K0:Hp→Prop) (Ks:List (Option Nat × (Hp→Prop))) (h:Hp):Prop:=
 (h.lp b=some (g,.ready)∧K0 (h.setLp b g .mark))∨∃ p,p∈Ks∧h.lp b=some (g,.done p.1)∧p.2 (h.setLp b g .mark)
def qcz (P:Program) (w0:World) (fv:Value) (args:List Value) (K:qh) (h:Hp):Prop:=
 ∃ f a c,fv=.func (.func f) a c∧qaw P f=true∧qf P w0 f (a.toList++args++c.toList) h K
structure q3j (P:Program) (w0:World) (fv:Value) (np:Nat) (round:Nat→Lp→List Value→qh→Hp→Prop) (K0:Hp→Prop) (Ks:List (Option Nat × (Hp→Prop))) (h:Hp):Prop where
 go:∀ g:Lp,(∀ args h1 K1,args.length=np→(∀ v,v∈args→v≠junk)→h1.lp h.next=some (g,.ready)→round h.next g args K1 h1→q4e P w0 h.next args h1 K1)→
  qcz P w0 fv [.func (.yield h.next) #[] #[]] (λ _ h2=>q0oj h.next g K0 Ks h2) (h.newLp g)
def setPs:Fr→List Nat→List Value→Fr
 | t,[],_=>t
 | t,p :: ps,args=>setPs (upd t p (args.getD 0 undef)) ps args.tail
noncomputable def q004 (C:Cx) (draw:List Oper→Fr→(Fr→Hp→Prop)→Hp→Prop) (t:Fr) (ps:List Nat) (assign body:Code) (b:Nat) (g:Lp) (args:List Value) (K1:qh):Hp→Prop:=
 q4g C draw assign (setPs t ps args) λ e t h=>match e with
  | .normal=>q6h b g (q4g C draw body t λ e t h=>match e with
   | .normal=>q24 b g none K1 h
   | .exit id=>q24 b g (some (some id)) K1 h
   | .ret=>q24 b g (some none) K1 h
   | _=>False) h
  | _=>False
noncomputable def q4s (C:Cx) (draw:List Oper→Fr→(Fr→Hp→Prop)→Hp→Prop):Code→Fr→qb2→Hp→Prop
 | .skip,t,K,h=>K .normal t h
 | .region _ ops d,t,K,h=>bif d then draw ops.toList t (λ t h=>K .normal t h) h else qd7 C.P C.w0 C.n ops.toList ops.toList t (λ t h=>K .normal t h) h
 | .seq a b,t,K,h=>q4s C draw a t (λ e t h=>match e with | .normal=>q4s C draw b t K h | e=>K e t h) h
 | .cond c x y,t,K,h=>qt (ev C.n t c) (λ h=>q4s C draw x t K h) (λ h=>q4s C draw y t K h) h
 | .block id c,t,K,h=>q4s C draw c t (λ e t h=>match e with | .exit id'=>if id'=id then K .normal t h else K (.exit id') t h | e=>K e t h) h
 | .loop c,t,K,h=>∃ m,q0p (λ t R K h=>q4s C draw c t (λ e t h=>match e with | .normal=>R (scrub (q2x C.ks (keyOf c)).1 t) h | .exit id=>q3v (q2c c) K (some id) (scrub (q2x C.ks (keyOf c)).2 t) h | .ret=>q3v (q2c c) K none (scrub (q2x C.ks (keyOf c)).2 t) h | _=>False) h) m (scrub (q2x C.ks (keyOf c)).1 t) ((q2c c).map λ o t h=>K (q9l o) t h) h
 | .exit id,t,K,h=>K (.exit id) t h
 | .ret,t,K,h=>K .ret t h
 | .rangeFunc fo ps assign body,t,K,h=>q3j C.P C.w0 (ev C.n t fo) ps.size (λ b g args K1=>q004 C draw t ps.toList assign body b g args K1) (λ h=>K .normal t h) ((q2c body).map λ o=>(o,λ h=>K (q9l o) t h)) h
 | _,_,_,_=>False
noncomputable def qh3 (C:Cx) (draw:List Oper→Fr→(Fr→Hp→Prop)→Hp→Prop) (c:Code):Fr→(Fr→Hp→Prop)→List (Fr→Hp→Prop)→Hp→Prop:=
 λ t R K h=>q4s C draw c t (λ e t h=>match e with
  | .normal=>R (scrub (q2x C.ks (keyOf c)).1 t) h
  | .exit id=>q3v (q2c c) K (some id) (scrub (q2x C.ks (keyOf c)).2 t) h
  | .ret=>q3v (q2c c) K none (scrub (q2x C.ks (keyOf c)).2 t) h
  | _=>False) h
def q2e (h0:Hp) (k:Hp→Prop) (h:Hp):Prop:=k (h.cutLp h0)
noncomputable def qh8 (C:Cx) (draw:List Oper→Fr→(Fr→Hp→Prop)→Hp→Prop) (fn:Func) (args:List Value) (R:qh) (h:Hp):Prop:=
 match fn.body with
 | some c=>q4s C draw c (qay args) (λ e t h'=>match e with
  | .normal=>q2e h (q4z C.P C.w0 C.n fn.results.toList t (λ vs h=>qo vs R h)) h'
  | .ret=>q2e h (q4z C.P C.w0 C.n fn.results.toList t (λ vs h=>qo vs R h)) h'
  | _=>False) h
 | none=>False
section
variable {P:Program} {w0:World} {ι:Inj} {h:Hp} {w:World}
theorem q01.putObj (r:q01 w0 ι h w) {l:Nat} {o o':Obj} {lp:Nat→Option (Lp × Lst)} (hB:w0.heap.size≤l) (ho:w.heap[l]?=some o) (hn:qmp o) (hl:q5d w0.heap.size h.next ι lp (w.putObj l o')):
  q01 w0 ι { h with lp:=lp } (w.putObj l o'):=by
 have hoth:∀ k,k≠l→(w.putObj l o').heap[k]?=w.heap[k]?:=λ k hk=>World.putObj_heap_other hk
 refine ⟨r.base,by simpa using r.size,λ i hi=>(hoth i (by omega)).trans (r.ext i hi),r.exta,r.os,r.tape,r.output,λ b cs hb hc=>?_,r.apart,hl⟩
 obtain ⟨lt,len,sz,cell,row,cp,um⟩:=r.live b cs hb hc
 refine ⟨lt,len,sz,cell,λ hp=>?_,cp,λ hu=>⟨(um hu).1,λ arr e lo hi hp hh=>?_⟩⟩
 rotate_left
 ·obtain ⟨q1,arr1,e1,lo1,hi1,hh1,-⟩:=row hp
  rw [hoth _ (λ e'=>by rw [e',ho] at hh1; cases hh1; exact hn _ _ _ rfl)] at hh
  exact (um hu).2 _ _ _ _ hp hh
 obtain ⟨q1,arr,e,lo,hi,hh,rest⟩:=row hp
 exact ⟨q1,arr,e,lo,hi,(hoth _ (λ e'=>by rw [e',ho] at hh; cases hh; exact hn _ _ _ rfl)).trans hh,rest⟩
theorem q01.putLoop (r:q01 w0 ι h w) {b:Nat} {g:Lp} {s s':Lst} {q q':Loop} (hb:h.lp b=some (g,s)) (hq:w.heap[(ι b).β]?=some (.loop q))
  (hs:s'≠.mark→q00m s' q'.state q'.pending∧q'.params.toList=g.ps∧q'.assign=g.assign∧q'.body=g.body∧q1i w0.heap.size h.next ι g.n g.t q'.tmps):
  q01 w0 ι (h.setLp b g s') (w.putObj (ι b).β (.loop q')):=by
 obtain ⟨h1,h2,h3,h4,h5,-⟩:=r.loops.row b g s hb
 have hlt:=(Array.getElem?_eq_some_iff.1 hq).1
 have hsame:(w.putObj (ι b).β (.loop q')).heap[(ι b).β]?=some (.loop q'):=World.putObj_heap_same hlt
 have hoth:∀ k,k≠(ι b).β→(w.putObj (ι b).β (.loop q')).heap[k]?=w.heap[k]?:=λ k hk=>World.putObj_heap_other hk
 refine r.putObj h3 hq (λ _ _ _=>by simp) ⟨λ i g' s1 e=>?_,λ i j x x' e e' hne=>?_⟩
 ·split at e
  ·rename_i hi
   subst hi
   cases e
   refine ⟨h1,h2,h3,h4,?_,q',hsame,hs⟩
   rw [hoth _ (λ e'=>by rw [e',hq] at h5; cases h5)]
   exact h5
  ·rename_i hi
   obtain ⟨g1,g2,g3,g4,g5,z,z1,z2⟩:=r.loops.row i g' s1 e
   refine ⟨g1,g2,g3,g4,?_,z,(hoth _ (r.loops.apart i b _ _ e hb hi).1).trans z1,z2⟩
   rw [hoth _ (λ e'=>by rw [e',hq] at g5; cases g5)]
   exact g5
 ·have key:∀ k y,(if k=b then some (g,s') else h.lp k)=some y→∃ y',h.lp k=some y':=λ k y hk=>by
   split at hk
   ·rename_i e; subst e; exact ⟨_,hb⟩
   ·exact ⟨_,hk⟩
  obtain ⟨y,hy⟩:=key i x e
  obtain ⟨y',hy'⟩:=key j x' e'
  exact r.loops.apart i j _ _ hy hy' hne
theorem q01.beginRound (r:q01 w0 ι h w) {b:Nat} {g:Lp} (hb:h.lp b=some (g,.ready)):
  ∃ w',(Instr.beginRound (ι b).β).run P w=.ok () w'∧q01 w0 ι (h.setLp b g .busy) w':=by
 obtain ⟨-,-,-,-,-,q,q1,h6⟩:=r.loops.row b g _ hb
 obtain ⟨⟨q2,q3⟩,q4⟩:=h6 (by simp)
 exact ⟨_,run_beginRound q1 q2,r.putLoop hb q1 λ _=>⟨⟨rfl,q3⟩,q4⟩⟩
theorem q01.endRound (r:q01 w0 ι h w) {b:Nat} {g:Lp} (o:Option (Option Nat)) (hb:h.lp b=some (g,.busy)):
  ∃ w',(Instr.endRound (ι b).β (o.map q7f)).run P w=.ok (.bool o.isNone) w'∧q01 w0 ι (h.setLp b g (q5s o)) w':=by
 obtain ⟨-,-,-,-,-,q,q1,h6⟩:=r.loops.row b g _ hb
 obtain ⟨-,q4⟩:=h6 (by simp)
 have:=run_endRound (P:=P) (o.map q7f) q1
 rw [Option.isNone_map] at this
 refine ⟨_,this,r.putLoop hb q1 λ _=>⟨?_,q4⟩⟩
 cases o <;> exact ⟨rfl,rfl⟩
theorem q01.endLoop (r:q01 w0 ι h w) {b:Nat} {g:Lp} (o:Option (Option Nat)) (hb:h.lp b=some (g,q5s o)):
  ∃ w',(Instr.endLoop (ι b).β).run P w=.ok (o.map q7f) w'∧q01 w0 ι (h.setLp b g .mark) w':=by
 obtain ⟨-,-,-,-,-,q,q1,h6⟩:=r.loops.row b g _ hb
 obtain ⟨q2,q4⟩:=h6 (by cases o <;> simp [q5s])
 have hst:q.state≠.busy∧q.pending=o.map q7f:=by
  cases o <;> (obtain ⟨a,c⟩:=q2; rw [a,c]; simp)
 have:=run_endLoop (P:=P) q1 hst.1
 rw [hst.2] at this
 exact ⟨_,this,r.putLoop hb q1 λ hm=>absurd rfl hm⟩
theorem q01.enterLoop (r:q01 w0 ι h w) {n:Nat} {t:Fr} {tmps:Array Value} (f:q1i w0.heap.size h.next ι n t tmps) (fn:FuncId) (ps:Array Nat) (assign body:Code):
  ∃ ι' w',(Instr.enterLoop fn tmps ps assign body none).run P w=.ok (w.heap.size + 1,[{ target:=.collected w.heap.size,args:=#[] }]) w'∧(ι' h.next).β=w.heap.size + 1∧(ι' h.next).d=w.heap.size∧
   Ext ι h ι' (h.newLp ⟨n,t,ps.toList,assign,body⟩)∧q01 w0 ι' (h.newLp ⟨n,t,ps.toList,assign,body⟩) w':=by
 let ι':Inj:=λ i=>if i=h.next then ⟨w.heap.size + 1,w.heap.size,0,0⟩ else ι i
 have hag:Agree h.next ι ι':=λ b hb=>by simp [ι']; omega
 have hnew:ι' h.next=⟨w.heap.size + 1,w.heap.size,0,0⟩:=by simp [ι']
 obtain ⟨q,hq⟩:∃ q:Loop,q = { state:=.ready,pending:=none,fn,tmps,params:=ps,assign,body,defers:=w.heap.size }:=⟨_,rfl⟩
 have hrun:=run_enterLoop_outer (P:=P) (w:=w) fn tmps ps assign body
 rw [← hq] at hrun
 have r2:=(r.alloc (.deferred (some []))).alloc (.loop q)
 have hL:((w.alloc (.deferred (some []))).alloc (.loop q)).heap[w.heap.size + 1]?=some (.loop q):=by
  have:=World.alloc_heap_new (w.alloc (.deferred (some []))) (.loop q)
  rwa [World.size_alloc] at this
 have hD:((w.alloc (.deferred (some []))).alloc (.loop q)).heap[w.heap.size]?=some (.deferred (some [])):=
  (Go.RowKit.Below.heap_alloc _ _ _ (by simp)).trans (World.alloc_heap_new w _)
 have hlt:∀ (b:Nat) x,h.lp b=some x→b≠h.next:=λ b x e=>Nat.ne_of_lt (r.loops.row b x.1 x.2 e).1
 refine ⟨ι',_,hrun,by rw [hnew],by rw [hnew],⟨Nat.le_succ _,hag,λ b g e=>?_⟩,?_⟩
 ·rw [q77,if_neg (hlt b _ e)]
  exact e
 ·refine ⟨Nat.le_succ_of_le r2.base,r2.size,r2.ext,r2.exta,r2.os,r2.tape,r2.output,λ b cs hb hc=>?_,λ b b' cs cs' hb hb' hc hc' hne=>?_,?_⟩
  ·obtain ⟨lt,len,sz,cell,row,cp,um⟩:=r2.live b cs hb hc
   have hb':ι' b=ι b:=hag b lt
   refine ⟨by simp; omega,by rw [hb']; exact len,by rw [hb']; exact sz,cell,λ hp=>?_,λ k hk=>by rw [hb']; exact cp k hk,λ hu=>by rw [hb']; exact um hu⟩
   rw [hb'] at hp ⊢
   obtain ⟨hB,arr,e',lo,hi,hh,h1,h2,h4,h3⟩:=row hp
   refine ⟨hB,arr,e',lo,hi,hh,h1,h2,h4,λ j v hj=>?_⟩
   obtain ⟨v',a,b⟩:=h3 j v hj
   exact ⟨v',a,b.mono (Nat.le_succ _) hag⟩
  ·rw [hag b (r2.live b cs hb hc).lt,hag b' (r2.live b' cs' hb' hc').lt]
   exact r2.apart b b' cs cs' hb hb' hc hc' hne
  ·have r3:=r2.loops.mono (Nat.le_succ _) hag λ _ _ e _=>e
   refine ⟨λ b g s e=>?_,λ b b' x x' e e' hne=>?_⟩
   ·simp only [q77] at e
    split at e
    ·rename_i hb
     cases e
     rw [hb,hnew]
     refine ⟨by simp,r.base,by simp; have:=r.size; omega,r.size,hD,q,hL,λ _=>?_⟩
     rw [hq]
     exact ⟨⟨rfl,rfl⟩,rfl,rfl,rfl,f.mono (Nat.le_succ _) hag⟩
    ·exact r3.row b g s e
   ·have key:∀ k y,h.lp k=some y→(ι' k).β < w.heap.size∧(ι' k).d < w.heap.size:=λ k y hk=>by
     obtain ⟨g,s⟩:=y
     obtain ⟨g1,-,-,-,g5,z,z1,-⟩:=r.loops.row k g s hk
     rw [hag k g1]
     exact ⟨(Array.getElem?_eq_some_iff.1 z1).1,(Array.getElem?_eq_some_iff.1 g5).1⟩
    simp only [q77] at e e'
    by_cases h1:b=h.next
    ·by_cases h2:b'=h.next
     ·exact absurd (h1.trans h2.symm) hne
     ·rw [if_neg h2] at e'
      have:=key b' x' e'
      rw [h1,hnew]
      exact ⟨by simp; omega,by simp; omega⟩
    ·rw [if_neg h1] at e
     by_cases h2:b'=h.next
     ·have:=key b x e
      rw [h2,hnew]
      exact ⟨by simp; omega,by simp; omega⟩
     ·rw [if_neg h2] at e'
      exact r3.apart b b' x x' e e' hne
theorem q01.lessLp (r:q01 w0 ι h w) {lp:Nat→Option (Lp × Lst)} (hl:∀ b x,lp b=some x→h.lp b=some x):q01 w0 ι { h with lp:=lp } w:=
 ⟨r.base,r.size,r.ext,r.exta,r.os,r.tape,r.output,λ b cs hb hc=>let l:=r.live b cs hb hc; ⟨l.lt,l.len,l.sz,l.cell,l.row,l.cp,l.um⟩,r.apart,
  ⟨λ b g s e=>r.loops.row b g s (hl b _ e),λ b b' x x' e e' hne=>r.loops.apart b b' x x' (hl _ _ e) (hl _ _ e') hne⟩⟩
theorem q01.takeDeferred (r:q01 w0 ι h w) {b:Nat} {g:Lp} (hb:h.lp b=some (g,.mark)):
  ∃ w',(Instr.takeDeferred (ι b).d).run P w=.ok [] w'∧q01 w0 ι { h with lp:=λ i=>if i=b then none else h.lp i } w':=by
 obtain ⟨h1,h2,h3,h4,h5,h6⟩:=r.loops.row b g _ hb
 have hoth:∀ k,k≠(ι b).d→(w.putObj (ι b).d (.deferred none)).heap[k]?=w.heap[k]?:=λ k hk=>World.putObj_heap_other hk
 refine ⟨_,run_takeDeferred h5,r.putObj h4 h5 (λ _ _ _=>by simp) ⟨λ i g' s1 e=>?_,λ i j x x' e e' hne=>?_⟩⟩
 ·split at e
  ·simp at e
  ·rename_i hi
   obtain ⟨g1,g2,g3,g4,g5,z,z1,z2⟩:=r.loops.row i g' s1 e
   refine ⟨g1,g2,g3,g4,(hoth _ (r.loops.apart i b _ _ e hb hi).2).trans g5,z,?_,z2⟩
   rw [hoth _ (λ e'=>by rw [e',h5] at z1; cases z1)]
   exact z1
 ·split at e
  ·simp at e
  ·split at e'
   ·simp at e'
   ·exact r.loops.apart i j _ _ e e' hne
end
theorem Ext.setLp {ι:Inj} {h:Hp} {b:Nat} {g:Lp} {s s':Lst} (hb:h.lp b=some (g,s)) (hs:s≠.mark):Ext ι h ι (h.setLp b g s'):=
 ⟨Nat.le_refl _,λ _ _=>rfl,λ i g' e=>by
  rw [q2u,if_neg (λ e'=>by subst e'; rw [hb] at e; cases e; exact hs rfl)]
  exact e⟩
def marksOf (ι:Inj) (bs:List Nat):List Deferred:=bs.map λ b=>{ target:=.collected (ι b).d,args:=#[] }
def Marks (N:Nat) (ι:Inj) (h:Hp) (ds:List Deferred):Prop:=∃ bs:List Nat,ds=marksOf ι bs∧bs.Nodup∧∀ b,b∈bs→N≤b∧b < h.next∧∃ g,h.lp b=some (g,.mark)
theorem Marks.ext {N:Nat} {ι ι':Inj} {h h':Hp} {ds:List Deferred} (m:Marks N ι h ds) (x:Ext ι h ι' h'):Marks N ι' h' ds:=by
 obtain ⟨bs,rfl,nd,hb⟩:=m
 refine ⟨bs,?_,nd,λ b hm=>?_⟩
 ·refine List.map_congr_left λ b hm=>?_
  rw [x.ag b (hb b hm).2.1]
 ·obtain ⟨a,c,g,d⟩:=hb b hm
  exact ⟨a,Nat.lt_of_lt_of_le c x.le,g,x.mks b g d⟩
theorem q1i.putV {B nx:Nat} {ι:Inj} {n:Nat} {t:Fr} {tmps:Array Value} (f:q1i B nx ι n t tmps) (d:Nat) {v v':Value} (hv:qy B nx ι v v'):q1i B nx ι n (upd t d v) (tmps.setIfInBounds d v'):=
 q1i.put (a:={ tmps:=tmps,defers:=[] }) f (some d) (.inr hv)
theorem q1i.setPs {B nx:Nat} {ι:Inj} {n:Nat}:∀ (ps:List Nat) (t:Fr) (tmps:Array Value) (args args':List Value),q1i B nx ι n t tmps→q0w B nx ι args args'→args.length=ps.length→
  q1i B nx ι n (setPs t ps args) ((ps.zip args').foldl (λ tmps (x:Nat × Value)=>tmps.setIfInBounds x.1 x.2) tmps):=by
 intro ps
 induction ps with
 | nil=>intro t tmps args args' f _ _; exact f
 | cons p ps ih=>
  intro t tmps args args' f ha hl
  cases args with
  | nil=>simp at hl
  | cons v args=>
   obtain ⟨v',l',rfl,hv,hr⟩:=ha.cons_inv
   exact ih _ _ args l' (f.putV p hv) hr (by simpa using hl)
section
variable {P:Program} {w0:World}
theorem q0g2 {C:Cx} {draw:List Oper→Fr→(Fr→Hp→Prop)→Hp→Prop} (hd:q6i C.P C.w0 C.n draw) {t:Fr} {ps:Array Nat} {assign body:Code} {b:Nat} {args:List Value} {h1:Hp} {K1:qh}
  (hl:h1.lp b=some (⟨C.n,t,ps.toList,assign,body⟩,.ready)) (hn:args.length=ps.size) (hj:∀ v,v∈args→v≠junk)
  (hr:q004 C draw t ps.toList assign body b ⟨C.n,t,ps.toList,assign,body⟩ args K1 h1):q4e C.P C.w0 b args h1 K1:=by
 refine ⟨hj,λ ι w args' r ha=>?_⟩
 obtain ⟨hb,-,-,-,-,q,q1,q2⟩:=r.loops.row b _ _ hl
 obtain ⟨⟨q2,q3⟩,q4,q5,q6,q7⟩:=q2 (by simp)
 have hsz:args'.size=q.params.size:=by
  have h1:=ha.1
  have h2:q.params.size=ps.size:=by rw [← Array.length_toList,q4,Array.length_toList]
  simp at h1
  omega
 refine ⟨q.fn,_,_,_,run_yield q1 hsz,roundIn_of_wpIn trivial ?_⟩
 have f1:q1i C.w0.heap.size h1.next ι C.n (setPs t ps.toList args) ((q.params.zip args').foldl (λ tmps (x:Nat × Value)=>tmps.setIfInBounds x.1 x.2) q.tmps):=by
  have:=q1i.setPs ps.toList t q.tmps args args'.toList q7 ha (by simpa using hn)
  rw [← Array.foldl_toList,Array.toList_zip,q4]
  exact this
 rw [q5,q6]
 refine qg1 hd (ro:=some (ι b).β) assign _ _ _ { tmps:=_,defers:=[] } ι h1 w r f1 hr (λ e ι2 h2 t2 a2 w2 x2 r2 f2 d2 k2=>?_)
 cases e with
 | normal=>
  obtain ⟨k3,k4⟩:=k2
  obtain ⟨w3,e3,r3⟩:=r2.beginRound (P:=C.P) k3
  rw [x2.ag b hb] at e3
  refine ⟨w3,e3,?_⟩
  refine qg1 hd (ro:=some (ι b).β) body t2 _ _ a2 ι2 _ w3 r3 f2 k4 (λ e ι3 h3 t3 a3 w4 x3 r4 f3 d3 k5=>?_)
  have hx:Ext ι h1 ι3 h3:=x2.trans ((Ext.setLp (s':=.busy) k3 (by simp)).trans x3)
  have key:∀ o:Option (Option Nat),q24 b ⟨C.n,t,ps.toList,assign,body⟩ o K1 h3→∃ v w',(Instr.endRound (ι b).β (o.map q7f)).run C.P w4=.ok v w' ∧
    ∃ v' ι' h' v2,Ending.returned v=.returned v'∧Ext ι h1 ι' h'∧q01 C.w0 ι' h' w'∧qy C.w0.heap.size h'.next ι' v2 v'∧K1 v2 h':=by
   rintro o ⟨k6,k7⟩
   obtain ⟨w5,e5,r5⟩:=r4.endRound (P:=C.P) o k6
   rw [hx.ag b hb] at e5
   exact ⟨_,w5,e5,_,ι3,_,_,rfl,hx.trans (Ext.setLp k6 (by simp)),r5,.bool _,k7⟩
  cases e with
  | normal=>exact key none k5
  | exit id=>exact key (some (some id)) k5
  | ret=>exact key (some none) k5
  | goto l=>exact k5.elim
  | panic ch=>exact k5.elim
  | outgrown=>exact k5.elim
 | exit id=>exact k2.elim
 | goto l=>exact k2.elim
 | ret=>exact k2.elim
 | panic ch=>exact k2.elim
 | outgrown=>exact k2.elim
theorem q0fq {C:Cx} {draw:List Oper→Fr→(Fr→Hp→Prop)→Hp→Prop} (hd:q6i C.P C.w0 C.n draw) {fo:Operand} {ps:Array Nat} {assign body:Code} {N:Nat} {t:Fr} {K:qb2} {Q:Exit→Act→World→Prop} {a:Act} {ι:Inj} {h:Hp} {w:World}
  (r:q01 C.w0 ι h w) (f:q1i C.w0.heap.size h.next ι C.n t a.tmps) (m:Marks N ι h a.defers) (hN:N≤h.next) (hv:q4s C draw (.rangeFunc fo ps assign body) t K h)
  (hq:∀ e ι' h' t' a' w',Ext ι h ι' h'→q01 C.w0 ι' h' w'→q1i C.w0.heap.size h'.next ι' C.n t' a'.tmps→Marks N ι' h' a'.defers→K e t' h'→Q e a' w'):
  (Code.rangeFunc fo ps assign body).wpIn (Fw none) 0 C.P Q a w:=by
 refine wpIn_rangeFunc λ fn _=>?_
 obtain ⟨ι1,w1,he,hβ,hdd,x1,r1⟩:=r.enterLoop (P:=C.P) f fn ps assign body
 obtain ⟨gf,fi,ca,e,hok,hcall⟩:=hv.go ⟨C.n,t,ps.toList,assign,body⟩ (λ args h1 K1 hn hj hl hr=>q0g2 hd hl hn hj hr)
 have hf:=f.eval fo (by rw [e]; simp [junk])
 rw [e] at hf
 have:∃ fi' ca',a.eval fo=.func (.func gf) fi' ca'∧q0w C.w0.heap.size h.next ι fi.toList fi'.toList∧q0w C.w0.heap.size h.next ι ca.toList ca'.toList:=by
  generalize a.eval fo=y at hf
  cases hf with
  | func _ _ _ f' c' g1 g2 g3 g4 _=>exact ⟨f',c',rfl,q0w.of_array g1 g3,q0w.of_array g2 g4⟩
 obtain ⟨fi',ca',e',h1,h2⟩:=this
 have hy:qy C.w0.heap.size (h.newLp ⟨C.n,t,ps.toList,assign,body⟩).next ι1 (.func (.yield h.next) #[] #[]) (.func (.yield (w.heap.size + 1)) #[] #[]):=by
  have:=qy.yld (B:=C.w0.heap.size) (nx:=h.next + 1) (ι:=ι1) h.next r.base (by omega)
  rw [hβ] at this
  exact this
 have hargs:=((h1.mono x1.le x1.ag).append (q0w.cons hy .nil)).append (h2.mono x1.le x1.ag)
 refine ⟨w.heap.size + 1,[{ target:=.collected w.heap.size,args:=#[] }],w1,{ target:=.fn (.func gf) ca',args:=fi'++#[.func (.yield (w.heap.size + 1)) #[] #[]] },w1,gf,
  fi'++#[.func (.yield (w.heap.size + 1)) #[] #[]]++ca',w1,he,?_,λ _ _=>trivial,?_,λ hx=>by simp [Fw,Fence.wide] at hx,?_⟩
 ·simp only [resolve,e',Deferred.ofValue,Sem.run_pure]
  simp [Act.eval]
 ·simp only [invoke,qme hok]
 ·have hc:=hcall.2 ι1 w1 (fi'++#[.func (.yield (w.heap.size + 1)) #[] #[]]++ca') r1 (by simpa using hargs)
  refine CallsIn.mono (F:=Fence.wide) hc ?_
  rintro _ w2 ⟨v',ι2,h2',v,rfl,x2,r2,-,k⟩
  have hb:h.next < (h.newLp ⟨C.n,t,ps.toList,assign,body⟩).next:=by simp
  have hb2:(ι2 h.next).β=w.heap.size + 1:=by rw [x2.ag _ hb]; exact hβ
  have hd2:(ι2 h.next).d=w.heap.size:=by rw [x2.ag _ hb]; exact hdd
  have key:∀ o:Option (Option Nat),h2'.lp h.next=some (⟨C.n,t,ps.toList,assign,body⟩,q5s o)→∃ w4,(Instr.endLoop (w.heap.size + 1)).run C.P w2=.ok (o.map q7f) w4∧
    ∀ e,K e t (h2'.setLp h.next ⟨C.n,t,ps.toList,assign,body⟩ .mark)→Q e { a with defers:=[{ target:=.collected w.heap.size,args:=#[] }]++a.defers } w4:=by
   intro o ho
   obtain ⟨w4,e4,r4⟩:=r2.endLoop (P:=C.P) o ho
   rw [hb2] at e4
   refine ⟨w4,e4,λ e k=>?_⟩
   have hx:Ext ι h ι2 (h2'.setLp h.next ⟨C.n,t,ps.toList,assign,body⟩ .mark):=(x1.trans x2).trans (Ext.setLp ho (by cases o <;> simp [q5s]))
   refine hq e ι2 _ t _ w4 hx r4 (f.mono hx.le hx.ag) ?_ k
   obtain ⟨bs0,hbs0,nd0,hm0⟩:=m
   refine ⟨h.next :: bs0,?_,List.nodup_cons.2 ⟨λ hm'=>by have:=(hm0 _ hm').2.1; omega,nd0⟩,λ b hb'=>?_⟩
   ·simp only [marksOf,List.map_cons,hd2]
    rw [List.singleton_append,hbs0]
    congr 1
    refine List.map_congr_left λ b hb'=>?_
    rw [hx.ag b (hm0 b hb').2.1]
   ·rcases List.mem_cons.1 hb' with rfl | hb'
    ·exact ⟨hN,Nat.lt_of_lt_of_le hb x2.le,_,by rw [q2u,if_pos rfl]⟩
    ·obtain ⟨q1,q2,g,q3⟩:=hm0 b hb'
     exact ⟨q1,Nat.lt_of_lt_of_le q2 hx.le,g,hx.mks b g q3⟩
  rcases k with ⟨k1,k2⟩ | ⟨p,hp,k1,k2⟩
  ·obtain ⟨w4,e4,k3⟩:=key none k1
   exact ⟨none,w4,e4,k3 .normal k2⟩
  ·obtain ⟨o,-,rfl⟩:=List.mem_map.1 hp
   obtain ⟨w4,e4,k3⟩:=key (some o) k1
   refine ⟨some (q7f o),w4,e4,?_⟩
   cases o with
   | none=>exact wpIn_ret (k3 .ret k2)
   | some id=>exact wpIn_exit (k3 (.exit id) k2)
theorem q0f2 {C:Cx} {draw:List Oper→Fr→(Fr→Hp→Prop)→Hp→Prop} (hd:q6i C.P C.w0 C.n draw) {N:Nat}:∀ (c:Code) (t:Fr) (K:qb2) (Q:Exit→Act→World→Prop) (a:Act) (ι:Inj) (h:Hp) (w:World),
  q01 C.w0 ι h w→q1i C.w0.heap.size h.next ι C.n t a.tmps→Marks N ι h a.defers→N≤h.next→q4s C draw c t K h→
  (∀ e ι' h' t' a' w',Ext ι h ι' h'→q01 C.w0 ι' h' w'→q1i C.w0.heap.size h'.next ι' C.n t' a'.tmps→Marks N ι' h' a'.defers→K e t' h'→Q e a' w')→
  c.wpIn (Fw none) 0 C.P Q a w:=by
 intro c
 induction c with
 | skip=>intro t K Q a ι h w r f m hN hv hq; exact wpIn_skip (hq .normal ι h t a w (Ext.refl _ _) r f m hv)
 | region id ops d=>
  intro t K Q a ι h w r f m hN hv hq
  have e1:q4g C draw (.region id ops d) t K h=q4s C draw (.region id ops d) t K h:=rfl
  exact qg1 hd (.region id ops d) t K Q a ι h w r f (e1 ▸ hv) (λ e ι' h' t' a' w' g1 g2 g3 g4 g5=>hq e ι' h' t' a' w' g1 g2 g3 (by rw [g4]; exact m.ext g1) g5)
 | seq x y ihx ihy=>
  intro t K Q a ι h w r f m hN hv hq
  refine wpIn_seq (ihx t _ _ a ι h w r f m hN hv (λ e ι' h' t' a' w' g1 g2 g3 g4 g5=>?_))
  cases e with
  | normal=>exact ihy t' K Q a' ι' h' w' g2 g3 g4 (Nat.le_trans hN g1.le) g5 (λ e2 ι2 h2 t2 a2 w2 q1 q2 q3 q4 q5=>hq e2 ι2 h2 t2 a2 w2 (g1.trans q1) q2 q3 q4 q5)
  | exit id=>exact hq _ ι' h' t' a' w' g1 g2 g3 g4 g5
  | goto l=>exact hq _ ι' h' t' a' w' g1 g2 g3 g4 g5
  | ret=>exact hq _ ι' h' t' a' w' g1 g2 g3 g4 g5
  | panic ch=>exact hq _ ι' h' t' a' w' g1 g2 g3 g4 g5
  | outgrown=>exact hq _ ι' h' t' a' w' g1 g2 g3 g4 g5
 | cond c x y ihx ihy=>
  intro t K Q a ι h w r f m hN hv hq
  obtain ⟨q,e,h1,h2⟩:=hv
  have hc:a.eval c=.bool q:=by
   have:=f.eval c (by rw [e]; simp [junk])
   rw [e] at this
   exact this.bool_inv
  cases q with
  | true=>exact wpIn_cond hc (ihx t K Q a ι h w r f m hN (h1 rfl) hq)
  | false=>exact wpIn_cond hc (ihy t K Q a ι h w r f m hN (h2 rfl) hq)
 | block id c ih=>
  intro t K Q a ι h w r f m hN hv hq
  refine wpIn_block (ih t _ _ a ι h w r f m hN hv (λ e ι' h' t' a' w' g1 g2 g3 g4 g5=>?_))
  cases e with
  | exit id' =>
   simp only [Exit.inBlock]
   by_cases hid:id'=id
   ·rw [if_pos hid]
    simp only [if_pos hid] at g5
    exact hq _ ι' h' t' a' w' g1 g2 g3 g4 g5
   ·rw [if_neg hid]
    simp only [if_neg hid] at g5
    exact hq _ ι' h' t' a' w' g1 g2 g3 g4 g5
  | normal=>exact hq _ ι' h' t' a' w' g1 g2 g3 g4 g5
  | goto l=>exact hq _ ι' h' t' a' w' g1 g2 g3 g4 g5
  | ret=>exact hq _ ι' h' t' a' w' g1 g2 g3 g4 g5
  | panic ch=>exact hq _ ι' h' t' a' w' g1 g2 g3 g4 g5
  | outgrown=>exact hq _ ι' h' t' a' w' g1 g2 g3 g4 g5
 | loop c ih=>
  intro t K Q a ι h w r f m hN hv hq
  obtain ⟨k,hv⟩:=hv
  refine wpIn_loop_rounds k ?_
  have key:∀ (k:Nat) (t:Fr) (a2:Act) (ι2:Inj) (h2:Hp) (w2:World),Ext ι h ι2 h2→q01 C.w0 ι2 h2 w2→q1i C.w0.heap.size h2.next ι2 C.n t a2.tmps→Marks N ι2 h2 a2.defers→
    q0p (λ t R K h=>q4s C draw c t (λ e t h=>match e with | .normal=>R (scrub (q2x C.ks (keyOf c)).1 t) h | .exit id=>q3v (q2c c) K (some id) (scrub (q2x C.ks (keyOf c)).2 t) h | .ret=>q3v (q2c c) K none (scrub (q2x C.ks (keyOf c)).2 t) h | _=>False) h) k t ((q2c c).map λ o t h=>K (q9l o) t h) h2→
    Code.roundsIn (Fw none) 0 C.P c Q k a2 w2:=by
   intro k
   induction k with
   | zero=>intro t a2 ι2 h2 w2 _ _ _ _ hv; exact hv.elim
   | succ k ihm=>
    intro t a2 ι2 h2 w2 hx r2 f2 m2 hv
    rw [roundsIn_succ]
    refine ih t _ _ a2 ι2 h2 w2 r2 f2 m2 (Nat.le_trans hN hx.le) hv (λ e ι' h' t' a' w' g1 g2 g3 g4 g5=>?_)
    cases e with
    | normal=>exact ihm _ a' ι' h' w' (hx.trans g1) g2 (g3.scrub _) g4 g5
    | exit id=>exact hq _ ι' h' _ a' w' (hx.trans g1) g2 (g3.scrub _) g4 (qg8 (x:=some id) g5)
    | goto l=>exact g5.elim
    | ret=>exact hq _ ι' h' _ a' w' (hx.trans g1) g2 (g3.scrub _) g4 (qg8 (x:=none) g5)
    | panic ch=>exact g5.elim
    | outgrown=>exact g5.elim
  exact key k _ a ι h w (Ext.refl _ _) r (f.scrub _) m hv
 | exit id=>intro t K Q a ι h w r f m hN hv hq; exact wpIn_exit (hq _ ι h t a w (Ext.refl _ _) r f m hv)
 | ret=>intro t K Q a ι h w r f m hN hv hq; exact wpIn_ret (hq _ ι h t a w (Ext.refl _ _) r f m hv)
 | rangeFunc _ _ _ _ _ _=>intro t K Q a ι h w r f m hN hv hq; exact q0fq hd r f m hN hv hq
 | scope _ _=>intro t K Q a ι h w r f m hN hv hq; exact hv.elim
 | label _=>intro t K Q a ι h w r f m hN hv hq; exact hv.elim
 | goto _=>intro t K Q a ι h w r f m hN hv hq; exact hv.elim
 | refuse _=>intro t K Q a ι h w r f m hN hv hq; exact hv.elim
theorem q0el {fn:Func} {tmps:Array Value} {R:Ending→World→Prop} {ι:Inj}:∀ (bs:List Nat) (h:Hp) (w:World),q01 w0 ι h w→bs.Nodup→(∀ b,b∈bs→∃ g,h.lp b=some (g,.mark))→
  (∀ w',q01 w0 ι { h with lp:=λ i=>if i∈bs then none else h.lp i } w'→LeavesIn (Fw none) 0 P fn tmps R [] .returning w')→LeavesInM (Fw none) 0 P fn tmps R (marksOf ι bs) .returning w:=by
 intro bs
 induction bs with
 | nil=>
  intro h w r _ _ hk
  exact hk w (by simpa using r)
 | cons b bs ih=>
  intro h w r nd hm hk
  obtain ⟨g,hg⟩:=hm b (by simp)
  obtain ⟨nb,nd⟩:=List.nodup_cons.1 nd
  obtain ⟨w',e,r'⟩:=r.takeDeferred (P:=P) hg
  refine ⟨by simp,.inl ⟨_,w',rfl,e,ih _ w' r' nd (λ c hc=>?_) (λ w2 r2=>hk w2 ?_)⟩⟩
  ·obtain ⟨g',hg'⟩:=hm c (by simp [hc])
   exact ⟨g',by show (if c=b then none else h.lp c)=_; rw [if_neg (λ e2:c=b=>nb (by rw [← e2]; exact hc))]; exact hg'⟩
  ·have:(λ i=>if i∈b :: bs then none else h.lp i)=λ i=>if i∈bs then none else (if i=b then none else h.lp i):=by
    funext i
    by_cases h1:i=b
    ·simp [h1]
    ·by_cases h2:i∈bs <;> simp [h1,h2]
   rw [this]
   exact r2
theorem q0cr {f:FuncId} {fn:Func} {ks:List (Nat × List Nat × List Nat)} {draw:List Oper→Fr→(Fr→Hp→Prop)→Hp→Prop} {args:List Value} {h:Hp} {R:qh}
  (hf:P.funcs[f]?=some fn) (hd:q6i P w0 fn.ntmps draw) (hn:args.length≤fn.ntmps) (hj:∀ v,v∈args→v≠junk)
  (hv:qh8 ⟨P,w0,fn.ntmps,ks⟩ draw fn args R h):qf P w0 f args h R:=by
 refine ⟨hj,λ ι w args' r ha=>?_⟩
 unfold qh8 at hv
 split at hv
 case h_2=>exact hv.elim
 rename_i c hb
 have hal:args'.size=args.length:=by have:=ha.1; simpa using this.symm
 have hfr:q1i w0.heap.size h.next ι fn.ntmps (qay args) (args'++Array.replicate (fn.ntmps - args'.size) undef):=by
  refine ⟨by simp; omega,λ i hi hne=>?_⟩
  unfold qay at hne ⊢
  by_cases hia:i < args.length
  ·have e:args[i]?=some args[i]:=by simp [hia]
   have e':args'.toList[i]?=some (args'[i]'(by omega)):=by simp
   have h1:args.getD i undef=args[i]:=by simp [List.getD,hia]
   have h2:(args'++Array.replicate (fn.ntmps - args'.size) undef).getD i undef=args'[i]'(by omega):=by
    rw [Array.getD_eq_getD_getElem?,Array.getElem?_append_left (by omega)]
    simp [show i < args'.size by omega]
   rw [h1,h2]
   exact ha.2 i _ _ e e'
  ·have h1:args.getD i undef=undef:=by simp [List.getD,List.getElem?_eq_none (show args.length≤i by omega)]
   have h2:(args'++Array.replicate (fn.ntmps - args'.size) undef).getD i undef=undef:=by
    rw [Array.getD_eq_getD_getElem?,Array.getElem?_append_right (by omega)]
    simp [Array.getElem?_replicate]
    split <;> rfl
   rw [h1,h2]
   exact .tuple _ _ rfl (λ i v v' h=>by simp at h)
 refine callsIn_of_wp_marks hf hb trivial (q0f2 (C:=⟨P,w0,fn.ntmps,ks⟩) hd (N:=h.next) c _ _ _ _ ι h w r hfr ⟨[],rfl,List.nodup_nil,λ b hb=>by simp at hb⟩ (Nat.le_refl _) hv (λ e ι' h' t' a' w' g1 g2 g3 g4 g5=>?_)) rfl
 have fin:q2e h (q4z P w0 fn.ntmps fn.results.toList t' (λ vs h=>qo vs R h)) h'→LeavesInM (Fw none) 0 P fn a'.tmps (λ e w'=>∃ v' ι'' h'' v2,e=.returned v'∧Ext ι h ι'' h''∧q01 w0 ι'' h'' w'∧qy w0.heap.size h''.next ι'' v2 v'∧R v2 h'') a'.defers .returning w':=by
  intro hres
  obtain ⟨bs,hds,nd,hm⟩:=g4
  rw [hds]
  refine q0el bs h' w' g2 nd (λ b hb=>(hm b hb).2.2) (λ w3 r3=>?_)
  have r4:q01 w0 ι' (h'.cutLp h) w3:=r3.lessLp (lp:=(h'.cutLp h).lp) λ b x e=>by
   simp only [qcj] at e ⊢
   split at e
   ·rename_i hlt
    rw [if_neg (λ hb=>by have:=(hm b hb).1; omega)]
    exact e
   ·rename_i hge
    have:=(r.loops.row b x.1 x.2 e).1
    omega
  have g1':Ext ι h ι' (h'.cutLp h):=⟨g1.le,g1.ag,λ b g e=>by
   rw [qcj,if_pos (r.loops.row b g _ e).1]
   exact g1.mks b g e⟩
  obtain ⟨vs,vs',q1,q2,q3,q4,q5,q6⟩:=qx4 (a:=a') r4 g3 _ _ hres
  have hrels:q0w w0.heap.size h'.next ι' vs vs':=⟨by omega,λ i v v' e e'=>q4 i v v' e e' (q5 v (List.mem_of_getElem? e))⟩
  have hrun:=qw3 fn a'.tmps q1
  refine ⟨_,hrun,_,ι',h'.cutLp h,oneOf vs,rfl,g1',r4,?_,q6⟩
  unfold oneOf
  split
  ·obtain ⟨v',l',rfl,hv',hl'⟩:=hrels.cons_inv
   have:l'=[]:=by have:=hl'.1; exact List.eq_nil_of_length_eq_zero (by simpa using this.symm)
   subst this
   exact hv'
  ·rename_i hne
   have hl:=hrels.1
   split
   ·rename_i v'
    obtain ⟨v,rfl⟩:=List.length_eq_one_iff.1 (show vs.length=1 by simpa using hl)
    exact absurd rfl (hne v)
   ·exact .tuple _ _ hrels.toArray.1 hrels.toArray.2
 cases e with
 | normal=>exact fin g5
 | ret=>exact fin g5
 | exit id=>exact g5.elim
 | goto l=>exact g5.elim
 | panic ch=>exact g5.elim
 | outgrown=>exact g5.elim
theorem q0d7 {f:FuncId} {fn:Func} {n:Nat} {ks:List (Nat × List Nat × List Nat)} {draw:List Oper→Fr→(Fr→Hp→Prop)→Hp→Prop} {args:List Value} {h:Hp} {R:qh} {S:Prop}
  (hf:P.funcs[f]?=some fn) (hn:fn.ntmps=n) (hd:q6i P w0 n draw) (hl:args.length≤n) (hj:∀ v,v∈args→v≠junk)
  (e:qh8 ⟨P,w0,n,ks⟩ draw fn args R h=S) (hv:S):qf P w0 f args h R:=by
 subst hn
 exact q0cr hf hd hl hj (e ▸ hv)
end
end Go.Proofs.YtfmoemconapmhaaGreat.Ah
