/- Regions that draw their order: one walk over the effects' orders serves for all orders. -/
import Derived.Test.YtfmoemconapmhaaGreatAhe
import Derived.OrdersIn
set_option linter.all false
namespace Go.Proofs.YtfmoemconapmhaaGreat.Ah
open Go
section
def qn1 (P:Program) (o:Oper):Bool:=
 match o.op with
 | .move _=>true
 | .assign _=>true
 | .pick _ _ _=>true
 | .nilCheck _=>true
 | .binOp _ _ _ _ _=>true
 | .unOp _ _ _=>true
 | .convert src dst _=>
  match P.underlying src,P.underlying dst with
  | some (.int _),_=>true
  | some .string,some .string=>true
  | _,_=>false
 | .makeFunc _ _ _=>true
 | .slice T _ _ _ _=>match P.underlying T with | some .string=>true | some (.array _ _)=>true | _=>false
 | .fieldAddr _ _ _=>true
 | .field _ _ _=>true
 | .indexAddr _ _ _=>true
 | .index _ _ _=>true
 | .extract _ _=>true
 | .call c=>match c.callee with | .builtin .len=>true | .builtin .max=>true | .builtin .min=>true | _=>false
 | _=>false
def q0nl (P:Program) (o:Oper):Bool:=
 match o.op with
 | .load _ _=>true
 | .slice T _ _ _ _=>match P.underlying T with | some (.slice _)=>true | _=>false
 | .convert src dst _=>
  match P.underlying src,P.underlying dst with
  | some (.slice _),some .string=>true
  | _,_=>false
 | _=>false
def q0lw (P:Program) (o:Oper):Bool:=qn1 P o || q0nl P o
def tmpsOf (l:List Operand):List Nat:=l.filterMap λ | .tmp t=>some t | _=>none
def q0o2:Op→List Operand
 | .move x=>[x]
 | .assign x=>[x]
 | .pick a b c=>[a,b,c]
 | .box _ x=>[x]
 | .build _ ps=>ps.toList.map (·.2)
 | .buildSlice _ _ ps=>ps.toList.map (·.2)
 | .load _ x=>[x]
 | .store _ x y=>[x,y]
 | .nilCheck x=>[x]
 | .binOp _ _ x y _=>[x,y]
 | .unOp _ _ x=>[x]
 | .convert _ _ x=>[x]
 | .makeFunc _ a b=>a.toList++b.toList
 | .makeSlice _ x y=>[x,y]
 | .slice _ x a b c=>x :: (a.toList++b.toList++c.toList)
 | .fieldAddr _ x _=>[x]
 | .field _ x _=>[x]
 | .indexAddr _ x y=>[x,y]
 | .index _ x y=>[x,y]
 | .extract x _=>[x]
 | .call c=>(match c.callee with | .value f=>[f] | _=>[])++c.args.toList
 | _=>[]
def q4i (all:List Oper) (o:Oper):List Nat:=
 tmpsOf (q0o2 o.op)++(match o.guard with | some (j,_)=>((all[j]?).bind (·.dst)).toList | none=>[])
def q39 (o:Oper):List Nat:=(o.after.toList.filter λ e=>Region.binds .any e).map (·.on)
def q0o5 (a b:List Nat):List Nat:=a.foldl (λ acc x=>bif acc.contains x then acc else x :: acc) b
def q006 (all:List Oper):List (List Nat):=
 all.foldl (λ (acc:List (List Nat)) o=>acc++[(q39 o).foldl (λ s p=>q0o5 (p :: acc.getD p []) s) []]) []
def distinct:List (Option Nat)→Bool
 | []=>true
 | none :: l=>distinct l
 | some d :: l=>!(l.contains (some d)) && distinct l
def qmw (all:List Oper) (an:List (List Nat)):Bool:=
 distinct (all.map (·.dst)) &&
 (List.range all.length).all λ i=>
  match all[i]? with
  | some o=>
   (q39 o).all (λ p=>decide (p < i)) &&
   (an.getD i []).all (λ j=>(q39 o).contains j || (q39 o).any λ p=>(an.getD p []).contains j) &&
   (q4i all o).all λ s=>(List.range all.length).all λ j=>
    match all[j]? with
    | some oj=>oj.dst != some s || (an.getD i []).contains j || (an.getD j []).contains i
    | none=>true
  | none=>false
noncomputable def q57 (P:Program) (w0:World) (n:Nat) (all:List Oper) (o:Oper) (t:Fr) (K:qh) (h:Hp):Prop:=qd3 P w0 n all o (scrub (q4i all o) t) K h
def rdy (all:List Oper) (rem:List Nat) (i:Nat):Bool:=
 match all[i]? with
 | some o=>(q39 o).all λ p=>!(rem.contains p)
 | none=>false
def qzj (P:Program) (all:List Oper) (i:Nat):Bool:=
 match all[i]? with
 | some o=>q0lw P o
 | none=>false
def qna (l:List Nat) (p:Nat→Prop):Prop:=l.foldr (λ i q=>p i∧q) True
def gOK (an:List Nat) (G:List (Nat × (Hp→Prop))) (h:Hp):Prop:=G.foldr (λ g q=>bif an.contains g.1 then q else g.2 h∧q) True
def qc (m:qh→Hp→Prop) (K:qh) (h:Hp):Prop:=∃ v,(∀ h0,m (λ v' h'=>v'=v∧h'=h0) h0)∧K v h
def qz (m:qh→Hp→Prop) (K:qh) (h:Hp):Prop:=∃ v,m (λ v' h'=>v'=v∧h'=h) h∧K v h
noncomputable def q6g (P:Program) (w0:World) (n:Nat) (all:List Oper) (an:List (List Nat)):Nat→List Nat→Fr→List (Nat × (Hp→Prop))→(Fr→Hp→Prop)→Hp→Prop
 | 0,rem,t,_,K,h=>rem=[]∧K t h
 | f + 1,rem,t,G,K,h=>
  match rem.find? λ i=>qzj P all i && rdy all rem i with
  | some i=>
   match all[i]? with
   | some o=>
    bif qn1 P o then qc (q57 P w0 n all o t) (λ v h'=>q6g P w0 n all an f (rem.erase i) (q44 t o.dst v) G K h') h
    else qz (q57 P w0 n all o t) (λ v h'=>q6g P w0 n all an f (rem.erase i) (q44 t o.dst v) ((i,λ h0=>q57 P w0 n all o t (λ v' h''=>v'=v∧h''=h0) h0) :: G) K h') h
   | none=>False
  | none=>
   match rem.filter λ i=>rdy all rem i with
   | []=>rem=[]∧K t h
   | x :: xs=>qna (x :: xs) λ i=>
    match all[i]? with
    | some o=>q57 P w0 n all o t (λ v h'=>gOK (an.getD i []) G h'∧q6g P w0 n all an f (rem.erase i) (q44 t o.dst v) G K h') h
    | none=>False
noncomputable def qmx (P:Program) (w0:World) (n:Nat) (all:List Oper) (t:Fr) (K:Fr→Hp→Prop) (h:Hp):Prop:=
 if qmw all (q006 all)=true then q6g P w0 n all (q006 all) all.length (List.range all.length) t [] K h else False
section
variable {P:Program} {w0:World}
theorem q0l5 {l:List Nat} {p:Nat→Prop} (h:qna l p) {i:Nat} (hi:i∈l):p i:=by
 induction l with
 | nil=>simp at hi
 | cons a l ih=>
  simp only [qna,List.foldr_cons] at h
  rcases List.mem_cons.1 hi with rfl | hi
  ·exact h.1
  ·exact ih h.2 hi
theorem q0n1 {an:List Nat} {G:List (Nat × (Hp→Prop))} {h:Hp} (hg:gOK an G h) {g:Nat × (Hp→Prop)} (hm:g∈G) (hn:g.1∉an):g.2 h:=by
 induction G with
 | nil=>simp at hm
 | cons a l ih=>
  simp only [gOK,List.foldr_cons] at hg
  rcases List.mem_cons.1 hm with rfl | hm
  ·rw [show an.contains g.1=false by simpa using hn] at hg
   exact hg.1
  ·cases hc:an.contains a.1 <;> rw [hc] at hg
   ·exact ih hg.2 hm
   ·exact ih hg hm
structure Tbl (all:List Oper) (an:List (List Nat)):Prop where
 dst:∀ (i j:Nat) (oi oj:Oper) (d:Nat),all[i]?=some oi→all[j]?=some oj→oi.dst=some d→oj.dst=some d→i=j
 lt:∀ (i:Nat) o,all[i]?=some o→∀ p,p∈q39 o→p < i
 anc:∀ (i:Nat) o,all[i]?=some o→∀ j,j∈an.getD i []→j∈q39 o∨∃ p,p∈q39 o∧j∈an.getD p []
 ssa:∀ (i j:Nat) (oi oj:Oper) (s:Nat),all[i]?=some oi→all[j]?=some oj→s∈q4i all oi→oj.dst=some s→j∈an.getD i []∨i∈an.getD j []
theorem q0co:∀ (l:List (Option Nat)),distinct l=true→∀ (i j d:Nat),l[i]?=some (some d)→l[j]?=some (some d)→i=j:=by
 intro l
 induction l with
 | nil=>intro _ i j d h; simp at h
 | cons x l ih=>
  intro h i j d hi hj
  have hl:distinct l=true:=by
   cases x with
   | none=>exact h
   | some x=>simp only [distinct,Bool.and_eq_true] at h; exact h.2
  have hx:∀ k:Nat,x=some d→l[k]?=some (some d)→False:=λ k e hk=>by
   subst e
   simp only [distinct,Bool.and_eq_true,Bool.not_eq_true'] at h
   have:=List.mem_of_getElem? hk
   rw [← List.contains_iff_mem] at this
   rw [this] at h
   simp at h
  cases i with
  | zero=>
   cases j with
   | zero=>rfl
   | succ j=>simp at hi hj; exact (hx j hi hj).elim
  | succ i=>
   cases j with
   | zero=>simp at hi hj; exact (hx i hj hi).elim
   | succ j=>simp at hi hj; rw [ih hl i j d hi hj]
theorem q0e2 {all:List Oper} {an:List (List Nat)} (hc:qmw all an=true):Tbl all an:=by
 simp only [qmw,Bool.and_eq_true] at hc
 obtain ⟨hd,hc⟩:=hc
 have hi:∀ (i:Nat) o,all[i]?=some o→((q39 o).all (λ p=>decide (p < i))=true∧(an.getD i []).all (λ j=>(q39 o).contains j || (q39 o).any λ p=>(an.getD p []).contains j)=true)∧
   ((q4i all o).all λ s=>(List.range all.length).all λ j=>match all[j]? with
    | some oj=>oj.dst != some s || (an.getD i []).contains j || (an.getD j []).contains i
    | none=>true)=true:=by
  intro i o ho
  have hil:i < all.length:=(List.getElem?_eq_some_iff.1 ho).1
  have:=List.all_eq_true.1 hc i (List.mem_range.2 hil)
  rw [ho] at this
  simpa only [Bool.and_eq_true] using this
 refine ⟨λ i j oi oj d h1 h2 h3 h4=>q0co _ hd i j d (by simp [h1,h3]) (by simp [h2,h4]),λ i o ho p hp=>?_,λ i o ho j hj=>?_,λ i j oi oj s h1 h2 h3 h4=>?_⟩
 ·simpa using List.all_eq_true.1 (hi i o ho).1.1 p hp
 ·have:=List.all_eq_true.1 (hi i o ho).1.2 j hj
  simp only [Bool.or_eq_true,List.contains_iff_mem,List.any_eq_true] at this
  exact this
 ·have hj:j < all.length:=(List.getElem?_eq_some_iff.1 h2).1
  have:=List.all_eq_true.1 (List.all_eq_true.1 (hi i oi h1).2 s h3) j (List.mem_range.2 hj)
  rw [h2] at this
  simp only [Bool.or_eq_true,List.contains_iff_mem,bne_iff_ne,ne_eq] at this
  rcases this with (h | h) | h
  ·exact absurd h4 h
  ·exact .inl h
  ·exact .inr h
theorem qx1 {keep:List Nat} {t:Fr} {i:Nat} (h:i∉keep):scrub keep t i=junk:=by
 unfold scrub
 induction keep with
 | nil=>rfl
 | cons k r ih=>
  simp only [List.map_cons,q0s,upd]
  rw [if_neg (λ e=>h (by simp [e]))]
  exact ih (λ hm=>h (by simp [hm]))
structure Late where
 i:Nat
 t:Fr
 v:Value
structure Inv (P:Program) (w0:World) (n:Nat) (all:List Oper) (an:List (List Nat)) (listed:Array Bool) (rem:List Nat) (R:List Late) (t:Fr) (G:List (Nat × (Hp→Prop))) (ι:Inj) (h:Hp) (a:Act) (w:World):Prop where
 size:listed.size=all.length
 un:∀ i,i < all.length→(listed.getD i true=false↔(i∈rem∨∃ x,x∈R∧x.i=i))
 nodup:rem.Nodup
 lt:∀ i,i∈rem→i < all.length
 apart:∀ x,x∈R→x.i∉rem
 one:R.Pairwise λ x y=>x.i≠y.i
 down:∀ i,i < all.length→listed.getD i true=true→∀ j,j∈an.getD i []→listed.getD j true=true
 gdown:∀ i,i < all.length→i∉rem→∀ j,j∈an.getD i []→j∉rem
 rel:q01 w0 ι h w
 sz:a.tmps.size=n
 fr:∀ s,s < n→(∀ x,x∈R→∀ o,all[x.i]?=some o→o.dst≠some s)→t s≠junk→qy w0.heap.size h.next ι (t s) (a.tmps.getD s undef)
 late:∀ x,x∈R→∃ o,all[x.i]?=some o∧q57 P w0 n all o x.t (λ v' h'=>v'=x.v∧h'=h) h∧
  ((∀ h0,q57 P w0 n all o x.t (λ v' h'=>v'=x.v∧h'=h0) h0)∨(x.i,λ h0=>q57 P w0 n all o x.t (λ v' h''=>v'=x.v∧h''=h0) h0)∈G)∧
  (∀ d,o.dst=some d→t d=x.v)∧
  (∀ s,s < n→s∈q4i all o→(∀ j oj,j∈an.getD x.i []→all[j]?=some oj→oj.dst=some s→listed.getD j true=true)→x.t s≠junk→qy w0.heap.size h.next ι (x.t s) (a.tmps.getD s undef))∧
  (∀ y,y∈R→∀ oy s,all[y.i]?=some oy→oy.dst=some s→y.i∈an.getD x.i []→s∈q4i all o→x.t s=y.v)
theorem qgk (a:Act) (d:Option Nat) (v:Value) (s:Nat) (hs:s < a.tmps.size):(a.put d v).tmps.getD s undef=if d=some s then v else a.tmps.getD s undef:=by
 cases d with
 | none=>simp [Act.put]
 | some d=>
  simp only [Act.put,Array.getD_eq_getD_getElem?,Array.getElem?_setIfInBounds]
  by_cases e:d=s
  ·subst e
   rw [if_pos rfl,if_pos hs,if_pos rfl]; rfl
  ·rw [if_neg e,if_neg (by simpa using e)]
theorem qcn (t:Fr) (d:Option Nat) (v:Value) (s:Nat):q44 t d v s=if d=some s then v else t s:=by
 cases d with
 | none=>simp [q44]
 | some d=>
  simp only [q44,upd]
  by_cases e:d=s
  ·rw [if_pos e.symm,if_pos (by rw [e])]
  ·rw [if_neg (λ h=>e h.symm),if_neg (by simpa using e)]
end
end
section
section
variable {P:Program} {w0:World}
theorem q0fa:∀ (R:List Late) (x:Late),x∈R→R.Pairwise (λ x y=>x.i≠y.i)→(R.filter λ y=>decide (y.i≠x.i)).length + 1=R.length:=by
 intro R
 induction R with
 | nil=>intro x h; simp at h
 | cons y R ih=>
  intro x hx hp
  rw [List.pairwise_cons] at hp
  rcases List.mem_cons.1 hx with rfl | hx
  ·have:R.filter (λ y=>decide (y.i≠x.i))=R:=List.filter_eq_self.2 λ z hz=>by
    have:=hp.1 z hz
    simp only [decide_eq_true_eq]
    exact λ e=>this e.symm
   rw [List.filter_cons_of_neg (by simp),this]
   rfl
  ·rw [List.filter_cons_of_pos (by simp only [decide_eq_true_eq]; exact hp.1 x hx)]
   simp only [List.length_cons]
   rw [ih x hx hp.2]
theorem qvr {ops:Array Oper} {an:List (List Nat)} {listed:Array Bool} (tb:Tbl ops.toList an) (hs:listed.size=ops.size):∀ (i:Nat),i < ops.size→listed.getD i true=false→Region.ready .any ops listed≠[]:=by
 intro i
 induction i using Nat.strongRecOn with
 | _ i ih=>
  intro hi hl he
  have ho:ops[i]?=some ops[i]:=by simp [hi]
  have ho':ops.toList[i]?=some ops[i]:=by simp [hi]
  by_cases hall:∀ p,p∈q39 ops[i]→listed.getD p false=true
  ·have:i∈Region.ready .any ops listed:=mem_ready.2 ⟨hl,_,ho,λ e hem hb=>hall e.on (by
    unfold q39
    exact List.mem_map.2 ⟨e,List.mem_filter.2 ⟨by simpa using hem,hb⟩,rfl⟩)⟩
   rw [he] at this
   simp at this
  ·have:∃ p,p∈q39 ops[i]∧listed.getD p false=false:=by
    apply Classical.byContradiction
    intro hn
    exact hall λ p hp=>by
     cases hq:listed.getD p false with
     | true=>rfl
     | false=>exact absurd ⟨p,hp,hq⟩ hn
   obtain ⟨p,hp,hq⟩:=this
   have hpi:=tb.lt i _ ho' p hp
   have hps:p < listed.size:=by omega
   refine ih p hpi (by omega) ?_ he
   simp only [Array.getD_eq_getD_getElem?,Array.getElem?_eq_getElem hps,Option.getD_some] at hq ⊢
   exact hq
theorem getD_both {listed:Array Bool} {i:Nat} (h:i < listed.size):listed.getD i true=listed.getD i false:=by
 simp [Array.getD_eq_getD_getElem?,Array.getElem?_eq_getElem h]
theorem q0kf {listed:Array Bool} {i j:Nat} (h:j < listed.size):(listed.setIfInBounds i true).getD j true=if i=j then true else listed.getD j true:=by
 simp only [Array.getD_eq_getD_getElem?,Array.getElem?_setIfInBounds]
 by_cases e:i=j
 ·subst e; simp [h]
 ·simp [e]
theorem Inv.ancs {n:Nat} {all:List Oper} {an:List (List Nat)} {listed:Array Bool} {rem:List Nat} {R:List Late} {t:Fr} {G:List (Nat × (Hp→Prop))} {ι:Inj} {h:Hp} {a:Act} {w:World}
  (tb:Tbl all an) (v:Inv P w0 n all an listed rem R t G ι h a w) {i:Nat} {o:Oper} (ho:all[i]?=some o) (hp:∀ p,p∈q39 o→listed.getD p false=true):∀ j,j∈an.getD i []→listed.getD j true=true:=by
 intro j hj
 have hil:i < all.length:=(List.getElem?_eq_some_iff.1 ho).1
 have lt:∀ p,p∈q39 o→p < listed.size:=λ p hp=>by have:=tb.lt i o ho p hp; rw [v.size]; omega
 rcases tb.anc i o ho j hj with h1 | ⟨p,h1,h2⟩
 ·rw [getD_both (lt j h1)]; exact hp j h1
 ·exact v.down p (by have:=lt p h1; rw [v.size] at this; exact this) (by rw [getD_both (lt p h1)]; exact hp p h1) j h2
set_option maxHeartbeats 2000000 in
theorem sim {ro:Option Nat} {n:Nat} {ops:Array Oper} {an:List (List Nat)} {K:Fr→Hp→Prop} {Q:Exit→Act→World→Prop} {ι0:Inj} {h0:Hp} {ds:List Deferred} (tb:Tbl ops.toList an)
  (hQ:∀ ι' h' t' a' w',Ext ι0 h0 ι' h'→q01 w0 ι' h' w'→q1i w0.heap.size h'.next ι' n t' a'.tmps→a'.defers=ds→K t' h'→Q .normal a' w'):
  ∀ (m k:Nat) (listed:Array Bool) (rem:List Nat) (R:List Late) (t:Fr) (G:List (Nat × (Hp→Prop))) (ι:Inj) (h:Hp) (a:Act) (w:World) (f:Nat),m=rem.length + R.length→k=rem.length→rem.length≤f→
   Inv P w0 n ops.toList an listed rem R t G ι h a w→Ext ι0 h0 ι h→a.defers=ds→q6g P w0 n ops.toList an f rem t G K h→wpAnyIn (Fw ro) 0 P .any ops Q m listed a w:=by
 have hsz:ops.toList.length=ops.size:=by simp
 intro m
 induction m with
 | zero=>
  intro k listed rem R t G ι h a w f hm hk hf iv he hds hv
  obtain rfl:rem=[]:=List.eq_nil_of_length_eq_zero (by omega)
  obtain rfl:R=[]:=List.eq_nil_of_length_eq_zero (by simp at hm; omega)
  refine ⟨?_,?_⟩
  ·apply List.eq_nil_iff_forall_not_mem.2
   intro i hi
   obtain ⟨h1,o,h2,_⟩:=mem_ready.1 hi
   have hil:i < ops.size:=(Array.getElem?_eq_some_iff.1 h2).1
   have:=(iv.un i (by omega)).1 h1
   simp at this
  ·have hk:K t h:=by
    cases f with
    | zero=>exact hv.2
    | succ f=>exact hv.2
   exact hQ ι h t a w he iv.rel ⟨iv.sz,λ s hs hne=>iv.fr s hs (λ x hx=>by simp at hx) hne⟩ hds hk
 | succ m ihm=>
  have step:∀ (listed:Array Bool) (rem:List Nat) (R:List Late) (t:Fr) (G:List (Nat × (Hp→Prop))) (ι:Inj) (h:Hp) (a:Act) (w:World) (f:Nat),m + 1=rem.length + R.length→rem.length≤f→
    Inv P w0 n ops.toList an listed rem R t G ι h a w→Ext ι0 h0 ι h→a.defers=ds→q6g P w0 n ops.toList an f rem t G K h→
    (∀ i,i∈rem→rdy ops.toList rem i=true→∃ o f',ops.toList[i]?=some o∧rem.length≤f' + 1∧q57 P w0 n ops.toList o t (λ v h'=>gOK (an.getD i []) G h'∧q6g P w0 n ops.toList an f' (rem.erase i) (q44 t o.dst v) G K h') h)→
    wpAnyIn (Fw ro) 0 P .any ops Q (m + 1) listed a w:=by
   intro listed rem R t G ι h a w f hm hf iv he hds hv hEff
   have lateLt:∀ y,y∈R→y.i < ops.size:=λ y hy=>by
    obtain ⟨o,ho,_⟩:=iv.late y hy
    have:=(List.getElem?_eq_some_iff.1 ho).1
    omega
   have lateUn:∀ y,y∈R→listed.getD y.i true=false:=λ y hy=>(iv.un y.i (by rw [hsz]; exact lateLt y hy)).2 (.inr ⟨y,hy,rfl⟩)
   refine ⟨λ hnil=>?_,λ i hi=>?_⟩
   ·exfalso
    cases hr:rem with
    | cons i r=>
     have hir:i∈rem:=by rw [hr]; simp
     exact qvr tb (by rw [iv.size,hsz]) i (by rw [← hsz]; exact iv.lt i hir) ((iv.un i (iv.lt i hir)).2 (.inl hir)) hnil
    | nil=>
     cases hR:R with
     | nil=>rw [hr,hR] at hm; simp at hm
     | cons y r=>
      have hyR:y∈R:=by rw [hR]; simp
      exact qvr tb (by rw [iv.size,hsz]) y.i (lateLt y hyR) (lateUn y hyR) hnil
   obtain ⟨hl,o,ho,hpr⟩:=mem_ready.1 hi
   have hil:i < ops.size:=(Array.getElem?_eq_some_iff.1 ho).1
   have ho':ops.toList[i]?=some o:=by simpa using ho
   have hp:∀ p,p∈q39 o→listed.getD p false=true:=λ p hp=>by
    obtain ⟨e,he,rfl⟩:=List.mem_map.1 hp
    obtain ⟨h1,h2⟩:=List.mem_filter.1 he
    exact hpr e (by simpa using h1) h2
   have hanc:=iv.ancs tb ho' hp
   have hls:listed.size=ops.size:=by rw [iv.size,hsz]
   have hset:∀ j,j < ops.size→(listed.setIfInBounds i true).getD j true=if i=j then true else listed.getD j true:=λ j hj=>q0kf (by omega)
   have hdown:∀ q,q < ops.toList.length→(listed.setIfInBounds i true).getD q true=true→∀ j,j∈an.getD q []→(listed.setIfInBounds i true).getD j true=true:=by
    intro q hq hql j hj
    have hjl:listed.getD j true=true:=by
     rw [hset q (by omega)] at hql
     by_cases e:i=q
     ·subst e; exact hanc j hj
     ·rw [if_neg e] at hql; exact iv.down q hq hql j hj
    simp only [Array.getD_eq_getD_getElem?,Array.getElem?_setIfInBounds] at hjl ⊢
    by_cases e:i=j
    ·subst e; simp; split <;> rfl
    ·simpa [e] using hjl
   simp only [wpOpIn,ho]
   rcases (iv.un i (by omega)).1 hl with hrem | ⟨x,hxR,hxi⟩
   ·-- an effect: the walk goes with the machine
    have hrdy:rdy ops.toList rem i=true:=by
     unfold rdy
     rw [ho']
     simp only [List.all_eq_true,Bool.not_eq_true',List.contains_eq_mem,decide_eq_false_iff_not]
     intro p hpp hpm
     have hlt:p < ops.toList.length:=iv.lt p hpm
     have h1:=(iv.un p hlt).2 (.inl hpm)
     rw [getD_both (by omega),hp p hpp] at h1
     simp at h1
    obtain ⟨o2,f',ho2,hf',hstep⟩:=hEff i hrem hrdy
    rw [ho'] at ho2
    obtain rfl:o=o2:=by simpa using ho2
    have noLate:∀ s,s∈q4i ops.toList o→∀ y,y∈R→∀ oy,ops.toList[y.i]?=some oy→oy.dst≠some s:=by
     intro s hs y hy oy hoy e
     rcases tb.ssa i y.i o oy s ho' hoy hs e with h1 | h1
     ·have:=hanc y.i h1
      rw [lateUn y hy] at this
      simp at this
     ·exact iv.gdown y.i (by rw [hsz]; exact lateLt y hy) (iv.apart y hy) i h1 hrem
    have hfr:q1i w0.heap.size h.next ι n (scrub (q4i ops.toList o) t) a.tmps:=by
     refine ⟨iv.sz,λ s hs hne=>?_⟩
     by_cases hm:s∈q4i ops.toList o
     ·rcases qly (q4i ops.toList o) t s with e | e
      ·exact absurd e hne
      ·rw [e] at hne ⊢
       exact iv.fr s hs (λ y hy oy hoy=>noLate s hm y hy oy hoy) hne
     ·exact absurd (qx1 hm) hne
    refine qli (ro:=ro) iv.rel hfr hstep (λ ι' h' v v' w' g1 g2 g3 g4=>?_)
    have hlen:=List.length_erase_of_mem hrem
    have hpos:0 < rem.length:=List.length_pos_of_mem hrem
    refine ihm (rem.erase i).length (listed.setIfInBounds i true) (rem.erase i) R (q44 t o.dst v) G ι' h' (a.put o.dst v') w' f' (by rw [hlen]; omega) rfl (by rw [hlen]; omega) ?_ (he.trans g1) (by rw [Act.put_ds]; exact hds) g4.2
    have dstNe:∀ y,y∈R→∀ oy,ops.toList[y.i]?=some oy→∀ d,o.dst=some d→oy.dst≠some d:=by
     intro y hy oy hoy d hd e
     have:=tb.dst i y.i o oy d ho' hoy hd e
     exact iv.apart y hy (this ▸ hrem)
    refine ⟨by simp [iv.size],λ q hq=>?_,iv.nodup.erase i,λ q hq=>iv.lt q (List.mem_of_mem_erase hq),λ y hy hm=>iv.apart y hy (List.mem_of_mem_erase hm),iv.one,hdown,λ q hq hqr j hj hjr=>?_,g2,by simp [Act.put]; cases o.dst <;> simp [iv.sz],λ s hs hy hne=>?_,λ y hy=>?_⟩
    ·rw [hset q (by omega)]
     by_cases e:i=q
     ·subst e
      simp only [if_true]
      constructor
      ·intro h; simp at h
      ·rintro (h | ⟨y,hy,e⟩)
       ·exact absurd h (List.Nodup.not_mem_erase iv.nodup)
       ·exact absurd (e ▸ hrem) (iv.apart y hy)
     ·rw [if_neg e,iv.un q hq,List.mem_erase_of_ne (λ h=>e h.symm)]
    ·by_cases e:q=i
     ·subst e
      have hjl:=hanc j hj
      have hjr':=List.mem_of_mem_erase hjr
      rw [(iv.un j (iv.lt j hjr')).2 (.inl hjr')] at hjl
      simp at hjl
     ·have:q∉rem:=λ hm=>hqr ((List.mem_erase_of_ne e).2 hm)
      exact iv.gdown q hq this j hj (List.mem_of_mem_erase hjr)
    ·rw [qgk _ _ _ _ (by rw [iv.sz]; exact hs)]
     rw [qcn] at hne ⊢
     split at hne
     ·rename_i e
      rw [if_pos e,if_pos e]
      rcases g3 with g3 | g3
      ·exact absurd g3 hne
      ·exact g3
     ·rename_i e
      rw [if_neg e,if_neg e]
      exact (iv.fr s hs hy hne).mono g1.1 g1.2
    ·obtain ⟨oy,hoy,hfact,hstab,hdst,hrel,hyy⟩:=iv.late y hy
     have hyi:y.i∉an.getD i []:=λ hm=>by
      have:=hanc y.i hm
      rw [lateUn y hy] at this
      simp at this
     refine ⟨oy,hoy,?_,hstab,λ d hd=>?_,λ s hs hm hall hne=>?_,hyy⟩
     ·rcases hstab with h1 | h1
      ·exact h1 h'
      ·exact q0n1 g4.1 h1 hyi
     ·rw [qcn,if_neg (λ e=>dstNe y hy oy hoy d e hd)]
      exact hdst d hd
     ·have hsd:o.dst≠some s:=λ e=>by
       rcases tb.ssa y.i i oy o s hoy ho' hm e with h1 | h1
       ·exact iv.gdown y.i (by rw [hsz]; exact lateLt y hy) (iv.apart y hy) i h1 hrem
       ·exact hyi h1
      rw [qgk _ _ _ _ (by rw [iv.sz]; exact hs),if_neg hsd]
      refine (hrel s hs hm (λ j oj hj hoj hd=>?_) hne).mono g1.1 g1.2
      have:=hall j oj hj hoj hd
      have hjl:j < ops.size:=by have:=(List.getElem?_eq_some_iff.1 hoj).1; omega
      rw [hset j hjl] at this
      by_cases e:i=j
      ·subst e
       rw [ho'] at hoj
       obtain rfl:o=oj:=by simpa using hoj
       exact absurd hd hsd
      ·rwa [if_neg e] at this
   ·-- a quiet operation that the walk has done before
    subst hxi
    obtain ⟨o2,ho2,hfact,hstab,hdst,hrel,hyy⟩:=iv.late x hxR
    rw [ho'] at ho2
    obtain rfl:o=o2:=by simpa using ho2
    have hfr:q1i w0.heap.size h.next ι n (scrub (q4i ops.toList o) x.t) a.tmps:=by
     refine ⟨iv.sz,λ s hs hne=>?_⟩
     by_cases hm:s∈q4i ops.toList o
     ·rcases qly (q4i ops.toList o) x.t s with e | e
      ·exact absurd e hne
      ·rw [e] at hne ⊢
       exact hrel s hs hm (λ j _ hj _ _=>hanc j hj) hne
     ·exact absurd (qx1 hm) hne
    refine qli (ro:=ro) iv.rel hfr hfact (λ ι' h' v v' w' g1 g2 g3 g4=>?_)
    obtain ⟨rfl,rfl⟩:=g4
    have hlen:=q0fa R x hxR iv.one
    have hmf:∀ y,y∈R.filter (λ y=>decide (y.i≠x.i))↔y∈R∧y.i≠x.i:=λ y=>by simp [List.mem_filter]
    refine ihm rem.length (listed.setIfInBounds x.i true) rem (R.filter λ y=>decide (y.i≠x.i)) t G ι' h' (a.put o.dst v') w' f (by omega) rfl hf ?_ (he.trans g1) (by rw [Act.put_ds]; exact hds) hv
    refine ⟨by simp [iv.size],λ q hq=>?_,iv.nodup,iv.lt,λ y hy=>iv.apart y ((hmf y).1 hy).1,iv.one.filter _,hdown,iv.gdown,g2,by simp [Act.put]; cases o.dst <;> simp [iv.sz],λ s hs hy hne=>?_,λ y hy=>?_⟩
    ·rw [hset q (by omega)]
     by_cases e:x.i=q
     ·subst e
      simp only [if_true]
      constructor
      ·intro h; simp at h
      ·rintro (h | ⟨y,hy,e⟩)
       ·exact absurd h (iv.apart x hxR)
       ·exact absurd e ((hmf y).1 hy).2
     ·rw [if_neg e,iv.un q hq]
      constructor
      ·rintro (h | ⟨y,hy,e2⟩)
       ·exact .inl h
       ·exact .inr ⟨y,(hmf y).2 ⟨hy,λ e3=>e (e3 ▸ e2)⟩,e2⟩
      ·rintro (h | ⟨y,hy,e2⟩)
       ·exact .inl h
       ·exact .inr ⟨y,((hmf y).1 hy).1,e2⟩
    ·rw [qgk _ _ _ _ (by rw [iv.sz]; exact hs)]
     by_cases e:o.dst=some s
     ·rw [if_pos e]
      have ht:=hdst s e
      rw [ht] at hne ⊢
      rcases g3 with g3 | g3
      ·exact absurd g3 hne
      ·exact g3
     ·rw [if_neg e]
      refine (iv.fr s hs (λ y hyR oy hoy=>?_) hne).mono g1.1 g1.2
      by_cases hyx:y.i=x.i
      ·rw [hyx,ho'] at hoy
       obtain rfl:o=oy:=by simpa using hoy
       exact e
      ·exact hy y ((hmf y).2 ⟨hyR,hyx⟩) oy hoy
    ·obtain ⟨hyR,hyx⟩:=(hmf y).1 hy
     obtain ⟨oy,hoy,hfacty,hstaby,hdsty,hrely,hyyy⟩:=iv.late y hyR
     refine ⟨oy,hoy,hfacty,hstaby,hdsty,λ s hs hm hall hne=>?_,λ z hz=>hyyy z ((hmf z).1 hz).1⟩
     rw [qgk _ _ _ _ (by rw [iv.sz]; exact hs)]
     by_cases e:o.dst=some s
     ·rw [if_pos e]
      have hin:x.i∈an.getD y.i []:=by
       rcases tb.ssa y.i x.i oy o s hoy ho' hm e with h1 | h1
       ·exact h1
       ·have:=hanc y.i h1
        rw [lateUn y hyR] at this
        simp at this
      have ht:=hyyy x hxR o s ho' e hin hm
      rw [ht] at hne ⊢
      rcases g3 with g3 | g3
      ·exact absurd g3 hne
      ·exact g3
     ·rw [if_neg e]
      refine (hrely s hs hm (λ j oj hj hoj hd=>?_) hne).mono g1.1 g1.2
      have:=hall j oj hj hoj hd
      have hjl:j < ops.size:=by have:=(List.getElem?_eq_some_iff.1 hoj).1; omega
      rw [hset j hjl] at this
      by_cases e2:x.i=j
      ·subst e2
       rw [ho'] at hoj
       obtain rfl:o=oj:=by simpa using hoj
       exact absurd hd e
      ·rwa [if_neg e2] at this
  intro k
  induction k with
  | zero=>
   intro listed rem R t G ι h a w f hm hk hf iv he hds hv
   obtain rfl:rem=[]:=List.eq_nil_of_length_eq_zero (by omega)
   exact step listed [] R t G ι h a w f hm hf iv he hds hv (λ i hi=>by simp at hi)
  | succ k ihk=>
   intro listed rem R t G ι h a w f hm hk hf iv he hds hv
   obtain ⟨f,rfl⟩:∃ q,f=q + 1:=⟨f - 1,by omega⟩
   have hv0:=hv
   simp only [q6g] at hv
   cases hfi:rem.find? (λ i=>qzj P ops.toList i && rdy ops.toList rem i) with
   | none=>
    rw [hfi] at hv
    refine step listed rem R t G ι h a w (f + 1) hm hf iv he hds hv0 (λ i hi hr=>?_)
    have hmem:i∈rem.filter λ i=>rdy ops.toList rem i:=List.mem_filter.2 ⟨hi,hr⟩
    simp only at hv
    split at hv
    ·rename_i hnil
     rw [hnil] at hmem
     simp at hmem
    ·rename_i x xs hxs
     rw [hxs] at hmem
     have:=q0l5 hv hmem
     split at this
     ·rename_i o ho
      exact ⟨o,f,ho,by omega,this⟩
     ·exact this.elim
   | some i=>
    rw [hfi] at hv
    have hpred:=List.find?_some hfi
    have hmem:=List.mem_of_find?_eq_some hfi
    simp only [Bool.and_eq_true] at hpred
    simp only at hv
    have hil:=iv.lt i hmem
    split at hv
    case h_2=>exact hv.elim
    rename_i o ho
    have hlen:=List.length_erase_of_mem hmem
    have hrd:=hpred.2
    unfold rdy at hrd
    rw [ho] at hrd
    simp only [List.all_eq_true,Bool.not_eq_true',List.contains_eq_mem,decide_eq_false_iff_not] at hrd
    have lateUn:∀ y,y∈R→listed.getD y.i true=false:=λ y hy=>(iv.un y.i (by
     obtain ⟨o,ho,_⟩:=iv.late y hy
     exact (List.getElem?_eq_some_iff.1 ho).1)).2 (.inr ⟨y,hy,rfl⟩)
    have hgd:∀ j,j∈an.getD i []→j∉rem:=λ j hj=>by
     rcases tb.anc i o ho j hj with h1 | ⟨p,h1,h2⟩
     ·exact hrd j h1
     ·have:=tb.lt i o ho p h1
      exact iv.gdown p (by omega) (hrd p h1) j h2
    have go:∀ (v:Value) (G':List (Nat × (Hp→Prop))),(∀ g,g∈G→g∈G')→q57 P w0 n ops.toList o t (λ v' h'=>v'=v∧h'=h) h→
      ((∀ h0,q57 P w0 n ops.toList o t (λ v' h'=>v'=v∧h'=h0) h0)∨(i,λ h0=>q57 P w0 n ops.toList o t (λ v' h''=>v'=v∧h''=h0) h0)∈G')→
      q6g P w0 n ops.toList an f (rem.erase i) (q44 t o.dst v) G' K h→wpAnyIn (Fw ro) 0 P .any ops Q (m + 1) listed a w:=by
     intro v G' hG hfact hstab hvt
     refine ihk listed (rem.erase i) (⟨i,t,v⟩ :: R) (q44 t o.dst v) G' ι h a w f (by simp only [List.length_cons,hlen]; omega) (by omega) (by omega) ?_ he hds hvt
     refine ⟨iv.size,λ q hq=>?_,iv.nodup.erase i,λ q hq=>iv.lt q (List.mem_of_mem_erase hq),λ y hy=>?_,?_,iv.down,λ q hq hqr j hj hjr=>?_,iv.rel,iv.sz,λ s hs hy hne=>?_,λ y hy=>?_⟩
     ·rw [iv.un q hq]
      by_cases e:q=i
      ·subst e
       constructor
       ·intro _; exact .inr ⟨⟨q,t,v⟩,by simp,rfl⟩
       ·intro _; exact .inl hmem
      ·constructor
       ·rintro (h1 | ⟨y,hy,e2⟩)
        ·exact .inl ((List.mem_erase_of_ne e).2 h1)
        ·exact .inr ⟨y,by simp [hy],e2⟩
       ·rintro (h1 | ⟨y,hy,e2⟩)
        ·exact .inl (List.mem_of_mem_erase h1)
        ·rcases List.mem_cons.1 hy with rfl | hy
         ·exact absurd e2.symm e
         ·exact .inr ⟨y,hy,e2⟩
     ·rcases List.mem_cons.1 hy with rfl | hy
      ·exact List.Nodup.not_mem_erase iv.nodup
      ·exact λ hm=>iv.apart y hy (List.mem_of_mem_erase hm)
     ·rw [List.pairwise_cons]
      exact ⟨λ y hy e=>iv.apart y hy (e ▸ hmem),iv.one⟩
     ·by_cases e:q=i
      ·subst e
       exact hgd j hj (List.mem_of_mem_erase hjr)
      ·have:q∉rem:=λ hm=>hqr ((List.mem_erase_of_ne e).2 hm)
       exact iv.gdown q hq this j hj (List.mem_of_mem_erase hjr)
     ·have hod:o.dst≠some s:=hy ⟨i,t,v⟩ (by simp) o ho
      rw [qcn,if_neg hod] at hne ⊢
      exact iv.fr s hs (λ y hyR oy hoy=>hy y (by simp [hyR]) oy hoy) hne
     ·rcases List.mem_cons.1 hy with rfl | hyR
      ·refine ⟨o,ho,hfact,hstab,λ d hd=>by rw [qcn,if_pos hd],λ s hs hm hall hne=>?_,λ z hz oz s hoz hd hin hm=>?_⟩
       ·refine iv.fr s hs (λ z hzR oz hoz e=>?_) hne
        rcases tb.ssa i z.i o oz s ho hoz hm e with h1 | h1
        ·have:=hall z.i oz h1 hoz e
         rw [lateUn z hzR] at this
         simp at this
        ·exact iv.gdown z.i ((List.getElem?_eq_some_iff.1 hoz).1) (iv.apart z hzR) i h1 hmem
       ·rcases List.mem_cons.1 hz with rfl | hzR
        ·exact absurd hmem (hgd i hin)
        ·obtain ⟨oz2,hoz2,_,_,hdz,_⟩:=iv.late z hzR
         rw [hoz] at hoz2
         obtain rfl:oz=oz2:=by simpa using hoz2
         exact hdz s hd
      ·obtain ⟨oy,hoy,hfacty,hstaby,hdsty,hrely,hyyy⟩:=iv.late y hyR
       refine ⟨oy,hoy,hfacty,hstaby.imp id (hG _),λ d hd=>?_,hrely,λ z hz oz s hoz hd hin hm=>?_⟩
       ·rw [qcn,if_neg (λ e=>?_)]
        ·exact hdsty d hd
        ·have:=tb.dst i y.i o oy d ho hoy e hd
         exact iv.apart y hyR (this ▸ hmem)
       ·rcases List.mem_cons.1 hz with rfl | hzR
        ·exact absurd hmem (iv.gdown y.i ((List.getElem?_eq_some_iff.1 hoy).1) (iv.apart y hyR) i hin)
        ·exact hyyy z hzR oz s hoz hd hin hm
    cases hpu:qn1 P o <;> rw [hpu] at hv
    ·obtain ⟨v,h1,h2⟩:=hv
     exact go v _ (λ g hg=>List.mem_cons_of_mem _ hg) h1 (.inr (List.mem_cons_self ..)) h2
    ·obtain ⟨v,h1,h2⟩:=hv
     exact go v G (λ g hg=>hg) (h1 h) (.inl h1) h2
theorem qza {n:Nat} (hm:P.follows .mixedOrders=true):q6i P w0 n (qmx P w0 n):=by
 intro ro id ops K Q t a ι h w r f hv hq
 unfold qmx at hv
 split at hv
 case isFalse=>exact hv.elim
 rename_i hc
 have tb:=q0e2 hc
 refine wpIn_region_any hm ?_
 have hsz:ops.toList.length=ops.size:=by simp
 refine sim (ro:=ro) tb (ι0:=ι) (h0:=h) (ds:=a.defers) hq ops.size ops.size _ (List.range ops.toList.length) [] t [] ι h a _ ops.toList.length (by simp) (by simp) (by simp) ?_ (Ext.refl _ _) rfl hv
 refine ⟨by simp,λ i hi=>?_,List.nodup_range,λ i hi=>List.mem_range.1 hi,λ x hx=>by simp at hx,List.Pairwise.nil,λ i hi hl=>?_,λ i hi hn=>absurd (List.mem_range.2 hi) hn,r.drew _,f.1,λ s hs _ hne=>f.2 s hs hne,λ x hx=>by simp at hx⟩
 ·simp only [List.mem_range,hi,true_or,iff_true]
  rw [Array.getD_eq_getD_getElem?]
  simp [show i < ops.size by omega]
 ·rw [Array.getD_eq_getD_getElem?] at hl
  simp [show i < ops.size by omega] at hl
end
end
section
def q1t (ps:List (Nat × Nat × Bool × Value)) (z:List Value) (K:qh):Hp→Prop:=q37 ps z λ cs h=>K (.agg cs.toArray) h
def q0j (ps:List (Nat × Nat × Bool × Value)) (z:List Value) (len s:Nat) (K:qh) (h:Hp):Prop:=
 q37 ps z (λ cs h=>K (.slice (some ⟨h.next,0,none⟩) len len) (h.new cs s)) h
def q58 (f:FuncId) (a c:List Value) (K:qh) (h:Hp):Prop:=(∀ v,v∈a++c→v≠junk)∧K (.func (.func f) a.toArray c.toArray) h
def q1d (x:Value):Option Value:=match x with | .string s=>some (.int .i64 (s.size:Int)) | _=>none
def q05 (x:Value):Option Value:=match x with | .slice _ n _=>some (.int .i64 (n:Int)) | _=>none
def qi (P:Program) (w0:World) (f:FuncId) (args:List Value) (K:qh) (h:Hp):Prop:=qf P w0 f args h K
def q0d:List (Hp→Prop)→Hp→Prop
 | [],_=>True
 | a :: l,h=>a h∧q0d l h
def q0c (G:List (Hp→Prop)) (k:Hp→Prop) (h:Hp):Prop:=q0d G h∧k h
def q26 (m:qh→Hp→Prop) (v:Value) (h0:Hp):Prop:=m (λ v' h'=>v'=v∧h'=h0) h0
def q0y (k:Hp→Prop) (h:Hp):Prop:=([]:List Nat)=[]∧k h
def q6f:Code→List Code
 | .seq a b=>q6f a++q6f b
 | .cond _ a b=>q6f a++q6f b
 | .block _ c=>q6f c
 | .loop c=>c :: q6f c
 | .rangeFunc _ _ a b=>q6f a++q6f b
 | _=>[]
def q0v (fn:Func) (i:Nat):Code:=
 match fn.body with
 | some c=>(q6f c).getD i .skip
 | none=>.skip
noncomputable def stepL (C:Cx) (draw:List Oper→Fr→(Fr→Hp→Prop)→Hp→Prop) (c:Code):Fr→(Fr→Hp→Prop)→List (Fr→Hp→Prop)→Hp→Prop:=
 λ t R K h=>q4g C draw c t (λ e t h=>match e with
  | .normal=>R (scrub (q2x C.ks (keyOf c)).1 t) h
  | .exit id=>q3v (q2c c) K (some id) (scrub (q2x C.ks (keyOf c)).2 t) h
  | .ret=>q3v (q2c c) K none (scrub (q2x C.ks (keyOf c)).2 t) h
  | _=>False) h
theorem q0ed {P:Program} {w0:World} {f:FuncId} {fn:Func} {n:Nat} {ks:List (Nat × List Nat × List Nat)} {draw:List Oper→Fr→(Fr→Hp→Prop)→Hp→Prop} {args:List Value} {h:Hp} {R:qh} {S:Prop}
  (hf:P.funcs[f]?=some fn) (hn:fn.ntmps=n) (hd:q6i P w0 n draw) (hl:args.length≤n) (hj:∀ v,v∈args→v≠junk)
  (e:qhc ⟨P,w0,n,ks⟩ draw fn args R h=S) (hv:S):qf P w0 f args h R:=by
 subst hn
 exact q0dg hf hd hl hj (e ▸ hv)
end
end Go.Proofs.YtfmoemconapmhaaGreat.Ah
