/- Soundness of vcOp: all operations. -/
import Derived.Test.YtfmoemconapmhaaGreatAhd
import Derived.LoopNIn
set_option linter.all false
namespace Go.Proofs.YtfmoemconapmhaaGreat.Ah
open Go
section
section
variable {P:Program} {w0:World} {ι:Inj} {h:Hp} {w:World} {K:qh}
theorem q5b.of {B nx:Nat} {ι:Inj} {n:Nat} {t:Fr} {ρ:Operand→Value} (hev:∀ x,ev n t x≠junk→qy B nx ι (ev n t x) (ρ x)) (o:Option Operand):q5b B nx ι (o.map (ev n t)) (o.map ρ):=by
 cases o with
 | none=>exact .inl ⟨rfl,rfl⟩
 | some x=>exact .inr ⟨_,_,rfl,rfl,hev x⟩
theorem qcp {B nx:Nat} {ι:Inj} {n:Nat} {t:Fr} {ρ:Operand→Value} (hev:∀ x,ev n t x≠junk→qy B nx ι (ev n t x) (ρ x)) (l:List Operand) (hj:∀ v,v∈l.map (ev n t)→v≠junk):q0w B nx ι (l.map (ev n t)) (l.map ρ):=by
 induction l with
 | nil=>exact .nil
 | cons x l ih=>exact .cons (hev x (hj _ (by simp))) (ih λ v hv=>hj v (by simp [List.mem_map] at hv ⊢; exact .inr hv))
theorem q0dw {B nx:Nat} {ι:Inj} {n:Nat} {t:Fr} {ρ:Operand→Value} {fs:Array Field} (hev:∀ x,ev n t x≠junk→qy B nx ι (ev n t x) (ρ x)) (hok:∀ (i:Nat) f,fs[i]?=some f→okT P f.type=true):
  ∀ (l:List (Nat × Operand)),(∀ p,p∈l→p.1 < fs.size)→qal B nx ι (λ i=>fs[i]?.map λ f=>(f.offset,szT P f.type)) (l.map (qn4 P n t fs)) (l.map λ (i,x)=>(i,ρ x)):=by
 intro l
 induction l with
 | nil=>intro _; trivial
 | cons p l ih=>
  intro hl
  obtain ⟨i,x⟩:=p
  have hi:i < fs.size:=hl (i,x) (by simp)
  have e:fs[i]?=some fs[i]:=by simp [hi]
  simp only [List.map_cons,qal,qn4,e]
  exact ⟨by simp [hi],λ ha=>qmq (hok i _ e) ha,hev x,ih λ p hp=>hl p (by simp [hp])⟩
theorem qwh {B nx:Nat} {ι:Inj} {n:Nat} {t:Fr} {ρ:Operand→Value} {e:TypeId} (hev:∀ x,ev n t x≠junk→qy B nx ι (ev n t x) (ρ x)) (hok:okT P e=true):
  ∀ (l:List (Nat × Operand)),qal B nx ι (λ i=>some (i * szT P e,szT P e)) (l.map (qgy P n t e)) (l.map λ (i,x)=>(i,ρ x)):=by
 intro l
 induction l with
 | nil=>trivial
 | cons p l ih=>
  simp only [List.map_cons,qal,qgy]
  exact ⟨by first | rfl | trivial,λ ha=>qmq hok ha,hev p.2,ih⟩
theorem q0bd {fs:Array Field} (hok:∀ (i:Nat) f,fs[i]?=some f→okT P f.type=true) (w:World):
  (fs.mapM λ f=>do pure (f.offset,← sizeOf f.type):Sem (Array (Nat × Nat))).run P w=.ok (fs.map λ f=>(f.offset,szT P f.type)) w:=by
 have key:∀ (l:List Field),(∀ f,f∈l→okT P f.type=true)→(l.mapM λ f=>do pure (f.offset,← sizeOf f.type):Sem (List (Nat × Nat))).run P w=.ok (l.map λ f=>(f.offset,szT P f.type)) w:=by
  intro l
  induction l with
  | nil=>intro _; simp
  | cons f l ih=>
   intro hl
   obtain ⟨ti,z,d,hti,_,_,_,hs,_⟩:=q2n (hl f (by simp))
   have ih':=ih (λ g hg=>hl g (by simp [hg]))
   simp only [List.mapM_cons,Sem.run_bind,q31 hti,Result.andThen_ok,Sem.run_pure,ih',hs,List.map_cons]
 rw [Array.mapM_eq_mapM_toList]
 simp only [Sem.run_map]
 rw [key fs.toList (λ f hf=>by
  obtain ⟨j,hj,he⟩:=Array.getElem_of_mem (Array.mem_toList_iff.1 hf)
  exact hok j f (by simp [hj,he]))]
 simp only [Result.andThen_ok]
 congr 1
 apply Array.ext'
 simp
theorem qzq {v:Value} (hf:q18 v=true):v≠junk:=by intro e; rw [e] at hf; simp [q18,junk] at hf
theorem qme {f:FuncId} (hok:qaw P f=true) (args:Array Value) (w:World):(callFunc f args).run P w=.ok (.enter f args) w:=by
 unfold qaw at hok
 split at hok
 ·rename_i fn hfn
  simp only [Bool.and_eq_true,Bool.not_eq_true',beq_eq_false_iff_ne] at hok
  have hb:fn.body.isNone=false:=by cases hb:fn.body <;> simp_all
  simp only [callFunc,Sem.run_bind,run_program,Result.andThen_ok,hfn]
  rw [if_neg (by simpa using hok.2),if_neg (by simp [hb])]
  rfl
 ·simp at hok
def q43 (B nx:Nat) (ι:Inj):List Value→List Value→Prop
 | [],[]=>True
 | v :: l,v' :: l'=>(v≠junk→qy B nx ι v v')∧q43 B nx ι l l'
 | _,_=>False
theorem q43.of {B nx:Nat} {ι:Inj} {n:Nat} {t:Fr} {ρ:Operand→Value} (hev:∀ x,ev n t x≠junk→qy B nx ι (ev n t x) (ρ x)):∀ (l:List Operand),q43 B nx ι (l.map (ev n t)) (l.map ρ)
 | []=>trivial
 | x :: l=>⟨hev x,q43.of hev l⟩
theorem q43.one {B nx:Nat} {ι:Inj} {x:Value} {l:List Value} (ha:q43 B nx ι [x] l):∃ x',l=[x']∧(x≠junk→qy B nx ι x x'):=by
 cases l with
 | nil=>exact ha.elim
 | cons x' l=>cases l with
  | nil=>exact ⟨x',rfl,ha.1⟩
  | cons _ _=>exact ha.2.elim
theorem q43.two {B nx:Nat} {ι:Inj} {x y:Value} {l:List Value} (ha:q43 B nx ι [x,y] l):∃ x' y',l=[x',y']∧(x≠junk→qy B nx ι x x')∧(y≠junk→qy B nx ι y y'):=by
 cases l with
 | nil=>exact ha.elim
 | cons x' l=>
  obtain ⟨y',rfl,hy⟩:=q43.one ha.2
  exact ⟨x',y',rfl,ha.1,hy⟩
theorem q43.flats {B nx:Nat} {ι:Inj}:∀ {l l':List Value},q43 B nx ι l l'→(∀ y,y∈l→q18 y=true)→l'=l
 | [],[],_,_=>rfl
 | v :: l,v' :: l',ha,hf=>by
  rw [qmn (hf v (by simp)) (ha.1 (qzq (hf v (by simp)))),q43.flats ha.2 (λ y hy=>hf y (by simp [hy]))]
 | [],_ :: _,ha,_=>ha.elim
 | _ :: _,[],ha,_=>ha.elim
theorem q0bi {b:Builtin} {tl:List TypeId} {vs vs':List Value} {ty:TypeId} {cb:Array Bool} (r:q01 w0 ι h w) (ha:q43 w0.heap.size h.next ι vs vs') (hv:qlx P w0 b tl vs K h):
  q6m P w0 ι h K ((builtin b tl.toArray ty cb vs'.toArray).run P w):=by
 unfold qlx at hv
 split at hv
 ·-- append
  rename_i T T2 x y
  obtain ⟨x',y',rfl,hx,hy⟩:=ha.two
  split at hv
  ·rename_i hT hT2
   split at hv
   ·rename_i hok
    exact (qwm hT hT2 (by simp) hok.1 hok.2 r hx hy hv).op
   ·exact hv.elim
  ·rename_i hT hT2
   split at hv
   ·rename_i hok
    exact (qwm hT hT2 (by simp) hok.1 hok.2 r hx hy hv).op
   ·exact hv.elim
  ·rename_i hT hT2
   split at hv
   ·rename_i hok
    exact (q0g5 hT hT2 hok.1 hok.2 r hx hy hv).op
   ·exact hv.elim
  ·exact hv.elim
 ·-- copy
  rename_i T tr x y
  obtain ⟨x',y',rfl,hx,hy⟩:=ha.two
  split at hv
  ·rename_i e hT
   split at hv
   ·exact (q0g4 (T2:=0) hT (by assumption) r hx hy hv _ (by simp)).op
   ·exact hv.elim
  ·exact hv.elim
 ·-- cap
  rename_i T x
  obtain ⟨x',rfl,hx⟩:=ha.one
  split at hv
  ·rename_i e hT
   split at hv
   ·exact (q0h0 hT r hx hv).op
   ·exact hv.elim
  ·exact hv.elim
 ·-- clear
  rename_i T x
  obtain ⟨x',rfl,hx⟩:=ha.one
  split at hv
  ·rename_i e hT
   split at hv
   ·exact (q0ds hT (by assumption) r hx hv).op
   ·exact hv.elim
  ·exact hv.elim
 ·-- len
  rename_i T x
  obtain ⟨x',rfl,hx⟩:=ha.one
  split at hv
  ·rename_i hT
   refine q1j.op (s:=Builtin.len_ #[T] ty #[x']) (q46 r (λ v e=>?_) hv)
   split at e
   ·rename_i s
    cases e
    obtain rfl:=(hx (by simp [junk])).string_inv
    exact ⟨_,by simp [Builtin.len_,q1b hT,goInt],.int _ _⟩
   ·simp at e
  ·rename_i e hT
   refine q1j.op (s:=Builtin.len_ #[T] ty #[x']) (q46 r (λ v e=>?_) hv)
   split at e
   ·rename_i a n c
    cases e
    have hx:=hx (by simp [junk])
    have:∃ a' c',x'=.slice a' n c':=by
     rcases hx.slice_inv with ⟨_,rfl,_,rfl⟩ | ⟨_,_,_,_,rfl,_⟩ <;> exact ⟨_,_,rfl⟩
    obtain ⟨a',c',rfl⟩:=this
    exact ⟨_,by simp [Builtin.len_,q1b hT,goInt],.int _ _⟩
   ·simp at e
  ·rename_i len e hT
   refine q1j.op (s:=Builtin.len_ #[T] ty #[x']) (w:=w) ?_
   have:(Builtin.len_ #[T] ty #[x']).run P w=.ok (.int .i64 (len:Int)) w:=by simp [Builtin.len_,q1b hT,goInt]
   rw [this]
   exact .mk r (.int _ _) hv
  ·exact hv.elim
 ·-- max
  rename_i x y l
  have key:∀ (v:Value),q3x q9q x (y :: l)=some v→∃ v',(Builtin.max_ tl.toArray ty vs'.toArray).run P w=.ok v' w∧qy w0.heap.size h.next ι v v':=by
   intro v e
   obtain ⟨h1,h2,h3⟩:=qxg (P:=P) (w:=w) (g:=Builtin.max2) (λ x y v e=>q0jt e) (y :: l) x v e (by simp)
   rw [ha.flats h1]
   exact ⟨v,h2,q7c h3 _ _⟩
  exact q1j.op (s:=Builtin.max_ tl.toArray ty vs'.toArray) (q46 r key hv)
 ·-- min
  rename_i x y l
  have key:∀ (v:Value),q3x q6n x (y :: l)=some v→∃ v',(Builtin.min_ tl.toArray ty vs'.toArray).run P w=.ok v' w∧qy w0.heap.size h.next ι v v':=by
   intro v e
   obtain ⟨h1,h2,h3⟩:=qxg (P:=P) (w:=w) (g:=Builtin.min2) (λ x y v e=>q0ij e) (y :: l) x v e (by simp)
   rw [ha.flats h1]
   exact ⟨v,h2,q7c h3 _ _⟩
  exact q1j.op (s:=Builtin.min_ tl.toArray ty vs'.toArray) (q46 r key hv)
 ·exact hv.elim
set_option maxHeartbeats 1000000 in
theorem q0hg {n:Nat} {o:Oper} {t:Fr} {ρ:Operand→Value} (r:q01 w0 ι h w) (hev:∀ x,ev n t x≠junk→qy w0.heap.size h.next ι (ev n t x) (ρ x)) (hfun:∀ f,ρ (.func f)=.func (.func f) #[] #[])
  (hv:q6o P w0 n o t K h):q6m P w0 ι h K ((execOp ρ o).run P w):=by
 unfold q6o at hv
 have hflat:∀ (x:Operand),q18 (ev n t x)=true→ρ x=ev n t x:=λ x hf=>qmn hf (hev x (qzq hf))
 have hjv:∀ x,K (ev n t x) h→q6m P w0 ι h K (.ok (.value (ρ x)) w):=λ x hk=>by
  by_cases hj:ev n t x=junk
  ·exact ⟨ι,h,_,Ext.refl _ _,r,.inl hj,hk⟩
  ·exact ⟨ι,h,_,Ext.refl _ _,r,.inr (hev x hj),hk⟩
 unfold execOp
 split at hv
 all_goals try simp only [*]
 ·exact hjv _ hv
 ·exact hjv _ hv
 ·-- pick
  rename_i c a b _
  obtain ⟨q,e,hk⟩:=hv
  have hc:ρ c=.bool q:=by rw [hflat c (by rw [e]; rfl),e]
  simp only [Sem.run_bind,hc,asBool,Sem.run_pure,Result.andThen_ok]
  cases q
  ·exact hjv _ hk
  ·exact hjv _ hk
 ·-- alloc
  split at hv
  ·exact (q0hr (by assumption) r hv).op
  ·exact hv.elim
 ·-- box
  split at hv
  ·exact (q0gb (by assumption) r (hev _) hv).op
  ·exact hv.elim
 ·-- build
  rename_i T parts _
  split at hv
  case isFalse=>exact hv.elim
  rename_i hT
  obtain ⟨ti,z,d,hti,hz,hd,hzs,hs,hby,hzt,hcst,hagg,hzr⟩:=q2n hT
  split at hv
  ·rename_i fs hfs
   split at hv
   case isFalse=>exact hv.elim
   rename_i hall
   have hok:∀ (i:Nat) f,fs[i]?=some f→okT P f.type=true:=λ i f hf=>List.all_eq_true.1 hall.1 f (by
    obtain ⟨hi,rfl⟩:=Array.getElem?_eq_some_iff.1 hf
    simp)
   obtain ⟨l,l',h1,h2,h3,h4,hk⟩:=qkt (w0:=w0) (ι:=ι) (h:=h) (place:=λ i=>fs[i]?.map λ f=>(f.offset,szT P f.type)) _ (parts.toList.map λ (i,x)=>(i,ρ x)) (q1o P T) z.cells
    (q0dw hev hok _ (λ p hp=>by simpa using List.all_eq_true.1 hall.2 p hp)) (by rw [hzt]; exact q94 hcst) (by rw [hzt]; exact q6a hcst) hv
   refine q1j.op ?_
   have hrun:(Instr.build T (parts.map λ x=>(x.1,ρ x.2))).run P w=.ok (.agg l') w:=by
    have hm:=q0bd (P:=P) hok w
    have hpl:(λ i:Nat=>(fs.map λ f:Field=>(f.offset,szT P f.type))[i]?)=λ i:Nat=>fs[i]?.map λ f:Field=>(f.offset,szT P f.type):=by
     funext i
     simp
    simp only [Instr.build,Sem.run_bind,hzr,Result.andThen_ok,q1b hfs,hm,hpl]
    have:(parts.map λ x=>(x.1,ρ x.2)).toList=parts.toList.map λ (i,x)=>(i,ρ x):=by simp
    rw [this,h1]
    rfl
   rw [hrun]
   exact .mk r (.agg _ _ h2.toArray.1 h2.toArray.2 (λ i v hv=>h3 v (by have:=List.mem_of_getElem? (l:=l) (i:=i) (a:=v) (by simpa using hv); exact this))) hk
  ·rename_i len e hfs
   split at hv
   case isFalse=>exact hv.elim
   rename_i hoe
   obtain ⟨ti2,_,_,hti2,_,_,_,hs2,_⟩:=q2n hoe
   obtain ⟨l,l',h1,h2,h3,h4,hk⟩:=qkt (w0:=w0) (ι:=ι) (h:=h) (place:=λ i=>some (i * szT P e,szT P e)) _ (parts.toList.map λ (i,x)=>(i,ρ x)) (q1o P T) z.cells
    (qwh hev hoe _) (by rw [hzt]; exact q94 hcst) (by rw [hzt]; exact q6a hcst) hv
   refine q1j.op ?_
   have hrun:(Instr.build T (parts.map λ x=>(x.1,ρ x.2))).run P w=.ok (.agg l') w:=by
    simp only [Instr.build,Sem.run_bind,hzr,Result.andThen_ok,q1b hfs,q31 hti2]
    have:(parts.map λ x=>(x.1,ρ x.2)).toList=parts.toList.map λ (i,x)=>(i,ρ x):=by simp
    rw [this,← hs2,h1]
    rfl
   rw [hrun]
   exact .mk r (.agg _ _ h2.toArray.1 h2.toArray.2 (λ i v hv=>h3 v (by have:=List.mem_of_getElem? (l:=l) (i:=i) (a:=v) (by simpa using hv); exact this))) hk
  ·exact hv.elim
 ·-- buildSlice
  rename_i T len parts _
  split at hv
  case h_2=>exact hv.elim
  rename_i e hT
  split at hv
  case isFalse=>exact hv.elim
  rename_i hoe
  obtain ⟨hoe,hsz,hlen⟩:=hoe
  obtain ⟨ti,z,d,hti,hz,hd,hzs,hs,hby,hzt,hcst,hagg,hzr⟩:=q2n hoe
  have hzc:∀ v,v∈q00 (q1o P e) len→q5j v=true:=λ v hv=>hcst v (by rw [hzt] at hv; exact q74 hv)
  obtain ⟨l,l',h1,h2,h3,h4,hk⟩:=qkt (w0:=w0) (ι:=ι) (h:=h) (place:=λ i=>some (i * szT P e,szT P e)) _ (parts.toList.map λ (i,x)=>(i,ρ x)) (q00 (q1o P e) len) (q00 (q1o P e) len).toArray
   (qwh hev hoe _) (q94 hzc) (q6a hzc) hv
  refine q1j.op ?_
  obtain ⟨ι',he,hr,_,hsl⟩:=qbu (e:=e) (s:=szT P e) r h3 h2
  have hrun:(Instr.buildSlice T len (parts.map λ x=>(x.1,ρ x.2))).run P w=.ok (.slice (some ⟨w.heap.size,0,none⟩) len len) (w.alloc (.cells l' e)):=by
   rw [hs] at hsz h1
   have hpt:(parts.map λ x=>(x.1,ρ x.2)).toList=parts.toList.map λ (i,x)=>(i,ρ x):=by simp
   have hzz:((Array.range (len * ti.size)).map (z.cells[· % z.cells.size]!))=(q00 (q1o P e) len).toArray:=by
    have:=qfl (z:=z.cells) (n:=len)
    apply Array.ext'
    rw [hzt,← this,hzs]
   by_cases h0:len * ti.size=0
   ·have hz0:(q00 (q1o P e) len).toArray = #[]:=by
     have:(q00 (q1o P e) len).length=0:=by rw [qab,hzt]; simpa [hzs] using h0
     rw [List.eq_nil_of_length_eq_zero this]
    rw [hz0] at h1
    simp only [Instr.buildSlice,Sem.run_bind,q1b hT,Result.andThen_ok,q31 hti]
    rw [if_neg (by omega)]
    have hr0:∀ f:Nat→Value,(Array.range 0).map f = #[]:=λ f=>by simp
    simp only [h0,if_true,Sem.run_pure,Sem.run_bind,Result.andThen_ok,hr0,hpt,h1,newRow,run_newObj]
    rfl
   ·simp only [Instr.buildSlice,Sem.run_bind,q1b hT,Result.andThen_ok,q31 hti]
    rw [if_neg (by omega)]
    simp only [if_neg h0,Sem.run_pure,Sem.run_bind,Result.andThen_ok,hzr,hzz,hpt,h1,newRow,run_newObj]
    rfl
  rw [hrun]
  exact ⟨ι',_,_,he,hr,.inr (hsl len len (Nat.le_refl _) (by unfold q0b; omega)),hk⟩
 ·-- load
  split at hv
  case isFalse=>exact hv.elim
  rename_i hT
  split at hv
  ·exact (q0ej hT (by assumption) r (hev _) hv).op
  ·exact (q0fh hT (by simpa using (by assumption:¬ q2g P _=true)) r (hev _) hv).op
 ·-- store
  split at hv
  case isFalse=>exact hv.elim
  rename_i hT
  split at hv
  ·exact q0cq hT r (hev _) (hev _) hv
  ·exact q0e1 hT (by simpa using (by assumption:¬ q2g P _=true)) r (hev _) (hev _) hv
 ·-- nilCheck
  rename_i x _
  obtain ⟨hform,hk⟩:=hv
  rcases hform with ⟨ad,e⟩ | ⟨f,a,b,e⟩ | ⟨b,e⟩
  ·have hx:=hev x (by rw [e]; simp [junk])
   rw [e] at hx hk
   obtain ⟨a',e'⟩:=q20.of hx
   rw [e'] at hx ⊢
   exact ⟨ι,h,_,Ext.refl _ _,r,.inr hx,hk⟩
  ·have hx:=hev x (by rw [e]; simp [junk])
   rw [e] at hx hk
   have:∃ a' b',ρ x=.func (.func f) a' b':=by
    generalize ρ x=y at hx
    cases hx
    exact ⟨_,_,rfl⟩
   obtain ⟨a',b',e'⟩:=this
   rw [e'] at hx ⊢
   exact ⟨ι,h,_,Ext.refl _ _,r,.inr hx,hk⟩
  ·have hx:=hev x (by rw [e]; simp [junk])
   rw [e] at hx hk
   have e':ρ x=.func (.yield (ι b).β) #[] #[]:=hx.yld_inv.1
   rw [e'] at hx ⊢
   exact ⟨ι,h,_,Ext.refl _ _,r,.inr hx,hk⟩
 ·-- binOp
  rename_i op T x y T2 _
  have pl:∀ (o:Option Value),(∀ v,o=some v→(binOp op T (ρ x) (ρ y)).run P w=.ok v w∧q18 v=true∧(∀ c,ρ x≠.agg c)∧ρ x≠.nilIface)→qb o K h→
    q6m P w0 ι h K ((do pure (Next.value (← (do eqGuard op T x y (ρ x) (ρ y); binOp op T (ρ x) (ρ y)))):Sem Next).run P w):=by
   intro o ho hp
   refine q1j.op (q46 r (λ v e=>?_) hp)
   obtain ⟨g1,g2,g3,g4⟩:=ho v e
   exact ⟨v,by simp only [Sem.run_bind,q0cp g3 g4,Result.andThen_ok,g1],q7c g2 _ _⟩
  have scal:∀ v,qd op (ev n t x) (ev n t y)=some v→(binOp op T (ρ x) (ρ y)).run P w=.ok v w∧q18 v=true∧(∀ c,ρ x≠.agg c)∧ρ x≠.nilIface:=by
   intro v e
   obtain ⟨f1,f2,g1,g2⟩:=q0lr (P:=P) (w:=w) T e
   rw [hflat x f1,hflat y f2]
   exact ⟨g1,g2,λ c e=>by rw [e] at f1; simp [q18] at f1,λ e=>by rw [e] at f1; simp [q18] at f1⟩
  split at hv
  ·exact pl _ scal hv
  ·exact pl _ scal hv
  ·rename_i hT
   refine pl _ (λ v e=>?_) hv
   obtain ⟨f1,f2,g1,g2⟩:=q0dz (P:=P) (w:=w) hT e
   rw [hflat x f1,hflat y f2]
   exact ⟨g1,g2,λ c e=>by rw [e] at f1; simp [q18] at f1,λ e=>by rw [e] at f1; simp [q18] at f1⟩
  ·rename_i hT
   refine pl _ (λ v e=>?_) hv
   obtain ⟨g1,g2,a,g3⟩:=q0ft (P:=P) (w:=w) hT (hev x) (hev y) e
   refine ⟨g1,g2,?_,?_⟩ <;> simp [g3]
  ·rename_i hT
   refine pl _ (λ v e=>?_) hv
   obtain ⟨g1,g2,a,p,q,g3⟩:=q0h7 (P:=P) (w:=w) hT (hev x) (hev y) e
   refine ⟨g1,g2,?_,?_⟩ <;> simp [g3]
  ·rename_i hT
   refine pl _ (λ v e=>?_) hv
   obtain ⟨g1,g2,g3⟩:=q0gu (P:=P) (w:=w) hT (hev x) (hev y) e
   rcases g3 with ⟨a,p,q,g3⟩ | g3
   ·refine ⟨g1,g2,?_,?_⟩ <;> simp [g3]
   ·refine ⟨g1,g2,?_,?_⟩ <;> simp [g3]
  ·rename_i hT
   obtain ⟨xs,ys,q,ex,ey,fx,fy,hb,hg,hk⟩:=hv
   have rx:ρ x=.agg xs:=qxz fx (by have:=hev x (by rw [ex]; simp [junk]); rwa [ex] at this)
   have ry:ρ y=.agg ys:=qxz fy (by have:=hev y (by rw [ey]; simp [junk]); rwa [ey] at this)
   refine q1j.op ?_
   have hg':(eqGuard op T x y (ρ x) (ρ y)).run P w=.ok () w:=by
    have:=hg w
    rw [ex,ey] at this
    rw [rx,ry]
    exact this
   rw [ex,ey] at hb
   simp only [Sem.run_bind,hg',Result.andThen_ok]
   rw [rx,ry,hb w]
   exact .mk r (.bool _) hk
  ·exact hv.elim
 ·-- unOp
  rename_i op T x _
  refine q1j.op (q46 r (λ v e=>?_) hv)
  obtain ⟨f1,g1,g2⟩:=q0mp (P:=P) (w:=w) e
  rw [hflat x f1]
  exact ⟨v,g1,q7c g2 _ _⟩
 ·-- convert
  rename_i src dst x _
  split at hv
  ·rename_i k0 k hs hd
   refine q1j.op (q46 r (λ v e=>?_) hv)
   obtain ⟨f1,g1,g2⟩:=q0j3 (P:=P) (w:=w) hs hd e
   rw [hflat x f1]
   exact ⟨v,g1,q7c g2 _ _⟩
  ·rename_i hs hd
   refine q1j.op (q46 r (λ v e=>?_) hv)
   obtain ⟨f1,g1,g2⟩:=q0i7 (P:=P) (w:=w) hs hd e
   rw [hflat x f1]
   exact ⟨v,g1,q7c g2 _ _⟩
  ·rename_i e hs hd
   split at hv
   ·rename_i he
    exact (q0gf hs he hd r (hev x) hv).op
   ·exact hv.elim
  ·rename_i e hs hd
   split at hv
   ·rename_i he
    exact (q0gi hs hd he r (hev x) hv).op
   ·exact hv.elim
  ·rename_i e e2 hs hd
   split at hv
   ·rename_i he
    split at hv
    ·rename_i hsd
     have hsd:src=dst:=by simpa using hsd
     subst hsd
     exact (q0e8 hs he r (hev x) hv).op
    ·exact hv.elim
   ·exact hv.elim
  ·exact hv.elim
 ·-- makeFunc
  rename_i k first cap _
  obtain ⟨hj,hk⟩:=hv
  have h1:=qcp hev first.toList (λ v hv=>hj v (List.mem_append.2 (.inl hv)))
  have h2:=qcp hev cap.toList (λ v hv=>hj v (List.mem_append.2 (.inr hv)))
  refine q1j.op (w:=w) ?_
  have hrun:(Instr.makeFunc (.func k) (first.map ρ) (cap.map ρ)).run P w=.ok (.func (.func k) (first.toList.map ρ).toArray (cap.toList.map ρ).toArray) w:=by
   have e1:first.map ρ=(first.toList.map ρ).toArray:=by apply Array.ext'; simp
   have e2:cap.map ρ=(cap.toList.map ρ).toArray:=by apply Array.ext'; simp
   rw [e1,e2]
   rfl
  rw [hrun]
  exact .mk r (.func _ _ _ _ _ h1.toArray.1 h2.toArray.1 h1.toArray.2 h2.toArray.2 ⟨k,rfl⟩) hk
 ·-- makeSlice
  split at hv
  ·rename_i e hT
   split at hv
   ·exact (q0je hT (by assumption) r (hev _) (hev _) hv).op
   ·exact hv.elim
  ·exact hv.elim
 ·-- slice
  rename_i T x lo hi mx _
  split at hv
  ·rename_i hT
   split at hv
   ·rename_i hmx
    have hmx:mx=none:=by simpa using hmx
    subst hmx
    refine q1j.op (q46 r (λ v e=>?_) hv)
    obtain ⟨f1,g1,g2⟩:=q0ga (P:=P) (w:=w) (w0:=w0) (h:=h) (ι:=ι) hT (.of hev lo) (.of hev hi) e
    rw [hflat x f1]
    exact ⟨v,g1,q7c g2 _ _⟩
   ·exact hv.elim
  ·rename_i e hT
   split at hv
   ·exact (q0g0 hT (by assumption) r (hev _) (.of hev _) (.of hev _) (.of hev _) hv).op
   ·exact hv.elim
  ·rename_i len e hT
   split at hv
   ·rename_i hoe
    have hmx:mx=none:=by simpa using hoe.2
    subst hmx
    exact (q0et hT hoe.1 r (hev _) (.of hev _) (.of hev _) hv).op
   ·exact hv.elim
  ·exact hv.elim
 ·-- fieldAddr
  split at hv
  ·rename_i fs hS
   split at hv
   ·rename_i fd hf
    split at hv
    ·rename_i hok
     exact (q0i4 hS hf hok.1 hok.2 r (hev _) hv).op
    ·exact hv.elim
   ·exact hv.elim
  ·exact hv.elim
 ·-- field
  split at hv
  ·rename_i fs hS
   split at hv
   ·rename_i fd hf
    split at hv
    ·exact q1j.op (q46 r (λ v e=>q0kh hS hf (by assumption) (hev _) e) hv)
    ·exact hv.elim
   ·exact hv.elim
  ·exact hv.elim
 ·-- indexAddr
  split at hv
  ·rename_i e hT
   split at hv
   ·exact (q0dm hT (by assumption) r (hev _) (hev _) hv).op
   ·exact hv.elim
  ·rename_i len e hT
   split at hv
   ·exact (q0dq hT (by assumption) r (hev _) (hev _) hv).op
   ·exact hv.elim
  ·exact hv.elim
 ·-- index
  rename_i T x i _
  split at hv
  ·rename_i hT
   refine q1j.op (q46 r (λ v e=>?_) hv)
   obtain ⟨f1,f2,g1,g2⟩:=q0ff (P:=P) (w:=w) hT e
   rw [hflat x f1,hflat i f2]
   exact ⟨v,g1,q7c g2 _ _⟩
  ·rename_i len e hT
   split at hv
   ·exact q1j.op (q46 r (λ v e=>q0gt hT (by assumption) (hev _) (hev _) e) hv)
   ·exact hv.elim
  ·exact hv.elim
 ·-- extract
  exact q1j.op (q46 r (λ v e=>q0k8 (hev _) e) hv)
 ·-- call
  rename_i c _
  split at hv
  ·-- a builtin
   rename_i b hc
   have hb:=q0bi (b:=b) (tl:=c.argTypes.toList) (ty:=o.type) (cb:=c.args.map λ | .const _=>true | _=>false) r (q43.of hev c.args.toList) hv
   have hca:(c.args.toList.map ρ).toArray=c.args.map ρ:=by apply Array.ext'; simp
   rw [hca] at hb
   simp only [Sem.run_bind,resolve,hc,Sem.run_pure,Result.andThen_ok,invoke]
   exact hb
  ·-- a function
   rename_i f hc
   split at hv
   ·rename_i hok
    have hargs:=qcp hev c.args.toList hv.1
    simp only [Sem.run_bind,resolve,hc,hfun,Deferred.ofValue,Sem.run_pure,Result.andThen_ok,invoke,qme hok]
    refine ⟨_,r,?_,hv⟩
    simpa using hargs
   ·simp only [Sem.run_bind,resolve,hc,hfun,Deferred.ofValue,Sem.run_pure,Result.andThen_ok,invoke]
    unfold ovL at hv
    split at hv
    ·rename_i x y hxy
     obtain ⟨o1,o2,e1,e2,e3⟩:∃ o1 o2,c.args.toList=[o1,o2]∧ev n t o1=x∧ev n t o2=y:=by
      generalize c.args.toList=l at hxy
      cases l with
      | nil=>simp at hxy
      | cons a l=>cases l with
       | nil=>simp at hxy
       | cons b l=>cases l with
        | nil=>simp at hxy; exact ⟨a,b,rfl,hxy.1,hxy.2⟩
        | cons _ _=>simp at hxy
     have hca:c.args = #[o1,o2]:=by apply Array.ext'; simpa using e1
     subst e2 e3
     rw [hca]
     simpa using q0j8 r (hev o1) (hev o2) hv
    ·exact hv.elim
  ·-- a function value
   rename_i fo _ hc
   rcases hv with ⟨f,fi,ca,e,hok,hcall⟩ | ⟨b,e,hcall⟩
   rotate_left
   ·have hf:=hev fo (by rw [e]; simp [junk])
    rw [e] at hf
    have e':ρ fo=.func (.yield (ι b).β) #[] #[]:=hf.yld_inv.1
    have hargs:=qcp hev c.args.toList hcall.1
    obtain ⟨g,tmps,as,bd,q1,q2⟩:=hcall.2 ι w (c.args.map ρ) r (by simpa using hargs)
    simp only [Sem.run_bind,resolve,hc,e',Deferred.ofValue,Sem.run_pure,Result.andThen_ok,invoke,Array.empty_append,q1]
    exact q2
   have hf:=hev fo (by rw [e]; simp [junk])
   rw [e] at hf
   have:∃ fi' ca',ρ fo=.func (.func f) fi' ca'∧q0w w0.heap.size h.next ι fi.toList fi'.toList∧q0w w0.heap.size h.next ι ca.toList ca'.toList:=by
    generalize ρ fo=y at hf
    cases hf with
    | func _ _ _ f' c' g1 g2 g3 g4 _=>exact ⟨f',c',rfl,q0w.of_array g1 g3,q0w.of_array g2 g4⟩
   obtain ⟨fi',ca',e',h1,h2⟩:=this
   have hargs:=qcp hev c.args.toList (λ v hv=>hcall.1 v (List.mem_append.2 (.inl (List.mem_append.2 (.inr hv)))))
   simp only [Sem.run_bind,resolve,hc,e',Deferred.ofValue,Sem.run_pure,Result.andThen_ok,invoke,qme hok]
   refine ⟨_,r,?_,hcall⟩
   have:=(h1.append hargs).append h2
   simpa using this
  ·exact hv.elim
 ·exact hv.elim
end
end
section
structure qe (x:Value) (want:Bool) (m:qh→Hp→Prop) (K:qh) (h:Hp):Prop where
 fit:x≠junk∧x≠unk
 yes:x=.bool want→m K h
 no:x≠.bool want→K undef h
def q9n (n:Nat) (all:List Oper) (t:Fr) (j:Nat):Value:=
 match (all[j]?).bind (·.dst) with
 | some d=>ev n t (.tmp d)
 | none=>undef
noncomputable def qd3 (P:Program) (w0:World) (n:Nat) (all:List Oper) (o:Oper) (t:Fr) (K:qh) (h:Hp):Prop:=
 Option.rec (motive:=λ _=>Prop) (q6o P w0 n o t K h) (λ g=>qe (q9n n all t g.1) g.2 (q6o P w0 n o t) K h) o.guard
theorem q0i0 (P:Program) (w0:World) (n:Nat) (all:List Oper) (o:Oper) (t:Fr) (K:qh) (h:Hp):qd3 P w0 n all o t K h=(match o.guard with
 | none=>q6o P w0 n o t K h
 | some (j,want)=>qe (q9n n all t j) want (q6o P w0 n o t) K h):=by
 unfold qd3
 cases o.guard <;> rfl
noncomputable def qd7 (P:Program) (w0:World) (n:Nat) (all:List Oper):List Oper→Fr→(Fr→Hp→Prop)→Hp→Prop
 | [],t,K,h=>K t h
 | o :: os,t,K,h=>qd3 P w0 n all o t (λ v h=>qd7 P w0 n all os (q44 t o.dst v) K h) h
def Fw (ro:Option Nat):Fence:={ Fence.wide with round:=ro }
section
variable {P:Program} {w0:World}
variable {ι:Inj} {h:Hp} {w:World} {K:qh}
theorem q0m4 {n:Nat} {o:Oper} {t:Fr} (hv:q6o P w0 n o t K h):∀ c,o.op≠.defer c:=by
 intro c e
 unfold q6o at hv
 rw [e] at hv
 exact hv
theorem q0ev {ro:Option Nat} {ops:Array Oper} {Q:Exit→Act→World→Prop} {o:Oper} {a:Act} {next:Act→World→Prop} {res:Result Next} (ho:q6m P w0 ι h K res)
  (hn:∀ ι' h' v v' w',Ext ι h ι' h'→q01 w0 ι' h' w'→(v=junk∨qy w0.heap.size h'.next ι' v v')→K v h'→next (a.put o.dst v') w'):o.uponIn (Fw ro) 0 P a next Q res:=by
 have hund:∀ nx ι',qy w0.heap.size nx ι' undef undef:=λ nx ι'=>.tuple _ _ rfl (λ i v v' h=>by simp at h)
 cases res with
 | halt x w'=>exact ho.elim
 | ok x w' =>
  cases x with
  | value v' =>
   obtain ⟨ι',h',v,g1,g2,g3,g4⟩:=ho
   exact hn ι' h' v v' w' g1 g2 g3 g4
  | skip=>
   obtain ⟨ι',h',g1,g2,g3⟩:=ho
   exact hn ι' h' undef undef w' g1 g2 (.inr (hund _ _)) g3
  | enter f args' =>
   obtain ⟨args,g1,g2,g3⟩:=ho
   refine ⟨λ hd=>by simp [Fw,Fence.wide] at hd,?_⟩
   have:=(g3.2 ι w' args' g1 g2).mono (R':=λ
    | .returned v,w''=>next (a.put o.dst v) w''
    | .panicked chain,w''=>Q (.panic chain) a w''
    | .outgrown,_=>LetsOut Q) (by
     rintro e w'' ⟨v',ι',h',v,rfl,q1,q2,q3,q4⟩
     exact hn ι' h' v v' w'' q1 q2 (.inr q3) q4)
   exact this
  | round l f tmps as bd=>
   refine ⟨λ hd=>by simp [Fw,Fence.wide] at hd,?_⟩
   have:=RoundIn.mono (R':=λ
    | .returned v,w''=>next (a.put o.dst v) w''
    | .panicked chain,w''=>Q (.panic chain) a w''
    | .outgrown,_=>LetsOut Q) ho (by
     rintro e w'' ⟨v',ι',h',v,rfl,q1,q2,q3,q4⟩
     exact hn ι' h' v v' w'' q1 q2 (.inr q3) q4)
   exact this
  | _=>exact ho.elim
theorem q0f9 {o:Oper} (hg:o.guard=none) (y:Nat→Option Bool):Region.wanted o y=true:=by simp [Region.wanted,hg]
theorem q0en {n:Nat} {ops:Array Oper} {t:Fr} {a:Act} {j:Nat} {want:Bool} (f:q1i w0.heap.size h.next ι n t a.tmps) (hj:q9n n ops.toList t j≠junk) (hu:q9n n ops.toList t j≠unk):
  (yielded ops a.tmps j == some want)=true↔q9n n ops.toList t j=.bool want:=by
 unfold q9n at hj hu ⊢
 unfold yielded
 have e:(ops.toList[j]?).bind (·.dst)=(ops[j]?).bind (·.dst):=by simp
 rw [e] at hj hu ⊢
 cases hd:(ops[j]?).bind (·.dst) with
 | none=>simp [undef]
 | some d=>
  rw [hd] at hj hu
  simp only [ev] at hj hu ⊢
  split at hj
  case isFalse=>exact absurd rfl hj
  rename_i hdn
  rw [if_pos hdn]
  have hr:=f.2 d hdn hj
  have hdl:d < a.tmps.size:=by rw [f.1]; exact hdn
  have hgd:a.tmps.getD d undef=a.tmps[d]:=by simp [Array.getD,hdl]
  rw [hgd] at hr
  simp only [Option.bind_some,Array.getElem?_eq_getElem hdl]
  generalize a.tmps[d]=y at hr
  generalize t d=x at hr hj hu
  rw [if_pos hdn] at hu
  cases hr <;> first | exact absurd rfl hu | simp
theorem qli {ro:Option Nat} {n:Nat} {ops:Array Oper} {Q:Exit→Act→World→Prop} {o:Oper} {t:Fr} {a:Act} {next:Act→World→Prop} (r:q01 w0 ι h w) (f:q1i w0.heap.size h.next ι n t a.tmps)
  (hv:qd3 P w0 n ops.toList o t K h)
  (hn:∀ ι' h' v v' w',Ext ι h ι' h'→q01 w0 ι' h' w'→(v=junk∨qy w0.heap.size h'.next ι' v v')→K v h'→next (a.put o.dst v') w'):
  if Region.wanted o (yielded ops a.tmps) then o.wpIn (Fw ro) 0 P a w next Q else (∀ f,o.about P w a.eval=some f→(Fw ro).fn f)∧next (a.put o.dst undef) w:=by
 have hund:qy w0.heap.size h.next ι undef undef:=.tuple _ _ rfl (λ i v v' h=>by simp at h)
 have hrun:q6o P w0 n o t K h→o.wpIn (Fw ro) 0 P a w next Q:=by
  intro hv
  refine ⟨λ _ _=>trivial,?_⟩
  rw [Oper.semAt_eq _ _ _ (q0m4 hv)]
  exact q0ev (ops:=ops) (q0hg r (λ x hx=>f.eval x hx) (λ _=>rfl) hv) hn
 rw [q0i0] at hv
 split at hv
 ·rename_i hg
  rw [if_pos (q0f9 hg _)]
  exact hrun hv
 ·rename_i j want hg
  obtain ⟨⟨hj,hu⟩,h1,h2⟩:=hv
  have key:=q0en (w0:=w0) (want:=want) (ops:=ops) f hj hu
  have hw:Region.wanted o (yielded ops a.tmps)=(yielded ops a.tmps j == some want):=by simp [Region.wanted,hg]
  by_cases hy:q9n n ops.toList t j=.bool want
  ·rw [if_pos (by rw [hw]; exact key.2 hy)]
   exact hrun (h1 hy)
  ·rw [if_neg (by rw [hw]; exact λ e=>hy (key.1 e))]
   exact ⟨λ _ _=>trivial,hn ι h undef undef w (Ext.refl _ _) r (.inr hund) (h2 hy)⟩
end
end
section
abbrev qb2:=Exit→Fr→Hp→Prop
def q0s:List (Nat × Value)→Fr
 | []=>λ _=>junk
 | (d,v) :: l=>upd (q0s l) d v
def scrub (keep:List Nat) (t:Fr):Fr:=q0s (keep.map λ i=>(i,t i))
def qt (c:Value) (x y:Hp→Prop) (h:Hp):Prop:=∃ q,c=.bool q∧(q=true→x h)∧(q=false→y h)
def q2c:Code→List (Option Nat)
 | .exit id=>[some id]
 | .ret=>[none]
 | .seq a b=>q2c a++(q2c b).filter λ x=>!((q2c a).contains x)
 | .cond _ a b=>q2c a++(q2c b).filter λ x=>!((q2c a).contains x)
 | .block id c=>(q2c c).filter λ x=>x != some id
 | .loop c=>q2c c
 | .rangeFunc _ _ _ b=>q2c b
 | _=>[]
def q9l:Option Nat→Exit
 | some id=>.exit id
 | none=>.ret
def q3v:List (Option Nat)→List (Fr→Hp→Prop)→Option Nat→Fr→Hp→Prop
 | o :: os,k :: ks,x,t,h=>bif o == x then k t h else q3v os ks x t h
 | _,_,_,_,_=>False
def q0p (step:Fr→(Fr→Hp→Prop)→List (Fr→Hp→Prop)→Hp→Prop):Nat→Fr→List (Fr→Hp→Prop)→Hp→Prop
 | 0,_,_,_=>False
 | m + 1,t,K,h=>step t (λ t h=>q0p step m t K h) K h
theorem qg8 {K:qb2} {x:Option Nat} {t:Fr} {h:Hp}:∀ {os:List (Option Nat)},q3v os (os.map λ o t h=>K (q9l o) t h) x t h→K (q9l x) t h:=by
 intro os
 induction os with
 | nil=>intro hv; exact hv.elim
 | cons o os ih=>
  intro hv
  simp only [List.map_cons,q3v] at hv
  cases e:o == x with
  | true=>rw [e] at hv; have:=eq_of_beq e; subst this; exact hv
  | false=>rw [e] at hv; exact ih hv
def keyOf:Code→Nat
 | .region id _ _=>id
 | .seq a _=>keyOf a
 | .block _ c=>keyOf c
 | .loop c=>keyOf c
 | .cond _ a _=>keyOf a
 | .scope c=>keyOf c
 | .rangeFunc _ _ a _=>keyOf a
 | _=>0
def q2x (ks:List (Nat × List Nat × List Nat)) (k:Nat):List Nat × List Nat:=(ks.lookup k).getD ([],[])
structure Cx where
 P:Program
 w0:World
 n:Nat
 ks:List (Nat × List Nat × List Nat)
noncomputable def q4g (C:Cx) (draw:List Oper→Fr→(Fr→Hp→Prop)→Hp→Prop):Code→Fr→qb2→Hp→Prop
 | .skip,t,K,h=>K .normal t h
 | .region _ ops d,t,K,h=>bif d then draw ops.toList t (λ t h=>K .normal t h) h else qd7 C.P C.w0 C.n ops.toList ops.toList t (λ t h=>K .normal t h) h
 | .seq a b,t,K,h=>q4g C draw a t (λ e t h=>match e with | .normal=>q4g C draw b t K h | e=>K e t h) h
 | .cond c x y,t,K,h=>qt (ev C.n t c) (λ h=>q4g C draw x t K h) (λ h=>q4g C draw y t K h) h
 | .block id c,t,K,h=>q4g C draw c t (λ e t h=>match e with | .exit id'=>if id'=id then K .normal t h else K (.exit id') t h | e=>K e t h) h
 | .loop c,t,K,h=>∃ m,q0p (λ t R K h=>q4g C draw c t (λ e t h=>match e with | .normal=>R (scrub (q2x C.ks (keyOf c)).1 t) h | .exit id=>q3v (q2c c) K (some id) (scrub (q2x C.ks (keyOf c)).2 t) h | .ret=>q3v (q2c c) K none (scrub (q2x C.ks (keyOf c)).2 t) h | _=>False) h) m (scrub (q2x C.ks (keyOf c)).1 t) ((q2c c).map λ o t h=>K (q9l o) t h) h
 | .exit id,t,K,h=>K (.exit id) t h
 | .ret,t,K,h=>K .ret t h
 | _,_,_,_=>False
def q4z (P:Program) (w0:World) (n:Nat):List ResultVar→Fr→(List Value→Hp→Prop)→Hp→Prop
 | [],t,K,h=>K [] h
 | .tmp d :: r,t,K,h=>q4z P w0 n r t (λ vs h=>K (ev n t (.tmp d) :: vs) h) h
 | .cell a T :: r,t,K,h=>
  if okT P T=true then
   (if q2g P T=true then qw w0 (ev n t (.tmp a)) (szT P T) (λ v h=>q4z P w0 n r t (λ vs h=>K (v :: vs) h) h) h
   else qg w0 (ev n t (.tmp a)) (λ v h=>q4z P w0 n r t (λ vs h=>K (v :: vs) h) h) h)
  else False
def oneOf:List Value→Value
 | [v]=>v
 | vs=>.tuple vs.toArray
def qo (vs:List Value) (R:qh) (h:Hp):Prop:=(∀ v,v∈vs→v≠junk)∧R (oneOf vs) h
def qay (args:List Value):Fr:=λ i=>args.getD i undef
noncomputable def qhc (C:Cx) (draw:List Oper→Fr→(Fr→Hp→Prop)→Hp→Prop) (fn:Func) (args:List Value) (R:qh) (h:Hp):Prop:=
 match fn.body with
 | some c=>q4g C draw c (qay args) (λ e t h=>match e with
  | .normal=>q4z C.P C.w0 C.n fn.results.toList t (λ vs h=>qo vs R h) h
  | .ret=>q4z C.P C.w0 C.n fn.results.toList t (λ vs h=>qo vs R h) h
  | _=>False) h
 | none=>False
section
variable {P:Program} {w0:World} {ι:Inj} {h:Hp} {w:World}
theorem qly (keep:List Nat) (t:Fr) (i:Nat):scrub keep t i=junk∨scrub keep t i=t i:=by
 unfold scrub
 induction keep with
 | nil=>exact .inl rfl
 | cons k r ih=>
  simp only [List.map_cons,q0s,upd]
  split
  ·rename_i e; rw [e]; exact .inr rfl
  ·exact ih
theorem q1i.scrub {B nx:Nat} {n:Nat} {t:Fr} {tmps:Array Value} (f:q1i B nx ι n t tmps) (keep:List Nat):q1i B nx ι n (scrub keep t) tmps:=by
 refine ⟨f.1,λ i hi hj=>?_⟩
 rcases qly keep t i with e | e
 ·exact absurd e hj
 ·rw [e] at hj ⊢; exact f.2 i hi hj
theorem Act.put_ds (a:Act) (d:Option Nat) (v:Value):(a.put d v).defers=a.defers:=by cases d <;> rfl
theorem q0is {ro:Option Nat} {n:Nat} {ops:Array Oper} {K:Fr→Hp→Prop} {Q:Exit→Act→World→Prop}:∀ (post pre:List Oper) (t:Fr) (a:Act) (ι:Inj) (h:Hp) (w:World),
  ops.toList=pre++post→q01 w0 ι h w→q1i w0.heap.size h.next ι n t a.tmps→qd7 P w0 n ops.toList post t K h→
  (∀ ι' h' t' a' w',Ext ι h ι' h'→q01 w0 ι' h' w'→q1i w0.heap.size h'.next ι' n t' a'.tmps→a'.defers=a.defers→K t' h'→Q .normal a' w')→
  wpOpsIn (Fw ro) 0 P ops Q (List.range' pre.length post.length) a w:=by
 intro post
 induction post with
 | nil=>
  intro pre t a ι h w _ r f hv hq
  exact hq ι h t a w (Ext.refl _ _) r f rfl hv
 | cons o os ih=>
  intro pre t a ι h w he r f hv hq
  have hoi:ops[pre.length]?=some o:=by
   rw [← Array.getElem?_toList,he]
   simp
  simp only [List.length_cons,List.range'_succ,wpOpsIn,hoi]
  simp only [qd7] at hv
  refine qli (ro:=ro) r f hv (λ ι' h' v v' w' g1 g2 g3 g4=>?_)
  have:=ih (pre++[o]) (q44 t o.dst v) (a.put o.dst v') ι' h' w' (by rw [he]; simp) g2 ((f.mono g1.1 g1.2).put o.dst g3) g4 (λ ι2 h2 t2 a2 w2 q1 q2 q3 q4 q5=>
   hq ι2 h2 t2 a2 w2 (g1.trans q1) q2 q3 (by rw [q4,Act.put_ds]) q5)
  simpa using this
def q6i (P:Program) (w0:World) (n:Nat) (draw:List Oper→Fr→(Fr→Hp→Prop)→Hp→Prop):Prop:=
 ∀ (ro:Option Nat) (id:Nat) (ops:Array Oper) (K:Fr→Hp→Prop) (Q:Exit→Act→World→Prop) (t:Fr) (a:Act) (ι:Inj) (h:Hp) (w:World),
  q01 w0 ι h w→q1i w0.heap.size h.next ι n t a.tmps→draw ops.toList t K h→
  (∀ ι' h' t' a' w',Ext ι h ι' h'→q01 w0 ι' h' w'→q1i w0.heap.size h'.next ι' n t' a'.tmps→a'.defers=a.defers→K t' h'→Q .normal a' w')→
  (Code.region id ops true).wpIn (Fw ro) 0 P Q a w
theorem qg1 {C:Cx} {draw:List Oper→Fr→(Fr→Hp→Prop)→Hp→Prop} (hd:q6i C.P C.w0 C.n draw) {ro:Option Nat}:∀ (c:Code) (t:Fr) (K:qb2) (Q:Exit→Act→World→Prop) (a:Act) (ι:Inj) (h:Hp) (w:World),
  q01 C.w0 ι h w→q1i C.w0.heap.size h.next ι C.n t a.tmps→q4g C draw c t K h→
  (∀ e ι' h' t' a' w',Ext ι h ι' h'→q01 C.w0 ι' h' w'→q1i C.w0.heap.size h'.next ι' C.n t' a'.tmps→a'.defers=a.defers→K e t' h'→Q e a' w')→
  c.wpIn (Fw ro) 0 C.P Q a w:=by
 intro c
 induction c with
 | skip=>intro t K Q a ι h w r f hv hq; exact wpIn_skip (hq .normal ι h t a w (Ext.refl _ _) r f rfl hv)
 | region id ops d=>
  intro t K Q a ι h w r f hv hq
  cases d with
  | true=>exact hd ro id ops _ Q t a ι h w r f hv (λ ι' h' t' a' w' g1 g2 g3 g4 g5=>hq .normal ι' h' t' a' w' g1 g2 g3 g4 g5)
  | false=>
   refine wpIn_region ?_
   have:=q0is (ro:=ro) (n:=C.n) (ops:=ops) (Q:=Q) ops.toList [] t a ι h w rfl r f hv (λ ι' h' t' a' w' g1 g2 g3 g4 g5=>hq .normal ι' h' t' a' w' g1 g2 g3 g4 g5)
   simpa [List.range_eq_range'] using this
 | seq x y ihx ihy=>
  intro t K Q a ι h w r f hv hq
  refine wpIn_seq (ihx t _ _ a ι h w r f hv (λ e ι' h' t' a' w' g1 g2 g3 g4 g5=>?_))
  cases e with
  | normal=>exact ihy t' K Q a' ι' h' w' g2 g3 g5 (λ e2 ι2 h2 t2 a2 w2 q1 q2 q3 q4 q5=>hq e2 ι2 h2 t2 a2 w2 (g1.trans q1) q2 q3 (q4.trans g4) q5)
  | exit id=>exact hq _ ι' h' t' a' w' g1 g2 g3 g4 g5
  | goto l=>exact hq _ ι' h' t' a' w' g1 g2 g3 g4 g5
  | ret=>exact hq _ ι' h' t' a' w' g1 g2 g3 g4 g5
  | panic ch=>exact hq _ ι' h' t' a' w' g1 g2 g3 g4 g5
  | outgrown=>exact hq _ ι' h' t' a' w' g1 g2 g3 g4 g5
 | cond c x y ihx ihy=>
  intro t K Q a ι h w r f hv hq
  obtain ⟨q,e,h1,h2⟩:=hv
  have hc:a.eval c=.bool q:=by
   have:=f.eval c (by rw [e]; simp [junk])
   rw [e] at this
   exact this.bool_inv
  cases q with
  | true=>exact wpIn_cond hc (ihx t K Q a ι h w r f (h1 rfl) hq)
  | false=>exact wpIn_cond hc (ihy t K Q a ι h w r f (h2 rfl) hq)
 | block id c ih=>
  intro t K Q a ι h w r f hv hq
  refine wpIn_block (ih t _ _ a ι h w r f hv (λ e ι' h' t' a' w' g1 g2 g3 g4 g5=>?_))
  cases e with
  | exit id' =>
   simp only [Exit.inBlock]
   by_cases hid:id'=id
   ·rw [if_pos hid]
    simp only [if_pos hid] at g5
    exact hq _ ι' h' t' a' w' g1 g2 g3 g4 g5
   ·rw [if_neg hid]
    simp only [if_neg hid] at g5
    exact hq _ ι' h' t' a' w' g1 g2 g3 g4 g5
  | normal=>exact hq _ ι' h' t' a' w' g1 g2 g3 g4 g5
  | goto l=>exact hq _ ι' h' t' a' w' g1 g2 g3 g4 g5
  | ret=>exact hq _ ι' h' t' a' w' g1 g2 g3 g4 g5
  | panic ch=>exact hq _ ι' h' t' a' w' g1 g2 g3 g4 g5
  | outgrown=>exact hq _ ι' h' t' a' w' g1 g2 g3 g4 g5
 | loop c ih=>
  intro t K Q a ι h w r f hv hq
  obtain ⟨m,hv⟩:=hv
  refine wpIn_loop_rounds m ?_
  have key:∀ (m:Nat) (t:Fr) (a2:Act) (ι2:Inj) (h2:Hp) (w2:World),Ext ι h ι2 h2→q01 C.w0 ι2 h2 w2→q1i C.w0.heap.size h2.next ι2 C.n t a2.tmps→a2.defers=a.defers→
    q0p (λ t R K h=>q4g C draw c t (λ e t h=>match e with | .normal=>R (scrub (q2x C.ks (keyOf c)).1 t) h | .exit id=>q3v (q2c c) K (some id) (scrub (q2x C.ks (keyOf c)).2 t) h | .ret=>q3v (q2c c) K none (scrub (q2x C.ks (keyOf c)).2 t) h | _=>False) h) m t ((q2c c).map λ o t h=>K (q9l o) t h) h2→
    Code.roundsIn (Fw ro) 0 C.P c Q m a2 w2:=by
   intro m
   induction m with
   | zero=>intro t a2 ι2 h2 w2 _ _ _ _ hv; exact hv.elim
   | succ m ihm=>
    intro t a2 ι2 h2 w2 hx r2 f2 hds hv
    rw [roundsIn_succ]
    refine ih t _ _ a2 ι2 h2 w2 r2 f2 hv (λ e ι' h' t' a' w' g1 g2 g3 g4 g5=>?_)
    cases e with
    | normal=>exact ihm _ a' ι' h' w' (hx.trans g1) g2 (g3.scrub _) (g4.trans hds) g5
    | exit id=>exact hq _ ι' h' _ a' w' (hx.trans g1) g2 (g3.scrub _) (g4.trans hds) (qg8 (x:=some id) g5)
    | goto l=>exact g5.elim
    | ret=>exact hq _ ι' h' _ a' w' (hx.trans g1) g2 (g3.scrub _) (g4.trans hds) (qg8 (x:=none) g5)
    | panic ch=>exact g5.elim
    | outgrown=>exact g5.elim
  exact key m _ a ι h w (Ext.refl _ _) r (f.scrub _) rfl hv
 | exit id=>intro t K Q a ι h w r f hv hq; exact wpIn_exit (hq _ ι h t a w (Ext.refl _ _) r f rfl hv)
 | ret=>intro t K Q a ι h w r f hv hq; exact wpIn_ret (hq _ ι h t a w (Ext.refl _ _) r f rfl hv)
 | rangeFunc _ _ _ _ _ _=>intro t K Q a ι h w r f hv hq; exact hv.elim
 | scope _ _=>intro t K Q a ι h w r f hv hq; exact hv.elim
 | label _=>intro t K Q a ι h w r f hv hq; exact hv.elim
 | goto _=>intro t K Q a ι h w r f hv hq; exact hv.elim
 | refuse _=>intro t K Q a ι h w r f hv hq; exact hv.elim
def rvA (tmps:Array Value):ResultVar→Sem Value
 | .tmp t=>pure (tmps.getD t undef)
 | .cell a t=>do loadVar t (← asAddr (tmps.getD a undef))
theorem qx4 {n:Nat} {t:Fr} {a:Act} (r:q01 w0 ι h w) (f:q1i w0.heap.size h.next ι n t a.tmps):∀ (l:List ResultVar) (K:List Value→Hp→Prop),q4z P w0 n l t K h→
  ∃ vs vs',(l.mapM (rvA a.tmps)).run P w=.ok vs' w∧vs.length=l.length∧vs'.length=l.length∧
   (∀ (i:Nat) v v',vs[i]?=some v→vs'[i]?=some v'→v≠junk→qy w0.heap.size h.next ι v v')∧K vs h:=by
 intro l
 induction l with
 | nil=>intro K hv; exact ⟨[],[],by simp,rfl,rfl,λ i v v' h=>by simp at h,hv⟩
 | cons x l ih=>
  intro K hv
  have fin:∀ (v v':Value),(rvA a.tmps x).run P w=.ok v' w→(v≠junk→qy w0.heap.size h.next ι v v')→q4z P w0 n l t (λ vs h=>K (v :: vs) h) h→
   ∃ vs vs',((x :: l).mapM (rvA a.tmps)).run P w=.ok vs' w∧vs.length=(x :: l).length∧vs'.length=(x :: l).length∧
    (∀ (i:Nat) v v',vs[i]?=some v→vs'[i]?=some v'→v≠junk→qy w0.heap.size h.next ι v v')∧K vs h:=by
   intro v v' hr hvr hk
   obtain ⟨vs,vs',g1,g2,g3,g4,g5⟩:=ih _ hk
   refine ⟨v :: vs,v' :: vs',?_,by simp [g2],by simp [g3],λ i y y' e e' hne=>?_,g5⟩
   ·rw [List.mapM_cons]
    simp only [Sem.run_bind,hr,Result.andThen_ok,g1,Sem.run_pure]
   ·cases i with
    | zero=>simp at e e'; subst e; subst e'; exact hvr hne
    | succ i=>simp at e e'; exact g4 i y y' e e' hne
  cases x with
  | tmp d=>exact fin (ev n t (.tmp d)) (a.tmps.getD d undef) rfl (λ hne=>f.eval (.tmp d) hne) hv
  | cell b T=>
   simp only [q4z] at hv
   split at hv
   case isFalse=>exact hv.elim
   rename_i hT
   have he:a.eval (.tmp b)=a.tmps.getD b undef:=rfl
   have addr:∀ ad,ev n t (.tmp b)=.pointer (some ad)→∃ a',a.tmps.getD b undef=.pointer (some a')∧q20 w0.heap.size h.next ι ad a':=λ ad e=>by
    have:=f.eval (.tmp b) (by rw [e]; simp [junk])
    rw [e,he] at this
    obtain ⟨a',e'⟩:=q20.of this
    exact ⟨a',e',by rw [e'] at this; exact this⟩
   obtain ⟨i,z,d,hi,hz,hd,_,hs,_,_,_,hagg,_⟩:=q2n hT
   split at hv
   ·rename_i ha
    obtain ⟨ad,vs,e,hg,hcl,hk⟩:=hv
    obtain ⟨a',e',hp⟩:=addr ad e
    obtain ⟨vs',hrun,hr⟩:=r.readN (P:=P) hp hg (λ hlt v hv=>(hcl hlt v hv).1)
    have hcell:=r.cells_of hg hcl
    refine fin (.agg vs.toArray) (.agg vs'.toArray) ?_ (λ _=>.agg _ _ hr.toArray.1 hr.toArray.2 (λ i v hv=>hcell v (by have:=List.mem_of_getElem? (l:=vs) (i:=i) (a:=v) (by simpa using hv); exact this))) hk
    have h3:=hrun w rfl
    rw [hs] at h3
    simp only [rvA,e',asAddr,pure_bind,loadVar,Sem.run_bind,hagg,ha,Result.andThen_ok,if_true,q31 hi,h3,Sem.run_pure]
   ·rename_i ha
    have ha:q2g P T=false:=by simpa using ha
    obtain ⟨ad,v,e,hg,hcl,hk⟩:=hv
    obtain ⟨a',e',hp⟩:=addr ad e
    obtain ⟨v',hc,hr⟩:=r.read hp hg hcl
    refine fin v v' ?_ (λ _=>hr) hk
    simp only [rvA,e',asAddr,pure_bind,loadVar,Sem.run_bind,hagg,ha,Result.andThen_ok,Bool.false_eq_true,if_false]
    simp [hc]
theorem qw3 (fn:Func) (tmps:Array Value) {vs':List Value} (h:(fn.results.toList.mapM (rvA tmps)).run P w=.ok vs' w):(results fn tmps).run P w=.ok (oneOf vs') w:=by
 have e:(results fn tmps)=(do let vs ← fn.results.mapM (rvA tmps); pure (if h:vs.size=1 then vs[0] else .tuple vs)):=by
  unfold results
  congr 1
 rw [e,Array.mapM_eq_mapM_toList]
 simp only [Sem.run_bind,Sem.run_map]
 rw [h]
 simp only [Result.andThen_ok,Sem.run_pure]
 congr 1
 unfold oneOf
 split
 ·rename_i hl
  simp at hl
  split
  ·rfl
  ·rename_i hne
   obtain ⟨v,rfl⟩:=List.length_eq_one_iff.1 hl
   exact absurd rfl (hne v)
 ·rename_i hl
  split
  ·simp at hl
  ·rfl
theorem q0dg {P:Program} {w0:World} {f:FuncId} {fn:Func} {ks:List (Nat × List Nat × List Nat)} {draw:List Oper→Fr→(Fr→Hp→Prop)→Hp→Prop} {args:List Value} {h:Hp} {R:qh}
  (hf:P.funcs[f]?=some fn) (hd:q6i P w0 fn.ntmps draw) (hn:args.length≤fn.ntmps) (hj:∀ v,v∈args→v≠junk)
  (hv:qhc ⟨P,w0,fn.ntmps,ks⟩ draw fn args R h):qf P w0 f args h R:=by
 refine ⟨hj,λ ι w args' r ha=>?_⟩
 unfold qhc at hv
 split at hv
 case h_2=>exact hv.elim
 rename_i c hb
 have hal:args'.size=args.length:=by have:=ha.1; simpa using this.symm
 have hfr:q1i w0.heap.size h.next ι fn.ntmps (qay args) (args'++Array.replicate (fn.ntmps - args'.size) undef):=by
  refine ⟨by simp; omega,λ i hi hne=>?_⟩
  unfold qay at hne ⊢
  by_cases hia:i < args.length
  ·have e:args[i]?=some args[i]:=by simp [hia]
   have e':args'.toList[i]?=some (args'[i]'(by omega)):=by simp
   have h1:args.getD i undef=args[i]:=by simp [List.getD,hia]
   have h2:(args'++Array.replicate (fn.ntmps - args'.size) undef).getD i undef=args'[i]'(by omega):=by
    rw [Array.getD_eq_getD_getElem?,Array.getElem?_append_left (by omega)]
    simp [show i < args'.size by omega]
   rw [h1,h2]
   exact ha.2 i _ _ e e'
  ·have h1:args.getD i undef=undef:=by simp [List.getD,List.getElem?_eq_none (show args.length≤i by omega)]
   have h2:(args'++Array.replicate (fn.ntmps - args'.size) undef).getD i undef=undef:=by
    rw [Array.getD_eq_getD_getElem?,Array.getElem?_append_right (by omega)]
    simp [Array.getElem?_replicate]
    split <;> rfl
   rw [h1,h2]
   exact .tuple _ _ rfl (λ i v v' h=>by simp at h)
 refine callsIn_of_wp hf hb trivial (qg1 (C:=⟨P,w0,fn.ntmps,ks⟩) (ro:=none) hd c _ _ _ _ ι h w r hfr hv (λ e ι' h' t' a' w' g1 g2 g3 g4 g5=>?_)) rfl
 have fin:q4z P w0 fn.ntmps fn.results.toList t' (λ vs h=>qo vs R h) h'→a'.defers=[]∧∃ v,(results fn a'.tmps).run P w'=.ok v w' ∧
   ∃ v' ι'' h'' v2,Ending.returned v=.returned v'∧Ext ι h ι'' h''∧q01 w0 ι'' h'' w'∧qy w0.heap.size h''.next ι'' v2 v'∧R v2 h'':=by
  intro hres
  refine ⟨g4,?_⟩
  obtain ⟨vs,vs',q1,q2,q3,q4,q5,q6⟩:=qx4 g2 g3 _ _ hres
  have hrels:q0w w0.heap.size h'.next ι' vs vs':=⟨by omega,λ i v v' e e'=>q4 i v v' e e' (q5 v (List.mem_of_getElem? e))⟩
  have hrun:=qw3 fn a'.tmps q1
  refine ⟨_,hrun,_,ι',h',oneOf vs,rfl,g1,g2,?_,q6⟩
  unfold oneOf
  split
  ·obtain ⟨v',l',rfl,hv',hl'⟩:=hrels.cons_inv
   have:l'=[]:=by have:=hl'.1; exact List.eq_nil_of_length_eq_zero (by simpa using this.symm)
   subst this
   exact hv'
  ·rename_i hne
   have hl:=hrels.1
   split
   ·rename_i v'
    obtain ⟨v,rfl⟩:=List.length_eq_one_iff.1 (show vs.length=1 by simpa using hl)
    exact absurd rfl (hne v)
   ·exact .tuple _ _ hrels.toArray.1 hrels.toArray.2
 cases e with
 | normal=>exact fin g5
 | ret=>exact fin g5
 | exit id=>exact g5.elim
 | goto l=>exact g5.elim
 | panic ch=>exact g5.elim
 | outgrown=>exact g5.elim
end
end
end Go.Proofs.YtfmoemconapmhaaGreat.Ah
