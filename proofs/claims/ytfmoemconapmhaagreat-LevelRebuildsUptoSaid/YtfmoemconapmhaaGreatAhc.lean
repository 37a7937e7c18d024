/- vcOp: what is to be shown of one operation; and that the model's operation then does it. -/
import Derived.Test.YtfmoemconapmhaaGreatAhb
import Derived.Laws.Strings
import Derived.Laws.BytesString
import Derived.Laws.MakeOwn
set_option linter.all false
namespace Go.Proofs.YtfmoemconapmhaaGreat.Ah
open Go
section
def qn4 (P:Program) (n:Nat) (t:Fr) (fs:Array Field) (p:Nat × Operand):Nat × Nat × Bool × Value:=
 match fs[p.1]? with
 | some f=>(f.offset,szT P f.type,q2g P f.type,ev n t p.2)
 | none=>(0,0,true,junk)
def qgy (P:Program) (n:Nat) (t:Fr) (e:TypeId) (p:Nat × Operand):Nat × Nat × Bool × Value:=(p.1 * szT P e,szT P e,q2g P e,ev n t p.2)
def qlx (P:Program) (w0:World) (b:Builtin) (argTypes:List TypeId) (args:List Value) (K:qh) (h:Hp):Prop:=
 match b,argTypes,args with
 | .append,[T,T2],[x,y]=>
  match P.underlying T,P.underlying T2 with
  | some (.slice e),some (.slice _)=>if okT P e=true∧szT P e≠0 then q0h w0 (szT P e) (byT P e) x y K h else False
  | some (.slice e),some .string=>if okT P e=true∧szT P e≠0 then q0h w0 (szT P e) (byT P e) x y K h else False
  | some (.slice e),some (.int _)=>if okT P e=true∧szT P e≠0 then qh7 w0 (szT P e) (byT P e) (q1o P e) x y K h else False
  | _,_=>False
 | .copy,(T :: _),[x,y]=>
  match P.underlying T with
  | some (.slice e)=>if okT P e=true then q4h w0 (szT P e) x y K h else False
  | _=>False
 | .cap,[T],[x]=>
  match P.underlying T with
  | some (.slice e)=>if okT P e=true then qhb w0 (szT P e) x K h else False
  | _=>False
 | .clear,[T],[x]=>
  match P.underlying T with
  | some (.slice e)=>if okT P e=true then qn3 w0 (szT P e) (q1o P e) x K h else False
  | _=>False
 | .len,[T],[x]=>
  match P.underlying T with
  | some .string=>qb (match x with | .string s=>some (.int .i64 (s.size:Int)) | _=>none) K h
  | some (.slice _)=>qb (match x with | .slice _ n _=>some (.int .i64 (n:Int)) | _=>none) K h
  | some (.array n _)=>K (.int .i64 (n:Int)) h
  | _=>False
 | .max,_,(x :: y :: r)=>qb (q3x q9q x (y :: r)) K h
 | .min,_,(x :: y :: r)=>qb (q3x q6n x (y :: r)) K h
 | _,_,_=>False
def q6o (P:Program) (w0:World) (n:Nat) (o:Oper) (t:Fr) (K:qh) (h:Hp):Prop:=
 match o.op with
 | .move x=>K (ev n t x) h
 | .assign x=>K (ev n t x) h
 | .pick c a b=>q0a (ev n t c) (ev n t a) (ev n t b) K h
 | .alloc e=>if okT P e=true then q0u (q1o P e) (szT P e) K h else False
 | .box e x=>if okT P e=true then q15 (q2g P e) (szT P e) (ev n t x) K h else False
 | .build T parts=>
  if okT P T=true then
   match P.underlying T with
   | some (.struct fs)=>if fs.toList.all (λ f=>okT P f.type)=true∧parts.toList.all (λ p=>decide (p.1 < fs.size))=true then q37 (parts.toList.map (qn4 P n t fs)) (q1o P T) (λ cs h=>K (.agg cs.toArray) h) h else False
   | some (.array _ e)=>if okT P e=true then q37 (parts.toList.map (qgy P n t e)) (q1o P T) (λ cs h=>K (.agg cs.toArray) h) h else False
   | _=>False
  else False
 | .buildSlice T len parts=>
  match P.underlying T with
  | some (.slice e)=>
   if okT P e=true∧len * szT P e≤2 ^ 24∧len≤2 ^ 24 then
    q37 (parts.toList.map (qgy P n t e)) (q00 (q1o P e) len) (λ cs h=>K (.slice (some ⟨h.next,0,none⟩) len len) (h.new cs (szT P e))) h
   else False
  | _=>False
 | .load T a=>if okT P T=true then (if q2g P T=true then qw w0 (ev n t a) (szT P T) K h else qg w0 (ev n t a) K h) else False
 | .store T a x=>if okT P T=true then (if q2g P T=true then q0k w0 (ev n t a) (ev n t x) (szT P T) K h else q0q w0 (ev n t a) (ev n t x) K h) else False
 | .nilCheck x=>q02 (ev n t x) K h
 | .binOp op T x y _=>
  match P.underlying T with
  | some (.int _)=>qb (qd op (ev n t x) (ev n t y)) K h
  | some .string=>qb (qd op (ev n t x) (ev n t y)) K h
  | some .bool=>qb (q9b op (ev n t x) (ev n t y)) K h
  | some (.pointer _)=>qb (q1g op (ev n t x) (ev n t y)) K h
  | some (.slice _)=>qb (q3k op (ev n t x) (ev n t y)) K h
  | some (.func _ _ _)=>qb (qd0 op (ev n t x) (ev n t y)) K h
  | some (.struct _)=>q9r P op T (ev n t x) (ev n t y) K h
  | _=>False
 | .unOp op _ x=>qb (unA op (ev n t x)) K h
 | .convert src dst x=>
  match P.underlying src,P.underlying dst with
  | some (.int _),some (.int k)=>qb (q0t k (ev n t x)) K h
  | some .string,some .string=>qb (strOf (ev n t x)) K h
  | some (.slice e),some .string=>match P.underlying e with
   | some (.int .u8)=>q1z w0 (ev n t x) K h
   | _=>False
  | some .string,some (.slice e)=>match P.underlying e with
   | some (.int .u8)=>q9s (ev n t x) K h
   | _=>False
  | some (.slice e),some (.slice _)=>match P.underlying e with
   | some (.int .u8)=>if (src == dst)=true then q00d w0 (ev n t x) K h else False
   | _=>False
  | _,_=>False
 | .makeFunc (.func k) first cap=>(∀ v,v∈first.toList.map (ev n t)++cap.toList.map (ev n t)→v≠junk)∧K (.func (.func k) (first.toList.map (ev n t)).toArray (cap.toList.map (ev n t)).toArray) h
 | .makeSlice T l c=>
  match P.underlying T with
  | some (.slice e)=>if okT P e=true then mkA (szT P e) (byT P e) (q1o P e) (ev n t l) (ev n t c) K h else False
  | _=>False
 | .slice T x lo hi mx=>
  match P.underlying T with
  | some .string=>if mx.isNone then qb (q2y (ev n t x) (lo.map (ev n t)) (hi.map (ev n t))) K h else False
  | some (.slice e)=>if okT P e=true then q1e (szT P e) (ev n t x) (lo.map (ev n t)) (hi.map (ev n t)) (mx.map (ev n t)) K h else False
  | some (.array len e)=>if okT P e=true∧mx.isNone then qn8 len (szT P e) (ev n t x) (lo.map (ev n t)) (hi.map (ev n t)) K h else False
  | _=>False
 | .fieldAddr S x f=>
  match P.underlying S with
  | some (.struct fs)=>match fs[f]? with
   | some fd=>if okT P fd.type=true∧szT P fd.type≠0 then qk (ev n t x) fd.offset K h else False
   | none=>False
  | _=>False
 | .field S x f=>
  match P.underlying S with
  | some (.struct fs)=>match fs[f]? with
   | some fd=>if okT P fd.type=true then qb (qd9 (q2g P fd.type) fd.offset (szT P fd.type) (ev n t x)) K h else False
   | none=>False
  | _=>False
 | .indexAddr T x i=>
  match P.underlying T with
  | some (.slice e)=>if okT P e=true then q04 (szT P e) (ev n t x) (ev n t i) K h else False
  | some (.array len e)=>if okT P e=true then q3i len (szT P e) (ev n t x) (ev n t i) K h else False
  | _=>False
 | .index T x i=>
  match P.underlying T with
  | some .string=>qb (q3t (ev n t x) (ev n t i)) K h
  | some (.array len e)=>if okT P e=true then qb (q5m (q2g P e) len (szT P e) (ev n t x) (ev n t i)) K h else False
  | _=>False
 | .extract x i=>qb (q0g (ev n t x) i) K h
 | .call c=>
  match c.callee with
  | .builtin b=>qlx P w0 b c.argTypes.toList (c.args.toList.map (ev n t)) K h
  | .value (.func f)=>if qaw P f=true then qf P w0 f (c.args.toList.map (ev n t)) h K else ovL P w0 f (c.args.toList.map (ev n t)) K h
  | .value f=>q1n P w0 (ev n t f) (c.args.toList.map (ev n t)) K h
  | _=>False
 | _=>False
def q1j (w0:World) (ι:Inj) (h:Hp) (K:qh):Result Value→Prop
 | .ok v' w'=>∃ ι' h' v,Ext ι h ι' h'∧q01 w0 ι' h' w'∧(v=junk∨qy w0.heap.size h'.next ι' v v')∧K v h'
 | _=>False
def q6m (P:Program) (w0:World) (ι:Inj) (h:Hp) (K:qh):Result Next→Prop
 | .ok (.value v') w'=>∃ ι' h' v,Ext ι h ι' h'∧q01 w0 ι' h' w'∧(v=junk∨qy w0.heap.size h'.next ι' v v')∧K v h'
 | .ok .skip w'=>∃ ι' h',Ext ι h ι' h'∧q01 w0 ι' h' w'∧K undef h'
 | .ok (.enter f args') w'=>∃ args,q01 w0 ι h w'∧q0w w0.heap.size h.next ι args args'.toList∧qf P w0 f args h K
 | .ok (.round l f tmps as bd) w'=>RoundIn Fence.wide 0 P l f tmps as bd w' λ e w''=>∃ v' ι' h' v,e=.returned v'∧Ext ι h ι' h'∧q01 w0 ι' h' w''∧qy w0.heap.size h'.next ι' v v'∧K v h'
 | _=>False
section
variable {P:Program} {w0:World} {ι:Inj} {h:Hp} {w:World} {K:qh}
theorem q1j.mk {v v':Value} (r:q01 w0 ι h w) (hv:qy w0.heap.size h.next ι v v') (hk:K v h):q1j w0 ι h K (.ok v' w):=⟨ι,h,v,Ext.refl _ _,r,.inr hv,hk⟩
theorem q1j.op {s:Sem Value} (hs:q1j w0 ι h K (s.run P w)):q6m P w0 ι h K ((do pure (Next.value (← s)):Sem Next).run P w):=by
 simp only [Sem.run_bind]
 cases hr:s.run P w with
 | ok v' w'=>rw [hr] at hs; exact hs
 | halt x w'=>rw [hr] at hs; exact hs.elim
theorem q1b {t:TypeId} {d:TypeDesc} (ht:P.underlying t=some d) (w:World):(underlying t).run P w=.ok d w:=run_underlying ht w
theorem qxj {t:TypeId} {i:TypeInfo} (ht:P.info? t=some i) (w:World):(typeInfo t).run P w=.ok i w:=by simp [typeInfo,ht]
theorem q31 {t:TypeId} {i:TypeInfo} (ht:P.info? t=some i) (w:World):(sizeOf t).run P w=.ok i.size w:=by simp [sizeOf,qxj ht]
theorem q2n {t:TypeId} (ho:okT P t=true):∃ i z d,P.info? t=some i∧i.zero=some z∧P.underlying t=some d∧z.cells.size=i.size∧szT P t=i.size∧byT P t=i.bytes∧q1o P t=z.cells.toList∧
  (∀ v,v∈z.cells.toList→q5j v=true)∧(∀ w:World,(isAgg t).run P w=.ok (q2g P t) w)∧(∀ w:World,(zeroValue t).run P w=.ok z w):=by
 unfold okT at ho
 split at ho
 case h_2=>simp at ho
 rename_i i hi
 split at ho
 case h_2=>simp at ho
 rename_i z hz
 simp only [Bool.and_eq_true,beq_iff_eq] at ho
 obtain ⟨⟨⟨h1,h2⟩,h3⟩,h4⟩:=ho
 obtain ⟨d,hd⟩:=Option.isSome_iff_exists.1 h3
 refine ⟨i,z,d,hi,hz,hd,h1,by simp [szT,hi],by simp [byT,hi],by simp [q1o,hi,hz],λ v hv=>List.all_eq_true.1 h2 v hv,λ w=>?_,λ w=>by simp [zeroValue,qxj hi,hz]⟩
 simp only [isAgg,Sem.run_bind,q1b hd,Result.andThen_ok,q2g,hd]
 cases d <;> rfl
theorem qc1 {B:Nat} {v:Value} (hc:q5j v=true):Cl B v∧qv v=true:=by
 unfold q5j at hc
 split at hc <;> first | exact ⟨λ nx ι=>.bool _,rfl⟩ | exact ⟨λ nx ι=>.int _ _,rfl⟩ | exact ⟨λ nx ι=>.string _,rfl⟩ | exact ⟨λ nx ι=>.pnil,rfl⟩ | exact ⟨λ nx ι=>.snil,rfl⟩ | exact ⟨λ nx ι=>.nilFunc,rfl⟩ | simp at hc
theorem q94 {B nx:Nat} {ι:Inj} {l:List Value} (hl:∀ v,v∈l→q5j v=true):q0w B nx ι l l:=
 ⟨rfl,λ i v v' a b=>by rw [a] at b; cases b; exact (qc1 (hl v (List.mem_of_getElem? a))).1 nx ι⟩
theorem q0fh {T:TypeId} {x x':Value} (ho:okT P T=true) (ha:q2g P T=false) (r:q01 w0 ι h w) (hx:x≠junk→qy w0.heap.size h.next ι x x') (hv:qg w0 x K h):
  q1j w0 ι h K ((Instr.loadAt T x').run P w):=by
 obtain ⟨ad,v,rfl,hg,hcl,hk⟩:=hv
 obtain ⟨i,z,d,hi,hz,hd,_,_,_,_,_,hagg,_⟩:=q2n ho
 have hx:=hx (by simp [junk])
 have hp:∃ a',x'=.pointer (some a'):=by cases hx <;> exact ⟨_,rfl⟩
 obtain ⟨a',rfl⟩:=hp
 obtain ⟨v',hc,hr⟩:=r.read hx hg hcl
 have:(Instr.loadAt T (.pointer (some a'))).run P w=.ok v' w:=by
  simp only [Instr.loadAt,Instr.sureAddr,pure_bind,loadVar,Sem.run_bind,hagg,ha,Result.andThen_ok]
  simp [hc]
 rw [this]
 exact .mk r hr hk
theorem q0ej {T:TypeId} {x x':Value} (ho:okT P T=true) (ha:q2g P T=true) (r:q01 w0 ι h w) (hx:x≠junk→qy w0.heap.size h.next ι x x') (hv:qw w0 x (szT P T) K h):
  q1j w0 ι h K ((Instr.loadAt T x').run P w):=by
 obtain ⟨ad,vs,rfl,hg,hcl,hk⟩:=hv
 obtain ⟨i,z,d,hi,hz,hd,_,hs,_,_,_,hagg,_⟩:=q2n ho
 have hx:=hx (by simp [junk])
 have hp:∃ a',x'=.pointer (some a'):=by cases hx <;> exact ⟨_,rfl⟩
 obtain ⟨a',rfl⟩:=hp
 have hcell:=r.cells_of hg hcl
 obtain ⟨vs',hrun,hr⟩:=r.readN (P:=P) hx hg (λ hlt v hv=>(hcl hlt v hv).1)
 have:(Instr.loadAt T (.pointer (some a'))).run P w=.ok (.agg vs'.toArray) w:=by
  have:=hrun w rfl
  rw [hs] at this
  simp only [Instr.loadAt,Instr.sureAddr,pure_bind,loadVar,Sem.run_bind,hagg,ha,Result.andThen_ok,if_true,q31 hi,this,Sem.run_pure]
 rw [this]
 exact .mk r (.agg _ _ hr.toArray.1 hr.toArray.2 (λ i v hv=>hcell v (by have:=List.mem_of_getElem? (l:=vs) (i:=i) (a:=v) (by simpa using hv); exact this))) hk
theorem qmq {t:TypeId} (ho:okT P t=true) (ha:q2g P t=false):szT P t=1:=by
 unfold okT at ho
 split at ho
 case h_2=>simp at ho
 rename_i i hi
 split at ho
 case h_2=>simp at ho
 rename_i z hz
 simp only [Bool.and_eq_true,beq_iff_eq] at ho
 obtain ⟨⟨⟨h1,h2⟩,h3⟩,h4⟩:=ho
 have:szT P t=i.size:=by simp [szT,hi]
 rw [this,← h1]
 split at h4
 ·rw [ha] at h4; simp at h4
 ·simp at h4
 ·rename_i hn1 hn2
  unfold Value.cells
  split
  ·rename_i cs; exact absurd rfl (hn1 cs)
  ·rfl
theorem cells_one {v:Value} (hc:qv v=true):v.cells = #[v]:=by cases v <;> first | rfl | simp [qv] at hc
theorem q20.of {nx B:Nat} {ι:Inj} {ad:Addr} {x':Value} (hx:qy B nx ι (.pointer (some ad)) x'):∃ a',x'=.pointer (some a'):=by cases hx <;> exact ⟨_,rfl⟩
theorem q0e1 {T:TypeId} {x x' v v':Value} (ho:okT P T=true) (ha:q2g P T=false) (r:q01 w0 ι h w) (hx:x≠junk→qy w0.heap.size h.next ι x x') (hvr:v≠junk→qy w0.heap.size h.next ι v v')
  (hv:q0q w0 x v K h):q6m P w0 ι h K ((do Instr.storeAt T x' v'; pure Next.skip:Sem Next).run P w):=by
 obtain ⟨b,o,cs,rfl,hb,hc,hlt,hcell,hk⟩:=hv
 obtain ⟨i,z,d,hi,hz,hd,_,hs,_,_,_,hagg,_⟩:=q2n ho
 have hx:=hx (by simp [junk])
 obtain ⟨a',rfl⟩:=q20.of hx
 have hvr:=hvr (by intro e; rw [e] at hcell; simp [junk,qv] at hcell)
 obtain ⟨w',hst,hrel⟩:=r.storeN (P:=P) (xs:=[v]) (xs':=[v']) hx hb hc (by simp; omega) (λ y hy=>by simp at hy; rw [hy]; exact hcell) (.cons hvr .nil)
 have hc':qv v'=true:=by rw [hvr.isCell_eq]; exact hcell
 have h1:=qmq ho ha
 rw [hs] at h1
 rw [qc5 _ _ _ hlt] at hrel
 have:(Instr.storeAt T (.pointer (some a')) v').run P w=.ok () w':=by
  simp only [Instr.storeAt,Instr.sureAddr,pure_bind,storeVar,Sem.run_bind,q31 hi,Result.andThen_ok,cells_one hc',h1]
  simpa using hst
 simp only [Sem.run_bind,this,Result.andThen_ok,Sem.run_pure]
 exact ⟨ι,h.put b (cs.set o v),⟨Nat.le_refl _,λ _ _=>rfl,λ _ _ e=>e⟩,hrel,hk⟩
theorem q0cq {T:TypeId} {x x' v v':Value} (ho:okT P T=true) (r:q01 w0 ι h w) (hx:x≠junk→qy w0.heap.size h.next ι x x') (hvr:v≠junk→qy w0.heap.size h.next ι v v')
  (hv:q0k w0 x v (szT P T) K h):q6m P w0 ι h K ((do Instr.storeAt T x' v'; pure Next.skip:Sem Next).run P w):=by
 obtain ⟨b,o,cs,vs,rfl,hb,rfl,hsz,hc,hle,hk⟩:=hv
 obtain ⟨i,z,d,hi,hz,hd,_,hs,_,_,_,hagg,_⟩:=q2n ho
 have hx:=hx (by simp [junk])
 obtain ⟨a',rfl⟩:=q20.of hx
 have hvr:=hvr (by simp [junk])
 cases hvr with
 | agg _ vs' hc' h1 hi' =>
  obtain ⟨w',hst,hrel⟩:=r.storeN (P:=P) (xs:=vs.toList) (xs':=vs'.toList) hx hb hc (by simp; omega) (λ y hy=>by
   obtain ⟨j,hj,he⟩:=Array.getElem_of_mem (Array.mem_toList_iff.1 hy)
   exact hi' j y (by simp [hj,he])) (q0w.of_array hc' h1)
  have:(Instr.storeAt T (.pointer (some a')) (.agg vs')).run P w=.ok () w':=by
   have hcs:(Value.agg vs').cells=vs':=rfl
   have hss:vs'.size=i.size:=by rw [← hc',hsz,hs]
   simp [Instr.storeAt,Instr.sureAddr,storeVar,q31 hi,hcs,hss,hst]
  simp only [Sem.run_bind,this,Result.andThen_ok,Sem.run_pure]
  exact ⟨ι,h.put b (splice cs o vs.toList),⟨Nat.le_refl _,λ _ _=>rfl,λ _ _ e=>e⟩,hrel,hk⟩
theorem qbu {e:TypeId} {s:Nat} {cs cs':List Value} (r:q01 w0 ι h w) (hc:∀ v,v∈cs→qv v=true) (hv:q0w w0.heap.size h.next ι cs cs')  :
  ∃ ι',Ext ι h ι' (h.new cs s)∧q01 w0 ι' (h.new cs s) (w.alloc (.cells cs'.toArray e))∧qy w0.heap.size (h.new cs s).next ι' (.pointer (some ⟨h.next,0,none⟩)) (.pointer (some ⟨w.heap.size,0,none⟩))∧
   ∀ n c,n≤c→c < q0b→qy w0.heap.size (h.new cs s).next ι' (.slice (some ⟨h.next,0,none⟩) n c) (.slice (some ⟨w.heap.size,0,none⟩) n c):=by
 obtain ⟨ι',he,hn,hr⟩:=r.new cs cs' s e (0,0) hc (by rw [hv.1,List.take_length]; exact hv) (.inr (by simp)) (hv.cells hc)
 have hb:=r.base
 refine ⟨ι',he,hr,?_,λ n c hnc hnu=>?_⟩
 ·have:=qy.pint (B:=w0.heap.size) (nx:=(h.new cs s).next) (ι:=ι') h.next 0 hb (by simp [Hp.new])
  rw [hn] at this
  simpa using this
 ·have:=qy.sint (B:=w0.heap.size) (nx:=(h.new cs s).next) (ι:=ι') h.next 0 n c c hb (by simp [Hp.new]) hnc (.inr ⟨rfl,hnu⟩)
  rw [hn] at this
  simpa using this
theorem q0hr {e:TypeId} (ho:okT P e=true) (r:q01 w0 ι h w) (hv:q0u (q1o P e) (szT P e) K h):q1j w0 ι h K ((Instr.alloc e true (.tuple #[])).run P w):=by
 obtain ⟨i,z,d,hi,hz,hd,_,hs,_,hzt,hcst,hagg,hzr⟩:=q2n ho
 obtain ⟨hc,hk⟩:=hv
 rw [hzt] at hc hk
 obtain ⟨ι',he,hr,hp,_⟩:=qbu (e:=e) (s:=szT P e) r hc (q94 hcst)
 have:(Instr.alloc e true (.tuple #[])).run P w=.ok (.pointer (some ⟨w.heap.size,0,none⟩)) (w.alloc (.cells z.cells e)):=by
  simp [Instr.alloc,hzr,newVar,newRow]
 rw [this]
 refine ⟨ι',_,_,he,?_,.inr hp,hk⟩
 simpa using hr
theorem q0gb {e:TypeId} {v v':Value} (ho:okT P e=true) (r:q01 w0 ι h w) (hvr:v≠junk→qy w0.heap.size h.next ι v v') (hv:q15 (q2g P e) (szT P e) v K h):
  q1j w0 ι h K ((Instr.box e v').run P w):=by
 unfold q15 at hv
 cases ha:q2g P e with
 | true=>
  rw [ha] at hv
  obtain ⟨vs,rfl,hk⟩:=hv
  have hvr:=hvr (by simp [junk])
  cases hvr with
  | agg _ vs' hc' h1 hi' =>
   obtain ⟨ι',he,hr,hp,_⟩:=qbu (e:=e) (s:=szT P e) r (λ y hy=>by
    obtain ⟨j,hj,he⟩:=Array.getElem_of_mem (Array.mem_toList_iff.1 hy)
    exact hi' j y (by simp [hj,he])) (q0w.of_array hc' h1)
   have:(Instr.box e (.agg vs')).run P w=.ok (.pointer (some ⟨w.heap.size,0,none⟩)) (w.alloc (.cells vs' e)):=by
    simp [Instr.box,newVar,newRow,Value.cells]
   rw [this]
   exact ⟨ι',_,_,he,by simpa using hr,.inr hp,hk⟩
 | false=>
  rw [ha] at hv
  obtain ⟨hc,hk⟩:=hv
  have hvr:=hvr (by intro e; rw [e] at hc; simp [junk,qv] at hc)
  obtain ⟨ι',he,hr,hp,_⟩:=qbu (e:=e) (s:=szT P e) (cs:=[v]) (cs':=[v']) r (λ y hy=>by simp at hy; rw [hy]; exact hc) (.cons hvr .nil)
  have hc':qv v'=true:=by rw [hvr.isCell_eq]; exact hc
  have:(Instr.box e v').run P w=.ok (.pointer (some ⟨w.heap.size,0,none⟩)) (w.alloc (.cells #[v'] e)):=by
   simp [Instr.box,newVar,newRow,cells_one hc']
  rw [this]
  exact ⟨ι',_,_,he,by simpa using hr,.inr hp,hk⟩
theorem q0i4 {x x':Value} {S f:Nat} {fs:Array Field} {fd:Field} (hS:P.underlying S=some (.struct fs)) (hf:fs[f]?=some fd) (ho:okT P fd.type=true) (h0:szT P fd.type≠0)
  (r:q01 w0 ι h w) (hx:x≠junk→qy w0.heap.size h.next ι x x') (hv:qk x fd.offset K h):q1j w0 ι h K ((Instr.fieldAt S x' f).run P w):=by
 obtain ⟨ad,rfl,hk⟩:=hv
 have hx:=hx (by simp [junk])
 obtain ⟨a',rfl⟩:=q20.of hx
 obtain ⟨i,z,d,hi,_,_,_,hs,_⟩:=q2n ho
 rw [hs] at h0
 have:(Instr.fieldAt S (.pointer (some a')) f).run P w=.ok (.pointer (some (a'.add fd.offset))) w:=by
  simp [Instr.fieldAt,q1b hS,hf,Instr.sureAddr,fieldPlace,q31 hi,h0]
 rw [this]
 exact .mk r (q20.add hx _) hk
theorem q46 {o:Option Value} {s:Sem Value} (r:q01 w0 ι h w) (hs:∀ v,o=some v→∃ v',s.run P w=.ok v' w∧qy w0.heap.size h.next ι v v') (hv:qb o K h):q1j w0 ι h K (s.run P w):=by
 obtain ⟨v,e,hk⟩:=hv
 obtain ⟨v',hr,hvr⟩:=hs v e
 rw [hr]
 exact .mk r hvr hk
end
end
section
section
variable {P:Program} {w0:World} {ι:Inj} {h:Hp} {w:World} {K:qh}
theorem q0d2 (vs:List Value):∀ (k off:Nat) (cs:Array Value),off + k + vs.length≤cs.size→
  (((vs.zipIdx k).foldl (λ cs (p:Value × Nat)=>cs.setIfInBounds (off + p.2) p.1) cs).size=cs.size)∧
  ∀ j:Nat,((vs.zipIdx k).foldl (λ cs (p:Value × Nat)=>cs.setIfInBounds (off + p.2) p.1) cs)[j]?=if off + k≤j∧j < off + k + vs.length then vs[j - (off + k)]? else cs[j]?:=by
 induction vs with
 | nil=>
  intro k off cs _
  refine ⟨rfl,λ j=>?_⟩
  rw [if_neg (by simp)]
  rfl
 | cons v t ih=>
  intro k off cs hle
  simp only [List.length_cons] at hle
  simp only [List.zipIdx_cons,List.foldl_cons]
  obtain ⟨h1,h2⟩:=ih (k + 1) off (cs.setIfInBounds (off + k) v) (by simp; omega)
  refine ⟨by rw [h1]; simp,λ j=>?_⟩
  rw [h2]
  simp only [List.length_cons,Array.getElem?_setIfInBounds]
  by_cases hj:j=off + k
  ·subst hj
   rw [if_neg (by omega),if_pos rfl,if_pos (by omega),if_pos (by omega)]
   simp
  ·by_cases h3:off + (k + 1)≤j∧j < off + (k + 1) + t.length
   ·rw [if_pos h3,if_pos (by omega),show j - (off + k)=(j - (off + (k + 1))) + 1 by omega]
    simp
   ·rw [if_neg h3,if_neg (by omega),if_neg (by omega)]
def qal (B nx:Nat) (ι:Inj) (place:Nat→Option (Nat × Nat)):List (Nat × Nat × Bool × Value)→List (Nat × Value)→Prop
 | [],[]=>True
 | (off,size,agg,v) :: r,(i,v') :: r'=>place i=some (off,size)∧(agg=false→size=1)∧(v≠junk→qy B nx ι v v')∧qal B nx ι place r r'
 | _,_=>False
theorem qkt {place:Nat→Option (Nat × Nat)} {KL:List Value→Hp→Prop}:∀ (ps:List (Nat × Nat × Bool × Value)) (ps':List (Nat × Value)) (cs:List Value) (cs':Array Value),
  qal w0.heap.size h.next ι place ps ps'→q0w w0.heap.size h.next ι cs cs'.toList→(∀ v,v∈cs→qv v=true)→q37 ps cs KL h→
  ∃ l l',Instr.fill place cs' ps'=some l'∧q0w w0.heap.size h.next ι l l'.toList∧(∀ v,v∈l→qv v=true)∧l.length=cs.length∧KL l h:=by
 intro ps
 induction ps with
 | nil=>
  intro ps' cs cs' hp hv hc hk
  cases ps' with
  | nil=>exact ⟨cs,cs',rfl,hv,hc,rfl,hk⟩
  | cons _ _=>exact hp.elim
 | cons p r ih=>
  intro ps' cs cs' hp hv hc hk
  obtain ⟨off,size,agg,v⟩:=p
  cases ps' with
  | nil=>exact hp.elim
  | cons q r' =>
   obtain ⟨i,v'⟩:=q
   obtain ⟨hpl,h1,hvr,hrest⟩:=hp
   have key:∀ (xs:List Value),(v=.agg xs.toArray∧agg=true∨xs=[v]∧qv v=true)→xs.length=size→off + size≤cs.length→(∀ y,y∈xs→qv y=true)→q0w w0.heap.size h.next ι xs v'.cells.toList→
     q37 r (splice cs off xs) KL h→∃ l l',Instr.fill place cs' ((i,v') :: r')=some l'∧q0w w0.heap.size h.next ι l l'.toList∧(∀ v,v∈l→qv v=true)∧l.length=cs.length∧KL l h:=by
    intro xs _ hsz hle hcx hxr hk'
    have hlen:v'.cells.size=size:=by have:=hxr.1; simp at this; omega
    have hcl:cs'.size=cs.length:=by have:=hv.1; simp at this; omega
    have hz:=q0d2 v'.cells.toList 0 off cs' (by simp; omega)
    have heq:(v'.cells.zipIdx.foldl (λ cs (p:Value × Nat)=>cs.setIfInBounds (off + p.2) p.1) cs')=(v'.cells.toList.zipIdx 0).foldl (λ cs (p:Value × Nat)=>cs.setIfInBounds (off + p.2) p.1) cs':=by
     rw [← Array.foldl_toList,Array.toList_zipIdx]
    obtain ⟨l,l',g1,g2,g3,g4,g5⟩:=ih r' (splice cs off xs) ((v'.cells.toList.zipIdx 0).foldl (λ cs (p:Value × Nat)=>cs.setIfInBounds (off + p.2) p.1) cs') hrest (by
     refine ⟨by rw [q67 (by omega)]; simp [hz.1,hcl],λ j y y' a b=>?_⟩
     rw [ql8 (by omega)] at a
     have b':((v'.cells.toList.zipIdx 0).foldl (λ cs (p:Value × Nat)=>cs.setIfInBounds (off + p.2) p.1) cs')[j]?=some y':=by simpa using b
     rw [hz.2] at b'
     have hxl:=hxr.1
     by_cases hj:off≤j∧j < off + xs.length
     ·rw [if_pos hj] at a
      rw [if_pos (by omega)] at b'
      exact hxr.2 _ y y' a (by rw [← b']; congr 1)
     ·rw [if_neg hj] at a
      rw [if_neg (by omega)] at b'
      exact hv.2 j y y' a (by simpa using b')) (λ y hy=>by
     simp only [splice,List.mem_append] at hy
     rcases hy with (hy | hy) | hy
     ·exact hc y (List.mem_of_mem_take hy)
     ·exact hcx y hy
     ·exact hc y (List.mem_of_mem_drop hy)) hk'
    refine ⟨l,l',?_,g2,g3,by rw [g4,q67 (by omega)],g5⟩
    simp only [Instr.fill,hpl]
    rw [if_neg (by simp; omega),heq]
    exact g1
   simp only [q37] at hk
   cases agg with
   | true=>
    obtain ⟨vs,rfl,hs,hle,hk'⟩:=hk
    have hvr:=hvr (by simp [junk])
    cases hvr with
    | agg _ vs' hc' g1 g2=>
     refine key vs.toList (.inl ⟨by simp,rfl⟩) (by simpa using hs) hle (λ y hy=>?_) (q0w.of_array hc' g1) hk'
     obtain ⟨j,hj,he⟩:=Array.getElem_of_mem (Array.mem_toList_iff.1 hy)
     exact g2 j y (by simp [hj,he])
   | false=>
    obtain ⟨hcv,hlt,hk'⟩:=hk
    have hvr:=hvr (by intro e; rw [e] at hcv; simp [junk,qv] at hcv)
    have hc':qv v'=true:=by rw [hvr.isCell_eq]; exact hcv
    have h1:=h1 rfl
    refine key [v] (.inr ⟨rfl,hcv⟩) (by simp [h1]) (by omega) (λ y hy=>by simp at hy; rw [hy]; exact hcv) (by rw [cells_one hc']; exact .cons hvr .nil) ?_
    rw [qc5 _ _ _ hlt]
    exact hk'
theorem q0dm {T e:TypeId} {x x' i i':Value} (hT:P.underlying T=some (.slice e)) (ho:okT P e=true) (r:q01 w0 ι h w) (hx:x≠junk→qy w0.heap.size h.next ι x x') (hi:i≠junk→qy w0.heap.size h.next ι i i')
  (hv:q04 (szT P e) x i K h):q1j w0 ι h K ((Instr.indexAt T x' i').run P w):=by
 obtain ⟨ad,n,c,k,j,rfl,rfl,h0,hlt,hk⟩:=hv
 obtain rfl:=(hi (by simp [junk])).int_inv
 obtain ⟨ti,z,d,hti,_,_,_,hs,_⟩:=q2n ho
 rcases (hx (by simp [junk])).slice_inv with ⟨e0,_⟩ | ⟨ad0,a',c',e0,rfl,hn,hp,_⟩
 ·cases e0
 ·cases e0
  have hp:=hp (by omega)
  have:(Instr.indexAt T (.slice (some a') n c') (.int k j)).run P w=.ok (.pointer (some (a'.add (j.toNat * szT P e)))) w:=by
   simp [Instr.indexAt,asIntOf,q1b hT,q31 hti,h0,hlt,hs]
  rw [this]
  exact .mk r (q20.add hp _) hk
theorem q0dq {T e:TypeId} {len:Nat} {x x' i i':Value} (hT:P.underlying T=some (.array len e)) (ho:okT P e=true) (r:q01 w0 ι h w) (hx:x≠junk→qy w0.heap.size h.next ι x x') (hi:i≠junk→qy w0.heap.size h.next ι i i')
  (hv:q3i len (szT P e) x i K h):q1j w0 ι h K ((Instr.indexAt T x' i').run P w):=by
 obtain ⟨ad,k,j,rfl,rfl,h0,hlt,hk⟩:=hv
 obtain rfl:=(hi (by simp [junk])).int_inv
 obtain ⟨ti,z,d,hti,_,_,_,hs,_⟩:=q2n ho
 have hp:=hx (by simp [junk])
 obtain ⟨a',rfl⟩:=q20.of hp
 have:(Instr.indexAt T (.pointer (some a')) (.int k j)).run P w=.ok (.pointer (some (a'.add (j.toNat * szT P e)))) w:=by
  simp [Instr.indexAt,asIntOf,q1b hT,q31 hti,h0,hlt,hs,Instr.sureAddr]
 rw [this]
 exact .mk r (q20.add hp _) hk
theorem qyi {t:TypeId} {cs cs':Array Value} {off:Nat} {v:Value} (ho:okT P t=true) (hc:cs.size=cs'.size) (h1:∀ (i:Nat) v v',cs[i]?=some v→cs'[i]?=some v'→qy w0.heap.size h.next ι v v')
  (h2:∀ (i:Nat) v,cs[i]?=some v→qv v=true) (hv:qd8 (q2g P t) off (szT P t) cs=some v):∃ v',(part t cs' off).run P w=.ok v' w∧qy w0.heap.size h.next ι v v':=by
 obtain ⟨ti,z,d,hti,_,_,_,hs,_,_,_,hagg,_⟩:=q2n ho
 unfold qd8 at hv
 cases ha:q2g P t with
 | true=>
  rw [ha] at hv
  simp only [cond_true,Option.some.injEq] at hv
  subst hv
  refine ⟨.agg (cs'.extract off (off + szT P t)),by simp [part,hagg,ha,q31 hti,hs],?_⟩
  refine .agg _ _ (by simp [hc]) (λ i v v' a b=>?_) (λ i v a=>?_)
  ·rw [Array.getElem?_extract] at a b
   split at a
   ·rw [hc] at *
    rename_i hlt
    rw [if_pos hlt] at b
    exact h1 _ _ _ a b
   ·simp at a
  ·rw [Array.getElem?_extract] at a
   split at a
   ·exact h2 _ _ a
   ·simp at a
 | false=>
  rw [ha] at hv
  simp only [cond_false] at hv
  have hlt:off < cs'.size:=by rw [← hc]; exact (Array.getElem?_eq_some_iff.1 hv).1
  refine ⟨cs'[off],by simp [part,hagg,ha,hlt],h1 off v _ hv (by simp [hlt])⟩
theorem qmn {B nx:Nat} {ι:Inj} {v v':Value} (hf:q18 v=true) (hv:qy B nx ι v v'):v'=v:=by
 cases hv <;> first | rfl | simp [q18] at hf
theorem qxz {B nx:Nat} {ι:Inj} {xs:Array Value} {v':Value} (hf:∀ v,v∈xs.toList→q18 v=true) (hv:qy B nx ι (.agg xs) v'):v'=.agg xs:=by
 cases hv with
 | agg _ c' hc h1 h2=>
  congr 1
  apply Array.ext_getElem?
  intro i
  by_cases hi:i < xs.size
  ·have e:xs[i]?=some xs[i]:=by simp [hi]
   have e':c'[i]?=some c'[i]:=by simp [← hc,hi]
   rw [e,e']
   congr 1
   exact qmn (hf _ (by simp)) (h1 i _ _ e e')
  ·rw [Array.getElem?_eq_none (by omega),Array.getElem?_eq_none (by omega)]
theorem q7c {B:Nat} {v:Value} (hf:q18 v=true):Cl B v:=by
 unfold q18 at hf
 split at hf <;> first | exact λ nx ι=>.bool _ | exact λ nx ι=>.int _ _ | exact λ nx ι=>.string _ | simp at hf
theorem q0le {op:BinOp} {k:IntKind} {a b:Int} {v:Value} (T:TypeId) (hs:op≠.shl) (hr:op≠.shr) (hv:q34 op k a b=some v):(binOp op T (.int k a) (.int k b)).run P w=.ok v w∧q18 v=true:=by
 cases op
 all_goals first
  | exact absurd rfl hs
  | exact absurd rfl hr
  | (simp only [q34,reduceCtorEq] at hv; done)
  | (simp only [q34,Option.some.injEq] at hv; subst hv; exact ⟨by simp [binOp,Op.intArith,Op.intBits,Op.intCmp],rfl⟩)
  | (simp only [q34] at hv; split at hv; · simp at hv
     simp only [Option.some.injEq] at hv; subst hv; exact ⟨by simp [binOp,Op.intDiv, *],rfl⟩)
theorem q0lr {op:BinOp} {x y v:Value} (T:TypeId) (hv:qd op x y=some v):q18 x=true∧q18 y=true∧(binOp op T x y).run P w=.ok v w∧q18 v=true:=by
 unfold qd at hv
 split at hv
 ·rename_i k a k' b
  split at hv
  ·split at hv
   ·simp at hv
   ·cases hv
    refine ⟨rfl,rfl,?_,rfl⟩
    simp [binOp,Op.shift, *]
  ·split at hv
   ·simp at hv
   ·cases hv
    refine ⟨rfl,rfl,?_,rfl⟩
    simp [binOp,Op.shift, *]
  ·rename_i hn1 hn2
   split at hv
   ·rename_i hkk
    subst hkk
    have:=q0le (P:=P) (w:=w) T (λ e=>hn1 e) (λ e=>hn2 e) hv
    exact ⟨rfl,rfl,this.1,this.2⟩
   ·simp at hv
 ·rename_i a b
  refine ⟨rfl,rfl,?_⟩
  have hm:IntKind.i64.max=9223372036854775807:=by decide
  cases op
  all_goals first
   | (simp only [q5t,reduceCtorEq] at hv; done)
   | (simp only [q5t,Option.some.injEq] at hv; subst hv; exact ⟨by simp [binOp,Op.stringOp],rfl⟩)
   | (simp only [q5t] at hv; split at hv
      ·simp only [Option.some.injEq] at hv; subst hv
       refine ⟨?_,rfl⟩
       simp only [binOp,Op.stringOp,hm]
       rw [if_neg (by omega)]
       rfl
      ·simp at hv)
 ·simp at hv
theorem q0cp {op:BinOp} {T:TypeId} {p q:Operand} {x y:Value} (h1:∀ c,x≠.agg c) (h2:x≠.nilIface):(eqGuard op T p q x y).run P w=.ok () w:=by
 unfold eqGuard
 cases op <;> (try rfl) <;> (cases x <;> first | rfl | exact absurd rfl h2 | (rename_i c; exact absurd rfl (h1 c)))
end
end
section
section
variable {P:Program} {w0:World} {ι:Inj} {h:Hp} {w:World} {K:qh}
theorem q0h2 {T:TypeId} (hT:P.underlying T=some .bool) (a b:Bool) (w:World):(Op.equal T (.bool a) (.bool b)).run P w=.ok (a == b) w:=by
 have key:∀ d,(Op.equalIn (d + 1) T (.bool a) (.bool b)).run P w=.ok (a == b) w:=λ d=>by simp [Op.equalIn,q1b hT]
 exact key 9999
theorem q0ir {T e:TypeId} (hT:P.underlying T=some (.pointer e)) (b:Option Addr) (w:World):(Op.equal T (.pointer none) (.pointer b)).run P w=.ok b.isNone w:=by
 have key:∀ d,(Op.equalIn (d + 1) T (.pointer none) (.pointer b)).run P w=.ok b.isNone w:=λ d=>by simp [Op.equalIn,q1b hT]
 exact key 9999
theorem q0h8 {T e:TypeId} (hT:P.underlying T=some (.pointer e)) (a:Addr) (w:World):(Op.equal T (.pointer (some a)) (.pointer none)).run P w=.ok false w:=by
 have key:∀ d,(Op.equalIn (d + 1) T (.pointer (some a)) (.pointer none)).run P w=.ok false w:=λ d=>by simp [Op.equalIn,q1b hT]
 exact key 9999
theorem q0kv {T e:TypeId} (hT:P.underlying T=some (.slice e)) (b:Option Addr) (n c:Nat) (w:World):(Op.equal T (.slice none 0 0) (.slice b n c)).run P w=.ok b.isNone w:=by
 have key:∀ d,(Op.equalIn (d + 1) T (.slice none 0 0) (.slice b n c)).run P w=.ok b.isNone w:=λ d=>by simp [Op.equalIn,q1b hT]
 exact key 9999
theorem q0jd {T e:TypeId} (hT:P.underlying T=some (.slice e)) (a:Addr) (n c:Nat) (w:World):(Op.equal T (.slice (some a) n c) (.slice none 0 0)).run P w=.ok false w:=by
 have key:∀ d,(Op.equalIn (d + 1) T (.slice (some a) n c) (.slice none 0 0)).run P w=.ok false w:=λ d=>by simp [Op.equalIn,q1b hT]
 exact key 9999
theorem q0lc {T:TypeId} {ps rs:Array TypeId} {b:Bool} (hT:P.underlying T=some (.func ps rs b)) (w:World):(Op.equal T .nilFunc .nilFunc).run P w=.ok true w:=by
 have key:∀ d,(Op.equalIn (d + 1) T .nilFunc .nilFunc).run P w=.ok true w:=λ d=>by simp [Op.equalIn,q1b hT]
 exact key 9999
theorem q0ig {T:TypeId} {ps rs:Array TypeId} {b:Bool} (hT:P.underlying T=some (.func ps rs b)) (p:Fn) (q r:Array Value) (w:World):(Op.equal T .nilFunc (.func p q r)).run P w=.ok false w:=by
 have key:∀ d,(Op.equalIn (d + 1) T .nilFunc (.func p q r)).run P w=.ok false w:=λ d=>by simp [Op.equalIn,q1b hT]
 exact key 9999
theorem q0iz {T:TypeId} {ps rs:Array TypeId} {b:Bool} (hT:P.underlying T=some (.func ps rs b)) (p:Fn) (q r:Array Value) (w:World):(Op.equal T (.func p q r) .nilFunc).run P w=.ok false w:=by
 have key:∀ d,(Op.equalIn (d + 1) T (.func p q r) .nilFunc).run P w=.ok false w:=λ d=>by simp [Op.equalIn,q1b hT]
 exact key 9999
theorem q76 {op:BinOp} {T:TypeId} {x y v:Value} {b:Bool} (hv:q5r op b=some v) (hx:∀ k n,x≠.int k n) (hs:∀ s,x≠.string s) (hf:∀ k n,x≠.float k n) (hc:∀ k a b,x≠.complex k a b)
  (he:∀ w,(Op.equal T x y).run P w=.ok b w):(binOp op T x y).run P w=.ok v w∧q18 v=true:=by
 cases op <;> simp only [q5r,reduceCtorEq,Option.some.injEq] at hv
 ·subst hv
  refine ⟨?_,rfl⟩
  cases x <;> first | exact absurd rfl (hx _ _) | exact absurd rfl (hs _) | exact absurd rfl (hf _ _) | exact absurd rfl (hc _ _ _) | (simp only [binOp,Sem.run_bind,he,Result.andThen_ok,Sem.run_pure])
 ·subst hv
  refine ⟨?_,rfl⟩
  cases x <;> first | exact absurd rfl (hx _ _) | exact absurd rfl (hs _) | exact absurd rfl (hf _ _) | exact absurd rfl (hc _ _ _) | (simp only [binOp,Sem.run_bind,he,Result.andThen_ok,Sem.run_pure])
theorem q0dz {op:BinOp} {T:TypeId} {x y v:Value} (hT:P.underlying T=some .bool) (hv:q9b op x y=some v):q18 x=true∧q18 y=true∧(binOp op T x y).run P w=.ok v w∧q18 v=true:=by
 unfold q9b at hv
 split at hv
 ·rename_i a b
  refine ⟨rfl,rfl,q76 (b:=a == b) hv (by simp) (by simp) (by simp) (by simp) (q0h2 hT a b)⟩
 ·simp at hv
theorem q0ft {op:BinOp} {T e:TypeId} {x y x' y' v:Value} (hT:P.underlying T=some (.pointer e)) (hx:x≠junk→qy w0.heap.size h.next ι x x') (hy:y≠junk→qy w0.heap.size h.next ι y y') (hv:q1g op x y=some v):
  (binOp op T x' y').run P w=.ok v w∧q18 v=true∧∃ a,x'=.pointer a:=by
 unfold q1g at hv
 split at hv
 ·rename_i b
  have hx:=hx (by simp [junk])
  have hy:=hy (by simp [junk])
  cases hx
  have:∃ b',y'=.pointer b'∧b'.isNone=b.isNone:=by cases hy <;> exact ⟨_,rfl,rfl⟩
  obtain ⟨b',rfl,hb⟩:=this
  rw [← hb] at hv
  have:=q76 (P:=P) (w:=w) (T:=T) (x:=.pointer none) (y:=.pointer b') hv (by simp) (by simp) (by simp) (by simp) (q0ir hT b')
  exact ⟨this.1,this.2,_,rfl⟩
 ·rename_i a
  have hx:=hx (by simp [junk])
  have hy:=hy (by simp [junk])
  cases hy
  obtain ⟨a',rfl⟩:=q20.of hx
  have:=q76 (P:=P) (w:=w) (T:=T) (x:=.pointer (some a')) (y:=.pointer none) hv (by simp) (by simp) (by simp) (by simp) (q0h8 hT a')
  exact ⟨this.1,this.2,_,rfl⟩
 ·simp at hv
theorem q0h7 {op:BinOp} {T e:TypeId} {x y x' y' v:Value} (hT:P.underlying T=some (.slice e)) (hx:x≠junk→qy w0.heap.size h.next ι x x') (hy:y≠junk→qy w0.heap.size h.next ι y y') (hv:q3k op x y=some v):
  (binOp op T x' y').run P w=.ok v w∧q18 v=true∧∃ a n c,x'=.slice a n c:=by
 unfold q3k at hv
 split at hv
 ·rename_i n c b n' c'
  have hx:=hx (by simp [junk])
  have hy:=hy (by simp [junk])
  have hx':x'=.slice none 0 0:=by cases hx; rfl
  subst hx'
  have:∃ b' q q',y'=.slice b' q q'∧b'.isNone=b.isNone:=by cases hy <;> exact ⟨_,_,_,rfl,rfl⟩
  obtain ⟨b',q,q',rfl,hb⟩:=this
  rw [← hb] at hv
  have:=q76 (P:=P) (w:=w) (T:=T) (x:=.slice none 0 0) (y:=.slice b' q q') hv (by simp) (by simp) (by simp) (by simp) (q0kv hT b' q q')
  exact ⟨this.1,this.2,_,_,_,rfl⟩
 ·rename_i a n c n' c'
  have hx:=hx (by simp [junk])
  have hy:=hy (by simp [junk])
  have hy':y'=.slice none 0 0:=by cases hy; rfl
  subst hy'
  have:∃ a' q q',x'=.slice (some a') q q':=by cases hx <;> exact ⟨_,_,_,rfl⟩
  obtain ⟨a',q,q',rfl⟩:=this
  have:=q76 (P:=P) (w:=w) (T:=T) (x:=.slice (some a') q q') (y:=.slice none 0 0) hv (by simp) (by simp) (by simp) (by simp) (q0jd hT a' q q')
  exact ⟨this.1,this.2,_,_,_,rfl⟩
 ·simp at hv
theorem q0gu {op:BinOp} {T:TypeId} {ps rs:Array TypeId} {b:Bool} {x y x' y' v:Value} (hT:P.underlying T=some (.func ps rs b)) (hx:x≠junk→qy w0.heap.size h.next ι x x') (hy:y≠junk→qy w0.heap.size h.next ι y y') (hv:qd0 op x y=some v):
  (binOp op T x' y').run P w=.ok v w∧q18 v=true∧((∃ a b c,x'=.func a b c)∨x'=.nilFunc):=by
 unfold qd0 at hv
 split at hv
 ·have hx:=hx (by simp [junk])
  have hy:=hy (by simp [junk])
  cases hx; cases hy
  have:=q76 (P:=P) (w:=w) (T:=T) (x:=.nilFunc) (y:=.nilFunc) hv (by simp) (by simp) (by simp) (by simp) (q0lc hT)
  exact ⟨this.1,this.2,.inr rfl⟩
 ·have hx:=hx (by simp [junk])
  have hy:=hy (by simp [junk])
  cases hx
  have:∃ p q r,y'=.func p q r:=by cases hy <;> exact ⟨_,_,_,rfl⟩
  obtain ⟨p,q,r,rfl⟩:=this
  have:=q76 (P:=P) (w:=w) (T:=T) (x:=.nilFunc) (y:=.func p q r) hv (by simp) (by simp) (by simp) (by simp) (q0ig hT p q r)
  exact ⟨this.1,this.2,.inr rfl⟩
 ·have hx:=hx (by simp [junk])
  have hy:=hy (by simp [junk])
  cases hy
  have:∃ p q r,x'=.func p q r:=by cases hx <;> exact ⟨_,_,_,rfl⟩
  obtain ⟨p,q,r,rfl⟩:=this
  have:=q76 (P:=P) (w:=w) (T:=T) (x:=.func p q r) (y:=.nilFunc) hv (by simp) (by simp) (by simp) (by simp) (q0iz hT p q r)
  exact ⟨this.1,this.2,.inl ⟨_,_,_,rfl⟩⟩
 ·simp at hv
theorem q0mp {op:UnOp} {x v:Value} (hv:unA op x=some v):q18 x=true∧(Op.unary op x).run P w=.ok v w∧q18 v=true:=by
 unfold unA at hv
 split at hv
 ·cases hv; exact ⟨rfl,rfl,rfl⟩
 ·cases hv; exact ⟨rfl,rfl,rfl⟩
 ·cases hv; exact ⟨rfl,rfl,rfl⟩
 ·simp at hv
theorem q0j3 {src dst:TypeId} {k k0:IntKind} {x v:Value} (hs:P.underlying src=some (.int k0)) (hd:P.underlying dst=some (.int k)) (hv:q0t k x=some v):
  q18 x=true∧(convert src dst x).run P w=.ok v w∧q18 v=true:=by
 unfold q0t at hv
 split at hv
 ·cases hv
  exact ⟨rfl,by simp [convert,q1b hs,q1b hd,Conv.intToInt],rfl⟩
 ·simp at hv
theorem q0i7 {src dst:TypeId} {x v:Value} (hs:P.underlying src=some .string) (hd:P.underlying dst=some .string) (hv:strOf x=some v):
  q18 x=true∧(convert src dst x).run P w=.ok v w∧q18 v=true:=by
 unfold strOf at hv
 split at hv
 ·cases hv
  exact ⟨rfl,by simp [convert,q1b hs,q1b hd],rfl⟩
 ·simp at hv
theorem q0ks (ns:List Int):∀ (s:ByteArray),(ns.foldl (λ (s:ByteArray) q=>s.push (UInt8.ofNat q.toNat)) s)=⟨s.data++(ns.map λ q:Int=>UInt8.ofNat q.toNat).toArray⟩:=by
 induction ns with
 | nil=>intro s; simp
 | cons q t ih=>
  intro s
  rw [List.foldl_cons,ih]
  simp [ByteArray.push]
theorem q0gf {src dst e:TypeId} {x x':Value} (hs:P.underlying src=some (.slice e)) (he:P.underlying e=some (.int .u8)) (hd:P.underlying dst=some .string) (r:q01 w0 ι h w)
  (hx:x≠junk→qy w0.heap.size h.next ι x x') (hv:q1z w0 x K h):q1j w0 ι h K ((convert src dst x').run P w):=by
 obtain ⟨a,n,c,ys,rfl,hsrc,hk⟩:=hv
 have hx:=hx (by simp [junk])
 obtain ⟨ys',hrun,hyr,hyl,_⟩:=r.src (P:=P) hsrc hx
 have hys':ys'=ys.map λ q:Int=>Value.int .u8 q:=by
  apply List.ext_getElem?
  intro i
  by_cases hi:i < ys.length
  ·obtain ⟨v',hv',hr⟩:=hyr.get (i:=i) (v:=.int .u8 ys[i]) (by simp [hi])
   rw [hv',hr.int_inv]
   simp [hi]
  ·rw [List.getElem?_eq_none (by rw [← hyr.1]; simp; omega),List.getElem?_eq_none (by simp; omega)]
 subst hys'
 have hlen:ys.length=n:=by simpa using hyl
 have goal:(convert src dst x').run P w=.ok (.string ⟨(ys.map λ q:Int=>UInt8.ofNat q.toNat).toArray⟩) w:=by
  rcases hx.slice_inv with ⟨rfl,rfl,rfl,rfl⟩ | ⟨ad,a',c',rfl,rfl,_⟩
  ·obtain rfl:ys=[]:=List.eq_nil_of_length_eq_zero hlen
   simp [convert,q1b hs,q1b he,q1b hd,Conv.bytesToString]
   rfl
  ·have hl:=hrun w rfl
   simp only [Builtin.firstCells,Nat.mul_one] at hl
   rw [run_convert_bytes_string w src dst e (some a') n c' hs he hd,run_bytesToString (P:=P) w a' n c' ys hl,q0ks]
   simp
 rw [goal]
 exact .mk r (.string _) hk
end
end
end Go.Proofs.YtfmoemconapmhaaGreat.Ah
