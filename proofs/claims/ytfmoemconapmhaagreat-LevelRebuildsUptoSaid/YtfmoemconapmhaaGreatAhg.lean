/- The words' lemmas: what is left to show of each when its operands are known. -/
import Derived.Test.YtfmoemconapmhaaGreatAhf
import Derived.IntWalk
set_option linter.all false
namespace Go.Proofs.YtfmoemconapmhaaGreat.Ah
open Go
theorem wrS {α:Type} (l:List α) (x:α) (h:l.length≤9223372036854775806):IntKind.i64.wrap ((l.length:Int) + 1)=(((l++[x]).length:Nat):Int):=by
 rw [IntWalk.i64_in _ (by omega)]; simp
theorem wrN (i:Nat) (h:i≤9223372036854775806):IntKind.i64.wrap ((i:Int) + 1)=((i + 1:Nat):Int):=by
 rw [IntWalk.i64_in _ (by omega)]; simp
section
structure Fit (w0:World) (h:Hp):Prop where
 base:w0.heap.size≤h.next
 ext:∀ i,i < w0.heap.size→h.blk i=qd5 w0 i
 lt:∀ b cs,h.blk b=some cs→b < h.next
 cell:∀ b cs,w0.heap.size≤b→h.blk b=some cs→∀ v,v∈cs→qv v=true
 lps:∀ b x,h.lp b=some x→w0.heap.size≤b∧b < h.next
 um:∀ b cs,w0.heap.size≤b→h.blk b=some cs→h.um b=true→cs.all q2d=true
theorem q01.fit {w0:World} {ι:Inj} {h:Hp} {w:World} (r:q01 w0 ι h w):Fit w0 h:=by
 refine ⟨r.base,r.exta,λ b cs e=>?_,λ b cs hb e=>(r.live b cs hb e).cell,λ b x e=>⟨(r.loops.row b x.1 x.2 e).2.1,(r.loops.row b x.1 x.2 e).1⟩,λ b cs hb e hu=>List.all_eq_true.2 ((r.live b cs hb e).um hu).1⟩
 by_cases hb:w0.heap.size≤b
 ·exact (r.live b cs hb e).lt
 ·have:=r.base; omega
theorem qf.fit {P:Program} {w0:World} {f:FuncId} {args:List Value} {h:Hp} {R:qh} (c:qf P w0 f args h λ v h'=>Fit w0 h'→R v h'):qf P w0 f args h R:=
 ⟨c.1,λ ι w args' r v=>(c.2 ι w args' r v).mono λ e w' ⟨v',ι',h',v,a,b,c,d,e⟩=>⟨v',ι',h',v,a,b,c,d,e c.fit⟩⟩
theorem qf.of_fit {P:Program} {w0:World} {f:FuncId} {args:List Value} {h:Hp} {R:qh} (hj:∀ v,v∈args→v≠junk) (c:Fit w0 h→qf P w0 f args h R):qf P w0 f args h R:=
 ⟨hj,λ ι w args' r v=>(c r.fit).2 ι w args' r v⟩
theorem qq {P:Program} {w0:World} {f:FuncId} {args:List Value} {h:Hp} {R K:qh} (c:qf P w0 f args h R) (hk:∀ v h',R v h'→Fit w0 h'→K v h'):qi P w0 f args K h:=
 qf.fit (c.mono λ v h' r f=>hk v h' r f)
@[simp] theorem q17 (h:Hp) (b:Nat) (c:List Value) (i:Nat):(h.put b c).blk i=if i=b then some c else h.blk i:=rfl
@[simp] theorem q0qf (h:Hp) (b:Nat) (c:List Value):(h.put b c).lp=h.lp:=rfl
@[simp] theorem q0qd (h:Hp) (c:List Value) (s:Nat):(h.new c s).lp=h.lp:=rfl
@[simp] theorem q0qb (h:Hp) (b:Nat):(h.kill b).lp=h.lp:=rfl
@[simp] theorem q0py (h:Hp) (b:Nat) (c:List Value):(h.put b c).next=h.next:=rfl
@[simp] theorem q0qa (h:Hp) (b:Nat) (c:List Value):(h.put b c).esz=h.esz:=rfl
@[simp] theorem q3a (h:Hp) (c:List Value) (s:Nat) (i:Nat):(h.new c s).blk i=if i=h.next then some c else h.blk i:=rfl
@[simp] theorem qci (h:Hp) (c:List Value) (s:Nat):(h.new c s).next=h.next + 1:=rfl
@[simp] theorem qzg (h:Hp) (c:List Value) (s:Nat) (i:Nat):(h.new c s).esz i=if i=h.next then s else h.esz i:=rfl
@[simp] theorem q0qc (h:Hp) (c:List Value) (s:Nat):(h.newD c s).lp=h.lp:=rfl
@[simp] theorem q0q4 (h:Hp) (c:List Value) (s:Nat) (i:Nat):(h.newD c s).blk i=if i=h.next then some c else h.blk i:=rfl
@[simp] theorem q0pv (h:Hp) (c:List Value) (s:Nat):(h.newD c s).next=h.next + 1:=rfl
@[simp] theorem q0q2 (h:Hp) (c:List Value) (s:Nat) (i:Nat):(h.newD c s).esz i=if i=h.next then s else h.esz i:=rfl
@[simp] theorem q0q8 (h:Hp) (b:Nat) (i:Nat):(h.kill b).blk i=if i=b then none else h.blk i:=rfl
@[simp] theorem q0pl (h:Hp) (b:Nat):(h.kill b).next=h.next:=rfl
@[simp] theorem q0q0 (h:Hp) (b:Nat):(h.kill b).esz=h.esz:=rfl
@[simp] theorem q002 (h:Hp) (b o:Nat):h.get ⟨b,o,none⟩=(h.blk b).bind (·[o]?):=rfl
@[simp] theorem q6e (h:Hp) (b o n:Nat):h.getN ⟨b,o,none⟩ n=(h.blk b).bind λ c=>if o + n≤c.length then some ((c.drop o).take n) else none:=rfl
@[simp] theorem addr_add (b o n:Nat):(⟨b,o,none⟩:Addr).add n=⟨b,o + n,none⟩:=by
 unfold Addr.add
 split
 ·rename_i e; subst e; rfl
 ·rfl
section
variable {P:Program} {w0:World} {K:qh} {h:Hp}
@[simp] theorem q1a (v:Value):qb (some v) K h↔K v h:=by simp [qb]
@[simp] theorem q0ph:qb none K h↔False:=by simp [qb]
@[simp] theorem q0me (v:Value):qc (λ K=>K v) K h↔K v h:=by
 constructor
 ·rintro ⟨v',e,k⟩; obtain ⟨rfl,-⟩:=e h; exact k
 ·intro k; exact ⟨v,λ h0=>⟨rfl,rfl⟩,k⟩
@[simp] theorem q0eu (o:Option Value):qc (qb o) K h↔qb o K h:=by
 constructor
 ·rintro ⟨v',e,k⟩; obtain ⟨v,rfl,rfl,-⟩:=e h; exact ⟨_,rfl,k⟩
 ·rintro ⟨v,rfl,k⟩; exact ⟨v,λ h0=>⟨v,rfl,rfl,rfl⟩,k⟩
@[simp] theorem q0k6 (a:Addr):q02 (.pointer (some a)) K h↔K (.pointer (some a)) h:=by simp [q02]
@[simp] theorem q0pp (f:FuncId) (a b:Array Value):q02 (.func (.func f) a b) K h↔K (.func (.func f) a b) h:=by simp [q02]
@[simp] theorem q0kz (a:Addr) (n:Nat):qk (.pointer (some a)) n K h↔K (.pointer (some (a.add n))) h:=by simp [qk]
@[simp] theorem q0p5 (q:Bool) (a b:Value):q0a (.bool q) a b K h↔K (bif q then a else b) h:=by simp [q0a]
@[simp] theorem q0pf (q:Bool) (x y:Hp→Prop):qt (.bool q) x y h↔(q=true→x h)∧(q=false→y h):=by simp [qt]
@[simp] theorem q0p3 (q want:Bool) (m:qh→Hp→Prop):qe (.bool q) want m K h↔(q=want→m K h)∧(q≠want→K undef h):=by
 constructor
 ·rintro ⟨a,b,c⟩; exact ⟨λ e=>b (by rw [e]),λ e=>c (by simpa using e)⟩
 ·rintro ⟨b,c⟩; exact ⟨by simp [junk],λ e=>b (by simpa using e),λ e=>c (by simpa using e)⟩
theorem q3p (x y:Hp→Prop):qt (.bool true) x y h↔x h:=by simp
theorem q3n (x y:Hp→Prop):qt (.bool false) x y h↔y h:=by simp
theorem qc9 (m:qh→Hp→Prop):qe (.bool true) true m K h↔m K h:=by simp
theorem q0id (m:qh→Hp→Prop):qe (.bool false) false m K h↔m K h:=by simp
theorem q0j4 (m:qh→Hp→Prop):qe (.bool true) false m K h↔K undef h:=by simp
theorem qc8 (m:qh→Hp→Prop):qe (.bool false) true m K h↔K undef h:=by simp
theorem qc6 (a b:Value):q0a (.bool true) a b K h↔K a h:=by simp
theorem qby (a b:Value):q0a (.bool false) a b K h↔K b h:=by simp
@[simp] theorem q0dl (want:Bool) (m:qh→Hp→Prop):qe undef want m K h↔K undef h:=by
 constructor
 ·rintro ⟨a,b,c⟩; exact c (by simp [undef])
 ·intro c; exact ⟨by simp [junk,undef],λ e=>absurd e (by simp [undef]),λ _=>c⟩
@[simp] theorem q0gs (x:Value):qc (q02 x) K h↔q02 x K h:=by
 constructor
 ·rintro ⟨v',e,k⟩; obtain ⟨g,rfl,-⟩:=e h; exact ⟨g,k⟩
 ·rintro ⟨g,k⟩; exact ⟨x,λ h0=>⟨g,rfl,rfl⟩,k⟩
@[simp] theorem q0hk (x:Value) (n:Nat):qc (qk x n) K h↔qk x n K h:=by
 constructor
 ·rintro ⟨v',e,k⟩; obtain ⟨a,rfl,rfl,-⟩:=e h; exact ⟨a,rfl,k⟩
 ·rintro ⟨a,rfl,k⟩; exact ⟨_,λ h0=>⟨a,rfl,rfl,rfl⟩,k⟩
@[simp] theorem q0fi (c a b:Value):qc (q0a c a b) K h↔q0a c a b K h:=by
 constructor
 ·rintro ⟨v',e,k⟩; obtain ⟨q,rfl,rfl,-⟩:=e h; exact ⟨q,rfl,k⟩
 ·rintro ⟨q,rfl,k⟩; exact ⟨_,λ h0=>⟨q,rfl,rfl,rfl⟩,k⟩
@[simp] theorem q0eg (s:Nat) (x i:Value):qc (q04 s x i) K h↔q04 s x i K h:=by
 constructor
 ·rintro ⟨v',e,k⟩; obtain ⟨ad,n,c,kk,j,rfl,rfl,a,b,rfl,-⟩:=e h; exact ⟨ad,n,c,kk,j,rfl,rfl,a,b,k⟩
 ·rintro ⟨ad,n,c,kk,j,rfl,rfl,a,b,k⟩; exact ⟨_,λ h0=>⟨ad,n,c,kk,j,rfl,rfl,a,b,rfl,rfl⟩,k⟩
@[simp] theorem q0dn (l s:Nat) (x i:Value):qc (q3i l s x i) K h↔q3i l s x i K h:=by
 constructor
 ·rintro ⟨v',e,k⟩; obtain ⟨ad,kk,j,rfl,rfl,a,b,rfl,-⟩:=e h; exact ⟨ad,kk,j,rfl,rfl,a,b,k⟩
 ·rintro ⟨ad,kk,j,rfl,rfl,a,b,k⟩; exact ⟨_,λ h0=>⟨ad,kk,j,rfl,rfl,a,b,rfl,rfl⟩,k⟩
@[simp] theorem q0ox (f:FuncId) (a c:List Value):qc (q58 f a c) K h↔q58 f a c K h:=by
 constructor
 ·rintro ⟨v',e,k⟩; obtain ⟨g,rfl,-⟩:=e h; exact ⟨g,k⟩
 ·rintro ⟨g,k⟩; exact ⟨_,λ h0=>⟨g,rfl,rfl⟩,k⟩
@[simp] theorem q0em (op:BinOp) (T:TypeId) (x y:Value):qc (q9r P op T x y) K h↔q9r P op T x y K h:=by
 constructor
 ·rintro ⟨v',e,k⟩; obtain ⟨xs,ys,q,a,b,c,d,f,g,rfl,-⟩:=e h; exact ⟨xs,ys,q,a,b,c,d,f,g,k⟩
 ·rintro ⟨xs,ys,q,a,b,c,d,f,g,k⟩; exact ⟨_,λ h0=>⟨xs,ys,q,a,b,c,d,f,g,rfl,rfl⟩,k⟩
@[simp] theorem q0di (x:Value) (want:Bool) (m:qh→Hp→Prop):qc (qe x want m) K h↔qe x want (qc m) K h:=by
 by_cases hx:x=.bool want
 ·constructor
  ·rintro ⟨v',e,k⟩; exact ⟨(e h).1,λ _=>⟨v',λ h0=>(e h0).2 hx,k⟩,λ g=>absurd hx g⟩
  ·rintro ⟨a,b,c⟩; obtain ⟨v,e,k⟩:=b hx; exact ⟨v,λ h0=>⟨a,λ _=>e h0,λ g=>absurd hx g⟩,k⟩
 ·constructor
  ·rintro ⟨v',e,k⟩; have:=(e h).3 hx; obtain ⟨rfl,-⟩:=this; exact ⟨(e h).1,λ g=>absurd g hx,λ _=>k⟩
  ·rintro ⟨a,b,c⟩; exact ⟨undef,λ h0=>⟨a,λ g=>absurd g hx,λ _=>⟨rfl,rfl⟩⟩,c hx⟩
@[simp] theorem q0e9 (x:Value) (want:Bool) (m:qh→Hp→Prop):qz (qe x want m) K h↔qe x want (qz m) K h:=by
 by_cases hx:x=.bool want
 ·constructor
  ·rintro ⟨v',e,k⟩; exact ⟨e.1,λ _=>⟨v',e.2 hx,k⟩,λ g=>absurd hx g⟩
  ·rintro ⟨a,b,c⟩; obtain ⟨v,e,k⟩:=b hx; exact ⟨v,⟨a,λ _=>e,λ g=>absurd hx g⟩,k⟩
 ·constructor
  ·rintro ⟨v',e,k⟩; obtain ⟨rfl,-⟩:=e.3 hx; exact ⟨e.1,λ g=>absurd g hx,λ _=>k⟩
  ·rintro ⟨a,b,c⟩; exact ⟨undef,⟨a,λ g=>absurd g hx,λ _=>⟨rfl,rfl⟩⟩,c hx⟩
@[simp] theorem q0ex (x:Value):qz (qg w0 x) K h↔qg w0 x K h:=by
 constructor
 ·rintro ⟨v',e,k⟩; obtain ⟨ad,v,rfl,a,b,rfl,-⟩:=e; exact ⟨ad,_,rfl,a,b,k⟩
 ·rintro ⟨ad,v,rfl,a,b,k⟩; exact ⟨v,⟨ad,v,rfl,a,b,rfl,rfl⟩,k⟩
@[simp] theorem q0dx (x:Value) (n:Nat):qz (qw w0 x n) K h↔qw w0 x n K h:=by
 constructor
 ·rintro ⟨v',e,k⟩; obtain ⟨ad,v,rfl,a,b,rfl,-⟩:=e; exact ⟨ad,_,rfl,a,b,k⟩
 ·rintro ⟨ad,v,rfl,a,b,k⟩; exact ⟨_,⟨ad,v,rfl,a,b,rfl,rfl⟩,k⟩
@[simp] theorem q0gn (x:Value):qz (q1z w0 x) K h↔q1z w0 x K h:=by
 constructor
 ·rintro ⟨v',e,k⟩; obtain ⟨a,n,c,ys,rfl,s,rfl,-⟩:=e; exact ⟨a,n,c,ys,rfl,s,k⟩
 ·rintro ⟨a,n,c,ys,rfl,s,k⟩; exact ⟨_,⟨a,n,c,ys,rfl,s,rfl,rfl⟩,k⟩
@[simp] theorem q0nj (v:Value):qz (λ K=>K v) K h↔K v h:=by
 constructor
 ·rintro ⟨v',⟨rfl,-⟩,k⟩; exact k
 ·intro k; exact ⟨v,⟨rfl,rfl⟩,k⟩
@[simp] theorem q0kk (k:Hp→Prop):q0y k h↔k h:=by simp [q0y]
@[simp] theorem q0q5:q0d [] h↔True:=Iff.rfl
@[simp] theorem q32 (k:Hp→Prop):q0d [k] h↔k h:=by simp [q0d]
@[simp] theorem q3z (k k2:Hp→Prop) (l:List (Hp→Prop)):q0d (k :: k2 :: l) h↔k h∧q0d (k2 :: l) h:=Iff.rfl
@[simp] theorem q3o (G:List (Hp→Prop)) (k:Hp→Prop):q0c G k h↔q0d G h∧k h:=Iff.rfl
theorem qxu (m:qh→Hp→Prop) (v:Value):q26 m v h↔m (λ v' h'=>v'=v∧h'=h) h:=Iff.rfl
@[simp] theorem q4n (x v:Value):q26 (qg w0 x) v h↔qg w0 x (λ v' _=>v'=v) h:=by simp [q26,qg]
@[simp] theorem qv9 (x v:Value) (n:Nat):q26 (qw w0 x n) v h↔qw w0 x n (λ v' _=>v'=v) h:=by simp [q26,qw]
@[simp] theorem qu (vs:List Value) (R:qh):qo vs R h↔(∀ v,v∈vs→v≠junk)∧R (oneOf vs) h:=Iff.rfl
@[simp] theorem q06 (v:Value):oneOf [v]=v:=rfl
@[simp] theorem qah:oneOf []=.tuple #[]:=rfl
@[simp] theorem q19 (v1 v2:Value) (l:List Value):oneOf (v1 :: v2 :: l)=.tuple (v1 :: v2 :: l).toArray:=rfl
@[simp] theorem q0q6 (k:IntKind) (n:Int):¬ (.int k n=junk):=by simp [junk]
@[simp] theorem q0pq (q:Bool):¬ (.bool q=junk):=by simp [junk]
@[simp] theorem q0p2 (s:ByteArray):¬ (.string s=junk):=by simp [junk]
@[simp] theorem q0ow (a:Option Addr):¬ (.pointer a=junk):=by simp [junk]
@[simp] theorem q0pg (a:Option Addr) (n c:Nat):¬ (.slice a n c=junk):=by simp [junk]
@[simp] theorem q0pb (a:Array Value):¬ (.tuple a=junk):=by simp [junk]
@[simp] theorem q0px (a:Array Value):¬ (.agg a=junk):=by simp [junk]
@[simp] theorem q0ps (f:Fn) (a b:Array Value):¬ (.func f a b=junk):=by simp [junk]
@[simp] theorem q0pe (k:IntKind) (n:Int):qv (.int k n)=true:=rfl
@[simp] theorem q0p1 (q:Bool):qv (.bool q)=true:=rfl
@[simp] theorem q0op (s:ByteArray):qv (.string s)=true:=rfl
@[simp] theorem q0om (a:Option Addr):qv (.pointer a)=true:=rfl
@[simp] theorem q0ot (a:Option Addr) (n c:Nat):qv (.slice a n c)=true:=rfl
@[simp] theorem q0p0 (f:Fn) (a b:Array Value):qv (.func f a b)=true:=rfl
@[simp] theorem q0on:qv .nilFunc=true:=rfl
@[simp] theorem q0jo (b o:Nat):qg w0 (.pointer (some ⟨b,o,none⟩)) K h↔∃ v,(h.blk b).bind (·[o]?)=some v∧(b < w0.heap.size→Cl w0.heap.size v)∧K v h:=by simp [qg]
@[simp] theorem qlg (b o n:Nat):qw w0 (.pointer (some ⟨b,o,none⟩)) n K h↔∃ vs,h.getN ⟨b,o,none⟩ n=some vs∧(b < w0.heap.size→∀ v,v∈vs→ClC w0.heap.size v)∧K (.agg vs.toArray) h:=by simp [qw]
@[simp] theorem q0gk (b o:Nat) (v:Value):q0q w0 (.pointer (some ⟨b,o,none⟩)) v K h↔∃ cs,w0.heap.size≤b∧h.blk b=some cs∧o < cs.length∧qv v=true∧K undef (h.put b (cs.set o v)):=by
 constructor
 ·rintro ⟨b',o',cs,e,r⟩; cases e; exact ⟨cs,r⟩
 ·rintro ⟨cs,r⟩; exact ⟨b,o,cs,rfl,r⟩
@[simp] theorem q2t (cs:List Value) (s:Nat):q0u cs s K h↔(∀ v,v∈cs→qv v=true)∧K (.pointer (some ⟨h.next,0,none⟩)) (h.new cs s):=Iff.rfl
@[simp] theorem q0ke (s:Nat) (v:Value):q15 false s v K h↔qv v=true∧K (.pointer (some ⟨h.next,0,none⟩)) (h.new [v] s):=Iff.rfl
@[simp] theorem q4c (s:Nat) (vs:Array Value):q15 true s (.agg vs) K h↔K (.pointer (some ⟨h.next,0,none⟩)) (h.new vs.toList s):=by simp [q15]
@[simp] theorem qc4 (s:Nat) (a:Addr) (n c:Nat) (k:IntKind) (j:Int):q04 s (.slice (some a) n c) (.int k j) K h↔0≤j∧j < (n:Int)∧K (.pointer (some (a.add (j.toNat * s)))) h:=by
 constructor
 ·rintro ⟨a',n',c',k',j',e,e',r⟩; cases e; cases e'; exact r
 ·intro r; exact ⟨a,n,c,k,j,rfl,rfl,r⟩
@[simp] theorem q0pk (l s:Nat) (a:Addr) (k:IntKind) (j:Int):q3i l s (.pointer (some a)) (.int k j) K h↔0≤j∧j < (l:Int)∧K (.pointer (some (a.add (j.toNat * s)))) h:=by
 constructor
 ·rintro ⟨a',k',j',e,e',r⟩; cases e; cases e'; exact r
 ·intro r; exact ⟨a,k,j,rfl,rfl,r⟩
@[simp] theorem q2w (ps:List (Nat × Nat × Bool × Value)) (z:List Value):q1t ps z K h↔q37 ps z (λ cs h=>K (.agg cs.toArray) h) h:=Iff.rfl
@[simp] theorem q3s (ps:List (Nat × Nat × Bool × Value)) (z:List Value) (l s:Nat):q0j ps z l s K h↔q37 ps z (λ cs h=>K (.slice (some ⟨h.next,0,none⟩) l l) (h.new cs s)) h:=Iff.rfl
@[simp] theorem q1u (z:List Value) (K:List Value→Hp→Prop):q37 [] z K h↔K z h:=Iff.rfl
@[simp] theorem q28 (off size:Nat) (v:Value) (r:List (Nat × Nat × Bool × Value)) (z:List Value) (K:List Value→Hp→Prop):
  q37 ((off,size,false,v) :: r) z K h↔qv v=true∧off < z.length∧q37 r (z.set off v) K h:=Iff.rfl
@[simp] theorem q95 (off size:Nat) (vs:Array Value) (r:List (Nat × Nat × Bool × Value)) (z:List Value) (K:List Value→Hp→Prop):
  q37 ((off,size,true,.agg vs) :: r) z K h↔vs.size=size∧off + size≤z.length∧q37 r (splice z off vs.toList) K h:=by simp [q37]
@[simp] theorem q0pw (f:FuncId) (args:List Value):qi P w0 f args K h↔qf P w0 f args h K:=Iff.rfl
theorem qmj (s by_:Nat) (z:List Value) (kl kc:IntKind) (n m:Nat):mkA s by_ z (.int kl n) (.int kc m) K h↔
  n≤m∧by_ * m≤281474976710656∧m≤281474976710656∧K (.slice (some ⟨h.next,0,none⟩) n m) (h.new (q00 z m) s):=by
 constructor
 ·rintro ⟨kl',kc',n',m',e,e',r⟩
  simp only [Value.int.injEq,Int.ofNat_inj] at e e'
  obtain ⟨-,rfl⟩:=e
  obtain ⟨-,rfl⟩:=e'
  exact r
 ·intro r; exact ⟨kl,kc,n,m,rfl,rfl,r⟩
@[simp] theorem qy7 (s:ByteArray):q9s (.string s) K h↔s.size≤140737488355328∧K (.slice (some ⟨h.next,0,none⟩) s.size q0b) (h.new (s.data.toList.map λ b=>.int .u8 b.toNat) 1):=by simp [q9s]
end
@[simp] theorem q4r (k:IntKind) (a b:Int):qd .add (.int k a) (.int k b)=some (.int k (k.wrap (a + b))):=by simp [qd,q34]
@[simp] theorem qxw (k:IntKind) (a b:Int):qd .sub (.int k a) (.int k b)=some (.int k (k.wrap (a - b))):=by simp [qd,q34]
@[simp] theorem qcd (k:IntKind) (a b:Int):qd .mul (.int k a) (.int k b)=some (.int k (k.wrap (a * b))):=by simp [qd,q34]
@[simp] theorem qam (k:IntKind) (a b:Int):qd .eql (.int k a) (.int k b)=some (.bool (a == b)):=by simp [qd,q34]
@[simp] theorem qgj (k:IntKind) (a b:Int):qd .neq (.int k a) (.int k b)=some (.bool (a != b)):=by simp [qd,q34]
@[simp] theorem q4b (k:IntKind) (a b:Int):qd .lss (.int k a) (.int k b)=some (.bool (decide (a < b))):=by simp [qd,q34]
@[simp] theorem q0l1 (k:IntKind) (a b:Int):qd .leq (.int k a) (.int k b)=some (.bool (decide (a≤b))):=by simp [qd,q34]
@[simp] theorem q9c (k:IntKind) (a b:Int):qd .gtr (.int k a) (.int k b)=some (.bool (decide (b < a))):=by simp [qd,q34]
@[simp] theorem qgg (k:IntKind) (a b:Int):qd .geq (.int k a) (.int k b)=some (.bool (decide (b≤a))):=by simp [qd,q34]
@[simp] theorem qge (k k':IntKind) (a b:Int) (hb:0≤b):qd .shr (.int k a) (.int k' b)=some (.int k (a / 2 ^ (min b.toNat k.bits))):=by
 have h2:(0:Int)≤2 ^ (min b.toNat k.bits):=Int.pow_nonneg (by omega)
 simp only [qd]
 rw [if_neg (by omega),Int.fdiv_eq_ediv_of_nonneg _ h2]
@[simp] theorem q0l2 (k k':IntKind) (a b:Int) (hb:0≤b):qd .shl (.int k a) (.int k' b)=some (.int k (k.wrap (a * 2 ^ (min b.toNat k.bits)))):=by
 simp only [qd]
 rw [if_neg (by omega)]
theorem qmf (k:IntKind) (a b:Int) (hb:b≠0):qd .quo (.int k a) (.int k b)=some (.int k (k.wrap (a.tdiv b))):=by simp [qd,q34,hb]
theorem qye (k:IntKind) (a b:Int) (hb:b≠0):qd .rem (.int k a) (.int k b)=some (.int k (a.tmod b)):=by simp [qd,q34,hb]
theorem qm1 (k:IntKind) (a b:Nat):qd .and (.int k a) (.int k b)=some (.int k (k.wrap ((a &&& b) % 2 ^ k.bits:Nat))):=by
 simp [qd,q34,Nat.and_mod_two_pow]
theorem qmo (k:IntKind) (a b:Nat):qd .or (.int k a) (.int k b)=some (.int k (k.wrap ((a ||| b) % 2 ^ k.bits:Nat))):=by
 simp [qd,q34,Nat.or_mod_two_pow]
theorem qan (k:IntKind) (a b:Nat):qd .xor (.int k a) (.int k b)=some (.int k (k.wrap ((a ^^^ b) % 2 ^ k.bits:Nat))):=by
 simp [qd,q34,Nat.xor_mod_two_pow]
theorem q41 {k:IntKind} (hk:k.signed=false) {n:Nat} (h:n < 2 ^ k.bits):k.wrap (n:Int)=n:=by
 have:(n:Int) % 2 ^ k.bits=n:=Int.emod_eq_of_lt (by omega) (by exact_mod_cast h)
 simp [IntKind.wrap,hk,this]
@[simp] theorem q0ov (a b:Bool):q9b .eql (.bool a) (.bool b)=some (.bool (a == b)):=rfl
@[simp] theorem q0oq (a b:Bool):q9b .neq (.bool a) (.bool b)=some (.bool (!(a == b))):=rfl
@[simp] theorem q0oy (a:Addr):q1g .eql (.pointer (some a)) (.pointer none)=some (.bool false):=rfl
@[simp] theorem q0p4 (a:Addr):q1g .neq (.pointer (some a)) (.pointer none)=some (.bool true):=rfl
@[simp] theorem q0os:q1g .eql (.pointer none) (.pointer none)=some (.bool true):=rfl
@[simp] theorem q0ou:q1g .neq (.pointer none) (.pointer none)=some (.bool false):=rfl
@[simp] theorem q0my (b:Bool):unA .not (.bool b)=some (.bool (!b)):=rfl
@[simp] theorem q0lx (k:IntKind) (n:Int):unA .neg (.int k n)=some (.int k (k.wrap (0 - n))):=rfl
@[simp] theorem q3q (k k':IntKind) (n:Int):q0t k (.int k' n)=some (.int k (k.wrap n)):=rfl
@[simp] theorem q0or (s:ByteArray):strOf (.string s)=some (.string s):=rfl
@[simp] theorem q5f (s:ByteArray):q1d (.string s)=some (.int .i64 s.size):=rfl
@[simp] theorem qfx (a:Option Addr) (n c:Nat):q05 (.slice a n c)=some (.int .i64 n):=rfl
@[simp] theorem q0oz (s:ByteArray):lenA (.string s)=some s.size:=rfl
@[simp] theorem q0p8 (a:Option Addr) (n c:Nat):lenA (.slice a n c)=some n:=rfl
@[simp] theorem qlb (vs:Array Value) (i:Nat):q0g (.tuple vs) i=vs[i]?:=rfl
@[simp] theorem q0jz (f:Value→Value→Option Value) (x:Value):q3x f x []=some x:=rfl
@[simp] theorem q0gv (f:Value→Value→Option Value) (x y:Value) (r:List Value):q3x f x (y :: r)=(f x y).bind λ v=>q3x f v r:=rfl
@[simp] theorem q0pr (k:IntKind) (a b:Int):q9q (.int k a) (.int k b)=some (.int k (max a b)):=by
 simp only [q9q,Option.some.injEq,Value.int.injEq,true_and]
 omega
@[simp] theorem q0ie (k:IntKind) (a b:Int):q6n (.int k a) (.int k b)=some (.int k (min a b)):=by
 simp only [q6n,Option.some.injEq,Value.int.injEq,true_and]
 omega
@[simp] theorem q0q7 (off s:Nat) (cs:Array Value):qd9 false off s (.agg cs)=cs[off]?:=rfl
@[simp] theorem q0q3 (off s:Nat) (cs:Array Value):qd9 true off s (.agg cs)=some (.agg (cs.extract off (off + s))):=rfl
theorem quk (v:Value) (n:Nat):q00 [v] n=List.replicate n v:=by
 unfold q00
 induction n with
 | zero=>rfl
 | succ n ih=>rw [List.replicate_succ,List.flatten_cons,ih,List.replicate_succ]; rfl
@[simp] theorem q0pj (z:List Value):q00 z 1=z:=by simp [q00]
@[simp] theorem q36 (x y:ByteArray) (hs:x.size + y.size≤9223372036854775807):qd .add (.string x) (.string y)=some (.string (x++y)):=by simp [qd,q5t,hs]
theorem toList_eq {x y:ByteArray}:x.toList=y.toList↔x=y:=by
 constructor
 ·intro e
  have h1:x.data.toList=y.data.toList:=by simpa [ByteArray.toList_eq] using e
  cases x; cases y
  simp at h1
  rw [h1]
 ·rintro rfl; rfl
end
section
def ptr (p:Nat):Value:=.pointer (some ⟨p,0,none⟩)
def bv (b:UInt8):Value:=.int .u8 (b.toNat:Int)
def bvs (l:List UInt8):List Value:=l.map bv
def str (l:List UInt8):ByteArray:=⟨l.toArray⟩
@[simp] theorem qgv:bvs []=[]:=rfl
@[simp] theorem qck (b:UInt8) (l:List UInt8):bvs (b :: l)=bv b :: bvs l:=rfl
@[simp] theorem q5g (l m:List UInt8):bvs (l++m)=bvs l++bvs m:=by simp [bvs]
@[simp] theorem q0pa (l:List UInt8):(bvs l).length=l.length:=by simp [bvs]
theorem qz6 (l:List UInt8) (i:Nat):(bvs l)[i]?=(l[i]?).map bv:=by simp [bvs]
@[simp] theorem q0q1 (l:List UInt8) (n:Nat):(bvs l).take n=bvs (l.take n):=by simp [bvs]
@[simp] theorem q0pz (l:List UInt8) (n:Nat):(bvs l).drop n=bvs (l.drop n):=by simp [bvs]
theorem qmv (l:List UInt8):l.map (λ b=>(.int .u8 b.toNat:Value))=bvs l:=rfl
@[simp] theorem q1v (l:List UInt8):(str l).size=l.length:=by simp [str,ByteArray.size]
@[simp] theorem qyp (l:List UInt8):(str l).data.toList=l:=by simp [str]
@[simp] theorem q0qe (s:ByteArray):str s.data.toList=s:=by
 show (⟨s.data.toList.toArray⟩:ByteArray)=s
 rw [Array.toArray_toList]
theorem size_eq (s:ByteArray):s.size=s.data.toList.length:=rfl
@[simp] theorem q35 (l m:List UInt8):str l++str m=str (l++m):=by
 have h:(str l++str m).data=(str (l++m)).data:=by
  rw [ByteArray.data_append]
  simp [str]
 cases e:str l++str m
 rw [e] at h
 simp only at h
 rw [h]
@[simp] theorem qlh (l:List UInt8):(str l).toList=l:=by rw [ByteArray.toList_eq]; simp [str]
theorem qap:str []=.empty:=rfl
@[simp] theorem q0po (b:UInt8):qv (bv b)=true:=rfl
theorem q0nz (B:Nat) (k:IntKind) (n:Int):Cl B (.int k n):=λ _ _=>.int k n
theorem q0jk (B:Nat) (s:ByteArray):Cl B (.string s):=λ _ _=>.string s
theorem q0na (B:Nat) (b:Bool):Cl B (.bool b):=λ _ _=>.bool b
theorem ql0 (l:List UInt8) (a b:Nat):(str l).extract a b=str ((l.take b).drop a):=by
 have:((str l).extract a b).data=(str ((l.take b).drop a)).data:=by
  rw [ByteArray.data_extract]
  simp [str]
  rw [List.drop_take]
 cases e:(str l).extract a b
 rw [e] at this
 simp only at this
 rw [this]
theorem qwt (l:List UInt8) (k k':IntKind) (a b:Nat) (h:a≤b) (h2:b≤l.length):q2y (.string (str l)) (some (.int k a)) (some (.int k' b))=some (.string (str ((l.take b).drop a))):=by
 simp [q2y,q2p,h,h2,ql0]
theorem qw1 (l:List UInt8) (k':IntKind) (b:Nat) (h2:b≤l.length):q2y (.string (str l)) none (some (.int k' b))=some (.string (str (l.take b))):=by
 simp [q2y,q2p,h2,ql0]
theorem q93 (l:List UInt8) (k:IntKind) (a:Nat) (h:a≤l.length):q2y (.string (str l)) (some (.int k a)) none=some (.string (str (l.drop a))):=by
 simp [q2y,q2p,h,ql0]
theorem qbx (l:List UInt8) (k:IntKind) (i:Nat):q3t (.string (str l)) (.int k i)=(l[i]?).map bv:=by
 have h:∀ (s:ByteArray) (i:Nat),s[i]?=s.data.toList[i]?:=by
  intro s i
  by_cases hi:i < s.size
  ·rw [getElem?_pos s i hi,List.getElem?_eq_getElem (by rw [size_eq] at hi; exact hi)]; rfl
  ·rw [getElem?_neg s i hi,List.getElem?_eq_none (by rw [size_eq] at hi; omega)]
 simp only [q3t]
 rw [if_pos (by omega),h]
 simp
 rfl
structure Step (h h':Hp) (S S':List Nat):Prop where
 next:h.next≤h'.next
 keep:∀ b,b < h.next→b∉S→h'.blk b=h.blk b∧h'.esz b=h.esz b
 own:∀ b,b∈S'→b < h'.next∧(b∈S∨h.next≤b)
 lp:h'.lp=h.lp
theorem Step.refl (h:Hp) (S:List Nat) (hs:∀ b,b∈S→b < h.next):Step h h S S:=⟨Nat.le_refl _,λ b _ _=>⟨rfl,rfl⟩,λ b hb=>⟨hs b hb,.inl hb⟩,rfl⟩
theorem Step.trans {h h1 h2:Hp} {S S1 S2:List Nat} (a:Step h h1 S S1) (b:Step h1 h2 S1 S2):Step h h2 S S2:=by
 refine ⟨Nat.le_trans a.1 b.1,λ i hi hs=>?_,λ i hi=>?_,b.4.trans a.4⟩
 ·have h1:i∉S1:=λ e=>by rcases (a.3 i e).2 with e | e; exact hs e; omega
  have:=b.2 i (by have:=a.1; omega) h1
  rw [this.1,this.2]
  exact a.2 i hi hs
 ·refine ⟨(b.3 i hi).1,?_⟩
  rcases (b.3 i hi).2 with e | e
  ·exact (a.3 i e).2
  ·right; have:=a.1; omega
theorem Step.more {h h':Hp} {S S':List Nat} (a:Step h h' S S') (T:List Nat) (ht:∀ b,b∈T→b < h.next):Step h h' (S++T) (S'++T):=by
 refine ⟨a.1,λ b hb hs=>a.2 b hb (λ e=>hs (by simp [e])),λ b hb=>?_,a.4⟩
 rcases List.mem_append.1 hb with e | e
 ·exact ⟨(a.3 b e).1,by rcases (a.3 b e).2 with q | q <;> simp [q]⟩
 ·exact ⟨by have:=ht b e; have:=a.1; omega,by simp [e]⟩
theorem Step.weaken {h h':Hp} {S S' T T':List Nat} (a:Step h h' S S') (hS:∀ b,b∈S→b∈T∨h.next≤b) (hS':∀ b,b∈T'→b∈S'∨(b∈T∧b < h.next)):Step h h' T T':=by
 refine ⟨a.1,λ b hb hs=>a.2 b hb (λ e=>by rcases hS b e with q | q; exact hs q; omega),λ b hb=>?_,a.4⟩
 rcases hS' b hb with e | ⟨e,f⟩
 ·exact ⟨(a.3 b e).1,by rcases (a.3 b e).2 with q | q; exact hS b q; exact .inr q⟩
 ·exact ⟨by have:=a.1; omega,.inl e⟩
theorem Step.put {h h':Hp} {S S':List Nat} (a:Step h h' S S') {p:Nat} (hp:p∈S') (cs:List Value):Step h (h'.put p cs) S S':=by
 refine ⟨a.1,λ b hb hs=>?_,λ b hb=>a.3 b hb,a.4⟩
 have:b≠p:=by
  rintro rfl
  rcases (a.3 b hp).2 with e | e
  ·exact hs e
  ·omega
 simpa [this] using a.2 b hb hs
theorem Step.new {h h':Hp} {S S':List Nat} (a:Step h h' S S') (cs:List Value) (s:Nat):Step h (h'.new cs s) S (h'.next :: S'):=by
 refine ⟨by have:=a.1; simp; omega,λ b hb hs=>?_,λ b hb=>?_,a.4⟩
 ·have:b≠h'.next:=by have:=a.1; omega
  simpa [this] using a.2 b hb hs
 ·rcases List.mem_cons.1 hb with rfl | hb
  ·exact ⟨by simp,.inr a.1⟩
  ·exact ⟨by have:=(a.3 b hb).1; simp; omega,(a.3 b hb).2⟩
theorem Step.newD {h h':Hp} {S S':List Nat} (a:Step h h' S S') (cs:List Value) (s:Nat):Step h (h'.newD cs s) S (h'.next :: S'):=⟨(a.new cs s).1,(a.new cs s).2,(a.new cs s).3,(a.new cs s).4⟩
theorem Step.less {h h':Hp} {S S' T:List Nat} (a:Step h h' S S') (hT:∀ b,b∈T→b∈S'):Step h h' S T:=⟨a.1,a.2,λ b hb=>a.3 b (hT b hb),a.4⟩
theorem Step.wide {h h':Hp} {S S' T T':List Nat} (a:Step h h' S S') (hS:∀ b,b∈S→b∈T) (hT:∀ b,b∈T'→b∈S'∨(b∈T∧b < h.next)):Step h h' T T' :=
 a.weaken (λ b hb=>.inl (hS b hb)) hT
def Vec (w0:World) (h:Hp) (s:Nat) (x:Value) (n:Nat) (cs:List Value) (S:List Nat):Prop:=
 (x=.slice none 0 0∧n=0∧cs=[]∧S=[]) ∨
 ∃ q,x=.slice (some ⟨q,0,none⟩) n q0b∧S=[q]∧w0.heap.size≤q∧q < h.next∧h.blk q=some cs∧h.esz q=s∧cs.length=n * s
section
variable {w0:World} {h h':Hp} {s n:Nat} {x:Value} {cs:List Value} {S:List Nat}
theorem Vec.nil:Vec w0 h s (.slice none 0 0) 0 [] []:=.inl ⟨rfl,rfl,rfl,rfl⟩
theorem Vec.lt (v:Vec w0 h s x n cs S):∀ b,b∈S→w0.heap.size≤b∧b < h.next:=by
 rcases v with ⟨-,-,-,rfl⟩ | ⟨q,-,rfl,a,b,-⟩
 ·intro b hb; simp at hb
 ·intro c hc; simp at hc; subst hc; exact ⟨a,b⟩
theorem Vec.slice (v:Vec w0 h s x n cs S):∃ a c,x=.slice a n c:=by
 rcases v with ⟨rfl,rfl,-⟩ | ⟨q,rfl,-⟩ <;> exact ⟨_,_,rfl⟩
theorem Vec.len (v:Vec w0 h s x n cs S):cs.length=n * s:=by
 rcases v with ⟨-,rfl,rfl,-⟩ | ⟨q,-,-,-,-,-,-,e⟩ <;> simp [*]
theorem Vec.src (v:Vec w0 h s x n cs S):Src w0.heap.size h s x n cs:=by
 rcases v with ⟨rfl,rfl,rfl,-⟩ | ⟨q,rfl,-,a,b,c,-,e⟩
 ·simp [Src]
 ·unfold Src
  refine ⟨Nat.le_refl _,?_⟩
  by_cases hn:n=0
  ·subst hn; left; exact ⟨rfl,List.eq_nil_of_length_eq_zero (by simpa using e)⟩
  ·right
   refine ⟨by omega,_,rfl,?_,λ hlt=>by simp at hlt; omega⟩
   simp [c,← e]
theorem Vec.frame (v:Vec w0 h s x n cs S) {T T':List Nat} (st:Step h h' T T') (hd:∀ b,b∈S→b∉T):Vec w0 h' s x n cs S:=by
 rcases v with ⟨rfl,rfl,rfl,rfl⟩ | ⟨q,rfl,rfl,a,b,c,d,e⟩
 ·exact .nil
 ·obtain ⟨k1,k2⟩:=st.keep q b (hd q (by simp))
  exact .inr ⟨q,rfl,rfl,a,by have:=st.1; omega,by rw [k1]; exact c,by rw [k2]; exact d,e⟩
theorem Vec.put (v:Vec w0 h s x n cs S) {p:Nat} (hp:p∉S) (c:List Value):Vec w0 (h.put p c) s x n cs S:=by
 rcases v with ⟨rfl,rfl,rfl,rfl⟩ | ⟨q,rfl,rfl,a,b,d,e,f⟩
 ·exact .nil
 ·have:q≠p:=by rintro rfl; simp at hp
  exact .inr ⟨q,rfl,rfl,a,b,by simpa [this] using d,e,f⟩
theorem Vec.new (v:Vec w0 h s x n cs S) (c:List Value) (k:Nat):Vec w0 (h.new c k) s x n cs S:=by
 rcases v with ⟨rfl,rfl,rfl,rfl⟩ | ⟨q,rfl,rfl,a,b,d,e,f⟩
 ·exact .nil
 ·have:q≠h.next:=by omega
  exact .inr ⟨q,rfl,rfl,a,by simp; omega,by simpa [this] using d,by simpa [this] using e,f⟩
theorem qwp (B:Nat) (s:ByteArray):Src B h 1 (.string s) s.size (bvs s.data.toList):=by
 refine ⟨rfl,Nat.le_refl _,?_⟩
 rw [size_eq,List.take_length]
 rfl
theorem q7e {q o c:Nat} (hq:w0.heap.size≤q) (hb:h.blk q=some cs) (hl:o + n * s≤cs.length):Src w0.heap.size h s (.slice (some ⟨q,o,none⟩) n c) n ((cs.drop o).take (n * s)):=by
 unfold Src
 refine ⟨Nat.le_refl _,?_⟩
 by_cases hn:n=0
 ·subst hn; left; simp
 ·right; exact ⟨by omega,_,rfl,by simp [hb,hl],λ hlt=>by simp at hlt; omega⟩
theorem q96 {q c:Nat} (hq:w0.heap.size≤q) (hb:h.blk q=some cs) (e:cs.length=n * s):Src w0.heap.size h s (.slice (some ⟨q,0,none⟩) n c) n cs:=by
 have:=q7e (w0:=w0) (h:=h) (s:=s) (n:=n) (o:=0) (c:=c) hq hb (by simp [e])
 rw [List.drop_zero,← e,List.take_length] at this
 exact this
theorem q3h {k:Nat} {c:Nat} (hf:w0.heap.size≤h.next) (e:cs.length=n * s):Src w0.heap.size (h.new cs k) s (.slice (some ⟨h.next,0,none⟩) n c) n cs:=by
 have:=q7e (w0:=w0) (h:=h.new cs k) (s:=s) (n:=n) (o:=0) (c:=c) hf (cs:=cs) (by simp) (by simp [e])
 rw [List.drop_zero,← e,List.take_length] at this
 exact this
theorem q3g {by_ m:Nat} {y:Value} {ys:List Value} {K:qh} (hf:w0.heap.size≤h.next) (v:Vec w0 h s x n cs S) (hl:lenA y=some m) (hs:Src w0.heap.size h s y m ys)
  (hys:ys.length=m * s) (hb:(n + m) * by_≤140737488355328) (hn:n + m≤140737488355328) (hs0:0 < s)
  (hk:∀ x' h' S',Vec w0 h' s x' (n + m) (cs++ys) S'→Step h h' S S'→K x' h'):q0h w0 s by_ x y K h:=by
 refine .mk m hl (λ hm=>⟨?_,?_⟩) (λ hm=>?_)
 ·obtain ⟨a,c,rfl⟩:=v.slice; exact ⟨_,_,_,rfl⟩
 ·subst hm
  have:ys=[]:=List.eq_nil_of_length_eq_zero (by simpa using hys)
  subst this
  exact hk x h S (by simpa using v) (.refl _ _ λ b hb=>(v.lt b hb).2)
 ·rcases v with ⟨rfl,rfl,rfl,rfl⟩ | ⟨q,rfl,rfl,a,b,c,d,e⟩
  ·refine ⟨0,[],ys,h,by simp [Dst],hs,hb,hn,?_⟩
   refine hk _ _ [h.next] (.inr ⟨h.next,rfl,rfl,hf,by simp,by simp,by simp,by simpa using hys⟩) ⟨by simp,λ b hb _=>?_,λ b hb=>?_,rfl⟩
   ·have:b≠h.next:=by omega
    simp [this]
   ·simp at hb; subst hb; simp
  ·refine ⟨n,cs,ys,h.kill q,?_,hs,hb,hn,?_⟩
   ·simp only [Dst]
    refine ⟨trivial,?_,?_⟩
    ·by_cases h0:n=0
     ·left; subst h0; exact ⟨rfl,List.eq_nil_of_length_eq_zero (by simpa using e)⟩
     ·right; exact ⟨by omega,by simp [c,← e],λ hlt=>by omega⟩
    ·rw [if_neg (by omega)]; simp [c,d]
   ·refine hk _ _ [h.next] (.inr ⟨h.next,rfl,rfl,hf,by simp,by simp,by simp,by rw [List.length_append,e,hys,Nat.add_mul]⟩) ⟨by simp,λ b' hb' hq=>?_,λ b' hb'=>?_,rfl⟩
    ·have:b'≠h.next:=by omega
     have h2:b'≠q:=by simpa using hq
     simp [this,h2]
    ·simp at hb'; subst hb'; simp
theorem q7d {a:Option Addr} {c:Nat} {l:List UInt8} {K:qh} (hs:Src w0.heap.size h 1 (.slice a n c) n (bvs l)) (hk:K (.string (str l)) h):q1z w0 (.slice a n c) K h:=by
 refine ⟨a,n,c,l.map λ b=>(b.toNat:Int),rfl,?_,?_⟩
 ·have:(l.map λ b=>(b.toNat:Int)).map (λ q:Int=>(.int .u8 q:Value))=bvs l:=by simp [bvs,bv]
  rw [this]; exact hs
 ·have:(l.map λ b=>(b.toNat:Int)).map (λ q:Int=>UInt8.ofNat q.toNat)=l:=by
   rw [List.map_map]
   conv=>rhs; rw [← List.map_id l]
   congr 1
   funext b
   simp
  rw [this]; exact hk
theorem Vec.b2s {l:List UInt8} {K:qh} (v:Vec w0 h 1 x n (bvs l) S) (hk:K (.string (str l)) h):q1z w0 x K h:=by
 obtain ⟨a,c,rfl⟩:=v.slice
 exact q7d v.src hk
end
end
end Go.Proofs.YtfmoemconapmhaaGreat.Ah
