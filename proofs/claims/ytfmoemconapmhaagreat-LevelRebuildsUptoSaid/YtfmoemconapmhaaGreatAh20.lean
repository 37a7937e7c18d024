/- The words' lemmas as equations of functions (they hold under a binder too); reading out of sources. -/
import Derived.Test.YtfmoemconapmhaaGreatAhg
set_option linter.all false
namespace Go.Proofs.YtfmoemconapmhaaGreat.Ah
open Go
section
variable {P:Program} {w0:World}
theorem qyd (v:Value):qc (λ K=>K v)=λ K=>K v:=by funext K h; exact propext (q0me v)
theorem qvc (o:Option Value):qc (qb o)=qb o:=by funext K h; exact propext (q0eu o)
theorem q0fx (x:Value):qc (q02 x)=q02 x:=by funext K h; exact propext (q0gs x)
theorem q0f8 (x:Value) (n:Nat):qc (qk x n)=qk x n:=by funext K h; exact propext (q0hk x n)
theorem q0eh (c a b:Value):qc (q0a c a b)=q0a c a b:=by funext K h; exact propext (q0fi c a b)
theorem q0cm (s:Nat) (x i:Value):qc (q04 s x i)=q04 s x i:=by funext K h; exact propext (q0eg s x i)
theorem qka (l s:Nat) (x i:Value):qc (q3i l s x i)=q3i l s x i:=by funext K h; exact propext (q0dn l s x i)
theorem q0e0 (op:BinOp) (T:TypeId) (x y:Value):qc (q9r P op T x y)=q9r P op T x y:=by funext K h; exact propext (q0em op T x y)
theorem q0ck (x:Value) (want:Bool) (m:qh→Hp→Prop):qc (qe x want m)=qe x want (qc m):=by funext K h; exact propext (q0di x want m)
theorem q0d8 (x:Value) (want:Bool) (m:qh→Hp→Prop):qz (qe x want m)=qe x want (qz m):=by funext K h; exact propext (q0e9 x want m)
theorem q0lm (v:Value):qz (λ K=>K v)=λ K=>K v:=by funext K h; exact propext (q0nj v)
theorem q0du (x:Value):qz (qg w0 x)=qg w0 x:=by funext K h; exact propext (q0ex x)
theorem q0d3 (x:Value) (n:Nat):qz (qw w0 x n)=qw w0 x n:=by funext K h; exact propext (q0dx x n)
theorem qvt (x:Value):qz (q1z w0 x)=q1z w0 x:=by funext K h; exact propext (q0gn x)
theorem q00l (k:Hp→Prop):q0y k=k:=by funext h; exact propext (q0kk k)
theorem q0io (k:Hp→Prop):q0d [k]=k:=by funext h; exact propext (q32 k)
theorem q0f1 (k:Hp→Prop):q0c [] k=k:=by funext h; simp
theorem q0eq (v:Value) (K:qh):qb (some v) K=K v:=by funext h; exact propext (q1a v)
variable {h:Hp} {K:qh}
theorem q0il {a:Option Addr} {m c n i:Nat} {k:IntKind} {ys:List Value} {v:Value} (hs:Src w0.heap.size h 1 (.slice a m c) n ys) (hn:ys.length=n) (hi:ys[i]?=some v) (hk:K v h):
  q04 1 (.slice a m c) (.int k (i:Int)) (λ p=>qg w0 p K) h:=by
 have hin:i < ys.length:=(List.getElem?_eq_some_iff.1 hi).1
 obtain ⟨hm,hs⟩:=hs
 rcases hs with ⟨rfl,rfl⟩ | ⟨h0,ad,rfl,hg,hcl⟩
 ·simp at hi
 ·refine ⟨ad,m,c,k,i,rfl,rfl,by omega,by omega,?_⟩
  obtain ⟨hsp,cs,hb,hle,hv⟩:=Hp.getN_some hg
  obtain ⟨b,o,sp⟩:=ad
  simp only at hsp hb hle hv
  subst hsp
  have hlt:b < w0.heap.size→Cl w0.heap.size v:=λ hb=>(hcl hb v (List.mem_of_getElem? hi)).1
  rw [addr_add,Int.toNat_natCast,Nat.mul_one]
  refine ⟨_,v,rfl,?_,hlt,hk⟩
  rw [q002,hb,Option.bind_some]
  rw [hv,List.getElem?_take] at hi
  split at hi
  ·rwa [List.getElem?_drop] at hi
  ·simp at hi
theorem q97 {a:Option Addr} {m c n s i:Nat} {k:IntKind} {ys:List Value} (hs:Src w0.heap.size h s (.slice a m c) n ys) (hi:i < n) (hk:K (.agg ((ys.drop (i * s)).take s).toArray) h):
  q04 s (.slice a m c) (.int k (i:Int)) (λ p=>qw w0 p s K) h:=by
 obtain ⟨hm,hs⟩:=hs
 rcases hs with ⟨rfl,rfl⟩ | ⟨h0,ad,rfl,hg,hcl⟩
 ·omega
 ·refine ⟨ad,m,c,k,i,rfl,rfl,by omega,by omega,?_⟩
  obtain ⟨hsp,cs,hb,hle,hv⟩:=Hp.getN_some hg
  obtain ⟨b,o,sp⟩:=ad
  simp only at hsp hb hle hv
  subst hsp
  have hms:(i + 1) * s≤n * s:=Nat.mul_le_mul_right _ hi
  rw [Nat.add_mul,Nat.one_mul] at hms
  rw [addr_add,Int.toNat_natCast]
  refine ⟨_,(ys.drop (i * s)).take s,rfl,?_,λ hb v hv=>hcl hb v (List.mem_of_mem_drop (List.mem_of_mem_take hv)),hk⟩
  rw [q6e,hb,Option.bind_some,if_pos (by omega),hv]
  congr 1
  rw [List.drop_take,List.take_take,Nat.min_eq_left (by omega),List.drop_drop]
end
end Go.Proofs.YtfmoemconapmhaaGreat.Ah
