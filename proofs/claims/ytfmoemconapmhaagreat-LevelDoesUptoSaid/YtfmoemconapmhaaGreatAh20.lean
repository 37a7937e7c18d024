/- The words' lemmas as equations of functions (they hold under a binder too); reading out of sources. -/
import Derived.Test.YtfmoemconapmhaaGreatAhg
set_option linter.all false
namespace Go.Proofs.YtfmoemconapmhaaGreat.Ah
open Go
section
variable {P:Program}{w0:World}
theorem Gw(v:Value):af (λK=>K v)=λK=>K v:=by funext K h;exact propext (Bt v)
theorem Gx(o:Option Value):af (aa o)=aa o:=by funext K h;exact propext (wM o)
theorem Vj(x:Value):af (aF x)=aF x:=by funext K h;exact propext (Zx x)
theorem Vg(x:Value)(n:Nat):af (au x n)=au x n:=by funext K h;exact propext (Zt x n)
theorem Vk(c a b:Value):af (aQ c a b)=aQ c a b:=by funext K h;exact propext (Zy c a b)
theorem Vi(s:Nat)(x i:Value):af (aJ s x i)=aJ s x i:=by funext K h;exact propext (Zw s x i)
theorem zn(l s:Nat)(x i:Value):af (ik l s x i)=ik l s x i:=by funext K h;exact propext (Zv l s x i)
theorem Vh(x:Value)(want:Bool)(m:av→Hp→Prop):af (ai x want m)=ai x want (af m):=by funext K h;exact propext (Zu x want m)
theorem Vm(x:Value)(want:Bool)(m:av→Hp→Prop):aD (ai x want m)=ai x want (aD m):=by funext K h;exact propext (aab x want m)
theorem Vn(v:Value):aD (λK=>K v)=λK=>K v:=by funext K h;exact propext (aac v)
theorem Vo(x:Value):aD (al w0 x)=al w0 x:=by funext K h;exact propext (aad x)
theorem Vp(x:Value)(n:Nat):aD (aG w0 x n)=aG w0 x n:=by funext K h;exact propext (aae x n)
theorem Gy(x:Value):aD (dW w0 x)=dW w0 x:=by funext K h;exact propext (aaa x)
theorem F1(k:Hp→Prop):bN k=k:=by funext h;exact propext (yR k)
theorem SW(k:Hp→Prop):aO [k]=k:=by funext h;exact propext (dL k)
theorem Vr(k:Hp→Prop):aP [] k=k:=by funext h;simp
theorem Vf(v:Value)(K:av):aa (some v) K=K v:=by funext h;exact propext (bR v)
variable {h:Hp}{K:av}
theorem VC{a:Option Addr}{m c n i:Nat}{k:IntKind}{ys:List Value}{v:Value}(hs:Src w0.heap.size h 1 (.slice a m c) n ys)(hn:ys.length=n)(hi:ys[i]?=some v)(hk:K v h):
  aJ 1 (.slice a m c) (.int k (i:Int)) (λp=>al w0 p K) h:=by
 have hin:i<ys.length:=(cB.1 hi).1
 obtain ⟨hm,hs⟩:=hs
 rcases hs with ⟨rfl,rfl⟩|⟨h0,ad,rfl,hg,hcl⟩
 ·simp at hi
 ·refine ⟨ad,m,c,k,i,rfl,rfl,by omega,by omega,?_⟩
  obtain ⟨hsp,cs,hb,hle,hv⟩:=Hp.getN_some hg
  obtain ⟨b,o,sp⟩:=ad
  simp only at hsp hb hle hv
  subst hsp
  have hlt:b<w0.heap.size→Cl w0.heap.size v:=λhb=>(hcl hb v (cK hi)).1
  rw[addr_add,fN,mt]
  refine ⟨_,v,rfl,?_,hlt,hk⟩
  rw[G0,hb,je]
  rw[hv,gS]at hi
  split at hi
  ·rwa [iG]at hi
  ·simp at hi
theorem oT{a:Option Addr}{m c n s i:Nat}{k:IntKind}{ys:List Value}(hs:Src w0.heap.size h s (.slice a m c) n ys)(hi:i<n)(hk:K (.agg ((ys.drop (i*s)).take s).toArray) h):
  aJ s (.slice a m c) (.int k (i:Int)) (λp=>aG w0 p s K) h:=by
 obtain ⟨hm,hs⟩:=hs
 rcases hs with ⟨rfl,rfl⟩|⟨h0,ad,rfl,hg,hcl⟩
 ·omega
 ·refine ⟨ad,m,c,k,i,rfl,rfl,by omega,by omega,?_⟩
  obtain ⟨hsp,cs,hb,hle,hv⟩:=Hp.getN_some hg
  obtain ⟨b,o,sp⟩:=ad
  simp only at hsp hb hle hv
  subst hsp
  have hms:(i+1)*s≤n*s:=jy _ hi
  rw[fW,nw]at hms
  rw[addr_add,fN]
  refine ⟨_,(ys.drop (i*s)).take s,rfl,?_,λhb v hv=>hcl hb v (jJ (jb hv)),hk⟩
  rw[lF,hb,je,if_pos (by omega),hv]
  congr 1
  rw[nn,tU,kx (by omega),mf]
end
