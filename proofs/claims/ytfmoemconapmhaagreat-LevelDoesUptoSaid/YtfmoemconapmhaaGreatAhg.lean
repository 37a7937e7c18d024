/- The words' lemmas: what is left to show of each when its operands are known. -/
import Derived.Test.YtfmoemconapmhaaGreatAhf
import Derived.IntWalk
set_option linter.all false
namespace Go.Proofs.YtfmoemconapmhaaGreat.Ah
open Go
theorem wrS{α:Type}(l:List α)(x:α)(h:l.length≤9223372036854775806):IntKind.i64.wrap ((l.length:Int)+1)=(((l++[x]).length:Nat):Int):=by
 rw[bM _ (by omega)];simp
theorem wrN(i:Nat)(h:i≤9223372036854775806):IntKind.i64.wrap ((i:Int)+1)=((i+1:Nat):Int):=by
 rw[bM _ (by omega)];simp
section
structure Fit(w0:World)(h:Hp):Prop where
 base:w0.heap.size≤h.next
 ext:∀i,i<w0.heap.size→h.blk i=sg w0 i
 lt:∀b cs,h.blk b=some cs→b<h.next
 cell:∀b cs,w0.heap.size≤b→h.blk b=some cs→∀v,v∈cs→aE v=true
 lps:∀b x,h.lp b=some x→w0.heap.size≤b∧b<h.next
 um:∀b cs,w0.heap.size≤b→h.blk b=some cs→h.um b=true→cs.all fj=true
theorem aR.fit{w0:World}{ι:Inj}{h:Hp}{w:World}(r:aR w0 ι h w):Fit w0 h:=by
 refine ⟨r.base,r.exta,λb cs e=>?_,λb cs hb e=>(r.live b cs hb e).cell,λb x e=>⟨(r.loops.row b x.1 x.2 e).2.1,(r.loops.row b x.1 x.2 e).1⟩,λb cs hb e hu=>iF.2 ((r.live b cs hb e).um hu).1⟩
 by_cases hb:w0.heap.size≤b
 ·exact (r.live b cs hb e).lt
 ·have:=r.base;omega
theorem aj.fit{P:Program}{w0:World}{f:FuncId}{args:List Value}{h:Hp}{R:av}(c:aj P w0 f args h λv h'=>Fit w0 h'→R v h'):aj P w0 f args h R:=
 ⟨c.1,λι w args' r v=>(c.2 ι w args' r v).mono λe w' ⟨v',ι',h',v,a,b,c,d,e⟩=>⟨v',ι',h',v,a,b,c,d,e c.fit⟩⟩
theorem aj.of_fit{P:Program}{w0:World}{f:FuncId}{args:List Value}{h:Hp}{R:av}(hj:∀v,v∈args→v≠junk)(c:Fit w0 h→aj P w0 f args h R):aj P w0 f args h R:=
 ⟨hj,λι w args' r v=>(c r.fit).2 ι w args' r v⟩
theorem aA{P:Program}{w0:World}{f:FuncId}{args:List Value}{h:Hp}{R K:av}(c:aj P w0 f args h R)(hk:∀v h',R v h'→Fit w0 h'→K v h'):am P w0 f args K h:=
 aj.fit (c.mono λv h' r f=>hk v h' r f)
@[simp] theorem cX(h:Hp)(b:Nat)(c:List Value)(i:Nat):(h.put b c).blk i=if i=b then some c else h.blk i:=rfl
@[simp] theorem afz(h:Hp)(b:Nat)(c:List Value):(h.put b c).lp=h.lp:=rfl
@[simp] theorem afq(h:Hp)(c:List Value)(s:Nat):(h.new c s).lp=h.lp:=rfl
@[simp] theorem aff(h:Hp)(b:Nat):(h.kill b).lp=h.lp:=rfl
@[simp] theorem af0(h:Hp)(b:Nat)(c:List Value):(h.put b c).next=h.next:=rfl
@[simp] theorem afy(h:Hp)(b:Nat)(c:List Value):(h.put b c).esz=h.esz:=rfl
@[simp] theorem iq(h:Hp)(c:List Value)(s:Nat)(i:Nat):(h.new c s).blk i=if i=h.next then some c else h.blk i:=rfl
@[simp] theorem tj(h:Hp)(c:List Value)(s:Nat):(h.new c s).next=h.next+1:=rfl
@[simp] theorem Iy(h:Hp)(c:List Value)(s:Nat)(i:Nat):(h.new c s).esz i=if i=h.next then s else h.esz i:=rfl
@[simp] theorem afm(h:Hp)(c:List Value)(s:Nat):(h.newD c s).lp=h.lp:=rfl
@[simp] theorem afk(h:Hp)(c:List Value)(s:Nat)(i:Nat):(h.newD c s).blk i=if i=h.next then some c else h.blk i:=rfl
@[simp] theorem afn(h:Hp)(c:List Value)(s:Nat):(h.newD c s).next=h.next+1:=rfl
@[simp] theorem afl(h:Hp)(c:List Value)(s:Nat)(i:Nat):(h.newD c s).esz i=if i=h.next then s else h.esz i:=rfl
@[simp] theorem afd(h:Hp)(b:Nat)(i:Nat):(h.kill b).blk i=if i=b then none else h.blk i:=rfl
@[simp] theorem afg(h:Hp)(b:Nat):(h.kill b).next=h.next:=rfl
@[simp] theorem afe(h:Hp)(b:Nat):(h.kill b).esz=h.esz:=rfl
@[simp] theorem G0(h:Hp)(b o:Nat):h.get ⟨b,o,none⟩=(h.blk b).bind (·[o]?):=rfl
@[simp] theorem lF(h:Hp)(b o n:Nat):h.getN ⟨b,o,none⟩ n=(h.blk b).bind λc=>if o+n≤c.length then some ((c.drop o).take n) else none:=rfl
@[simp] theorem addr_add(b o n:Nat):(⟨b,o,none⟩:Addr).add n=⟨b,o+n,none⟩:=by
 unfold Addr.add
 split
 ·rename_i e;subst e;rfl
 ·rfl
section
variable {P:Program}{w0:World}{K:av}{h:Hp}
@[simp] theorem bR(v:Value):aa (some v) K h↔K v h:=by simp[aa]
@[simp] theorem afv:aa none K h↔False:=by simp[aa]
@[simp] theorem Bt(v:Value):af (λK=>K v) K h↔K v h:=by
 constructor
 ·rintro ⟨v',e,k⟩;obtain ⟨rfl,-⟩:=e h;exact k
 ·intro k;exact ⟨v,λh0=>⟨rfl,rfl⟩,k⟩
@[simp] theorem wM(o:Option Value):af (aa o) K h↔aa o K h:=by
 constructor
 ·rintro ⟨v',e,k⟩;obtain ⟨v,rfl,rfl,-⟩:=e h;exact ⟨_,rfl,k⟩
 ·rintro ⟨v,rfl,k⟩;exact ⟨v,λh0=>⟨v,rfl,rfl,rfl⟩,k⟩
@[simp] theorem YI(a:Addr):aF (.pointer (some a)) K h↔K (.pointer (some a)) h:=by simp[aF]
@[simp] theorem afr(f:FuncId)(a b:Array Value):aF (.func (.func f) a b) K h↔K (.func (.func f) a b) h:=by simp[aF]
@[simp] theorem MW(a:Addr)(n:Nat):au (.pointer (some a)) n K h↔K (.pointer (some (a.add n))) h:=by simp[au]
@[simp] theorem afs(q:Bool)(a b:Value):aQ (.bool q) a b K h↔K (bif q then a else b) h:=by simp[aQ]
@[simp] theorem aev(q:Bool)(x y:Hp→Prop):aB (.bool q) x y h↔(q=true→x h)∧(q=false→y h):=by simp[aB]
@[simp] theorem ae2(q want:Bool)(m:av→Hp→Prop):ai (.bool q) want m K h↔(q=want→m K h)∧(q≠want→K undef h):=by
 constructor
 ·rintro ⟨a,b,c⟩;exact ⟨λe=>b (by rw[e]),λe=>c (by simpa using e)⟩
 ·rintro ⟨b,c⟩;exact ⟨by simp[junk],λe=>b (by simpa using e),λe=>c (by simpa using e)⟩
theorem eF(x y:Hp→Prop):aB (.bool true) x y h↔x h:=by simp
theorem eQ(x y:Hp→Prop):aB (.bool false) x y h↔y h:=by simp
theorem oP(m:av→Hp→Prop):ai (.bool true) true m K h↔m K h:=by simp
theorem oN(m:av→Hp→Prop):ai (.bool false) false m K h↔m K h:=by simp
theorem sE(m:av→Hp→Prop):ai (.bool true) false m K h↔K undef h:=by simp
theorem oO(m:av→Hp→Prop):ai (.bool false) true m K h↔K undef h:=by simp
theorem kg(a b:Value):aQ (.bool true) a b K h↔K a h:=by simp
theorem jp(a b:Value):aQ (.bool false) a b K h↔K b h:=by simp
@[simp] theorem V6(want:Bool)(m:av→Hp→Prop):ai undef want m K h↔K undef h:=by
 constructor
 ·rintro ⟨a,b,c⟩;exact c (by simp[undef])
 ·intro c;exact ⟨by simp[junk,undef],λe=>absurd e (by simp[undef]),λ_=>c⟩
@[simp] theorem Zx(x:Value):af (aF x) K h↔aF x K h:=by
 constructor
 ·rintro ⟨v',e,k⟩;obtain ⟨g,rfl,-⟩:=e h;exact ⟨g,k⟩
 ·rintro ⟨g,k⟩;exact ⟨x,λh0=>⟨g,rfl,rfl⟩,k⟩
@[simp] theorem Zt(x:Value)(n:Nat):af (au x n) K h↔au x n K h:=by
 constructor
 ·rintro ⟨v',e,k⟩;obtain ⟨a,rfl,rfl,-⟩:=e h;exact ⟨a,rfl,k⟩
 ·rintro ⟨a,rfl,k⟩;exact ⟨_,λh0=>⟨a,rfl,rfl,rfl⟩,k⟩
@[simp] theorem Zy(c a b:Value):af (aQ c a b) K h↔aQ c a b K h:=by
 constructor
 ·rintro ⟨v',e,k⟩;obtain ⟨q,rfl,rfl,-⟩:=e h;exact ⟨q,rfl,k⟩
 ·rintro ⟨q,rfl,k⟩;exact ⟨_,λh0=>⟨q,rfl,rfl,rfl⟩,k⟩
@[simp] theorem Zw(s:Nat)(x i:Value):af (aJ s x i) K h↔aJ s x i K h:=by
 constructor
 ·rintro ⟨v',e,k⟩;obtain ⟨ad,n,c,kk,j,rfl,rfl,a,b,rfl,-⟩:=e h;exact ⟨ad,n,c,kk,j,rfl,rfl,a,b,k⟩
 ·rintro ⟨ad,n,c,kk,j,rfl,rfl,a,b,k⟩;exact ⟨_,λh0=>⟨ad,n,c,kk,j,rfl,rfl,a,b,rfl,rfl⟩,k⟩
@[simp] theorem Zv(l s:Nat)(x i:Value):af (ik l s x i) K h↔ik l s x i K h:=by
 constructor
 ·rintro ⟨v',e,k⟩;obtain ⟨ad,kk,j,rfl,rfl,a,b,rfl,-⟩:=e h;exact ⟨ad,kk,j,rfl,rfl,a,b,k⟩
 ·rintro ⟨ad,kk,j,rfl,rfl,a,b,k⟩;exact ⟨_,λh0=>⟨ad,kk,j,rfl,rfl,a,b,rfl,rfl⟩,k⟩
@[simp] theorem afx(f:FuncId)(a c:List Value):af (jW f a c) K h↔jW f a c K h:=by
 constructor
 ·rintro ⟨v',e,k⟩;obtain ⟨g,rfl,-⟩:=e h;exact ⟨g,k⟩
 ·rintro ⟨g,k⟩;exact ⟨_,λh0=>⟨g,rfl,rfl⟩,k⟩
@[simp] theorem afw(op:BinOp)(T:TypeId)(x y:Value):af (yW P op T x y) K h↔yW P op T x y K h:=by
 constructor
 ·rintro ⟨v',e,k⟩;obtain ⟨xs,ys,q,a,b,c,d,f,g,rfl,-⟩:=e h;exact ⟨xs,ys,q,a,b,c,d,f,g,k⟩
 ·rintro ⟨xs,ys,q,a,b,c,d,f,g,k⟩;exact ⟨_,λh0=>⟨xs,ys,q,a,b,c,d,f,g,rfl,rfl⟩,k⟩
@[simp] theorem Zu(x:Value)(want:Bool)(m:av→Hp→Prop):af (ai x want m) K h↔ai x want (af m) K h:=by
 by_cases hx:x=.bool want
 ·constructor
  ·rintro ⟨v',e,k⟩;exact ⟨(e h).1,λ_=>⟨v',λh0=>(e h0).2 hx,k⟩,λg=>absurd hx g⟩
  ·rintro ⟨a,b,c⟩;obtain ⟨v,e,k⟩:=b hx;exact ⟨v,λh0=>⟨a,λ_=>e h0,λg=>absurd hx g⟩,k⟩
 ·constructor
  ·rintro ⟨v',e,k⟩;have:=(e h).3 hx;obtain ⟨rfl,-⟩:=this;exact ⟨(e h).1,λg=>absurd g hx,λ_=>k⟩
  ·rintro ⟨a,b,c⟩;exact ⟨undef,λh0=>⟨a,λg=>absurd g hx,λ_=>⟨rfl,rfl⟩⟩,c hx⟩
@[simp] theorem aab(x:Value)(want:Bool)(m:av→Hp→Prop):aD (ai x want m) K h↔ai x want (aD m) K h:=by
 by_cases hx:x=.bool want
 ·constructor
  ·rintro ⟨v',e,k⟩;exact ⟨e.1,λ_=>⟨v',e.2 hx,k⟩,λg=>absurd hx g⟩
  ·rintro ⟨a,b,c⟩;obtain ⟨v,e,k⟩:=b hx;exact ⟨v,⟨a,λ_=>e,λg=>absurd hx g⟩,k⟩
 ·constructor
  ·rintro ⟨v',e,k⟩;obtain ⟨rfl,-⟩:=e.3 hx;exact ⟨e.1,λg=>absurd g hx,λ_=>k⟩
  ·rintro ⟨a,b,c⟩;exact ⟨undef,⟨a,λg=>absurd g hx,λ_=>⟨rfl,rfl⟩⟩,c hx⟩
@[simp] theorem aad(x:Value):aD (al w0 x) K h↔al w0 x K h:=by
 constructor
 ·rintro ⟨v',e,k⟩;obtain ⟨ad,v,rfl,a,b,rfl,-⟩:=e;exact ⟨ad,_,rfl,a,b,k⟩
 ·rintro ⟨ad,v,rfl,a,b,k⟩;exact ⟨v,⟨ad,v,rfl,a,b,rfl,rfl⟩,k⟩
@[simp] theorem aae(x:Value)(n:Nat):aD (aG w0 x n) K h↔aG w0 x n K h:=by
 constructor
 ·rintro ⟨v',e,k⟩;obtain ⟨ad,v,rfl,a,b,rfl,-⟩:=e;exact ⟨ad,_,rfl,a,b,k⟩
 ·rintro ⟨ad,v,rfl,a,b,k⟩;exact ⟨_,⟨ad,v,rfl,a,b,rfl,rfl⟩,k⟩
@[simp] theorem aaa(x:Value):aD (dW w0 x) K h↔dW w0 x K h:=by
 constructor
 ·rintro ⟨v',e,k⟩;obtain ⟨a,n,c,ys,rfl,s,rfl,-⟩:=e;exact ⟨a,n,c,ys,rfl,s,k⟩
 ·rintro ⟨a,n,c,ys,rfl,s,k⟩;exact ⟨_,⟨a,n,c,ys,rfl,s,rfl,rfl⟩,k⟩
@[simp] theorem aac(v:Value):aD (λK=>K v) K h↔K v h:=by
 constructor
 ·rintro ⟨v',⟨rfl,-⟩,k⟩;exact k
 ·intro k;exact ⟨v,⟨rfl,rfl⟩,k⟩
@[simp] theorem yR(k:Hp→Prop):bN k h↔k h:=by simp[bN]
@[simp] theorem yi:aO [] h↔True:=jG
@[simp] theorem dL(k:Hp→Prop):aO [k] h↔k h:=by simp[aO]
@[simp] theorem eX(k k2:Hp→Prop)(l:List (Hp→Prop)):aO (k::k2::l) h↔k h∧aO (k2::l) h:=jG
@[simp] theorem dU(G:List (Hp→Prop))(k:Hp→Prop):aP G k h↔aO G h∧k h:=jG
theorem Ll(m:av→Hp→Prop)(v:Value):bZ m v h↔m (λv' h'=>v'=v∧h'=h) h:=jG
@[simp] theorem ft(x v:Value):bZ (al w0 x) v h↔al w0 x (λv' _=>v'=v) h:=by simp[bZ,al]
@[simp] theorem lW(x v:Value)(n:Nat):bZ (aG w0 x n) v h↔aG w0 x n (λv' _=>v'=v) h:=by simp[bZ,aG]
@[simp] theorem aC(vs:List Value)(R:av):ar vs R h↔(∀v,v∈vs→v≠junk)∧R (oneOf vs) h:=jG
@[simp] theorem aU(v:Value):oneOf [v]=v:=rfl
@[simp] theorem qR:oneOf []=.tuple #[]:=rfl
@[simp] theorem cG(v1 v2:Value)(l:List Value):oneOf (v1::v2::l)=.tuple (v1::v2::l).toArray:=rfl
@[simp] theorem ae4(k:IntKind)(n:Int):¬ (.int k n=junk):=by simp[junk]
@[simp] theorem aeq(q:Bool):¬ (.bool q=junk):=by simp[junk]
@[simp] theorem af9(s:ByteArray):¬ (.string s=junk):=by simp[junk]
@[simp] theorem aft(a:Option Addr):¬ (.pointer a=junk):=by simp[junk]
@[simp] theorem af6(a:Option Addr)(n c:Nat):¬ (.slice a n c=junk):=by simp[junk]
@[simp] theorem aga(a:Array Value):¬ (.tuple a=junk):=by simp[junk]
@[simp] theorem ael(a:Array Value):¬ (.agg a=junk):=by simp[junk]
@[simp] theorem ae1(f:Fn)(a b:Array Value):¬ (.func f a b=junk):=by simp[junk]
@[simp] theorem ae8(k:IntKind)(n:Int):aE (.int k n)=true:=rfl
@[simp] theorem ae5(q:Bool):aE (.bool q)=true:=rfl
@[simp] theorem afc(s:ByteArray):aE (.string s)=true:=rfl
@[simp] theorem afa(a:Option Addr):aE (.pointer a)=true:=rfl
@[simp] theorem afb(a:Option Addr)(n c:Nat):aE (.slice a n c)=true:=rfl
@[simp] theorem ae7(f:Fn)(a b:Array Value):aE (.func f a b)=true:=rfl
@[simp] theorem ae9:aE .nilFunc=true:=rfl
@[simp] theorem Yj(b o:Nat):al w0 (.pointer (some ⟨b,o,none⟩)) K h↔∃v,(h.blk b).bind (·[o]?)=some v∧(b<w0.heap.size→Cl w0.heap.size v)∧K v h:=by simp[al]
@[simp] theorem zV(b o n:Nat):aG w0 (.pointer (some ⟨b,o,none⟩)) n K h↔∃vs,h.getN ⟨b,o,none⟩ n=some vs∧(b<w0.heap.size→∀v,v∈vs→ClC w0.heap.size v)∧K (.agg vs.toArray) h:=by simp[aG]
@[simp] theorem ado(b o:Nat)(v:Value):bO w0 (.pointer (some ⟨b,o,none⟩)) v K h↔∃cs,w0.heap.size≤b∧h.blk b=some cs∧o<cs.length∧aE v=true∧K undef (h.put b (cs.set o v)):=by
 constructor
 ·rintro ⟨b',o',cs,e,r⟩;cases e;exact ⟨cs,r⟩
 ·rintro ⟨cs,r⟩;exact ⟨b,o,cs,rfl,r⟩
@[simp] theorem gG(cs:List Value)(s:Nat):cA cs s K h↔(∀v,v∈cs→aE v=true)∧K (.pointer (some ⟨h.next,0,none⟩)) (h.new cs s):=jG
@[simp] theorem NB(s:Nat)(v:Value):cF false s v K h↔aE v=true∧K (.pointer (some ⟨h.next,0,none⟩)) (h.new [v] s):=jG
@[simp] theorem iT(s:Nat)(vs:Array Value):cF true s (.agg vs) K h↔K (.pointer (some ⟨h.next,0,none⟩)) (h.new vs.toList s):=by simp[cF]
@[simp] theorem qB(s:Nat)(a:Addr)(n c:Nat)(k:IntKind)(j:Int):aJ s (.slice (some a) n c) (.int k j) K h↔0≤j∧j<(n:Int)∧K (.pointer (some (a.add (j.toNat*s)))) h:=by
 constructor
 ·rintro ⟨a',n',c',k',j',e,e',r⟩;cases e;cases e';exact r
 ·intro r;exact ⟨a,n,c,k,j,rfl,rfl,r⟩
@[simp] theorem ae3(l s:Nat)(a:Addr)(k:IntKind)(j:Int):ik l s (.pointer (some a)) (.int k j) K h↔0≤j∧j<(l:Int)∧K (.pointer (some (a.add (j.toNat*s)))) h:=by
 constructor
 ·rintro ⟨a',k',j',e,e',r⟩;cases e;cases e';exact r
 ·intro r;exact ⟨a,k,j,rfl,rfl,r⟩
@[simp] theorem fg(ps:List (Nat×Nat×Bool×Value))(z:List Value):dI ps z K h↔gW ps z (λcs h=>K (.agg cs.toArray) h) h:=jG
@[simp] theorem i9(ps:List (Nat×Nat×Bool×Value))(z:List Value)(l s:Nat):bI ps z l s K h↔gW ps z (λcs h=>K (.slice (some ⟨h.next,0,none⟩) l l) (h.new cs s)) h:=jG
@[simp] theorem dJ(z:List Value)(K:List Value→Hp→Prop):gW [] z K h↔K z h:=jG
@[simp] theorem dX(off size:Nat)(v:Value)(r:List (Nat×Nat×Bool×Value))(z:List Value)(K:List Value→Hp→Prop):
  gW ((off,size,false,v)::r) z K h↔aE v=true∧off<z.length∧gW r (z.set off v) K h:=jG
@[simp] theorem lE(off size:Nat)(vs:Array Value)(r:List (Nat×Nat×Bool×Value))(z:List Value)(K:List Value→Hp→Prop):
  gW ((off,size,true,.agg vs)::r) z K h↔vs.size=size∧off+size≤z.length∧gW r (splice z off vs.toList) K h:=by simp[gW]
@[simp] theorem aeu(f:FuncId)(args:List Value):am P w0 f args K h↔aj P w0 f args h K:=jG
theorem Aa(s by_:Nat)(z:List Value)(kl kc:IntKind)(n m:Nat):mkA s by_ z (.int kl n) (.int kc m) K h↔
  n≤m∧by_*m≤281474976710656∧m≤281474976710656∧K (.slice (some ⟨h.next,0,none⟩) n m) (h.new (aL z m) s):=by
 constructor
 ·rintro ⟨kl',kc',n',m',e,e',r⟩
  simp only[Value.int.injEq,Int.ofNat_inj]at e e'
  obtain ⟨-,rfl⟩:=e
  obtain ⟨-,rfl⟩:=e'
  exact r
 ·intro r;exact ⟨kl,kc,n,m,rfl,rfl,r⟩
@[simp] theorem J6(s:ByteArray):pJ (.string s) K h↔s.size≤140737488355328∧K (.slice (some ⟨h.next,0,none⟩) s.size bA) (h.new (s.data.toList.map λb=>.int .u8 b.toNat) 1):=by simp[pJ]
end
@[simp] theorem gJ(k:IntKind)(a b:Int):ah .add (.int k a) (.int k b)=some (.int k (k.wrap (a+b))):=by simp[ah,gL]
@[simp] theorem rD(k:IntKind)(a b:Int):ah .sub (.int k a) (.int k b)=some (.int k (k.wrap (a-b))):=by simp[ah,gL]
@[simp] theorem nz(k:IntKind)(a b:Int):ah .mul (.int k a) (.int k b)=some (.int k (k.wrap (a*b))):=by simp[ah,gL]
@[simp] theorem mA(k:IntKind)(a b:Int):ah .eql (.int k a) (.int k b)=some (.bool (a==b)):=by simp[ah,gL]
@[simp] theorem jh(k:IntKind)(a b:Int):ah .neq (.int k a) (.int k b)=some (.bool (a != b)):=by simp[ah,gL]
@[simp] theorem fQ(k:IntKind)(a b:Int):ah .lss (.int k a) (.int k b)=some (.bool (decide (a<b))):=by simp[ah,gL]
@[simp] theorem Np(k:IntKind)(a b:Int):ah .leq (.int k a) (.int k b)=some (.bool (decide (a≤b))):=by simp[ah,gL]
@[simp] theorem iS(k:IntKind)(a b:Int):ah .gtr (.int k a) (.int k b)=some (.bool (decide (b<a))):=by simp[ah,gL]
@[simp] theorem lm(k:IntKind)(a b:Int):ah .geq (.int k a) (.int k b)=some (.bool (decide (b≤a))):=by simp[ah,gL]
@[simp] theorem uc(k k':IntKind)(a b:Int)(hb:0≤b):ah .shr (.int k a) (.int k' b)=some (.int k (a/2^(min b.toNat k.bits))):=by
 have h2:(0:Int)≤2^(min b.toNat k.bits):=Int.pow_nonneg (by omega)
 simp only[ah]
 rw[if_neg (by omega),Int.fdiv_eq_ediv_of_nonneg _ h2]
@[simp] theorem Nr(k k':IntKind)(a b:Int)(hb:0≤b):ah .shl (.int k a) (.int k' b)=some (.int k (k.wrap (a*2^(min b.toNat k.bits)))):=by
 simp only[ah]
 rw[if_neg (by omega)]
theorem yq(k:IntKind)(a b:Int)(hb:b≠0):ah .quo (.int k a) (.int k b)=some (.int k (k.wrap (a.tdiv b))):=by simp[ah,gL,hb]
theorem Dr(k:IntKind)(a b:Int)(hb:b≠0):ah .rem (.int k a) (.int k b)=some (.int k (a.tmod b)):=by simp[ah,gL,hb]
theorem yo(k:IntKind)(a b:Nat):ah .and (.int k a) (.int k b)=some (.int k (k.wrap ((a &&& b)%2^k.bits:Nat))):=by
 simp[ah,gL,Nat.and_mod_two_pow]
theorem yp(k:IntKind)(a b:Nat):ah .or (.int k a) (.int k b)=some (.int k (k.wrap ((a ||| b)%2^k.bits:Nat))):=by
 simp[ah,gL,Nat.or_mod_two_pow]
theorem qj(k:IntKind)(a b:Nat):ah .xor (.int k a) (.int k b)=some (.int k (k.wrap ((a ^^^ b)%2^k.bits:Nat))):=by
 simp[ah,gL,Nat.xor_mod_two_pow]
theorem gR{k:IntKind}(hk:k.signed=false){n:Nat}(h:n<2^k.bits):k.wrap (n:Int)=n:=by
 have:(n:Int)%2^k.bits=n:=Int.emod_eq_of_lt (by omega) (by exact_mod_cast h)
 simp[IntKind.wrap,hk,this]
@[simp] theorem yr(a b:Bool):jz .eql (.bool a) (.bool b)=some (.bool (a==b)):=rfl
@[simp] theorem Ns(a b:Bool):jz .neq (.bool a) (.bool b)=some (.bool (!(a==b))):=rfl
@[simp] theorem aem(a:Addr):cN .eql (.pointer (some a)) (.pointer none)=some (.bool false):=rfl
@[simp] theorem aeo(a:Addr):cN .neq (.pointer (some a)) (.pointer none)=some (.bool true):=rfl
@[simp] theorem aen:cN .eql (.pointer none) (.pointer none)=some (.bool true):=rfl
@[simp] theorem aep:cN .neq (.pointer none) (.pointer none)=some (.bool false):=rfl
@[simp] theorem ad5(b:Bool):unA .not (.bool b)=some (.bool (!b)):=rfl
@[simp] theorem ad4(k:IntKind)(n:Int):unA .neg (.int k n)=some (.int k (k.wrap (0-n))):=rfl
@[simp] theorem gC(k k':IntKind)(n:Int):bG k (.int k' n)=some (.int k (k.wrap n)):=rfl
@[simp] theorem af7(s:ByteArray):strOf (.string s)=some (.string s):=rfl
@[simp] theorem gM(s:ByteArray):cD (.string s)=some (.int .i64 s.size):=rfl
@[simp] theorem vA(a:Option Addr)(n c:Nat):aM (.slice a n c)=some (.int .i64 n):=rfl
@[simp] theorem afi(s:ByteArray):lenA (.string s)=some s.size:=rfl
@[simp] theorem afh(a:Option Addr)(n c:Nat):lenA (.slice a n c)=some n:=rfl
@[simp] theorem yX(vs:Array Value)(i:Nat):aV (.tuple vs) i=vs[i]?:=rfl
@[simp] theorem Vb(f:Value→Value→Option Value)(x:Value):iL f x []=some x:=rfl
@[simp] theorem Va(f:Value→Value→Option Value)(x y:Value)(r:List Value):iL f x (y::r)=(f x y).bind λv=>iL f v r:=rfl
@[simp] theorem afj(k:IntKind)(a b:Int):pp (.int k a) (.int k b)=some (.int k (max a b)):=by
 simp only[pp,jf,Value.int.injEq,true_and]
 omega
@[simp] theorem Y7(k:IntKind)(a b:Int):lI (.int k a) (.int k b)=some (.int k (min a b)):=by
 simp only[lI,jf,Value.int.injEq,true_and]
 omega
@[simp] theorem aez(off s:Nat)(cs:Array Value):sj false off s (.agg cs)=cs[off]?:=rfl
@[simp] theorem aey(off s:Nat)(cs:Array Value):sj true off s (.agg cs)=some (.agg (cs.extract off (off+s))):=rfl
theorem Ml(v:Value)(n:Nat):aL [v] n=List.replicate n v:=by
 unfold aL
 induction n with
 |zero=>rfl
 |succ n ih=>rw[List.replicate_succ,gw,ih,List.replicate_succ];rfl
@[simp] theorem agd(z:List Value):aL z 1=z:=by simp[aL]
@[simp] theorem gZ(x y:ByteArray)(hs:x.size+y.size≤9223372036854775807):ah .add (.string x) (.string y)=some (.string (x++y)):=by simp[ah,kj,hs]
theorem toList_eq{x y:ByteArray}:x.toList=y.toList↔x=y:=by
 constructor
 ·intro e
  have h1:x.data.toList=y.data.toList:=by simpa[ByteArray.toList_eq]using e
  cases x;cases y
  simp at h1
  rw[h1]
 ·rintro rfl;rfl
end
section
def ptr(p:Nat):Value:=.pointer (some ⟨p,0,none⟩)
def bv(b:UInt8):Value:=.int .u8 (b.toNat:Int)
def bvs(l:List UInt8):List Value:=l.map bv
def str(l:List UInt8):ByteArray:=⟨l.toArray⟩
@[simp] theorem uf:bvs []=[]:=rfl
@[simp] theorem rG(b:UInt8)(l:List UInt8):bvs (b::l)=bv b::bvs l:=rfl
@[simp] theorem kB(l m:List UInt8):bvs (l++m)=bvs l++bvs m:=by simp[bvs]
@[simp] theorem aes(l:List UInt8):(bvs l).length=l.length:=by simp[bvs]
theorem Dy(l:List UInt8)(i:Nat):(bvs l)[i]?=(l[i]?).map bv:=by simp[bvs]
@[simp] theorem aet(l:List UInt8)(n:Nat):(bvs l).take n=bvs (l.take n):=by simp[bvs]
@[simp] theorem aer(l:List UInt8)(n:Nat):(bvs l).drop n=bvs (l.drop n):=by simp[bvs]
theorem yw(l:List UInt8):l.map (λb=>(.int .u8 b.toNat:Value))=bvs l:=rfl
@[simp] theorem cL(l:List UInt8):(str l).size=l.length:=by simp[str,ByteArray.size]
@[simp] theorem LV(l:List UInt8):(str l).data.toList=l:=by simp[str]
@[simp] theorem af8(s:ByteArray):str s.data.toList=s:=by
 show (⟨s.data.toList.toArray⟩:ByteArray)=s
 rw[Array.toArray_toList]
theorem size_eq(s:ByteArray):s.size=s.data.toList.length:=rfl
@[simp] theorem hF(l m:List UInt8):str l++str m=str (l++m):=by
 have h:(str l++str m).data=(str (l++m)).data:=by
  rw[ByteArray.data_append]
  simp[str]
 cases e:str l++str m
 rw[e]at h
 simp only at h
 rw[h]
theorem adu{l m:List UInt8}:str l=str m↔l=m:=by simp[str]
@[simp] theorem C9(l:List UInt8):(str l).toList=l:=by rw[ByteArray.toList_eq];simp[str]
theorem qY:str []=.empty:=rfl
@[simp] theorem ae6(b:UInt8):aE (bv b)=true:=rfl
theorem Q5(B:Nat)(k:IntKind)(n:Int):Cl B (.int k n):=λ_ _=>.int k n
theorem Q6(B:Nat)(s:ByteArray):Cl B (.string s):=λ_ _=>.string s
theorem Q4(B:Nat)(b:Bool):Cl B (.bool b):=λ_ _=>.bool b
theorem C8(l:List UInt8)(a b:Nat):(str l).extract a b=str ((l.take b).drop a):=by
 have:((str l).extract a b).data=(str ((l.take b).drop a)).data:=by
  rw[ByteArray.data_extract]
  simp[str]
  rw[nn]
 cases e:(str l).extract a b
 rw[e]at this
 simp only at this
 rw[this]
theorem kQ(l:List UInt8)(k k':IntKind)(a b:Nat)(h:a≤b)(h2:b≤l.length):dD (.string (str l)) (some (.int k a)) (some (.int k' b))=some (.string (str ((l.take b).drop a))):=by
 simp[dD,fR,h,h2,C8]
theorem pO(l:List UInt8)(k':IntKind)(b:Nat)(h2:b≤l.length):dD (.string (str l)) none (some (.int k' b))=some (.string (str (l.take b))):=by
 simp[dD,fR,h2,C8]
theorem js(l:List UInt8)(k:IntKind)(a:Nat)(h:a≤l.length):dD (.string (str l)) (some (.int k a)) none=some (.string (str (l.drop a))):=by
 simp[dD,fR,h,C8]
theorem ko(l:List UInt8)(k:IntKind)(i:Nat):dR (.string (str l)) (.int k i)=(l[i]?).map bv:=by
 have h:∀(s:ByteArray) (i:Nat),s[i]?=s.data.toList[i]?:=by
  intro s i
  by_cases hi:i<s.size
  ·rw[getElem?_pos s i hi,bW (by rw[size_eq]at hi;exact hi)];rfl
  ·rw[getElem?_neg s i hi,fF (by rw[size_eq]at hi;omega)]
 simp only[dR]
 rw[if_pos (by omega),h]
 simp
 rfl
structure Step(h h':Hp)(S S':List Nat):Prop where
 next:h.next≤h'.next
 keep:∀b,b<h.next→b∉S→h'.blk b=h.blk b∧h'.esz b=h.esz b
 own:∀b,b∈S'→b<h'.next∧(b∈S∨h.next≤b)
 lp:h'.lp=h.lp
theorem Step.refl(h:Hp)(S:List Nat)(hs:∀b,b∈S→b<h.next):Step h h S S:=⟨bF _,λb _ _=>⟨rfl,rfl⟩,λb hb=>⟨hs b hb,.inl hb⟩,rfl⟩
theorem Step.trans{h h1 h2:Hp}{S S1 S2:List Nat}(a:Step h h1 S S1)(b:Step h1 h2 S1 S2):Step h h2 S S2:=by
 refine ⟨cY a.1 b.1,λi hi hs=>?_,λi hi=>?_,b.4.trans a.4⟩
 ·have h1:i∉S1:=λe=>by rcases (a.3 i e).2 with e|e;exact hs e;omega
  have:=b.2 i (by have:=a.1;omega) h1
  rw[this.1,this.2]
  exact a.2 i hi hs
 ·refine ⟨(b.3 i hi).1,?_⟩
  rcases (b.3 i hi).2 with e|e
  ·exact (a.3 i e).2
  ·right;have:=a.1;omega
theorem Step.more{h h':Hp}{S S':List Nat}(a:Step h h' S S')(T:List Nat)(ht:∀b,b∈T→b<h.next):Step h h' (S++T) (S'++T):=by
 refine ⟨a.1,λb hb hs=>a.2 b hb (λe=>hs (by simp[e])),λb hb=>?_,a.4⟩
 rcases aS.1 hb with e|e
 ·exact ⟨(a.3 b e).1,by rcases (a.3 b e).2 with q|q <;> simp[q]⟩
 ·exact ⟨by have:=ht b e;have:=a.1;omega,by simp[e]⟩
theorem Step.weaken{h h':Hp}{S S' T T':List Nat}(a:Step h h' S S')(hS:∀b,b∈S→b∈T∨h.next≤b)(hS':∀b,b∈T'→b∈S'∨(b∈T∧b<h.next)):Step h h' T T':=by
 refine ⟨a.1,λb hb hs=>a.2 b hb (λe=>by rcases hS b e with q|q;exact hs q;omega),λb hb=>?_,a.4⟩
 rcases hS' b hb with e|⟨e,f⟩
 ·exact ⟨(a.3 b e).1,by rcases (a.3 b e).2 with q|q;exact hS b q;exact .inr q⟩
 ·exact ⟨by have:=a.1;omega,.inl e⟩
theorem Step.put{h h':Hp}{S S':List Nat}(a:Step h h' S S'){p:Nat}(hp:p∈S')(cs:List Value):Step h (h'.put p cs) S S':=by
 refine ⟨a.1,λb hb hs=>?_,λb hb=>a.3 b hb,a.4⟩
 have:b≠p:=by
  rintro rfl
  rcases (a.3 b hp).2 with e|e
  ·exact hs e
  ·omega
 simpa[this]using a.2 b hb hs
theorem Step.new{h h':Hp}{S S':List Nat}(a:Step h h' S S')(cs:List Value)(s:Nat):Step h (h'.new cs s) S (h'.next::S'):=by
 refine ⟨by have:=a.1;simp;omega,λb hb hs=>?_,λb hb=>?_,a.4⟩
 ·have:b≠h'.next:=by have:=a.1;omega
  simpa[this]using a.2 b hb hs
 ·rcases bB.1 hb with rfl|hb
  ·exact ⟨by simp,.inr a.1⟩
  ·exact ⟨by have:=(a.3 b hb).1;simp;omega,(a.3 b hb).2⟩
theorem Step.newD{h h':Hp}{S S':List Nat}(a:Step h h' S S')(cs:List Value)(s:Nat):Step h (h'.newD cs s) S (h'.next::S'):=⟨(a.new cs s).1,(a.new cs s).2,(a.new cs s).3,(a.new cs s).4⟩
theorem Step.less{h h':Hp}{S S' T:List Nat}(a:Step h h' S S')(hT:∀b,b∈T→b∈S'):Step h h' S T:=⟨a.1,a.2,λb hb=>a.3 b (hT b hb),a.4⟩
theorem Step.wide{h h':Hp}{S S' T T':List Nat}(a:Step h h' S S')(hS:∀b,b∈S→b∈T)(hT:∀b,b∈T'→b∈S'∨(b∈T∧b<h.next)):Step h h' T T' :=
 a.weaken (λb hb=>.inl (hS b hb)) hT
def Vec(w0:World)(h:Hp)(s:Nat)(x:Value)(n:Nat)(cs:List Value)(S:List Nat):Prop:=
 (x=.slice none 0 0∧n=0∧cs=[]∧S=[]) ∨
 ∃q,x=.slice (some ⟨q,0,none⟩) n bA∧S=[q]∧w0.heap.size≤q∧q<h.next∧h.blk q=some cs∧h.esz q=s∧cs.length=n*s
section
variable {w0:World}{h h':Hp}{s n:Nat}{x:Value}{cs:List Value}{S:List Nat}
theorem Vec.nil:Vec w0 h s (.slice none 0 0) 0 [] []:=.inl ⟨rfl,rfl,rfl,rfl⟩
theorem Vec.lt(v:Vec w0 h s x n cs S):∀b,b∈S→w0.heap.size≤b∧b<h.next:=by
 rcases v with ⟨-,-,-,rfl⟩|⟨q,-,rfl,a,b,-⟩
 ·intro b hb;simp at hb
 ·intro c hc;simp at hc;subst hc;exact ⟨a,b⟩
theorem Vec.slice(v:Vec w0 h s x n cs S):∃a c,x=.slice a n c:=by
 rcases v with ⟨rfl,rfl,-⟩|⟨q,rfl,-⟩ <;> exact ⟨_,_,rfl⟩
theorem Vec.len(v:Vec w0 h s x n cs S):cs.length=n*s:=by
 rcases v with ⟨-,rfl,rfl,-⟩|⟨q,-,-,-,-,-,-,e⟩ <;> simp[*]
theorem Vec.src(v:Vec w0 h s x n cs S):Src w0.heap.size h s x n cs:=by
 rcases v with ⟨rfl,rfl,rfl,-⟩|⟨q,rfl,-,a,b,c,-,e⟩
 ·simp[Src]
 ·unfold Src
  refine ⟨bF _,?_⟩
  by_cases hn:n=0
  ·subst hn;left;exact ⟨rfl,fu (by simpa using e)⟩
  ·right
   refine ⟨by omega,_,rfl,?_,λhlt=>by simp at hlt;omega⟩
   simp[c,←e]
theorem Vec.frame(v:Vec w0 h s x n cs S){T T':List Nat}(st:Step h h' T T')(hd:∀b,b∈S→b∉T):Vec w0 h' s x n cs S:=by
 rcases v with ⟨rfl,rfl,rfl,rfl⟩|⟨q,rfl,rfl,a,b,c,d,e⟩
 ·exact .nil
 ·obtain ⟨k1,k2⟩:=st.keep q b (hd q (by simp))
  exact .inr ⟨q,rfl,rfl,a,by have:=st.1;omega,by rw[k1];exact c,by rw[k2];exact d,e⟩
theorem Vec.put(v:Vec w0 h s x n cs S){p:Nat}(hp:p∉S)(c:List Value):Vec w0 (h.put p c) s x n cs S:=by
 rcases v with ⟨rfl,rfl,rfl,rfl⟩|⟨q,rfl,rfl,a,b,d,e,f⟩
 ·exact .nil
 ·have:q≠p:=by rintro rfl;simp at hp
  exact .inr ⟨q,rfl,rfl,a,b,by simpa[this]using d,e,f⟩
theorem Vec.new(v:Vec w0 h s x n cs S)(c:List Value)(k:Nat):Vec w0 (h.new c k) s x n cs S:=by
 rcases v with ⟨rfl,rfl,rfl,rfl⟩|⟨q,rfl,rfl,a,b,d,e,f⟩
 ·exact .nil
 ·have:q≠h.next:=by omega
  exact .inr ⟨q,rfl,rfl,a,by simp;omega,by simpa[this]using d,by simpa[this]using e,f⟩
theorem LH(B:Nat)(s:ByteArray):Src B h 1 (.string s) s.size (bvs s.data.toList):=by
 refine ⟨rfl,bF _,?_⟩
 rw[size_eq,tS]
 rfl
theorem nk{q o c:Nat}(hq:w0.heap.size≤q)(hb:h.blk q=some cs)(hl:o+n*s≤cs.length):Src w0.heap.size h s (.slice (some ⟨q,o,none⟩) n c) n ((cs.drop o).take (n*s)):=by
 unfold Src
 refine ⟨bF _,?_⟩
 by_cases hn:n=0
 ·subst hn;left;simp
 ·right;exact ⟨by omega,_,rfl,by simp[hb,hl],λhlt=>by simp at hlt;omega⟩
theorem kO{q c:Nat}(hq:w0.heap.size≤q)(hb:h.blk q=some cs)(e:cs.length=n*s):Src w0.heap.size h s (.slice (some ⟨q,0,none⟩) n c) n cs:=by
 have:=nk (w0:=w0) (h:=h) (s:=s) (n:=n) (o:=0) (c:=c) hq hb (by simp[e])
 rw[i5,←e,tS]at this
 exact this
theorem iD{k:Nat}{c:Nat}(hf:w0.heap.size≤h.next)(e:cs.length=n*s):Src w0.heap.size (h.new cs k) s (.slice (some ⟨h.next,0,none⟩) n c) n cs:=by
 have:=nk (w0:=w0) (h:=h.new cs k) (s:=s) (n:=n) (o:=0) (c:=c) hf (cs:=cs) (by simp) (by simp[e])
 rw[i5,←e,tS]at this
 exact this
theorem gB{by_ m:Nat}{y:Value}{ys:List Value}{K:av}(hf:w0.heap.size≤h.next)(v:Vec w0 h s x n cs S)(hl:lenA y=some m)(hs:Src w0.heap.size h s y m ys)
  (hys:ys.length=m*s) (hb:(n+m)*by_≤140737488355328) (hn:n+m≤140737488355328) (hs0:0<s)
  (hk:∀x' h' S',Vec w0 h' s x' (n+m) (cs++ys) S'→Step h h' S S'→K x' h'):bD w0 s by_ x y K h:=by
 refine .mk m hl (λhm=>⟨?_,?_⟩) (λhm=>?_)
 ·obtain ⟨a,c,rfl⟩:=v.slice;exact ⟨_,_,_,rfl⟩
 ·subst hm
  have:ys=[]:=fu (by simpa using hys)
  subst this
  exact hk x h S (by simpa using v) (.refl _ _ λb hb=>(v.lt b hb).2)
 ·rcases v with ⟨rfl,rfl,rfl,rfl⟩|⟨q,rfl,rfl,a,b,c,d,e⟩
  ·refine ⟨0,[],ys,h,by simp[Dst],hs,hb,hn,?_⟩
   refine hk _ _ [h.next] (.inr ⟨h.next,rfl,rfl,hf,by simp,by simp,by simp,by simpa using hys⟩) ⟨by simp,λb hb _=>?_,λb hb=>?_,rfl⟩
   ·have:b≠h.next:=by omega
    simp[this]
   ·simp at hb;subst hb;simp
  ·refine ⟨n,cs,ys,h.kill q,?_,hs,hb,hn,?_⟩
   ·simp only[Dst]
    refine ⟨trivial,?_,?_⟩
    ·by_cases h0:n=0
     ·left;subst h0;exact ⟨rfl,fu (by simpa using e)⟩
     ·right;exact ⟨by omega,by simp[c,←e],λhlt=>by omega⟩
    ·rw[if_neg (by omega)];simp[c,d]
   ·refine hk _ _ [h.next] (.inr ⟨h.next,rfl,rfl,hf,by simp,by simp,by simp,by rw[aT,e,hys,fW]⟩) ⟨by simp,λb' hb' hq=>?_,λb' hb'=>?_,rfl⟩
    ·have:b'≠h.next:=by omega
     have h2:b'≠q:=by simpa using hq
     simp[this,h2]
    ·simp at hb';subst hb';simp
theorem my{a:Option Addr}{c:Nat}{l:List UInt8}{K:av}(hs:Src w0.heap.size h 1 (.slice a n c) n (bvs l))(hk:K (.string (str l)) h):dW w0 (.slice a n c) K h:=by
 refine ⟨a,n,c,l.map λb=>(b.toNat:Int),rfl,?_,?_⟩
 ·have:(l.map λb=>(b.toNat:Int)).map (λq:Int=>(.int .u8 q:Value))=bvs l:=by simp[bvs,bv]
  rw[this];exact hs
 ·have:(l.map λb=>(b.toNat:Int)).map (λq:Int=>UInt8.ofNat q.toNat)=l:=by
   rw[gT]
   conv=>rhs;rw[←List.map_id l]
   congr 1
   funext b
   simp
  rw[this];exact hk
theorem Vec.b2s{l:List UInt8}{K:av}(v:Vec w0 h 1 x n (bvs l) S)(hk:K (.string (str l)) h):dW w0 x K h:=by
 obtain ⟨a,c,rfl⟩:=v.slice
 exact my v.src hk
end
end
