/- Arguments that lie in what was there: how structs and slices of them are opened. -/
import Derived.Test.YtfmoemconapmhaaGreatRows
import Derived.Test.YtfmoemconapmhaaGreatAh19
import Derived.Test.YtfmoemconapmhaaGreatAh20
set_option linter.all false
namespace Go.Proofs.YtfmoemconapmhaaGreat.Ah
open Go
section
open Go Go.ChangeShapes Go.WideShapes
structure Dec(α:Type) where
 e:α→List Value
 ok:α→Prop
 b:α→Nat
structure Dec.Of{α:Type}(D:Dec α)(P:Program)(w0:World)(t:TypeId)(s:Nat):Prop where
 size:P.cellsOf t=s
 len:∀a,(D.e a).length=s
 cl:∀a,D.ok a→∀v,v∈D.e a→ClC w0.heap.size v
 opens:∀{H:Type} {enc:TypeId×Value→H} {fuel:Nat} {cs:List Value} {x:DataW H×List MemPlace},DataW.trod enc P w0 0 (λ_=>true) true fuel t cs=some x→(∀p,p∈x.2→p.block<w0.heap.size)→∃a,cs=D.e a∧D.ok a∧D.b a≤Rows.uptoBulk x.1
theorem D4(B:Nat)(k:IntKind)(n:Int):ClC B (.int k n):=⟨Q5 B k n,rfl⟩
theorem D5(B:Nat)(s:ByteArray):ClC B (.string s):=⟨Q6 B s,rfl⟩
theorem Q3(B:Nat)(b:Bool):ClC B (.bool b):=⟨Q4 B b,rfl⟩
def iB(k:IntKind):Dec Int:=⟨λn=>[.int k n],λn=>k.min≤n∧n≤k.max,λ_=>1⟩
def DN(k:IntKind):Dec Nat:=⟨λn=>[.int k n],λn=>n<2^k.bits,λ_=>1⟩
def lx:Dec (List UInt8):=⟨λl=>[.string (str l)],λ_=>True,λl=>l.length+1⟩
def DL:Dec Bool:=⟨λq=>[.bool q],λ_=>True,λ_=>1⟩
section
variable {P:Program}{w0:World}{t:TypeId}
theorem rP{k:IntKind}(ht:P.underlying t=some (.int k))(hc:P.cellsOf t=1):(iB k).Of P w0 t 1:=by
 refine ⟨hc,λ_=>rfl,λa _ v hv=>?_,λ{H enc fuel cs x} hx hp=>?_⟩
 ·simp only[iB,List.mem_singleton]at hv;subst hv;exact D4 _ _ _
 ·obtain ⟨n,rfl,rfl,hw⟩:=DataW.trod_int ht hx
  refine ⟨n,rfl,?_,by simp[iB,Rows.uptoBulk]⟩
  simpa[iB,Lit.wf]using hw
theorem yJ(ht:P.underlying t=some .string)(hc:P.cellsOf t=1):lx.Of P w0 t 1:=by
 refine ⟨hc,λ_=>rfl,λa _ v hv=>?_,λ{H enc fuel cs x} hx hp=>?_⟩
 ·simp only[lx,List.mem_singleton]at hv;subst hv;exact D5 _ _
 ·obtain ⟨s,rfl,rfl,hw⟩:=DataW.trod_string ht hx
  exact ⟨s.data.toList,by simp[lx],trivial,by simp[lx,Rows.uptoBulk]⟩
def jl:Dec Unit:=⟨λ_=>[],λ_=>True,λ_=>0⟩
def fI{α β:Type}(D:Dec α)(E:Dec β):Dec (α×β):=⟨λp=>D.e p.1++E.e p.2,λp=>D.ok p.1∧E.ok p.2,λp=>D.b p.1+E.b p.2⟩
structure Dec.OfFs{α:Type}(D:Dec α)(P:Program)(w0:World)(fs:List Field)(o s:Nat):Prop where
 len:∀a,(D.e a).length=s
 cl:∀a,D.ok a→∀v,v∈D.e a→ClC w0.heap.size v
 opens:∀{H:Type} {enc:TypeId×Value→H} {n:Nat} {cs:List Value} {xs:List (DataW H×List MemPlace)},cs.length=o+s→xs.length=fs.length→
  (∀(i:Nat) f,fs[i]?=some f→DataW.trod enc P w0 0 (λ_=>true) true n f.type ((cs.drop f.offset).take (P.cellsOf f.type))=xs[i]?)→(∀y,y∈xs→∀p,p∈y.2→p.block<w0.heap.size)→∃a,cs.drop o=D.e a∧D.ok a∧D.b a≤Rows.uptoBulkAll (xs.map (·.1))
theorem yL{o:Nat}:jl.OfFs P w0 [] o 0:=by
 refine ⟨λ_=>rfl,λa _ v hv=>by simp[jl]at hv,λ{H enc n cs xs} hl hx h _=>⟨(),?_,trivial,by simp[jl]⟩⟩
 simp only[jl]
 exact List.drop_eq_nil_of_le (by omega)
theorem kG{α β:Type}{D:Dec α}{E:Dec β}{f:Field}{fs:List Field}{o s s':Nat}(hf:f.offset=o)(hD:D.Of P w0 f.type s)(hE:E.OfFs P w0 fs (o+s) s'):(fI D E).OfFs P w0 (f::fs) o (s+s'):=by
 refine ⟨λa=>by simp[fI,hD.len,hE.len],λa ha v hv=>?_,λ{H enc n cs xs} hl hx h hp=>?_⟩
 ·rcases aS.1 hv with e|e
  ·exact hD.cl _ ha.1 v e
  ·exact hE.cl _ ha.2 v e
 ·cases xs with
  |nil=>simp at hx
  |cons x xs=>
   have h0:=h 0 f rfl
   simp only[tM]at h0
   rw[hf,hD.size]at h0
   obtain ⟨a,e1,o1,b1⟩:=hD.opens h0 (hp x (by simp))
   obtain ⟨b,e2,o2,b2⟩:=hE.opens (cs:=cs) (xs:=xs) (by omega) (by simpa using hx) (λi g hg=>by simpa using h (i+1) g (by simpa using hg)) (λy hy=>hp y (by simp[hy]))
   refine ⟨(a,b),?_,⟨o1,o2⟩,by simp only[fI,gA,Rows.uptoBulkAll];omega⟩
   simp only[fI]
   rw[←e1,←e2,←mf,fw]
def jR{α:Type}(D:Dec α):Dec α:=⟨D.e,D.ok,λa=>D.b a+1⟩
theorem yK{α:Type}{D:Dec α}{fs:Array Field}{s:Nat}(ht:P.underlying t=some (.struct fs))(hc:P.cellsOf t=s)(hD:D.OfFs P w0 fs.toList 0 s):(jR D).Of P w0 t s:=by
 refine ⟨hc,hD.len,hD.cl,λ{H enc fuel cs x} hx hp=>?_⟩
 obtain ⟨xs,n,rfl,rfl,hl,hxl,h⟩:=DataW.trod_struct ht hx
 obtain ⟨a,e1,o1,b1⟩:=hD.opens (cs:=cs) (xs:=xs) (by omega) (by simpa using hxl) (λi f hf=>h i f (by simpa using hf)) (λy hy p hq=>hp p (mi.2 ⟨y,hy,hq⟩))
 exact ⟨a,by rw[i5]at e1;exact e1,o1,by simp only[jR,Rows.uptoBulk];omega⟩
theorem YO{α:Type}{D:Dec α}{fs:Array Field}{s:Nat}{H:Type}{enc:TypeId×Value→H}{r:Reach}{b0:Nat}{v:Value}{d:DataW H}{ps:List MemPlace}
  (ht:P.underlying t=some (.struct fs)) (hD:D.Of P w0 t s) (hval:Value.okWide P w0 r b0 t v) (hd:DataW.Trod enc P w0 0 (λ_=>true) true t v d ps) (hp:∀p,p∈ps→p.block<w0.heap.size):
  ∃a,v=.agg (D.e a).toArray∧D.ok a∧D.b a≤Rows.uptoBulk d:=by
 obtain ⟨cs,rfl,hs⟩:=okWide_struct ht hval
 obtain ⟨fuel,hf⟩:=hd
 obtain ⟨a,e1,o1,b1⟩:=hD.opens hf hp
 simp only[Value.cells]at e1
 exact ⟨a,by rw[←e1],o1,b1⟩
theorem Q2{B:Nat}{cs:List Value}(h:∀v,v∈cs→ClC B v):Cl B (.agg cs.toArray):=by
 intro nx ι
 refine .agg _ _ rfl (λi v v' a b=>?_) λi v a=>?_
 ·rw[a]at b;cases b;exact (h v (by simpa using cK (by simpa using a))).1 nx ι
 ·exact (h v (by simpa using cK (by simpa using a))).2
structure kT(w0:World)(s:Nat)(v:Value)(n:Nat)(ys:List Value):Prop where
 sl:∃a c,v=.slice a n c∧n≤c∧c<bA
 cl:Cl w0.heap.size v
 src:∀h,Fit w0 h→Src w0.heap.size h s v n ys
theorem Qz{W:World}{a:Addr}{n:Nat}{cs:List Value}(hn:0<n)(h:∀i,i<n→W.cell? (a.add i)=cs[i]?)(hl:cs.length=n){h0:Hp}(f:Fit W h0):a.block<W.heap.size∧a.spot=none∧h0.getN a n=some cs:=by
 have h1:=h 0 hn
 have h2:∃v,cs[0]?=some v:=⟨cs[0]'(by omega),by simp⟩
 obtain ⟨v,hv⟩:=h2
 rw[hv]at h1
 have a0:a.add 0=a:=by simp[Addr.add]
 rw[a0]at h1
 unfold World.cell? at h1
 split at h1
 ·rename_i c el fr hb
  have hlt:a.block<W.heap.size:=by
   rcases nu a.block W.heap.size with q|q
   ·exact q
   ·rw[Array.getElem?_eq_none q]at hb;simp at hb
  split at h1
  ·simp at h1
  ·rename_i hs
   have hs:a.spot=none:=by simpa using hs
   refine ⟨hlt,hs,?_⟩
   have hblk:h0.blk a.block=some c.toList:=by rw[f.ext _ hlt];simp[sg,hb]
   obtain ⟨b,o,sp⟩:=a
   simp only at hs hblk hb h ⊢
   subst hs
   have hall:∀i,i<n→c.toList[o+i]?=cs[i]?:=by
    intro i hi
    have:=h i hi
    simp only[addr_add,World.cell?,hb]at this
    simpa using this
   have hle:o+n≤c.toList.length:=by
    have:=hall (n-1) (by omega)
    rw[bW (by omega:n-1<cs.length)]at this
    have:=(cB.1 this).1
    omega
   rw[lF,hblk,je,if_pos hle]
   congr 1
   apply nr
   intro i
   by_cases hi:i<n
   ·rw[gS,if_pos hi,iG,hall i hi]
   ·rw[gS,if_neg hi,fF (by omega)]
 ·simp at h1
end
theorem yO{α:Type}{e:α→List Value}{s:Nat}(he:∀a,(e a).length=s):∀(xs:List α) (i:Nat) (a:α),xs[i]?=some a→((xs.flatMap e).drop (i*s)).take s=e a:=by
 intro xs
 induction xs with
 |nil=>intro i a h;simp at h
 |cons x xs ih=>
  intro i a h
  cases i with
  |zero=>
   simp at h
   subst h
   simp[eN,←he x]
  |succ i=>
   simp at h
   rw[eN,fW,nw,jK,←he x,←mf,kU,he x]
   exact ih i a h
end
section
theorem Z4(h:Hp)(z c:List Value)(s:Nat)(hu:c.all fj=false):(h.new z s).put h.next c=h.new c s:=by
 have e1:(λi=>if i=h.next then some c else if i=h.next then some z else h.blk i)=(λi=>if i=h.next then some c else h.blk i):=by
  funext i
  by_cases e:i=h.next <;> simp[e]
 have e2:(λi=>if i=h.next then (if i=h.next then !z.isEmpty&&z.all fj else h.um i)&&c.all fj else if i=h.next then !z.isEmpty&&z.all fj else h.um i)=(λi=>if i=h.next then !c.isEmpty&&c.all fj else h.um i):=by
  funext i
  by_cases e:i=h.next <;> simp[e,hu]
 unfold Hp.put Hp.new
 simp only[e1,e2]
theorem C2(z c:List Value)(hl:c.length=z.length):splice z 0 c=c:=by
 unfold splice
 simp[←hl]
section
variable {w0:World}{h:Hp}{s:Nat}{K:av}
theorem cO{b n:Nat}{cs:List Value}(hB:w0.heap.size≤b)(hb:h.blk b=some cs)(hn:cs.length=n)(hk:K (.agg cs.toArray) h):aG w0 (.pointer (some ⟨b,0,none⟩)) n K h:=by
 rw[zV]
 exact ⟨cs,by simp[hb,←hn],λhlt=>by omega,hk⟩
theorem aq{b o:Nat}{cs:List Value}{v:Value}(hB:w0.heap.size≤b)(hb:h.blk b=some cs)(hv:cs[o]?=some v)(hk:K v h):al w0 (.pointer (some ⟨b,o,none⟩)) K h:=by
 rw[Yj]
 exact ⟨v,by simp[hb,hv],λhlt=>by omega,hk⟩
end
theorem SV(a:Addr)(n:Nat):au (.pointer (some a)) n=λK=>K (.pointer (some (a.add n))):=by funext K h;exact propext (MW a n)
theorem UZ(a:Addr):aF (.pointer (some a))=λK=>K (.pointer (some a)):=by funext K h;exact propext (YI a)
theorem Tc(m:av→Hp→Prop):ai (.bool true) true m=m:=by funext K h;exact propext (oP m)
theorem SZ(m:av→Hp→Prop):ai (.bool false) false m=m:=by funext K h;exact propext (oN m)
theorem Tb(m:av→Hp→Prop):ai (.bool true) false m=λK=>K undef:=by funext K h;exact propext (sE m)
theorem Ta(m:av→Hp→Prop):ai (.bool false) true m=λK=>K undef:=by funext K h;exact propext (oO m)
theorem Td(want:Bool)(m:av→Hp→Prop):ai undef want m=λK=>K undef:=by funext K h;exact propext (V6 want m)
theorem Ve(a b:Value):aQ (.bool true) a b=λK=>K a:=by funext K h;exact propext (kg a b)
theorem Vd(a b:Value):aQ (.bool false) a b=λK=>K b:=by funext K h;exact propext (jp a b)
theorem SY(x y:Hp→Prop):aB (.bool true) x y=x:=by funext h;exact propext (eF x y)
theorem SX(x y:Hp→Prop):aB (.bool false) x y=y:=by funext h;exact propext (eQ x y)
theorem Vq(s:Nat)(x:Value)(lo hi mx:Option Value):aD (cT s x lo hi mx)=cT s x lo hi mx:=by
 funext K h
 refine propext ⟨?_,?_⟩
 ·rintro ⟨v,⟨a,n,c,l,u,e1,e2,e3,e4,e5,e6⟩,k⟩
  refine ⟨a,n,c,l,u,e1,e2,e3,e4,e5,?_⟩
  cases mx with
  |none=>
   simp only at e6 ⊢
   split
   ·rename_i hc
    rw[if_pos hc]at e6
    obtain ⟨g1,ad,g2,g3,g4,rfl,-⟩:=e6
    exact ⟨g1,ad,g2,g3,g4,k⟩
   ·rename_i hc
    rw[if_neg hc]at e6
    obtain ⟨g1,rfl,-⟩:=e6
    exact ⟨g1,k⟩
  |some mv=>
   obtain ⟨m,g1,g2,g3,g4,rfl,-⟩:=e6
   exact ⟨m,g1,g2,g3,g4,k⟩
 ·rintro ⟨a,n,c,l,u,e1,e2,e3,e4,e5,e6⟩
  cases mx with
  |none=>
   simp only at e6
   split at e6
   ·rename_i hc
    obtain ⟨g1,ad,g2,g3,g4,g5⟩:=e6
    exact ⟨_,⟨a,n,c,l,u,e1,e2,e3,e4,e5,by show (if c=bA then _ else _);rw[if_pos hc];exact ⟨g1,ad,g2,g3,g4,rfl,rfl⟩⟩,g5⟩
   ·rename_i hc
    exact ⟨_,⟨a,n,c,l,u,e1,e2,e3,e4,e5,by show (if c=bA then _ else _);rw[if_neg hc];exact ⟨e6.1,rfl,rfl⟩⟩,e6.2⟩
  |some mv=>
   obtain ⟨m,g1,g2,g3,g4,g5⟩:=e6
   exact ⟨_,⟨a,n,c,l,u,e1,e2,e3,e4,e5,m,g1,g2,g3,g4,rfl,rfl⟩,g5⟩
def bL:Value→List Nat
 |.slice (some a) _ _=>[a.block]
 |_=>[]
theorem Src.frame{B s m:Nat}{h h':Hp}{x:Value}{ys:List Value}(hs:Src B h s x m ys)(hb:∀b cs,b∈bL x→h.blk b=some cs→h'.blk b=some cs):Src B h' s x m ys:=by
 unfold Src at hs ⊢
 split at hs
 ·exact hs
 ·rename_i a n c
  refine ⟨hs.1,?_⟩
  rcases hs.2 with h0|⟨h0,ad,rfl,hg,hcl⟩
  ·exact .inl h0
  ·refine .inr ⟨h0,ad,rfl,?_,hcl⟩
   obtain ⟨hsp,cs,hbk,hle,hv⟩:=Hp.getN_some hg
   obtain ⟨b,o,sp⟩:=ad
   simp only at hsp hbk hle hv
   subst hsp
   rw[lF,hb b cs (by simp[bL]) hbk,je,if_pos hle,hv]
 ·exact hs
theorem Src.step{w0:World}{B s m:Nat}{h h':Hp}{x:Value}{ys:List Value}{S S':List Nat}(hs:Src B h s x m ys)(f:Fit w0 h)(st:Step h h' S S')(hd:∀b,b∈bL x→b∉S):Src B h' s x m ys:=
 hs.frame λb cs hb hbk=>by rw[(st.keep b (f.lt b cs hbk) (hd b hb)).1];exact hbk
theorem Fit.new{w0:World}{h:Hp}(f:Fit w0 h){c:List Value}{s:Nat}(hc:∀v,v∈c→aE v=true):Fit w0 (h.new c s):=by
 refine ⟨by have:=f.base;simp;omega,λi hi=>?_,λb cs hb=>?_,λb cs hB hb v hv=>?_,λb x e=>by have:=f.lps b x e;simp;omega,λb cs hB hb hu=>?_⟩
 rotate_right
 ·simp only[iq]at hb
  have hu:(if b=h.next then !c.isEmpty&&c.all fj else h.um b)=true:=hu
  split at hb
  ·rename_i e
   rw[if_pos e]at hu
   cases hb
   exact (Bool.and_eq_true_iff.1 hu).2
  ·rename_i e
   rw[if_neg e]at hu
   exact f.um b cs hB hb hu
 ·have:i≠h.next:=by have:=f.base;omega
  simpa[this]using f.ext i hi
 ·simp at hb
  split at hb
  ·simp;omega
  ·have:=f.lt b cs hb;simp;omega
 ·simp at hb
  split at hb
  ·cases hb;exact hc v hv
  ·exact f.cell b cs hB hb v hv
theorem IC{w0:World}{h:Hp}(f:Fit w0 h){b:Nat}{c:List Value}(hB:w0.heap.size≤b)(hb:h.blk b=some c):h.put b c=h:=by
 have e1:(λi=>if i=b then some c else h.blk i)=h.blk:=by
  funext i
  split
  ·rename_i e;rw[e,hb]
  ·rfl
 have e2:(λi=>if i=b then h.um i&&c.all fj else h.um i)=h.um:=by
  funext i
  split
  ·rename_i e
   cases hu:h.um i with
   |false=>rfl
   |true=>rw[Bool.true_and];rw[e]at hu;exact f.um b c hB hb hu
  ·rfl
 unfold Hp.put
 rw[e1,e2]
theorem Fit.put{w0:World}{h:Hp}(f:Fit w0 h){p:Nat}{c:List Value}(hp:w0.heap.size≤p)(hlt:p<h.next)(hc:∀v,v∈c→aE v=true):Fit w0 (h.put p c):=by
 refine ⟨f.base,λi hi=>?_,λb cs hb=>?_,λb cs hB hb v hv=>?_,f.lps,λb cs hB hb hu=>?_⟩
 rotate_right
 ·simp only[cX]at hb
  have hu:(if b=p then h.um b&&c.all fj else h.um b)=true:=hu
  split at hb
  ·rename_i e
   rw[if_pos e]at hu
   cases hb
   exact (Bool.and_eq_true_iff.1 hu).2
  ·rename_i e
   rw[if_neg e]at hu
   exact f.um b cs hB hb hu
 ·have:i≠p:=by omega
  simpa[this]using f.ext i hi
 ·simp at hb
  split at hb
  ·simp;omega
  ·exact f.lt b cs hb
 ·simp at hb
  split at hb
  ·cases hb;exact hc v hv
  ·exact f.cell b cs hB hb v hv
theorem Dec.Of.map{α β:Type}{D:Dec α}{E:Dec β}{P:Program}{w0:World}{t:TypeId}{s:Nat}(hD:D.Of P w0 t s)(f:α→β)(he:∀a,E.e (f a)=D.e a)(hok:∀a,D.ok a→E.ok (f a))(hb:∀a,E.b (f a)≤D.b a)
  (hlen:∀b,(E.e b).length=s) (hcl:∀b,E.ok b→∀v,v∈E.e b→ClC w0.heap.size v):E.Of P w0 t s:=by
 refine ⟨hD.size,hlen,hcl,λ{H enc fuel cs x} hx hp=>?_⟩
 obtain ⟨a,rfl,o,b⟩:=hD.opens hx hp
 exact ⟨f a,(he a).symm,hok a o,cY (hb a) b⟩
theorem wa{α:Type}:(∀(l:List α) (i:Nat),l.toArray[i]?=l[i]?)∧(∀(a:α) (l:List α),(a::l)[0]?=some a)∧(∀(a:α) (l:List α) (i:Nat),(a::l)[i+1]?=l[i]?):=
 ⟨λ_ _=>xV,λ_ _=>tM,λ_ _ _=>xU⟩
theorem wd:(∀(a:Option Addr) (n c:Nat),aM (Value.slice a n c)=some (Value.int IntKind.i64 ↑n))∧
 (∀(s:ByteArray),cD (Value.string s)=some (Value.int IntKind.i64 ↑s.size))∧
  (∀(l:List UInt8),(str l).size=l.length)∧
   (∀(v:Value) (K:av),aa (some v) K=K v)∧
    (∀(a:Addr),aF (Value.pointer (some a))=λK=>K (Value.pointer (some a)))∧
     (∀(a:Addr) (n:Nat),au (Value.pointer (some a)) n=λK=>K (Value.pointer (some (a.add n))))∧
      (∀(b o n:Nat),(⟨b,o,none⟩:Addr).add n=⟨b,o+n,none⟩)∧
       (∀(n:Nat),0+n=n)∧
        (∀(n:Nat),n+0=n)∧
         (∀(v:Value),(af λK=>K v)=λK=>K v)∧
          (∀(x:Value),af (aF x)=aF x)∧
           (∀(x:Value) (n:Nat),af (au x n)=au x n)∧
            (∀(o:Option Value),af (aa o)=aa o)∧
             (∀(x:Value) (want:Bool) (m:av→Hp→Prop),
               af (ai x want m)=ai x want (af m))∧
              (∀(s:Nat) (x i:Value),af (aJ s x i)=aJ s x i)∧
               (∀(c a b:Value),af (aQ c a b)=aQ c a b)∧
                (∀{w0:World} (x:Value),aD (al w0 x)=al w0 x)∧
                 (∀{w0:World} (x:Value) (n:Nat),aD (aG w0 x n)=aG w0 x n)∧
                  (∀{w0:World} (x:Value),aD (dW w0 x)=dW w0 x)∧
                   (∀(x:Value) (want:Bool) (m:av→Hp→Prop),
                     aD (ai x want m)=ai x want (aD m))∧
                    (∀(s:Nat) (x:Value) (lo hi mx:Option Value),
                      aD (cT s x lo hi mx)=cT s x lo hi mx)∧
                     (∀(v:Value),(aD λK=>K v)=λK=>K v)∧
                      (∀(k:Hp→Prop),bN k=k)∧
                       (∀(k:Hp→Prop),aO [k]=k)∧
                        (∀(k:Hp→Prop),aP [] k=k)∧
                         (∀(m:av→Hp→Prop),ai (Value.bool true) true m=m)∧
                          (∀(m:av→Hp→Prop),ai (Value.bool false) false m=m)∧
                           (∀(m:av→Hp→Prop),
                             ai (Value.bool true) false m=λK=>K undef)∧
                            (∀(m:av→Hp→Prop),
                              ai (Value.bool false) true m=λK=>K undef)∧
                             (∀(want:Bool) (m:av→Hp→Prop),
                               ai undef want m=λK=>K undef)∧
                              (∀(a b:Value),
                                aQ (Value.bool true) a b=λK=>K a)∧
                               (∀(a b:Value),
                                 aQ (Value.bool false) a b=λK=>K b)∧
                                (∀(x y:Hp→Prop),aB (Value.bool true) x y=x)∧
                                 (∀(x y:Hp→Prop),
                                   aB (Value.bool false) x y=y)∧
                                  (∀(k:IntKind) (a b:Int),
                                    ah BinOp.add (Value.int k a) (Value.int k b) =
                                     some (Value.int k (k.wrap (a+b))))∧
                                   (∀(k:IntKind) (a b:Int),
                                     ah BinOp.sub (Value.int k a)
                                       (Value.int k b) =
                                      some (Value.int k (k.wrap (a-b))))∧
                                    (∀(k:IntKind) (a b:Int),
                                      ah BinOp.mul (Value.int k a)
                                        (Value.int k b) =
                                       some (Value.int k (k.wrap (a*b))))∧
                                     (∀(k:IntKind) (a b:Int),
                                       ah BinOp.eql (Value.int k a)
                                         (Value.int k b) =
                                        some (Value.bool (a==b)))∧
                                      (∀(k:IntKind) (a b:Int),
                                        ah BinOp.neq (Value.int k a)
                                          (Value.int k b) =
                                         some (Value.bool (a != b)))∧
                                       (∀(k:IntKind) (a b:Int),
                                         ah BinOp.lss (Value.int k a)
                                           (Value.int k b) =
                                          some
                                           (Value.bool (decide (a<b))))∧
                                        (∀(k:IntKind) (a b:Int),
                                          ah BinOp.leq (Value.int k a)
                                            (Value.int k b) =
                                           some
                                            (Value.bool (decide (a≤b))))∧
                                         (∀(k:IntKind) (a b:Int),
                                           ah BinOp.gtr (Value.int k a)
                                             (Value.int k b) =
                                            some
                                             (Value.bool
                                              (decide (b<a))))∧
                                          (∀(k:IntKind) (a b:Int),
                                            ah BinOp.geq (Value.int k a)
                                              (Value.int k b) =
                                             some
                                              (Value.bool
                                               (decide (b≤a))))∧
                                           (∀(b:Bool),
                                             unA UnOp.not (Value.bool b) =
                                              some (Value.bool !b))∧
                                            (!true)=false∧
                                             (!false)=true∧
                                              (∀(k k':IntKind)
                                                (n:Int),
                                                bG k
                                                  (Value.int k' n) =
                                                 some
                                                  (Value.int k
                                                   (k.wrap n)))∧
                                               ∀(vs:Array Value)
                                                (i:Nat),
                                                aV (Value.tuple vs)
                                                  i =
                                                 vs[i]? :=
 ⟨@vA,@gM,@cL,@Vf,@UZ,@SV,@addr_add,@eO,@ri,@Gw,@Vj,@Vg,@Gx,@Vh,@Vi,@Vk,@Vo,@Vp,@Gy,@Vm,@Vq,@Vn,@F1,@SW,@Vr,@Tc,@SZ,@Tb,@Ta,@Td,@Ve,@Vd,@SY,@SX,@gJ,@rD,@nz,@mA,@jh,@fQ,@Np,@iS,@lm,@ad5,@ix,@ju,@gC,@yX⟩
end
section
inductive Rows(w0:World)(h:Hp):List Value→List (List UInt8)→List Nat→Prop
 |nil:Rows w0 h [] [] []
 |snoc {vs:List Value} {rs:List (List UInt8)} {S:List Nat} {v:Value} {r:List UInt8} {T:List Nat}:Rows w0 h vs rs S→Vec w0 h 1 v r.length (bvs r) T→(∀b,b∈T→b∉S)→Rows w0 h (vs++[v]) (rs++[r]) (S++T)
section
variable {w0:World}{h h':Hp}{vs:List Value}{rs:List (List UInt8)}{S:List Nat}
theorem Rows.len(q:Rows w0 h vs rs S):vs.length=rs.length:=by
 induction q with
 |nil=>rfl
 |snoc _ _ _ ih=>simp[ih]
theorem Rows.lt(q:Rows w0 h vs rs S):∀b,b∈S→w0.heap.size≤b∧b<h.next:=by
 induction q with
 |nil=>simp
 |snoc _ v _ ih=>
  intro b hb
  rcases aS.1 hb with e|e
  ·exact ih b e
  ·exact v.lt b e
theorem Rows.frame(q:Rows w0 h vs rs S){T T':List Nat}(st:Step h h' T T')(hd:∀b,b∈S→b∉T):Rows w0 h' vs rs S:=by
 induction q with
 |nil=>exact .nil
 |snoc _ v d ih=>exact .snoc (ih λb hb=>hd b (by simp[hb])) (v.frame st λb hb=>hd b (by simp[hb])) d
theorem Rows.put(q:Rows w0 h vs rs S){p:Nat}(hp:p∉S)(c:List Value):Rows w0 (h.put p c) vs rs S:=by
 induction q with
 |nil=>exact .nil
 |snoc _ v d ih=>exact .snoc (ih λe=>hp (by simp[e])) (v.put (λe=>hp (by simp[e])) c) d
theorem Rows.cell(q:Rows w0 h vs rs S):∀v,v∈vs→aE v=true∧v≠junk:=by
 induction q with
 |nil=>simp
 |snoc _ v d ih=>
  intro x hx
  rcases aS.1 hx with e|e
  ·exact ih x e
  ·simp at e;subst e;obtain ⟨a,c,rfl⟩:=v.slice;simp
theorem Rows.get(q:Rows w0 h vs rs S){i:Nat}{r:List UInt8}(hi:rs[i]?=some r):∃v T,vs[i]?=some v∧Vec w0 h 1 v r.length (bvs r) T∧∀b,b∈T→b∈S:=by
 induction q with
 |nil=>simp at hi
 |snoc q v d ih=>
  rename_i vs rs S v0 r0 T
  have hl:=q.len
  by_cases h1:i<rs.length
  ·rw[jv h1]at hi
   obtain ⟨x,T1,e,vx,hs⟩:=ih hi
   exact ⟨x,T1,by rw[jv (by omega)];exact e,vx,λb hb=>by simp[hs b hb]⟩
  ·rw[i6 (by omega)]at hi
   have h2:i-rs.length=0:=by
    rcases ic (i-rs.length) with e|e
    ·exact e
    ·rw[fF (by simp;omega)]at hi;simp at hi
   rw[h2]at hi
   simp at hi
   subst hi
   exact ⟨v0,T,by rw[i6 (by omega),show i-vs.length=0 by omega];rfl,v,λb hb=>by simp[hb]⟩
theorem Rows.last{r:List UInt8}(q:Rows w0 h vs (rs++[r]) S):∃vs' v S' T,vs=vs'++[v]∧Rows w0 h vs' rs S'∧Vec w0 h 1 v r.length (bvs r) T∧(∀b,b∈T→b∉S')∧S=S'++T:=by
 generalize hg:rs++[r]=rr at q
 cases q with
 |nil=>simp at hg
 |snoc q v d=>
  obtain ⟨rfl,e⟩:=List.append_inj' hg rfl
  simp at e
  subst e
  exact ⟨_,_,_,_,rfl,q,v,d,rfl⟩
def iR(w0:World)(h:Hp)(x:Value)(rs:List (List UInt8))(S:List Nat):Prop:=
 ∃vs T S0,Vec w0 h 1 x rs.length vs T∧Rows w0 h vs rs S0∧(∀b,b∈T→b∉S0)∧S=T++S0
variable {x:Value}
theorem iR.nil:iR w0 h (.slice none 0 0) [] []:=⟨[],[],[],.nil,.nil,by simp,rfl⟩
theorem iR.lt(q:iR w0 h x rs S):∀b,b∈S→w0.heap.size≤b∧b<h.next:=by
 obtain ⟨vs,T,S0,v,r,d,rfl⟩:=q
 intro b hb
 rcases aS.1 hb with e|e
 ·exact v.lt b e
 ·exact r.lt b e
theorem iR.frame(q:iR w0 h x rs S){T T':List Nat}(st:Step h h' T T')(hd:∀b,b∈S→b∉T):iR w0 h' x rs S:=by
 obtain ⟨vs,U,S0,v,r,d,rfl⟩:=q
 exact ⟨vs,U,S0,v.frame st λb hb=>hd b (by simp[hb]),r.frame st λb hb=>hd b (by simp[hb]),d,rfl⟩
theorem iR.put(q:iR w0 h x rs S){p:Nat}(hp:p∉S)(c:List Value):iR w0 (h.put p c) x rs S:=by
 obtain ⟨vs,U,S0,v,r,d,rfl⟩:=q
 exact ⟨vs,U,S0,v.put (λe=>hp (by simp[e])) c,r.put (λe=>hp (by simp[e])) c,d,rfl⟩
theorem iR.slice(q:iR w0 h x rs S):∃a c,x=.slice a rs.length c:=by
 obtain ⟨vs,U,S0,v,r,d,rfl⟩:=q
 exact v.slice
theorem iR.get(q:iR w0 h x rs S){i:Nat}{r:List UInt8}(hi:rs[i]?=some r):∃b vs v T,x=.slice (some ⟨b,0,none⟩) rs.length bA∧w0.heap.size≤b∧h.blk b=some vs∧h.esz b=1∧vs[i]?=some v∧vs.length=rs.length∧Vec w0 h 1 v r.length (bvs r) T∧(∀c,c∈T→c∈S):=by
 obtain ⟨vs,U,S0,v,rr,d,rfl⟩:=q
 obtain ⟨y,T,e,vy,hs⟩:=rr.get hi
 rcases v with ⟨rfl,e1,rfl,rfl⟩|⟨b,rfl,rfl,hB,hlt,hbk,hes,hl⟩
 ·simp at e
 ·exact ⟨b,vs,y,T,rfl,hB,hbk,hes,e,by simpa using hl,vy,λc hc=>by simp[hs c hc]⟩
end
end
