/- Arguments that lie in what was there: how structs and slices of them are opened. -/
import Derived.Test.YtfmoemconapmhaaGreatRows
import Derived.Test.YtfmoemconapmhaaGreatAh19
import Derived.Test.YtfmoemconapmhaaGreatAh20
set_option linter.all false
namespace Go.Proofs.YtfmoemconapmhaaGreat.Ah
open Go
section
open Go Go.ChangeShapes Go.WideShapes
structure Dec (α:Type) where
 e:α→List Value
 ok:α→Prop
 b:α→Nat
structure Dec.Of {α:Type} (D:Dec α) (P:Program) (w0:World) (t:TypeId) (s:Nat):Prop where
 size:P.cellsOf t=s
 len:∀ a,(D.e a).length=s
 cl:∀ a,D.ok a→∀ v,v∈D.e a→ClC w0.heap.size v
 opens:∀ {H:Type} {enc:TypeId × Value→H} {fuel:Nat} {cs:List Value} {x:DataW H × List MemPlace},DataW.trod enc P w0 0 (λ _=>true) true fuel t cs=some x→(∀ p,p∈x.2→p.block < w0.heap.size)→∃ a,cs=D.e a∧D.ok a∧D.b a≤Rows.uptoBulk x.1
theorem qz4 (B:Nat) (k:IntKind) (n:Int):ClC B (.int k n):=⟨q0nz B k n,rfl⟩
theorem qwq (B:Nat) (s:ByteArray):ClC B (.string s):=⟨q0jk B s,rfl⟩
theorem qyj (B:Nat) (b:Bool):ClC B (.bool b):=⟨q0na B b,rfl⟩
def q4y (k:IntKind):Dec Int:=⟨λ n=>[.int k n],λ n=>k.min≤n∧n≤k.max,λ _=>1⟩
def q00q (k:IntKind):Dec Nat:=⟨λ n=>[.int k n],λ n=>n < 2 ^ k.bits,λ _=>1⟩
def q7j:Dec (List UInt8):=⟨λ l=>[.string (str l)],λ _=>True,λ l=>l.length + 1⟩
def qb3:Dec Bool:=⟨λ q=>[.bool q],λ _=>True,λ _=>1⟩
section
variable {P:Program} {w0:World} {t:TypeId}
theorem qmh {k:IntKind} (ht:P.underlying t=some (.int k)) (hc:P.cellsOf t=1):(q4y k).Of P w0 t 1:=by
 refine ⟨hc,λ _=>rfl,λ a _ v hv=>?_,λ {H enc fuel cs x} hx hp=>?_⟩
 ·simp only [q4y,List.mem_singleton] at hv; subst hv; exact qz4 _ _ _
 ·obtain ⟨n,rfl,rfl,hw⟩:=DataW.trod_int ht hx
  refine ⟨n,rfl,?_,by simp [q4y,Rows.uptoBulk]⟩
  simpa [q4y,Lit.wf] using hw
theorem qzm (ht:P.underlying t=some .string) (hc:P.cellsOf t=1):q7j.Of P w0 t 1:=by
 refine ⟨hc,λ _=>rfl,λ a _ v hv=>?_,λ {H enc fuel cs x} hx hp=>?_⟩
 ·simp only [q7j,List.mem_singleton] at hv; subst hv; exact qwq _ _
 ·obtain ⟨s,rfl,rfl,hw⟩:=DataW.trod_string ht hx
  exact ⟨s.data.toList,by simp [q7j],trivial,by simp [q7j,Rows.uptoBulk]⟩
theorem q0kx (ht:P.underlying t=some .bool) (hc:P.cellsOf t=1):qb3.Of P w0 t 1:=by
 refine ⟨hc,λ _=>rfl,λ a _ v hv=>?_,λ {H enc fuel cs x} hx hp=>?_⟩
 ·simp only [qb3,List.mem_singleton] at hv; subst hv; exact qyj _ _
 ·obtain ⟨q,rfl,rfl⟩:=DataW.trod_bool ht hx
  exact ⟨q,rfl,trivial,by simp [qb3,Rows.uptoBulk]⟩
def q6k:Dec Unit:=⟨λ _=>[],λ _=>True,λ _=>0⟩
def q3w {α β:Type} (D:Dec α) (E:Dec β):Dec (α × β):=⟨λ p=>D.e p.1++E.e p.2,λ p=>D.ok p.1∧E.ok p.2,λ p=>D.b p.1 + E.b p.2⟩
structure Dec.OfFs {α:Type} (D:Dec α) (P:Program) (w0:World) (fs:List Field) (o s:Nat):Prop where
 len:∀ a,(D.e a).length=s
 cl:∀ a,D.ok a→∀ v,v∈D.e a→ClC w0.heap.size v
 opens:∀ {H:Type} {enc:TypeId × Value→H} {n:Nat} {cs:List Value} {xs:List (DataW H × List MemPlace)},cs.length=o + s→xs.length=fs.length→
  (∀ (i:Nat) f,fs[i]?=some f→DataW.trod enc P w0 0 (λ _=>true) true n f.type ((cs.drop f.offset).take (P.cellsOf f.type))=xs[i]?)→(∀ y,y∈xs→∀ p,p∈y.2→p.block < w0.heap.size)→∃ a,cs.drop o=D.e a∧D.ok a∧D.b a≤Rows.uptoBulkAll (xs.map (·.1))
theorem qyg {o:Nat}:q6k.OfFs P w0 [] o 0:=by
 refine ⟨λ _=>rfl,λ a _ v hv=>by simp [q6k] at hv,λ {H enc n cs xs} hl hx h _=>⟨(),?_,trivial,by simp [q6k]⟩⟩
 simp only [q6k]
 exact List.drop_eq_nil_of_le (by omega)
theorem qak {α β:Type} {D:Dec α} {E:Dec β} {f:Field} {fs:List Field} {o s s':Nat} (hf:f.offset=o) (hD:D.Of P w0 f.type s) (hE:E.OfFs P w0 fs (o + s) s'):(q3w D E).OfFs P w0 (f :: fs) o (s + s'):=by
 refine ⟨λ a=>by simp [q3w,hD.len,hE.len],λ a ha v hv=>?_,λ {H enc n cs xs} hl hx h hp=>?_⟩
 ·rcases List.mem_append.1 hv with e | e
  ·exact hD.cl _ ha.1 v e
  ·exact hE.cl _ ha.2 v e
 ·cases xs with
  | nil=>simp at hx
  | cons x xs=>
   have h0:=h 0 f rfl
   simp only [List.getElem?_cons_zero] at h0
   rw [hf,hD.size] at h0
   obtain ⟨a,e1,o1,b1⟩:=hD.opens h0 (hp x (by simp))
   obtain ⟨b,e2,o2,b2⟩:=hE.opens (cs:=cs) (xs:=xs) (by omega) (by simpa using hx) (λ i g hg=>by simpa using h (i + 1) g (by simpa using hg)) (λ y hy=>hp y (by simp [hy]))
   refine ⟨(a,b),?_,⟨o1,o2⟩,by simp only [q3w,List.map_cons,Rows.uptoBulkAll]; omega⟩
   simp only [q3w]
   rw [← e1,← e2,← List.drop_drop,List.take_append_drop]
def q9f {α:Type} (D:Dec α):Dec α:=⟨D.e,D.ok,λ a=>D.b a + 1⟩
theorem qwk {α:Type} {D:Dec α} {fs:Array Field} {s:Nat} (ht:P.underlying t=some (.struct fs)) (hc:P.cellsOf t=s) (hD:D.OfFs P w0 fs.toList 0 s):(q9f D).Of P w0 t s:=by
 refine ⟨hc,hD.len,hD.cl,λ {H enc fuel cs x} hx hp=>?_⟩
 obtain ⟨xs,n,rfl,rfl,hl,hxl,h⟩:=DataW.trod_struct ht hx
 obtain ⟨a,e1,o1,b1⟩:=hD.opens (cs:=cs) (xs:=xs) (by omega) (by simpa using hxl) (λ i f hf=>h i f (by simpa using hf)) (λ y hy p hq=>hp p (List.mem_flatMap.2 ⟨y,hy,hq⟩))
 exact ⟨a,by rw [List.drop_zero] at e1; exact e1,o1,by simp only [q9f,Rows.uptoBulk]; omega⟩
theorem q0ng {α:Type} {D:Dec α} {fs:Array Field} {s:Nat} {H:Type} {enc:TypeId × Value→H} {r:Reach} {b0:Nat} {v:Value} {d:DataW H} {ps:List MemPlace}
  (ht:P.underlying t=some (.struct fs)) (hD:D.Of P w0 t s) (hval:Value.okWide P w0 r b0 t v) (hd:DataW.Trod enc P w0 0 (λ _=>true) true t v d ps) (hp:∀ p,p∈ps→p.block < w0.heap.size):
  ∃ a,v=.agg (D.e a).toArray∧D.ok a∧D.b a≤Rows.uptoBulk d:=by
 obtain ⟨cs,rfl,hs⟩:=okWide_struct ht hval
 obtain ⟨fuel,hf⟩:=hd
 obtain ⟨a,e1,o1,b1⟩:=hD.opens hf hp
 simp only [Value.cells] at e1
 exact ⟨a,by rw [← e1],o1,b1⟩
theorem q0oa {B:Nat} {cs:List Value} (h:∀ v,v∈cs→ClC B v):Cl B (.agg cs.toArray):=by
 intro nx ι
 refine .agg _ _ rfl (λ i v v' a b=>?_) λ i v a=>?_
 ·rw [a] at b; cases b; exact (h v (by simpa using List.mem_of_getElem? (by simpa using a))).1 nx ι
 ·exact (h v (by simpa using List.mem_of_getElem? (by simpa using a))).2
structure q7h (w0:World) (s:Nat) (v:Value) (n:Nat) (ys:List Value):Prop where
 sl:∃ a c,v=.slice a n c∧n≤c∧c < q0b
 cl:Cl w0.heap.size v
 src:∀ h,Fit w0 h→Src w0.heap.size h s v n ys
theorem q0jr {W:World} {a:Addr} {n:Nat} {cs:List Value} (hn:0 < n) (h:∀ i,i < n→W.cell? (a.add i)=cs[i]?) (hl:cs.length=n) {h0:Hp} (f:Fit W h0):a.block < W.heap.size∧a.spot=none∧h0.getN a n=some cs:=by
 have h1:=h 0 hn
 have h2:∃ v,cs[0]?=some v:=⟨cs[0]'(by omega),by simp⟩
 obtain ⟨v,hv⟩:=h2
 rw [hv] at h1
 have a0:a.add 0=a:=by simp [Addr.add]
 rw [a0] at h1
 unfold World.cell? at h1
 split at h1
 ·rename_i c el fr hb
  have hlt:a.block < W.heap.size:=by
   rcases Nat.lt_or_ge a.block W.heap.size with q | q
   ·exact q
   ·rw [Array.getElem?_eq_none q] at hb; simp at hb
  split at h1
  ·simp at h1
  ·rename_i hs
   have hs:a.spot=none:=by simpa using hs
   refine ⟨hlt,hs,?_⟩
   have hblk:h0.blk a.block=some c.toList:=by rw [f.ext _ hlt]; simp [qd5,hb]
   obtain ⟨b,o,sp⟩:=a
   simp only at hs hblk hb h ⊢
   subst hs
   have hall:∀ i,i < n→c.toList[o + i]?=cs[i]?:=by
    intro i hi
    have:=h i hi
    simp only [addr_add,World.cell?,hb] at this
    simpa using this
   have hle:o + n≤c.toList.length:=by
    have:=hall (n - 1) (by omega)
    rw [List.getElem?_eq_getElem (by omega:n - 1 < cs.length)] at this
    have:=(List.getElem?_eq_some_iff.1 this).1
    omega
   rw [q6e,hblk,Option.bind_some,if_pos hle]
   congr 1
   apply List.ext_getElem?
   intro i
   by_cases hi:i < n
   ·rw [List.getElem?_take,if_pos hi,List.getElem?_drop,hall i hi]
   ·rw [List.getElem?_take,if_neg hi,List.getElem?_eq_none (by omega)]
 ·simp at h1
theorem q0de {e:TypeId} {W:World} {r:Reach} {b0:Nat} {v:Value} (ht:P.underlying t=some (.slice e)) (h:Value.okWide P W r b0 t v):v=.slice none 0 0∨∃ a n c,v=.slice (some a) n c∧n≤c∧(c:Int)≤IntKind.i64.max∧a.block < W.heap.size:=by
 simp only [Value.okWide,ht,Cell.okWide] at h
 cases v with
 | slice a n c=>
  cases a with
  | none=>
   left
   simp only [Cell.ok,ht] at h
   split at h <;> simp_all
  | some a=>
   right
   simp only [Cell.ok,ht] at h
   obtain ⟨h1,h2,h3⟩:=h
   refine ⟨a,n,c,rfl,h1,h2,?_⟩
   obtain ⟨-,-,row,cells,h4,-⟩:=h3
   unfold World.shape? at h4
   rcases Nat.lt_or_ge a.block W.heap.size with q | q
   ·exact q
   ·rw [Array.getElem?_eq_none q] at h4; simp at h4
 | _=>simp_all [Cell.ok]
theorem q0mg {α:Type} {D:Dec α} {e:TypeId} {s:Nat} {H:Type} {enc:TypeId × Value→H} {r:Reach} {b0:Nat} {v:Value} {d:DataW H} {ps:List MemPlace}
  (ht:P.underlying t=some (.slice e)) (hs:0 < s) (hD:D.Of P w0 e s) (hval:Value.okWide P w0 r b0 t v) (hd:DataW.Trod enc P w0 0 (λ _=>true) true t v d ps) (hp:∀ p,p∈ps→p.block < w0.heap.size):
  ∃ xs:List α,q7h w0 s v xs.length (xs.flatMap D.e)∧(∀ a,a∈xs→D.ok a)∧(xs.map D.b).sum + 1≤Rows.uptoBulk d:=by
 rcases q0de ht hval with rfl | ⟨a,n,c,rfl,hn,hc,ha⟩
 ·obtain ⟨fuel,hf⟩:=hd
  refine ⟨[],⟨⟨none,0,rfl,Nat.le_refl _,by decide⟩,λ _ _=>.snil,λ h f=>?_⟩,by simp,?_⟩
  ·simp [Src]
  ·rcases DataW.trod_slice ht hf with ⟨-,h0⟩ | ⟨a,len,cap,elems,rest,n,rfl,h1,-⟩
   ·cases h0; simp [Rows.uptoBulk]
   ·simp [Value.cells] at h1
 ·obtain ⟨fuel,hf⟩:=hd
  have hcu:c < q0b:=by
   have:(c:Int)≤9223372036854775807:=hc
   show c < 18446744073709551616
   omega
  rcases DataW.trod_slice ht hf with ⟨h0,-⟩ | ⟨a',len,cap,elems,rest,m,rfl,h1,hx,hb,hl,hm,hlen,hel,-⟩
  ·simp [Value.cells] at h0
  ·simp only [Value.cells,List.toList_toArray,List.cons.injEq,Value.slice.injEq,Option.some.injEq,and_true] at h1
   obtain ⟨rfl,rfl,rfl⟩:=h1
   cases hx
   rw [hD.size] at hel
   have each:∀ i,i < n→∃ y,elems[i]?=some y∧∃ b,D.ok b∧D.b b≤Rows.uptoBulk y.1∧∀ j,j < s→w0.cell? (a.add (i * s + j))=(D.e b)[j]?:=by
    intro i hi
    have h2:=hel i hi
    rw [List.getElem?_eq_getElem (by omega:i < elems.length)] at h2 ⊢
    rw [Option.bind_eq_some_iff] at h2
    obtain ⟨cs,h3,h4⟩:=h2
    obtain ⟨b,rfl,o1,b1⟩:=hD.opens h4 (λ p hq=>hp p (by simp only [List.mem_append,List.mem_flatMap]; exact .inr ⟨_,.inl (List.getElem_mem _),hq⟩))
    obtain ⟨-,-,h5⟩:=World.cells?_some h3
    refine ⟨_,rfl,b,o1,b1,λ j hj=>?_⟩
    rw [← h5 j hj]
    congr 1
    obtain ⟨bl,o,sp⟩:=a
    unfold Addr.add
    split <;> split <;> split <;> simp_all <;> omega
   have all:∀ k,k≤n→∃ xs:List α,xs.length=k∧(∀ b,b∈xs→D.ok b)∧(xs.map D.b).sum≤Rows.uptoBulkAll ((elems.take k).map (·.1))∧∀ j,j < k * s→w0.cell? (a.add j)=(xs.flatMap D.e)[j]?:=by
    intro k
    induction k with
    | zero=>intro _; exact ⟨[],rfl,by simp,by simp,λ j hj=>by omega⟩
    | succ k ih=>
     intro hk
     obtain ⟨xs,l1,o1,b1,c1⟩:=ih (by omega)
     obtain ⟨y,hy,b,o2,b2,c2⟩:=each k (by omega)
     have hfl:(xs.flatMap D.e).length=k * s:=by
      have:∀ l:List α,(l.flatMap D.e).length=l.length * s:=by
       intro l
       induction l with
       | nil=>simp
       | cons x l ih=>simp [hD.len,ih,Nat.add_mul]; omega
      rw [this,l1]
     refine ⟨xs++[b],by simp [l1],λ b' hb'=>?_,?_,λ j hj=>?_⟩
     ·rcases List.mem_append.1 hb' with q | q
      ·exact o1 _ q
      ·simp at q; subst q; exact o2
     ·have ht:elems.take (k + 1)=elems.take k++[y]:=by
       rw [List.take_add_one,hy]; rfl
      have happ:∀ l m:List (DataW H),Rows.uptoBulkAll (l++m)=Rows.uptoBulkAll l + Rows.uptoBulkAll m:=by
       intro l m
       induction l with
       | nil=>simp [Rows.uptoBulkAll]
       | cons x l ih=>simp [Rows.uptoBulkAll,ih]; omega
      rw [ht,List.map_append,List.map_append,happ]
      simp only [List.map_cons,List.map_nil,List.sum_append,List.sum_cons,List.sum_nil,Rows.uptoBulkAll]
      omega
     ·rw [Nat.add_mul,Nat.one_mul] at hj
      rw [List.flatMap_append]
      by_cases hjk:j < k * s
      ·rw [c1 j hjk,List.getElem?_append_left (by omega)]
      ·rw [List.getElem?_append_right (by omega),hfl]
       have:=c2 (j - k * s) (by omega)
       rw [show k * s + (j - k * s)=j by omega] at this
       simpa using this
   obtain ⟨xs,l1,o1,b1,c1⟩:=all n (Nat.le_refl _)
   have hfl:(xs.flatMap D.e).length=n * s:=by
    have:∀ l:List α,(l.flatMap D.e).length=l.length * s:=by
     intro l
     induction l with
     | nil=>simp
     | cons x l ih=>simp [hD.len,ih,Nat.add_mul]; omega
    rw [this,l1]
   refine ⟨xs,?_,o1,?_⟩
   ·rw [l1]
    refine ⟨⟨_,_,rfl,hn,hcu⟩,λ nx ι=>.sext a n c ha hn hcu,λ h f=>⟨Nat.le_refl _,?_⟩⟩
    by_cases h0:n=0
    ·subst h0; left; exact ⟨rfl,List.eq_nil_of_length_eq_zero (by simpa using hfl)⟩
    ·right
     have hpos:0 < n * s:=Nat.mul_pos (by omega) hs
     obtain ⟨q1,q2,q3⟩:=q0jr hpos c1 hfl f
     refine ⟨by omega,a,rfl,q3,λ _ v hv=>?_⟩
     obtain ⟨b,hb,hv⟩:=List.mem_flatMap.1 hv
     exact hD.cl b (o1 b hb) v hv
   ·rw [List.take_of_length_le (by omega)] at b1
    simp only [Rows.uptoBulk]
    omega
end
theorem qvl {α:Type} {e:α→List Value} {s:Nat} (he:∀ a,(e a).length=s):∀ (xs:List α) (i:Nat) (a:α),xs[i]?=some a→((xs.flatMap e).drop (i * s)).take s=e a:=by
 intro xs
 induction xs with
 | nil=>intro i a h; simp at h
 | cons x xs ih=>
  intro i a h
  cases i with
  | zero=>
   simp at h
   subst h
   simp [List.flatMap_cons,← he x]
  | succ i=>
   simp at h
   rw [List.flatMap_cons,Nat.add_mul,Nat.one_mul,Nat.add_comm,← he x,← List.drop_drop,List.drop_left,he x]
   exact ih i a h
end
section
theorem q0mh (h:Hp) (z c:List Value) (s:Nat) (hu:c.all q2d=false):(h.new z s).put h.next c=h.new c s:=by
 have e1:(λ i=>if i=h.next then some c else if i=h.next then some z else h.blk i)=(λ i=>if i=h.next then some c else h.blk i):=by
  funext i
  by_cases e:i=h.next <;> simp [e]
 have e2:(λ i=>if i=h.next then (if i=h.next then !z.isEmpty && z.all q2d else h.um i) && c.all q2d else if i=h.next then !z.isEmpty && z.all q2d else h.um i)=(λ i=>if i=h.next then !c.isEmpty && c.all q2d else h.um i):=by
  funext i
  by_cases e:i=h.next <;> simp [e,hu]
 unfold Hp.put Hp.new
 simp only [e1,e2]
theorem qld (z c:List Value) (hl:c.length=z.length):splice z 0 c=c:=by
 unfold splice
 simp [← hl]
section
variable {w0:World} {h:Hp} {s:Nat} {K:qh}
theorem q16 {b n:Nat} {cs:List Value} (hB:w0.heap.size≤b) (hb:h.blk b=some cs) (hn:cs.length=n) (hk:K (.agg cs.toArray) h):qw w0 (.pointer (some ⟨b,0,none⟩)) n K h:=by
 rw [qlg]
 exact ⟨cs,by simp [hb,← hn],λ hlt=>by omega,hk⟩
theorem qj {b o:Nat} {cs:List Value} {v:Value} (hB:w0.heap.size≤b) (hb:h.blk b=some cs) (hv:cs[o]?=some v) (hk:K v h):qg w0 (.pointer (some ⟨b,o,none⟩)) K h:=by
 rw [q0jo]
 exact ⟨v,by simp [hb,hv],λ hlt=>by omega,hk⟩
end
theorem q0jh (a:Addr) (n:Nat):qk (.pointer (some a)) n=λ K=>K (.pointer (some (a.add n))):=by funext K h; exact propext (q0kz a n)
theorem q0ia (a:Addr):q02 (.pointer (some a))=λ K=>K (.pointer (some a)):=by funext K h; exact propext (q0k6 a)
theorem q0gc (m:qh→Hp→Prop):qe (.bool true) true m=m:=by funext K h; exact propext (qc9 m)
theorem q0ht (m:qh→Hp→Prop):qe (.bool false) false m=m:=by funext K h; exact propext (q0id m)
theorem q0gl (m:qh→Hp→Prop):qe (.bool true) false m=λ K=>K undef:=by funext K h; exact propext (q0j4 m)
theorem q0h6 (m:qh→Hp→Prop):qe (.bool false) true m=λ K=>K undef:=by funext K h; exact propext (qc8 m)
theorem q0cy (want:Bool) (m:qh→Hp→Prop):qe undef want m=λ K=>K undef:=by funext K h; exact propext (q0dl want m)
theorem q0ey (a b:Value):q0a (.bool true) a b=λ K=>K a:=by funext K h; exact propext (qc6 a b)
theorem q0dt (a b:Value):q0a (.bool false) a b=λ K=>K b:=by funext K h; exact propext (qby a b)
theorem q0f3 (x y:Hp→Prop):qt (.bool true) x y=x:=by funext h; exact propext (q3p x y)
theorem q0dr (x y:Hp→Prop):qt (.bool false) x y=y:=by funext h; exact propext (q3n x y)
theorem q0dh (s:Nat) (x:Value) (lo hi mx:Option Value):qz (q1e s x lo hi mx)=q1e s x lo hi mx:=by
 funext K h
 refine propext ⟨?_,?_⟩
 ·rintro ⟨v,⟨a,n,c,l,u,e1,e2,e3,e4,e5,e6⟩,k⟩
  refine ⟨a,n,c,l,u,e1,e2,e3,e4,e5,?_⟩
  cases mx with
  | none=>
   simp only at e6 ⊢
   split
   ·rename_i hc
    rw [if_pos hc] at e6
    obtain ⟨g1,ad,g2,g3,g4,rfl,-⟩:=e6
    exact ⟨g1,ad,g2,g3,g4,k⟩
   ·rename_i hc
    rw [if_neg hc] at e6
    obtain ⟨g1,rfl,-⟩:=e6
    exact ⟨g1,k⟩
  | some mv=>
   obtain ⟨m,g1,g2,g3,g4,rfl,-⟩:=e6
   exact ⟨m,g1,g2,g3,g4,k⟩
 ·rintro ⟨a,n,c,l,u,e1,e2,e3,e4,e5,e6⟩
  cases mx with
  | none=>
   simp only at e6
   split at e6
   ·rename_i hc
    obtain ⟨g1,ad,g2,g3,g4,g5⟩:=e6
    exact ⟨_,⟨a,n,c,l,u,e1,e2,e3,e4,e5,by show (if c=q0b then _ else _); rw [if_pos hc]; exact ⟨g1,ad,g2,g3,g4,rfl,rfl⟩⟩,g5⟩
   ·rename_i hc
    exact ⟨_,⟨a,n,c,l,u,e1,e2,e3,e4,e5,by show (if c=q0b then _ else _); rw [if_neg hc]; exact ⟨e6.1,rfl,rfl⟩⟩,e6.2⟩
  | some mv=>
   obtain ⟨m,g1,g2,g3,g4,g5⟩:=e6
   exact ⟨_,⟨a,n,c,l,u,e1,e2,e3,e4,e5,m,g1,g2,g3,g4,rfl,rfl⟩,g5⟩
def q0z:Value→List Nat
 | .slice (some a) _ _=>[a.block]
 | _=>[]
theorem Src.frame {B s m:Nat} {h h':Hp} {x:Value} {ys:List Value} (hs:Src B h s x m ys) (hb:∀ b cs,b∈q0z x→h.blk b=some cs→h'.blk b=some cs):Src B h' s x m ys:=by
 unfold Src at hs ⊢
 split at hs
 ·exact hs
 ·rename_i a n c
  refine ⟨hs.1,?_⟩
  rcases hs.2 with h0 | ⟨h0,ad,rfl,hg,hcl⟩
  ·exact .inl h0
  ·refine .inr ⟨h0,ad,rfl,?_,hcl⟩
   obtain ⟨hsp,cs,hbk,hle,hv⟩:=Hp.getN_some hg
   obtain ⟨b,o,sp⟩:=ad
   simp only at hsp hbk hle hv
   subst hsp
   rw [q6e,hb b cs (by simp [q0z]) hbk,Option.bind_some,if_pos hle,hv]
 ·exact hs
theorem Src.step {w0:World} {B s m:Nat} {h h':Hp} {x:Value} {ys:List Value} {S S':List Nat} (hs:Src B h s x m ys) (f:Fit w0 h) (st:Step h h' S S') (hd:∀ b,b∈q0z x→b∉S):Src B h' s x m ys:=
 hs.frame λ b cs hb hbk=>by rw [(st.keep b (f.lt b cs hbk) (hd b hb)).1]; exact hbk
theorem Fit.new {w0:World} {h:Hp} (f:Fit w0 h) {c:List Value} {s:Nat} (hc:∀ v,v∈c→qv v=true):Fit w0 (h.new c s):=by
 refine ⟨by have:=f.base; simp; omega,λ i hi=>?_,λ b cs hb=>?_,λ b cs hB hb v hv=>?_,λ b x e=>by have:=f.lps b x e; simp; omega,λ b cs hB hb hu=>?_⟩
 rotate_right
 ·simp only [q3a] at hb
  have hu:(if b=h.next then !c.isEmpty && c.all q2d else h.um b)=true:=hu
  split at hb
  ·rename_i e
   rw [if_pos e] at hu
   cases hb
   exact (Bool.and_eq_true_iff.1 hu).2
  ·rename_i e
   rw [if_neg e] at hu
   exact f.um b cs hB hb hu
 ·have:i≠h.next:=by have:=f.base; omega
  simpa [this] using f.ext i hi
 ·simp at hb
  split at hb
  ·simp; omega
  ·have:=f.lt b cs hb; simp; omega
 ·simp at hb
  split at hb
  ·cases hb; exact hc v hv
  ·exact f.cell b cs hB hb v hv
theorem qyr {w0:World} {h:Hp} (f:Fit w0 h) {b:Nat} {c:List Value} (hB:w0.heap.size≤b) (hb:h.blk b=some c):h.put b c=h:=by
 have e1:(λ i=>if i=b then some c else h.blk i)=h.blk:=by
  funext i
  split
  ·rename_i e; rw [e,hb]
  ·rfl
 have e2:(λ i=>if i=b then h.um i && c.all q2d else h.um i)=h.um:=by
  funext i
  split
  ·rename_i e
   cases hu:h.um i with
   | false=>rfl
   | true=>rw [Bool.true_and]; rw [e] at hu; exact f.um b c hB hb hu
  ·rfl
 unfold Hp.put
 rw [e1,e2]
theorem Fit.put {w0:World} {h:Hp} (f:Fit w0 h) {p:Nat} {c:List Value} (hp:w0.heap.size≤p) (hlt:p < h.next) (hc:∀ v,v∈c→qv v=true):Fit w0 (h.put p c):=by
 refine ⟨f.base,λ i hi=>?_,λ b cs hb=>?_,λ b cs hB hb v hv=>?_,f.lps,λ b cs hB hb hu=>?_⟩
 rotate_right
 ·simp only [q17] at hb
  have hu:(if b=p then h.um b && c.all q2d else h.um b)=true:=hu
  split at hb
  ·rename_i e
   rw [if_pos e] at hu
   cases hb
   exact (Bool.and_eq_true_iff.1 hu).2
  ·rename_i e
   rw [if_neg e] at hu
   exact f.um b cs hB hb hu
 ·have:i≠p:=by omega
  simpa [this] using f.ext i hi
 ·simp at hb
  split at hb
  ·simp; omega
  ·exact f.lt b cs hb
 ·simp at hb
  split at hb
  ·cases hb; exact hc v hv
  ·exact f.cell b cs hB hb v hv
theorem Dec.Of.map {α β:Type} {D:Dec α} {E:Dec β} {P:Program} {w0:World} {t:TypeId} {s:Nat} (hD:D.Of P w0 t s) (f:α→β) (he:∀ a,E.e (f a)=D.e a) (hok:∀ a,D.ok a→E.ok (f a)) (hb:∀ a,E.b (f a)≤D.b a)
  (hlen:∀ b,(E.e b).length=s) (hcl:∀ b,E.ok b→∀ v,v∈E.e b→ClC w0.heap.size v):E.Of P w0 t s:=by
 refine ⟨hD.size,hlen,hcl,λ {H enc fuel cs x} hx hp=>?_⟩
 obtain ⟨a,rfl,o,b⟩:=hD.opens hx hp
 exact ⟨f a,(he a).symm,hok a o,Nat.le_trans (hb a) b⟩
theorem wa {α:Type}:(∀ (l:List α) (i:Nat),l.toArray[i]?=l[i]?)∧(∀ (a:α) (l:List α),(a :: l)[0]?=some a)∧(∀ (a:α) (l:List α) (i:Nat),(a :: l)[i + 1]?=l[i]?):=
 ⟨λ _ _=>List.getElem?_toArray,λ _ _=>List.getElem?_cons_zero,λ _ _ _=>List.getElem?_cons_succ⟩
theorem wd:(∀ (a:Option Addr) (n c:Nat),q05 (Value.slice a n c)=some (Value.int IntKind.i64 ↑n))∧
 (∀ (s:ByteArray),q1d (Value.string s)=some (Value.int IntKind.i64 ↑s.size))∧
  (∀ (l:List UInt8),(str l).size=l.length)∧
   (∀ (v:Value) (K:qh),qb (some v) K=K v)∧
    (∀ (a:Addr),q02 (Value.pointer (some a))=λ K=>K (Value.pointer (some a)))∧
     (∀ (a:Addr) (n:Nat),qk (Value.pointer (some a)) n=λ K=>K (Value.pointer (some (a.add n))))∧
      (∀ (b o n:Nat),(⟨b,o,none⟩:Addr).add n=⟨b,o + n,none⟩)∧
       (∀ (n:Nat),0 + n=n)∧
        (∀ (n:Nat),n + 0=n)∧
         (∀ (v:Value),(qc λ K=>K v)=λ K=>K v)∧
          (∀ (x:Value),qc (q02 x)=q02 x)∧
           (∀ (x:Value) (n:Nat),qc (qk x n)=qk x n)∧
            (∀ (o:Option Value),qc (qb o)=qb o)∧
             (∀ (x:Value) (want:Bool) (m:qh→Hp→Prop),
               qc (qe x want m)=qe x want (qc m))∧
              (∀ (s:Nat) (x i:Value),qc (q04 s x i)=q04 s x i)∧
               (∀ (c a b:Value),qc (q0a c a b)=q0a c a b)∧
                (∀ {w0:World} (x:Value),qz (qg w0 x)=qg w0 x)∧
                 (∀ {w0:World} (x:Value) (n:Nat),qz (qw w0 x n)=qw w0 x n)∧
                  (∀ {w0:World} (x:Value),qz (q1z w0 x)=q1z w0 x)∧
                   (∀ (x:Value) (want:Bool) (m:qh→Hp→Prop),
                     qz (qe x want m)=qe x want (qz m))∧
                    (∀ (s:Nat) (x:Value) (lo hi mx:Option Value),
                      qz (q1e s x lo hi mx)=q1e s x lo hi mx)∧
                     (∀ (v:Value),(qz λ K=>K v)=λ K=>K v)∧
                      (∀ (k:Hp→Prop),q0y k=k)∧
                       (∀ (k:Hp→Prop),q0d [k]=k)∧
                        (∀ (k:Hp→Prop),q0c [] k=k)∧
                         (∀ (m:qh→Hp→Prop),qe (Value.bool true) true m=m)∧
                          (∀ (m:qh→Hp→Prop),qe (Value.bool false) false m=m)∧
                           (∀ (m:qh→Hp→Prop),
                             qe (Value.bool true) false m=λ K=>K undef)∧
                            (∀ (m:qh→Hp→Prop),
                              qe (Value.bool false) true m=λ K=>K undef)∧
                             (∀ (want:Bool) (m:qh→Hp→Prop),
                               qe undef want m=λ K=>K undef)∧
                              (∀ (a b:Value),
                                q0a (Value.bool true) a b=λ K=>K a)∧
                               (∀ (a b:Value),
                                 q0a (Value.bool false) a b=λ K=>K b)∧
                                (∀ (x y:Hp→Prop),qt (Value.bool true) x y=x)∧
                                 (∀ (x y:Hp→Prop),
                                   qt (Value.bool false) x y=y)∧
                                  (∀ (k:IntKind) (a b:Int),
                                    qd BinOp.add (Value.int k a) (Value.int k b) =
                                     some (Value.int k (k.wrap (a + b))))∧
                                   (∀ (k:IntKind) (a b:Int),
                                     qd BinOp.sub (Value.int k a)
                                       (Value.int k b) =
                                      some (Value.int k (k.wrap (a - b))))∧
                                    (∀ (k:IntKind) (a b:Int),
                                      qd BinOp.mul (Value.int k a)
                                        (Value.int k b) =
                                       some (Value.int k (k.wrap (a * b))))∧
                                     (∀ (k:IntKind) (a b:Int),
                                       qd BinOp.eql (Value.int k a)
                                         (Value.int k b) =
                                        some (Value.bool (a == b)))∧
                                      (∀ (k:IntKind) (a b:Int),
                                        qd BinOp.neq (Value.int k a)
                                          (Value.int k b) =
                                         some (Value.bool (a != b)))∧
                                       (∀ (k:IntKind) (a b:Int),
                                         qd BinOp.lss (Value.int k a)
                                           (Value.int k b) =
                                          some
                                           (Value.bool (decide (a < b))))∧
                                        (∀ (k:IntKind) (a b:Int),
                                          qd BinOp.leq (Value.int k a)
                                            (Value.int k b) =
                                           some
                                            (Value.bool (decide (a≤b))))∧
                                         (∀ (k:IntKind) (a b:Int),
                                           qd BinOp.gtr (Value.int k a)
                                             (Value.int k b) =
                                            some
                                             (Value.bool
                                              (decide (b < a))))∧
                                          (∀ (k:IntKind) (a b:Int),
                                            qd BinOp.geq (Value.int k a)
                                              (Value.int k b) =
                                             some
                                              (Value.bool
                                               (decide (b≤a))))∧
                                           (∀ (b:Bool),
                                             unA UnOp.not (Value.bool b) =
                                              some (Value.bool !b))∧
                                            (!true)=false∧
                                             (!false)=true∧
                                              (∀ (k k':IntKind)
                                                (n:Int),
                                                q0t k
                                                  (Value.int k' n) =
                                                 some
                                                  (Value.int k
                                                   (k.wrap n)))∧
                                               ∀ (vs:Array Value)
                                                (i:Nat),
                                                q0g (Value.tuple vs)
                                                  i =
                                                 vs[i]? :=
 ⟨@qfx,@q5f,@q1v,@q0eq,@q0ia,@q0jh,@addr_add,@Nat.zero_add,@Nat.add_zero,@qyd,@q0fx,@q0f8,@qvc,@q0ck,@q0cm,@q0eh,@q0du,@q0d3,@qvt,@q0d8,@q0dh,@q0lm,@q00l,@q0io,@q0f1,@q0gc,@q0ht,@q0gl,@q0h6,@q0cy,@q0ey,@q0dt,@q0f3,@q0dr,@q4r,@qxw,@qcd,@qam,@qgj,@q4b,@q0l1,@q9c,@qgg,@q0my,@Bool.not_true,@Bool.not_false,@q3q,@qlb⟩
end
section
inductive Rows (w0:World) (h:Hp):List Value→List (List UInt8)→List Nat→Prop
 | nil:Rows w0 h [] [] []
 | snoc {vs:List Value} {rs:List (List UInt8)} {S:List Nat} {v:Value} {r:List UInt8} {T:List Nat}:Rows w0 h vs rs S→Vec w0 h 1 v r.length (bvs r) T→(∀ b,b∈T→b∉S)→Rows w0 h (vs++[v]) (rs++[r]) (S++T)
section
variable {w0:World} {h h':Hp} {vs:List Value} {rs:List (List UInt8)} {S:List Nat}
theorem Rows.len (q:Rows w0 h vs rs S):vs.length=rs.length:=by
 induction q with
 | nil=>rfl
 | snoc _ _ _ ih=>simp [ih]
theorem Rows.lt (q:Rows w0 h vs rs S):∀ b,b∈S→w0.heap.size≤b∧b < h.next:=by
 induction q with
 | nil=>simp
 | snoc _ v _ ih=>
  intro b hb
  rcases List.mem_append.1 hb with e | e
  ·exact ih b e
  ·exact v.lt b e
theorem Rows.frame (q:Rows w0 h vs rs S) {T T':List Nat} (st:Step h h' T T') (hd:∀ b,b∈S→b∉T):Rows w0 h' vs rs S:=by
 induction q with
 | nil=>exact .nil
 | snoc _ v d ih=>exact .snoc (ih λ b hb=>hd b (by simp [hb])) (v.frame st λ b hb=>hd b (by simp [hb])) d
theorem Rows.put (q:Rows w0 h vs rs S) {p:Nat} (hp:p∉S) (c:List Value):Rows w0 (h.put p c) vs rs S:=by
 induction q with
 | nil=>exact .nil
 | snoc _ v d ih=>exact .snoc (ih λ e=>hp (by simp [e])) (v.put (λ e=>hp (by simp [e])) c) d
theorem Rows.cell (q:Rows w0 h vs rs S):∀ v,v∈vs→qv v=true∧v≠junk:=by
 induction q with
 | nil=>simp
 | snoc _ v d ih=>
  intro x hx
  rcases List.mem_append.1 hx with e | e
  ·exact ih x e
  ·simp at e; subst e; obtain ⟨a,c,rfl⟩:=v.slice; simp
theorem Rows.get (q:Rows w0 h vs rs S) {i:Nat} {r:List UInt8} (hi:rs[i]?=some r):∃ v T,vs[i]?=some v∧Vec w0 h 1 v r.length (bvs r) T∧∀ b,b∈T→b∈S:=by
 induction q with
 | nil=>simp at hi
 | snoc q v d ih=>
  rename_i vs rs S v0 r0 T
  have hl:=q.len
  by_cases h1:i < rs.length
  ·rw [List.getElem?_append_left h1] at hi
   obtain ⟨x,T1,e,vx,hs⟩:=ih hi
   exact ⟨x,T1,by rw [List.getElem?_append_left (by omega)]; exact e,vx,λ b hb=>by simp [hs b hb]⟩
  ·rw [List.getElem?_append_right (by omega)] at hi
   have h2:i - rs.length=0:=by
    rcases Nat.eq_zero_or_pos (i - rs.length) with e | e
    ·exact e
    ·rw [List.getElem?_eq_none (by simp; omega)] at hi; simp at hi
   rw [h2] at hi
   simp at hi
   subst hi
   exact ⟨v0,T,by rw [List.getElem?_append_right (by omega),show i - vs.length=0 by omega]; rfl,v,λ b hb=>by simp [hb]⟩
theorem Rows.last {r:List UInt8} (q:Rows w0 h vs (rs++[r]) S):∃ vs' v S' T,vs=vs'++[v]∧Rows w0 h vs' rs S'∧Vec w0 h 1 v r.length (bvs r) T∧(∀ b,b∈T→b∉S')∧S=S'++T:=by
 generalize hg:rs++[r]=rr at q
 cases q with
 | nil=>simp at hg
 | snoc q v d=>
  obtain ⟨rfl,e⟩:=List.append_inj' hg rfl
  simp at e
  subst e
  exact ⟨_,_,_,_,rfl,q,v,d,rfl⟩
def q42 (w0:World) (h:Hp) (x:Value) (rs:List (List UInt8)) (S:List Nat):Prop:=
 ∃ vs T S0,Vec w0 h 1 x rs.length vs T∧Rows w0 h vs rs S0∧(∀ b,b∈T→b∉S0)∧S=T++S0
variable {x:Value}
theorem q42.nil:q42 w0 h (.slice none 0 0) [] []:=⟨[],[],[],.nil,.nil,by simp,rfl⟩
theorem q42.lt (q:q42 w0 h x rs S):∀ b,b∈S→w0.heap.size≤b∧b < h.next:=by
 obtain ⟨vs,T,S0,v,r,d,rfl⟩:=q
 intro b hb
 rcases List.mem_append.1 hb with e | e
 ·exact v.lt b e
 ·exact r.lt b e
theorem q42.frame (q:q42 w0 h x rs S) {T T':List Nat} (st:Step h h' T T') (hd:∀ b,b∈S→b∉T):q42 w0 h' x rs S:=by
 obtain ⟨vs,U,S0,v,r,d,rfl⟩:=q
 exact ⟨vs,U,S0,v.frame st λ b hb=>hd b (by simp [hb]),r.frame st λ b hb=>hd b (by simp [hb]),d,rfl⟩
theorem q42.put (q:q42 w0 h x rs S) {p:Nat} (hp:p∉S) (c:List Value):q42 w0 (h.put p c) x rs S:=by
 obtain ⟨vs,U,S0,v,r,d,rfl⟩:=q
 exact ⟨vs,U,S0,v.put (λ e=>hp (by simp [e])) c,r.put (λ e=>hp (by simp [e])) c,d,rfl⟩
theorem q42.slice (q:q42 w0 h x rs S):∃ a c,x=.slice a rs.length c:=by
 obtain ⟨vs,U,S0,v,r,d,rfl⟩:=q
 exact v.slice
theorem q42.get (q:q42 w0 h x rs S) {i:Nat} {r:List UInt8} (hi:rs[i]?=some r):∃ b vs v T,x=.slice (some ⟨b,0,none⟩) rs.length q0b∧w0.heap.size≤b∧h.blk b=some vs∧h.esz b=1∧vs[i]?=some v∧vs.length=rs.length∧Vec w0 h 1 v r.length (bvs r) T∧(∀ c,c∈T→c∈S):=by
 obtain ⟨vs,U,S0,v,rr,d,rfl⟩:=q
 obtain ⟨y,T,e,vy,hs⟩:=rr.get hi
 rcases v with ⟨rfl,e1,rfl,rfl⟩ | ⟨b,rfl,rfl,hB,hlt,hbk,hes,hl⟩
 ·simp at e
 ·exact ⟨b,vs,y,T,rfl,hB,hbk,hes,e,by simpa using hl,vy,λ c hc=>by simp [hs c hc]⟩
end
end
end Go.Proofs.YtfmoemconapmhaaGreat.Ah
