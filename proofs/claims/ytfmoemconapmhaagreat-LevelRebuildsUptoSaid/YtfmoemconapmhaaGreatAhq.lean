/- Vectors of pairs of a number and a vector of bytes. -/
import Derived.Test.YtfmoemconapmhaaGreatAhp
import Derived.Carry
set_option linter.all false
namespace Go.Proofs.YtfmoemconapmhaaGreat.Ah
open Go
section
def q7a:Nat→List Value→List Value
 | _,[]=>[]
 | k,v :: vs=>.int .i64 (k:Int) :: v :: q7a (k + 1) vs
@[simp] theorem q0ol:∀ (vs:List Value) (k:Nat),(q7a k vs).length=2 * vs.length:=by
 intro vs
 induction vs with
 | nil=>intro k; rfl
 | cons x vs ih=>intro k; simp [q7a,ih]; omega
theorem q0dp:∀ (vs:List Value) (k i:Nat) (v:Value),vs[i]?=some v→(q7a k vs)[2 * i]?=some (.int .i64 ((k + i:Nat):Int))∧(q7a k vs)[2 * i + 1]?=some v:=by
 intro vs
 induction vs with
 | nil=>intro k i v h; simp at h
 | cons x vs ih=>
  intro k i v h
  cases i with
  | zero=>simp at h; subst h; simp [q7a]
  | succ i=>
   simp at h
   obtain ⟨a,b⟩:=ih (k + 1) i v h
   simp only [q7a]
   rw [show 2 * (i + 1)=2 * i + 1 + 1 by omega]
   simp only [List.getElem?_cons_succ]
   rw [show k + (i + 1)=k + 1 + i by omega]
   exact ⟨a,b⟩
def q5a (w0:World) (h:Hp) (x:Value) (k:Nat) (bs:List (List UInt8)) (S:List Nat):Prop:=
 ∃ vs T S0,Vec w0 h 2 x bs.length (q7a k vs) T∧Rows w0 h vs bs S0∧(∀ b,b∈T→b∉S0)∧S=T++S0
section
variable {w0:World} {h h':Hp} {x:Value} {k:Nat} {bs:List (List UInt8)} {S:List Nat}
theorem q5a.nil (k:Nat):q5a w0 h (.slice none 0 0) k [] []:=⟨[],[],[],.nil,.nil,by simp,rfl⟩
theorem q5a.lt (q:q5a w0 h x k bs S):∀ b,b∈S→w0.heap.size≤b∧b < h.next:=by
 obtain ⟨vs,T,S0,v,r,d,rfl⟩:=q
 intro b hb
 rcases List.mem_append.1 hb with e | e
 ·exact v.lt b e
 ·exact r.lt b e
theorem q5a.frame (q:q5a w0 h x k bs S) {T T':List Nat} (st:Step h h' T T') (hd:∀ b,b∈S→b∉T):q5a w0 h' x k bs S:=by
 obtain ⟨vs,U,S0,v,r,d,rfl⟩:=q
 exact ⟨vs,U,S0,v.frame st λ b hb=>hd b (by simp [hb]),r.frame st λ b hb=>hd b (by simp [hb]),d,rfl⟩
theorem q5a.slice (q:q5a w0 h x k bs S):∃ a c,x=.slice a bs.length c:=by
 obtain ⟨vs,U,S0,v,r,d,rfl⟩:=q
 exact v.slice
theorem q5a.get (q:q5a w0 h x k bs S) {i:Nat} {r:List UInt8} (hi:bs[i]?=some r):∃ b cs v T,x=.slice (some ⟨b,0,none⟩) bs.length q0b∧w0.heap.size≤b∧b < h.next∧h.blk b=some cs∧b∈S∧b∉T∧cs[2 * i]?=some (.int .i64 ((k + i:Nat):Int))∧cs[2 * i + 1]?=some v∧Vec w0 h 1 v r.length (bvs r) T∧(∀ c,c∈T→c∈S):=by
 obtain ⟨vs,U,S0,v,rr,d,rfl⟩:=q
 obtain ⟨y,T,e,vy,hs⟩:=rr.get hi
 obtain ⟨g1,g2⟩:=q0dp vs k i y e
 rcases v with ⟨rfl,e1,e2,rfl⟩ | ⟨b,rfl,rfl,hB,hlt,hbk,hes,hl⟩
 ·rw [e2] at g1; simp at g1
 ·exact ⟨b,_,y,T,rfl,hB,hlt,hbk,by simp,λ hT=>d b (by simp) (hs b hT),g1,g2,vy,λ c hc=>by simp [hs c hc]⟩
end
end
section
def GV (w0:World) (h:Hp) (s:Nat) (x:Value) (n:Nat) (cs:List Value) (S:List Nat):Prop:=
 Vec w0 h s x n cs S∨∃ q,x=.slice (some ⟨q,0,none⟩) n n∧S=[q]∧w0.heap.size≤q∧q < h.next∧h.blk q=some cs∧cs.length=n * s∧n < q0b∧h.esz q=s
section
variable {w0:World} {h h':Hp} {s n:Nat} {x:Value} {cs:List Value} {S:List Nat}
theorem Vec.gv (v:Vec w0 h s x n cs S):GV w0 h s x n cs S:=.inl v
theorem GV.new {cs:List Value} {n:Nat} (hf:w0.heap.size≤h.next) (hl:cs.length=n * s) (hn:n < q0b):GV w0 (h.new cs s) s (.slice (some ⟨h.next,0,none⟩) n n) n cs [h.next]:=
 .inr ⟨h.next,rfl,rfl,hf,by simp,by simp,hl,hn,by simp⟩
theorem GV.lt (v:GV w0 h s x n cs S):∀ b,b∈S→w0.heap.size≤b∧b < h.next:=by
 rcases v with v | ⟨q,-,rfl,a,b,-⟩
 ·exact v.lt
 ·intro c hc; simp at hc; subst hc; exact ⟨a,b⟩
theorem GV.slice (v:GV w0 h s x n cs S):∃ a c,x=.slice a n c:=by
 rcases v with v | ⟨q,rfl,-⟩
 ·exact v.slice
 ·exact ⟨_,_,rfl⟩
theorem GV.len (v:GV w0 h s x n cs S):cs.length=n * s:=by
 rcases v with v | ⟨q,-,-,-,-,-,e,-⟩
 ·exact v.len
 ·exact e
theorem GV.src (v:GV w0 h s x n cs S):Src w0.heap.size h s x n cs:=by
 rcases v with v | ⟨q,rfl,-,a,b,c,e,-⟩
 ·exact v.src
 ·exact q96 a c e
theorem GV.frame (v:GV w0 h s x n cs S) {T T':List Nat} (st:Step h h' T T') (hd:∀ b,b∈S→b∉T):GV w0 h' s x n cs S:=by
 rcases v with v | ⟨q,rfl,rfl,a,b,c,e,f,g⟩
 ·exact .inl (v.frame st hd)
 ·obtain ⟨k1,k2⟩:=st.keep q b (hd q (by simp))
  exact .inr ⟨q,rfl,rfl,a,by have:=st.1; omega,by rw [k1]; exact c,e,f,by rw [k2]; exact g⟩
theorem GV.refl (v:GV w0 h s x n cs S):Step h h S S:=.refl _ _ λ b hb=>(v.lt b hb).2
theorem q9i {by_ m:Nat} {y:Value} {ys:List Value} {K:qh} (hf:w0.heap.size≤h.next) (v:GV w0 h s x n cs S) (hl:lenA y=some m) (hs:Src w0.heap.size h s y m ys)
  (hys:ys.length=m * s) (hb:(n + m) * by_≤140737488355328) (hn:n + m≤140737488355328) (hs0:0 < s)
  (hk:∀ x' h' S',GV w0 h' s x' (n + m) (cs++ys) S'→Step h h' S S'→K x' h'):q0h w0 s by_ x y K h:=by
 rcases v with v | ⟨q,rfl,rfl,a,b,c,e,f,g⟩
 ·exact q3g hf v hl hs hys hb hn hs0 λ x' h' S' v' st=>hk x' h' S' (.inl v') st
 ·refine .mk m hl (λ h0=>⟨⟨_,_,_,rfl⟩,?_⟩) (λ h0=>⟨n,cs,ys,h,?_,hs,hb,hn,?_⟩)
  ·subst h0
   have:ys=[]:=List.eq_nil_of_length_eq_zero (by simpa using hys)
   subst this
   exact hk _ h [q] (.inr ⟨q,by simp,rfl,a,b,by simpa using c,by simpa using e,by simpa using f,g⟩) (.refl _ _ λ b' hb'=>by simp at hb'; omega)
  ·simp only [Dst]
   refine ⟨trivial,?_,?_⟩
   ·by_cases hn0:n=0
    ·left; subst hn0; exact ⟨rfl,List.eq_nil_of_length_eq_zero (by simpa using e)⟩
    ·right; exact ⟨by omega,by simp [c,← e],λ hlt=>by omega⟩
   ·rw [if_neg (by omega),if_neg (by omega),if_pos (by omega)]
    trivial
  ·refine hk _ _ [h.next] (.inl (.inr ⟨h.next,rfl,rfl,hf,by simp,by simp,by simp,by rw [List.length_append,e,hys,Nat.add_mul]⟩)) ⟨by simp,λ b' hb' hq=>?_,λ b' hb'=>?_,rfl⟩
   ·have:b'≠h.next:=by omega
    simp [this]
   ·simp at hb'; subst hb'; simp
theorem qfs {by_ m:Nat} {y:Value} {ys:List Value} {K:qh} (hf:w0.heap.size≤h.next) (v:GV w0 h s x n cs S) (hm:0 < m) (hl:lenA y=some m) (hs:Src w0.heap.size h s y m ys)
  (hys:ys.length=m * s) (hb:(n + m) * by_≤140737488355328) (hn:n + m≤140737488355328) (hs0:0 < s)
  (hk:∀ x' h' S',Vec w0 h' s x' (n + m) (cs++ys) S'→Step h h' S S'→K x' h'):q0h w0 s by_ x y K h:=by
 rcases v with v | ⟨q,rfl,rfl,a,b,c,e,f,g⟩
 ·exact q3g hf v hl hs hys hb hn hs0 hk
 ·refine .mk m hl (λ h0=>by omega) (λ h0=>⟨n,cs,ys,h,?_,hs,hb,hn,?_⟩)
  ·simp only [Dst]
   refine ⟨trivial,?_,?_⟩
   ·by_cases hn0:n=0
    ·left; subst hn0; exact ⟨rfl,List.eq_nil_of_length_eq_zero (by simpa using e)⟩
    ·right; exact ⟨by omega,by simp [c,← e],λ hlt=>by omega⟩
   ·rw [if_neg (by omega),if_neg (by omega),if_pos (by omega)]
    trivial
  ·refine hk _ _ [h.next] (.inr ⟨h.next,rfl,rfl,hf,by simp,by simp,by simp,by rw [List.length_append,e,hys,Nat.add_mul]⟩) ⟨by simp,λ b' hb' hq=>?_,λ b' hb'=>?_,rfl⟩
   ·have:b'≠h.next:=by omega
    simp [this]
   ·simp at hb'; subst hb'; simp
theorem q21 {K:qh} {b o:Nat} {cs:List Value} {v:Value} (hB:w0.heap.size≤b) (hb:h.blk b=some cs) (ho:o < cs.length) (hv:qv v=true) (hk:K undef (h.put b (cs.set o v))):q0q w0 (.pointer (some ⟨b,o,none⟩)) v K h:=by
 rw [q0gk]
 exact ⟨cs,hB,hb,ho,hv,hk⟩
theorem q0mo {K:qh} {z e:List Value} {k m:Nat} (hf:w0.heap.size≤h.next) (hz:z.length=m) (hl:e.length=m) (hzc:∀ v,v∈z→qv v=true) (hk:K (.pointer (some ⟨h.next,0,none⟩)) (h.new e k)) (hu:e.all q2d=false:=by first | rfl | (simp [q2d]; done)):
  q0u z k (λ b=>q0k w0 b (.agg e.toArray) m λ _=>K b) h:=by
 refine ⟨hzc,h.next,0,z,e.toArray,rfl,hf,rfl,by simpa using hl,by simp,by omega,?_⟩
 rw [qld _ _ (by simp; omega),q0mh _ _ _ _ (by simpa using hu)]
 simpa using hk
end
end
section
theorem qco {α:Type} (b:α→Nat) {l:List α} {x:α} (h:x∈l):b x≤(l.map b).sum:=by
 induction l with
 | nil=>simp at h
 | cons y l ih=>
  simp only [List.map_cons,List.sum_cons]
  rcases List.mem_cons.1 h with rfl | h
  ·omega
  ·have:=ih h; omega
section
open Go.ChangeShapes
variable {H:Type} {enc:TypeId × Value→H} {P:Program} {w:World} {base:Nat} {spare:Nat→Bool} {held:Bool}
end
section
variable {w0:World}
theorem flat_get {α:Type} {e:α→List Value} {s:Nat} (he:∀ a,(e a).length=s) {xs:List α} {i o:Nat} {a:α} (hi:xs[i]?=some a) (ho:o < s):(xs.flatMap e)[i * s + o]?=(e a)[o]?:=by
 have h1:=qvl he xs i a hi
 have h2:=congrArg (·[o]?) h1
 simp only [List.getElem?_take,if_pos ho,List.getElem?_drop] at h2
 exact h2
theorem q6b {h h':Hp} {S S' T:List Nat} (st:Step h h' S S') (hd:∀ b,b∈T→b∉S) (hT:∀ b,b∈T→b < h.next):∀ b,b∈T→b∉S':=λ b hb he=>by
 rcases (st.own b he).2 with g | g
 ·exact hd b hb g
 ·have:=hT b hb; omega
end
end
end Go.Proofs.YtfmoemconapmhaaGreat.Ah
