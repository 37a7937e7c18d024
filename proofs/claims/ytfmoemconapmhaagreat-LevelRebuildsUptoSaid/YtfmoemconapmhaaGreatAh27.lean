/- Slices that are read, wherever they lie, and parts of them. -/
import Derived.Test.YtfmoemconapmhaaGreatAhq
import Derived.Laws.StructEq
set_option linter.all false
namespace Go.Proofs.YtfmoemconapmhaaGreat.Ah
open Go
def Sl (w0:World) (h:Hp) (s:Nat) (x:Value) (n:Nat) (ys:List Value):Prop:=
 ∃ a c,x=.slice a n c∧Src w0.heap.size h s x n ys∧ys.length=n * s∧((c < q0b∧n≤c)∨(c=q0b∧∃ ad,a=some ad∧h.esz ad.block=s∧∃ cs,h.blk ad.block=some cs))
section
variable {w0:World} {h h':Hp} {s n:Nat} {x:Value} {ys:List Value}
theorem Sl.src (v:Sl w0 h s x n ys):Src w0.heap.size h s x n ys:=by obtain ⟨a,c,rfl,b,-⟩:=v; exact b
theorem Sl.slice (v:Sl w0 h s x n ys):∃ a c,x=.slice a n c:=by obtain ⟨a,c,rfl,-⟩:=v; exact ⟨a,c,rfl⟩
theorem Sl.len (v:Sl w0 h s x n ys):ys.length=n * s:=by obtain ⟨a,c,rfl,b,e,-⟩:=v; exact e
theorem Sl.junk (v:Sl w0 h s x n ys):x≠junk:=by obtain ⟨a,c,rfl,-⟩:=v; simp [junk]
theorem Sl.nil:Sl w0 h s (.slice none 0 0) 0 []:=⟨none,0,rfl,by simp [Src],by simp,.inl ⟨by decide,Nat.le_refl _⟩⟩
theorem GV.sl {S:List Nat} (v:GV w0 h s x n ys S):Sl w0 h s x n ys:=by
 have h1:=v.src
 have h2:=v.len
 rcases v with v | ⟨q,rfl,-,a,b,c,e,f,g⟩
 ·rcases v with ⟨rfl,rfl,rfl,rfl⟩ | ⟨q,rfl,rfl,a,b,d,e,f⟩
  ·exact .nil
  ·exact ⟨_,_,rfl,h1,h2,.inr ⟨rfl,_,rfl,e,_,d⟩⟩
 ·exact ⟨_,_,rfl,h1,h2,.inl ⟨f,Nat.le_refl _⟩⟩
theorem Vec.sl {S:List Nat} (v:Vec w0 h s x n ys S):Sl w0 h s x n ys:=v.gv.sl
theorem q7h.sl' (v:q7h w0 s x n ys) (f:Fit w0 h) (hl:ys.length=n * s):Sl w0 h s x n ys:=by
 obtain ⟨a,c,rfl,h1,h2⟩:=v.sl
 exact ⟨a,c,rfl,v.src h f,hl,.inl ⟨h2,h1⟩⟩
theorem Sl.step (v:Sl w0 h s x n ys) (f:Fit w0 h) {S S':List Nat} (st:Step h h' S S') (hd:∀ b,b∈q0z x→b∉S):Sl w0 h' s x n ys:=by
 obtain ⟨a,c,rfl,h1,h2,h3⟩:=v
 refine ⟨a,c,rfl,h1.step f st hd,h2,?_⟩
 rcases h3 with h3 | ⟨rfl,ad,rfl,h4,cs,h5⟩
 ·exact .inl h3
 ·obtain ⟨k1,k2⟩:=st.keep ad.block (f.lt _ _ h5) (hd _ (by simp [q0z]))
  exact .inr ⟨rfl,ad,rfl,by rw [k2]; exact h4,cs,by rw [k1]; exact h5⟩
theorem add_block (a:Addr) (k:Nat):(a.add k).block=a.block:=by unfold Addr.add; split <;> rfl
def cutV (s:Nat) (x:Value) (lo hi:Nat):Value:=
 match x with
 | .slice a n c=>if c=q0b then .slice (a.map (·.add (lo * s))) (hi - lo) q0b else .slice (if c=lo then a else a.map (·.add (lo * s))) (hi - lo) (c - lo)
 | v=>v
theorem Sl.cutN (v:Sl w0 h s x n ys) {lo hi:Nat} {olo ohi:Option Value} {K:qh} (h1:q2p olo 0=some lo) (h2:q2p ohi n=some hi) (hl:lo≤hi) (hh:hi≤n)
  (hk:∀ x',x'=cutV s x lo hi→q0z x'=q0z x→Sl w0 h s x' (hi - lo) ((ys.take (hi * s)).drop (lo * s))→K x' h):q1e s x olo ohi none K h:=by
 obtain ⟨a,c,rfl,⟨-,hs⟩,hy,hc⟩:=v
 have hmul:(hi - lo) * s=hi * s - lo * s:=Nat.sub_mul _ _ _
 have hle1:lo * s≤hi * s:=Nat.mul_le_mul_right _ hl
 have hle2:hi * s≤n * s:=Nat.mul_le_mul_right _ hh
 have hlen:((ys.take (hi * s)).drop (lo * s)).length=(hi - lo) * s:=by simp; omega
 have hsrc:∀ ad' c',(∀ b o,a=some ⟨b,o,none⟩→0 < hi - lo→ad'=some ⟨b,o + lo * s,none⟩)→Src w0.heap.size h s (.slice ad' (hi - lo) c') (hi - lo) ((ys.take (hi * s)).drop (lo * s)):=by
  intro ad' c' hx
  clear hc
  refine ⟨Nat.le_refl _,?_⟩
  rcases Nat.eq_zero_or_pos (hi - lo) with hz | hz
  ·left; refine ⟨hz,List.eq_nil_of_length_eq_zero (by rw [hlen,hz,Nat.zero_mul])⟩
  ·right
   rcases hs with ⟨h0,-⟩ | ⟨h0,ad,rfl,hg,hcl⟩
   ·omega
   obtain ⟨hsp,cs,hb,hle,hv⟩:=Hp.getN_some hg
   obtain ⟨b,o,sp⟩:=ad
   simp only at hsp hb hle hv
   subst hsp
   have e:=hx b o rfl hz
   subst e
   refine ⟨hz,_,rfl,?_,λ hb v hv=>hcl hb v (List.mem_of_mem_take (List.mem_of_mem_drop hv))⟩
   have hle3:o + lo * s + (hi - lo) * s≤cs.length:=by rw [hmul]; omega
   rw [q6e,hb,Option.bind_some,if_pos hle3,hv]
   congr 1
   rw [List.take_take,Nat.min_eq_left hle2,List.drop_take,List.drop_drop,hmul]
 refine ⟨a,n,c,lo,hi,rfl,h1,h2,hl,by simp,?_⟩
 rcases hc with ⟨hcu,hnc⟩ | ⟨rfl,ad,rfl,he,cs,hb⟩
 ·show (if c=q0b then _ else _)
  have hne:¬ c=q0b:=Nat.ne_of_lt hcu
  rw [if_neg hne]
  refine ⟨Nat.le_trans hh hnc,hk _ (by simp only [cutV]; rw [if_neg hne]) ?_ ⟨_,_,rfl,hsrc _ _ ?_,hlen,.inl ⟨Nat.lt_of_le_of_lt (Nat.sub_le _ _) hcu,Nat.sub_le_sub_right (Nat.le_trans hh hnc) _⟩⟩⟩
  ·split
   ·cases a <;> rfl
   ·cases a <;> simp [q0z,add_block]
  ·rintro b o rfl hz
   split
   ·rename_i e
    subst e
    exact absurd hz (by have:=Nat.le_trans hh hnc; rw [Nat.sub_eq_zero_of_le this]; exact Nat.lt_irrefl 0)
   ·simp
 ·rw [if_pos rfl]
  refine ⟨.inl hh,ad,rfl,he,⟨cs,hb⟩,hk _ (by simp [cutV]) ?_ ⟨_,_,rfl,hsrc _ _ ?_,hlen,.inr ⟨rfl,_,rfl,?_,cs,?_⟩⟩⟩
  ·simp [q0z,add_block]
  ·rintro b o e hz
   cases e
   simp
  ·rw [add_block]; exact he
  ·rw [add_block]; exact hb
end
section
variable {w0:World} {h h':Hp} {x:Value} {l:List UInt8}
abbrev Bs (w0:World) (h:Hp) (x:Value) (l:List UInt8):Prop:=Sl w0 h 1 x l.length (bvs l)
theorem Bs.cut (v:Bs w0 h x l) {lo hi:Nat} {olo ohi:Option Value} {K:qh} (h1:q2p olo 0=some lo) (h2:q2p ohi l.length=some hi) (hl:lo≤hi) (hh:hi≤l.length)
  (hk:∀ x',x'=cutV 1 x lo hi→q0z x'=q0z x→Bs w0 h x' ((l.take hi).drop lo)→K x' h):q1e 1 x olo ohi none K h:=by
 refine v.cutN h1 h2 hl hh λ x' e0 e v'=>hk x' e0 e ?_
 have e1:((l.take hi).drop lo).length=hi - lo:=by simp; omega
 unfold Bs
 rw [e1]
 simpa using v'
theorem Bs.b2s {K:qh} (v:Bs w0 h x l) (hk:K (.string (str l)) h):q1z w0 x K h:=by
 obtain ⟨a,c,rfl,h1,-⟩:=v
 exact q7d h1 hk
theorem q2a {k:IntKind} {d i:Nat}:q2p (some (.int k (i:Int))) d=some i:=by simp [q2p]
theorem q2s {d:Nat}:q2p none d=some d:=rfl
theorem q0ge {y v:Value}:q26 (q1z w0 y) v h↔q1z w0 y (λ v' _=>v'=v) h:=by
 rw [qxu]
 constructor
 ·rintro ⟨a,n,c,ys,e1,e2,e3,-⟩; exact ⟨a,n,c,ys,e1,e2,e3⟩
 ·rintro ⟨a,n,c,ys,e1,e2,e3⟩; exact ⟨a,n,c,ys,e1,e2,e3,rfl⟩
theorem qmm {s by_ n:Nat} {y:Value} {ys z:List Value} {K:qh} (f:Fit w0 h) (v:Sl w0 h s y n ys) (hs0:0 < s) (hb:n * by_≤140737488355328) (hn:n≤140737488355328)
  (hk:∀ x' h' S',GV w0 h' s x' n ys S'→(0 < n→Vec w0 h' s x' n ys S')→Step h h' [] S'→(∀ c,x'≠.slice none 0 c)→K x' h'):q0j [] (q00 z 0) 0 s (λ v5=>q0h w0 s by_ v5 y K) h:=by
 simp only [q3s,q1u]
 obtain ⟨a,c,rfl⟩:=v.slice
 have hl:=v.len
 have hz:q00 z 0=[]:=rfl
 rw [hz]
 refine .mk n rfl (λ h0=>⟨⟨_,_,_,rfl⟩,?_⟩) (λ h0=>⟨0,[],ys,h.new [] s,?_,?_,by rw [Nat.zero_add]; exact hb,by omega,?_⟩)
 ·subst h0
  have:ys=[]:=List.eq_nil_of_length_eq_zero (by simpa using hl)
  subst this
  refine hk _ _ [h.next] (.inr ⟨h.next,rfl,rfl,f.base,by simp,by simp,by simp,(by decide:0 < q0b),by simp⟩) (λ h0=>by omega) (((Step.refl h [] (by simp)).new _ _).less (by simp)) (by simp)
 ·simp only [Dst]
  refine ⟨trivial,.inl ⟨trivial,trivial⟩,?_⟩
  have:=f.base
  rw [if_neg (by omega),if_neg (by decide),if_pos (by omega)]
  trivial
 ·exact v.src.frame λ b cs hb hbk=>by
   have:=f.lt b cs hbk
   have hne:b≠h.next:=by omega
   simpa [hne] using hbk
 ·rw [List.nil_append,Nat.zero_add]
  have hv:Vec w0 ((h.new [] s).newD ys s) s (.slice (some ⟨(h.new [] s).next,0,none⟩) n q0b) n ys [(h.new [] s).next]:=.inr ⟨_,rfl,rfl,by have:=f.base; simp; omega,by simp,by simp,by simp,hl⟩
  refine hk _ _ [(h.new [] s).next] (.inl hv) (λ _=>hv) ?_ (by simp)
  exact (((Step.refl h [] (by simp)).new _ _).newD _ _).less (by simp)
end
def q00k:Dec UInt8:=⟨λ b=>[bv b],λ _=>True,λ _=>1⟩
theorem q0hz (l:List UInt8):l.flatMap q00k.e=bvs l:=by
 induction l with
 | nil=>rfl
 | cons b l ih=>rw [List.flatMap_cons,ih]; rfl
theorem q7h.bytes {w0:World} {v:Value} {l:List UInt8} (x:q7h w0 1 v l.length (l.flatMap q00k.e)) (h:Hp) (f:Fit w0 h):Bs w0 h v l:=by
 rw [q0hz] at x
 exact x.sl' f (by simp)
section
open Go.ChangeShapes
end
end Go.Proofs.YtfmoemconapmhaaGreat.Ah
