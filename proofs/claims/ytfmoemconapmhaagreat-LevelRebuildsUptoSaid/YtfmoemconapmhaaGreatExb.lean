/- Heaps: what pushing and popping makes of a list; cells of a block of one's own. -/
import Derived.Test.YtfmoemconapmhaaGreatExa
import Derived.Test.YtfmoemconapmhaaGreatAhr
import Derived.Test.YtfmoemconapmhaaGreatGrun
import Derived.Test.YtfmoemconapmhaaGreatGref12
set_option linter.all false
namespace Go.Proofs.YtfmoemconapmhaaGreat.Ah
open Go
section
variable {α:Type}
structure Ord (lt:α→α→Bool):Prop where
 irr:∀ a,lt a a=false
 asym:∀ {a b},lt a b=true→lt b a=false
 tr:∀ {a b c},lt a b=true→lt b c=true→lt a c=true
 ntr:∀ {a b c},lt a b=false→lt b c=false→lt a c=false
def q56 (lt:α→α→Bool) (xs:List α):Prop:=∀ j a b,0 < j→xs[j]?=some a→xs[(j - 1) / 2]?=some b→lt a b=false
def up (lt:α→α→Bool):Nat→List α→Nat→List α
 | 0,xs,_=>xs
 | m + 1,xs,i=>if i=0 then xs else
  match xs[i]?,xs[(i - 1) / 2]? with
  | some a,some b=>if lt a b=true then up lt m ((xs.set i b).set ((i - 1) / 2) a) ((i - 1) / 2) else xs
  | _,_=>xs
def kid (lt:α→α→Bool) (xs:List α) (i:Nat):Nat:=
 match xs[2 * i + 1]?,xs[2 * i + 2]? with
 | some c1,some c2=>if lt c2 c1=true then 2 * i + 2 else 2 * i + 1
 | _,_=>2 * i + 1
def down (lt:α→α→Bool):Nat→List α→Nat→List α
 | 0,xs,_=>xs
 | m + 1,xs,i=>
  match xs[kid lt xs i]?,xs[i]? with
  | some b,some a=>if lt b a=true then down lt m ((xs.set i b).set (kid lt xs i) a) (kid lt xs i) else xs
  | _,_=>xs
def q9o (lt:α→α→Bool) (xs:List α) (a:α):List α:=up lt (xs.length + 1) (xs++[a]) xs.length
def q30 (lt:α→α→Bool) (xs:List α):List α:=
 match xs[xs.length - 1]? with
 | some z=>down lt (xs.length + 1) ((xs.set 0 z).take (xs.length - 1)) 0
 | none=>[]
variable {lt:α→α→Bool}
theorem qaj {xs:List α} {i k:Nat} {a b:α} (hi:xs[i]?=some a) (hk:xs[k]?=some b):((xs.set i b).set k a).Perm xs:=by
 obtain ⟨h1,rfl⟩:=List.getElem?_eq_some_iff.1 hi
 obtain ⟨h2,rfl⟩:=List.getElem?_eq_some_iff.1 hk
 exact List.set_set_perm h1 h2
theorem qgh {xs:List α} {i k:Nat} {a b:α} (hi:i < xs.length) (hk:k < xs.length) (j:Nat):((xs.set i b).set k a)[j]?=if j=k then some a else if j=i then some b else xs[j]?:=by
 rw [List.getElem?_set,List.length_set,List.getElem?_set]
 by_cases e1:k=j
 ·subst e1; rw [if_pos rfl,if_pos hk,if_pos rfl]
 ·rw [if_neg e1,if_neg (Ne.symm e1)]
  by_cases e2:i=j
  ·subst e2; rw [if_pos rfl,if_pos hi,if_pos rfl]
  ·rw [if_neg e2,if_neg (Ne.symm e2)]
theorem qyw:∀ (m:Nat) (xs:List α) (i:Nat),(up lt m xs i).Perm xs
 | 0,xs,i=>.refl _
 | m + 1,xs,i=>by
  rw [up]
  split
  ·exact .refl _
  ·split
   ·rename_i a b ha hb
    split
    ·exact (qyw m _ _).trans (qaj ha hb)
    ·exact .refl _
   ·exact .refl _
theorem qx7:∀ (m:Nat) (xs:List α) (i:Nat),(down lt m xs i).Perm xs
 | 0,xs,i=>.refl _
 | m + 1,xs,i=>by
  rw [down]
  split
  ·rename_i b a hb ha
   split
   ·exact (qx7 m _ _).trans (qaj ha hb)
   ·exact .refl _
  ·exact .refl _
theorem qz7 (o:Ord lt):∀ (m:Nat) (xs:List α) (i:Nat),i < m→
  (∀ j a b,0 < j→j≠i→xs[j]?=some a→xs[(j - 1) / 2]?=some b→lt a b=false)→
  (∀ j a b,0 < i→0 < j→(j - 1) / 2=i→xs[j]?=some a→xs[(i - 1) / 2]?=some b→lt a b=false)→q56 lt (up lt m xs i)
 | 0,_,_,h,_,_=>by omega
 | m + 1,xs,i,h,h1,h2=>by
  rw [up]
  by_cases h0:i=0
  ·rw [if_pos h0]
   intro j a b hj ha hb
   exact h1 j a b hj (by omega) ha hb
  ·rw [if_neg h0]
   split
   ·rename_i a b ha hb
    have hi:=(List.getElem?_eq_some_iff.1 ha).1
    have hk:=(List.getElem?_eq_some_iff.1 hb).1
    split
    ·rename_i hlt
     refine qz7 o m _ _ (by omega) (λ j c d hj hne hc hd=>?_) (λ j c d h0' hj hp hc hd=>?_)
     ·rw [qgh hi hk] at hc hd
      rw [if_neg hne] at hc
      by_cases e:j=i
      ·subst e
       rw [if_pos rfl] at hc hd
       cases hc; cases hd
       exact o.asym hlt
      ·rw [if_neg e] at hc
       by_cases e1:(j - 1) / 2=(i - 1) / 2
       ·rw [if_pos e1] at hd
        cases hd
        have:=h1 j c b hj e hc (by rw [e1]; exact hb)
        cases e3:lt c a with
        | false=>rfl
        | true=>rw [o.tr e3 hlt] at this; cases this
       ·rw [if_neg e1] at hd
        by_cases e2:(j - 1) / 2=i
        ·rw [if_pos e2] at hd
         cases hd
         exact h2 j c b (by omega) hj e2 hc hb
        ·rw [if_neg e2] at hd
         exact h1 j c d hj e hc hd
     ·rw [qgh hi hk] at hc hd
      rw [if_neg (by omega)] at hc
      rw [if_neg (by omega),if_neg (by omega)] at hd
      have hbd:=h1 ((i - 1) / 2) b d h0' (by omega) hb hd
      by_cases e:j=i
      ·rw [if_pos e] at hc
       cases hc
       exact hbd
      ·rw [if_neg e] at hc
       exact o.ntr (h1 j c b hj e hc (by rw [hp]; exact hb)) hbd
    ·rename_i hlt
     intro j c d hj hc hd
     by_cases e:j=i
     ·subst e
      rw [ha] at hc; rw [hb] at hd
      cases hc; cases hd
      simpa using hlt
     ·exact h1 j c d hj e hc hd
   ·rename_i hno
    intro j c d hj hc hd
    by_cases e:j=i
    ·subst e
     exact absurd hd (hno c d hc)
    ·exact h1 j c d hj e hc hd
theorem qmr (xs:List α) (i:Nat):kid lt xs i=2 * i + 1∨kid lt xs i=2 * i + 2:=by
 unfold kid
 split
 ·split
  ·exact .inr rfl
  ·exact .inl rfl
 ·exact .inl rfl
theorem q0ns (o:Ord lt) {xs:List α} {i j:Nat} {b c:α} (hb:xs[kid lt xs i]?=some b) (hj:0 < j) (hp:(j - 1) / 2=i) (hc:xs[j]?=some c):lt c b=false:=by
 have hj2:j=2 * i + 1∨j=2 * i + 2:=by omega
 unfold kid at hb
 split at hb
 ·rename_i c1 c2 h1 h2
  split at hb
  ·rename_i e
   rw [h2] at hb; cases hb
   rcases hj2 with rfl | rfl
   ·rw [h1] at hc; cases hc; exact o.asym e
   ·rw [h2] at hc; cases hc; exact o.irr _
  ·rename_i e
   rw [h1] at hb; cases hb
   rcases hj2 with rfl | rfl
   ·rw [h1] at hc; cases hc; exact o.irr _
   ·rw [h2] at hc; cases hc; simpa using e
 ·rename_i hno
  rcases hj2 with rfl | rfl
  ·rw [hb] at hc; cases hc; exact o.irr _
  ·exact absurd hc (hno b c hb)
theorem q0ki {xs:List α} {i j:Nat} (hb:xs[kid lt xs i]?=none) (hj:0 < j) (hp:(j - 1) / 2=i):xs[j]?=none:=by
 have hj2:j=2 * i + 1∨j=2 * i + 2:=by omega
 have:xs.length≤2 * i + 1:=by
  unfold kid at hb
  split at hb
  ·rename_i c1 c2 h1 h2
   split at hb
   ·rw [h2] at hb; cases hb
   ·rw [h1] at hb; cases hb
  ·exact List.getElem?_eq_none_iff.1 hb
 exact List.getElem?_eq_none (by omega)
theorem qxh (o:Ord lt):∀ (m:Nat) (xs:List α) (i:Nat),xs.length≤i + m→
  (∀ j a b,0 < j→(j - 1) / 2≠i→xs[j]?=some a→xs[(j - 1) / 2]?=some b→lt a b=false)→
  (∀ j a b,0 < i→0 < j→(j - 1) / 2=i→xs[j]?=some a→xs[(i - 1) / 2]?=some b→lt a b=false)→q56 lt (down lt m xs i)
 | 0,xs,i,h,h1,_=>by
  rw [down]
  intro j a b hj ha hb
  have:=(List.getElem?_eq_some_iff.1 hb).1
  exact h1 j a b hj (by omega) ha hb
 | m + 1,xs,i,h,h1,h2=>by
  rw [down]
  rcases qmr (lt:=lt) xs i with hk2 | hk2 <;>
  ·split
   ·rename_i b a hb ha
    have hi:=(List.getElem?_eq_some_iff.1 ha).1
    have hk:=(List.getElem?_eq_some_iff.1 hb).1
    have hmin:∀ j c,0 < j→(j - 1) / 2=i→xs[j]?=some c→lt c b=false:=λ j c hj hp hc=>q0ns o hb hj hp hc
    have hkk:kid lt xs i=kid lt xs i:=rfl
    generalize kid lt xs i=k at *
    split
    ·rename_i hlt
     refine qxh o m _ _ (by simp; omega) (λ j c d hj hne hc hd=>?_) (λ j c d h0' hj hp hc hd=>?_)
     ·rw [qgh hi hk] at hc hd
      rw [if_neg hne] at hd
      by_cases e:(j - 1) / 2=i
      ·rw [if_pos e] at hd
       cases hd
       by_cases e1:j=k
       ·rw [if_pos e1] at hc
        cases hc
        exact o.asym hlt
       ·rw [if_neg e1,if_neg (by omega)] at hc
        exact hmin j c hj e hc
      ·rw [if_neg e] at hd
       by_cases e2:j=i
       ·subst e2
        rw [if_neg (by omega),if_pos rfl] at hc
        cases hc
        exact h2 k b d hj (by omega) (by omega) hb hd
       ·rw [if_neg (by omega),if_neg e2] at hc
        exact h1 j c d hj e hc hd
     ·rw [qgh hi hk] at hc hd
      rw [if_neg (by omega),if_neg (by omega)] at hc
      rw [if_neg (by omega),if_pos (by omega)] at hd
      cases hd
      exact h1 j c b hj (by omega) hc (by rw [hp]; exact hb)
    ·rename_i hlt
     intro j c d hj hc hd
     by_cases e:(j - 1) / 2=i
     ·rw [e,ha] at hd
      cases hd
      exact o.ntr (hmin j c hj e hc) (by simpa using hlt)
     ·exact h1 j c d hj e hc hd
   ·rename_i hno
    intro j c d hj hc hd
    by_cases e:(j - 1) / 2=i
    ·cases e5:xs[kid lt xs i]? with
     | none=>rw [q0ki e5 hj e] at hc; cases hc
     | some b=>
      rw [e] at hd
      exact absurd hd (hno b d e5)
    ·exact h1 j c d hj e hc hd
theorem qg6 (xs:List α) (a:α):(q9o lt xs a).Perm (a :: xs):=(qyw _ _ _).trans List.perm_append_comm
theorem q0jq (o:Ord lt) {xs:List α} (a:α) (h:q56 lt xs):q56 lt (q9o lt xs a):=by
 refine qz7 o _ _ _ (by omega) (λ j c d hj hne hc hd=>?_) (λ j c d h0 hj hp hc hd=>?_)
 ·have hl:=(List.getElem?_eq_some_iff.1 hc).1
  simp at hl
  rw [List.getElem?_append_left (by omega)] at hc hd
  exact h j c d hj hc hd
 ·have hl:=(List.getElem?_eq_some_iff.1 hc).1
  simp at hl
  omega
theorem q56.least (o:Ord lt) {xs:List α} (h:q56 lt xs) {r:α} (hr:xs[0]?=some r):∀ (j:Nat) a,xs[j]?=some a→lt a r=false:=by
 intro j
 induction j using Nat.strongRecOn with
 | ind j ih=>
  intro a ha
  rcases Nat.eq_zero_or_pos j with rfl | hj
  ·rw [hr] at ha; cases ha; exact o.irr _
  ·have hl:=(List.getElem?_eq_some_iff.1 ha).1
   have hb:xs[(j - 1) / 2]?=some xs[(j - 1) / 2]:=List.getElem?_eq_getElem (by omega)
   exact o.ntr (h j a _ hj ha hb) (ih _ (by omega) _ hb)
theorem q56.min (o:Ord lt) {xs:List α} (h:q56 lt xs) {r:α} (hr:xs[0]?=some r) {a:α} (ha:a∈xs):lt a r=false:=by
 obtain ⟨j,hj⟩:=List.getElem?_of_mem ha
 exact h.least o hr j a hj
theorem q0ne {xs:List α} {r z:α} (hr:xs[0]?=some r) (hz:xs[xs.length - 1]?=some z):(r :: (xs.set 0 z).take (xs.length - 1)).Perm xs:=by
 cases xs with
 | nil=>simp at hr
 | cons x xs=>
  simp at hr
  subst hr
  refine List.Perm.cons _ ?_
  rcases List.eq_nil_or_concat xs with rfl | ⟨ys,y,rfl⟩
  ·simp
  ·have e1:(x :: ys.concat y)[(x :: ys.concat y).length - 1]?=some y:=by simp
   rw [e1] at hz
   cases hz
   have e2:((x :: ys.concat z).set 0 z).take ((x :: ys.concat z).length - 1)=z :: ys:=by simp
   rw [e2,List.concat_eq_append]
   exact (List.perm_append_comm (l₁:=[z]) (l₂:=ys))
theorem qmc {xs:List α} {r:α} (hr:xs[0]?=some r):(r :: q30 lt xs).Perm xs:=by
 have hl:=(List.getElem?_eq_some_iff.1 hr).1
 have hz:xs[xs.length - 1]?=some xs[xs.length - 1]:=List.getElem?_eq_getElem (by omega)
 unfold q30
 rw [hz]
 exact ((qx7 _ _ _).cons _).trans (q0ne hr hz)
theorem q0lb (o:Ord lt) {xs:List α} (h:q56 lt xs):q56 lt (q30 lt xs):=by
 unfold q30
 split
 ·refine qxh o _ _ _ (by simp; omega) (λ j c d hj hne hc hd=>?_) (λ j c d h0=>by omega)
  rw [List.getElem?_take] at hc hd
  split at hc
  ·split at hd
   ·rw [List.getElem?_set_ne (by omega)] at hc hd
    exact h j c d hj hc hd
   ·cases hd
  ·cases hc
 ·intro j a b _ ha
  simp at ha
theorem qko (xs:List α) (a:α):(q9o lt xs a).length=xs.length + 1:=by rw [(qg6 xs a).length_eq]; rfl
theorem qw9 {xs:List α} (h:0 < xs.length):(q30 lt xs).length=xs.length - 1:=by
 have:=(qmc (lt:=lt) (List.getElem?_eq_getElem h)).length_eq
 simp at this
 omega
end
section
variable {α:Type} {e:α→List Value} {s:Nat}
theorem q3f (he:∀ a,(e a).length=s) (xs:List α):(xs.flatMap e).length=xs.length * s:=by
 induction xs with
 | nil=>simp
 | cons x xs ih=>rw [List.flatMap_cons,List.length_append,ih,he,List.length_cons,Nat.add_mul]; omega
theorem q2l (he:∀ a,(e a).length=s) {xs:List α} {i:Nat} {a:α} (Z:List Value) (h:xs[i]?=some a):((xs.flatMap e++Z).drop (i * s)).take s=e a:=by
 induction xs generalizing i with
 | nil=>simp at h
 | cons x xs ih=>
  cases i with
  | zero=>simp at h; subst h; rw [Nat.zero_mul,List.drop_zero,List.flatMap_cons,List.append_assoc,List.take_left' (he x)]
  | succ i=>
   rw [List.flatMap_cons,List.append_assoc,Nat.succ_mul,Nat.add_comm,← List.drop_drop,List.drop_left' (he x)]
   exact ih (by simpa using h)
theorem q5o (he:∀ a,(e a).length=s) {xs:List α} {i:Nat} (Z:List Value) (hi:i < xs.length) (b:α):splice (xs.flatMap e++Z) (i * s) (e b)=(xs.set i b).flatMap e++Z:=by
 induction xs generalizing i with
 | nil=>simp at hi
 | cons x xs ih=>
  cases i with
  | zero=>simp only [splice,Nat.zero_mul,List.take_zero,List.nil_append,Nat.zero_add,List.flatMap_cons,List.set_cons_zero,List.append_assoc]; rw [he,List.drop_left' (he x)]
  | succ i=>
   have:=ih (i:=i) (by simpa using hi)
   unfold splice at this ⊢
   rw [List.set_cons_succ,List.flatMap_cons,List.flatMap_cons,List.append_assoc,List.append_assoc,List.append_assoc,← this]
   rw [Nat.succ_mul,Nat.add_comm (i * s) s,List.take_append,he,List.take_of_length_le (by rw [he]; omega),show s + i * s - s=i * s by omega,Nat.add_assoc,← List.drop_drop (l:=e x++_),List.drop_left' (he x)]
   simp only [List.append_assoc]
variable {w0:World} {h:Hp} {u n i:Nat} {cs:List Value} {K:qh}
theorem rd2 {c:Nat} {v:List Value} (hu:w0.heap.size≤u) (hb:h.blk u=some cs) (hi:i < n) (hl:i * 2 + 2≤cs.length) (hc:(cs.drop (i * 2)).take 2=v) (hk:K (.agg v.toArray) h):q04 2 (.slice (some ⟨u,0,none⟩) n c) (.int .i64 (i:Int)) (λ q=>qw w0 q 2 K) h:=by
 rw [qc4]
 refine ⟨by omega,by omega,?_⟩
 rw [addr_add,Int.toNat_natCast,Nat.zero_add]
 rw [qlg,q6e,hb,Option.bind_some,if_pos hl,hc]
 exact ⟨v,rfl,λ q=>by omega,hk⟩
theorem wr1 {c:Nat} {v:Value} (hu:w0.heap.size≤u) (hb:h.blk u=some cs) (hi:i < n) (hl:i * 1 < cs.length) (hv:qv v=true) (hk:K undef (h.put u (splice cs (i * 1) [v]))):q04 1 (.slice (some ⟨u,0,none⟩) n c) (.int .i64 (i:Int)) (λ q=>q0q w0 q v K) h:=by
 rw [qc4]
 refine ⟨by omega,by omega,?_⟩
 rw [addr_add,Int.toNat_natCast,Nat.zero_add]
 refine q21 hu hb hl hv ?_
 rw [← qc5 _ _ _ hl]
 exact hk
theorem wr2 {c:Nat} {v:List Value} (hu:w0.heap.size≤u) (hb:h.blk u=some cs) (hi:i < n) (hl:i * 2 + 2≤cs.length) (hv:v.length=2) (hk:K undef (h.put u (splice cs (i * 2) v))):q04 2 (.slice (some ⟨u,0,none⟩) n c) (.int .i64 (i:Int)) (λ q=>q0k w0 q (.agg v.toArray) 2 K) h:=by
 rw [qc4]
 refine ⟨by omega,by omega,?_⟩
 rw [addr_add,Int.toNat_natCast,Nat.zero_add]
 exact ⟨_,_,cs,_,rfl,hu,rfl,by simpa using hv,hb,hl,hk⟩
end
structure HB (w0:World) (s:Nat) (h:Hp) (p u n:Nat) (lf:Value) (cs:List Value):Prop where
 bp:h.blk p=some [.slice (some ⟨u,0,none⟩) n q0b,lf]
 bu:h.blk u=some cs
 wp:w0.heap.size≤p
 wu:w0.heap.size≤u
 ne:p≠u
 lp:p < h.next
 lu:u < h.next
 es:h.esz u=s
theorem HB.step {w0:World} {s:Nat} {h h':Hp} {p u n:Nat} {lf:Value} {cs:List Value} (b:HB w0 s h p u n lf cs) (st:Step h h' [] []):HB w0 s h' p u n lf cs:=
 ⟨by rw [(st.keep p b.lp (by simp)).1]; exact b.bp,by rw [(st.keep u b.lu (by simp)).1]; exact b.bu,b.wp,b.wu,b.ne,by have:=st.1; have:=b.lp; omega,by have:=st.1; have:=b.lu; omega,by rw [(st.keep u b.lu (by simp)).2]; exact b.es⟩
theorem HB.put {w0:World} {s:Nat} {h:Hp} {p u n:Nat} {lf:Value} {cs:List Value} (b:HB w0 s h p u n lf cs) (cs':List Value):HB w0 s (h.put u cs') p u n lf cs' :=
 ⟨by rw [q17,if_neg b.ne]; exact b.bp,by simp,b.wp,b.wu,b.ne,b.lp,b.lu,b.es⟩
theorem Step.in_ {h h1 h2:Hp} {S:List Nat} (a:Step h h1 S S) (b:Step h1 h2 [] []):Step h h2 S S:=
 a.trans (b.wide (by simp) (λ q hq=>.inr ⟨hq,(a.own q hq).1⟩))
theorem q0mb {α:Type} {e:α→List Value} {s:Nat} (he:∀ a,(e a).length=s) {xs:List α} {n:Nat} (hx:xs.length=n + 1) {c:List Value} (hc:c.length=s):splice (xs.flatMap e) (n * s) c=(xs.take n).flatMap e++c:=by
 have hl:=q3f he xs
 rw [hx,Nat.add_mul] at hl
 unfold splice
 rw [List.drop_of_length_le (by omega),List.append_nil]
 congr 1
 have e1:xs.flatMap e=(xs.take n).flatMap e++(xs.drop n).flatMap e:=by rw [← List.flatMap_append,List.take_append_drop]
 have e2:((xs.take n).flatMap e).length=n * s:=by rw [q3f he,List.length_take,hx,Nat.min_eq_left (by omega)]
 rw [e1,← e2,List.take_left']
 rfl
def Hq (w0:World) (s:Nat) (h:Hp) (p:Nat) (lf:Value) (n:Nat) (cs:List Value) (S:List Nat):Prop:=
 ∃ x U,h.blk p=some [x,lf]∧Vec w0 h s x n cs U∧w0.heap.size≤p∧p < h.next∧p∉U∧S=p :: U
section
variable {w0:World} {s:Nat} {h h':Hp} {p u n:Nat} {lf:Value} {cs:List Value} {S:List Nat}
theorem Hq.lt (m:Hq w0 s h p lf n cs S):∀ b,b∈S→w0.heap.size≤b∧b < h.next:=by
 obtain ⟨x,U,a,v,b,c,d,rfl⟩:=m
 intro q hq
 rcases List.mem_cons.1 hq with rfl | hq
 ·exact ⟨b,c⟩
 ·exact v.lt q hq
theorem Hq.frame (m:Hq w0 s h p lf n cs S) {T T':List Nat} (st:Step h h' T T') (hd:∀ b,b∈S→b∉T):Hq w0 s h' p lf n cs S:=by
 obtain ⟨x,U,a,v,b,c,d,rfl⟩:=m
 exact ⟨x,U,by rw [(st.keep p c (hd p (by simp))).1]; exact a,v.frame st (λ q hq=>hd q (by simp [hq])),b,by have:=st.1; omega,d,rfl⟩
theorem Hq.refl (m:Hq w0 s h p lf n cs S):Step h h S S:=.refl _ _ λ b hb=>(m.lt b hb).2
theorem HB.hq (b:HB w0 s h p u n lf cs) (hl:cs.length=n * s):Hq w0 s h p lf n cs [p,u]:=
 ⟨_,[u],b.bp,.inr ⟨u,rfl,rfl,b.wu,b.lu,b.bu,b.es,hl⟩,b.wp,b.lp,by simpa using b.ne,rfl⟩
theorem Hq.hb (m:Hq w0 s h p lf n cs S) (h0:0 < n):∃ u,S=[p,u]∧HB w0 s h p u n lf cs∧cs.length=n * s:=by
 obtain ⟨x,U,a,v,b,c,d,rfl⟩:=m
 rcases v with ⟨-,q,-⟩ | ⟨u,rfl,rfl,v1,v2,v3,v4,v5⟩
 ·omega
 ·exact ⟨u,rfl,⟨a,v3,b,v1,by simpa using d,c,v2,v4⟩,v5⟩
theorem HB.put_p (b:HB w0 s h p u n lf cs) (k:Nat):HB w0 s (h.put p [.slice (some ⟨u,0,none⟩) k q0b,lf]) p u k lf cs:=
 ⟨by simp,by rw [q17,if_neg (Ne.symm b.ne)]; exact b.bu,b.wp,b.wu,b.ne,b.lp,b.lu,b.es⟩
theorem HB.put_o (b:HB w0 s h p u n lf cs) {q:Nat} (h1:q≠p) (h2:q≠u) (c:List Value):HB w0 s (h.put q c) p u n lf cs:=
 ⟨by rw [q17,if_neg (Ne.symm h1)]; exact b.bp,by rw [q17,if_neg (Ne.symm h2)]; exact b.bu,b.wp,b.wu,b.ne,b.lp,b.lu,b.es⟩
theorem HB.refl (b:HB w0 s h p u n lf cs):Step h h [p,u] [p,u]:=.refl _ _ λ q hq=>by
 rcases List.mem_cons.1 hq with rfl | hq
 ·exact b.lp
 ·simp at hq; subst hq; exact b.lu
end
theorem Step.tail {h h':Hp} {S:List Nat} (a:Step h h' S S) {q:Nat} (hq:q < h.next):Step h h' (q :: S) (q :: S):=
 a.wide (λ b hb=>by simp [hb]) (λ b hb=>by
  rcases List.mem_cons.1 hb with rfl | hb
  ·exact .inr ⟨by simp,hq⟩
  ·exact .inl hb)
def ee (x:Ent):List Value:=[.string (str x.k),.string (str x.v),.bool x.g]
theorem q9k (x:Ent):(ee x).length=3:=rfl
abbrev Es (w0:World) (h:Hp) (x:Value) (l:List Ent):Prop:=Sl w0 h 3 x l.length (l.flatMap ee)
theorem q53 (l:List Ent):(l.flatMap ee).length=l.length * 3:=q3f q9k l
theorem q3u {l:List Ent} {i:Nat} {x:Ent} (h:l[i]?=some x):((l.flatMap ee).drop (i * 3)).take 3=ee x:=by
 have:=q2l q9k [] h
 rwa [List.append_nil] at this
theorem q000 {l:List Ent} {i:Nat} {x:Ent} (h:l[i]?=some x) (o:Nat) (ho:o < 3) {v:Value} (hv:(ee x)[o]?=some v:=by rfl):(l.flatMap ee)[i * 3 + o]?=some v:=by
 rw [flat_get q9k h ho,hv]
theorem q0n7 (l:List Ent) (i:Nat):(l.flatMap ee).take (i * 3)=(l.take i).flatMap ee:=by
 induction l generalizing i with
 | nil=>simp
 | cons x l ih=>
  cases i with
  | zero=>simp
  | succ i=>
   rw [List.flatMap_cons,List.take_succ_cons,List.flatMap_cons,← ih,List.take_append,List.take_of_length_le (by rw [q9k]; omega),q9k,show (i + 1) * 3 - 3=i * 3 by omega]
theorem qzp (l:List Ent) (i:Nat):(l.flatMap ee).drop (i * 3)=(l.drop i).flatMap ee:=by
 induction l generalizing i with
 | nil=>simp
 | cons x l ih=>
  cases i with
  | zero=>simp
  | succ i=>
   rw [List.flatMap_cons,List.drop_succ_cons,← ih,List.drop_append,List.drop_of_length_le (by rw [q9k]; omega),List.nil_append,q9k,show (i + 1) * 3 - 3=i * 3 by omega]
section
variable {w0:World}
theorem q0db {k0:Value→Hp→Prop} {h:Hp} {a b:Key} (hl:a.length≤1000000000) (hk:k0 (.int .i64 (shd a b:Int)) h):∀ (m n:Nat),n + m=a.length→shd a b=n + shd (a.drop n) (b.drop n)→q8v prog w0 k0 (m + 1) (.string (str a)) (.string (str b)) (.int .i64 (n:Int)) h:=by
 intro m
 induction m with
 | zero=>
  intro n hn he
  have c1:decide ((n:Int) < (a.length:Int))=false:=decide_eq_false (by omega)
  rw [q8v]
  simp only [qbs,wd, wa,c1]
  have:a.drop n=[]:=List.drop_of_length_le (by omega)
  rw [he,this] at hk
  simpa [shd] using hk
 | succ m ih=>
  intro n hn he
  have c1:decide ((n:Int) < (a.length:Int))=true:=decide_eq_true (by omega)
  have e6:=wrN n (by omega)
  have ha:a[n]?=some a[n]:=List.getElem?_eq_getElem (by omega)
  have hda:a.drop n=a[n] :: a.drop (n + 1):=List.drop_eq_getElem_cons (by omega)
  rw [q8v]
  by_cases hb:n < b.length
  ·have c2:decide ((n:Int) < (b.length:Int))=true:=decide_eq_true (by omega)
   have hg:b[n]?=some b[n]:=List.getElem?_eq_getElem hb
   have hdb:b.drop n=b[n] :: b.drop (n + 1):=List.drop_eq_getElem_cons hb
   simp only [qbs,wd, wa,c1,c2,qbx,ha,hg,Option.map_some,bv]
   rw [hda,hdb,shd] at he
   by_cases hab:a[n]=b[n]
   ·have c3:((a[n].toNat:Int) == (b[n].toNat:Int))=true:=by rw [hab]; simp
    simp only [c3,wd, wa,e6]
    rw [if_pos hab] at he
    exact ih (n + 1) (by omega) (by omega)
   ·have c3:((a[n].toNat:Int) == (b[n].toNat:Int))=false:=by
     rw [beq_eq_false_iff_ne]
     intro q
     exact hab (UInt8.toNat_inj.1 (by omega))
    simp only [c3,wd, wa]
    rw [if_neg hab,Nat.add_zero] at he
    rw [he] at hk
    exact hk
  ·have c2:decide ((n:Int) < (b.length:Int))=false:=decide_eq_false (by omega)
   simp only [qbs,wd, wa,c1,c2]
   have:b.drop n=[]:=List.drop_of_length_le (by omega)
   rw [he,this,hda] at hk
   simpa [shd] using hk
theorem q0cl {h:Hp} (a b:Key) (hl:a.length≤1000000000):qf prog w0 qkn [.string (str a),.string (str b)] h λ r h'=>r=.int .i64 (shd a b:Int)∧h'=h:=by
 refine qf.of_fit (by simp) λ f=>q0df (by simp) ?_
 simp only [qkp]
 refine ⟨a.length + 1,q0db hl ?_ a.length 0 (by omega) (by simp)⟩
 simp only [qu,q06]
 exact ⟨by simp,trivial,trivial⟩
theorem qwi {h:Hp} (x:Ent):qf prog w0 qg5 [.agg (ee x).toArray] h λ r h'=>r=.bool (q0e x)∧Step h h' [] []:=by
 refine qf.of_fit (by simp) λ f=>q0jm (by simp) ?_
 have fb:=f.base
 simp only [qx3,q4c]
 have s1:Step h (h.new (ee x) 3) [] []:=((Step.refl h [] (by simp)).new _ _).less (by simp)
 have b1:(h.new (ee x) 3).blk h.next=some (ee x):=by simp
 show qk _ 0 _ (h.new (ee x) 3)
 generalize h.new (ee x) 3=h1 at *
 have fin:∀ q,q=q0e x→qo [.bool q] (λ r h'=>r=.bool (q0e x)∧Step h h' [] []) h1:=λ q e=>by
  subst e
  simp only [qu,q06]
  exact ⟨by simp,trivial,s1⟩
 simp only [wd, wa]
 refine qj fb b1 rfl ?_
 simp only [wd, wa]
 have hr:q0e x=(decide (1≤x.k.length) && decide (x.k.length≤64) && decide (x.v.length≤64) && !(x.g && decide (x.v≠[]))):=rfl
 by_cases h1k:1≤x.k.length
 ·have c1:decide ((1:Int)≤(x.k.length:Int))=true:=decide_eq_true (by omega)
  simp only [c1,wd, wa]
  refine qj fb b1 rfl ?_
  simp only [wd, wa]
  by_cases h2k:x.k.length≤64
  ·have c2:decide ((x.k.length:Int)≤64)=true:=decide_eq_true (by omega)
   simp only [c2,wd, wa]
   refine qj fb b1 rfl ?_
   simp only [wd, wa]
   by_cases h3k:x.v.length≤64
   ·have c3:decide ((x.v.length:Int)≤64)=true:=decide_eq_true (by omega)
    simp only [c3,wd, wa]
    refine qj fb b1 rfl ?_
    have e0:qd .neq (.string (str x.v)) (.string .empty)=some (.bool (decide (x.v≠[]))):=by rw [q75,q6l]
    cases hg:x.g with
    | true=>
     simp only [wd, wa]
     refine qj fb b1 rfl ?_
     simp only [e0,wd, wa]
     exact fin _ (by rw [hr,hg]; simp [h1k,h2k,h3k])
    | false=>
     simp only [wd, wa,Bool.not_false]
     exact fin _ (by rw [hr,hg]; simp [h1k,h2k,h3k])
   ·have c3:decide ((x.v.length:Int)≤64)=false:=decide_eq_false (by omega)
    simp only [c3,wd, wa]
    exact fin _ (by rw [hr]; simp [h3k])
  ·have c2:decide ((x.k.length:Int)≤64)=false:=decide_eq_false (by omega)
   simp only [c2,wd, wa]
   exact fin _ (by rw [hr]; simp [h2k])
 ·have c1:decide ((1:Int)≤(x.k.length:Int))=false:=decide_eq_false (by omega)
  simp only [c1,wd, wa]
  exact fin _ (by rw [hr]; simp [h1k])
theorem q0ef {k0 kr:Value→Hp→Prop} {v x2:Value} {l:List Ent} {hh:Hp} (hv:Es w0 hh v l) (fh:Fit w0 hh) (hl:l.length≤1000000000) (h1:∀ h',q27 l=true→Step hh h' [] []→k0 x2 h') (h2:∀ h',q27 l=false→Step hh h' [] []→kr (.int .i64 120) h'):
  ∀ (post pre:List Ent) (h3:Hp),pre++post=l→q27 l=q50 ((pre.getLast?).map (·.k)) post→Fit w0 h3→Step hh h3 [] []→q70 prog w0 k0 kr (post.length + 1) v x2 v (.int .i64 (l.length:Int)) (.int .i64 (pre.length:Int)) h3:=by
 intro post
 induction post with
 | nil=>
  intro pre h3 he hc f3 st
  have hpre:pre=l:=by simpa using he
  subst hpre
  rw [List.length_nil,q70]
  simp only [qfk,wd, wa,Int.lt_irrefl,decide_false]
  exact h1 h3 (by rw [hc]; cases (pre.getLast?).map (·.k) <;> rfl) st
 | cons x post ih=>
  intro pre h3 he hc f3 st
  have hlen:pre.length + (post.length + 1)=l.length:=by rw [← he]; simp
  have hg:l[pre.length]?=some x:=by rw [← he]; simp
  have c1:decide ((pre.length:Int) < (l.length:Int))=true:=decide_eq_true (by omega)
  have e6:=wrS pre x (by omega)
  have vs:Es w0 h3 v l:=hv.step fh st (by simp)
  have fb:=f3.base
  rw [qcx] at hc
  rw [List.length_cons,q70]
  simp only [qfk,wd, wa,c1]
  refine vs.elem (by omega) (q3u hg) ?_
  refine q2f fb rfl rfl (by simp [qv]) ?_
  have sx:Step h3 (h3.new (ee x) 3) [] []:=((Step.refl h3 [] (by simp)).new _ _).less (by simp)
  have hx:(h3.new (ee x) 3).blk h3.next=some (ee x):=by simp
  have stx:=st.trans sx
  have vx:Es w0 (h3.new (ee x) 3) v l:=vs.step f3 sx (by simp)
  have fx:Fit w0 (h3.new (ee x) 3):=f3.new (by simp [ee,qv])
  have nx:h3.next < (h3.new (ee x) 3).next:=by simp
  generalize hnx:h3.new (ee x) 3=hx1 at *
  simp only [wd, wa]
  refine q16 fb hx rfl ?_
  refine qq (qwi x) λ r h4 ⟨e,s4⟩ f4=>?_
  subst e
  have st4:=stx.trans s4
  have v4:Es w0 h4 v l:=vx.step fx s4 (by simp)
  have hx4:h4.blk h3.next=some (ee x):=by rw [(s4.keep _ nx (by simp)).1]; exact hx
  simp only [wd, wa]
  cases hr:q0e x with
  | false=>
   simp only [Bool.not_false,wd, wa]
   exact h2 h4 (by rw [hc,hr]; rfl) st4
  | true=>
   simp only [Bool.not_true,wd, wa]
   have on:∀ q,q=q9v ((pre.getLast?).map (·.k)) x.k→qt (.bool (!q)) (kr (.int .i64 120)) (qb (qd .add (.int .i64 (pre.length:Int)) (.int .i64 1)) λ v30=>q70 prog w0 k0 kr (post.length + 1) v x2 v (.int .i64 (l.length:Int)) v30) h4:=by
    intro q hq
    rw [hr,← hq,Bool.true_and] at hc
    cases q with
    | false=>
     simp only [Bool.not_false,wd, wa]
     exact h2 h4 (by rw [hc]; rfl) st4
    | true=>
     simp only [Bool.not_true,wd, wa,e6]
     refine ih (pre++[x]) h4 (by simpa using he) ?_ f4 st4
     rw [hc]; simp
   rcases Nat.eq_zero_or_pos pre.length with h0 | h0
   ·have c2:decide ((0:Int) < (pre.length:Int))=false:=decide_eq_false (by omega)
    simp only [c2,wd, wa]
    have:=on true (by rw [List.eq_nil_of_length_eq_zero h0]; rfl)
    simp only [Bool.not_true,wd, wa] at this
    exact this
   ·have c2:decide ((0:Int) < (pre.length:Int))=true:=decide_eq_true (by omega)
    have e5:IntKind.i64.wrap ((pre.length:Int) - 1)=((pre.length - 1:Nat):Int):=by rw [IntWalk.i64_in _ (by omega)]; omega
    obtain ⟨pr,z,rfl⟩:∃ pr z,pre=pr++[z]:=by
     rcases List.eq_nil_or_concat pre with q | ⟨pr,z,q⟩
     ·rw [q] at h0; simp at h0
     ·exact ⟨pr,z,by rw [q]; simp⟩
    have hgz:l[(pr++[z]).length - 1]?=some z:=by rw [← he]; simp
    simp only [c2,wd, wa,e5]
    refine v4.fld (o:=0) (by omega) (by omega) (q000 hgz 0 (by omega)) ?_
    refine qj fb hx4 rfl ?_
    simp only [qb0,wd, wa]
    have:=on (blt z.k x.k) (by simp [q9v])
    simp only [wd, wa] at this
    exact this
theorem qvp {v:Value} {l:List Ent} {h:Hp} (hv:Es w0 h v l) (hl:l.length≤1000000000):qf prog w0 qfw [v] h λ r h'=>r=.int .i64 (if q27 l=true then 0 else 120)∧Step h h' [] []:=by
 refine qf.of_fit (by simpa using hv.junk) λ f=>q0fl (by simpa using hv.junk) ?_
 simp only [qky,hv.lenv,wd, wa]
 refine ⟨l.length + 1,q0ef hv f hl (λ h' e st=>?_) (λ h' e st=>?_) l [] h rfl rfl f (.refl _ _ (by simp))⟩
 ·simp only [qu,q06]
  exact ⟨by simp,by rw [e,if_pos rfl],st⟩
 ·simp only [qu,q06]
  exact ⟨by simp,by rw [e,if_neg (by simp)],st⟩
theorem q0cw {k0:Value→Hp→Prop} {h:Hp} {a b:Key} (hl:a.length≤1000000000) (hk:k0 (.int .i64 (shd a b:Int)) h):∀ (m n:Nat),n + m=a.length→shd a b=n + shd (a.drop n) (b.drop n)→q8a prog w0 k0 (m + 1) (.string (str a)) (.string (str b)) (.int .i64 (n:Int)) h:=by
 intro m
 induction m with
 | zero=>
  intro n hn he
  have c1:decide ((n:Int) < (a.length:Int))=false:=decide_eq_false (by omega)
  rw [q8a]
  simp only [qbh,wd, wa,c1]
  have:a.drop n=[]:=List.drop_of_length_le (by omega)
  rw [he,this] at hk
  simpa [shd] using hk
 | succ m ih=>
  intro n hn he
  have c1:decide ((n:Int) < (a.length:Int))=true:=decide_eq_true (by omega)
  have e6:=wrN n (by omega)
  have ha:a[n]?=some a[n]:=List.getElem?_eq_getElem (by omega)
  have hda:a.drop n=a[n] :: a.drop (n + 1):=List.drop_eq_getElem_cons (by omega)
  rw [q8a]
  by_cases hb:n < b.length
  ·have c2:decide ((n:Int) < (b.length:Int))=true:=decide_eq_true (by omega)
   have hg:b[n]?=some b[n]:=List.getElem?_eq_getElem hb
   have hdb:b.drop n=b[n] :: b.drop (n + 1):=List.drop_eq_getElem_cons hb
   simp only [qbh,wd, wa,c1,c2,qbx,ha,hg,Option.map_some,bv]
   rw [hda,hdb,shd] at he
   by_cases hab:a[n]=b[n]
   ·have c3:((a[n].toNat:Int) == (b[n].toNat:Int))=true:=by rw [hab]; simp
    simp only [c3,wd, wa,e6]
    rw [if_pos hab] at he
    exact ih (n + 1) (by omega) (by omega)
   ·have c3:((a[n].toNat:Int) == (b[n].toNat:Int))=false:=by
     rw [beq_eq_false_iff_ne]
     intro q
     exact hab (UInt8.toNat_inj.1 (by omega))
    simp only [c3,wd, wa]
    rw [if_neg hab,Nat.add_zero] at he
    rw [he] at hk
    exact hk
  ·have c2:decide ((n:Int) < (b.length:Int))=false:=decide_eq_false (by omega)
   simp only [qbh,wd, wa,c1,c2]
   have:b.drop n=[]:=List.drop_of_length_le (by omega)
   rw [he,this,hda] at hk
   simpa [shd] using hk
theorem q0d4 {h:Hp} (a b:Key) (hl:a.length≤1000000000):qf prog w0 qji [.string (str a),.string (str b)] h λ r h'=>r=.int .i64 (shd a b:Int)∧h'=h:=by
 refine qf.of_fit (by simp) λ f=>q082 (by simp) ?_
 simp only [qjd]
 refine ⟨a.length + 1,q0cw hl ?_ a.length 0 (by omega) (by simp)⟩
 simp only [qu,q06]
 exact ⟨by simp,trivial,trivial⟩
theorem qwg {h:Hp} (x:Ent):qf prog w0 qeu [.agg (ee x).toArray] h λ r h'=>r=.bool (q0e x)∧Step h h' [] []:=by
 refine qf.of_fit (by simp) λ f=>q09b (by simp) ?_
 have fb:=f.base
 simp only [qsw,q4c]
 have s1:Step h (h.new (ee x) 3) [] []:=((Step.refl h [] (by simp)).new _ _).less (by simp)
 have b1:(h.new (ee x) 3).blk h.next=some (ee x):=by simp
 show qk _ 0 _ (h.new (ee x) 3)
 generalize h.new (ee x) 3=h1 at *
 have fin:∀ q,q=q0e x→qo [.bool q] (λ r h'=>r=.bool (q0e x)∧Step h h' [] []) h1:=λ q e=>by
  subst e
  simp only [qu,q06]
  exact ⟨by simp,trivial,s1⟩
 simp only [wd, wa]
 refine qj fb b1 rfl ?_
 simp only [wd, wa]
 have hr:q0e x=(decide (1≤x.k.length) && decide (x.k.length≤64) && decide (x.v.length≤64) && !(x.g && decide (x.v≠[]))):=rfl
 by_cases h1k:1≤x.k.length
 ·have c1:decide ((1:Int)≤(x.k.length:Int))=true:=decide_eq_true (by omega)
  simp only [c1,wd, wa]
  refine qj fb b1 rfl ?_
  simp only [wd, wa]
  by_cases h2k:x.k.length≤64
  ·have c2:decide ((x.k.length:Int)≤64)=true:=decide_eq_true (by omega)
   simp only [c2,wd, wa]
   refine qj fb b1 rfl ?_
   simp only [wd, wa]
   by_cases h3k:x.v.length≤64
   ·have c3:decide ((x.v.length:Int)≤64)=true:=decide_eq_true (by omega)
    simp only [c3,wd, wa]
    refine qj fb b1 rfl ?_
    have e0:qd .eql (.string (str x.v)) (.string .empty)=some (.bool (decide (x.v=[]))):=by rw [q75,q9p]
    cases hg:x.g with
    | true=>
     simp only [wd, wa,Bool.not_true]
     refine qj fb b1 rfl ?_
     simp only [e0,wd, wa]
     exact fin _ (by rw [hr,hg]; simp [h1k,h2k,h3k])
    | false=>
     simp only [wd, wa,Bool.not_false]
     exact fin _ (by rw [hr,hg]; simp [h1k,h2k,h3k])
   ·have c3:decide ((x.v.length:Int)≤64)=false:=decide_eq_false (by omega)
    simp only [c3,wd, wa]
    exact fin _ (by rw [hr]; simp [h3k])
  ·have c2:decide ((x.k.length:Int)≤64)=false:=decide_eq_false (by omega)
   simp only [c2,wd, wa]
   exact fin _ (by rw [hr]; simp [h2k])
 ·have c1:decide ((1:Int)≤(x.k.length:Int))=false:=decide_eq_false (by omega)
  simp only [c1,wd, wa]
  exact fin _ (by rw [hr]; simp [h1k])
theorem q0ec {k0 kr:Value→Hp→Prop} {v x2:Value} {l:List Ent} {hh:Hp} (hv:Es w0 hh v l) (fh:Fit w0 hh) (hl:l.length≤1000000000) (h1:∀ h',q27 l=true→Step hh h' [] []→k0 x2 h') (h2:∀ h',q27 l=false→Step hh h' [] []→kr (.int .i64 120) h'):
  ∀ (post pre:List Ent) (h3:Hp),pre++post=l→q27 l=q50 ((pre.getLast?).map (·.k)) post→Fit w0 h3→Step hh h3 [] []→q6u prog w0 k0 kr (post.length + 1) v x2 v (.int .i64 (l.length:Int)) (.int .i64 (pre.length:Int)) h3:=by
 intro post
 induction post with
 | nil=>
  intro pre h3 he hc f3 st
  have hpre:pre=l:=by simpa using he
  subst hpre
  rw [List.length_nil,q6u]
  simp only [qer,wd, wa,Int.lt_irrefl,decide_false]
  exact h1 h3 (by rw [hc]; cases (pre.getLast?).map (·.k) <;> rfl) st
 | cons x post ih=>
  intro pre h3 he hc f3 st
  have hlen:pre.length + (post.length + 1)=l.length:=by rw [← he]; simp
  have hg:l[pre.length]?=some x:=by rw [← he]; simp
  have c1:decide ((pre.length:Int) < (l.length:Int))=true:=decide_eq_true (by omega)
  have e6:=wrS pre x (by omega)
  have vs:Es w0 h3 v l:=hv.step fh st (by simp)
  have fb:=f3.base
  rw [qcx] at hc
  rw [List.length_cons,q6u]
  simp only [qer,wd, wa,c1]
  refine vs.elem (by omega) (q3u hg) ?_
  refine q2f fb rfl rfl (by simp [qv]) ?_
  have sx:Step h3 (h3.new (ee x) 3) [] []:=((Step.refl h3 [] (by simp)).new _ _).less (by simp)
  have hx:(h3.new (ee x) 3).blk h3.next=some (ee x):=by simp
  have stx:=st.trans sx
  have vx:Es w0 (h3.new (ee x) 3) v l:=vs.step f3 sx (by simp)
  have fx:Fit w0 (h3.new (ee x) 3):=f3.new (by simp [ee,qv])
  have nx:h3.next < (h3.new (ee x) 3).next:=by simp
  generalize hnx:h3.new (ee x) 3=hx1 at *
  simp only [wd, wa]
  refine q16 fb hx rfl ?_
  refine qq (qwg x) λ r h4 ⟨e,s4⟩ f4=>?_
  subst e
  have st4:=stx.trans s4
  have v4:Es w0 h4 v l:=vx.step fx s4 (by simp)
  have hx4:h4.blk h3.next=some (ee x):=by rw [(s4.keep _ nx (by simp)).1]; exact hx
  simp only [wd, wa]
  cases hr:q0e x with
  | false=>
   simp only [Bool.not_false,wd, wa]
   exact h2 h4 (by rw [hc,hr]; rfl) st4
  | true=>
   simp only [Bool.not_true,wd, wa]
   have on:∀ q,q=q9v ((pre.getLast?).map (·.k)) x.k→qt (.bool (!q)) (kr (.int .i64 120)) (qb (qd .add (.int .i64 (pre.length:Int)) (.int .i64 1)) λ v30=>q6u prog w0 k0 kr (post.length + 1) v x2 v (.int .i64 (l.length:Int)) v30) h4:=by
    intro q hq
    rw [hr,← hq,Bool.true_and] at hc
    cases q with
    | false=>
     simp only [Bool.not_false,wd, wa]
     exact h2 h4 (by rw [hc]; rfl) st4
    | true=>
     simp only [Bool.not_true,wd, wa,e6]
     refine ih (pre++[x]) h4 (by simpa using he) ?_ f4 st4
     rw [hc]; simp
   rcases Nat.eq_zero_or_pos pre.length with h0 | h0
   ·have c2:decide ((0:Int) < (pre.length:Int))=false:=decide_eq_false (by omega)
    simp only [c2,wd, wa]
    have:=on true (by rw [List.eq_nil_of_length_eq_zero h0]; rfl)
    simp only [Bool.not_true,wd, wa] at this
    exact this
   ·have c2:decide ((0:Int) < (pre.length:Int))=true:=decide_eq_true (by omega)
    have e5:IntKind.i64.wrap ((pre.length:Int) - 1)=((pre.length - 1:Nat):Int):=by rw [IntWalk.i64_in _ (by omega)]; omega
    obtain ⟨pr,z,rfl⟩:∃ pr z,pre=pr++[z]:=by
     rcases List.eq_nil_or_concat pre with q | ⟨pr,z,q⟩
     ·rw [q] at h0; simp at h0
     ·exact ⟨pr,z,by rw [q]; simp⟩
    have hgz:l[(pr++[z]).length - 1]?=some z:=by rw [← he]; simp
    simp only [c2,wd, wa,e5]
    refine v4.fld (o:=0) (by omega) (by omega) (q000 hgz 0 (by omega)) ?_
    refine qj fb hx4 rfl ?_
    simp only [qb0,wd, wa]
    have:=on (blt z.k x.k) (by simp [q9v])
    simp only [wd, wa] at this
    exact this
theorem q0dv {v:Value} {l:List Ent} {h:Hp} (hv:Es w0 h v l) (hl:l.length≤1000000000):qf prog w0 qjm [v] h λ r h'=>r=.int .i64 (if q27 l=true then 0 else 120)∧Step h h' [] []:=by
 refine qf.of_fit (by simpa using hv.junk) λ f=>q095 (by simpa using hv.junk) ?_
 simp only [qjo,hv.lenv,wd, wa]
 refine ⟨l.length + 1,q0ec hv f hl (λ h' e st=>?_) (λ h' e st=>?_) l [] h rfl rfl f (.refl _ _ (by simp))⟩
 ·simp only [qu,q06]
  exact ⟨by simp,by rw [e,if_pos rfl],st⟩
 ·simp only [qu,q06]
  exact ⟨by simp,by rw [e,if_neg (by simp)],st⟩
end
section
variable {w0:World}
theorem qau {h:Hp} (l:List UInt8):Src w0.heap.size h 1 (.string (str l)) l.length (bvs l):=by
 have:=qwp (h:=h) w0.heap.size (str l)
 simpa using this
theorem qwl {h:Hp} (a:Key) (x:Ent) (ha:a.length≤1000000000) (hr:q0e x=true):qf prog w0 qfu [.string (str a),.agg (ee x).toArray] h λ r h'=>∃ S',GV w0 h' 1 r (eb a x).length (bvs (eb a x)) S'∧Step h h' [] S':=by
 refine qf.of_fit (by simp) λ f=>q0fo (by simp) ?_
 obtain ⟨r1,r2,r3,r4⟩:=(q48 x).1 hr
 obtain ⟨hn2,hn1,hn3⟩:=qh2 a x.k
 have fb:=f.base
 simp only [qw5,q4c]
 have s1:Step h (h.new (ee x) 3) [] []:=((Step.refl h [] (by simp)).new _ _).less (by simp)
 have b1:(h.new (ee x) 3).blk h.next=some (ee x):=by simp
 have f1:Fit w0 (h.new (ee x) 3):=f.new (by simp [ee,qv])
 have n1:h.next < (h.new (ee x) 3).next:=by simp
 show qk _ 0 _ (h.new (ee x) 3)
 generalize h.new (ee x) 3=h1 at *
 simp only [wd, wa]
 refine qj fb b1 rfl ?_
 refine qq (q0cl a x.k ha) λ r h2 ⟨e,e'⟩ f2=>?_
 subst e e'
 have b2:=b1
 have c1:bv (UInt8.ofNat (shd a x.k))=.int .u8 ((shd a x.k:Nat):Int):=by rw [q3r,Nat.mod_eq_of_lt (by omega)]
 have c2:bv (UInt8.ofNat (x.k.length - shd a x.k))=.int .u8 ((x.k.length - shd a x.k:Nat):Int):=by rw [q3r,Nat.mod_eq_of_lt (by omega)]
 have c3:bv (UInt8.ofNat x.v.length)=.int .u8 ((x.v.length:Nat):Int):=by rw [q3r,Nat.mod_eq_of_lt (by omega)]
 have u1:IntKind.u8.wrap ((shd a x.k:Nat):Int)=((shd a x.k:Nat):Int):=IntWalk.u8_in _ (by omega)
 have u2:IntKind.u8.wrap ((x.k.length - shd a x.k:Nat):Int)=((x.k.length - shd a x.k:Nat):Int):=IntWalk.u8_in _ (by omega)
 have u3:IntKind.u8.wrap ((x.v.length:Nat):Int)=((x.v.length:Nat):Int):=IntWalk.u8_in _ (by omega)
 have e5:IntKind.i64.wrap ((x.k.length:Int) - (shd a x.k:Int))=((x.k.length - shd a x.k:Nat):Int):=by rw [IntWalk.i64_in _ (by omega)]; omega
 have hz4:q00 [(.int .u8 0:Value)] 4=[.int .u8 0,.int .u8 0,.int .u8 0,.int .u8 0]:=rfl
 simp only [wd, wa]
 refine qj fb b2 rfl ?_
 cases hg:x.g with
 | true=>
  have c0:bv (q1l x.g)=.int .u8 1:=by rw [hg]; rfl
  simp only [wd, wa,u1]
  refine qj fb b2 rfl ?_
  simp only [wd, wa,e5,u2]
  refine qj fb b2 rfl ?_
  simp only [wd, wa,u3,q3s,hz4,q28,q1u,List.set_cons_zero,List.set_cons_succ]
  refine ⟨rfl,by simp,rfl,by simp,rfl,by simp,rfl,by simp,?_⟩
  have hcells:[Value.int IntKind.u8 ((shd a x.k:Nat):Int),.int .u8 ((x.k.length - shd a x.k:Nat):Int),.int .u8 1,.int .u8 (x.v.length:Int)]=bvs [UInt8.ofNat (shd a x.k),UInt8.ofNat (x.k.length - shd a x.k),q1l x.g,UInt8.ofNat x.v.length]:=by
   simp only [qck,qgv,c0,c1,c2,c3]
  rw [hcells]
  have g3:GV w0 (h2.new (bvs [UInt8.ofNat (shd a x.k),UInt8.ofNat (x.k.length - shd a x.k),q1l x.g,UInt8.ofNat x.v.length]) 1) 1 (.slice (some ⟨h2.next,0,none⟩) 4 4) 4 (bvs [UInt8.ofNat (shd a x.k),UInt8.ofNat (x.k.length - shd a x.k),q1l x.g,UInt8.ofNat x.v.length]) [h2.next]:=GV.new f2.base (by simp) (by decide)
  have s3:Step h2 (h2.new (bvs [UInt8.ofNat (shd a x.k),UInt8.ofNat (x.k.length - shd a x.k),q1l x.g,UInt8.ofNat x.v.length]) 1) [] [h2.next]:=(Step.refl h2 [] (by simp)).new _ _
  have b3:(h2.new (bvs [UInt8.ofNat (shd a x.k),UInt8.ofNat (x.k.length - shd a x.k),q1l x.g,UInt8.ofNat x.v.length]) 1).blk h.next=some (ee x):=by rw [(s3.keep _ n1 (by simp)).1]; exact b2
  have fb2:=f2.base
  have n3:(h2.new (bvs [UInt8.ofNat (shd a x.k),UInt8.ofNat (x.k.length - shd a x.k),q1l x.g,UInt8.ofNat x.v.length]) 1).next=h2.next + 1:=rfl
  generalize h2.new (bvs [UInt8.ofNat (shd a x.k),UInt8.ofNat (x.k.length - shd a x.k),q1l x.g,UInt8.ofNat x.v.length]) 1=h3 at *
  refine qj fb b3 rfl ?_
  simp only [q93 _ _ _ hn1,wd, wa]
  refine qj fb b3 rfl ?_
  have hdl:(x.k.drop (shd a x.k)).length=x.k.length - shd a x.k:=by simp
  refine q9i (m:=(x.k.drop (shd a x.k)).length) (by omega) g3 (by simp [lenA]) (qau _) (by simp) (by omega) (by omega) (by omega) λ y4 h4 S4 g4 s4=>?_
  have n4:=s4.1
  have b4:h4.blk h.next=some (ee x):=by rw [(s4.keep _ (by omega) (by simp; omega)).1]; exact b3
  simp only [q3o,q32,q4n]
  refine ⟨qj fb b4 rfl rfl,?_⟩
  refine q9i (m:=x.v.length) (by omega) g4 (by simp [lenA]) (qau _) (by simp) (by omega) (by omega) (by omega) λ y5 h5 S5 g5 s5=>?_
  simp only [wd, wa,qu,q06]
  have e1:bvs [UInt8.ofNat (shd a x.k),UInt8.ofNat (x.k.length - shd a x.k),q1l x.g,UInt8.ofNat x.v.length]++bvs (x.k.drop (shd a x.k))++bvs x.v=bvs (eb a x):=by rw [← q5g,← q5g,eb,List.append_assoc]
  have e2:4 + (x.k.drop (shd a x.k)).length + x.v.length=(eb a x).length:=by rw [q7g,hdl]
  rw [e1,e2] at g5
  exact ⟨by simpa using g5.nj,S5,g5,(s1.trans (s3.trans (s4.trans s5)))⟩
 | false=>
  have c0:bv (q1l x.g)=.int .u8 0:=by rw [hg]; rfl
  simp only [wd, wa,u1]
  refine qj fb b2 rfl ?_
  simp only [wd, wa,e5,u2]
  refine qj fb b2 rfl ?_
  simp only [wd, wa,u3,q3s,hz4,q28,q1u,List.set_cons_zero,List.set_cons_succ]
  refine ⟨rfl,by simp,rfl,by simp,rfl,by simp,rfl,by simp,?_⟩
  have hcells:[Value.int IntKind.u8 ((shd a x.k:Nat):Int),.int .u8 ((x.k.length - shd a x.k:Nat):Int),.int .u8 0,.int .u8 (x.v.length:Int)]=bvs [UInt8.ofNat (shd a x.k),UInt8.ofNat (x.k.length - shd a x.k),q1l x.g,UInt8.ofNat x.v.length]:=by
   simp only [qck,qgv,c0,c1,c2,c3]
  rw [hcells]
  have g3:GV w0 (h2.new (bvs [UInt8.ofNat (shd a x.k),UInt8.ofNat (x.k.length - shd a x.k),q1l x.g,UInt8.ofNat x.v.length]) 1) 1 (.slice (some ⟨h2.next,0,none⟩) 4 4) 4 (bvs [UInt8.ofNat (shd a x.k),UInt8.ofNat (x.k.length - shd a x.k),q1l x.g,UInt8.ofNat x.v.length]) [h2.next]:=GV.new f2.base (by simp) (by decide)
  have s3:Step h2 (h2.new (bvs [UInt8.ofNat (shd a x.k),UInt8.ofNat (x.k.length - shd a x.k),q1l x.g,UInt8.ofNat x.v.length]) 1) [] [h2.next]:=(Step.refl h2 [] (by simp)).new _ _
  have b3:(h2.new (bvs [UInt8.ofNat (shd a x.k),UInt8.ofNat (x.k.length - shd a x.k),q1l x.g,UInt8.ofNat x.v.length]) 1).blk h.next=some (ee x):=by rw [(s3.keep _ n1 (by simp)).1]; exact b2
  have fb2:=f2.base
  have n3:(h2.new (bvs [UInt8.ofNat (shd a x.k),UInt8.ofNat (x.k.length - shd a x.k),q1l x.g,UInt8.ofNat x.v.length]) 1).next=h2.next + 1:=rfl
  generalize h2.new (bvs [UInt8.ofNat (shd a x.k),UInt8.ofNat (x.k.length - shd a x.k),q1l x.g,UInt8.ofNat x.v.length]) 1=h3 at *
  refine qj fb b3 rfl ?_
  simp only [q93 _ _ _ hn1,wd, wa]
  refine qj fb b3 rfl ?_
  have hdl:(x.k.drop (shd a x.k)).length=x.k.length - shd a x.k:=by simp
  refine q9i (m:=(x.k.drop (shd a x.k)).length) (by omega) g3 (by simp [lenA]) (qau _) (by simp) (by omega) (by omega) (by omega) λ y4 h4 S4 g4 s4=>?_
  have n4:=s4.1
  have b4:h4.blk h.next=some (ee x):=by rw [(s4.keep _ (by omega) (by simp; omega)).1]; exact b3
  simp only [q3o,q32,q4n]
  refine ⟨qj fb b4 rfl rfl,?_⟩
  refine q9i (m:=x.v.length) (by omega) g4 (by simp [lenA]) (qau _) (by simp) (by omega) (by omega) (by omega) λ y5 h5 S5 g5 s5=>?_
  simp only [wd, wa,qu,q06]
  have e1:bvs [UInt8.ofNat (shd a x.k),UInt8.ofNat (x.k.length - shd a x.k),q1l x.g,UInt8.ofNat x.v.length]++bvs (x.k.drop (shd a x.k))++bvs x.v=bvs (eb a x):=by rw [← q5g,← q5g,eb,List.append_assoc]
  have e2:4 + (x.k.drop (shd a x.k)).length + x.v.length=(eb a x).length:=by rw [q7g,hdl]
  rw [e1,e2] at g5
  exact ⟨by simpa using g5.nj,S5,g5,(s1.trans (s3.trans (s4.trans s5)))⟩
end
end Go.Proofs.YtfmoemconapmhaaGreat.Ah
