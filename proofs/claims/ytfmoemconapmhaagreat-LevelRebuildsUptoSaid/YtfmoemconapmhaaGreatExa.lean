/- seq: texts in order; where a key stands in a list. -/
import Derived.Test.YtfmoemconapmhaaGreatAh30
import Derived.Test.YtfmoemconapmhaaGreatKxb
set_option linter.all false
namespace Go.Proofs.YtfmoemconapmhaaGreat.Ah
open Go
abbrev Key:=List UInt8
def blt (a b:Key):Bool:=Op.bytesLess a b
theorem q4p:∀ a:Key,blt a a=false:=by
 intro a
 induction a with
 | nil=>rfl
 | cons x a ih=>unfold blt at ih ⊢; simp [Op.bytesLess,ih]
theorem q5h:∀ {a b c:Key},blt a b=true→blt b c=true→blt a c=true:=by
 intro a
 induction a with
 | nil=>
  intro b c h1 h2
  cases c with
  | nil=>cases b <;> simp [blt,Op.bytesLess] at h2
  | cons z c=>rfl
 | cons x a ih=>
  intro b c h1 h2
  cases b with
  | nil=>simp [blt,Op.bytesLess] at h1
  | cons y b=>
   cases c with
   | nil=>simp [blt,Op.bytesLess] at h2
   | cons z c=>
    simp only [blt,Op.bytesLess,Bool.or_eq_true,Bool.and_eq_true,decide_eq_true_eq,beq_iff_eq] at h1 h2 ⊢
    rcases h1 with h1 | ⟨rfl,h1⟩
    ·rcases h2 with h2 | ⟨rfl,h2⟩
     ·left; exact UInt8.lt_trans h1 h2
     ·left; exact h1
    ·rcases h2 with h2 | ⟨rfl,h2⟩
     ·left; exact h2
     ·right; exact ⟨rfl,ih h1 h2⟩
theorem qzc:∀ {a b:Key},blt a b=false→blt b a=false→a=b:=by
 intro a
 induction a with
 | nil=>
  intro b h1 h2
  cases b with
  | nil=>rfl
  | cons y b=>simp [blt,Op.bytesLess] at h1
 | cons x a ih=>
  intro b h1 h2
  cases b with
  | nil=>simp [blt,Op.bytesLess] at h2
  | cons y b=>
   simp only [blt,Op.bytesLess,Bool.or_eq_false_iff,Bool.and_eq_false_iff,decide_eq_false_iff_not,beq_eq_false_iff_ne] at h1 h2
   have hxy:x=y:=by
    have a1:¬ x.toNat < y.toNat:=λ q=>h1.1 (UInt8.lt_iff_toNat_lt.2 q)
    have a2:¬ y.toNat < x.toNat:=λ q=>h2.1 (UInt8.lt_iff_toNat_lt.2 q)
    exact UInt8.toNat_inj.1 (by omega)
   subst hxy
   have b1:blt a b=false:=by
    rcases h1.2 with q | q
    ·exact absurd rfl q
    ·exact q
   have b2:blt b a=false:=by
    rcases h2.2 with q | q
    ·exact absurd rfl q
    ·exact q
   rw [ih b1 b2]
theorem qg3 {a b:Key} (h:blt a b=true):blt b a=false:=by
 cases e:blt b a with
 | false=>rfl
 | true=>have:=q5h h e; rw [q4p] at this; cases this
theorem q4f {a b:Key} (h:blt a b=true):a≠b:=by
 rintro rfl
 rw [q4p] at h
 cases h
theorem qav {a b:Key} (h:blt a b=false):a=b∨blt b a=true:=by
 cases e:blt b a with
 | false=>exact .inl (qzc h e)
 | true=>exact .inr rfl
theorem qn5 (a b:Key):qd .lss (.string (str a)) (.string (str b))=some (.bool (blt a b)):=by simp [qd,q5t,blt]
theorem qb0 (a b:Key):qd .geq (.string (str a)) (.string (str b))=some (.bool (!blt a b)):=by simp [qd,q5t,blt]
theorem q00h (a b:Key):qd .gtr (.string (str a)) (.string (str b))=some (.bool (blt b a)):=by
 simp only [qd,q5t,qlh]
 congr 2
 show (!(blt a b || a == b))=blt b a
 cases e:blt a b with
 | true=>rw [qg3 e]; rfl
 | false=>
  by_cases h:a=b
  ·subst h; rw [q4p]; simp
  ·rcases qav e with q | q
   ·exact absurd q h
   ·rw [q]; simp [h]
theorem q9p (a b:Key):qd .eql (.string (str a)) (.string (str b))=some (.bool (decide (a=b))):=by
 simp only [qd,q5t,qlh]
 congr 2
 by_cases h:a=b <;> simp [h]
theorem q6l (a b:Key):qd .neq (.string (str a)) (.string (str b))=some (.bool (decide (a≠b))):=by
 simp only [qd,q5t,qlh]
 congr 2
 by_cases h:a=b <;> simp [h]
theorem q75:(ByteArray.empty:ByteArray)=str []:=rfl
section
variable {V:Type}
def Srt (l:List (Key × V)):Prop:=l.Pairwise λ x y=>blt x.1 y.1=true
def q0r:List (Key × V)→Key→Nat
 | [],_=>0
 | x :: l,k=>if blt x.1 k=true then q0r l k + 1 else 0
def q25 (l:List (Key × V)) (k:Key) (i:Nat):Bool:=
 match l[i]? with
 | some x=>decide (x.1=k)
 | none=>false
def q1x (l:List (Key × V)) (k:Key):Bool:=q25 l k (q0r l k)
theorem qao:∀ (l:List (Key × V)) (k:Key),q0r l k≤l.length
 | [],_=>Nat.le_refl _
 | x :: l,k=>by
  rw [q0r]
  split
  ·have:=qao l k; simp; omega
  ·omega
theorem qc0:∀ (l:List (Key × V)) (k:Key) (i:Nat) x,i < q0r l k→l[i]?=some x→blt x.1 k=true
 | [],_,_,_,h,_=>by simp [q0r] at h
 | y :: l,k,i,x,h,hx=>by
  rw [q0r] at h
  split at h
  ·rename_i e
   cases i with
   | zero=>simp at hx; subst hx; exact e
   | succ i=>exact qc0 l k i x (by omega) (by simpa using hx)
  ·omega
theorem qcm:∀ (l:List (Key × V)) (k:Key) x,l[q0r l k]?=some x→blt x.1 k=false
 | [],_,_,h=>by simp at h
 | y :: l,k,x,h=>by
  rw [q0r] at h
  split at h
  ·exact qcm l k x (by simpa using h)
  ·rename_i e
   simp at h
   subst h
   simpa using e
theorem qwb {l:List (Key × V)} {k:Key} {r:Nat} (h1:r≤l.length) (h2:∀ i x,i < r→l[i]?=some x→blt x.1 k=true) (h3:∀ x,l[r]?=some x→blt x.1 k=false):q0r l k=r:=by
 rcases Nat.lt_trichotomy (q0r l k) r with h | h | h
 ·have hl:q0r l k < l.length:=by omega
  have:=h2 (q0r l k) l[q0r l k] h (List.getElem?_eq_getElem hl)
  rw [qcm l k _ (List.getElem?_eq_getElem hl)] at this
  cases this
 ·exact h
 ·have hl:r < l.length:=by have:=qao l k; omega
  have:=qc0 l k r l[r] h (List.getElem?_eq_getElem hl)
  rw [h3 _ (List.getElem?_eq_getElem hl)] at this
  cases this
theorem Srt.above {l:List (Key × V)} (s:Srt l) {k:Key} {i:Nat} {x:Key × V} (hi:q0r l k≤i) (hx:l[i]?=some x):blt x.1 k=false:=by
 have hil:=(List.getElem?_eq_some_iff.1 hx).1
 rcases Nat.lt_or_eq_of_le hi with h | h
 ·have hl:q0r l k < l.length:=by omega
  have e1:=qcm l k _ (List.getElem?_eq_getElem hl)
  have e2:=List.pairwise_iff_getElem.1 s (q0r l k) i hl hil h
  have e3:l[i]=x:=(List.getElem?_eq_some_iff.1 hx).2
  rw [e3] at e2
  cases e:blt x.1 k with
  | false=>rfl
  | true=>
   have:=q5h e2 e
   rw [e1] at this
   cases this
 ·subst h
  exact qcm l k _ hx
def bsK (l:List (Key × V)) (k:Key):Nat→Nat→Nat→Nat
 | 0,i,_=>i
 | m + 1,i,j=>if i < j then
   match l[(i + j) / 2]? with
   | some x=>if blt x.1 k=true then bsK l k m ((i + j) / 2 + 1) j else bsK l k m i ((i + j) / 2)
   | none=>i
  else i
theorem qca (l:List (Key × V)) (k:Key):∀ (m i j:Nat),i≤j→j≤l.length→i≤bsK l k m i j∧bsK l k m i j≤j
 | 0,i,j,h,_=>⟨Nat.le_refl _,h⟩
 | m + 1,i,j,h,hj=>by
  rw [bsK]
  by_cases hij:i < j
  ·rw [if_pos hij,List.getElem?_eq_getElem (by omega)]
   simp only
   split
   ·have:=qca l k m ((i + j) / 2 + 1) j (by omega) hj
    omega
   ·have:=qca l k m i ((i + j) / 2) (by omega) (by omega)
    omega
  ·rw [if_neg hij]
   omega
theorem qm5 {l:List (Key × V)} (s:Srt l) (k:Key):∀ (m i j:Nat),i≤j→j≤l.length→j - i≤m→i≤q0r l k→q0r l k≤j→bsK l k m i j=q0r l k
 | 0,i,j,h,_,hm,h1,h2=>by rw [bsK]; omega
 | m + 1,i,j,h,hj,hm,h1,h2=>by
  rw [bsK]
  by_cases hij:i < j
  ·rw [if_pos hij,List.getElem?_eq_getElem (by omega)]
   simp only
   split
   ·rename_i e
    refine qm5 s k m _ _ (by omega) hj (by omega) ?_ h2
    rcases Nat.lt_or_ge ((i + j) / 2) (q0r l k) with q | q
    ·exact q
    ·rw [s.above q (List.getElem?_eq_getElem (by omega))] at e
     cases e
   ·rename_i e
    refine qm5 s k m _ _ (by omega) (by omega) (by omega) h1 ?_
    rcases Nat.lt_or_ge ((i + j) / 2) (q0r l k) with q | q
    ·exact absurd (qc0 l k _ _ q (List.getElem?_eq_getElem (by omega))) e
    ·exact q
  ·rw [if_neg hij]
   omega
theorem qzn {l:List (Key × V)} (s:Srt l) (k:Key):bsK l k l.length 0 l.length=q0r l k:=
 qm5 s k _ _ _ (Nat.zero_le _) (Nat.le_refl _) (by omega) (Nat.zero_le _) (qao l k)
end
structure Ent where
 k:Key
 v:Key
 g:Bool
 deriving DecidableEq
def q0e (x:Ent):Bool:=decide (1≤x.k.length) && decide (x.k.length≤64) && decide (x.v.length≤64) && !(x.g && decide (x.v≠[]))
theorem q48 (x:Ent):q0e x=true↔1≤x.k.length∧x.k.length≤64∧x.v.length≤64∧(x.g=true→x.v=[]):=by
 unfold q0e
 cases x.g <;> simp [and_assoc]
def q9v (p:Option Key) (k:Key):Bool:=match p with | none=>true | some q=>blt q k
def q50:Option Key→List Ent→Bool
 | _,[]=>true
 | p,x :: l=>q0e x && q9v p x.k && q50 (some x.k) l
theorem qcx (p:Option Key) (x:Ent) (l:List Ent):q50 p (x :: l)=(q0e x && q9v p x.k && q50 (some x.k) l):=by cases p <;> rfl
def q27 (l:List Ent):Bool:=q50 none l
theorem qx6 {p:Option Key} {x:Ent} {l:List Ent} (h:q50 p (x :: l)=true):q0e x=true∧(∀ k,p=some k→blt k x.k=true)∧q50 (some x.k) l=true:=by
 rw [qcx,Bool.and_eq_true,Bool.and_eq_true] at h
 obtain ⟨⟨a,b⟩,c⟩:=h
 exact ⟨a,λ k hk=>by subst hk; exact b,c⟩
theorem qc7:∀ {l:List Ent} {p:Option Key},q50 p l=true→∀ x,x∈l→q0e x=true
 | y :: l,p,h,x,hx=>by
  obtain ⟨a,-,c⟩:=qx6 h
  rcases List.mem_cons.1 hx with rfl | hx
  ·exact a
  ·exact qc7 c x hx
theorem qcl:∀ {l:List Ent} {p:Option Key},q50 p l=true→l.Pairwise (λ x y=>blt x.k y.k=true)∧∀ k,p=some k→∀ x,x∈l→blt k x.k=true
 | [],_,_=>⟨.nil,by simp⟩
 | y :: l,p,h=>by
  obtain ⟨a,b,c⟩:=qx6 h
  obtain ⟨d,e⟩:=qcl c
  refine ⟨List.pairwise_cons.2 ⟨λ z hz=>e _ rfl z hz,d⟩,λ k hk x hx=>?_⟩
  rcases List.mem_cons.1 hx with rfl | hx
  ·exact b k hk
  ·exact q5h (b k hk) (e _ rfl x hx)
theorem q0lz {l:List Ent}:∀ {p:Option Key},(∀ x,x∈l→q0e x=true)→l.Pairwise (λ x y=>blt x.k y.k=true)→(∀ k,p=some k→∀ x,x∈l→blt k x.k=true)→q50 p l=true:=by
 induction l with
 | nil=>intros; rfl
 | cons y l ih=>
  intro p h1 h2 h3
  obtain ⟨d,e⟩:=List.pairwise_cons.1 h2
  rw [qcx,Bool.and_eq_true,Bool.and_eq_true]
  refine ⟨⟨h1 y (by simp),?_⟩,ih (λ x hx=>h1 x (by simp [hx])) e λ k hk x hx=>by cases hk; exact d x hx⟩
  cases p with
  | none=>rfl
  | some k=>exact h3 k rfl y (by simp)
def shd:Key→Key→Nat
 | a :: az,b :: bs=>if a=b then shd az bs + 1 else 0
 | _,_=>0
theorem qyq:∀ a b:Key,shd a b=shd b a
 | [],[]=>rfl
 | [],_ :: _=>rfl
 | _ :: _,[]=>rfl
 | a :: az,b :: bs=>by
  rw [shd,shd]
  by_cases h:a=b
  ·rw [if_pos h,if_pos h.symm,qyq az bs]
  ·rw [if_neg h,if_neg (Ne.symm h)]
theorem qh2:∀ a b:Key,shd a b≤a.length∧shd a b≤b.length∧a.take (shd a b)=b.take (shd a b)
 | [],[]=>by simp [shd]
 | [],_ :: _=>by simp [shd]
 | _ :: _,[]=>by simp [shd]
 | a :: az,b :: bs=>by
  rw [shd]
  obtain ⟨h1,h2,h3⟩:=qh2 az bs
  split
  ·rename_i e
   subst e
   simp [h3]
   omega
  ·simp
def q1l (g:Bool):UInt8:=if g=true then 1 else 0
def eb (ahead:Key) (x:Ent):List UInt8:=[UInt8.ofNat (shd ahead x.k),UInt8.ofNat (x.k.length - shd ahead x.k),q1l x.g,UInt8.ofNat x.v.length]++(x.k.drop (shd ahead x.k)++x.v)
theorem q7g (ahead:Key) (x:Ent):(eb ahead x).length=4 + (x.k.length - shd ahead x.k) + x.v.length:=by simp [eb]; omega
def q22 (l:List Ent):Key:=match l.getLast? with | some x=>x.k | none=>[]
theorem qww (l:List Ent) (x:Ent):q22 (l++[x])=x.k:=by simp [q22]
def q23 (ahead:Key):List Ent→List UInt8
 | []=>[]
 | x :: l=>eb ahead x++q23 x.k l
theorem qw8:∀ (l m:List Ent) (a:Key),q23 a (l++m)=q23 a l++q23 (match l.getLast? with | some x=>x.k | none=>a) m
 | [],m,a=>rfl
 | x :: l,m,a=>by
  rw [List.cons_append,q23,q23,qw8 l m,List.append_assoc]
  congr 3
  cases l with
  | nil=>simp
  | cons y l=>
   rw [List.getLast?_cons_cons]
   cases h:(y :: l).getLast? with
   | none=>simp at h
   | some z=>rfl
theorem qx2 (l:List Ent) (x:Ent):q23 [] (l++[x])=q23 [] l++eb (q22 l) x:=by
 rw [qw8,q23,q23,List.append_nil]
 rfl
theorem qm7 {l:List Ent} (h:l≠[]) (a:Key):0 < (q23 a l).length:=by
 cases l with
 | nil=>exact absurd rfl h
 | cons x l=>rw [q23,List.length_append,q7g]; omega
abbrev enc (l:List Ent):List UInt8:=q23 [] l
def q2z (block:Nat) (s:List (List Ent) × List Ent) (x:Ent):List (List Ent) × List Ent:=
 if s.2≠[]∧block < (enc s.2).length + (eb (q22 s.2) x).length then (s.1++[s.2],[x]) else (s.1,s.2++[x])
def q4v (s:List (List Ent) × List Ent):List (List Ent):=if s.2=[] then s.1 else s.1++[s.2]
def q0l (block:Nat) (l:List Ent):List (List Ent) × List Ent:=l.foldl (q2z block) ([],[])
def grp (block:Nat) (l:List Ent):List (List Ent):=q4v (q0l block l)
theorem qlj (block:Nat) (l:List Ent) (x:Ent):q0l block (l++[x])=q2z block (q0l block l) x:=by simp [q0l]
theorem q0g7 (block:Nat) (s:List (List Ent) × List Ent) (x:Ent):(q2z block s x).1.flatten++(q2z block s x).2=s.1.flatten++s.2++[x]:=by
 unfold q2z
 split <;> simp
theorem qvy (block:Nat):∀ (l:List Ent) (s:List (List Ent) × List Ent),(l.foldl (q2z block) s).1.flatten++(l.foldl (q2z block) s).2=s.1.flatten++s.2++l
 | [],s=>by simp
 | x :: l,s=>by rw [List.foldl_cons,qvy block l,q0g7]; simp
theorem ql9 (block:Nat) (l:List Ent):(q0l block l).1.flatten++(q0l block l).2=l:=by simpa [q0l] using qvy block l ([],[])
theorem q5i (block:Nat) (l:List Ent):(grp block l).flatten=l:=by
 have:=ql9 block l
 unfold grp q4v
 split
 ·rename_i e
  rw [e,List.append_nil] at this
  exact this
 ·simpa using this
theorem qlq (block:Nat):∀ (l:List Ent) (s:List (List Ent) × List Ent),(∀ g,g∈s.1→g≠[])→∀ g,g∈(l.foldl (q2z block) s).1→g≠[]
 | [],s,h=>h
 | x :: l,s,h=>by
  rw [List.foldl_cons]
  refine qlq block l _ λ g hg=>?_
  unfold q2z at hg
  split at hg
  ·rename_i c
   rcases List.mem_append.1 hg with q | q
   ·exact h g q
   ·simp at q; subst q; exact c.1
  ·exact h g hg
theorem qd4 {block:Nat} {l g:List Ent} (h:g∈grp block l):g≠[]:=by
 unfold grp q4v at h
 have hd:=qlq block l ([],[]) (by simp)
 split at h
 ·exact hd g h
 ·rename_i e
  rcases List.mem_append.1 h with q | q
  ·exact hd g q
  ·simp at q; subst q; exact e
def q07 (G:List (List Ent)):List UInt8:=G.flatMap λ es=>enc es++be 4 (q14 (enc es))
def q1p (es:List Ent):Key:=match es with | x :: _=>x.k | []=>[]
def idx (at_:Nat):List (List Ent)→List UInt8
 | []=>[]
 | es :: G=>vi (q1p es).length++q1p es++(vi at_++vi (enc es).length)++idx (at_ + (enc es).length + 4) G
theorem q4m (G H:List (List Ent)):q07 (G++H)=q07 G++q07 H:=by simp [q07]
theorem qgi (es:List Ent):q07 [es]=enc es++be 4 (q14 (enc es)):=by simp [q07]
theorem q71 (es:List Ent):(q07 [es]).length=(enc es).length + 4:=by simp [qgi]
theorem qwx:∀ (G H:List (List Ent)) (a:Nat),idx a (G++H)=idx a G++idx (a + (q07 G).length) H
 | [],H,a=>by simp [idx,q07]
 | es :: G,H,a=>by
  rw [List.cons_append,idx,idx,qwx G H]
  have:(q07 (es :: G)).length=(enc es).length + 4 + (q07 G).length:=by
   rw [show es :: G=[es]++G from rfl,q4m,List.length_append,q71]
  rw [this,show a + ((enc es).length + 4 + (q07 G).length)=a + (enc es).length + 4 + (q07 G).length by omega]
  simp only [List.append_assoc]
def q3y (block n spans o:Nat):List UInt8:=be 4 block++be 4 n++be 4 spans++be 4 o
def q1q (block:Nat) (l:List Ent):List UInt8:=idx 0 (grp block l)++q3y block l.length (grp block l).length (q07 (grp block l)).length
def q2r:List UInt8:=[68,82,85,78]
def bld (block:Nat) (l:List Ent):List UInt8:=q07 (grp block l)++(q1q block l++(be 4 (q14 (q1q block l))++q2r))
theorem q9d (a b c d:Nat):(q3y a b c d).length=16:=by simp [q3y]
theorem qcr (block:Nat) (l:List Ent):(bld block l).length=(q07 (grp block l)).length + (idx 0 (grp block l)).length + 24:=by
 simp [bld,q1q,q9d,q2r]; omega
def q0f (l:List Ent):Nat:=(l.map λ x=>x.k.length + x.v.length + 4).sum
theorem qgt:∀ (l:List Ent) (a:Key),(q23 a l).length≤q0f l
 | [],a=>by simp [q23,q0f]
 | x :: l,a=>by
  rw [q23,List.length_append,q7g]
  have:=qgt l x.k
  simp only [q0f,List.map_cons,List.sum_cons] at this ⊢
  omega
theorem qbw (a b:List Ent):q0f (a++b)=q0f a + q0f b:=by simp [q0f]
theorem q47 (x:Ent) (l:List Ent):q0f (x :: l)=x.k.length + x.v.length + 4 + q0f l:=by simp [q0f]
theorem qgp:∀ (G:List (List Ent)),(∀ g,g∈G→g≠[])→(q07 G).length≤2 * q0f G.flatten
 | [],_=>by simp [q07]
 | es :: G,h=>by
  have h1:=qgp G λ g hg=>h g (by simp [hg])
  have h2:(enc es).length≤q0f es:=qgt es []
  rw [show es :: G=[es]++G from rfl,q4m,List.length_append,q71,List.flatten_append,qbw,show [es].flatten=es by simp]
  have h3:4≤q0f es:=by
   cases es with
   | nil=>exact absurd rfl (h [] (by simp))
   | cons x l=>rw [q47]; omega
  omega
theorem qae (block:Nat) (l:List Ent):(grp block l).length≤l.length:=by
 have h:∀ (G:List (List Ent)),(∀ g,g∈G→g≠[])→G.length≤G.flatten.length:=by
  intro G
  induction G with
  | nil=>intro _; simp
  | cons g G ih=>
   intro h
   have:=ih λ g hg=>h g (by simp [hg])
   have hg:=List.length_pos_iff.2 (h g (by simp))
   simp only [List.flatten_cons,List.length_cons,List.length_append]
   omega
 have:=h (grp block l) λ g hg=>qd4 hg
 rwa [q5i] at this
theorem q0mz (es:List Ent):(q1p es).length≤q0f es:=by
 cases es with
 | nil=>simp [q1p]
 | cons x l=>rw [q47]; simp only [q1p]; omega
theorem qzy:∀ (G:List (List Ent)) (a:Nat),(∀ g,g∈G→g≠[])→a + (q07 G).length < 18446744073709551616→q0f G.flatten < 18446744073709551616→(idx a G).length≤9 * q0f G.flatten
 | [],a,_,_,_=>by simp [idx]
 | es :: G,a,h,ha,hs=>by
  rw [show es :: G=[es]++G from rfl,q4m,List.length_append,q71] at ha
  simp only [List.flatten_cons,qbw] at hs ⊢
  have h1:=qzy G (a + (enc es).length + 4) (λ g hg=>h g (by simp [hg])) (by omega) (by omega)
  have h2:=q0mz es
  have h3:(enc es).length≤q0f es:=qgt es []
  have v1:=q2j (n:=(q1p es).length) (by omega)
  have v2:=q2j (n:=a) (by omega)
  have v3:=q2j (n:=(enc es).length) (by omega)
  have h4:4≤q0f es:=by
   cases es with
   | nil=>exact absurd rfl (h [] (by simp))
   | cons x l=>rw [q47]; omega
  rw [idx]
  simp only [List.length_append]
  omega
theorem q0nn {n k:Nat} {rest:List UInt8}:(⟨be k n++rest,0⟩:RS).raw k=(be k n,⟨rest,0⟩):=by
 rw [q00c (by simp),List.take_left' (by simp),List.drop_left' (by simp)]
theorem qmy {n:Nat} (hn:n < 18446744073709551616) (rest:List UInt8):(⟨vi n++rest,0⟩:RS).varint=(n,⟨rest,0⟩):=by
 have:=q0np rest n 0 0 (by simpa using hn) (by simp)
 unfold RS.varint
 rw [this]
 simp
theorem qgz (s rest:List UInt8):(⟨s++rest,0⟩:RS).raw (s.length:Nat)=(s,⟨rest,0⟩):=by
 rw [q00c (by simp)]
 simp
theorem q0n0 {s:List UInt8} (hs:s.length < 18446744073709551616) (rest:List UInt8):(⟨vi s.length++s++rest,0⟩:RS).text=(s,⟨rest,0⟩):=by
 unfold RS.text
 rw [List.append_assoc,qmy hs]
 simp only
 rw [if_neg (by simp),if_neg (by simp),qgz]
theorem q0nt (c:UInt8) (rest:List UInt8):(⟨c :: rest,0⟩:RS).raw 1=([c],⟨rest,0⟩):=qgz [c] rest
def rdB:Nat→RS→Key→List Ent→Option (List Ent)
 | 0,_,_,_=>none
 | m + 1,st,ahead,acc=>if st.left=0 then some acc else
  let a:=st.raw 1
  let b:=a.2.raw 1
  let c:=b.2.raw 1
  let d:=c.2.raw 1
  if ahead.length < rdn a.1∨1 < rdn c.1 then none else
   let e:=d.2.raw (rdn b.1)
   let f:=e.2.raw (rdn d.1)
   if f.2.err≠0 then none else rdB m f.2 (ahead.take (rdn a.1)++e.1) (acc++[⟨ahead.take (rdn a.1)++e.1,f.1,decide (rdn c.1=1)⟩])
theorem qm6 {n:Nat} (h:n < 256):rdn [UInt8.ofNat n]=n:=by
 rw [qzb]
 exact UInt8.toNat_ofNat_of_lt' h
theorem qz2:∀ (l:List Ent) (m:Nat) (a:Key) (acc:List Ent),(∀ x,x∈l→q0e x=true)→(q23 a l).length < m→rdB m ⟨q23 a l,0⟩ a acc=some (acc++l)
 | [],m,a,acc,_,hm=>by
  cases m with
  | zero=>omega
  | succ m=>simp [rdB,q23,RS.left]
 | x :: l,m,a,acc,hr,hm=>by
  cases m with
  | zero=>omega
  | succ m=>
   obtain ⟨r1,r2,r3,r4⟩:=(q48 x).1 (hr x (by simp))
   obtain ⟨s1,s2,s3⟩:=qh2 a x.k
   rw [q23,List.length_append,q7g] at hm
   have hg:rdn [q1l x.g]=if x.g=true then 1 else 0:=by
    rw [qzb]
    unfold q1l
    split <;> rfl
   have hkd:(x.k.drop (shd a x.k)).length=x.k.length - shd a x.k:=by simp
   have hl:(⟨q23 a (x :: l),0⟩:RS).left≠0:=by
    have:=qm7 (l:=x :: l) (by simp) a
    unfold RS.left
    rw [if_neg (by simp)]
    simp only
    omega
   have hs:(⟨q23 a (x :: l),0⟩:RS)=⟨UInt8.ofNat (shd a x.k) :: UInt8.ofNat (x.k.length - shd a x.k) :: q1l x.g :: UInt8.ofNat x.v.length :: (x.k.drop (shd a x.k)++(x.v++q23 x.k l)),0⟩:=by
    rw [q23,eb]; simp
   have h1:rdn [UInt8.ofNat (shd a x.k)]=shd a x.k:=qm6 (by omega)
   have h2:rdn [UInt8.ofNat (x.k.length - shd a x.k)]=x.k.length - shd a x.k:=qm6 (by omega)
   have h3:rdn [UInt8.ofNat x.v.length]=x.v.length:=qm6 (by omega)
   rw [rdB,if_neg hl,hs]
   simp only [q0nt,h1,h2,h3,hg]
   rw [if_neg (by
    intro q
    rcases q with q | q
    ·omega
    ·split at q <;> omega)]
   rw [← hkd,qgz]
   simp only
   rw [qgz]
   simp only
   rw [if_neg (by simp)]
   have q1y:a.take (shd a x.k)++x.k.drop (shd a x.k)=x.k:=by rw [s3,List.take_append_drop]
   have hgd:decide ((if x.g=true then 1 else 0)=1)=x.g:=by cases x.g <;> rfl
   rw [q1y,hgd,qz2 l m x.k _ (λ y hy=>hr y (by simp [hy])) (by omega)]
   simp
def q7l (b:List UInt8) (at_:Nat):Nat→RS→List Ent→Option (List Ent)
 | 0,_,l=>some l
 | m + 1,st,l=>
  let t:=st.text
  let f:=t.2.varint
  let z:=f.2.varint
  if z.2.err≠0∨at_ < f.1∨at_ - f.1 < z.1 then none else
   match rdB (z.1 + 1) ⟨(b.drop f.1).take z.1,0⟩ [] l with
   | none=>none
   | some l'=>q7l b at_ m z.2 l'
def prs (b:List UInt8):Option (List Ent × Nat × Nat):=
 if b.length < 24 then none else
  let s0:RS:=⟨b.drop (b.length - 24),0⟩
  let a:=s0.raw 4
  let c:=a.2.raw 4
  let d:=c.2.raw 4
  let e:=d.2.raw 4
  if b.length - 24 < rdn e.1 then none else
   match q7l b (rdn e.1) (min (rdn d.1) b.length) ⟨(b.take (b.length - 24)).drop (rdn e.1),0⟩ [] with
   | none=>none
   | some l=>if l.length=rdn c.1 then some (l,rdn a.1,rdn d.1) else none
theorem qyk (b:List UInt8) (at_:Nat) (hat:at_ < 18446744073709551616):∀ (G:List (List Ent)) (pre:List UInt8) (acc:List Ent) (m:Nat) (post:List UInt8),b=pre++q07 G++post→pre.length + (q07 G).length≤at_→m=G.length→(∀ g,g∈G→∀ x,x∈g→q0e x=true)→
  q7l b at_ m ⟨idx pre.length G,0⟩ acc=some (acc++G.flatten)
 | [],pre,acc,m,post,hb,ha,hm,hr=>by
  subst hm
  simp [q7l]
 | es :: G,pre,acc,m,post,hb,ha,hm,hr=>by
  subst hm
  have hob:q07 (es :: G)=enc es++be 4 (q14 (enc es))++q07 G:=by
   rw [show es :: G=[es]++G from rfl,q4m,qgi]
  have hol:(q07 (es :: G)).length=(enc es).length + 4 + (q07 G).length:=by rw [hob]; simp; omega
  rw [hol] at ha
  have hfk:(q1p es).length < 18446744073709551616:=by
   cases es with
   | nil=>simp [q1p]
   | cons x l=>
    have:=(q48 x).1 (hr (x :: l) (by simp) x (by simp))
    simp only [q1p]
    omega
  rw [List.length_cons,q7l,idx]
  have h1:(⟨vi (q1p es).length++q1p es++(vi pre.length++vi (enc es).length)++idx (pre.length + (enc es).length + 4) G,0⟩:RS).text=(q1p es,⟨vi pre.length++(vi (enc es).length++idx (pre.length + (enc es).length + 4) G),0⟩):=by
   have:=q0n0 hfk (vi pre.length++(vi (enc es).length++idx (pre.length + (enc es).length + 4) G))
   simpa using this
  simp only [h1,qmy (show pre.length < 18446744073709551616 by omega),qmy (show (enc es).length < 18446744073709551616 by omega)]
  rw [if_neg (by
   intro q
   rcases q with q | q | q
   ·simp at q
   ·omega
   ·omega)]
  have hbd:(b.drop pre.length).take (enc es).length=enc es:=by
   rw [hb,hob,List.append_assoc,List.drop_left' rfl,List.append_assoc,List.append_assoc,List.take_left' rfl]
  rw [hbd,qz2 es _ [] acc (hr es (by simp)) (Nat.lt_succ_self _)]
  simp only
  have hp:pre.length + (enc es).length + 4=(pre++(enc es++be 4 (q14 (enc es)))).length:=by simp; omega
  rw [hp,qyk b at_ hat G _ _ _ post (by rw [hb,hob]; simp) (by simp; omega) rfl λ g hg=>hr g (by simp [hg])]
  simp
theorem q0m8 {block:Nat} {l:List Ent} (hb:block < 4294967296) (hr:∀ x,x∈l→q0e x=true) (hl:l.length < 4294967296) (ho:(q07 (grp block l)).length < 4294967296):prs (bld block l)=some (l,block,(grp block l).length):=by
 have hlen:=qcr block l
 have hgl:=qae block l
 have hne:∀ g,g∈grp block l→g≠[]:=λ g hg=>qd4 hg
 have hrg:∀ g,g∈grp block l→∀ x,x∈g→q0e x=true:=λ g hg x hx=>hr x (by
  have:x∈(grp block l).flatten:=List.mem_flatten.2 ⟨g,hg,hx⟩
  rwa [q5i] at this)
 have hgo:(grp block l).length≤(q07 (grp block l)).length:=by
  have:∀ G:List (List Ent),G.length≤(q07 G).length:=by
   intro G
   induction G with
   | nil=>simp
   | cons g G ih=>rw [show g :: G=[g]++G from rfl,q4m,List.length_append,List.length_append,q71]; simp; omega
  exact this _
 generalize hG:grp block l=G at *
 have e1:bld block l=(q07 G++idx 0 G)++(q3y block l.length G.length (q07 G).length++(be 4 (q14 (q1q block l))++q2r)):=by
  rw [bld,q1q,hG]; simp
 have hL:(q07 G++idx 0 G).length=(bld block l).length - 24:=by rw [hlen]; simp
 have hd:(bld block l).drop ((bld block l).length - 24)=q3y block l.length G.length (q07 G).length++(be 4 (q14 (q1q block l))++q2r):=by
  conv=>lhs; arg 2; rw [e1]
  exact List.drop_left' hL
 have ht:(bld block l).take ((bld block l).length - 24)=q07 G++idx 0 G:=by
  conv=>lhs; arg 2; rw [e1]
  exact List.take_left' hL
 have h4:∀ n,n < 4294967296→rdn (be 4 n)=n:=λ n hn=>by rw [q0nv,Nat.mod_eq_of_lt (by omega)]
 rw [prs,if_neg (by omega)]
 simp only [hd,ht,q3y,List.append_assoc]
 rw [show ((4:Int))=((4:Nat):Int) from rfl]
 simp only [q0nn,h4 block hb,h4 l.length hl,h4 G.length (by omega),h4 (q07 G).length ho]
 have hmin:min G.length (bld block l).length=G.length:=Nat.min_eq_left (by rw [hlen]; omega)
 rw [if_neg (by rw [hlen]; omega),List.drop_left' rfl,hmin]
 have:=qyk (bld block l) (q07 G).length (by omega) G [] [] G.length (idx 0 G++(q3y block l.length G.length (q07 G).length++(be 4 (q14 (q1q block l))++q2r))) (by rw [e1]; simp) (by simp) rfl hrg
 rw [List.length_nil] at this
 rw [this]
 have hfl:G.flatten=l:=by rw [← hG]; exact q5i block l
 simp [hfl]
end Go.Proofs.YtfmoemconapmhaaGreat.Ah
