/- Levels, plain: what they are, what calls make of them, what is told of them. -/
import Derived.Test.YtfmoemconapmhaaGreatExq
import Derived.Test.YtfmoemconapmhaaGreatGlev
set_option linter.all false
namespace Go.Proofs.YtfmoemconapmhaaGreat.Ah
open Go
abbrev q29 (l:List Ent):Prop:=l.Pairwise λ x y=>blt x.k y.k=true
theorem q0iu {l:List Ent} (s:q29 l) {x y:Ent} (hx:x∈l) (hy:y∈l) (e:x.k=y.k):x=y:=qyc s x y hx hy e
theorem qmg {l:List Ent} (s:q29 l) (k:Key) (x:Ent):q11 l k=some x↔x∈l∧x.k=k:=by
 constructor
 ·exact q49
 ·rintro ⟨hx,rfl⟩
  exact qmi s hx
theorem q0k5 {a b:List Ent} (ha:q29 a) (hb:q29 b) (h:∀ y,y∈a↔y∈b):a=b:=by
 have i1:IsM [kl a] (kl a):=⟨q4d ha,λ x hx=>⟨0,kl a,rfl,hx,λ m l' hm=>by omega⟩,λ m l' y hm hy=>by
  match m,hm with
  | 0,hm=>simp at hm; subst hm; exact ⟨y,hy,rfl⟩
  | n + 1,hm=>simp at hm⟩
 have km:∀ (l:List Ent) (x:Itm),x∈kl l↔∃ y,y∈l∧(y.k,y)=x:=by intro l x; unfold kl; rw [List.mem_map]
 have i2:IsM [kl a] (kl b):=⟨q4d hb,λ x hx=>by
  obtain ⟨y,hy,e⟩:=(km b x).1 hx
  exact ⟨0,kl a,rfl,(km a x).2 ⟨y,(h y).2 hy,e⟩,λ m l' hm=>by omega⟩,λ m l' y hm hy=>by
  match m,hm with
  | 0,hm=>
   simp at hm; subst hm
   obtain ⟨z,hz,e⟩:=(km a y).1 hy
   exact ⟨y,(km b y).2 ⟨z,(h z).1 hz,e⟩,rfl⟩
  | n + 1,hm=>simp at hm⟩
 exact q0ny (IsM.uniq (λ l hl=>by simp at hl; subst hl; exact q4d ha) i1 i2)
theorem qxa {a b:List Ent} (ha:q29 a) (hb:q29 b) (h:∀ k,q11 a k=q11 b k):a=b:=by
 refine q0k5 ha hb λ y=>?_
 constructor
 ·intro hy
  have:=qmi ha hy
  rw [h] at this
  exact (q49 this).1
 ·intro hy
  have:=qmi hb hy
  rw [← h] at this
  exact (q49 this).1
def look (ls:List (List Ent)) (k:Key):Option Ent:=ls.findSome? λ l=>q11 l k
theorem qy0 (k:Key):look [] k=none:=rfl
theorem qaf (l:List Ent) (ls:List (List Ent)) (k:Key):look (l :: ls) k=(q11 l k).or (look ls k):=by
 unfold look
 rw [List.findSome?_cons]
 cases q11 l k <;> rfl
theorem qbz (a b:List (List Ent)) (k:Key):look (a++b) k=(look a k).or (look b k):=by
 unfold look
 rw [List.findSome?_append]
theorem q0ka (k:Key):q11 [] k=none:=rfl
theorem qxr {a b:List Ent} (hb:q29 b) (ha:q29 a) (k:Key):q11 (q1h b a) k=(q11 a k).or (q11 b k):=by
 have hs:=q9e a b hb
 have hm:=qm4 a b hb ha
 cases ea:q11 a k with
 | some x=>
  obtain ⟨h1,h2⟩:=q49 ea
  simp only [Option.some_or]
  exact (qmg hs k x).2 ⟨(hm x).2 (.inl h1),h2⟩
 | none=>
  have hn:=qcc ea
  simp only [Option.none_or]
  cases eb:q11 b k with
  | some x=>
   obtain ⟨h1,h2⟩:=q49 eb
   exact (qmg hs k x).2 ⟨(hm x).2 (.inr ⟨h1,λ z hz e=>hn z hz (e.symm.trans h2)⟩),h2⟩
  | none=>
   have hn2:=qcc eb
   cases ec:q11 (q1h b a) k with
   | none=>rfl
   | some x=>
    obtain ⟨h1,h2⟩:=q49 ec
    rcases (hm x).1 h1 with h3 | ⟨h3,-⟩
    ·exact absurd h2 (hn x h3)
    ·exact absurd h2 (hn2 x h3)
theorem qag:∀ ls:List (List Ent),q29 (q1w ls)
 | []=>.nil
 | l :: ls=>q9e l _ (qag ls)
theorem qg0:∀ (ls:List (List Ent)),(∀ l,l∈ls→q29 l)→∀ k,q11 (q1w ls) k=look ls k
 | [],_,k=>rfl
 | l :: ls,h,k=>by
  rw [q1w,qxr (qag ls) (h l (by simp)),qg0 ls (λ m hm=>h m (by simp [hm])),qaf]
theorem qyx {l:List Ent} (h:q29 l) (dr:Bool):q29 (flt dr l):=h.filter _
structure LS where
 bl:Nat
 fan:Nat
 top:Nat
 mem:List Ent
 lv:List (List (List Ent))
def q1k (b f t:Int):Bool:=decide (256≤b) && decide (b≤4096) && decide (2≤f) && decide (f≤16) && decide (1≤t) && decide (t≤4096)
def q0n (b f t:Nat):LS:=⟨b,f,t,[],List.replicate 16 []⟩
def LS.lists (s:LS):List (List Ent):=s.mem :: s.lv.flatten
def LS.view (s:LS):List Ent:=flt true (q1w s.lists)
def LS.flush (s:LS):LS:=if s.mem=[] then s else { s with mem:=[],lv:=s.lv.set 0 (s.mem :: s.lv.getD 0 []) }
def LS.put (s:LS) (x:Ent):LS:=if s.top≤(q1f s.mem x).length then { s with mem:=q1f s.mem x:LS }.flush else { s with mem:=q1f s.mem x }
def q6j (lv:List (List (List Ent))) (n:Nat):Bool:=(lv.drop (n + 1)).any λ r=>decide (r≠[])
def q5q (lv:List (List (List Ent))) (fan:Nat):Option Nat:=lv.findIdx? λ r=>decide (fan≤r.length)
def q4t (lv:List (List (List Ent))) (n:Nat):List Ent:=flt (!q6j lv n) (q1w (lv.getD n []))
def qax (lv:List (List (List Ent))) (n:Nat):List (List (List Ent)):=
 if q4t lv n=[] then lv.set n [] else (lv.set n []).set (min (n + 1) 15) (q4t lv n :: (lv.set n []).getD (min (n + 1) 15) [])
def LS.step (s:LS):LS:=match q5q s.lv s.fan with
 | none=>s
 | some n=>{ s with lv:=qax s.lv n }
def q0o {α:Type}:List (List α)→Nat
 | []=>0
 | r :: t=>if q0o t≠0 then q0o t + 1 else if r≠[] then 1 else 0
def q0x (lv:List (List (List Ent))):List Nat:=(lv.map List.length).take (q0o lv)
structure LOk (s:LS) (W:Nat):Prop where
 right:q1k s.bl s.fan s.top=true
 len:s.lv.length=16
 msrt:q29 s.mem
 mright:∀ x,x∈s.mem→q0e x=true
 mtop:s.mem.length < s.top
 rok:∀ r,r∈s.lv→∀ l,l∈r→q27 l=true∧l≠[]
 size:q0f s.mem + (s.lv.flatten.map q0f).sum≤W
theorem q73 (b f t:Int):q1k b f t=true↔256≤b∧b≤4096∧2≤f∧f≤16∧1≤t∧t≤4096:=by
 unfold q1k
 simp [and_assoc]
theorem LOk.lsrt {s:LS} {W:Nat} (o:LOk s W):∀ l,l∈s.lists→q29 l:=by
 intro l hl
 rcases List.mem_cons.1 hl with e | hl
 ·rw [e]; exact o.msrt
 ·obtain ⟨r,hr,hl⟩:=List.mem_flatten.1 hl
  exact (qcl (o.rok r hr l hl).1).1
theorem LOk.num {s:LS} {W:Nat} (o:LOk s W):256≤s.bl∧s.bl≤4096∧2≤s.fan∧s.fan≤16∧1≤s.top∧s.top≤4096:=by
 have:=(q73 _ _ _).1 o.right
 omega
theorem qz5 {b f t:Nat} (h:q1k b f t=true) (W:Nat):LOk (q0n b f t) W:=by
 have:=(q73 _ _ _).1 h
 refine ⟨h,by simp [q0n],.nil,by simp [q0n],by simp only [q0n,List.length_nil]; omega,λ r hr=>?_,by simp [q0n,q0f]⟩
 have:=List.eq_of_mem_replicate hr
 subst this
 simp
theorem qxq {a b:List Ent} (h:a.Sublist b):q0f a≤q0f b:=by
 induction h with
 | slnil=>simp
 | cons x _ ih=>rw [q47]; omega
 | cons_cons x _ ih=>rw [q47,q47]; omega
theorem qkz (l:List Ent) (x:Ent):q0f (q1f l x)≤q0f l + (x.k.length + x.v.length + 4):=by
 unfold q1f
 rw [qbw,q47]
 have h1:q0f (l.take (fE l x.k)) + q0f (l.drop (fE l x.k))=q0f l:=by rw [← qbw,List.take_append_drop]
 have h2:q0f (l.drop (if q1x (kl l) x.k=true then fE l x.k + 1 else fE l x.k))≤q0f (l.drop (fE l x.k)):=by
  split
  ·rw [show l.drop (fE l x.k + 1)=(l.drop (fE l x.k)).drop 1 by rw [List.drop_drop]]
   exact qxq (List.drop_sublist _ _)
  ·exact Nat.le_refl _
 omega
theorem qle:∀ (es l:List Ent),q0f (q1h l es)≤q0f l + q0f es
 | [],l=>by simp [q1h,q0f]
 | x :: es,l=>by
  have h1:=qle es (q1f l x)
  have h2:=qkz l x
  rw [show q1h l (x :: es)=q1h (q1f l x) es from rfl,q47]
  omega
theorem qfy:∀ ls:List (List Ent),q0f (q1w ls)≤(ls.map q0f).sum
 | []=>by simp [q1w,q0f]
 | l :: ls=>by
  have h1:=qle l (q1w ls)
  have h2:=qfy ls
  simp only [q1w,List.map_cons,List.sum_cons]
  omega
theorem qxd (dr:Bool) (l:List Ent):q0f (flt dr l)≤q0f l:=qxq List.filter_sublist
theorem qll {l:List Ent} {x y:Ent} (h:y∈q1f l x):y=x∨y∈l:=by
 unfold q1f at h
 rcases List.mem_append.1 h with h | h
 ·exact .inr (List.mem_of_mem_take h)
 ·rcases List.mem_cons.1 h with h | h
  ·exact .inl h
  ·exact .inr (List.mem_of_mem_drop h)
theorem qm2:∀ {es l:List Ent} {y:Ent},y∈q1h l es→y∈es∨y∈l
 | [],l,y,h=>.inr h
 | x :: es,l,y,h=>by
  rcases qm2 (es:=es) (l:=q1f l x) h with h | h
  ·exact .inl (List.mem_cons_of_mem _ h)
  ·rcases qll h with h | h
   ·exact .inl (by rw [h]; simp)
   ·exact .inr h
theorem qx5:∀ {ls:List (List Ent)} {y:Ent},y∈q1w ls→∃ l,l∈ls∧y∈l
 | [],y,h=>by simp [q1w] at h
 | l :: ls,y,h=>by
  rcases qm2 h with h | h
  ·exact ⟨l,by simp,h⟩
  ·obtain ⟨m,h1,h2⟩:=qx5 h
   exact ⟨m,by simp [h1],h2⟩
theorem qgo {l:List Ent} (h:∀ x,x∈l→q0e x=true) (s:q29 l):q27 l=true:=q0lz h s (by simp)
theorem qm8 {l:List Ent} (h:q27 l=true):q29 l:=(qcl h).1
theorem q0gw {l:List Ent} (h:q27 l=true):∀ x,x∈l→q0e x=true:=qc7 h
theorem q0hj {ls:List (List Ent)} (dr:Bool) (h:∀ l,l∈ls→q27 l=true):q27 (flt dr (q1w ls))=true:=by
 refine qgo (λ x hx=>?_) (qyx (qag _) _)
 obtain ⟨l,h1,h2⟩:=qx5 (List.mem_filter.1 hx).1
 exact q0gw (h l h1) x h2
theorem q0gr {s:LS} {W:Nat} (hr:q1k s.bl s.fan s.top=true) (hl:s.lv.length=16) (ms:q29 s.mem) (mr:∀ x,x∈s.mem→q0e x=true) (rk:∀ r,r∈s.lv→∀ l,l∈r→q27 l=true∧l≠[]) (sz:q0f s.mem + (s.lv.flatten.map q0f).sum≤W) (hm:s.mem≠[]):LOk s.flush W:=by
 have:=(q73 _ _ _).1 hr
 unfold LS.flush
 rw [if_neg hm]
 refine ⟨hr,by simpa using hl,.nil,by simp,by simp only [List.length_nil]; omega,λ r hr'=>?_,?_⟩
 ·rcases List.mem_or_eq_of_mem_set hr' with h | h
  ·exact rk r h
  ·subst h
   intro l hl'
   rcases List.mem_cons.1 hl' with e | hl'
   ·subst e; exact ⟨qgo mr ms,hm⟩
   ·have:s.lv.getD 0 []∈s.lv:=by
     rw [List.getD_eq_getElem?_getD,List.getElem?_eq_getElem (by omega)]
     exact List.getElem_mem _
    exact rk _ this l hl'
 ·obtain ⟨a,t,e⟩:∃ a t,s.lv=a :: t:=by
   cases h:s.lv with
   | nil=>rw [h] at hl; simp at hl
   | cons a t=>exact ⟨a,t,rfl⟩
  rw [e] at sz ⊢
  simp [q0f] at sz ⊢
  simp [q0f,Nat.add_assoc] at sz ⊢
  omega
theorem q0l7 (l:List Ent) (x:Ent):q1f l x≠[]:=by
 unfold q1f
 simp
theorem qgs {s:LS} {W:Nat} (o:LOk s W) {x:Ent} (hx:q0e x=true):LOk (s.put x) (W + (x.k.length + x.v.length + 4)):=by
 have h1:=qkz s.mem x
 have sz:=o.size
 have mr:∀ y,y∈q1f s.mem x→q0e y=true:=λ y hy=>by
  rcases qll hy with e | h
  ·rw [e]; exact hx
  ·exact o.mright y h
 unfold LS.put
 split
 ·exact q0gr (s:={ s with mem:=q1f s.mem x }) o.right o.len (qai o.msrt x) mr o.rok (by show q0f (q1f s.mem x) + _≤_; simp only; omega) (q0l7 _ _)
 ·rename_i h
  exact ⟨o.right,o.len,qai o.msrt x,mr,by simp only; omega,o.rok,by simp only; omega⟩
theorem q0g8 {lv:List (List (List Ent))} {fan n:Nat} (h:q5q lv fan=some n):∃ r,lv[n]?=some r∧fan≤r.length:=by
 obtain ⟨h1,h2,-⟩:=List.findIdx?_eq_some_iff_getElem.1 h
 exact ⟨lv[n],by simp [h1],by simpa using h2⟩
theorem q0ll {α:Type} {lv:List α} {n:Nat} {r:α} (h:lv[n]?=some r):lv=lv.take n++r :: lv.drop (n + 1):=by
 obtain ⟨h1,h2⟩:=List.getElem?_eq_some_iff.1 h
 have:=List.drop_eq_getElem_cons h1
 rw [h2] at this
 rw [← this,List.take_append_drop]
theorem getD_some {α:Type} {l:List α} {n:Nat} {x d:α} (h:l[n]?=some x):l.getD n d=x:=by rw [List.getD_eq_getElem?_getD,h]; rfl
section
variable {w0:World} {h h':Hp}
def Rb (w0:World) (h:Hp) (r:Value) (l:List Ent) (bl:Nat) (S:List Nat):Prop:=
 ∃ n S1 p y c1 c2 Sy,Rn w0 h r l n S1∧r=ptr p∧p∈S1∧h.blk p=some [y,c1,c2]∧Vec w0 h 1 y (q0i (bl:Int) l).length (bvs (q0i (bl:Int) l)) Sy∧S=S1++Sy∧q0f l≤1048576∧q1r (bl:Int) l=0
theorem Rb.lt {r:Value} {l:List Ent} {bl:Nat} {S:List Nat} (m:Rb w0 h r l bl S):∀ b,b∈S→w0.heap.size≤b∧b < h.next:=by
 obtain ⟨n,S1,p,y,c1,c2,Sy,a1,a2,a3,a4,a5,a6,a7⟩:=m
 subst a6
 intro b hb
 rcases List.mem_append.1 hb with hb | hb
 ·exact a1.lt b hb
 ·exact a5.lt b hb
theorem Rb.frame {r:Value} {l:List Ent} {bl:Nat} {S T T':List Nat} (m:Rb w0 h r l bl S) (st:Step h h' T T') (hd:∀ b,b∈S→b∉T):Rb w0 h' r l bl S:=by
 obtain ⟨n,S1,p,y,c1,c2,Sy,a1,a2,a3,a4,a5,a6,a7⟩:=m
 subst a6
 exact ⟨n,S1,p,y,c1,c2,Sy,a1.frame st λ b hb=>hd b (by simp [hb]),a2,a3,by rw [(st.keep p (a1.lt p a3).2 (hd p (by simp [a3]))).1]; exact a4,a5.frame st λ b hb=>hd b (by simp [hb]),rfl,a7⟩
theorem Rb.rn {r:Value} {l:List Ent} {bl:Nat} {S:List Nat} (m:Rb w0 h r l bl S):∃ n S1,Rn w0 h r l n S1∧∀ b,b∈S1→b∈S:=by
 obtain ⟨n,S1,p,y,c1,c2,Sy,a1,a2,a3,a4,a5,a6,a7⟩:=m
 exact ⟨n,S1,a1,λ b hb=>by rw [a6]; simp [hb]⟩
theorem Rb.isC {r:Value} {l:List Ent} {bl:Nat} {S:List Nat} (m:Rb w0 h r l bl S):qv r=true:=by
 obtain ⟨n,S1,p,y,c1,c2,Sy,a1,a2,-⟩:=m
 rw [a2]; rfl
def Lvl (w0:World) (h:Hp) (A:List Nat) (bl:Nat) (v:Value) (ls:List (List Ent)):Prop:=
 ∃ ps:List (Value × List Ent),ls=ps.map (·.2)∧Sl w0 h 1 v ps.length (ps.map (·.1))∧(∀ b,b∈q0z v→b∈A)∧∀ p:Value × List Ent,p∈ps→∃ S,Rb w0 h p.1 p.2 bl S∧∀ b,b∈S→b∈A
theorem Lvl.nil (A:List Nat) (bl:Nat):Lvl w0 h A bl (.slice none 0 0) []:=⟨[],rfl,.nil,by simp [q0z],by simp⟩
theorem Lvl.frame {A:List Nat} {bl:Nat} {v:Value} {ls:List (List Ent)} (m:Lvl w0 h A bl v ls) (hA:∀ b,b∈A→b < h.next) {T T':List Nat} (st:Step h h' T T') (hd:∀ b,b∈A→b∉T):Lvl w0 h' A bl v ls:=by
 obtain ⟨ps,e,a,b,c⟩:=m
 refine ⟨ps,e,a.stepL (λ x hx=>hA x (b x hx)) st λ x hx=>hd x (b x hx),b,λ p hp=>?_⟩
 obtain ⟨S,r,hS⟩:=c p hp
 exact ⟨S,r.frame st λ x hx=>hd x (hS x hx),hS⟩
theorem Lvl.more {A A':List Nat} {bl:Nat} {v:Value} {ls:List (List Ent)} (m:Lvl w0 h A bl v ls) (hA:∀ b,b∈A→b∈A'):Lvl w0 h A' bl v ls:=by
 obtain ⟨ps,e,a,b,c⟩:=m
 refine ⟨ps,e,a,λ x hx=>hA x (b x hx),λ p hp=>?_⟩
 obtain ⟨S,r,hS⟩:=c p hp
 exact ⟨S,r,λ x hx=>hA x (hS x hx)⟩
theorem Lvl.isC {A:List Nat} {bl:Nat} {v:Value} {ls:List (List Ent)} (m:Lvl w0 h A bl v ls):qv v=true:=by
 obtain ⟨ps,e,a,b,c⟩:=m
 exact a.isC
theorem Lvl.lenv {A:List Nat} {bl:Nat} {v:Value} {ls:List (List Ent)} (m:Lvl w0 h A bl v ls):q05 v=some (.int .i64 (ls.length:Int)):=by
 obtain ⟨ps,e,a,b,c⟩:=m
 rw [a.lenv,e,List.length_map]
def q0m (s:LS):List Value:=[.int .i64 (s.bl:Int),.int .i64 (s.fan:Int),.int .i64 (s.top:Int)]
def Lv (w0:World) (h:Hp) (r:Value) (s:LS) (S A:List Nat):Prop:=
 ∃ q mp M sls,r=ptr q∧h.blk q=some (q0m s++mp :: sls)∧sls.length=16∧Me w0 h mp s.mem M∧S=q :: M∧q∉M∧w0.heap.size≤q∧q < h.next∧(∀ b,b∈A→b < h.next)∧(∀ b,b∈S→b∉A)∧s.lv.length=16∧
  ∀ (i:Nat) v,sls[i]?=some v→Lvl w0 h A s.bl v (s.lv.getD i [])
theorem Lv.nj {r:Value} {s:LS} {S A:List Nat} (m:Lv w0 h r s S A):r≠junk:=by obtain ⟨q,-,-,-,e,-⟩:=m; subst e; simp [ptr,junk]
theorem Lv.isC {r:Value} {s:LS} {S A:List Nat} (m:Lv w0 h r s S A):qv r=true:=by obtain ⟨q,-,-,-,e,-⟩:=m; subst e; rfl
theorem Lv.lt {r:Value} {s:LS} {S A:List Nat} (m:Lv w0 h r s S A):∀ b,b∈S→w0.heap.size≤b∧b < h.next:=by
 obtain ⟨q,mp,M,sls,a1,a2,a3,a4,a5,a6,a7,a8,a9⟩:=m
 subst a5
 intro b hb
 rcases List.mem_cons.1 hb with rfl | hb
 ·exact ⟨a7,a8⟩
 ·exact a4.lt b hb
theorem Lv.ltA {r:Value} {s:LS} {S A:List Nat} (m:Lv w0 h r s S A):∀ b,b∈A→b < h.next:=by
 obtain ⟨q,mp,M,sls,a1,a2,a3,a4,a5,a6,a7,a8,a9,-⟩:=m
 exact a9
theorem Lv.frame {r:Value} {s:LS} {S A T T':List Nat} (m:Lv w0 h r s S A) (st:Step h h' T T') (hd:∀ b,b∈S→b∉T) (hA:∀ b,b∈A→b∉T):Lv w0 h' r s S A:=by
 obtain ⟨q,mp,M,sls,a1,a2,a3,a4,a5,a6,a7,a8,a9,b1,b2,b3⟩:=m
 subst a5
 exact ⟨q,mp,M,sls,a1,by rw [(st.keep q a8 (hd q (by simp))).1]; exact a2,a3,a4.frame st (λ b hb=>hd b (by simp [hb])),rfl,a6,a7,Nat.lt_of_lt_of_le a8 st.1,λ b hb=>Nat.lt_of_lt_of_le (a9 b hb) st.1,b1,b2,
  λ i v hi=>(b3 i v hi).frame a9 st hA⟩
theorem Lv.step0 {r:Value} {s:LS} {S A T':List Nat} (m:Lv w0 h r s S A) (st:Step h h' [] T'):Lv w0 h' r s S A:=m.frame st (by simp) (by simp)
def zL:List Value:=[.int .i64 0,.int .i64 0,.int .i64 0,.pointer none]++List.replicate 16 (.slice none 0 0)
def Lno (w0:World) (h:Hp) (r:Value):Prop:=r=.pointer none∨∃ p,r=ptr p∧w0.heap.size≤p∧p < h.next∧h.blk p=some zL
theorem Lno.step {r:Value} (m:Lno w0 h r) (st:Step h h' [] []):Lno w0 h' r:=by
 rcases m with m | ⟨p,a,b,c,d⟩
 ·exact .inl m
 ·exact .inr ⟨p,a,b,Nat.lt_of_lt_of_le c st.1,by rw [(st.keep p c (by simp)).1]; exact d⟩
theorem Lno.nj {r:Value} (m:Lno w0 h r):r≠junk:=by
 rcases m with m | ⟨p,a,b,c,d⟩ <;> subst r <;> simp [ptr,junk]
theorem q72 {r:Value} {s:LS} {S A:List Nat} (m:Lv w0 h r s S A):qf prog w0 q5e [r] h λ v h'=>v=.bool true∧h'=h:=by
 refine qf.of_fit (by simpa using m.nj) λ f=>q07h (by simpa using m.nj) ?_
 obtain ⟨q,mp,M,sls,a1,a2,a3,a4,a5,a6,a7,a8,a9⟩:=m
 subst a1
 have c0:q1g .neq (.pointer (some ⟨q,0,none⟩)) (.pointer none)=some (.bool true):=rfl
 obtain ⟨p,-,-,e,-⟩:=a4
 subst e
 have c1:q1g .neq (.pointer (some ⟨p,0,none⟩)) (.pointer none)=some (.bool true):=rfl
 simp only [qrx,ptr,c0,wd, wa]
 refine qj a7 a2 rfl ?_
 simp only [ptr,c1,wd, wa,qu,q06]
 exact ⟨by simp,trivial,trivial⟩
def q2i (b f t:Int):Value:=.agg #[.int .i64 b,.int .i64 f,.int .i64 t]
theorem q6d {e:List Value} {n:Nat} {K:qh} (hk:K (.pointer (some ⟨h.next,0,none⟩)) (h.new e n)):q15 true n (.agg e.toArray) K h:=by
 rw [q4c]
 exact hk
theorem q0i6 (b f t:Int):qf prog w0 ql4 [q2i b f t] h λ r h'=>r=.bool (q1k b f t)∧Step h h' [] []:=by
 refine qf.of_fit (by simp [q2i]) λ fi=>q0es (by simp [q2i]) ?_
 have fb:=fi.base
 simp only [qvs,q2i]
 refine q6d (e:=[.int .i64 b,.int .i64 f,.int .i64 t]) ?_
 have s1:Step h (h.new [.int .i64 b,.int .i64 f,.int .i64 t] 3) [] []:=((Step.refl h [] (by simp)).new _ _).less (by simp)
 have b1:(h.new [.int .i64 b,.int .i64 f,.int .i64 t] 3).blk h.next=some [.int .i64 b,.int .i64 f,.int .i64 t]:=by simp
 generalize h.new [.int .i64 b,.int .i64 f,.int .i64 t] 3=h1 at *
 have fin:∀ q,q=q1k b f t→qo [.bool q] (λ r h'=>r=.bool (q1k b f t)∧Step h h' [] []) h1:=λ q e=>by
  subst e
  simp only [qu,q06]
  exact ⟨by simp,trivial,s1⟩
 simp only [wd, wa]
 refine qj fb b1 rfl ?_
 simp only [wd, wa]
 by_cases g0:(256:Int)≤b
 ·have c0:decide ((256:Int)≤b)=true:=decide_eq_true g0
  simp only [c0,wd, wa]
  refine qj fb b1 rfl ?_
  simp only [wd, wa]
  by_cases g1:b≤(4096:Int)
  ·have c1:decide (b≤(4096:Int))=true:=decide_eq_true g1
   simp only [c1,wd, wa]
   refine qj fb b1 rfl ?_
   simp only [wd, wa]
   by_cases g2:(2:Int)≤f
   ·have c2:decide ((2:Int)≤f)=true:=decide_eq_true g2
    simp only [c2,wd, wa]
    refine qj fb b1 rfl ?_
    simp only [wd, wa]
    by_cases g3:f≤(16:Int)
    ·have c3:decide (f≤(16:Int))=true:=decide_eq_true g3
     simp only [c3,wd, wa]
     refine qj fb b1 rfl ?_
     simp only [wd, wa]
     by_cases g4:(1:Int)≤t
     ·have c4:decide ((1:Int)≤t)=true:=decide_eq_true g4
      simp only [c4,wd, wa]
      refine qj fb b1 rfl ?_
      simp only [wd, wa]
      by_cases g5:t≤(4096:Int)
      ·have c5:decide (t≤(4096:Int))=true:=decide_eq_true g5
       simp only [c5,wd, wa]
       exact fin _ (by simp [q1k,c0,c1,c2,c3,c4,c5])
      ·have c5:decide (t≤(4096:Int))=false:=decide_eq_false g5
       simp only [c5,wd, wa]
       exact fin _ (by simp [q1k,c0,c1,c2,c3,c4,c5])
     ·have c4:decide ((1:Int)≤t)=false:=decide_eq_false g4
      simp only [c4,wd, wa]
      exact fin _ (by simp [q1k,c0,c1,c2,c3,c4])
    ·have c3:decide (f≤(16:Int))=false:=decide_eq_false g3
     simp only [c3,wd, wa]
     exact fin _ (by simp [q1k,c0,c1,c2,c3])
   ·have c2:decide ((2:Int)≤f)=false:=decide_eq_false g2
    simp only [c2,wd, wa]
    exact fin _ (by simp [q1k,c0,c1,c2])
  ·have c1:decide (b≤(4096:Int))=false:=decide_eq_false g1
   simp only [c1,wd, wa]
   exact fin _ (by simp [q1k,c0,c1])
 ·have c0:decide ((256:Int)≤b)=false:=decide_eq_false g0
  simp only [c0,wd, wa]
  exact fin _ (by simp [q1k,c0])
theorem qxx (b f t:Int):qf prog w0 qft [q2i b f t] h λ r h' =>
  (q1k b f t=true→∃ p S,r=.tuple #[p,.int .i64 0]∧Lv w0 h' p (q0n b.toNat f.toNat t.toNat) S []∧Step h h' [] S)∧(q1k b f t=false→r=.tuple #[.pointer none,.int .i64 140]∧Step h h' [] []):=by
 refine qf.of_fit (by simp [q2i]) λ fi=>q0fv (by simp [q2i]) ?_
 have fb:=fi.base
 simp only [qw0]
 refine q6d (e:=[.int .i64 b,.int .i64 f,.int .i64 t]) ?_
 have s1:Step h (h.new [.int .i64 b,.int .i64 f,.int .i64 t] 3) [] []:=((Step.refl h [] (by simp)).new _ _).less (by simp)
 have b1:(h.new [.int .i64 b,.int .i64 f,.int .i64 t] 3).blk h.next=some [.int .i64 b,.int .i64 f,.int .i64 t]:=by simp
 have l1:h.next < (h.new [.int .i64 b,.int .i64 f,.int .i64 t] 3).next:=by simp
 generalize h.new [.int .i64 b,.int .i64 f,.int .i64 t] 3=h1 at *
 refine q16 fb b1 rfl ?_
 refine qq (q0i6 b f t) λ v h2 ⟨e,s2⟩ f2=>?_
 subst e
 have s12:=s1.trans s2
 cases hr:q1k b f t with
 | false=>
  simp only [wd, wa,qu,q19]
  exact ⟨by simp,by simp,λ _=>⟨trivial,s12⟩⟩
 | true=>
  have hn:=(q73 _ _ _).1 hr
  simp only [wd, wa]
  have b2:h2.blk h.next=some [.int .i64 b,.int .i64 f,.int .i64 t]:=by rw [(s2.keep _ l1 (by simp)).1]; exact b1
  refine q16 fb b2 rfl ?_
  refine qq qvu λ mp h3 ⟨M,m3,s3⟩ f3=>?_
  have l2:h.next < h2.next:=Nat.lt_of_lt_of_le l1 s2.1
  have b3:h3.blk h.next=some [.int .i64 b,.int .i64 f,.int .i64 t]:=by rw [(s3.keep _ l2 (by simp)).1]; exact b2
  simp only [q3o,q32,qv9]
  refine ⟨q16 fb b3 rfl rfl,?_⟩
  have hmc:=m3.isC
  have hML:=m3.lt
  simp only [q2w]
  rw [q95]
  refine ⟨rfl,by simp,?_⟩
  rw [q28]
  refine ⟨hmc,by simp [splice],?_⟩
  rw [q1u]
  simp only [wd, wa]
  have hb2:((b.toNat:Nat):Int)=b:=by omega
  have hf2:((f.toNat:Nat):Int)=f:=by omega
  have ht2:((t.toNat:Nat):Int)=t:=by omega
  have hcs:([.int .i64 b,.int .i64 f,.int .i64 t,mp]++List.replicate 16 (.slice none 0 0):List Value)=q0m (q0n b.toNat f.toNat t.toNat)++mp :: List.replicate 16 (.slice none 0 0):=by
   simp [q0m,q0n,hb2,hf2,ht2]
  show q15 true 20 (.agg ([.int .i64 b,.int .i64 f,.int .i64 t,mp]++List.replicate 16 (.slice none 0 0):List Value).toArray) _ _
  rw [hcs]
  refine q6d ?_
  have s4:Step h3 (h3.new (q0m (q0n b.toNat f.toNat t.toNat)++mp :: List.replicate 16 (.slice none 0 0)) 20) [] [h3.next]:=(Step.refl h3 [] (by simp)).new _ _
  have b4:(h3.new (q0m (q0n b.toNat f.toNat t.toNat)++mp :: List.replicate 16 (.slice none 0 0)) 20).blk h3.next=some (q0m (q0n b.toNat f.toNat t.toNat)++mp :: List.replicate 16 (.slice none 0 0)):=by simp
  have n4:h3.next < (h3.new (q0m (q0n b.toNat f.toNat t.toNat)++mp :: List.replicate 16 (.slice none 0 0)) 20).next:=by simp
  generalize h3.new (q0m (q0n b.toNat f.toNat t.toNat)++mp :: List.replicate 16 (.slice none 0 0)) 20=h4 at *
  simp only [wd, wa,qu,q19]
  refine ⟨by simp,λ _=>⟨_,h3.next :: M,rfl,⟨h3.next,mp,M,_,rfl,b4,by simp,m3.frame s4 (by simp),rfl,λ q=>by have:=(hML _ q).2; omega,f3.base,n4,by simp,by simp,by simp [q0n],λ i v hi=>?_⟩,?_⟩,by simp⟩
  ·have hv:=List.eq_of_mem_replicate (List.mem_of_getElem? hi)
   subst hv
   have:(q0n b.toNat f.toNat t.toNat).lv.getD i []=[]:=by
    simp only [q0n,List.getD_eq_getElem?_getD,List.getElem?_replicate]
    split <;> rfl
   rw [this]
   exact .nil _ _
  ·have s13:Step h h3 [] M:=s12.trans s3
   exact (s13.trans (s4.more M (λ b hb=>(hML b hb).2))).weaken (λ b hb=>by simp at hb) (λ b hb=>.inl (by simpa using hb))
end
open Go Go.Proofs.Tryz
section
variable {w0:World} {h:Hp}
theorem q03m:ovX prog qp9:=⟨f93,4,67,90,by kernel_rfl,by kernel_rfl,by kernel_rfl,by kernel_rfl,by kernel_rfl,by kernel_rfl,by kernel_rfl⟩
theorem qxp {x:Value} {n i q:Nat} {cs e:List Value} {U:List Nat} (v:GV w0 h 1 x n cs U) (hv:0 < n→Vec w0 h 1 x n cs U) (hi:i≤n) (hn:n≤1000000000) (hq:w0.heap.size≤q) (hqb:h.blk q=some e) (hqe:h.esz q=1) (he:e.length=1) (hqU:q∉U) (hqm:h.um q=true):
  qf prog w0 qb5 [x,.int .i64 (i:Int),.slice (some ⟨q,0,none⟩) 1 1] h λ r h'=>∃ U',Vec w0 h' 1 r (n + 1) (cs.take (i * 1)++e++cs.drop (i * 1)) U'∧Step h h' U U':=by
 have hj:x≠junk:=by obtain ⟨a,c,rfl⟩:=v.slice; simp [junk]
 have hlen:=v.len
 have hysrc:∀ {h':Hp},h'.blk q=some e→Src w0.heap.size h' 1 (.slice (some ⟨q,0,none⟩) 1 1) 1 e:=λ hb=>q96 hq hb (by omega)
 have main:qf prog w0 qb5 [x,.int .i64 (i:Int),.slice (some ⟨q,0,none⟩) 1 1] h λ r h' =>
   (∃ U',Vec w0 h' 1 r (n + 1) (cs.take (i * 1)++e++cs.drop (i * 1)) U'∧Step h h' U U') ∨
   ∃ u cs',r=.slice (some ⟨u,0,none⟩) (n + 1) q0b∧U=[u]∧w0.heap.size≤u∧u < h'.next∧h'.blk u=some cs'∧h'.esz u=1∧(n + 1) * 1≤cs'.length∧cs'.take ((n + 1) * 1)=cs.take (i * 1)++e++cs.drop (i * 1)∧Step h h' [u] [u]:=by
  refine qf.of_fit (by simpa using hj) λ f=>q01u (by simpa using hj) ?_
  obtain ⟨a,c,ex⟩:=v.slice
  have elx:q05 x=some (.int .i64 (n:Int)):=by rw [ex]; rfl
  have e1:IntKind.i64.wrap ((n:Int) + 1)=((n + 1:Nat):Int):=by rw [IntWalk.i64_in _ (by omega)]; simp
  have e2:IntKind.i64.wrap ((i:Int) + 1)=((i + 1:Nat):Int):=by rw [IntWalk.i64_in _ (by omega)]; simp
  have c0:((((1:Nat):Int)) == 0)=false:=rfl
  simp only [qo8]
  refine v.sl.cutN (lo:=i) (hi:=n) q2a (by rw [q2s]) hi (Nat.le_refl _) λ _ _ _ _=>?_
  simp only [elx,wd, wa,c0]
  by_cases hin:i=n
  ·have c1:((i:Int) == (n:Int))=true:=by rw [beq_iff_eq]; omega
   simp only [c1,wd, wa]
   refine qfs f.base v (m:=1) (by omega) rfl (hysrc hqb) (by omega) (by omega) (by omega) (by omega) λ x' h' S' v' st=>?_
   simp only [qu,q06]
   refine ⟨by obtain ⟨a,c,e⟩:=v'.slice; rw [e]; simp [junk],.inl ⟨S',?_,st⟩⟩
   have:cs.take (i * 1)++e++cs.drop (i * 1)=cs++e:=by rw [List.take_of_length_le (by omega),List.drop_of_length_le (by omega),List.append_nil]
   rw [this]
   exact v'
  ·have c1:((i:Int) == (n:Int))=false:=by rw [beq_eq_false_iff_ne]; omega
   simp only [c1,wd, wa]
   have hilt:i < n:=by omega
   obtain ⟨u,rfl,rfl,hu,hun,hub,hue,-⟩:∃ u,x=.slice (some ⟨u,0,none⟩) n q0b∧U=[u]∧w0.heap.size≤u∧u < h.next∧h.blk u=some cs∧h.esz u=1∧cs.length=n * 1:=by
    rcases hv (by omega) with ⟨-,q0,-,-⟩ | q0
    ·omega
    ·exact q0
   have hqu:q≠u:=by simpa using hqU
   refine ⟨_,n,q0b,rfl,?_⟩
   rw [if_pos rfl]
   refine ⟨by omega,u,0,cs,rfl,hu,hub,by omega,hue,λ c' hc' hc2=>?_⟩
   have hcn:((1:Nat):Int)=1:=rfl
   have hi1:(i + 1) * 1=i * 1 + 1:=by omega
   obtain ⟨h1,hh1⟩:∃ h1,h1=h.fill u (0 + c' * 1) cs:=⟨_,rfl⟩
   have g1:h1.blk u=some (cs++List.replicate (c' * 1 - cs.length) unk):=by rw [hh1]; simp [Hp.fill]
   have g2:h1.esz u=1:=by rw [hh1]; exact hue
   have g3:h1.cp u=some (c' * 1):=by rw [hh1]; simp [Hp.fill]
   have g4:h1.blk q=some e:=by rw [hh1]; simp [Hp.fill,hqu,hqb]
   have g5:h1.next=h.next:=by rw [hh1]; rfl
   have g6:Step h h1 [u] [u]:=by
    rw [hh1]
    refine ⟨Nat.le_refl _,λ b hb hs=>⟨?_,rfl⟩,λ b hb=>⟨by simp at hb; subst hb; exact hun,.inl hb⟩,rfl⟩
    have:b≠u:=by simpa using hs
    simp [Hp.fill,this]
   have g7:h1.esz q=1:=by rw [hh1]; exact hqe
   rw [← hh1]
   have hlc:(cs++List.replicate (c' * 1 - cs.length) unk).length=c' * 1:=by simp; omega
   simp only [wd, wa,e1,hcn]
   by_cases hroom:c' < n + 1
   ·have c2:decide ((c':Int) < ((n + 1:Nat):Int))=true:=decide_eq_true (by omega)
    have e3:IntKind.i64.wrap (((n + 1:Nat):Int) - (i:Int))=((n + 1 - i:Nat):Int):=by rw [IntWalk.i64_in _ (by omega)]; omega
    simp only [wd, wa,c2,e3]
    refine q33 (l:=0) (u:=i) rfl q2a (Nat.zero_le _) g1 g2 (by omega) (by rw [hlc]; omega) ?_
    rw [Nat.zero_mul,Nat.zero_add,Nat.sub_zero]
    have hold:h1.getN ⟨u,0,none⟩ (i * 1)=some (cs.take (i * 1)):=by
     rw [q6e,g1,Option.bind_some,if_pos (by rw [hlc]; omega),List.drop_zero,List.take_append_of_le_length (by omega)]
    refine ⟨u,0,i,n + 1 - i,c' * 1,.i64,cs.take (i * 1),rfl,rfl,by omega,hu,hold,g2,g3,by omega,by omega,by omega,?_⟩
    rw [show i + (n + 1 - i)=n + 1 by omega]
    have hzl:(q00 [(.pointer none)] (n + 1 - i)).length=(n + 1 - i) * 1:=by rw [qab]; rfl
    obtain ⟨cs2,hcs2⟩:∃ cs2,cs2=cs.take (i * 1)++q00 [(.pointer none)] (n + 1 - i):=⟨_,rfl⟩
    have hcl2:cs2.length=(n + 1) * 1:=by rw [hcs2,List.length_append,hzl,List.length_take]; omega
    rw [← hcs2]
    obtain ⟨h2,hh2⟩:∃ h2,h2=h1.new cs2 1:=⟨_,rfl⟩
    have k1:h2.blk h1.next=some cs2:=by rw [hh2]; simp
    have k2:h2.esz h1.next=1:=by rw [hh2]; simp
    have k3:h2.blk u=some (cs++List.replicate (c' * 1 - cs.length) unk):=by rw [hh2,q3a,if_neg (by omega)]; exact g1
    have hqn:q < h.next:=f.lt _ _ hqb
    have k4:h2.blk q=some e:=by rw [hh2,q3a,if_neg (by omega)]; exact g4
    have k5:h2.esz u=1:=by rw [hh2,qzg,if_neg (by omega)]; exact g2
    have k6:Step h1 h2 [u] [h1.next,u]:=by rw [hh2]; exact (Step.refl h1 [u] (by simp; omega)).new _ _
    have hbn:w0.heap.size≤h1.next:=by rw [g5]; exact f.base
    rw [← hh2]
    refine q33 (l:=i) (u:=n + 1) q2a (by rw [q2s]) (by omega) k1 k2 (by omega) (by omega) ?_
    refine ⟨_,_,_,1,rfl,rfl,λ q0=>by omega,λ q0=>⟨h1.next,0 + i * 1,cs2,e,rfl,hbn,k1,by omega,?_,?_⟩⟩
    ·rw [show min 1 (n + 1 - i)=1 by omega]
     exact hysrc k4
    obtain ⟨cs3,hcs3⟩:∃ cs3,cs3=splice cs2 (0 + i * 1) e:=⟨_,rfl⟩
    have hcl3:cs3.length=(n + 1) * 1:=by rw [hcs3,q67 (by omega)]; exact hcl2
    rw [← hcs3]
    obtain ⟨h3,hh3⟩:∃ h3,h3=h2.put h1.next cs3:=⟨_,rfl⟩
    have m1:h3.blk h1.next=some cs3:=by rw [hh3]; simp
    have m2:h3.esz h1.next=1:=by rw [hh3]; exact k2
    have m3:h3.blk u=some (cs++List.replicate (c' * 1 - cs.length) unk):=by rw [hh3,q17,if_neg (by omega)]; exact k3
    have m5:h3.esz u=1:=by rw [hh3]; exact k5
    have m6:Step h1 h3 [u] [h1.next,u]:=by rw [hh3]; exact k6.put (by simp) _
    rw [← hh3]
    simp only [wd, wa,e2]
    refine q33 (l:=i + 1) (u:=n + 1) q2a (by rw [q2s]) (by omega) m1 m2 (by omega) (by omega) ?_
    refine q33 (l:=i) (u:=n) q2a (by rw [q2s]) (by omega) m3 m5 (by omega) (by rw [hlc]; omega) ?_
    simp only [wd, wa]
    refine ⟨_,_,_,n - i,rfl,rfl,λ q0=>by omega,λ q0=>⟨h1.next,(i + 1) * 1,cs3,cs.drop (i * 1),rfl,hbn,m1,by omega,?_,?_⟩⟩
    ·rw [show min (n - i) (n + 1 - (i + 1))=n - i by omega]
     have:=q7e (w0:=w0) (h:=h3) (s:=1) (n:=n - i) (o:=0 + i * 1) (c:=q0b) hu m3 (by rw [hlc]; omega)
     rw [List.drop_append_of_le_length (by omega),List.take_append_of_le_length (by simp; omega),List.take_of_length_le (by simp; omega),Nat.zero_add] at this
     exact this
    simp only [wd, wa,qu,q06]
    refine ⟨by simp [junk],.inl ⟨[h1.next],.inr ⟨h1.next,rfl,rfl,hbn,?_,?_,m2,?_⟩,?_⟩⟩
    ·have:=m6.1; have:=(m6.own h1.next (by simp)).1; simpa using this
    ·rw [q17,if_pos rfl]
     congr 1
     have:=q00f (A:=cs.take (i * 1)) (B:=cs.drop (i * 1)) (Z:=q00 [(.pointer none)] (n + 1 - i)) (e:=e) (by rw [hzl,List.length_drop]; omega)
     rw [show (cs.take (i * 1)).length=i * 1 by simp; omega,he,← hcs2] at this
     rw [hcs3,Nat.zero_add,hi1]
     exact this
    ·simp only [List.length_append,List.length_take,List.length_drop]; omega
    ·exact ((g6.trans m6).put (by simp) _).less (by simp)
   ·have c2:decide ((c':Int) < ((n + 1:Nat):Int))=false:=decide_eq_false (by omega)
    simp only [wd, wa,c2]
    refine q33 (l:=0) (u:=n + 1) rfl q2a (Nat.zero_le _) g1 g2 (by omega) (by rw [hlc]; omega) ?_
    rw [Nat.zero_mul,Nat.zero_add,Nat.sub_zero]
    simp only [wd, wa,e2]
    refine q33 (l:=i + 1) (u:=n + 1) q2a (by rw [q2s]) (by omega) g1 g2 (by omega) (by rw [hlc]; omega) ?_
    refine .inl ⟨q03m,q,0,1,1,u,_,_,_,e,_,rfl,rfl,hqu,hq,hu,g4,g1,by omega,by rw [hlc]; omega,by omega,by omega,.inl (by rw [hh1]; show (if q=u then false else h.um q)=true; rw [if_neg hqu]; exact hqm),?_⟩
    simp only [wd, wa,e2]
    refine q33 (l:=i + 1) (u:=n + 1) q2a (by rw [q2s]) (by omega) g1 g2 (by omega) (by rw [hlc]; omega) ?_
    refine q33 (l:=i) (u:=n + 1) q2a (by rw [q2s]) (by omega) g1 g2 (by omega) (by rw [hlc]; omega) ?_
    simp only [wd, wa]
    refine ⟨_,_,_,n + 1 - i,rfl,rfl,λ q0=>by omega,λ q0=>⟨u,(i + 1) * 1,_,cs.drop (i * 1),rfl,hu,g1,by rw [hlc]; omega,?_,?_⟩⟩
    ·rw [show min (n + 1 - i) (n + 1 - (i + 1))=n - i by omega]
     have:=q7e (w0:=w0) (h:=h1) (s:=1) (n:=n - i) (o:=0 + i * 1) (c:=q0b) hu g1 (by rw [hlc]; omega)
     rw [List.drop_append_of_le_length (by omega),List.take_append_of_le_length (by simp; omega),List.take_of_length_le (by simp; omega),Nat.zero_add] at this
     exact ⟨by omega,this.2⟩
    obtain ⟨cs3,hcs3⟩:∃ cs3,cs3=splice (cs++List.replicate (c' * 1 - cs.length) unk) ((i + 1) * 1) (cs.drop (i * 1)):=⟨_,rfl⟩
    have hcl3:cs3.length=c' * 1:=by rw [hcs3,q67 (by rw [hlc]; simp; omega)]; exact hlc
    rw [← hcs3]
    obtain ⟨h3,hh3⟩:∃ h3,h3=h1.put u cs3:=⟨_,rfl⟩
    have m1:h3.blk u=some cs3:=by rw [hh3]; simp
    have m2:h3.esz u=1:=by rw [hh3]; exact g2
    have m4:h3.blk q=some e:=by rw [hh3,q17,if_neg hqu]; exact g4
    rw [← hh3]
    refine q33 (l:=i) (u:=n + 1) q2a (by rw [q2s]) (by omega) m1 m2 (by omega) (by omega) ?_
    refine ⟨_,_,_,1,rfl,rfl,λ q0=>by omega,λ q0=>⟨u,0 + i * 1,cs3,e,rfl,hu,m1,by omega,?_,?_⟩⟩
    ·rw [show min 1 (n + 1 - i)=1 by omega]
     exact hysrc m4
    simp only [wd, wa,qu,q06]
    refine ⟨by simp [junk],.inr ⟨u,splice cs3 (0 + i * 1) e,rfl,rfl,hu,?_,by simp,m2,?_,?_,?_⟩⟩
    ·rw [hh3]; simp; omega
    ·rw [q67 (by omega)]; omega
    ·have:=q00j (A:=cs.take (i * 1)) (B:=cs.drop (i * 1)) (R:=List.replicate (c' * 1 - cs.length) unk) (e:=e) (by simp; omega)
     rw [show (cs.take (i * 1)).length=i * 1 by simp; omega,he,← List.append_assoc,List.take_append_drop,List.length_drop] at this
     rw [hcs3,Nat.zero_add,hi1,show (n + 1) * 1=i * 1 + 1 + (cs.length - i * 1) by omega]
     exact this
    ·have:Step h1 ((h1.put u cs3).put u (splice cs3 (0 + i * 1) e)) [u] [u]:=(((Step.refl h1 [u] (by simp; omega)).put (by simp) _).put (by simp) _)
     rw [← hh3,Nat.zero_add] at this
     exact g6.trans this
 exact main.forget λ r h' hr f'=>by
  rcases hr with hr | ⟨u,cs',rfl,rfl,hu,hun,hb,hes,hl,ht,st⟩
  ·exact .inl hr
  ·refine .inr ⟨u,cs',(n + 1) * 1,hu,hb,[u],.inr ⟨u,rfl,rfl,hu,hun,by rw [q17,if_pos rfl,ht],hes,?_⟩,st.put (by simp) _⟩
   rw [← ht,List.length_take]
   omega
theorem qy6 {x:Value} {n:Nat} {cs:List Value} (v:Sl w0 h 1 x n cs) (hn:n≤1000000000):
  qf prog w0 qdf [x] h λ r h'=>∃ U,GV w0 h' 1 r n cs U∧(0 < n→Vec w0 h' 1 r n cs U)∧Step h h' [] U:=by
 refine qf.of_fit (by simpa using v.junk) λ f=>q020 (by simpa using v.junk) ?_
 obtain ⟨a,c,hx⟩:=v.slice
 simp only [qoa]
 cases a with
 | none=>
  subst hx
  have h0:n=0∧cs=[]:=by
   rcases v.src.2 with h0 | ⟨-,ad,e,-⟩
   ·exact h0
   ·simp at e
  obtain ⟨rfl,rfl⟩:=h0
  simp only [show q3k .eql (.slice none 0 c) (.slice none 0 0)=some (.bool true) from rfl,wd, wa,qu,q06]
  exact ⟨by simp,[],.inl .nil,λ _=>.nil,.refl _ _ (by simp)⟩
 | some ad=>
  have hb:q3k .eql x (.slice none 0 0)=some (.bool false):=by rw [hx]; rfl
  simp only [hb,wd, wa]
  refine qmm f v (by omega) (by omega) (by omega) λ x' h' S' g gv st hn=>?_
  obtain ⟨a',c',hx'⟩:=g.slice
  simp only [qu,q06]
  exact ⟨by rw [hx']; simp,S',g,gv,st⟩
theorem q0l9 {x:Value} {n:Nat} {cs:List Value} (v:Sl w0 h 1 x n cs) (hn:n≤1000000000):
  qf prog w0 qid [x] h λ r h'=>∃ U,GV w0 h' 1 r n cs U∧(0 < n→Vec w0 h' 1 r n cs U)∧Step h h' [] U:=by
 refine qf.of_fit (by simpa using v.junk) λ f=>q04f (by simpa using v.junk) ?_
 obtain ⟨a,c,hx⟩:=v.slice
 simp only [qpi]
 cases a with
 | none=>
  subst hx
  have h0:n=0∧cs=[]:=by
   rcases v.src.2 with h0 | ⟨-,ad,e,-⟩
   ·exact h0
   ·simp at e
  obtain ⟨rfl,rfl⟩:=h0
  simp only [show q3k .eql (.slice none 0 c) (.slice none 0 0)=some (.bool true) from rfl,wd, wa,qu,q06]
  exact ⟨by simp,[],.inl .nil,λ _=>.nil,.refl _ _ (by simp)⟩
 | some ad=>
  have hb:q3k .eql x (.slice none 0 0)=some (.bool false):=by rw [hx]; rfl
  simp only [hb,wd, wa]
  refine qmm f v (by omega) (by omega) (by omega) λ x' h' S' g gv st hn=>?_
  obtain ⟨a',c',hx'⟩:=g.slice
  simp only [qu,q06]
  exact ⟨by rw [hx']; simp,S',g,gv,st⟩
end
theorem qgw {bl:Nat} {l:List Ent} (h1:256≤bl) (h2:bl≤4096) (hc:q27 l=true):q1r (bl:Int) l=0:=by
 unfold q1r
 rw [if_neg (by omega),if_pos hc]
section
variable {w0:World} {h h':Hp}
theorem q0mv {v:Value} {bl:Nat} {l:List Ent} {S0:List Nat} (hz:q1r (bl:Int) l=0) (hl:q0f l≤1048576) (g:GV w0 h 1 v (q0i (bl:Int) l).length (bvs (q0i (bl:Int) l)) S0):
  qf prog w0 qlf [v] h λ r h'=>∃ p S,r=.tuple #[p,.int .i64 0]∧Rb w0 h' p l bl S∧Step h h' [] S:=by
 have h4:=q4q l
 obtain ⟨-,e2⟩:=qzo hz (by omega)
 have e3:=q0hd hz (by omega)
 have hlen:=qas hz hl
 have hmul:min (qd2 (q0i (bl:Int) l)) (q0i (bl:Int) l).length * (q0i (bl:Int) l).length≤3500000000000:=q0ma (A:=262144) (B:=11534360) (by omega) hlen (by decide)
 refine qf.of_fit (by simpa using g.nj) λ f=>q0h3 (by simpa using g.nj) ?_
 simp only [qwr]
 refine GV.b2s (s:=1) g ?_
 refine qq (q0gq (q0i (bl:Int) l) (by omega) hmul) λ r h1 hr f1=>?_
 rw [e2] at hr
 obtain ⟨x,S1,e,g1,-,s1⟩:=hr
 subst e
 simp only [wd, wa]
 refine qq (qwv (bl:Int) g1.sl (by omega)) λ r h2 ⟨y,S2,e,g2,s2⟩ f2=>?_
 subst e
 simp only [wd, wa]
 have s12:Step h h2 [] []:=(s1.less (T:=[]) (by simp)).trans (s2.less (T:=[]) (by simp))
 have c1:(q1r (bl:Int) l != 0)=false:=by simp [hz]
 simp only [c1,wd, wa]
 refine qq (q0h9 (g.frame s12 (by simp)) g2.gv) λ r h3 ⟨e,e'⟩ f3=>?_
 rw [decide_eq_true rfl] at e
 subst e e'
 have hblen:24≤(q0i (bl:Int) l).length:=by
  have hp:=e2
  unfold prs at hp
  split at hp
  ·cases hp
  ·omega
 obtain ⟨ax,cx,ex⟩:=g1.slice
 simp only [wd, wa,q2w,q28,q1u,List.set_cons_zero,List.set_cons_succ,q4c,qu,q19]
 have hyc:qv y=true∧q3k .neq y (.slice none 0 0)=some (.bool true):=by
  rcases g2 with ⟨-,q0,-,-⟩ | ⟨u,e,-⟩
  ·omega
  ·subst e; exact ⟨rfl,rfl⟩
 have sn:Step h3 (h3.new [y,x,.int .i64 ((grp bl l).length:Int)] 3) [] [h3.next]:=(Step.refl h3 [] (by simp)).new _ _
 have g3:Vec w0 h3 3 x l.length (l.flatMap ee) S1:=g1.frame s2 (by simp)
 have hS1:∀ b,b∈S1→b < h3.next:=λ b hb=>(g3.lt b hb).2
 refine ⟨hyc.1,by simp,by rw [ex]; rfl,by simp,rfl,by simp,by simp,_,(h3.next :: S1)++S2,rfl,⟨(grp bl l).length,h3.next :: S1,h3.next,y,x,.int .i64 ((grp bl l).length:Int),S2,⟨h3.next,y,x,S1,rfl,rfl,by simp,hyc.2,f2.base,by simp,g3.frame sn (by simp),λ q=>by have:=hS1 _ q; omega,(q0jy hz).1,by omega⟩,rfl,by simp,by simp,g2.frame sn (by simp),rfl,hl,hz⟩,?_⟩
 have s13:Step h h3 [] (S2++S1):=(s1.trans (s2.more S1 λ b hb=>(s1.own b hb).1)).weaken (by simp) (by simp)
 exact (s13.new _ _).less (λ b hb=>by simp at hb ⊢; rcases hb with q | q | q <;> simp [q])
theorem ql7 {v:Value} {bl:Nat} {l:List Ent} (h1:256≤bl) (h2:bl≤4096) (hc:q27 l=true) (hl:q0f l≤1048576) (hv:Es w0 h v l):
  qf prog w0 qbt [v,.int .i64 (bl:Int)] h λ r h'=>∃ S,Rb w0 h' r l bl S∧Step h h' [] S:=by
 have h4:=q4q l
 have hz:=qgw h1 h2 hc
 refine qf.of_fit (by simpa using hv.junk) λ f=>q0d9 (by simpa using hv.junk) ?_
 simp only [qug]
 refine qq (qwv (bl:Int) hv (by omega)) λ r h2 ⟨y,S2,e,g2,s2⟩ f2=>?_
 subst e
 simp only [wd, wa]
 refine qq (q0mv hz hl g2.gv) λ r h3 ⟨p,S,e,m3,s3⟩ f3=>?_
 subst e
 simp only [wd, wa,qu,q06]
 refine ⟨?_,S,m3,(s2.less (T:=[]) (by simp)).trans s3⟩
 obtain ⟨n,S1,p,y,c1,c2,Sy,a1,a2,-⟩:=m3
 rw [a2]; simp [ptr,junk]
theorem qy9 {r:Value} {l:List Ent} {bl:Nat} {S:List Nat} (m:Rb w0 h r l bl S):qf prog w0 qf8 [r] h λ v h'=>∃ U,Vec w0 h' 1 v (q0i (bl:Int) l).length (bvs (q0i (bl:Int) l)) U∧Step h h' [] U:=by
 obtain ⟨n,S1,p,y,c1,c2,Sy,a1,a2,a3,a4,a5,a6,a7,a8⟩:=m
 refine qf.of_fit (by simpa using a1.nj) λ f=>q0be (by simpa using a1.nj) ?_
 simp only [qty]
 refine qq (qlz a1) λ v h1 ⟨e,e'⟩ f1=>?_
 subst e e'
 subst a2
 simp only [ptr,wd, wa]
 refine qj (a1.lt p a3).1 a4 rfl ?_
 have hlen:=qas a8 a7
 have hpos:0 < (q0i (bl:Int) l).length:=by
  have hb:q0i (bl:Int) l=bld bl l:=by unfold q0i; rw [if_pos a8,Int.toNat_natCast]
  rw [hb,qcr]
  omega
 refine qq (q0l9 a5.sl (by omega)) λ v h2 ⟨U,g,gv,s2⟩ f2=>?_
 simp only [qu,q06]
 exact ⟨by simpa using g.nj,U,gv hpos,s2⟩
end
section
variable {w0:World} {h h':Hp}
def CI (w0:World) (B q:Nat) (l:List Ent) (i:Nat) (h1:Hp) (S1:List Nat):Prop:=
 ∃ x S',S1=q :: S'∧h1.blk q=some [x]∧Vec w0 h1 3 x (l.take i).length ((l.take i).flatMap ee) S'∧q∉S'∧B≤h1.next
theorem q0mi {B q i:Nat} {l:List Ent} (hq:q < B):q2h w0 0 B (CI w0 B q l i):=by
 refine ⟨λ h lp S _ c=>c,λ h h' S T T' f ⟨x,S',e,b,v,hqs,n⟩ st hd hB=>?_,λ h S ⟨x,S',e,b,v,hqs,n⟩ c hc=>?_⟩
 ·subst e
  exact ⟨x,S',rfl,by rw [(st.keep q (by omega) (hd q (by simp))).1]; exact b,v.frame st (λ c hc=>hd c (by simp [hc])),hqs,Nat.le_trans n st.1⟩
 ·subst e
  rcases List.mem_cons.1 hc with rfl | hc
  ·omega
  ·exact (v.lt c hc).2
theorem q0ek {K0:Hp→Prop} {fv:Value} {q:Nat} {l:List Ent} {T:List Nat} (f:Fit w0 h) (hq:w0.heap.size≤q) (hb:h.blk q=some [.slice none 0 0]) (hl:l.length≤1000000000) (hqT:q∉T)
  (hit:∀ g,ItV prog w0 fv (h.newLp g) T (sV l)) (hk:∀ h3 x S',Fit w0 h3→q09 0 h h3 [q] (q :: S')→h3.blk q=some [x]→Vec w0 h3 3 x l.length (l.flatMap ee) S'→K0 h3):
  q3j prog w0 fv 1 (λ b g args K=>qnw prog w0 b g K (ptr q) (args.getD 0 undef)) K0 [] h:=by
 have lq:=f.lt _ _ hb
 refine qc2 (xs:=sV l) (T:=T) 0 (Nat.zero_le _) f hit (λ b g x K=>q0u zE 3 λ v=>q0k w0 v (x.getD 0 undef) 3 λ _=>qg w0 (ptr q) λ v22=>qw w0 v 3 λ v25=>q0j [(0,3,true,v25)] (q00 zE 1) 1 3 λ v27=>q0h w0 3 40 v22 v27 λ v28=>q0q w0 (ptr q) v28 λ _=>q24 b g none K)
  (λ b g x K h1 hl hk=>qcf hl hk) [q] (CI w0 h.next q l) (λ _ _ _=>False) (λ i=>q0mi lq) (λ o=>⟨λ _ _ _ _ c=>c,λ _ _ _ _ _ _ c=>c.elim,λ _ _ c=>c.elim⟩)
  ⟨_,[],rfl,hb,.nil,by simp,Nat.le_refl _⟩ (λ b hb hbT=>by simp at hb; subst hb; exact hqT hbT) ?_ ?_ ?_ ?_
 ·intro y hy
  obtain ⟨x,hx,rfl⟩:=List.mem_map.1 hy
  exact ⟨rfl,by simp⟩
 ·rintro i y h1 S1 g1 K hi f1 ⟨x,S',e,b,v,hqs,n⟩ lb _ ends exits
  subst e
  unfold sV at hi
  rw [List.getElem?_map] at hi
  obtain ⟨z,hz,rfl⟩:=Option.map_eq_some_iff.1 hi
  have hil:=(List.getElem?_eq_some_iff.1 hz).1
  have hti:(l.take i).length=i:=by rw [List.length_take]; omega
  have ht1:l.take (i + 1)=l.take i++[z]:=by rw [List.take_add_one,hz]; rfl
  simp only [List.getD_cons_zero]
  have fb:=f1.base
  refine q2f fb rfl rfl q2b ?_
  have sx:Step h1 (h1.new (ee z) 3) [] [h1.next]:=(Step.refl h1 [] (by simp)).new _ _
  have bx:(h1.new (ee z) 3).blk h1.next=some (ee z):=by simp
  have nx:h1.next < (h1.new (ee z) 3).next:=by simp
  have bq:(h1.new (ee z) 3).blk q=some [x]:=by rw [(sx.keep q (by omega) (by simp)).1]; exact b
  have vx:=v.frame sx (by simp)
  have bsx:=sx.1
  generalize h1.new (ee z) 3=hx at *
  simp only [ptr]
  refine qj hq bq rfl ?_
  refine q16 fb bx rfl ?_
  refine q4a (by omega) vx.gv rfl rfl (by omega) (by omega) (by omega) λ x' h2 S2 g2 s2=>?_
  have hS':∀ b,b∈S'→b < h1.next:=λ b hb=>(v.lt b hb).2
  have b2:h2.blk q=some [x]:=by rw [(s2.keep q (by omega) hqs).1]; exact bq
  have hq2:q∉S2:=λ e=>by
   rcases (s2.own _ e).2 with r | r
   ·exact hqs r
   ·omega
  have s12:Step h1 h2 S' S2:=(sx.wide (T:=S') (T':=S') (by simp) (λ b hb=>.inr ⟨hb,hS' b hb⟩)).trans s2
  have lq1:q < h1.next:=by omega
  have hxc:qv x'=true:=by obtain ⟨a,c,e⟩:=g2.slice; rw [e]; rfl
  refine q21 hq b2 (by simp) hxc ?_
  simp only [List.set_cons_zero]
  have s3:Step h1 (h2.put q [x']) (q :: S') (q :: S2):=(s12.consR lq1).put (by simp) _
  have sp:Step h2 (h2.put q [x']) [q] [q]:=(Step.refl h2 [q] (by simp; have:=s2.1; omega)).put (by simp) _
  refine ends _ _ (s3.y 0) ⟨x',S2,rfl,by simp,?_,hq2,by have:=s3.1; omega⟩
  have g3:Vec w0 (h2.put q [x']) 3 x' _ _ S2:=g2.frame sp (by simpa using λ b hb (e:b=q)=>hq2 (by rw [← e]; exact hb))
  rw [hti] at g3
  rw [ht1,List.length_append,hti,List.flatMap_append]
  simpa using g3
 ·rintro h3 S2 f3 ys ⟨x,S',e,b,v,hqs,n⟩
  subst e
  have:(sV l).length=l.length:=by simp [sV]
  rw [this,List.take_of_length_le (Nat.le_refl _)] at v
  exact hk h3 x S' f3 ys b v
 ·rintro o h3 S2 f3 ys c
  exact c.elim
theorem qlo {r:Value} {l:List Ent} {S:List Nat} (m:Me w0 h r l S):qf prog w0 qa9 [r] h λ v h'=>∃ q,v=.func (.func qa7) #[] #[ptr q]∧h'.blk q=some [r]∧h.next≤q∧q < h'.next∧Step h h' [] []:=q0kg r m.nj m.isC
theorem q0f7 {q:Nat} {r:Value} {l:List Ent} {M:List Nat} (bq:h.blk q=some [r]) (wq:w0.heap.size≤q) (m:Me w0 h r l M):
  qf prog w0 qi8 [.func (.func qa7) #[] #[ptr q]] h λ v h'=>∃ S',Vec w0 h' 3 v l.length (l.flatMap ee) S'∧Step h h' [] S':=by
 have hl:l.length≤10000000:=by obtain ⟨q,p,M,e,a1,a2,a3,a4,a5,a6,a7,a8⟩:=m; exact a8
 refine qf.of_fit (by simp [junk]) λ f0=>q03y (by simp [junk]) ?_
 simp only [qpc]
 refine qq (R:=λ v h'=>∃ S',Vec w0 h' 3 v l.length (l.flatMap ee) S'∧Step h h' [] S') ?_ λ v h1 ⟨S',g,st⟩ f1=>?_
 ·refine qf.of_fit (by simp [junk]) λ f=>q01k (by simp [junk]) ?_
  simp only [qo3]
  refine ⟨rfl,?_⟩
  have s1:Step h (h.new [.slice none 0 0] 1) [] [h.next]:=(Step.refl h [] (by simp)).new _ _
  have b1:(h.new [.slice none 0 0] 1).blk h.next=some [.slice none 0 0]:=by simp
  have f1:Fit w0 (h.new [.slice none 0 0] 1):=f.new (by simp [qv])
  have n1:h.next < (h.new [.slice none 0 0] 1).next:=by simp
  have m1:=m.frame s1 (by simp)
  have lq:=f.lt _ _ bq
  have bq1:(h.new [.slice none 0 0] 1).blk q=some [r]:=by rw [(s1.keep q lq (by simp)).1]; exact bq
  have hML:=m.lt
  show q3j _ _ _ _ _ _ _ (h.new [.slice none 0 0] 1)
  generalize h.new [.slice none 0 0] 1=h1 at *
  refine q0ek (T:=q :: M) (l:=l) f1 f.base b1 (by omega) (λ w=>?_) (λ g=>?_) λ h3 x S' f3 ys b3 g3=>?_
  ·rcases List.mem_cons.1 w with w | w
   ·omega
   ·have:=hML _ w; omega
  ·have yl:=(q09.refl 0 h1 [] (by simp)).newLp g
   have hm:Me w0 (h1.newLp g) r l M:=(m1.frame (yl.step) (by simp):Me w0 ((h1.newLp g).as h1) r l M)
   exact qn2 (hh:=h1.newLp g) (M:=M) bq1 wq hm ⟨by simp,λ b hb=>by simp [hb]⟩
  ·refine qj f.base b3 rfl ?_
   unfold q2e
   simp only [qu,q06]
   have hq3:h.next < h3.next:=Nat.lt_of_lt_of_le n1 ys.next
   have y03:q09 0 h h3 [] S':=((s1.y 0).trans ys).less (λ b hb=>by simp [hb])
   exact ⟨by obtain ⟨a,c,e⟩:=g3.slice; rw [e]; simp [junk],S',g3,y03.cut⟩
 ·simp only [qu,q06]
  exact ⟨by obtain ⟨a,c,e⟩:=g.slice; rw [e]; simp [junk],S',g,st⟩
end
end Go.Proofs.YtfmoemconapmhaaGreat.Ah
