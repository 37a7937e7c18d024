/- seq: texts in order; where a key stands in a list. -/
import Derived.Test.YtfmoemconapmhaaGreatAh30
import Derived.Test.YtfmoemconapmhaaGreatKxb
set_option linter.all false
namespace Go.Proofs.YtfmoemconapmhaaGreat.Ah
open Go
abbrev Key:=List UInt8
def blt(a b:Key):Bool:=Op.bytesLess a b
theorem j0:∀a:Key,blt a a=false:=by
 intro a
 induction a with
 |nil=>rfl
 |cons x a ih=>unfold blt at ih ⊢;simp[Op.bytesLess,ih]
theorem kA:∀{a b c:Key},blt a b=true→blt b c=true→blt a c=true:=by
 intro a
 induction a with
 |nil=>
  intro b c h1 h2
  cases c with
  |nil=>cases b <;> simp[blt,Op.bytesLess]at h2
  |cons z c=>rfl
 |cons x a ih=>
  intro b c h1 h2
  cases b with
  |nil=>simp[blt,Op.bytesLess]at h1
  |cons y b=>
   cases c with
   |nil=>simp[blt,Op.bytesLess]at h2
   |cons z c=>
    simp only[blt,Op.bytesLess,Bool.or_eq_true,iE,decide_eq_true_eq,beq_iff_eq]at h1 h2 ⊢
    rcases h1 with h1|⟨rfl,h1⟩
    ·rcases h2 with h2|⟨rfl,h2⟩
     ·left;exact UInt8.lt_trans h1 h2
     ·left;exact h1
    ·rcases h2 with h2|⟨rfl,h2⟩
     ·left;exact h2
     ·right;exact ⟨rfl,ih h1 h2⟩
theorem Dv:∀{a b:Key},blt a b=false→blt b a=false→a=b:=by
 intro a
 induction a with
 |nil=>
  intro b h1 h2
  cases b with
  |nil=>rfl
  |cons y b=>simp[blt,Op.bytesLess]at h1
 |cons x a ih=>
  intro b h1 h2
  cases b with
  |nil=>simp[blt,Op.bytesLess]at h2
  |cons y b=>
   simp only[blt,Op.bytesLess,Bool.or_eq_false_iff,Bool.and_eq_false_iff,decide_eq_false_iff_not,beq_eq_false_iff_ne]at h1 h2
   have hxy:x=y:=by
    have a1:¬ x.toNat<y.toNat:=λq=>h1.1 (UInt8.lt_iff_toNat_lt.2 q)
    have a2:¬ y.toNat<x.toNat:=λq=>h2.1 (UInt8.lt_iff_toNat_lt.2 q)
    exact lg.1 (by omega)
   subst hxy
   have b1:blt a b=false:=by
    rcases h1.2 with q|q
    ·exact absurd rfl q
    ·exact q
   have b2:blt b a=false:=by
    rcases h2.2 with q|q
    ·exact absurd rfl q
    ·exact q
   rw[ih b1 b2]
theorem ue{a b:Key}(h:blt a b=true):blt b a=false:=by
 cases e:blt b a with
 |false=>rfl
 |true=>have:=kA h e;rw[j0]at this;cases this
theorem ji{a b:Key}(h:blt a b=true):a≠b:=by
 rintro rfl
 rw[j0]at h
 cases h
theorem qk{a b:Key}(h:blt a b=false):a=b∨blt b a=true:=by
 cases e:blt b a with
 |false=>exact .inl (Dv h e)
 |true=>exact .inr rfl
theorem Ch(a b:Key):ah .lss (.string (str a)) (.string (str b))=some (.bool (blt a b)):=by simp[ah,kj,blt]
theorem qS(a b:Key):ah .geq (.string (str a)) (.string (str b))=some (.bool (!blt a b)):=by simp[ah,kj,blt]
theorem Kh(a b:Key):ah .gtr (.string (str a)) (.string (str b))=some (.bool (blt b a)):=by
 simp only[ah,kj,C9]
 congr 2
 show (!(blt a b||a==b))=blt b a
 cases e:blt a b with
 |true=>rw[ue e];rfl
 |false=>
  by_cases h:a=b
  ·subst h;rw[j0];simp
  ·rcases qk e with q|q
   ·exact absurd q h
   ·rw[q];simp[h]
theorem lV(a b:Key):ah .eql (.string (str a)) (.string (str b))=some (.bool (decide (a=b))):=by
 simp only[ah,kj,C9]
 congr 2
 by_cases h:a=b <;> simp[h]
theorem jB(a b:Key):ah .neq (.string (str a)) (.string (str b))=some (.bool (decide (a≠b))):=by
 simp only[ah,kj,C9]
 congr 2
 by_cases h:a=b <;> simp[h]
theorem nl:(ByteArray.empty:ByteArray)=str []:=rfl
section
variable {V:Type}
def Srt(l:List (Key×V)):Prop:=l.Pairwise λx y=>blt x.1 y.1=true
def bV:List (Key×V)→Key→Nat
 |[],_=>0
 |x::l,k=>if blt x.1 k=true then bV l k+1 else 0
def eU(l:List (Key×V))(k:Key)(i:Nat):Bool:=
 match l[i]? with
 |some x=>decide (x.1=k)
 |none=>false
def eG(l:List (Key×V))(k:Key):Bool:=eU l k (bV l k)
theorem qv:∀(l:List (Key×V)) (k:Key),bV l k≤l.length
 |[],_=>bF _
 |x::l,k=>by
  rw[bV]
  split
  ·have:=qv l k;simp;omega
  ·omega
theorem si:∀(l:List (Key×V)) (k:Key) (i:Nat) x,i<bV l k→l[i]?=some x→blt x.1 k=true
 |[],_,_,_,h,_=>by simp[bV]at h
 |y::l,k,i,x,h,hx=>by
  rw[bV]at h
  split at h
  ·rename_i e
   cases i with
   |zero=>simp at hx;subst hx;exact e
   |succ i=>exact si l k i x (by omega) (by simpa using hx)
  ·omega
theorem sh:∀(l:List (Key×V)) (k:Key) x,l[bV l k]?=some x→blt x.1 k=false
 |[],_,_,h=>by simp at h
 |y::l,k,x,h=>by
  rw[bV]at h
  split at h
  ·exact sh l k x (by simpa using h)
  ·rename_i e
   simp at h
   subst h
   simpa using e
theorem F3{l:List (Key×V)}{k:Key}{r:Nat}(h1:r≤l.length)(h2:∀i x,i<r→l[i]?=some x→blt x.1 k=true)(h3:∀x,l[r]?=some x→blt x.1 k=false):bV l k=r:=by
 rcases Nat.lt_trichotomy (bV l k) r with h|h|h
 ·have hl:bV l k<l.length:=by omega
  have:=h2 (bV l k) l[bV l k] h (bW hl)
  rw[sh l k _ (bW hl)]at this
  cases this
 ·exact h
 ·have hl:r<l.length:=by have:=qv l k;omega
  have:=si l k r l[r] h (bW hl)
  rw[h3 _ (bW hl)]at this
  cases this
theorem Srt.above{l:List (Key×V)}(s:Srt l){k:Key}{i:Nat}{x:Key×V}(hi:bV l k≤i)(hx:l[i]?=some x):blt x.1 k=false:=by
 have hil:=(cB.1 hx).1
 rcases Nat.lt_or_eq_of_le hi with h|h
 ·have hl:bV l k<l.length:=by omega
  have e1:=sh l k _ (bW hl)
  have e2:=rh.1 s (bV l k) i hl hil h
  have e3:l[i]=x:=(cB.1 hx).2
  rw[e3]at e2
  cases e:blt x.1 k with
  |false=>rfl
  |true=>
   have:=kA e2 e
   rw[e1]at this
   cases this
 ·subst h
  exact sh l k _ hx
def bsK(l:List (Key×V))(k:Key):Nat→Nat→Nat→Nat
 |0,i,_=>i
 | m+1,i,j=>if i<j then
   match l[(i+j)/2]? with
   |some x=>if blt x.1 k=true then bsK l k m ((i+j)/2+1) j else bsK l k m i ((i+j)/2)
   |none=>i
  else i
theorem rF(l:List (Key×V))(k:Key):∀(m i j:Nat),i≤j→j≤l.length→i≤bsK l k m i j∧bsK l k m i j≤j
 |0,i,j,h,_=>⟨bF _,h⟩
 |m+1,i,j,h,hj=>by
  rw[bsK]
  by_cases hij:i<j
  ·rw[if_pos hij,bW (by omega)]
   simp only
   split
   ·have:=rF l k m ((i+j)/2+1) j (by omega) hj
    omega
   ·have:=rF l k m i ((i+j)/2) (by omega) (by omega)
    omega
  ·rw[if_neg hij]
   omega
theorem yv{l:List (Key×V)}(s:Srt l)(k:Key):∀(m i j:Nat),i≤j→j≤l.length→j-i≤m→i≤bV l k→bV l k≤j→bsK l k m i j=bV l k
 |0,i,j,h,_,hm,h1,h2=>by rw[bsK];omega
 |m+1,i,j,h,hj,hm,h1,h2=>by
  rw[bsK]
  by_cases hij:i<j
  ·rw[if_pos hij,bW (by omega)]
   simp only
   split
   ·rename_i e
    refine yv s k m _ _ (by omega) hj (by omega) ?_ h2
    rcases nu ((i+j)/2) (bV l k) with q|q
    ·exact q
    ·rw[s.above q (bW (by omega))]at e
     cases e
   ·rename_i e
    refine yv s k m _ _ (by omega) (by omega) (by omega) h1 ?_
    rcases nu ((i+j)/2) (bV l k) with q|q
    ·exact absurd (si l k _ _ q (bW (by omega))) e
    ·exact q
  ·rw[if_neg hij]
   omega
theorem Dw{l:List (Key×V)}(s:Srt l)(k:Key):bsK l k l.length 0 l.length=bV l k:=
 yv s k _ _ _ (fX _) (bF _) (by omega) (fX _) (qv l k)
end
structure Ent where
 k:Key
 v:Key
 g:Bool
 deriving DecidableEq
def bE(x:Ent):Bool:=decide (1≤x.k.length)&&decide (x.k.length≤64)&&decide (x.v.length≤64)&&!(x.g&&decide (x.v≠[]))
theorem iu(x:Ent):bE x=true↔1≤x.k.length∧x.k.length≤64∧x.v.length≤64∧(x.g=true→x.v=[]):=by
 unfold bE
 cases x.g <;> simp[and_assoc]
def qh(p:Option Key)(k:Key):Bool:=match p with|none=>true|some q=>blt q k
def jP:Option Key→List Ent→Bool
 |_,[]=>true
 |p,x::l=>bE x&&qh p x.k&&jP (some x.k) l
theorem ui(p:Option Key)(x:Ent)(l:List Ent):jP p (x::l)=(bE x&&qh p x.k&&jP (some x.k) l):=by cases p <;> rfl
def ff(l:List Ent):Bool:=jP none l
theorem D3{p:Option Key}{x:Ent}{l:List Ent}(h:jP p (x::l)=true):bE x=true∧(∀k,p=some k→blt k x.k=true)∧jP (some x.k) l=true:=by
 rw[ui,iE,iE]at h
 obtain ⟨⟨a,b⟩,c⟩:=h
 exact ⟨a,λk hk=>by subst hk;exact b,c⟩
theorem qt:∀{l:List Ent} {p:Option Key},jP p l=true→∀x,x∈l→bE x=true
 |y::l,p,h,x,hx=>by
  obtain ⟨a,-,c⟩:=D3 h
  rcases bB.1 hx with rfl|hx
  ·exact a
  ·exact qt c x hx
theorem rK:∀{l:List Ent} {p:Option Key},jP p l=true→l.Pairwise (λx y=>blt x.k y.k=true)∧∀k,p=some k→∀x,x∈l→blt k x.k=true
 |[],_,_=>⟨.nil,by simp⟩
 |y::l,p,h=>by
  obtain ⟨a,b,c⟩:=D3 h
  obtain ⟨d,e⟩:=rK c
  refine ⟨jx.2 ⟨λz hz=>e _ rfl z hz,d⟩,λk hk x hx=>?_⟩
  rcases bB.1 hx with rfl|hx
  ·exact b k hk
  ·exact kA (b k hk) (e _ rfl x hx)
theorem Q0{l:List Ent}:∀{p:Option Key},(∀x,x∈l→bE x=true)→l.Pairwise (λx y=>blt x.k y.k=true)→(∀k,p=some k→∀x,x∈l→blt k x.k=true)→jP p l=true:=by
 induction l with
 |nil=>intros;rfl
 |cons y l ih=>
  intro p h1 h2 h3
  obtain ⟨d,e⟩:=jx.1 h2
  rw[ui,iE,iE]
  refine ⟨⟨h1 y (by simp),?_⟩,ih (λx hx=>h1 x (by simp[hx])) e λk hk x hx=>by cases hk;exact d x hx⟩
  cases p with
  |none=>rfl
  |some k=>exact h3 k rfl y (by simp)
def shd:Key→Key→Nat
 |a::az,b::bs=>if a=b then shd az bs+1 else 0
 |_,_=>0
theorem L5:∀a b:Key,shd a b=shd b a
 |[],[]=>rfl
 |[],_::_=>rfl
 |_::_,[]=>rfl
 |a::az,b::bs=>by
  rw[shd,shd]
  by_cases h:a=b
  ·rw[if_pos h,if_pos h.symm,L5 az bs]
  ·rw[if_neg h,if_neg (Ne.symm h)]
theorem tA:∀a b:Key,shd a b≤a.length∧shd a b≤b.length∧a.take (shd a b)=b.take (shd a b)
 |[],[]=>by simp[shd]
 |[],_::_=>by simp[shd]
 |_::_,[]=>by simp[shd]
 |a::az,b::bs=>by
  rw[shd]
  obtain ⟨h1,h2,h3⟩:=tA az bs
  split
  ·rename_i e
   subst e
   simp[h3]
   omega
  ·simp
def cI(g:Bool):UInt8:=if g=true then 1 else 0
def eb(ahead:Key)(x:Ent):List UInt8:=[UInt8.ofNat (shd ahead x.k),UInt8.ofNat (x.k.length-shd ahead x.k),cI x.g,UInt8.ofNat x.v.length]++(x.k.drop (shd ahead x.k)++x.v)
theorem lD(ahead:Key)(x:Ent):(eb ahead x).length=4+(x.k.length-shd ahead x.k)+x.v.length:=by simp[eb];omega
def eV(l:List Ent):Key:=match l.getLast? with|some x=>x.k|none=>[]
theorem H3(l:List Ent)(x:Ent):eV (l++[x])=x.k:=by simp[eV]
def dT(ahead:Key):List Ent→List UInt8
 |[]=>[]
 |x::l=>eb ahead x++dT x.k l
theorem Fi:∀(l m:List Ent) (a:Key),dT a (l++m)=dT a l++dT (match l.getLast? with|some x=>x.k|none=>a) m
 |[],m,a=>rfl
 |x::l,m,a=>by
  rw[ku,dT,dT,Fi l m,cM]
  congr 3
  cases l with
  |nil=>simp
  |cons y l=>
   rw[List.getLast?_cons_cons]
   cases h:(y::l).getLast? with
   |none=>simp at h
   |some z=>rfl
theorem Fj(l:List Ent)(x:Ent):dT [] (l++[x])=dT [] l++eb (eV l) x:=by
 rw[Fi,dT,dT,dG]
 rfl
theorem yP{l:List Ent}(h:l≠[])(a:Key):0<(dT a l).length:=by
 cases l with
 |nil=>exact absurd rfl h
 |cons x l=>rw[dT,aT,lD];omega
abbrev enc(l:List Ent):List UInt8:=dT [] l
def gE(block:Nat)(s:List (List Ent)×List Ent)(x:Ent):List (List Ent)×List Ent:=
 if s.2≠[]∧block<(enc s.2).length+(eb (eV s.2) x).length then (s.1++[s.2],[x]) else (s.1,s.2++[x])
def j4(s:List (List Ent)×List Ent):List (List Ent):=if s.2=[] then s.1 else s.1++[s.2]
def bT(block:Nat)(l:List Ent):List (List Ent)×List Ent:=l.foldl (gE block) ([],[])
def grp(block:Nat)(l:List Ent):List (List Ent):=j4 (bT block l)
theorem zr(block:Nat)(l:List Ent)(x:Ent):bT block (l++[x])=gE block (bT block l) x:=by simp[bT]
theorem V4(block:Nat)(s:List (List Ent)×List Ent)(x:Ent):(gE block s x).1.flatten++(gE block s x).2=s.1.flatten++s.2++[x]:=by
 unfold gE
 split <;> simp
theorem G1(block:Nat):∀(l:List Ent) (s:List (List Ent)×List Ent),(l.foldl (gE block) s).1.flatten++(l.foldl (gE block) s).2=s.1.flatten++s.2++l
 |[],s=>by simp
 |x::l,s=>by rw[rf,G1 block l,V4];simp
theorem zq(block:Nat)(l:List Ent):(bT block l).1.flatten++(bT block l).2=l:=by simpa[bT]using G1 block l ([],[])
theorem iM(block:Nat)(l:List Ent):(grp block l).flatten=l:=by
 have:=zq block l
 unfold grp j4
 split
 ·rename_i e
  rw[e,dG]at this
  exact this
 ·simpa using this
theorem zu(block:Nat):∀(l:List Ent) (s:List (List Ent)×List Ent),(∀g,g∈s.1→g≠[])→∀g,g∈(l.foldl (gE block) s).1→g≠[]
 |[],s,h=>h
 |x::l,s,h=>by
  rw[rf]
  refine zu block l _ λg hg=>?_
  unfold gE at hg
  split at hg
  ·rename_i c
   rcases aS.1 hg with q|q
   ·exact h g q
   ·simp at q;subst q;exact c.1
  ·exact h g hg
theorem mK{block:Nat}{l g:List Ent}(h:g∈grp block l):g≠[]:=by
 unfold grp j4 at h
 have hd:=zu block l ([],[]) (by simp)
 split at h
 ·exact hd g h
 ·rename_i e
  rcases aS.1 h with q|q
  ·exact hd g q
  ·simp at q;subst q;exact e
def aK(G:List (List Ent)):List UInt8:=G.flatMap λes=>enc es++be 4 (bS (enc es))
def cQ(es:List Ent):Key:=match es with|x::_=>x.k|[]=>[]
def idx(at_:Nat):List (List Ent)→List UInt8
 |[]=>[]
 |es::G=>vi (cQ es).length++cQ es++(vi at_++vi (enc es).length)++idx (at_+(enc es).length+4) G
theorem iC(G H:List (List Ent)):aK (G++H)=aK G++aK H:=by simp[aK]
theorem tn(es:List Ent):aK [es]=enc es++be 4 (bS (enc es)):=by simp[aK]
theorem kL(es:List Ent):(aK [es]).length=(enc es).length+4:=by simp[tn]
theorem G2:∀(G H:List (List Ent)) (a:Nat),idx a (G++H)=idx a G++idx (a+(aK G).length) H
 |[],H,a=>by simp[idx,aK]
 |es::G,H,a=>by
  rw[ku,idx,idx,G2 G H]
  have:(aK (es::G)).length=(enc es).length+4+(aK G).length:=by
   rw[show es::G=[es]++G from rfl,iC,aT,kL]
  rw[this,show a+((enc es).length+4+(aK G).length)=a+(enc es).length+4+(aK G).length by omega]
  simp only[cM]
def ij(block n spans o:Nat):List UInt8:=be 4 block++be 4 n++be 4 spans++be 4 o
def dE(block:Nat)(l:List Ent):List UInt8:=idx 0 (grp block l)++ij block l.length (grp block l).length (aK (grp block l)).length
def eJ:List UInt8:=[68,82,85,78]
def bld(block:Nat)(l:List Ent):List UInt8:=aK (grp block l)++(dE block l++(be 4 (bS (dE block l))++eJ))
theorem oM(a b c d:Nat):(ij a b c d).length=16:=by simp[ij]
theorem nH(block:Nat)(l:List Ent):(bld block l).length=(aK (grp block l)).length+(idx 0 (grp block l)).length+24:=by
 simp[bld,dE,oM,eJ];omega
def aY(l:List Ent):Nat:=(l.map λx=>x.k.length+x.v.length+4).sum
theorem uU:∀(l:List Ent) (a:Key),(dT a l).length≤aY l
 |[],a=>by simp[dT,aY]
 |x::l,a=>by
  rw[dT,aT,lD]
  have:=uU l x.k
  simp only[aY,gA,kY]at this ⊢
  omega
theorem sc(a b:List Ent):aY (a++b)=aY a+aY b:=by simp[aY]
theorem iU(x:Ent)(l:List Ent):aY (x::l)=x.k.length+x.v.length+4+aY l:=by simp[aY]
theorem tm:∀(G:List (List Ent)),(∀g,g∈G→g≠[])→(aK G).length≤2*aY G.flatten
 |[],_=>by simp[aK]
 |es::G,h=>by
  have h1:=tm G λg hg=>h g (by simp[hg])
  have h2:(enc es).length≤aY es:=uU es []
  rw[show es::G=[es]++G from rfl,iC,aT,kL,fO,sc,show [es].flatten=es by simp]
  have h3:4≤aY es:=by
   cases es with
   |nil=>exact absurd rfl (h [] (by simp))
   |cons x l=>rw[iU];omega
  omega
theorem qA(block:Nat)(l:List Ent):(grp block l).length≤l.length:=by
 have h:∀(G:List (List Ent)),(∀g,g∈G→g≠[])→G.length≤G.flatten.length:=by
  intro G
  induction G with
  |nil=>intro _;simp
  |cons g G ih=>
   intro h
   have:=ih λg hg=>h g (by simp[hg])
   have hg:=kX.2 (h g (by simp))
   simp only[gw,bH,aT]
   omega
 have:=h (grp block l) λg hg=>mK hg
 rwa [iM]at this
theorem Ti(es:List Ent):(cQ es).length≤aY es:=by
 cases es with
 |nil=>simp[cQ]
 |cons x l=>rw[iU];simp only[cQ];omega
theorem zy:∀(G:List (List Ent)) (a:Nat),(∀g,g∈G→g≠[])→a+(aK G).length<18446744073709551616→aY G.flatten<18446744073709551616→(idx a G).length≤9*aY G.flatten
 |[],a,_,_,_=>by simp[idx]
 |es::G,a,h,ha,hs=>by
  rw[show es::G=[es]++G from rfl,iC,aT,kL]at ha
  simp only[gw,sc]at hs ⊢
  have h1:=zy G (a+(enc es).length+4) (λg hg=>h g (by simp[hg])) (by omega) (by omega)
  have h2:=Ti es
  have h3:(enc es).length≤aY es:=uU es []
  have v1:=fU (n:=(cQ es).length) (by omega)
  have v2:=fU (n:=a) (by omega)
  have v3:=fU (n:=(enc es).length) (by omega)
  have h4:4≤aY es:=by
   cases es with
   |nil=>exact absurd rfl (h [] (by simp))
   |cons x l=>rw[iU];omega
  rw[idx]
  simp only[aT]
  omega
theorem Nx{n k:Nat}{rest:List UInt8}:(⟨be k n++rest,0⟩:RS).raw k=(be k n,⟨rest,0⟩):=by
 rw[lP (by simp),mq (by simp),mg (by simp)]
theorem yt{n:Nat}(hn:n<18446744073709551616)(rest:List UInt8):(⟨vi n++rest,0⟩:RS).varint=(n,⟨rest,0⟩):=by
 have:=C1 rest n 0 0 (by simpa using hn) (by simp)
 unfold RS.varint
 rw[this]
 simp
theorem ud(s rest:List UInt8):(⟨s++rest,0⟩:RS).raw (s.length:Nat)=(s,⟨rest,0⟩):=by
 rw[lP (by simp)]
 simp
theorem Nz{s:List UInt8}(hs:s.length<18446744073709551616)(rest:List UInt8):(⟨vi s.length++s++rest,0⟩:RS).text=(s,⟨rest,0⟩):=by
 unfold RS.text
 rw[cM,yt hs]
 simp only
 rw[if_neg (by simp),if_neg (by simp),ud]
theorem Ny(c:UInt8)(rest:List UInt8):(⟨c::rest,0⟩:RS).raw 1=([c],⟨rest,0⟩):=ud [c] rest
def rdB:Nat→RS→Key→List Ent→Option (List Ent)
 |0,_,_,_=>none
 |m+1,st,ahead,acc=>if st.left=0 then some acc else
  let a:=st.raw 1
  let b:=a.2.raw 1
  let c:=b.2.raw 1
  let d:=c.2.raw 1
  if ahead.length<rdn a.1∨1<rdn c.1 then none else
   let e:=d.2.raw (rdn b.1)
   let f:=e.2.raw (rdn d.1)
   if f.2.err≠0 then none else rdB m f.2 (ahead.take (rdn a.1)++e.1) (acc++[⟨ahead.take (rdn a.1)++e.1,f.1,decide (rdn c.1=1)⟩])
theorem B0{n:Nat}(h:n<256):rdn [UInt8.ofNat n]=n:=by
 rw[B1]
 exact yf h
theorem IS:∀(l:List Ent) (m:Nat) (a:Key) (acc:List Ent),(∀x,x∈l→bE x=true)→(dT a l).length<m→rdB m ⟨dT a l,0⟩ a acc=some (acc++l)
 |[],m,a,acc,_,hm=>by
  cases m with
  |zero=>omega
  |succ m=>simp[rdB,dT,RS.left]
 |x::l,m,a,acc,hr,hm=>by
  cases m with
  |zero=>omega
  |succ m=>
   obtain ⟨r1,r2,r3,r4⟩:=(iu x).1 (hr x (by simp))
   obtain ⟨s1,s2,s3⟩:=tA a x.k
   rw[dT,aT,lD]at hm
   have hg:rdn [cI x.g]=if x.g=true then 1 else 0:=by
    rw[B1]
    unfold cI
    split <;> rfl
   have hkd:(x.k.drop (shd a x.k)).length=x.k.length-shd a x.k:=by simp
   have hl:(⟨dT a (x::l),0⟩:RS).left≠0:=by
    have:=yP (l:=x::l) (by simp) a
    unfold RS.left
    rw[if_neg (by simp)]
    simp only
    omega
   have hs:(⟨dT a (x::l),0⟩:RS)=⟨UInt8.ofNat (shd a x.k)::UInt8.ofNat (x.k.length-shd a x.k)::cI x.g::UInt8.ofNat x.v.length::(x.k.drop (shd a x.k)++(x.v++dT x.k l)),0⟩:=by
    rw[dT,eb];simp
   have h1:rdn [UInt8.ofNat (shd a x.k)]=shd a x.k:=B0 (by omega)
   have h2:rdn [UInt8.ofNat (x.k.length-shd a x.k)]=x.k.length-shd a x.k:=B0 (by omega)
   have h3:rdn [UInt8.ofNat x.v.length]=x.v.length:=B0 (by omega)
   rw[rdB,if_neg hl,hs]
   simp only[Ny,h1,h2,h3,hg]
   rw[if_neg (by
    intro q
    rcases q with q|q
    ·omega
    ·split at q <;> omega)]
   rw[←hkd,ud]
   simp only
   rw[ud]
   simp only
   rw[if_neg (by simp)]
   have eK:a.take (shd a x.k)++x.k.drop (shd a x.k)=x.k:=by rw[s3,fw]
   have hgd:decide ((if x.g=true then 1 else 0)=1)=x.g:=by cases x.g <;> rfl
   rw[eK,hgd,IS l m x.k _ (λy hy=>hr y (by simp[hy])) (by omega)]
   simp
def mZ(b:List UInt8)(at_:Nat):Nat→RS→List Ent→Option (List Ent)
 |0,_,l=>some l
 |m+1,st,l=>
  let t:=st.text
  let f:=t.2.varint
  let z:=f.2.varint
  if z.2.err≠0∨at_<f.1∨at_-f.1<z.1 then none else
   match rdB (z.1+1) ⟨(b.drop f.1).take z.1,0⟩ [] l with
   |none=>none
   |some l'=>mZ b at_ m z.2 l'
def prs(b:List UInt8):Option (List Ent×Nat×Nat):=
 if b.length<24 then none else
  let s0:RS:=⟨b.drop (b.length-24),0⟩
  let a:=s0.raw 4
  let c:=a.2.raw 4
  let d:=c.2.raw 4
  let e:=d.2.raw 4
  if b.length-24<rdn e.1 then none else
   match mZ b (rdn e.1) (min (rdn d.1) b.length) ⟨(b.take (b.length-24)).drop (rdn e.1),0⟩ [] with
   |none=>none
   |some l=>if l.length=rdn c.1 then some (l,rdn a.1,rdn d.1) else none
theorem I7(b:List UInt8)(at_:Nat)(hat:at_<18446744073709551616):∀(G:List (List Ent)) (pre:List UInt8) (acc:List Ent) (m:Nat) (post:List UInt8),b=pre++aK G++post→pre.length+(aK G).length≤at_→m=G.length→(∀g,g∈G→∀x,x∈g→bE x=true)→
  mZ b at_ m ⟨idx pre.length G,0⟩ acc=some (acc++G.flatten)
 |[],pre,acc,m,post,hb,ha,hm,hr=>by
  subst hm
  simp[mZ]
 |es::G,pre,acc,m,post,hb,ha,hm,hr=>by
  subst hm
  have hob:aK (es::G)=enc es++be 4 (bS (enc es))++aK G:=by
   rw[show es::G=[es]++G from rfl,iC,tn]
  have hol:(aK (es::G)).length=(enc es).length+4+(aK G).length:=by rw[hob];simp;omega
  rw[hol]at ha
  have hfk:(cQ es).length<18446744073709551616:=by
   cases es with
   |nil=>simp[cQ]
   |cons x l=>
    have:=(iu x).1 (hr (x::l) (by simp) x (by simp))
    simp only[cQ]
    omega
  rw[bH,mZ,idx]
  have h1:(⟨vi (cQ es).length++cQ es++(vi pre.length++vi (enc es).length)++idx (pre.length+(enc es).length+4) G,0⟩:RS).text=(cQ es,⟨vi pre.length++(vi (enc es).length++idx (pre.length+(enc es).length+4) G),0⟩):=by
   have:=Nz hfk (vi pre.length++(vi (enc es).length++idx (pre.length+(enc es).length+4) G))
   simpa using this
  simp only[h1,yt (show pre.length<18446744073709551616 by omega),yt (show (enc es).length<18446744073709551616 by omega)]
  rw[if_neg (by
   intro q
   rcases q with q|q|q
   ·simp at q
   ·omega
   ·omega)]
  have hbd:(b.drop pre.length).take (enc es).length=enc es:=by
   rw[hb,hob,cM,mg rfl,cM,cM,mq rfl]
  rw[hbd,IS es _ [] acc (hr es (by simp)) (Nat.lt_succ_self _)]
  simp only
  have hp:pre.length+(enc es).length+4=(pre++(enc es++be 4 (bS (enc es)))).length:=by simp;omega
  rw[hp,I7 b at_ hat G _ _ _ post (by rw[hb,hob];simp) (by simp;omega) rfl λg hg=>hr g (by simp[hg])]
  simp
theorem Zr{block:Nat}{l:List Ent}(hb:block<4294967296)(hr:∀x,x∈l→bE x=true)(hl:l.length<4294967296)(ho:(aK (grp block l)).length<4294967296):prs (bld block l)=some (l,block,(grp block l).length):=by
 have hlen:=nH block l
 have hgl:=qA block l
 have hne:∀g,g∈grp block l→g≠[]:=λg hg=>mK hg
 have hrg:∀g,g∈grp block l→∀x,x∈g→bE x=true:=λg hg x hx=>hr x (by
  have:x∈(grp block l).flatten:=ib.2 ⟨g,hg,hx⟩
  rwa [iM]at this)
 have hgo:(grp block l).length≤(aK (grp block l)).length:=by
  have:∀G:List (List Ent),G.length≤(aK G).length:=by
   intro G
   induction G with
   |nil=>simp
   |cons g G ih=>rw[show g::G=[g]++G from rfl,iC,aT,aT,kL];simp;omega
  exact this _
 generalize hG:grp block l=G at *
 have e1:bld block l=(aK G++idx 0 G)++(ij block l.length G.length (aK G).length++(be 4 (bS (dE block l))++eJ)):=by
  rw[bld,dE,hG];simp
 have hL:(aK G++idx 0 G).length=(bld block l).length-24:=by rw[hlen];simp
 have hd:(bld block l).drop ((bld block l).length-24)=ij block l.length G.length (aK G).length++(be 4 (bS (dE block l))++eJ):=by
  conv=>lhs;arg 2;rw[e1]
  exact mg hL
 have ht:(bld block l).take ((bld block l).length-24)=aK G++idx 0 G:=by
  conv=>lhs;arg 2;rw[e1]
  exact mq hL
 have h4:∀n,n<4294967296→rdn (be 4 n)=n:=λn hn=>by rw[tw,fz (by omega)]
 rw[prs,if_neg (by omega)]
 simp only[hd,ht,ij,cM]
 rw[show ((4:Int))=((4:Nat):Int) from rfl]
 simp only[Nx,h4 block hb,h4 l.length hl,h4 G.length (by omega),h4 (aK G).length ho]
 have hmin:min G.length (bld block l).length=G.length:=kx (by rw[hlen];omega)
 rw[if_neg (by rw[hlen];omega),mg rfl,hmin]
 have:=I7 (bld block l) (aK G).length (by omega) G [] [] G.length (idx 0 G++(ij block l.length G.length (aK G).length++(be 4 (bS (dE block l))++eJ))) (by rw[e1];simp) (by simp) rfl hrg
 rw[cS]at this
 rw[this]
 have hfl:G.flatten=l:=by rw[←hG];exact iM block l
 simp[hfl]
