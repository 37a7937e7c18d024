/- Levels, plain: what they are, what calls make of them, what is told of them. -/
import Derived.Test.YtfmoemconapmhaaGreatExq
import Derived.Test.YtfmoemconapmhaaGreatGlev
set_option linter.all false
namespace Go.Proofs.YtfmoemconapmhaaGreat.Ah
open Go
abbrev fe(l:List Ent):Prop:=l.Pairwise λx y=>blt x.k y.k=true
theorem LJ{l:List Ent}(s:fe l){x y:Ent}(hx:x∈l)(hy:y∈l)(e:x.k=y.k):x=y:=LQ s x y hx hy e
theorem sw{l:List Ent}(s:fe l)(k:Key)(x:Ent):cC l k=some x↔x∈l∧x.k=k:=by
 constructor
 ·exact gY
 ·rintro ⟨hx,rfl⟩
  exact zp s hx
theorem adf{a b:List Ent}(ha:fe a)(hb:fe b)(h:∀y,y∈a↔y∈b):a=b:=by
 have i1:IsM [kl a] (kl a):=⟨jm ha,λx hx=>⟨0,kl a,rfl,hx,λm l' hm=>by omega⟩,λm l' y hm hy=>by
  match m,hm with
  |0,hm=>simp at hm;subst hm;exact ⟨y,hy,rfl⟩
  |n+1,hm=>simp at hm⟩
 have km:∀(l:List Ent) (x:Itm),x∈kl l↔∃y,y∈l∧(y.k,y)=x:=by intro l x;unfold kl;rw[eB]
 have i2:IsM [kl a] (kl b):=⟨jm hb,λx hx=>by
  obtain ⟨y,hy,e⟩:=(km b x).1 hx
  exact ⟨0,kl a,rfl,(km a x).2 ⟨y,(h y).2 hy,e⟩,λm l' hm=>by omega⟩,λm l' y hm hy=>by
  match m,hm with
  |0,hm=>
   simp at hm;subst hm
   obtain ⟨z,hz,e⟩:=(km a y).1 hy
   exact ⟨y,(km b y).2 ⟨z,(h z).1 hz,e⟩,rfl⟩
  |n+1,hm=>simp at hm⟩
 exact GE (IsM.uniq (λl hl=>by simp at hl;subst hl;exact jm ha) i1 i2)
theorem adg{a b:List Ent}(ha:fe a)(hb:fe b)(h:∀k,cC a k=cC b k):a=b:=by
 refine adf ha hb λy=>?_
 constructor
 ·intro hy
  have:=zp ha hy
  rw[h]at this
  exact (gY this).1
 ·intro hy
  have:=zp hb hy
  rw[←h]at this
  exact (gY this).1
def look(ls:List (List Ent))(k:Key):Option Ent:=ls.findSome? λl=>cC l k
theorem Ig(k:Key):look [] k=none:=rfl
theorem qE(l:List Ent)(ls:List (List Ent))(k:Key):look (l::ls) k=(cC l k).or (look ls k):=by
 unfold look
 rw[List.findSome?_cons]
 cases cC l k <;> rfl
theorem sM(a b:List (List Ent))(k:Key):look (a++b) k=(look a k).or (look b k):=by
 unfold look
 rw[List.findSome?_append]
theorem V0{a b:List Ent}(hb:fe b)(ha:fe a)(k:Key):cC (iX b a) k=(cC a k).or (cC b k):=by
 have hs:=wP a b hb
 have hm:=Bv a b hb ha
 cases ea:cC a k with
 |some x=>
  obtain ⟨h1,h2⟩:=gY ea
  simp only[Option.some_or]
  exact (sw hs k x).2 ⟨(hm x).2 (.inl h1),h2⟩
 |none=>
  have hn:=qw ea
  simp only[Option.none_or]
  cases eb:cC b k with
  |some x=>
   obtain ⟨h1,h2⟩:=gY eb
   exact (sw hs k x).2 ⟨(hm x).2 (.inr ⟨h1,λz hz e=>hn z hz (e.symm.trans h2)⟩),h2⟩
  |none=>
   have hn2:=qw eb
   cases ec:cC (iX b a) k with
   |none=>rfl
   |some x=>
    obtain ⟨h1,h2⟩:=gY ec
    rcases (hm x).1 h1 with h3|⟨h3,-⟩
    ·exact absurd h2 (hn x h3)
    ·exact absurd h2 (hn2 x h3)
theorem mY:∀ls:List (List Ent),fe (dZ ls)
 |[]=>.nil
 |l::ls=>wP l _ (mY ls)
theorem sy:∀(ls:List (List Ent)),(∀l,l∈ls→fe l)→∀k,cC (dZ ls) k=look ls k
 |[],_,k=>rfl
 |l::ls,h,k=>by
  rw[dZ,V0 (mY ls) (h l (by simp)),sy ls (λm hm=>h m (by simp[hm])),qE]
theorem za{l:List Ent}(h:fe l)(dr:Bool):fe (flt dr l):=h.filter _
theorem Vz{l:List Ent}(h:fe l)(dr:Bool)(k:Key):cC (flt dr l) k=(cC l k).filter λx=>!dr||!x.g:=by
 have hf:=za h dr
 cases e:cC l k with
 |none=>
  have hn:=qw e
  cases e2:cC (flt dr l) k with
  |none=>rfl
  |some x=>
   obtain ⟨h1,h2⟩:=gY e2
   exact absurd h2 (hn x (kv.1 h1).1)
 |some x=>
  obtain ⟨h1,h2⟩:=gY e
  rw[Option.filter_some]
  split
  ·rename_i hp
   exact (sw hf k x).2 ⟨kv.2 ⟨h1,hp⟩,h2⟩
  ·rename_i hp
   cases e2:cC (flt dr l) k with
   |none=>rfl
   |some y=>
    obtain ⟨h3,h4⟩:=gY e2
    obtain ⟨h5,h6⟩:=kv.1 h3
    have:=LJ h h5 h1 (h4.trans h2.symm)
    subst this
    exact absurd h6 hp
structure LS where
 bl:Nat
 fan:Nat
 top:Nat
 mem:List Ent
 lv:List (List (List Ent))
def dO(b f t:Int):Bool:=decide (256≤b)&&decide (b≤4096)&&decide (2≤f)&&decide (f≤16)&&decide (1≤t)&&decide (t≤4096)
def cW(b f t:Nat):LS:=⟨b,f,t,[],List.replicate 16 []⟩
def LS.lists(s:LS):List (List Ent):=s.mem::s.lv.flatten
def LS.view(s:LS):List Ent:=flt true (dZ s.lists)
def LS.flush(s:LS):LS:=if s.mem=[] then s else { s with mem:=[],lv:=s.lv.set 0 (s.mem::s.lv.getD 0 []) }
def LS.put(s:LS)(x:Ent):LS:=if s.top≤(cP s.mem x).length then { s with mem:=cP s.mem x:LS }.flush else { s with mem:=cP s.mem x }
def jS(lv:List (List (List Ent)))(n:Nat):Bool:=(lv.drop (n+1)).any λr=>decide (r≠[])
def fS(lv:List (List (List Ent)))(fan:Nat):Option Nat:=lv.findIdx? λr=>decide (fan≤r.length)
def eW(lv:List (List (List Ent)))(n:Nat):List Ent:=flt (!jS lv n) (dZ (lv.getD n []))
def fK(lv:List (List (List Ent)))(n:Nat):List (List (List Ent)):=
 if eW lv n=[] then lv.set n [] else (lv.set n []).set (min (n+1) 15) (eW lv n::(lv.set n []).getD (min (n+1) 15) [])
def LS.step(s:LS):LS:=match fS s.lv s.fan with
 |none=>s
 |some n=>{ s with lv:=fK s.lv n }
def aW{α:Type}:List (List α)→Nat
 |[]=>0
 |r::t=>if aW t≠0 then aW t+1 else if r≠[] then 1 else 0
def bY(lv:List (List (List Ent))):List Nat:=(lv.map List.length).take (aW lv)
structure LOk(s:LS)(W:Nat):Prop where
 right:dO s.bl s.fan s.top=true
 len:s.lv.length=16
 msrt:fe s.mem
 mright:∀x,x∈s.mem→bE x=true
 mtop:s.mem.length<s.top
 rok:∀r,r∈s.lv→∀l,l∈r→ff l=true∧l≠[]
 size:aY s.mem+(s.lv.flatten.map aY).sum≤W
theorem pC(b f t:Int):dO b f t=true↔256≤b∧b≤4096∧2≤f∧f≤16∧1≤t∧t≤4096:=by
 unfold dO
 simp[and_assoc]
theorem LOk.lsrt{s:LS}{W:Nat}(o:LOk s W):∀l,l∈s.lists→fe l:=by
 intro l hl
 rcases bB.1 hl with e|hl
 ·rw[e];exact o.msrt
 ·obtain ⟨r,hr,hl⟩:=ib.1 hl
  exact (rK (o.rok r hr l hl).1).1
theorem LOk.num{s:LS}{W:Nat}(o:LOk s W):256≤s.bl∧s.bl≤4096∧2≤s.fan∧s.fan≤16∧1≤s.top∧s.top≤4096:=by
 have:=(pC _ _ _).1 o.right
 omega
theorem Ix{b f t:Nat}(h:dO b f t=true)(W:Nat):LOk (cW b f t) W:=by
 have:=(pC _ _ _).1 h
 refine ⟨h,by simp[cW],.nil,by simp[cW],by simp only[cW,cS];omega,λr hr=>?_,by simp[cW,aY]⟩
 have:=pX hr
 subst this
 simp
def LS.val(s:LS)(k:Key):Option Ent:=(look s.lists k).filter λx=>!x.g
theorem V1{s:LS}{W:Nat}(o:LOk s W)(k:Key):cC s.view k=s.val k:=by
 unfold LS.view LS.val
 rw[Vz (mY _),sy _ o.lsrt]
 rfl
theorem aef(s:LS):fe s.view:=za (mY _) _
theorem Ft{a b:List Ent}(h:a.Sublist b):aY a≤aY b:=by
 induction h with
 |slnil=>simp
 |cons x _ ih=>rw[iU];omega
 |cons_cons x _ ih=>rw[iU,iU];omega
theorem yS(l:List Ent)(x:Ent):aY (cP l x)≤aY l+(x.k.length+x.v.length+4):=by
 unfold cP
 rw[sc,iU]
 have h1:aY (l.take (fE l x.k))+aY (l.drop (fE l x.k))=aY l:=by rw[←sc,fw]
 have h2:aY (l.drop (if eG (kl l) x.k=true then fE l x.k+1 else fE l x.k))≤aY (l.drop (fE l x.k)):=by
  split
  ·rw[show l.drop (fE l x.k+1)=(l.drop (fE l x.k)).drop 1 by rw[mf]]
   exact Ft (List.drop_sublist _ _)
  ·exact bF _
 omega
theorem Fs:∀(es l:List Ent),aY (iX l es)≤aY l+aY es
 |[],l=>by simp[iX,aY]
 |x::es,l=>by
  have h1:=Fs es (cP l x)
  have h2:=yS l x
  rw[show iX l (x::es)=iX (cP l x) es from rfl,iU]
  omega
theorem sd:∀ls:List (List Ent),aY (dZ ls)≤(ls.map aY).sum
 |[]=>by simp[dZ,aY]
 |l::ls=>by
  have h1:=Fs l (dZ ls)
  have h2:=sd ls
  simp only[dZ,gA,kY]
  omega
theorem Fp(dr:Bool)(l:List Ent):aY (flt dr l)≤aY l:=Ft List.filter_sublist
theorem CE{l:List Ent}{x y:Ent}(h:y∈cP l x):y=x∨y∈l:=by
 unfold cP at h
 rcases aS.1 h with h|h
 ·exact .inr (jb h)
 ·rcases bB.1 h with h|h
  ·exact .inl h
  ·exact .inr (jJ h)
theorem ID:∀{es l:List Ent} {y:Ent},y∈iX l es→y∈es∨y∈l
 |[],l,y,h=>.inr h
 |x::es,l,y,h=>by
  rcases ID (es:=es) (l:=cP l x) h with h|h
  ·exact .inl (mh _ h)
  ·rcases CE h with h|h
   ·exact .inl (by rw[h];simp)
   ·exact .inr h
theorem I2:∀{ls:List (List Ent)} {y:Ent},y∈dZ ls→∃l,l∈ls∧y∈l
 |[],y,h=>by simp[dZ]at h
 |l::ls,y,h=>by
  rcases ID h with h|h
  ·exact ⟨l,by simp,h⟩
  ·obtain ⟨m,h1,h2⟩:=I2 h
   exact ⟨m,by simp[h1],h2⟩
theorem rJ{l:List Ent}(h:∀x,x∈l→bE x=true)(s:fe l):ff l=true:=Q0 h s (by simp)
theorem uh{l:List Ent}(h:ff l=true):fe l:=(rK h).1
theorem yz{l:List Ent}(h:ff l=true):∀x,x∈l→bE x=true:=qt h
theorem In{ls:List (List Ent)}(dr:Bool)(h:∀l,l∈ls→ff l=true):ff (flt dr (dZ ls))=true:=by
 refine rJ (λx hx=>?_) (za (mY _) _)
 obtain ⟨l,h1,h2⟩:=I2 (kv.1 hx).1
 exact yz (h l h1) x h2
theorem Ie(s:LS):s.flush.bl=s.bl∧s.flush.fan=s.fan∧s.flush.top=s.top:=by
 unfold LS.flush
 split <;> exact ⟨rfl,rfl,rfl⟩
theorem If{s:LS}{W:Nat}(hr:dO s.bl s.fan s.top=true)(hl:s.lv.length=16)(ms:fe s.mem)(mr:∀x,x∈s.mem→bE x=true)(rk:∀r,r∈s.lv→∀l,l∈r→ff l=true∧l≠[])(sz:aY s.mem+(s.lv.flatten.map aY).sum≤W)(hm:s.mem≠[]):LOk s.flush W:=by
 have:=(pC _ _ _).1 hr
 unfold LS.flush
 rw[if_neg hm]
 refine ⟨hr,by simpa using hl,.nil,by simp,by simp only[cS];omega,λr hr'=>?_,?_⟩
 ·rcases List.mem_or_eq_of_mem_set hr' with h|h
  ·exact rk r h
  ·subst h
   intro l hl'
   rcases bB.1 hl' with e|hl'
   ·subst e;exact ⟨rJ mr ms,hm⟩
   ·have:s.lv.getD 0 []∈s.lv:=by
     rw[cR,bW (by omega)]
     exact jw _
    exact rk _ this l hl'
 ·obtain ⟨a,t,e⟩:∃a t,s.lv=a::t:=by
   cases h:s.lv with
   |nil=>rw[h]at hl;simp at hl
   |cons a t=>exact ⟨a,t,rfl⟩
  rw[e]at sz ⊢
  simp[aY]at sz ⊢
  simp[aY,kw]at sz ⊢
  omega
theorem Yh{s:LS}{W:Nat}(o:LOk s W):LOk s.flush W:=by
 by_cases hm:s.mem=[]
 ·have:s.flush=s:=if_pos hm
  rw[this];exact o
 ·exact If o.right o.len o.msrt o.mright o.rok o.size hm
theorem aei(l:List Ent)(x:Ent):cP l x≠[]:=by
 unfold cP
 simp
theorem zW(s:LS)(x:Ent):(s.put x).bl=s.bl∧(s.put x).fan=s.fan∧(s.put x).top=s.top:=by
 unfold LS.put
 split
 ·exact Ie _
 ·exact ⟨rfl,rfl,rfl⟩
theorem qF{s:LS}{W:Nat}(o:LOk s W){x:Ent}(hx:bE x=true):LOk (s.put x) (W+(x.k.length+x.v.length+4)):=by
 have h1:=yS s.mem x
 have sz:=o.size
 have mr:∀y,y∈cP s.mem x→bE y=true:=λy hy=>by
  rcases CE hy with e|h
  ·rw[e];exact hx
  ·exact o.mright y h
 unfold LS.put
 split
 ·exact If (s:={ s with mem:=cP s.mem x }) o.right o.len (ra o.msrt x) mr o.rok (by show aY (cP s.mem x)+_≤_;simp only;omega) (aei _ _)
 ·rename_i h
  exact ⟨o.right,o.len,ra o.msrt x,mr,by simp only;omega,o.rok,by simp only;omega⟩
theorem zo{lv:List (List (List Ent))}{fan n:Nat}(h:fS lv fan=some n):∃r,lv[n]?=some r∧fan≤r.length:=by
 obtain ⟨h1,h2,-⟩:=List.findIdx?_eq_some_iff_getElem.1 h
 exact ⟨lv[n],by simp[h1],by simpa using h2⟩
theorem C4{α:Type}{lv:List α}{n:Nat}{r:α}(h:lv[n]?=some r):lv=lv.take n++r::lv.drop (n+1):=by
 obtain ⟨h1,h2⟩:=cB.1 h
 have:=jI h1
 rw[h2]at this
 rw[←this,fw]
theorem Yr{lv:List (List (List Ent))}{n:Nat}{r:List (List Ent)}(hl:lv.length=16)(h:lv[n]?=some r):
  (fK lv n).flatten=(lv.take n).flatten++(if eW lv n=[] then [] else [eW lv n])++(lv.drop (n+1)).flatten:=by
 obtain ⟨h1,-⟩:=cB.1 h
 have e1:lv.set n []=lv.take n++[]::lv.drop (n+1):=by rw[ya,if_pos h1]
 have e2:(lv.set n []).flatten=(lv.take n).flatten++(lv.drop (n+1)).flatten:=by rw[e1];simp
 unfold fK
 split
 ·rw[e2];simp
 ·by_cases hn:n=15
  ·subst hn
   have hd:lv.drop 16=[]:=List.drop_eq_nil_of_le (by omega)
   have e3:(lv.set 15 []).set (min (15+1) 15) (eW lv 15::(lv.set 15 []).getD (min (15+1) 15) [])=lv.take 15++[[eW lv 15]]:=by
    rw[show min (15+1) 15=15 from rfl,List.set_set]
    have:(lv.set 15 []).getD 15 []=[]:=by rw[cR,tO];simp[hl]
    rw[this,ya,if_pos (by omega),hd]
   rw[e3,hd]
   simp
  ·have hm:min (n+1) 15=n+1:=by omega
   rw[hm]
   obtain ⟨b,t,e3⟩:∃b t,lv.drop (n+1)=b::t:=by
    cases hq:lv.drop (n+1) with
    |nil=>have:=congrArg List.length hq;simp at this;omega
    |cons b t=>exact ⟨b,t,rfl⟩
   have htl:(lv.take n).length=n:=by simp;omega
   have e4:(lv.set n []).getD (n+1) []=b:=by
    rw[e1,e3,cR,i6 (by omega),htl,show n+1-n=1 by omega]
    rfl
   have e5:(lv.set n []).set (n+1) (eW lv n::b)=lv.take n++[]::(eW lv n::b)::t:=by
    rw[e1,e3,xZ _ _ (by omega),htl,show n+1-n=1 by omega]
    rfl
   rw[e4,e5,e3]
   simp
theorem Ys(lv:List (List (List Ent)))(n:Nat):(fK lv n).length=lv.length:=by
 unfold fK
 split <;> simp
theorem getD_some{α:Type}{l:List α}{n:Nat}{x d:α}(h:l[n]?=some x):l.getD n d=x:=by rw[cR,h];rfl
theorem Yq{s:LS}{W:Nat}(o:LOk s W):LOk s.step W:=by
 unfold LS.step
 cases hf:fS s.lv s.fan with
 |none=>exact o
 |some n=>
  obtain ⟨r,hr,hrl⟩:=zo hf
  have hrm:r∈s.lv:=cK hr
  have hfl:=Yr o.len hr
  have hmc:ff (eW s.lv n)=true:=by
   unfold eW
   rw[getD_some hr]
   exact In _ λl hl=>(o.rok r hrm l hl).1
  have hms:aY (eW s.lv n)≤(r.map aY).sum:=by
   unfold eW
   rw[getD_some hr]
   exact cY (Fp _ _) (sd _)
  have sz:=o.size
  rw[C4 hr]at sz
  refine ⟨o.right,by show (fK s.lv n).length=16;rw[Ys,o.len],o.msrt,o.mright,o.mtop,λq hq l hl=>?_,?_⟩
  ·have:l∈(fK s.lv n).flatten:=ib.2 ⟨q,hq,hl⟩
   rw[hfl]at this
   rcases aS.1 this with h|h
   ·rcases aS.1 h with h|h
    ·obtain ⟨q',h1,h2⟩:=ib.1 h
     exact o.rok q' (jb h1) l h2
    ·split at h
     ·simp at h
     ·rename_i hne
      simp at h
      subst h
      exact ⟨hmc,hne⟩
   ·obtain ⟨q',h1,h2⟩:=ib.1 h
    exact o.rok q' (jJ h1) l h2
  ·show aY s.mem+((fK s.lv n).flatten.map aY).sum≤W
   rw[hfl]
   simp only[fO,gw,eI,List.sum_append]at sz ⊢
   have:((if eW s.lv n=[] then [] else [eW s.lv n]).map aY).sum≤(r.map aY).sum:=by
    split
    ·simp
    ·simpa using hms
   omega
theorem Yp(s:LS):s.step.bl=s.bl∧s.step.fan=s.fan∧s.step.top=s.top:=by
 unfold LS.step
 split <;> exact ⟨rfl,rfl,rfl⟩
def pot:Nat→List (List (List Ent))→Nat
 |_,[]=>0
 |m,r::t=>m*r.length+pot (m-1) t
section
variable {w0:World}{h h':Hp}
def Rb(w0:World)(h:Hp)(r:Value)(l:List Ent)(bl:Nat)(S:List Nat):Prop:=
 ∃n S1 p y c1 c2 Sy,Rn w0 h r l n S1∧r=ptr p∧p∈S1∧h.blk p=some [y,c1,c2]∧Vec w0 h 1 y (aX (bl:Int) l).length (bvs (aX (bl:Int) l)) Sy∧S=S1++Sy∧aY l≤1048576∧dH (bl:Int) l=0
theorem Rb.lt{r:Value}{l:List Ent}{bl:Nat}{S:List Nat}(m:Rb w0 h r l bl S):∀b,b∈S→w0.heap.size≤b∧b<h.next:=by
 obtain ⟨n,S1,p,y,c1,c2,Sy,a1,a2,a3,a4,a5,a6,a7⟩:=m
 subst a6
 intro b hb
 rcases aS.1 hb with hb|hb
 ·exact a1.lt b hb
 ·exact a5.lt b hb
theorem Rb.frame{r:Value}{l:List Ent}{bl:Nat}{S T T':List Nat}(m:Rb w0 h r l bl S)(st:Step h h' T T')(hd:∀b,b∈S→b∉T):Rb w0 h' r l bl S:=by
 obtain ⟨n,S1,p,y,c1,c2,Sy,a1,a2,a3,a4,a5,a6,a7⟩:=m
 subst a6
 exact ⟨n,S1,p,y,c1,c2,Sy,a1.frame st λb hb=>hd b (by simp[hb]),a2,a3,by rw[(st.keep p (a1.lt p a3).2 (hd p (by simp[a3]))).1];exact a4,a5.frame st λb hb=>hd b (by simp[hb]),rfl,a7⟩
theorem Rb.rn{r:Value}{l:List Ent}{bl:Nat}{S:List Nat}(m:Rb w0 h r l bl S):∃n S1,Rn w0 h r l n S1∧∀b,b∈S1→b∈S:=by
 obtain ⟨n,S1,p,y,c1,c2,Sy,a1,a2,a3,a4,a5,a6,a7⟩:=m
 exact ⟨n,S1,a1,λb hb=>by rw[a6];simp[hb]⟩
theorem Rb.isC{r:Value}{l:List Ent}{bl:Nat}{S:List Nat}(m:Rb w0 h r l bl S):aE r=true:=by
 obtain ⟨n,S1,p,y,c1,c2,Sy,a1,a2,-⟩:=m
 rw[a2];rfl
def Lvl(w0:World)(h:Hp)(A:List Nat)(bl:Nat)(v:Value)(ls:List (List Ent)):Prop:=
 ∃ps:List (Value×List Ent),ls=ps.map (·.2)∧Sl w0 h 1 v ps.length (ps.map (·.1))∧(∀b,b∈bL v→b∈A)∧∀p:Value×List Ent,p∈ps→∃S,Rb w0 h p.1 p.2 bl S∧∀b,b∈S→b∈A
theorem Lvl.nil(A:List Nat)(bl:Nat):Lvl w0 h A bl (.slice none 0 0) []:=⟨[],rfl,.nil,by simp[bL],by simp⟩
theorem Lvl.frame{A:List Nat}{bl:Nat}{v:Value}{ls:List (List Ent)}(m:Lvl w0 h A bl v ls)(hA:∀b,b∈A→b<h.next){T T':List Nat}(st:Step h h' T T')(hd:∀b,b∈A→b∉T):Lvl w0 h' A bl v ls:=by
 obtain ⟨ps,e,a,b,c⟩:=m
 refine ⟨ps,e,a.stepL (λx hx=>hA x (b x hx)) st λx hx=>hd x (b x hx),b,λp hp=>?_⟩
 obtain ⟨S,r,hS⟩:=c p hp
 exact ⟨S,r.frame st λx hx=>hd x (hS x hx),hS⟩
theorem Lvl.more{A A':List Nat}{bl:Nat}{v:Value}{ls:List (List Ent)}(m:Lvl w0 h A bl v ls)(hA:∀b,b∈A→b∈A'):Lvl w0 h A' bl v ls:=by
 obtain ⟨ps,e,a,b,c⟩:=m
 refine ⟨ps,e,a,λx hx=>hA x (b x hx),λp hp=>?_⟩
 obtain ⟨S,r,hS⟩:=c p hp
 exact ⟨S,r,λx hx=>hA x (hS x hx)⟩
theorem Lvl.isC{A:List Nat}{bl:Nat}{v:Value}{ls:List (List Ent)}(m:Lvl w0 h A bl v ls):aE v=true:=by
 obtain ⟨ps,e,a,b,c⟩:=m
 exact a.isC
theorem Lvl.lenv{A:List Nat}{bl:Nat}{v:Value}{ls:List (List Ent)}(m:Lvl w0 h A bl v ls):aM v=some (.int .i64 (ls.length:Int)):=by
 obtain ⟨ps,e,a,b,c⟩:=m
 rw[a.lenv,e,eA]
def aN(s:LS):List Value:=[.int .i64 (s.bl:Int),.int .i64 (s.fan:Int),.int .i64 (s.top:Int)]
def Lv(w0:World)(h:Hp)(r:Value)(s:LS)(S A:List Nat):Prop:=
 ∃q mp M sls,r=ptr q∧h.blk q=some (aN s++mp::sls)∧sls.length=16∧Me w0 h mp s.mem M∧S=q::M∧q∉M∧w0.heap.size≤q∧q<h.next∧(∀b,b∈A→b<h.next)∧(∀b,b∈S→b∉A)∧s.lv.length=16∧
  ∀(i:Nat) v,sls[i]?=some v→Lvl w0 h A s.bl v (s.lv.getD i [])
theorem Lv.nj{r:Value}{s:LS}{S A:List Nat}(m:Lv w0 h r s S A):r≠junk:=by obtain ⟨q,-,-,-,e,-⟩:=m;subst e;simp[ptr,junk]
theorem Lv.isC{r:Value}{s:LS}{S A:List Nat}(m:Lv w0 h r s S A):aE r=true:=by obtain ⟨q,-,-,-,e,-⟩:=m;subst e;rfl
theorem Lv.lt{r:Value}{s:LS}{S A:List Nat}(m:Lv w0 h r s S A):∀b,b∈S→w0.heap.size≤b∧b<h.next:=by
 obtain ⟨q,mp,M,sls,a1,a2,a3,a4,a5,a6,a7,a8,a9⟩:=m
 subst a5
 intro b hb
 rcases bB.1 hb with rfl|hb
 ·exact ⟨a7,a8⟩
 ·exact a4.lt b hb
theorem Lv.ltA{r:Value}{s:LS}{S A:List Nat}(m:Lv w0 h r s S A):∀b,b∈A→b<h.next:=by
 obtain ⟨q,mp,M,sls,a1,a2,a3,a4,a5,a6,a7,a8,a9,-⟩:=m
 exact a9
theorem Lv.dis{r:Value}{s:LS}{S A:List Nat}(m:Lv w0 h r s S A):∀b,b∈S→b∉A:=by
 obtain ⟨q,mp,M,sls,a1,a2,a3,a4,a5,a6,a7,a8,a9,b1,-⟩:=m
 exact b1
theorem Lv.frame{r:Value}{s:LS}{S A T T':List Nat}(m:Lv w0 h r s S A)(st:Step h h' T T')(hd:∀b,b∈S→b∉T)(hA:∀b,b∈A→b∉T):Lv w0 h' r s S A:=by
 obtain ⟨q,mp,M,sls,a1,a2,a3,a4,a5,a6,a7,a8,a9,b1,b2,b3⟩:=m
 subst a5
 exact ⟨q,mp,M,sls,a1,by rw[(st.keep q a8 (hd q (by simp))).1];exact a2,a3,a4.frame st (λb hb=>hd b (by simp[hb])),rfl,a6,a7,cJ a8 st.1,λb hb=>cJ (a9 b hb) st.1,b1,b2,
  λi v hi=>(b3 i v hi).frame a9 st hA⟩
theorem Lv.step0{r:Value}{s:LS}{S A T':List Nat}(m:Lv w0 h r s S A)(st:Step h h' [] T'):Lv w0 h' r s S A:=m.frame st (by simp) (by simp)
def zL:List Value:=[.int .i64 0,.int .i64 0,.int .i64 0,.pointer none]++List.replicate 16 (.slice none 0 0)
def Lno(w0:World)(h:Hp)(r:Value):Prop:=r=.pointer none∨∃p,r=ptr p∧w0.heap.size≤p∧p<h.next∧h.blk p=some zL
theorem Lno.step{r:Value}(m:Lno w0 h r)(st:Step h h' [] []):Lno w0 h' r:=by
 rcases m with m|⟨p,a,b,c,d⟩
 ·exact .inl m
 ·exact .inr ⟨p,a,b,cJ c st.1,by rw[(st.keep p c (by simp)).1];exact d⟩
theorem Lno.nj{r:Value}(m:Lno w0 h r):r≠junk:=by
 rcases m with m|⟨p,a,b,c,d⟩ <;> subst r <;> simp[ptr,junk]
theorem lc{r:Value}{s:LS}{S A:List Nat}(m:Lv w0 h r s S A):aj prog w0 jZ [r] h λv h'=>v=.bool true∧h'=h:=by
 refine aj.of_fit (by simpa using m.nj) λf=>Pw (by simpa using m.nj) ?_
 obtain ⟨q,mp,M,sls,a1,a2,a3,a4,a5,a6,a7,a8,a9⟩:=m
 subst a1
 have c0:cN .neq (.pointer (some ⟨q,0,none⟩)) (.pointer none)=some (.bool true):=rfl
 obtain ⟨p,-,-,e,-⟩:=a4
 subst e
 have c1:cN .neq (.pointer (some ⟨p,0,none⟩)) (.pointer none)=some (.bool true):=rfl
 simp only[Kv,ptr,c0,wd, wa]
 refine aq a7 a2 rfl ?_
 simp only[ptr,c1,wd, wa,aC,aU]
 exact ⟨by simp,trivial,trivial⟩
def eZ(b f t:Int):Value:=.agg #[.int .i64 b,.int .i64 f,.int .i64 t]
theorem iJ{e:List Value}{n:Nat}{K:av}(hk:K (.pointer (some ⟨h.next,0,none⟩)) (h.new e n)):cF true n (.agg e.toArray) K h:=by
 rw[iT]
 exact hk
theorem Il(b f t:Int):aj prog w0 AI [eZ b f t] h λr h'=>r=.bool (dO b f t)∧Step h h' [] []:=by
 refine aj.of_fit (by simp[eZ]) λfi=>P2 (by simp[eZ]) ?_
 have fb:=fi.base
 simp only[Kz,eZ]
 refine iJ (e:=[.int .i64 b,.int .i64 f,.int .i64 t]) ?_
 have s1:Step h (h.new [.int .i64 b,.int .i64 f,.int .i64 t] 3) [] []:=((Step.refl h [] (by simp)).new _ _).less (by simp)
 have b1:(h.new [.int .i64 b,.int .i64 f,.int .i64 t] 3).blk h.next=some [.int .i64 b,.int .i64 f,.int .i64 t]:=by simp
 generalize h.new [.int .i64 b,.int .i64 f,.int .i64 t] 3=h1 at *
 have fin:∀q,q=dO b f t→ar [.bool q] (λr h'=>r=.bool (dO b f t)∧Step h h' [] []) h1:=λq e=>by
  subst e
  simp only[aC,aU]
  exact ⟨by simp,trivial,s1⟩
 simp only[wd, wa]
 refine aq fb b1 rfl ?_
 simp only[wd, wa]
 by_cases g0:(256:Int)≤b
 ·have c0:decide ((256:Int)≤b)=true:=decide_eq_true g0
  simp only[c0,wd, wa]
  refine aq fb b1 rfl ?_
  simp only[wd, wa]
  by_cases g1:b≤(4096:Int)
  ·have c1:decide (b≤(4096:Int))=true:=decide_eq_true g1
   simp only[c1,wd, wa]
   refine aq fb b1 rfl ?_
   simp only[wd, wa]
   by_cases g2:(2:Int)≤f
   ·have c2:decide ((2:Int)≤f)=true:=decide_eq_true g2
    simp only[c2,wd, wa]
    refine aq fb b1 rfl ?_
    simp only[wd, wa]
    by_cases g3:f≤(16:Int)
    ·have c3:decide (f≤(16:Int))=true:=decide_eq_true g3
     simp only[c3,wd, wa]
     refine aq fb b1 rfl ?_
     simp only[wd, wa]
     by_cases g4:(1:Int)≤t
     ·have c4:decide ((1:Int)≤t)=true:=decide_eq_true g4
      simp only[c4,wd, wa]
      refine aq fb b1 rfl ?_
      simp only[wd, wa]
      by_cases g5:t≤(4096:Int)
      ·have c5:decide (t≤(4096:Int))=true:=decide_eq_true g5
       simp only[c5,wd, wa]
       exact fin _ (by simp[dO,c0,c1,c2,c3,c4,c5])
      ·have c5:decide (t≤(4096:Int))=false:=decide_eq_false g5
       simp only[c5,wd, wa]
       exact fin _ (by simp[dO,c0,c1,c2,c3,c4,c5])
     ·have c4:decide ((1:Int)≤t)=false:=decide_eq_false g4
      simp only[c4,wd, wa]
      exact fin _ (by simp[dO,c0,c1,c2,c3,c4])
    ·have c3:decide (f≤(16:Int))=false:=decide_eq_false g3
     simp only[c3,wd, wa]
     exact fin _ (by simp[dO,c0,c1,c2,c3])
   ·have c2:decide ((2:Int)≤f)=false:=decide_eq_false g2
    simp only[c2,wd, wa]
    exact fin _ (by simp[dO,c0,c1,c2])
  ·have c1:decide (b≤(4096:Int))=false:=decide_eq_false g1
   simp only[c1,wd, wa]
   exact fin _ (by simp[dO,c0,c1])
 ·have c0:decide ((256:Int)≤b)=false:=decide_eq_false g0
  simp only[c0,wd, wa]
  exact fin _ (by simp[dO,c0])
theorem De(b f t:Int):aj prog w0 qN [eZ b f t] h λr h' =>
  (dO b f t=true→∃p S,r=.tuple #[p,.int .i64 0]∧Lv w0 h' p (cW b.toNat f.toNat t.toNat) S []∧Step h h' [] S)∧(dO b f t=false→r=.tuple #[.pointer none,.int .i64 140]∧Step h h' [] []):=by
 refine aj.of_fit (by simp[eZ]) λfi=>Dz (by simp[eZ]) ?_
 have fb:=fi.base
 simp only[Cg]
 refine iJ (e:=[.int .i64 b,.int .i64 f,.int .i64 t]) ?_
 have s1:Step h (h.new [.int .i64 b,.int .i64 f,.int .i64 t] 3) [] []:=((Step.refl h [] (by simp)).new _ _).less (by simp)
 have b1:(h.new [.int .i64 b,.int .i64 f,.int .i64 t] 3).blk h.next=some [.int .i64 b,.int .i64 f,.int .i64 t]:=by simp
 have l1:h.next<(h.new [.int .i64 b,.int .i64 f,.int .i64 t] 3).next:=by simp
 generalize h.new [.int .i64 b,.int .i64 f,.int .i64 t] 3=h1 at *
 refine cO fb b1 rfl ?_
 refine aA (Il b f t) λv h2 ⟨e,s2⟩ f2=>?_
 subst e
 have s12:=s1.trans s2
 cases hr:dO b f t with
 |false=>
  simp only[wd, wa,aC,cG]
  exact ⟨by simp,by simp,λ_=>⟨trivial,s12⟩⟩
 |true=>
  have hn:=(pC _ _ _).1 hr
  simp only[wd, wa]
  have b2:h2.blk h.next=some [.int .i64 b,.int .i64 f,.int .i64 t]:=by rw[(s2.keep _ l1 (by simp)).1];exact b1
  refine cO fb b2 rfl ?_
  refine aA Dd λmp h3 ⟨M,m3,s3⟩ f3=>?_
  have l2:h.next<h2.next:=cJ l1 s2.1
  have b3:h3.blk h.next=some [.int .i64 b,.int .i64 f,.int .i64 t]:=by rw[(s3.keep _ l2 (by simp)).1];exact b2
  simp only[dU,dL,lW]
  refine ⟨cO fb b3 rfl rfl,?_⟩
  have hmc:=m3.isC
  have hML:=m3.lt
  simp only[fg]
  rw[lE]
  refine ⟨rfl,by simp,?_⟩
  rw[dX]
  refine ⟨hmc,by simp[splice],?_⟩
  rw[dJ]
  simp only[wd, wa]
  have hb2:((b.toNat:Nat):Int)=b:=by omega
  have hf2:((f.toNat:Nat):Int)=f:=by omega
  have ht2:((t.toNat:Nat):Int)=t:=by omega
  have hcs:([.int .i64 b,.int .i64 f,.int .i64 t,mp]++List.replicate 16 (.slice none 0 0):List Value)=aN (cW b.toNat f.toNat t.toNat)++mp::List.replicate 16 (.slice none 0 0):=by
   simp[aN,cW,hb2,hf2,ht2]
  show cF true 20 (.agg ([.int .i64 b,.int .i64 f,.int .i64 t,mp]++List.replicate 16 (.slice none 0 0):List Value).toArray) _ _
  rw[hcs]
  refine iJ ?_
  have s4:Step h3 (h3.new (aN (cW b.toNat f.toNat t.toNat)++mp::List.replicate 16 (.slice none 0 0)) 20) [] [h3.next]:=(Step.refl h3 [] (by simp)).new _ _
  have b4:(h3.new (aN (cW b.toNat f.toNat t.toNat)++mp::List.replicate 16 (.slice none 0 0)) 20).blk h3.next=some (aN (cW b.toNat f.toNat t.toNat)++mp::List.replicate 16 (.slice none 0 0)):=by simp
  have n4:h3.next<(h3.new (aN (cW b.toNat f.toNat t.toNat)++mp::List.replicate 16 (.slice none 0 0)) 20).next:=by simp
  generalize h3.new (aN (cW b.toNat f.toNat t.toNat)++mp::List.replicate 16 (.slice none 0 0)) 20=h4 at *
  simp only[wd, wa,aC,cG]
  refine ⟨by simp,λ_=>⟨_,h3.next::M,rfl,⟨h3.next,mp,M,_,rfl,b4,by simp,m3.frame s4 (by simp),rfl,λq=>by have:=(hML _ q).2;omega,f3.base,n4,by simp,by simp,by simp[cW],λi v hi=>?_⟩,?_⟩,by simp⟩
  ·have hv:=pX (cK hi)
   subst hv
   have:(cW b.toNat f.toNat t.toNat).lv.getD i []=[]:=by
    simp only[cW,cR,tN]
    split <;> rfl
   rw[this]
   exact .nil _ _
  ·have s13:Step h h3 [] M:=s12.trans s3
   exact (s13.trans (s4.more M (λb hb=>(hML b hb).2))).weaken (λb hb=>by simp at hb) (λb hb=>.inl (by simpa using hb))
end
open Go Go.Proofs.Tryz
section
variable {w0:World}{h:Hp}
theorem YV:ovX prog Iv:=⟨f93,4,67,90,by kernel_rfl,by kernel_rfl,by kernel_rfl,by kernel_rfl,by kernel_rfl,by kernel_rfl,by kernel_rfl⟩
theorem CO{x:Value}{n i q:Nat}{cs e:List Value}{U:List Nat}(v:GV w0 h 1 x n cs U)(hv:0<n→Vec w0 h 1 x n cs U)(hi:i≤n)(hn:n≤1000000000)(hq:w0.heap.size≤q)(hqb:h.blk q=some e)(hqe:h.esz q=1)(he:e.length=1)(hqU:q∉U)(hqm:h.um q=true):
  aj prog w0 th [x,.int .i64 (i:Int),.slice (some ⟨q,0,none⟩) 1 1] h λr h'=>∃U',Vec w0 h' 1 r (n+1) (cs.take (i*1)++e++cs.drop (i*1)) U'∧Step h h' U U':=by
 have hj:x≠junk:=by obtain ⟨a,c,rfl⟩:=v.slice;simp[junk]
 have hlen:=v.len
 have hysrc:∀{h':Hp},h'.blk q=some e→Src w0.heap.size h' 1 (.slice (some ⟨q,0,none⟩) 1 1) 1 e:=λhb=>kO hq hb (by omega)
 have main:aj prog w0 th [x,.int .i64 (i:Int),.slice (some ⟨q,0,none⟩) 1 1] h λr h' =>
   (∃U',Vec w0 h' 1 r (n+1) (cs.take (i*1)++e++cs.drop (i*1)) U'∧Step h h' U U') ∨
   ∃u cs',r=.slice (some ⟨u,0,none⟩) (n+1) bA∧U=[u]∧w0.heap.size≤u∧u<h'.next∧h'.blk u=some cs'∧h'.esz u=1∧(n+1)*1≤cs'.length∧cs'.take ((n+1)*1)=cs.take (i*1)++e++cs.drop (i*1)∧Step h h' [u] [u]:=by
  refine aj.of_fit (by simpa using hj) λf=>Qu (by simpa using hj) ?_
  obtain ⟨a,c,ex⟩:=v.slice
  have elx:aM x=some (.int .i64 (n:Int)):=by rw[ex];rfl
  have e1:IntKind.i64.wrap ((n:Int)+1)=((n+1:Nat):Int):=by rw[bM _ (by omega)];simp
  have e2:IntKind.i64.wrap ((i:Int)+1)=((i+1:Nat):Int):=by rw[bM _ (by omega)];simp
  have c0:((((1:Nat):Int))==0)=false:=rfl
  simp only[Lh]
  refine v.sl.cutN (lo:=i) (hi:=n) eY (by rw[fH]) hi (bF _) λ_ _ _ _=>?_
  simp only[elx,wd, wa,c0]
  by_cases hin:i=n
  ·have c1:((i:Int)==(n:Int))=true:=by rw[beq_iff_eq];omega
   simp only[c1,wd, wa]
   refine ua f.base v (m:=1) (by omega) rfl (hysrc hqb) (by omega) (by omega) (by omega) (by omega) λx' h' S' v' st=>?_
   simp only[aC,aU]
   refine ⟨by obtain ⟨a,c,e⟩:=v'.slice;rw[e];simp[junk],.inl ⟨S',?_,st⟩⟩
   have:cs.take (i*1)++e++cs.drop (i*1)=cs++e:=by rw[dY (by omega),iz (by omega),dG]
   rw[this]
   exact v'
  ·have c1:((i:Int)==(n:Int))=false:=by rw[beq_eq_false_iff_ne];omega
   simp only[c1,wd, wa]
   have hilt:i<n:=by omega
   obtain ⟨u,rfl,rfl,hu,hun,hub,hue,-⟩:∃u,x=.slice (some ⟨u,0,none⟩) n bA∧U=[u]∧w0.heap.size≤u∧u<h.next∧h.blk u=some cs∧h.esz u=1∧cs.length=n*1:=by
    rcases hv (by omega) with ⟨-,q0,-,-⟩|q0
    ·omega
    ·exact q0
   have hqu:q≠u:=by simpa using hqU
   refine ⟨_,n,bA,rfl,?_⟩
   rw[if_pos rfl]
   refine ⟨by omega,u,0,cs,rfl,hu,hub,by omega,hue,λc' hc' hc2=>?_⟩
   have hcn:((1:Nat):Int)=1:=rfl
   have hi1:(i+1)*1=i*1+1:=by omega
   obtain ⟨h1,hh1⟩:∃h1,h1=h.fill u (0+c'*1) cs:=⟨_,rfl⟩
   have g1:h1.blk u=some (cs++List.replicate (c'*1-cs.length) unk):=by rw[hh1];simp[Hp.fill]
   have g2:h1.esz u=1:=by rw[hh1];exact hue
   have g3:h1.cp u=some (c'*1):=by rw[hh1];simp[Hp.fill]
   have g4:h1.blk q=some e:=by rw[hh1];simp[Hp.fill,hqu,hqb]
   have g5:h1.next=h.next:=by rw[hh1];rfl
   have g6:Step h h1 [u] [u]:=by
    rw[hh1]
    refine ⟨bF _,λb hb hs=>⟨?_,rfl⟩,λb hb=>⟨by simp at hb;subst hb;exact hun,.inl hb⟩,rfl⟩
    have:b≠u:=by simpa using hs
    simp[Hp.fill,this]
   have g7:h1.esz q=1:=by rw[hh1];exact hqe
   rw[←hh1]
   have hlc:(cs++List.replicate (c'*1-cs.length) unk).length=c'*1:=by simp;omega
   simp only[wd, wa,e1,hcn]
   by_cases hroom:c'<n+1
   ·have c2:decide ((c':Int)<((n+1:Nat):Int))=true:=decide_eq_true (by omega)
    have e3:IntKind.i64.wrap (((n+1:Nat):Int)-(i:Int))=((n+1-i:Nat):Int):=by rw[bM _ (by omega)];omega
    simp only[wd, wa,c2,e3]
    refine gQ (l:=0) (u:=i) rfl eY (fX _) g1 g2 (by omega) (by rw[hlc];omega) ?_
    rw[jd,eO,rm]
    have hold:h1.getN ⟨u,0,none⟩ (i*1)=some (cs.take (i*1)):=by
     rw[lF,g1,je,if_pos (by rw[hlc];omega),i5,kZ (by omega)]
    refine ⟨u,0,i,n+1-i,c'*1,.i64,cs.take (i*1),rfl,rfl,by omega,hu,hold,g2,g3,by omega,by omega,by omega,?_⟩
    rw[show i+(n+1-i)=n+1 by omega]
    have hzl:(aL [(.pointer none)] (n+1-i)).length=(n+1-i)*1:=by rw[rb];rfl
    obtain ⟨cs2,hcs2⟩:∃cs2,cs2=cs.take (i*1)++aL [(.pointer none)] (n+1-i):=⟨_,rfl⟩
    have hcl2:cs2.length=(n+1)*1:=by rw[hcs2,aT,hzl,dV];omega
    rw[←hcs2]
    obtain ⟨h2,hh2⟩:∃h2,h2=h1.new cs2 1:=⟨_,rfl⟩
    have k1:h2.blk h1.next=some cs2:=by rw[hh2];simp
    have k2:h2.esz h1.next=1:=by rw[hh2];simp
    have k3:h2.blk u=some (cs++List.replicate (c'*1-cs.length) unk):=by rw[hh2,iq,if_neg (by omega)];exact g1
    have hqn:q<h.next:=f.lt _ _ hqb
    have k4:h2.blk q=some e:=by rw[hh2,iq,if_neg (by omega)];exact g4
    have k5:h2.esz u=1:=by rw[hh2,Iy,if_neg (by omega)];exact g2
    have k6:Step h1 h2 [u] [h1.next,u]:=by rw[hh2];exact (Step.refl h1 [u] (by simp;omega)).new _ _
    have hbn:w0.heap.size≤h1.next:=by rw[g5];exact f.base
    rw[←hh2]
    refine gQ (l:=i) (u:=n+1) eY (by rw[fH]) (by omega) k1 k2 (by omega) (by omega) ?_
    refine ⟨_,_,_,1,rfl,rfl,λq0=>by omega,λq0=>⟨h1.next,0+i*1,cs2,e,rfl,hbn,k1,by omega,?_,?_⟩⟩
    ·rw[show min 1 (n+1-i)=1 by omega]
     exact hysrc k4
    obtain ⟨cs3,hcs3⟩:∃cs3,cs3=splice cs2 (0+i*1) e:=⟨_,rfl⟩
    have hcl3:cs3.length=(n+1)*1:=by rw[hcs3,ma (by omega)];exact hcl2
    rw[←hcs3]
    obtain ⟨h3,hh3⟩:∃h3,h3=h2.put h1.next cs3:=⟨_,rfl⟩
    have m1:h3.blk h1.next=some cs3:=by rw[hh3];simp
    have m2:h3.esz h1.next=1:=by rw[hh3];exact k2
    have m3:h3.blk u=some (cs++List.replicate (c'*1-cs.length) unk):=by rw[hh3,cX,if_neg (by omega)];exact k3
    have m5:h3.esz u=1:=by rw[hh3];exact k5
    have m6:Step h1 h3 [u] [h1.next,u]:=by rw[hh3];exact k6.put (by simp) _
    rw[←hh3]
    simp only[wd, wa,e2]
    refine gQ (l:=i+1) (u:=n+1) eY (by rw[fH]) (by omega) m1 m2 (by omega) (by omega) ?_
    refine gQ (l:=i) (u:=n) eY (by rw[fH]) (by omega) m3 m5 (by omega) (by rw[hlc];omega) ?_
    simp only[wd, wa]
    refine ⟨_,_,_,n-i,rfl,rfl,λq0=>by omega,λq0=>⟨h1.next,(i+1)*1,cs3,cs.drop (i*1),rfl,hbn,m1,by omega,?_,?_⟩⟩
    ·rw[show min (n-i) (n+1-(i+1))=n-i by omega]
     have:=nk (w0:=w0) (h:=h3) (s:=1) (n:=n-i) (o:=0+i*1) (c:=bA) hu m3 (by rw[hlc];omega)
     rw[xR (by omega),kZ (by simp;omega),dY (by simp;omega),eO]at this
     exact this
    simp only[wd, wa,aC,aU]
    refine ⟨by simp[junk],.inl ⟨[h1.next],.inr ⟨h1.next,rfl,rfl,hbn,?_,?_,m2,?_⟩,?_⟩⟩
    ·have:=m6.1;have:=(m6.own h1.next (by simp)).1;simpa using this
    ·rw[cX,if_pos rfl]
     congr 1
     have:=G4 (A:=cs.take (i*1)) (B:=cs.drop (i*1)) (Z:=aL [(.pointer none)] (n+1-i)) (e:=e) (by rw[hzl,kW];omega)
     rw[show (cs.take (i*1)).length=i*1 by simp;omega,he,←hcs2]at this
     rw[hcs3,eO,hi1]
     exact this
    ·simp only[aT,dV,kW];omega
    ·exact ((g6.trans m6).put (by simp) _).less (by simp)
   ·have c2:decide ((c':Int)<((n+1:Nat):Int))=false:=decide_eq_false (by omega)
    simp only[wd, wa,c2]
    refine gQ (l:=0) (u:=n+1) rfl eY (fX _) g1 g2 (by omega) (by rw[hlc];omega) ?_
    rw[jd,eO,rm]
    simp only[wd, wa,e2]
    refine gQ (l:=i+1) (u:=n+1) eY (by rw[fH]) (by omega) g1 g2 (by omega) (by rw[hlc];omega) ?_
    refine .inl ⟨YV,q,0,1,1,u,_,_,_,e,_,rfl,rfl,hqu,hq,hu,g4,g1,by omega,by rw[hlc];omega,by omega,by omega,.inl (by rw[hh1];show (if q=u then false else h.um q)=true;rw[if_neg hqu];exact hqm),?_⟩
    simp only[wd, wa,e2]
    refine gQ (l:=i+1) (u:=n+1) eY (by rw[fH]) (by omega) g1 g2 (by omega) (by rw[hlc];omega) ?_
    refine gQ (l:=i) (u:=n+1) eY (by rw[fH]) (by omega) g1 g2 (by omega) (by rw[hlc];omega) ?_
    simp only[wd, wa]
    refine ⟨_,_,_,n+1-i,rfl,rfl,λq0=>by omega,λq0=>⟨u,(i+1)*1,_,cs.drop (i*1),rfl,hu,g1,by rw[hlc];omega,?_,?_⟩⟩
    ·rw[show min (n+1-i) (n+1-(i+1))=n-i by omega]
     have:=nk (w0:=w0) (h:=h1) (s:=1) (n:=n-i) (o:=0+i*1) (c:=bA) hu g1 (by rw[hlc];omega)
     rw[xR (by omega),kZ (by simp;omega),dY (by simp;omega),eO]at this
     exact ⟨by omega,this.2⟩
    obtain ⟨cs3,hcs3⟩:∃cs3,cs3=splice (cs++List.replicate (c'*1-cs.length) unk) ((i+1)*1) (cs.drop (i*1)):=⟨_,rfl⟩
    have hcl3:cs3.length=c'*1:=by rw[hcs3,ma (by rw[hlc];simp;omega)];exact hlc
    rw[←hcs3]
    obtain ⟨h3,hh3⟩:∃h3,h3=h1.put u cs3:=⟨_,rfl⟩
    have m1:h3.blk u=some cs3:=by rw[hh3];simp
    have m2:h3.esz u=1:=by rw[hh3];exact g2
    have m4:h3.blk q=some e:=by rw[hh3,cX,if_neg hqu];exact g4
    rw[←hh3]
    refine gQ (l:=i) (u:=n+1) eY (by rw[fH]) (by omega) m1 m2 (by omega) (by omega) ?_
    refine ⟨_,_,_,1,rfl,rfl,λq0=>by omega,λq0=>⟨u,0+i*1,cs3,e,rfl,hu,m1,by omega,?_,?_⟩⟩
    ·rw[show min 1 (n+1-i)=1 by omega]
     exact hysrc m4
    simp only[wd, wa,aC,aU]
    refine ⟨by simp[junk],.inr ⟨u,splice cs3 (0+i*1) e,rfl,rfl,hu,?_,by simp,m2,?_,?_,?_⟩⟩
    ·rw[hh3];simp;omega
    ·rw[ma (by omega)];omega
    ·have:=G5 (A:=cs.take (i*1)) (B:=cs.drop (i*1)) (R:=List.replicate (c'*1-cs.length) unk) (e:=e) (by simp;omega)
     rw[show (cs.take (i*1)).length=i*1 by simp;omega,he,←cM,fw,kW]at this
     rw[hcs3,eO,hi1,show (n+1)*1=i*1+1+(cs.length-i*1) by omega]
     exact this
    ·have:Step h1 ((h1.put u cs3).put u (splice cs3 (0+i*1) e)) [u] [u]:=(((Step.refl h1 [u] (by simp;omega)).put (by simp) _).put (by simp) _)
     rw[←hh3,eO]at this
     exact g6.trans this
 exact main.forget λr h' hr f'=>by
  rcases hr with hr|⟨u,cs',rfl,rfl,hu,hun,hb,hes,hl,ht,st⟩
  ·exact .inl hr
  ·refine .inr ⟨u,cs',(n+1)*1,hu,hb,[u],.inr ⟨u,rfl,rfl,hu,hun,by rw[cX,if_pos rfl,ht],hes,?_⟩,st.put (by simp) _⟩
   rw[←ht,dV]
   omega
theorem CJ{x:Value}{n:Nat}{cs:List Value}(v:Sl w0 h 1 x n cs)(hn:n≤1000000000):
  aj prog w0 wH [x] h λr h'=>∃U,GV w0 h' 1 r n cs U∧(0<n→Vec w0 h' 1 r n cs U)∧Step h h' [] U:=by
 refine aj.of_fit (by simpa using v.junk) λf=>Qp (by simpa using v.junk) ?_
 obtain ⟨a,c,hx⟩:=v.slice
 simp only[Ld]
 cases a with
 |none=>
  subst hx
  have h0:n=0∧cs=[]:=by
   rcases v.src.2 with h0|⟨-,ad,e,-⟩
   ·exact h0
   ·simp at e
  obtain ⟨rfl,rfl⟩:=h0
  simp only[show i8 .eql (.slice none 0 c) (.slice none 0 0)=some (.bool true) from rfl,wd, wa,aC,aU]
  exact ⟨by simp,[],.inl .nil,λ_=>.nil,.refl _ _ (by simp)⟩
 |some ad=>
  have hb:i8 .eql x (.slice none 0 0)=some (.bool false):=by rw[hx];rfl
  simp only[hb,wd, wa]
  refine ym f v (by omega) (by omega) (by omega) λx' h' S' g gv st hn=>?_
  obtain ⟨a',c',hx'⟩:=g.slice
  simp only[aC,aU]
  exact ⟨by rw[hx'];simp,S',g,gv,st⟩
theorem Mq{x:Value}{n:Nat}{cs:List Value}(v:Sl w0 h 1 x n cs)(hn:n≤1000000000):
  aj prog w0 Bh [x] h λr h'=>∃U,GV w0 h' 1 r n cs U∧(0<n→Vec w0 h' 1 r n cs U)∧Step h h' [] U:=by
 refine aj.of_fit (by simpa using v.junk) λf=>Qo (by simpa using v.junk) ?_
 obtain ⟨a,c,hx⟩:=v.slice
 simp only[Lc]
 cases a with
 |none=>
  subst hx
  have h0:n=0∧cs=[]:=by
   rcases v.src.2 with h0|⟨-,ad,e,-⟩
   ·exact h0
   ·simp at e
  obtain ⟨rfl,rfl⟩:=h0
  simp only[show i8 .eql (.slice none 0 c) (.slice none 0 0)=some (.bool true) from rfl,wd, wa,aC,aU]
  exact ⟨by simp,[],.inl .nil,λ_=>.nil,.refl _ _ (by simp)⟩
 |some ad=>
  have hb:i8 .eql x (.slice none 0 0)=some (.bool false):=by rw[hx];rfl
  simp only[hb,wd, wa]
  refine ym f v (by omega) (by omega) (by omega) λx' h' S' g gv st hn=>?_
  obtain ⟨a',c',hx'⟩:=g.slice
  simp only[aC,aU]
  exact ⟨by rw[hx'];simp,S',g,gv,st⟩
end
theorem nG{bl:Nat}{l:List Ent}(h1:256≤bl)(h2:bl≤4096)(hc:ff l=true):dH (bl:Int) l=0:=by
 unfold dH
 rw[if_neg (by omega),if_pos hc]
section
variable {w0:World}{h h':Hp}
theorem Df{v:Value}{bl:Nat}{l:List Ent}{S0:List Nat}(hz:dH (bl:Int) l=0)(hl:aY l≤1048576)(g:GV w0 h 1 v (aX (bl:Int) l).length (bvs (aX (bl:Int) l)) S0):
  aj prog w0 wt [v] h λr h'=>∃p S,r=.tuple #[p,.int .i64 0]∧Rb w0 h' p l bl S∧Step h h' [] S:=by
 have h4:=kH l
 obtain ⟨-,e2⟩:=Iz hz (by omega)
 have e3:=adb hz (by omega)
 have hlen:=mB hz hl
 have hmul:min (tC (aX (bl:Int) l)) (aX (bl:Int) l).length*(aX (bl:Int) l).length≤3500000000000:=YA (A:=262144) (B:=11534360) (by omega) hlen (by decide)
 refine aj.of_fit (by simpa using g.nj) λf=>PH (by simpa using g.nj) ?_
 simp only[KE]
 refine GV.b2s (s:=1) g ?_
 refine aA (Zg (aX (bl:Int) l) (by omega) hmul) λr h1 hr f1=>?_
 rw[e2]at hr
 obtain ⟨x,S1,e,g1,-,s1⟩:=hr
 subst e
 simp only[wd, wa]
 refine aA (CG (bl:Int) g1.sl (by omega)) λr h2 ⟨y,S2,e,g2,s2⟩ f2=>?_
 subst e
 simp only[wd, wa]
 have s12:Step h h2 [] []:=(s1.less (T:=[]) (by simp)).trans (s2.less (T:=[]) (by simp))
 have c1:(dH (bl:Int) l != 0)=false:=by simp[hz]
 simp only[c1,wd, wa]
 refine aA (Mv (g.frame s12 (by simp)) g2.gv) λr h3 ⟨e,e'⟩ f3=>?_
 rw[decide_eq_true rfl]at e
 subst e e'
 have hblen:24≤(aX (bl:Int) l).length:=by
  have hp:=e2
  unfold prs at hp
  split at hp
  ·cases hp
  ·omega
 obtain ⟨ax,cx,ex⟩:=g1.slice
 simp only[wd, wa,fg,dX,dJ,cU,fc,iT,aC,cG]
 have hyc:aE y=true∧i8 .neq y (.slice none 0 0)=some (.bool true):=by
  rcases g2 with ⟨-,q0,-,-⟩|⟨u,e,-⟩
  ·omega
  ·subst e;exact ⟨rfl,rfl⟩
 have sn:Step h3 (h3.new [y,x,.int .i64 ((grp bl l).length:Int)] 3) [] [h3.next]:=(Step.refl h3 [] (by simp)).new _ _
 have g3:Vec w0 h3 3 x l.length (l.flatMap ee) S1:=g1.frame s2 (by simp)
 have hS1:∀b,b∈S1→b<h3.next:=λb hb=>(g3.lt b hb).2
 refine ⟨hyc.1,by simp,by rw[ex];rfl,by simp,rfl,by simp,by simp,_,(h3.next::S1)++S2,rfl,⟨(grp bl l).length,h3.next::S1,h3.next,y,x,.int .i64 ((grp bl l).length:Int),S2,⟨h3.next,y,x,S1,rfl,rfl,by simp,hyc.2,f2.base,by simp,g3.frame sn (by simp),λq=>by have:=hS1 _ q;omega,(N1 hz).1,by omega⟩,rfl,by simp,by simp,g2.frame sn (by simp),rfl,hl,hz⟩,?_⟩
 have s13:Step h h3 [] (S2++S1):=(s1.trans (s2.more S1 λb hb=>(s1.own b hb).1)).weaken (by simp) (by simp)
 exact (s13.new _ _).less (λb hb=>by simp at hb ⊢;rcases hb with q|q|q <;> simp[q])
theorem Dx{v:Value}{bl:Nat}{l:List Ent}(h1:256≤bl)(h2:bl≤4096)(hc:ff l=true)(hl:aY l≤1048576)(hv:Es w0 h v l):
  aj prog w0 wk [v,.int .i64 (bl:Int)] h λr h'=>∃S,Rb w0 h' r l bl S∧Step h h' [] S:=by
 have h4:=kH l
 have hz:=nG h1 h2 hc
 refine aj.of_fit (by simpa using hv.junk) λf=>P1 (by simpa using hv.junk) ?_
 simp only[Ky]
 refine aA (CG (bl:Int) hv (by omega)) λr h2 ⟨y,S2,e,g2,s2⟩ f2=>?_
 subst e
 simp only[wd, wa]
 refine aA (Df hz hl g2.gv) λr h3 ⟨p,S,e,m3,s3⟩ f3=>?_
 subst e
 simp only[wd, wa,aC,aU]
 refine ⟨?_,S,m3,(s2.less (T:=[]) (by simp)).trans s3⟩
 obtain ⟨n,S1,p,y,c1,c2,Sy,a1,a2,-⟩:=m3
 rw[a2];simp[ptr,junk]
theorem CH{r:Value}{l:List Ent}{bl:Nat}{S:List Nat}(m:Rb w0 h r l bl S):aj prog w0 ww [r] h λv h'=>∃U,Vec w0 h' 1 v (aX (bl:Int) l).length (bvs (aX (bl:Int) l)) U∧Step h h' [] U:=by
 obtain ⟨n,S1,p,y,c1,c2,Sy,a1,a2,a3,a4,a5,a6,a7,a8⟩:=m
 refine aj.of_fit (by simpa using a1.nj) λf=>PI (by simpa using a1.nj) ?_
 simp only[KF]
 refine aA (zY a1) λv h1 ⟨e,e'⟩ f1=>?_
 subst e e'
 subst a2
 simp only[ptr,wd, wa]
 refine aq (a1.lt p a3).1 a4 rfl ?_
 have hlen:=mB a8 a7
 have hpos:0<(aX (bl:Int) l).length:=by
  have hb:aX (bl:Int) l=bld bl l:=by unfold aX;rw[if_pos a8,fN]
  rw[hb,nH]
  omega
 refine aA (Mq a5.sl (by omega)) λv h2 ⟨U,g,gv,s2⟩ f2=>?_
 simp only[aC,aU]
 exact ⟨by simpa using g.nj,U,gv hpos,s2⟩
end
section
variable {w0:World}{h h':Hp}
def CI(w0:World)(B q:Nat)(l:List Ent)(i:Nat)(h1:Hp)(S1:List Nat):Prop:=
 ∃x S',S1=q::S'∧h1.blk q=some [x]∧Vec w0 h1 3 x (l.take i).length ((l.take i).flatMap ee) S'∧q∉S'∧B≤h1.next
theorem Q1{B q i:Nat}{l:List Ent}(hq:q<B):fB w0 0 B (CI w0 B q l i):=by
 refine ⟨λh lp S _ c=>c,λh h' S T T' f ⟨x,S',e,b,v,hqs,n⟩ st hd hB=>?_,λh S ⟨x,S',e,b,v,hqs,n⟩ c hc=>?_⟩
 ·subst e
  exact ⟨x,S',rfl,by rw[(st.keep q (by omega) (hd q (by simp))).1];exact b,v.frame st (λc hc=>hd c (by simp[hc])),hqs,cY n st.1⟩
 ·subst e
  rcases bB.1 hc with rfl|hc
  ·omega
  ·exact (v.lt c hc).2
theorem Ms{K0:Hp→Prop}{fv:Value}{q:Nat}{l:List Ent}{T:List Nat}(f:Fit w0 h)(hq:w0.heap.size≤q)(hb:h.blk q=some [.slice none 0 0])(hl:l.length≤1000000000)(hqT:q∉T)
  (hit:∀g,ItV prog w0 fv (h.newLp g) T (sV l)) (hk:∀h3 x S',Fit w0 h3→bC 0 h h3 [q] (q::S')→h3.blk q=some [x]→Vec w0 h3 3 x l.length (l.flatMap ee) S'→K0 h3):
  iY prog w0 fv 1 (λb g args K=>LA prog w0 b g K (ptr q) (args.getD 0 undef)) K0 [] h:=by
 have lq:=f.lt _ _ hb
 refine wS (xs:=sV l) (T:=T) 0 (fX _) f hit (λb g x K=>cA zE 3 λv=>bU w0 v (x.getD 0 undef) 3 λ_=>al w0 (ptr q) λv22=>aG w0 v 3 λv25=>bI [(0,3,true,v25)] (aL zE 1) 1 3 λv27=>bD w0 3 40 v22 v27 λv28=>bO w0 (ptr q) v28 λ_=>fq b g none K)
  (λb g x K h1 hl hk=>wU hl hk) [q] (CI w0 h.next q l) (λ_ _ _=>False) (λi=>Q1 lq) (λo=>⟨λ_ _ _ _ c=>c,λ_ _ _ _ _ _ c=>c.elim,λ_ _ c=>c.elim⟩)
  ⟨_,[],rfl,hb,.nil,by simp,bF _⟩ (λb hb hbT=>by simp at hb;subst hb;exact hqT hbT) ?_ ?_ ?_ ?_
 ·intro y hy
  obtain ⟨x,hx,rfl⟩:=eB.1 hy
  exact ⟨rfl,by simp⟩
 ·rintro i y h1 S1 g1 K hi f1 ⟨x,S',e,b,v,hqs,n⟩ lb _ ends exits
  subst e
  unfold sV at hi
  rw[fV]at hi
  obtain ⟨z,hz,rfl⟩:=mu.1 hi
  have hil:=(cB.1 hz).1
  have hti:(l.take i).length=i:=by rw[dV];omega
  have ht1:l.take (i+1)=l.take i++[z]:=by rw[iH,hz];rfl
  simp only[tL]
  have fb:=f1.base
  refine fp fb rfl rfl fM ?_
  have sx:Step h1 (h1.new (ee z) 3) [] [h1.next]:=(Step.refl h1 [] (by simp)).new _ _
  have bx:(h1.new (ee z) 3).blk h1.next=some (ee z):=by simp
  have nx:h1.next<(h1.new (ee z) 3).next:=by simp
  have bq:(h1.new (ee z) 3).blk q=some [x]:=by rw[(sx.keep q (by omega) (by simp)).1];exact b
  have vx:=v.frame sx (by simp)
  have bsx:=sx.1
  generalize h1.new (ee z) 3=hx at *
  simp only[ptr]
  refine aq hq bq rfl ?_
  refine cO fb bx rfl ?_
  refine jg (by omega) vx.gv rfl rfl (by omega) (by omega) (by omega) λx' h2 S2 g2 s2=>?_
  have hS':∀b,b∈S'→b<h1.next:=λb hb=>(v.lt b hb).2
  have b2:h2.blk q=some [x]:=by rw[(s2.keep q (by omega) hqs).1];exact bq
  have hq2:q∉S2:=λe=>by
   rcases (s2.own _ e).2 with r|r
   ·exact hqs r
   ·omega
  have s12:Step h1 h2 S' S2:=(sx.wide (T:=S') (T':=S') (by simp) (λb hb=>.inr ⟨hb,hS' b hb⟩)).trans s2
  have lq1:q<h1.next:=by omega
  have hxc:aE x'=true:=by obtain ⟨a,c,e⟩:=g2.slice;rw[e];rfl
  refine eH hq b2 (by simp) hxc ?_
  simp only[cU]
  have s3:Step h1 (h2.put q [x']) (q::S') (q::S2):=(s12.consR lq1).put (by simp) _
  have sp:Step h2 (h2.put q [x']) [q] [q]:=(Step.refl h2 [q] (by simp;have:=s2.1;omega)).put (by simp) _
  refine ends _ _ (s3.y 0) ⟨x',S2,rfl,by simp,?_,hq2,by have:=s3.1;omega⟩
  have g3:Vec w0 (h2.put q [x']) 3 x' _ _ S2:=g2.frame sp (by simpa using λb hb (e:b=q)=>hq2 (by rw[←e];exact hb))
  rw[hti]at g3
  rw[ht1,aT,hti,fD]
  simpa using g3
 ·rintro h3 S2 f3 ys ⟨x,S',e,b,v,hqs,n⟩
  subst e
  have:(sV l).length=l.length:=by simp[sV]
  rw[this,dY (bF _)]at v
  exact hk h3 x S' f3 ys b v
 ·rintro o h3 S2 f3 ys c
  exact c.elim
theorem CX{r:Value}{l:List Ent}{S:List Nat}(m:Me w0 h r l S):aj prog w0 te [r] h λv h'=>∃q,v=.func (.func qO) #[] #[ptr q]∧h'.blk q=some [r]∧h.next≤q∧q<h'.next∧Step h h' [] []:=ME r m.nj m.isC
theorem Mr{q:Nat}{r:Value}{l:List Ent}{M:List Nat}(bq:h.blk q=some [r])(wq:w0.heap.size≤q)(m:Me w0 h r l M):
  aj prog w0 Bi [.func (.func qO) #[] #[ptr q]] h λv h'=>∃S',Vec w0 h' 3 v l.length (l.flatMap ee) S'∧Step h h' [] S':=by
 have hl:l.length≤10000000:=by obtain ⟨q,p,M,e,a1,a2,a3,a4,a5,a6,a7,a8⟩:=m;exact a8
 refine aj.of_fit (by simp[junk]) λf0=>Qr (by simp[junk]) ?_
 simp only[Lf]
 refine aA (R:=λv h'=>∃S',Vec w0 h' 3 v l.length (l.flatMap ee) S'∧Step h h' [] S') ?_ λv h1 ⟨S',g,st⟩ f1=>?_
 ·refine aj.of_fit (by simp[junk]) λf=>Ql (by simp[junk]) ?_
  simp only[Lb]
  refine ⟨rfl,?_⟩
  have s1:Step h (h.new [.slice none 0 0] 1) [] [h.next]:=(Step.refl h [] (by simp)).new _ _
  have b1:(h.new [.slice none 0 0] 1).blk h.next=some [.slice none 0 0]:=by simp
  have f1:Fit w0 (h.new [.slice none 0 0] 1):=f.new (by simp[aE])
  have n1:h.next<(h.new [.slice none 0 0] 1).next:=by simp
  have m1:=m.frame s1 (by simp)
  have lq:=f.lt _ _ bq
  have bq1:(h.new [.slice none 0 0] 1).blk q=some [r]:=by rw[(s1.keep q lq (by simp)).1];exact bq
  have hML:=m.lt
  show iY _ _ _ _ _ _ _ (h.new [.slice none 0 0] 1)
  generalize h.new [.slice none 0 0] 1=h1 at *
  refine Ms (T:=q::M) (l:=l) f1 f.base b1 (by omega) (λw=>?_) (λg=>?_) λh3 x S' f3 ys b3 g3=>?_
  ·rcases bB.1 w with w|w
   ·omega
   ·have:=hML _ w;omega
  ·have yl:=(bC.refl 0 h1 [] (by simp)).newLp g
   have hm:Me w0 (h1.newLp g) r l M:=(m1.frame (yl.step) (by simp):Me w0 ((h1.newLp g).as h1) r l M)
   exact Im (hh:=h1.newLp g) (M:=M) bq1 wq hm ⟨by simp,λb hb=>by simp[hb]⟩
  ·refine aq f.base b3 rfl ?_
   unfold ie
   simp only[aC,aU]
   have hq3:h.next<h3.next:=cJ n1 ys.next
   have y03:bC 0 h h3 [] S':=((s1.y 0).trans ys).less (λb hb=>by simp[hb])
   exact ⟨by obtain ⟨a,c,e⟩:=g3.slice;rw[e];simp[junk],S',g3,y03.cut⟩
 ·simp only[aC,aU]
  exact ⟨by obtain ⟨a,c,e⟩:=g.slice;rw[e];simp[junk],S',g,st⟩
end
