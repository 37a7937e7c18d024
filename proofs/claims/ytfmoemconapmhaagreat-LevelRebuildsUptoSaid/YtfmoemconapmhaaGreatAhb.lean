/- Slices and append. -/
import Derived.Test.YtfmoemconapmhaaGreatAha
import Derived.Laws.Append
import Derived.Laws.AppendOwn
import Derived.Laws.Externs
import Derived.Lib.Bytealg
set_option linter.all false
namespace Go.Proofs.YtfmoemconapmhaaGreat.Ah
open Go
section
section
variable {B nx:Nat} {ι:Inj}
theorem qy.slice_inv {a:Option Addr} {n c:Nat} {v':Value} (h:qy B nx ι (.slice a n c) v'):
  (a=none∧n=0∧c=0∧v'=.slice none 0 0) ∨
  ∃ ad a' c',a=some ad∧v'=.slice (some a') n c'∧n≤c'∧(0 < c'→q20 B nx ι ad a')∧(c≠q0b→c'=c)∧
   (c=q0b→B≤ad.block∧ad.spot=none)∧(c=q0b→0 < c'→ad.block < nx∧ad.off + c' * (ι ad.block).sz=(ι ad.block).rsv)∧(ad.block < B→a'=ad)∧(c≠q0b→c < q0b)∧(c=q0b→c'=0→ad.block < nx∧(ι ad.block).rsv≤ad.off):=by
 cases h with
 | snil=>exact .inl ⟨rfl,rfl,rfl,rfl⟩
 | sext ad _ _ h hn hc=>exact .inr ⟨ad,ad,c,rfl,rfl,hn,λ _=>.pext _ h,λ _=>rfl,λ hc'=>absurd hc' (Nat.ne_of_lt hc),λ hc' _=>absurd hc' (Nat.ne_of_lt hc),λ _=>rfl,λ _=>hc,λ hc' _=>absurd hc' (Nat.ne_of_lt hc)⟩
 | sint b o _ _ c' h1 h2 hn hc=>
  refine .inr ⟨⟨b,o,none⟩,_,c',rfl,rfl,hn,λ _=>.pint b o h1 h2,λ hne=>?_,λ _=>⟨h1,rfl⟩,λ hc' _=>⟨h2,?_⟩,λ hlt=>absurd h1 (by simp at hlt; omega),λ hne=>by rcases hc with ⟨e,_⟩ | ⟨_,e⟩; exact absurd e hne; exact e,λ hc' h0=>⟨h2,by
   rcases hc with ⟨_,e⟩ | ⟨_,e⟩
   ·rw [h0,Nat.zero_mul,Nat.add_zero] at e; exact Nat.le_of_eq e.symm
   ·rw [hc'] at e; exact absurd e (Nat.lt_irrefl _)⟩⟩
  ·rcases hc with ⟨e,_⟩ | ⟨e,_⟩
   ·exact absurd e hne
   ·exact e.symm
  ·rcases hc with ⟨_,e⟩ | ⟨_,e⟩
   ·exact e
   ·rw [hc'] at e; exact absurd e (Nat.lt_irrefl _)
 | szero b o _ a h1 hc=>
  exact .inr ⟨⟨b,o,none⟩,a,0,rfl,rfl,Nat.le_refl _,λ h0=>absurd h0 (by simp),λ hne=>by
   rcases hc with ⟨e,_⟩ | e
   ·exact absurd e hne
   ·exact e.symm,λ _=>⟨h1,rfl⟩,λ _ h0=>absurd h0 (by simp),λ hlt=>absurd h1 (by simp at hlt; omega),λ hne=>by rcases hc with ⟨e,_⟩ | e; exact absurd e hne; rw [e]; decide,λ hc' _=>by rcases hc with ⟨_,e⟩ | e; exact e; rw [e] at hc'; exact absurd hc' (by decide)⟩
 | sempty ad a h1=>
  exact .inr ⟨ad,a,0,rfl,rfl,Nat.le_refl _,λ h0=>absurd h0 (by simp),λ _=>rfl,λ e=>absurd e (by decide),λ e _=>absurd e (by decide),λ hlt=>absurd h1 (by omega),λ _=>by decide,λ e=>absurd e (by decide)⟩
end
section
variable {P:Program} {w:World}
theorem qk8 {t t2 ty e:TypeId} {i:TypeInfo} (ht:P.underlying t=some (.slice e)) (hi:P.info? e=some i) {d2:TypeDesc} (ht2:P.underlying t2=some d2) (hd2:∀ k,d2≠.int k)
  {a:Addr} {n c m:Nat} {y:Value} {news:Array Value} {w':World} (hlen:(Builtin.lenOf y).run P w=.ok m w) (hsrc:(Builtin.firstCells i.size m y).run P w=.ok news w)
  (hroom:n + m≤c) (hst:(storeCells (a.add (n * i.size)) news.toList).run P w=.ok () w'):
  (Builtin.append_ #[t,t2] ty #[.slice (some a) n c,y]).run P w=.ok (.slice (some a) (n + m) c) w':=by
 have hz:(match d2 with | .int _=>true | _=>false)=false:=by
  cases d2 <;> first | rfl | exact absurd rfl (hd2 _)
 simp [Builtin.append_,run_underlying ht,run_underlying ht2,sizeOf,typeInfo,hi,hz,hlen,hroom,hsrc,hst]
theorem q0bg {t t2 ty e:TypeId} {i:TypeInfo} {z:Value} (ht:P.underlying t=some (.slice e)) (hi:P.info? e=some i) (hzv:i.zero=some z) {d2:TypeDesc} (ht2:P.underlying t2=some d2) (hd2:∀ k,d2≠.int k)
  {b:Option Addr} {n c m:Nat} {y:Value} {old news:Array Value} (hlen:(Builtin.lenOf y).run P w=.ok m w) (hsrc:∀ w',w'.heap=w.heap→(Builtin.firstCells i.size m y).run P w'=.ok news w')
  (hold:∀ w',w'.heap=w.heap→(Builtin.firstCells i.size n (.slice b n c)).run P w'=.ok old w')
  (hroom:c < n + m) (hb:(n + m) * i.bytes≤140737488355328) (h63:n + m≤9223372036854775807) (hb0:i.bytes≠0∨True):
  ∃ k,n + m≤k∧k < q0b∧(Builtin.append_ #[t,t2] ty #[.slice b n c,y]).run P w =
   .ok (.slice (some ⟨w.heap.size,0,none⟩) (n + m) k) (w.drew.alloc (.cells (old++news++Builtin.zeroCells z.cells (k - (n + m))) e)):=by
 have hz:(match d2 with | .int _=>true | _=>false)=false:=by
  cases d2 <;> first | rfl | exact absurd rfl (hd2 _)
 have hfit:=growslice_fits hroom hb
 have h63':¬ (((n + m:Nat):Int) > IntKind.i64.max):=by
  have:IntKind.i64.max=9223372036854775807:=by decide
  rw [this]; omega
 refine ⟨grownCap w (n + m) c e,grownCap_ge _ _ _ _,?_,?_⟩
 ·have hlt:=Nat.mod_lt (w.tape w.drawn (.appendCap (n + m) c e)) (show 0 < 2 ^ 63 - (n + m) by omega)
  simp only [grownCap,Question.cut,q0b] at hlt ⊢
  omega
 ·have h1:=hsrc w.drew rfl
  have h2:=hold w.drew rfl
  have hn:¬ (n + m≤c):=by omega
  have hf':¬ (Builtin.nextslicecap (n + m) c * i.bytes > 2 ^ 48):=by simp; exact hfit
  have hcast:¬ (9223372036854775807 < (n:Int) + (m:Int)):=by omega
  have hf2:¬ (281474976710656 < Builtin.nextslicecap (n + m) c * i.bytes):=by omega
  simp [Builtin.append_,run_underlying ht,run_underlying ht2,sizeOf,typeInfo,zeroValue,hi,hzv,hz,hlen,hn,hcast,hf2,Question.forced,h1,h2,newRow,grownCap]
end
def ClC (B:Nat) (v:Value):Prop:=Cl B v∧qv v=true
def Src (B:Nat) (h:Hp) (s:Nat) (y:Value) (m:Nat) (ys:List Value):Prop:=
 match y with
 | .string str=>s=1∧m≤str.size∧ys=(str.data.toList.take m).map λ b=>.int .u8 b.toNat
 | .slice a m' _=>m≤m'∧((m=0∧ys=[])∨(0 < m∧∃ ad,a=some ad∧h.getN ad (m * s)=some ys∧(ad.block < B→∀ v,v∈ys→ClC B v)))
 | _=>False
def lenA:Value→Option Nat
 | .string s=>some s.size
 | .slice _ n _=>some n
 | _=>none
theorem Hp.getN_some {h:Hp} {a:Addr} {n:Nat} {vs:List Value} (hg:h.getN a n=some vs):a.spot=none∧∃ cs,h.blk a.block=some cs∧a.off + n≤cs.length∧vs=(cs.drop a.off).take n:=by
 unfold Hp.getN at hg
 split at hg
 case isFalse=>simp at hg
 case isTrue hs=>
 obtain ⟨cs,hb,hv⟩:=Option.bind_eq_some_iff.1 hg
 split at hv
 case isFalse=>simp at hv
 case isTrue hle=>exact ⟨by simpa using hs,cs,hb,hle,by simpa using hv.symm⟩
theorem Hp.getN_length {h:Hp} {a:Addr} {n:Nat} {vs:List Value} (hg:h.getN a n=some vs):vs.length=n:=by
 obtain ⟨_,cs,_,hle,rfl⟩:=Hp.getN_some hg
 simp; omega
section
variable {w0:World} {ι:Inj} {h:Hp} {w:World} {P:Program}
theorem q01.cells_of (r:q01 w0 ι h w) {a:Addr} {n:Nat} {vs:List Value} (hg:h.getN a n=some vs) (hcl:a.block < w0.heap.size→∀ v,v∈vs→ClC w0.heap.size v):∀ v,v∈vs→qv v=true:=by
 intro v hv
 by_cases hb:a.block < w0.heap.size
 ·exact (hcl hb v hv).2
 ·obtain ⟨_,cs,hbk,_,rfl⟩:=Hp.getN_some hg
  exact (r.live _ cs (by omega) hbk).cell v (List.mem_of_mem_drop (List.mem_of_mem_take hv))
theorem q01.src (r:q01 w0 ι h w) {s m:Nat} {y y':Value} {ys:List Value} (hs:Src w0.heap.size h s y m ys) (hy:qy w0.heap.size h.next ι y y'):
  ∃ ys':List Value,(∀ w',w'.heap=w.heap→(Builtin.firstCells s m y').run P w'=.ok ys'.toArray w')∧q0w w0.heap.size h.next ι ys ys'∧ys.length=m * s∧∀ v,v∈ys→qv v=true:=by
 unfold Src at hs
 split at hs
 ·rename_i str
  obtain ⟨rfl,hm,rfl⟩:=hs
  obtain rfl:=hy.string_inv
  refine ⟨(str.data.toList.take m).map λ b=>.int .u8 b.toNat,λ w' _=>?_,⟨rfl,λ i v v' a b=>?_⟩,?_,λ v hv=>?_⟩
  ·simp only [Builtin.firstCells,Sem.run_pure]
   congr 1
   apply Array.ext'
   rw [Array.toList_map]
   have:(str.extract 0 m).data.toList=str.data.toList.take m:=by simp
   rw [this]
  ·rw [a] at b
   cases b
   rw [List.getElem?_map] at a
   obtain ⟨x,_,rfl⟩:=Option.map_eq_some_iff.1 a
   exact .int _ _
  ·have:str.data.toList.length=str.size:=by simp
   simp only [List.length_map,List.length_take,this]
   omega
  ·obtain ⟨b,_,rfl⟩:=List.mem_map.1 hv
   rfl
 ·rename_i a m' c
  obtain ⟨hm,h0⟩:=hs
  rcases hy.slice_inv with ⟨rfl,rfl,rfl,rfl⟩ | ⟨ad,a',c',rfl,rfl,hn,hp,_⟩
  ·obtain rfl:m=0:=by omega
   rcases h0 with ⟨_,rfl⟩ | ⟨h0,_⟩
   ·exact ⟨[],λ w' _=>by simp [Builtin.firstCells],.nil,by simp,λ v hv=>by simp at hv⟩
   ·omega
  ·rcases h0 with ⟨rfl,rfl⟩ | ⟨h0,ad',e,hg,hcl⟩
   ·exact ⟨[],λ w' _=>by simp [Builtin.firstCells,loadCells,loadCellsFrom],.nil,by simp,λ v hv=>by simp at hv⟩
   ·cases e
    obtain ⟨vs',h1,h2⟩:=r.readN (P:=P) (hp (by omega)) hg (λ hlt v hv=>(hcl hlt v hv).1)
    exact ⟨vs',λ w' hw'=>h1 w' hw',h2,Hp.getN_length hg,r.cells_of hg hcl⟩
 ·exact hs.elim
end
end
section
def Dst (B s:Nat) (h:Hp) (x:Value) (m n:Nat) (old:List Value) (h1:Hp):Prop:=
 match x with
 | .slice none n' _=>n=0∧n'=0∧old=[]∧h1=h
 | .slice (some ad) n' c=>n=n'∧((n=0∧old=[])∨(0 < n∧h.getN ad (n * s)=some old∧(ad.block < B→∀ v,v∈old→ClC B v)))∧
   if ad.block < B then c < n + m∧h1=h
   else if c=q0b then ((h.blk ad.block).isSome=true∧h.esz ad.block=s∧(h1=h.kill ad.block∨(h1=h∧0 < n∧∃ k,h.cp ad.block=some k∧k < ad.off + (n + m) * s)))
   else if c < n + m then h1=h
   else (∃ cs,h.blk ad.block=some cs∧ad.off + c * s≤cs.length)∧h.esz ad.block=s∧h1=h.kill ad.block
 | _=>False
theorem Dst.next {B s:Nat} {h h1:Hp} {x:Value} {m n:Nat} {old:List Value} (d:Dst B s h x m n old h1):h1.next=h.next:=by
 unfold Dst at d
 split at d
 ·obtain ⟨_,_,_,rfl⟩:=d; rfl
 ·obtain ⟨_,_,d⟩:=d
  split at d
  ·obtain ⟨_,rfl⟩:=d; rfl
  ·split at d
   ·obtain ⟨_,_,d⟩:=d
    rcases d with rfl | ⟨rfl,_⟩ <;> rfl
   ·split at d
    ·rw [d]
    ·obtain ⟨_,_,rfl⟩:=d; rfl
 ·exact d.elim
theorem Dst.lp {B s:Nat} {h h1:Hp} {x:Value} {m n:Nat} {old:List Value} (d:Dst B s h x m n old h1):h1.lp=h.lp:=by
 unfold Dst at d
 split at d
 ·obtain ⟨_,_,_,rfl⟩:=d; rfl
 ·obtain ⟨_,_,d⟩:=d
  split at d
  ·obtain ⟨_,rfl⟩:=d; rfl
  ·split at d
   ·obtain ⟨_,_,d⟩:=d
    rcases d with rfl | ⟨rfl,_⟩ <;> rfl
   ·split at d
    ·rw [d]
    ·obtain ⟨_,_,rfl⟩:=d; rfl
 ·exact d.elim
theorem quf {z:Array Value} {n:Nat} (hz:∀ v,v∈z.toList→qv v=true):∀ v,v∈(Builtin.zeroCells z n).toList→qv v=true:=by
 intro v hv
 unfold Builtin.zeroCells at hv
 simp only [Array.toList_map,List.mem_map] at hv
 obtain ⟨i,hi,rfl⟩:=hv
 have hi':i < n * z.size:=by simpa using hi
 have hp:0 < z.size:=Nat.pos_of_ne_zero λ e=>by rw [e] at hi'; omega
 have hm:=Nat.mod_lt i hp
 rw [getElem!_pos z (i % z.size) hm]
 exact hz _ (by simp)
theorem q0w.cells {B nx:Nat} {ι:Inj} {l l':List Value} (r:q0w B nx ι l l') (h:∀ v,v∈l→qv v=true):∀ v,v∈l'→qv v=true:=by
 intro v hv
 obtain ⟨i,hi,hv'⟩:=List.getElem_of_mem hv
 have hix:i < l.length:=by rw [r.1]; exact hi
 rw [(r.2 i l[i] v (by simp [hix]) (by rw [List.getElem?_eq_getElem hi,hv'])).isCell_eq]
 exact h _ (List.getElem_mem hix)
section
variable {w0:World} {ι:Inj} {h:Hp} {w:World} {P:Program}
theorem q20.int_inv {B nx:Nat} {ι:Inj} {ad a':Addr} (hp:q20 B nx ι ad a') (hb:B≤ad.block):ad.spot=none∧ad.block < nx∧a'=⟨(ι ad.block).β,(ι ad.block).d + ad.off,none⟩:=by
 cases hp with
 | pext _ hlt=>omega
 | pint b o h1 h2=>exact ⟨rfl,h2,rfl⟩
theorem q01.append_fit (r:q01 w0 ι h w) {ad:Addr} {a':Addr} {n m s c':Nat} {cs old ys ys':List Value} (hb:w0.heap.size≤ad.block) (hc:h.blk ad.block=some cs) (hp:q20 w0.heap.size h.next ι ad a')
  (hss:h.esz ad.block=s) (hs:0 < s) (hm:0 < m) (hroom:n + m≤c') (hrsv:ad.off + c' * s≤(ι ad.block).rsv) (hold:(n=0∧old=[])∨(0 < n∧h.getN ad (n * s)=some old))
  (hy:q0w w0.heap.size h.next ι ys ys') (hyl:ys.length=m * s) (hcell:∀ v,v∈ys→qv v=true):
  ∃ ι' w',(storeCells (a'.add (n * s)) ys').run P w=.ok () w'∧Ext ι h ι' ((h.kill ad.block).newD (old++ys) s)∧q01 w0 ι' ((h.kill ad.block).newD (old++ys) s) w' ∧
   ι' h.next=⟨(ι ad.block).β,(ι ad.block).d + ad.off,c' * s,s⟩∧a'=⟨(ι ad.block).β,(ι ad.block).d + ad.off,none⟩:=by
 obtain ⟨hsp,hlt,rfl⟩:=hp.int_inv hb
 obtain ⟨ab,ao,asp⟩:=ad
 simp only at hsp hb hc hrsv hlt ⊢
 subst hsp
 have hmul:(n + m) * s≤c' * s:=Nat.mul_le_mul_right _ hroom
 rw [Nat.add_mul] at hmul
 have hms:0 < m * s:=Nat.mul_pos hm hs
 obtain ⟨lt,len,sz,cell,row,cp,um⟩:=r.live ab cs hb hc
 obtain ⟨hB,arr,e,lo,hi,hh,g1,g2,g4,g3⟩:=row (by omega)
 have hyl':ys'.length=m * s:=by rw [← hy.1]; exact hyl
 have hcell':∀ v,v∈ys'→qv v=true:=λ v hv=>by
  obtain ⟨i,hi',hv'⟩:=List.getElem_of_mem hv
  have hix:i < ys.length:=by omega
  rw [(hy.2 i ys[i] v (by simp [hix]) (by rw [List.getElem?_eq_getElem hi',hv'])).isCell_eq]
  exact hcell _ (List.getElem_mem hix)
 obtain ⟨arr2,hrun,hs2,hk2⟩:=qud (P:=P) (ι ab).β e lo hi ys' w arr ((ι ab).d + ao + n * s) 0 hh hcell' (by omega) (λ j hj=>by omega)
 have r2:=r.update (cs2:=[]) hb hc hh (by omega) hs2 (qvf g4 hcell' hk2) (by simp) (λ v hv=>by simp at hv) (λ j v hj=>by simp at hj)
 have hoc:∀ v,v∈old→qv v=true:=λ v hv=>by
  rcases hold with ⟨_,rfl⟩ | ⟨_,hg⟩
  ·simp at hv
  ·obtain ⟨_,cs',hbk,_,rfl⟩:=Hp.getN_some hg
   simp only at hbk
   rw [hc] at hbk
   cases hbk
   exact cell v (List.mem_of_mem_drop (List.mem_of_mem_take hv))
 have hol:old.length=n * s:=by
  rcases hold with ⟨rfl,rfl⟩ | ⟨_,hg⟩
  ·simp
  ·exact Hp.getN_length hg
 have hβl:=(Array.getElem?_eq_some_iff.1 hh).1
 obtain ⟨ι',hext,hnew,hrel⟩:=r2.carve (b:=ab) (cs:=[]) (l:=old++ys) hb (by simp [Hp.put]) ao (c' * s) s (by rw [sz]; exact hss) hrsv (by simp; omega)
  (λ v hv=>by rcases List.mem_append.1 hv with h | h; exact hoc v h; exact hcell v h)
  (λ j v hj=>by
   refine ⟨arr2,e,(lo,hi),?_⟩
   by_cases hjo:j < n * s
   ·rw [List.getElem?_append_left (by omega)] at hj
    rcases hold with ⟨rfl,rfl⟩ | ⟨_,hg⟩
    ·simp at hj
    ·obtain ⟨_,cs',hbk,hle,rfl⟩:=Hp.getN_some hg
     simp only at hbk hle hj
     rw [hc] at hbk
     cases hbk
     rw [List.getElem?_take,if_pos hjo,List.getElem?_drop] at hj
     obtain ⟨v',e1,e2⟩:=g3 _ _ hj
     refine ⟨v',?_,?_,e2⟩
     ·show (w.heap.setIfInBounds _ _)[_]?=_
      rw [q3m _ _ _ _ hβl,if_pos rfl]
     ·rw [hk2,if_neg (by omega),← e1]
      congr 1
      omega
   ·rw [List.getElem?_append_right (by omega),hol] at hj
    obtain ⟨v',e1,e2⟩:=hy.get hj
    have hjy:j - n * s < ys.length:=(List.getElem?_eq_some_iff.1 hj).1
    refine ⟨v',?_,?_,e2⟩
    ·show (w.heap.setIfInBounds _ _)[_]?=_
     rw [q3m _ _ _ _ hβl,if_pos rfl]
    ·rw [hk2,if_pos (by omega),← e1]
     congr 1
     omega)
 have heq:((h.put ab []).kill ab).newD (old++ys) s=(h.kill ab).newD (old++ys) s:=by
  have e1:(λ i=>if i=h.next then some (old++ys) else if i=ab then none else if i=ab then some [] else h.blk i)=(λ i=>if i=h.next then some (old++ys) else if i=ab then none else h.blk i):=by
   funext i
   split
   ·rfl
   ·split <;> rfl
  have e2:(λ i=>if i=h.next then false else if i=ab then h.um i && ([]:List Value).all q2d else h.um i)=(λ i=>if i=h.next then false else h.um i):=by
   funext i
   split
   ·rfl
   ·split
    ·simp
    ·rfl
  unfold Hp.newD Hp.new Hp.kill Hp.put
  simp only [e1,e2]
 rw [heq] at hext hrel
 refine ⟨ι',_,?_,⟨hext.1,hext.2,hext.3⟩,hrel,hnew,by first | rfl | trivial⟩
 rw [qaa]
 exact hrun
theorem q01.append (r:q01 w0 ι h w) {t t2 ty e:TypeId} {i:TypeInfo} {z:Value} (ht:P.underlying t=some (.slice e)) (hi:P.info? e=some i) (hzv:i.zero=some z)
  {d2:TypeDesc} (ht2:P.underlying t2=some d2) (hd2:∀ k,d2≠.int k) (hs0:0 < i.size)
  {x x' y y':Value} {n m:Nat} {old ys:List Value} {h1:Hp} (hx:qy w0.heap.size h.next ι x x') (hy:qy w0.heap.size h.next ι y y')
  (hd:Dst w0.heap.size i.size h x m n old h1) (hsrc:Src w0.heap.size h i.size y m ys) (hlen:lenA y=some m) (hm:0 < m)
  (hb:(n + m) * i.bytes≤140737488355328) (h63:n + m≤140737488355328) (hzc:z.cells.size=i.size) (hzcell:∀ v,v∈z.cells.toList→qv v=true):
  ∃ ι' w' v',(Builtin.append_ #[t,t2] ty #[x',y']).run P w=.ok v' w'∧Ext ι h ι' (h1.newD (old++ys) i.size)∧q01 w0 ι' (h1.newD (old++ys) i.size) w' ∧
   qy w0.heap.size (h1.newD (old++ys) i.size).next ι' (.slice (some ⟨h.next,0,none⟩) (n + m) q0b) v':=by
 obtain ⟨ys',hfirst,hyr,hyl,hyc⟩:=r.src (P:=P) hsrc hy
 have hlen':∀ w,(Builtin.lenOf y').run P w=.ok m w:=by
  intro w
  cases hy <;> simp [lenA] at hlen <;> simp [Builtin.lenOf,hlen]
 have hbase:=r.base
 have hdl:=hd.lp
 have grow:∀ (b:Option Addr) (c':Nat) (old':List Value),x'=.slice b n c'→c' < n + m→(∀ w',w'.heap=w.heap→(Builtin.firstCells i.size n (.slice b n c')).run P w'=.ok old'.toArray w')→
   q0w w0.heap.size h.next ι old old'→old.length=n * i.size→(∀ v,v∈old→qv v=true)→∀ h1':Hp,q01 w0 ι h1' w→h1'.next=h.next→h1=h1' →
   ∃ ι' w' v',(Builtin.append_ #[t,t2] ty #[x',y']).run P w=.ok v' w'∧Ext ι h ι' (h1.newD (old++ys) i.size)∧q01 w0 ι' (h1.newD (old++ys) i.size) w' ∧
    qy w0.heap.size (h1.newD (old++ys) i.size).next ι' (.slice (some ⟨h.next,0,none⟩) (n + m) q0b) v':=by
  intro b c' old' hx' hc' hfo hor hol hoc h1' r1 hnx hh1
  subst hh1
  obtain ⟨k,hk1,hk2,hrun⟩:=q0bg (P:=P) (w:=w) ht hi hzv ht2 hd2 (b:=b) (n:=n) (c:=c') (m:=m) (ty:=ty) (hlen' w) hfirst hfo hc' hb (by omega) (.inr trivial)
  have hzl:∀ q,(Builtin.zeroCells z.cells q).size=q * i.size:=λ q=>by simp [Builtin.zeroCells,hzc]
  have hol':old'.length=n * i.size:=by rw [← hor.1]; exact hol
  have hyl':ys'.length=m * i.size:=by rw [← hyr.1]; exact hyl
  have hcs:(old'++ys'++(Builtin.zeroCells z.cells (k - (n + m))).toList).length=k * i.size:=by
   simp only [List.length_append,hol',hyl',Array.length_toList,hzl,← Nat.add_mul]
   congr 1; omega
  obtain ⟨ι',hext,hnew,hrel⟩:=(r1.drew (w.drawn + 1)).new (cs:=old++ys) (cs':=old'++ys'++(Builtin.zeroCells z.cells (k - (n + m))).toList) i.size e (0,0)
   (λ v hv=>by rcases List.mem_append.1 hv with h | h; exact hoc v h; exact hyc v h)
   (by
    have:(old'++ys'++(Builtin.zeroCells z.cells (k - (n + m))).toList).take (old++ys).length=old'++ys':=by
     rw [List.take_append_of_le_length (by simp [hor.1,hyr.1]),List.take_of_length_le (by simp [hor.1,hyr.1])]
    rw [this,hnx]
    exact hor.append hyr)
   (.inr (by simp))
   (λ v hv=>by
    rcases List.mem_append.1 hv with q | q
    ·rcases List.mem_append.1 q with q | q
     ·exact hor.cells hoc v q
     ·exact hyr.cells hyc v q
    ·exact quf hzcell v q)
  have hnew':ι' h.next=⟨w.heap.size,0,k * i.size,i.size⟩:=by rw [← hnx,hnew,hcs]
  refine ⟨ι',_,_,by rw [hx']; exact hrun,⟨by rw [← hnx]; exact hext.1,by rw [← hnx]; exact hext.2,λ b g e=>by show h1.lp b=_; rw [hdl]; exact e⟩,?_,?_⟩
  ·have:(old'.toArray++ys'.toArray++Builtin.zeroCells z.cells (k - (n + m)))=(old'++ys'++(Builtin.zeroCells z.cells (k - (n + m))).toList).toArray:=by
    apply Array.ext'
    simp
   rw [this]
   exact hrel.dim
  ·have:=qy.sint (B:=w0.heap.size) (nx:=(h1.newD (old++ys) i.size).next) (ι:=ι') h.next 0 (n + m) q0b k hbase (by show h.next < h1.next + 1; omega) hk1 (.inl ⟨rfl,by rw [hnew']; simp⟩)
   rw [hnew'] at this
   simpa using this
 unfold Dst at hd
 split at hd
 ·rename_i n' c
  obtain ⟨rfl,rfl,rfl,rfl⟩:=hd
  rcases hx.slice_inv with ⟨_,_,rfl,rfl⟩ | ⟨_,_,_,e,_⟩
  ·exact grow none 0 [] rfl (by omega) (λ w' _=>by simp [Builtin.firstCells]) .nil (by simp) (λ v hv=>by simp at hv) h1 r rfl rfl
  ·cases e
 ·rename_i ad n' c
  obtain ⟨rfl,hold,hd⟩:=hd
  rcases hx.slice_inv with ⟨e,_⟩ | ⟨ad0,a',c',e,rfl,hn,hp,hce,hcu,hcr,hext,_⟩
  ·cases e
  ·cases e
   by_cases hroom:n + m≤c'
   ·-- there is room
    have key:∃ cs,w0.heap.size≤ad.block∧h.blk ad.block=some cs∧h.esz ad.block=i.size∧ad.off + c' * i.size≤(ι ad.block).rsv∧h1=h.kill ad.block:=by
     split at hd
     ·rename_i hlt
      have:c'=c:=hce (λ e=>by have:=(hcu e).1; omega)
      omega
     ·rename_i hge
      split at hd
      ·rename_i hu
       obtain ⟨hsome,hsz,hd⟩:=hd
       obtain ⟨cs,hcs⟩:=Option.isSome_iff_exists.1 hsome
       have:=(hcr hu (by omega)).2
       rw [(r.live _ cs (by omega) hcs).sz,hsz] at this
       refine ⟨cs,by omega,hcs,hsz,Nat.le_of_eq this,?_⟩
       rcases hd with hd | ⟨-,-,k,hk,hkl⟩
       ·exact hd
       ·exfalso
        rw [(r.live _ cs (by omega) hcs).cp k hk] at this
        have h2:(n + m) * i.size≤c' * i.size:=Nat.mul_le_mul_right _ hroom
        omega
      ·rename_i hu
       have hcc:c'=c:=hce hu
       split at hd
       ·omega
       ·obtain ⟨⟨cs,hcs,hle⟩,hsz,rfl⟩:=hd
        refine ⟨cs,by omega,hcs,hsz,?_,rfl⟩
        have:=(r.live _ cs (by omega) hcs).len
        rw [hcc]
        omega
    obtain ⟨cs,hB,hcs,hsz,hrsv,rfl⟩:=key
    obtain ⟨ι',w',hst,hext',hrel,hnew,ha'⟩:=r.append_fit (P:=P) (n:=n) (m:=m) hB hcs (hp (by omega)) hsz hs0 hm hroom hrsv (by
     rcases hold with h | ⟨h0,h,_⟩
     ·exact .inl h
     ·exact .inr ⟨h0,h⟩) hyr hyl hyc
    refine ⟨ι',w',_,qk8 (P:=P) ht hi ht2 hd2 (hlen' w) (hfirst w rfl) hroom hst,hext',hrel,?_⟩
    have:=qy.sint (B:=w0.heap.size) (nx:=((h.kill ad.block).newD (old++ys) i.size).next) (ι:=ι') h.next 0 (n + m) q0b c' hbase (by show h.next < h.next + 1; omega) hroom (.inl ⟨rfl,by rw [hnew]; simp⟩)
    rw [hnew] at this
    rw [ha']
    simpa using this
   ·-- there is none
    have hoc:∀ v,v∈old→qv v=true:=by
     rcases hold with ⟨_,rfl⟩ | ⟨_,hg,hcl⟩
     ·intro v hv; simp at hv
     ·exact r.cells_of hg hcl
    have hol:old.length=n * i.size:=by
     rcases hold with ⟨rfl,rfl⟩ | ⟨_,hg,_⟩
     ·simp
     ·exact Hp.getN_length hg
    have hfo:∃ old':List Value,(∀ w',w'.heap=w.heap→(Builtin.firstCells i.size n (.slice (some a') n c')).run P w'=.ok old'.toArray w')∧q0w w0.heap.size h.next ι old old':=by
     rcases hold with ⟨rfl,rfl⟩ | ⟨h0,hg,hcl⟩
     ·exact ⟨[],λ w' _=>by simp [Builtin.firstCells,loadCells,loadCellsFrom],.nil⟩
     ·obtain ⟨vs',g1,g2⟩:=r.readN (P:=P) (hp (by omega)) hg (λ hlt v hv=>(hcl hlt v hv).1)
      exact ⟨vs',g1,g2⟩
    obtain ⟨old',hf1,hf2⟩:=hfo
    have hh1:h1=h∨(w0.heap.size≤ad.block∧h1=h.kill ad.block):=by
     split at hd
     ·exact .inl hd.2
     ·split at hd
      ·rcases hd.2.2 with q | q
       ·exact .inr ⟨by omega,q⟩
       ·exact .inl q.1
      ·split at hd
       ·exact .inl hd
       ·exact .inr ⟨by omega,hd.2.2⟩
    rcases hh1 with rfl | ⟨hB,rfl⟩
    ·exact grow _ c' old' rfl (by omega) hf1 hf2 hol hoc h1 r rfl rfl
    ·exact grow _ c' old' rfl (by omega) hf1 hf2 hol hoc _ (r.kill _ hB) rfl rfl
 ·exact hd.elim
end
end
section
abbrev qh:=Value→Hp→Prop
def qg (w0:World) (x:Value) (K:qh) (h:Hp):Prop:=
 ∃ ad v,x=.pointer (some ad)∧h.get ad=some v∧(ad.block < w0.heap.size→Cl w0.heap.size v)∧K v h
def qw (w0:World) (x:Value) (n:Nat) (K:qh) (h:Hp):Prop:=
 ∃ ad vs,x=.pointer (some ad)∧h.getN ad n=some vs∧(ad.block < w0.heap.size→∀ v,v∈vs→ClC w0.heap.size v)∧K (.agg vs.toArray) h
def q0q (w0:World) (x v:Value) (K:qh) (h:Hp):Prop:=
 ∃ b o cs,x=.pointer (some ⟨b,o,none⟩)∧w0.heap.size≤b∧h.blk b=some cs∧o < cs.length∧qv v=true∧K undef (h.put b (cs.set o v))
def q0k (w0:World) (x v:Value) (n:Nat) (K:qh) (h:Hp):Prop:=
 ∃ b o cs vs,x=.pointer (some ⟨b,o,none⟩)∧w0.heap.size≤b∧v=.agg vs∧vs.size=n∧h.blk b=some cs∧o + n≤cs.length∧K undef (h.put b (splice cs o vs.toList))
def q02 (x:Value) (K:qh) (h:Hp):Prop:=((∃ ad,x=.pointer (some ad))∨(∃ f a b,x=.func (.func f) a b)∨∃ b,x=.func (.yield b) #[] #[])∧K x h
def qk (x:Value) (off:Nat) (K:qh) (h:Hp):Prop:=∃ ad,x=.pointer (some ad)∧K (.pointer (some (ad.add off))) h
def qb (o:Option Value) (K:qh) (h:Hp):Prop:=∃ v,o=some v∧K v h
def q0a (c a b:Value) (K:qh) (h:Hp):Prop:=∃ q,c=.bool q∧K (bif q then a else b) h
def q0u (cs:List Value) (s:Nat) (K:qh) (h:Hp):Prop:=(∀ v,v∈cs→qv v=true)∧K (.pointer (some ⟨h.next,0,none⟩)) (h.new cs s)
def q15 (agg:Bool) (s:Nat) (v:Value) (K:qh) (h:Hp):Prop:=
 bif agg then ∃ vs,v=.agg vs∧K (.pointer (some ⟨h.next,0,none⟩)) (h.new vs.toList s)
 else qv v=true∧K (.pointer (some ⟨h.next,0,none⟩)) (h.new [v] s)
def q37:List (Nat × Nat × Bool × Value)→List Value→(List Value→Hp→Prop)→Hp→Prop
 | [],cs,K,h=>K cs h
 | (off,size,agg,v) :: r,cs,K,h=>
  bif agg then ∃ vs,v=.agg vs∧vs.size=size∧off + size≤cs.length∧q37 r (splice cs off vs.toList) K h
  else qv v=true∧off < cs.length∧q37 r (cs.set off v) K h
def q04 (s:Nat) (x i:Value) (K:qh) (h:Hp):Prop:=
 ∃ ad n c k j,x=.slice (some ad) n c∧i=.int k j∧0≤j∧j < (n:Int)∧K (.pointer (some (ad.add (j.toNat * s)))) h
def q3i (len s:Nat) (x i:Value) (K:qh) (h:Hp):Prop:=
 ∃ ad k j,x=.pointer (some ad)∧i=.int k j∧0≤j∧j < (len:Int)∧K (.pointer (some (ad.add (j.toNat * s)))) h
def q34 (op:BinOp) (k:IntKind) (a b:Int):Option Value:=
 match op with
 | .add=>some (.int k (k.wrap (a + b)))
 | .sub=>some (.int k (k.wrap (a - b)))
 | .mul=>some (.int k (k.wrap (a * b)))
 | .quo=>if b=0 then none else some (.int k (k.wrap (a.tdiv b)))
 | .rem=>if b=0 then none else some (.int k (a.tmod b))
 | .and=>some (.int k (k.wrap (BitVec.ofInt k.bits a &&& BitVec.ofInt k.bits b).toNat))
 | .or=>some (.int k (k.wrap (BitVec.ofInt k.bits a ||| BitVec.ofInt k.bits b).toNat))
 | .xor=>some (.int k (k.wrap (BitVec.ofInt k.bits a ^^^ BitVec.ofInt k.bits b).toNat))
 | .andNot=>some (.int k (k.wrap (BitVec.ofInt k.bits a &&& ~~~(BitVec.ofInt k.bits b)).toNat))
 | .eql=>some (.bool (a == b))
 | .neq=>some (.bool (a != b))
 | .lss=>some (.bool (a < b))
 | .leq=>some (.bool (a≤b))
 | .gtr=>some (.bool (a > b))
 | .geq=>some (.bool (a ≥ b))
 | _=>none
def q5t (op:BinOp) (x y:ByteArray):Option Value:=
 match op with
 | .add=>if x.size + y.size≤9223372036854775807 then some (.string (x++y)) else none
 | .eql=>some (.bool (x.toList == y.toList))
 | .neq=>some (.bool (!(x.toList == y.toList)))
 | .lss=>some (.bool (Op.bytesLess x.toList y.toList))
 | .leq=>some (.bool (Op.bytesLess x.toList y.toList || x.toList == y.toList))
 | .gtr=>some (.bool (!(Op.bytesLess x.toList y.toList || x.toList == y.toList)))
 | .geq=>some (.bool (!Op.bytesLess x.toList y.toList))
 | _=>none
def qd (op:BinOp) (x y:Value):Option Value:=
 match x,y with
 | .int k a,.int k' b=>
  match op with
  | .shl=>if b < 0 then none else some (.int k (k.wrap (a * 2 ^ (min b.toNat k.bits))))
  | .shr=>if b < 0 then none else some (.int k (a.fdiv (2 ^ (min b.toNat k.bits))))
  | op=>if k=k' then q34 op k a b else none
 | .string a,.string b=>q5t op a b
 | _,_=>none
def q5r (op:BinOp) (b:Bool):Option Value:=
 match op with
 | .eql=>some (.bool b)
 | .neq=>some (.bool (!b))
 | _=>none
def q9b (op:BinOp) (x y:Value):Option Value:=
 match x,y with
 | .bool a,.bool b=>q5r op (a == b)
 | _,_=>none
def q1g (op:BinOp) (x y:Value):Option Value:=
 match x,y with
 | .pointer none,.pointer b=>q5r op b.isNone
 | .pointer (some _),.pointer none=>q5r op false
 | _,_=>none
def q3k (op:BinOp) (x y:Value):Option Value:=
 match x,y with
 | .slice none _ _,.slice b _ _=>q5r op b.isNone
 | .slice (some _) _ _,.slice none _ _=>q5r op false
 | _,_=>none
def qd0 (op:BinOp) (x y:Value):Option Value:=
 match x,y with
 | .nilFunc,.nilFunc=>q5r op true
 | .nilFunc,.func _ _ _=>q5r op false
 | .func _ _ _,.nilFunc=>q5r op false
 | _,_=>none
def q18:Value→Bool
 | .bool _=>true
 | .int _ _=>true
 | .string _=>true
 | _=>false
def q9r (P:Program) (op:BinOp) (T:TypeId) (x y:Value) (K:qh) (h:Hp):Prop:=
 ∃ xs ys q,x=.agg xs∧y=.agg ys∧(∀ v,v∈xs.toList→q18 v=true)∧(∀ v,v∈ys.toList→q18 v=true)∧
  (∀ w,(binOp op T x y).run P w=.ok (.bool q) w)∧(∀ w,(eqGuard op T (.tmp 0) (.tmp 0) x y).run P w=.ok () w)∧K (.bool q) h
def unA (op:UnOp) (x:Value):Option Value:=
 match op,x with
 | .neg,.int k n=>some (.int k (k.wrap (0 - n)))
 | .xor,.int k n=>some (.int k (k.wrap (BitVec.ofInt k.bits (if k.signed then -1 else k.max) ^^^ BitVec.ofInt k.bits n).toNat))
 | .not,.bool b=>some (.bool (!b))
 | _,_=>none
def q0t (k:IntKind) (x:Value):Option Value:=
 match x with
 | .int _ n=>some (.int k (k.wrap n))
 | _=>none
def strOf (x:Value):Option Value:=
 match x with
 | .string s=>some (.string s)
 | _=>none
def q1z (w0:World) (x:Value) (K:qh) (h:Hp):Prop:=
 ∃ (a:Option Addr) (n c:Nat) (ys:List Int),x=.slice a n c∧Src w0.heap.size h 1 x n (ys.map λ q:Int=>.int .u8 q)∧K (.string ⟨(ys.map λ q:Int=>UInt8.ofNat q.toNat).toArray⟩) h
def q00d (w0:World) (x:Value) (K:qh) (h:Hp):Prop:=
 ∃ b o n c cs,x=.slice (some ⟨b,o,none⟩) n c∧0 < n∧w0.heap.size≤b∧h.blk b=some cs∧0 < cs.length∧h.esz b=1∧(∃ v,v∈cs∧q2d v=false)∧K x h
def q9s (x:Value) (K:qh) (h:Hp):Prop:=
 ∃ s,x=.string s∧s.size≤140737488355328∧K (.slice (some ⟨h.next,0,none⟩) s.size q0b) (h.new (s.data.toList.map λ b=>.int .u8 b.toNat) 1)
def q00 (z:List Value) (n:Nat):List Value:=(List.replicate n z).flatten
def mkA (s bytes:Nat) (z:List Value) (l c:Value) (K:qh) (h:Hp):Prop:=
 ∃ (kl kc:IntKind) (n m:Nat),l=.int kl (n:Int)∧c=.int kc (m:Int)∧n≤m∧bytes * m≤281474976710656∧m≤281474976710656∧
  K (.slice (some ⟨h.next,0,none⟩) n m) (h.new (q00 z m) s)
def q2p (o:Option Value) (d:Nat):Option Nat:=
 match o with
 | none=>some d
 | some (.int _ i)=>if 0≤i then some i.toNat else none
 | _=>none
def q2y (x:Value) (lo hi:Option Value):Option Value:=
 match x with
 | .string s=>
  match q2p lo 0,q2p hi s.size with
  | some l,some u=>if l≤u∧u≤s.size then some (.string (s.extract l u)) else none
  | _,_=>none
 | _=>none
def q00g (h:Hp) (a:Option Addr) (n s u:Nat):Prop:=0 < s∧n < u∧∃ ad cs,a=some ad∧h.blk ad.block=some cs∧ad.off + u * s≤cs.length
def q1e (s:Nat) (x:Value) (lo hi mx:Option Value) (K:qh) (h:Hp):Prop:=
 ∃ a n c l u,x=.slice a n c∧q2p lo 0=some l∧q2p hi n=some u∧l≤u∧(mx.isSome=true→hi.isSome=true)∧
  match mx with
  | none=>
   if c=q0b then (u≤n∨q00g h a n s u)∧∃ ad,a=some ad∧h.esz ad.block=s∧(∃ cs,h.blk ad.block=some cs)∧K (.slice (some (ad.add (l * s))) (u - l) q0b) h
   else u≤c∧K (.slice (if c=l then a else a.map (·.add (l * s))) (u - l) (c - l)) h
  | some mv=>∃ m,q2p (some mv) 0=some m∧u≤m∧m < q0b∧m≤(if c=q0b then n else c)∧K (.slice (if m=l then a else a.map (·.add (l * s))) (u - l) (m - l)) h
def qn8 (len s:Nat) (x:Value) (lo hi:Option Value) (K:qh) (h:Hp):Prop:=
 ∃ ad l u,x=.pointer (some ad)∧q2p lo 0=some l∧q2p hi len=some u∧l≤u∧u≤len∧len < q0b∧
  K (.slice (some (if len=l then ad else ad.add (l * s))) (u - l) (len - l)) h
def qd8 (agg:Bool) (off s:Nat) (cs:Array Value):Option Value:=
 bif agg then some (.agg (cs.extract off (off + s))) else cs[off]?
def qd9 (agg:Bool) (off s:Nat) (x:Value):Option Value:=
 match x with
 | .agg cs=>qd8 agg off s cs
 | _=>none
def q3t (x i:Value):Option Value:=
 match x,i with
 | .string s,.int _ j=>if 0≤j then (s[j.toNat]?).map λ b=>.int .u8 b.toNat else none
 | _,_=>none
def q5m (agg:Bool) (len s:Nat) (x i:Value):Option Value:=
 match x,i with
 | .agg cs,.int _ j=>if 0≤j∧j < (len:Int) then qd8 agg (j.toNat * s) s cs else none
 | _,_=>none
def q0g (x:Value) (i:Nat):Option Value:=
 match x with
 | .tuple vs=>vs[i]?
 | _=>none
def q9q (x y:Value):Option Value:=
 match x,y with
 | .int k a,.int _ b=>some (.int k (if b > a then b else a))
 | _,_=>none
def q6n (x y:Value):Option Value:=
 match x,y with
 | .int k a,.int _ b=>some (.int k (if b < a then b else a))
 | _,_=>none
def q3x (f:Value→Value→Option Value):Value→List Value→Option Value
 | x,[]=>some x
 | x,y :: r=>(f x y).bind λ v=>q3x f v r
inductive q0h (w0:World) (s bytes:Nat) (x y:Value) (K:qh) (h:Hp):Prop
 | mk (m:Nat) (g0:lenA y=some m) (g1:(m=0→(∃ a n c,x=.slice a n c)∧K x h)) (g2:(0 < m→∃ n old ys h1,Dst w0.heap.size s h x m n old h1∧Src w0.heap.size h s y m ys∧(n + m) * bytes≤140737488355328∧n + m≤140737488355328∧
   K (.slice (some ⟨h.next,0,none⟩) (n + m) q0b) (h1.newD (old++ys) s))):q0h w0 s bytes x y K h
 | fit (m n b o:Nat) (cs ys:List Value) (g0:lenA y=some m) (g1:x=.slice (some ⟨b,o,none⟩) n q0b) (g2:0 < m) (g3:0 < s) (g4:w0.heap.size≤b) (g5:h.blk b=some cs) (g6:h.esz b=s) (g7:o + (n + m) * s≤cs.length)
   (g8:Src w0.heap.size h s y m ys) (g9:K (.slice (some ⟨b,o,none⟩) (n + m) q0b) (h.put b (splice cs (o + n * s) ys))):q0h w0 s bytes x y K h
inductive q4h (w0:World) (s:Nat) (x y:Value) (K:qh) (h:Hp):Prop
 | mk (a:Option Addr) (n c m:Nat) (g0:x=.slice a n c) (g1:lenA y=some m) (g2:(min m n=0→K (.int .i64 0) h)) (g3:(0 < min m n→∃ b o cs ys,a=some ⟨b,o,none⟩∧w0.heap.size≤b∧h.blk b=some cs∧o + min m n * s≤cs.length∧Src w0.heap.size h s y (min m n) ys∧
   K (.int .i64 (min m n:Nat)) (h.put b (splice cs o ys)))):q4h w0 s x y K h
inductive qn3 (w0:World) (s:Nat) (z:List Value) (x:Value) (K:qh) (h:Hp):Prop
 | mk (a:Option Addr) (n c:Nat) (g0:x=.slice a n c) (g1:(n=0→K undef h)) (g2:(0 < n→∃ b o cs,a=some ⟨b,o,none⟩∧w0.heap.size≤b∧h.blk b=some cs∧o + n * s≤cs.length∧K undef (h.put b (splice cs o (q00 z n))))):qn3 w0 s z x K h
def Hp.fill (h:Hp) (b k:Nat) (cs:List Value):Hp:={ h with blk:=λ i=>if i=b then some (cs++List.replicate (k - cs.length) unk) else h.blk i,cp:=λ i=>if i=b then some k else h.cp i,um:=λ i=>if i=b then false else h.um i }
def qhb (w0:World) (s:Nat) (x:Value) (K:qh) (h:Hp):Prop:=
 ∃ a n c,x=.slice a n c∧if c=q0b then
  (0 < n∧∃ b o cs,a=some ⟨b,o,none⟩∧w0.heap.size≤b∧h.blk b=some cs∧o < cs.length∧h.esz b=s∧∀ c':Nat,n≤c'→cs.length≤o + c' * s→K (.int .i64 (c':Int)) (h.fill b (o + c' * s) cs))
  else K (.int .i64 (c:Int)) h
def qh7 (w0:World) (s bytes:Nat) (z:List Value) (x y:Value) (K:qh) (h:Hp):Prop:=
 ∃ b o n m k kk old,x=.slice (some ⟨b,o,none⟩) n q0b∧y=.int kk ((m:Nat):Int)∧0 < m∧w0.heap.size≤b∧h.getN ⟨b,o,none⟩ (n * s)=some old∧h.esz b=s∧h.cp b=some k∧k < o + (n + m) * s∧
  (n + m) * bytes≤140737488355328∧n + m≤140737488355328∧K (.slice (some ⟨h.next,0,none⟩) (n + m) q0b) (h.new (old++q00 z m) s)
def ovX (P:Program) (f:FuncId):Prop:=
 ∃ fn tr t e,P.funcs[f]?=some fn∧(fn.name == "runtime.NumGoroutine")=false∧fn.body.isNone=true∧Extern.findNext fn=none∧Extern.find fn=some (Extern.SlicesOverlaps.overlaps #[t,t] #[tr])∧
  P.underlying t=some (.slice e)∧(P.info? e).isSome=true
def scX (P:Program) (f:FuncId):Prop:=
 ∃ fn,P.funcs[f]?=some fn∧(fn.name == "runtime.NumGoroutine")=false∧fn.body.isNone=true∧Extern.findNext fn=none∧Extern.find fn=some Extern.BytealgCompare.compare
def ovA (P:Program) (w0:World) (f:FuncId) (x y:Value) (K:qh) (h:Hp):Prop:=
 (ovX P f∧∃ b o n c b' o' n' c' cs cs',x=.slice (some ⟨b,o,none⟩) n c∧y=.slice (some ⟨b',o',none⟩) n' c'∧b≠b'∧w0.heap.size≤b∧w0.heap.size≤b'∧h.blk b=some cs∧h.blk b'=some cs' ∧
  o < cs.length∧o' < cs'.length∧0 < n∧0 < n'∧(h.um b=true∨h.esz b≠1)∧K (.bool false) h) ∨
 (scX P f∧∃ a b,x=.string a∧y=.string b∧K (.int .i64 (Lib.compareBytes a.data.toList b.data.toList)) h)
def ovL (P:Program) (w0:World) (f:FuncId) (args:List Value) (K:qh) (h:Hp):Prop:=
 match args with
 | [x,y]=>ovA P w0 f x y K h
 | _=>False
def qf (P:Program) (w0:World) (f:FuncId) (args:List Value) (h:Hp) (R:qh):Prop:=
 (∀ v,v∈args→v≠junk)∧∀ (ι:Inj) (w:World) (args':Array Value),q01 w0 ι h w→q0w w0.heap.size h.next ι args args'.toList→
  CallsIn Fence.wide 0 P f args' w λ e w'=>∃ v' ι' h' v,e=.returned v'∧Ext ι h ι' h'∧q01 w0 ι' h' w'∧qy w0.heap.size h'.next ι' v v'∧R v h'
theorem qf.mono {P:Program} {w0:World} {f:FuncId} {args:List Value} {h:Hp} {R R':qh} (c:qf P w0 f args h R) (hr:∀ v h',R v h'→R' v h'):qf P w0 f args h R' :=
 ⟨c.1,λ ι w args' r v=>(c.2 ι w args' r v).mono λ e w' ⟨v',ι',h',v,a,b,c,d,e⟩=>⟨v',ι',h',v,a,b,c,d,hr _ _ e⟩⟩
def qaw (P:Program) (f:FuncId):Bool:=
 match P.funcs[f]? with
 | some fn=>fn.body.isSome && !(fn.name == "runtime.NumGoroutine")
 | none=>false
def q4e (P:Program) (w0:World) (b:Nat) (args:List Value) (h:Hp) (R:qh):Prop:=
 (∀ v,v∈args→v≠junk)∧∀ (ι:Inj) (w:World) (args':Array Value),q01 w0 ι h w→q0w w0.heap.size h.next ι args args'.toList→
  ∃ f tmps as bd,(Instr.yield (ι b).β args').run P w=.ok (.round (ι b).β f tmps as bd) w∧
   RoundIn Fence.wide 0 P (ι b).β f tmps as bd w λ e w'=>∃ v' ι' h' v,e=.returned v'∧Ext ι h ι' h'∧q01 w0 ι' h' w'∧qy w0.heap.size h'.next ι' v v'∧R v h'
theorem q4e.mono {P:Program} {w0:World} {b:Nat} {args:List Value} {h:Hp} {R R':qh} (c:q4e P w0 b args h R) (hr:∀ v h',R v h'→R' v h'):q4e P w0 b args h R' :=
 ⟨c.1,λ ι w args' r v=>by
  obtain ⟨f,tmps,as,bd,e,k⟩:=c.2 ι w args' r v
  exact ⟨f,tmps,as,bd,e,k.mono λ e w' ⟨v',ι',h',v,a,b,c,d,e⟩=>⟨v',ι',h',v,a,b,c,d,hr _ _ e⟩⟩⟩
def q1n (P:Program) (w0:World) (fv:Value) (args:List Value) (K:qh) (h:Hp):Prop:=
 (∃ f a c,fv=.func (.func f) a c∧qaw P f=true∧qf P w0 f (a.toList++args++c.toList) h K)∨∃ b,fv=.func (.yield b) #[] #[]∧q4e P w0 b args h K
section
variable (P:Program)
def szT (t:TypeId):Nat:=((P.info? t).map (·.size)).getD 0
def byT (t:TypeId):Nat:=((P.info? t).map (·.bytes)).getD 0
def q1o (t:TypeId):List Value:=(((P.info? t).bind (·.zero)).map (·.cells.toList)).getD []
def q2g (t:TypeId):Bool:=match P.underlying t with | some (.struct _)=>true | some (.array _ _)=>true | _=>false
def q5j:Value→Bool
 | .bool _=>true
 | .int _ _=>true
 | .string _=>true
 | .pointer none=>true
 | .slice none 0 0=>true
 | .nilFunc=>true
 | _=>false
def okT (t:TypeId):Bool:=
 match P.info? t with
 | some i=>
  match i.zero with
  | some z=>z.cells.size == i.size && z.cells.toList.all q5j && (P.underlying t).isSome && (match z with | .agg _=>q2g P t | .tuple _=>false | _=>!(q2g P t))
  | none=>false
 | none=>false
end
def upd (t:Fr) (d:Nat) (v:Value):Fr:=λ i=>if i=d then v else t i
def q44 (t:Fr) (d:Option Nat) (v:Value):Fr:=match d with | some d=>upd t d v | none=>t
def qh1:Value→Value
 | .agg cs=>if cs.toList.all q5j then .agg cs else junk
 | v=>if q5j v then v else junk
def ev (n:Nat) (t:Fr):Operand→Value
 | .tmp i=>if i < n then t i else junk
 | .const v=>qh1 v
 | .global _=>junk
 | .func f=>.func (.func f) #[] #[]
end
end Go.Proofs.YtfmoemconapmhaaGreat.Ah
