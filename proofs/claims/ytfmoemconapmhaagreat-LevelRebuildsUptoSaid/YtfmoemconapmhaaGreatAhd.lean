/- The words' soundness, continued: conversions that make memory, make, slices, lengths, append, copy, clear. -/
import Derived.Test.YtfmoemconapmhaaGreatAhc
import Derived.Lib.AppendZerosOnto
import Derived.Lib.Overlaps
set_option linter.all false
namespace Go.Proofs.YtfmoemconapmhaaGreat.Ah
open Go
section
section
variable {P:Program} {w0:World} {ι:Inj} {h:Hp} {w:World} {K:qh}
theorem q01.freeze_at (r:q01 w0 ι h w) {b:Nat} {arr:Array Value} {e:TypeId} {fr:Nat × Nat} (hb:w.heap[b]?=some (.cells arr e fr)) (hB:w0.heap.size≤b)
  (hu:∀ i cs,w0.heap.size≤i→h.blk i=some cs→(ι i).β=b→0 < (ι i).rsv→(ι i).sz=1∧h.um i=false):q01 w0 ι h (w.freeze ⟨b,arr.size,none⟩ 1):=by
 obtain ⟨flo,fhi⟩:=fr
 have hlt:=(Array.getElem?_eq_some_iff.1 hb).1
 have hw:(w.freeze ⟨b,arr.size,none⟩ 1).heap=w.heap.setIfInBounds b (.cells arr e (if flo == fhi then (arr.size,arr.size + 1) else (min flo arr.size,max fhi (arr.size + 1)))):=by
  unfold World.freeze
  rw [if_neg (by simp)]
  apply Array.ext_getElem?
  intro k
  simp only
  rw [Array.getElem?_modify,q3m _ _ _ _ hlt]
  by_cases hk:k=b
  ·rw [hk,if_pos rfl,if_pos rfl,hb]
   rfl
  ·rw [if_neg (λ e=>hk e.symm),if_neg hk]
 have hfz:(w.freeze ⟨b,arr.size,none⟩ 1).os=w.os∧(w.freeze ⟨b,arr.size,none⟩ 1).tape=w.tape∧(w.freeze ⟨b,arr.size,none⟩ 1).output=w.output:=by
  unfold World.freeze; rw [if_neg (by simp)]; exact ⟨rfl,rfl,rfl⟩
 refine ⟨r.base,by rw [hw]; simpa using r.size,λ i hi=>?_,r.exta,hfz.1.trans r.os,hfz.2.1.trans r.tape,hfz.2.2.trans r.output,λ i c hi hc=>?_,r.apart,r.loops.cells hb λ i hi=>by rw [hw,q3m _ _ _ _ hlt,if_neg hi]⟩
 ·rw [hw,q3m _ _ _ _ hlt,if_neg (by omega)]
  exact r.ext i hi
 ·obtain ⟨lt,len,sz,cell,row,cp,um⟩:=r.live i c hi hc
  refine ⟨lt,len,sz,cell,λ hp=>?_,cp,λ hq=>⟨(um hq).1,λ arr1 e1 lo hi1 hp hh=>?_⟩⟩
  rotate_left
  ·by_cases hbb:(ι i).β=b
   ·rw [(hu i c hi hc hbb hp).2] at hq; cases hq
   ·rw [hw,q3m _ _ _ _ hlt,if_neg hbb] at hh
    exact (um hq).2 _ _ _ _ hp hh
  obtain ⟨hB',arr1,e1,lo,hi1,hh,g1,g2,g3⟩:=row hp
  by_cases hbb:(ι i).β=b
  ·have h1:=(hu i c hi hc hbb hp).1
   rw [hbb,hb] at hh
   obtain ⟨rfl,rfl,rfl,rfl⟩:arr=arr1∧e=e1∧flo=lo∧fhi=hi1:=by simpa using hh
   by_cases he:flo=fhi
   ·refine ⟨hB',arr,e,arr.size,arr.size + 1,by rw [hw,hbb,q3m _ _ _ _ hlt,if_pos rfl,if_pos (by simpa using he)],g1,.inr ⟨Nat.le_refl _,h1⟩,g3⟩
   ·have g4:=(g2.resolve_left he).1
    refine ⟨hB',arr,e,min flo arr.size,max fhi (arr.size + 1),by rw [hw,hbb,q3m _ _ _ _ hlt,if_pos rfl,if_neg (by simpa using he)],g1,.inr ⟨by omega,h1⟩,g3⟩
  ·exact ⟨hB',arr1,e1,lo,hi1,by rw [hw,q3m _ _ _ _ hlt,if_neg hbb]; exact hh,g1,g2,g3⟩
theorem q0e8 {src e:TypeId} {x x':Value} (hs:P.underlying src=some (.slice e)) (he:P.underlying e=some (.int .u8)) (r:q01 w0 ι h w)
  (hx:x≠junk→qy w0.heap.size h.next ι x x') (hv:q00d w0 x K h):q1j w0 ι h K ((convert src src x').run P w):=by
 obtain ⟨b,o,n,c,cs,rfl,hn,hB,hb,hl,hesz,⟨u,hu1,hu2⟩,hk⟩:=hv
 have hx:=hx (by simp [junk])
 have hum:h.um b=false:=by
  cases hq:h.um b with
  | false=>rfl
  | true=>have:=((r.live b cs hB hb).um hq).1 u hu1; rw [hu2] at this; cases this
 have hlen:=(r.live b cs hB hb).len
 have hsz:=(r.live b cs hB hb).sz
 obtain ⟨hβ,arr,e1,lo,hi,hh,-⟩:=(r.live b cs hB hb).row (by omega)
 cases hx with
 | sext _ _ _ hlt=>simp at hlt; omega
 | szero=>omega
 | sempty=>omega
 | sint _ _ _ _ c' h1 h2 h3 h4=>
  have hsh:w.shape? (ι b).β=some (e1,arr.size):=by unfold World.shape?; rw [hh]
  have hrun:(convert src src (.slice (some ⟨(ι b).β,(ι b).d + o,none⟩) n c')).run P w=.ok (.slice (some ⟨(ι b).β,(ι b).d + o,none⟩) n c') (w.freeze ⟨(ι b).β,arr.size,none⟩ 1):=by
   simp only [convert,Sem.run_bind,q1b hs,q1b he,Result.andThen_ok,beq_self_eq_true,Sem.run_pure,markStringish,run_shape,hsh]
   rfl
  rw [hrun]
  exact ⟨ι,h,_,Ext.refl _ _,r.freeze_at hh hβ (λ i cs' hi hc he hp=>by
   by_cases hib:i=b
   ·subst hib; exact ⟨by rw [hsz]; exact hesz,hum⟩
   ·have:=r.apart i b cs' cs hi hB hc hb hib
    unfold Pl.apart at this
    omega),.inr (.sint b o n c c' h1 h2 h3 h4),hk⟩
theorem q0g1 (w:World) (a:Array Value) (e:TypeId) (f:Nat × Nat):(w.alloc (.cells a e f)).shape? w.heap.size=some (e,a.size):=by
 have:(w.alloc (.cells a e f)).heap[w.heap.size]?=some (.cells a e f):=by
  show (w.heap.push _)[w.heap.size]?=_
  simp
 unfold World.shape?
 rw [this]
theorem q0gi {src dst e:TypeId} {x x':Value} (hs:P.underlying src=some .string) (hd:P.underlying dst=some (.slice e)) (he:P.underlying e=some (.int .u8)) (r:q01 w0 ι h w)
  (hx:x≠junk→qy w0.heap.size h.next ι x x') (hv:q9s x K h):q1j w0 ι h K ((convert src dst x').run P w):=by
 obtain ⟨s,rfl,hsz,hk⟩:=hv
 obtain rfl:=(hx (by simp [junk])).string_inv
 let cap:=grownCap w s.size 0 e
 have hcap:s.size≤cap:=grownCap_ge _ _ _ _
 have hcapu:cap < q0b:=by
  have hlt:=Nat.mod_lt (w.tape w.drawn (.appendCap s.size 0 e)) (show 0 < 2 ^ 63 - s.size by omega)
  simp only [cap,grownCap,Question.cut,q0b] at hlt ⊢
  omega
 let bytes:List Value:=s.data.toList.map λ b=>.int .u8 b.toNat
 let row:List Value:=bytes++List.replicate (cap - s.size) (.int .u8 0)
 have hbl:bytes.length=s.size:=by simp [bytes]
 have hrl:row.length=cap:=by simp [row,hbl]; omega
 obtain ⟨ι',hext,hnew,hrel⟩:=(r.drew (w.drawn + 1)).new (cs:=bytes) (cs':=row) 1 e (0,0)
  (λ v hv=>by obtain ⟨b,_,rfl⟩:=List.mem_map.1 hv; rfl)
  (by
   have:row.take bytes.length=bytes:=by simp [row]
   rw [this]
   refine ⟨rfl,λ i v v' a b=>?_⟩
   rw [a] at b
   cases b
   simp only [bytes,List.getElem?_map] at a
   obtain ⟨x,_,rfl⟩:=Option.map_eq_some_iff.1 a
   exact .int _ _) (.inr (by simp)) (λ v hv=>by
   rcases List.mem_append.1 hv with q | q
   ·obtain ⟨b,_,rfl⟩:=List.mem_map.1 q; rfl
   ·rw [List.eq_of_mem_replicate q]; rfl)
 have hblk:(({ w with drawn:=w.drawn + 1 }:World).alloc (.cells row.toArray e (0,0))).heap[w.heap.size]?=some (.cells row.toArray e (0,0)):=by
  show (w.heap.push _)[w.heap.size]?=_
  simp
 have hrel2:=hrel.freeze_at hblk r.size (λ i cs' hi hc he hp=>by
  by_cases hih:i=h.next
  ·subst hih
   refine ⟨by rw [hnew],?_⟩
   show (if h.next=h.next then !bytes.isEmpty && bytes.all q2d else h.um h.next)=false
   rw [if_pos rfl]
   simp only [bytes]
   cases s.data.toList with
   | nil=>rfl
   | cons b l=>simp [q2d]
  ·exfalso
   have hc':h.blk i=some cs':=by
    have:(if i=h.next then some bytes else h.blk i)=some cs':=hc
    rwa [if_neg hih] at this
   have hl:=r.live i cs' hi hc'
   rw [hext.ag i hl.lt] at he hp
   obtain ⟨_,arr,_,_,_,hh,_⟩:=hl.row hp
   have:=(Array.getElem?_eq_some_iff.1 hh).1
   omega)
 have hrun:(convert src dst (.string s)).run P w=.ok (.slice (some ⟨w.heap.size,0,none⟩) s.size cap) ((({ w with drawn:=w.drawn + 1 }:World).alloc (.cells row.toArray e (0,0))).freeze ⟨w.heap.size,row.toArray.size,none⟩ 1):=by
  have hrow:(s.data.map (λ b=>Value.int .u8 b.toNat)++Array.replicate (cap - s.size) (.int .u8 0))=row.toArray:=by
   apply Array.ext'
   simp [row,bytes]
  simp only [convert,Sem.run_bind,q1b hs,q1b hd,q1b he,Result.andThen_ok,Conv.stringToBytes,run_choose,Question.forced,Bool.false_eq_true,if_false,newRow,run_newObj,Sem.run_pure,markStringish,run_shape]
  have hc0:Question.cut (.appendCap s.size 0 e) (w.tape w.drawn (.appendCap s.size 0 e))=cap:=rfl
  simp only [hc0,hrow]
  have hsh:=q0g1 ({ w with drawn:=w.drawn + 1 }:World) row.toArray e (0,0)
  have hsh':({ heap:=w.heap.push (Obj.cells row.toArray e),tape:=w.tape,drawn:=w.drawn + 1,os:=w.os,output:=w.output }:World).shape? w.heap.size=some (e,row.toArray.size):=hsh
  rw [hsh']
  rfl
 rw [hrun]
 refine ⟨ι',h.new bytes 1,_,hext,hrel2,.inr ?_,hk⟩
 have:=qy.sint (B:=w0.heap.size) (nx:=(h.new bytes 1).next) (ι:=ι') h.next 0 s.size q0b cap r.base (by simp [Hp.new]) hcap (.inl ⟨rfl,by rw [hnew]; simp [hrl]⟩)
 rw [hnew] at this
 simpa using this
theorem qab (z:List Value) (n:Nat):(q00 z n).length=n * z.length:=by simp [q00]
theorem q0gg (z:List Value) (n:Nat) (j:Nat) (hj:j < n * z.length):(q00 z n)[j]?=z[j % z.length]?:=by
 induction n generalizing j with
 | zero=>simp at hj
 | succ n ih=>
  have hz:0 < z.length:=by rcases Nat.eq_zero_or_pos z.length with h | h; rw [h] at hj; simp at hj; exact h
  simp only [q00,List.replicate_succ,List.flatten_cons]
  by_cases h1:j < z.length
  ·rw [List.getElem?_append_left h1,Nat.mod_eq_of_lt h1]
  ·rw [List.getElem?_append_right (by omega)]
   rw [Nat.add_mul,Nat.one_mul] at hj
   have:=ih (j - z.length) (by omega)
   simp only [q00] at this
   rw [this,Nat.mod_eq_sub_mod (a:=j) (by omega)]
theorem qfl {z:Array Value} {n:Nat}:((Array.range (n * z.size)).map (z[· % z.size]!)).toList=q00 z.toList n:=by
 apply List.ext_getElem?
 intro j
 by_cases hj:j < n * z.size
 ·rw [q0gg _ _ _ (by simpa using hj)]
  have hz:0 < z.size:=by rcases Nat.eq_zero_or_pos z.size with h | h; rw [h] at hj; simp at hj; exact h
  have hm:j % z.size < z.size:=Nat.mod_lt _ hz
  simp [hj,hm]
 ·rw [List.getElem?_eq_none (by simp; omega),List.getElem?_eq_none (by rw [qab]; simp; omega)]
theorem q6a {l:List Value} (hl:∀ v,v∈l→q5j v=true):∀ v,v∈l→qv v=true:=λ v hv=>(qc1 (B:=0) (hl v hv)).2
theorem q74 {z:List Value} {n:Nat} {v:Value} (hv:v∈q00 z n):v∈z:=by
 simp only [q00,List.mem_flatten,List.mem_replicate] at hv
 obtain ⟨l,⟨_,rfl⟩,hv⟩:=hv
 exact hv
theorem q0je {T e:TypeId} {l l' c c':Value} (hT:P.underlying T=some (.slice e)) (ho:okT P e=true) (r:q01 w0 ι h w) (hl:l≠junk→qy w0.heap.size h.next ι l l') (hc:c≠junk→qy w0.heap.size h.next ι c c')
  (hv:mkA (szT P e) (byT P e) (q1o P e) l c K h):q1j w0 ι h K ((Instr.makeSlice T l' c').run P w):=by
 obtain ⟨kl,kc,n,m,rfl,rfl,hnm,hb,hm,hk⟩:=hv
 obtain rfl:=(hl (by simp [junk])).int_inv
 obtain rfl:=(hc (by simp [junk])).int_inv
 obtain ⟨ti,z,d,hti,hz,hd,hzs,hs,hby,hzt,hcst,hagg,hzr⟩:=q2n ho
 rw [hby] at hb
 obtain ⟨ι',he,hr,_,hsl⟩:=qbu (e:=e) (s:=szT P e) (cs:=q00 (q1o P e) m) (cs':=q00 (q1o P e) m) r (λ v hv=>q6a hcst v (by rw [hzt] at hv; exact q74 hv))
  (q94 λ v hv=>hcst v (by rw [hzt] at hv; exact q74 hv))
 have hb':(ti.bytes:Int) * (m:Int)≤281474976710656:=by
  have h:((ti.bytes * m:Nat):Int)≤281474976710656:=by omega
  rwa [Int.natCast_mul] at h
 have hrun:=run_make (P:=P) w T e ti z hT hti hz kl kc (n:Int) (m:Int) (by omega) (by omega) hb' (by omega)
 simp only [Int.toNat_natCast] at hrun
 have hzz:madeCells z.cells (m * ti.size)=(q00 (q1o P e) m).toArray:=by
  have:=qfl (z:=z.cells) (n:=m)
  apply Array.ext'
  rw [hzt,← this,hzs]
  unfold madeCells
  rw [hzs]
 rw [hzz] at hrun
 rw [hrun]
 refine ⟨ι',_,_,he,hr,.inr ?_,hk⟩
 exact hsl n m hnm (by unfold q0b; omega)
theorem q0ep {o:Option Value} {d l:Nat} (hb:q2p o d=some l):(o=none∧l=d)∨∃ k i,o=some (.int k i)∧0≤i∧l=i.toNat:=by
 unfold q2p at hb
 split at hb
 ·exact .inl ⟨rfl,by simpa using hb.symm⟩
 ·rename_i k i
  split at hb
  ·exact .inr ⟨k,i,rfl,by assumption,by simpa using hb.symm⟩
  ·simp at hb
 ·simp at hb
def q5b (B nx:Nat) (ι:Inj) (o o':Option Value):Prop:=(o=none∧o'=none)∨∃ v v',o=some v∧o'=some v'∧(v≠junk→qy B nx ι v v')
theorem q5b.bound {B nx:Nat} {ι:Inj} {o o':Option Value} {d l:Nat} (hr:q5b B nx ι o o') (hb:q2p o d=some l):(o'=none∧l=d)∨∃ k,o'=some (.int k (l:Int)):=by
 rcases q0ep hb with ⟨rfl,rfl⟩ | ⟨k,i,rfl,h0,rfl⟩
 ·rcases hr with ⟨_,rfl⟩ | ⟨_,_,e,_⟩
  ·exact .inl ⟨rfl,rfl⟩
  ·cases e
 ·rcases hr with ⟨e,_⟩ | ⟨v,v',e,rfl,hv⟩
  ·cases e
  ·cases e
   obtain rfl:=(hv (by simp [junk])).int_inv
   exact .inr ⟨k,by rw [Int.toNat_of_nonneg h0]⟩
theorem run_sliceBound (k:IntKind) (l y:Nat) (code:BoundsCode) (hle:l≤y) (w:World):(Instr.sliceBound (.int k (l:Int)) y code).run P w=.ok l w:=by
 simp [Instr.sliceBound,asIntOf]
 intro hh
 omega
theorem qk4 {isSl:Bool} {len cap l u m:Nat} {lo hi mx:Option Value} (h1:(lo=none∧l=0)∨∃ k,lo=some (.int k (l:Int))) (h2:(hi=none∧u=len)∨∃ k,hi=some (.int k (u:Int)))
  (h3:(mx=none∧m=cap)∨((∃ k,mx=some (.int k (m:Int)))∧hi.isSome=true)) (hlu:l≤u) (hum:u≤m) (hmc:m≤cap) (w:World):
  (Instr.sliceBounds isSl len cap lo hi mx).run P w=.ok (l,u,m) w:=by
 unfold Instr.sliceBounds
 have b1:=λ k code=>run_sliceBound (P:=P) k l u code hlu w
 have b2:=λ k code=>run_sliceBound (P:=P) k u m code hum w
 have b3:=λ k code=>run_sliceBound (P:=P) k m cap code hmc w
 rcases h3 with ⟨rfl,rfl⟩ | ⟨⟨km,rfl⟩,hsome⟩
 ·rcases h2 with ⟨rfl,rfl⟩ | ⟨k2,rfl⟩
  ·rcases h1 with ⟨rfl,rfl⟩ | ⟨k1,rfl⟩ <;> simp [b1]
  ·rcases h1 with ⟨rfl,rfl⟩ | ⟨k1,rfl⟩ <;> simp [b1,b2]
 ·rcases h2 with ⟨rfl,rfl⟩ | ⟨k2,rfl⟩
  ·simp at hsome
  ·rcases h1 with ⟨rfl,rfl⟩ | ⟨k1,rfl⟩ <;> simp [b1,b2,b3]
theorem q0ga {T:TypeId} {x v:Value} {lo hi lo' hi':Option Value} (hT:P.underlying T=some .string) (hl:q5b w0.heap.size h.next ι lo lo') (hh:q5b w0.heap.size h.next ι hi hi') (hv:q2y x lo hi=some v):
  q18 x=true∧(Instr.sliceAt T x lo' hi' none).run P w=.ok v w∧q18 v=true:=by
 unfold q2y at hv
 split at hv
 ·rename_i s
  split at hv
  ·rename_i l u e1 e2
   split at hv
   ·rename_i hle
    cases hv
    refine ⟨rfl,?_,rfl⟩
    have:=qk4 (P:=P) (isSl:=false) (len:=s.size) (cap:=s.size) (m:=s.size) (mx:=none) (hl.bound e1) (hh.bound e2) (.inl ⟨rfl,rfl⟩) hle.1 hle.2 (Nat.le_refl _) w
    simp [Instr.sliceAt,Instr.slice,q1b hT,this]
   ·simp at hv
  ·simp at hv
 ·simp at hv
theorem q20.slice {B nx:Nat} {ι:Inj} {ad a':Addr} (hp:q20 B nx ι ad a') {n c:Nat} (hn:n≤c) (hc:c < q0b):qy B nx ι (.slice (some ad) n c) (.slice (some a') n c):=by
 cases hp with
 | pext _ hlt=>exact .sext _ _ _ hlt hn hc
 | pint b o h1 h2=>exact .sint _ _ _ _ _ h1 h2 hn (.inr ⟨rfl,hc⟩)
theorem qxo {B nx:Nat} {ι:Inj} {ad a':Addr} {c' l u m s:Nat} (hp:0 < c'→q20 B nx ι ad a') (h0:c'=0→qy B nx ι (.slice (some ad) 0 0) (.slice (some a') 0 0)) (hlu:l≤u) (hum:u≤m) (hmc:m≤c') (hu:m < q0b):
  qy B nx ι (.slice (if m=l then some ad else (some ad).map (·.add (l * s))) (u - l) (m - l)) (.slice (if m=l then some a' else (some a').map (·.add (l * s))) (u - l) (m - l)):=by
 by_cases hc:c'=0
 ·obtain rfl:m=0:=by omega
  obtain rfl:u=0:=by omega
  obtain rfl:l=0:=by omega
  simpa using h0 hc
 ·have hp:=hp (by omega)
  split
  ·exact hp.slice (by omega) (by omega)
  ·exact (hp.add _).slice (by omega) (by omega)
theorem q0g0 {T e:TypeId} {x x':Value} {lo hi mx lo' hi' mx':Option Value} (hT:P.underlying T=some (.slice e)) (ho:okT P e=true) (r:q01 w0 ι h w) (hx:x≠junk→qy w0.heap.size h.next ι x x')
  (hl:q5b w0.heap.size h.next ι lo lo') (hh:q5b w0.heap.size h.next ι hi hi') (hm:q5b w0.heap.size h.next ι mx mx') (hv:q1e (szT P e) x lo hi mx K h):
  q1j w0 ι h K ((Instr.sliceAt T x' lo' hi' mx').run P w):=by
 obtain ⟨a,n,c,l,u,rfl,e1,e2,hlu,hsome,hv⟩:=hv
 have hx:=hx (by simp [junk])
 obtain ⟨ti,z,d,hti,_,_,_,hs,_⟩:=q2n ho
 have hrun:∀ (a':Option Addr) (c' m:Nat),((mx'=none∧m=c')∨((∃ k,mx'=some (.int k (m:Int)))∧hi'.isSome=true))→u≤m→m≤c' →
   (Instr.sliceAt T (.slice a' n c') lo' hi' mx').run P w=.ok (.slice (if m=l then a' else a'.map (·.add (l * szT P e))) (u - l) (m - l)) w:=by
  intro a' c' m h3 hum hmc
  have:=qk4 (P:=P) (isSl:=true) (len:=n) (cap:=c') (m:=m) (mx:=mx') (hl.bound e1) (hh.bound e2) h3 hlu hum hmc w
  simp [Instr.sliceAt,Instr.slice,q1b hT,this,q31 hti,hs]
 have hisome:mx.isSome=true→hi'.isSome=true:=λ h=>by
  have:=hsome h
  rcases hh with ⟨rfl,_⟩ | ⟨_,_,_,rfl,_⟩
  ·simp at this
  ·rfl
 rcases hx.slice_inv with ⟨rfl,rfl,rfl,rfl⟩ | ⟨ad,a',c',rfl,rfl,hn,hp,hce,hcu,hcr,hext,hcl,hc0⟩
 ·-- nil
  have hz:l=0∧u=0:=by
   split at hv
   ·rw [if_neg (by decide)] at hv; omega
   ·obtain ⟨m,_,_,_,hmc,_⟩:=hv; rw [if_neg (by decide)] at hmc; omega
  obtain ⟨rfl,rfl⟩:=hz
  split at hv
  ·rw [if_neg (by decide)] at hv
   have hm':mx'=none:=by rcases hm with ⟨_,h⟩ | ⟨_,_,e,_⟩; exact h; cases e
   rw [hrun none 0 0 (.inl ⟨hm',rfl⟩) (by omega) (by omega)]
   simp at hv ⊢
   exact .mk r .snil hv
  ·obtain ⟨m,em,_,_,hmc,hk⟩:=hv
   rw [if_neg (by decide)] at hmc
   obtain rfl:m=0:=by omega
   rcases hm.bound em with ⟨e,_⟩ | h3
   ·rcases hm with ⟨e',_⟩ | ⟨_,_,e',e'',_⟩
    ·cases e'
    ·rw [e''] at e; cases e
   ·rw [hrun none 0 0 (.inr ⟨h3,hisome rfl⟩) (by omega) (by omega)]
    simp at hk ⊢
    exact .mk r .snil hk
 ·have hadd:∀ (q:Nat),0 < c'→q20 w0.heap.size h.next ι (ad.add q) (a'.add q):=λ q h0=>(hp h0).add q
  split at hv
  ·-- no third index
   have hm':mx'=none:=by rcases hm with ⟨_,h⟩ | ⟨_,_,e,_⟩; exact h; cases e
   by_cases hcu':c=q0b
   ·rw [if_pos hcu'] at hv
    obtain ⟨hun,ad0,e0,hsz,⟨cs,hlive⟩,hk⟩:=hv
    cases e0
    obtain ⟨hB,hsp⟩:=hcu hcu'
    have hun:u≤c':=by
     rcases hun with q | ⟨q7,q,ad1,cs1,e1,q1,q2⟩
     ·omega
     ·cases e1
      have q4:=(r.live _ cs1 hB q1).len
      have h0:0 < c':=by
       rcases Nat.eq_zero_or_pos c' with e9 | e9
       ·have q8:=(hc0 hcu' e9).2
        have q9:0 < u * szT P e:=Nat.mul_pos (by omega) q7
        omega
       ·exact e9
      have q3:=(hcr hcu' h0).2
      have q4:=(r.live _ cs1 hB q1).len
      have q5:h.esz ad.block=szT P e:=hsz
      rw [(r.live _ cs1 hB q1).sz,q5] at q3
      have q6:u * szT P e≤c' * szT P e:=by omega
      exact Nat.le_of_mul_le_mul_right q6 q7
    rw [hrun (some a') c' c' (.inl ⟨hm',rfl⟩) (by omega) (Nat.le_refl _)]
    refine .mk r ?_ hk
    obtain ⟨ab,ao,asp⟩:=ad
    simp only at hsp hB hlive hsz
    subst hsp
    rw [qaa]
    by_cases hcq:c'=l
    ·rw [if_pos hcq,show u - l=0 by omega,show c' - l=0 by omega]
     refine .szero _ _ _ _ hB (.inl ⟨rfl,?_⟩)
     rcases Nat.eq_zero_or_pos c' with e0 | e0
     ·have:=hc0 hcu' e0
      exact ⟨this.1,Nat.le_trans this.2 (Nat.le_add_right _ _)⟩
     ·have:=hcr hcu' e0
      refine ⟨this.1,?_⟩
      rw [← this.2,(r.live ab cs hB hlive).sz,hsz,hcq]
      exact Nat.le_refl _
    ·rw [if_neg hcq]
     have h0:0 < c':=by omega
     obtain ⟨_,hlt,rfl⟩:=(hp h0).int_inv hB
     obtain ⟨_,hbd⟩:=hcr hcu' h0
     simp only [Option.map_some,qaa]
     rw [(r.live ab cs hB hlive).sz,hsz] at hbd
     rw [Nat.add_assoc]
     refine .sint ab (ao + l * szT P e) (u - l) q0b (c' - l) hB hlt (by omega) (.inl ⟨rfl,?_⟩)
     rw [(r.live ab cs hB hlive).sz,hsz,Nat.sub_mul]
     have:l * szT P e≤c' * szT P e:=Nat.mul_le_mul_right _ (by omega)
     simp only at hbd
     omega
   ·rw [if_neg hcu'] at hv
    obtain ⟨huc,hk⟩:=hv
    have hcc:=hce hcu'
    subst hcc
    rw [hrun (some a') c' c' (.inl ⟨hm',rfl⟩) (by omega) (Nat.le_refl _)]
    refine .mk r ?_ hk
    exact qxo hp (λ e=>by
     have hn0:n=0:=by omega
     rw [e,hn0] at hx
     exact hx) hlu huc (Nat.le_refl _) (hcl hcu')
  ·rename_i mv
   obtain ⟨m,em,hum,hmu,hmc,hk⟩:=hv
   have hmc':m≤c':=by
    by_cases hcu':c=q0b
    ·rw [if_pos hcu'] at hmc; omega
    ·rw [if_neg hcu'] at hmc; rw [hce hcu']; exact hmc
   have h3:∃ k,mx'=some (.int k (m:Int)):=by
    rcases hm.bound em with ⟨e,_⟩ | h3
    ·rcases hm with ⟨e',_⟩ | ⟨_,_,e',e'',_⟩
     ·cases e'
     ·rw [e''] at e; cases e
    ·exact h3
   rw [hrun (some a') c' m (.inr ⟨h3,hisome rfl⟩) hum hmc']
   refine .mk r ?_ hk
   refine qxo hp (λ e=>?_) hlu hum hmc' hmu
   by_cases hcu':c=q0b
   ·obtain ⟨hB,hsp⟩:=hcu hcu'
    obtain ⟨ab,ao,asp⟩:=ad
    simp only at hsp hB
    subst hsp
    exact .szero _ _ _ _ hB (.inr rfl)
   ·have:=hce hcu'
    rw [e] at hx hn
    have hn0:n=0:=by omega
    rw [← this,e,hn0] at hx
    exact hx
theorem q0et {T e:TypeId} {len:Nat} {x x':Value} {lo hi lo' hi':Option Value} (hT:P.underlying T=some (.array len e)) (ho:okT P e=true) (r:q01 w0 ι h w) (hx:x≠junk→qy w0.heap.size h.next ι x x')
  (hl:q5b w0.heap.size h.next ι lo lo') (hh:q5b w0.heap.size h.next ι hi hi') (hv:qn8 len (szT P e) x lo hi K h):q1j w0 ι h K ((Instr.sliceAt T x' lo' hi' none).run P w):=by
 obtain ⟨ad,l,u,rfl,e1,e2,hlu,hul,hlen,hk⟩:=hv
 have hp:=hx (by simp [junk])
 obtain ⟨a',rfl⟩:=q20.of hp
 obtain ⟨ti,z,d,hti,_,_,_,hs,_⟩:=q2n ho
 have:=qk4 (P:=P) (isSl:=false) (len:=len) (cap:=len) (m:=len) (mx:=none) (hl.bound e1) (hh.bound e2) (.inl ⟨rfl,rfl⟩) hlu hul (Nat.le_refl _) w
 have hrun:(Instr.sliceAt T (.pointer (some a')) lo' hi' none).run P w=.ok (.slice (some (if len=l then a' else a'.add (l * szT P e))) (u - l) (len - l)) w:=by
  simp [Instr.sliceAt,Instr.sureAddr,q1b hT,this,q31 hti,hs]
 rw [hrun]
 refine .mk r ?_ hk
 split
 ·exact q20.slice hp (by omega) (by omega)
 ·exact q20.slice (q20.add hp _) (by omega) (by omega)
theorem q0kh {S f:Nat} {fs:Array Field} {fd:Field} {x x' v:Value} (hS:P.underlying S=some (.struct fs)) (hf:fs[f]?=some fd) (ho:okT P fd.type=true)
  (hx:x≠junk→qy w0.heap.size h.next ι x x') (hv:qd9 (q2g P fd.type) fd.offset (szT P fd.type) x=some v):∃ v',(Instr.field S x' f).run P w=.ok v' w∧qy w0.heap.size h.next ι v v':=by
 unfold qd9 at hv
 split at hv
 ·rename_i cs
  have hx:=hx (by simp [junk])
  cases hx with
  | agg _ cs' hc h1 h2=>
   obtain ⟨v',hr,hvr⟩:=qyi (P:=P) (w:=w) (h:=h) (ι:=ι) (w0:=w0) ho hc h1 h2 hv
   exact ⟨v',by simp [Instr.field,q1b hS,hf,asAgg,hr],hvr⟩
 ·simp at hv
theorem q0ff {T:TypeId} {x i v:Value} (hT:P.underlying T=some .string) (hv:q3t x i=some v):q18 x=true∧q18 i=true∧(Instr.index T x i).run P w=.ok v w∧q18 v=true:=by
 unfold q3t at hv
 split at hv
 ·rename_i s k j
  split at hv
  ·rename_i h0
   obtain ⟨b,hb,rfl⟩:=Option.map_eq_some_iff.1 hv
   refine ⟨rfl,rfl,?_,rfl⟩
   simp [Instr.index,asIntOf,q1b hT,h0,hb]
  ·simp at hv
 ·simp at hv
theorem q0gt {T e:TypeId} {len:Nat} {x x' i i' v:Value} (hT:P.underlying T=some (.array len e)) (ho:okT P e=true) (hx:x≠junk→qy w0.heap.size h.next ι x x') (hi:i≠junk→qy w0.heap.size h.next ι i i')
  (hv:q5m (q2g P e) len (szT P e) x i=some v):∃ v',(Instr.index T x' i').run P w=.ok v' w∧qy w0.heap.size h.next ι v v':=by
 unfold q5m at hv
 split at hv
 ·rename_i cs k j
  split at hv
  ·rename_i h0
   obtain rfl:=(hi (by simp [junk])).int_inv
   have hx:=hx (by simp [junk])
   obtain ⟨ti,z,d,hti,_,_,_,hs,_⟩:=q2n ho
   cases hx with
   | agg _ cs' hc h1 h2=>
    obtain ⟨v',hr,hvr⟩:=qyi (P:=P) (w:=w) (h:=h) (ι:=ι) (w0:=w0) ho hc h1 h2 hv
    rw [hs] at hr
    exact ⟨v',by simp [Instr.index,asIntOf,q1b hT,h0,q31 hti,hr],hvr⟩
  ·simp at hv
 ·simp at hv
theorem q0k8 {x x' v:Value} {i:Nat} (hx:x≠junk→qy w0.heap.size h.next ι x x') (hv:q0g x i=some v):∃ v',(Instr.extract x' i).run P w=.ok v' w∧qy w0.heap.size h.next ι v v':=by
 unfold q0g at hv
 split at hv
 ·rename_i vs
  have hx:=hx (by simp [junk])
  cases hx with
  | tuple _ vs' hc h1=>
   have hi:i < vs'.size:=by rw [← hc]; exact (Array.getElem?_eq_some_iff.1 hv).1
   exact ⟨vs'[i],by simp [Instr.extract,hi],h1 i v _ hv (by simp [hi])⟩
 ·simp at hv
theorem q0jt {x y v:Value} (hv:q9q x y=some v):q18 x=true∧q18 y=true∧(Builtin.max2 x y).run P w=.ok v w∧q18 v=true:=by
 unfold q9q at hv
 split at hv
 ·cases hv; exact ⟨rfl,rfl,rfl,rfl⟩
 ·simp at hv
theorem q0ij {x y v:Value} (hv:q6n x y=some v):q18 x=true∧q18 y=true∧(Builtin.min2 x y).run P w=.ok v w∧q18 v=true:=by
 unfold q6n at hv
 split at hv
 ·cases hv; exact ⟨rfl,rfl,rfl,rfl⟩
 ·simp at hv
theorem qxg {f:Value→Value→Option Value} {g:Value→Value→Sem Value} (hf:∀ x y v,f x y=some v→q18 x=true∧q18 y=true∧(g x y).run P w=.ok v w∧q18 v=true):
  ∀ (l:List Value) (x v:Value),q3x f x l=some v→l≠[]→(∀ y,y∈x :: l→q18 y=true)∧(l.foldlM g x).run P w=.ok v w∧q18 v=true:=by
 intro l
 induction l with
 | nil=>intro x v _ hne; exact absurd rfl hne
 | cons y r ih=>
  intro x v hv _
  simp only [q3x] at hv
  obtain ⟨u,hu,hv⟩:=Option.bind_eq_some_iff.1 hv
  obtain ⟨h1,h2,h3,h4⟩:=hf x y u hu
  by_cases hr:r=[]
  ·subst hr
   simp only [q3x,Option.some.injEq] at hv
   subst hv
   exact ⟨λ z hz=>by simp at hz; rcases hz with rfl | rfl <;> assumption,by simp [h3],h4⟩
  ·obtain ⟨g1,g2,g3⟩:=ih u v hv hr
   refine ⟨λ z hz=>?_,by simp [h3,g2],g3⟩
   simp only [List.mem_cons] at hz
   rcases hz with rfl | rfl | hz
   ·exact h1
   ·exact h2
   ·exact g1 z (by simp [hz])
end
end
section
section
variable {P:Program} {w0:World} {ι:Inj} {h:Hp} {w:World} {K:qh}
theorem qlm {x x':Value} {m:Nat} (hl:lenA x=some m) (hx:qy w0.heap.size h.next ι x x') (w:World):(Builtin.lenOf x').run P w=.ok m w:=by
 cases hx <;> simp [lenA] at hl <;> simp [Builtin.lenOf,hl]
theorem qwm {T T2 ty e:TypeId} {d2:TypeDesc} {x x' y y':Value} (hT:P.underlying T=some (.slice e)) (hT2:P.underlying T2=some d2) (hd2:∀ k,d2≠.int k) (ho:okT P e=true) (hs0:szT P e≠0)
  (r:q01 w0 ι h w) (hx:x≠junk→qy w0.heap.size h.next ι x x') (hy:y≠junk→qy w0.heap.size h.next ι y y') (hv:q0h w0 (szT P e) (byT P e) x y K h):
  q1j w0 ι h K ((Builtin.append_ #[T,T2] ty #[x',y']).run P w):=by
 obtain ⟨ti,z,d,hti,hz,hd,hzs,hs,hby,hzt,hcst,hagg,hzr⟩:=q2n ho
 cases hv
 case fit m n b o cs ys hlen hxe hm hs0' hB hb hsz hle hsrc hk=>
  subst hxe
  have hx:=hx (by simp [junk])
  have hy:=hy (by intro e; rw [e] at hlen; simp [lenA,junk] at hlen)
  have hl:=r.live b cs hB hb
  have hll:=hl.len
  have hmul:(n + m) * szT P e=n * szT P e + m * szT P e:=Nat.add_mul _ _ _
  have hms:0 < m * szT P e:=Nat.mul_pos hm hs0'
  rcases hx.slice_inv with ⟨e1,_⟩ | ⟨ad,a',c',e1,rfl,hn,hp,hce,hcu,hcr,hext,hcl,hc0⟩
  ·cases e1
  ·cases e1
   have hc:0 < c':=by
    rcases Nat.eq_zero_or_pos c' with e9 | e9
    ·have q8:=(hc0 rfl e9).2
     simp only at q8
     omega
    ·exact e9
   have hq:=(hcr rfl hc).2
   rw [hl.sz,hsz] at hq
   simp only at hq
   have hroom:n + m≤c':=by
    have:(n + m) * szT P e≤c' * szT P e:=by omega
    exact Nat.le_of_mul_le_mul_right this hs0'
   obtain ⟨ys',hfirst,hyr,hyl,hyc⟩:=r.src (P:=P) hsrc hy
   rw [hs] at hfirst hyl
   have hp':=(hp hc).add (n * szT P e)
   rw [qaa] at hp'
   obtain ⟨w',hst,hrel⟩:=r.storeN (P:=P) (xs:=ys) (xs':=ys') hp' hB hb (by rw [hyl,← hs]; omega) hyc hyr
   have:=qk8 (P:=P) (w:=w) (ty:=ty) hT hti hT2 hd2 (a:=a') (n:=n) (c:=c') (m:=m) (y:=y') (news:=ys'.toArray) (w':=w') (qlm hlen hy w) (hfirst w rfl) hroom (by rw [← hs]; exact hst)
   rw [this]
   refine ⟨ι,h.put b (splice cs (o + n * szT P e) ys),_,⟨Nat.le_refl _,λ _ _=>rfl,λ _ _ e=>e⟩,hrel,.inr ?_,hk⟩
   obtain ⟨_,hlt,rfl⟩:=(hp hc).int_inv hB
   exact .sint b o (n + m) q0b c' hB hlt hroom (.inl ⟨rfl,by rw [hl.sz,hsz]; exact hq⟩)
 rename_i m hlen h0 h1
 have hy:=hy (by intro e; rw [e] at hlen; simp [lenA,junk] at hlen)
 by_cases hm:m=0
 ·subst hm
  obtain ⟨⟨a,n,c,rfl⟩,hk⟩:=h0 rfl
  have hx:=hx (by simp [junk])
  have hlen':=qlm (P:=P) hlen hy w
  have hfirst:(Builtin.firstCells ti.size 0 y').run P w=.ok #[] w:=by
   cases hy <;> simp [lenA] at hlen <;> simp [Builtin.firstCells,loadCells,loadCellsFrom,hlen]
  rcases hx.slice_inv with ⟨rfl,rfl,rfl,rfl⟩ | ⟨ad,a',c',rfl,rfl,hn,_⟩
  ·have:(Builtin.append_ #[T,T2] ty #[.slice none 0 0,y']).run P w=.ok (.slice none 0 0) w:=by
    have hz:(match d2 with | .int _=>true | _=>false)=false:=by
     cases d2 <;> first | rfl | exact absurd rfl (hd2 _)
    simp [Builtin.append_,q1b hT,q1b hT2,sizeOf,typeInfo,hti,hz,hlen',hfirst]
   rw [this]
   exact .mk r hx hk
  ·have:=qk8 (P:=P) (w:=w) (ty:=ty) hT hti hT2 hd2 (a:=a') (n:=n) (c:=c') (m:=0) (y:=y') (news:=#[]) (w':=w) hlen' hfirst (by omega) (by simp [storeCells])
   rw [this]
   exact .mk r hx hk
 ·obtain ⟨n,old,ys,h1',hd1,hsrc,hb,h63,hk⟩:=h1 (by omega)
  have hx:=hx (by intro e; rw [e] at hd1; simp [Dst,junk] at hd1)
  rw [hs] at hd1 hsrc hk
  rw [hby] at hb
  obtain ⟨ι',w',v',hrun,hext,hrel,hvr⟩:=r.append (P:=P) (ty:=ty) hT hti hz hT2 hd2 (by omega) hx hy hd1 hsrc hlen (by omega) hb h63 hzs (q6a hcst)
  rw [hrun]
  exact ⟨ι',_,_,hext,hrel,.inr hvr,hk⟩
theorem q0g4 {T T2 ty e:TypeId} {x x' y y':Value} (hT:P.underlying T=some (.slice e)) (ho:okT P e=true)
  (r:q01 w0 ι h w) (hx:x≠junk→qy w0.heap.size h.next ι x x') (hy:y≠junk→qy w0.heap.size h.next ι y y') (hv:q4h w0 (szT P e) x y K h) (at_:Array TypeId) (hat:at_[0]?=some T):
  q1j w0 ι h K ((Builtin.copy_ at_ ty #[x',y']).run P w):=by
 obtain ⟨a,n,c,m,rfl,hlen,h0,h1⟩:=hv
 obtain ⟨ti,z,d,hti,hz,hd,hzs,hs,hby,hzt,hcst,hagg,hzr⟩:=q2n ho
 have hy:=hy (by intro e; rw [e] at hlen; simp [lenA,junk] at hlen)
 have hx:=hx (by simp [junk])
 have hlen':=qlm (P:=P) hlen hy w
 have hmin:Nat.min m n=min m n:=rfl
 by_cases hm:min m n=0
 ·have hk:=h0 hm
  have hfirst:(Builtin.firstCells ti.size 0 y').run P w=.ok #[] w:=by
   cases hy <;> simp [lenA] at hlen <;> simp [Builtin.firstCells,loadCells,loadCellsFrom]
  rcases hx.slice_inv with ⟨rfl,rfl,rfl,rfl⟩ | ⟨ad,a',c',rfl,rfl,hn,_⟩
  ·have:(Builtin.copy_ at_ ty #[.slice none 0 0,y']).run P w=.ok (.int .i64 0) w:=by
    simp [Builtin.copy_,hat,q1b hT,hlen',q31 hti,hfirst,goInt,Nat.min_def]
   rw [this]
   exact .mk r (.int _ _) hk
  ·have:(Builtin.copy_ at_ ty #[.slice (some a') n c',y']).run P w=.ok (.int .i64 0) w:=by
    simp [Builtin.copy_,hat,q1b hT,hlen',q31 hti,hmin,hm,hfirst,goInt,storeCells]
   rw [this]
   exact .mk r (.int _ _) hk
 ·obtain ⟨b,o,cs,ys,rfl,hB,hc,hle,hsrc,hk⟩:=h1 (by omega)
  clear h0 h1
  obtain ⟨ys',hfirst,hyr,hyl,hyc⟩:=r.src (P:=P) hsrc hy
  rcases hx.slice_inv with ⟨e1,_⟩ | ⟨ad,a',c',e1,rfl,hn,hp,_⟩
  ·cases e1
  ·cases e1
   have hp:=hp (by omega)
   rw [hs] at hle hyl hfirst
   obtain ⟨w',hst,hrel⟩:=r.storeN (P:=P) hp hB hc (by rw [hyl]; exact hle) hyc hyr
   have:(Builtin.copy_ at_ ty #[.slice (some a') n c',y']).run P w=.ok (.int .i64 (min m n:Nat)) w':=by
    simp [Builtin.copy_,hat,q1b hT,hlen',q31 hti,hmin,hfirst w rfl,hst,goInt]
   rw [this]
   exact ⟨ι,h.put b (splice cs o ys),_,⟨Nat.le_refl _,λ _ _=>rfl,λ _ _ e=>e⟩,hrel,.inr (.int _ _),hk⟩
theorem q0ds {T ty e:TypeId} {x x':Value} (hT:P.underlying T=some (.slice e)) (ho:okT P e=true)
  (r:q01 w0 ι h w) (hx:x≠junk→qy w0.heap.size h.next ι x x') (hv:qn3 w0 (szT P e) (q1o P e) x K h):
  q1j w0 ι h K ((Builtin.clear_ #[T] ty #[x']).run P w):=by
 obtain ⟨a,n,c,rfl,h0,h1⟩:=hv
 obtain ⟨ti,z,d,hti,hz,hd,hzs,hs,hby,hzt,hcst,hagg,hzr⟩:=q2n ho
 have hx:=hx (by simp [junk])
 have hund:qy w0.heap.size h.next ι undef undef:=.tuple _ _ rfl (λ i v v' h=>by simp at h)
 rcases hx.slice_inv with ⟨rfl,rfl,rfl,rfl⟩ | ⟨ad,a',c',rfl,rfl,hn,hp,_⟩
 ·have:(Builtin.clear_ #[T] ty #[.slice none 0 0]).run P w=.ok undef w:=by
   simp [Builtin.clear_,q1b hT,undef]
  rw [this]
  exact .mk r hund (h0 rfl)
 ·by_cases hn0:n=0
  ·subst hn0
   have:(Builtin.clear_ #[T] ty #[.slice (some a') 0 c']).run P w=.ok undef w:=by
    simp [Builtin.clear_,q1b hT,undef]
   rw [this]
   exact .mk r hund (h0 rfl)
  ·obtain ⟨b,o,cs,e1,hB,hc,hle,hk⟩:=h1 (by omega)
   clear h0 h1
   cases e1
   have hp:=hp (by omega)
   have hzl:(q00 (q1o P e) n).length=n * szT P e:=by rw [qab,hzt,hs]; simp [hzs]
   obtain ⟨w',hst,hrel⟩:=r.storeN (P:=P) (xs:=q00 (q1o P e) n) (xs':=q00 (q1o P e) n) hp hB hc (by rw [hzl]; exact hle) (λ v hv=>q6a hcst v (by rw [hzt] at hv; exact q74 hv))
    (q94 λ v hv=>hcst v (by rw [hzt] at hv; exact q74 hv))
   have hzz:(Builtin.zeroCells z.cells n).toList=q00 (q1o P e) n:=by
    have:=qfl (z:=z.cells) (n:=n)
    rw [hzt,← this]
    rfl
   have:(Builtin.clear_ #[T] ty #[.slice (some a') n c']).run P w=.ok undef w':=by
    obtain ⟨n',rfl⟩:∃ q,n=q + 1:=⟨n - 1,by omega⟩
    simp only [Builtin.clear_,List.getElem?_toArray,List.getElem?_cons_zero,Sem.run_bind,q1b hT,Result.andThen_ok,hzr,hzz,hst,Sem.run_pure,undef]
   rw [this]
   exact ⟨ι,h.put b (splice cs o (q00 (q1o P e) n)),_,⟨Nat.le_refl _,λ _ _=>rfl,λ _ _ e=>e⟩,hrel,.inr (.tuple _ _ rfl (λ i v v' h=>by simp at h)),hk⟩
theorem q01.fill (r:q01 w0 ι h w) {b:Nat} {cs:List Value} (hb:w0.heap.size≤b) (hc:h.blk b=some cs) (h0:0 < (ι b).rsv):q01 w0 ι (h.fill b (ι b).rsv cs) w:=by
 have hlen:=(r.live b cs hb hc).len
 refine ⟨r.base,r.size,r.ext,λ i hi=>?_,r.os,r.tape,r.output,λ i c hi hc'=>?_,λ i j c c' hi hj hc1 hc2 hne=>?_,r.loops⟩
 ·show (if i=b then _ else h.blk i)=_
  rw [if_neg (by omega)]
  exact r.exta i hi
 ·have hc':(if i=b then some (cs++List.replicate ((ι b).rsv - cs.length) unk) else h.blk i)=some c:=hc'
  by_cases hib:i=b
  ·subst hib
   rw [if_pos rfl] at hc'
   cases hc'
   obtain ⟨lt,len,sz,cell,row,cp,um⟩:=r.live i cs hi hc
   refine ⟨lt,by simp; omega,sz,λ v hv=>?_,λ hp=>?_,λ k hk=>?_,λ hu=>by have hu:(if i=i then false else h.um i)=true:=hu; simp at hu⟩
   ·rcases List.mem_append.1 hv with q | q
    ·exact cell v q
    ·rw [List.eq_of_mem_replicate q]; rfl
   ·obtain ⟨q1,arr,e,lo,hi',q2,q3,q4,q5,q6⟩:=row hp
    refine ⟨q1,arr,e,lo,hi',q2,q3,q4,q5,λ j v hj=>?_⟩
    by_cases hj':j < cs.length
    ·rw [List.getElem?_append_left hj'] at hj
     exact q6 j v hj
    ·have hjl:j < (cs++List.replicate ((ι i).rsv - cs.length) unk).length:=(List.getElem?_eq_some_iff.1 hj).1
     rw [List.getElem?_append_right (by omega),List.getElem?_replicate] at hj
     split at hj
     ·cases hj
      obtain ⟨v',g1,g2⟩:=q5 j (by simp at hjl; omega)
      exact ⟨v',g1,.any v' g2⟩
     ·cases hj
   ·have hk:(if i=i then some (ι i).rsv else h.cp i)=some k:=hk
    rw [if_pos rfl] at hk
    exact Option.some.inj hk
  ·rw [if_neg hib] at hc'
   obtain ⟨lt,len,sz,cell,row,cp,um⟩:=r.live i c hi hc'
   refine ⟨lt,len,sz,cell,row,λ k hk=>cp k ?_,λ hu=>by have hu:(if i=b then false else h.um i)=true:=hu; rw [if_neg hib] at hu; exact um hu⟩
   have hk:(if i=b then some (ι b).rsv else h.cp i)=some k:=hk
   rwa [if_neg hib] at hk
 ·have key:∀ x cx,(h.fill b (ι b).rsv cs).blk x=some cx→∃ cy,h.blk x=some cy:=λ x cx hx=>by
   have hx:(if x=b then some (cs++List.replicate ((ι b).rsv - cs.length) unk) else h.blk x)=some cx:=hx
   split at hx
   ·rename_i e; subst e; exact ⟨cs,hc⟩
   ·exact ⟨cx,hx⟩
  obtain ⟨_,y1⟩:=key i c hc1
  obtain ⟨_,y2⟩:=key j c' hc2
  exact r.apart i j _ _ hi hj y1 y2 hne
theorem q0h0 {T ty e:TypeId} {x x':Value} (hT:P.underlying T=some (.slice e)) (r:q01 w0 ι h w) (hx:x≠junk→qy w0.heap.size h.next ι x x') (hv:qhb w0 (szT P e) x K h):
  q1j w0 ι h K ((Builtin.cap_ #[T] ty #[x']).run P w):=by
 obtain ⟨a,n,c,rfl,hv⟩:=hv
 have hx:=hx (by simp [junk])
 have hrun:∀ (a':Option Addr) (c':Nat),(Builtin.cap_ #[T] ty #[.slice a' n c']).run P w=.ok (.int .i64 (c':Int)) w:=λ a' c'=>by simp [Builtin.cap_,q1b hT,goInt]
 by_cases hc:c=q0b
 ·rw [if_pos hc] at hv
  obtain ⟨h0,b,o,cs,rfl,hB,hb,ho,hsz,hk⟩:=hv
  have hl:=r.live b cs hB hb
  rcases hx.slice_inv with ⟨e1,_⟩ | ⟨ad,a',c',e1,rfl,hn,hp,hce,hcu,hcr,_⟩
  ·cases e1
  ·cases e1
   rw [hrun]
   have hq:=(hcr hc (by omega)).2
   rw [hl.sz,hsz] at hq
   have hlen:=hl.len
   have:=hk c' hn (by simp only at hq; omega)
   simp only at hq
   rw [hq] at this
   exact ⟨ι,h.fill b (ι b).rsv cs,_,⟨Nat.le_refl _,λ _ _=>rfl,λ _ _ e=>e⟩,r.fill hB hb (by omega),.inr (.int _ _),this⟩
 ·rw [if_neg hc] at hv
  rcases hx.slice_inv with ⟨rfl,rfl,rfl,rfl⟩ | ⟨ad,a',c',rfl,rfl,hn,hp,hce,_⟩
  ·rw [hrun]
   exact .mk r (.int _ _) hv
  ·rw [hrun,hce hc]
   exact .mk r (.int _ _) hv
theorem q0g5 {T T2 ty e:TypeId} {kn:IntKind} {x x' y y':Value} (hT:P.underlying T=some (.slice e)) (hT2:P.underlying T2=some (.int kn)) (ho:okT P e=true) (hs0:szT P e≠0)
  (r:q01 w0 ι h w) (hx:x≠junk→qy w0.heap.size h.next ι x x') (hy:y≠junk→qy w0.heap.size h.next ι y y') (hv:qh7 w0 (szT P e) (byT P e) (q1o P e) x y K h):
  q1j w0 ι h K ((Builtin.append_ #[T,T2] ty #[x',y']).run P w):=by
 obtain ⟨b,o,n,m,k,kk,old,rfl,rfl,hm,hB,hg,hsz,hcp,hk1,hby,h63,hk⟩:=hv
 have hx:=hx (by simp [junk])
 obtain rfl:=(hy (by simp [junk])).int_inv
 obtain ⟨ti,z,d,hti,hz,hd,hzs,hs,hbyt,hzt,hcst,hagg,hzr⟩:=q2n ho
 obtain ⟨-,cs,hb,hle,hold⟩:=Hp.getN_some hg
 simp only at hb hle hold
 have hl:=r.live b cs hB hb
 have hbase:=r.base
 have hoc:∀ v,v∈old→qv v=true:=λ v hv=>hl.cell v (by rw [hold] at hv; exact List.mem_of_mem_drop (List.mem_of_mem_take hv))
 have hol:old.length=n * szT P e:=Hp.getN_length hg
 rcases hx.slice_inv with ⟨e1,_⟩ | ⟨ad,a',c',e1,rfl,hn,hp,hce,hcu,hcr,_⟩
 ·cases e1
 ·cases e1
  have hroom:c' < n + m:=by
   rcases Nat.eq_zero_or_pos c' with h0 | h0
   ·omega
   ·have hq:=(hcr rfl h0).2
    rw [hl.sz,hsz,hl.cp k hcp] at hq
    simp only at hq
    have:c' * szT P e < (n + m) * szT P e:=by omega
    exact Nat.lt_of_mul_lt_mul_right this
  obtain ⟨old',hf,hrel⟩:∃ old':List Value,(Builtin.firstCells ti.size n (.slice (some a') n c')).run P w.drew=.ok old'.toArray w.drew∧q0w w0.heap.size h.next ι old old':=by
   rcases Nat.eq_zero_or_pos n with h0 | h0
   ·subst h0
    have:old=[]:=List.eq_nil_of_length_eq_zero (by rw [hol,Nat.zero_mul])
    subst this
    exact ⟨[],by simp [Builtin.firstCells,loadCells,loadCellsFrom],.nil⟩
   ·obtain ⟨vs',g1,g2⟩:=r.readN (P:=P) (hp (by omega)) hg (λ hlt=>by simp at hlt; omega)
    refine ⟨vs',?_,g2⟩
    have:=g1 w.drew rfl
    rw [hs] at this
    exact this
  have hb1:(n + m) * ti.bytes≤140737488355328:=by rw [← hbyt]; exact hby
  have hmb:m * ti.bytes≤(n + m) * ti.bytes:=Nat.mul_le_mul_right _ (by omega)
  have hrun:=Lib.run_append_grow_zeros w T T2 ty e ti z kk kn hT hT2 hti hz (some a') n c' old' hf m hm (by omega) hroom (by omega) (by omega) (growslice_fits hroom hb1)
  rw [hrun]
  have hzc:∀ v,v∈z.cells.toList→qv v=true:=q6a hcst
  have hz1:(Builtin.zeroCells z.cells m).toList=q00 (q1o P e) m:=by
   have:=qfl (z:=z.cells) (n:=m)
   rw [hzt,← this]
   rfl
  have hzr:q0w w0.heap.size h.next ι (q00 (q1o P e) m) (q00 (q1o P e) m):=q94 λ v hv=>hcst v (by rw [hzt] at hv; exact q74 hv)
  let G:=grownCap w (n + m) c' e
  have hG:n + m≤G:=grownCap_ge _ _ _ _
  have hzl:(Builtin.zeroCells z.cells (G - (n + m))).size=(G - (n + m)) * ti.size:=by simp [Builtin.zeroCells,hzs]
  have hcs:(old'++q00 (q1o P e) m++(Builtin.zeroCells z.cells (G - (n + m))).toList).length=G * szT P e:=by
   rw [List.length_append,List.length_append,← hrel.1,hol,qab,hzt,Array.length_toList,Array.length_toList,hzs,hzl,hs,← Nat.add_mul,← Nat.add_mul]
   congr 1; omega
  obtain ⟨ι',hext,hnew,hr⟩:=(r.drew (w.drawn + 1)).new (cs:=old++q00 (q1o P e) m) (cs':=old'++q00 (q1o P e) m++(Builtin.zeroCells z.cells (G - (n + m))).toList) (szT P e) e (0,0)
   (λ v hv=>by rcases List.mem_append.1 hv with q | q; exact hoc v q; exact q6a hcst v (by rw [hzt] at q; exact q74 q))
   (by
    have:(old'++q00 (q1o P e) m++(Builtin.zeroCells z.cells (G - (n + m))).toList).take (old++q00 (q1o P e) m).length=old'++q00 (q1o P e) m:=by
     rw [List.take_append_of_le_length (by simp [hrel.1]),List.take_of_length_le (by simp [hrel.1])]
    rw [this]
    exact hrel.append hzr)
   (.inr (by simp))
   (λ v hv=>by
    rcases List.mem_append.1 hv with q | q
    ·rcases List.mem_append.1 q with q | q
     ·exact hrel.cells hoc v q
     ·exact q6a hcst v (by rw [hzt] at q; exact q74 q)
    ·exact quf hzc v q)
  have hnew':ι' h.next=⟨w.heap.size,0,G * szT P e,szT P e⟩:=by rw [hnew,hcs]
  refine ⟨ι',_,_,hext,?_,.inr ?_,hk⟩
  ·have:(old'.toArray++Builtin.zeroCells z.cells m++Builtin.zeroCells z.cells (G - (n + m)))=(old'++q00 (q1o P e) m++(Builtin.zeroCells z.cells (G - (n + m))).toList).toArray:=by
    apply Array.ext'
    simp [hz1]
   show q01 w0 ι' _ (w.drew.alloc (.cells (old'.toArray++Builtin.zeroCells z.cells m++Builtin.zeroCells z.cells (G - (n + m))) e))
   rw [this]
   exact hr
  ·have:=qy.sint (B:=w0.heap.size) (nx:=(h.new (old++q00 (q1o P e) m) (szT P e)).next) (ι:=ι') h.next 0 (n + m) q0b G hbase (by show h.next < h.next + 1; omega) hG (.inl ⟨rfl,by rw [hnew']; simp⟩)
   rw [hnew'] at this
   simpa using this
theorem q0j8 {f:FuncId} {x x' y y':Value} (r:q01 w0 ι h w) (hx:x≠junk→qy w0.heap.size h.next ι x x') (hy:y≠junk→qy w0.heap.size h.next ι y y') (hv:ovA P w0 f x y K h):
  q6m P w0 ι h K ((callFunc f #[x',y']).run P w):=by
 rcases hv with hv | ⟨⟨fn,q1,q2,q3,q4,q5⟩,a,b,rfl,rfl,hk⟩
 rotate_left
 ·have e1:=(hx (by simp [junk])).string_inv
  have e2:=(hy (by simp [junk])).string_inv
  subst e1 e2
  rw [run_callFunc_extern q1 q2 q3 q4 q5,Lib.run_compareString]
  exact ⟨ι,h,_,Ext.refl _ _,r,.inr (.int _ _),hk⟩
 obtain ⟨⟨fn,tr,t,e,q1,q2,q3,q4,q5,q7,q8'⟩,b,o,n,c,b',o',n',c',cs,cs',rfl,rfl,hne,hB,hB',hb,hb',ho,ho',hn,hn',hsz,hk⟩:=hv
 have hx:=hx (by simp [junk])
 have hy:=hy (by simp [junk])
 have hl:=r.live b cs hB hb
 have hl':=r.live b' cs' hB' hb'
 have hlen:=hl.len
 have hlen':=hl'.len
 obtain ⟨-,arr,ea,lo,hi,hh,g1,g2,g3,-⟩:=hl.row (by omega)
 obtain ⟨-,arr',ea',lo',hi',hh',g1',g2',g3',-⟩:=hl'.row (by omega)
 have hβ:(ι b).β≠(ι b').β:=by
  have:=r.apart b b' cs cs' hB hB' hb hb' hne
  unfold Pl.apart at this
  omega
 have hlh:lo=hi:=by
  rcases g2 with q | ⟨-,q⟩
  ·exact q
  ·rcases hsz with hsz | hsz
   ·exact (hl.um hsz).2 _ _ _ _ (by omega) hh
   ·rw [hl.sz] at q; exact absurd q hsz
 have ex:∃ cx,x'=.slice (some ⟨(ι b).β,(ι b).d + o,none⟩) n cx:=by
  cases hx with
  | sext _ _ _ hlt=>simp at hlt; omega
  | szero=>omega
  | sempty=>omega
  | sint _ _ _ _ cx=>exact ⟨cx,rfl⟩
 have ey:∃ cy,y'=.slice (some ⟨(ι b').β,(ι b').d + o',none⟩) n' cy:=by
  cases hy with
  | sext _ _ _ hlt=>simp at hlt; omega
  | szero=>omega
  | sempty=>omega
  | sint _ _ _ _ cx=>exact ⟨cx,rfl⟩
 obtain ⟨cx,rfl⟩:=ex
 obtain ⟨cy,rfl⟩:=ey
 have hsa:w.shape? (ι b).β=some (ea,arr.size):=by unfold World.shape?; rw [hh]
 have hsb:w.shape? (ι b').β=some (ea',arr'.size):=by unfold World.shape?; rw [hh']
 have hfz:∀ q,w.frozen? ⟨(ι b).β,q,none⟩=false:=λ q=>by simp only [World.frozen?,hh]; simp; omega
 obtain ⟨i,q8⟩:=Option.isSome_iff_exists.1 q8'
 rw [run_callFunc_extern q1 q2 q3 q4 q5]
 rw [Lib.run_overlaps_apart w t tr e q7 i.size (λ w=>q31 q8 w) ⟨(ι b).β,(ι b).d + o,none⟩ ⟨(ι b').β,(ι b').d + o',none⟩ n cx n' cy hβ ea ea' arr.size arr'.size hsa hsb (by omega) (hfz _) (hfz _)]
 exact ⟨ι,h,_,Ext.refl _ _,r,.inr (.bool false),hk⟩
theorem q0hb {B nx:Nat} {ι:Inj} {v:Value} (hne:qh1 v≠junk):qy B nx ι (qh1 v) v:=by
 unfold qh1 at hne ⊢
 split
 ·rename_i cs
  simp only at hne
  split
  ·rename_i hall
   have hk:∀ (i:Nat) v,cs[i]?=some v→q5j v=true:=λ i v hv=>List.all_eq_true.1 hall v (by
    obtain ⟨hi,rfl⟩:=Array.getElem?_eq_some_iff.1 hv
    simp)
   exact .agg _ _ rfl (λ i v v' a b=>by rw [a] at b; cases b; exact (qc1 (hk i v a)).1 nx ι) (λ i v a=>(qc1 (B:=0) (hk i v a)).2)
  ·rename_i hall
   rw [if_neg hall] at hne
   exact absurd rfl hne
 ·rename_i hna
  split
  ·rename_i hok
   exact (qc1 hok).1 nx ι
  ·rename_i hok
   split at hne
   ·rename_i cs; exact absurd rfl (hna cs)
   ·rw [if_neg hok] at hne; exact absurd rfl hne
theorem q1i.eval {B nx:Nat} {ι:Inj} {n:Nat} {t:Fr} {a:Act} (f:q1i B nx ι n t a.tmps) (x:Operand) (hne:ev n t x≠junk):qy B nx ι (ev n t x) (a.eval x):=by
 cases x with
 | tmp i=>
  simp only [ev] at hne ⊢
  split
  ·rename_i hi
   rw [if_pos hi] at hne
   exact f.2 i hi hne
  ·rename_i hi
   rw [if_neg hi] at hne
   exact absurd rfl hne
 | const v=>exact q0hb hne
 | global g=>exact absurd rfl hne
 | func g=>exact .func _ _ _ _ _ rfl rfl (λ i v v' h=>by simp at h) (λ i v v' h=>by simp at h) ⟨g,rfl⟩
theorem q1i.put {B nx:Nat} {ι:Inj} {n:Nat} {t:Fr} {a:Act} (f:q1i B nx ι n t a.tmps) (d:Option Nat) {v v':Value} (hv:v=junk∨qy B nx ι v v'):q1i B nx ι n (q44 t d v) (a.put d v').tmps:=by
 cases d with
 | none=>exact f
 | some d=>
  refine ⟨by simp [Act.put]; exact f.1,λ i hi hj=>?_⟩
  simp only [q44,upd,Act.put] at hj ⊢
  by_cases hid:i=d
  ·subst hid
   rw [if_pos rfl] at hj ⊢
   rw [Array.getD_eq_getD_getElem?,Array.getElem?_setIfInBounds,if_pos rfl,if_pos (by rw [f.1]; exact hi)]
   rcases hv with e | hv
   ·exact absurd e hj
   ·exact hv
  ·rw [if_neg hid] at hj ⊢
   rw [Array.getD_eq_getD_getElem?,Array.getElem?_setIfInBounds,if_neg (λ e=>hid e.symm),← Array.getD_eq_getD_getElem?]
   exact f.2 i hi hj
end
end
end Go.Proofs.YtfmoemconapmhaaGreat.Ah
