/- The abstract heap, and how it stands to the model's world. -/
import Derived.CallsIn
import Derived.Below
import Derived.KernelRfl
set_option linter.all false
namespace Go.Proofs.YtfmoemconapmhaaGreat.Ah
open Go
section
def junk:Value:=.chan none
def q0b:Nat:=18446744073709551616
structure Pl where
 β:Nat
 d:Nat
 rsv:Nat
 sz:Nat
abbrev Inj:=Nat→Pl
def qv:Value→Bool
 | .agg _=>false
 | .tuple _=>false
 | .chan _=>false
 | _=>true
abbrev unk:Value:=.map none
inductive qy (B nx:Nat) (ι:Inj):Value→Value→Prop
 | bool (b:Bool):qy B nx ι (.bool b) (.bool b)
 | int (k:IntKind) (n:Int):qy B nx ι (.int k n) (.int k n)
 | string (s:ByteArray):qy B nx ι (.string s) (.string s)
 | pnil:qy B nx ι (.pointer none) (.pointer none)
 | pext (a:Addr) (h:a.block < B):qy B nx ι (.pointer (some a)) (.pointer (some a))
 | pint (b o:Nat) (h1:B≤b) (h2:b < nx):qy B nx ι (.pointer (some ⟨b,o,none⟩)) (.pointer (some ⟨(ι b).β,(ι b).d + o,none⟩))
 | snil:qy B nx ι (.slice none 0 0) (.slice none 0 0)
 | sext (a:Addr) (n c:Nat) (h:a.block < B) (hn:n≤c) (hc:c < q0b):qy B nx ι (.slice (some a) n c) (.slice (some a) n c)
 | sint (b o n c c':Nat) (h1:B≤b) (h2:b < nx) (hn:n≤c') (hc:(c=q0b∧o + c' * (ι b).sz=(ι b).rsv)∨(c=c'∧c < q0b)):
   qy B nx ι (.slice (some ⟨b,o,none⟩) n c) (.slice (some ⟨(ι b).β,(ι b).d + o,none⟩) n c')
 | szero (b o c:Nat) (a:Addr) (h1:B≤b) (hc:(c=q0b∧b < nx∧(ι b).rsv≤o)∨c=0):qy B nx ι (.slice (some ⟨b,o,none⟩) 0 c) (.slice (some a) 0 0)
 | sempty (a a':Addr) (h1:B≤a.block):qy B nx ι (.slice (some a) 0 0) (.slice (some a') 0 0)
 | nilFunc:qy B nx ι .nilFunc .nilFunc
 | nilIface:qy B nx ι .nilIface .nilIface
 | any (v:Value) (h:qv v=true):qy B nx ι (.map none) v
 | yld (b:Nat) (h1:B≤b) (h2:b < nx):qy B nx ι (.func (.yield b) #[] #[]) (.func (.yield (ι b).β) #[] #[])
 | func (fn:Fn) (f c f' c':Array Value) (hf:f.size=f'.size) (hc:c.size=c'.size)
   (h1:∀ (i:Nat) v v',f[i]?=some v→f'[i]?=some v'→qy B nx ι v v') (h2:∀ (i:Nat) v v',c[i]?=some v→c'[i]?=some v'→qy B nx ι v v')
   (hfn:∃ k,fn=.func k):
   qy B nx ι (.func fn f c) (.func fn f' c')
 | agg (c c':Array Value) (hc:c.size=c'.size) (h:∀ (i:Nat) v v',c[i]?=some v→c'[i]?=some v'→qy B nx ι v v') (hi:∀ (i:Nat) v,c[i]?=some v→qv v=true):
   qy B nx ι (.agg c) (.agg c')
 | tuple (c c':Array Value) (hc:c.size=c'.size) (h:∀ (i:Nat) v v',c[i]?=some v→c'[i]?=some v'→qy B nx ι v v'):qy B nx ι (.tuple c) (.tuple c')
def Cl (B:Nat) (v:Value):Prop:=∀ nx ι,qy B nx ι v v
abbrev Fr:=Nat→Value
structure Lp where
 n:Nat
 t:Fr
 ps:List Nat
 assign:Code
 body:Code
inductive Lst
 | ready
 | busy
 | done (o:Option Nat)
 | mark
 deriving DecidableEq
structure Hp where
 blk:Nat→Option (List Value)
 next:Nat
 esz:Nat→Nat
 lp:Nat→Option (Lp × Lst)
 cp:Nat→Option Nat
 um:Nat→Bool
def q2d:Value→Bool
 | .pointer _=>true
 | _=>false
namespace Hp
def get (h:Hp) (a:Addr):Option Value:=if a.spot.isNone then (h.blk a.block).bind (·[a.off]?) else none
def put (h:Hp) (b:Nat) (c:List Value):Hp:={ h with blk:=λ i=>if i=b then some c else h.blk i,um:=λ i=>if i=b then h.um i && c.all q2d else h.um i }
def new (h:Hp) (c:List Value) (s:Nat):Hp:={ blk:=λ i=>if i=h.next then some c else h.blk i,next:=h.next + 1,esz:=λ i=>if i=h.next then s else h.esz i,lp:=h.lp,cp:=λ i=>if i=h.next then none else h.cp i,um:=λ i=>if i=h.next then !c.isEmpty && c.all q2d else h.um i }
def newD (h:Hp) (c:List Value) (s:Nat):Hp:={ h.new c s with um:=λ i=>if i=h.next then false else h.um i }
def kill (h:Hp) (b:Nat):Hp:={ h with blk:=λ i=>if i=b then none else h.blk i }
end Hp
def qd5 (w:World) (i:Nat):Option (List Value):=
 match w.heap[i]? with
 | some (.cells c _ _)=>some c.toList
 | _=>none
def Agree (nx:Nat) (ι ι':Inj):Prop:=∀ b,b < nx→ι' b=ι b
structure Live (B:Nat) (ι:Inj) (h:Hp) (w:World) (b:Nat) (cs:List Value):Prop where
 lt:b < h.next
 len:cs.length≤(ι b).rsv
 sz:(ι b).sz=h.esz b
 cell:∀ v,v∈cs→qv v=true
 row:0 < (ι b).rsv→B≤(ι b).β∧∃ arr e lo hi,w.heap[(ι b).β]?=some (.cells arr e (lo,hi))∧(ι b).d + (ι b).rsv≤arr.size∧
  (lo=hi∨(arr.size≤lo∧(ι b).sz=1))∧(∀ j,j < (ι b).rsv→∃ v',arr[(ι b).d + j]?=some v'∧qv v'=true)∧
  ∀ (j:Nat) v,cs[j]?=some v→∃ v',arr[(ι b).d + j]?=some v'∧qy B h.next ι v v'
 cp:∀ k,h.cp b=some k→(ι b).rsv=k
 um:h.um b=true→(∀ v,v∈cs→q2d v=true)∧∀ arr e lo hi,0 < (ι b).rsv→w.heap[(ι b).β]?=some (.cells arr e (lo,hi))→lo=hi
def q1i (B nx:Nat) (ι:Inj) (n:Nat) (t:Fr) (tmps:Array Value):Prop:=tmps.size=n∧∀ i,i < n→t i≠junk→qy B nx ι (t i) (tmps.getD i undef)
def q7f:Option Nat→Code
 | some id=>.exit id
 | none=>.ret
def q00m:Lst→LoopState→Option Code→Prop
 | .ready,s,p=>s=.ready∧p=none
 | .busy,s,p=>s=.busy∧p=none
 | .done o,s,p=>s=.done∧p=some (q7f o)
 | .mark,_,_=>True
def qmp (o:Obj):Prop:=∀ a e f,o≠.cells a e f
structure q5d (B nx:Nat) (ι:Inj) (lp:Nat→Option (Lp × Lst)) (w:World):Prop where
 row:∀ b g s,lp b=some (g,s)→b < nx∧B≤b∧B≤(ι b).β∧B≤(ι b).d∧w.heap[(ι b).d]?=some (.deferred (some []))∧
  ∃ r:Loop,w.heap[(ι b).β]?=some (.loop r)∧(s≠.mark→q00m s r.state r.pending∧r.params.toList=g.ps∧r.assign=g.assign∧r.body=g.body∧q1i B nx ι g.n g.t r.tmps)
 apart:∀ b b' x x',lp b=some x→lp b'=some x'→b≠b'→(ι b).β≠(ι b').β∧(ι b).d≠(ι b').d
def Pl.apart (p q:Pl):Prop:=p.β≠q.β∨p.rsv=0∨q.rsv=0
theorem Pl.apart.symm {p q:Pl} (h:p.apart q):q.apart p:=by unfold Pl.apart at *; omega
structure q01 (w0:World) (ι:Inj) (h:Hp) (w:World):Prop where
 base:w0.heap.size≤h.next
 size:w0.heap.size≤w.heap.size
 ext:∀ i,i < w0.heap.size→w.heap[i]?=w0.heap[i]?
 exta:∀ i,i < w0.heap.size→h.blk i=qd5 w0 i
 os:w.os=w0.os
 tape:w.tape=w0.tape
 output:w.output=w0.output
 live:∀ b cs,w0.heap.size≤b→h.blk b=some cs→Live w0.heap.size ι h w b cs
 apart:∀ b b' cs cs',w0.heap.size≤b→w0.heap.size≤b'→h.blk b=some cs→h.blk b'=some cs'→b≠b'→(ι b).apart (ι b')
 loops:q5d w0.heap.size h.next ι h.lp w
theorem qy.mono {B nx nx':Nat} {ι ι':Inj} (hn:nx≤nx') (ha:Agree nx ι ι') {v v':Value} (h:qy B nx ι v v'):qy B nx' ι' v v':=by
 induction h with
 | bool b=>exact .bool b
 | int k n=>exact .int k n
 | string s=>exact .string s
 | pnil=>exact .pnil
 | pext a h=>exact .pext a h
 | pint b o h1 h2=>
  rw [← ha b h2]
  exact .pint b o h1 (by omega)
 | snil=>exact .snil
 | sext a n c h hn hc=>exact .sext a n c h hn hc
 | sint b o n c c' h1 h2 hn hc=>
  rw [← ha b h2] at hc ⊢
  exact .sint b o n c c' h1 (by omega) hn hc
 | szero b o c a h1 hc=>
  refine .szero b o c a h1 ?_
  rcases hc with ⟨q1,q2,q3⟩ | q
  ·exact .inl ⟨q1,by omega,by rw [ha b q2]; exact q3⟩
  ·exact .inr q
 | sempty a a' h1=>exact .sempty a a' h1
 | nilFunc=>exact .nilFunc
 | nilIface=>exact .nilIface
 | any v h=>exact .any v h
 | yld b h1 h2=>
  rw [← ha b h2]
  exact .yld b h1 (by omega)
 | func fn f c f' c' hf hc _ _ hfn ih1 ih2=>exact .func fn f c f' c' hf hc ih1 ih2 hfn
 | agg c c' hc _ hi ih=>exact .agg c c' hc ih hi
 | tuple c c' hc _ ih=>exact .tuple c c' hc ih
theorem qy.isCell_eq {B nx:Nat} {ι:Inj} {v v':Value} (h:qy B nx ι v v'):qv v'=qv v:=by
 cases h
 case any h=>exact h
 all_goals rfl
theorem qy.bool_inv {B nx:Nat} {ι:Inj} {b:Bool} {v':Value} (h:qy B nx ι (.bool b) v'):v'=.bool b:=by cases h; rfl
theorem qy.int_inv {B nx:Nat} {ι:Inj} {k:IntKind} {n:Int} {v':Value} (h:qy B nx ι (.int k n) v'):v'=.int k n:=by cases h; rfl
theorem qy.string_inv {B nx:Nat} {ι:Inj} {s:ByteArray} {v':Value} (h:qy B nx ι (.string s) v'):v'=.string s:=by cases h; rfl
theorem qy.yld_inv {B nx:Nat} {ι:Inj} {b:Nat} {v':Value} (h:qy B nx ι (.func (.yield b) #[] #[]) v'):v'=.func (.yield (ι b).β) #[] #[]∧B≤b∧b < nx:=by
 cases h with
 | yld _ h1 h2=>exact ⟨rfl,h1,h2⟩
 | func _ _ _ _ _ _ _ _ _ hfn=>obtain ⟨k,hk⟩:=hfn; cases hk
def q0w (B nx:Nat) (ι:Inj) (l l':List Value):Prop:=l.length=l'.length∧∀ (i:Nat) v v',l[i]?=some v→l'[i]?=some v'→qy B nx ι v v'
theorem q0w.mono {B nx nx':Nat} {ι ι':Inj} (hn:nx≤nx') (ha:Agree nx ι ι') {l l':List Value} (h:q0w B nx ι l l'):q0w B nx' ι' l l' :=
 ⟨h.1,λ i v v' a b=>(h.2 i v v' a b).mono hn ha⟩
theorem q0w.nil {B nx:Nat} {ι:Inj}:q0w B nx ι [] []:=⟨rfl,λ i v v' h=>by simp at h⟩
theorem q0w.cons {B nx:Nat} {ι:Inj} {v v':Value} {l l':List Value} (h:qy B nx ι v v') (t:q0w B nx ι l l'):q0w B nx ι (v :: l) (v' :: l'):=by
 refine ⟨by simp [t.1],λ i x x' a b=>?_⟩
 cases i with
 | zero=>simp at a b; subst a; subst b; exact h
 | succ i=>simp at a b; exact t.2 i x x' a b
theorem q0w.cons_inv {B nx:Nat} {ι:Inj} {v:Value} {l m:List Value} (h:q0w B nx ι (v :: l) m):∃ v' l',m=v' :: l'∧qy B nx ι v v'∧q0w B nx ι l l':=by
 obtain ⟨hl,hr⟩:=h
 cases m with
 | nil=>simp at hl
 | cons v' l' =>
  refine ⟨v',l',rfl,hr 0 v v' (by simp) (by simp),by simpa using hl,λ i x x' a b=>hr (i + 1) x x' (by simpa using a) (by simpa using b)⟩
theorem q0w.append {B nx:Nat} {ι:Inj} {l l' m m':List Value} (h:q0w B nx ι l l') (k:q0w B nx ι m m'):q0w B nx ι (l++m) (l'++m'):=by
 refine ⟨by simp [h.1,k.1],λ i v v' a b=>?_⟩
 by_cases hi:i < l.length
 ·rw [List.getElem?_append_left hi] at a
  rw [List.getElem?_append_left (by rw [← h.1]; exact hi)] at b
  exact h.2 i v v' a b
 ·rw [List.getElem?_append_right (by omega)] at a
  rw [List.getElem?_append_right (by rw [← h.1]; omega),← h.1] at b
  exact k.2 _ v v' a b
theorem q0w.toArray {B nx:Nat} {ι:Inj} {l l':List Value} (h:q0w B nx ι l l'):l.toArray.size=l'.toArray.size∧∀ (i:Nat) v v',l.toArray[i]?=some v→l'.toArray[i]?=some v'→qy B nx ι v v' :=
 ⟨by simpa using h.1,λ i v v' a b=>h.2 i v v' (by simpa using a) (by simpa using b)⟩
theorem q0w.of_array {B nx:Nat} {ι:Inj} {c c':Array Value} (hc:c.size=c'.size) (h:∀ (i:Nat) v v',c[i]?=some v→c'[i]?=some v'→qy B nx ι v v'):q0w B nx ι c.toList c'.toList:=
 ⟨by simpa using hc,λ i v v' a b=>h i v v' (by simpa using a) (by simpa using b)⟩
theorem q0w.get {B nx:Nat} {ι:Inj} {l l':List Value} (h:q0w B nx ι l l') {i:Nat} {v:Value} (a:l[i]?=some v):∃ v',l'[i]?=some v'∧qy B nx ι v v':=by
 have hi:i < l'.length:=by rw [← h.1]; exact (List.getElem?_eq_some_iff.1 a).1
 exact ⟨l'[i],by simp [hi],h.2 i v _ a (by simp [hi])⟩
theorem q0w.take {B nx:Nat} {ι:Inj} {l l':List Value} (h:q0w B nx ι l l') (n:Nat):q0w B nx ι (l.take n) (l'.take n):=by
 refine ⟨by simp [h.1],λ i v v' a b=>?_⟩
 simp only [List.getElem?_take] at a b
 split at a
 ·rename_i hlt
  rw [if_pos hlt] at b
  exact h.2 i v v' a b
 ·simp at a
theorem q0w.drop {B nx:Nat} {ι:Inj} {l l':List Value} (h:q0w B nx ι l l') (n:Nat):q0w B nx ι (l.drop n) (l'.drop n):=by
 refine ⟨by simp [h.1],λ i v v' a b=>?_⟩
 simp only [List.getElem?_drop] at a b
 exact h.2 _ v v' a b
theorem q1i.mono {B nx nx':Nat} {ι ι':Inj} {n:Nat} {t:Fr} {tmps:Array Value} (f:q1i B nx ι n t tmps) (hn:nx≤nx') (ha:Agree nx ι ι'):q1i B nx' ι' n t tmps:=
 ⟨f.1,λ i hi hj=>(f.2 i hi hj).mono hn ha⟩
theorem q5d.mono {B nx nx':Nat} {ι ι':Inj} {lp:Nat→Option (Lp × Lst)} {w w':World} (r:q5d B nx ι lp w) (hn:nx≤nx') (ha:Agree nx ι ι')
  (hw:∀ (i:Nat) o,w.heap[i]?=some o→qmp o→w'.heap[i]?=some o):q5d B nx' ι' lp w':=by
 refine ⟨λ b g s e=>?_,λ b b' x x' e e' hne=>?_⟩
 ·obtain ⟨h1,h2,h3,h4,h5,h6⟩:=r.row b g s e
  rw [ha b h1]
  obtain ⟨q,q1,q2⟩:=h6
  refine ⟨by omega,h2,h3,h4,hw _ _ h5 (λ _ _ _=>by simp),q,hw _ _ q1 (λ _ _ _=>by simp),λ hs=>?_⟩
  obtain ⟨q2,q3,q4,q5,q6⟩:=q2 hs
  exact ⟨q2,q3,q4,q5,q6.mono hn ha⟩
 ·obtain ⟨g,s⟩:=x
  obtain ⟨g',s'⟩:=x'
  rw [ha b (r.row b g s e).1,ha b' (r.row b' g' s' e').1]
  exact r.apart b b' _ _ e e' hne
theorem q5d.same {B nx:Nat} {ι:Inj} {lp:Nat→Option (Lp × Lst)} {w w':World} (r:q5d B nx ι lp w) (hw:∀ (i:Nat) o,w.heap[i]?=some o→qmp o→w'.heap[i]?=some o):q5d B nx ι lp w' :=
 r.mono (Nat.le_refl _) (λ _ _=>rfl) hw
theorem q5d.cells {B nx:Nat} {ι:Inj} {lp:Nat→Option (Lp × Lst)} {w w':World} (r:q5d B nx ι lp w) {b:Nat} {arr:Array Value} {e:TypeId} {f:Nat × Nat} (hh:w.heap[b]?=some (.cells arr e f))
  (hw:∀ i,i≠b→w'.heap[i]?=w.heap[i]?):q5d B nx ι lp w' :=
 r.same λ i o ho hn=>by
  rw [hw i (λ e=>by subst e; rw [hh] at ho; cases ho; exact hn _ _ _ rfl)]
  exact ho
structure Ext (ι:Inj) (h:Hp) (ι':Inj) (h':Hp):Prop where
 le:h.next≤h'.next
 ag:Agree h.next ι ι'
 mks:∀ b g,h.lp b=some (g,.mark)→h'.lp b=some (g,.mark)
theorem Ext.refl (ι:Inj) (h:Hp):Ext ι h ι h:=⟨Nat.le_refl _,λ _ _=>rfl,λ _ _ e=>e⟩
theorem Ext.trans {ι ι' ι'':Inj} {h h' h'':Hp} (a:Ext ι h ι' h') (b:Ext ι' h' ι'' h''):Ext ι h ι'' h'' :=
 ⟨Nat.le_trans a.1 b.1,λ i hi=>(b.2 i (Nat.lt_of_lt_of_le hi a.1)).trans (a.2 i hi),λ i g e=>b.3 i g (a.3 i g e)⟩
theorem q01.drew {w0:World} {ι:Inj} {h:Hp} {w:World} (r:q01 w0 ι h w) (k:Nat):q01 w0 ι h { w with drawn:=k } :=
 ⟨r.base,r.size,r.ext,r.exta,r.os,r.tape,r.output,λ b cs hb hc=>let l:=r.live b cs hb hc; ⟨l.lt,l.len,l.sz,l.cell,l.row,l.cp,l.um⟩,r.apart,r.loops.same λ _ _ e _=>e⟩
theorem q01.alloc {w0:World} {ι:Inj} {h:Hp} {w:World} (r:q01 w0 ι h w) (o:Obj):q01 w0 ι h (w.alloc o):=by
 have hs:∀ i,i < w.heap.size→(w.alloc o).heap[i]?=w.heap[i]?:=λ i hi=>Go.RowKit.Below.heap_alloc w o i hi
 refine ⟨r.base,by simp; exact Nat.le_succ_of_le r.size,λ i hi=>(hs i (Nat.lt_of_lt_of_le hi r.size)).trans (r.ext i hi),r.exta,r.os,r.tape,r.output,λ b cs hb hc=>?_,r.apart,r.loops.same λ i o e _=>(hs i (Array.getElem?_eq_some_iff.1 e).1).trans e⟩
 obtain ⟨lt,len,sz,cell,row,cp,um⟩:=r.live b cs hb hc
 have hum:h.um b=true→(∀ v,v∈cs→q2d v=true)∧∀ arr e lo hi,0 < (ι b).rsv→(w.alloc o).heap[(ι b).β]?=some (.cells arr e (lo,hi))→lo=hi:=λ hu=>⟨(um hu).1,λ arr e lo hi hp hh=>by
  obtain ⟨-,arr0,e0,lo0,hi0,hh0,-⟩:=row hp
  rw [hs _ (Array.getElem?_eq_some_iff.1 hh0).1] at hh
  exact (um hu).2 arr e lo hi hp hh⟩
 refine ⟨lt,len,sz,cell,λ hp=>?_,cp,hum⟩
 obtain ⟨hB,arr,e,lo,hi,hh,rest⟩:=row hp
 exact ⟨hB,arr,e,lo,hi,(hs _ (Array.getElem?_eq_some_iff.1 hh).1).trans hh,rest⟩
theorem q01.new {w0:World} {ι:Inj} {h:Hp} {w:World} (r:q01 w0 ι h w) (cs cs':List Value) (s:Nat) (e:TypeId) (fr:Nat × Nat)
  (hc:∀ v,v∈cs→qv v=true) (hv:q0w w0.heap.size h.next ι cs (cs'.take cs.length)) (hlo:(cs'.length≤fr.1∧s=1∧(!cs.isEmpty && cs.all q2d)=false)∨fr.2=fr.1) (hc':∀ v,v∈cs'→qv v=true):
  ∃ ι',Ext ι h ι' (h.new cs s)∧ι' h.next=⟨w.heap.size,0,cs'.length,s⟩∧q01 w0 ι' (h.new cs s) (w.alloc (.cells cs'.toArray e fr)):=by
 let ι':Inj:=λ i=>if i=h.next then ⟨w.heap.size,0,cs'.length,s⟩ else ι i
 have hag:Agree h.next ι ι':=λ b hb=>by simp [ι']; omega
 have hnew:ι' h.next=⟨w.heap.size,0,cs'.length,s⟩:=by simp [ι']
 have r1:=r.alloc (.cells cs'.toArray e fr)
 have hlen:cs.length≤cs'.length:=by have:=hv.1; simp at this; omega
 refine ⟨ι',⟨Nat.le_succ _,hag,λ _ _ e=>e⟩,hnew,?_⟩
 refine ⟨Nat.le_succ_of_le r.base,r1.size,r1.ext,λ i hi=>?_,r1.os,r1.tape,r1.output,?_,?_,r1.loops.mono (Nat.le_succ _) hag λ _ _ e _=>e⟩
 ·have:=r.base
  simp only [Hp.new]
  rw [if_neg (by omega)]
  exact r.exta i hi
 ·intro b c hb hbc
  by_cases hbn:b=h.next
  ·subst hbn
   simp only [Hp.new,if_true,Option.some.injEq] at hbc
   subst hbc
   refine ⟨by simp [Hp.new],by rw [hnew]; exact hlen,by rw [hnew]; simp [Hp.new],hc,λ _=>?_,λ k hk=>by simp [Hp.new] at hk,λ hu=>?_⟩
   rotate_left
   ·have hu':(!cs.isEmpty && cs.all q2d)=true:=by simpa [Hp.new] using hu
    refine ⟨λ v hv=>List.all_eq_true.1 (Bool.and_eq_true_iff.1 hu').2 v hv,λ arr e1 lo hi hp hh=>?_⟩
    rw [hnew] at hh
    have hq:(w.alloc (.cells cs'.toArray e fr)).heap[w.heap.size]?=some (.cells cs'.toArray e fr):=by
     show (w.heap.push _)[w.heap.size]?=_
     simp
    rw [hq] at hh
    obtain ⟨-,-,e3⟩:cs'.toArray=arr∧e=e1∧fr=(lo,hi):=by simpa using hh
    rcases hlo with ⟨-,-,q⟩ | q
    ·rw [q] at hu'; cases hu'
    ·rw [e3] at q; exact q.symm
   rw [hnew]
   refine ⟨r.size,cs'.toArray,e,fr.1,fr.2,?_,by simp,?_,λ j hj=>?_,λ j v hj=>?_⟩
   ·show (w.heap.push _)[w.heap.size]?=_
    simp
   ·rcases hlo with q | q
    ·exact .inr (by simpa using ⟨q.1,q.2.1⟩)
    ·exact .inl q.symm
   ·simp only at hj
    exact ⟨cs'[j],by simp [hj],hc' _ (List.getElem_mem hj)⟩
   ·obtain ⟨v',hv',hr⟩:=hv.get hj
    have hjl:j < cs.length:=(List.getElem?_eq_some_iff.1 hj).1
    refine ⟨v',?_,hr.mono (Nat.le_succ _) hag⟩
    rw [List.getElem?_take,if_pos hjl] at hv'
    simpa using hv'
  ·simp only [Hp.new] at hbc
   rw [if_neg hbn] at hbc
   obtain ⟨lt,len,sz,cell,row,cp,um⟩:=r1.live b c hb hbc
   have hb':ι' b=ι b:=hag b lt
   refine ⟨by simp [Hp.new]; omega,by rw [hb']; exact len,by rw [hb',sz]; simp [Hp.new,hbn],cell,λ hp=>?_,λ k hk=>by rw [hb']; simp only [Hp.new,if_neg hbn] at hk; exact cp k hk,λ hu=>by rw [hb']; simp only [Hp.new,if_neg hbn] at hu; exact um hu⟩
   rw [hb'] at hp ⊢
   obtain ⟨hB,arr,e',lo,hi,hh,h1,h2,h4,h3⟩:=row hp
   refine ⟨hB,arr,e',lo,hi,hh,h1,h2,h4,λ j v hj=>?_⟩
   obtain ⟨v',a,b⟩:=h3 j v hj
   exact ⟨v',a,b.mono (Nat.le_succ _) hag⟩
 ·intro b b' c c' hb hb' hbc hbc' hne
  have key:∀ x cx,w0.heap.size≤x→h.blk x=some cx→(ι x).apart ⟨w.heap.size,0,cs'.length,s⟩:=by
   intro x cx hx hxc
   obtain ⟨_,_,_,_,row⟩:=r.live x cx hx hxc
   by_cases h0:0 < (ι x).rsv
   ·obtain ⟨_,arr,_,_,_,hh,_⟩:=row h0
    have:=(Array.getElem?_eq_some_iff.1 hh).1
    exact .inl (by simp; omega)
   ·exact .inr (.inl (by omega))
  simp only [Hp.new] at hbc hbc'
  by_cases h1:b=h.next
  ·by_cases h2:b'=h.next
   ·exact absurd (h1.trans h2.symm) hne
   ·rw [if_neg h2] at hbc'
    rw [h1,hnew,hag b' (r.live b' c' hb' hbc').lt]
    exact (key b' c' hb' hbc').symm
  ·rw [if_neg h1] at hbc
   by_cases h2:b'=h.next
   ·rw [h2,hnew,hag b (r.live b c hb hbc).lt]
    exact key b c hb hbc
   ·rw [if_neg h2] at hbc'
    rw [hag b (r.live b c hb hbc).lt,hag b' (r.live b' c' hb' hbc').lt]
    exact r.apart b b' c c' hb hb' hbc hbc' hne
theorem q01.dim {w0:World} {ι:Inj} {h:Hp} {w:World} {c:List Value} {s:Nat} (r:q01 w0 ι (h.new c s) w):q01 w0 ι (h.newD c s) w:=
 ⟨r.base,r.size,r.ext,r.exta,r.os,r.tape,r.output,λ b cs hb hc=>by
  obtain ⟨lt,len,sz,cell,row,cp,um⟩:=r.live b cs hb hc
  refine ⟨lt,len,sz,cell,row,cp,λ hu=>um ?_⟩
  by_cases hbn:b=h.next
  ·subst hbn
   simp [Hp.newD] at hu
  ·simp only [Hp.newD,if_neg hbn] at hu
   simp only [Hp.new,if_neg hbn]
   exact hu,r.apart,r.loops⟩
end
section
abbrev q20 (B nx:Nat) (ι:Inj) (a a':Addr):Prop:=qy B nx ι (.pointer (some a)) (.pointer (some a'))
theorem q20.add {B nx:Nat} {ι:Inj} {a a':Addr} (h:q20 B nx ι a a') (n:Nat):q20 B nx ι (a.add n) (a'.add n):=by
 cases h with
 | pext _ h=>
  unfold Addr.add
  split
  ·exact .pext _ h
  ·exact .pext _ h
 | pint b o h1 h2=>
  by_cases h0:n=0
  ·simp only [Addr.add,h0,if_true]
   exact .pint b o h1 h2
  ·simp only [Addr.add,if_neg h0,Nat.add_assoc]
   exact .pint b (o + n) h1 h2
theorem qaa (b o n:Nat):(⟨b,o,none⟩:Addr).add n=⟨b,o + n,none⟩:=by
 unfold Addr.add
 split
 ·simp_all
 ·rfl
section
variable {w0:World} {ι:Inj} {h:Hp} {w:World}
theorem q01.read (r:q01 w0 ι h w) {a a':Addr} {v:Value} (ha:q20 w0.heap.size h.next ι a a') (hg:h.get a=some v) (hcl:a.block < w0.heap.size→Cl w0.heap.size v):
  ∃ v',w.cell? a'=some v'∧qy w0.heap.size h.next ι v v':=by
 unfold Hp.get at hg
 split at hg
 case isFalse=>simp at hg
 case isTrue hs=>
 obtain ⟨cs,hb,hv⟩:=Option.bind_eq_some_iff.1 hg
 cases ha with
 | pext _ hlt=>
  rw [r.exta _ hlt] at hb
  refine ⟨v,?_,hcl hlt _ _⟩
  unfold World.cell?
  rw [r.ext _ hlt]
  unfold qd5 at hb
  split at hb
  ·rename_i c e f heq
   rw [heq]
   simp at hb
   subst hb
   simp only
   have:a.spot.isSome=false:=by cases h:a.spot <;> simp_all
   rw [this]
   simpa using hv
  ·simp at hb
 | pint b o h1 h2=>
  obtain ⟨lt,len,sz,cell,row,_⟩:=r.live b cs h1 hb
  have hlt:o < cs.length:=(List.getElem?_eq_some_iff.1 hv).1
  obtain ⟨_,arr,e,lo,hi,hh,_,_,_,hc⟩:=row (by omega)
  obtain ⟨v',hv',hr⟩:=hc o v hv
  exact ⟨v',by simp [World.cell?,hh,hv'],hr⟩
theorem q01.kill (r:q01 w0 ι h w) (b:Nat) (hb:w0.heap.size≤b):q01 w0 ι (h.kill b) w:=by
 have hk:∀ i c,(h.kill b).blk i=some c→h.blk i=some c:=λ i c hc=>by
  simp only [Hp.kill] at hc
  split at hc
  ·simp at hc
  ·exact hc
 refine ⟨r.base,r.size,r.ext,λ i hi=>?_,r.os,r.tape,r.output,λ i c hi hc=>?_,λ i j c c' hi hj hc hc' hne=>r.apart i j c c' hi hj (hk _ _ hc) (hk _ _ hc') hne,r.loops⟩
 ·simp only [Hp.kill]
  rw [if_neg (by omega)]
  exact r.exta i hi
 ·obtain ⟨a1,a2,a3,a4,a5,a6,a7⟩:=r.live i c hi (hk _ _ hc)
  exact ⟨a1,a2,a3,a4,a5,a6,a7⟩
theorem q01.update (r:q01 w0 ι h w) {b:Nat} {cs cs2:List Value} (hb:w0.heap.size≤b) (hc:h.blk b=some cs)
  {arr arr2:Array Value} {e:TypeId} {lo hi:Nat} (hh:w.heap[(ι b).β]?=some (.cells arr e (lo,hi))) (h0:0 < (ι b).rsv)
  (hsz:arr2.size=arr.size) (hca:∀ j,j < (ι b).rsv→∃ v',arr2[(ι b).d + j]?=some v'∧qv v'=true)
  (hl:cs2.length≤(ι b).rsv) (hcell:∀ v,v∈cs2→qv v=true)
  (hr:∀ (j:Nat) v,cs2[j]?=some v→∃ v',arr2[(ι b).d + j]?=some v'∧qy w0.heap.size h.next ι v v'):
  q01 w0 ι (h.put b cs2) { w with heap:=w.heap.setIfInBounds (ι b).β (.cells arr2 e (lo,hi)) }:=by
 obtain ⟨hβ,arr0,e0,lo0,hi0,hh0,hin,hfz,_,_⟩:=(r.live b cs hb hc).row h0
 rw [hh] at hh0
 obtain ⟨rfl,rfl,rfl,rfl⟩:arr=arr0∧e=e0∧lo=lo0∧hi=hi0:=by simpa using hh0
 have hβl:(ι b).β < w.heap.size:=(Array.getElem?_eq_some_iff.1 hh).1
 have hoth:∀ i,i≠(ι b).β→(w.heap.setIfInBounds (ι b).β (.cells arr2 e (lo,hi)))[i]?=w.heap[i]?:=λ i hne=>by
  rw [Array.getElem?_setIfInBounds,if_neg (by omega)]
 have hsame:(w.heap.setIfInBounds (ι b).β (.cells arr2 e (lo,hi)))[(ι b).β]?=some (.cells arr2 e (lo,hi)):=by
  rw [Array.getElem?_setIfInBounds,if_pos rfl,if_pos hβl]
 refine ⟨r.base,by simpa using r.size,λ i hi'=>(hoth i (by omega)).trans (r.ext i hi'),λ i hi'=>?_,r.os,r.tape,r.output,λ i c hi' hc'=>?_,λ i j c c' hi' hj' hc1 hc2 hne=>?_,r.loops.cells hh hoth⟩
 ·simp only [Hp.put]
  rw [if_neg (by omega)]
  exact r.exta i hi'
 ·by_cases hib:i=b
  ·subst hib
   simp only [Hp.put,if_true,Option.some.injEq] at hc'
   subst hc'
   obtain ⟨lt,_,sz,_,_,cp,um⟩:=r.live i cs hi' hc
   refine ⟨lt,hl,sz,hcell,λ _=>⟨hβ,arr2,e,lo,hi,hsame,by omega,by rw [hsz]; exact hfz,hca,hr⟩,cp,λ hu=>?_⟩
   simp only [Hp.put,if_true,Bool.and_eq_true] at hu
   refine ⟨λ v hv=>List.all_eq_true.1 hu.2 v hv,λ arr1 e1 lo1 hi1 hp hh1=>?_⟩
   have hh2:(w.heap.setIfInBounds (ι i).β (.cells arr2 e (lo,hi)))[(ι i).β]?=some (.cells arr1 e1 (lo1,hi1)):=hh1
   rw [hsame] at hh2
   obtain ⟨-,-,rfl,rfl⟩:arr2=arr1∧e=e1∧lo=lo1∧hi=hi1:=by simpa using hh2
   exact (um hu.1).2 _ _ _ _ hp hh
  ·simp only [Hp.put,if_neg hib] at hc'
   obtain ⟨lt,len,sz,cell,row,cp,um⟩:=r.live i c hi' hc'
   have hbb:(ι i).β≠(ι b).β∨(ι i).rsv=0:=by
    have:=r.apart i b c cs hi' hb hc' hc hib
    unfold Pl.apart at this
    omega
   refine ⟨lt,len,sz,cell,λ hp=>?_,cp,λ hu=>?_⟩
   rotate_left
   ·simp only [Hp.put,if_neg hib] at hu
    refine ⟨(um hu).1,λ arr1 e1 lo1 hi1 hp hh1=>?_⟩
    have hh2:(w.heap.setIfInBounds (ι b).β (.cells arr2 e (lo,hi)))[(ι i).β]?=some (.cells arr1 e1 (lo1,hi1)):=hh1
    rw [hoth _ (by omega)] at hh2
    exact (um hu).2 _ _ _ _ hp hh2
   obtain ⟨hB,arr1,e1,lo1,hi1,hh1,g1,g2,g4,g3⟩:=row hp
   have hbb:(ι i).β≠(ι b).β:=by
    have:=r.apart i b c cs hi' hb hc' hc hib
    unfold Pl.apart at this
    omega
   exact ⟨hB,arr1,e1,lo1,hi1,(hoth _ hbb).trans hh1,g1,g2,g4,g3⟩
 ·have live':∀ x cx,(h.put b cs2).blk x=some cx→∃ cy,h.blk x=some cy:=λ x cx hx=>by
   simp only [Hp.put] at hx
   split at hx
   ·rename_i hxb
    subst hxb
    exact ⟨cs,hc⟩
   ·exact ⟨cx,hx⟩
  obtain ⟨_,y1⟩:=live' i c hc1
  obtain ⟨_,y2⟩:=live' j c' hc2
  exact r.apart i j _ _ hi' hj' y1 y2 hne
theorem q01.carve (r:q01 w0 ι h w) {b:Nat} {cs l:List Value} (hb:w0.heap.size≤b) (hc:h.blk b=some cs) (o rs s:Nat) (hss:(ι b).sz=s) (ho:o + rs≤(ι b).rsv) (hl:l.length≤rs)
  (hcell:∀ v,v∈l→qv v=true)
  (hr:∀ (j:Nat) v,l[j]?=some v→∃ arr e f v',w.heap[(ι b).β]?=some (.cells arr e f)∧arr[(ι b).d + o + j]?=some v'∧qy w0.heap.size h.next ι v v'):
  ∃ ι',Ext ι h ι' ((h.kill b).newD l s)∧ι' h.next=⟨(ι b).β,(ι b).d + o,rs,s⟩∧q01 w0 ι' ((h.kill b).newD l s) w:=by
 let ι':Inj:=λ i=>if i=h.next then ⟨(ι b).β,(ι b).d + o,rs,s⟩ else ι i
 have hag:Agree h.next ι ι':=λ b hb=>by simp [ι']; omega
 have hnew:ι' h.next=⟨(ι b).β,(ι b).d + o,rs,s⟩:=by simp [ι']
 have hlt:=(r.live b cs hb hc).lt
 have hk:∀ i c,((h.kill b).newD l s).blk i=some c→i≠h.next→h.blk i=some c∧i≠b:=λ i c hc hne=>by
  change (if i=h.next then some l else if i=b then none else h.blk i)=some c at hc
  rw [if_neg hne] at hc
  split at hc
  ·simp at hc
  ·exact ⟨hc,by assumption⟩
 refine ⟨ι',⟨Nat.le_succ _,hag,λ _ _ e=>e⟩,hnew,?_⟩
 refine ⟨Nat.le_succ_of_le r.base,r.size,r.ext,λ i hi=>?_,r.os,r.tape,r.output,?_,?_,r.loops.mono (Nat.le_succ _) hag λ _ _ e _=>e⟩
 ·have:=r.base
  show (if i=h.next then some l else if i=b then none else h.blk i)=_
  rw [if_neg (by omega),if_neg (by omega)]
  exact r.exta i hi
 ·intro i c hi hc'
  by_cases hin:i=h.next
  ·subst hin
   simp only [Hp.newD,Hp.new,Hp.kill,if_true,Option.some.injEq] at hc'
   subst hc'
   refine ⟨by simp [Hp.newD,Hp.new,Hp.kill],by rw [hnew]; exact hl,by rw [hnew]; simp [Hp.newD,Hp.new,Hp.kill],hcell,λ h0=>?_,λ k hk=>by have hk:(if h.next=h.next then none else h.cp h.next)=some k:=hk; simp at hk,λ hu=>by have hu:(if h.next=h.next then false else h.um h.next)=true:=hu; simp at hu⟩
   rw [hnew] at h0 ⊢
   obtain ⟨hB,arr,e,lo,hi',hh,g1,g2,g4,_⟩:=(r.live b cs hb hc).row (by simp at h0; omega)
   refine ⟨hB,arr,e,lo,hi',hh,by simp; omega,?_,λ j hj=>?_,λ j v hj=>?_⟩
   ·rcases g2 with q | ⟨q,q'⟩
    ·exact .inl q
    ·exact .inr ⟨q,by rw [← hss]; exact q'⟩
   ·simp only at hj
    obtain ⟨v',q,q'⟩:=g4 (o + j) (by omega)
    exact ⟨v',by rw [← Nat.add_assoc] at q; exact q,q'⟩
   ·obtain ⟨arr1,e1,f1,v',hh1,hv',hvr⟩:=hr j v hj
    rw [hh] at hh1
    obtain ⟨rfl,rfl,_⟩:arr=arr1∧e=e1∧(lo,hi')=f1:=by simpa using hh1
    exact ⟨v',hv',hvr.mono (Nat.le_succ _) hag⟩
  ·obtain ⟨hci,hib⟩:=hk i c hc' hin
   obtain ⟨lt,len,sz,cell,row,cp,um⟩:=r.live i c hi hci
   have hb':ι' i=ι i:=hag i lt
   refine ⟨by simp [Hp.newD,Hp.new,Hp.kill]; omega,by rw [hb']; exact len,by rw [hb',sz]; simp [Hp.newD,Hp.new,Hp.kill,hin],cell,λ hp=>?_,λ k hk=>by have hk:(if i=h.next then none else h.cp i)=some k:=hk; rw [if_neg hin] at hk; rw [hb']; exact cp k hk,λ hu=>by have hu:(if i=h.next then false else h.um i)=true:=hu; rw [if_neg hin] at hu; rw [hb']; exact um hu⟩
   rw [hb'] at hp ⊢
   obtain ⟨hB,arr,e',lo,hi,hh,h1,h2,h4,h3⟩:=row hp
   refine ⟨hB,arr,e',lo,hi,hh,h1,h2,h4,λ j v hj=>?_⟩
   obtain ⟨v',a,b⟩:=h3 j v hj
   exact ⟨v',a,b.mono (Nat.le_succ _) hag⟩
 ·intro i j c c' hi hj hc1 hc2 hne
  have key:∀ x cx,w0.heap.size≤x→h.blk x=some cx→x≠b→(ι x).apart ⟨(ι b).β,(ι b).d + o,rs,s⟩:=by
   intro x cx hx hxc hxb
   have:=r.apart x b cx cs hx hb hxc hc hxb
   unfold Pl.apart at *
   simp only
   omega
  by_cases h1:i=h.next
  ·by_cases h2:j=h.next
   ·exact absurd (h1.trans h2.symm) hne
   ·obtain ⟨g1,g2⟩:=hk j c' hc2 h2
    rw [h1,hnew,hag j (r.live j c' hj g1).lt]
    exact (key j c' hj g1 g2).symm
  ·obtain ⟨g1,g2⟩:=hk i c hc1 h1
   by_cases h2:j=h.next
   ·rw [h2,hnew,hag i (r.live i c hi g1).lt]
    exact key i c hi g1 g2
   ·obtain ⟨g3,g4⟩:=hk j c' hc2 h2
    rw [hag i (r.live i c hi g1).lt,hag j (r.live j c' hj g3).lt]
    exact r.apart i j c c' hi hj g1 g3 hne
end
section
variable {P:Program}
theorem run_loadCellsFrom (w:World) (a:Addr) (vs:List Value):∀ (i:Nat) (acc:Array Value),
  (∀ (j:Nat) v,vs[j]?=some v→w.cell? (a.add (i + j))=some v)→(loadCellsFrom a i vs.length acc).run P w=.ok (acc++vs.toArray) w:=by
 induction vs with
 | nil=>intro i acc h; simp [loadCellsFrom,Sem.run,pure]
 | cons v t ih=>
  intro i acc h
  have h0:=h 0 v (by simp)
  simp only [List.length_cons,loadCellsFrom,Sem.run_bind,load]
  simp only [Sem.run,Nat.add_zero] at h0 ⊢
  rw [h0]
  simp only [Result.andThen_ok]
  rw [ih (i + 1) (acc.push v) (λ j x hj=>by have:=h (j + 1) x (by simpa using hj); rw [show i + (j + 1)=i + 1 + j by omega] at this; exact this)]
  simp
theorem run_loadCells (w:World) (a:Addr) (vs:List Value) (h:∀ (j:Nat) v,vs[j]?=some v→w.cell? (a.add j)=some v):
  (loadCells a vs.length).run P w=.ok vs.toArray w:=by
 have:=run_loadCellsFrom (P:=P) w a vs 0 #[] (λ j v hj=>by rw [Nat.zero_add]; exact h j v hj)
 simpa [loadCells] using this
theorem q3m (H:Array Obj) (β k:Nat) (x:Obj) (hlt:β < H.size):(H.setIfInBounds β x)[k]?=if k=β then some x else H[k]?:=by
 rw [Array.getElem?_setIfInBounds]
 by_cases hk:k=β
 ·subst hk
  simp [hlt]
 ·rw [if_neg (λ e=>hk e.symm),if_neg hk]
theorem qud (β:Nat) (e:TypeId) (lo hi:Nat):∀ (xs:List Value) (w:World) (arr:Array Value) (o i:Nat),w.heap[β]?=some (.cells arr e (lo,hi))→
  (∀ v,v∈xs→qv v=true)→o + i + xs.length≤arr.size→(∀ j,j < xs.length→¬ (lo≤o + i + j∧o + i + j < hi))→
  ∃ arr2:Array Value,(storeCells ⟨β,o,none⟩ xs i).run P w=.ok () { w with heap:=w.heap.setIfInBounds β (.cells arr2 e (lo,hi)) }∧arr2.size=arr.size∧
   ∀ k:Nat,arr2[k]?=if o + i≤k∧k < o + i + xs.length then xs[k - (o + i)]? else arr[k]?:=by
 intro xs
 induction xs with
 | nil=>
  intro w arr o i hh _ _ _
  refine ⟨arr,?_,rfl,λ k=>by rw [if_neg (by simp)]⟩
  have hlt:=(Array.getElem?_eq_some_iff.1 hh).1
  have heq:=(Array.getElem?_eq_some_iff.1 hh).2
  have:w.heap.setIfInBounds β (.cells arr e (lo,hi))=w.heap:=by
   apply Array.ext_getElem?
   intro k
   rw [q3m _ _ _ _ hlt]
   split
   ·rename_i hk
    rw [hk,hh]
   ·rfl
  rw [this]
  simp [storeCells,Sem.run,pure]
 | cons v t ih=>
  intro w arr o i hh hcell hlen hfz
  have hlt:=(Array.getElem?_eq_some_iff.1 hh).1
  simp only [List.length_cons] at hlen hfz
  have hv:qv v=true:=hcell v (by simp)
  have hc:w.cell? ⟨β,o + i,none⟩=some arr[o + i]:=by simp [World.cell?,hh]
  have hf:w.frozen? ⟨β,o + i,none⟩=false:=by
   have:=hfz 0 (by omega)
   simp only [World.frozen?,hh]
   simp only [Nat.add_zero] at this
   simp
   omega
  have hset:w.setCell ⟨β,o + i,none⟩ v = { w with heap:=w.heap.setIfInBounds β (.cells (arr.setIfInBounds (o + i) v) e (lo,hi)) }:=by
   unfold World.setCell
   congr 1
   apply Array.ext_getElem?
   intro k
   rw [Array.getElem?_modify,q3m _ _ _ _ hlt]
   by_cases hk:k=β
   ·rw [hk,if_pos rfl,if_pos rfl,hh]
    rfl
   ·rw [if_neg (λ e=>hk e.symm),if_neg hk]
  have hh2:(w.setCell ⟨β,o + i,none⟩ v).heap[β]?=some (.cells (arr.setIfInBounds (o + i) v) e (lo,hi)):=by
   rw [hset]
   show (w.heap.setIfInBounds _ _)[β]?=_
   rw [q3m _ _ _ _ hlt,if_pos rfl]
  obtain ⟨arr2,hrun,hs2,hk2⟩:=ih (w.setCell ⟨β,o + i,none⟩ v) (arr.setIfInBounds (o + i) v) o (i + 1) hh2 (λ x hx=>hcell x (by simp [hx])) (by simp; omega)
   (λ j hj=>by have:=hfz (j + 1) (by omega); omega)
  refine ⟨arr2,?_,by simpa using hs2,λ k=>?_⟩
  ·have hst:(store (⟨β,o + i,none⟩:Addr) v).run P w=.ok () (w.setCell ⟨β,o + i,none⟩ v):=by
    unfold store
    cases v <;> simp [qv] at hv <;> simp [Sem.run,hc,hf]
   simp only [storeCells,Sem.run_bind,qaa,hst,Result.andThen_ok,hrun]
   congr 1
   rw [hset]
   simp only
   congr 1
   apply Array.ext_getElem?
   intro k
   rw [q3m _ _ _ _ (by simpa using hlt),q3m _ _ _ _ hlt,q3m _ _ _ _ hlt]
   split <;> rfl
  ·rw [hk2]
   simp only [Array.getElem?_setIfInBounds,List.length_cons]
   by_cases h1:k=o + i
   ·subst h1
    rw [if_neg (by omega),if_pos rfl,if_pos (by omega),if_pos (by omega)]
    simp
   ·by_cases h2:o + (i + 1)≤k∧k < o + (i + 1) + t.length
    ·rw [if_pos h2,if_pos (by omega),show k - (o + i)=(k - (o + (i + 1))) + 1 by omega]
     simp
    ·rw [if_neg h2,if_neg (by omega),if_neg (by omega)]
end
section
variable {w0:World} {ι:Inj} {h:Hp} {w:World} {P:Program}
def Hp.getN (h:Hp) (a:Addr) (n:Nat):Option (List Value):=
 if a.spot.isNone then (h.blk a.block).bind λ c=>if a.off + n≤c.length then some ((c.drop a.off).take n) else none else none
theorem q01.readN (r:q01 w0 ι h w) {a a':Addr} {n:Nat} {vs:List Value} (ha:q20 w0.heap.size h.next ι a a') (hg:h.getN a n=some vs)
  (hcl:a.block < w0.heap.size→∀ v,v∈vs→Cl w0.heap.size v):
  ∃ vs':List Value,(∀ w':World,w'.heap=w.heap→(loadCells a' n).run P w'=.ok vs'.toArray w')∧q0w w0.heap.size h.next ι vs vs':=by
 unfold Hp.getN at hg
 split at hg
 case isFalse=>simp at hg
 case isTrue hs=>
 obtain ⟨cs,hb,hv⟩:=Option.bind_eq_some_iff.1 hg
 split at hv
 case isFalse=>simp at hv
 case isTrue hle=>
 simp only [Option.some.injEq] at hv
 have hvl:vs.length=n:=by rw [← hv]; simp; omega
 have hget:∀ (j:Nat) v,vs[j]?=some v→h.get (a.add j)=some v:=by
  intro j v hj
  have hjn:j < n:=by rw [← hvl]; exact (List.getElem?_eq_some_iff.1 hj).1
  rw [← hv,List.getElem?_take,if_pos hjn,List.getElem?_drop] at hj
  obtain ⟨ab,ao,asp⟩:=a
  have:asp=none:=by simpa using hs
  subst this
  rw [qaa]
  simp only [Hp.get]
  simp only at hb hj
  simp [hb,hj]
 have hblk:∀ j,(a.add j).block=a.block:=λ j=>by unfold Addr.add; split <;> rfl
 have key:∀ j,j < vs.length→∃ v',w.cell? (a'.add j)=some v'∧∀ v,vs[j]?=some v→qy w0.heap.size h.next ι v v':=by
  intro j hj
  have hj':vs[j]?=some vs[j]:=by simp [hj]
  obtain ⟨v',h1,h2⟩:=r.read (ha.add j) (hget j _ hj') (λ hlt=>hcl (by rw [hblk] at hlt; exact hlt) _ (List.getElem_mem hj))
  exact ⟨v',h1,λ v hv=>by rw [hj'] at hv; cases hv; exact h2⟩
 let vs':List Value:=(List.range vs.length).map λ j=>(w.cell? (a'.add j)).getD undef
 have hl':vs'.length=n:=by simp [vs',hvl]
 have hcell:∀ (j:Nat) v,vs'[j]?=some v→w.cell? (a'.add j)=some v:=by
  intro j v hj
  have hjl:j < vs.length:=by have:=(List.getElem?_eq_some_iff.1 hj).1; omega
  obtain ⟨v',h1,_⟩:=key j hjl
  simp only [vs',List.getElem?_map,List.getElem?_range hjl,Option.map_some,h1,Option.getD_some,Option.some.injEq] at hj
  rw [h1,hj]
 refine ⟨vs',?_,by omega,λ j v v' hj hj'=>?_⟩
 ·intro w' hw'
  have:=run_loadCells (P:=P) w' a' vs' (λ j v hj=>by have:=hcell j v hj; simpa [World.cell?,hw'] using this)
  rwa [hl'] at this
 ·have hjl:j < vs.length:=(List.getElem?_eq_some_iff.1 hj).1
  obtain ⟨v'',h1,h2⟩:=key j hjl
  have:=hcell j v' hj'
  rw [h1] at this
  cases this
  exact h2 v hj
def splice (c:List Value) (o:Nat) (xs:List Value):List Value:=c.take o++xs++c.drop (o + xs.length)
theorem q67 {c:List Value} {o:Nat} {xs:List Value} (h:o + xs.length≤c.length):(splice c o xs).length=c.length:=by simp [splice]; omega
theorem ql8 {c:List Value} {o:Nat} {xs:List Value} (h:o + xs.length≤c.length) (k:Nat):
  (splice c o xs)[k]?=if o≤k∧k < o + xs.length then xs[k - o]? else c[k]?:=by
 unfold splice
 by_cases h1:k < o
 ·rw [if_neg (by omega),List.append_assoc,List.getElem?_append_left (by simp; omega),List.getElem?_take,if_pos h1]
 ·by_cases h2:k < o + xs.length
  ·rw [if_pos ⟨by omega,h2⟩,List.append_assoc,List.getElem?_append_right (by simp; omega),List.getElem?_append_left (by simp; omega)]
   congr 1
   simp; omega
  ·rw [if_neg (by omega),List.getElem?_append_right (by simp; omega),List.getElem?_drop]
   congr 1
   simp; omega
theorem qc5 (c:List Value) (o:Nat) (v:Value) (h:o < c.length):splice c o [v]=c.set o v:=by
 apply List.ext_getElem?
 intro k
 rw [ql8 (by simp; omega),List.getElem?_set]
 by_cases h1:k=o
 ·subst h1
  rw [if_pos (by simp),if_pos rfl,if_pos h]
  simp
 ·rw [if_neg (by simp; omega),if_neg (by omega)]
theorem qvf {d rsv o:Nat} {arr arr2:Array Value} {xs:List Value} (h1:∀ j,j < rsv→∃ v,arr[d + j]?=some v∧qv v=true) (h2:∀ v,v∈xs→qv v=true)
  (hk:∀ k:Nat,arr2[k]?=if o≤k∧k < o + xs.length then xs[k - o]? else arr[k]?):∀ j,j < rsv→∃ v,arr2[d + j]?=some v∧qv v=true:=by
 intro j hj
 rw [hk]
 by_cases h:o≤d + j∧d + j < o + xs.length
 ·rw [if_pos h,List.getElem?_eq_getElem (by omega)]
  exact ⟨_,rfl,h2 _ (List.getElem_mem _)⟩
 ·rw [if_neg h]
  exact h1 j hj
theorem q01.storeN (r:q01 w0 ι h w) {b o:Nat} {a':Addr} {cs xs xs':List Value} (ha:q20 w0.heap.size h.next ι ⟨b,o,none⟩ a') (hb:w0.heap.size≤b) (hc:h.blk b=some cs)
  (hle:o + xs.length≤cs.length) (hcell:∀ v,v∈xs→qv v=true) (hx:q0w w0.heap.size h.next ι xs xs'):
  ∃ w',(storeCells a' xs').run P w=.ok () w'∧q01 w0 ι (h.put b (splice cs o xs)) w':=by
 obtain ⟨lt,len,sz,cell,row,cp,um⟩:=r.live b cs hb hc
 by_cases hn:xs=[]
 ·subst hn
  have:xs'=[]:=by have:=hx.1; simpa using this.symm
  subst this
  refine ⟨w,by simp [storeCells,Sem.run,pure],?_⟩
  have:splice cs o []=cs:=by simp [splice]
  rw [this]
  have:h.put b cs=h:=by
   have e1:(λ i=>if i=b then some cs else h.blk i)=h.blk:=by
    funext i
    split
    ·rename_i hi; rw [hi,hc]
    ·rfl
   have e2:(λ i=>if i=b then h.um i && cs.all q2d else h.um i)=h.um:=by
    funext i
    split
    ·rename_i hi
     cases hu:h.um i with
     | false=>rfl
     | true=>rw [hi] at hu; rw [Bool.true_and]; exact List.all_eq_true.2 (um hu).1
    ·rfl
   unfold Hp.put
   rw [e1,e2]
  rw [this]
  exact r
 have hpos:0 < xs.length:=List.length_pos_iff.2 hn
 obtain ⟨hB,arr,e,lo,hi,hh,g1,g2,g4,g3⟩:=row (by omega)
 cases ha with
 | pext _ hlt=>simp at hlt; omega
 | pint _ _ h1 h2=>
  have hxl:xs.length=xs'.length:=hx.1
  have hcell':∀ v,v∈xs'→qv v=true:=λ v hv=>by
   obtain ⟨i,hi',hv'⟩:=List.getElem_of_mem hv
   have hix:i < xs.length:=by omega
   have:=(hx.2 i xs[i] v (by simp [hix]) (by rw [List.getElem?_eq_getElem hi',hv'])).isCell_eq
   rw [this]
   exact hcell _ (List.getElem_mem hix)
  obtain ⟨arr2,hrun,hs2,hk2⟩:=qud (P:=P) (ι b).β e lo hi xs' w arr ((ι b).d + o) 0 hh hcell' (by omega) (λ j hj=>by omega)
  refine ⟨_,hrun,?_⟩
  refine r.update hb hc hh (by omega) hs2 (qvf g4 hcell' hk2) (by rw [q67 hle]; exact len) (λ v hv=>?_) (λ j v hj=>?_)
  ·simp only [splice,List.mem_append] at hv
   rcases hv with (hv | hv) | hv
   ·exact cell v (List.mem_of_mem_take hv)
   ·exact hcell v hv
   ·exact cell v (List.mem_of_mem_drop hv)
  ·rw [ql8 hle] at hj
   rw [hk2]
   by_cases hjj:o≤j∧j < o + xs.length
   ·rw [if_pos hjj] at hj
    rw [if_pos (by omega)]
    obtain ⟨v',hv',hr⟩:=hx.get hj
    refine ⟨v',?_,hr⟩
    rw [← hv']
    congr 1
    omega
   ·rw [if_neg hjj] at hj
    rw [if_neg (by omega)]
    exact g3 j v hj
end
end
end Go.Proofs.YtfmoemconapmhaaGreat.Ah
