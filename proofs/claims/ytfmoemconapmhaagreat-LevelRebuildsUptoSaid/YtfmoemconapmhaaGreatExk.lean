/- run.Mem: its calls. -/
import Derived.Test.YtfmoemconapmhaaGreatExj
set_option linter.all false
namespace Go.Proofs.YtfmoemconapmhaaGreat.Ah
open Go
def q1f (l:List Ent) (x:Ent):List Ent:=l.take (fE l x.k)++x :: l.drop (if q1x (kl l) x.k=true then fE l x.k + 1 else fE l x.k)
theorem qx0 (a b:List Ent):kl (a++b)=kl a++kl b:=by simp [kl]
theorem qyy (l:List Ent) (i:Nat):kl (l.take i)=(kl l).take i:=by simp [kl]
theorem qze (l:List Ent) (i:Nat):kl (l.drop i)=(kl l).drop i:=by simp [kl]
theorem qcw (l:List Ent) (x:Ent):q2m (kl l) x.k x=kl (q1f l x):=by
 unfold q1f q2m
 rw [qx0,show kl (x :: l.drop (if q1x (kl l) x.k=true then fE l x.k + 1 else fE l x.k))=(x.k,x) :: kl (l.drop (if q1x (kl l) x.k=true then fE l x.k + 1 else fE l x.k)) from rfl,qyy,qze]
 cases hh:q1x (kl l) x.k with
 | false=>rfl
 | true=>
  obtain ⟨u,hu⟩:=q98 hh
  have hil:=(List.getElem?_eq_some_iff.1 hu).1
  simp only [if_true]
  exact List.set_eq_take_append_cons_drop.trans (if_pos hil)
theorem q0ny {a b:List Ent} (h:kl a=kl b):a=b:=by
 have:=congrArg (List.map (·.2)) h
 simpa [kl,List.map_map,Function.comp_def] using this
theorem q0jx {l:List Ent} (s:l.Pairwise λ x y=>blt x.k y.k=true) (k:Key):q1x (kl l) k=(q11 l k).isSome∧q4x (kl l) k=q11 l k:=by
 unfold q4x q1x
 rcases qxe s k with ⟨q1,q2⟩ | ⟨x,q1,q2,q3,q4⟩
 ·have:q25 (kl l) k (q0r (kl l) k)=false:=q1
  rw [this,q2]
  exact ⟨rfl,rfl⟩
 ·have:q25 (kl l) k (q0r (kl l) k)=true:=q3
  have h2:(kl l)[q0r (kl l) k]?=some (x.k,x):=by
   have:l[q0r (kl l) k]?=some x:=q1
   unfold kl at this ⊢
   rw [List.getElem?_map,this]
   rfl
  rw [this,q4,h2]
  exact ⟨rfl,rfl⟩
section
variable {w0:World} {h h':Hp}
def Me (w0:World) (h:Hp) (r:Value) (l:List Ent) (S:List Nat):Prop:=
 ∃ q p M,r=ptr q∧h.blk q=some [ptr p]∧Mp w0 h p (kl l) M∧w0.heap.size≤q∧q < h.next∧q∉M∧S=q :: M∧l.Pairwise (λ x y=>blt x.k y.k=true)∧l.length≤10000000
theorem Me.nj {r:Value} {l:List Ent} {S:List Nat} (m:Me w0 h r l S):r≠junk:=by obtain ⟨q,p,M,e,-⟩:=m; subst e; simp [ptr,junk]
theorem Me.isC {r:Value} {l:List Ent} {S:List Nat} (m:Me w0 h r l S):qv r=true:=by obtain ⟨q,p,M,e,-⟩:=m; subst e; rfl
theorem Me.lt {r:Value} {l:List Ent} {S:List Nat} (m:Me w0 h r l S):∀ b,b∈S→w0.heap.size≤b∧b < h.next:=by
 obtain ⟨q,p,M,e,a1,a2,a3,a4,a5,a6,a7⟩:=m
 subst a6
 intro b hb
 rcases List.mem_cons.1 hb with rfl | hb
 ·exact ⟨a3,a4⟩
 ·exact a2.lt b hb
theorem Me.frame {r:Value} {l:List Ent} {S T T':List Nat} (m:Me w0 h r l S) (st:Step h h' T T') (hd:∀ b,b∈S→b∉T):Me w0 h' r l S:=by
 obtain ⟨q,p,M,e,a1,a2,a3,a4,a5,a6,a7,a8⟩:=m
 subst a6
 exact ⟨q,p,M,e,by rw [(st.keep q a4 (hd q (by simp))).1]; exact a1,a2.frame st (λ b hb=>hd b (by simp [hb])),a3,Nat.lt_of_lt_of_le a4 st.1,a5,rfl,a7,a8⟩
def Mno (w0:World) (h:Hp) (r:Value):Prop:=r=.pointer none∨∃ p,r=ptr p∧w0.heap.size≤p∧p < h.next∧h.blk p=some [.pointer none]
theorem Mno.step {r:Value} (m:Mno w0 h r) (st:Step h h' [] []):Mno w0 h' r:=by
 rcases m with m | ⟨p,a,b,c,d⟩
 ·exact .inl m
 ·exact .inr ⟨p,a,b,Nat.lt_of_lt_of_le c st.1,by rw [(st.keep p c (by simp)).1]; exact d⟩
theorem Mno.nj {r:Value} (m:Mno w0 h r):r≠junk:=by
 rcases m with m | ⟨p,a,b,c,d⟩ <;> subst r <;> simp [ptr,junk]
theorem qc3 {r:Value} {l:List Ent} {S:List Nat} (m:Me w0 h r l S):qf prog w0 q8t [r] h λ v h'=>v=.bool true∧h'=h:=by
 refine qf.of_fit (by simpa using m.nj) λ f=>q0cc (by simpa using m.nj) ?_
 obtain ⟨q,p,M,e,a1,a2,a3,a4,a5,a6,a7⟩:=m
 subst e
 have c0:q1g .neq (.pointer (some ⟨q,0,none⟩)) (.pointer none)=some (.bool true):=rfl
 have c1:q1g .neq (.pointer (some ⟨p,0,none⟩)) (.pointer none)=some (.bool true):=rfl
 simp only [qu8,ptr,c0,wd, wa]
 refine qj a3 a1 rfl ?_
 simp only [ptr,c1,wd, wa,qu,q06]
 exact ⟨by simp,trivial,trivial⟩
theorem qvu:qf prog w0 qfm [] h λ r h'=>∃ S,Me w0 h' r [] S∧Step h h' [] S:=by
 refine qf.of_fit (by simp) λ f=>q0dk (by simp) ?_
 simp only [qv4]
 refine qq qvw λ r h1 ⟨e,m1,s1⟩ f1=>?_
 subst e
 simp only [q2w,q28,q1u,List.set_cons_zero,q4c,qu,q06]
 have sn:Step h1 (h1.new [ptr h.next] 1) [] [h1.next]:=(Step.refl h1 [] (by simp)).new _ _
 have n1:=s1.1
 have hlt:=(s1.own h.next (by simp)).1
 exact ⟨rfl,by simp,by simp,[h1.next,h.next],⟨h1.next,h.next,[h.next],rfl,by simp,m1.frame sn (by simp),f1.base,by simp,by simp; omega,rfl,.nil,by simp⟩,s1.new _ _⟩
theorem q007 {r:Value} {l:List Ent} {S:List Nat} (m:Me w0 h r l S):qf prog w0 qfg [r] h λ v h'=>v=.int .i64 (l.length:Int)∧h'=h:=by
 refine qf.of_fit (by simpa using m.nj) λ f=>q0cx (by simpa using m.nj) ?_
 simp only [quh]
 refine qq (qc3 m) λ v h1 ⟨e,e'⟩ f1=>?_
 subst e e'
 obtain ⟨q,p,M,e,a1,a2,a3,a4,a5,a6,a7⟩:=m
 subst e
 simp only [ptr,wd, wa]
 refine qj a3 a1 rfl ?_
 refine qq (q0ip a2) λ v h1 ⟨e,e'⟩ f1=>?_
 subst e e'
 simp only [q3e,qu,q06]
 exact ⟨by simp,trivial,trivial⟩
theorem q0o0 {r:Value} {l:List Ent} {S:List Nat} (m:Me w0 h r l S) (k:Key):qf prog w0 qke [r,.string (str k)] h λ v h'=>v=.tuple #[.agg (eo (q11 l k)).toArray,.bool (q11 l k).isSome]∧Step h h' [] []:=by
 refine qf.of_fit (by simpa using m.nj) λ f=>q0dd (by simpa using m.nj) ?_
 simp only [quz,q2t]
 refine ⟨q2b,?_⟩
 have fb:=f.base
 have sn:Step h (h.new zE 3) [] [h.next]:=(Step.refl h [] (by simp)).new _ _
 have n1:h.next < (h.new zE 3).next:=by simp
 have bn:(h.new zE 3).blk h.next=some zE:=by simp
 have mn:=m.frame sn (by simp)
 show qi _ _ _ _ _ (h.new zE 3)
 generalize h.new zE 3=h1 at *
 refine qq (qc3 mn) λ v h2 ⟨e,e'⟩ f2=>?_
 subst e e'
 obtain ⟨q,p,M,e,a1,a2,a3,a4,a5,a6,a7,a8⟩:=mn
 subst e
 simp only [ptr,wd, wa]
 refine qj a3 a1 rfl ?_
 refine qq (q0ik a2 (q4d a7) (by rw [q3e]; omega) k) λ v h3 ⟨e,s3⟩ f3=>?_
 subst e
 obtain ⟨g1,g2⟩:=q0jx a7 k
 rw [g1,g2]
 simp only [wd, wa]
 have b3:h3.blk h.next=some zE:=by rw [(s3.keep _ n1 (by simp)).1]; exact bn
 refine q4l fb b3 rfl (qh4 _) ?_
 refine q16 (cs:=eo (q11 l k)) fb (by simp) (qh4 _) ?_
 simp only [qu,q19]
 exact ⟨by simp,trivial,((sn.trans (s3.keepS (by simpa using n1))).put (by simp) _).less (by simp)⟩
end
theorem q00e {l:List Ent} (s:Srt (kl l)):l.Pairwise λ x y=>blt x.k y.k=true:=by
 unfold Srt kl at s
 exact List.pairwise_map.1 s
theorem qai {l:List Ent} (s:l.Pairwise λ x y=>blt x.k y.k=true) (x:Ent):(q1f l x).Pairwise λ x y=>blt x.k y.k=true:=by
 refine q00e ?_
 rw [← qcw]
 exact qyo (q4d s) x.k x
theorem qls (l:List Ent) (x:Ent):(q1f l x).length≤l.length + 1:=by
 have:=q0l4 (kl l) x.k x
 rwa [qcw,q3e,q3e] at this
section
variable {w0:World} {h h':Hp}
theorem qx8 {r:Value} {l:List Ent} {S:List Nat} (m:Me w0 h r l S) (hl:l.length < 10000000) (x:Ent):qf prog w0 qfi [r,.agg (ee x).toArray] h λ v h'=>∃ S',
  v=.int .i64 (if q0e x=true then 0 else 120)∧Me w0 h' r (if q0e x=true then q1f l x else l) S'∧Step h h' S S':=by
 refine qf.of_fit (by simpa using m.nj) λ f=>q0cu (by simpa using m.nj) ?_
 simp only [qut,q4c]
 have fb:=f.base
 have sn:Step h (h.new (ee x) 3) [] [h.next]:=(Step.refl h [] (by simp)).new _ _
 have n1:h.next < (h.new (ee x) 3).next:=by simp
 have bn:(h.new (ee x) 3).blk h.next=some (ee x):=by simp
 have mn:=m.frame sn (by simp)
 have hlt:=λ b hb=>(m.lt b hb).2
 show qi _ _ _ _ _ (h.new (ee x) 3)
 generalize h.new (ee x) 3=h1 at *
 refine qq (qc3 mn) λ v h2 ⟨e,e'⟩ f2=>?_
 subst e e'
 simp only [wd, wa]
 refine q16 fb bn rfl ?_
 refine qq (qwi x) λ v h3 ⟨e,s3⟩ f3=>?_
 subst e
 have s03:Step h h3 S S:=((sn.less (T:=[]) (by simp)).trans s3).keepS hlt
 have m3:=mn.frame s3 (by simp)
 have b3:h3.blk h.next=some (ee x):=by rw [(s3.keep _ n1 (by simp)).1]; exact bn
 cases hr:q0e x with
 | false=>
  simp only [wd, wa,qu,q06]
  exact ⟨by simp,S,by simp,by simpa using m3,s03⟩
 | true=>
  obtain ⟨q,p,M,e,a1,a2,a3,a4,a5,a6,a7,a8⟩:=m3
  subst e a6
  simp only [ptr,wd, wa]
  refine qj a3 a1 rfl ?_
  refine qj fb b3 rfl ?_
  refine q16 fb b3 rfl ?_
  refine qq (q0k2 a2 (q4d a7) (by rw [q3e]; omega) x.k x) λ v h4 ⟨e,M',m4,s4⟩ f4=>?_
  rw [qcw] at m4
  simp only [qu,q06]
  have hq':q∉M':=λ z=>by
   rcases (s4.own q z).2 with z | z
   ·exact a5 z
   ·omega
  refine ⟨by simp,q :: M',by simp,?_,s03.trans (s4.consR a4)⟩
  rw [if_pos trivial]
  have hwl:=qls l x
  exact ⟨q,p,M',rfl,by rw [(s4.keep q a4 a5).1]; exact a1,m4,a3,Nat.lt_of_lt_of_le a4 s4.1,hq',rfl,qai a7 x,by omega⟩
theorem q00b {r:Value} {l:List Ent} {S:List Nat} (m:Me w0 h r l S) (hl:l.length < 10000000) (k v:Key):qf prog w0 qfh [r,.string (str k),.string (str v)] h λ u h'=>∃ S',
  u=.int .i64 (if q0e ⟨k,v,false⟩=true then 0 else 120)∧Me w0 h' r (if q0e ⟨k,v,false⟩=true then q1f l ⟨k,v,false⟩ else l) S'∧Step h h' S S':=by
 refine qf.of_fit (by simpa using m.nj) λ f=>q0d5 (by simpa using m.nj) ?_
 simp only [quj,q2w,q28,q1u,List.set_cons_zero,List.set_cons_succ]
 refine ⟨rfl,by simp,rfl,by simp,?_⟩
 refine qq (qx8 m hl ⟨k,v,false⟩) λ u h1 ⟨S',e,m1,s1⟩ f1=>?_
 subst e
 simp only [qu,q06]
 exact ⟨by simp,S',trivial,m1,s1⟩
theorem qxi {r:Value} {l:List Ent} {S:List Nat} (m:Me w0 h r l S) (hl:l.length < 10000000) (k:Key):qf prog w0 qf6 [r,.string (str k)] h λ u h'=>∃ S',
  u=.int .i64 (if q0e ⟨k,[],true⟩=true then 0 else 120)∧Me w0 h' r (if q0e ⟨k,[],true⟩=true then q1f l ⟨k,[],true⟩ else l) S'∧Step h h' S S':=by
 refine qf.of_fit (by simpa using m.nj) λ f=>q0aq (by simpa using m.nj) ?_
 simp only [qtv,q2w,q28,q1u,List.set_cons_zero,List.set_cons_succ]
 refine ⟨rfl,by simp,rfl,by simp,?_⟩
 refine qq (qx8 m hl ⟨k,[],true⟩) λ u h1 ⟨S',e,m1,s1⟩ f1=>?_
 subst e
 simp only [qu,q06]
 exact ⟨by simp,S',trivial,m1,s1⟩
theorem q0l6 {r:Value} {l:List Ent} {S:List Nat} (m:Me w0 h r l S):qf prog w0 qk6 [r] h λ v h'=>∃ S',Me w0 h' r [] S'∧Step h h' S S':=by
 refine qf.of_fit (by simpa using m.nj) λ f=>q0br (by simpa using m.nj) ?_
 have hlt:=λ b hb=>(m.lt b hb).2
 simp only [qu0]
 refine qq (qc3 m) λ v h1 ⟨e,e'⟩ f1=>?_
 subst e e'
 obtain ⟨q,p,M,e,a1,a2,a3,a4,a5,a6,a7,a8⟩:=m
 subst e a6
 simp only [wd, wa]
 refine qq qvw λ v h2 ⟨e,m2,s2⟩ f2=>?_
 subst e
 have b2:h2.blk q=some [ptr p]:=by rw [(s2.keep q a4 (by simp)).1]; exact a1
 have n2:=s2.1
 have hlt2:=(s2.own h1.next (by simp)).1
 simp only [ptr,wd, wa]
 refine q21 a3 b2 (by simp) rfl ?_
 simp only [List.set_cons_zero,qu]
 have sp:Step h2 (h2.put q [ptr h1.next]) [q] [q]:=(Step.refl h2 [q] (by simp; omega)).put (by simp) _
 have s3:Step h1 h2 (q :: M) (q :: M++[h1.next]):=by
  have:=s2.more (q :: M) hlt
  exact this.weaken (λ b hb=>.inl (by simpa using hb)) (λ b hb=>.inl (by simp at hb ⊢; rcases hb with r | r | r <;> simp [r]))
 refine ⟨by simp,[q,h1.next],⟨q,h1.next,[h1.next],rfl,by simp [ptr],m2.frame sp (by simp; omega),a3,by simp; omega,by simp; omega,rfl,.nil,by simp⟩,(s3.put (p:=q) (by simp) _).less (by simp)⟩
end
section
variable {w0:World} {h h':Hp}
theorem q2h.up {N B B':Nat} {C:Hp→List Nat→Prop} (k:q2h w0 N B C) (hB:B≤B'):q2h w0 N B' C:=
 ⟨k.ins,λ h h' S T T' f c st hd hb=>k.step h h' S T T' f c st hd (λ b q=>Nat.le_trans hB (hb b q)),k.lt⟩
theorem q2h.and_blk {N B q:Nat} {C:Hp→List Nat→Prop} {y:Value} (k:q2h w0 N B C) (hq:q < B):q2h w0 N B (λ h S=>C h S∧h.blk q=some [y]∧q∉S∧q < h.next):=by
 refine ⟨λ h lp S e ⟨c,b,n,l⟩=>⟨k.ins h lp S e c,b,n,l⟩,λ h h' S T T' f ⟨c,b,n,l⟩ st hd hB=>⟨k.step h h' S T T' f c st hd hB,?_,n,Nat.lt_of_lt_of_le l st.1⟩,λ h S ⟨c,_,_,_⟩=>k.lt h S c⟩
 rw [(st.keep q l (λ z=>by have:=hB q z; omega)).1]
 exact b
theorem q09.cutN {N:Nat} {S S':List Nat} (s:q09 N h h' S S'):q09 N h (h'.cutLp h) S S':=⟨s.1,s.2,s.3,λ b hN hb=>by rw [qcj,if_pos hb]; exact s.4 b hN hb⟩
theorem qms (l:List Ent):itV (kl l) (λ _=>true)=l.map λ x=>[.string (str x.k),.agg (ee x).toArray]:=by
 unfold itV kl
 rw [List.filter_eq_self.2 (by simp),List.map_map]
 rfl
theorem qn2 {hh:Hp} {q:Nat} {r:Value} {l:List Ent} {T M:List Nat} (bq:hh.blk q=some [r]) (wq:w0.heap.size≤q) (m:Me w0 hh r l M) (hT:q∈T∧∀ b,b∈M→b∈T):
  ItV prog w0 (.func (.func qa7) #[] #[ptr q]) hh T (sV l):=by
 intro y N S C D hy hyc hN kC kD hstep h0 hd
 refine ⟨_,_,_,rfl,by kernel_rfl,?_⟩
 refine qf.of_fit (by simp [ptr,hy]) λ f=>q0am (by simp [ptr,hy]) ?_
 have hSlt:=(kC 0).lt hh S h0
 have lq:=f.lt _ _ bq
 have hML:=m.lt
 have fb:=f.base
 simp only [qto,ptr]
 refine ⟨hyc,?_⟩
 have sn:Step hh (hh.new [y] 1) [] [hh.next]:=(Step.refl hh [] (by simp)).new _ _
 have bn:(hh.new [y] 1).blk hh.next=some [y]:=by simp
 have n1:hh.next < (hh.new [y] 1).next:=by simp
 have mn:=m.frame sn (by simp)
 have bqn:(hh.new [y] 1).blk q=some [r]:=by rw [(sn.keep q lq (by simp)).1]; exact bq
 have lqn:q < (hh.new [y] 1).next:=by simp; omega
 show qg _ _ _ (hh.new [y] 1)
 generalize hh.new [y] 1=h1 at *
 refine qj wq bqn rfl ?_
 refine qq (qc3 mn) λ v h2 ⟨e,e'⟩ f2=>?_
 subst e
 subst h2
 simp only [wd, wa]
 refine qj wq bqn rfl ?_
 obtain ⟨qm,p,Mm,e,a1,a2,a3,a4,a5,a6,a7,a8⟩:=mn
 subst e a6
 simp only [ptr,wd, wa]
 refine qj a3 a1 rfl ?_
 refine qq (q0kl p) λ v h2 ⟨q1,q2,e,b1,b2,b3,b4,b5,b6,s2⟩ f2'=>?_
 subst e
 have s02:Step hh h2 [] []:=(sn.less (T:=[]) (by simp)).trans s2
 have m2:=a2.frame s2 (by simp)
 have bn2:h2.blk hh.next=some [y]:=by rw [(s2.keep _ n1 (by simp)).1]; exact bn
 have n2:hh.next < h2.next:=Nat.lt_of_lt_of_le n1 s2.1
 have sS:Step hh h2 S S:=s02.keepS hSlt
 have fin:∀ h3 S2,q09 N h2 h3 S S2→(C (sV l).length h3 S2∨D h3 S2)→q2e hh (qo [] λ _ h2=>∃ S2,q09 N hh h2 S S2∧(C (sV l).length h2 S2∨D h2 S2)) h3:=by
  intro h3 S2 ys hk
  unfold q2e
  simp only [qu]
  have hi:∀ b,b < N→(h3.cutLp hh).lp b=h3.lp b:=λ b hb=>by rw [qcj,if_pos (by omega)]
  refine ⟨by simp,S2,((sS.y N).trans ys).cutN,?_⟩
  rcases hk with c | d
  ·exact .inl ((kC _).ins h3 (h3.cutLp hh).lp S2 hi c)
  ·exact .inr (kD.ins h3 (h3.cutLp hh).lp S2 hi d)
 refine qc2 (xs:=itV (kl l) λ _=>true) (T:=q1 :: q2 :: Mm) N (by omega) f2' (λ g=>?_) (λ b g x K=>q0u zE 3 λ v=>q0k w0 v (x.tail.getD 0 undef) 3 λ _=>qg w0 (ptr hh.next) λ v15=>qw w0 v 3 λ v16=>q1n prog w0 v15 [v16] λ v17=>qb (unA .not v17) λ v18=>qt v18 (q24 b g (some none) K) (q24 b g none K))
  (λ b g x K h1 hl hk=>qcf hl hk) S (λ i h1 S1=>C i h1 S1∧h1.blk hh.next=some [y]∧hh.next∉S1∧hh.next < h1.next) (λ o h1 S1=>o=none∧D h1 S1)
  (λ i=>((kC i).up s02.1).and_blk n2) (λ o=>⟨λ h lp S e ⟨a,b⟩=>⟨a,kD.ins h lp S e b⟩,λ h h' S T T' f ⟨a,b⟩ st hd hB=>⟨a,(kD.up s02.1).step h h' S T T' f b st hd hB⟩,λ h S ⟨a,b⟩=>kD.lt h S b⟩)
  ⟨(kC 0).step hh h2 S [] [] f h0 s02 (by simp) (by simp),bn2,λ z=>by have:=hSlt _ z; omega,n2⟩ (λ b hb=>?_) ?_ ?_ ?_ ?_
 ·exact (q0md (hh:=h2.newLp g) (p:=p) (q1:=q1) (q2:=q2) (l:=kl l) (kp:=λ _=>true) (T:=q1 :: q2 :: Mm) (M:=Mm) b1 b2 (by omega) (by omega) (m2.frame ((q09.refl 0 h2 [] (by simp)).newLp g).step (by simp):Mp w0 ((h2.newLp g).as h2) p (kl l) Mm) (by rw [q3e]; omega) ⟨by simp,by simp,λ b hb=>by simp [hb]⟩
   λ h1 _ _ x hx=>q4o (by kernel_rfl) (q0nw x.1) λ r h2 hr f2=>hr).v
 ·have hbl:=hSlt b hb
  have hs1:=sn.1
  simp only [List.mem_cons]
  intro z
  rcases z with z | z | z
  ·omega
  ·omega
  ·exact hd b hb (hT.2 b (List.mem_cons_of_mem _ z))
 ·rw [qms]
  intro z hz
  obtain ⟨x,hx,rfl⟩:=List.mem_map.1 hz
  exact ⟨rfl,by simp⟩
 ·rintro i x h3 S1 g1 K hi f3 ⟨c,by_,nq,lq0⟩ lb _ ends exits
  rw [qms,List.getElem?_map] at hi
  obtain ⟨z,hz,rfl⟩:=Option.map_eq_some_iff.1 hi
  have hS1:=(kC i).lt h3 S1 c
  simp only [List.tail_cons,List.getD_cons_zero]
  have fb3:=f3.base
  refine q2f fb3 rfl rfl q2b ?_
  have sx:Step h3 (h3.new (ee z) 3) [] [h3.next]:=(Step.refl h3 [] (by simp)).new _ _
  have bx:(h3.new (ee z) 3).blk h3.next=some (ee z):=by simp
  have fx:Fit w0 (h3.new (ee z) 3):=f3.new (by simp [ee,qv])
  have by2:(h3.new (ee z) 3).blk hh.next=some [y]:=by rw [(sx.keep _ lq0 (by simp)).1]; exact by_
  have cx:=(kC i).step h3 _ S1 [] [] f3 c (sx.less (T:=[]) (by simp)) (by simp) (by simp)
  have ysx:q09 N h3 (h3.new (ee z) 3) S1 S1:=((sx.less (T:=[]) (by simp)).keepS hS1).y N
  have nx:h3.next < (h3.new (ee z) 3).next:=by simp
  generalize h3.new (ee z) 3=h4 at *
  simp only [ptr]
  refine qj fb by2 rfl ?_
  refine q16 fb3 bx rfl ?_
  have hzi:(sV l)[i]?=some [.agg (ee z).toArray]:=by unfold sV; rw [List.getElem?_map,hz]; rfl
  refine q54 (hstep i _ h4 S1 hzi fx cx) λ v h5 ⟨S2,ys,hv⟩ f5=>?_
  have ys35:=ysx.trans ys
  have hq5:hh.next∉S2:=λ w=>by
   rcases (ys35.own _ w).2 with w | w
   ·exact nq w
   ·omega
  rcases hv with ⟨rfl,c5⟩ | ⟨rfl,d5⟩
  ·simp only [wd, wa]
   exact ends h5 S2 ys35 ⟨c5,by rw [(ys35.keep _ lq0 nq).1]; exact by_,hq5,Nat.lt_of_lt_of_le lq0 ys35.next⟩
  ·simp only [wd, wa]
   exact exits none h5 S2 ys35 ⟨rfl,d5⟩
 ·rintro h3 S2 f3 ys ⟨c,-⟩
  have:(itV (kl l) λ _=>true).length=(sV l).length:=by rw [qms]; simp [sV]
  rw [this] at c
  exact fin h3 S2 ys (.inl c)
 ·rintro o h3 S2 f3 ys ⟨rfl,d⟩
  exact ⟨_,List.mem_singleton_self _,rfl,fin h3 S2 ys (.inr d)⟩
end
section
variable {w0:World} {h h':Hp}
def RI (w0:World) (B q:Nat) (l:List Ent) (i:Nat) (h1:Hp) (S1:List Nat):Prop:=
 ∃ x S',S1=q :: S'∧h1.blk q=some [x]∧Vec w0 h1 4 x (l.take i).length (ivs (kl (l.take i))) S'∧q∉S'∧B≤h1.next
theorem q0ml {B q i:Nat} {l:List Ent} (hq:q < B):q2h w0 0 B (RI w0 B q l i):=by
 refine ⟨λ h lp S _ c=>c,λ h h' S T T' f ⟨x,S',e,b,v,hqs,n⟩ st hd hB=>?_,λ h S ⟨x,S',e,b,v,hqs,n⟩ c hc=>?_⟩
 ·subst e
  exact ⟨x,S',rfl,by rw [(st.keep q (by omega) (hd q (by simp))).1]; exact b,v.frame st (λ c hc=>hd c (by simp [hc])),hqs,Nat.le_trans n st.1⟩
 ·subst e
  rcases List.mem_cons.1 hc with rfl | hc
  ·omega
  ·exact (v.lt c hc).2
theorem q0i3 {K0:Hp→Prop} {fv:Value} {q:Nat} {l:List Ent} {T:List Nat} (f:Fit w0 h) (hq:w0.heap.size≤q) (hb:h.blk q=some [.slice none 0 0]) (hl:l.length≤1000000000) (hqT:q∉T)
  (hit:∀ g,ItV prog w0 fv (h.newLp g) T (sV l)) (hk:∀ h3 x S',Fit w0 h3→q09 0 h h3 [q] (q :: S')→h3.blk q=some [x]→Vec w0 h3 4 x l.length (ivs (kl l)) S'→K0 h3):
  q3j prog w0 fv 1 (λ b g args K=>qvj prog w0 b g K (ptr q) (args.getD 0 undef)) K0 [] h:=by
 have lq:=f.lt _ _ hb
 refine qc2 (xs:=sV l) (T:=T) 0 (Nat.zero_le _) f hit (λ b g x K=>q0u zE 3 λ v=>q0k w0 v (x.getD 0 undef) 3 λ _=>qg w0 (ptr q) λ v22=>qk v 0 λ v23=>qg w0 v23 λ v24=>qw w0 v 3 λ v25=>q1t [(0,1,false,v24),(1,3,true,v25)] zI λ v26=>q0j [(0,4,true,v26)] (q00 zI 1) 1 4 λ v27=>q0h w0 4 56 v22 v27 λ v28=>q0q w0 (ptr q) v28 λ _=>q24 b g none K)
  (λ b g x K h1 hl hk=>qcf hl hk) [q] (RI w0 h.next q l) (λ _ _ _=>False) (λ i=>q0ml lq) (λ o=>⟨λ _ _ _ _ c=>c,λ _ _ _ _ _ _ c=>c.elim,λ _ _ c=>c.elim⟩)
  ⟨_,[],rfl,hb,.nil,by simp,Nat.le_refl _⟩ (λ b hb hbT=>by simp at hb; subst hb; exact hqT hbT) ?_ ?_ ?_ ?_
 ·intro y hy
  obtain ⟨x,hx,rfl⟩:=List.mem_map.1 hy
  exact ⟨rfl,by simp⟩
 ·rintro i y h1 S1 g1 K hi f1 ⟨x,S',e,b,v,hqs,n⟩ lb _ ends exits
  subst e
  unfold sV at hi
  rw [List.getElem?_map] at hi
  obtain ⟨z,hz,rfl⟩:=Option.map_eq_some_iff.1 hi
  have hil:=(List.getElem?_eq_some_iff.1 hz).1
  have hti:(l.take i).length=i:=by rw [List.length_take]; omega
  have ht1:l.take (i + 1)=l.take i++[z]:=by rw [List.take_add_one,hz]; rfl
  simp only [List.getD_cons_zero]
  have fb:=f1.base
  refine q2f fb rfl rfl q2b ?_
  have sx:Step h1 (h1.new (ee z) 3) [] [h1.next]:=(Step.refl h1 [] (by simp)).new _ _
  have bx:(h1.new (ee z) 3).blk h1.next=some (ee z):=by simp
  have nx:h1.next < (h1.new (ee z) 3).next:=by simp
  have bq:(h1.new (ee z) 3).blk q=some [x]:=by rw [(sx.keep q (by omega) (by simp)).1]; exact b
  have vx:=v.frame sx (by simp)
  have bsx:=sx.1
  generalize h1.new (ee z) 3=hx at *
  simp only [ptr]
  refine qj hq bq rfl ?_
  simp only [wd, wa]
  refine qj fb bx rfl ?_
  refine q16 fb bx rfl ?_
  simp only [q2w,q28,q1u,q95,zI,List.set_cons_zero,List.set_cons_succ]
  refine ⟨rfl,by simp,rfl,by simp,?_⟩
  have hsp:splice [.string (str z.k),.string .empty,.string .empty,.bool false] 1 (ee z)=iv (z.k,z):=rfl
  rw [hsp]
  refine q4a (by omega) vx.gv rfl rfl (by omega) (by omega) (by omega) λ x' h2 S2 g2 s2=>?_
  have hS':∀ b,b∈S'→b < h1.next:=λ b hb=>(v.lt b hb).2
  have b2:h2.blk q=some [x]:=by rw [(s2.keep q (by omega) hqs).1]; exact bq
  have hq2:q∉S2:=λ e=>by
   rcases (s2.own _ e).2 with r | r
   ·exact hqs r
   ·omega
  have s12:Step h1 h2 S' S2:=(sx.wide (T:=S') (T':=S') (by simp) (λ b hb=>.inr ⟨hb,hS' b hb⟩)).trans s2
  have lq1:q < h1.next:=by omega
  have hxc:qv x'=true:=by obtain ⟨a,c,e⟩:=g2.slice; rw [e]; rfl
  refine q21 hq b2 (by simp) hxc ?_
  simp only [List.set_cons_zero]
  have s3:Step h1 (h2.put q [x']) (q :: S') (q :: S2):=(s12.consR lq1).put (by simp) _
  have sp:Step h2 (h2.put q [x']) [q] [q]:=(Step.refl h2 [q] (by simp; have:=s2.1; omega)).put (by simp) _
  refine ends _ _ (s3.y 0) ⟨x',S2,rfl,by simp,?_,hq2,by have:=s3.1; omega⟩
  have g3:Vec w0 (h2.put q [x']) 4 x' _ _ S2:=g2.frame sp (by simpa using λ b hb (e:b=q)=>hq2 (by rw [← e]; exact hb))
  rw [hti] at g3
  rw [ht1,qx0,List.length_append,hti]
  have e4:ivs (kl (l.take i)++kl [z])=ivs (kl (l.take i))++iv (z.k,z):=by simp [ivs,kl]
  rw [e4]
  simpa using g3
 ·rintro h3 S2 f3 ys ⟨x,S',e,b,v,hqs,n⟩
  subst e
  have:(sV l).length=l.length:=by simp [sV]
  rw [this,List.take_of_length_le (Nat.le_refl _)] at v
  exact hk h3 x S' f3 ys b v
 ·rintro o h3 S2 f3 ys c
  exact c.elim
def Ra (w0:World) (h:Hp) (p:Value × List Ent) (S:List Nat):Prop:=(∃ n,Rn w0 h p.1 p.2 n S)∨(Rno w0 h p.1∧p.2=[])
theorem Ra.nj {p:Value × List Ent} {S:List Nat} (m:Ra w0 h p S):p.1≠junk:=by
 rcases m with ⟨n,m⟩ | ⟨m,-⟩
 ·exact m.nj
 ·exact m.nj
theorem Ra.isC {p:Value × List Ent} {S:List Nat} (m:Ra w0 h p S):qv p.1=true:=by
 rcases m with ⟨n,m⟩ | ⟨m,-⟩
 ·obtain ⟨p0,-,-,-,e,-⟩:=m; rw [e]; rfl
 ·rcases m with e | ⟨p0,e,-⟩ <;> rw [e] <;> rfl
theorem Ra.step {p:Value × List Ent} {S:List Nat} (m:Ra w0 h p S) (st:Step h h' [] []):Ra w0 h' p S:=by
 rcases m with ⟨n,m⟩ | ⟨m,e⟩
 ·exact .inl ⟨n,m.frame st (by simp)⟩
 ·exact .inr ⟨m.step st,e⟩
theorem Ra.it {hh:Hp} {p:Value × List Ent} {S T:List Nat} {q1 q2 q3:Nat} (m:Ra w0 hh p S) (b1:hh.blk q1=some [p.1]) (b2:hh.blk q2=some [.string (str [])]) (b3:hh.blk q3=some [.string (str [])]) (w1:w0.heap.size≤q1) (w2:w0.heap.size≤q2) (w3:w0.heap.size≤q3)
  (hT:q1∈T∧q2∈T∧q3∈T∧∀ b,b∈S→b∈T):ItV prog w0 (.func (.func qa4) #[] #[ptr q1,ptr q2,ptr q3]) hh T (sV p.2):=by
 rcases m with ⟨n,m⟩ | ⟨m,e⟩
 ·have:=qzs (a:=[]) (b:=[]) b1 b2 b3 w1 w2 w3 m hT
  rw [q0km] at this
  exact this.v
 ·rw [e]
  exact (q0nc b1 w1 m).v
end
theorem qzx {l:List Itm} (s:Srt l):srt l=l:=by
 have:∀ (l acc:List Itm),Srt (acc++l)→q3b acc l=acc++l:=by
  intro l
  induction l with
  | nil=>intro acc _; simp [q3b]
  | cons x l ih=>
   intro acc h
   have ha:above acc x=true:=by
    unfold above
    split
    ·rfl
    ·rename_i y e
     exact (List.pairwise_append.1 h).2.2 y (List.mem_of_getLast? e) x (by simp)
   rw [q3b,if_pos ha,ih (acc++[x]) (by simpa using h)]
   simp
 exact this l [] (by simpa using s)
def mgf (dr:Bool) (out:List Itm):List Ent:=(out.map (·.2)).filter λ x=>!dr || !x.g
section
variable {w0:World} {h h':Hp}
theorem Ra.y {p:Value × List Ent} {S:List Nat} (m:Ra w0 h p S) (ys:q09 0 h h' [] []):Ra w0 h' p S:=(m.step ys.step:Ra w0 (h'.as h) p S)
theorem q0mf {k0:Value→Value→Hp→Prop} {v x1:Value} {rs:List (Value × List Ent)} {hh:Hp} (hv:Sl w0 hh 1 v rs.length (rs.map (·.1))) (fh:Fit w0 hh) (hm:∀ p,p∈rs→∃ S,Ra w0 hh p S∧∀ b,b∈S→b < hh.next) (hl:rs.length≤2000000) (hl2:∀ p,p∈rs→p.2.length≤100000000)
  (hk:∀ (h':Hp) (x5:Value) (ps:List (Value × List Itm)) (S5:List Nat),q09 0 hh h' [] S5→ps.map (·.2)=rs.map (λ p=>kl p.2)→Vec w0 h' 1 x5 ps.length (ps.map (·.1)) S5→(∀ p:Value × List Itm,p∈ps→Is w0 h' p.1 p.2)→k0 x1 x5 h'):∀ (post pre:List (Value × List Ent)) (h1:Hp) (x5:Value) (ps:List (Value × List Itm)) (S5:List Nat),pre++post=rs→q09 0 hh h1 [] S5→
   ps.map (·.2)=pre.map (λ p=>kl p.2)→Vec w0 h1 1 x5 ps.length (ps.map (·.1)) S5→(∀ p:Value × List Itm,p∈ps→Is w0 h1 p.1 p.2∧∀ b,b∈q0z p.1→b < h1.next∧b∉S5)→
   q8y prog w0 k0 (post.length + 1) x1 x5 v (.int .i64 (rs.length:Int)) (.int .i64 (pre.length:Int)) h1:=by
 intro post
 induction post with
 | nil=>
  intro pre h1 x5 ps S5 he ys hps g hi
  have hpre:pre=rs:=by simpa using he
  subst hpre
  rw [List.length_nil,q8y]
  simp only [qfq,wd, wa,Int.lt_irrefl,decide_false]
  exact hk h1 x5 ps S5 ys hps g λ p hp=>(hi p hp).1
 | cons x post ih=>
  intro pre h1 x5 ps S5 he ys hps g hi
  have hlen:pre.length + (post.length + 1)=rs.length:=by rw [← he]; simp
  have hpl:ps.length=pre.length:=by have:=congrArg List.length hps; simpa using this
  have hxr:x∈rs:=by rw [← he]; simp
  have c1:decide ((pre.length:Int) < (rs.length:Int))=true:=decide_eq_true (by omega)
  have e6:=wrS pre x (by omega)
  have ys0:q09 0 hh h1 [] []:=ys.less (by simp)
  have v1:Sl w0 h1 1 v rs.length (rs.map (·.1)):=(hv.step fh ys0.step (by simp):Sl w0 (h1.as hh) 1 v rs.length (rs.map (·.1)))
  obtain ⟨M,mx,hML⟩:=hm x hxr
  have mx1:=mx.y ys0
  have hn01:=ys.next
  have hS5:=λ b hb=>(g.lt b hb).2
  have hgx:(rs.map (·.1))[pre.length]?=some x.1:=by rw [← he]; simp
  rw [List.length_cons,q8y]
  simp only [qfq,wd, wa,c1]
  refine v1.one hgx ?_
  simp only [q2t]
  refine ⟨by simp [qv],?_⟩
  have s4:Step h1 (h1.new [.slice none 0 0] 1) [] [h1.next]:=(Step.refl h1 [] (by simp)).new _ _
  have b4:(h1.new [.slice none 0 0] 1).blk h1.next=some [.slice none 0 0]:=by simp
  have n4:h1.next < (h1.new [.slice none 0 0] 1).next:=by simp
  have fb:w0.heap.size≤h1.next:=Nat.le_trans fh.base ys.next
  have em:ByteArray.empty=str ([]:Key):=rfl
  rw [em]
  generalize h1.new [.slice none 0 0] 1=h4 at *
  refine qq (qxs x.1 mx.nj mx.isC [] []) λ r h5 ⟨r1,r2,r3,e,d1,d2,d3,d4,d5,d6,d7,d8,d9,s5⟩ f5=>?_
  subst e
  have s15:Step h1 h5 [] []:=(s4.less (T:=[]) (by simp)).trans s5
  have b5:h5.blk h1.next=some [.slice none 0 0]:=by rw [(s5.keep _ n4 (by simp)).1]; exact b4
  have mx5:=mx1.step s15
  refine q0i3 (T:=r1 :: r2 :: r3 :: M) (l:=x.2) f5 fb b5 (by have:=hl2 x hxr; omega) (λ q=>?_) (λ gl=>?_) λ h6 y S6 f6 y6 b6 g6=>?_
  ·simp only [List.mem_cons] at q
   rcases q with q | q | q | q
   ·omega
   ·omega
   ·omega
   ·have:=hML _ q; omega
  ·have yl:=(q09.refl 0 h5 [] (by simp)).newLp gl
   exact (mx5.y yl).it (q1:=r1) (q2:=r2) (q3:=r3) (T:=r1 :: r2 :: r3 :: M) d1 d2 d3 (by omega) (by omega) (by omega) ⟨by simp,by simp,by simp,λ b hb=>by simp [hb]⟩
  ·have y16:q09 0 h1 h6 [] (h1.next :: S6):=by
    have n15:=s15.1
    refine ⟨Nat.le_trans n15 y6.next,λ b hb hs=>?_,λ b hb=>⟨(y6.own b hb).1,.inr ?_⟩,λ b hN hb=>?_⟩
    ·obtain ⟨z1,z2⟩:=y6.keep b (by omega) (by simp; omega)
     obtain ⟨z3,z4⟩:=s15.keep b hb (by simp)
     exact ⟨z1.trans z3,z2.trans z4⟩
    ·rcases (y6.own b hb).2 with q | q
     ·simp at q; omega
     ·omega
    ·rw [y6.lp b hN (by omega),s15.lp]
   refine qj fb b6 rfl ?_
   have gc:qv y=true:=by obtain ⟨a,c,e⟩:=g6.slice; rw [e]; rfl
   have g56:Vec w0 h6 1 x5 ps.length (ps.map (·.1)) S5:=(g.frame (y16.less (T:=[]) (by simp)).step (by simp):Vec w0 (h6.as h1) 1 x5 ps.length (ps.map (·.1)) S5)
   refine q79 (by have:=y16.next; omega) g56.gv gc (by omega) (by omega) λ x6 h7 S7 g7 s7=>?_
   simp only [wd, wa,e6]
   have hS6:∀ b,b∈S6→h1.next≤b:=λ b hb=>by
    rcases (y16.own b (by simp [hb])).2 with q | q
    ·simp at q
    ·exact q
   have own7:∀ b,b∈S7→b∈S5∨h6.next≤b:=λ b hb=>(s7.own b hb).2
   have hn6:=y16.next
   refine ih (pre++[x]) h7 x6 (ps++[(y,kl x.2)]) S7 (by simpa using he) ?_ (by rw [List.map_append,List.map_append,hps]; rfl) (by simpa using g7) ?_
   ·exact ys.trans (((y16.less (T:=[]) (by simp)).wide (T:=S5) (T':=S5) (by simp) (λ b hb=>.inr ⟨hb,hS5 b hb⟩)).trans (s7.y 0))
   ·intro p hp
    rcases List.mem_append.1 hp with hp | hp
    ·obtain ⟨i1,i2⟩:=hi p hp
     have i3:Is w0 h6 p.1 p.2:=(i1.stepL (λ b hb=>(i2 b hb).1) (y16.less (T:=[]) (by simp)).step (by simp):Sl w0 (h6.as h1) 4 p.1 p.2.length (ivs p.2))
     refine ⟨i3.stepL (λ b hb=>Nat.lt_of_lt_of_le (i2 b hb).1 hn6) s7 (λ b hb=>(i2 b hb).2),λ b hb=>⟨Nat.lt_of_lt_of_le (Nat.lt_of_lt_of_le (i2 b hb).1 hn6) s7.1,λ q=>?_⟩⟩
     rcases own7 b q with q | q
     ·exact (i2 b hb).2 q
     ·have:=(i2 b hb).1; omega
    ·simp at hp
     subst hp
     have hlt6:∀ b,b∈q0z y→b < h6.next∧b∉S5:=λ b hb=>by
      rw [Vec.sblk_eq g6] at hb
      exact ⟨(g6.lt b hb).2,λ q=>by have:=hS6 b hb; have:=hS5 b q; omega⟩
     have g6':Is w0 h6 y (kl x.2):=by
      have:=g6.sl
      rw [← q3e] at this
      exact this
     refine ⟨g6'.stepL (λ b hb=>(hlt6 b hb).1) s7 (λ b hb=>(hlt6 b hb).2),λ b hb=>⟨Nat.lt_of_lt_of_le (hlt6 b hb).1 s7.1,λ q=>?_⟩⟩
     rcases own7 b q with q | q
     ·exact (hlt6 b hb).2 q
     ·have:=(hlt6 b hb).1; omega
theorem q0li (dr:Bool) (l:List Itm) (x:Itm):mgf dr (l++[x])=mgf dr l++(if (!dr || !x.2.g)=true then [x.2] else []):=by
 unfold mgf
 rw [List.map_append,List.filter_append]
 congr 1
 simp [List.filter_cons]
theorem q0mm (dr:Bool) (l:List Itm):(mgf dr l).length≤l.length:=by
 unfold mgf
 exact Nat.le_trans (List.length_filter_le _ _) (by simp)
theorem q0ms {k4:Value→Hp→Prop} {v:Value} {dr:Bool} {out:List Itm} {hh:Hp} (hv:Is w0 hh v out) (fh:Fit w0 hh) (hl:out.length≤1000000000)
  (hk:∀ h' x S',Step hh h' [] S'→Vec w0 h' 3 x (mgf dr out).length ((mgf dr out).flatMap ee) S'→k4 x h'):∀ (post pre:List Itm) (h1:Hp) (x:Value) (S:List Nat),pre++post=out→Step hh h1 [] S→Vec w0 h1 3 x (mgf dr pre).length ((mgf dr pre).flatMap ee) S→
   q69 prog w0 k4 (post.length + 1) (.bool dr) x v (.int .i64 (out.length:Int)) (.int .i64 (pre.length:Int)) h1:=by
 intro post
 induction post with
 | nil=>
  intro pre h1 x S he st g
  have hpre:pre=out:=by simpa using he
  subst hpre
  rw [List.length_nil,q69]
  simp only [qfr,wd, wa,Int.lt_irrefl,decide_false]
  exact hk h1 x S st g
 | cons z post ih=>
  intro pre h1 x S he st g
  have hlen:pre.length + (post.length + 1)=out.length:=by rw [← he]; simp
  have hg:out[pre.length]?=some z:=by rw [← he]; simp
  have c1:decide ((pre.length:Int) < (out.length:Int))=true:=decide_eq_true (by omega)
  have e6:=wrS pre z (by omega)
  have v1:Is w0 h1 v out:=hv.step fh st (by simp)
  have fb:w0.heap.size≤h1.next:=Nat.le_trans fh.base st.1
  have hml:=q0mm dr pre
  have hS:=λ b hb=>(g.lt b hb).2
  rw [List.length_cons,q69]
  simp only [qfr,wd, wa,c1]
  refine v1.elem (by omega) (qat hg) ?_
  refine q2f fb rfl rfl qgq ?_
  have sx:Step h1 (h1.new (iv z) 4) [] [h1.next]:=(Step.refl h1 [] (by simp)).new _ _
  have bx:(h1.new (iv z) 4).blk h1.next=some (iv z):=by simp
  have nx:h1.next < (h1.new (iv z) 4).next:=by simp
  have gx:=g.frame sx (by simp)
  have stx:Step hh (h1.new (iv z) 4) [] S:=st.trans ((sx.less (T:=[]) (by simp)).keepS hS)
  have fbx:w0.heap.size≤(h1.new (iv z) 4).next:=Nat.le_trans fb sx.1
  generalize h1.new (iv z) 4=h2 at *
  have sn:=q0li dr pre z
  have app:(!dr || !z.2.g)=true→qw w0 (.pointer (some ⟨h1.next,1,none⟩)) 3 (λ v51=>q0j [(0,3,true,v51)] (q00 [.string .empty,.string .empty,.bool false] 1) 1 3 λ v52=>q0h w0 3 40 x v52 λ v53=>q69 prog w0 k4 (post.length + 1) (.bool dr) v53 v (.int .i64 (out.length:Int)) (.int .i64 (((pre++[z]).length:Nat):Int))) h2:=by
   intro hq
   rw [if_pos hq] at sn
   refine q9a (cs:=iv z) (e:=ee z.2) fb bx rfl ?_
   refine q4a fbx gx.gv rfl rfl (by omega) (by omega) (by omega) λ x' h3 S3 g3 s3=>?_
   refine ih (pre++[z]) h3 x' S3 (by simpa using he) (stx.trans s3) ?_
   rw [sn,List.length_append,List.flatMap_append]
   simpa using g3
  have skip:(!dr || !z.2.g)=false→q69 prog w0 k4 (post.length + 1) (.bool dr) x v (.int .i64 (out.length:Int)) (.int .i64 (((pre++[z]).length:Nat):Int)) h2:=by
   intro hq
   rw [if_neg (by simp [hq]),List.append_nil] at sn
   refine ih (pre++[z]) h2 x S (by simpa using he) stx ?_
   rw [sn]
   exact gx
  cases dr with
  | false=>
   simp only [e6,wd, wa]
   exact app rfl
  | true=>
   simp only [wd, wa]
   refine qj (o:=1 + 2) (v:=.bool z.2.g) fb bx rfl ?_
   cases hzg:z.2.g with
   | false=>
    simp only [e6,wd, wa]
    exact app (by rw [hzg]; rfl)
   | true=>
    simp only [e6,wd, wa]
    exact skip (by rw [hzg]; rfl)
theorem q0kc {v:Value} {rs:List (Value × List Ent)} (dr:Bool) (hv:Sl w0 h 1 v rs.length (rs.map (·.1))) (hm:∀ p,p∈rs→∃ S,Ra w0 h p S∧∀ b,b∈S→b < h.next) (hs:∀ p:Value × List Ent,p∈rs→p.2.Pairwise λ x y=>blt x.k y.k=true) (hl:rs.length≤2000000) (hl2:(rs.map λ p=>p.2.length).sum≤100000000):
  qf prog w0 ql2 [v,.bool dr] h λ r h'=>∃ out S',IsM (rs.map λ p=>kl p.2) out∧out.length≤(rs.map λ p=>p.2.length).sum∧Vec w0 h' 3 r (mgf dr out).length ((mgf dr out).flatMap ee) S'∧Step h h' [] S':=by
 refine qf.of_fit (by simpa using hv.junk) λ f=>q0fc (by simpa using hv.junk) ?_
 simp only [qkv,hv.lenv,wd, wa]
 refine ⟨rs.length + 1,q0mf hv f hm hl (λ p hp=>?_) (λ h1 x5 ps S5 ys hps g hi=>?_) rs [] h _ [] [] rfl (q09.refl 0 h [] (by simp)) rfl .nil (by simp)⟩
 ·have:=qco (λ q:Value × List Ent=>q.2.length) hp
  omega
 ·have q2v:(ps.map λ q=>q.2.length)=rs.map λ p=>p.2.length:=by
   have:=congrArg (List.map List.length) hps
   simpa [List.map_map,Function.comp_def,q3e] using this
  have hpl:ps.length=rs.length:=by have:=congrArg List.length hps; simpa using this
  have hmap:(ps.map λ q=>srt q.2)=rs.map λ p=>kl p.2:=by
   have e1:(ps.map λ q=>srt q.2)=(ps.map (·.2)).map srt:=by simp [List.map_map,Function.comp_def]
   rw [e1,hps,List.map_map]
   exact List.map_congr_left λ p hp=>qzx (q4d (hs p hp))
  refine qq (qwc ⟨g.sl,hi⟩ (by omega) (by rw [q2v]; exact hl2)) λ r h2 ⟨out,S',im,hol,go,s2⟩ f2=>?_
  rw [hmap] at im
  rw [q2v] at hol
  simp only [go.sl.lenv,wd, wa]
  refine ⟨out.length + 1,q0ms go.sl f2 (by omega) (λ h3 x3 S3 s3 g3=>?_) out [] h2 _ [] rfl (.refl _ _ (by simp)) .nil⟩
  unfold q2e
  simp only [qu,q06]
  have y03:q09 0 h h3 [] S3:=(ys.less (T:=[]) (by simp)).trans (((s2.less (T:=[]) (by simp)).trans s3).y 0)
  exact ⟨by simpa using g3.gv.nj,out,S3,im,hol,g3,y03.cut⟩
end
end Go.Proofs.YtfmoemconapmhaaGreat.Ah
