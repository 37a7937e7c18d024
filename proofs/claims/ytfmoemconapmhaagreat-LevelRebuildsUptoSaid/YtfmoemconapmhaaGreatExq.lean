/- RunNobody. -/
import Derived.Test.YtfmoemconapmhaaGreatExk
set_option linter.all false
namespace Go.Proofs.YtfmoemconapmhaaGreat.Ah
open Go
theorem qzd (x:Ent) (l:List Ent) (k:Key):fE (x :: l) k=if blt x.k k=true then fE l k + 1 else 0:=rfl
theorem q009 {pre post:List Ent} {k:Key} (h:∀ x,x∈pre→blt x.k k=true):fE (pre++post) k=pre.length + fE post k:=by
 induction pre with
 | nil=>simp
 | cons x pre ih=>
  rw [List.cons_append,qzd,if_pos (h x (by simp)),ih (λ y hy=>h y (by simp [hy])),List.length_cons]
  omega
section
variable {w0:World} {h h':Hp}
theorem qyb {s n:Nat} {x:Value} {ys:List Value} (v:Sl w0 h s x n ys):lenA x=some n:=by obtain ⟨a,c,e⟩:=v.slice; rw [e]; simp
theorem q0gx {k0 kr:Value→Value→Value→Hp→Prop} {v x4 x5:Value} {l:List Ent} {k:Key} {hh:Hp} (hv:Es w0 hh v l) (fh:Fit w0 hh) (hl:l.length≤1000000000)
  (h1:∀ h',Step hh h' [] []→fE l k=l.length→q25 (kl l) k (fE l k)=false→k0 v x4 x5 h') (h2:∀ h',Step hh h' [] []→kr v (.int .i64 (fE l k:Int)) (.bool (q25 (kl l) k (fE l k))) h'):∀ (post pre:List Ent) (h3:Hp),pre++post=l→(∀ x,x∈pre→blt x.k k=true)→Step hh h3 [] []→
   q8m prog w0 k0 kr (post.length + 1) v (.string (str k)) x4 x5 v (.int .i64 (l.length:Int)) (.int .i64 (pre.length:Int)) h3:=by
 intro post
 induction post with
 | nil=>
  intro pre h3 he hp st
  have hpre:pre=l:=by simpa using he
  subst hpre
  rw [List.length_nil,q8m]
  simp only [qf0,wd, wa,Int.lt_irrefl,decide_false]
  have hf:=q009 (post:=[]) hp
  rw [List.append_nil] at hf
  have hf2:fE pre k=pre.length:=by rw [hf]; rfl
  refine h1 h3 st hf2 ?_
  rw [qcq,hf2]
  simp
 | cons x post ih=>
  intro pre h3 he hp st
  have hlen:pre.length + (post.length + 1)=l.length:=by rw [← he]; simp
  have hg:l[pre.length]?=some x:=by rw [← he]; simp
  have c1:decide ((pre.length:Int) < (l.length:Int))=true:=decide_eq_true (by omega)
  have e6:=wrS pre x (by omega)
  have v3:Es w0 h3 v l:=hv.step fh st (by simp)
  have fb:w0.heap.size≤h3.next:=Nat.le_trans fh.base st.1
  rw [List.length_cons,q8m]
  simp only [qf0,wd, wa,c1]
  refine v3.elem (by omega) (q3u hg) ?_
  refine q2f fb rfl rfl q2b ?_
  have sx:Step h3 (h3.new (ee x) 3) [] [h3.next]:=(Step.refl h3 [] (by simp)).new _ _
  have bx:(h3.new (ee x) 3).blk h3.next=some (ee x):=by simp
  have stx:Step hh (h3.new (ee x) 3) [] []:=st.trans (sx.less (by simp))
  generalize h3.new (ee x) 3=h4 at *
  simp only [wd, wa]
  refine qj fb bx rfl ?_
  simp only [qb0,wd, wa]
  cases hb:blt x.k k with
  | true=>
   simp only [Bool.not_true,e6,wd, wa]
   exact ih (pre++[x]) h4 (by simpa using he) (λ y hy=>by
    rcases List.mem_append.1 hy with q | q
    ·exact hp y q
    ·simp at q; subst q; exact hb) stx
  | false=>
   simp only [Bool.not_false,wd, wa]
   refine qj fb bx rfl ?_
   have hf:fE l k=pre.length:=by rw [← he,q009 hp,qzd,if_neg (by simp [hb])]; simp
   have ha:q25 (kl l) k pre.length=decide (x.k=k):=by rw [qcq,hg]
   simp only [q9p,wd, wa]
   have:=h2 h4 stx
   rw [hf,ha] at this
   exact this
theorem qwd {v:Value} {l:List Ent} (hv:Es w0 h v l) (hl:l.length≤1000000000) (k:Key):qf prog w0 qf2 [v,.string (str k)] h λ r h'=>r=.tuple #[.int .i64 (fE l k:Int),.bool (q25 (kl l) k (fE l k))]∧Step h h' [] []:=by
 refine qf.of_fit (by simpa using hv.junk) λ f=>q0a7 (by simpa using hv.junk) ?_
 simp only [qjw,hv.lenv,wd, wa]
 refine ⟨l.length + 1,q0gx hv f hl (λ h' st e1 e2=>?_) (λ h' st=>?_) l [] h rfl (by simp) (.refl _ _ (by simp))⟩
 ·simp only [hv.lenv,wd, wa,qu,q19]
  exact ⟨by simp,by rw [e1] at e2 ⊢; rw [e2],st⟩
 ·simp only [qu,q19]
  exact ⟨by simp,trivial,st⟩
theorem qwn {v:Value} {l:List Ent} (hv:Es w0 h v l) (hl:l.length≤1000000000) (x:Ent):qf prog w0 qf3 [v,.agg (ee x).toArray] h λ r h'=>∃ S',Vec w0 h' 3 r (q1f l x).length ((q1f l x).flatMap ee) S'∧Step h h' [] S':=by
 refine qf.of_fit (by simp [hv.junk]) λ f=>q0a6 (by simp [hv.junk]) ?_
 have fb:=f.base
 have hfl:=q00i l x.k
 simp only [qtc,q4c]
 have sx:Step h (h.new (ee x) 3) [] [h.next]:=(Step.refl h [] (by simp)).new _ _
 have bx:(h.new (ee x) 3).blk h.next=some (ee x):=by simp
 have nx:h.next < (h.new (ee x) 3).next:=by simp
 have fx:Fit w0 (h.new (ee x) 3):=f.new (by simp [ee,qv])
 have vx:Es w0 (h.new (ee x) 3) v l:=hv.step f sx (by simp)
 show qk _ 0 _ (h.new (ee x) 3)
 generalize h.new (ee x) 3=h1 at *
 simp only [wd, wa]
 refine qj fb bx rfl ?_
 refine qq (qwd vx hl x.k) λ r h2 ⟨e,s2⟩ f2=>?_
 subst e
 have v2:Es w0 h2 v l:=vx.step fx s2 (by simp)
 have b2:h2.blk h.next=some (ee x):=by rw [(s2.keep _ nx (by simp)).1]; exact bx
 have n2:h.next < h2.next:=Nat.lt_of_lt_of_le nx s2.1
 have hz0:q00 [(Value.string .empty),.string .empty,.bool false] 0=[]:=rfl
 simp only [q3s,q1u,hz0,wd, wa]
 have g3:GV w0 (h2.new [] 3) 3 (.slice (some ⟨h2.next,0,none⟩) 0 0) 0 [] [h2.next]:=GV.new f2.base rfl (by unfold q0b; decide)
 have s3:Step h2 (h2.new [] 3) [] [h2.next]:=(Step.refl h2 [] (by simp)).new _ _
 have f3:Fit w0 (h2.new [] 3):=f2.new (by simp)
 have v3:Es w0 (h2.new [] 3) v l:=v2.step f2 s3 (by simp)
 have b3:(h2.new [] 3).blk h.next=some (ee x):=by rw [(s3.keep _ n2 (by simp)).1]; exact b2
 have n3:(h2.new [] 3).next=h2.next + 1:=rfl
 have s03:Step h (h2.new [] 3) [] [h2.next]:=((sx.less (T:=[]) (by simp)).trans s2).trans s3
 have fb2:=f2.base
 generalize h2.new [] 3=h3 at *
 refine v3.cutN (lo:=0) (hi:=fE l x.k) q2s q2a (Nat.zero_le _) hfl λ x' _ hbx' vx'=>?_
 have hy1:((l.flatMap ee).take (fE l x.k * 3)).drop (0 * 3)=(l.take (fE l x.k)).flatMap ee:=by rw [Nat.zero_mul,List.drop_zero,q0n7]
 rw [hy1,Nat.sub_zero] at vx'
 have htl:(l.take (fE l x.k)).length=fE l x.k:=by rw [List.length_take]; omega
 refine q9i (by omega) g3 (qyb vx') vx'.src (by rw [q53,htl]) (by omega) (by omega) (by omega) λ x4 h4 S4 g4 s4=>?_
 have b4:h4.blk h.next=some (ee x):=by rw [(s4.keep _ (by omega) (by simp; omega)).1]; exact b3
 refine q16 fb b4 rfl ?_
 have n4:=s4.1
 refine q4a (by omega) g4 rfl rfl (by omega) (by omega) (by omega) λ x5 h5 S5 g5 s5=>?_
 rw [List.nil_append,Nat.zero_add] at g5
 have s35:Step h3 h5 [h2.next] S5:=s4.trans s5
 have v5:Es w0 h5 v l:=v2.step f2 (s3.trans s35) (by simp)
 have n5:=s5.1
 have rest:∀ j,j≤l.length→q1f l x=l.take (fE l x.k)++x :: l.drop j→q1e 3 v (some (.int .i64 (j:Int))) none none (λ v30=>q0h w0 3 40 x5 v30 λ v31=>qo [v31] λ r h'=>∃ S',Vec w0 h' 3 r (q1f l x).length ((q1f l x).flatMap ee) S'∧Step h h' [] S') h5:=by
  intro j hj hw
  refine v5.cutN (lo:=j) (hi:=l.length) q2a q2s hj (Nat.le_refl _) λ x6 _ hbx6 vx6=>?_
  have hy2:((l.flatMap ee).take (l.length * 3)).drop (j * 3)=(l.drop j).flatMap ee:=by rw [List.take_of_length_le (by rw [q53]; omega),qzp]
  rw [hy2] at vx6
  refine q3g (by omega) g5 (qyb vx6) vx6.src (by rw [q53]; simp) (by omega) (by omega) (by omega) λ x7 h7 S7 g7 s7=>?_
  simp only [qu,q06]
  refine ⟨by simpa using g7.gv.nj,S7,?_,s03.trans (s35.trans s7)⟩
  have hlen:(q1f l x).length=fE l x.k + 1 + (l.length - j):=by rw [hw]; simp; omega
  have hcell:(q1f l x).flatMap ee=(l.take (fE l x.k)).flatMap ee++ee x++(l.drop j).flatMap ee:=by rw [hw]; simp
  rw [hlen,hcell]
  exact g7
 cases hh:q25 (kl l) x.k (fE l x.k) with
 | true=>
  have hil:fE l x.k < l.length:=by
   rw [qcq] at hh
   split at hh
   ·rename_i y hy; exact (List.getElem?_eq_some_iff.1 hy).1
   ·cases hh
  have e6:IntKind.i64.wrap ((fE l x.k:Int) + 1)=((fE l x.k + 1:Nat):Int):=by rw [IntWalk.i64_in _ (by omega)]; simp
  simp only [e6,wd, wa]
  have hw:q1f l x=l.take (fE l x.k)++x :: l.drop (fE l x.k + 1):=by
   unfold q1f q1x
   have:q25 (kl l) x.k (q0r (kl l) x.k)=true:=hh
   rw [this,if_pos rfl]
  exact rest (fE l x.k + 1) (by omega) hw
 | false=>
  simp only [wd, wa]
  have hw:q1f l x=l.take (fE l x.k)++x :: l.drop (fE l x.k):=by
   unfold q1f q1x
   have:q25 (kl l) x.k (q0r (kl l) x.k)=false:=hh
   rw [this,if_neg (by simp)]
  exact rest (fE l x.k) hfl hw
end
theorem q0ih {l:List Itm} (s:Srt l) (k:Key) (v:Ent) (x:Itm):x∈q2m l k v↔x=(k,v)∨(x∈l∧x.1≠k):=by
 cases hh:q1x l k with
 | false=>
  rw [qyn hh]
  constructor
  ·rintro (h | h)
   ·exact .inl h
   ·exact .inr ⟨h,(qmb s k).1 hh x h⟩
  ·rintro (h | ⟨h,-⟩)
   ·exact .inl h
   ·exact .inr h
 | true=>
  obtain ⟨u,hu⟩:=q98 hh
  have hil:=(List.getElem?_eq_some_iff.1 hu).1
  have e:q2m l k v=l.take (q0r l k)++(k,v) :: l.drop (q0r l k + 1):=by rw [qzr,if_pos hh]
  have el:l=l.take (q0r l k)++(k,u) :: l.drop (q0r l k + 1):=by
   have h1:=List.drop_eq_getElem_cons hil
   rw [(List.getElem?_eq_some_iff.1 hu).2] at h1
   rw [← h1,List.take_append_drop]
  have h1:∀ y,y∈l.take (q0r l k)→y.1≠k:=λ y hy=>q4f (qgu hy)
  have h2:∀ y,y∈l.drop (q0r l k + 1)→y.1≠k:=λ y hy=>(q4f (qyl s hh hy)).symm
  rw [e,List.mem_append,List.mem_cons]
  constructor
  ·rintro (h | h | h)
   ·exact .inr ⟨List.mem_of_mem_take h,h1 x h⟩
   ·exact .inl h
   ·exact .inr ⟨List.mem_of_mem_drop h,h2 x h⟩
  ·rintro (h | ⟨h,hne⟩)
   ·exact .inr (.inl h)
   ·rw [el,List.mem_append,List.mem_cons] at h
    rcases h with h | h | h
    ·exact .inl h
    ·exact absurd (by rw [h]) hne
    ·exact .inr (.inr h)
def q1h (l:List Ent) (es:List Ent):List Ent:=es.foldl q1f l
theorem q9e:∀ (es l:List Ent),l.Pairwise (λ x y=>blt x.k y.k=true)→(q1h l es).Pairwise λ x y=>blt x.k y.k=true
 | [],l,h=>h
 | x :: es,l,h=>q9e es _ (qai h x)
theorem qcg:∀ (es l:List Ent),(q1h l es).length≤l.length + es.length
 | [],l=>by simp [q1h]
 | x :: es,l=>by
  have h1:=qcg es (q1f l x)
  have h2:=qls l x
  simp only [q1h,List.foldl_cons,List.length_cons] at h1 ⊢
  omega
theorem q0im {l:List Ent} (s:l.Pairwise λ x y=>blt x.k y.k=true) (x y:Ent):y∈q1f l x↔y=x∨(y∈l∧y.k≠x.k):=by
 have h:=q0ih (q4d s) x.k x (y.k,y)
 rw [qcw] at h
 have km:∀ l:List Ent,(y.k,y)∈kl l↔y∈l:=by
  intro l
  unfold kl
  rw [List.mem_map]
  constructor
  ·rintro ⟨z,hz,e⟩
   have:z=y:=congrArg (·.2) e
   rw [← this]; exact hz
  ·intro hy; exact ⟨y,hy,rfl⟩
 rw [km,km] at h
 rw [h]
 constructor
 ·rintro (e | e)
  ·exact .inl (congrArg (·.2) e)
  ·exact .inr e
 ·rintro (e | e)
  ·exact .inl (by rw [e])
  ·exact .inr e
theorem qm4:∀ (es l:List Ent),l.Pairwise (λ x y=>blt x.k y.k=true)→es.Pairwise (λ x y=>blt x.k y.k=true)→∀ y,y∈q1h l es↔y∈es∨(y∈l∧∀ x,x∈es→y.k≠x.k)
 | [],l,h,_,y=>by simp [q1h]
 | x :: es,l,h,hs,y=>by
  obtain ⟨h1,h2⟩:=List.pairwise_cons.1 hs
  have ih:=qm4 es (q1f l x) (qai h x) h2 y
  rw [show q1h l (x :: es)=q1h (q1f l x) es from rfl,ih,q0im h]
  constructor
  ·rintro (a | ⟨a | ⟨a,b⟩,c⟩)
   ·exact .inl (List.mem_cons_of_mem _ a)
   ·exact .inl (by rw [a]; simp)
   ·refine .inr ⟨a,λ z hz=>?_⟩
    rcases List.mem_cons.1 hz with e | e
    ·rw [e]; exact b
    ·exact c z e
  ·rintro (a | ⟨a,c⟩)
   ·rcases List.mem_cons.1 a with e | e
    ·refine .inr ⟨.inl e,λ z hz=>?_⟩
     rw [e]
     exact q4f (h1 z hz)
    ·exact .inl e
   ·exact .inr ⟨.inr ⟨a,c x (by simp)⟩,λ z hz=>c z (by simp [hz])⟩
theorem qd1 {l:List Ent} {y:Ent}:(y.k,y)∈kl l↔y∈l:=by
 unfold kl
 rw [List.mem_map]
 constructor
 ·rintro ⟨z,hz,e⟩
  have:z=y:=congrArg (·.2) e
  rw [← this]; exact hz
 ·intro hy; exact ⟨y,hy,rfl⟩
theorem q0kj {a acc:List Ent} {ls:List (List Itm)} (ha:a.Pairwise λ x y=>blt x.k y.k=true) (h:IsM ls (kl acc)):IsM (kl a :: ls) (kl (q1h acc a)):=by
 have hs:=q00e h.srt
 have hm:=qm4 a acc hs ha
 refine ⟨q4d (q9e a acc hs),λ x hx=>?_,λ m l' y hl hy=>?_⟩
 ·obtain ⟨z,hz,rfl⟩:=List.mem_map.1 hx
  rcases (hm z).1 hz with h1 | ⟨h1,h2⟩
  ·exact ⟨0,kl a,rfl,qd1.2 h1,λ m l' hm=>by omega⟩
  ·obtain ⟨n,l,e1,e2,e3⟩:=h.sub _ (qd1.2 h1)
   refine ⟨n + 1,l,by simpa using e1,e2,λ m l' hm hl' y hy=>?_⟩
   cases m with
   | zero=>
    simp at hl'
    subst hl'
    obtain ⟨w,hw,rfl⟩:=List.mem_map.1 hy
    exact (h2 w hw).symm
   | succ m=>exact e3 m l' (by omega) (by simpa using hl') y hy
 ·cases m with
  | zero=>
   simp at hl
   subst hl
   obtain ⟨w,hw,rfl⟩:=List.mem_map.1 hy
   exact ⟨(w.k,w),qd1.2 ((hm w).2 (.inl hw)),rfl⟩
  | succ m=>
   obtain ⟨o,ho,e⟩:=h.all m l' y (by simpa using hl) hy
   obtain ⟨z,hz,rfl⟩:=List.mem_map.1 ho
   by_cases hex:∃ x,x∈a∧x.k=z.k
   ·obtain ⟨x,hx,e2⟩:=hex
    exact ⟨(x.k,x),qd1.2 ((hm x).2 (.inl hx)),by rw [← e]; exact e2⟩
   ·exact ⟨(z.k,z),qd1.2 ((hm z).2 (.inr ⟨hz,λ x hx e2=>hex ⟨x,hx,e2.symm⟩⟩)),e⟩
def q1w:List (List Ent)→List Ent
 | []=>[]
 | l :: ls=>q1h (q1w ls) l
theorem qxm:∀ ls:List (List Ent),(∀ l,l∈ls→l.Pairwise λ x y=>blt x.k y.k=true)→IsM (ls.map kl) (kl (q1w ls))
 | [],_=>⟨List.Pairwise.nil,by simp [q1w,kl],λ m l' y hm=>by simp at hm⟩
 | l :: ls,h=>q0kj (h l (by simp)) (qxm ls λ l' hl'=>h l' (by simp [hl']))
theorem qg7 {ls:List (List Ent)} {out:List Itm} (h:∀ l,l∈ls→l.Pairwise λ x y=>blt x.k y.k=true) (im:IsM (ls.map kl) out):out=kl (q1w ls):=
 IsM.uniq (λ l hl=>by
  obtain ⟨z,hz,rfl⟩:=List.mem_map.1 hl
  exact q4d (h z hz)) im (qxm ls h)
section
variable {w0:World} {h h':Hp}
theorem qn0 {l:List Ent} {i:Nat} {x:Ent} (h:l[i]?=some x):(kl l)[i]?=some (x.k,x):=by unfold kl; rw [List.getElem?_map,h]; rfl
theorem q0lt {k2:Value→Value→Value→Value→Value→Hp→Prop} {v x1 x15 x16 x17:Value} {ha:Hp} {ls:List (List Itm)} {n T:Nat} {l:List Ent} (hv:Es w0 ha v l) (fa:Fit w0 ha) (hl:l.length≤100000000) (hT:T≤100000000) (hln:ls[n]?=some (kl l))
  (hr:∀ x' h' out S',Vec w0 h' 3 x' out.length (out.flatMap ee) S'→RInv ls n l.length (kl out)→out.length≤T→Step ha h' [] S'→k2 x1 x' x15 x16 x17 h'):∀ (post pre:List Ent) (h1:Hp) (x5:Value) (S1:List Nat) (out:List Ent),pre++post=l→
   Vec w0 h1 3 x5 out.length (out.flatMap ee) S1→RInv ls n pre.length (kl out)→out.length + post.length≤T→Step ha h1 [] S1→
   q8i prog w0 k2 (post.length + 1) x1 x5 x15 x16 x17 v (.int .i64 (l.length:Int)) (.int .i64 (pre.length:Int)) h1:=by
 intro post
 induction post with
 | nil=>
  intro pre h1 x5 S1 out he g i ho st
  have hpre:pre=l:=by simpa using he
  subst hpre
  rw [List.length_nil,q8i]
  simp only [qel,wd, wa,Int.lt_irrefl,decide_false]
  exact hr x5 h1 out S1 g i (by simpa using ho) st
 | cons x post ih=>
  intro pre h1 x5 S1 out he g i ho st
  have hlen:pre.length + (post.length + 1)=l.length:=by rw [← he]; simp
  have hg:l[pre.length]?=some x:=by rw [← he]; simp
  have c1:decide ((pre.length:Int) < (l.length:Int))=true:=decide_eq_true (by omega)
  have e6:=wrS pre x (by omega)
  simp only [List.length_cons] at ho
  have vs:Es w0 h1 v l:=hv.step fa st (by simp)
  have fb:w0.heap.size≤h1.next:=Nat.le_trans fa.base st.1
  rw [List.length_cons,q8i]
  simp only [qel,wd, wa,c1]
  refine vs.elem (by omega) (q3u hg) ?_
  refine q2f fb rfl rfl q2b ?_
  have sx:Step h1 (h1.new (ee x) 3) [] [h1.next]:=(Step.refl h1 [] (by simp)).new _ _
  have hx:(h1.new (ee x) 3).blk h1.next=some (ee x):=by simp
  have hS1:=λ b hb=>(g.lt b hb).2
  have stx:Step ha (h1.new (ee x) 3) [] S1:=st.trans ((sx.less (T:=[]) (by simp)).keepS hS1)
  have gx:=g.frame sx (by simp)
  have hqx:h1.next < (h1.new (ee x) 3).next:=by simp
  generalize h1.new (ee x) 3=hx1 at *
  simp only [wd, wa]
  refine qj fb hx rfl ?_
  refine qq (qwd gx.sl (by omega) x.k) λ r h2 ⟨e,s2⟩ f2=>?_
  subst e
  have g2:=gx.frame s2 (by simp)
  have st2:Step ha h2 [] S1:=stx.trans (s2.keepS λ b hb=>(gx.lt b hb).2)
  have hx2:h2.blk h1.next=some (ee x):=by rw [(s2.keep _ hqx (by simp)).1]; exact hx
  simp only [wd, wa]
  cases hh:q25 (kl out) x.k (fE out x.k) with
  | true=>
   have hk:q1x (kl out) x.k=true:=hh
   simp only [Bool.not_true,wd, wa,e6]
   exact ih (pre++[x]) h2 x5 S1 out (by simpa using he) g2 (by simpa using i.skip hln (qn0 hg) hk) (by omega) st2
  | false=>
   have hk:q1x (kl out) x.k=false:=hh
   simp only [Bool.not_false,wd, wa]
   refine q16 fb hx2 rfl ?_
   refine qq (qwn g2.sl (by omega) x) λ r h3 ⟨S3,g3,s3⟩ f3=>?_
   simp only [wd, wa,e6]
   have hpl:=qls out x
   have ip:=i.put hln (qn0 hg) hk
   simp only at ip
   rw [qcw] at ip
   exact ih (pre++[x]) h3 r S3 _ (by simpa using he) g3 (by simpa using ip) (by omega) ((st2.less (T:=[]) (by simp)).trans s3)
theorem q0n6 {k0:Value→Value→Hp→Prop} {v x1:Value} {ps:List (Value × List Ent)} {hh:Hp} {ls:List (List Itm)} (hv:Sl w0 hh 1 v ps.length (ps.map (·.1))) (hi:∀ p:Value × List Ent,p∈ps→Es w0 hh p.1 p.2) (fh:Fit w0 hh) (hls:ls=ps.map λ q=>kl q.2) (hl:ps.length≤2000000) (hl2:(ps.map λ q=>q.2.length).sum≤100000000)
  (hk:∀ x' h' out S',Vec w0 h' 3 x' out.length (out.flatMap ee) S'→RInv ls ps.length 0 (kl out)→out.length≤(ps.map λ q=>q.2.length).sum→Step hh h' [] S'→k0 x1 x' h'):
  ∀ (post pre:List (Value × List Ent)) (h1:Hp) (x5:Value) (S1:List Nat) (out:List Ent),pre++post=ps→Vec w0 h1 3 x5 out.length (out.flatMap ee) S1→RInv ls pre.length 0 (kl out)→out.length≤(pre.map λ q=>q.2.length).sum→Step hh h1 [] S1→
   q8g prog w0 k0 (post.length + 1) x1 x5 v (.int .i64 (ps.length:Int)) (.int .i64 (pre.length:Int)) h1:=by
 intro post
 induction post with
 | nil=>
  intro pre h1 x5 S1 out he g i ho st
  have hpre:pre=ps:=by simpa using he
  subst hpre
  rw [List.length_nil,q8g]
  simp only [qbj,wd, wa,Int.lt_irrefl,decide_false]
  exact hk x5 h1 out S1 g i ho st
 | cons z post ih=>
  intro pre h1 x5 S1 out he g i ho st
  have hlen:pre.length + (post.length + 1)=ps.length:=by rw [← he]; simp
  have hg:ps[pre.length]?=some z:=by rw [← he]; simp
  have hzm:z∈ps:=List.mem_of_getElem? hg
  have hzl:=qco (λ q:Value × List Ent=>q.2.length) hzm
  have c1:decide ((pre.length:Int) < (ps.length:Int))=true:=decide_eq_true (by omega)
  have e6:=wrS pre z (by omega)
  have vs:=hv.step fh st (by simp)
  have hsum1:((pre++[z]).map λ q=>q.2.length).sum=(pre.map λ q=>q.2.length).sum + z.2.length:=by simp
  have hsum2:(ps.map λ q=>q.2.length).sum=(pre.map λ q=>q.2.length).sum + z.2.length + (post.map λ q=>q.2.length).sum:=by rw [← he]; simp; omega
  have hln:ls[pre.length]?=some (kl z.2):=by rw [hls,List.getElem?_map,hg]; rfl
  rw [List.length_cons,q8g]
  simp only [qbj,wd, wa,c1]
  refine vs.one (u:=z.1) (by rw [List.getElem?_map,hg]; rfl) ?_
  simp only [(hi z hzm).lenv,wd, wa]
  refine ⟨z.2.length + 1,q0lt (ha:=hh) (ls:=ls) (n:=pre.length) (T:=(pre.map λ q=>q.2.length).sum + z.2.length) (hi z hzm) fh (by omega) (by omega) hln (λ x' h' out' S' g' i' ho' st'=>?_) z.2 [] h1 x5 S1 out rfl g i (by omega) st⟩
  simp only [wd, wa,e6]
  have hkl:=q3e z.2
  rw [← hkl] at i'
  exact ih (pre++[z]) h' x' S' out' (by simpa using he) g' (by simpa using i'.next hln) (by rw [hsum1]; exact ho') st'
def flt (dr:Bool) (l:List Ent):List Ent:=l.filter λ x=>!dr || !x.g
theorem qym (dr:Bool) (l:List Ent) (x:Ent):flt dr (l++[x])=flt dr l++(if (!dr || !x.g)=true then [x] else []):=by
 unfold flt
 rw [List.filter_append]
 congr 1
 simp [List.filter_cons]
theorem q0mq {k4:Value→Hp→Prop} {v:Value} {dr:Bool} {out:List Ent} {hh:Hp} {Sv:List Nat} (hv:Vec w0 hh 3 v out.length (out.flatMap ee) Sv) (fh:w0.heap.size≤hh.next) (hl:out.length≤1000000000)
  (hk:∀ h' x S',Step hh h' [] S'→Vec w0 h' 3 x (flt dr out).length ((flt dr out).flatMap ee) S'→k4 x h'):∀ (post pre:List Ent) (h1:Hp) (x:Value) (S:List Nat),pre++post=out→Step hh h1 [] S→Vec w0 h1 3 x (flt dr pre).length ((flt dr pre).flatMap ee) S→
   q60 prog w0 k4 (post.length + 1) (.bool dr) x v (.int .i64 (out.length:Int)) (.int .i64 (pre.length:Int)) h1:=by
 intro post
 induction post with
 | nil=>
  intro pre h1 x S he st g
  have hpre:pre=out:=by simpa using he
  subst hpre
  rw [List.length_nil,q60]
  simp only [qei,wd, wa,Int.lt_irrefl,decide_false]
  exact hk h1 x S st g
 | cons z post ih=>
  intro pre h1 x S he st g
  have hlen:pre.length + (post.length + 1)=out.length:=by rw [← he]; simp
  have hg:out[pre.length]?=some z:=by rw [← he]; simp
  have c1:decide ((pre.length:Int) < (out.length:Int))=true:=decide_eq_true (by omega)
  have e6:=wrS pre z (by omega)
  have v1:Es w0 h1 v out:=(hv.frame st (by simp)).sl
  have fb:w0.heap.size≤h1.next:=Nat.le_trans fh st.1
  have hml:(flt dr pre).length≤pre.length:=List.length_filter_le _ _
  have hS:=λ b hb=>(g.lt b hb).2
  rw [List.length_cons,q60]
  simp only [qei,wd, wa,c1]
  refine v1.elem (by omega) (q3u hg) ?_
  refine q2f fb rfl rfl q2b ?_
  have sx:Step h1 (h1.new (ee z) 3) [] [h1.next]:=(Step.refl h1 [] (by simp)).new _ _
  have bx:(h1.new (ee z) 3).blk h1.next=some (ee z):=by simp
  have gx:=g.frame sx (by simp)
  have stx:Step hh (h1.new (ee z) 3) [] S:=st.trans ((sx.less (T:=[]) (by simp)).keepS hS)
  have fbx:w0.heap.size≤(h1.new (ee z) 3).next:=Nat.le_trans fb sx.1
  generalize h1.new (ee z) 3=h2 at *
  have sn:=qym dr pre z
  have app:(!dr || !z.g)=true→qw w0 (.pointer (some ⟨h1.next,0,none⟩)) 3 (λ v51=>q0j [(0,3,true,v51)] (q00 [.string .empty,.string .empty,.bool false] 1) 1 3 λ v52=>q0h w0 3 40 x v52 λ v53=>q60 prog w0 k4 (post.length + 1) (.bool dr) v53 v (.int .i64 (out.length:Int)) (.int .i64 (((pre++[z]).length:Nat):Int))) h2:=by
   intro hq
   rw [if_pos hq] at sn
   refine q16 fb bx rfl ?_
   refine q4a fbx gx.gv rfl rfl (by omega) (by omega) (by omega) λ x' h3 S3 g3 s3=>?_
   refine ih (pre++[z]) h3 x' S3 (by simpa using he) (stx.trans s3) ?_
   rw [sn,List.length_append,List.flatMap_append]
   simpa using g3
  have skip:(!dr || !z.g)=false→q60 prog w0 k4 (post.length + 1) (.bool dr) x v (.int .i64 (out.length:Int)) (.int .i64 (((pre++[z]).length:Nat):Int)) h2:=by
   intro hq
   rw [if_neg (by simp [hq]),List.append_nil] at sn
   refine ih (pre++[z]) h2 x S (by simpa using he) stx ?_
   rw [sn]
   exact gx
  cases dr with
  | false=>
   simp only [e6,wd, wa]
   exact app rfl
  | true=>
   simp only [wd, wa]
   refine qj (o:=2) (v:=.bool z.g) fb bx rfl ?_
   cases hzg:z.g with
   | false=>
    simp only [e6,wd, wa]
    exact app (by rw [hzg]; rfl)
   | true=>
    simp only [e6,wd, wa]
    exact skip (by rw [hzg]; rfl)
theorem qup {v:Value} {ps:List (Value × List Ent)} (dr:Bool) (hv:Sl w0 h 1 v ps.length (ps.map (·.1))) (hi:∀ p:Value × List Ent,p∈ps→Es w0 h p.1 p.2) (hl:ps.length≤2000000) (hl2:(ps.map λ q=>q.2.length).sum≤100000000):
  qf prog w0 qez [v,.bool dr] h λ r h'=>∃ out S',IsM (ps.map λ q=>kl q.2) (kl out)∧out.length≤(ps.map λ q=>q.2.length).sum∧Vec w0 h' 3 r (flt dr out).length ((flt dr out).flatMap ee) S'∧Step h h' [] S':=by
 refine qf.of_fit (by simpa using hv.junk) λ f=>q09m (by simpa using hv.junk) ?_
 simp only [qjj,hv.lenv,wd, wa]
 refine ⟨ps.length + 1,q0n6 (ls:=ps.map λ q=>kl q.2) hv hi f rfl hl hl2 (λ x' h1 out S1 g i ho st=>?_) ps [] h _ [] [] rfl .nil ⟨List.Pairwise.nil,by simp [kl],λ m l' y hm=>by simp at hm,λ l' y _ hy=>by simp at hy⟩ (by simp) (.refl _ _ (by simp))⟩
 have im:IsM (ps.map λ q=>kl q.2) (kl out):=by
  have:ps.length=(ps.map λ q=>kl q.2).length:=by simp
  rw [this] at i
  exact i.done
 simp only [g.sl.lenv,wd, wa]
 refine ⟨out.length + 1,q0mq g (Nat.le_trans f.base st.1) (by omega) (λ h3 x3 S3 s3 g3=>?_) out [] h1 _ [] rfl (.refl _ _ (by simp)) .nil⟩
 simp only [qu,q06]
 exact ⟨by simpa using g3.gv.nj,out,S3,im,ho,g3,(st.less (T:=[]) (by simp)).trans s3⟩
end
end Go.Proofs.YtfmoemconapmhaaGreat.Ah
