/- Appending one element; loops that read a slice and write a vector. -/
import Derived.Test.YtfmoemconapmhaaGreatAh30
set_option linter.all false
namespace Go.Proofs.YtfmoemconapmhaaGreat.Ah
open Go
section
section
variable {w0:World} {h h':Hp} {s n:Nat} {x:Value} {cs e z:List Value} {S:List Nat}
theorem q00n {K:qh} (he:e.length=s) (hz:z.length=s) (hk:K (.slice (some ⟨h.next,0,none⟩) 1 1) (h.new e s)):q0j [(0,s,true,.agg e.toArray)] (q00 z 1) 1 s K h:=by
 have hz1:q00 z 1=z:=by simp [q00]
 rw [q3s,q95,q1u,hz1]
 refine ⟨by simpa using he,by omega,?_⟩
 rw [qld z e.toArray.toList (by simp; omega)]
 exact hk
theorem q7k {K:qh} {v z1:Value} (hv:qv v=true) (hk:K (.slice (some ⟨h.next,0,none⟩) 1 1) (h.new [v] 1)):q0j [(0,1,false,v)] (q00 [z1] 1) 1 1 K h:=by
 have hz1:q00 [z1] 1=[z1]:=rfl
 rw [q3s,q28,q1u,hz1]
 exact ⟨hv,by simp,hk⟩
theorem q4a {by_:Nat} {K:qh} (hf:w0.heap.size≤h.next) (v:GV w0 h s x n cs S) (he:e.length=s) (hz:z.length=s) (hs0:0 < s) (hb:(n + 1) * by_≤140737488355328) (hn:n + 1≤140737488355328)
  (hk:∀ x' h' S',Vec w0 h' s x' (n + 1) (cs++e) S'→Step h h' S S'→K x' h'):q0j [(0,s,true,.agg e.toArray)] (q00 z 1) 1 s (λ v=>q0h w0 s by_ x v K) h:=by
 refine q00n he hz ?_
 have s0:Step h (h.new e s) [] [h.next]:=(Step.refl h [] (by simp)).new _ _
 refine qfs (m:=1) (by simp; omega) (v.frame s0 (by simp)) (by omega) rfl (q3h hf (by omega)) (by omega) hb hn hs0 λ x' h2 S' v' st=>?_
 exact hk x' h2 S' v' ((s0.less (T:=[]) (by simp)).wide (T:=S) (T':=S) (by simp) (λ b hb=>.inr ⟨hb,(v.lt b hb).2⟩) |>.trans st)
theorem q79 {by_:Nat} {K:qh} {v z1:Value} (hf:w0.heap.size≤h.next) (g:GV w0 h 1 x n cs S) (hv:qv v=true) (hb:(n + 1) * by_≤140737488355328) (hn:n + 1≤140737488355328)
  (hk:∀ x' h' S',Vec w0 h' 1 x' (n + 1) (cs++[v]) S'→Step h h' S S'→K x' h'):q0j [(0,1,false,v)] (q00 [z1] 1) 1 1 (λ v=>q0h w0 1 by_ x v K) h:=by
 refine q7k hv ?_
 have s0:Step h (h.new [v] 1) [] [h.next]:=(Step.refl h [] (by simp)).new _ _
 refine qfs (m:=1) (by simp; omega) (g.frame s0 (by simp)) (by omega) rfl (q3h hf (by simp)) (by simp) hb hn (by omega) λ x' h2 S' v' st=>?_
 exact hk x' h2 S' v' ((s0.less (T:=[]) (by simp)).wide (T:=S) (T':=S) (by simp) (λ b hb=>.inr ⟨hb,(g.lt b hb).2⟩) |>.trans st)
theorem Step.keepS (a:Step h h' [] []) (hS:∀ b,b∈S→b < h.next):Step h h' S S:=a.wide (by simp) (λ b hb=>.inr ⟨hb,hS b hb⟩)
theorem Step.claim {T:List Nat} (a:Step h h' S []) (hT:∀ b,b∈T→b < h'.next∧h.next≤b):Step h h' S T:=⟨a.1,a.2,λ b hb=>⟨(hT b hb).1,.inr (hT b hb).2⟩,a.4⟩
theorem Step.base {S':List Nat} (a:Step h h' S S') (hf:w0.heap.size≤h.next):w0.heap.size≤h'.next:=Nat.le_trans hf a.1
theorem Sl.elem {i:Nat} {ys:List Value} {k:IntKind} {K:qh} (v:Sl w0 h s x n ys) (hi:i < n) (he:(ys.drop (i * s)).take s=e) (hk:K (.agg e.toArray) h):q04 s x (.int k (i:Int)) (λ p=>qw w0 p s K) h:=by
 obtain ⟨a,c,rfl⟩:=v.slice
 refine q97 v.src hi ?_
 rw [he]
 exact hk
theorem Sl.place {i:Nat} {ys:List Value} {k:IntKind} {K:qh} (v:Sl w0 h s x n ys) (hi:i < n) (he:(ys.drop (i * s)).take s=e)
  (hk:∀ p,(∀ h' K',Sl w0 h' s x n ys→K' (.agg e.toArray) h'→qw w0 p s K' h')→K p h):q04 s x (.int k (i:Int)) K h:=by
 obtain ⟨a,c,rfl⟩:=v.slice
 rcases v.src.2 with ⟨q,-⟩ | ⟨-,ad,rfl,-⟩
 ·omega
 ·refine ⟨ad,n,c,k,i,rfl,rfl,by omega,by omega,hk _ λ h' K' v' k'=>?_⟩
  have:=v'.elem (k:=k) hi he k'
  obtain ⟨ad',n',c',k2,j,e1,e2,-,-,r⟩:=this
  cases e1
  cases e2
  exact r
theorem Sl.lenv {ys:List Value} (v:Sl w0 h s x n ys):q05 x=some (.int .i64 (n:Int)):=by
 obtain ⟨a,c,rfl⟩:=v.slice
 rfl
theorem Sl.one {i:Nat} {ys:List Value} {u:Value} {k:IntKind} {K:qh} (v:Sl w0 h 1 x n ys) (hv:ys[i]?=some u) (hk:K u h):q04 1 x (.int k (i:Int)) (λ p=>qg w0 p K) h:=by
 obtain ⟨a,c,rfl⟩:=v.slice
 exact q0il v.src (by simpa using v.len) hv hk
theorem GV.nj (g:GV w0 h s x n cs S):x≠junk:=by obtain ⟨a,c,e⟩:=g.slice; simp [e]
theorem GV.isC (g:GV w0 h s x n cs S):qv x=true:=by obtain ⟨a,c,e⟩:=g.slice; rw [e]; rfl
theorem GV.sbk (g:GV w0 h s x n cs S):q0z x=S:=by
 rcases g with v | ⟨q,rfl,rfl,-⟩
 ·exact v.sblk_eq
 ·rfl
theorem Sl.isC {ys:List Value} (v:Sl w0 h s x n ys):qv x=true:=by obtain ⟨a,c,e⟩:=v.slice; rw [e]; rfl
theorem q2f {K:qh} {k m:Nat} (hf:w0.heap.size≤h.next) (hz:z.length=m) (hl:e.length=m) (hzc:∀ v,v∈z→qv v=true) (hk:K (.pointer (some ⟨h.next,0,none⟩)) (h.new e k)) (hu:e.all q2d=false:=by first | rfl | (simp [q2d]; done)):
  q0u z k (λ b=>q0k w0 b (.agg e.toArray) m λ _=>K b) h:=q0mo hf hz hl hzc hk hu
end
end
section
def ItV (P:Program) (w0:World) (fv:Value) (hh:Hp) (T:List Nat) (xs:List (List Value)):Prop:=
 ∀ (y:Value) (N:Nat) (S:List Nat) (C:Nat→Hp→List Nat→Prop) (D:Hp→List Nat→Prop),y≠junk→qv y=true→N≤hh.next→(∀ i,q2h w0 N hh.next (C i))→q2h w0 N hh.next D→
  (∀ i x h1 S1,xs[i]?=some x→Fit w0 h1→C i h1 S1→q1n P w0 y x (λ v h2=>∃ S2,q09 N h1 h2 S1 S2∧((v=.bool true∧C (i + 1) h2 S2)∨(v=.bool false∧D h2 S2))) h1)→
  C 0 hh S→(∀ b,b∈S→b∉T)→qcz P w0 fv [y] (λ _ h2=>∃ S2,q09 N hh h2 S S2∧(C xs.length h2 S2∨D h2 S2)) hh
theorem ItC.v {P:Program} {w0:World} {fv:Value} {hh:Hp} {T:List Nat} {xs:List (List Value)} (it:ItC P w0 fv hh T xs):ItV P w0 fv hh T xs:=
 λ y N S C D hy _ hN kC kD hstep h0 hd=>it y N S C D hy hN kC kD hstep h0 hd
theorem qc2 {P:Program} {w0:World} {fv:Value} {np:Nat} {round:Nat→Lp→List Value→qh→Hp→Prop} {K0:Hp→Prop} {Ks:List (Option Nat × (Hp→Prop))} {h:Hp} {xs:List (List Value)} {T:List Nat}
  (N:Nat) (hN:N≤h.next) (f:Fit w0 h) (it:∀ g,ItV P w0 fv (h.newLp g) T xs) (body:Nat→Lp→List Value→qh→Hp→Prop) (hround:∀ b g x K h1,h1.lp b=some (g,.ready)→body b g x K (h1.setLp b g .busy)→round b g x K h1)
  (S:List Nat) (C:Nat→Hp→List Nat→Prop) (D:Option Nat→Hp→List Nat→Prop) (kC:∀ i,q2h w0 N h.next (C i)) (kD:∀ o,q2h w0 N h.next (D o)) (h0:C 0 h S) (hd:∀ b,b∈S→b∉T)
  (hx:∀ x,x∈xs→x.length=np∧∀ v,v∈x→v≠junk)
  (hr:∀ i x h1 S1 g K,xs[i]?=some x→Fit w0 h1→C i h1 S1→h1.lp h.next=some (g,.busy)→h.next < h1.next→
   (∀ h2 S2,q09 N h1 h2 S1 S2→C (i + 1) h2 S2→q24 h.next g none K h2)→(∀ o h2 S2,q09 N h1 h2 S1 S2→D o h2 S2→q24 h.next g (some o) K h2)→body h.next g x K h1)
  (k0:∀ h3 S2,Fit w0 h3→q09 N h h3 S S2→C xs.length h3 S2→K0 h3)
  (ks:∀ o h3 S2,Fit w0 h3→q09 N h h3 S S2→D o h3 S2→∃ p,p∈Ks∧p.1=o∧p.2 h3):q3j P w0 fv np round K0 Ks h:=by
 refine ⟨λ g hy=>?_⟩
 let L:Hp→Prop:=λ h1=>h.next < h1.next∧∀ c,N≤c→c < h.next→h1.lp c=h.lp c
 have hLs:∀ h1 h2,L h1→h1.next≤h2.next→(∀ c,c < h.next→h2.lp c=h1.lp c)→L h2:=λ h1 h2 a n e=>⟨Nat.lt_of_lt_of_le a.1 n,λ c h3 h4=>by rw [e c h4]; exact a.2 c h3 h4⟩
 have key:=it g (.func (.yield h.next) #[] #[]) (h.next + 1) S (λ i h1 S1=>C i h1 S1∧h1.lp h.next=some (g,.ready)∧L h1) (λ h1 S1=>∃ o,D o h1 S1∧h1.lp h.next=some (g,.done o)∧L h1)
  (by simp [junk]) rfl (Nat.le_refl _) (λ i=>⟨λ h1 lp S1 e ⟨a,b,c⟩=>⟨(kC i).ins h1 lp S1 (λ b hb=>e b (by omega)) a,by show lp h.next=_; rw [e _ (by omega)]; exact b,hLs h1 _ c (Nat.le_refl _) λ c hc=>e c (by omega)⟩,
   λ h1 h2 S1 T1 T2 f1 ⟨a,b,c⟩ st hdj hB=>⟨(kC i).step h1 h2 S1 T1 T2 f1 a st hdj (λ b hb=>Nat.le_of_succ_le (hB b hb)),by rw [st.lp]; exact b,hLs h1 _ c st.1 λ c hc=>by rw [st.lp]⟩,λ h1 S1 ⟨a,b,c⟩=>(kC i).lt h1 S1 a⟩)
  ⟨λ h1 lp S1 e ⟨o,a,b,c⟩=>⟨o,(kD o).ins h1 lp S1 (λ b hb=>e b (by omega)) a,by show lp h.next=_; rw [e _ (by omega)]; exact b,hLs h1 _ c (Nat.le_refl _) λ c hc=>e c (by omega)⟩,
   λ h1 h2 S1 T1 T2 f1 ⟨o,a,b,c⟩ st hdj hB=>⟨o,(kD o).step h1 h2 S1 T1 T2 f1 a st hdj (λ b hb=>Nat.le_of_succ_le (hB b hb)),by rw [st.lp]; exact b,hLs h1 _ c st.1 λ c hc=>by rw [st.lp]⟩,λ h1 S1 ⟨o,a,b,c⟩=>(kD o).lt h1 S1 a⟩
  (λ i x h1 S1 hi f1 ⟨c1,c2,c3⟩=>?_) ⟨(kC 0).ins { h with next:=h.next + 1 } (h.newLp g).lp S (λ b hb=>by rw [q77,if_neg (by omega)]) ((kC 0).step h _ S [] [] f h0 ⟨Nat.le_succ _,λ _ _ _=>⟨rfl,rfl⟩,λ b hb=>by simp at hb,rfl⟩ (by simp) (by simp)),by simp,by simp,λ c h1 h2=>by rw [q77,if_neg (by omega)]⟩ hd
 ·refine qwy key λ _ h2 ⟨S2,ys,hk⟩ f2=>?_
  have hY:L h2→∀ s,q09 N h (h2.setLp h.next g s) S S2:=λ l s=>⟨by have:=ys.next; simp at this ⊢; omega,λ b hb hs=>ys.keep b (by simp; omega) hs,λ b hb=>⟨(ys.own b hb).1,by
   rcases (ys.own b hb).2 with q | q
   ·exact .inl q
   ·right; simp at q; omega⟩,λ b h3 h4=>by rw [q2u,if_neg (by omega)]; exact l.2 b h3 h4⟩
  rcases hk with ⟨c1,c2,c3⟩ | ⟨o,c1,c2,c3⟩
  ·exact .inl ⟨c2,k0 _ S2 (f2.setLp f.base c3.1) (hY c3 _) ((kC _).ins h2 _ S2 (λ b hb=>by rw [if_neg (by omega)]) c1)⟩
  ·obtain ⟨p,hp,hpo,hpk⟩:=ks o _ S2 (f2.setLp f.base c3.1) (hY c3 .mark) ((kD _).ins h2 _ S2 (λ b hb=>by rw [if_neg (by omega)]) c1)
   exact .inr ⟨p,hp,by rw [hpo]; exact c2,hpk⟩
 ·obtain ⟨hxl,hxj⟩:=hx x (List.mem_of_getElem? hi)
  refine .inr ⟨h.next,rfl,hy x h1 _ hxl hxj c2 ?_⟩
  refine hround _ _ _ _ _ c2 (hr i x (h1.setLp h.next g .busy) S1 g _ hi (f1.setLp f.base c3.1) ((kC i).ins h1 _ S1 (λ b hb=>by rw [if_neg (by omega)]) c1) (by simp) c3.1 (λ h2 S2 ys c4=>?_) (λ o h2 S2 ys c4=>?_))
  ·refine ⟨by rw [ys.lp h.next hN c3.1]; simp,S2,⟨ys.next,ys.keep,ys.own,λ b h3 h4=>?_⟩,.inl ⟨rfl,(kC _).ins h2 _ S2 (λ b hb=>by rw [if_neg (by omega)]) c4,by simp [q5s],Nat.lt_of_lt_of_le c3.1 ys.next,λ c h3 h4=>?_⟩⟩
   ·rw [q2u,if_neg (by omega),ys.lp b (by omega) h4,q2u,if_neg (by omega)]
   ·rw [q2u,if_neg (by omega),ys.lp c h3 (by have:=c3.1; simp; omega),q2u,if_neg (by omega)]
    exact c3.2 c h3 h4
  ·refine ⟨by rw [ys.lp h.next hN c3.1]; simp,S2,⟨ys.next,ys.keep,ys.own,λ b h3 h4=>?_⟩,.inr ⟨rfl,o,(kD _).ins h2 _ S2 (λ b hb=>by rw [if_neg (by omega)]) c4,by simp [q5s],Nat.lt_of_lt_of_le c3.1 ys.next,λ c h3 h4=>?_⟩⟩
   ·rw [q2u,if_neg (by omega),ys.lp b (by omega) h4,q2u,if_neg (by omega)]
   ·rw [q2u,if_neg (by omega),ys.lp c h3 (by have:=c3.1; simp; omega),q2u,if_neg (by omega)]
    exact c3.2 c h3 h4
theorem qcf {w0:World} {b s n:Nat} {g:Lp} {z:List Value} {y:Value} {h1:Hp} {k:Value→Hp→Prop} (hr:h1.lp b=some (g,.ready))
  (hk:q0u z s (λ v=>q0k w0 v y n λ _=>k v) (h1.setLp b g .busy)):q0u z s (λ v=>q0k w0 v y n λ _=>q6h b g (k v)) h1:=by
 obtain ⟨hc,q,o,cs,vs,e1,e2,e3,e4,e5,e6,hk⟩:=hk
 exact ⟨hc,q,o,cs,vs,e1,e2,e3,e4,e5,e6,hr,hk⟩
theorem q09.newLp {h h':Hp} {N:Nat} {S S':List Nat} (y:q09 N h h' S S') (g:Lp):q09 N h (h'.newLp g) S S' :=
 ⟨Nat.le_succ_of_le y.next,y.keep,λ b hb=>⟨Nat.lt_succ_of_lt (y.own b hb).1,(y.own b hb).2⟩,λ b h1 h2=>by
  rw [q77,if_neg (by have:=y.next; omega)]
  exact y.lp b h1 h2⟩
end
section
section
open Go.ChangeShapes
end
end
end Go.Proofs.YtfmoemconapmhaaGreat.Ah
