/- level.all: what it takes of each list. -/
import Derived.Test.YtfmoemconapmhaaGreatLxc
set_option linter.all false
namespace Go.Proofs.YtfmoemconapmhaaGreat.Ah
open Go
def inR (a b:Key) (x:Ent):Bool:=!blt x.k a && (decide (b=[]) || blt x.k b)
def rng (a b:Key) (l:List Ent):List Ent:=l.filter (inR a b)
theorem q00a (b:Key) (x:Ent):inS b x=(decide (b=[]) || blt x.k b):=by
 unfold inS
 by_cases h:b=[] <;> simp [h]
theorem qts {p:Ent→Bool}:∀ {l:List Ent},q29 l→(∀ x y,blt x.k y.k=true→p y=true→p x=true)→l.takeWhile p=l.filter p
 | [],_,_=>rfl
 | x :: t,s,hp=>by
  obtain ⟨h1,h2⟩:=List.pairwise_cons.1 s
  by_cases hx:p x=true
  ·rw [List.takeWhile_cons_of_pos hx,List.filter_cons_of_pos hx,qts h2 hp]
  ·rw [List.takeWhile_cons_of_neg hx,List.filter_cons_of_neg hx]
   symm
   rw [List.filter_eq_nil_iff]
   intro y hy hpy
   exact hx (hp x y (h1 y hy) hpy)
theorem q0lj {l:List Ent} (s:q29 l) (a b:Key):part l a b=rng a b l:=by
 have sk:=q4d s
 have h1:l.drop (fE l a)=l.filter λ x=>!blt x.k a:=by
  conv=>rhs; rw [← List.take_append_drop (fE l a) l,List.filter_append]
  have e1:(l.take (fE l a)).filter (λ x=>!blt x.k a)=[]:=by
   rw [List.filter_eq_nil_iff]
   intro x hx
   have hm:(x.k,x)∈(kl l).take (q0r (kl l) a):=by
    rw [← qyy]
    exact List.mem_map.2 ⟨x,hx,rfl⟩
   have:=qgu hm
   simp at this
   simp [this]
  have e2:(l.drop (fE l a)).filter (λ x=>!blt x.k a)=l.drop (fE l a):=by
   rw [List.filter_eq_self]
   intro x hx
   have hm:(x.k,x)∈(kl l).drop (q0r (kl l) a):=by
    rw [← qze]
    exact List.mem_map.2 ⟨x,hx,rfl⟩
   have:=qzi sk (Nat.le_refl _) hm
   simp at this
   simp [this]
  rw [e1,e2,List.nil_append]
 unfold part rng
 rw [qts (s.sublist (List.drop_sublist _ _)) (λ x y hxy hy=>?_),h1,List.filter_filter]
 ·congr 1
  funext x
  rw [q00a,inR,Bool.and_comm]
 ·rw [q00a] at hy ⊢
  by_cases hb:b=[]
  ·simp [hb]
  ·simp [hb] at hy ⊢
   exact q5h hxy hy
theorem q0ly (a b:Key) (l:List Ent):rng a b (rng a b l)=rng a b l:=by
 unfold rng
 rw [List.filter_filter]
 simp
theorem qcu {l:List Ent} (s:q29 l) (a b:Key):q29 (rng a b l):=s.filter _
theorem q9m (a b:Key) (l:List Ent):(rng a b l).length≤l.length:=List.length_filter_le _ _
theorem qy3 {l:List Ent} (s:q29 l) (a b k:Key):q11 (rng a b l) k=(q11 l k).filter (inR a b):=by
 have hf:=qcu s a b
 cases e:q11 l k with
 | none=>
  have hn:=qcc e
  cases e2:q11 (rng a b l) k with
  | none=>rfl
  | some x=>
   obtain ⟨h1,h2⟩:=q49 e2
   exact absurd h2 (hn x (List.mem_filter.1 h1).1)
 | some x=>
  obtain ⟨h1,h2⟩:=q49 e
  rw [Option.filter_some]
  split
  ·rename_i hp
   exact (qmg hf k x).2 ⟨List.mem_filter.2 ⟨h1,hp⟩,h2⟩
  ·rename_i hp
   cases e2:q11 (rng a b l) k with
   | none=>rfl
   | some y=>
    obtain ⟨h3,h4⟩:=q49 e2
    obtain ⟨h5,h6⟩:=List.mem_filter.1 h3
    have:=q0iu s h5 h1 (h4.trans h2.symm)
    subst this
    exact absurd h6 hp
def inK (a b k:Key):Bool:=!blt k a && (decide (b=[]) || blt k b)
theorem q0lo {ls:List (List Ent)} (h:∀ l,l∈ls→q29 l) (a b k:Key):look (ls.map (rng a b)) k=if inK a b k=true then look ls k else none:=by
 induction ls with
 | nil=>simp [qy0]
 | cons l ls ih=>
  rw [List.map_cons,qaf,qaf,ih λ m hm=>h m (by simp [hm]),qy3 (h l (by simp))]
  cases e:q11 l k with
  | none=>simp
  | some x=>
   have hk:inR a b x=inK a b k:=by unfold inR inK; rw [(q49 e).2]
   cases hp:inK a b k with
   | true=>rw [hp] at hk; simp [Option.filter,hk]
   | false=>rw [hp] at hk; simp [Option.filter,hk]
theorem q0jl {ls:List (List Ent)} (h:∀ l,l∈ls→q29 l) (a b:Key):q1w (ls.map (rng a b))=rng a b (q1w ls):=by
 refine qxa (qag _) (qcu (qag _) a b) λ k=>?_
 rw [qg0 _ (λ l hl=>by obtain ⟨m,hm,rfl⟩:=List.mem_map.1 hl; exact qcu (h m hm) a b),q0lo h,qy3 (qag _),qg0 _ h]
 cases e:look ls k with
 | none=>simp
 | some x=>
  have hx:x.k=k:=by
   rw [← qg0 _ h] at e
   exact (q49 e).2
  have hk:inR a b x=inK a b k:=by unfold inR inK; rw [hx]
  cases hp:inK a b k with
  | true=>rw [hp] at hk; simp [Option.filter,hk]
  | false=>rw [hp] at hk; simp [Option.filter,hk]
section
variable {w0:World} {h h':Hp}
def QI (w0:World) (B q:Nat) (a b:Key) (l:List Ent) (i:Nat) (h1:Hp) (S1:List Nat):Prop:=
 ∃ x S',S1=q :: S'∧h1.blk q=some [x]∧Vec w0 h1 4 x (rng a b (l.take i)).length (ivs (kl (rng a b (l.take i)))) S'∧q∉S'∧B≤h1.next
theorem q0mr {B q i:Nat} {a b:Key} {l:List Ent} (hq:q < B):q2h w0 0 B (QI w0 B q a b l i):=by
 refine ⟨λ h lp S _ c=>c,λ h h' S T T' f ⟨x,S',e,b,v,hqs,n⟩ st hd hB=>?_,λ h S ⟨x,S',e,b,v,hqs,n⟩ c hc=>?_⟩
 ·subst e
  exact ⟨x,S',rfl,by rw [(st.keep q (by omega) (hd q (by simp))).1]; exact b,v.frame st (λ c hc=>hd c (by simp [hc])),hqs,Nat.le_trans n st.1⟩
 ·subst e
  rcases List.mem_cons.1 hc with rfl | hc
  ·omega
  ·exact (v.lt c hc).2
theorem q0lf {K0:Hp→Prop} {fv:Value} {q q4 q5:Nat} {a b:Key} {l:List Ent} {T:List Nat} (f:Fit w0 h) (hq:w0.heap.size≤q) (hb:h.blk q=some [.slice none 0 0]) (w4:w0.heap.size≤q4) (h4:h.blk q4=some [.string (str a)]) (w5:w0.heap.size≤q5) (h5:h.blk q5=some [.string (str b)])
  (hq4:q4≠q) (hq5:q5≠q) (hl:l.length≤1000000000) (hqT:q∉T)
  (hit:∀ g,ItV prog w0 fv (h.newLp g) T (sV l)) (hk:∀ h3 x S',Fit w0 h3→q09 0 h h3 [q] (q :: S')→h3.blk q=some [x]→Vec w0 h3 4 x (rng a b l).length (ivs (kl (rng a b l))) S'→K0 h3):
  q3j prog w0 fv 1 (λ b g args K=>qq0 prog w0 b g K (ptr q4) (ptr q5) (ptr q) (args.getD 0 undef)) K0 [] h:=by
 have lq:=f.lt _ _ hb
 have l4:=f.lt _ _ h4
 have l5:=f.lt _ _ h5
 refine qc2 (xs:=sV l) (T:=T) 0 (Nat.zero_le _) f hit (λ bb g x K=>q0u zE 3 λ v=>q0k w0 v (x.getD 0 undef) 3 λ _=>
   qk v 0 λ v9_3=>qg w0 v9_3 λ v10_4=>qg w0 (ptr q4) λ v11_5=>qb (qd .geq v10_4 v11_5) λ v12_6=>qe v12_6 true (qg w0 (ptr q5)) λ v14_7=>qe v12_6 true (qb (qd .eql v14_7 (.string .empty))) λ v15_8=>qe v12_6 true (λ K=>K v15_8) λ v16_9=>
   qe v16_9 false (qk v 0) λ v17_10=>qe v16_9 false (qg w0 v17_10) λ v18_11=>qe v16_9 false (qg w0 (ptr q5)) λ v19_12=>qe v16_9 false (qb (qd .lss v18_11 v19_12)) λ v20_13=>qe v12_6 true (q0a v16_9 (.bool true) v20_13) λ v21_14=>q0a v12_6 v21_14 (.bool false) λ v22_15=>
   qt v22_15 (qg w0 (ptr q) λ v23_16=>qk v 0 λ v24_17=>qg w0 v24_17 λ v25_18=>qw w0 v 3 λ v26_19=>q1t [(0,1,false,v25_18),(1,3,true,v26_19)] zI λ v27_20=>q0j [(0,4,true,v27_20)] (q00 zI 1) 1 4 λ v28_21=>q0h w0 4 56 v23_16 v28_21 λ v29_22=>q0q w0 (ptr q) v29_22 λ _=>q24 bb g none K) (q24 bb g none K))
  (λ b g x K h1 hl hk=>qcf hl hk) [q] (λ i h1 S1=>((QI w0 h.next q a b l i h1 S1∧h1.blk q4=some [.string (str a)]∧q4∉S1∧q4 < h1.next)∧h1.blk q5=some [.string (str b)]∧q5∉S1∧q5 < h1.next)) (λ _ _ _=>False) (λ i=>((q0mr lq).and_blk l4).and_blk l5) (λ o=>⟨λ _ _ _ _ c=>c,λ _ _ _ _ _ _ c=>c.elim,λ _ _ c=>c.elim⟩)
  ⟨⟨⟨_,[],rfl,hb,.nil,by simp,Nat.le_refl _⟩,h4,by simpa using hq4,l4⟩,h5,by simpa using hq5,l5⟩ (λ b hb hbT=>by simp at hb; subst hb; exact hqT hbT) ?_ ?_ ?_ ?_
 ·intro y hy
  obtain ⟨x,hx,rfl⟩:=List.mem_map.1 hy
  exact ⟨rfl,by simp⟩
 ·rintro i y h1 S1 g1 K hi f1 ⟨⟨⟨x,S',e,bq0,v,hqs,n⟩,b4,d4,n4⟩,b5,d5,n5⟩ lb _ ends exits
  subst e
  unfold sV at hi
  rw [List.getElem?_map] at hi
  obtain ⟨z,hz,rfl⟩:=Option.map_eq_some_iff.1 hi
  have hil:=(List.getElem?_eq_some_iff.1 hz).1
  have ht1:l.take (i + 1)=l.take i++[z]:=by rw [List.take_add_one,hz]; rfl
  have hr1:rng a b (l.take (i + 1))=rng a b (l.take i)++(if inR a b z=true then [z] else []):=by
   rw [ht1]
   unfold rng
   rw [List.filter_append]
   congr 1
   simp [List.filter_cons]
  have hrl:(rng a b (l.take i)).length≤i:=by
   have:=q9m a b (l.take i)
   rw [List.length_take] at this
   omega
  simp only [List.getD_cons_zero]
  have fb:=f1.base
  refine q2f fb rfl rfl q2b ?_
  have sx:Step h1 (h1.new (ee z) 3) [] [h1.next]:=(Step.refl h1 [] (by simp)).new _ _
  have bx:(h1.new (ee z) 3).blk h1.next=some (ee z):=by simp
  have nx:h1.next < (h1.new (ee z) 3).next:=by simp
  have bq:(h1.new (ee z) 3).blk q=some [x]:=by rw [(sx.keep q (by omega) (by simp)).1]; exact bq0
  have bx4:(h1.new (ee z) 3).blk q4=some [.string (str a)]:=by rw [(sx.keep q4 n4 (by simp)).1]; exact b4
  have bx5:(h1.new (ee z) 3).blk q5=some [.string (str b)]:=by rw [(sx.keep q5 n5 (by simp)).1]; exact b5
  have vx:=v.frame sx (by simp)
  have bsx:=sx.1
  have lq1:q < h1.next:=by omega
  have hS':∀ b,b∈S'→b < h1.next:=λ b hb=>(v.lt b hb).2
  have skip:inR a b z=false→q24 h.next g1 none K (h1.new (ee z) 3):=λ hf=>by
   rw [if_neg (by simp [hf]),List.append_nil] at hr1
   refine ends _ (q :: S') (((sx.less (T:=[]) (by simp)).keepS (λ b hb=>by
    rcases List.mem_cons.1 hb with rfl | hb
    ·exact lq1
    ·exact hS' b hb)).y 0) ⟨⟨⟨x,S',rfl,bq,by rw [hr1]; exact vx,hqs,by omega⟩,bx4,d4,by omega⟩,bx5,d5,by omega⟩
  generalize h1.new (ee z) 3=hx at *
  simp only [ptr,wd, wa]
  refine qj fb bx rfl ?_
  refine qj w4 bx4 rfl ?_
  rw [qb0]
  have take:inR a b z=true→qg w0 (.pointer (some ⟨q,0,none⟩)) (λ v23_16=>qg w0 (.pointer (some ⟨h1.next,0,none⟩)) λ v25_18=>qw w0 (.pointer (some ⟨h1.next,0,none⟩)) 3 λ v26_19=>q1t [(0,1,false,v25_18),(1,3,true,v26_19)] zI λ v27_20=>q0j [(0,4,true,v27_20)] (q00 zI 1) 1 4 λ v28_21=>q0h w0 4 56 v23_16 v28_21 λ v29_22=>q0q w0 (.pointer (some ⟨q,0,none⟩)) v29_22 λ _=>q24 h.next g1 none K) hx:=λ ht=>by
   rw [if_pos ht] at hr1
   refine qj hq bq rfl ?_
   refine qj fb bx rfl ?_
   refine q16 fb bx rfl ?_
   simp only [q2w,q28,q1u,q95,zI,List.set_cons_zero,List.set_cons_succ]
   refine ⟨rfl,by simp,rfl,by simp,?_⟩
   have hsp:splice [.string (str z.k),.string .empty,.string .empty,.bool false] 1 (ee z)=iv (z.k,z):=rfl
   rw [hsp]
   refine q4a (by omega) vx.gv rfl rfl (by omega) (by omega) (by omega) λ x' h2 S2 g2 s2=>?_
   have b2:h2.blk q=some [x]:=by rw [(s2.keep q (by omega) hqs).1]; exact bq
   have hq2:q∉S2:=λ e=>by
    rcases (s2.own _ e).2 with r | r
    ·exact hqs r
    ·omega
   have s12:Step h1 h2 S' S2:=(sx.wide (T:=S') (T':=S') (by simp) (λ b hb=>.inr ⟨hb,hS' b hb⟩)).trans s2
   have hxc:qv x'=true:=by obtain ⟨a,c,e⟩:=g2.slice; rw [e]; rfl
   refine q21 hq b2 (by simp) hxc ?_
   simp only [List.set_cons_zero]
   have s3:Step h1 (h2.put q [x']) (q :: S') (q :: S2):=(s12.consR lq1).put (by simp) _
   have sp:Step h2 (h2.put q [x']) [q] [q]:=(Step.refl h2 [q] (by simp; have:=s2.1; omega)).put (by simp) _
   have hdj:∀ c,c < h1.next→c∉q :: S'→c∉q :: S2:=λ c hc hn w=>by
    rcases List.mem_cons.1 w with w | w
    ·exact hn (by simp [w])
    ·rcases (s12.own _ w).2 with r | r
     ·exact hn (by simp [r])
     ·omega
   have hkp:∀ c,c < h1.next→c∉q :: S'→(h2.put q [x']).blk c=h1.blk c:=λ c hc hn=>(s3.keep c hc hn).1
   have hn3:=s3.1
   refine ends _ _ (s3.y 0) ⟨⟨⟨x',S2,rfl,by simp,?_,hq2,by omega⟩,by rw [hkp q4 n4 d4]; exact b4,hdj q4 n4 d4,by omega⟩,by rw [hkp q5 n5 d5]; exact b5,hdj q5 n5 d5,by omega⟩
   have g3:Vec w0 (h2.put q [x']) 4 x' _ _ S2:=g2.frame sp (by simpa using λ b hb (e:b=q)=>hq2 (by rw [← e]; exact hb))
   have e4:ivs (kl (rng a b (l.take i)++[z]))=ivs (kl (rng a b (l.take i)))++iv (z.k,z):=by simp [ivs,kl]
   rw [hr1,List.length_append,e4]
   simpa using g3
  have hin:inR a b z=(!blt z.k a && (decide (b=[]) || blt z.k b)):=rfl
  cases c1:blt z.k a with
  | true=>
   simp only [Bool.not_true,wd, wa]
   exact skip (by rw [hin,c1]; rfl)
  | false=>
   simp only [Bool.not_false,wd, wa]
   refine qj w5 bx5 rfl ?_
   have e0:qd .eql (.string (str b)) (.string .empty)=some (.bool (decide (b=[]))):=by
    show qd .eql (.string (str b)) (.string (str []))=_
    rw [q9p]
   rw [e0]
   cases c2:decide (b=[]) with
   | true=>
    simp only [wd, wa]
    exact take (by rw [hin,c1,c2]; rfl)
   | false=>
    simp only [wd, wa]
    refine qj fb bx rfl ?_
    refine qj w5 bx5 rfl ?_
    rw [qn5]
    cases c3:blt z.k b with
    | true=>
     simp only [wd, wa]
     exact take (by rw [hin,c1,c2,c3]; rfl)
    | false=>
     simp only [wd, wa]
     exact skip (by rw [hin,c1,c2,c3]; rfl)
 ·rintro h3 S2 f3 ys ⟨⟨⟨x,S',e,bq,v,hqs,n⟩,-⟩,-⟩
  subst e
  have:(sV l).length=l.length:=by simp [sV]
  rw [this,List.take_of_length_le (Nat.le_refl _)] at v
  exact hk h3 x S' f3 ys bq v
 ·rintro o h3 S2 f3 ys c
  exact c.elim
end
section
variable {w0:World} {h h':Hp}
def ALI (w0:World) (h:Hp) (q7:Nat) (ps:List (Value × List Itm)) (S5:List Nat):Prop:=
 ∃ x7,h.blk q7=some [x7]∧Vec w0 h 1 x7 ps.length (ps.map (·.1)) S5∧q7∉S5∧∀ p:Value × List Itm,p∈ps→Is w0 h p.1 p.2∧∀ b,b∈q0z p.1→b < h.next∧b∉S5∧b≠q7
theorem ALI.frame {q7:Nat} {ps:List (Value × List Itm)} {S5:List Nat} (m:ALI w0 h q7 ps S5) (hq:q7 < h.next) (st:Step h h' [] []):ALI w0 h' q7 ps S5:=by
 obtain ⟨x7,a,b,c,d⟩:=m
 have hn:=st.1
 exact ⟨x7,by rw [(st.keep q7 hq (by simp)).1]; exact a,b.frame st (by simp),c,λ p hp=>⟨(d p hp).1.stepL (λ b hb=>((d p hp).2 b hb).1) st (by simp),λ b hb=>⟨by have:=((d p hp).2 b hb).1; omega,((d p hp).2 b hb).2⟩⟩⟩
theorem q0l0 {fv:Value} {q4 q5 q7:Nat} {a b:Key} {l:List Ent} {T S5:List Nat} {ps:List (Value × List Itm)} (w4:w0.heap.size≤q4) (h4:h.blk q4=some [.string (str a)]) (w5:w0.heap.size≤q5) (h5:h.blk q5=some [.string (str b)]) (w7:w0.heap.size≤q7) (hq7:q7 < h.next)
  (g:ALI w0 h q7 ps S5) (hl:l.length≤1000000000) (hpl:ps.length≤2000000) (hT:∀ c,c∈T→c < h.next) (hfj:fv≠junk)
  (hit:∀ h1,Step h h1 [] [h.next]→Fit w0 h1→∀ g,ItV prog w0 fv (h1.newLp g) T (sV l)):
  qf prog w0 q86 [fv,ptr q4,ptr q5,ptr q7] h λ v h'=>∃ y S5',ALI w0 h' q7 (ps++[(y,kl (rng a b l))]) S5'∧Step h h' (q7 :: S5) (q7 :: S5'):=by
 refine qf.of_fit (by simp [hfj,ptr]) λ f=>q069 (by simp [hfj,ptr]) ?_
 have l4:=f.lt _ _ h4
 have l5:=f.lt _ _ h5
 have fb:=f.base
 obtain ⟨x7,ga,gb,gc,gd⟩:=g
 have hS5:∀ c,c∈S5→c < h.next:=λ c hc=>(gb.lt c hc).2
 simp only [qqe,q2t]
 refine ⟨by simp [qv],?_⟩
 have s1:Step h (h.new [.slice none 0 0] 1) [] [h.next]:=(Step.refl h [] (by simp)).new _ _
 have b1:(h.new [.slice none 0 0] 1).blk h.next=some [.slice none 0 0]:=by simp
 have f1:Fit w0 (h.new [.slice none 0 0] 1):=f.new (by simp [qv])
 have n1:(h.new [.slice none 0 0] 1).next=h.next + 1:=rfl
 have k1:∀ c,c < h.next→(h.new [.slice none 0 0] 1).blk c=h.blk c:=λ c hc=>(s1.keep c hc (by simp)).1
 show q3j _ _ _ _ _ _ _ (h.new [.slice none 0 0] 1)
 generalize h.new [.slice none 0 0] 1=h1 at *
 refine q0lf (l:=l) (a:=a) (b:=b) (T:=T) f1 fb b1 w4 (by rw [k1 _ l4]; exact h4) w5 (by rw [k1 _ l5]; exact h5) (by omega) (by omega) hl (λ w=>by have:=hT _ w; omega) (hit h1 s1 f1) λ h3 y S' f3 ys b3 g3=>?_
 have n3:=ys.next
 have k3:∀ c,c < h.next→h3.blk c=h.blk c:=λ c hc=>by rw [(ys.keep c (by omega) (by simp; omega)).1,k1 c hc]
 have y03:q09 0 h h3 [] (h.next :: S'):=(s1.y 0).trans ys
 have hS':∀ c,c∈S'→h.next≤c:=λ c hc=>by
  rcases (y03.own c (by simp [hc])).2 with w | w
  ·simp at w
  ·exact w
 simp only [ptr]
 refine qj w7 (by rw [k3 _ hq7]; exact ga) rfl ?_
 refine qj fb b3 rfl ?_
 have gc3:qv y=true:=by obtain ⟨a,c,e⟩:=g3.slice; rw [e]; rfl
 have y03':q09 0 h h3 [] []:=y03.less (by simp)
 have gb3:Vec w0 h3 1 x7 ps.length (ps.map (·.1)) S5:=(gb.frame y03'.step (by simp):Vec w0 (h3.as h) 1 x7 ps.length (ps.map (·.1)) S5)
 refine q79 (by omega) gb3.gv gc3 (by omega) (by omega) λ x7' h5' S5' g5 s5=>?_
 have n5:=s5.1
 have b7:h5'.blk q7=some [x7]:=by rw [(s5.keep q7 (by omega) gc).1,k3 _ hq7]; exact ga
 refine q21 w7 b7 (by simp) (by obtain ⟨a,c,e⟩:=g5.slice; rw [e]; rfl) ?_
 simp only [List.set_cons_zero]
 have sp:Step h5' (h5'.put q7 [x7']) [q7] [q7]:=(Step.refl h5' [q7] (by simp; omega)).put (by simp) _
 have own5:∀ c,c∈S5'→c∈S5∨h3.next≤c:=λ c hc=>(s5.own c hc).2
 have hq75:q7∉S5':=λ w=>by
  rcases own5 _ w with w | w
  ·exact gc w
  ·omega
 have yT:q09 0 h (h5'.put q7 [x7']) (q7 :: S5) (q7 :: S5'):=by
  have t1:q09 0 h h3 (q7 :: S5) (q7 :: S5):=y03'.wide (by simp) (λ c hc=>.inr ⟨hc,by
   rcases List.mem_cons.1 hc with w | w
   ·omega
   ·exact hS5 c w⟩)
  have t2:Step h3 h5' (q7 :: S5) (q7 :: S5'):=s5.consR (by omega)
  exact t1.trans ((t2.trans (sp.wide (T:=q7 :: S5') (T':=q7 :: S5') (by simp) (λ c hc=>.inr ⟨hc,(t2.own c hc).1⟩))).y 0)
 unfold q2e
 simp only [qu,qah]
 refine ⟨by simp,y,S5',⟨x7',by rw [q0ib]; simp,?_,hq75,λ p hp=>?_⟩,yT.cut⟩
 ·have g6:=g5.frame sp (by simpa using λ b hb (e:b=q7)=>hq75 (by rw [← e]; exact hb))
  have:Vec w0 ((h5'.put q7 [x7']).cutLp h) 1 x7' (ps.length + 1) (ps.map (·.1)++[y]) S5':=g6
  simpa using this
 ·have key:∀ (v:Value) (its:List Itm),Is w0 h3 v its→(∀ c,c∈q0z v→c < h3.next∧c∉S5∧c≠q7)→Is w0 ((h5'.put q7 [x7']).cutLp h) v its∧∀ c,c∈q0z v→c < ((h5'.put q7 [x7']).cutLp h).next∧c∉S5'∧c≠q7:=by
   intro v its hi hb
   refine ⟨?_,λ c hc=>⟨?_,λ w=>?_,(hb c hc).2.2⟩⟩
   ·have i1:=hi.stepL (λ c hc=>(hb c hc).1) s5 (λ c hc=>(hb c hc).2.1)
    have i2:=i1.stepL (λ c hc=>by have:=(hb c hc).1; omega) sp (by simpa using λ c hc=>(hb c hc).2.2)
    exact i2
   ·have:=(hb c hc).1
    show c < (h5'.put q7 [x7']).next
    show c < h5'.next
    omega
   ·rcases own5 c w with w | w
    ·exact (hb c hc).2.1 w
    ·have:=(hb c hc).1; omega
  rcases List.mem_append.1 hp with hp | hp
  ·obtain ⟨i1,i2⟩:=gd p hp
   refine key p.1 p.2 ?_ λ c hc=>⟨by have:=(i2 c hc).1; omega,(i2 c hc).2⟩
   exact (i1.stepL (λ c hc=>(i2 c hc).1) y03'.step (by simp):Sl w0 (h3.as h) 4 p.1 p.2.length (ivs p.2))
  ·simp at hp
   subst hp
   refine key y _ ?_ λ c hc=>?_
   ·have:=g3.sl
    rw [← q3e] at this
    exact this
   ·rw [g3.sblk_eq] at hc
    exact ⟨(g3.lt c hc).2,λ w=>by have:=hS' c hc; have:=hS5 c w; omega,λ e=>by have:=hS' c hc; omega⟩
end
section
variable {w0:World} {h h':Hp}
structure AS (w0:World) (h:Hp) (q4 q5 q7:Nat) (a b:Key) (done:List (List Ent)) (h1:Hp) (ps:List (Value × List Itm)) (S5:List Nat):Prop where
 st:Step h h1 [] (q7 :: S5)
 b4:h1.blk q4=some [.string (str a)]
 b5:h1.blk q5=some [.string (str b)]
 n4:h.next≤q4∧q4 < h1.next∧q4∉q7 :: S5
 n5:h.next≤q5∧q5 < h1.next∧q5∉q7 :: S5
 n7:h.next≤q7∧q7 < h1.next
 li:ALI w0 h1 q7 ps S5
 e:ps.map (·.2)=done.map λ l=>kl (rng a b l)
theorem AS.add {q4 q5 q7:Nat} {a b:Key} {done:List (List Ent)} {h1 h2:Hp} {ps:List (Value × List Itm)} {S5 T:List Nat} {fv:Value} {l l0:List Ent} {K:qh} (s:AS w0 h q4 q5 q7 a b done h1 ps S5) (fb:w0.heap.size≤h.next) (s2:Step h1 h2 [] []) (hl:l.length≤1000000000) (hpl:ps.length≤2000000) (hT:∀ c,c∈T→c < h2.next) (hfj:fv≠junk)
  (hll:rng a b l=rng a b l0) (hit:∀ h3,Step h2 h3 [] [h2.next]→Fit w0 h3→∀ g,ItV prog w0 fv (h3.newLp g) T (sV l))
  (hk:∀ v h3 ps' S5',Fit w0 h3→AS w0 h q4 q5 q7 a b (done++[l0]) h3 ps' S5'→ps'.length=ps.length + 1→K v h3):q1n prog w0 (.func (.func q86) #[] #[ptr q4,ptr q5,ptr q7]) [fv] K h2:=by
 obtain ⟨c1,c2,c3,c4,c5,c6,c7,c8⟩:=s
 have n2:=s2.1
 have k4:=s2.keep q4 c4.2.1 (by simp)
 have k5:=s2.keep q5 c5.2.1 (by simp)
 refine q4o (by kernel_rfl) (q0l0 (l:=l) (a:=a) (b:=b) (T:=T) (by omega) (by rw [k4.1]; exact c2) (by omega) (by rw [k5.1]; exact c3) (by omega) (by omega) (c7.frame c6.2 s2) hl hpl hT hfj hit) λ v h3 ⟨y,S5',g,s3⟩ f3=>?_
 have hS5:∀ c,c∈q7 :: S5→c < h1.next:=λ c hc=>(c1.own c hc).1
 have own:∀ c,c∈q7 :: S5'→c∈q7 :: S5∨h2.next≤c:=λ c hc=>(s3.own c hc).2
 have n3:=s3.1
 have keep3:∀ c,c < h1.next→c∉q7 :: S5→h3.blk c=h1.blk c∧c∉q7 :: S5':=λ c hc hn=>⟨by rw [(s3.keep c (by omega) hn).1,(s2.keep c hc (by simp)).1],λ w=>by
  rcases own c w with r | r
  ·exact hn r
  ·omega⟩
 have q4':=keep3 q4 c4.2.1 c4.2.2
 have q5':=keep3 q5 c5.2.1 c5.2.2
 refine hk v h3 _ S5' f3 ⟨(c1.trans (s2.keepS hS5)).trans s3,by rw [q4'.1]; exact c2,by rw [q5'.1]; exact c3,⟨c4.1,by omega,q4'.2⟩,⟨c5.1,by omega,q5'.2⟩,⟨c6.1,by omega⟩,g,?_⟩ (by simp)
 rw [List.map_append,List.map_append,c8]
 simp [hll]
theorem q0o6 {k2:Value→Value→Value→Value→Value→Value→Hp→Prop} {q4 q5 q7 bl:Nat} {a b:Key} {v x24 x25:Value} {A:List Nat} {pr:List (Value × List Ent)} {done:List (List Ent)} (fh:Fit w0 h) (hsl:Sl w0 h 1 v pr.length (pr.map (·.1))) (hA:∀ b,b∈A→b < h.next) (hsb:∀ b,b∈q0z v→b∈A)
  (hpr:∀ q:Value × List Ent,q∈pr→(∃ S,Rb w0 h q.1 q.2 bl S∧∀ b,b∈S→b∈A)∧q29 q.2∧q.2.length≤1000000000) (hl:done.length + pr.length≤1500000)
  (hk:∀ h1 ps S5,Fit w0 h1→AS w0 h q4 q5 q7 a b (done++pr.map (·.2)) h1 ps S5→k2 (ptr q4) (ptr q5) (ptr q7) (.func (.func q86) #[] #[ptr q4,ptr q5,ptr q7]) x24 x25 h1):
  ∀ (post pre:List (Value × List Ent)) (h1:Hp) (ps:List (Value × List Itm)) (S5:List Nat),pre++post=pr→Fit w0 h1→AS w0 h q4 q5 q7 a b (done++pre.map (·.2)) h1 ps S5→
   q8h prog w0 k2 (post.length + 1) (ptr q4) (ptr q5) (ptr q7) (.func (.func q86) #[] #[ptr q4,ptr q5,ptr q7]) x24 x25 v (.int .i64 (pr.length:Int)) (.int .i64 (pre.length:Int)) h1:=by
 intro post
 induction post with
 | nil=>
  intro pre h1 ps S5 he f1 s
  have hpre:pre=pr:=by simpa using he
  subst hpre
  rw [List.length_nil,q8h]
  simp only [qeq,wd, wa,Int.lt_irrefl,decide_false]
  exact hk h1 ps S5 f1 s
 | cons z post ih=>
  intro pre h1 ps S5 he f1 s
  have hlen:pre.length + (post.length + 1)=pr.length:=by rw [← he]; simp
  have hg:(pr.map (·.1))[pre.length]?=some z.1:=by rw [← he]; simp
  have hzm:z∈pr:=by rw [← he]; simp
  have c1:decide ((pre.length:Int) < (pr.length:Int))=true:=decide_eq_true (by omega)
  have e6:=wrS pre z (by omega)
  obtain ⟨⟨S,mr,hS⟩,hsrt,hzl⟩:=hpr z hzm
  have hpsl:ps.length=done.length + pre.length:=by have:=congrArg List.length s.e; simpa using this
  have st0:=s.st.less (T:=[]) (by simp)
  have v1:Sl w0 h1 1 v pr.length (pr.map (·.1)):=hsl.stepL (λ b hb=>hA b (hsb b hb)) st0 (by simp)
  have mr1:=mr.frame st0 (by simp)
  obtain ⟨n1,S1,r1,hS1⟩:=mr1.rn
  have fb:=fh.base
  have n4:=s.n4
  have n5:=s.n5
  rw [List.length_cons,q8h]
  simp only [qeq,wd, wa,c1,ptr]
  refine v1.one hg ?_
  refine qj (by omega) s.b4 rfl ?_
  refine qj (by omega) s.b5 rfl ?_
  refine qq (qxs z.1 r1.nj mr1.isC a b) λ u h2 ⟨t1,t2,t3,e,d1,d2,d3,d4,d5,d6,d7,d8,d9,s2⟩ f2=>?_
  subst e
  have hfb1:=f1.base
  have hpl:=q0lj hsrt a b
  refine s.add (T:=t1 :: t2 :: t3 :: S1) (l:=part z.2 a b) (l0:=z.2) fb s2 (by rw [hpl]; have:=q9m a b z.2; omega) (by omega) (λ c hc=>?_) (by simp [junk]) (by rw [hpl,q0ly]) (λ h3 s3 f3 g=>?_) λ u h3 ps' S5' f3 s' hl'=>?_
  ·simp only [List.mem_cons] at hc
   rcases hc with w | w | w | w
   ·omega
   ·omega
   ·omega
   ·have:=(r1.lt c w).2; have:=s2.1; omega
  ·have s3':=s3.less (T:=[]) (by simp)
   have yl:=(q09.refl 0 h3 [] (by simp)).newLp g
   have r3:Rn w0 (h3.newLp g) z.1 z.2 n1 S1:=(((r1.frame s2 (by simp)).frame s3' (by simp)).frame yl.step (by simp):Rn w0 ((h3.newLp g).as h3) z.1 z.2 n1 S1)
   refine (qzs (hh:=h3.newLp g) (by rw [q99,(s3'.keep t1 d7 (by simp)).1]; exact d1) (by rw [q99,(s3'.keep t2 d8 (by simp)).1]; exact d2) (by rw [q99,(s3'.keep t3 d9 (by simp)).1]; exact d3) (by omega) (by omega) (by omega) r3 ⟨by simp,by simp,by simp,λ b hb=>by simp [hb]⟩).v
  ·simp only [wd, wa,e6]
   refine ih (pre++[z]) h3 ps' S5' (by simpa using he) f3 ?_
   rw [List.map_append,← List.append_assoc]
   exact s'
theorem q0m1 {k0:Value→Hp→Prop} {q4 q5 q7:Nat} {a b:Key} {A:List Nat} {s:LS} {sls:List Value} {W:Nat} (fh:Fit w0 h) (b3:∀ (i:Nat) v,sls[i]?=some v→Lvl w0 h A s.bl v (s.lv.getD i [])) (hl3:sls.length=16) (hA:∀ b,b∈A→b < h.next) (ok:LOk s W) (hW:W≤1048576)
  (hk:∀ h1 ps S5,Fit w0 h1→AS w0 h q4 q5 q7 a b s.lists h1 ps S5→k0 (ptr q7) h1):∀ (m i:Nat) (h1:Hp) (ps:List (Value × List Itm)) (S5:List Nat),i + m=16→Fit w0 h1→AS w0 h q4 q5 q7 a b (s.mem :: (s.lv.take i).flatten) h1 ps S5→
   q8k prog w0 k0 (m + 1) (ptr q4) (ptr q5) (ptr q7) (.func (.func q86) #[] #[ptr q4,ptr q5,ptr q7]) (.agg sls.toArray) (.int .i64 (i:Int)) h1:=by
 have hlv:=ok.len
 intro m
 induction m with
 | zero=>
  intro i h1 ps S5 hi f1 st
  have:i=16:=by omega
  subst this
  rw [List.take_of_length_le (by omega)] at st
  have c1:decide (((16:Nat):Int) < 16)=false:=rfl
  rw [q8k]
  simp only [qbi,wd, wa,c1]
  exact hk h1 ps S5 f1 st
 | succ m ih=>
  intro i h1 ps S5 hi f1 st
  obtain ⟨v,hv⟩:=q5k hl3 (i:=i) (by omega)
  obtain ⟨pr,ep,hsl,hsb,hpr⟩:=b3 i v hv
  have c1:decide ((i:Int) < 16)=true:=decide_eq_true (by omega)
  have e6:=wrN i (by omega)
  have hgi:s.lv[i]?=some (s.lv.getD i []):=by rw [List.getD_eq_getElem?_getD,List.getElem?_eq_getElem (by omega)]; rfl
  have hgm:s.lv.getD i []∈s.lv:=List.mem_of_getElem? hgi
  have hti:s.lv.take (i + 1)=s.lv.take i++[s.lv.getD i []]:=by rw [List.take_add_one,hgi]; rfl
  have hruns:=ok.runs
  have hdl:(s.mem :: (s.lv.take i).flatten).length + pr.length≤1500000:=by
   have h1:(s.lv.take (i + 1)).flatten.length≤s.lv.flatten.length:=by
    conv=>rhs; rw [← List.take_append_drop (i + 1) s.lv,List.flatten_append,List.length_append]
    omega
   have h2:([s.lv.getD i []]:List (List (List Ent))).flatten.length=pr.length:=by rw [ep]; simp
   rw [hti,List.flatten_append,List.length_append,h2] at h1
   simp only [List.length_cons]
   omega
  rw [q8k]
  simp only [qbi,wd, wa,c1,qcb hl3 hv,hsl.lenv]
  refine ⟨pr.length + 1,q0o6 (h:=h) (A:=A) (bl:=s.bl) (pr:=pr) (done:=s.mem :: (s.lv.take i).flatten) fh hsl hA hsb (λ p hp=>⟨hpr p hp,?_⟩) hdl (λ h2 ps2 S52 f2 st2=>?_) pr [] h1 ps S5 rfl f1 (by simpa using st)⟩
  ·have hpm:p.2∈s.lv.getD i []:=by rw [ep]; exact List.mem_map.2 ⟨p,hp,rfl⟩
   have hs1:=qm8 (ok.rok _ hgm p.2 hpm).1
   refine ⟨hs1,?_⟩
   have h1:=q4q p.2
   have h2:=qz8 hgi
   have h3:=qco q0f hpm
   have h4:=ok.size
   omega
  ·simp only [e6,wd, wa]
   refine ih (i + 1) h2 ps2 S52 (by omega) f2 ?_
   rw [hti,List.flatten_append]
   simp only [List.flatten_cons,List.flatten_nil,List.append_nil]
   rw [ep,← List.cons_append]
   exact st2
theorem q0o1 {r:Value} {s:LS} {S A:List Nat} {W:Nat} (m:Lv w0 h r s S A) (ok:LOk s W) (hW:W≤1048576) (a b:Key):
  qf prog w0 qjt [r,.string (str a),.string (str b)] h λ v h'=>∃ S',Vec w0 h' 4 v (rng a b (q1w s.lists)).length (ivs (kl (rng a b (q1w s.lists)))) S'∧Step h h' [] S':=by
 refine qf.of_fit (by simpa using m.nj) λ f=>q09f (by simpa using m.nj) ?_
 have hls:=ok.lsrt
 have hsz:=ok.size
 have hmtop:=ok.mtop
 have hnum:=ok.num
 have hruns:=ok.runs
 obtain ⟨q,mp,M,sls,a1,a2,a3,a4,a5,a6,a7,a8,a9,b1,b2,b3⟩:=m
 subst a1
 have fb:=f.base
 have hMlt:=a4.lt
 simp only [qjs,q2t]
 refine ⟨rfl,rfl,by simp [qv],?_⟩
 have s1:Step h (h.new [.string (str a)] 1) [] []:=((Step.refl h [] (by simp)).new _ _).less (by simp)
 have e1:(h.new [.string (str a)] 1).blk h.next=some [.string (str a)]:=by simp
 have n1:(h.new [.string (str a)] 1).next=h.next + 1:=rfl
 have f1:Fit w0 (h.new [.string (str a)] 1):=f.new (by simp [qv])
 generalize h.new [.string (str a)] 1=h1 at *
 have s2:Step h1 (h1.new [.string (str b)] 1) [] []:=((Step.refl h1 [] (by simp)).new _ _).less (by simp)
 have e2:(h1.new [.string (str b)] 1).blk h1.next=some [.string (str b)]:=by simp
 have n2:(h1.new [.string (str b)] 1).next=h1.next + 1:=rfl
 have f2:Fit w0 (h1.new [.string (str b)] 1):=f1.new (by simp [qv])
 generalize h1.new [.string (str b)] 1=h2 at *
 have s3:Step h2 (h2.new [.slice none 0 0] 1) [] [h2.next]:=(Step.refl h2 [] (by simp)).new _ _
 have e3:(h2.new [.slice none 0 0] 1).blk h2.next=some [.slice none 0 0]:=by simp
 have n3:(h2.new [.slice none 0 0] 1).next=h2.next + 1:=rfl
 have f3:Fit w0 (h2.new [.slice none 0 0] 1):=f2.new (by simp [qv])
 show q58 _ _ _ _ (h2.new [.slice none 0 0] 1)
 generalize h2.new [.slice none 0 0] 1=h3 at *
 refine ⟨by simp [junk],?_⟩
 have st3:Step h h3 [] []:=(s1.trans s2).trans (s3.less (by simp))
 have k3:∀ c,c < h.next→h3.blk c=h.blk c:=λ c hc=>(st3.keep c hc (by simp)).1
 have e13:h3.blk h.next=some [.string (str a)]:=by rw [(s3.keep _ (by omega) (by simp)).1,(s2.keep _ (by omega) (by simp)).1]; exact e1
 have e23:h3.blk h1.next=some [.string (str b)]:=by rw [(s3.keep _ (by omega) (by simp)).1]; exact e2
 simp only [ptr,wd, wa]
 refine qj a7 (by rw [k3 _ a8]; exact a2) rfl ?_
 have m3:=a4.frame st3 (by simp)
 refine qq (qlo m3) λ u h4 ⟨t,e,d1,d2,d3,s4⟩ f4=>?_
 subst e
 have as0:AS w0 h h.next h1.next h2.next a b [] h3 [] []:=⟨by
  have:Step h h3 [] [h2.next]:=(s1.trans s2).trans s3
  exact this,e13,e23,⟨Nat.le_refl _,by omega,by simp; omega⟩,⟨by omega,by omega,by simp; omega⟩,⟨by omega,by omega⟩,⟨_,e3,.nil,by simp,by simp⟩,rfl⟩
 refine as0.add (T:=t :: M) (l:=s.mem) (l0:=s.mem) fb s4 (by omega) (by simp) (λ c hc=>?_) (by simp [junk]) rfl (λ h5 s5 f5 g=>?_) λ u h5 ps5 S5 f5 as5 _=>?_
 ·rcases List.mem_cons.1 hc with w | w
  ·omega
  ·have:=(hMlt c w).2; have:=s4.1; omega
 ·have s5':=s5.less (T:=[]) (by simp)
  have yl:=(q09.refl 0 h5 [] (by simp)).newLp g
  have hm:Me w0 (h5.newLp g) mp s.mem M:=(((m3.frame s4 (by simp)).frame s5' (by simp)).frame yl.step (by simp):Me w0 ((h5.newLp g).as h5) mp s.mem M)
  exact qn2 (hh:=h5.newLp g) (M:=M) (by rw [q99,(s5'.keep t d3 (by simp)).1]; exact d1) (by omega) hm ⟨by simp,λ b hb=>by simp [hb]⟩
 ·have st5:=as5.st.less (T:=[]) (by simp)
  refine q9a (e:=sls) a7 (by rw [(st5.keep q a8 (by simp)).1]; exact a2) ?_ ?_
  ·rw [if_pos (by rw [q55]; omega)]
   show (sls:List Value).take 16=sls
   exact List.take_of_length_le (by omega)
  refine ⟨16 + 1,q0m1 (h:=h) (A:=A) (q4:=h.next) (q5:=h1.next) (q7:=h2.next) f b3 a3 a9 ok hW (λ h6 ps6 S6 f6 as6=>?_) 16 0 h5 ps5 S5 rfl f5 (by simpa using as5)⟩
  obtain ⟨x7,ga,gb,gc,gd⟩:=as6.li
  have n7:=as6.n7
  refine qj (by omega) ga rfl ?_
  have q2v:(ps6.map λ q=>q.2.length)=s.lists.map λ l=>(rng a b l).length:=by
   have:=congrArg (List.map List.length) as6.e
   simpa [List.map_map,Function.comp_def,q3e] using this
  have hpl:ps6.length=s.lists.length:=by have:=congrArg List.length as6.e; simpa using this
  have hll:s.lists.length=s.lv.flatten.length + 1:=by simp [LS.lists]
  have hle:(ps6.map λ q=>q.2.length).sum≤(s.lists.map q0f).sum:=by
   rw [q2v]
   generalize s.lists=L
   induction L with
   | nil=>simp
   | cons l L ih=>
    have h1:=q9m a b l
    have h2:=q4q l
    simp only [List.map_cons,List.sum_cons]
    omega
  have hle2:(s.lists.map q0f).sum≤W:=by simpa [LS.lists] using hsz
  refine qq (qwc (ps:=ps6) ⟨gb.sl,λ p hp=>(gd p hp).1⟩ (by omega) (by omega)) λ v h7 ⟨out,S',im,hol,g7,s7⟩ f7=>?_
  have hmap:(ps6.map λ q=>srt q.2)=(s.lists.map (rng a b)).map kl:=by
   have e1:(ps6.map λ q=>srt q.2)=(ps6.map (·.2)).map srt:=by simp [List.map_map,Function.comp_def]
   rw [e1,as6.e,List.map_map,List.map_map]
   exact List.map_congr_left λ l hl=>qzx (q4d (qcu (hls l hl) a b))
  rw [hmap] at im
  have hout:=qg7 (λ l hl=>by obtain ⟨m,hm,rfl⟩:=List.mem_map.1 hl; exact qcu (hls m hm) a b) im
  rw [q0jl hls] at hout
  subst hout
  rw [q3e] at g7
  simp only [qu,q06]
  exact ⟨by obtain ⟨a,c,e⟩:=g7.slice; rw [e]; simp [junk],S',g7,(as6.st.less (T:=[]) (by simp)).trans s7⟩
end
def pV (l:List Ent):List (List Value):=l.map λ x=>[.string (str x.k),.string (str x.v)]
theorem q0n2 (a b:Key) (l:List Ent):flt true (rng a b l)=rng a b (flt true l):=by
 unfold flt rng
 rw [List.filter_filter,List.filter_filter]
 congr 1
 funext x
 exact Bool.and_comm _ _
theorem q0m7 {l:List Ent} {i:Nat} {x:Ent} (h:l[i]?=some x):((ivs (kl l)).drop (i * 4)).take 4=iv (x.k,x):=qat (qn0 h)
section
variable {w0:World} {h h':Hp}
theorem q0hw {hh:Hp} {N:Nat} {y xc:Value} {L:List Ent} {S:List Nat} {C:Nat→Hp→List Nat→Prop} {D:Hp→List Nat→Prop} {R:Hp→Prop} (f:Fit w0 hh)
  (kC:∀ i,q2h w0 N hh.next (C i)) (hl:L.length≤1000000000)
  (hstep:∀ i x h1 S1,(pV (flt true L))[i]?=some x→Fit w0 h1→C i h1 S1→q1n prog w0 y x (λ v h2=>∃ S2,q09 N h1 h2 S1 S2∧((v=.bool true∧C (i + 1) h2 S2)∨(v=.bool false∧D h2 S2))) h1)
  (hR:∀ h2 S2,q09 N hh h2 S S2→(C (flt true L).length h2 S2∨D h2 S2)→R h2):
  ∀ (post pre:List Ent) (h1:Hp) (S1:List Nat),pre++post=L→Fit w0 h1→q09 N hh h1 S S1→C (flt true pre).length h1 S1→Sl w0 h1 4 xc L.length (ivs (kl L))→(∀ b,b∈q0z xc→b < h1.next∧b∉S1)→
   q80 prog w0 R R (post.length + 1) y xc (.int .i64 (L.length:Int)) (.int .i64 (pre.length:Int)) h1:=by
 intro post
 induction post with
 | nil=>
  intro pre h1 S1 he f1 ys c g hU
  have hpl:pre=L:=by simpa using he
  subst hpl
  rw [List.length_nil,q80]
  simp only [qe2,wd, wa,Int.lt_irrefl,decide_false]
  exact hR h1 S1 ys (.inl c)
 | cons x post ih=>
  intro pre h1 S1 he f1 ys c g hU
  have hlen:pre.length + (post.length + 1)=L.length:=by rw [← he]; simp
  have hg:L[pre.length]?=some x:=by rw [← he]; simp
  have c1:decide ((pre.length:Int) < (L.length:Int))=true:=decide_eq_true (by omega)
  have e6:=wrS pre x (by omega)
  have sn:=qym true pre x
  rw [List.length_cons,q80]
  simp only [qe2,wd, wa,c1]
  refine g.elem (by omega) (q0m7 hg) ?_
  have fb:=f1.base
  refine q2f fb rfl rfl qgq ?_
  have sx:Step h1 (h1.new (iv (x.k,x)) 4) [] [h1.next]:=(Step.refl h1 [] (by simp)).new _ _
  have bx:(h1.new (iv (x.k,x)) 4).blk h1.next=some (iv (x.k,x)):=by simp
  have fx:Fit w0 (h1.new (iv (x.k,x)) 4):=f1.new (by simp [iv,ee,qv])
  have nx:(h1.new (iv (x.k,x)) 4).next=h1.next + 1:=rfl
  have cx':C (flt true pre).length (h1.new (iv (x.k,x)) 4) S1:=(kC _).step h1 _ S1 [] [] f1 c (sx.less (by simp)) (by simp) (by simp)
  have hS1:∀ b,b∈S1→b < h1.next:=(kC _).lt h1 S1 c
  have ysx1:q09 N h1 (h1.new (iv (x.k,x)) 4) S1 S1:=((sx.wide (T:=S1) (T':=S1) (by simp) (λ b hb=>.inr ⟨hb,hS1 b hb⟩)).y N)
  have ysx:=ys.trans ysx1
  have gx:=g.step f1 sx (by simp)
  generalize h1.new (iv (x.k,x)) 4=hx at *
  simp only [wd, wa]
  refine qj (v:=.bool x.g) fb bx rfl ?_
  cases hgn:x.g with
  | true=>
   rw [if_neg (by simp [hgn]),List.append_nil] at sn
   simp only [wd, wa,e6]
   refine ih (pre++[x]) hx S1 (by simpa using he) fx ysx (by rw [sn]; exact cx') gx λ b hb=>⟨by have:=(hU b hb).1; omega,(hU b hb).2⟩
  | false=>
   rw [if_pos (by simp [hgn])] at sn
   simp only [wd, wa]
   refine qj (v:=.string (str x.k)) fb bx rfl ?_
   refine qj (v:=.string (str x.v)) fb bx rfl ?_
   have hxi:(pV (flt true L))[(flt true pre).length]?=some [.string (str x.k),.string (str x.v)]:=by
    have:flt true L=flt true pre++x :: flt true post:=by
     rw [← he]
     unfold flt
     rw [List.filter_append,List.filter_cons_of_pos (by simp [hgn])]
    rw [this]
    simp [pV]
   refine q54 (hstep _ _ hx S1 hxi fx cx') λ r h3 ⟨S3,ys3,hv⟩ f3=>?_
   have ys4:=ysx.trans ys3
   have hU3:∀ b,b∈q0z xc→b∉S1:=λ b hb=>(hU b hb).2
   have g3:Sl w0 h3 4 xc L.length (ivs (kl L)):=(gx.step fx ys3.step hU3:Sl w0 (h3.as hx) 4 xc L.length (ivs (kl L)))
   have hn3:=ys3.next
   rcases hv with ⟨rfl,c3⟩ | ⟨rfl,d3⟩
   ·simp only [wd, wa,e6]
    refine ih (pre++[x]) h3 S3 (by simpa using he) f3 ys4 (by rw [sn]; simpa using c3) g3 λ b hb=>⟨by have:=(hU b hb).1; omega,λ w=>?_⟩
    rcases (ys3.own b w).2 with r | r
    ·exact hU3 b hb r
    ·have:=(hU b hb).1; omega
   ·simp only [wd, wa]
    exact hR h3 S3 ys4 (.inr d3)
theorem q0k7 {hh:Hp} {q1 q2 q3:Nat} {r:Value} {s:LS} {S0 A:List Nat} {W:Nat} {a b:Key} {T:List Nat} (b1:hh.blk q1=some [r]) (b2:hh.blk q2=some [.string (str a)]) (b3:hh.blk q3=some [.string (str b)]) (w1:w0.heap.size≤q1) (w2:w0.heap.size≤q2) (w3:w0.heap.size≤q3)
  (m:Lv w0 hh r s S0 A) (ok:LOk s W) (hW:W≤1048576):
  ItC prog w0 (.func (.func qa0) #[] #[ptr q1,ptr q2,ptr q3]) hh T (pV (rng a b s.view)):=by
 intro y N S C D hy hN kC kD hstep h0 hd
 refine ⟨_,_,_,rfl,by kernel_rfl,?_⟩
 refine qf.of_fit (by simp [ptr,hy]) λ f=>q059 (by simp [ptr,hy]) ?_
 have hSlt:=(kC 0).lt hh S h0
 simp only [qim,ptr]
 refine qj w1 b1 rfl ?_
 refine qq (q72 m) λ v h1 ⟨e,e'⟩ f1=>?_
 subst e
 subst h1
 simp only [wd, wa]
 refine qj w1 b1 rfl ?_
 refine qj w2 b2 rfl ?_
 refine qj w3 b3 rfl ?_
 refine qq (q0o1 m ok hW a b) λ v h2 ⟨S',g2,s2⟩ f2=>?_
 have hlen:(rng a b (q1w s.lists)).length≤1000000000:=by
  have h1:=q9m a b (q1w s.lists)
  have h2:=q4q (q1w s.lists)
  have h3:=qfy s.lists
  have h4:=ok.size
  have h5:(s.lists.map q0f).sum≤W:=by simpa [LS.lists] using h4
  omega
 have hv:rng a b s.view=flt true (rng a b (q1w s.lists)):=(q0n2 a b _).symm
 have gs:Sl w0 h2 4 v (rng a b (q1w s.lists)).length (ivs (kl (rng a b (q1w s.lists)))):=g2.sl
 rw [hv] at hstep ⊢
 simp only [gs.lenv,wd, wa]
 have s2':Step hh h2 [] []:=s2.less (by simp)
 have s2S:Step hh h2 S S:=s2'.keepS hSlt
 refine ⟨(rng a b (q1w s.lists)).length + 1,q0hw (hh:=hh) (L:=rng a b (q1w s.lists)) (S:=S) f kC hlen hstep (λ h3 S3 ys hk=>?_) (rng a b (q1w s.lists)) [] h2 S rfl f2 (s2S.y N) ((kC 0).step hh h2 S [] [] f h0 s2' (by simp) (by simp)) gs (λ c hc=>?_)⟩
 ·simp only [qu]
  exact ⟨by simp,S3,ys,by simpa [pV] using hk⟩
 ·rw [g2.sblk_eq] at hc
  refine ⟨(g2.lt c hc).2,λ w=>?_⟩
  have:=hSlt c w
  rcases (s2.own c hc).2 with r | r
  ·simp at r
  ·omega
end
end Go.Proofs.YtfmoemconapmhaaGreat.Ah
