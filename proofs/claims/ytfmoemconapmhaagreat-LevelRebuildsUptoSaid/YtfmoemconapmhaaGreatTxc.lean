/- level.Rebuild. -/
import Derived.Test.YtfmoemconapmhaaGreatTxb
set_option linter.all false
namespace Go.Proofs.YtfmoemconapmhaaGreat.Ah
open Go
def q2k (l:List Ent):List Ent:=flt true (q1h [] l)
def q59 (s:LS) (l:List Ent):LS:=if q2k l=[] then s else { s with lv:=s.lv.set 0 [q2k l] }
theorem qlv (b a:List Ent) (x:Ent):q1h b (a++[x])=q1f (q1h b a) x:=by simp [q1h]
theorem qxy {l:List Ent} (h:∀ x,x∈l→q0e x=true):q27 (q2k l)=true:=by
 have hs:q29 (q1h [] l):=q9e l [] .nil
 refine qgo (λ x hx=>?_) (qyx hs true)
 rcases qm2 (List.mem_filter.1 hx).1 with q | q
 ·exact h x q
 ·exact absurd q (by simp)
theorem qzk (l:List Ent):q0f (q2k l)≤q0f l:=by
 have h1:=qxd true (q1h [] l)
 have h2:=qle l []
 have h3:q0f []=0:=rfl
 unfold q2k
 omega
theorem q0jp (l:List Ent) (x:Ent):flt true (l++[x])=flt true l++(if x.g=true then [] else [x]):=by
 unfold flt
 rw [List.filter_append]
 congr 1
 cases h:x.g <;> simp [h]
section
variable {w0:World} {h h':Hp}
def FI (w0:World) (B q:Nat) (l:List Ent) (i:Nat) (h1:Hp) (S1:List Nat):Prop:=
 ∃ x S',S1=q :: S'∧h1.blk q=some [x]∧Vec w0 h1 3 x (flt true (l.take i)).length ((flt true (l.take i)).flatMap ee) S'∧q∉S'∧B≤h1.next
theorem q0nf {B q i:Nat} {l:List Ent} (hq:q < B):q2h w0 0 B (FI w0 B q l i):=by
 refine ⟨λ h lp S _ c=>c,λ h h' S T T' f ⟨x,S',e,b,v,hqs,n⟩ st hd hB=>?_,λ h S ⟨x,S',e,b,v,hqs,n⟩ c hc=>?_⟩
 ·subst e
  exact ⟨x,S',rfl,by rw [(st.keep q (by omega) (hd q (by simp))).1]; exact b,v.frame st (λ c hc=>hd c (by simp [hc])),hqs,Nat.le_trans n st.1⟩
 ·subst e
  rcases List.mem_cons.1 hc with rfl | hc
  ·omega
  ·exact (v.lt c hc).2
theorem q0kd {K0:Hp→Prop} {fv:Value} {q:Nat} {l:List Ent} {T:List Nat} (f:Fit w0 h) (hq:w0.heap.size≤q) (hb:h.blk q=some [.slice none 0 0]) (hl:l.length≤1000000000) (hqT:q∉T)
  (hit:∀ g,ItV prog w0 fv (h.newLp g) T (sV l)) (hk:∀ h3 x S',Fit w0 h3→q09 0 h h3 [q] (q :: S')→h3.blk q=some [x]→Vec w0 h3 3 x (flt true l).length ((flt true l).flatMap ee) S'→K0 h3):
  q3j prog w0 fv 1 (λ b g args K=>qtt prog w0 b g K (ptr q) (args.getD 0 undef)) K0 [] h:=by
 have lq:=f.lt _ _ hb
 refine qc2 (xs:=sV l) (T:=T) 0 (Nat.zero_le _) f hit (λ b g x K=>q0u zE 3 λ v=>q0k w0 v (x.getD 0 undef) 3 λ _=>qk v 2 λ v48=>qg w0 v48 λ v49=>qb (unA .not v49) λ v50=>qt v50 (qg w0 (ptr q) λ v51=>qw w0 v 3 λ v52=>q0j [(0,3,true,v52)] (q00 zE 1) 1 3 λ v53=>q0h w0 3 40 v51 v53 λ v54=>q0q w0 (ptr q) v54 λ _=>q24 b g none K) (q24 b g none K))
  (λ b g x K h1 hl hk=>qcf hl hk) [q] (FI w0 h.next q l) (λ _ _ _=>False) (λ i=>q0nf lq) (λ o=>⟨λ _ _ _ _ c=>c,λ _ _ _ _ _ _ c=>c.elim,λ _ _ c=>c.elim⟩)
  ⟨_,[],rfl,hb,.nil,by simp,Nat.le_refl _⟩ (λ b hb hbT=>by simp at hb; subst hb; exact hqT hbT) ?_ ?_ ?_ ?_
 ·intro y hy
  obtain ⟨x,hx,rfl⟩:=List.mem_map.1 hy
  exact ⟨rfl,by simp⟩
 ·rintro i y h1 S1 g1 K hi f1 ⟨x,S',e,b,v,hqs,n⟩ lb _ ends exits
  subst e
  unfold sV at hi
  rw [List.getElem?_map] at hi
  obtain ⟨z,hz,rfl⟩:=Option.map_eq_some_iff.1 hi
  have hil:=(List.getElem?_eq_some_iff.1 hz).1
  have ht1:flt true (l.take (i + 1))=flt true (l.take i)++(if z.g=true then [] else [z]):=by rw [List.take_add_one,hz]; exact q0jp _ z
  have hfl:(flt true (l.take i)).length≤i:=by
   have:(flt true (l.take i)).length≤(l.take i).length:=List.length_filter_le _ _
   rw [List.length_take] at this
   omega
  simp only [List.getD_cons_zero]
  have fb:=f1.base
  refine q2f fb rfl rfl q2b ?_
  have sx:Step h1 (h1.new (ee z) 3) [] [h1.next]:=(Step.refl h1 [] (by simp)).new _ _
  have bx:(h1.new (ee z) 3).blk h1.next=some (ee z):=by simp
  have nx:h1.next < (h1.new (ee z) 3).next:=by simp
  have bq:(h1.new (ee z) 3).blk q=some [x]:=by rw [(sx.keep q (by omega) (by simp)).1]; exact b
  have vx:=v.frame sx (by simp)
  have bsx:=sx.1
  have hS':∀ b,b∈S'→b < h1.next:=λ b hb=>(v.lt b hb).2
  have lq1:q < h1.next:=by omega
  generalize h1.new (ee z) 3=hx at *
  simp only [ptr,wd, wa]
  refine qj (v:=.bool z.g) fb bx rfl ?_
  cases hg:z.g with
  | true=>
   rw [if_pos hg,List.append_nil] at ht1
   simp only [wd, wa]
   refine ends _ (q :: S') (((sx.less (T:=[]) (by simp)).keepS λ b hb=>by
    rcases List.mem_cons.1 hb with rfl | hb
    ·exact lq1
    ·exact hS' b hb).y 0) ⟨x,S',rfl,bq,by rw [ht1]; exact vx,hqs,by omega⟩
  | false=>
   rw [if_neg (by simp [hg])] at ht1
   simp only [wd, wa]
   refine qj hq bq rfl ?_
   refine q16 fb bx rfl ?_
   refine q4a (by omega) vx.gv rfl rfl (by omega) (by omega) (by omega) λ x' h2 S2 g2 s2=>?_
   have b2:h2.blk q=some [x]:=by rw [(s2.keep q (by omega) hqs).1]; exact bq
   have hq2:q∉S2:=λ e=>by
    rcases (s2.own _ e).2 with r | r
    ·exact hqs r
    ·omega
   have s12:Step h1 h2 S' S2:=(sx.wide (T:=S') (T':=S') (by simp) (λ b hb=>.inr ⟨hb,hS' b hb⟩)).trans s2
   have hxc:qv x'=true:=by obtain ⟨a,c,e⟩:=g2.slice; rw [e]; rfl
   refine q21 hq b2 (by simp) hxc ?_
   simp only [List.set_cons_zero]
   have s3:Step h1 (h2.put q [x']) (q :: S') (q :: S2):=(s12.consR lq1).put (by simp) _
   have sp:Step h2 (h2.put q [x']) [q] [q]:=(Step.refl h2 [q] (by simp; have:=s2.1; omega)).put (by simp) _
   refine ends _ _ (s3.y 0) ⟨x',S2,rfl,by simp,?_,hq2,by have:=s3.1; omega⟩
   have g3:Vec w0 (h2.put q [x']) 3 x' _ _ S2:=g2.frame sp (by simpa using λ b hb (e:b=q)=>hq2 (by rw [← e]; exact hb))
   rw [ht1,List.length_append,List.flatMap_append]
   simpa using g3
 ·rintro h3 S2 f3 ys ⟨x,S',e,b,v,hqs,n⟩
  subst e
  have:(sV l).length=l.length:=by simp [sV]
  rw [this,List.take_of_length_le (Nat.le_refl _)] at v
  exact hk h3 x S' f3 ys b v
 ·rintro o h3 S2 f3 ys c
  exact c.elim
theorem q0mx (x:Ent):q27 [x]=q0e x:=by simp [q27,qcx,q50,q9v]
theorem q0ln {k0 kr:Value→Value→Value→Value→Value→Hp→Prop} {x2 x4 x5 x6 v mp:Value} {l:List Ent} {M0:List Nat} {hh:Hp} (hl:l.length≤9000000)
  (hk:(∀ x,x∈l→q0e x=true)→∀ h1 M,Fit w0 h1→Step hh h1 M0 M→Me w0 h1 mp (q1h [] l) M→k0 x2 x4 x5 x6 mp h1) (hr:(¬ ∀ x,x∈l→q0e x=true)→∀ h1 M,Fit w0 h1→Step hh h1 M0 M→kr x2 (.pointer none) (.int .i64 120) x6 mp h1):
  ∀ (post pre:List Ent) (h1:Hp) (M:List Nat),pre++post=l→Fit w0 h1→(∀ x,x∈pre→q0e x=true)→Step hh h1 M0 M→Es w0 h1 v l→Off h1 v M→Me w0 h1 mp (q1h [] pre) M→
   q8q prog w0 k0 kr (post.length + 1) x2 x4 x5 x6 mp v (.int .i64 (l.length:Int)) (.int .i64 (pre.length:Int)) h1:=by
 intro post
 induction post with
 | nil=>
  intro pre h1 M he f1 hrt st g o m
  have hpre:pre=l:=by simpa using he
  subst hpre
  rw [List.length_nil,q8q]
  simp only [qf7,wd, wa,Int.lt_irrefl,decide_false]
  exact hk hrt h1 M f1 st m
 | cons z post ih=>
  intro pre h1 M he f1 hrt st g o m
  have hlen:pre.length + (post.length + 1)=l.length:=by rw [← he]; simp
  have hg:l[pre.length]?=some z:=by rw [← he]; simp
  have c1:decide ((pre.length:Int) < (l.length:Int))=true:=decide_eq_true (by omega)
  have e6:=wrS pre z (by omega)
  have hml:=qcg pre []
  have fb:=f1.base
  rw [List.length_cons,q8q]
  simp only [qf7,wd, wa,c1]
  refine Sl.elem g (by omega) (q3u hg) ?_
  refine q2f fb rfl rfl q2b ?_
  have sx:Step h1 (h1.new (ee z) 3) [] [h1.next]:=(Step.refl h1 [] (by simp)).new _ _
  have bx:(h1.new (ee z) 3).blk h1.next=some (ee z):=by simp
  have nx:h1.next < (h1.new (ee z) 3).next:=by simp
  have fx:Fit w0 (h1.new (ee z) 3):=f1.new (by simp [ee,qv])
  generalize h1.new (ee z) 3=hx at *
  simp only [wd, wa]
  refine q16 fb bx rfl ?_
  refine q00n (e:=ee z) rfl rfl ?_
  have sy:Step hx (hx.new (ee z) 3) [] [hx.next]:=(Step.refl hx [] (by simp)).new _ _
  have gy:Es w0 (hx.new (ee z) 3) (.slice (some ⟨hx.next,0,none⟩) 1 1) [z]:=⟨_,_,rfl,q3h fx.base rfl,rfl,.inl ⟨by decide,Nat.le_refl _⟩⟩
  refine qq (qvp gy (by simp)) λ r h2 ⟨e,s2⟩ f2=>?_
  subst e
  rw [q0mx]
  have s12:Step h1 h2 [] []:=((sx.less (T:=[]) (by simp)).trans (sy.less (T:=[]) (by simp))).trans s2
  have bx2:h2.blk h1.next=some (ee z):=by rw [(((sy.less (T:=[]) (by simp)).trans s2).keep _ nx (by simp)).1]; exact bx
  have m2:=m.frame s12 (by simp)
  have hMlt:∀ b,b∈M→b < h1.next:=λ b hb=>(m.lt b hb).2
  have sM:Step h1 h2 M M:=s12.keepS hMlt
  have g2:Es w0 h2 v l:=Sl.step g f1 s12 (by simp)
  have o2:=o.step sM
  cases hz:q0e z with
  | false=>
   simp only [Bool.false_eq_true,if_false,show ((120:Int) != 0)=true from rfl,wd, wa]
   refine hr (λ w=>?_) h2 M f2 (st.trans sM)
   have:=w z (by rw [← he]; simp)
   rw [hz] at this
   exact absurd this (by simp)
  | true=>
   simp only [if_true,show ((0:Int) != 0)=false from rfl,wd, wa]
   have hrz:=(q48 z).1 hz
   have hrt':∀ x,x∈pre++[z]→q0e x=true:=λ x hx=>by
    rcases List.mem_append.1 hx with q | q
    ·exact hrt x q
    ·simp at q; rw [q]; exact hz
   refine qj (v:=.bool z.g) fb bx2 rfl ?_
   cases hzg:z.g with
   | true=>
    have hzv:z.v=[]:=hrz.2.2.2 hzg
    have hze:(⟨z.k,[],true⟩:Ent)=z:=by rw [← hzv,← hzg]
    simp only [wd, wa]
    refine qj (v:=.string (str z.k)) fb bx2 rfl ?_
    refine qq (qxi m2 (by simp at hml; omega) z.k) λ u h3 ⟨M3,e,m3,s3⟩ f3=>?_
    rw [hze,hz,if_pos rfl] at m3
    simp only [e6]
    exact ih (pre++[z]) h3 M3 (by simpa using he) f3 hrt' ((st.trans sM).trans s3) (Sl.step g2 f2 s3 λ b hb=>(o2 b hb).2) (o2.step s3) (by rw [qlv]; exact m3)
   | false=>
    have hze:(⟨z.k,z.v,false⟩:Ent)=z:=by rw [← hzg]
    simp only [wd, wa]
    refine qj (v:=.string (str z.k)) fb bx2 rfl ?_
    refine qj (v:=.string (str z.v)) fb bx2 rfl ?_
    refine qq (q00b m2 (by simp at hml; omega) z.k z.v) λ u h3 ⟨M3,e,m3,s3⟩ f3=>?_
    rw [hze,hz,if_pos rfl] at m3
    simp only [e6]
    exact ih (pre++[z]) h3 M3 (by simpa using he) f3 hrt' ((st.trans sM).trans s3) (Sl.step g2 f2 s3 λ b hb=>(o2 b hb).2) (o2.step s3) (by rw [qlv]; exact m3)
theorem q00r (h h0:Hp):q09 h.next h (h.cutLp h0) [] []:=⟨Nat.le_refl _,λ _ _ _=>⟨rfl,rfl⟩,by simp,λ b a c=>absurd c (by omega)⟩
theorem q0g6 {v:Value} {l:List Ent} (b f t:Int) (hv:Es w0 h v l) (o:∀ b,b∈q0z v→b < h.next) (hl:q0f l≤1048576):
  qf prog w0 qk5 [q2i b f t,v] h λ r h' =>
   (q1k b f t=true→(∀ x,x∈l→q0e x=true)→∃ p S A,r=.tuple #[p,.int .i64 0]∧Lv w0 h' p (q59 (q0n b.toNat f.toNat t.toNat) l) S A∧Step h h' [] (S++A))∧
   (q1k b f t=true→¬ (∀ x,x∈l→q0e x=true)→r=.tuple #[.pointer none,.int .i64 120]∧Step h h' [] [])∧
   (q1k b f t=false→r=.tuple #[.pointer none,.int .i64 140]∧Step h h' [] []):=by
 refine qf.of_fit (by simp [q2i,Sl.junk hv]) λ fi=>q0bj (by simp [q2i,Sl.junk hv]) ?_
 have hel:=q4q l
 have fb:=fi.base
 simp only [qk7]
 refine q6d (e:=[.int .i64 b,.int .i64 f,.int .i64 t]) ?_
 have s1:Step h (h.new [.int .i64 b,.int .i64 f,.int .i64 t] 3) [] []:=((Step.refl h [] (by simp)).new _ _).less (by simp)
 have b1:(h.new [.int .i64 b,.int .i64 f,.int .i64 t] 3).blk h.next=some [.int .i64 b,.int .i64 f,.int .i64 t]:=by simp
 have l1:h.next < (h.new [.int .i64 b,.int .i64 f,.int .i64 t] 3).next:=by simp
 have f1:Fit w0 (h.new [.int .i64 b,.int .i64 f,.int .i64 t] 3):=fi.new (by simp [qv])
 have g1:Es w0 (h.new [.int .i64 b,.int .i64 f,.int .i64 t] 3) v l:=Sl.step hv fi s1 (by simp)
 generalize h.new [.int .i64 b,.int .i64 f,.int .i64 t] 3=h1 at *
 refine q16 fb b1 rfl ?_
 refine qq (qxx b f t) λ r h2 ⟨c1,c2⟩ f2=>?_
 cases hr:q1k b f t with
 | false=>
  obtain ⟨e,s2⟩:=c2 hr
  subst e
  simp only [wd, wa,show ((140:Int) != 0)=true from rfl]
  unfold q2e
  simp only [qu,q19]
  exact ⟨by simp,by simp,by simp,λ _=>⟨trivial,((s1.trans s2).y 0).cut⟩⟩
 | true=>
  obtain ⟨p,S,e,m2,s2⟩:=c1 hr
  subst e
  have hn:=(q73 _ _ _).1 hr
  simp only [wd, wa,show ((0:Int) != 0)=false from rfl]
  refine qq qvu λ mp h3 ⟨M0,mm3,s3⟩ f3=>?_
  have s2':=s2.less (T:=[]) (by simp)
  have s3':=s3.less (T:=[]) (by simp)
  have g3:Es w0 h3 v l:=Sl.step (Sl.step g1 f1 s2' (by simp)) f2 s3' (by simp)
  have m3:=m2.step0 s3
  have hM0:∀ b,b∈M0→h2.next≤b∧b < h3.next:=λ b hb=>⟨by rcases (s3.own b hb).2 with w | w; simp at w; exact w,(s3.own b hb).1⟩
  have hS:∀ b,b∈S→h1.next≤b∧b < h2.next:=λ b hb=>⟨by rcases (s2.own b hb).2 with w | w; simp at w; exact w,(s2.own b hb).1⟩
  have n1:=s1.1
  have n2:=s2.1
  have n3:=s3.1
  have o3:Off h3 v M0:=λ b hb=>by
   have:=o b hb
   exact ⟨by omega,λ w=>by have:=hM0 b w; omega⟩
  have b3:h3.blk h.next=some [.int .i64 b,.int .i64 f,.int .i64 t]:=by rw [((s2'.trans s3').keep _ l1 (by simp)).1]; exact b1
  simp only [Sl.lenv g3,wd, wa]
  refine ⟨l.length + 1,q0ln (hh:=h3) (M0:=M0) (by omega) (λ hok h4 M4 f4 s4 mm4=>?_) (λ hbad h4 M4 f4 s4=>?_) l [] h3 M0 rfl f3 (by simp) (.refl _ _ λ b hb=>(hM0 b hb).2) g3 o3 mm3⟩
  ·have n4:=s4.1
   have m4:=m3.frame s4 (λ b hb w=>by have:=hS b hb; have:=hM0 b w; omega) (by simp)
   have b4:h4.blk h.next=some [.int .i64 b,.int .i64 f,.int .i64 t]:=by rw [(s4.keep _ (by omega) (λ w=>by have:=hM0 _ w; omega)).1]; exact b3
   have fb4:=f4.base
   simp only [q2t]
   refine ⟨by simp [qv],?_⟩
   have s5:Step h4 (h4.new [.slice none 0 0] 1) [] [h4.next]:=(Step.refl h4 [] (by simp)).new _ _
   have b5:(h4.new [.slice none 0 0] 1).blk h4.next=some [.slice none 0 0]:=by simp
   have f5:Fit w0 (h4.new [.slice none 0 0] 1):=f4.new (by simp [qv])
   have n5:(h4.new [.slice none 0 0] 1).next=h4.next + 1:=rfl
   have mm5:=mm4.frame s5 (by simp)
   have m5:=m4.step0 s5
   have s50:Step h4 (h4.new [.slice none 0 0] 1) [] []:=s5.less (by simp)
   generalize h4.new [.slice none 0 0] 1=h5 at *
   refine qq (qlo mm5) λ fv h6 ⟨q6,e,bq6,w6,l6,s6⟩ f6=>?_
   subst e
   have n6:=s6.1
   have mm6:=mm5.frame s6 (by simp)
   have m6:=m5.step0 s6
   have b6:h6.blk h4.next=some [.slice none 0 0]:=by rw [(s6.keep _ (by omega) (by simp)).1]; exact b5
   have s46:Step h4 h6 [] []:=s50.trans s6
   have b6':h6.blk h.next=some [.int .i64 b,.int .i64 f,.int .i64 t]:=by rw [(s46.keep _ (by omega) (by simp)).1]; exact b4
   have hM4:=mm4.lt
   refine q0kd (l:=q1h [] l) (T:=q6 :: M4) f6 fb4 b6 (by have:=qcg l []; simp at this; omega) (λ w=>?_) (λ g=>?_) λ h7 x U f7 ys b7 g7=>?_
   ·rcases List.mem_cons.1 w with w | w
    ·omega
    ·have:=(hM4 _ w).2; omega
   ·have yl:=(q09.refl 0 h6 [] (by simp)).newLp g
    have hm:Me w0 (h6.newLp g) mp (q1h [] l) M4:=(mm6.frame (yl.step) (by simp):Me w0 ((h6.newLp g).as h6) mp (q1h [] l) M4)
    exact qn2 (hh:=h6.newLp g) (M:=M4) bq6 (by omega) hm ⟨by simp,λ b hb=>by simp [hb]⟩
   ·have y47:q09 0 h4 h7 [] U:=(((s5.wide (T:=[]) (T':=[h4.next]) (by simp) (λ b hb=>.inl hb)).trans (s6.keepS λ b hb=>by simp at hb; omega)).y 0 |>.trans ys).less λ b hb=>by simp [hb]
    have y470:q09 0 h4 h7 [] []:=y47.less (by simp)
    have m7:=m4.y y470
    have n7:=y470.next
    have b7':h7.blk h.next=some [.int .i64 b,.int .i64 f,.int .i64 t]:=by
     have:(h7.as h4).blk h.next=some [.int .i64 b,.int .i64 f,.int .i64 t]:=by rw [(y470.step.keep _ (by omega) (by simp)).1]; exact b4
     exact this
    have s14:Step h h4 [] S:=by
     have t1:Step h h2 [] S:=s1.trans s2
     have t2:Step h h3 [] (M0++S):=(t1.trans ((s3.less (T:=[]) (by simp)).keepS λ b hb=>(hS b hb).2)).trans (.refl _ _ λ b hb=>by have:=hS b hb; omega) |>.trans (.refl _ _ λ b hb=>by have:=hS b hb; omega) |> λ q=>⟨q.1,q.2,λ b hb=>by
      rcases List.mem_append.1 hb with w | w
      ·have:=hM0 b w; exact ⟨this.2,.inr (by omega)⟩
      ·have:=hS b w; exact ⟨by omega,.inr (by omega)⟩,q.4⟩
     exact (t2.trans (s4.more S λ b hb=>by have:=hS b hb; omega)).less (λ b hb=>by simp [hb])
    have y17:q09 0 h h7 [] S:=(s14.y 0).trans (y470.wide (T:=S) (T':=S) (by simp) λ b hb=>.inr ⟨hb,by have:=hS b hb; omega⟩)
    refine qj fb4 b7 rfl ?_
    simp only [g7.sl.lenv,wd, wa]
    by_cases hz:q2k l=[]
    ·have c0:decide ((0:Int) < ((flt true (q1h [] l)).length:Int))=false:=by
      have:flt true (q1h [] l)=[]:=hz
      rw [this]; rfl
     simp only [c0,wd, wa]
     unfold q2e
     simp only [qu,q19]
     have hs:q59 (q0n b.toNat f.toNat t.toNat) l=q0n b.toNat f.toNat t.toNat:=if_pos hz
     exact ⟨by simp [m7.nj],λ _ _=>⟨p,S,[],rfl,by rw [hs]; exact m7.y (q00r h7 h),by rw [List.append_nil]; exact y17.cut⟩,λ _ w=>absurd hok w,by simp⟩
    ·have hpos:=List.length_pos_iff.2 hz
     have c0:decide ((0:Int) < ((flt true (q1h [] l)).length:Int))=true:=decide_eq_true (by unfold q2k at hpos; omega)
     obtain ⟨q,mq,Mq,sls,a1,a2,a3,a4,a5,a6,a7,a8,a9,e1,e2,e3⟩:=m7
     subst a1
     simp only [ptr,c0,wd, wa]
     refine qj fb4 b7 rfl ?_
     refine qj fb b7' rfl ?_
     have hbb:((b.toNat:Nat):Int)=b:=by omega
     rw [show (.int .i64 b:Value)=.int .i64 ((b.toNat:Nat):Int) by rw [hbb]]
     refine qq (ql7 (l:=q2k l) (by omega) (by omega) (qxy hok) (by have:=qzk l; omega) g7.sl) λ r8 h8 ⟨S8,mR,s8⟩ f8=>?_
     have n8:=s8.1
     refine q7k mR.isC ?_
     have s9:Step h8 (h8.new [r8] 1) [] [h8.next]:=(Step.refl h8 [] (by simp)).new _ _
     have g9:GV w0 (h8.new [r8] 1) 1 (.slice (some ⟨h8.next,0,none⟩) 1 1) 1 [r8] [h8.next]:=.new f8.base rfl (by decide)
     have mR9:=mR.frame s9 (by simp)
     have hS8:∀ b,b∈S8→h7.next≤b∧b < h8.next:=λ b hb=>⟨by rcases (s8.own b hb).2 with w | w; simp at w; exact w,(s8.own b hb).1⟩
     have s79:Step h7 (h8.new [r8] 1) [] []:=(s8.less (by simp)).trans (s9.less (by simp))
     have n9:(h8.new [r8] 1).next=h8.next + 1:=rfl
     have bq9:(h8.new [r8] 1).blk q=some (q0m (q0n b.toNat f.toNat t.toNat)++mq :: sls):=by rw [(s79.keep q a8 (by simp)).1]; exact a2
     have sA:Step h7 (h8.new [r8] 1) [] (h8.next :: S8):=s79.claim λ b hb=>by
      rcases List.mem_cons.1 hb with w | w
      ·subst w; exact ⟨by omega,by omega⟩
      ·have:=hS8 b w; omega
     generalize h8.new [r8] 1=h9 at *
     simp only [qka]
     refine q7i (i:=0) (by decide) ?_
     refine q21 a7 bq9 (by rw [q55]; omega) rfl ?_
     rw [qh9]
     have sP:Step h9 (h9.put q (q0m (q0n b.toNat f.toNat t.toNat)++mq :: sls.set 0 (.slice (some ⟨h8.next,0,none⟩) 1 1))) [q] [q]:=(Step.refl h9 [q] (by simp; omega)).put (by simp) _
     have bP:(h9.put q (q0m (q0n b.toNat f.toNat t.toNat)++mq :: sls.set 0 (.slice (some ⟨h8.next,0,none⟩) 1 1))).blk q=some (q0m (q0n b.toNat f.toNat t.toNat)++mq :: sls.set 0 (.slice (some ⟨h8.next,0,none⟩) 1 1)):=by simp
     have gP:=g9.frame sP (by simp; omega)
     have mRP:=mR9.frame sP (λ c hc w=>by have:=hS8 c hc; simp at w; omega)
     have meP:Me w0 (h9.put q (q0m (q0n b.toNat f.toNat t.toNat)++mq :: sls.set 0 (.slice (some ⟨h8.next,0,none⟩) 1 1))) mq (q0n b.toNat f.toNat t.toNat).mem Mq:=(a4.frame s79 (by simp)).frame sP (by simpa using λ c hc (e:c=q)=>a6 (by rw [← e]; exact hc))
     have nP:(h9.put q (q0m (q0n b.toNat f.toNat t.toNat)++mq :: sls.set 0 (.slice (some ⟨h8.next,0,none⟩) 1 1))).next=h9.next:=rfl
     have hSn:∀ c,c∈S→c < h7.next:=λ c hc=>by have:=hS c hc; omega
     have yF:q09 0 h (h9.put q (q0m (q0n b.toNat f.toNat t.toNat)++mq :: sls.set 0 (.slice (some ⟨h8.next,0,none⟩) 1 1))) [] (S++(h8.next :: S8)):=by
      have x1:Step h7 h9 S (S++(h8.next :: S8)):=sA.wide (by simp) λ c hc=>by
       rcases List.mem_append.1 hc with w | w
       ·exact .inr ⟨w,hSn c w⟩
       ·exact .inl w
      have x2:Step h9 (h9.put q (q0m (q0n b.toNat f.toNat t.toNat)++mq :: sls.set 0 (.slice (some ⟨h8.next,0,none⟩) 1 1))) (S++(h8.next :: S8)) (S++(h8.next :: S8)):=sP.wide (by subst a5; simp) λ c hc=>.inr ⟨hc,(x1.own c hc).1⟩
      exact (y17.trans (x1.y 0)).trans (x2.y 0)
     have hLv:Lv w0 (h9.put q (q0m (q0n b.toNat f.toNat t.toNat)++mq :: sls.set 0 (.slice (some ⟨h8.next,0,none⟩) 1 1))) (.pointer (some ⟨q,0,none⟩)) (q59 (q0n b.toNat f.toNat t.toNat) l) S (h8.next :: S8):=by
      have hs:q59 (q0n b.toNat f.toNat t.toNat) l = { q0n b.toNat f.toNat t.toNat with lv:=(q0n b.toNat f.toNat t.toNat).lv.set 0 [q2k l] }:=if_neg hz
      rw [hs]
      refine ⟨q,mq,Mq,_,rfl,bP,by simpa using a3,meP,a5,a6,a7,by omega,λ c hc=>?_,λ c hc w=>?_,by simpa using e2,λ i v hi=>?_⟩
      ·rcases List.mem_cons.1 hc with w | w
       ·subst w; omega
       ·have:=hS8 c w; omega
      ·have:=hSn c hc
       rcases List.mem_cons.1 w with w | w
       ·omega
       ·have:=hS8 c w; omega
      ·by_cases hi0:i=0
       ·subst hi0
        rw [List.getElem?_set_self (by omega)] at hi
        cases hi
        have:({ q0n b.toNat f.toNat t.toNat with lv:=(q0n b.toNat f.toNat t.toNat).lv.set 0 [q2k l] }:LS).lv.getD 0 []=[q2k l]:=by
         rw [List.getD_eq_getElem?_getD,List.getElem?_set_self (by omega)]
         rfl
        rw [this]
        exact ⟨[(r8,q2k l)],rfl,gP.sl,by simp [q0z],λ pp hpp=>by simp at hpp; subst hpp; exact ⟨S8,mRP,by simp +contextual⟩⟩
       ·rw [List.getElem?_set_ne (by omega)] at hi
        have:({ q0n b.toNat f.toNat t.toNat with lv:=(q0n b.toNat f.toNat t.toNat).lv.set 0 [q2k l] }:LS).lv.getD i []=(q0n b.toNat f.toNat t.toNat).lv.getD i []:=by
         rw [List.getD_eq_getElem?_getD,List.getElem?_set_ne (by omega),← List.getD_eq_getElem?_getD]
        rw [this]
        exact (((e3 i v hi).frame (by simp) s79 (by simp)).frame (by simp) sP (by simp)).more (by simp)
     unfold q2e
     simp only [qu,q19]
     exact ⟨by simp,λ _ _=>⟨_,S,h8.next :: S8,rfl,hLv.y (q00r _ h),yF.cut⟩,λ _ w=>absurd hok w,by simp⟩
  ·unfold q2e
   simp only [qu,q19]
   have y4:q09 0 h h4 [] []:=(((s1.trans s2').trans s3).trans s4 |>.less (by simp)).y 0
   exact ⟨by simp,λ _ w=>absurd w hbad,λ _ _=>⟨trivial,y4.cut⟩,by simp⟩
end
section
variable {w0:World} {h h':Hp}
theorem q0jn {k0 kr:Value→Value→Value→Value→Hp→Prop} {x4 x5 x6 v:Value} {l:List Ent} {hh:Hp} (hv:Es w0 hh v l) (f:Fit w0 hh) (hl:l.length≤9000000)
  (hk:(∀ x,x∈l→q0e x=true)→∀ h1 x8 M,Fit w0 h1→Step hh h1 [] M→Vec w0 h1 3 x8 (q1h [] l).length ((q1h [] l).flatMap ee) M→k0 x4 x5 x6 x8 h1) (hr:(¬ ∀ x,x∈l→q0e x=true)→∀ h1 x8,Fit w0 h1→Step hh h1 [] []→kr (.pointer none) (.int .i64 120) x6 x8 h1):
  ∀ (post pre:List Ent) (h1:Hp) (x8:Value) (M:List Nat),pre++post=l→Fit w0 h1→(∀ x,x∈pre→q0e x=true)→Step hh h1 [] M→Vec w0 h1 3 x8 (q1h [] pre).length ((q1h [] pre).flatMap ee) M→
   q85 prog w0 k0 kr (post.length + 1) x4 x5 x6 x8 v (.int .i64 (l.length:Int)) (.int .i64 (pre.length:Int)) h1:=by
 intro post
 induction post with
 | nil=>
  intro pre h1 x8 M he f1 hrt st m
  have hpre:pre=l:=by simpa using he
  subst hpre
  rw [List.length_nil,q85]
  simp only [qe9,wd, wa,Int.lt_irrefl,decide_false]
  exact hk hrt h1 x8 M f1 st m
 | cons z post ih=>
  intro pre h1 x8 M he f1 hrt st m
  have hlen:pre.length + (post.length + 1)=l.length:=by rw [← he]; simp
  have hg:l[pre.length]?=some z:=by rw [← he]; simp
  have c1:decide ((pre.length:Int) < (l.length:Int))=true:=decide_eq_true (by omega)
  have e6:=wrS pre z (by omega)
  have hml:=qcg pre []
  have fb:=f1.base
  have st0:Step hh h1 [] []:=st.less (by simp)
  have hv1:Es w0 h1 v l:=Sl.step hv f st0 (by simp)
  rw [List.length_cons,q85]
  simp only [qe9,wd, wa,c1]
  refine Sl.elem hv1 (by omega) (q3u hg) ?_
  refine q2f fb rfl rfl q2b ?_
  have sx:Step h1 (h1.new (ee z) 3) [] [h1.next]:=(Step.refl h1 [] (by simp)).new _ _
  have bx:(h1.new (ee z) 3).blk h1.next=some (ee z):=by simp
  have nx:h1.next < (h1.new (ee z) 3).next:=by simp
  have mx:=m.frame sx (by simp)
  generalize h1.new (ee z) 3=hx at *
  refine q16 fb bx rfl ?_
  refine qq (qwg z) λ r h2 ⟨e,s2⟩ f2=>?_
  subst e
  have s12:Step h1 h2 [] []:=(sx.less (T:=[]) (by simp)).trans s2
  have bx2:h2.blk h1.next=some (ee z):=by rw [(s2.keep _ nx (by simp)).1]; exact bx
  have m2:=mx.frame s2 (by simp)
  cases hz:q0e z with
  | false=>
   simp only [wd, wa]
   refine hr (λ w=>?_) h2 x8 f2 (st0.trans s12)
   have:=w z (by rw [← he]; simp)
   rw [hz] at this
   exact absurd this (by simp)
  | true=>
   simp only [wd, wa]
   have hrt':∀ x,x∈pre++[z]→q0e x=true:=λ x hx=>by
    rcases List.mem_append.1 hx with q | q
    ·exact hrt x q
    ·simp at q; rw [q]; exact hz
   refine q16 fb bx2 rfl ?_
   refine qq (qwn m2.sl (by simp at hml; omega) z) λ u h3 ⟨M3,m3,s3⟩ f3=>?_
   simp only [e6]
   exact ih (pre++[z]) h3 u M3 (by simpa using he) f3 hrt' ((st0.trans s12).trans s3) (by rw [qlv]; exact m3)
theorem ql3 {v:Value} {l:List Ent} (b f t:Int) (hv:Es w0 h v l) (hl:q0f l≤1048576):
  qf prog w0 qiz [q2i b f t,v] h λ r h' =>
   (q1k b f t=true→(∀ x,x∈l→q0e x=true)→∃ p S A,r=.tuple #[p,.int .i64 0]∧Rv w0 h' p (q59 (q0n b.toNat f.toNat t.toNat) l) S A∧Step h h' [] (S++A))∧
   (q1k b f t=true→¬ (∀ x,x∈l→q0e x=true)→r=.tuple #[.pointer none,.int .i64 120]∧Step h h' [] [])∧
   (q1k b f t=false→r=.tuple #[.pointer none,.int .i64 140]∧Step h h' [] []):=by
 refine qf.of_fit (by simp [q2i,Sl.junk hv]) λ fi=>q072 (by simp [q2i,Sl.junk hv]) ?_
 have hel:=q4q l
 have fb:=fi.base
 simp only [qix]
 refine q6d (e:=[.int .i64 b,.int .i64 f,.int .i64 t]) ?_
 have s1:Step h (h.new [.int .i64 b,.int .i64 f,.int .i64 t] 3) [] []:=((Step.refl h [] (by simp)).new _ _).less (by simp)
 have b1:(h.new [.int .i64 b,.int .i64 f,.int .i64 t] 3).blk h.next=some [.int .i64 b,.int .i64 f,.int .i64 t]:=by simp
 have f1:Fit w0 (h.new [.int .i64 b,.int .i64 f,.int .i64 t] 3):=fi.new (by simp [qv])
 have g1:Es w0 (h.new [.int .i64 b,.int .i64 f,.int .i64 t] 3) v l:=Sl.step hv fi s1 (by simp)
 generalize h.new [.int .i64 b,.int .i64 f,.int .i64 t] 3=h1 at *
 refine q16 fb b1 rfl ?_
 refine qq (q0in b f t) λ r h2 ⟨c1,c2⟩ f2=>?_
 cases hr:q1k b f t with
 | false=>
  obtain ⟨e,s2⟩:=c2 hr
  subst e
  simp only [wd, wa,show ((140:Int) != 0)=true from rfl,qu,q19]
  exact ⟨by simp,by simp,by simp,λ _=>⟨trivial,s1.trans s2⟩⟩
 | true=>
  obtain ⟨p,S,e,m2,s2⟩:=c1 hr
  subst e
  simp only [wd, wa,show ((0:Int) != 0)=false from rfl]
  have s2':=s2.less (T:=[]) (by simp)
  have g2:Es w0 h2 v l:=Sl.step g1 f1 s2' (by simp)
  have hS:∀ b,b∈S→b < h2.next:=λ b hb=>(m2.lt b hb).2
  simp only [Sl.lenv g2,wd, wa]
  refine ⟨l.length + 1,q0jn (hh:=h2) g2 f2 (by omega) (λ hok h3 x8 M f3 s3 g3=>?_) (λ hbad h3 x8 f3 s3=>?_) l [] h2 _ [] rfl f2 (by simp) (.refl _ _ (by simp)) .nil⟩
  ·have s30:Step h2 h3 [] []:=s3.less (by simp)
   have m3:=m2.step0 s3
   refine q7k g3.sl.isC ?_
   have s4:Step h3 (h3.new [x8] 1) [] []:=((Step.refl h3 [] (by simp)).new _ _).less (by simp)
   have g4:GV w0 (h3.new [x8] 1) 1 (.slice (some ⟨h3.next,0,none⟩) 1 1) 1 [x8] [h3.next]:=.new f3.base rfl (by decide)
   have x4:=g3.frame s4 (by simp)
   have m4:=m3.step0 s4
   generalize h3.new [x8] 1=h4 at *
   have hpl:=qcg l []
   refine qq (qup (ps:=[(x8,q1h [] l)]) true g4.sl (by simpa using x4.sl) (by simp) (by simp at hpl ⊢; omega)) λ v5 h5 ⟨out,U,im,ho,g5,s5⟩ f5=>?_
   have hps:q29 (q1h [] l):=q9e l [] .nil
   have hov:flt true out=q2k l:=by
    have:=congrArg (List.map (·.2)) (qg7 (ls:=[q1h [] l]) (by simpa using hps) im)
    have hk:∀ l:List Ent,(kl l).map (·.2)=l:=λ l=>by simp [kl,Function.comp_def]
    rw [hk,hk] at this
    have hp2:q1h [] (q1h [] l)=q1h [] l:=qxa (q9e _ [] .nil) hps λ k=>by rw [qxr .nil hps,q0ka,Option.or_none]
    rw [this]
    show flt true (q1h [] (q1h [] l))=_
    rw [hp2]
    rfl
   rw [hov] at g5
   have m5:=m4.step0 s5
   have s25:Step h2 h5 [] []:=(s30.trans s4).trans (s5.less (by simp))
   have sA:Step h h5 [] S:=(s1.trans s2).trans (s25.keepS hS)
   simp only [g5.sl.lenv,wd, wa]
   by_cases hz:q2k l=[]
   ·have c0:decide ((0:Int) < ((q2k l).length:Int))=false:=by rw [hz]; rfl
    simp only [c0,wd, wa,qu,q19]
    have hs:q59 (q0n b.toNat f.toNat t.toNat) l=q0n b.toNat f.toNat t.toNat:=if_pos hz
    exact ⟨by simp [m5.nj],λ _ _=>⟨p,S,[],rfl,by rw [hs]; exact m5,by rw [List.append_nil]; exact sA⟩,λ _ w=>absurd hok w,by simp⟩
   ·have hpos:=List.length_pos_iff.2 hz
    have c0:decide ((0:Int) < ((q2k l).length:Int))=true:=decide_eq_true (by omega)
    obtain ⟨q,qa,c,vm,us,a1,a2,a3,a4,a5,a6,a7,a8,a9,e1,e2,e3,e4,e5,e6,e7,e8,e9⟩:=m5
    subst a1
    simp only [ptr,c0,wd, wa]
    refine qj a7 a2 (v:=.slice (some ⟨qa,0,none⟩) 16 c) rfl ?_
    refine q7k g5.sl.isC ?_
    have s6:Step h5 (h5.new [v5] 1) [] [h5.next]:=(Step.refl h5 [] (by simp)).new _ _
    have g6:GV w0 (h5.new [v5] 1) 1 (.slice (some ⟨h5.next,0,none⟩) 1 1) 1 [v5] [h5.next]:=.new f5.base rfl (by decide)
    have x6:=g5.frame s6 (by simp)
    have n6:(h5.new [v5] 1).next=h5.next + 1:=rfl
    have k1:=s6.keep q a8 (by simp)
    have k2:=s6.keep qa e1 (by simp)
    have bq6:=k1.1.trans a2
    have ba6:=k2.1.trans a3
    have ez6:=k2.2.trans e8
    have hem6:Es w0 (h5.new [v5] 1) vm (q0n b.toNat f.toNat t.toNat).mem:=Sl.stepL e5 (λ x hx=>e2 x (e6 x hx)) s6 (by simp)
    have hlv6:∀ (i:Nat) v,us[i]?=some v→q3c w0 (h5.new [v5] 1) [] v ((q0n b.toNat f.toNat t.toNat).lv.getD i []):=λ i v hi=>(e7 i v hi).frame e2 s6 (by simp)
    have hU:∀ b,b∈U→h4.next≤b∧b < h5.next:=λ b hb=>⟨by rcases (s5.own b hb).2 with w | w; simp at w; exact w,(s5.own b hb).1⟩
    have hSn:∀ b,b∈S→b < h4.next:=λ b hb=>by have:=hS b hb; have:=s30.1; have:=s4.1; omega
    have s46:Step h4 (h5.new [v5] 1) [] []:=(s5.less (by simp)).trans (s6.less (by simp))
    have sB:Step h4 (h5.new [v5] 1) S (S++(h5.next :: U)):=(s46.claim (T:=h5.next :: U) λ b hb=>by
     have n5:=s5.1
     rcases List.mem_cons.1 hb with w | w
     ·subst w; exact ⟨by omega,by omega⟩
     ·have:=hU b w; omega).wide (by simp) λ b hb=>by
     rcases List.mem_append.1 hb with w | w
     ·exact .inr ⟨w,hSn b w⟩
     ·exact .inl w
    have n45:=s5.1
    generalize h5.new [v5] 1=h6 at *
    refine wr1 (u:=qa) (i:=0) a9 ba6 (by decide) (by omega) rfl ?_
    rw [qc5 _ _ _ (by omega)]
    have sP:Step h6 (h6.put qa (us.set (0 * 1) (.slice (some ⟨h5.next,0,none⟩) 1 1))) [qa] [qa]:=(Step.refl h6 [qa] (by simp; omega)).put (by simp) _
    have bP:(h6.put qa (us.set (0 * 1) (.slice (some ⟨h5.next,0,none⟩) 1 1))).blk qa=some (us.set 0 (.slice (some ⟨h5.next,0,none⟩) 1 1)):=by simp
    have bq7:(h6.put qa (us.set (0 * 1) (.slice (some ⟨h5.next,0,none⟩) 1 1))).blk q=some (q0m (q0n b.toNat f.toNat t.toNat)++[vm,.slice (some ⟨qa,0,none⟩) 16 c]):=by rw [(sP.keep q (by omega) (by simpa using a6)).1]; exact bq6
    have hUq:∀ b,b∈h5.next :: U→h4.next≤b∧b < h6.next:=λ b hb=>by
     rcases List.mem_cons.1 hb with w | w
     ·subst w; omega
     ·have:=hU b w; omega
    have gP:=g6.frame sP (by simp; have:=hSn qa (by rw [a5]; simp); omega)
    have xP:=x6.frame sP (λ b hb w=>by simp at w; subst w; have:=hU b hb; have:=hSn b (by rw [a5]; simp); omega)
    have hemP:Es w0 (h6.put qa (us.set (0 * 1) (.slice (some ⟨h5.next,0,none⟩) 1 1))) vm (q0n b.toNat f.toNat t.toNat).mem:=Sl.stepL hem6 (λ x hx=>absurd (e6 x hx) (by simp)) sP (λ x hx=>absurd (e6 x hx) (by simp))
    have nP:(h6.put qa (us.set (0 * 1) (.slice (some ⟨h5.next,0,none⟩) 1 1))).next=h6.next:=rfl
    have sF:Step h (h6.put qa (us.set (0 * 1) (.slice (some ⟨h5.next,0,none⟩) 1 1))) [] (S++(h5.next :: U)):=by
     have x1:Step h h4 [] S:=(s1.trans s2).trans ((s30.trans s4).keepS hS)
     have x2:Step h6 (h6.put qa (us.set (0 * 1) (.slice (some ⟨h5.next,0,none⟩) 1 1))) (S++(h5.next :: U)) (S++(h5.next :: U)):=sP.wide (by rw [a5]; simp) λ b hb=>.inr ⟨hb,(sB.own b hb).1⟩
     exact (x1.trans sB).trans x2
    have hs:q59 (q0n b.toNat f.toNat t.toNat) l = { q0n b.toNat f.toNat t.toNat with lv:=(q0n b.toNat f.toNat t.toNat).lv.set 0 [q2k l] }:=if_neg hz
    have hRv:Rv w0 (h6.put qa (us.set (0 * 1) (.slice (some ⟨h5.next,0,none⟩) 1 1))) (.pointer (some ⟨q,0,none⟩)) (q59 (q0n b.toNat f.toNat t.toNat) l) S (h5.next :: U):=by
     rw [hs]
     refine ⟨q,qa,c,vm,_,rfl,bq7,bP,by simpa using a4,a5,a6,a7,by omega,a9,by omega,λ b hb=>by have:=hUq b hb; omega,λ b hb w=>by have:=hUq b w; have:=hSn b hb; omega,by simpa using e4,hemP,λ x hx=>absurd (e6 x hx) (by simp),λ i v hi=>?_,by simpa using ez6,e9⟩
     by_cases hi0:i=0
     ·subst hi0
      rw [List.getElem?_set_self (by omega)] at hi
      cases hi
      have:({ q0n b.toNat f.toNat t.toNat with lv:=(q0n b.toNat f.toNat t.toNat).lv.set 0 [q2k l] }:LS).lv.getD 0 []=[q2k l]:=by
       rw [List.getD_eq_getElem?_getD,List.getElem?_set_self (by omega)]
       rfl
      rw [this]
      exact ⟨[(v5,q2k l)],rfl,gP.sl,by simp [q0z],λ pp hpp=>by simp at hpp; subst hpp; exact ⟨xP.sl,λ b hb=>by rw [xP.sblk_eq] at hb; simp [hb]⟩⟩
     ·rw [List.getElem?_set_ne (by omega)] at hi
      have:({ q0n b.toNat f.toNat t.toNat with lv:=(q0n b.toNat f.toNat t.toNat).lv.set 0 [q2k l] }:LS).lv.getD i []=(q0n b.toNat f.toNat t.toNat).lv.getD i []:=by
       rw [List.getD_eq_getElem?_getD,List.getElem?_set_ne (by omega),← List.getD_eq_getElem?_getD]
      rw [this]
      exact ((hlv6 i v hi).frame (by simp) sP (by simp)).more (by simp)
    simp only [qu,q19]
    exact ⟨by simp,λ _ _=>⟨_,S,h5.next :: U,rfl,hRv,sF⟩,λ _ w=>absurd hok w,by simp⟩
  ·simp only [qu,q19]
   exact ⟨by simp,λ _ w=>absurd w hbad,λ _ _=>⟨trivial,(s1.trans s2').trans s3⟩,by simp⟩
end
theorem q0m6 {b f t:Nat} {l:List Ent} (h:q1k b f t=true) (hr:∀ x,x∈l→q0e x=true):LOk (q59 (q0n b f t) l) (q0f l)∧(q59 (q0n b f t) l).tot≤1:=by
 unfold q59
 split
 ·exact ⟨qz5 h _,by simp [q0n,LS.tot]⟩
 ·rename_i hz
  have hsz:=qzk l
  have hlv:(q0n b f t).lv.set 0 [q2k l]=[q2k l] :: List.replicate 15 []:=rfl
  refine ⟨⟨h,by rw [hlv]; simp,.nil,by simp [q0n],by have:=(q73 _ _ _).1 h; simp [q0n]; omega,λ r hr' k hk=>?_,?_⟩,?_⟩
  ·rw [hlv] at hr'
   rcases List.mem_cons.1 hr' with q | q
   ·subst q
    simp at hk
    subst hk
    exact ⟨qxy hr,hz⟩
   ·have:=List.eq_of_mem_replicate q
    subst this
    simp at hk
  ·rw [hlv]
   have:q0f (q0n b f t).mem=0:=rfl
   simp
   omega
  ·unfold LS.tot
   rw [hlv]
   simp
section
variable {w0:World} {h h':Hp}
theorem qz3 {k0:Value→Value→Value→Hp→Prop} {kr:Value→Value→Value→Hp→Prop} {x1 x4 x5 x6 x8:Value} {l:List Ent} (ha:Es w0 h x5 l) (hb:Es w0 h x1 l) (hl:l.length≤1000000000) (h0:k0 x4 x6 x8 h):∀ (post pre:List Ent),pre++post=l→
   q7r prog w0 k0 kr (post.length + 1) x1 x4 x5 x6 x8 (.int .i64 (l.length:Int)) (.int .i64 (pre.length:Int)) h:=by
 intro post
 induction post with
 | nil=>
  intro pre he
  have hpre:pre=l:=by simpa using he
  subst hpre
  rw [List.length_nil,q7r]
  simp only [qdr,wd, wa,Int.lt_irrefl,decide_false]
  exact h0
 | cons z post ih=>
  intro pre he
  have hlen:pre.length + (post.length + 1)=l.length:=by rw [← he]; simp
  have hg:l[pre.length]?=some z:=by rw [← he]; simp
  have c1:decide ((pre.length:Int) < (l.length:Int))=true:=decide_eq_true (by omega)
  have e6:=wrS pre z (by omega)
  rw [List.length_cons,q7r]
  simp only [qdr,wd, wa,c1]
  refine Sl.elem ha (by omega) (q3u hg) ?_
  refine Sl.elem hb (by omega) (q3u hg) ?_
  simp only [q0e0,q0oe w0 z,wd, wa,e6]
  exact ih (pre++[z]) (by simpa using he)
theorem q09z {b f t:Int} {v:Value} {l:List Ent} (hx:q7h w0 3 v l.length (l.flatMap ee)) (hl:q0f l≤1048576):
  qf prog w0 qpa [q2i b f t,v] h λ r h'=>r=.bool true:=by
 have h4:=q4q l
 refine qf.of_fit (by simp [q2i,hx.nj]) λ fi=>q03z (by simp [q2i,hx.nj]) ?_
 have fb:=fi.base
 simp only [qia]
 refine q6d (e:=[.int .i64 b,.int .i64 f,.int .i64 t]) ?_
 have s1:Step h (h.new [.int .i64 b,.int .i64 f,.int .i64 t] 3) [] []:=((Step.refl h [] (by simp)).new _ _).less (by simp)
 have b1:(h.new [.int .i64 b,.int .i64 f,.int .i64 t] 3).blk h.next=some [.int .i64 b,.int .i64 f,.int .i64 t]:=by simp
 have l1:h.next < (h.new [.int .i64 b,.int .i64 f,.int .i64 t] 3).next:=by simp
 generalize h.new [.int .i64 b,.int .i64 f,.int .i64 t] 3=h1 at *
 refine qq q0hv λ r h2 ⟨e,s2⟩ f2=>?_
 subst e
 have b2:h2.blk h.next=some [.int .i64 b,.int .i64 f,.int .i64 t]:=by rw [(s2.keep _ l1 (by simp)).1]; exact b1
 have hz0:q00 [(Value.string .empty),.string .empty,.bool false] 0=[]:=rfl
 simp only [q3s,q1u,hz0,wd, wa]
 have g0:GV w0 (h2.new [] 3) 3 (.slice (some ⟨h2.next,0,none⟩) 0 0) 0 [] [h2.next]:=GV.new f2.base rfl (by unfold q0b; decide)
 have s3:Step h2 (h2.new [] 3) [] [h2.next]:=(Step.refl h2 [] (by simp)).new _ _
 have f3:Fit w0 (h2.new [] 3):=f2.new (by simp)
 have hv3:Es w0 (h2.new [] 3) v l:=hx.sl' f3 (q53 l)
 have n2:h.next < h2.next:=by have:=s2.1; omega
 have b3:(h2.new [] 3).blk h.next=some [.int .i64 b,.int .i64 f,.int .i64 t]:=by rw [(s3.keep _ n2 (by simp)).1]; exact b2
 have n3:(h2.new [] 3).next=h2.next + 1:=rfl
 generalize h2.new [] 3=h3 at *
 refine q9i f3.base g0 (Sl.lenA hv3) hv3.src (q53 l) (by omega) (by omega) (by omega) λ x' h5 S5 g5 s5=>?_
 rw [Nat.zero_add,List.nil_append] at g5
 have b5:h5.blk h.next=some [.int .i64 b,.int .i64 f,.int .i64 t]:=by rw [(s5.keep _ (by omega) (by simp; omega)).1]; exact b3
 have n5:=s5.1
 refine q16 fb b5 rfl ?_
 have htv:(.agg ([.int .i64 b,.int .i64 f,.int .i64 t]:List Value).toArray:Value)=q2i b f t:=rfl
 rw [htv]
 refine qq (q0g6 b f t g5.sl (λ c hc=>by rw [g5.sbk] at hc; exact (g5.lt c hc).2) hl) λ r h6 ⟨p1,p2,p3⟩ f6=>?_
 have fin:∀ (e:Int) (h8:Hp),Fit w0 h8→Es w0 h8 x' l→(qd .neq (.int .i64 e) (.int .i64 e)=some (.bool false))→
   (qi3 prog w0 (λ y4_33 y6_34 y8_35=>
    qb (q1g .eql y8_35 (.pointer none)) λ v54_36=>
    qe v54_36 false (λ K=>K y6_34) λ v56_37=>
    qe v54_36 false (λ K=>K y8_35) λ v57_38=>
    qe v54_36 false (qi prog w0 qf1 [v56_37,v57_38]) λ v58_39=>
    q0a v54_36 (.bool true) v58_39 λ v59_40=>
    qo [v59_40] λ r h'=>r=.bool true) (λ y4_41 y6_42 y8_43=>qo [y4_41] λ r h'=>r=.bool true) v (.bool false) x' (.pointer none) (.pointer none) (.int .i64 (l.length:Int)) (.int .i64 0)) h8:=by
  intro e h8 f8 g8 _
  refine ⟨l.length + 1,qz3 g8 (hx.sl' f8 (q53 l)) (by omega) ?_ l [] rfl⟩
  have c3:q1g .eql (.pointer none) (.pointer none)=some (.bool true):=rfl
  simp only [c3,wd, wa,qu,q06]
  simp
 have cn:q1g .neq (.pointer none) (.pointer none)=some (.bool false):=rfl
 have cb:∀ b:Bool,q9b .neq (.bool b) (.bool b)=some (.bool false):=λ b=>by cases b <;> rfl
 cases hr:q1k b f t with
 | false=>
  obtain ⟨e,s6⟩:=p3 hr
  subst e
  simp only [wd, wa]
  have b6:h6.blk h.next=some [.int .i64 b,.int .i64 f,.int .i64 t]:=by rw [(s6.keep _ (by omega) (by simp)).1]; exact b5
  refine q16 fb b6 rfl ?_
  rw [htv]
  refine qq (ql3 b f t (hx.sl' f6 (q53 l)) hl) λ r h7 ⟨q1,q2,q3⟩ f7=>?_
  obtain ⟨e,s7⟩:=q3 hr
  subst e
  have g7:=(g5.frame s6 (by simp)).frame s7 (by simp)
  simp only [wd, wa,show ((140:Int) != 140)=false from rfl,cn,cb,g7.sl.lenv]
  exact fin 140 h7 f7 g7.sl rfl
 | true=>
  by_cases hok:∀ x,x∈l→q0e x=true
  ·obtain ⟨p,S,A,e,m6,s6⟩:=p1 hr hok
   subst e
   obtain ⟨qp,ep⟩:=m6.ptrV
   subst ep
   have s60:Step h5 h6 [] []:=s6.less (by simp)
   have hn:=(q73 _ _ _).1 hr
   have hrn:q1k ((b.toNat:Nat):Int) ((f.toNat:Nat):Int) ((t.toNat:Nat):Int)=true:=by
    rw [show ((b.toNat:Nat):Int)=b by omega,show ((f.toNat:Nat):Int)=f by omega,show ((t.toNat:Nat):Int)=t by omega]
    exact hr
   obtain ⟨ok,htot⟩:=q0m6 hrn hok
   simp only [wd, wa]
   have b6:h6.blk h.next=some [.int .i64 b,.int .i64 f,.int .i64 t]:=by rw [(s60.keep _ (by omega) (by simp)).1]; exact b5
   refine q16 fb b6 rfl ?_
   rw [htv]
   refine qq (ql3 b f t (hx.sl' f6 (q53 l)) hl) λ r h7 ⟨q1,q2,q3⟩ f7=>?_
   obtain ⟨p',S',A',e,m7,s7⟩:=q1 hr hok
   subst e
   obtain ⟨qr,er⟩:=m7.ptrV
   subst er
   have s70:Step h6 h7 [] []:=s7.less (by simp)
   have g7:=(g5.frame s60 (by simp)).frame s70 (by simp)
   have cp:∀ q,q1g .neq (.pointer (some ⟨q,0,none⟩)) (.pointer none)=some (.bool true):=λ _=>rfl
   have ce:q1g .eql (.pointer (some ⟨qr,0,none⟩)) (.pointer none)=some (.bool false):=rfl
   simp only [wd, wa,show ((0:Int) != 0)=false from rfl,cp,cb,g7.sl.lenv]
   refine ⟨l.length + 1,qz3 g7.sl (hx.sl' f7 (q53 l)) (by omega) ?_ l [] rfl⟩
   simp only [ce,wd, wa]
   refine qq (q0jw (m6.step0 s70) m7 ok hl (by have:=q0m3 ok hl (by omega); omega)) λ u h8 ⟨e,s8⟩ f8=>?_
   subst e
   simp only [wd, wa,qu,q06]
   simp
  ·obtain ⟨e,s6⟩:=p2 hr hok
   subst e
   simp only [wd, wa]
   have b6:h6.blk h.next=some [.int .i64 b,.int .i64 f,.int .i64 t]:=by rw [(s6.keep _ (by omega) (by simp)).1]; exact b5
   refine q16 fb b6 rfl ?_
   rw [htv]
   refine qq (ql3 b f t (hx.sl' f6 (q53 l)) hl) λ r h7 ⟨q1,q2,q3⟩ f7=>?_
   obtain ⟨e,s7⟩:=q2 hr hok
   subst e
   have g7:=(g5.frame s6 (by simp)).frame s7 (by simp)
   simp only [wd, wa,show ((120:Int) != 120)=false from rfl,cn,cb,g7.sl.lenv]
   exact fin 120 h7 f7 g7.sl rfl
end
end Go.Proofs.YtfmoemconapmhaaGreat.Ah
