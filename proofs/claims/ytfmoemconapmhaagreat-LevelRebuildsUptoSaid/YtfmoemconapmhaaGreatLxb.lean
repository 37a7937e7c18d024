/- level.Flush. -/
import Derived.Test.YtfmoemconapmhaaGreatLxa
set_option linter.all false
namespace Go.Proofs.YtfmoemconapmhaaGreat.Ah
open Go
section
variable {w0:World} {h h':Hp}
theorem q7i {l b o i:Nat} {k:IntKind} {K:qh} (hi:i < l) (hk:K (.pointer (some ⟨b,o + i,none⟩)) h):q3i l 1 (.pointer (some ⟨b,o,none⟩)) (.int k (i:Int)) K h:=by
 refine ⟨_,_,_,rfl,rfl,by omega,by omega,?_⟩
 have:(⟨b,o,none⟩:Addr).add ((i:Int).toNat * 1)=⟨b,o + i,none⟩:=by rw [addr_add]; simp
 rw [this]
 exact hk
theorem qh6 (s:LS) (mp:Value) (sls:List Value) (i:Nat):(q0m s++mp :: sls)[4 + i]?=sls[i]?:=by
 rw [Nat.add_comm]; rfl
theorem qh9 (s:LS) (mp:Value) (sls:List Value) (i:Nat) (v:Value):(q0m s++mp :: sls).set (4 + i) v=q0m s++mp :: sls.set i v:=by
 rw [Nat.add_comm]; rfl
theorem q55 (s:LS) (mp:Value) (sls:List Value):(q0m s++mp :: sls).length=4 + sls.length:=by simp [q0m]; omega
theorem q5k {sls:List Value} {n i:Nat} (h:sls.length=n) (hi:i < n):∃ v,sls[i]?=some v:=⟨sls[i],by simp [h,hi]⟩
theorem Lvl.cons {A A' S U:List Nat} {bl:Nat} {v' r:Value} {l:List Ent} {ls:List (List Ent)} {ps:List (Value × List Ent)} (e:ls=ps.map (·.2)) (hp:∀ p:Value × List Ent,p∈ps→∃ S,Rb w0 h p.1 p.2 bl S∧∀ b,b∈S→b∈A)
  (m:Rb w0 h r l bl S) (hS:∀ b,b∈S→b∈A') (hv:Vec w0 h 1 v' (ps.length + 1) (r :: ps.map (·.1)) U) (hU:∀ b,b∈U→b∈A') (hA:∀ b,b∈A→b∈A'):Lvl w0 h A' bl v' (l :: ls):=by
 refine ⟨(r,l) :: ps,by simp [e],by simpa using hv.sl,λ b hb=>?_,λ p hp'=>?_⟩
 ·rw [hv.sblk_eq] at hb
  exact hU b hb
 ·rcases List.mem_cons.1 hp' with q | q
  ·subst q
   exact ⟨S,m,hS⟩
  ·obtain ⟨S1,a,b⟩:=hp p q
   exact ⟨S1,a,λ b' hb=>hA b' (b b' hb)⟩
theorem qzz (h:Hp) (r:Value) (p:Nat) (e:r=ptr p):(h.new [r] 1).um h.next=true:=by
 subst e
 show (if h.next=h.next then _ else _)=true
 rw [if_pos rfl]
 rfl
theorem Rb.ptr {r:Value} {l:List Ent} {bl:Nat} {S:List Nat} (m:Rb w0 h r l bl S):∃ p,r=Ah.ptr p:=by
 obtain ⟨n,S1,p,y,c1,c2,Sy,a1,a2,-⟩:=m
 exact ⟨p,a2⟩
theorem q0lk {r:Value} {s:LS} {S A:List Nat} (m:Lv w0 h r s S A) (hb1:256≤s.bl) (hb2:s.bl≤4096) (hc:q27 s.mem=true) (hz:q0f s.mem≤1048576) (hr:(s.lv.getD 0 []).length≤1000000):
  qf prog w0 qj1 [r] h λ v h'=>∃ S' N,v=.bool (decide (s.mem≠[]))∧Lv w0 h' r s.flush S' (N++A)∧Step h h' S (S'++N):=by
 refine qf.of_fit (by simpa using m.nj) λ f=>q07b (by simpa using m.nj) ?_
 simp only [qqx]
 have hSlt:=m.lt
 have hAlt:=m.ltA
 have mm:=m
 refine qq (q72 m) λ v h1 ⟨e,e'⟩ f1=>?_
 subst e e'
 obtain ⟨q,mp,M,sls,a1,a2,a3,a4,a5,a6,a7,a8,a9,b1,b2,b3⟩:=m
 subst a1 a5
 have hbq:∀ hi:Hp,Step h1 hi [] []→hi.blk q=some (q0m s++mp :: sls):=λ hi st=>by rw [(st.keep q a8 (by simp)).1]; exact a2
 simp only [ptr,wd, wa]
 refine qj a7 a2 rfl ?_
 refine qq (q007 a4) λ v h2 ⟨e,e'⟩ f2=>?_
 subst e e'
 cases hm:s.mem with
 | nil=>
  have:s.flush=s:=if_pos hm
  have c0:(((([]:List Ent).length:Nat):Int) == 0)=true:=rfl
  simp only [c0,wd, wa,qu,q06]
  refine ⟨by simp,q :: M,[],by simp,by rw [this]; exact mm,?_⟩
  rw [List.append_nil]
  exact .refl _ _ λ b hb=>(hSlt b hb).2
 | cons x0 l0=>
 have hmne:s.mem≠[]:=by rw [hm]; simp
 rw [← hm]
 have hlen0:¬ s.mem.length=0:=λ e=>hmne (List.eq_nil_of_length_eq_zero e)
 have c0:((s.mem.length:Int) == 0)=false:=by simp [hmne]
 simp only [c0,wd, wa,qka]
 obtain ⟨v0,hv0⟩:=q5k a3 (i:=0) (by omega)
 have hL0:=b3 0 v0 hv0
 obtain ⟨ps,ep,hsl,hsb,hpr⟩:=hL0
 refine q7i (i:=0) (by omega) ?_
 refine qj a7 a2 (by rw [qh6]; exact hv0) ?_
 refine qj a7 a2 rfl ?_
 refine qj a7 a2 rfl ?_
 have hpl:ps.length≤1000000:=by rw [ep,List.length_map] at hr; exact hr
 refine qq (qy6 hsl (by omega)) λ v20 h3 ⟨U1,g1,gv1,s1⟩ f3=>?_
 have bq3:=hbq h3 (s1.less (by simp))
 simp only [q3o,q3z,q32,q4n]
 refine ⟨⟨qj a7 bq3 rfl rfl,qj a7 bq3 rfl rfl⟩,?_⟩
 have m3:=a4.frame s1 (by simp)
 refine qq (qlo m3) λ v25 h4 ⟨q4,e,bq4,n4,l4,s2⟩ f4=>?_
 subst e
 have st4:Step h2 h4 [] []:=(s1.less (T:=[]) (by simp)).trans s2
 simp only [q3o,q3z,q32,q4n]
 refine ⟨qj a7 (hbq h4 st4) rfl rfl,?_⟩
 have m4:=m3.frame s2 (by simp)
 refine qq (q0f7 bq4 (Nat.le_trans f3.base n4) m4) λ v26 h5 ⟨S3,g3,s3⟩ f5=>?_
 have st5:Step h2 h5 [] []:=st4.trans (s3.less (T:=[]) (by simp))
 simp only [q3o,q3z,q32,q4n]
 refine ⟨qj a7 (hbq h5 st5) rfl rfl,?_⟩
 refine qq (ql7 hb1 hb2 hc hz g3.sl) λ r4 h6 ⟨S4,mR,s4⟩ f6=>?_
 obtain ⟨p4,ep4⟩:=mR.ptr
 have st6:Step h2 h6 [] []:=st5.trans (s4.less (T:=[]) (by simp))
 refine q7k mR.isC ?_
 have um5:=qzz h6 r4 p4 ep4
 have s5:Step h6 (h6.new [r4] 1) [] [h6.next]:=(Step.refl h6 [] (by simp)).new _ _
 have bq5:(h6.new [r4] 1).blk h6.next=some [r4]:=by simp
 have ez5:(h6.new [r4] 1).esz h6.next=1:=by simp
 have f7:Fit w0 (h6.new [r4] 1):=f6.new (by simpa using mR.isC)
 have fb6:=f6.base
 have n7:h6.next < (h6.new [r4] 1).next:=by simp
 have hn1:=s1.1
 have hn2:=s2.1
 have hn3:=s3.1
 have hn4:=s4.1
 have sA:Step h3 (h6.new [r4] 1) [] []:=((s2.trans (s3.less (T:=[]) (by simp))).trans (s4.less (T:=[]) (by simp))).trans (s5.less (T:=[]) (by simp))
 have mR7:=mR.frame s5 (by simp)
 have hU1:∀ b,b∈U1→b < h3.next:=λ b hb=>(s1.own b hb).1
 have hS4:∀ b,b∈S4→h5.next≤b:=λ b hb=>by
  rcases (s4.own b hb).2 with w | w
  ·simp at w
  ·exact w
 generalize h6.new [r4] 1=h7 at *
 have g7:=g1.frame sA (by simp)
 have gv7:0 < ps.length→Vec w0 h7 1 v20 ps.length (ps.map (·.1)) U1:=λ h0=>(gv1 h0).frame sA (by simp)
 refine qq (qxp (i:=0) g7 gv7 (Nat.zero_le _) (by omega) fb6 bq5 ez5 rfl (λ w=>by have:=hU1 _ w; omega) um5) λ v34 h8 ⟨U6,g8,s6⟩ f8=>?_
 simp only [Nat.zero_mul,List.take_zero,List.drop_zero,List.nil_append,List.singleton_append] at g8
 have hq7:q∉U1:=λ w=>by
  rcases (s1.own _ w).2 with w' | w'
  ·simp at w'
  ·omega
 have bq8:h8.blk q=some (q0m s++mp :: sls):=by
  have:q < h7.next:=by omega
  rw [(s6.keep q this hq7).1,(sA.keep q (by omega) (by simp)).1]
  exact bq3
 refine q7i (i:=0) (by omega) ?_
 refine q21 a7 bq8 (by rw [q55]; omega) (by obtain ⟨a,c,e⟩:=g8.slice; rw [e]; rfl) ?_
 rw [qh9]
 have hn6:=s6.1
 have sP:Step h8 (h8.put q (q0m s++mp :: sls.set 0 v34)) [q] [q]:=(Step.refl h8 [q] (by simp; omega)).put (by simp) _
 have bP:(h8.put q (q0m s++mp :: sls.set 0 v34)).blk q=some (q0m s++mp :: sls.set 0 v34):=by simp
 have mR8:Rb w0 h8 r4 s.mem s.bl S4:=mR7.frame s6 (λ b hb w=>by have:=hU1 _ w; have:=hS4 _ hb; omega)
 have hMq:∀ b,b∈M→b≠q:=λ b hb e=>a6 (by rw [← e]; exact hb)
 have hMlt:∀ b,b∈M→w0.heap.size≤b∧b < h2.next:=λ b hb=>hSlt b (by simp [hb])
 have hMU:∀ b,b∈M→b∉U1:=λ b hb w=>by
  rcases (s1.own _ w).2 with w' | w'
  ·simp at w'
  ·have:=(hMlt b hb).2; omega
 have m8:Me w0 h8 mp s.mem M:=(m3.frame sA (by simp)).frame s6 hMU
 have m9:=m8.frame sP (by simpa using hMq)
 have hU6:∀ b,b∈U6→h2.next≤b:=λ b hb=>by
  rcases (s6.own b hb).2 with w | w
  ·rcases (s1.own _ w).2 with w' | w'
   ·simp at w'
   ·exact w'
  ·omega
 have g9:=g8.frame sP (by simpa using λ b hb (e:b=q)=>by have:=hU6 b hb; omega)
 have mR9:=mR8.frame sP (by simpa using λ b hb (e:b=q)=>by have:=hS4 b hb; omega)
 have nP:(h8.put q (q0m s++mp :: sls.set 0 v34)).next=h8.next:=rfl
 have s07:Step h2 h8 [] (U6++S4):=by
  have t1:Step h2 h5 [] U1:=s1.trans ((s2.trans (s3.less (T:=[]) (by simp))).keepS hU1)
  have t2:Step h2 h6 [] (S4++U1):=t1.trans (s4.more U1 (λ b hb=>by have:=hU1 b hb; omega))
  have t3:Step h2 h7 [] (S4++U1):=t2.trans ((s5.less (T:=[]) (by simp)).keepS (λ b hb=>(t2.own b hb).1))
  have t4:Step h7 h8 (U1++S4) (U6++S4):=s6.more S4 (λ b hb=>by have:=(mR7.lt b hb).2; omega)
  exact (t3.weaken (S:=[]) (T:=[]) (T':=U1++S4) (by simp) (λ b hb=>.inl (by simp at hb ⊢; rcases hb with w | w <;> simp [w]))).trans t4
 refine qj a7 bP rfl ?_
 generalize h8.put q (q0m s++mp :: sls.set 0 v34)=h9 at *
 refine qq (q0l6 m9) λ v42 h10 ⟨M',m10,s10⟩ f10=>?_
 simp only [qu,q06]
 have hflush:s.flush = { s with mem:=[],lv:=s.lv.set 0 (s.mem :: s.lv.getD 0 []) }:=if_neg hmne
 have own10:∀ b,b∈M'→b∈M∨h9.next≤b:=λ b hb=>(s10.own b hb).2
 have hAM:∀ b,b∈A→b∉M:=λ b hb w=>b1 b (by simp [w]) hb
 have hUS:∀ b,b∈U6++S4→h2.next≤b∧b < h9.next:=λ b hb=>⟨by
  rcases List.mem_append.1 hb with w | w
  ·exact hU6 b w
  ·have:=hS4 b w; omega,by have:=(s07.own b hb).1; omega⟩
 have hA0:∀ b,b∈A→b∉([]:List Nat):=by simp
 have hn10:=s10.1
 refine ⟨by simp,q :: M',U6++S4,by simp [hmne],?_,?_⟩
 ·rw [hflush]
  have bq10:h10.blk q=some (q0m s++mp :: sls.set 0 v34):=by rw [(s10.keep q (by omega) a6).1]; exact bP
  refine ⟨q,mp,M',sls.set 0 v34,rfl,bq10,by simpa using a3,m10,rfl,λ w=>?_,a7,by omega,λ b hb=>?_,λ b hb hb2=>?_,by simpa using b2,λ i v hi=>?_⟩
  ·rcases own10 q w with w | w
   ·exact a6 w
   ·omega
  ·rcases List.mem_append.1 hb with w | w
   ·have:=hUS b w; omega
   ·have:=a9 b w; omega
  ·rcases List.mem_append.1 hb2 with w | w
   ·have:=hUS b w
    rcases List.mem_cons.1 hb with w' | w'
    ·omega
    ·rcases own10 b w' with w'' | w''
     ·have:=hMlt b w''; omega
     ·omega
   ·rcases List.mem_cons.1 hb with w' | w'
    ·rw [w'] at w; exact b1 q (by simp) w
    ·rcases own10 b w' with w'' | w''
     ·exact b1 b (by simp [w'']) w
     ·have:=a9 b w; omega
  ·-- the levels
   have fr:∀ {v:Value} {ls:List (List Ent)},Lvl w0 h2 A s.bl v ls→Lvl w0 h10 A s.bl v ls:=λ hL=>by
    have L8:=hL.frame a9 s07 hA0
    have L9:=L8.frame (λ b hb=>by have:=a9 b hb; omega) sP (by simpa using λ b hb (e:b=q)=>by rw [e] at hb; exact b1 q (by simp) hb)
    exact L9.frame (λ b hb=>by have:=a9 b hb; omega) s10 hAM
   by_cases hi0:i=0
   ·subst hi0
    rw [List.getElem?_set_self (by omega)] at hi
    cases hi
    have:({ s with mem:=[],lv:=s.lv.set 0 (s.mem :: s.lv.getD 0 []) }:LS).lv.getD 0 []=s.mem :: s.lv.getD 0 []:=by
     rw [List.getD_eq_getElem?_getD,List.getElem?_set_self (by omega)]
     rfl
    rw [this]
    have hL0:Lvl w0 h10 A s.bl v0 (s.lv.getD 0 []):=fr (b3 0 v0 hv0)
    have mR10:=mR9.frame s10 (λ b hb w=>by have:=hS4 b hb; have:=hMlt b w; omega)
    have g10:=g9.frame s10 (λ b hb w=>by have:=hU6 b hb; have:=hMlt b w; omega)
    refine Lvl.cons (A:=A) ep (λ p hp=>?_) mR10 (by simp +contextual) g10 (by simp +contextual) (by simp +contextual)
    obtain ⟨S1,r1,hS1⟩:=hpr p hp
    have r8:=r1.frame s07 (by simp)
    have r9:=r8.frame sP (by simpa using λ b hb (e:b=q)=>by rw [e] at hb; exact b1 q (by simp) (hS1 q hb))
    exact ⟨S1,r9.frame s10 (λ b hb=>hAM b (hS1 b hb)),hS1⟩
   ·rw [List.getElem?_set_ne (by omega)] at hi
    have:({ s with mem:=[],lv:=s.lv.set 0 (s.mem :: s.lv.getD 0 []) }:LS).lv.getD i []=s.lv.getD i []:=by
     rw [List.getD_eq_getElem?_getD,List.getElem?_set_ne (by omega),← List.getD_eq_getElem?_getD]
    rw [this]
    exact (fr (b3 i v hi)).more (by simp +contextual)
 ·have t1:Step h2 h8 (q :: M) ((q :: M)++(U6++S4)):=s07.wide (by simp) (λ b hb=>by
   rcases List.mem_append.1 hb with w | w
   ·exact .inr ⟨w,(hSlt b w).2⟩
   ·exact .inl w)
  have t2:Step h8 h9 ((q :: M)++(U6++S4)) ((q :: M)++(U6++S4)):=sP.wide (by simp) (λ b hb=>.inr ⟨hb,(t1.own b hb).1⟩)
  have t3:Step h9 h10 ((q :: M)++(U6++S4)) ((q :: M')++(U6++S4)):=s10.wide (by simp +contextual) (λ b hb=>by
   rcases List.mem_append.1 hb with w | w
   ·rcases List.mem_cons.1 w with w | w
    ·exact .inr ⟨by simp [w],by omega⟩
    ·exact .inl w
   ·exact .inr ⟨by simp at w ⊢; rcases w with w | w <;> simp [w],(hUS b w).2⟩)
  exact (t1.trans t2).trans t3
end
theorem q0jf {l:List Ent} (h:l≠[]):4≤q0f l:=by
 cases l with
 | nil=>exact absurd rfl h
 | cons x t=>rw [q47]; omega
theorem qzt:∀ (ls:List (List Ent)),(∀ l,l∈ls→l≠[])→ls.length * 4≤(ls.map q0f).sum
 | [],_=>by simp
 | l :: ls,h=>by
  have h1:=qzt ls λ m hm=>h m (by simp [hm])
  have h2:=q0jf (h l (by simp))
  simp only [List.length_cons,List.map_cons,List.sum_cons]
  omega
theorem LOk.runs {s:LS} {W:Nat} (o:LOk s W):s.lv.flatten.length * 4≤W:=by
 have h1:=qzt s.lv.flatten λ l hl=>by
  obtain ⟨r,hr,hl⟩:=List.mem_flatten.1 hl
  exact (o.rok r hr l hl).2
 have:=o.size
 omega
theorem q0mj {α:Type} {lv:List (List α)} {r:List α} (h:r∈lv):r.length≤lv.flatten.length:=by
 rw [List.length_flatten]
 exact qco List.length h
theorem LOk.lvl {s:LS} {W:Nat} (o:LOk s W) (i:Nat):(s.lv.getD i []).length * 4≤W:=by
 have h1:=o.runs
 rw [List.getD_eq_getElem?_getD]
 cases h:s.lv[i]? with
 | none=>simp
 | some r=>
  have:=q0mj (List.mem_of_getElem? h)
  simp only [Option.getD_some]
  omega
section
variable {w0:World} {h h':Hp}
theorem Lv.turn {r:Value} {s:LS} {S A:List Nat} (m:Lv w0 h r s S A):∃ q mp M sls,r=ptr q∧S=q :: M∧q∉M∧w0.heap.size≤q∧q < h.next∧h.blk q=some (q0m s++mp :: sls)∧Me w0 h mp s.mem M∧
  ∀ h' mem' M',Me w0 h' mp mem' M'→Step h h' M M'→Lv w0 h' r { s with mem:=mem' } (q :: M') A∧Step h h' S (q :: M'):=by
 have hSlt:=m.lt
 obtain ⟨q,mp,M,sls,a1,a2,a3,a4,a5,a6,a7,a8,a9,b1,b2,b3⟩:=m
 subst a1 a5
 refine ⟨q,mp,M,sls,rfl,rfl,a6,a7,a8,a2,a4,λ h2 mem' M' m2 st=>?_⟩
 have own:∀ b,b∈M'→b∈M∨h.next≤b:=λ b hb=>(st.own b hb).2
 have hn:=st.1
 have hq:q∉M':=λ w=>by
  rcases own q w with w | w
  ·exact a6 w
  ·omega
 have hAM:∀ b,b∈A→b∉M:=λ b hb w=>b1 b (by simp [w]) hb
 refine ⟨⟨q,mp,M',sls,rfl,by rw [(st.keep q a8 a6).1]; exact a2,a3,m2,rfl,hq,a7,by omega,λ b hb=>by have:=a9 b hb; omega,λ b hb hb2=>?_,b2,λ i v hi=>(b3 i v hi).frame a9 st hAM⟩,?_⟩
 ·rcases List.mem_cons.1 hb with w | w
  ·rw [w] at hb2; exact b1 q (by simp) hb2
  ·rcases own b w with w | w
   ·exact b1 b (by simp [w]) hb2
   ·have:=a9 b hb2; omega
 ·exact st.wide (λ b hb=>by simp [hb]) (λ b hb=>by
   rcases List.mem_cons.1 hb with w | w
   ·exact .inr ⟨by simp [w],by omega⟩
   ·exact .inl w)
theorem q008 {r fv:Value} {s:LS} {S A:List Nat} {W:Nat} {x:Ent} (m:Lv w0 h r s S A) (o:LOk s W) (hW:W + (x.k.length + x.v.length + 4)≤1048576) (hfj:fv≠junk)
  (hcall:∀ mp M,Me w0 h mp s.mem M→q1n prog w0 fv [mp] (λ u h'=>∃ M',u=.int .i64 (if q0e x=true then 0 else 120)∧Me w0 h' mp (if q0e x=true then q1f s.mem x else s.mem) M'∧Step h h' M M') h):
  qf prog w0 qev [r,fv] h λ u h'=>∃ S' N,u=.int .i64 (if q0e x=true then 0 else 120)∧Lv w0 h' r (if q0e x=true then s.put x else s) S' (N++A)∧Step h h' S (S'++N):=by
 refine qf.of_fit (by simp [m.nj,hfj]) λ f=>q09h (by simp [m.nj,hfj]) ?_
 simp only [qsx]
 refine qq (q72 m) λ v h1 ⟨e,e'⟩ f1=>?_
 subst e
 subst h1
 obtain ⟨q,mp,M,sls,a1,a2,a3,a4,a5,a6,a7,a8⟩:=m.turn
 subst a1 a2
 simp only [ptr,wd, wa]
 refine qj a4 a6 rfl ?_
 refine q54 (hcall mp M a7) λ u h2 ⟨M',e,m2,s2⟩ f2=>?_
 subst e
 obtain ⟨m3,s3⟩:=a8 h2 _ M' m2 s2
 cases hx:q0e x with
 | false=>
  rw [hx] at m3
  have c0:((120:Int) != 0)=true:=rfl
  simp only [if_false,Bool.false_eq_true,c0,wd, wa,qu,q06]
  exact ⟨by simp,q :: M',[],trivial,m3,by simpa using s3⟩
 | true=>
  rw [hx] at m3 m2
  simp only [if_true] at m3 m2
  simp only [if_true,bne_self_eq_false,wd, wa]
  have a6':h2.blk q=some (q0m s++mp :: sls):=by rw [(s2.keep q a5 a3).1]; exact a6
  refine qj a4 a6' rfl ?_
  refine qj a4 a6' rfl ?_
  refine qq (q007 m2) λ v h3 ⟨e,e'⟩ f3=>?_
  subst e
  subst h3
  simp only [q3o,q3z,q32,q4n]
  refine ⟨qj a4 a6' rfl rfl,?_⟩
  simp only [wd, wa]
  by_cases ht:s.top≤(q1f s.mem x).length
  ·have c1:decide ((s.top:Int)≤((q1f s.mem x).length:Int))=true:=decide_eq_true (by omega)
   simp only [c1,wd, wa]
   have hn:=o.num
   have hsz:=o.size
   have h9:=qkz s.mem x
   have h8:=o.lvl 0
   refine qq (q0lk m3 hn.1 hn.2.1 (qgo (λ y hy=>?_) (qai o.msrt x)) (by simp only; omega) (by simp only; omega)) λ v h4 ⟨S4,N4,e,m4,s4⟩ f4=>?_
   ·rcases qll hy with e | e
    ·rw [e]; exact hx
    ·exact o.mright y e
   ·simp only [qu,q06]
    refine ⟨by simp,S4,N4,trivial,?_,s3.trans s4⟩
    rw [LS.put,if_pos ht]
    exact m4
  ·have c1:decide ((s.top:Int)≤((q1f s.mem x).length:Int))=false:=decide_eq_false (by omega)
   simp only [c1,wd, wa,qu,q06]
   refine ⟨by simp,q :: M',[],trivial,?_,by simpa using s3⟩
   rw [LS.put,if_neg ht]
   exact m3
theorem qmz {r:Value} {s:LS} {S A:List Nat} {W:Nat} (k v:Key) (m:Lv w0 h r s S A) (o:LOk s W) (hW:W + (k.length + v.length + 4)≤1048576):
  qf prog w0 qbn [r,.string (str k),.string (str v)] h λ u h'=>∃ S' N,u=.int .i64 (if q0e ⟨k,v,false⟩=true then 0 else 120)∧Lv w0 h' r (if q0e ⟨k,v,false⟩=true then s.put ⟨k,v,false⟩ else s) S' (N++A)∧Step h h' S (S'++N):=by
 refine qf.of_fit (by simp [m.nj]) λ f=>q08t (by simp [m.nj]) ?_
 simp only [qta]
 refine ⟨rfl,rfl,?_⟩
 have s1:Step h (h.new [.string (str k)] 1) [] [h.next]:=(Step.refl h [] (by simp)).new _ _
 have b1:(h.new [.string (str k)] 1).blk h.next=some [.string (str k)]:=by simp
 have n1:h.next < (h.new [.string (str k)] 1).next:=by simp
 generalize hp1:h.new [.string (str k)] 1=h1 at *
 have s2:Step h1 (h1.new [.string (str v)] 1) [] [h1.next]:=(Step.refl h1 [] (by simp)).new _ _
 have b2:(h1.new [.string (str v)] 1).blk h1.next=some [.string (str v)]:=by simp
 have b1':(h1.new [.string (str v)] 1).blk h.next=some [.string (str k)]:=by rw [(s2.keep _ n1 (by simp)).1]; exact b1
 have fb:=f.base
 have fb1:w0.heap.size≤h1.next:=by have:=s1.1; omega
 have st:Step h (h1.new [.string (str v)] 1) [] []:=(s1.less (T:=[]) (by simp)).trans (s2.less (T:=[]) (by simp))
 generalize h1.new [.string (str v)] 1=h2 at *
 have m2:=m.step0 st
 have hq1:h1.next < h2.next:=by have:=f.base; have:=(s2.own h1.next (by simp)).1; exact this
 refine ⟨by simp [junk],?_⟩
 show qi _ _ _ [_,.func (.func qis) #[] #[.pointer (some ⟨h.next,0,none⟩),.pointer (some ⟨h1.next,0,none⟩)]] _ h2
 refine qq (q008 (x:=⟨k,v,false⟩) m2 o hW (by simp [junk]) λ mp M mm=>?_) λ u h3 ⟨S',N,e,m3,s3⟩ f3=>?_
 ·refine q4o (R:=λ u h'=>∃ M',u=.int .i64 (if q0e ⟨k,v,false⟩=true then 0 else 120)∧Me w0 h' mp (if q0e ⟨k,v,false⟩=true then q1f s.mem ⟨k,v,false⟩ else s.mem) M'∧Step h2 h' M M') (by kernel_rfl) ?_ λ u h' hr f'=>hr
  refine qf.of_fit (by simp [mm.nj,ptr]) λ f2=>q06a (by simp [mm.nj,ptr]) ?_
  simp only [qqg]
  refine qj fb b1' rfl ?_
  refine qj fb1 b2 rfl ?_
  have hml:=o.mtop
  have hn:=o.num
  refine qq (q00b mm (by omega) k v) λ u h3 ⟨M',e,m3,s3⟩ f3=>?_
  simp only [qu,q06]
  exact ⟨by rw [e]; simp,M',e,m3,s3⟩
 ·subst e
  simp only [qu,q06]
  refine ⟨by simp,S',N,trivial,m3,(st.keepS λ b hb=>(m.lt b hb).2).trans s3⟩
theorem q0j2 {r:Value} {s:LS} {S A:List Nat} {W:Nat} (k:Key) (m:Lv w0 h r s S A) (o:LOk s W) (hW:W + (k.length + 4)≤1048576):
  qf prog w0 qir [r,.string (str k)] h λ u h'=>∃ S' N,u=.int .i64 (if q0e ⟨k,[],true⟩=true then 0 else 120)∧Lv w0 h' r (if q0e ⟨k,[],true⟩=true then s.put ⟨k,[],true⟩ else s) S' (N++A)∧Step h h' S (S'++N):=by
 refine qf.of_fit (by simp [m.nj]) λ f=>q067 (by simp [m.nj]) ?_
 simp only [qq9]
 refine ⟨rfl,?_⟩
 have s1:Step h (h.new [.string (str k)] 1) [] [h.next]:=(Step.refl h [] (by simp)).new _ _
 have b1:(h.new [.string (str k)] 1).blk h.next=some [.string (str k)]:=by simp
 have st:=s1.less (T:=[]) (by simp)
 have fb:=f.base
 refine ⟨by simp [junk],?_⟩
 show qi _ _ _ _ _ (h.new [.string (str k)] 1)
 generalize h.new [.string (str k)] 1=h2 at *
 have m2:=m.step0 st
 show qi _ _ _ [_,.func (.func qig) #[] #[.pointer (some ⟨h.next,0,none⟩)]] _ h2
 refine qq (q008 (x:=⟨k,[],true⟩) m2 o (by simpa using hW) (by simp [junk]) λ mp M mm=>?_) λ u h3 ⟨S',N,e,m3,s3⟩ f3=>?_
 ·refine q4o (R:=λ u h'=>∃ M',u=.int .i64 (if q0e ⟨k,[],true⟩=true then 0 else 120)∧Me w0 h' mp (if q0e ⟨k,[],true⟩=true then q1f s.mem ⟨k,[],true⟩ else s.mem) M'∧Step h2 h' M M') (by kernel_rfl) ?_ λ u h' hr f'=>hr
  refine qf.of_fit (by simp [mm.nj,ptr]) λ f2=>q04o (by simp [mm.nj,ptr]) ?_
  simp only [qpn]
  refine qj fb b1 rfl ?_
  have hml:=o.mtop
  have hn:=o.num
  refine qq (qxi mm (by omega) k) λ u h3 ⟨M',e,m3,s3⟩ f3=>?_
  simp only [qu,q06]
  exact ⟨by rw [e]; simp,M',e,m3,s3⟩
 ·subst e
  simp only [qu,q06]
  refine ⟨by simp,S',N,trivial,m3,(st.keepS λ b hb=>(m.lt b hb).2).trans s3⟩
end
theorem qcb {sls:List Value} {i:Nat} {v:Value} (h:sls.length=16) (hi:sls[i]?=some v):q5m false 16 1 (.agg sls.toArray) (.int .i64 (i:Int))=some v:=by
 have:=(List.getElem?_eq_some_iff.1 hi).1
 have e1:((i:Int).toNat * 1)=i:=by omega
 simp only [q5m,qd8,e1]
 rw [if_pos (by omega)]
 simpa using hi
section
variable {w0:World} {h h':Hp}
theorem q0iv {k0 kr:Value→Value→Hp→Prop} {q:Nat} {s:LS} {mp x2 x3:Value} {sls:List Value} (hq:w0.heap.size≤q) (hb:h.blk q=some (q0m s++mp :: sls)) (hl:sls.length=16) (hlv:s.lv.length=16)
  (hv:∀ (i:Nat) v,sls[i]?=some v→q05 v=some (.int .i64 ((s.lv.getD i []).length:Int))):∀ (k i:Nat),i + k=16→
   ((s.lv.drop i).findIdx? (λ r=>decide (s.fan≤r.length))=none→k0 x2 x3 h)→(∀ n,(s.lv.drop i).findIdx? (λ r=>decide (s.fan≤r.length))=some n→kr (.int .i64 ((i + n:Nat):Int)) (.bool true) h)→
   q8e prog w0 k0 kr (k + 1) (ptr q) x2 x3 (.agg sls.toArray) (.int .i64 (i:Int)) h:=by
 intro k
 induction k with
 | zero=>
  intro i hi h0 h1
  have:i=16:=by omega
  subst this
  rw [q8e]
  have c1:decide (((16:Nat):Int) < 16)=false:=rfl
  simp only [qeg,wd, wa,c1]
  exact h0 (by rw [List.drop_of_length_le (by omega)]; rfl)
 | succ k ih=>
  intro i hi h0 h1
  obtain ⟨v,hvi⟩:=q5k hl (i:=i) (by omega)
  have c1:decide ((i:Int) < 16)=true:=decide_eq_true (by omega)
  have e6:=wrN i (by omega)
  have hd:s.lv.drop i=s.lv.getD i [] :: s.lv.drop (i + 1):=by
   rw [List.drop_eq_getElem_cons (by omega),List.getD_eq_getElem?_getD,List.getElem?_eq_getElem (by omega)]
   rfl
  rw [hd,List.findIdx?_cons] at h0 h1
  rw [q8e]
  simp only [qeg,wd, wa,c1,qcb hl hvi,hv i v hvi,ptr]
  refine qj hq hb rfl ?_
  simp only [wd, wa]
  by_cases hf:s.fan≤(s.lv.getD i []).length
  ·have c2:decide ((s.fan:Int)≤((s.lv.getD i []).length:Int))=true:=decide_eq_true (by omega)
   have c3:decide (s.fan≤(s.lv.getD i []).length)=true:=decide_eq_true hf
   simp only [c2,wd, wa]
   have:=h1 0 (by rw [c3]; rfl)
   simpa using this
  ·have c2:decide ((s.fan:Int)≤((s.lv.getD i []).length:Int))=false:=decide_eq_false (by omega)
   have c3:decide (s.fan≤(s.lv.getD i []).length)=false:=decide_eq_false hf
   simp only [c2,wd, wa,e6]
   refine ih (i + 1) (by omega) (λ hn=>h0 (by rw [c3,hn]; rfl)) λ n hn=>?_
   have:=h1 (n + 1) (by rw [c3,hn]; rfl)
   rw [show i + (n + 1)=i + 1 + n by omega] at this
   exact this
theorem q0ja {r:Value} {s:LS} {S A:List Nat} (m:Lv w0 h r s S A):qf prog w0 qjf [r] h λ v h'=>(match q5q s.lv s.fan with | some n=>v=.tuple #[.int .i64 (n:Int),.bool true] | none=>v=.tuple #[.int .i64 0,.bool false])∧h'=h:=by
 refine qf.of_fit (by simpa using m.nj) λ f=>q08c (by simpa using m.nj) ?_
 obtain ⟨q,mp,M,sls,a1,a2,a3,a4,a5,a6,a7,a8,a9,b1,b2,b3⟩:=m
 subst a1
 simp only [qj8,ptr,wd, wa]
 refine q9a (e:=sls) a7 a2 ?_ ?_
 ·rw [if_pos (by rw [q55]; omega)]
  show (sls:List Value).take 16=sls
  exact List.take_of_length_le (by omega)
 refine ⟨16 + 1,q0iv (q:=q) (s:=s) a7 a2 a3 b2 (λ i v hi=>(b3 i v hi).lenv) 16 0 rfl (λ hn=>?_) λ n hn=>?_⟩
 ·have:q5q s.lv s.fan=none:=by simpa [q5q] using hn
  simp only [this,qu,q19]
  exact ⟨by simp,trivial,trivial⟩
 ·have:q5q s.lv s.fan=some n:=by simpa [q5q] using hn
  simp only [this,qu,q19]
  exact ⟨by simp,by simp,trivial⟩
theorem q0n8 {v:Value} {n:Nat} (hv:q05 v=some (.int .i64 (n:Int))) (hj:v≠junk):qf prog w0 qbd [v] h λ u h'=>u=.bool (decide (0 < n))∧h'=h:=by
 refine qf.of_fit (by simpa using hj) λ f=>q05t (by simpa using hj) ?_
 have c1:decide ((0:Int) < (n:Int))=decide (0 < n):=by simp
 simp only [qpw,hv,wd, wa,c1,qu,q06]
 exact ⟨by simp,trivial,trivial⟩
theorem q0ho {k0 kr:Value→Hp→Prop} {x x4:Value} {vs:List Value} {ls:List (List (List Ent))} (hx:Sl w0 h 1 x vs.length vs) (hvl:vs.length=ls.length) (hn:vs.length≤1000) (hv:∀ (i:Nat) v,vs[i]?=some v→v≠junk∧q05 v=some (.int .i64 ((ls.getD i []).length:Int)))
  (h0:(∀ r,r∈ls→r=[])→k0 x4 h) (h1:∀ n:Nat,(∃ r,r∈ls∧r≠[])→kr (.int .i64 (n:Int)) h):∀ (k i:Nat),i + k=vs.length→(∀ j,j < i→ls.getD j []=[])→
   q7n prog w0 k0 kr (k + 1) x (.func (.func qbd) #[] #[]) x4 (.int .i64 (vs.length:Int)) (.int .i64 (i:Int)) h:=by
 intro k
 induction k with
 | zero=>
  intro i hi hp
  have:i=vs.length:=by omega
  subst this
  rw [q7n]
  simp only [qdd,wd, wa,Int.lt_irrefl,decide_false]
  refine h0 λ r hr=>?_
  obtain ⟨j,hj⟩:=List.getElem?_of_mem hr
  have:=hp j (by rw [hvl]; exact (List.getElem?_eq_some_iff.1 hj).1)
  rw [List.getD_eq_getElem?_getD,hj] at this
  exact this
 | succ k ih=>
  intro i hi hp
  obtain ⟨v,hvi⟩:=q5k (rfl:vs.length=vs.length) (i:=i) (by omega)
  obtain ⟨hj,hlv⟩:=hv i v hvi
  have c1:decide ((i:Int) < (vs.length:Int))=true:=decide_eq_true (by omega)
  have e6:=wrN i (by omega)
  rw [q7n]
  simp only [qdd,wd, wa,c1]
  refine hx.one hvi ?_
  refine q4o (by kernel_rfl) (q0n8 hlv hj) λ u h2 ⟨e,e'⟩ f2=>?_
  subst e e'
  by_cases hr:0 < (ls.getD i []).length
  ·have c2:decide (0 < (ls.getD i []).length)=true:=decide_eq_true hr
   simp only [c2,wd, wa]
   refine h1 i ⟨ls.getD i [],?_,λ e=>by rw [e] at hr; simp at hr⟩
   rw [List.getD_eq_getElem?_getD,List.getElem?_eq_getElem (by omega)]
   exact List.getElem_mem _
  ·have c2:decide (0 < (ls.getD i []).length)=false:=decide_eq_false hr
   simp only [c2,wd, wa,e6]
   refine ih (i + 1) (by omega) λ j hj=>?_
   by_cases hji:j=i
   ·subst hji; exact List.eq_nil_of_length_eq_zero (by omega)
   ·exact hp j (by omega)
theorem q0ct {x:Value} {vs:List Value} {ls:List (List (List Ent))} (hx:Sl w0 h 1 x vs.length vs) (hvl:vs.length=ls.length) (hn:vs.length≤1000) (hv:∀ (i:Nat) v,vs[i]?=some v→v≠junk∧q05 v=some (.int .i64 ((ls.getD i []).length:Int))):
  qf prog w0 qhi [x,.func (.func qbd) #[] #[]] h λ u h'=>u=.bool (ls.any λ r=>decide (r≠[]))∧h'=h:=by
 refine qf.of_fit (by simp [hx.junk]) λ f=>q01e (by simp [hx.junk]) ?_
 simp only [qnn]
 refine qq (R:=λ u h'=>((ls.any λ r=>decide (r≠[]))=false∧u=.int .i64 (-1)∨(ls.any λ r=>decide (r≠[]))=true∧∃ n:Nat,u=.int .i64 (n:Int))∧h'=h) ?_ λ u h1 ⟨e,e'⟩ f1=>?_
 ·refine qf.of_fit (by simp [hx.junk]) λ f=>q01j (by simp [hx.junk]) ?_
  simp only [qhl,hx.lenv,wd, wa]
  refine ⟨vs.length + 1,q0ho hx hvl hn hv (λ ha=>?_) (λ n he=>?_) vs.length 0 (by omega) (by omega)⟩
  ·simp only [qu,q06]
   exact ⟨by simp,.inl ⟨by rw [List.any_eq_false]; intro r hr; simp [ha r hr],trivial⟩,trivial⟩
  ·simp only [qu,q06]
   obtain ⟨r,h1,h2⟩:=he
   exact ⟨by simp,.inr ⟨List.any_eq_true.2 ⟨r,h1,by simp [h2]⟩,n,rfl⟩,trivial⟩
 ·subst e'
  rcases e with ⟨e1,e⟩ | ⟨e1,n,e⟩
  ·subst e
   have c1:decide ((0:Int)≤-1)=false:=rfl
   simp only [wd, wa,c1,qu,q06]
   exact ⟨by simp,by rw [e1],trivial⟩
  ·subst e
   have c1:decide ((0:Int)≤(n:Int))=true:=decide_eq_true (by omega)
   simp only [wd, wa,c1,qu,q06]
   exact ⟨by simp,by rw [e1],trivial⟩
theorem lay {q i:Nat} {mp v20 v34 r4:Value} {M A U1 U6 S4:List Nat} {s:LS} {sls:List Value} {x:List Ent} {ps:List (Value × List Ent)} {h3 h7 h8:Hp} (b3:∀ (i:Nat) v,sls[i]?=some v→Lvl w0 h A s.bl v (s.lv.getD i [])) (hq:w0.heap.size≤q) (hqn:q < h.next) (hb:h.blk q=some (q0m s++mp :: sls)) (hl:sls.length=16) (hlv:s.lv.length=16) (hi:i < 16)
  (mm:Me w0 h mp s.mem M) (hqM:q∉M) (hA:∀ b,b∈A→b < h.next) (hd:∀ b,b∈q :: M→b∉A) (ep:s.lv.getD i []=ps.map (·.2)) (hpr:∀ p:Value × List Ent,p∈ps→∃ S,Rb w0 h p.1 p.2 s.bl S∧∀ b,b∈S→b∈A)
  (s1:Step h h3 [] U1) (s2:Step h3 h7 [] S4) (mR:Rb w0 h7 r4 x s.bl S4) (s6:Step h7 h8 U1 U6) (g8:Vec w0 h8 1 v34 (ps.length + 1) (r4 :: ps.map (·.1)) U6):
  h8.blk q=some (q0m s++mp :: sls)∧Lv w0 (h8.put q (q0m s++mp :: sls.set i v34)) (ptr q) { s with lv:=s.lv.set i (x :: s.lv.getD i []) } (q :: M) ((U6++S4)++A)∧Step h (h8.put q (q0m s++mp :: sls.set i v34)) (q :: M) ((q :: M)++(U6++S4)):=by
 have hn1:=s1.1
 have hn2:=s2.1
 have hn6:=s6.1
 have hU1:∀ b,b∈U1→b < h3.next∧h.next≤b:=λ b hb=>⟨(s1.own b hb).1,by rcases (s1.own b hb).2 with w | w; simp at w; exact w⟩
 have hS4:∀ b,b∈S4→h3.next≤b∧b < h7.next:=λ b hb=>⟨by rcases (s2.own b hb).2 with w | w; simp at w; exact w,(s2.own b hb).1⟩
 have hU6:∀ b,b∈U6→h.next≤b∧b < h8.next:=λ b hb=>⟨by
  rcases (s6.own b hb).2 with w | w
  ·exact (hU1 b w).2
  ·omega,(s6.own b hb).1⟩
 have hMlt:=mm.lt
 have s07:Step h h8 [] (U6++S4):=by
  have t3:Step h h7 [] (S4++U1):=s1.trans (s2.more U1 (λ b hb=>(hU1 b hb).1))
  have t4:Step h7 h8 (U1++S4) (U6++S4):=s6.more S4 (λ b hb=>(hS4 b hb).2)
  exact (t3.weaken (S:=[]) (T:=[]) (T':=U1++S4) (by simp) (λ b hb=>.inl (by simp at hb ⊢; rcases hb with w | w <;> simp [w]))).trans t4
 have bq8:h8.blk q=some (q0m s++mp :: sls):=by rw [(s07.keep q hqn (by simp)).1]; exact hb
 refine ⟨bq8,?_⟩
 have sP:Step h8 (h8.put q (q0m s++mp :: sls.set i v34)) [q] [q]:=(Step.refl h8 [q] (by simp; omega)).put (by simp) _
 have bP:(h8.put q (q0m s++mp :: sls.set i v34)).blk q=some (q0m s++mp :: sls.set i v34):=by simp
 have nP:(h8.put q (q0m s++mp :: sls.set i v34)).next=h8.next:=rfl
 have m9:=(mm.frame s07 (by simp)).frame sP (by simpa using λ b hb (e:b=q)=>hqM (by rw [← e]; exact hb))
 have mR8:Rb w0 h8 r4 x s.bl S4:=mR.frame s6 (λ b hb w=>by have:=hU1 _ w; have:=hS4 _ hb; omega)
 have mR9:=mR8.frame sP (by simpa using λ b hb (e:b=q)=>by have:=hS4 b hb; omega)
 have g9:=g8.frame sP (by simpa using λ b hb (e:b=q)=>by have:=hU6 b hb; omega)
 have hqA:q∉A:=hd q (by simp)
 refine ⟨⟨q,mp,M,sls.set i v34,rfl,bP,by simpa using hl,m9,rfl,hqM,hq,by omega,λ b hb=>?_,λ b hb hb2=>?_,by simpa using hlv,λ j v hj=>?_⟩,?_⟩
 ·rcases List.mem_append.1 hb with w | w
  ·rcases List.mem_append.1 w with w | w
   ·have:=hU6 b w; omega
   ·have:=hS4 b w; omega
  ·have:=hA b w; omega
 ·rcases List.mem_append.1 hb2 with w | w
  ·have:b < h.next:=by
    rcases List.mem_cons.1 hb with w' | w'
    ·omega
    ·exact (hMlt b w').2
   rcases List.mem_append.1 w with w | w
   ·have:=hU6 b w; omega
   ·have:=hS4 b w; omega
  ·exact hd b hb w
 ·have fr:∀ {v:Value} {ls:List (List Ent)},Lvl w0 h A s.bl v ls→Lvl w0 (h8.put q (q0m s++mp :: sls.set i v34)) A s.bl v ls:=λ hL=>
   (hL.frame hA s07 (by simp)).frame (λ b hb=>by have:=hA b hb; omega) sP (by simpa using λ b hb (e:b=q)=>by rw [e] at hb; exact hqA hb)
  by_cases hji:j=i
  ·subst hji
   rw [List.getElem?_set_self (by omega)] at hj
   cases hj
   have:({ s with lv:=s.lv.set j (x :: s.lv.getD j []) }:LS).lv.getD j []=x :: s.lv.getD j []:=by
    rw [List.getD_eq_getElem?_getD,List.getElem?_set_self (by omega)]
    rfl
   rw [this]
   refine Lvl.cons (A:=A) ep (λ p hp=>?_) mR9 (by simp +contextual) g9 (by simp +contextual) (by simp +contextual)
   obtain ⟨S1,r1,hS1⟩:=hpr p hp
   exact ⟨S1,(r1.frame s07 (by simp)).frame sP (by simpa using λ b hb (e:b=q)=>by rw [e] at hb; exact hqA (hS1 q hb)),hS1⟩
  ·rw [List.getElem?_set_ne (λ e=>hji e.symm)] at hj
   have:({ s with lv:=s.lv.set i (x :: s.lv.getD i []) }:LS).lv.getD j []=s.lv.getD j []:=by
    rw [List.getD_eq_getElem?_getD,List.getElem?_set_ne (λ e=>hji e.symm),← List.getD_eq_getElem?_getD]
   rw [this]
   exact (fr (b3 j v hj)).more (by simp +contextual)
 ·have hSlt:∀ b,b∈q :: M→b < h.next:=λ b hb=>by
   rcases List.mem_cons.1 hb with w | w
   ·omega
   ·exact (hMlt b w).2
  have t1:Step h h8 (q :: M) ((q :: M)++(U6++S4)):=s07.wide (by simp) (λ b hb=>by
   rcases List.mem_append.1 hb with w | w
   ·exact .inr ⟨w,hSlt b w⟩
   ·exact .inl w)
  exact t1.trans (sP.wide (by simp) (λ b hb=>.inr ⟨hb,(t1.own b hb).1⟩))
end
theorem q0nx (dr:Bool) (L:List Ent):mgf dr (kl L)=flt dr L:=by
 unfold mgf kl flt
 rw [List.map_map]
 simp [Function.comp_def]
theorem q0mn (ls:List (List Ent)):4 * (ls.map List.length).sum≤(ls.map q0f).sum:=by
 induction ls with
 | nil=>simp
 | cons l ls ih=>
  have:=q4q l
  simp only [List.map_cons,List.sum_cons]
  omega
theorem qz8 {lv:List (List (List Ent))} {n:Nat} {r:List (List Ent)} (h:lv[n]?=some r):(r.map q0f).sum≤(lv.flatten.map q0f).sum:=by
 conv=>rhs; rw [q0ll h]
 simp only [List.flatten_append,List.flatten_cons,List.map_append,List.sum_append]
 omega
theorem getD_drop {α:Type} (l:List α) (n j:Nat) (d:α):(l.drop n).getD j d=l.getD (n + j) d:=by
 rw [List.getD_eq_getElem?_getD,List.getD_eq_getElem?_getD,List.getElem?_drop]
section
variable {w0:World} {h h':Hp}
theorem Lvl.nj {A:List Nat} {bl:Nat} {v:Value} {ls:List (List Ent)} (m:Lvl w0 h A bl v ls):v≠junk:=by
 obtain ⟨ps,e,a,b,c⟩:=m
 exact a.junk
theorem q0no {q n:Nat} {mp:Value} {M A:List Nat} {s:LS} {sls:List Value} (b3:∀ (i:Nat) v,sls[i]?=some v→Lvl w0 h A s.bl v (s.lv.getD i [])) (hq:w0.heap.size≤q) (hqn:q < h.next) (hb:h.blk q=some (q0m s++mp :: sls)) (hl:sls.length=16) (hlv:s.lv.length=16) (hn:n < 16)
  (mm:Me w0 h mp s.mem M) (hqM:q∉M) (hA:∀ b,b∈A→b < h.next) (hd:∀ b,b∈q :: M→b∉A):
  Step h (h.put q (q0m s++mp :: sls.set n (.slice none 0 0))) [q] [q]∧Me w0 (h.put q (q0m s++mp :: sls.set n (.slice none 0 0))) mp s.mem M∧
   ∀ (i:Nat) v,(sls.set n (.slice none 0 0))[i]?=some v→Lvl w0 (h.put q (q0m s++mp :: sls.set n (.slice none 0 0))) A s.bl v ((s.lv.set n []).getD i []):=by
 have sP:Step h (h.put q (q0m s++mp :: sls.set n (.slice none 0 0))) [q] [q]:=(Step.refl h [q] (by simpa using hqn)).put (by simp) _
 refine ⟨sP,mm.frame sP (by simpa using λ b hb (e:b=q)=>hqM (by rw [← e]; exact hb)),λ i v hi=>?_⟩
 by_cases hin:i=n
 ·subst hin
  rw [List.getElem?_set_self (by omega)] at hi
  cases hi
  rw [List.getD_eq_getElem?_getD,List.getElem?_set_self (by omega)]
  exact .nil _ _
 ·rw [List.getElem?_set_ne (λ e=>hin e.symm)] at hi
  rw [List.getD_eq_getElem?_getD,List.getElem?_set_ne (λ e=>hin e.symm),← List.getD_eq_getElem?_getD]
  exact (b3 i v hi).frame hA sP (by simpa using λ b hb (e:b=q)=>by rw [e] at hb; exact hd q (by simp) hb)
theorem q0n4 {r:Value} {s:LS} {S A:List Nat} {W:Nat} (m:Lv w0 h r s S A) (o:LOk s W) (hW:W≤1048576):
  qf prog w0 qje [r] h λ v h'=>∃ S' N,v=.bool (q5q s.lv s.fan).isSome∧Lv w0 h' r s.step S' (N++A)∧Step h h' S (S'++N):=by
 refine qf.of_fit (by simpa using m.nj) λ f=>q08k (by simpa using m.nj) ?_
 simp only [qrs]
 have hSlt:=m.lt
 refine qq (q72 m) λ v h1 ⟨e,e'⟩ f1=>?_
 subst e
 subst h1
 simp only [wd, wa]
 refine qq (q0ja m) λ v h1 ⟨e,e'⟩ f1=>?_
 subst h1
 cases hf:q5q s.lv s.fan with
 | none=>
  rw [hf] at e
  simp only at e
  subst e
  have:s.step=s:=by unfold LS.step; rw [hf]
  simp only [wd, wa,qu,q06]
  refine ⟨by simp,S,[],rfl,by rw [this]; exact m,?_⟩
  rw [List.append_nil]
  exact .refl _ _ λ b hb=>(hSlt b hb).2
 | some n=>
 rw [hf] at e
 simp only at e
 subst e
 obtain ⟨rr,hrr,hrl⟩:=q0g8 hf
 have hstep:s.step = { s with lv:=qax s.lv n }:=by unfold LS.step; rw [hf]
 rw [hstep]
 obtain ⟨q,mp,M,sls,a1,a2,a3,a4,a5,a6,a7,a8,a9,b1,b2,b3⟩:=m
 subst a1 a5
 have hn16:n < 16:=by have:=(List.getElem?_eq_some_iff.1 hrr).1; omega
 have e1:IntKind.i64.wrap ((n:Int) + 1)=((n + 1:Nat):Int):=by rw [IntWalk.i64_in _ (by omega)]; simp
 simp only [ptr,wd, wa,e1]
 refine ⟨_,n + 1,16,rfl,q2a,rfl,by omega,Nat.le_refl _,by decide,?_⟩
 have hdl:(sls.drop (n + 1)).length=16 - (n + 1):=by rw [List.length_drop]; omega
 have hsl:Sl w0 h 1 (.slice (some (if 16=n + 1 then (⟨q,4,none⟩:Addr) else (⟨q,4,none⟩:Addr).add ((n + 1) * 1))) (16 - (n + 1)) (16 - (n + 1))) (sls.drop (n + 1)).length (sls.drop (n + 1)):=by
  rw [hdl]
  by_cases h16:n + 1=16
  ·rw [if_pos h16.symm,h16]
   have:sls.drop 16=[]:=List.drop_of_length_le (by omega)
   rw [this]
   have hsrc:=q7e (w0:=w0) (h:=h) (s:=1) (n:=0) (o:=4) (c:=16 - 16) a7 a2 (by rw [q55]; omega)
   exact ⟨_,_,rfl,by simpa using hsrc,rfl,.inl ⟨by decide,by omega⟩⟩
  ·rw [if_neg (λ e=>h16 e.symm)]
   have hsrc:=q7e (w0:=w0) (h:=h) (s:=1) (n:=16 - (n + 1)) (o:=4 + (n + 1)) (c:=16 - (n + 1)) a7 a2 (by rw [q55]; omega)
   have hcs:(((q0m s++mp :: sls).drop (4 + (n + 1))).take ((16 - (n + 1)) * 1))=sls.drop (n + 1):=by
    rw [show (q0m s++mp :: sls).drop (4 + (n + 1))=sls.drop (n + 1) by rw [Nat.add_comm]; rfl]
    exact List.take_of_length_le (by omega)
   rw [hcs] at hsrc
   have had:(⟨q,4,none⟩:Addr).add ((n + 1) * 1)=⟨q,4 + (n + 1),none⟩:=by rw [addr_add]; simp
   rw [had]
   exact ⟨_,_,rfl,hsrc,by omega,.inl ⟨by unfold q0b; omega,by omega⟩⟩
 refine qq (q0ct (ls:=s.lv.drop (n + 1)) hsl (by rw [hdl,List.length_drop]; omega) (by omega) λ i v hi=>?_) λ v h1 ⟨e,e'⟩ f1=>?_
 ·rw [List.getElem?_drop] at hi
  rw [getD_drop]
  have:=b3 _ v hi
  exact ⟨this.nj,this.lenv⟩
 subst e
 subst h1
 change _ at hsl
 have hdp:((s.lv.drop (n + 1)).any λ r=>decide (r≠[]))=q6j s.lv n:=rfl
 rw [hdp]
 obtain ⟨vn,hvn⟩:=q5k a3 (i:=n) hn16
 have hLn:=b3 n vn hvn
 rw [getD_some hrr] at hLn
 obtain ⟨ps,ep,hps,hpb,hpr⟩:=hLn
 have sz:=o.size
 have hsum1:=qz8 hrr
 have hsum2:=q0mn rr
 have hrrm:rr∈s.lv:=List.mem_of_getElem? hrr
 have hpsum:(ps.map λ p=>p.2.length)=rr.map List.length:=by rw [ep,List.map_map]; rfl
 have hplen:ps.length=rr.length:=by rw [ep,List.length_map]
 have hrlen:rr.length * 4≤W:=by have:=o.lvl n; rw [getD_some hrr] at this; exact this
 refine q7i hn16 ?_
 refine qj a7 a2 (by rw [qh6]; exact hvn) ?_
 simp only [wd, wa]
 refine qq (q0kc (rs:=ps) (!q6j s.lv n) hps (λ p hp=>?_) (λ p hp=>?_) (by omega) (by rw [hpsum]; omega)) λ v33 h2 ⟨out,S2,im,hol,g2,s2⟩ f2=>?_
 ·obtain ⟨S1,r1,hS1⟩:=hpr p hp
  obtain ⟨n1,S1',r2,hS2⟩:=r1.rn
  exact ⟨S1',.inl ⟨n1,r2⟩,λ b hb=>(r2.lt b hb).2⟩
 ·have:p.2∈rr:=by rw [ep]; exact List.mem_map.2 ⟨p,hp,rfl⟩
  exact qm8 (o.rok rr hrrm p.2 this).1
 have hmap:(ps.map λ p=>kl p.2)=rr.map kl:=by rw [ep,List.map_map]; rfl
 rw [hmap] at im
 have hout:=qg7 (λ l hl=>qm8 (o.rok rr hrrm l hl).1) im
 rw [hout,q0nx] at g2
 have hmn:flt (!q6j s.lv n) (q1w rr)=q4t s.lv n:=by unfold q4t; rw [getD_some hrr]
 rw [hmn] at g2
 have bq2:h2.blk q=some (q0m s++mp :: sls):=by rw [(s2.keep q a8 (by simp)).1]; exact a2
 have hn2:=s2.1
 refine q7i hn16 ?_
 refine q21 a7 bq2 (by rw [q55]; omega) rfl ?_
 rw [qh9]
 have a4':=a4.frame s2 (by simp)
 have b3':∀ (i:Nat) v,sls[i]?=some v→Lvl w0 h2 A s.bl v (s.lv.getD i []):=λ i v hi=>(b3 i v hi).frame a9 s2 (by simp)
 have a9':∀ b,b∈A→b < h2.next:=λ b hb=>by have:=a9 b hb; omega
 obtain ⟨sP,mP,bP⟩:=q0no b3' a7 (by omega) bq2 a3 b2 hn16 a4' a6 a9' b1
 have bqP:(h2.put q (q0m s++mp :: sls.set n (.slice none 0 0))).blk q=some (q0m s++mp :: sls.set n (.slice none 0 0)):=by simp
 have nP:(h2.put q (q0m s++mp :: sls.set n (.slice none 0 0))).next=h2.next:=rfl
 have hS2:∀ b,b∈S2→h.next≤b∧b < h2.next:=λ b hb=>⟨by rcases (s2.own b hb).2 with w | w; simp at w; exact w,(s2.own b hb).1⟩
 have gP:=g2.frame sP (by simpa using λ b hb (e:b=q)=>by have:=hS2 b hb; omega)
 have hl3:(sls.set n (.slice none 0 0)).length=16:=by simpa using a3
 have tP:Step h (h2.put q (q0m s++mp :: sls.set n (.slice none 0 0))) (q :: M) (q :: M):=
  ((s2.less (T:=[]) (by simp)).keepS (λ b hb=>(hSlt b hb).2)).trans (sP.wide (by simp) (λ b hb=>.inr ⟨hb,by have:=(hSlt b hb).2; omega⟩))
 generalize hsl3:sls.set n (.slice none 0 0)=sls3 at *
 generalize h2.put q (q0m s++mp :: sls3)=h3 at *
 simp only [g2.sl.lenv,wd, wa]
 by_cases hmt:q4t s.lv n=[]
 ·have c1:decide ((0:Int) < ((q4t s.lv n).length:Int))=false:=by rw [hmt]; rfl
  have e2:qax s.lv n=s.lv.set n []:=by unfold qax; rw [if_pos hmt]
  simp only [c1,wd, wa,qu,q06]
  refine ⟨by simp,q :: M,[],rfl,⟨q,mp,M,sls3,rfl,bqP,hl3,mP,rfl,a6,a7,by omega,λ b hb=>by have:=a9 b hb; omega,b1,by rw [e2]; simpa using b2,λ i v hi=>?_⟩,by simpa using tP⟩
  rw [e2]
  exact bP i v hi
 ·have hpos:0 < (q4t s.lv n).length:=List.length_pos_iff.2 hmt
  have c1:decide ((0:Int) < ((q4t s.lv n).length:Int))=true:=decide_eq_true (by omega)
  have e2:qax s.lv n=(s.lv.set n []).set (min (n + 1) 15) (q4t s.lv n :: (s.lv.set n []).getD (min (n + 1) 15) []):=by unfold qax; rw [if_neg hmt]
  have c2:q3x q6n (.int .i64 ((n + 1:Nat):Int)) [.int .i64 15]=some (.int .i64 ((min (n + 1) 15:Nat):Int)):=by
   show (some (.int .i64 (if (15:Int) < ((n + 1:Nat):Int) then 15 else ((n + 1:Nat):Int))):Option Value)=_
   by_cases h15:(15:Int) < ((n + 1:Nat):Int)
   ·rw [if_pos h15,Nat.min_eq_right (by omega)]; rfl
   ·rw [if_neg h15,Nat.min_eq_left (by omega)]
  simp only [c1,wd, wa,e1,c2,qka]
  generalize hto:min (n + 1) 15=t at *
  have ht16:t < 16:=by omega
  obtain ⟨vt,hvt⟩:=q5k hl3 (i:=t) ht16
  have hLt:=bP t vt hvt
  obtain ⟨pt,ept,hpt,hptb,hptr⟩:=hLt
  have hlv3:(s.lv.set n []).length=16:=by simpa using b2
  have hptl:pt.length≤1000000:=by
   have h1:pt.length=((s.lv.set n []).getD t []).length:=by rw [ept,List.length_map]
   have h2:=o.lvl t
   by_cases htn:t=n
   ·rw [htn,List.getD_eq_getElem?_getD,List.getElem?_set_self (by omega)] at h1
    have h0:pt.length=0:=h1
    omega
   ·rw [List.getD_eq_getElem?_getD,List.getElem?_set_ne (λ e=>htn e.symm),← List.getD_eq_getElem?_getD] at h1
    omega
  have hnum:=o.num
  have hmc:q27 (q4t s.lv n)=true:=by
   rw [← hmn]
   exact q0hj _ λ l hl=>(o.rok rr hrrm l hl).1
  have hme:q0f (q4t s.lv n)≤1048576:=by
   rw [← hmn]
   have h1:=qxd (!q6j s.lv n) (q1w rr)
   have h2:=qfy rr
   omega
  refine q7i ht16 ?_
  refine qj a7 bqP (by rw [qh6]; exact hvt) ?_
  refine qj a7 bqP rfl ?_
  refine qq (qy6 hpt (by omega)) λ v20 h4 ⟨U1,g4,gv4,s4⟩ f4=>?_
  have bq4:h4.blk q=some (q0m s++mp :: sls3):=by rw [(s4.keep q (by omega) (by simp)).1]; exact bqP
  simp only [q3o,q3z,q32,q4n]
  refine ⟨qj a7 bq4 rfl rfl,?_⟩
  have gv:Es w0 h4 v33 (q4t s.lv n):=(gP.frame s4 (by simp)).sl
  refine qq (ql7 hnum.1 hnum.2.1 hmc hme gv) λ r4 h5 ⟨S4,mR,s5⟩ f5=>?_
  obtain ⟨p4,ep4⟩:=mR.ptr
  refine q7k mR.isC ?_
  have um5:=qzz h5 r4 p4 ep4
  have s6:Step h5 (h5.new [r4] 1) [] [h5.next]:=(Step.refl h5 [] (by simp)).new _ _
  have bq5:(h5.new [r4] 1).blk h5.next=some [r4]:=by simp
  have ez5:(h5.new [r4] 1).esz h5.next=1:=by simp
  have f7:Fit w0 (h5.new [r4] 1):=f5.new (by simpa using mR.isC)
  have fb5:=f5.base
  have mR7:=mR.frame s6 (by simp)
  have hn5:=s5.1
  have s47:Step h4 (h5.new [r4] 1) [] S4:=s5.trans ((s6.less (T:=[]) (by simp)).keepS λ b hb=>(s5.own b hb).1)
  have hU1:∀ b,b∈U1→b < h4.next:=λ b hb=>(s4.own b hb).1
  generalize h5.new [r4] 1=h7 at *
  have g7:=g4.frame s47 (by simp)
  have gv7:0 < pt.length→Vec w0 h7 1 v20 pt.length (pt.map (·.1)) U1:=λ h0=>(gv4 h0).frame s47 (by simp)
  refine qq (qxp (i:=0) g7 gv7 (Nat.zero_le _) (by omega) fb5 bq5 ez5 rfl (λ w=>by have:=hU1 _ w; omega) um5) λ v34 h8 ⟨U6,g8,s8⟩ f8=>?_
  simp only [Nat.zero_mul,List.take_zero,List.drop_zero,List.nil_append,List.singleton_append] at g8
  have hly:=lay (w0:=w0) (h:=h3) (q:=q) (i:=t) (mp:=mp) (v20:=v20) (s:={ s with lv:=s.lv.set n [] }) (sls:=sls3) (M:=M) (A:=A) bP a7 (by omega) bqP hl3 hlv3 ht16 mP a6 (λ b hb=>by have:=a9 b hb; omega) b1 ept hptr s4 s47 mR7 s8 g8
  obtain ⟨bq8,ml,sl⟩:=hly
  refine q7i ht16 ?_
  refine q21 a7 bq8 (by rw [q55]; omega) (by obtain ⟨a,c,e⟩:=g8.slice; rw [e]; rfl) ?_
  rw [qh9]
  simp only [qu,q06]
  refine ⟨by simp,q :: M,U6++S4,rfl,?_,?_⟩
  ·rw [e2]
   exact ml
  ·exact tP.trans sl
end
end Go.Proofs.YtfmoemconapmhaaGreat.Ah
