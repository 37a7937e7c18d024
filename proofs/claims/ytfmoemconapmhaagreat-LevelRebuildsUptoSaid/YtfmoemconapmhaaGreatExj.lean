/- The heap of heads: push, pop. (PRINTED by wip/tools/heap.py) -/
import Derived.Test.YtfmoemconapmhaaGreatExi
set_option linter.all false
namespace Go.Proofs.YtfmoemconapmhaaGreat.Ah
open Go
set_option maxHeartbeats 0
structure Hd where
 x:Value
 l:List (Key × Ent)
 n:Int
abbrev q08 (a:Hd):List Value:=[a.x,.int .i64 a.n]
section
variable {w0:World} {hh:Hp} {p u n:Nat} {lf:Value} {Z:List Value} {L:List Hd} {lt:Hd→Hd→Bool}
theorem q1m (a:Hd):(q08 a).length=2:=rfl
def qz9 (w0:World) (hh:Hp) (p u:Nat) (lf:Value) (lt:Hd→Hd→Bool) (L:List Hd):Prop:=
 ∀ h1,Step hh h1 [p,u] [p,u]→∀ a b,a∈L→b∈L→q1n prog w0 lf [(Value.agg (q08 a).toArray),(Value.agg (q08 b).toArray)] (λ r h2=>r=.bool (lt a b)∧Step h1 h2 [] []) h1
theorem q0ci {K:Hp→Prop} (hlt:qz9 w0 hh p u lf lt L) (hn:n≤1000000000):
  ∀ (m i:Nat) (ys:List Hd) (h1:Hp),i < m→i < n→ys.length=n→(∀ a,a∈ys→a∈L)→Step hh h1 [p,u] [p,u]→HB w0 2 h1 p u n lf (ys.flatMap q08++Z)→
  (∀ h2,Step hh h2 [p,u] [p,u]→HB w0 2 h2 p u n lf ((up lt m ys i).flatMap q08++Z)→K h2)→q9y prog w0 K K m (ptr p) (.int .i64 (i:Int)) h1:=by
 intro m
 induction m with
 | zero=>intro i ys h1 hi; omega
 | succ m ih=>
  intro i ys h1 hi hin hy hL st hb hk
  rw [q9y]
  have hcl:(ys.flatMap q08++Z).length=n * 2 + Z.length:=by rw [List.length_append,q3f q1m,hy]
  by_cases h0:i=0
  ·have c1:decide ((0:Int) < (i:Int))=false:=decide_eq_false (by omega)
   simp only [qdc,wd, wa,c1]
   refine hk h1 st ?_
   rw [up,if_pos h0]
   exact hb
  ·have c1:decide ((0:Int) < (i:Int))=true:=decide_eq_true (by omega)
   have e1:IntKind.i64.wrap ((i:Int) - 1)=((i - 1:Nat):Int):=by rw [IntWalk.i64_in _ (by omega)]; omega
   have e2:qd .quo (.int .i64 ((i - 1:Nat):Int)) (.int .i64 2)=some (.int .i64 (((i - 1) / 2:Nat):Int)):=by
    rw [qmf _ _ _ (by omega)]
    congr 2
    rw [Int.tdiv_eq_ediv_of_nonneg (by omega),IntWalk.i64_in _ (by omega)]
    omega
   obtain ⟨v,hv⟩:∃ v,v=(i - 1) / 2:=⟨_,rfl⟩
   rw [← hv] at e2
   have hvn:v < n:=by omega
   have ga:ys[i]?=some ys[i]:=List.getElem?_eq_getElem (by omega)
   have gb:ys[v]?=some ys[v]:=List.getElem?_eq_getElem (by omega)
   simp only [qdc,wd, wa,c1,e1,e2,ptr]
   refine qj hb.wp hb.bp rfl ?_
   refine qj hb.wp hb.bp rfl ?_
   refine rd2 hb.wu hb.bu hin (by rw [hcl]; omega) (q2l q1m Z ga) ?_
   refine qj hb.wp hb.bp rfl ?_
   refine rd2 hb.wu hb.bu hvn (by rw [hcl]; omega) (q2l q1m Z gb) ?_
   refine q54 (hlt h1 st _ _ (hL _ (List.mem_of_getElem? ga)) (hL _ (List.mem_of_getElem? gb))) λ r h2 ⟨er,s2⟩ f2=>?_
   subst er
   have st2:=st.in_ s2
   have hb2:=hb.step s2
   have hup:up lt (m + 1) ys i=if lt ys[i] ys[v]=true then up lt m ((ys.set i ys[v]).set v ys[i]) v else ys:=by
    rw [up,if_neg h0,← hv,ga,gb]
   cases hc:lt ys[i] ys[v] with
   | false=>
    rw [hc,if_neg (by simp)] at hup
    simp only [wd, wa]
    refine hk h2 st2 ?_
    rw [hup]
    exact hb2
   | true=>
    rw [hc,if_pos rfl] at hup
    simp only [wd, wa]
    refine qj hb.wp hb2.bp rfl ?_
    refine qj hb.wp hb2.bp rfl ?_
    refine qj hb.wp hb2.bp rfl ?_
    refine rd2 hb.wu hb2.bu hvn (by rw [hcl]; omega) (q2l q1m Z gb) ?_
    refine qj hb.wp hb2.bp rfl ?_
    refine rd2 hb.wu hb2.bu hin (by rw [hcl]; omega) (q2l q1m Z ga) ?_
    refine wr2 hb.wu hb2.bu hin (by rw [hcl]; omega) rfl ?_
    have hf1:=q5o q1m Z (by omega:i < ys.length) ys[v]
    have hf2:=q5o q1m Z (by rw [List.length_set]; omega:v < (ys.set i ys[v]).length) ys[i]
    have hb3:=hb2.put ((ys.set i ys[v]).flatMap q08++Z)
    have hcl3:((ys.set i ys[v]).flatMap q08++Z).length=n * 2 + Z.length:=by rw [List.length_append,q3f q1m,List.length_set,hy]
    rw [hf1]
    refine wr2 hb.wu hb3.bu hvn (by rw [hcl3]; omega) rfl ?_
    rw [hf2]
    have hb4:=hb3.put (((ys.set i ys[v]).set v ys[i]).flatMap q08++Z)
    refine ih v ((ys.set i ys[v]).set v ys[i]) _ (by omega) hvn (by simp [hy]) (λ a ha=>hL a ((qaj ga gb).mem_iff.1 ha)) ((st2.put (by simp) _).put (by simp) _) hb4 λ h5 st5 hb5=>?_
    refine hk h5 st5 ?_
    rw [hup]
    exact hb5
theorem q0cz {kr:Value→Hp→Prop} {x2 x3:Value} (hlt:qz9 w0 hh p u lf lt L) (hn:n≤1000000000):
  ∀ (m i:Nat) (ys:List Hd) (h1:Hp),n≤i + m→i≤n→ys.length=n→(∀ a,a∈ys→a∈L)→Step hh h1 [p,u] [p,u]→HB w0 2 h1 p u n lf (ys.flatMap q08++Z)→
  (∀ h2,Step hh h2 [p,u] [p,u]→HB w0 2 h2 p u n lf ((down lt (m + 1) ys i).flatMap q08++Z)→(qw w0 x3 2 λ v=>q0k w0 x2 v 2 λ _=>kr x2) h2)→q7m prog w0 kr (m + 1) (ptr p) x2 x3 (.int .i64 (n:Int)) (.int .i64 (i:Int)) h1:=by
 intro m
 induction m with
 | zero=>
  intro i ys h1 hi hin hy hL st hb hk
  rw [q7m]
  have e1:IntKind.i64.wrap (2 * (i:Int))=((2 * i:Nat):Int):=by rw [IntWalk.i64_in _ (by omega)]; omega
  have e2:IntKind.i64.wrap (((2 * i:Nat):Int) + 1)=((2 * i + 1:Nat):Int):=by rw [IntWalk.i64_in _ (by omega)]; omega
  have c1:decide ((n:Int)≤((2 * i + 1:Nat):Int))=true:=decide_eq_true (by omega)
  simp only [q9z,wd, wa,e1,e2,c1]
  refine hk h1 st ?_
  have hdn:down lt (0 + 1) ys i=ys:=by
   rw [down,List.getElem?_eq_none (show ys.length≤kid lt ys i by rcases qmr (lt:=lt) ys i with q | q <;> omega)]
  rw [hdn]
  exact hb
 | succ m0 ih=>
  intro i ys h1 hi hin hy hL st hb hk
  obtain ⟨m,hm⟩:∃ m,m=m0 + 1:=⟨_,rfl⟩
  rw [← hm] at ih hk ⊢
  rw [q7m]
  have hcl:(ys.flatMap q08++Z).length=n * 2 + Z.length:=by rw [List.length_append,q3f q1m,hy]
  have e1:IntKind.i64.wrap (2 * (i:Int))=((2 * i:Nat):Int):=by rw [IntWalk.i64_in _ (by omega)]; omega
  have e2:IntKind.i64.wrap (((2 * i:Nat):Int) + 1)=((2 * i + 1:Nat):Int):=by rw [IntWalk.i64_in _ (by omega)]; omega
  have e3:IntKind.i64.wrap (((2 * i + 1:Nat):Int) + 1)=((2 * i + 2:Nat):Int):=by rw [IntWalk.i64_in _ (by omega)]; omega
  by_cases h0:n≤2 * i + 1
  ·have c1:decide ((n:Int)≤((2 * i + 1:Nat):Int))=true:=decide_eq_true (by omega)
   simp only [q9z,wd, wa,e1,e2,c1]
   refine hk h1 st ?_
   have hdn:down lt (m + 1) ys i=ys:=by
    rw [down,List.getElem?_eq_none (show ys.length≤kid lt ys i by rcases qmr (lt:=lt) ys i with q | q <;> omega)]
   rw [hdn]
   exact hb
  ·have c1:decide ((n:Int)≤((2 * i + 1:Nat):Int))=false:=decide_eq_false (by omega)
   have hin:i < n:=by omega
   have ga:ys[i]?=some ys[i]:=List.getElem?_eq_getElem (by omega)
   have g1:ys[2 * i + 1]?=some ys[2 * i + 1]:=List.getElem?_eq_getElem (by omega)
   by_cases h2n:2 * i + 2 < n
   ·have c2:decide (((2 * i + 2:Nat):Int) < (n:Int))=true:=decide_eq_true (by omega)
    have g2:ys[2 * i + 2]?=some ys[2 * i + 2]:=List.getElem?_eq_getElem (by omega)
    simp only [q9z,wd, wa,e1,e2,e3,c1,c2,ptr]
    refine qj hb.wp hb.bp rfl ?_
    refine qj hb.wp hb.bp rfl ?_
    refine rd2 hb.wu hb.bu h2n (by rw [hcl]; omega) (q2l q1m Z g2) ?_
    refine qj hb.wp hb.bp rfl ?_
    refine rd2 hb.wu hb.bu (by omega) (by rw [hcl]; omega) (q2l q1m Z g1) ?_
    refine q54 (hlt h1 st _ _ (hL _ (List.mem_of_getElem? g2)) (hL _ (List.mem_of_getElem? g1))) λ r hx ⟨er,s2⟩ f2=>?_
    subst er
    have stx:=st.in_ s2
    have hbx:=hb.step s2
    cases hq:lt ys[2 * i + 2] ys[2 * i + 1] with
    | true=>
     simp only [wd, wa,e3]
     have hkd:kid lt ys i=2 * i + 2:=by unfold kid; rw [g1,g2]; simp only; rw [hq,if_pos rfl]
     obtain ⟨kd,ek⟩:∃ kd,kd=2 * i + 2:=⟨_,rfl⟩
     rw [← ek] at hkd ⊢
     have hkn:kd < n:=by omega
     have gk:ys[kd]?=some ys[kd]:=List.getElem?_eq_getElem (by omega)
     have hdn:down lt (m + 1) ys i=if lt ys[kd] ys[i]=true then down lt m ((ys.set i ys[kd]).set kd ys[i]) kd else ys:=by
      rw [down,hkd,gk,ga]
     have ekd:kd=kd:=rfl
     refine qj hb.wp hbx.bp rfl ?_
     refine qj hb.wp hbx.bp rfl ?_
     refine rd2 hb.wu hbx.bu hkn (by rw [hcl]; omega) (q2l q1m Z gk) ?_
     refine qj hb.wp hbx.bp rfl ?_
     refine rd2 hb.wu hbx.bu hin (by rw [hcl]; omega) (q2l q1m Z ga) ?_
     refine q54 (hlt _ stx _ _ (hL _ (List.mem_of_getElem? gk)) (hL _ (List.mem_of_getElem? ga))) λ r h4 ⟨er,s4⟩ f4=>?_
     subst er
     have st4:=stx.in_ s4
     have hb4:=hbx.step s4
     cases hc:lt ys[kd] ys[i] with
     | false=>
      rw [hc,if_neg (by simp)] at hdn
      simp only [wd, wa]
      refine hk h4 st4 ?_
      rw [hdn]
      exact hb4
     | true=>
      rw [hc,if_pos rfl] at hdn
      simp only [wd, wa]
      refine qj hb.wp hb4.bp rfl ?_
      refine qj hb.wp hb4.bp rfl ?_
      refine qj hb.wp hb4.bp rfl ?_
      refine rd2 hb.wu hb4.bu hkn (by rw [hcl]; omega) (q2l q1m Z gk) ?_
      refine qj hb.wp hb4.bp rfl ?_
      refine rd2 hb.wu hb4.bu hin (by rw [hcl]; omega) (q2l q1m Z ga) ?_
      refine wr2 hb.wu hb4.bu hin (by rw [hcl]; omega) rfl ?_
      have hf1:=q5o q1m Z (by omega:i < ys.length) ys[kd]
      have hf2:=q5o q1m Z (by rw [List.length_set]; omega:kd < (ys.set i ys[kd]).length) ys[i]
      have hb5:=hb4.put ((ys.set i ys[kd]).flatMap q08++Z)
      have hcl5:((ys.set i ys[kd]).flatMap q08++Z).length=n * 2 + Z.length:=by rw [List.length_append,q3f q1m,List.length_set,hy]
      rw [hf1]
      refine wr2 hb.wu hb5.bu hkn (by rw [hcl5]; omega) rfl ?_
      rw [hf2]
      have hb6:=hb5.put (((ys.set i ys[kd]).set kd ys[i]).flatMap q08++Z)
      refine ih kd ((ys.set i ys[kd]).set kd ys[i]) _ (by omega) (by omega) (by simp [hy]) (λ a ha=>hL a ((qaj ga gk).mem_iff.1 ha)) ((st4.put (by simp) _).put (by simp) _) hb6 λ h7 st7 hb7=>?_
      refine hk h7 st7 ?_
      rw [hdn]
      exact hb7
    | false=>
     simp only [wd, wa]
     have hkd:kid lt ys i=2 * i + 1:=by unfold kid; rw [g1,g2]; simp only; rw [hq,if_neg (by simp)]
     obtain ⟨kd,ek⟩:∃ kd,kd=2 * i + 1:=⟨_,rfl⟩
     rw [← ek] at hkd ⊢
     have hkn:kd < n:=by omega
     have gk:ys[kd]?=some ys[kd]:=List.getElem?_eq_getElem (by omega)
     have hdn:down lt (m + 1) ys i=if lt ys[kd] ys[i]=true then down lt m ((ys.set i ys[kd]).set kd ys[i]) kd else ys:=by
      rw [down,hkd,gk,ga]
     have ekd:kd=kd:=rfl
     refine qj hb.wp hbx.bp rfl ?_
     refine qj hb.wp hbx.bp rfl ?_
     refine rd2 hb.wu hbx.bu hkn (by rw [hcl]; omega) (q2l q1m Z gk) ?_
     refine qj hb.wp hbx.bp rfl ?_
     refine rd2 hb.wu hbx.bu hin (by rw [hcl]; omega) (q2l q1m Z ga) ?_
     refine q54 (hlt _ stx _ _ (hL _ (List.mem_of_getElem? gk)) (hL _ (List.mem_of_getElem? ga))) λ r h4 ⟨er,s4⟩ f4=>?_
     subst er
     have st4:=stx.in_ s4
     have hb4:=hbx.step s4
     cases hc:lt ys[kd] ys[i] with
     | false=>
      rw [hc,if_neg (by simp)] at hdn
      simp only [wd, wa]
      refine hk h4 st4 ?_
      rw [hdn]
      exact hb4
     | true=>
      rw [hc,if_pos rfl] at hdn
      simp only [wd, wa]
      refine qj hb.wp hb4.bp rfl ?_
      refine qj hb.wp hb4.bp rfl ?_
      refine qj hb.wp hb4.bp rfl ?_
      refine rd2 hb.wu hb4.bu hkn (by rw [hcl]; omega) (q2l q1m Z gk) ?_
      refine qj hb.wp hb4.bp rfl ?_
      refine rd2 hb.wu hb4.bu hin (by rw [hcl]; omega) (q2l q1m Z ga) ?_
      refine wr2 hb.wu hb4.bu hin (by rw [hcl]; omega) rfl ?_
      have hf1:=q5o q1m Z (by omega:i < ys.length) ys[kd]
      have hf2:=q5o q1m Z (by rw [List.length_set]; omega:kd < (ys.set i ys[kd]).length) ys[i]
      have hb5:=hb4.put ((ys.set i ys[kd]).flatMap q08++Z)
      have hcl5:((ys.set i ys[kd]).flatMap q08++Z).length=n * 2 + Z.length:=by rw [List.length_append,q3f q1m,List.length_set,hy]
      rw [hf1]
      refine wr2 hb.wu hb5.bu hkn (by rw [hcl5]; omega) rfl ?_
      rw [hf2]
      have hb6:=hb5.put (((ys.set i ys[kd]).set kd ys[i]).flatMap q08++Z)
      refine ih kd ((ys.set i ys[kd]).set kd ys[i]) _ (by omega) (by omega) (by simp [hy]) (λ a ha=>hL a ((qaj ga gk).mem_iff.1 ha)) ((st4.put (by simp) _).put (by simp) _) hb6 λ h7 st7 hb7=>?_
      refine hk h7 st7 ?_
      rw [hdn]
      exact hb7
   ·have c2:decide (((2 * i + 2:Nat):Int) < (n:Int))=false:=decide_eq_false (by omega)
    simp only [q9z,wd, wa,e1,e2,e3,c1,c2,ptr]
    have stx:=st
    have hbx:=hb
    have hkd:kid lt ys i=2 * i + 1:=by unfold kid; rw [List.getElem?_eq_none (show ys.length≤2 * i + 2 by omega),g1]
    obtain ⟨kd,ek⟩:∃ kd,kd=2 * i + 1:=⟨_,rfl⟩
    rw [← ek] at hkd ⊢
    have hkn:kd < n:=by omega
    have gk:ys[kd]?=some ys[kd]:=List.getElem?_eq_getElem (by omega)
    have hdn:down lt (m + 1) ys i=if lt ys[kd] ys[i]=true then down lt m ((ys.set i ys[kd]).set kd ys[i]) kd else ys:=by
     rw [down,hkd,gk,ga]
    have ekd:kd=kd:=rfl
    refine qj hb.wp hbx.bp rfl ?_
    refine qj hb.wp hbx.bp rfl ?_
    refine rd2 hb.wu hbx.bu hkn (by rw [hcl]; omega) (q2l q1m Z gk) ?_
    refine qj hb.wp hbx.bp rfl ?_
    refine rd2 hb.wu hbx.bu hin (by rw [hcl]; omega) (q2l q1m Z ga) ?_
    refine q54 (hlt _ stx _ _ (hL _ (List.mem_of_getElem? gk)) (hL _ (List.mem_of_getElem? ga))) λ r h4 ⟨er,s4⟩ f4=>?_
    subst er
    have st4:=stx.in_ s4
    have hb4:=hbx.step s4
    cases hc:lt ys[kd] ys[i] with
    | false=>
     rw [hc,if_neg (by simp)] at hdn
     simp only [wd, wa]
     refine hk h4 st4 ?_
     rw [hdn]
     exact hb4
    | true=>
     rw [hc,if_pos rfl] at hdn
     simp only [wd, wa]
     refine qj hb.wp hb4.bp rfl ?_
     refine qj hb.wp hb4.bp rfl ?_
     refine qj hb.wp hb4.bp rfl ?_
     refine rd2 hb.wu hb4.bu hkn (by rw [hcl]; omega) (q2l q1m Z gk) ?_
     refine qj hb.wp hb4.bp rfl ?_
     refine rd2 hb.wu hb4.bu hin (by rw [hcl]; omega) (q2l q1m Z ga) ?_
     refine wr2 hb.wu hb4.bu hin (by rw [hcl]; omega) rfl ?_
     have hf1:=q5o q1m Z (by omega:i < ys.length) ys[kd]
     have hf2:=q5o q1m Z (by rw [List.length_set]; omega:kd < (ys.set i ys[kd]).length) ys[i]
     have hb5:=hb4.put ((ys.set i ys[kd]).flatMap q08++Z)
     have hcl5:((ys.set i ys[kd]).flatMap q08++Z).length=n * 2 + Z.length:=by rw [List.length_append,q3f q1m,List.length_set,hy]
     rw [hf1]
     refine wr2 hb.wu hb5.bu hkn (by rw [hcl5]; omega) rfl ?_
     rw [hf2]
     have hb6:=hb5.put (((ys.set i ys[kd]).set kd ys[i]).flatMap q08++Z)
     refine ih kd ((ys.set i ys[kd]).set kd ys[i]) _ (by omega) (by omega) (by simp [hy]) (λ a ha=>hL a ((qaj ga gk).mem_iff.1 ha)) ((st4.put (by simp) _).put (by simp) _) hb6 λ h7 st7 hb7=>?_
     refine hk h7 st7 ?_
     rw [hdn]
     exact hb7
section
variable {h:Hp} {S:List Nat} {xs:List Hd}
theorem q0jc {a:Hd} (q:Hq w0 2 h p lf xs.length (xs.flatMap q08) S) (hl:xs.length < 1000000000)
  (hlt:∀ h1 S1,Step h h1 S S1→∀ x y,x∈a :: xs→y∈a :: xs→q1n prog w0 lf [(Value.agg (q08 x).toArray),(Value.agg (q08 y).toArray)] (λ r h2=>r=.bool (lt x y)∧Step h1 h2 [] []) h1):
  qf prog w0 q6r [ptr p,(Value.agg (q08 a).toArray)] h λ _ h'=>∃ S',Hq w0 2 h' p lf (q9o lt xs a).length ((q9o lt xs a).flatMap q08) S'∧Step h h' S S':=by
 refine qf.of_fit (by simp [ptr]) λ f=>q01f (by simp [ptr]) ?_
 obtain ⟨x,U,bp,v,wp,lp,nU,rfl⟩:=q
 have hz:q00 [Value.slice none 0 0,Value.int .i64 0] 1=[Value.slice none 0 0,Value.int .i64 0]:=rfl
 simp only [qhj,wd, wa,ptr,q4c]
 have s0:Step h (h.new (q08 a) 2) [] [h.next]:=(Step.refl h [] (by simp)).new _ _
 have v0:=v.frame s0 (by simp)
 have bp0:(h.new (q08 a) 2).blk p=some [x,lf]:=by rw [q3a,if_neg (by omega)]; exact bp
 have bq0:(h.new (q08 a) 2).blk h.next=some (q08 a):=by simp
 have f0:w0.heap.size≤(h.new (q08 a) 2).next:=by have:=f.base; simp; omega
 have n0:(h.new (q08 a) 2).next=h.next + 1:=rfl
 generalize h.new (q08 a) 2=h0 at s0 v0 bp0 bq0 f0 n0 ⊢
 refine qj wp bp0 rfl ?_
 refine q16 f.base bq0 rfl ?_
 simp only [q3s,q95,q1u,hz,q3o,q32,q4n]
 have hsp:splice [Value.slice none 0 0,Value.int .i64 0] 0 (q08 a)=q08 a:=rfl
 refine ⟨rfl,by simp,?_,?_⟩
 ·refine qj (cs:=[x,lf]) wp ?_ rfl rfl
  rw [q3a,if_neg (by omega)]
  exact bp0
 rw [hsp]
 have s1:Step h0 (h0.new (q08 a) 2) [] [h0.next]:=(Step.refl h0 [] (by simp)).new _ _
 have v1:=v0.frame s1 (by simp)
 have s01:Step h (h0.new (q08 a) 2) [] []:=(s0.less (by simp)).trans (s1.less (by simp))
 refine q3g (m:=1) (by simp; omega) v1 rfl (q3h f0 rfl) rfl (by omega) (by omega) (by omega) λ x' h2 U' v' st=>?_
 obtain ⟨u,rfl,rfl,u1,u2,u3,u4,u5⟩:∃ u,x'=.slice (some ⟨u,0,none⟩) (xs.length + 1) q0b∧U'=[u]∧w0.heap.size≤u∧u < h2.next∧h2.blk u=some (xs.flatMap q08++q08 a)∧h2.esz u=2∧(xs.flatMap q08++q08 a).length=(xs.length + 1) * 2:=by
  rcases v' with ⟨-,q,-⟩ | q
  ·omega
  ·exact q
 have bp2:h2.blk p=some [x,lf]:=by rw [(st.keep p (by simp; omega) nU).1,q3a,if_neg (by omega)]; exact bp0
 have hpu:p≠u:=λ e=>by
  subst e
  rcases (st.own p (by simp)).2 with q | q
  ·exact nU q
  ·simp at q; omega
 refine q21 wp bp2 (by simp) rfl ?_
 simp only [List.set_cons_zero]
 have s2:Step h h2 (p :: U) [p,u]:=(s01.wide (T:=p :: U) (T':=p :: U) (by simp) (λ q hq=>.inr ⟨hq,by
  rcases List.mem_cons.1 hq with rfl | hq
  ·exact lp
  ·exact (v.lt q hq).2⟩)).trans (st.wide (λ q hq=>by simp [hq]) (λ q hq=>by
  rcases List.mem_cons.1 hq with rfl | hq
  ·exact .inr ⟨by simp,by simp; omega⟩
  ·exact .inl hq))
 have s3:=s2.put (p:=p) (by simp) [.slice (some ⟨u,0,none⟩) (xs.length + 1) q0b,lf]
 have hb:HB w0 2 (h2.put p [.slice (some ⟨u,0,none⟩) (xs.length + 1) q0b,lf]) p u (xs.length + 1) lf ((xs++[a]).flatMap q08++[]):=
  ⟨by simp,by rw [q17,if_neg (Ne.symm hpu),u3,List.append_nil,List.flatMap_append]; simp,wp,u1,hpu,by have:=s2.1; simp; omega,u2,u4⟩
 generalize h2.put p [.slice (some ⟨u,0,none⟩) (xs.length + 1) q0b,lf]=h3 at s3 hb ⊢
 have e1:IntKind.i64.wrap (((xs.length + 1:Nat):Int) - 1)=(xs.length:Int):=by rw [IntWalk.i64_in _ (by omega)]; omega
 refine qj wp hb.bp rfl ?_
 simp only [wd, wa,e1]
 refine ⟨xs.length + 1,?_⟩
 refine q0ci (hh:=h3) (Z:=[]) (lt:=lt) (L:=a :: xs) (λ h4 s4 x y hx hy=>hlt h4 _ (s3.trans s4) x y hx hy) (by omega) _ _ (xs++[a]) h3 (by omega) (by omega) (by simp) (λ b hb=>by simp at hb ⊢; exact hb.symm) hb.refl hb λ h5 s5 hb5=>?_
 simp only [qu]
 have hpl:(up lt (xs.length + 1) (xs++[a]) xs.length)=q9o lt xs a:=rfl
 have hlen:=qko (lt:=lt) xs a
 rw [hpl,List.append_nil] at hb5
 rw [hlen]
 exact ⟨by simp,[p,u],hb5.hq (by rw [q3f q1m,hlen]),s3.trans s5⟩
theorem q0kt {r:Hd} (q:Hq w0 2 h p lf xs.length (xs.flatMap q08) S) (hr:xs[0]?=some r) (hl:xs.length < 1000000000)
  (hlt:∀ h1 S1,Step h h1 S S1→∀ x y,x∈xs→y∈xs→q1n prog w0 lf [(Value.agg (q08 x).toArray),(Value.agg (q08 y).toArray)] (λ r h2=>r=.bool (lt x y)∧Step h1 h2 [] []) h1):
  qf prog w0 qb4 [ptr p] h λ v h'=>v=(Value.agg (q08 r).toArray)∧∃ S',Hq w0 2 h' p lf (q30 lt xs).length ((q30 lt xs).flatMap q08) S'∧Step h h' S S':=by
 have hpos:0 < xs.length:=(List.getElem?_eq_some_iff.1 hr).1
 obtain ⟨n,hn⟩:∃ n,xs.length=n + 1:=⟨xs.length - 1,by omega⟩
 have hplen:(q30 lt xs).length=n:=by rw [qw9 hpos]; omega
 obtain ⟨u,rfl,hb,hcl⟩:=q.hb hpos
 obtain ⟨z,hz⟩:∃ z,xs[n]?=some z:=⟨xs[n],List.getElem?_eq_getElem (by omega)⟩
 have main:qf prog w0 qb4 [ptr p] h λ v h'=>v=(Value.agg (q08 r).toArray)∧Step h h' [p,u] [p,u]∧HB w0 2 h' p u n lf ((q30 lt xs).flatMap q08++[Value.slice none 0 0,Value.int .i64 0]):=by
  refine qf.of_fit (by simp [ptr]) λ f=>q01g (by simp [ptr]) ?_
  have e1:IntKind.i64.wrap ((xs.length:Int) - 1)=(n:Int):=by rw [IntWalk.i64_in _ (by omega)]; omega
  have g0:=q2l q1m [] hr
  have gz:=q2l q1m [] hz
  rw [List.append_nil] at g0 gz
  have hp_lt:=hb.lp
  have hu_lt:=hb.lu
  simp only [qhk,wd, wa,ptr,q2t]
  refine ⟨by simp [qv],?_⟩
  have sA:=hb.refl.new [Value.slice none 0 0,Value.int .i64 0] 2
  have hbA:HB w0 2 (h.new [Value.slice none 0 0,Value.int .i64 0] 2) p u xs.length lf (xs.flatMap q08):=hb.step ((Step.refl h [] (by simp)).new _ _ |>.less (by simp))
  have bqA:(h.new [Value.slice none 0 0,Value.int .i64 0] 2).blk h.next=some [Value.slice none 0 0,Value.int .i64 0]:=by simp
  have nA:(h.new [Value.slice none 0 0,Value.int .i64 0] 2).next=h.next + 1:=rfl
  generalize h.new [Value.slice none 0 0,Value.int .i64 0] 2=hA at sA hbA bqA nA ⊢
  refine qj hb.wp hbA.bp rfl ?_
  refine rd2 (i:=0) hb.wu hbA.bu hpos (by omega) g0 ?_
  simp only [q2t]
  refine ⟨by simp [qv],?_⟩
  have fA:w0.heap.size≤hA.next:=by have:=f.base; omega
  refine q4l (cs:=[Value.slice none 0 0,Value.int .i64 0]) (e:=q08 r) fA (by simp) rfl rfl ?_
  have sB:Step h ((hA.new [Value.slice none 0 0,Value.int .i64 0] 2).put hA.next (q08 r)) [p,u] [h.next,p,u]:=((sA.new [Value.slice none 0 0,Value.int .i64 0] 2).put (by simp) _).less (by simp)
  have hbB:HB w0 2 ((hA.new [Value.slice none 0 0,Value.int .i64 0] 2).put hA.next (q08 r)) p u xs.length lf (xs.flatMap q08):=(hbA.step ((Step.refl hA [] (by simp)).new [Value.slice none 0 0,Value.int .i64 0] 2 |>.less (by simp))).put_o (by omega) (by omega) _
  have bqB:((hA.new [Value.slice none 0 0,Value.int .i64 0] 2).put hA.next (q08 r)).blk h.next=some [Value.slice none 0 0,Value.int .i64 0]:=by rw [q17,if_neg (by omega),q3a,if_neg (by omega)]; exact bqA
  have brB:((hA.new [Value.slice none 0 0,Value.int .i64 0] 2).put hA.next (q08 r)).blk hA.next=some (q08 r):=by simp
  have nB:((hA.new [Value.slice none 0 0,Value.int .i64 0] 2).put hA.next (q08 r)).next=h.next + 2:=by show hA.next + 1=_; omega
  rw [nA] at brB ⊢
  rw [nA] at sB hbB bqB nB
  generalize (hA.new [Value.slice none 0 0,Value.int .i64 0] 2).put (h.next + 1) (q08 r)=hB at sB hbB bqB brB nB ⊢
  refine qj hb.wp hbB.bp rfl ?_
  simp only [wd, wa,e1]
  refine qj hb.wp hbB.bp rfl ?_
  refine qj hb.wp hbB.bp rfl ?_
  refine rd2 hb.wu hbB.bu (by omega) (by omega) gz ?_
  refine wr2 (i:=0) hb.wu hbB.bu hpos (by omega) rfl ?_
  have hf1:=q5o q1m [] hpos z
  rw [List.append_nil,List.append_nil] at hf1
  rw [hf1]
  have hb1:=hbB.put ((xs.set 0 z).flatMap q08)
  have sC:=sB.put (p:=u) (by simp) ((xs.set 0 z).flatMap q08)
  have hx1:(xs.set 0 z).length=n + 1:=by rw [List.length_set,hn]
  have bqC:(hB.put u ((xs.set 0 z).flatMap q08)).blk h.next=some [Value.slice none 0 0,Value.int .i64 0]:=by rw [q17,if_neg (by omega)]; exact bqB
  have brC:(hB.put u ((xs.set 0 z).flatMap q08)).blk (h.next + 1)=some (q08 r):=by rw [q17,if_neg (by omega)]; exact brB
  have nC:(hB.put u ((xs.set 0 z).flatMap q08)).next=h.next + 2:=nB
  generalize hB.put u ((xs.set 0 z).flatMap q08)=hC at hb1 sC bqC brC nC ⊢
  simp only [q2t]
  refine ⟨by simp [qv],?_⟩
  have sD:=(sC.new [Value.slice none 0 0,Value.int .i64 0] 2).less (T:=[h.next,p,u]) (by simp)
  have hbD:=hb1.step ((Step.refl hC [] (by simp)).new [Value.slice none 0 0,Value.int .i64 0] 2 |>.less (by simp))
  have bqD:(hC.new [Value.slice none 0 0,Value.int .i64 0] 2).blk h.next=some [Value.slice none 0 0,Value.int .i64 0]:=by rw [q3a,if_neg (by omega)]; exact bqC
  have brD:(hC.new [Value.slice none 0 0,Value.int .i64 0] 2).blk (h.next + 1)=some (q08 r):=by rw [q3a,if_neg (by omega)]; exact brC
  have bsD:(hC.new [Value.slice none 0 0,Value.int .i64 0] 2).blk hC.next=some [Value.slice none 0 0,Value.int .i64 0]:=by simp
  have fC:w0.heap.size≤hC.next:=by have:=f.base; omega
  have nD:(hC.new [Value.slice none 0 0,Value.int .i64 0] 2).next=hC.next + 1:=rfl
  generalize hC.new [Value.slice none 0 0,Value.int .i64 0] 2=hD at sD hbD bqD brD bsD nD ⊢
  refine qj hb.wp hbD.bp rfl ?_
  refine q16 fC bsD rfl ?_
  have hcl1:((xs.set 0 z).flatMap q08).length=(n + 1) * 2:=by rw [q3f q1m,hx1]
  refine wr2 hb.wu hbD.bu (by omega) (by omega) rfl ?_
  rw [q0mb q1m hx1 rfl]
  have hb2:=hbD.put (((xs.set 0 z).take n).flatMap q08++[Value.slice none 0 0,Value.int .i64 0])
  have st2:=sD.put (p:=u) (by simp) (((xs.set 0 z).take n).flatMap q08++[Value.slice none 0 0,Value.int .i64 0])
  have bqE:(hD.put u (((xs.set 0 z).take n).flatMap q08++[Value.slice none 0 0,Value.int .i64 0])).blk h.next=some [Value.slice none 0 0,Value.int .i64 0]:=by rw [q17,if_neg (by omega)]; exact bqD
  have brE:(hD.put u (((xs.set 0 z).take n).flatMap q08++[Value.slice none 0 0,Value.int .i64 0])).blk (h.next + 1)=some (q08 r):=by rw [q17,if_neg (by omega)]; exact brD
  have nE:h.next + 2≤(hD.put u (((xs.set 0 z).take n).flatMap q08++[Value.slice none 0 0,Value.int .i64 0])).next:=by
   show h.next + 2≤hD.next
   omega
  generalize hD.put u (((xs.set 0 z).take n).flatMap q08++[Value.slice none 0 0,Value.int .i64 0])=h2 at hb2 st2 bqE brE nE ⊢
  refine qj hb.wp hb2.bp rfl ?_
  have htl:((xs.set 0 z).take n).length=n:=by rw [List.length_take,hx1]; omega
  refine q33 (l:=0) (u:=n) rfl q2a (Nat.zero_le _) hb2.bu hb2.es (by omega) (by rw [List.length_append,q3f q1m,htl]; omega) ?_
  refine q21 hb.wp hb2.bp (by simp) rfl ?_
  rw [Nat.zero_mul,Nat.zero_add,Nat.sub_zero]
  simp only [List.set_cons_zero]
  have hb3:=hb2.put_p n
  have st3:=st2.put (p:=p) (by simp) [.slice (some ⟨u,0,none⟩) n q0b,lf]
  have bqF:(h2.put p [.slice (some ⟨u,0,none⟩) n q0b,lf]).blk h.next=some [Value.slice none 0 0,Value.int .i64 0]:=by rw [q17,if_neg (by omega)]; exact bqE
  have brF:(h2.put p [.slice (some ⟨u,0,none⟩) n q0b,lf]).blk (h.next + 1)=some (q08 r):=by rw [q17,if_neg (by omega)]; exact brE
  have nF:h.next + 2≤(h2.put p [.slice (some ⟨u,0,none⟩) n q0b,lf]).next:=nE
  generalize h2.put p [.slice (some ⟨u,0,none⟩) n q0b,lf]=h3 at hb3 st3 bqF brF nF ⊢
  refine ⟨n + 1 + 1,?_⟩
  refine q0cz (hh:=h3) (Z:=[Value.slice none 0 0,Value.int .i64 0]) (lt:=lt) (L:=xs) (λ h4 s4 x y hx hy=>hlt h4 _ (st3.trans (s4.tail (by omega))) x y hx hy) (by omega) (n + 1) 0 _ h3 (by omega) (by omega) htl (λ b hb=>?_) hb3.refl hb3 λ h5 s5 hb5=>?_
  ·have:=List.mem_of_mem_take hb
   rcases List.mem_or_eq_of_mem_set this with q | q
   ·exact q
   ·rw [q]; exact List.mem_of_getElem? hz
  ·have bq5:h5.blk h.next=some [Value.slice none 0 0,Value.int .i64 0]:=by rw [(s5.keep h.next (by omega) (by simp; omega)).1]; exact bqF
   have br5:h5.blk (h.next + 1)=some (q08 r):=by rw [(s5.keep (h.next + 1) (by omega) (by simp; omega)).1]; exact brF
   have fb:=f.base
   refine q16 (by omega) br5 rfl ?_
   refine q4l (cs:=[Value.slice none 0 0,Value.int .i64 0]) (e:=q08 r) fb bq5 rfl rfl ?_
   refine q16 (cs:=q08 r) fb (by simp) rfl ?_
   simp only [qu,q06]
   have hpl:down lt (n + 1 + 1) ((xs.set 0 z).take n) 0=q30 lt xs:=by
    unfold q30
    rw [show xs.length - 1=n by omega,hz,hn]
   rw [hpl] at hb5
   have s6:Step h (h5.put h.next (q08 r)) [p,u] [p,u]:=((st3.trans (s5.tail (by omega))).put (by simp) _).less (by simp)
   exact ⟨by simp,trivial,s6,hb5.put_o (by omega) (by omega) _⟩
 refine main.forget λ v h' ⟨e,st,hb'⟩ f=>.inr ⟨u,_,n * 2,hb'.wu,hb'.bu,e,[p,u],?_,st.put (by simp) _⟩
 have hl':((q30 lt xs).flatMap q08).length=n * 2:=by rw [q3f q1m,hplen]
 rw [← hl',List.take_left,hplen]
 exact (hb'.put _).hq hl'
end
end
abbrev Itm:=Key × Ent
def above (acc:List Itm) (x:Itm):Bool:=
 match acc.getLast? with
 | none=>true
 | some y=>blt y.1 x.1
def q3b (acc:List Itm):List Itm→List Itm
 | []=>acc
 | x :: l=>q3b (if above acc x=true then acc++[x] else acc) l
def srt (l:List Itm):List Itm:=q3b [] l
theorem qy1:∀ (l acc:List Itm),(q3b acc l).length≤acc.length + l.length
 | [],acc=>by simp [q3b]
 | x :: l,acc=>by
  rw [q3b]
  refine Nat.le_trans (qy1 l _) ?_
  split <;> simp <;> omega
theorem qz0 (l:List Itm):(srt l).length≤l.length:=by simpa [srt] using qy1 l []
theorem qvz:∀ (a b acc:List Itm),q3b acc (a++b)=q3b (q3b acc a) b
 | [],b,acc=>rfl
 | x :: a,b,acc=>by rw [List.cons_append,q3b,q3b,qvz]
theorem qy8 (l:List Itm) (x:Itm):srt (l++[x])=if above (srt l) x=true then srt l++[x] else srt l:=by
 unfold srt
 rw [qvz,q3b,q3b]
theorem q0he (l:List Itm):Srt (srt l):=by
 have:∀ (l acc:List Itm),Srt acc→Srt (q3b acc l):=by
  intro l
  induction l with
  | nil=>intro acc h; exact h
  | cons x l ih=>
   intro acc h
   rw [q3b]
   refine ih _ ?_
   split
   ·rename_i ha
    refine List.pairwise_append.2 ⟨h,by simp,λ a ha' b hb=>?_⟩
    simp at hb
    subst hb
    unfold above at ha
    split at ha
    ·rename_i e
     rw [List.getLast?_eq_none_iff] at e
     subst e
     simp at ha'
    ·rename_i y e
     rcases List.getLast?_eq_some_iff.1 e with ⟨ys,rfl⟩
     rcases List.mem_append.1 ha' with q | q
     ·exact q5h ((List.pairwise_append.1 h).2.2 a q y (by simp)) ha
     ·simp at q; subst q; exact ha
   ·exact h
 exact this l [] List.Pairwise.nil
section
variable {w0:World} {h:Hp}
theorem q0hq {acc:List Itm} {x:Itm} (h0:0 < acc.length):∃ y,acc[acc.length - 1]?=some y∧above acc x=blt y.1 x.1:=by
 refine ⟨acc[acc.length - 1],List.getElem?_eq_getElem (by omega),?_⟩
 unfold above
 rw [List.getLast?_eq_getElem?,List.getElem?_eq_getElem (by omega)]
theorem q0f0 {k0:Value→Hp→Prop} {v:Value} {l:List Itm} {hh:Hp} (hv:Is w0 hh v l) (fh:Fit w0 hh) (hl:l.length≤1000000000)
  (hk:∀ x' h' S',Vec w0 h' 4 x' (srt l).length (ivs (srt l)) S'→Step hh h' [] S'→k0 x' h'):∀ (post pre:List Itm) (h1:Hp) (x3:Value) (S1:List Nat),pre++post=l→Vec w0 h1 4 x3 (srt pre).length (ivs (srt pre)) S1→Step hh h1 [] S1→
   q5x prog w0 k0 (post.length + 1) x3 v (.int .i64 (l.length:Int)) (.int .i64 (pre.length:Int)) h1:=by
 intro post
 induction post with
 | nil=>
  intro pre h1 x3 S1 he g st
  have hpre:pre=l:=by simpa using he
  subst hpre
  rw [List.length_nil,q5x]
  simp only [qdj,wd, wa,Int.lt_irrefl,decide_false]
  exact hk x3 h1 S1 g st
 | cons x post ih=>
  intro pre h1 x3 S1 he g st
  have hlen:pre.length + (post.length + 1)=l.length:=by rw [← he]; simp
  have hg:l[pre.length]?=some x:=by rw [← he]; simp
  have c1:decide ((pre.length:Int) < (l.length:Int))=true:=decide_eq_true (by omega)
  have e6:=wrS pre x (by omega)
  have hsl:=qz0 pre
  have vs:Is w0 h1 v l:=hv.step fh st (by simp)
  have fb:=st.base fh.base
  rw [List.length_cons,q5x]
  simp only [qdj,wd, wa,c1]
  refine vs.elem (by omega) (qat hg) ?_
  refine q2f fb rfl rfl (by simp [qv]) ?_
  have sx:Step h1 (h1.new (iv x) 4) [] [h1.next]:=(Step.refl h1 [] (by simp)).new _ _
  have hx:(h1.new (iv x) 4).blk h1.next=some (iv x):=by simp
  have stx:Step hh (h1.new (iv x) 4) [] S1:=st.trans ((sx.less (T:=[]) (by simp)).keepS λ b hb=>(g.lt b hb).2)
  have gx:=g.frame sx (by simp)
  have fbx:w0.heap.size≤(h1.new (iv x) 4).next:=by simp; omega
  generalize hnx:h1.new (iv x) 4=hx1 at *
  have hwx:w0.heap.size≤h1.next:=fb
  simp only [gx.sl.lenv,wd, wa]
  have on:∀ x4 h4 S4,Vec w0 h4 4 x4 (srt (pre++[x])).length (ivs (srt (pre++[x]))) S4→Step hh h4 [] S4→q5x prog w0 k0 (post.length + 1) x4 v (.int .i64 (l.length:Int)) (.int .i64 ((pre++[x]).length:Int)) h4:=λ x4 h4 S4 g4 s4=>ih (pre++[x]) h4 x4 S4 (by simpa using he) g4 s4
  have push:above (srt pre) x=true→qw w0 (.pointer (some ⟨h1.next,0,none⟩)) 4 (λ v29=>q0j [(0,4,true,v29)] (q00 [(.string .empty),(.string .empty),(.string .empty),(.bool false)] 1) 1 4 λ v30=>q0h w0 4 56 x3 v30 λ v31=>q5x prog w0 k0 (post.length + 1) v31 v (.int .i64 (l.length:Int)) (.int .i64 (IntKind.i64.wrap ((pre.length:Int) + 1)))) hx1:=by
   intro ha
   refine q16 hwx hx rfl ?_
   refine q4a (by omega) gx.gv rfl rfl (by omega) (by omega) (by omega) λ x' h2 S2 v2 s2=>?_
   rw [e6]
   have e:=qy8 pre x
   rw [if_pos ha] at e
   refine on x' h2 S2 ?_ (stx.trans s2)
   rw [e]
   simpa [ivs] using v2
  rcases Nat.eq_zero_or_pos (srt pre).length with h0 | h0
  ·have ha:above (srt pre) x=true:=by rw [List.eq_nil_of_length_eq_zero h0]; rfl
   have c2:(((srt pre).length:Int) == 0)=true:=by rw [h0]; rfl
   simp only [c2,wd, wa]
   exact push ha
  ·have c2:(((srt pre).length:Int) == 0)=false:=by rw [beq_eq_false_iff_ne]; omega
   obtain ⟨y,hy,hay⟩:=q0hq (x:=x) h0
   have e5:IntKind.i64.wrap (((srt pre).length:Int) - 1)=(((srt pre).length - 1:Nat):Int):=by rw [IntWalk.i64_in _ (by omega)]; omega
   simp only [c2,wd, wa,e5]
   refine qj hwx hx rfl ?_
   refine gx.sl.fld (o:=0) (by omega) (by omega) (qcs hy) ?_
   simp only [q00h,wd, wa,← hay]
   cases ha:above (srt pre) x with
   | true=>
    simp only [wd, wa]
    exact push ha
   | false=>
    simp only [wd, wa,e6]
    have e:=qy8 pre x
    rw [ha,if_neg (by simp)] at e
    exact on x3 hx1 S1 (by rw [e]; exact gx) stx
theorem q0f4 {v:Value} {l:List Itm} (hv:Is w0 h v l) (hl:l.length≤1000000000):qf prog w0 qhu [v] h λ r h'=>∃ S',Vec w0 h' 4 r (srt l).length (ivs (srt l)) S'∧Step h h' [] S':=by
 refine qf.of_fit (by simpa using hv.junk) λ f=>q039 (by simpa using hv.junk) ?_
 simp only [qhv,hv.lenv,wd, wa]
 refine ⟨l.length + 1,?_⟩
 refine q0f0 hv f hl (λ x' h' S' g st=>?_) l [] h _ [] rfl .nil (.refl _ _ (by simp))
 simp only [qu,q06]
 obtain ⟨a,c,e⟩:=g.slice
 exact ⟨by simp [e],S',g,st⟩
end
def qb1 (ls:List (List Itm)) (x:Itm):Prop:=∃ (n:Nat) (l:List Itm),ls[n]?=some l∧x∈l∧∀ (m:Nat) (l':List Itm),m < n→ls[m]?=some l'→∀ y,y∈l'→y.1≠x.1
structure IsM (ls:List (List Itm)) (out:List Itm):Prop where
 srt:Srt out
 sub:∀ x,x∈out→qb1 ls x
 all:∀ (m:Nat) (l':List Itm) y,ls[m]?=some l'→y∈l'→∃ o,o∈out∧o.1=y.1
theorem Srt.uniq {l:List Itm} (s:Srt l) {x y:Itm} (hx:x∈l) (hy:y∈l) (e:x.1=y.1):x=y:=by
 obtain ⟨i,hi⟩:=List.getElem?_of_mem hx
 obtain ⟨j,hj⟩:=List.getElem?_of_mem hy
 obtain ⟨h1,rfl⟩:=List.getElem?_eq_some_iff.1 hi
 obtain ⟨h2,rfl⟩:=List.getElem?_eq_some_iff.1 hj
 rcases Nat.lt_trichotomy i j with h | h | h
 ·exact absurd e (q4f (List.pairwise_iff_getElem.1 s i j h1 h2 h))
 ·subst h; rfl
 ·exact absurd e.symm (q4f (List.pairwise_iff_getElem.1 s j i h2 h1 h))
theorem qb1.uniq {ls:List (List Itm)} (hs:∀ l,l∈ls→Srt l) {x y:Itm} (hx:qb1 ls x) (hy:qb1 ls y) (e:x.1=y.1):x=y:=by
 obtain ⟨n,l,h1,h2,h3⟩:=hx
 obtain ⟨m,l',k1,k2,k3⟩:=hy
 rcases Nat.lt_trichotomy n m with h | h | h
 ·exact absurd e (k3 n l h h1 x h2)
 ·subst h
  rw [h1] at k1
  cases k1
  exact (hs l (List.mem_of_getElem? h1)).uniq h2 k2 e
 ·exact absurd e.symm (h3 m l' h k1 y k2)
theorem Srt.ext:∀ {a b:List Itm},Srt a→Srt b→(∀ x,x∈a↔x∈b)→a=b
 | [],[],_,_,_=>rfl
 | [],y :: b,_,_,h=>by have:=(h y).2 (by simp); simp at this
 | x :: a,[],_,_,h=>by have:=(h x).1 (by simp); simp at this
 | x :: a,y :: b,sa,sb,h=>by
  obtain ⟨a1,a2⟩:=List.pairwise_cons.1 sa
  obtain ⟨b1,b2⟩:=List.pairwise_cons.1 sb
  have hxy:x=y:=by
   have e1:=(h x).1 (by simp)
   have e2:=(h y).2 (by simp)
   rcases List.mem_cons.1 e1 with e1 | e1
   ·exact e1
   ·rcases List.mem_cons.1 e2 with e2 | e2
    ·exact e2.symm
    ·have:=qg3 (a1 y e2)
     rw [b1 x e1] at this
     cases this
  subst hxy
  refine congrArg _ (Srt.ext a2 b2 λ z=>⟨λ hz=>?_,λ hz=>?_⟩)
  ·have:=(h z).1 (by simp [hz])
   rcases List.mem_cons.1 this with rfl | e
   ·have:=a1 z hz; rw [q4p] at this; cases this
   ·exact e
  ·have:=(h z).2 (by simp [hz])
   rcases List.mem_cons.1 this with rfl | e
   ·have:=b1 z hz; rw [q4p] at this; cases this
   ·exact e
theorem IsM.uniq {ls:List (List Itm)} (hs:∀ l,l∈ls→Srt l) {a b:List Itm} (ha:IsM ls a) (hb:IsM ls b):a=b:=by
 have key:∀ {a b:List Itm},IsM ls a→IsM ls b→∀ x,x∈a→x∈b:=by
  intro a b ha hb x hx
  have hf:=ha.sub x hx
  obtain ⟨n,l,h1,h2,-⟩:=id hf
  obtain ⟨o,ho,e⟩:=hb.all n l x h1 h2
  rw [← (hb.sub o ho).uniq hs hf e]
  exact ho
 exact ha.srt.ext hb.srt λ x=>⟨key ha hb x,key hb ha x⟩
def q1y (a:Hd):Key:=
 match a.l with
 | []=>[]
 | x :: _=>x.1
def ltH (a b:Hd):Bool:=blt (q1y a) (q1y b) || (decide (q1y a=q1y b) && decide (a.n < b.n))
theorem qz1 (a b:Hd):ltH a b=true↔blt (q1y a) (q1y b)=true∨(q1y a=q1y b∧a.n < b.n):=by simp [ltH]
theorem qcv (a b:Hd):ltH a b=false↔blt (q1y a) (q1y b)=false∧(q1y a=q1y b→b.n≤a.n):=by simp [ltH]
theorem qn9:Ord ltH:=by
 refine ⟨λ a=>?_,λ {a b} h=>?_,λ {a b c} h1 h2=>?_,λ {a b c} h1 h2=>?_⟩
 ·rw [qcv]; exact ⟨q4p _,λ _=>Int.le_refl _⟩
 ·rw [qz1] at h
  rw [qcv]
  rcases h with h | ⟨h,h'⟩
  ·exact ⟨qg3 h,λ e=>absurd e.symm (q4f h)⟩
  ·exact ⟨by rw [h]; exact q4p _,λ _=>by omega⟩
 ·rw [qz1] at *
  rcases h1 with h1 | ⟨h1,h1'⟩
  ·rcases h2 with h2 | ⟨h2,h2'⟩
   ·exact .inl (q5h h1 h2)
   ·rw [← h2]; exact .inl h1
  ·rcases h2 with h2 | ⟨h2,h2'⟩
   ·rw [h1]; exact .inl h2
   ·exact .inr ⟨h1.trans h2,by omega⟩
 ·rw [qcv] at *
  obtain ⟨a1,a2⟩:=h1
  obtain ⟨b1,b2⟩:=h2
  rcases qav a1 with e | e
  ·rcases qav b1 with e' | e'
   ·have:=a2 e; have:=b2 e'
    exact ⟨by rw [e,e']; exact q4p _,λ _=>by omega⟩
   ·rw [e]; exact ⟨b1,λ q=>absurd q.symm (q4f e')⟩
  ·rcases qav b1 with e' | e'
   ·rw [← e']; exact ⟨a1,λ q=>absurd q.symm (q4f e)⟩
   ·have:=q5h e' e
    exact ⟨qg3 this,λ q=>absurd q.symm (q4f this)⟩
structure MInv (ls:List (List Itm)) (xs:List Hd) (out:List Itm):Prop where
 srt:Srt out
 sub:∀ x,x∈out→qb1 ls x
 hd:∀ a,a∈xs→0 < a.l.length∧∃ (n:Nat) (p:List Itm),a.n=(n:Int)∧ls[n]?=some (p++a.l)
 ab:∀ a,a∈xs→∀ y,y∈a.l→∀ o,o∈out→blt y.1 o.1=false
 all:∀ (m:Nat) (l':List Itm) y,ls[m]?=some l'→y∈l'→(∃ o,o∈out∧o.1=y.1)∨∃ a,a∈xs∧a.n=(m:Int)∧y∈a.l
theorem MInv.perm {ls:List (List Itm)} {xs ys:List Hd} {out:List Itm} (i:MInv ls xs out) (p:ys.Perm xs):MInv ls ys out:=
 ⟨i.srt,i.sub,λ a ha=>i.hd a (p.mem_iff.1 ha),λ a ha=>i.ab a (p.mem_iff.1 ha),λ m l y h1 h2=>by
  rcases i.all m l y h1 h2 with q | ⟨a,a1,a2⟩
  ·exact .inl q
  ·exact .inr ⟨a,p.mem_iff.2 a1,a2⟩⟩
theorem MInv.done {ls:List (List Itm)} {out:List Itm} (i:MInv ls [] out):IsM ls out:=
 ⟨i.srt,i.sub,λ m l y h1 h2=>by
  rcases i.all m l y h1 h2 with q | ⟨a,a1,a2⟩
  ·exact q
  ·simp at a1⟩
theorem Srt.suffix {p l:List Itm} (s:Srt (p++l)):Srt l:=(List.pairwise_append.1 s).2.1
theorem MInv.take {ls:List (List Itm)} (hs:∀ l,l∈ls→Srt l) {xs:List Hd} {r:Hd} {x:Itm} {rest:List Itm} {out:List Itm} (i:MInv ls (r :: xs) out) (hr:r.l=x :: rest) (hmin:∀ a,a∈xs→ltH a r=false)
  (ys:List Hd) (hy:(rest=[]∧ys=xs)∨∃ q,ys.Perm (q :: xs)∧q.l=rest∧q.n=r.n∧0 < rest.length):
  ((out.getLast?).map (·.1)=some x.1→MInv ls ys out)∧((out.getLast?).map (·.1)≠some x.1→MInv ls ys (out++[x])):=by
 obtain ⟨hpos,n,p,hn,hp⟩:=i.hd r (by simp)
 have hsr:Srt r.l:=(hs _ (List.mem_of_getElem? hp)).suffix
 have hkr:q1y r=x.1:=by unfold q1y; rw [hr]
 have hge:∀ a,a∈r :: xs→∀ y,y∈a.l→blt y.1 x.1=false:=by
  intro a ha y hy
  have hka:blt (q1y a) x.1=false:=by
   rcases List.mem_cons.1 ha with rfl | ha
   ·rw [hkr]; exact q4p _
   ·have:=((qcv a r).1 (hmin a ha)).1
    rwa [hkr] at this
  obtain ⟨_,n',p',_,hp'⟩:=i.hd a ha
  have hsa:Srt a.l:=(hs _ (List.mem_of_getElem? hp')).suffix
  cases hal:a.l with
  | nil=>rw [hal] at hy; simp at hy
  | cons z zs=>
   have hkz:q1y a=z.1:=by unfold q1y; rw [hal]
   rw [hkz] at hka
   rw [hal] at hy hsa
   rcases List.mem_cons.1 hy with rfl | hy
   ·exact hka
   ·have hzy:=(List.pairwise_cons.1 hsa).1 y hy
    cases e:blt y.1 x.1 with
    | false=>rfl
    | true=>rw [q5h hzy e] at hka; cases hka
 have hmem:∀ a,a∈ys→(∃ b,b∈r :: xs∧a.n=b.n∧∀ y,y∈a.l→y∈b.l):=by
  intro a ha
  rcases hy with ⟨-,rfl⟩ | ⟨q,hq,ql,qn,-⟩
  ·exact ⟨a,by simp [ha],rfl,λ y hy=>hy⟩
  ·rcases List.mem_cons.1 (hq.mem_iff.1 ha) with rfl | ha
   ·exact ⟨r,by simp,qn,λ y hy=>by rw [hr,← ql]; simp [hy]⟩
   ·exact ⟨a,by simp [ha],rfl,λ y hy=>hy⟩
 have hhd:∀ a,a∈ys→0 < a.l.length∧∃ (n:Nat) (p:List Itm),a.n=(n:Int)∧ls[n]?=some (p++a.l):=by
  intro a ha
  rcases hy with ⟨-,rfl⟩ | ⟨q,hq,ql,qn,q0⟩
  ·exact i.hd a (by simp [ha])
  ·rcases List.mem_cons.1 (hq.mem_iff.1 ha) with rfl | ha
   ·exact ⟨by rw [ql]; exact q0,n,p++[x],by rw [qn,hn],by rw [hp,hr,ql]; simp⟩
   ·exact i.hd a (by simp [ha])
 have hall:∀ (m:Nat) (l':List Itm) y,ls[m]?=some l'→y∈l'→(∃ o,o∈out∧o.1=y.1)∨y.1=x.1∨∃ a,a∈ys∧a.n=(m:Int)∧y∈a.l:=by
  intro m l' y h1 h2
  rcases i.all m l' y h1 h2 with q | ⟨a,ha,an,ay⟩
  ·exact .inl q
  ·rcases List.mem_cons.1 ha with rfl | ha
   ·rw [hr] at ay
    rcases List.mem_cons.1 ay with rfl | ay
    ·exact .inr (.inl rfl)
    ·rcases hy with ⟨rfl,-⟩ | ⟨q,hq,ql,qn,q0⟩
     ·simp at ay
     ·exact .inr (.inr ⟨q,hq.mem_iff.2 (by simp),by rw [qn]; exact an,by rw [ql]; exact ay⟩)
   ·rcases hy with ⟨-,rfl⟩ | ⟨q,hq,ql,qn,q0⟩
    ·exact .inr (.inr ⟨a,ha,an,ay⟩)
    ·exact .inr (.inr ⟨a,hq.mem_iff.2 (by simp [ha]),an,ay⟩)
 constructor
 ·intro hl
  obtain ⟨o,ho,hox⟩:=Option.map_eq_some_iff.1 hl
  have hom:=List.mem_of_getLast? ho
  refine ⟨i.srt,i.sub,hhd,λ a ha y hya w hw=>?_,λ m l' y h1 h2=>?_⟩
  ·obtain ⟨b,hb,-,hb'⟩:=hmem a ha
   exact i.ab b hb y (hb' y hya) w hw
  ·rcases hall m l' y h1 h2 with q | q | q
   ·exact .inl q
   ·exact .inl ⟨o,hom,by rw [q]; exact hox⟩
   ·exact .inr q
 ·intro hl
  have hxr:x∈r.l:=by rw [hr]; simp
  have hlt:∀ o,o∈out→blt o.1 x.1=true:=by
   intro o ho
   rcases List.eq_nil_or_concat out with rfl | ⟨os,z,rfl⟩
   ·simp at ho
   ·have hz:blt x.1 z.1=false:=i.ab r (by simp) x hxr z (by simp)
    have hne:z.1≠x.1:=λ e=>hl (by simp [e])
    have hzx:blt z.1 x.1=true:=by
     rcases qav hz with e | e
     ·exact absurd e.symm hne
     ·exact e
    rw [List.concat_eq_append] at ho
    rcases List.mem_append.1 ho with ho | ho
    ·have hss:=i.srt
     rw [List.concat_eq_append] at hss
     exact q5h ((List.pairwise_append.1 hss).2.2 o ho z (by simp)) hzx
    ·simp at ho; subst ho; exact hzx
  refine ⟨List.pairwise_append.2 ⟨i.srt,by simp,λ a ha b hb=>by simp at hb; subst hb; exact hlt a ha⟩,λ y hyo=>?_,hhd,λ a ha y hya w hw=>?_,λ m l' y h1 h2=>?_⟩
  ·rcases List.mem_append.1 hyo with q | q
   ·exact i.sub y q
   ·simp at q
    subst q
    refine ⟨n,_,hp,by rw [hr]; simp,λ m l' hm h1 w hw e=>?_⟩
    rcases i.all m l' w h1 hw with ⟨o,ho,hoe⟩ | ⟨a,ha,an,aw⟩
    ·have:=hlt o ho
     rw [hoe,e,q4p] at this
     cases this
    ·rcases List.mem_cons.1 ha with rfl | ha
     ·omega
     ·have h1:=(qcv a r).1 (hmin a ha)
      obtain ⟨_,n',p',_,hp'⟩:=i.hd a (by simp [ha])
      have hsa:Srt a.l:=(hs _ (List.mem_of_getElem? hp')).suffix
      have hka:q1y a=y.1:=by
       rw [hkr] at h1
       cases hal:a.l with
       | nil=>rw [hal] at aw; simp at aw
       | cons z zs=>
        have hkz:q1y a=z.1:=by unfold q1y; rw [hal]
        rw [hkz] at h1 ⊢
        rw [hal] at aw hsa
        rcases List.mem_cons.1 aw with rfl | aw
        ·exact e
        ·have hzw:=(List.pairwise_cons.1 hsa).1 w aw
         rw [e,h1.1] at hzw
         cases hzw
      have:=h1.2 (by rw [hka,hkr])
      omega
  ·obtain ⟨b,hb,-,hb'⟩:=hmem a ha
   rcases List.mem_append.1 hw with q | q
   ·exact i.ab b hb y (hb' y hya) w q
   ·simp at q
    subst q
    exact hge b hb y (hb' y hya)
  ·rcases hall m l' y h1 h2 with ⟨o,ho,q⟩ | q | q
   ·exact .inl ⟨o,by simp [ho],q⟩
   ·exact .inl ⟨x,by simp,q.symm⟩
   ·exact .inr q
structure q3l (w0:World) (h:Hp) (B:List Nat) (a:Hd):Prop where
 is:Is w0 h a.x a.l
 lt:∀ b,b∈q0z a.x→b < h.next
 nb:∀ b,b∈q0z a.x→b∉B
 ne:0 < a.l.length
section
variable {w0:World} {h h':Hp} {B B':List Nat} {a b:Hd}
theorem q3l.step (o:q3l w0 h B a) (st:Step h h' B B'):q3l w0 h' B' a:=
 ⟨o.is.stepL o.lt st o.nb,λ b hb=>Nat.lt_of_lt_of_le (o.lt b hb) st.1,λ b hb hB=>by
  rcases (st.own b hB).2 with q | q
  ·exact o.nb b hb q
  ·have:=o.lt b hb; omega,o.ne⟩
theorem q3l.key (o:q3l w0 h B a):(ivs a.l)[0 * 4 + 0]?=some (.string (str (q1y a))):=by
 have hn:=o.ne
 cases ha:a.l with
 | nil=>rw [ha] at hn; simp at hn
 | cons x l=>
  have:=qcs (l:=x :: l) (i:=0) (x:=x) rfl
  unfold q1y
  rw [ha]
  exact this
theorem q0mk (ha:q3l w0 h B a) (hb:q3l w0 h B b):qf prog w0 qdi [.agg (q08 a).toArray,.agg (q08 b).toArray] h λ r h'=>r=.bool (ltH a b)∧Step h h' [] []:=by
 refine qf.of_fit (by simp) λ f=>q02v (by simp) ?_
 have fb:=f.base
 simp only [qoe,q4c]
 have s2:Step h ((h.new (q08 a) 2).new (q08 b) 2) [] []:=(((Step.refl h [] (by simp)).new (q08 a) 2).new (q08 b) 2).less (by simp)
 have x1:((h.new (q08 a) 2).new (q08 b) 2).blk h.next=some (q08 a):=by simp
 have x2:((h.new (q08 a) 2).new (q08 b) 2).blk (h.next + 1)=some (q08 b):=by simp
 have n1:(h.new (q08 a) 2).next=h.next + 1:=rfl
 rw [n1]
 have oa:=ha.is.stepL ha.lt s2 (by simp)
 have ob:=hb.is.stepL hb.lt s2 (by simp)
 generalize (h.new (q08 a) 2).new (q08 b) 2=h2 at *
 simp only [wd, wa]
 refine qj fb x1 rfl ?_
 refine oa.fld ha.ne (by omega) ha.key ?_
 refine qj (by omega) x2 rfl ?_
 refine ob.fld hb.ne (by omega) hb.key ?_
 refine qq (qxb _ _) λ r h3 ⟨e,e'⟩ f3=>?_
 subst e e'
 simp only [wd, wa,qm3]
 cases c1:blt (q1y a) (q1y b) with
 | true=>
  simp only [wd, wa,qu,q06]
  exact ⟨by simp,by unfold ltH; rw [c1]; rfl,s2⟩
 | false=>
  simp only [wd, wa,qln]
  by_cases c2:q1y a=q1y b
  ·simp only [decide_eq_true c2,wd, wa]
   refine qj fb x1 rfl ?_
   refine qj (by omega) x2 rfl ?_
   simp only [wd, wa,qu,q06]
   exact ⟨by simp,by unfold ltH; rw [c1,decide_eq_true c2]; simp,s2⟩
  ·simp only [decide_eq_false c2,wd, wa,qu,q06]
   exact ⟨by simp,by unfold ltH; rw [c1,decide_eq_false c2]; rfl,s2⟩
abbrev lfH:Value:=.func (.func qdi) #[] #[]
theorem qxk (ha:q3l w0 h B a) (hb:q3l w0 h B b):q1n prog w0 lfH [.agg (q08 a).toArray,.agg (q08 b).toArray] (λ r h2=>r=.bool (ltH a b)∧Step h h2 [] []) h:=
 q4o (by kernel_rfl) (q0mk ha hb) λ r h2 e _=>e
def Ls (w0:World) (h:Hp) (x:Value) (ps:List (Value × List Itm)):Prop:=Sl w0 h 1 x ps.length (ps.map (·.1))∧∀ p,p∈ps→Is w0 h p.1 p.2
theorem Ls.step {x:Value} {ps:List (Value × List Itm)} (v:Ls w0 h x ps) (f:Fit w0 h) (st:Step h h' [] B'):Ls w0 h' x ps:=⟨v.1.step f st (by simp),λ p hp=>(v.2 p hp).step f st (by simp)⟩
structure HH (w0:World) (h:Hp) (p:Nat) (xs:List Hd) (S B:List Nat):Prop where
 q:Hq w0 2 h p lfH xs.length (xs.flatMap q08) S
 hp:q56 ltH xs
 ok:∀ a,a∈xs→q3l w0 h (S++B) a
 bl:∀ b,b∈B→b < h.next
 ap:∀ b,b∈S→b∉B
theorem HH.push {p:Nat} {xs:List Hd} {S:List Nat} (q:HH w0 h p xs S B) (o:q3l w0 h (S++B) a) (hl:xs.length < 1000000000):
  qf prog w0 q6r [ptr p,.agg (q08 a).toArray] h λ _ h'=>∃ S',HH w0 h' p (q9o ltH xs a) S' B∧Step h h' S S':=by
 refine (q0jc (lt:=ltH) (a:=a) q.q hl λ h1 S1 s1 x y hx hy=>?_).mono λ r h' ⟨S',q',s'⟩=>⟨S',⟨q',q0jq qn9 a q.hp,λ z hz=>?_,λ b hb=>Nat.lt_of_lt_of_le (q.bl b hb) s'.1,λ b hb hB=>?_⟩,s'⟩
 ·have oo:∀ z,z∈a :: xs→q3l w0 h (S++B) z:=λ z hz=>by
   rcases List.mem_cons.1 hz with rfl | hz
   ·exact o
   ·exact q.ok z hz
  have sm:=s1.more B q.bl
  exact qxk ((oo x hx).step sm) ((oo y hy).step sm)
 ·rcases List.mem_cons.1 ((qg6 xs a).mem_iff.1 hz) with rfl | hz
  ·exact o.step (s'.more B q.bl)
  ·exact (q.ok z hz).step (s'.more B q.bl)
 ·rcases (s'.own b hb).2 with e | e
  ·exact q.ap b e hB
  ·have:=q.bl b hB; omega
theorem HH.pop {p:Nat} {xs:List Hd} {S:List Nat} {r:Hd} (q:HH w0 h p xs S B) (hr:xs[0]?=some r) (hl:xs.length < 1000000000):
  qf prog w0 qb4 [ptr p] h λ v h'=>v=.agg (q08 r).toArray∧∃ S',HH w0 h' p (q30 ltH xs) S' B∧q3l w0 h' (S'++B) r∧Step h h' S S':=by
 refine (q0kt (lt:=ltH) (r:=r) q.q hr hl λ h1 S1 s1 x y hx hy=>?_).mono λ v h' ⟨e,S',q',s'⟩=>⟨e,S',⟨q',q0lb qn9 q.hp,λ z hz=>?_,λ b hb=>Nat.lt_of_lt_of_le (q.bl b hb) s'.1,λ b hb hB=>?_⟩,?_,s'⟩
 ·have sm:=s1.more B q.bl
  exact qxk ((q.ok x hx).step sm) ((q.ok y hy).step sm)
 ·exact (q.ok z ((qmc (lt:=ltH) hr).mem_iff.1 (by simp [hz]))).step (s'.more B q.bl)
 ·rcases (s'.own b hb).2 with e | e
  ·exact q.ap b e hB
  ·have:=q.bl b hB; omega
 ·exact (q.ok r (List.mem_of_getElem? hr)).step (s'.more B q.bl)
theorem HH.step {p:Nat} {xs:List Hd} {S:List Nat} (q:HH w0 h p xs S B) (st:Step h h' B B'):HH w0 h' p xs S B':=by
 have hS:=λ b hb=>(q.q.lt b hb).2
 have hap:∀ b,b∈S→b∉B':=λ b hb hB=>by
  rcases (st.own b hB).2 with e | e
  ·exact q.ap b hb e
  ·have:=hS b hb; omega
 refine ⟨q.q.frame st q.ap,q.hp,λ a ha=>?_,λ b hb=>(st.own b hb).1,hap⟩
 have o:=q.ok a ha
 refine ⟨o.is.stepL o.lt st (λ b hb hB=>o.nb b hb (by simp [hB])),λ b hb=>Nat.lt_of_lt_of_le (o.lt b hb) st.1,λ b hb hB=>?_,o.ne⟩
 rcases List.mem_append.1 hB with e | e
 ·exact o.nb b hb (by simp [e])
 ·rcases (st.own b e).2 with e | e
  ·exact o.nb b hb (by simp [e])
  ·have:=o.lt b hb; omega
end
def q2v (xs:List Hd):Nat:=(xs.map λ a=>a.l.length).sum
theorem qlp {xs ys:List Hd} (p:xs.Perm ys):q2v xs=q2v ys:=(p.map _).sum_nat
theorem qga (a:Hd) (xs:List Hd):q2v (a :: xs)=a.l.length + q2v xs:=by simp [q2v]
section
variable {w0:World} {h:Hp} {p:Nat}
theorem q0gd {k0:Value→Hp→Prop} {v:Value} {ps:List (Value × List Itm)} {hh:Hp} {ls:List (List Itm)} (hv:Ls w0 hh v ps) (fh:Fit w0 hh) (hls:ls=ps.map λ q=>srt q.2) (hl:ps.length≤2000000) (hl2:∀ q,q∈ps→q.2.length≤1000000000)
  (hk:∀ h' S' xs,HH w0 h' p xs S' []→MInv ls xs []→xs.length≤ps.length→q2v xs≤(ps.map λ q=>q.2.length).sum→Fit w0 h'→Step hh h' [] S'→k0 (ptr p) h'):
  ∀ (post pre:List (Value × List Itm)) (h1:Hp) (S1:List Nat) (xs:List Hd),pre++post=ps→Fit w0 h1→Step hh h1 [] S1→HH w0 h1 p xs S1 []→xs.length≤pre.length→q2v xs≤(pre.map λ q=>q.2.length).sum→
   (∀ a,a∈xs→∃ (n:Nat) (p:List Itm),n < pre.length∧a.n=(n:Int)∧ls[n]?=some (p++a.l))→(∀ (m:Nat) (l':List Itm) y,m < pre.length→ls[m]?=some l'→y∈l'→∃ a,a∈xs∧a.n=(m:Int)∧y∈a.l)→
   q7p prog w0 k0 (post.length + 1) (ptr p) v (.int .i64 (ps.length:Int)) (.int .i64 (pre.length:Int)) h1:=by
 intro post
 induction post with
 | nil=>
  intro pre h1 S1 xs he f1 st q hx hs i1 i2
  have hpre:pre=ps:=by simpa using he
  subst hpre
  rw [List.length_nil,q7p]
  simp only [qdp,wd, wa,Int.lt_irrefl,decide_false]
  refine hk h1 S1 xs q ⟨List.Pairwise.nil,by simp,λ a ha=>⟨(q.ok a ha).ne,?_⟩,by simp,λ m l' y hm hy=>.inr (i2 m l' y ?_ hm hy)⟩ hx hs f1 st
  ·obtain ⟨n,p,-,e1,e2⟩:=i1 a ha
   exact ⟨n,p,e1,e2⟩
  ·have:=(List.getElem?_eq_some_iff.1 hm).1
   rw [hls] at this
   simpa using this
 | cons z post ih=>
  intro pre h1 S1 xs he f1 st q hx hs i1 i2
  have hlen:pre.length + (post.length + 1)=ps.length:=by rw [← he]; simp
  have hg:ps[pre.length]?=some z:=by rw [← he]; simp
  have hzm:z∈ps:=List.mem_of_getElem? hg
  have c1:decide ((pre.length:Int) < (ps.length:Int))=true:=decide_eq_true (by omega)
  have e6:=wrS pre z (by omega)
  have vs:=hv.step fh st
  have hsum1:((pre++[z]).map λ q=>q.2.length).sum=(pre.map λ q=>q.2.length).sum + z.2.length:=by simp
  have hln:ls[pre.length]?=some (srt z.2):=by rw [hls,List.getElem?_map,hg]; rfl
  rw [List.length_cons,q7p]
  simp only [qdp,wd, wa,c1]
  refine vs.1.one (u:=z.1) (by rw [List.getElem?_map,hg]; rfl) ?_
  refine qq (q0f4 (vs.2 z hzm) (hl2 z hzm)) λ r h2 ⟨S2,g2,s2⟩ f2=>?_
  have hS1:=λ b hb=>(q.q.lt b hb).2
  have q2:HH w0 h2 p xs S1 []:=q.step (s2.less (by simp))
  have st2:Step hh h2 [] S1:=st.trans ((s2.less (T:=[]) (by simp)).keepS hS1)
  simp only [g2.sl.lenv,wd, wa]
  rcases Nat.eq_zero_or_pos (srt z.2).length with h0 | h0
  ·have c2:decide (((srt z.2).length:Int) > 0)=false:=decide_eq_false (by omega)
   have c3:decide ((0:Int) < ((srt z.2).length:Int))=false:=decide_eq_false (by omega)
   simp only [c2,c3,wd, wa,e6]
   refine ih (pre++[z]) h2 S1 xs (by simpa using he) f2 st2 q2 (by simp; omega) (by rw [hsum1]; omega) (λ a ha=>?_) (λ m l' y hm h1 h2=>?_)
   ·obtain ⟨n,p,a1,a2⟩:=i1 a ha
    exact ⟨n,p,by simp; omega,a2⟩
   ·rcases Nat.lt_or_ge m pre.length with q | q
    ·exact i2 m l' y q h1 h2
    ·have:m=pre.length:=by simp at hm; omega
     subst this
     rw [hln] at h1
     cases h1
     rw [List.eq_nil_of_length_eq_zero h0] at h2
     simp at h2
  ·have c2:decide (((srt z.2).length:Int) > 0)=true:=decide_eq_true (by omega)
   have c3:decide ((0:Int) < ((srt z.2).length:Int))=true:=decide_eq_true (by omega)
   have hrc:qv r=true:=by obtain ⟨q1,q2,q3⟩:=g2.slice; rw [q3]; rfl
   simp only [c2,c3,wd, wa,q2w,q28,q1u,List.set_cons_zero,List.set_cons_succ]
   refine ⟨hrc,by simp,rfl,by simp,?_⟩
   have hsl:=qz0 z.2
   have o:q3l w0 h2 (S1++[]) ⟨r,srt z.2,(pre.length:Int)⟩:=by
    refine ⟨g2.sl,λ b hb=>?_,λ b hb hB=>?_,h0⟩
    ·rw [g2.sblk_eq] at hb; exact (g2.lt b hb).2
    ·rw [g2.sblk_eq] at hb
     simp at hB
     have:=hS1 b hB
     rcases (s2.own b hb).2 with e | e
     ·simp at e
     ·omega
   refine qq (q2.push o (by omega)) λ _ h3 ⟨S3,q3,s3⟩ f3=>?_
   simp only [e6]
   have hpp:=qg6 (lt:=ltH) xs ⟨r,srt z.2,(pre.length:Int)⟩
   refine ih (pre++[z]) h3 S3 _ (by simpa using he) f3 (st2.trans s3) q3 (by rw [qko]; simp; omega) (by rw [qlp hpp,qga,hsum1]; simp only; omega) (λ a ha=>?_) (λ m l' y hm h1 h2=>?_)
   ·rcases List.mem_cons.1 (hpp.mem_iff.1 ha) with rfl | ha
    ·exact ⟨pre.length,[],by simp,rfl,by simpa using hln⟩
    ·obtain ⟨n,p,a1,a2⟩:=i1 a ha
     exact ⟨n,p,by simp; omega,a2⟩
   ·rcases Nat.lt_or_ge m pre.length with q | q
    ·obtain ⟨a,a1,a2⟩:=i2 m l' y q h1 h2
     exact ⟨a,hpp.mem_iff.2 (by simp [a1]),a2⟩
    ·have:m=pre.length:=by simp at hm; omega
     subst this
     rw [hln] at h1
     cases h1
     exact ⟨⟨r,srt z.2,(pre.length:Int)⟩,hpp.mem_iff.2 (by simp),rfl,h2⟩
theorem q0hh {k2:Value→Hp→Prop} {hh:Hp} {ls:List (List Itm)} {T:Nat} (hT:T≤1000000000) (hls:∀ l,l∈ls→Srt l)
  (hk:∀ x' h' out S B,IsM ls out→out.length≤T→Vec w0 h' 4 x' out.length (ivs out) B→Step hh h' [] (S++B)→k2 x' h'):
  ∀ (m:Nat) (xs:List Hd) (out:List Itm) (h1:Hp) (x6:Value) (S B:List Nat),q2v xs≤m→out.length + m≤T→xs.length≤2000000→Step hh h1 [] (S++B)→HH w0 h1 p xs S B→Vec w0 h1 4 x6 out.length (ivs out) B→MInv ls xs out→
   q4k prog w0 k2 (m + 1) (ptr p) x6 h1:=by
 intro m
 induction m with
 | zero=>
  intro xs out h1 x6 S B hm ho hx st q g i
  have hxs:xs=[]:=by
   cases xs with
   | nil=>rfl
   | cons a xs=>rw [qga] at hm; have:=(q.ok a (by simp)).ne; omega
  subst hxs
  obtain ⟨x,U,bp,v,wp,lp,nU,rfl⟩:=q.q
  rw [q4k]
  simp only [qb8,ptr,wd, wa]
  refine qj wp bp rfl ?_
  have c1:decide ((0:Int) < (([]:List Hd).length:Int))=false:=rfl
  simp only [v.sl.lenv,wd, wa,c1]
  exact hk x6 h1 out _ _ i.done (by omega) g st
 | succ m ih=>
  intro xs out h1 x6 S B hm ho hx st q g i
  cases hxs:xs with
  | nil=>
   subst hxs
   obtain ⟨x,U,bp,v,wp,lp,nU,rfl⟩:=q.q
   rw [q4k]
   simp only [qb8,ptr,wd, wa]
   refine qj wp bp rfl ?_
   have c1:decide ((0:Int) < (([]:List Hd).length:Int))=false:=rfl
   simp only [v.sl.lenv,wd, wa,c1]
   exact hk x6 h1 out _ _ i.done (by omega) g st
  | cons r xs0=>
   have hr:xs[0]?=some r:=by rw [hxs]; rfl
   have hxl:0 < xs.length:=by rw [hxs]; simp
   obtain ⟨x,U,bp,v,wp,lp,nU,eS⟩:=id q.q
   rw [q4k]
   simp only [qb8,ptr,wd, wa]
   refine qj wp bp rfl ?_
   have c1:decide ((0:Int) < (xs.length:Int))=true:=decide_eq_true (by omega)
   simp only [v.sl.lenv,wd, wa,c1]
   clear bp v nU eS
   refine qq (q.pop hr (by omega)) λ _ h2 ⟨e,S2,q2,o2,s2⟩ f2=>?_
   subst e
   have hB:=λ b hb=>(g.lt b hb).2
   have g2:=g.frame s2 (λ b hb hS=>q.ap b hS hb)
   have st2:Step hh h2 [] (S2++B):=st.trans (s2.more B hB)
   have hpp:=qmc (lt:=ltH) hr
   have hsm:q2v (q30 ltH xs) + r.l.length=q2v xs:=by rw [← qlp hpp,qga]; omega
   have hpl:=qw9 (lt:=ltH) hxl
   have imin:∀ a,a∈q30 ltH xs→ltH a r=false:=λ a ha=>q.hp.min qn9 hr (hpp.mem_iff.1 (by simp [ha]))
   have i2:MInv ls (r :: q30 ltH xs) out:=i.perm hpp
   have fb2:=f2.base
   refine q2f fb2 rfl rfl (by simp [qv]) ?_
   have s3:Step h2 (h2.new (q08 r) 2) [] [h2.next]:=(Step.refl h2 [] (by simp)).new _ _
   have b3:(h2.new (q08 r) 2).blk h2.next=some (q08 r):=by simp
   have f3:Fit w0 (h2.new (q08 r) 2):=f2.new (by
    obtain ⟨ax,cx,ex⟩:=o2.is.slice
    simp [q08,ex,qv])
   have hB2:=q2.bl
   have q3:=q2.step ((s3.less (T:=[]) (by simp)).keepS hB2)
   have hSB:∀ b,b∈S2++B→b < h2.next:=λ b hb=>by
    rcases List.mem_append.1 hb with e | e
    ·exact (q2.q.lt b e).2
    ·exact hB2 b e
   have st3:Step hh (h2.new (q08 r) 2) [] (S2++B):=st2.trans ((s3.less (T:=[]) (by simp)).keepS hSB)
   have o3:=o2.step ((s3.less (T:=[]) (by simp)).keepS hSB)
   have g3:=g2.frame s3 (by simp)
   have hnb:∀ b,b∈S2++B→b≠h2.next:=λ b hb=>by have:=hSB b hb; omega
   have hq2:h2.next < (h2.new (q08 r) 2).next:=by simp
   generalize hqq:h2.next=qn at *
   generalize h2.new (q08 r) 2=h3 at *
   obtain ⟨y,rest,hrl⟩:∃ y rest,r.l=y :: rest:=by
    cases h:r.l with
    | nil=>have:=o3.ne; rw [h] at this; simp at this
    | cons y rest=>exact ⟨y,rest,rfl⟩
   have hlr:r.l.length=rest.length + 1:=by rw [hrl]; rfl
   have hy:r.l[0]?=some y:=by rw [hrl]; rfl
   have tail:∀ (x7:Value) (out':List Itm) (h4:Hp) (B4:List Nat),w0.heap.size≤qn→out'.length≤out.length + 1→(∀ ys:List Hd,((rest=[]∧ys=q30 ltH xs)∨∃ q:Hd,ys.Perm (q :: q30 ltH xs)∧q.l=rest∧q.n=r.n∧0 < rest.length)→MInv ls ys out')→
     HH w0 h4 p (q30 ltH xs) S2 B4→q3l w0 h4 (S2++B4) r→Step hh h4 [] (S2++B4)→h4.blk qn=some (q08 r)→Vec w0 h4 4 x7 out'.length (ivs out') B4→
     qg w0 (.pointer (some ⟨qn,0,none⟩)) (λ v63=>qb (q05 v63) λ v64=>qb (qd .gtr v64 (.int .i64 1)) λ v65=>qt v65 (
      qg w0 (.pointer (some ⟨qn,0,none⟩)) λ v68=>q1e 4 v68 (some (.int .i64 1)) none none λ v69=>qg w0 (.pointer (some ⟨qn,1,none⟩)) λ v71=>
      q1t [(0,1,false,v69),(1,1,false,v71)] [.slice none 0 0,.int .i64 0] λ v72=>qi prog w0 q6r [.pointer (some ⟨p,0,none⟩),v72] λ v73=>q4k prog w0 k2 (m + 1) (.pointer (some ⟨p,0,none⟩)) x7) (q4k prog w0 k2 (m + 1) (.pointer (some ⟨p,0,none⟩)) x7)) h4:=by
    intro x7 out' h4 B4 hw hol hinv q4 o4 st4 b4 g4
    refine qj hw b4 rfl ?_
    simp only [o4.is.lenv,wd, wa]
    rcases Nat.eq_zero_or_pos rest.length with h0 | h0
    ·have c2:decide ((1:Int) < (r.l.length:Int))=false:=decide_eq_false (by omega)
     simp only [c2,wd, wa]
     exact ih _ out' h4 x7 S2 B4 (by omega) (by omega) (by omega) st4 q4 g4 (hinv _ (.inl ⟨List.eq_nil_of_length_eq_zero h0,rfl⟩))
    ·have c2:decide ((1:Int) < (r.l.length:Int))=true:=decide_eq_true (by omega)
     simp only [c2,wd, wa]
     refine qj hw b4 rfl ?_
     refine o4.is.cutN (lo:=1) (hi:=r.l.length) rfl rfl (by omega) (Nat.le_refl _) λ x' _ hsb vx=>?_
     have hcx:qv x'=true:=by obtain ⟨q1,q2,q3⟩:=vx.slice; rw [q3]; rfl
     refine qj hw b4 rfl ?_
     simp only [wd, wa,q2w,q28,q1u,List.set_cons_zero,List.set_cons_succ]
     refine ⟨hcx,by simp,rfl,by simp,?_⟩
     have o':q3l w0 h4 (S2++B4) ⟨x',rest,r.n⟩:=by
      refine ⟨?_,λ b hb=>o4.lt b (by rw [← hsb]; exact hb),λ b hb=>o4.nb b (by rw [← hsb]; exact hb),h0⟩
      have e:(ivs r.l).take (r.l.length * 4)=ivs r.l:=List.take_of_length_le (by rw [qwj]; omega)
      rw [e,qy4,hrl] at vx
      simpa using vx
     refine qq (q4.push o' (by omega)) λ _ h5 ⟨S5,q5,s5⟩ f5=>?_
     have hpu:=qg6 (lt:=ltH) (q30 ltH xs) ⟨x',rest,r.n⟩
     refine ih _ out' h5 x7 S5 B4 ?_ (by omega) (by rw [qko]; omega) (st4.trans (s5.more B4 q4.bl)) q5 (g4.frame s5 (λ b hb hS=>q4.ap b hS hb)) (hinv _ (.inr ⟨_,hpu,rfl,rfl,h0⟩))
     rw [qlp hpu,qga]
     simp only
     omega
   simp only [g3.sl.lenv,wd, wa]
   have q1y:q1y r=y.1:=by unfold q1y; rw [hrl]
   have push:(out.getLast?).map (·.1)≠some y.1→qg w0 (.pointer (some ⟨qn,0,none⟩)) (λ v57=>q04 4 v57 (.int .i64 0) λ v58=>qw w0 v58 4 λ v59=>q0j [(0,4,true,v59)] (q00 [(.string .empty),(.string .empty),(.string .empty),(.bool false)] 1) 1 4 λ v60=>q0h w0 4 56 x6 v60 λ x7=>
     qg w0 (.pointer (some ⟨qn,0,none⟩)) (λ v63=>qb (q05 v63) λ v64=>qb (qd .gtr v64 (.int .i64 1)) λ v65=>qt v65 (
      qg w0 (.pointer (some ⟨qn,0,none⟩)) λ v68=>q1e 4 v68 (some (.int .i64 1)) none none λ v69=>qg w0 (.pointer (some ⟨qn,1,none⟩)) λ v71=>
      q1t [(0,1,false,v69),(1,1,false,v71)] [.slice none 0 0,.int .i64 0] λ v72=>qi prog w0 q6r [.pointer (some ⟨p,0,none⟩),v72] λ v73=>q4k prog w0 k2 (m + 1) (.pointer (some ⟨p,0,none⟩)) x7) (q4k prog w0 k2 (m + 1) (.pointer (some ⟨p,0,none⟩)) x7))) h3:=by
    intro hne
    refine qj fb2 b3 rfl ?_
    refine o3.is.elem (i:=0) (by omega) (qat hy) ?_
    refine q4a (by omega) g3.gv rfl rfl (by omega) (by omega) (by omega) λ x7 h4 B4 g4 s4=>?_
    have s4':Step h3 h4 (S2++B) (S2++B4):=s4.wide (λ b hb=>by simp [hb]) (λ b hb=>by
     rcases List.mem_append.1 hb with e | e
     ·exact .inr ⟨by simp [e],by have:=hSB b (by simp [e]); omega⟩
     ·exact .inl e)
    have hb4:h4.blk qn=some (q08 r):=by rw [(s4.keep qn hq2 (λ e=>hnb qn (by simp [e]) rfl)).1]; exact b3
    exact tail x7 (out++[y]) h4 B4 fb2 (by simp) (λ ys hys=>(i2.take hls hrl imin ys hys).2 hne) (q3.step s4) (o3.step s4') (st3.trans s4') hb4 (by simpa [ivs] using g4)
   rcases Nat.eq_zero_or_pos out.length with h0 | h0
   ·have c2:((out.length:Int) == 0)=true:=by rw [h0]; rfl
    simp only [c2,wd, wa]
    refine push ?_
    rw [List.eq_nil_of_length_eq_zero h0]
    simp
   ·have c2:((out.length:Int) == 0)=false:=by rw [beq_eq_false_iff_ne]; omega
    have e5:IntKind.i64.wrap ((out.length:Int) - 1)=((out.length - 1:Nat):Int):=by rw [IntWalk.i64_in _ (by omega)]; omega
    have hz:out[out.length - 1]?=some out[out.length - 1]:=List.getElem?_eq_getElem (by omega)
    have hlast:out.getLast?=some out[out.length - 1]:=by rw [List.getLast?_eq_getElem?,hz]
    generalize out[out.length - 1]=z at hz hlast
    simp only [c2,wd, wa,e5]
    refine g3.sl.fld (o:=0) (by omega) (by omega) (qcs hz) ?_
    refine qj fb2 b3 rfl ?_
    refine o3.is.fld (i:=0) o3.ne (by omega) o3.key ?_
    simp only [q6l,wd, wa,q1y]
    by_cases hne:z.1=y.1
    ·simp only [decide_eq_false (not_not_intro hne),wd, wa]
     exact tail x6 out h3 B fb2 (by omega) (λ ys hys=>(i2.take hls hrl imin ys hys).1 (by rw [hlast]; simp [hne])) q3 o3 st3 b3 g3
    ·simp only [decide_eq_true (show z.1≠y.1 from hne),wd, wa]
     exact push (by rw [hlast]; simpa using hne)
theorem qwc {v:Value} {ps:List (Value × List Itm)} (hv:Ls w0 h v ps) (hl:ps.length≤2000000) (hl2:(ps.map λ q=>q.2.length).sum≤100000000):
  qf prog w0 qdq [v] h λ r h'=>∃ out S',IsM (ps.map λ q=>srt q.2) out∧out.length≤(ps.map λ q=>q.2.length).sum∧Vec w0 h' 4 r out.length (ivs out) S'∧Step h h' [] S':=by
 refine qf.of_fit (by simpa using hv.1.junk) λ f=>q03o (by simpa using hv.1.junk) ?_
 have fb:=f.base
 simp only [qi2,q2w,q28,q1u,List.set_cons_zero,List.set_cons_succ,q4c]
 have s1:Step h (h.new [Value.slice none 0 0,lfH] 2) [] [h.next]:=(Step.refl h [] (by simp)).new _ _
 have f1:Fit w0 (h.new [Value.slice none 0 0,lfH] 2):=f.new (by simp [qv])
 have q1:HH w0 (h.new [Value.slice none 0 0,lfH] 2) h.next [] [h.next] []:=
  ⟨⟨.slice none 0 0,[],by simp,.nil,fb,by simp,by simp,rfl⟩,λ j a b _ ha=>by simp at ha,by simp,by simp,by simp⟩
 have v1:=hv.step f s1
 refine ⟨rfl,by simp,?_⟩
 show qb (q05 v) _ (h.new [Value.slice none 0 0,lfH] 2)
 generalize h.new [Value.slice none 0 0,lfH] 2=h1 at *
 simp only [v1.1.lenv,wd, wa]
 refine ⟨ps.length + 1,q0gd (ls:=ps.map λ q=>srt q.2) hv f rfl hl (λ q hq=>?_) (λ h2 S2 xs q2 i2 hx hs f2 s2=>?_) ps [] h1 [h.next] [] rfl f1 s1 q1 (by simp) (by simp [q2v]) (by simp) (by simp)⟩
 ·have:=qco (λ q:Value × List Itm=>q.2.length) hq
  omega
 ·refine ⟨q2v xs + 1,q0hh (T:=(ps.map λ q=>q.2.length).sum) (hh:=h) (by omega) (λ l hl=>?_) (λ x' h' out S B im hol g st=>?_) (q2v xs) xs [] h2 _ S2 [] (Nat.le_refl _) (by simpa using hs) (by omega) (by simpa using s2) q2 .nil i2⟩
  ·obtain ⟨q,-,rfl⟩:=List.mem_map.1 hl
   exact q0he _
  ·simp only [qu,q06]
   refine ⟨by obtain ⟨q1,q2,q3⟩:=g.slice; simp [q3],out,B,im,hol,g,st.less λ b hb=>by simp [hb]⟩
end
structure RInv (ls:List (List Itm)) (n j:Nat) (out:List Itm):Prop where
 srt:Srt out
 sub:∀ x,x∈out→qb1 ls x
 all:∀ (m:Nat) (l':List Itm) y,m < n→ls[m]?=some l'→y∈l'→∃ o,o∈out∧o.1=y.1
 now:∀ (l':List Itm) y,ls[n]?=some l'→y∈l'.take j→∃ o,o∈out∧o.1=y.1
theorem RInv.skip {ls:List (List Itm)} {n j:Nat} {out l:List Itm} {x:Itm} (i:RInv ls n j out) (hl:ls[n]?=some l) (hx:l[j]?=some x) (h:q1x out x.1=true):RInv ls n (j + 1) out:=
 ⟨i.srt,i.sub,i.all,λ l' y h1 h2=>by
  rw [hl] at h1
  cases h1
  rw [List.take_add_one,hx] at h2
  rcases List.mem_append.1 h2 with q | q
  ·exact i.now l y hl q
  ·simp at q
   subst q
   exact (qmd i.srt _).1 h⟩
theorem RInv.put {ls:List (List Itm)} {n j:Nat} {out l:List Itm} {x:Itm} (i:RInv ls n j out) (hl:ls[n]?=some l) (hx:l[j]?=some x) (h:q1x out x.1=false):RInv ls n (j + 1) (q2m out x.1 x.2):=by
 have hm:=λ y=>qyn h x.2 y
 refine ⟨qyo i.srt _ _,λ y hy=>?_,λ m l' y h1 h2 h3=>?_,λ l' y h1 h2=>?_⟩
 ·rcases (hm y).1 hy with rfl | q
  ·refine ⟨n,l,hl,List.mem_of_getElem? hx,λ m l' hmn hl' w hw e=>?_⟩
   obtain ⟨o,ho,e'⟩:=i.all m l' w hmn hl' hw
   exact (qmb i.srt _).1 h o ho (by rw [e']; exact e)
  ·exact i.sub y q
 ·obtain ⟨o,ho,e⟩:=i.all m l' y h1 h2 h3
  exact ⟨o,(hm o).2 (.inr ho),e⟩
 ·rw [hl] at h1
  cases h1
  rw [List.take_add_one,hx] at h2
  rcases List.mem_append.1 h2 with q | q
  ·obtain ⟨o,ho,e⟩:=i.now l y hl q
   exact ⟨o,(hm o).2 (.inr ho),e⟩
  ·simp at q
   subst q
   exact ⟨(y.1,y.2),(hm _).2 (.inl rfl),rfl⟩
theorem RInv.next {ls:List (List Itm)} {n:Nat} {out l:List Itm} (i:RInv ls n l.length out) (hl:ls[n]?=some l):RInv ls (n + 1) 0 out:=
 ⟨i.srt,i.sub,λ m l' y h1 h2 h3=>by
  rcases Nat.lt_or_ge m n with q | q
  ·exact i.all m l' y q h2 h3
  ·have:m=n:=by omega
   subst this
   rw [hl] at h2
   cases h2
   exact i.now l y hl (by rw [List.take_length]; exact h3),λ l' y _ h2=>by simp at h2⟩
theorem RInv.done {ls:List (List Itm)} {out:List Itm} (i:RInv ls ls.length 0 out):IsM ls out:=
 ⟨i.srt,i.sub,λ m l' y h1 h2=>i.all m l' y (List.getElem?_eq_some_iff.1 h1).1 h1 h2⟩
end Go.Proofs.YtfmoemconapmhaaGreat.Ah
