/- Levels: how many runs, how many steps, how long a manifest. -/
import Derived.Test.YtfmoemconapmhaaGreatQxb
set_option linter.all false
namespace Go.Proofs.YtfmoemconapmhaaGreat.Ah
open Go
def LS.tot(s:LS):Nat:=s.lv.flatten.length
theorem xC{α:Type}:∀(lv:List (List α)) (n:Nat) (r:List α),n<lv.length→(lv.set n r).flatten.length+(lv.getD n []).length=lv.flatten.length+r.length
 |[],_,_,h=>absurd h (by simp)
 |a::t,0,r,_=>by simp;omega
 |a::t,n+1,r,h=>by
  have:=xC t n r (by simpa using h)
  simp only[List.set_cons_succ,List.flatten_cons,List.length_append,List.getD_cons_succ]at *
  omega
theorem Br:∀(lv:List (List (List Ent))) (m n:Nat) (r:List (List Ent)),n<lv.length→pot m (lv.set n r)+(m-n)*(lv.getD n []).length=pot m lv+(m-n)*r.length
 |[],_,_,_,h=>absurd h (by simp)
 |a::t,m,0,r,_=>by simp[pot];omega
 |a::t,m,n+1,r,h=>by
  have:=Br t (m-1) n r (by simpa using h)
  simp only[List.set_cons_succ,List.getD_cons_succ,pot]
  rw[show m-(n+1)=m-1-n by omega]
  omega
theorem H1{α:Type}:∀(lv:List (List α)),(lv.drop (aW lv)).flatten=[]
 |[]=>by simp[aW]
 |r::t=>by
  have:=H1 t
  unfold aW
  split
  ·simpa using this
  ·rename_i h
   have h0:aW t=0:=by omega
   rw[h0]at this
   split
   ·simpa using this
   ·rename_i h2
    have:r=[]:=by simpa using h2
    subst this
    simpa using ‹(List.drop 0 t).flatten=[]›
theorem X5{α:Type}(lv:List (List α)):(lv.take (aW lv)).flatten=lv.flatten:=by
 have h1:=H1 lv
 have h2:lv.take (aW lv)++lv.drop (aW lv)=lv:=List.take_append_drop _ _
 calc (lv.take (aW lv)).flatten=(lv.take (aW lv)).flatten++(lv.drop (aW lv)).flatten:=by rw[h1,List.append_nil]
  _=lv.flatten:=by rw[←List.flatten_append,h2]
theorem Ma{s:LS}(hl:s.lv.length=16):s.flush.tot≤s.tot+1:=by
 unfold LS.flush
 split
 ·omega
 ·have:=xC s.lv 0 (s.mem::s.lv.getD 0 []) (by omega)
  simp only[List.length_cons]at this
  unfold LS.tot
  simp only
  omega
theorem ady{s:LS}(x:Ent)(hl:s.lv.length=16):(s.put x).tot≤s.tot+1:=by
 unfold LS.put
 split
 ·exact Ma (s:={ s with mem:=cP s.mem x }) hl
 ·unfold LS.tot
  simp only
  omega
theorem adn{s:LS}{n:Nat}(h:fS s.lv s.fan=some n):s.step.lv=fK s.lv n:=by unfold LS.step;rw[h]
theorem LT{s:LS}(h:fS s.lv s.fan=none):s.step=s:=by unfold LS.step;rw[h]
theorem adm{s:LS}{W n:Nat}(o:LOk s W)(h:fS s.lv s.fan=some n):s.step.tot+1≤s.tot∧pot 16 s.step.lv+1≤pot 16 s.lv:=by
 obtain ⟨r,hr,hf⟩:=zo h
 have hnum:=o.num
 have hlen:=o.len
 have hn:n<16:=by have:=(List.getElem?_eq_some_iff.1 hr).1;omega
 have hg:s.lv.getD n []=r:=getD_some hr
 have t1:=xC s.lv n [] (by omega)
 have p1:=Br s.lv 16 n [] (by omega)
 rw[hg]at t1 p1
 have hsz:(s.lv.set n []).length=16:=by simp[hlen]
 have q1:(16-n)*2≤(16-n)*r.length:=Nat.mul_le_mul_left _ (by omega)
 unfold LS.tot
 rw[adn h]
 unfold fK
 simp only[List.length_nil,Nat.mul_zero]at t1 p1
 split
 ·omega
 ·have t2:=xC (s.lv.set n []) (min (n+1) 15) (eW s.lv n::(s.lv.set n []).getD (min (n+1) 15) []) (by omega)
  have p2:=Br (s.lv.set n []) 16 (min (n+1) 15) (eW s.lv n::(s.lv.set n []).getD (min (n+1) 15) []) (by omega)
  simp only[List.length_cons,Nat.mul_add,Nat.mul_one]at t2 p2
  omega
theorem adz{s:LS}{W:Nat}(o:LOk s W):s.step.tot≤s.tot:=by
 cases h:fS s.lv s.fan with
 |none=>rw[LT h];omega
 |some n=>have:=(adm o h).1;omega
theorem pP{α:Type}{f:α→Nat}:∀{l:List α} {x:α},x∈l→f x≤(l.map f).sum
 |a::t,x,h=>by
  rcases List.mem_cons.1 h with rfl|h
  ·simp
  ·have:=pP (f:=f) h
   simp only[List.map_cons,List.sum_cons]
   omega
theorem Mw{w0:World}{h:Hp}{v:Value}{ps:List (Value×List UInt8×List Nat)}{S0:List Nat}{s:LS}(fm:FM w0 h v ps S0)(e:(ps.map λp=>p.2.1)=gK s):
  ∃D:List (Value×List Ent),Vec w0 h 1 v D.length (D.map (·.1)) S0∧D.map (·.2)=s.lv.flatten∧∀p:Value×List Ent,p∈D→∃U,Vec w0 h 1 p.1 (aX (s.bl:Int) p.2).length (bvs (aX (s.bl:Int) p.2)) U:=by
 have hlen:ps.length=s.lv.flatten.length:=by have:=congrArg List.length e;simpa only[gK,List.length_map]using this
 have e1:((ps.map (·.1)).zip s.lv.flatten).map (·.1)=ps.map (·.1):=by
  rw[List.map_fst_zip (by simp[hlen])]
 have e2:((ps.map (·.1)).zip s.lv.flatten).map (·.2)=s.lv.flatten:=by
  rw[List.map_snd_zip (by simp[hlen])]
 refine ⟨(ps.map (·.1)).zip s.lv.flatten,?_,e2,λp hp=>?_⟩
 ·rw[e1,show ((ps.map (·.1)).zip s.lv.flatten).length=ps.length by simp[hlen]]
  exact fm.1
 ·obtain ⟨i,hi⟩:=List.mem_iff_getElem?.1 hp
  rw[List.getElem?_zip_eq_some]at hi
  obtain ⟨h1,h2⟩:=hi
  rw[List.getElem?_map]at h1
  obtain ⟨q,hq,hq1⟩:=Option.map_eq_some_iff.1 h1
  have h3:=congrArg (λl:List (List UInt8)=>l[i]?) e
  simp only[gK,List.getElem?_map,hq,h2,Option.map_some,Option.some.injEq]at h3
  have:=(fm.2.1 q (List.mem_of_getElem? hq)).1
  rw[hq1,h3]at this
  exact ⟨_,this⟩
end Go.Proofs.YtfmoemconapmhaaGreat.Ah
