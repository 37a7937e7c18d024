/- Levels: how many runs, how many steps, how long a manifest. -/
import Derived.Test.YtfmoemconapmhaaGreatQxb
set_option linter.all false
namespace Go.Proofs.YtfmoemconapmhaaGreat.Ah
open Go
def LS.tot (s:LS):Nat:=s.lv.flatten.length
theorem qwf {α:Type}:∀ (lv:List (List α)),(lv.drop (q0o lv)).flatten=[]
 | []=>by simp [q0o]
 | r :: t=>by
  have:=qwf t
  unfold q0o
  split
  ·simpa using this
  ·rename_i h
   have h0:q0o t=0:=by omega
   rw [h0] at this
   split
   ·simpa using this
   ·rename_i h2
    have:r=[]:=by simpa using h2
    subst this
    simpa using ‹(List.drop 0 t).flatten=[]›
theorem q0h4 {α:Type} (lv:List (List α)):(lv.take (q0o lv)).flatten=lv.flatten:=by
 have h1:=qwf lv
 have h2:lv.take (q0o lv)++lv.drop (q0o lv)=lv:=List.take_append_drop _ _
 calc (lv.take (q0o lv)).flatten=(lv.take (q0o lv)).flatten++(lv.drop (q0o lv)).flatten:=by rw [h1,List.append_nil]
  _=lv.flatten:=by rw [← List.flatten_append,h2]
theorem qcy {α:Type} {f:α→Nat}:∀ {l:List α} {x:α},x∈l→f x≤(l.map f).sum
 | a :: t,x,h=>by
  rcases List.mem_cons.1 h with rfl | h
  ·simp
  ·have:=qcy (f:=f) h
   simp only [List.map_cons,List.sum_cons]
   omega
theorem q0lv {s:LS} {W:Nat} (o:LOk s W) (hW:W≤1048576) {l:List Ent} (hl:l∈s.lv.flatten):(q1s s.bl l).length≤20:=by
 have hnum:=o.num
 obtain ⟨r,hr,hlr⟩:=List.mem_flatten.1 hl
 have hc:=(o.rok r hr l hlr).1
 have hz:=qgw hnum.1 hnum.2.1 hc
 have hs:q0f l≤(s.lv.flatten.map q0f).sum:=qcy hl
 have:=o.size
 have h1:=qas hz (by omega)
 have h2:=q78 (q0i (s.bl:Int) l)
 have h3:=q2j (n:=(q0i (s.bl:Int) l).length) (by omega)
 have h4:=q2j (n:=q14 (q0i (s.bl:Int) l)) (by omega)
 simp only [q1s,List.length_append]
 omega
theorem qxf (bl:Nat):∀ lv:List (List (List Ent)),(∀ l,l∈lv.flatten→(q1s bl l).length≤20)→lv.flatten.length < 18446744073709551616→(lv.flatMap (lvB bl)).length≤10 * lv.length + 20 * lv.flatten.length
 | [],_,_=>by simp
 | r :: t,h,hb=>by
  simp only [List.flatten_cons,List.length_append] at hb
  have h1:=qxf bl t (λ l hl=>h l (by simp [List.flatten_cons]; exact .inr (by simpa using hl))) (by omega)
  have h2:∀ (r':List (List Ent)),(∀ l,l∈r'→(q1s bl l).length≤20)→(r'.flatMap (q1s bl)).length≤20 * r'.length:=by
   intro r' hr'
   induction r' with
   | nil=>simp
   | cons a r' ih=>
    have:=ih λ l hl=>hr' l (by simp [hl])
    have:=hr' a (by simp)
    simp only [List.flatMap_cons,List.length_append,List.length_cons]
    omega
  have h3:=h2 r λ l hl=>h l (by simp [hl])
  have h4:=q2j (n:=r.length) (by omega)
  simp only [List.flatMap_cons,List.flatten_cons,List.length_append,List.length_cons,lvB]
  omega
theorem q0m3 {s:LS} {W:Nat} (o:LOk s W) (hW:W≤1048576) (ht:s.tot≤50000):(q2q s).length≤200 + 20 * s.tot:=by
 have hnum:=o.num
 have hla:=q7b s.lv
 have hlv:=o.len
 have hrl:(q0x s.lv).length≤16:=by unfold q0x; rw [List.length_take,List.length_map]; omega
 have h1:=q2j (n:=s.bl) (by omega)
 have h2:=q2j (n:=s.fan) (by omega)
 have h3:=q2j (n:=s.top) (by omega)
 have h4:=q2j (n:=(q0x s.lv).length) (by omega)
 have hf:=q0h4 s.lv
 have h5:=qxf s.bl (s.lv.take (q0o s.lv)) (λ l hl=>q0lv o hW (by rw [hf] at hl; exact hl)) (by rw [hf]; unfold LS.tot at ht; omega)
 rw [hf,List.length_take] at h5
 unfold q2q LS.tot
 simp only [List.length_append]
 omega
end Go.Proofs.YtfmoemconapmhaaGreat.Ah
