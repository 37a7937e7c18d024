/- level.Load: the whole. -/
import Derived.Test.YtfmoemconapmhaaGreatQxa
import Derived.Test.YtfmoemconapmhaaGreatPxa
import Derived.Test.YtfmoemconapmhaaGreatNxa
set_option linter.all false
namespace Go.Proofs.YtfmoemconapmhaaGreat.Ah
open Go
theorem getD_take {α:Type} (l:List α) (n j:Nat) (d:α):(l.take n).getD j d=if j < n then l.getD j d else d:=by
 rw [List.getD_eq_getElem?_getD,List.getElem?_take]
 split
 ·rw [← List.getD_eq_getElem?_getD]
 ·rfl
section
variable {w0:World} {h h':Hp}
theorem LI.next {hh:Hp} {q rp i:Nat} {mp vc:Value} {M U A:List Nat} {s:LS} {sls:List Value} {ps:List (Value × List Ent)} (l:LI w0 hh q rp mp M s sls (s.lv.take i) i h vc U ps A) (hl3:sls.length=16) (hlv:s.lv.length=16) (hi:i < 16) (hnil:∀ j,i≤j→j < 16→sls[j]?=some (.slice none 0 0)) (e:ps.map (·.2)=s.lv.getD i []):
  LI w0 hh q rp mp M s (sls.set i vc) (s.lv.take (i + 1)) (i + 1) h (.slice none 0 0) [] [] (U++A)∧(sls.set i vc).length=16∧∀ j,i + 1≤j→j < 16→(sls.set i vc)[j]?=some (.slice none 0 0):=by
 have hnil':∀ j,i + 1≤j→j < 16→(sls.set i vc)[j]?=some (.slice none 0 0):=λ j h1 h2=>by
  rw [List.getElem?_set_ne (by omega)]
  exact hnil j (by omega) h2
 have hset:(sls.set i vc).set (i + 1) (.slice none 0 0)=sls.set i vc:=by
  refine List.ext_getElem? λ j=>?_
  by_cases hj:j=i + 1
  ·subst hj
   by_cases h16:i + 1 < 16
   ·rw [List.getElem?_set_self (by simp; omega),hnil' (i + 1) (Nat.le_refl _) h16]
   ·rw [List.getElem?_eq_none (by simp; omega),List.getElem?_eq_none (by simp; omega)]
  ·rw [List.getElem?_set_ne (λ e=>hj e.symm)]
 obtain ⟨a1,a2,a3,a4,a5,a6,a7,a8,a9,b1,b2,b3,b4⟩:=l
 refine ⟨⟨a1,by rw [hset]; exact a2,a3,.nil,by simp,λ j v hj hv=>?_,λ b hb=>?_,a8,by simp,⟨b1.1,by simp,λ w=>?_,b1.2.2.2⟩,λ b hb=>⟨by simp,λ w=>?_,(b2 b hb).2.2⟩,by simp,⟨λ w=>?_,b4.2⟩⟩,by simpa using hl3,hnil'⟩
 ·rw [getD_take]
  by_cases hji:j=i
  ·subst hji
   rw [List.getElem?_set_self (by omega)] at hv
   cases hv
   rw [if_pos (by omega),← e]
   refine ⟨ps,rfl,a4.sl,λ b hb=>?_,λ p hp=>?_⟩
   ·rw [a4.sblk_eq] at hb
    simp [hb]
   ·obtain ⟨S,r,hS⟩:=a5 p hp
    exact ⟨S,r,λ b hb=>by simp [hS b hb]⟩
  ·rw [List.getElem?_set_ne (λ e=>hji e.symm)] at hv
   have:=a6 j v hji hv
   rw [getD_take] at this
   have h2:(if j < i then s.lv.getD j [] else [])=if j < i + 1 then s.lv.getD j [] else []:=by
    by_cases h3:j < i
    ·rw [if_pos h3,if_pos (by omega)]
    ·rw [if_neg h3,if_neg (by omega)]
   rw [h2] at this
   exact this.more (by simp +contextual)
 ·rcases List.mem_append.1 hb with r | r
  ·exact ⟨a9 b r,(a4.lt b r).2⟩
  ·exact a7 b r
 ·rcases List.mem_append.1 w with r | r
  ·exact b1.2.1 r
  ·exact b1.2.2.1 r
 ·rcases List.mem_append.1 w with r | r
  ·exact (b2 b hb).1 r
  ·exact (b2 b hb).2.1 r
 ·rcases List.mem_append.1 w with r | r
  ·exact (b3 rp r).2 rfl
  ·exact b4.1 r
end
def pe (x:Ent):List Value:=[.string (str x.k),.string (str x.v)]
section
variable {w0:World} {h h':Hp}
theorem q001 {l:List Ent} {i:Nat} {x:Ent} (h:l[i]?=some x):((l.flatMap pe).drop (i * 2)).take 2=pe x:=qvl (e:=pe) (s:=2) (λ _=>rfl) l i x h
theorem Lv.y {r:Value} {s:LS} {S A:List Nat} (m:Lv w0 h r s S A) {N:Nat} (ys:q09 N h h' [] []):Lv w0 h' r s S A:=(m.frame ys.step (by simp) (by simp):Lv w0 (h'.as h) r s S A)
theorem qyh {s:LS} {W:Nat} (ok:LOk s W) (hW:W≤1048576):s.view.length≤1048576:=by
 have h2:=q4q (q1w s.lists)
 have h3:=qfy s.lists
 have h4:=ok.size
 have h5:(s.lists.map q0f).sum≤W:=by simpa [LS.lists] using h4
 have h6:s.view.length≤(q1w s.lists).length:=List.length_filter_le _ _
 omega
end
end Go.Proofs.YtfmoemconapmhaaGreat.Ah
