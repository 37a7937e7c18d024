/- dedupref02.Number. -/
import Derived.Test.YtfmoemconapmhaaGreatKxa
set_option linter.all false
namespace Go.Proofs.YtfmoemconapmhaaGreat.Ah
open Go
theorem q0j7 {w0:World} {K:Value→Hp→Prop} {n:Nat}:∀ (k:Nat) (h:Hp) (x:Value) (pre:List UInt8) (S:List Nat),k≤8→pre.length + k≤8→w0.heap.size≤h.next→Vec w0 h 1 x pre.length (bvs pre) S→
  (∀ h' x' S',Vec w0 h' 1 x' (pre++be k n).length (bvs (pre++be k n)) S'→Step h h' S S'→K x' h')→
  q8c prog w0 K (k + 1) (.int .u64 (n:Int)) x (.int .i64 ((k:Int) - 1)) h:=by
 intro k
 induction k with
 | zero=>
  intro h x pre S hk8 hp hf hv hk
  rw [q8c]
  simp only [qed,qgg,q1a,show decide ((0:Int)≤((0:Nat):Int) - 1)=false from rfl,q3n]
  exact hk h x S (by simpa [be] using hv) (Step.refl _ _ λ b hb=>(hv.lt b hb).2)
 | succ k ih=>
  intro h x pre S hk8 hp hf hv hk
  have e0:((k + 1:Nat):Int) - 1=(k:Int):=by omega
  have c1:decide ((0:Int)≤(k:Int))=true:=decide_eq_true (by omega)
  have e7:IntKind.i64.wrap (8 * (k:Int))=((8 * k:Nat):Int):=by rw [IntWalk.i64_in _ (by omega)]; simp
  have e6:IntKind.i64.wrap ((k:Int) - 1)=(k:Int) - 1:=IntWalk.i64_in _ (by omega)
  have e8:qd .shr (.int .u64 (n:Int)) (.int .i64 ((8 * k:Nat):Int))=some (.int .u64 ((n / 256 ^ k:Nat):Int)):=by
   rw [qge _ _ _ _ (by omega),Int.toNat_natCast,Nat.min_eq_left (by simp only [IntKind.bits]; omega)]
   have:256 ^ k=2 ^ (8 * k):=by rw [Nat.pow_mul]
   rw [this]; simp
  have e9:(.int .u8 (IntKind.u8.wrap ((n / 256 ^ k:Nat):Int)):Value)=bv (UInt8.ofNat (n / 256 ^ k)):=by rw [q3r,IntKind.wrap_u8]; simp
  rw [q8c,e0]
  simp only [qed,qgg,q1a,c1,q3p,qcd,e7,e8,q3q,e9]
  simp
  refine q3g (w0:=w0) (m:=1) (s:=1) (by_:=1) (h:=h.new [bv (UInt8.ofNat (n / 256 ^ k))] 1) (ys:=bvs [UInt8.ofNat (n / 256 ^ k)]) (by simp; omega) (hv.new _ _) (by simp) (q3h hf (by simp)) (by simp) (by omega) (by omega) (by omega) (λ x' h' S' hv' st2=>?_)
  simp [e6]
  have s3:Step h h' S S':=(((Step.refl h S λ b hb=>(hv.lt b hb).2).new _ _).less (λ b hb=>by simp [hb])).trans st2
  have hb':=st2.1
  exact ih h' x' (pre++[UInt8.ofNat (n / 256 ^ k)]) S' (by omega) (by simp; omega) (by simp at hb'; omega) (by simpa using hv') (λ h2 x2 S2 hv2 s2=>hk h2 x2 S2 (by simpa [be] using hv2) (s3.trans s2))
theorem q68 {w0:World} {h:Hp} (n s:Nat) (hs:s≤8):
  qf prog w0 q45 [.int .u64 n,.int .i64 s] h λ v h'=>v=.string (str (be s n))∧Step h h' [] []:=by
 refine qf.of_fit (by simp) λ f=>q089 (by simp) ?_
 have e6:IntKind.i64.wrap ((s:Int) - 1)=(s:Int) - 1:=IntWalk.i64_in _ (by omega)
 simp only [qj6,qxw,q1a,e6]
 refine ⟨s + 1,q0j7 s h _ [] [] hs (by simp; omega) f.base .nil (λ h' x' S' hv st=>?_)⟩
 simp only [List.nil_append] at hv
 refine hv.b2s ?_
 simp only [qu,q06]
 exact ⟨by simp,trivial,st.less (by simp)⟩
theorem q4u {m:Int} {bs l:List UInt8} (h:(bs.length:Int) + l.length≤m):(⟨m,bs,false⟩:WS).put l=⟨m,bs++l,false⟩:=by
 simp [WS.put]; omega
def q2o (k:Nat) (b:List UInt8):List UInt8:=[68,70]++be 1 k++be 1 0++be 4 b.length++b
def frame (k:Nat) (b:List UInt8):List UInt8:=q2o k b++be 4 (q14 (q2o k b))
@[simp] theorem q0oo (k:Nat) (b:List UInt8):(q2o k b).length=8 + b.length:=by simp [q2o]; omega
theorem q0hu {w0:World} {h:Hp} (k:Nat) (hk:k < 256) (b:List UInt8) (hb:b.length≤70368744177664):
  qf prog w0 qkd [.int .u8 k,.string (str b)] h λ v h' =>
   v=(if 1048576 < b.length then .tuple #[.string .empty,.int .i64 3] else .tuple #[.string (str (frame k b)),.int .i64 0])∧Step h h' [] []:=by
 refine qf.of_fit (by simp) λ f=>q0cv (by simp) ?_
 simp only [quq,q5f,q1v,q1a,q9c]
 by_cases hl:1048576 < b.length
 ·have c1:decide ((1048576:Int) < (b.length:Int))=true:=decide_eq_true (by omega)
  simp only [c1,q3p,qu,q19,if_pos hl]
  exact ⟨by simp,by trivial,Step.refl _ _ (by simp)⟩
 ·have c1:decide ((1048576:Int) < (b.length:Int))=false:=decide_eq_false (by omega)
  have e8:IntKind.i64.wrap (8 + (b.length:Int))=8 + (b.length:Int):=IntWalk.i64_in _ (by omega)
  have e12:IntKind.i64.wrap (8 + (b.length:Int) + 4)=12 + (b.length:Int):=by rw [IntWalk.i64_in _ (by omega)]; omega
  simp only [c1,q3n,q4r,q1a,e8,e12,if_neg hl]
  refine qq (qfd _ (by omega)) λ v h1 ⟨e,w1,s1⟩ f1=>?_
  subst e
  rw [show max (12 + (b.length:Int)) 0=12 + (b.length:Int) by omega] at w1
  refine qq (qlw [68,70] (by simp) w1 (by simp)) λ v h2 ⟨S2,w2,s2⟩ f2=>?_
  rw [q4u (by simp; omega)] at w2
  refine qq (qyt k hk w2 (by simp)) λ v h3 ⟨S3,w3,s3⟩ f3=>?_
  rw [q4u (by simp; omega)] at w3
  refine qq (qyt 0 (by omega) w3 (by simp)) λ v h4 ⟨S4,w4,s4⟩ f4=>?_
  rw [q4u (by simp; omega)] at w4
  have e32:IntKind.u32.wrap (b.length:Int)=(b.length:Int):=IntWalk.u32_in _ (by omega)
  simp only [q3q,q1a,e32]
  refine qq (qce b.length w4 (by simp)) λ v h5 ⟨S5,w5,s5⟩ f5=>?_
  rw [q4u (by simp; omega)] at w5
  refine qq (qlw b hb w5 (by simp; omega)) λ v h6 ⟨S6,w6,s6⟩ f6=>?_
  rw [q4u (by simp)] at w6
  have hfr:[]++[68,70]++be 1 k++be 1 0++be 4 b.length++b=q2o k b:=by simp [q2o]
  rw [hfr] at w6
  refine qq (qad w6) λ v h7 ⟨e,e2⟩ f7=>?_
  subst e e2
  have o1:(⟨12 + (b.length:Int),q2o k b,false⟩:WS).out=q2o k b:=rfl
  simp only [qlb,List.getElem?_toArray,List.getElem?_cons_zero,List.getElem?_cons_succ,q1a,o1]
  refine qq (qgf (q2o k b) (by simp; omega)) λ v h8 ⟨e,e2⟩ f8=>?_
  subst e e2
  refine qq (qce (q14 (q2o k b)) w6 (by simp; omega)) λ v h9 ⟨S9,w9,s9⟩ f9=>?_
  rw [q4u (by simp; omega)] at w9
  refine qq (qad w9) λ v h10 ⟨e,e2⟩ f10=>?_
  subst e e2
  have o2:(⟨12 + (b.length:Int),q2o k b++be 4 (q14 (q2o k b)),false⟩:WS).out=frame k b:=rfl
  have o3:(⟨12 + (b.length:Int),q2o k b++be 4 (q14 (q2o k b)),false⟩:WS).err=0:=rfl
  simp only [qlb,List.getElem?_toArray,List.getElem?_cons_zero,List.getElem?_cons_succ,q1a,o2,o3,qu,q19]
  exact ⟨by simp,by trivial,(((((((s1.trans s2).trans s3).trans s4).trans s5).trans s6).trans s9).less (by simp))⟩
theorem q0fb {w0:World} {h:Hp} (k:Nat) (hk:k < 256) (b:List UInt8) (hb:b.length≤70368744177664):
  qf prog w0 qbo [.int .u8 k,.string (str b)] h λ v h' =>
   v=(if 1048576 < b.length then .tuple #[.string .empty,.int .i64 3] else .tuple #[.string (str (frame k b)),.int .i64 0])∧Step h h' [] []:=by
 refine qf.of_fit (by simp) λ f=>q09l (by simp) ?_
 simp only [qss,q5f,q1v,q1a,q9c]
 by_cases hl:1048576 < b.length
 ·have c1:decide ((1048576:Int) < (b.length:Int))=true:=decide_eq_true (by omega)
  simp only [c1,q3p,qu,q19,if_pos hl]
  exact ⟨by simp,by trivial,Step.refl _ _ (by simp)⟩
 ·have c1:decide ((1048576:Int) < (b.length:Int))=false:=decide_eq_false (by omega)
  have e8:IntKind.u64.wrap (b.length:Int)=(b.length:Int):=IntWalk.u64_in _ (by omega)
  have kb:(.int .u8 (k:Int):Value)=bv (UInt8.ofNat k):=by rw [q3r,Nat.mod_eq_of_lt hk]
  have zb:(.int .u8 0:Value)=bv 0:=rfl
  have hDF:(⟨#[68,70]⟩:ByteArray)=str [68,70]:=rfl
  have hfr:[68,70]++[UInt8.ofNat k,0]++be 4 b.length++b=q2o k b:=by simp [q2o,be]
  have fin:∀ h1,Step h h1 [] []→(qi prog w0 q6z [.string (str (q2o k b))] λ v23_15=>
    qb (q0t .u64 v23_15) λ v24_16=>
    qi prog w0 q45 [v24_16,(.int .i64 4)] λ v25_17=>
    qb (qd .add (.string (str (q2o k b))) v25_17) λ v26_18=>
    qo [v26_18,(.int .i64 0)] λ v h'=>v=.tuple #[.string (str (frame k b)),.int .i64 0]∧Step h h' [] []) h1:=by
   intro h1 s1
   refine qq (qg4 _ (by simp; omega)) λ v h2 ⟨e,e2⟩ f2=>?_
   subst e e2
   have hc:=q78 (q2o k b)
   have e9:IntKind.u64.wrap ((q14 (q2o k b):Nat):Int)=((q14 (q2o k b):Nat):Int):=IntWalk.u64_in _ (by omega)
   simp only [q3q,q1a,e9]
   refine qq (q68 _ 4 (by omega)) λ v h3 ⟨e,s3⟩ f3=>?_
   subst e
   rw [q36 _ _ (by simp; omega)]
   simp only [q1a,q35,qu,q19]
   exact ⟨by simp,rfl,s1.trans s3⟩
  simp only [c1,q3n,qyd,qvc,q1a,q5f,q1v,q3q,e8,if_neg hl,qvt,q00l,q3z,q32]
  constructor
  ·simp [kb,zb,q00,q0c,q26]
   refine q7d (l:=[UInt8.ofNat k,0]) (q3h f.base (by simp)) ?_
   rw [hDF,q36 _ _ (by simp)]
   simp only [q35,q1a,q32]
   have s1:Step h (h.new [bv (UInt8.ofNat k),bv 0] 1) [] []:=((Step.refl h [] (by simp)).new _ _).less (by simp)
   refine qq (q68 _ 4 (by omega)) λ v h2 ⟨e,s2⟩ f2=>?_
   subst e
   have hb2:h2.blk h.next=some (bvs [UInt8.ofNat k,0]):=by rw [(s2.2 h.next (by simp) (by simp)).1]; simp
   simp only [q3o,q32,qxu]
   refine ⟨q7d (l:=[UInt8.ofNat k,0]) (q96 f.base hb2 (by simp)) ⟨rfl,rfl⟩,?_⟩
   rw [q36 _ _ (by simp)]
   simp only [q35,q1a]
   rw [q36 _ _ (by simp; omega)]
   simp only [q35,q1a,hfr]
   exact fin h2 (s1.trans s2)
  ·refine qq (q68 _ 4 (by omega)) λ v h2 ⟨e,s2⟩ f2=>?_
   subst e
   simp [kb,zb,q00,q0c,q26]
   refine q7d (l:=[UInt8.ofNat k,0]) (q3h f2.base (by simp)) ?_
   rw [hDF,q36 _ _ (by simp)]
   simp only [q35,q1a]
   rw [q36 _ _ (by simp)]
   simp only [q35,q1a]
   rw [q36 _ _ (by simp; omega)]
   simp only [q35,q1a,hfr]
   exact fin _ (s2.trans (((Step.refl h2 [] (by simp)).new _ _).less (by simp)))
theorem q0oc {n:Nat} (h:n < 128):vi n=[UInt8.ofNat n]:=by unfold vi; rw [dif_pos h]
theorem q0od {n:Nat} (h:¬ n < 128):vi n=g7 n :: vi (n / 128):=by rw [vi]; rw [dif_neg h]
theorem q0o3 (n:Nat):(g7 n).toNat=n % 128 + 128:=by
 unfold g7
 rw [UInt8.toNat_ofNat_of_lt']
 show n % 128 + 128 < 256
 omega
theorem q0n9 {n:Nat} (h:n < 256):(UInt8.ofNat n).toNat=n:=UInt8.toNat_ofNat_of_lt' h
theorem q0np (rest:List UInt8):∀ (n i acc:Nat),n * 128 ^ i < 18446744073709551616→(0 < i→0 < n)→shp (vi n++rest) i acc=(acc + n * 128 ^ i,i + (vi n).length,0):=by
 intro n
 induction n using vi.induct with
 | case1 n hn=>
  intro i acc h hi
  rw [q0oc hn]
  simp only [List.cons_append,List.nil_append,qgm]
  have ht:=q0n9 (n:=n) (by omega)
  rw [if_neg,if_pos (by omega),if_neg]
  ·rw [ht,Nat.mod_eq_of_lt hn]; simp
  ·rintro ⟨e,h0⟩
   have:=hi h0
   have h2:(UInt8.ofNat n).toNat=0:=by rw [e]; rfl
   omega
  ·rintro ⟨rfl,e⟩
   have:=hi (by omega)
   have:n=1:=by omega
   subst this
   exact e rfl
 | case2 n hn ih=>
  intro i acc h hi
  rw [q0od hn]
  simp only [List.cons_append,qgm]
  have ht:=q0o3 n
  have h1:n / 128 * 128 ^ (i + 1) + n % 128 * 128 ^ i=n * 128 ^ i:=by
   rw [Nat.pow_succ,Nat.mul_comm (128 ^ i) 128,← Nat.mul_assoc,← Nat.add_mul]
   congr 1
   omega
  rw [if_neg,if_neg (by omega),ih (i + 1) _ (by omega) (λ _=>by omega),ht]
  ·have h2:(n % 128 + 128) % 128=n % 128:=by omega
   rw [h2,← h1]
   simp
   omega
  ·rintro ⟨rfl,e⟩
   omega
theorem q0o8 {k:IntKind} {c:Nat}:qd .rem (.int k (c:Int)) (.int k 128)=some (.int k ((c % 128:Nat):Int)):=by
 rw [qye _ _ _ (by omega)]
 have:(c:Int).tmod 128=((c % 128:Nat):Int):=by rw [Int.tmod_eq_emod_of_nonneg (by omega)]; simp
 rw [this]
theorem q0nu {c:Nat} (hc:c < 18446744073709551616):qd .quo (.int .u64 (c:Int)) (.int .u64 128)=some (.int .u64 ((c / 128:Nat):Int)):=by
 rw [qmf _ _ _ (by omega)]
 have:(c:Int).tdiv 128=((c / 128:Nat):Int):=by rw [Int.tdiv_eq_ediv_of_nonneg (by omega)]; simp
 rw [this,IntWalk.u64_in _ (by omega)]
theorem q0nq (n:Nat):(.int .u8 (IntKind.u8.wrap (IntKind.u8.wrap ((n % 128:Nat):Int) + 128)):Value)=bv (g7 n):=by
 have e1:IntKind.u8.wrap ((n % 128:Nat):Int)=((n % 128:Nat):Int):=IntWalk.u8_in _ (by omega)
 have e2:IntKind.u8.wrap (((n % 128:Nat):Int) + 128)=((n % 128:Nat):Int) + 128:=IntWalk.u8_in _ (by omega)
 rw [e1,e2,g7,q3r,Nat.mod_eq_of_lt (a:=n % 128 + 128) (by omega)]
 simp
theorem q0e6 {w0:World} {K:Value→Value→Hp→Prop} (n:Nat):∀ (h:Hp) (x:Value) (pre:List UInt8) (S:List Nat),w0.heap.size≤h.next→Vec w0 h 1 x pre.length (bvs pre) S→pre.length + (vi n).length≤100→n < 18446744073709551616→
  (∀ (h':Hp) (x':Value) (m:Nat) (pre':List UInt8) (S':List Nat),m < 128→Vec w0 h' 1 x' pre'.length (bvs pre') S'→pre'++[UInt8.ofNat m]=pre++vi n→Step h h' S S'→K (.int .u64 m) x' h')→
  q89 prog w0 K (vi n).length (.int .u64 n) x h:=by
 induction n using vi.induct with
 | case1 n hn=>
  intro h x pre S hf hv hl hb hk
  have e:vi n=[UInt8.ofNat n]:=by unfold vi; rw [dif_pos hn]
  rw [e] at hk ⊢
  simp [q89,qef,show ¬ (128:Int)≤n by omega]
  exact hk h x n pre S hn hv rfl (.refl _ _ λ b hb=>(hv.lt b hb).2)
 | case2 n hn ih=>
  intro h x pre S hf hv hl hb hk
  have e:vi n=g7 n :: vi (n / 128):=by rw [vi]; rw [dif_neg hn]
  rw [e] at hk hl ⊢
  simp at hl
  rw [List.length_cons,q89]
  have c1:decide ((128:Int)≤(n:Int))=true:=decide_eq_true (by omega)
  simp only [qef,qgg,q1a,c1,q3p,q0o8,q3q,q4r,q0nq,q0nu hb]
  simp
  refine q3g (w0:=w0) (m:=1) (s:=1) (by_:=1) (h:=h.new [bv (g7 n)] 1) (ys:=bvs [g7 n]) (by simp; omega) (hv.new _ _) (by simp) (q3h hf (by simp)) (by simp) (by omega) (by omega) (by omega) (λ x' h' S' hv' st=>?_)
  have st2:Step h h' S S':=(((Step.refl h S λ b hb=>(hv.lt b hb).2).new _ _).less (T:=S) (λ b hb=>by simp [hb])).trans st
  have:=ih h' x' (pre++[g7 n]) S' (by have:=st2.1; omega) (by simpa using hv') (by simp; omega) (by omega) (λ h2 x2 m pre' S2 hm hv2 hp st3=>hk h2 x2 m pre' S2 hm hv2 (by simpa using hp) (st2.trans st3))
  simpa using this
theorem q8x {w0:World} {h:Hp} (n:Nat) (hn:n < 18446744073709551616):
  qf prog w0 q61 [.int .u64 n] h λ v h'=>v=.string (str (vi n))∧Step h h' [] []:=by
 refine qf.of_fit (by simp) λ f=>q07f (by simp) ?_
 have h10:=q2j hn
 refine ⟨(vi n).length,q0e6 n h _ [] [] f.base .nil (by simp; omega) hn (λ h' x' m pre' S' hm hv he st=>?_)⟩
 have e:IntKind.u8.wrap (m:Int)=((m % 256:Nat):Int):=by rw [IntKind.wrap_u8]; simp
 simp [e]
 have hb:(.int .u8 ((m:Int) % 256):Value)=bv (UInt8.ofNat m):=by rw [q3r]; simp
 rw [hb]
 have hlen:pre'.length + 1=(vi n).length:=by rw [← List.nil_append (vi n),← he]; simp
 have hfb:=f.base
 have:=st.1
 refine q3g (w0:=w0) (m:=1) (s:=1) (by_:=1) (h:=h'.new [bv (UInt8.ofNat m)] 1) (ys:=bvs [UInt8.ofNat m]) (by simp; omega) (hv.new _ _) (by simp) (q3h (by omega) (by simp)) (by simp) (by omega) (by omega) (by omega) (λ x2 h2 S2 hv2 st2=>?_)
 have he2:bvs pre'++bvs [UInt8.ofNat m]=bvs (vi n):=by rw [← q5g,he]; simp
 rw [he2] at hv2
 refine hv2.b2s ?_
 simp only [qu,q06]
 exact ⟨by simp,by trivial,(((st.new _ _).less (T:=S') (λ b hb=>by simp [hb])).trans st2).less (by simp)⟩
theorem q0ha {w0:World} {h:Hp} (l:List UInt8) (hl:l.length≤70368744177664):
  qf prog w0 qk2 [.string (str l)] h λ v h'=>v=.string (str (vi l.length++l))∧Step h h' [] []:=by
 refine qf.of_fit (by simp) λ f=>q0ad (by simp) ?_
 have h10:=q2j (n:=l.length) (by omega)
 simp only [qtg,q5f,q1a,q3q,q1v]
 rw [IntWalk.u64_in _ (by omega)]
 refine qq (q8x l.length (by omega)) λ v h1 ⟨e,s1⟩ f1=>?_
 subst e
 rw [q36 _ _ (by simp; omega)]
 simp only [q1a,qu,q06,q35]
 exact ⟨by simp,trivial,s1⟩
def lv:List UInt8→Nat
 | []=>0
 | b :: l=>b.toNat % 128 + 128 * lv l
theorem q0l8 (b:UInt8) (l:List UInt8):rdn (b :: l)=b.toNat * 256 ^ l.length + rdn l:=by
 have key:∀ (l:List UInt8) (n:Nat),l.foldl (λ n b=>n * 256 + b.toNat) n=n * 256 ^ l.length + rdn l:=by
  intro l
  induction l with
  | nil=>intro n; simp [rdn]
  | cons c l ih=>
   intro n
   have h1:=ih (n * 256 + c.toNat)
   have h2:=ih (0 * 256 + c.toNat)
   simp only [rdn,List.foldl_cons,List.length_cons] at h1 h2 ⊢
   rw [h1,h2,Nat.add_mul,Nat.pow_succ,Nat.zero_mul,Nat.zero_add,Nat.mul_assoc,Nat.mul_comm 256,Nat.add_assoc]
 have:=key l (0 * 256 + b.toNat)
 simpa [rdn] using this
theorem q0nv:∀ (s n:Nat),rdn (be s n)=n % 256 ^ s:=by
 intro s
 induction s with
 | zero=>intro n; simp [be,rdn,Nat.mod_one]
 | succ s ih=>
  intro n
  rw [be,q0l8,ih,q6c]
  have:(UInt8.ofNat (n / 256 ^ s)).toNat=n / 256 ^ s % 256:=by simp
  rw [this,Nat.pow_succ,Nat.mod_mul,Nat.mul_comm,Nat.add_comm]
end Go.Proofs.YtfmoemconapmhaaGreat.Ah
