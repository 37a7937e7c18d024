/- codec.Writer: what each call does. -/
import Derived.Test.YtfmoemconapmhaaGreatGcodec
import Derived.Test.YtfmoemconapmhaaGreatGref02
import Derived.Test.YtfmoemconapmhaaGreatAh20
set_option linter.all false
namespace Go.Proofs.YtfmoemconapmhaaGreat.Ah
open Go
structure WS where
 most:Int
 bs:List UInt8
 over:Bool
def WS.put (s:WS) (l:List UInt8):WS:=if s.over then s else if s.most - s.bs.length < l.length then { s with over:=true } else { s with bs:=s.bs++l }
def Wr (w0:World) (h:Hp) (p:Nat) (st:WS) (S:List Nat):Prop:=
 ∃ x T,h.blk p=some [.int .i64 st.most,x,.bool st.over]∧w0.heap.size≤p∧p < h.next∧Vec w0 h 1 x st.bs.length (bvs st.bs) T∧p∉T∧S=p :: T∧0≤st.most∧st.most≤9223372036854775807
theorem Wr.lt {w0:World} {h:Hp} {p:Nat} {st:WS} {S:List Nat} (w:Wr w0 h p st S):∀ b,b∈S→w0.heap.size≤b∧b < h.next:=by
 obtain ⟨x,T,a,b,c,d,e,rfl,_⟩:=w
 intro i hi
 rcases List.mem_cons.1 hi with rfl | hi
 ·exact ⟨b,c⟩
 ·exact d.lt i hi
theorem Wr.frame {w0:World} {h h':Hp} {p:Nat} {st:WS} {S T T':List Nat} (w:Wr w0 h p st S) (s:Step h h' T T') (hd:∀ b,b∈S→b∉T):Wr w0 h' p st S:=by
 obtain ⟨x,U,a,b,c,d,e,rfl,f⟩:=w
 exact ⟨x,U,by rw [(s.2 p c (hd p (by simp))).1]; exact a,b,by have:=s.1; omega,d.frame s (λ i hi=>hd i (by simp [hi])),e,rfl,f⟩
theorem qfd {w0:World} {h:Hp} (most:Int) (hm:-9223372036854775808≤most∧most≤9223372036854775807):
  qf prog w0 qa5 [.int .i64 most] h λ v h'=>v=ptr h.next∧Wr w0 h' h.next ⟨max most 0,[],false⟩ [h.next]∧Step h h' [] [h.next]:=by
 refine qf.of_fit (by simp) λ f=>q0a4 (by simp) ?_
 simp [qtk]
 refine ⟨rfl,⟨_,[],by simp,f.base,by simp,.nil,by simp,rfl,by simp; omega,by simp; omega⟩,by simp,λ b hb _=>?_,λ b hb=>?_,rfl⟩
 ·have:b≠h.next:=by omega
  simp [this]
 ·simp at hb; subst hb; simp
theorem qch {w0:World} {h:Hp} {p:Nat} {st:WS} {S:List Nat} {ay:Option Addr} {cy:Nat} {l:List UInt8} (w:Wr w0 h p st S) (hs:Src w0.heap.size h 1 (.slice ay l.length cy) l.length (bvs l))
  (hsz:st.bs.length + l.length≤140737488355328):
  qf prog w0 q6x [ptr p,.slice ay l.length cy] h λ v h'=>∃ S',Wr w0 h' p (st.put l) S'∧Step h h' S S':=by
 refine qf.of_fit (by simp [ptr]) λ f=>q09t (by simp [ptr]) ?_
 have w2:=w
 obtain ⟨x,T,hb0,hp,hp2,hv,hpT,rfl,hm⟩:=w
 obtain ⟨ax,cx,hx⟩:=hv.slice
 simp [qsv,ptr,hb0,hx,Nat.not_lt.2 hp]
 refine ⟨λ ho=>⟨_,by simpa [WS.put,ho] using w2,Step.refl _ _ λ b hb=>(w2.lt b hb).2⟩,λ ho=>?_⟩
 rw [IntWalk.i64_in _ (by omega),← hx]
 refine ⟨λ hlt=>⟨hp,?_⟩,λ hge=>?_⟩
 ·exact ⟨p :: T,⟨x,T,by simp [WS.put,ho,hlt],hp,by simpa using hp2,by simpa [WS.put,ho,hlt] using hv.put hpT _,hpT,rfl,by simpa [WS.put,ho,hlt] using hm⟩,(Step.refl _ _ λ b hb=>(w2.lt b hb).2).put (by simp) _⟩
 ·have hst:st.put l = { st with bs:=st.bs++l }:=by simp [WS.put,ho]; omega
  refine q3g f.base hv (by simp) hs (by simp) (by omega) (by omega) (by omega) (λ x' h' T' hv' s'=>?_)
  have hpT':p∉T':=λ e=>by rcases (s'.3 p e).2 with q | q; exact hpT q; omega
  have hpb:h'.blk p=h.blk p:=(s'.2 p hp2 hpT).1
  obtain ⟨ax',cx',hx'⟩:=hv'.slice
  simp [hpb,hb0,Nat.not_lt.2 hp,hp,hx',hst]
  rw [← hx']
  have s2:=s'.1
  refine ⟨p :: T',⟨x',T',by simp,hp,by simp; omega,by simpa using hv'.put hpT' _,hpT',rfl,hm⟩,?_⟩
  have s3:Step h h' (p :: T) (p :: T'):=s'.wide (λ b hb=>by simp [hb]) (λ b hb=>by rcases List.mem_cons.1 hb with rfl | hb; exact .inr ⟨by simp,hp2⟩; exact .inl hb)
  exact s3.put (by simp) _
def be:Nat→Nat→List UInt8
 | 0,_=>[]
 | s + 1,n=>UInt8.ofNat (n / 256 ^ s) :: be s n
@[simp] theorem q6c (s n:Nat):(be s n).length=s:=by induction s with | zero=>rfl | succ s ih=>simp [be,ih]
theorem q3r (n:Nat):bv (UInt8.ofNat n)=.int .u8 ((n % 256:Nat):Int):=by simp [bv]
theorem q0i2 {w0:World} {kk:IntKind} (hkk:4≤kk.bits) {p q n0 s:Nat} {K:Value→Value→Hp→Prop} (hq:w0.heap.size≤q) (hs:s≤8):∀ (k i:Nat) (h:Hp),i + k=s→q < h.next→
  h.blk q=some (List.replicate k (.int .u8 0)++bvs (be i n0))→(∀ h',h'.blk q=some (bvs (be s n0))→Step h h' [q] [q]→K (ptr p) (.slice (some ⟨q,0,none⟩) s s) h')→
  q84 prog w0 K (k + 1) (ptr p) (.int kk ((n0 / 256 ^ i:Nat):Int)) (.int .i64 (s:Int)) (.slice (some ⟨q,0,none⟩) s s) (.int .i64 (s:Int)) (.int .i64 (i:Int)) h:=by
 intro k
 induction k with
 | zero=>
  intro i h hi hql hb hk
  have:i=s:=by omega
  subst this
  simp [q84,qe5]
  exact hk h (by simpa using hb) (.refl _ _ (by simpa using hql))
 | succ k ih=>
  intro i h hi hql hb hk
  rw [q84]
  simp [qe5]
  have e1:IntKind.i64.wrap (IntKind.i64.wrap ((s:Int) - 1) - (i:Int))=(k:Int):=by rw [IntWalk.i64_in ((s:Int) - 1) (by omega),IntWalk.i64_in _ (by omega)]; omega
  have e2:IntKind.i64.wrap ((i:Int) + 1)=((i + 1:Nat):Int):=by rw [IntWalk.i64_in _ (by omega)]; simp
  have e3:(n0:Int) / 256 ^ i / 2 ^ min 4 kk.bits / 2 ^ min 4 kk.bits=((n0 / 256 ^ (i + 1):Nat):Int):=by
   rw [Nat.pow_succ,← Nat.div_div_eq_div_mul]
   rw [Nat.min_eq_left hkk]
   simp
   omega
  have e4:IntKind.u8.wrap ((n0:Int) / 256 ^ i)=((n0 / 256 ^ i % 256:Nat):Int):=by rw [IntKind.wrap_u8]; simp
  rw [e1,e2,e3,e4]
  refine ⟨λ _=>⟨by omega,by omega,hq,_,hb,by simp; omega,?_⟩,λ hle=>by omega⟩
  refine ih (i + 1) _ (by omega) (by simpa using hql) ?_ (λ h' hb' st=>hk h' hb' ?_)
  ·simp only [q17,if_true,Int.toNat_natCast,be,qck,q3r]
   rw [List.set_append_left _ _ (by simp),List.replicate_succ',List.set_append_right _ _ (by simp)]
   simp
  ·exact ((Step.refl h [q] (by simpa using hql)).put (by simp) _).trans st
theorem q0ji {w0:World} {h:Hp} {kk:IntKind} (hkk:4≤kk.bits) {p:Nat} {st:WS} {S:List Nat} (n s:Nat) (hs:s≤8) (f:Fit w0 h) (w:Wr w0 h p st S) (hsz:st.bs.length + s≤140737488355328):
  qe6 prog w0 (ptr p) (.int kk n) (.int .i64 s) (λ v h'=>∃ S',Wr w0 h' p (st.put (be s n)) S'∧Step h h' S S') h:=by
 simp only [qe6,qmj,qfx,q1a,qio]
 refine ⟨Nat.le_refl _,by omega,by omega,s + 1,?_⟩
 have:=q0i2 (w0:=w0) hkk (p:=p) (q:=h.next) (n0:=n) (s:=s) (K:=λ y0 y6=>qi prog w0 q6x [y0,y6] λ _=>qo [] λ v h'=>∃ S',Wr w0 h' p (st.put (be s n)) S'∧Step h h' S S') f.base hs s 0 (h.new (q00 [Value.int IntKind.u8 0] s) 1) (by omega) (by simp) (by simp [quk,be]) ?_
 ·simpa using this
 ·intro h1 hb1 st1
  have s1:Step h h1 S (h.next :: S):=(((Step.refl h S λ b hb=>(w.lt b hb).2).new (q00 [Value.int IntKind.u8 0] s) 1).trans (st1.wide (T:=h.next :: S) (T':=h.next :: S) (by simp) (λ b hb=>by
   rcases List.mem_cons.1 hb with rfl | hb
   ·exact .inl (by simp)
   ·exact .inr ⟨by simp [hb],by have:=(w.lt b hb).2; simp; omega⟩)))
  have w1:Wr w0 h1 p st S:=by
   refine (w.frame (T:=[]) (T':=[h.next]) ?_ (by simp)).frame st1 ?_
   ·exact (Step.refl h [] (by simp)).new _ _
   ·intro b hb; have:=(w.lt b hb).2; simp; omega
  have hsrc:=q96 (w0:=w0) (h:=h1) (q:=h.next) (c:=s) (n:=s) (s:=1) f.base hb1 (by simp)
  refine qq (qch (l:=be s n) (ay:=some ⟨h.next,0,none⟩) (cy:=s) w1 (by simpa using hsrc) (by simpa using hsz)) ?_ |> λ r=>by simpa using r
  rintro v h2 ⟨S',w2,s2⟩ f2
  simp only [qu,qah]
  exact ⟨by simp,S',w2,(s1.less (T:=S) (λ b hb=>by simp [hb])).trans s2⟩
theorem q0hi {w0:World} {h:Hp} {p:Nat} {st:WS} {S:List Nat} (n:Nat) (hn:n < 256) (f:Fit w0 h) (w:Wr w0 h p st S) (hsz:st.bs.length + 1≤140737488355328):
  qeb prog w0 (ptr p) (.int .u8 n) (.int .i64 (1:Nat)) (λ v h'=>∃ S',Wr w0 h' p (st.put (be 1 n)) S'∧Step h h' S S') h:=by
 simp only [qeb,qmj,qfx,q1a,qiu]
 refine ⟨Nat.le_refl _,by omega,by omega,2,?_⟩
 have hb:(.int .u8 (n:Int):Value)=bv (UInt8.ofNat n):=by rw [q3r,Nat.mod_eq_of_lt hn]
 have hbl:f.base=f.base:=rfl
 simp [qbf,qip,show IntKind.i64.wrap (IntKind.i64.wrap (1 - 1))=0 by decide,show IntKind.i64.wrap 0=0 by decide,show IntKind.i64.wrap 1=1 by decide,quk]
 refine ⟨f.base,?_⟩
 have s1:Step h ((h.new [Value.int IntKind.u8 0] 1).put h.next [Value.int IntKind.u8 n]) S (h.next :: S):=((Step.refl h S λ b hb=>(w.lt b hb).2).new _ 1).put (by simp) _
 have w1:=(w.frame ((Step.refl h [] (by simp)).new [Value.int IntKind.u8 0] 1) (by simp)).frame (((Step.refl (h.new [Value.int IntKind.u8 0] 1) [h.next] (by simp)).put (p:=h.next) (by simp) [Value.int IntKind.u8 n])) (by intro b hb; have:=(w.lt b hb).2; simp; omega)
 have hsrc:=q96 (w0:=w0) (h:=(h.new [Value.int IntKind.u8 0] 1).put h.next [Value.int IntKind.u8 n]) (q:=h.next) (c:=1) (n:=1) (s:=1) f.base (cs:=bvs (be 1 n)) (by simp [be,hb]) (by simp)
 have:=qq (qch (l:=be 1 n) (ay:=some ⟨h.next,0,none⟩) (cy:=1) w1 (by simpa using hsrc) (by simpa using hsz)) (K:=λ _=>qo [] (λ v h'=>∃ S',Wr w0 h' p (st.put (be 1 n)) S'∧Step h h' S S')) ?_
 ·simpa using this
 ·rintro v h2 ⟨S',w2,s2⟩ f2
  simp only [qu,qah]
  exact ⟨by simp,S',w2,(s1.less (T:=S) (λ b hb=>by simp [hb])).trans s2⟩
theorem qyt {w0:World} {h:Hp} {p:Nat} {st:WS} {S:List Nat} (n:Nat) (hn:n < 256) (w:Wr w0 h p st S) (hsz:st.bs.length + 1≤140737488355328):
  qf prog w0 qf5 [ptr p,.int .u8 n] h λ v h'=>∃ S',Wr w0 h' p (st.put (be 1 n)) S'∧Step h h' S S':=by
 refine qf.of_fit (by simp [ptr]) λ f=>q0a8 (by simp [ptr]) ?_
 refine qq (q06x (by simp [ptr]) (q0hi n hn f w hsz)) λ v h' r _=>?_
 simpa using r
theorem qce {w0:World} {h:Hp} {p:Nat} {st:WS} {S:List Nat} (n:Nat) (w:Wr w0 h p st S) (hsz:st.bs.length + 4≤140737488355328):
  qf prog w0 q8n [ptr p,.int .u32 n] h λ v h'=>∃ S',Wr w0 h' p (st.put (be 4 n)) S'∧Step h h' S S':=by
 refine qf.of_fit (by simp [ptr]) λ f=>q08s (by simp [ptr]) ?_
 refine qq (q06g (by simp [ptr]) (q0ji (by decide) n 4 (by omega) f w hsz)) λ v h' r _=>?_
 simpa using r
def g7 (n:Nat):UInt8:=UInt8.ofNat (n % 128 + 128)
def vi (n:Nat):List UInt8:=if h:n < 128 then [UInt8.ofNat n] else g7 n :: vi (n / 128)
theorem q0ob (n:Nat):qd .or (.int .u8 (IntKind.u8.wrap (n:Int))) (.int .u8 128)=some (bv (g7 n)):=by
 have e:IntKind.u8.wrap (n:Int)=((n % 256:Nat):Int):=by rw [IntKind.wrap_u8]; simp
 have h2:∀ x,x < 256→x ||| 128=x % 128 + 128:=by
  intro x hx
  have h5:=Nat.two_pow_add_eq_or_of_lt (i:=7) (b:=x % 128) (by omega) 1
  simp at h5
  by_cases h6:x < 128
  ·rw [Nat.mod_eq_of_lt h6] at h5 ⊢
   rw [Nat.or_comm,← h5]; omega
  ·have e:x=128 ||| x % 128:=by rw [← h5]; omega
   rw [e,Nat.or_comm,← Nat.or_assoc,Nat.or_self,← h5]; omega
 have h3:=h2 (n % 256) (Nat.mod_lt _ (by omega))
 have:=qmo .u8 (n % 256) 128
 rw [e,show (128:Int)=((128:Nat):Int) from rfl,this,g7,q3r,q41 rfl (Nat.mod_lt _ (by decide)),h3]
 have h4:(n % 256 % 128 + 128) % 2 ^ IntKind.u8.bits=(n % 128 + 128) % 256:=by simp [IntKind.bits]
 rw [h4]
theorem q0o9:∀ k n,n < 128 ^ (k + 1)→(vi n).length≤k + 1:=by
 intro k
 induction k with
 | zero=>intro n h; unfold vi; rw [dif_pos (by simpa using h)]; simp
 | succ k ih=>
  intro n h
  unfold vi
  split
  ·simp
  ·have:=ih (n / 128) (by rw [Nat.pow_succ] at h; omega)
   simp; omega
theorem q2j {n:Nat} (h:n < 18446744073709551616):(vi n).length≤10:=q0o9 9 n (by omega)
theorem q0fd {w0:World} {K:Value→Value→Hp→Prop} (n:Nat):∀ (h:Hp) (x:Value) (pre:List UInt8) (S:List Nat),w0.heap.size≤h.next→Vec w0 h 1 x pre.length (bvs pre) S→pre.length + (vi n).length≤100→n < 18446744073709551616→
  (∀ (h':Hp) (x':Value) (m:Nat) (pre':List UInt8) (S':List Nat),m < 128→Vec w0 h' 1 x' pre'.length (bvs pre') S'→pre'++[UInt8.ofNat m]=pre++vi n→Step h h' S S'→K (.int .u64 m) x' h')→
  q8r prog w0 K (vi n).length (.int .u64 n) x h:=by
 induction n using vi.induct with
 | case1 n hn=>
  intro h x pre S hf hv hl hb hk
  have e:vi n=[UInt8.ofNat n]:=by unfold vi; rw [dif_pos hn]
  rw [e] at hk ⊢
  simp [q8r,qf9,show ¬ (128:Int)≤n by omega]
  exact hk h x n pre S hn hv rfl (.refl _ _ λ b hb=>(hv.lt b hb).2)
 | case2 n hn ih=>
  intro h x pre S hf hv hl hb hk
  have e:vi n=g7 n :: vi (n / 128):=by rw [vi]; rw [dif_neg hn]
  rw [e] at hk hl ⊢
  simp at hl
  simp [q8r,qf9,q0ob]
  refine ⟨λ _=>?_,λ h=>by omega⟩
  refine q3g (w0:=w0) (m:=1) (s:=1) (by_:=1) (h:=h.new [bv (g7 n)] 1) (ys:=bvs [g7 n]) (by simp; omega) (hv.new _ _) (by simp) (q3h hf (by simp)) (by simp) (by omega) (by omega) (by omega) (λ x' h' S' hv' st=>?_)
  have st2:Step h h' S S':=(((Step.refl h S λ b hb=>(hv.lt b hb).2).new _ _).less (T:=S) (λ b hb=>by simp [hb])).trans st
  simp [IntKind.bits]
  have e2:(n:Int) / 128=((n / 128:Nat):Int):=by simp
  rw [e2]
  refine ih h' x' (pre++[g7 n]) S' (by have:=st2.1; omega) (by simpa using hv') (by simp; omega) (by omega) (λ h2 x2 m pre' S2 hm hv2 hp st3=>hk h2 x2 m pre' S2 hm hv2 (by simpa using hp) (st2.trans st3))
theorem qw7 {w0:World} {h:Hp} (n:Nat) (hn:n < 18446744073709551616):
  qf prog w0 qfb [.int .u64 n] h λ v h'=>∃ S',Vec w0 h' 1 v (vi n).length (bvs (vi n)) S'∧Step h h' [] S':=by
 refine qf.of_fit (by simp) λ f=>q0ch (by simp) ?_
 have h10:=q2j hn
 refine ⟨(vi n).length,q0fd n h _ [] [] f.base .nil (by simp; omega) hn (λ h' x' m pre' S' hm hv he st=>?_)⟩
 have e:IntKind.u8.wrap (m:Int)=((m % 256:Nat):Int):=by rw [IntKind.wrap_u8]; simp
 simp [e]
 have hb:(.int .u8 ((m:Int) % 256):Value)=bv (UInt8.ofNat m):=by rw [q3r]; simp
 rw [hb]
 have hlen:pre'.length + 1=(vi n).length:=by rw [← List.nil_append (vi n),← he]; simp
 have hfb:=f.base
 have:=st.1
 refine q3g (w0:=w0) (m:=1) (s:=1) (by_:=1) (h:=h'.new [bv (UInt8.ofNat m)] 1) (ys:=bvs [UInt8.ofNat m]) (by simp; omega) (hv.new _ _) (by simp) (q3h (by omega) (by simp)) (by simp) (by omega) (by omega) (by omega) (λ x2 h2 S2 hv2 st2=>?_)
 obtain ⟨a,c,rfl⟩:=hv2.slice
 simp
 refine ⟨S2,?_,((st.new _ _).less (T:=S') (λ b hb=>by simp [hb])).trans st2⟩
 rw [← hlen]
 have he2:bvs pre'++bvs [UInt8.ofNat m]=bvs (vi n):=by rw [← q5g,he]; simp
 rw [← he2]
 exact hv2
theorem qku {w0:World} {h:Hp} {p:Nat} {st:WS} {S:List Nat} (n:Nat) (hn:n < 18446744073709551616) (w:Wr w0 h p st S) (hsz:st.bs.length + 10≤140737488355328):
  qf prog w0 q5z [ptr p,.int .u64 n] h λ v h'=>∃ S',Wr w0 h' p (st.put (vi n)) S'∧Step h h' S S':=by
 refine qf.of_fit (by simp [ptr]) λ f=>q06l (by simp [ptr]) ?_
 have h10:=q2j hn
 refine qq (qw7 n hn) λ v h1 ⟨S1,hv,s1⟩ f1=>?_
 obtain ⟨a,c,hx⟩:=hv.slice
 subst hx
 refine qq (qch (l:=vi n) (w.frame s1 (by simp)) hv.src (by omega)) λ v h2 ⟨S2,w2,s2⟩ f2=>?_
 simp only [qu,qah]
 refine ⟨by simp,S2,w2,?_⟩
 exact (s1.wide (T:=S) (T':=S) (by simp) (λ b hb=>.inr ⟨hb,(w.lt b hb).2⟩)).trans s2
theorem q0j0 {w0:World} {h:Hp} {p:Nat} {st:WS} {S:List Nat} (l:List UInt8) (hl:l.length≤70368744177664) (w:Wr w0 h p st S) (hsz:st.bs.length + 10 + l.length≤140737488355328):
  qf prog w0 qj7 [ptr p,.string (str l)] h λ v h'=>∃ S',Wr w0 h' p (st.put (vi l.length++l)) S'∧Step h h' S S':=by
 refine qf.of_fit (by simp [ptr]) λ f=>q07g (by simp [ptr]) ?_
 have h10:=q2j (n:=l.length) (by omega)
 simp only [qrw,q5f,q1a,q3q,q1v]
 rw [IntWalk.u64_in _ (by omega)]
 refine qq (qw7 l.length (by omega)) λ v h1 ⟨S1,hv,s1⟩ f1=>?_
 refine q3g (m:=l.length) (ys:=bvs l) f1.base hv (by simp) ?_ (by simp) (by omega) (by omega) (by omega) (λ x' h2 S2 hv2 s2=>?_)
 ·have:=qwp (h:=h1) w0.heap.size (str l)
  simpa using this
 ·have hv3:Vec w0 h2 1 x' (vi l.length++l).length (bvs (vi l.length++l)) S2:=by simpa using hv2
  obtain ⟨a,c,rfl⟩:=hv3.slice
  have s12:=s1.trans s2
  refine qq (qch (l:=vi l.length++l) (ay:=a) (cy:=c) (w.frame s12 (by simp)) hv3.src (by simp; omega)) λ v h3 ⟨S3,w3,s3⟩ f3=>?_
  simp only [qu,qah]
  exact ⟨by simp,S3,w3,(s12.wide (T:=S) (T':=S) (by simp) (λ b hb=>.inr ⟨hb,(w.lt b hb).2⟩)).trans s3⟩
theorem qlw {w0:World} {h:Hp} {p:Nat} {st:WS} {S:List Nat} (l:List UInt8) (hl:l.length≤70368744177664) (w:Wr w0 h p st S) (hsz:st.bs.length + l.length≤140737488355328):
  qf prog w0 qbl [ptr p,.string (str l)] h λ v h'=>∃ S',Wr w0 h' p (st.put l) S'∧Step h h' S S':=by
 refine qf.of_fit (by simp [ptr]) λ f=>q09s (by simp [ptr]) ?_
 simp only [qso,qy7,q1v,qyp,qmv]
 refine ⟨by omega,?_⟩
 have s1:=(Step.refl h [] (by simp)).new (bvs l) 1
 refine qq (qch (l:=l) (ay:=some ⟨h.next,0,none⟩) (cy:=q0b) (w.frame s1 (by simp)) (q3h f.base (by simp)) hsz) λ v h3 ⟨S3,w3,s3⟩ f3=>?_
 simp only [qu,qah]
 exact ⟨by simp,S3,w3,(s1.wide (T:=S) (T':=S) (by simp) (λ b hb=>.inr ⟨hb,(w.lt b hb).2⟩)).trans s3⟩
def WS.len (s:WS):Nat:=if s.over then 0 else s.bs.length
def WS.out (s:WS):List UInt8:=if s.over then [] else s.bs
def WS.err (s:WS):Int:=if s.over then 3 else 0
theorem qad {w0:World} {h:Hp} {p:Nat} {st:WS} {S:List Nat} (w:Wr w0 h p st S):
  qf prog w0 q6v [ptr p] h λ v h'=>v=.tuple #[.string (str st.out),.int .i64 st.err]∧h'=h:=by
 refine qf.of_fit (by simp [ptr]) λ f=>q08o (by simp [ptr]) ?_
 obtain ⟨x,T,hb0,hp,hp2,hv,hpT,rfl,hm⟩:=w
 obtain ⟨ax,cx,hx⟩:=hv.slice
 simp [qrz,ptr,hb0,Nat.not_lt.2 hp,WS.out,WS.err]
 refine ⟨λ ho=>by simp [ho,qap],λ ho=>hv.b2s ?_⟩
 simp [ho]
structure RS where
 s:List UInt8
 err:Int
def Rd (w0:World) (h:Hp) (r:Nat) (st:RS):Prop:=h.blk r=some [.string (str st.s),.int .i64 st.err]∧w0.heap.size≤r∧r < h.next∧st.s.length≤140737488355328∧0≤st.err∧st.err < 1000
theorem Rd.frame {w0:World} {h h':Hp} {r:Nat} {st:RS} {T T':List Nat} (w:Rd w0 h r st) (s:Step h h' T T') (hd:r∉T):Rd w0 h' r st:=
 ⟨by rw [(s.2 r w.2.2.1 hd).1]; exact w.1,w.2.1,by have:=s.1; have:=w.2.2.1; omega,w.2.2.2⟩
theorem Rd.put {w0:World} {h:Hp} {r:Nat} {st:RS} (w:Rd w0 h r st) (st':RS) (hl:st'.s.length≤140737488355328) (he:0≤st'.err∧st'.err < 1000):Rd w0 (h.put r [.string (str st'.s),.int .i64 st'.err]) r st'∧Step h (h.put r [.string (str st'.s),.int .i64 st'.err]) [r] [r]:=
 ⟨⟨by simp,w.2.1,by simpa using w.2.2.1,hl,he⟩,(Step.refl h [r] (by simpa using w.2.2.1)).put (by simp) _⟩
theorem Rd.refl {w0:World} {h:Hp} {r:Nat} {st:RS} (w:Rd w0 h r st):Step h h [r] [r]:=Step.refl h [r] (by simpa using w.2.2.1)
def RS.fault (st:RS) (e:Int):RS:=if st.err=0 then { st with err:=e } else st
def RS.raw (st:RS) (n:Int):List UInt8 × RS:=
 if st.err≠0 then ([],st) else if n < 0 then ([],{ st with err:=1 }) else if (st.s.length:Int) < n then ([],{ st with err:=20 }) else (st.s.take n.toNat,{ st with s:=st.s.drop n.toNat })
def rdn (l:List UInt8):Nat:=l.foldl (λ n b=>n * 256 + b.toNat) 0
def shp:List UInt8→Nat→Nat→Nat × Nat × Int
 | [],_,_=>(0,0,20)
 | c :: l,i,acc=>
  if i=9∧c≠1 then (0,0,21)
  else if c.toNat < 128 then (if c=0∧0 < i then (0,0,21) else (acc + c.toNat % 128 * 128 ^ i,i + 1,0))
  else shp l (i + 1) (acc + c.toNat % 128 * 128 ^ i)
def RS.varint (st:RS):Nat × RS:=
 if st.err≠0 then (0,st) else if (shp st.s 0 0).2.2≠0 then (0,{ st with err:=(shp st.s 0 0).2.2 }) else ((shp st.s 0 0).1,{ st with s:=st.s.drop (shp st.s 0 0).2.1 })
def RS.text (st:RS):List UInt8 × RS:=
 if st.varint.2.err≠0 then ([],st.varint.2) else if st.varint.2.s.length < st.varint.1 then ([],{ st.varint.2 with err:=20 }) else st.varint.2.raw st.varint.1
theorem qk9 {w0:World} {h:Hp} (l:List UInt8) (hl:l.length≤140737488355328):
  qf prog w0 qbr [.string (str l)] h λ v h'=>v=ptr h.next∧Rd w0 h' h.next ⟨l,0⟩∧Step h h' [] [h.next]:=by
 refine qf.of_fit (by simp) λ f=>q09w (by simp) ?_
 simp [qtj]
 exact ⟨rfl,⟨by simp,f.base,by simp,hl,by simp,by simp⟩,(Step.refl h [] (by simp)).new _ _⟩
theorem qfz {w0:World} {h:Hp} {r:Nat} {st:RS} (w:Rd w0 h r st) (e:Int) (he:0≤e∧e < 1000):
  qf prog w0 qa1 [ptr r,.int .i64 e] h λ v h'=>v=.string .empty∧Rd w0 h' r (st.fault e)∧Step h h' [r] [r]:=by
 refine qf.of_fit (by simp [ptr]) λ f=>q06v (by simp [ptr]) ?_
 simp [qqv,ptr,w.1,Nat.not_lt.2 w.2.1,w.2.1]
 refine ⟨λ h0=>?_,λ h0=>?_⟩
 ·have:=w.put { st with err:=e } w.2.2.2.1 he
  simpa [RS.fault,h0] using this
 ·simpa [RS.fault,h0] using ⟨w,w.refl⟩
theorem qg9 {w0:World} {h:Hp} {r:Nat} {st:RS} (w:Rd w0 h r st) (n:Int) (hn:-9223372036854775808≤n∧n≤9223372036854775807):
  qf prog w0 q63 [ptr r,.int .i64 n] h λ v h'=>v=.string (str (st.raw n).1)∧Rd w0 h' r (st.raw n).2∧Step h h' [r] [r]:=by
 refine qf.of_fit (by simp [ptr]) λ f=>q09q (by simp [ptr]) ?_
 simp [qt1,ptr,w.1,Nat.not_lt.2 w.2.1,w.2.1]
 refine ⟨λ h0=>?_,λ h0=>⟨λ h1=>?_,λ h1=>⟨λ h2=>?_,λ h2=>?_⟩⟩⟩
 ·simpa [RS.raw,h0,qap] using ⟨w,w.refl⟩
 ·refine qq (qfz w 1 (by omega)) λ v h' ⟨e,w',s⟩ _=>?_
  subst e
  simpa [RS.raw,h0,h1,qap,RS.fault] using ⟨by simpa [RS.fault,h0] using w',s⟩
 ·refine qq (qfz w 20 (by omega)) λ v h' ⟨e,w',s⟩ _=>?_
  subst e
  simpa [RS.raw,h0,Int.not_lt.2 h1,h2,qap,RS.fault] using ⟨by simpa [RS.fault,h0] using w',s⟩
 ·obtain ⟨k,rfl⟩:=Int.eq_ofNat_of_zero_le h1
  have hk:k≤st.s.length:=by omega
  simp [qw1 _ _ _ hk,q93 _ _ _ hk,RS.raw,h0,h2,w.1,Nat.not_lt.2 w.2.1,w.2.1]
  have hnl:¬ st.s.length < k:=by omega
  have hng:¬ (k:Int) < 0:=by omega
  simp [hnl,hng]
  have:=w.put ⟨st.s.drop k,0⟩ (by have:=w.2.2.2.1; simp; omega) (by simp)
  simpa using this
theorem q0nk:∀ (l:List UInt8) (n i:Nat),n < 256 ^ i→l.foldl (λ n b=>n * 256 + b.toNat) n < 256 ^ (i + l.length):=by
 intro l
 induction l with
 | nil=>intro n i h; simpa using h
 | cons b l ih=>
  intro n i h
  have:=ih (n * 256 + b.toNat) (i + 1) (by have:=UInt8.toNat_lt b; rw [Nat.pow_succ]; omega)
  simp only [List.foldl_cons,List.length_cons]
  rw [show i + (l.length + 1)=i + 1 + l.length by omega]
  exact this
theorem q0jj {w0:World} {K:Value→Hp→Prop} {h:Hp} {q:Nat} {l:List UInt8} (hq:w0.heap.size≤q) (hb:h.blk q=some (bvs l)) (hl:l.length≤8):∀ (post pre:List UInt8) (n:Nat) (c:Nat),pre++post=l→n < 256 ^ pre.length→
  K (.int .u64 (post.foldl (λ n b=>n * 256 + b.toNat) n:Nat)) h→
  q8b prog w0 K (post.length + 1) (.int .u64 (n:Int)) (.slice (some ⟨q,0,none⟩) l.length c) (.int .i64 (l.length:Int)) (.int .i64 (pre.length:Int)) h:=by
 intro post
 induction post with
 | nil=>
  intro pre n c he hn hk
  have:pre=l:=by simpa using he
  subst this
  simpa [q8b,qea] using hk
 | cons b post ih=>
  intro pre n c he hn hk
  have hlen:pre.length + (post.length + 1)=l.length:=by rw [← he]; simp
  have hg:l[pre.length]?=some b:=by rw [← he]; simp
  have hn8:n < 256 ^ 7:=Nat.lt_of_lt_of_le hn (Nat.pow_le_pow_right (by omega) (by omega))
  have hbl:=UInt8.toNat_lt b
  have e1:IntKind.u64.wrap ((n:Int) * 256)=((n * 256:Nat):Int):=by rw [IntWalk.u64_in _ (by omega)]; simp
  have e2:IntKind.u64.wrap (b.toNat:Int)=(b.toNat:Int):=by rw [IntWalk.u64_in _ (by omega)]
  have e3:qd .or (.int .u64 ((n * 256:Nat):Int)) (.int .u64 (b.toNat:Int))=some (.int .u64 ((n * 256 + b.toNat:Nat):Int)):=by
   have h5:=Nat.two_pow_add_eq_or_of_lt (i:=8) (b:=b.toNat) (by omega) n
   have h6:n * 256 ||| b.toNat=n * 256 + b.toNat:=by rw [Nat.mul_comm n 256]; simpa using h5.symm
   rw [qmo,h6,Nat.mod_eq_of_lt (by simp [IntKind.bits]; omega),q41 rfl (by simp [IntKind.bits]; omega)]
  have e4:IntKind.i64.wrap ((pre.length:Int) + 1)=((pre.length + 1:Nat):Int):=by rw [IntWalk.i64_in _ (by omega)]; simp
  rw [List.length_cons,q8b]
  have hbg:(h.blk q).bind (·[pre.length]?)=some (.int .u8 (b.toNat:Int)):=by simp only [hb,Option.bind_some,qz6,hg]; rfl
  simp [qea,hbg,Nat.not_lt.2 hq,show pre.length < l.length by omega,show ¬ l.length≤pre.length by omega,show min 8 IntKind.u64.bits=8 from rfl]
  rw [e1,e2,e3,e4]
  simp
  have:=ih (pre++[b]) (n * 256 + b.toNat) c (by simpa using he) (by rw [List.length_append,List.length_singleton,Nat.pow_succ]; omega) (by simpa using hk)
  simpa using this
theorem qxl {w0:World} {h:Hp} {r:Nat} {st:RS} (w:Rd w0 h r st) (k:Nat) (hk:k≤8):
  qf prog w0 qek [ptr r,.int .i64 k] h λ v h'=>v=.int .u64 (rdn (st.raw k).1:Nat)∧Rd w0 h' r (st.raw k).2∧Step h h' [r] [r]:=by
 refine qf.of_fit (by simp [ptr]) λ f=>q07q (by simp [ptr]) ?_
 have hlen:(st.raw k).1.length≤8:=by
  unfold RS.raw
  repeat' split
  all_goals simp
  omega
 refine qq (qg9 w k (by omega)) λ v h1 ⟨e,w1,s1⟩ f1=>?_
 subst e
 simp only [qy7,q1v,qyp,qmv,qfx,q1a]
 refine ⟨by omega,(st.raw k).1.length + 1,?_⟩
 have:=q0jj (w0:=w0) (K:=λ y5=>qo [y5] λ v h'=>v=.int .u64 (rdn (st.raw k).1:Nat)∧Rd w0 h' r (st.raw k).2∧Step h h' [r] [r]) (h:=h1.new (bvs (st.raw k).1) 1) (q:=h1.next) (l:=(st.raw k).1) f1.base (by simp) hlen (st.raw k).1 [] 0 q0b (by simp) (by simp) ?_
 ·simpa using this
 ·simp only [qu,q06]
  refine ⟨by simp,rfl,w1.frame ((Step.refl h1 [] (by simp)).new _ _) (by simp),?_⟩
  exact (s1.new _ _).less (by simp)
theorem q0nd (st:RS) (k:Nat):(st.raw k).1.length≤k:=by
 unfold RS.raw
 repeat' split
 all_goals simp
 omega
theorem q9g (st:RS) (k:Nat):rdn (st.raw k).1 < 256 ^ k:=by
 have:=q0nk (st.raw k).1 0 0 (by simp)
 exact Nat.lt_of_lt_of_le this (Nat.pow_le_pow_right (by omega) (by have:=q0nd st k; omega))
theorem qgd {w0:World} {h:Hp} {r:Nat} {st:RS} (w:Rd w0 h r st):
  qf prog w0 qa6 [ptr r] h λ v h'=>v=.int .u8 (rdn (st.raw 1).1:Nat)∧Rd w0 h' r (st.raw 1).2∧Step h h' [r] [r]:=by
 refine qf.of_fit (by simp [ptr]) λ f=>q0ag (by simp [ptr]) ?_
 refine qq (qxl w 1 (by omega)) λ v h1 ⟨e,w1,s1⟩ f1=>?_
 subst e
 have:=q9g st 1
 have e:IntKind.u8.wrap ((rdn (st.raw (1:Nat)).1:Nat):Int)=((rdn (st.raw (1:Nat)).1:Nat):Int):=IntWalk.u8_in _ (by omega)
 simp only [q3q,q1a,e,qu,q06]
 exact ⟨by simp,rfl,w1,s1⟩
theorem qgb {w0:World} {h:Hp} {r:Nat} {st:RS} (w:Rd w0 h r st):
  qf prog w0 qa3 [ptr r] h λ v h'=>v=.int .u32 (rdn (st.raw 4).1:Nat)∧Rd w0 h' r (st.raw 4).2∧Step h h' [r] [r]:=by
 refine qf.of_fit (by simp [ptr]) λ f=>q09c (by simp [ptr]) ?_
 refine qq (qxl w 4 (by omega)) λ v h1 ⟨e,w1,s1⟩ f1=>?_
 subst e
 have:=q9g st 4
 have e:IntKind.u32.wrap ((rdn (st.raw (4:Nat)).1:Nat):Int)=((rdn (st.raw (4:Nat)).1:Nat):Int):=IntWalk.u32_in _ (by omega)
 simp only [q3q,q1a,e,qu,q06]
 exact ⟨by simp,rfl,w1,s1⟩
theorem qx9 {w0:World} {h:Hp} {r:Nat} {st:RS} (w:Rd w0 h r st):qf prog w0 q51 [ptr r] h λ v h'=>v=.int .i64 st.err∧h'=h:=by
 refine qf.of_fit (by simp [ptr]) λ f=>q09j (by simp [ptr]) ?_
 simp [qsq,ptr,w.1,Nat.not_lt.2 w.2.1,w.2.1]
def RS.left (st:RS):Nat:=if st.err≠0 then 0 else st.s.length
theorem q0gy {w0:World} {h:Hp} {r:Nat} {st:RS} (w:Rd w0 h r st):qf prog w0 qjb [ptr r] h λ v h'=>v=.int .i64 st.left∧h'=h:=by
 refine qf.of_fit (by simp [ptr]) λ f=>q083 (by simp [ptr]) ?_
 simp [qsc,ptr,w.1,Nat.not_lt.2 w.2.1,w.2.1,RS.left]
 exact ⟨λ h0=>by simp [h0],λ h0=>by simp [h0]⟩
def RS.done (st:RS):Int:=if st.err≠0 then st.err else if 0 < st.s.length then 22 else 0
theorem qgm (c:UInt8) (l:List UInt8) (i acc:Nat):shp (c :: l) i acc=if i=9∧c≠1 then (0,0,21) else if c.toNat < 128 then (if c=0∧0 < i then (0,0,21) else (acc + c.toNat % 128 * 128 ^ i,i + 1,0)) else shp l (i + 1) (acc + c.toNat % 128 * 128 ^ i):=rfl
theorem qzw (b:UInt8):qd .and (.int .u8 (b.toNat:Int)) (.int .u8 127)=some (.int .u8 ((b.toNat % 128:Nat):Int)):=by
 have h:=UInt8.toNat_lt b
 have h5:b.toNat &&& 127=b.toNat % 128:=Nat.and_two_pow_sub_one_eq_mod b.toNat 7
 have:=qm1 .u8 b.toNat 127
 rw [show (127:Int)=((127:Nat):Int) from rfl,this,h5,Nat.mod_eq_of_lt (by simp [IntKind.bits]; omega),q41 rfl (by simp [IntKind.bits]; omega)]
theorem q0hc {w0:World} {k0 kr:Value→Value→Value→Hp→Prop} {h:Hp} {l:List UInt8} (hl:l.length≤140737488355328):∀ (post pre:List UInt8) (n:Nat),pre++post=l→pre.length≤9→n < 128 ^ pre.length→
  (∀ a b c,shp post pre.length n=(0,0,20)→k0 a b c h)→(shp post pre.length n≠(0,0,20)→kr (.int .u64 ((shp post pre.length n).1:Nat)) (.int .i64 ((shp post pre.length n).2.1:Nat)) (.int .i64 (shp post pre.length n).2.2) h)→
  q65 prog w0 k0 kr (post.length + 1) (.string (str l)) (.int .u64 (n:Int)) (.int .i64 0) (.int .i64 0) (.int .i64 (l.length:Int)) (.int .i64 (pre.length:Int)) h:=by
 intro post
 induction post with
 | nil=>
  intro pre n he hp hn h0 hr
  have:pre=l:=by simpa using he
  subst this
  simpa [q65,q8u] using h0 _ _ _ rfl
 | cons b post ih=>
  intro pre n he hp hn h0 hr
  have hlen:pre.length + (post.length + 1)=l.length:=by rw [← he]; simp
  have hg:l[pre.length]?=some b:=by rw [← he]; simp
  have hb:=UInt8.toNat_lt b
  rw [List.length_cons,q65]
  rw [qgm] at h0 hr
  have e1:IntKind.i64.wrap (7 * (pre.length:Int))=((7 * pre.length:Nat):Int):=by rw [IntWalk.i64_in _ (by omega)]; simp
  have hmin:min (7 * pre.length) IntKind.u64.bits=7 * pre.length:=Nat.min_eq_left (by simp [IntKind.bits]; omega)
  have hs:q3t (.string (str l)) (.int .i64 (pre.length:Int))=some (.int .u8 (b.toNat:Int)):=by rw [qbx,hg]; rfl
  have e2:IntKind.u64.wrap ((b.toNat % 128:Nat):Int)=((b.toNat % 128:Nat):Int):=IntWalk.u64_in _ (by omega)
  have e5:IntKind.i64.wrap ((pre.length:Int) + 1)=((pre.length + 1:Nat):Int):=by rw [IntWalk.i64_in _ (by omega)]; simp
  have hp7:128 ^ pre.length=2 ^ (7 * pre.length):=by rw [Nat.pow_mul]
  have hm:b.toNat % 128 * 128 ^ pre.length≤127 * 128 ^ pre.length:=Nat.mul_le_mul_right _ (by omega)
  have e3:b.toNat % 128 * 128 ^ pre.length < 18446744073709551616→qd .shl (.int .u64 ((b.toNat % 128:Nat):Int)) (.int .i64 ((7 * pre.length:Nat):Int))=some (.int .u64 ((b.toNat % 128 * 128 ^ pre.length:Nat):Int)):=by
   intro hlt
   have e:((b.toNat % 128:Nat):Int) * 2 ^ (7 * pre.length)=((b.toNat % 128 * 128 ^ pre.length:Nat):Int):=by rw [hp7]; simp
   rw [q0l2 _ _ _ _ (by omega),Int.toNat_natCast,hmin,e,IntWalk.u64_in _ (by omega)]
  have e4:n + b.toNat % 128 * 128 ^ pre.length < 18446744073709551616→qd .or (.int .u64 (n:Int)) (.int .u64 ((b.toNat % 128 * 128 ^ pre.length:Nat):Int))=some (.int .u64 ((n + b.toNat % 128 * 128 ^ pre.length:Nat):Int)):=by
   intro hlt
   have h5:=Nat.two_pow_add_eq_or_of_lt (i:=7 * pre.length) (b:=n) (by rw [← hp7]; exact hn) (b.toNat % 128)
   have h6:n ||| b.toNat % 128 * 128 ^ pre.length=n + b.toNat % 128 * 128 ^ pre.length:=by rw [hp7,Nat.or_comm,Nat.mul_comm (b.toNat % 128),← h5,Nat.add_comm]
   rw [qmo,h6,Nat.mod_eq_of_lt (by simp only [IntKind.bits]; omega),q41 rfl (by simp only [IntKind.bits]; omega)]
  have hz:(b=0)↔b.toNat=0:=⟨λ e=>by rw [e]; rfl,λ e=>UInt8.toNat_inj.1 (by simpa using e)⟩
  have h1z:(b=1)↔b.toNat=1:=⟨λ e=>by rw [e]; rfl,λ e=>UInt8.toNat_inj.1 (by simpa using e)⟩
  have c1:decide ((pre.length:Int) < (l.length:Int))=true:=decide_eq_true (by omega)
  by_cases hA:pre.length=9∧b≠1
  ·rw [if_pos hA] at hr
   have c9:((pre.length:Int) == 9)=true:=by simp; omega
   have cb:((b.toNat:Int) != 1)=true:=by
    have h1:¬ b.toNat=1:=λ e=>hA.2 (h1z.2 e)
    simp only [bne_iff_ne,ne_eq]; omega
   simp only [q8u,q4b,qam,qgj,qcd,q4r,q9c,q1a,q3p,q3n,qc9,qc8,qc6,qby,q3q,hs,c1,c9,cb]
   simpa using hr
  rw [if_neg hA] at h0 hr
  have hlt:n + b.toNat % 128 * 128 ^ pre.length < 18446744073709551616:=by
   by_cases h9:pre.length=9
   ·have hb1:b.toNat=1:=h1z.1 (Decidable.not_not.1 λ e=>hA ⟨h9,e⟩)
    rw [h9] at hn
    rw [h9,hb1]
    omega
   ·have hpow:128 ^ pre.length≤128 ^ 8:=Nat.pow_le_pow_right (by omega) (by omega)
    omega
  have hgo:(bif ((pre.length:Int) == 9) then ((b.toNat:Int) != 1) else false)=false:=by
   cases c9:((pre.length:Int) == 9) with
   | false=>rfl
   | true=>
    have h9:pre.length=9:=by simp at c9; omega
    have hb1:b.toNat=1:=h1z.1 (Decidable.not_not.1 λ e=>hA ⟨h9,e⟩)
    simp [hb1]
  have key:q8u prog w0 (q65 prog w0 k0 kr (post.length + 1)) k0 kr (.string (str l)) (.int .u64 (n:Int)) (.int .i64 0) (.int .i64 0) (.int .i64 (l.length:Int)) (.int .i64 (pre.length:Int)) h↔
    (qt (.bool (decide ((b.toNat:Int) < 128))) (
     qe (.bool ((b.toNat:Int) == 0)) true (qb (qd .gtr (.int .i64 (pre.length:Int)) (.int .i64 0))) λ v35_16=>
     q0a (.bool ((b.toNat:Int) == 0)) v35_16 (.bool false) λ v36_17=>
     qt v36_17 (kr (.int .u64 0) (.int .i64 0) (.int .i64 21)) (
     kr (.int .u64 ((n + b.toNat % 128 * 128 ^ pre.length:Nat):Int)) (.int .i64 ((pre.length + 1:Nat):Int)) (.int .i64 0))) (
     q65 prog w0 k0 kr (post.length + 1) (.string (str l)) (.int .u64 ((n + b.toNat % 128 * 128 ^ pre.length:Nat):Int)) (.int .i64 0) (.int .i64 0) (.int .i64 (l.length:Int)) (.int .i64 ((pre.length + 1:Nat):Int)))) h:=by
   have hf:=e3 (by omega)
   have hg4:=e4 hlt
   cases c9:((pre.length:Int) == 9) with
   | false=>
    cases c128:decide ((b.toNat:Int) < 128) <;> cases c0:((b.toNat:Int) == 0) <;> cases cp:decide ((0:Int) < (pre.length:Int)) <;>
     simp only [q8u,q4b,qam,qgj,qcd,q4r,q9c,q1a,q3p,q3n,qc9,qc8,qc6,qby,q3q,hs,c1,c9,c128,c0,cp,qzw,e1,e2,hf,hg4,e5]
   | true=>
    rw [c9] at hgo
    have cb:((b.toNat:Int) != 1)=false:=hgo
    cases c128:decide ((b.toNat:Int) < 128) <;> cases c0:((b.toNat:Int) == 0) <;> cases cp:decide ((0:Int) < (pre.length:Int)) <;>
     simp only [q8u,q4b,qam,qgj,qcd,q4r,q9c,q1a,q3p,q3n,qc9,qc8,qc6,qby,q3q,hs,c1,c9,cb,c128,c0,cp,qzw,e1,e2,hf,hg4,e5]
  rw [key]
  by_cases h128:b.toNat < 128
  ·rw [if_pos h128] at h0 hr
   have c128:decide ((b.toNat:Int) < 128)=true:=decide_eq_true (by omega)
   simp only [c128,q3p]
   by_cases hb0:b.toNat=0
   ·have c0:((b.toNat:Int) == 0)=true:=by simp only [beq_iff_eq]; omega
    simp only [c0,qc9,q9c,q1a,qc6]
    by_cases hp0:0 < pre.length
    ·rw [if_pos ⟨hz.2 hb0,hp0⟩] at hr
     have cp:decide ((0:Int) < (pre.length:Int))=true:=decide_eq_true (by omega)
     simp only [cp,q3p]
     simpa using hr
    ·rw [if_neg (λ e=>hp0 e.2)] at hr
     have cp:decide ((0:Int) < (pre.length:Int))=false:=decide_eq_false (by omega)
     simp only [cp,q3n]
     exact hr (by simp)
   ·have c0:((b.toNat:Int) == 0)=false:=by simp only [beq_eq_false_iff_ne,ne_eq]; omega
    rw [if_neg (λ e=>hb0 (hz.1 e.1))] at hr
    simp only [c0,qc8,qby,q3n]
    exact hr (by simp)
  ·rw [if_neg h128] at h0 hr
   have c128:decide ((b.toNat:Int) < 128)=false:=decide_eq_false (by omega)
   simp only [c128,q3n]
   have h9:pre.length≠9:=λ e=>by
    have hb1:b.toNat=1:=h1z.1 (Decidable.not_not.1 λ e'=>hA ⟨e,e'⟩)
    omega
   have:=ih (pre++[b]) (n + b.toNat % 128 * 128 ^ pre.length) (by simpa using he) (by simp; omega) (by rw [List.length_append,List.length_singleton,Nat.pow_succ]; omega) (by simpa using h0) (by simpa using hr)
   simpa using this
theorem q0gj {w0:World} {h:Hp} (l:List UInt8) (hl:l.length≤140737488355328):
  qf prog w0 qkb [.string (str l)] h λ v h'=>v=.tuple #[.int .u64 ((shp l 0 0).1:Nat),.int .i64 ((shp l 0 0).2.1:Nat),.int .i64 (shp l 0 0).2.2]∧h'=h:=by
 refine qf.of_fit (by simp) λ f=>q0d6 (by simp) ?_
 simp only [qkg,q5f,q1a,q1v]
 refine ⟨l.length + 1,?_⟩
 have:=q0hc (w0:=w0) (k0:=λ y2 y3 y4=>qo [(.int .u64 0),(.int .i64 0),(.int .i64 20)] λ v h'=>v=.tuple #[.int .u64 ((shp l 0 0).1:Nat),.int .i64 ((shp l 0 0).2.1:Nat),.int .i64 (shp l 0 0).2.2]∧h'=h)
  (kr:=λ y2 y3 y4=>qo [y2,y3,y4] λ v h'=>v=.tuple #[.int .u64 ((shp l 0 0).1:Nat),.int .i64 ((shp l 0 0).2.1:Nat),.int .i64 (shp l 0 0).2.2]∧h'=h) (h:=h) (l:=l) hl l [] 0 (by simp) (by simp) (by simp)
  (λ a b c e=>by simp at e; simp [e]) (λ e=>by simp)
 simpa using this
theorem qxt:∀ (l:List UInt8) (i n:Nat),i≤9→n < 128 ^ i→(shp l i n).1 < 18446744073709551616∧(shp l i n).2.1≤i + l.length∧0≤(shp l i n).2.2∧(shp l i n).2.2 < 1000:=by
 intro l
 induction l with
 | nil=>intro i n hi hn; simp [shp]
 | cons c l ih=>
  intro i n hi hn
  have hc:=UInt8.toNat_lt c
  have hm:c.toNat % 128 * 128 ^ i≤127 * 128 ^ i:=Nat.mul_le_mul_right _ (by omega)
  rw [qgm]
  split
  ·simp
  rename_i hA
  have h1z:(c=1)↔c.toNat=1:=⟨λ e=>by rw [e]; rfl,λ e=>UInt8.toNat_inj.1 (by simpa using e)⟩
  have hlt:n + c.toNat % 128 * 128 ^ i < 18446744073709551616:=by
   by_cases h9:i=9
   ·have hb1:c.toNat=1:=h1z.1 (Decidable.not_not.1 λ e=>hA ⟨h9,e⟩)
    rw [h9] at hn
    rw [h9,hb1]
    omega
   ·have hpow:128 ^ i≤128 ^ 8:=Nat.pow_le_pow_right (by omega) (by omega)
    omega
  split
  ·split
   ·simp
   ·simp; exact hlt
  ·have h9:i≠9:=λ e=>by
    have hb1:c.toNat=1:=h1z.1 (Decidable.not_not.1 λ e'=>hA ⟨e,e'⟩)
    omega
   have:=ih (i + 1) (n + c.toNat % 128 * 128 ^ i) (by omega) (by rw [Nat.pow_succ]; omega)
   simp
   omega
theorem qkl {w0:World} {h:Hp} {r:Nat} {st:RS} (w:Rd w0 h r st):
  qf prog w0 qbg [ptr r] h λ v h'=>v=.int .u64 (st.varint.1:Nat)∧Rd w0 h' r st.varint.2∧Step h h' [r] [r]:=by
 refine qf.of_fit (by simp [ptr]) λ f=>q06n (by simp [ptr]) ?_
 simp [qqd,ptr,w.1,Nat.not_lt.2 w.2.1,w.2.1]
 have hb:=qxt st.s 0 0 (by omega) (by simp)
 refine ⟨λ h0=>?_,λ h0=>?_⟩
 ·simpa [RS.varint,h0] using ⟨w,w.refl⟩
 ·refine qq (q0gj st.s w.2.2.2.1) λ v h1 ⟨e,e1⟩ f1=>?_
  subst e e1
  simp [w.1,Nat.not_lt.2 w.2.1,w.2.1]
  refine ⟨λ h2=>?_,λ h2=>?_⟩
  ·refine qq (qfz w _ hb.2.2) λ v h' ⟨e,w',s⟩ _=>?_
   simpa [RS.varint,h0,h2] using ⟨by simpa [RS.fault,h0] using w',s⟩
  ·rw [q93 _ _ _ (by omega)]
   have:=w.put ⟨st.s.drop (shp st.s 0 0).2.1,0⟩ (by have:=w.2.2.2.1; simp; omega) (by simp)
   simpa [RS.varint,h0,h2,w.1,w.2.1] using this
theorem q0hx {w0:World} {h:Hp} {r:Nat} {st:RS} (w:Rd w0 h r st):
  qf prog w0 qjc [ptr r] h λ v h'=>v=.string (str st.text.1)∧Rd w0 h' r st.text.2∧Step h h' [r] [r]:=by
 refine qf.of_fit (by simp [ptr]) λ f=>q07w (by simp [ptr]) ?_
 refine qq (qkl w) λ v h1 ⟨e,w1,s1⟩ f1=>?_
 subst e
 have hlen:IntKind.u64.wrap (st.varint.2.s.length:Int)=(st.varint.2.s.length:Int):=IntWalk.u64_in _ (by have:=w1.2.2.2.1; omega)
 simp [ptr,w1.1,Nat.not_lt.2 w1.2.1,w1.2.1,hlen]
 refine ⟨λ h0=>?_,λ h0=>⟨λ h2=>?_,λ h2=>?_⟩⟩
 ·simpa [RS.text,h0,qap] using ⟨w1,s1⟩
 ·refine qq (qfz w1 20 (by omega)) λ v h' ⟨e,w',s⟩ _=>?_
  subst e
  simpa [RS.text,h0,h2,qap] using ⟨by simpa [RS.fault,h0] using w',s1.trans s⟩
 ·have hw:IntKind.i64.wrap (st.varint.1:Int)=(st.varint.1:Int):=IntWalk.i64_in _ (by have:=w1.2.2.2.1; omega)
  rw [hw]
  refine qq (qg9 w1 st.varint.1 (by have:=w1.2.2.2.1; omega)) λ v h' ⟨e,w',s⟩ _=>?_
  subst e
  have hn:¬ st.varint.2.s.length < st.varint.1:=by omega
  simpa [RS.text,h0,hn] using ⟨w',s1.trans s⟩
def q4j (c:Nat):Nat:=(c / 2) ^^^ (if c % 2=1 then 2197175160 else 0)
def q9u:Nat→Nat→Nat
 | 0,c=>c
 | k + 1,c=>q9u k (q4j c)
def q5u (c:Nat) (l:List UInt8):Nat:=l.foldl (λ c b=>q9u 8 (c ^^^ b.toNat)) c
def q14 (l:List UInt8):Nat:=q5u 4294967295 l ^^^ 4294967295
theorem qar {c:Nat} (h:c < 4294967296):q4j c < 4294967296:=by
 unfold q4j
 exact Nat.xor_lt_two_pow (n:=32) (by omega) (by split <;> omega)
theorem qmk:∀ (k c:Nat),c < 4294967296→q9u k c < 4294967296:=by
 intro k
 induction k with
 | zero=>intro c h; exact h
 | succ k ih=>intro c h; exact ih _ (qar h)
theorem q9j {c:Nat} (b:UInt8) (h:c < 4294967296):c ^^^ b.toNat < 4294967296:=Nat.xor_lt_two_pow (n:=32) h (by have:=UInt8.toNat_lt b; omega)
theorem qml (l:List UInt8):∀ c,c < 4294967296→q5u c l < 4294967296:=by
 induction l with
 | nil=>intro c h; exact h
 | cons b l ih=>intro c h; exact ih _ (qmk 8 _ (q9j b h))
theorem q78 (l:List UInt8):q14 l < 4294967296:=Nat.xor_lt_two_pow (n:=32) (qml l _ (by omega)) (by omega)
theorem q0jg {w0:World} {k2:Value→Value→Value→Value→Hp→Prop} {x0 x6 x7:Value} {h:Hp}:∀ (k i c:Nat),i + k=8→c < 4294967296→k2 x0 (.int .u32 (q9u k c:Nat)) x6 x7 h→
  q91 prog w0 k2 (k + 1) x0 (.int .u32 (c:Int)) x6 x7 (.int .i64 (i:Int)) h:=by
 intro k
 induction k with
 | zero=>
  intro i c hi hc hk
  have c8:decide ((i:Int) < 8)=false:=decide_eq_false (by omega)
  rw [q91]
  simp only [qfj,q4b,q1a,c8,q3n]
  exact hk
 | succ k ih=>
  intro i c hi hc hk
  have c8:decide ((i:Int) < 8)=true:=decide_eq_true (by omega)
  have e1:qd .shr (.int .u32 (c:Int)) (.int .u64 1)=some (.int .u32 ((c / 2:Nat):Int)):=by rw [qge _ _ _ _ (by omega)]; simp [IntKind.bits]
  have e2:qd .and (.int .u32 (c:Int)) (.int .u32 1)=some (.int .u32 ((c % 2:Nat):Int)):=by
   have:=qm1 .u32 c 1
   rw [show (1:Int)=((1:Nat):Int) from rfl,this,Nat.and_one_is_mod,Nat.mod_eq_of_lt (by simp only [IntKind.bits]; omega),q41 rfl (by simp only [IntKind.bits]; omega)]
  have e3:unA .neg (.int .u32 ((c % 2:Nat):Int))=some (.int .u32 ((if c % 2=1 then 4294967295 else 0:Nat):Int)):=by
   rw [q0lx,IntKind.wrap_u32]
   split
   ·rename_i e; rw [e]; rfl
   ·rename_i e; rw [show c % 2=0 by omega]; rfl
  have e4:qd .and (.int .u32 2197175160) (.int .u32 ((if c % 2=1 then 4294967295 else 0:Nat):Int))=some (.int .u32 ((if c % 2=1 then 2197175160 else 0:Nat):Int)):=by
   have:=qm1 .u32 2197175160 (if c % 2=1 then 4294967295 else 0)
   rw [show (2197175160:Int)=((2197175160:Nat):Int) from rfl,this]
   split <;> rfl
  have e5:qd .xor (.int .u32 ((c / 2:Nat):Int)) (.int .u32 ((if c % 2=1 then 2197175160 else 0:Nat):Int))=some (.int .u32 (q4j c:Nat)):=by
   have hl:=qar hc
   rw [qan]
   show some (Value.int IntKind.u32 (IntKind.u32.wrap ((q4j c % 2 ^ IntKind.u32.bits:Nat):Int)))=_
   rw [Nat.mod_eq_of_lt (by simp only [IntKind.bits]; omega),q41 rfl (by simp only [IntKind.bits]; omega)]
  have e6:=wrN i (by omega)
  rw [q91]
  simp only [qfj,q4b,q1a,c8,q3p,e1,e2,e3,e4,e5,q4r,e6]
  exact ih (i + 1) (q4j c) (by omega) (qar hc) hk
theorem q0j9 {w0:World} {k0:Value→Hp→Prop} {h:Hp} {l:List UInt8} (hl:l.length≤140737488355328):∀ (post pre:List UInt8) (c:Nat),pre++post=l→c < 4294967296→k0 (.int .u32 (q5u c post:Nat)) h→
  q92 prog w0 k0 (post.length + 1) (.string (str l)) (.int .u32 (c:Int)) (.int .i64 (l.length:Int)) (.int .i64 (pre.length:Int)) h:=by
 intro post
 induction post with
 | nil=>
  intro pre c he hc hk
  have:pre=l:=by simpa using he
  subst this
  have c8:decide ((pre.length:Int) < (pre.length:Int))=false:=decide_eq_false (by omega)
  simp only [List.length_nil,q92,qbv,q4b,q1a,c8,q3n]
  exact hk
 | cons b post ih=>
  intro pre c he hc hk
  have hlen:pre.length + (post.length + 1)=l.length:=by rw [← he]; simp
  have hg:l[pre.length]?=some b:=by rw [← he]; simp
  have hb:=UInt8.toNat_lt b
  have c1:decide ((pre.length:Int) < (l.length:Int))=true:=decide_eq_true (by omega)
  have hs:q3t (.string (str l)) (.int .i64 (pre.length:Int))=some (.int .u8 (b.toNat:Int)):=by rw [qbx,hg]; rfl
  have e1:IntKind.u32.wrap (b.toNat:Int)=(b.toNat:Int):=IntWalk.u32_in _ (by omega)
  have e2:qd .xor (.int .u32 (c:Int)) (.int .u32 (b.toNat:Int))=some (.int .u32 ((c ^^^ b.toNat:Nat):Int)):=by
   have:=q9j b hc
   rw [qan,Nat.mod_eq_of_lt (by simp only [IntKind.bits]; omega),q41 rfl (by simp only [IntKind.bits]; omega)]
  have e6:IntKind.i64.wrap ((pre.length:Int) + 1)=((pre.length + 1:Nat):Int):=by rw [IntWalk.i64_in _ (by omega)]; simp
  rw [List.length_cons,q92]
  simp only [qbv,q4b,q1a,c1,q3p,hs,q3q,e1,e2]
  refine ⟨9,q0jg 8 0 _ rfl (q9j b hc) ?_⟩
  simp only [q4r,q1a,e6]
  have:=ih (pre++[b]) (q9u 8 (c ^^^ b.toNat)) (by simpa using he) (qmk _ _ (q9j b hc)) hk
  simpa using this
theorem qgf {w0:World} {h:Hp} (l:List UInt8) (hl:l.length≤140737488355328):
  qf prog w0 qac [.string (str l)] h λ v h'=>v=.int .u32 (q14 l:Nat)∧h'=h:=by
 refine qf.of_fit (by simp) λ f=>q0fg (by simp) ?_
 simp only [ql5,q5f,q1a,q1v]
 refine ⟨l.length + 1,q0j9 hl l [] 4294967295 rfl (by omega) ?_⟩
 have e:unA .xor (.int .u32 (q5u 4294967295 l:Nat))=some (.int .u32 (q14 l:Nat)):=by
  have h1:=qml l 4294967295 (by omega)
  have h2:=q78 l
  have:=qan .u32 4294967295 (q5u 4294967295 l)
  rw [Nat.xor_comm,show q5u 4294967295 l ^^^ 4294967295=q14 l from rfl,Nat.mod_eq_of_lt (by simp only [IntKind.bits]; omega),q41 rfl (by simp only [IntKind.bits]; omega)] at this
  rw [← this]
  rfl
 simp only [e,q1a,qu,q06]
 simp
@[simp] theorem q0q9 (p:Nat):¬ (ptr p=junk):=by simp [ptr]
theorem q0oh {k:IntKind} {c:Nat} (hk:k.signed=false) (hc:c < 2 ^ k.bits):qd .quo (.int k (c:Int)) (.int k 2)=some (.int k ((c / 2:Nat):Int)):=by
 rw [qmf _ _ _ (by omega)]
 have:((c:Int).tdiv 2)=((c / 2:Nat):Int):=by
  rw [Int.tdiv_eq_ediv_of_nonneg (by omega)]; simp
 rw [this,q41 hk (by omega)]
theorem q00o {k:IntKind} {c:Nat}:qd .rem (.int k (c:Int)) (.int k 2)=some (.int k ((c % 2:Nat):Int)):=by
 rw [qye _ _ _ (by omega)]
 have:((c:Int).tmod 2)=((c % 2:Nat):Int):=by
  rw [Int.tmod_eq_emod_of_nonneg (by omega)]; simp
 rw [this]
theorem q0h5 {w0:World} {k2:Value→Value→Value→Hp→Prop} {x0 x4:Value} {h:Hp}:∀ (k i c:Nat),i + k=8→c < 4294967296→k2 x0 (.int .u32 (q9u k c:Nat)) x4 h→
  q8p prog w0 k2 (k + 1) x0 (.int .u32 (c:Int)) x4 (.int .i64 (i:Int)) h:=by
 intro k
 induction k with
 | zero=>
  intro i c hi hc hk
  have c8:decide ((i:Int) < 8)=false:=decide_eq_false (by omega)
  rw [q8p]
  simp only [qbq,q4b,q1a,c8,q3n]
  exact hk
 | succ k ih=>
  intro i c hi hc hk
  have c8:decide ((i:Int) < 8)=true:=decide_eq_true (by omega)
  have e6:=wrN i (by omega)
  have hq:=q0oh (k:=.u32) (c:=c) rfl hc
  have hl:=qar hc
  rw [q8p]
  by_cases h2:c % 2=1
  ·have c2:(((c % 2:Nat):Int) == 1)=true:=by simp only [beq_iff_eq]; omega
   have e5:qd .xor (.int .u32 ((c / 2:Nat):Int)) (.int .u32 2197175160)=some (.int .u32 (q4j c:Nat)):=by
    have:=qan .u32 (c / 2) 2197175160
    have h7:c / 2 ^^^ 2197175160=q4j c:=by unfold q4j; rw [if_pos h2]
    rw [show (2197175160:Int)=((2197175160:Nat):Int) from rfl,this,h7,Nat.mod_eq_of_lt (by simp only [IntKind.bits]; omega),q41 rfl (by simp only [IntKind.bits]; omega)]
   simp only [qbq,q4b,q1a,c8,q3p,q00o,qam,c2,hq,e5,q4r,e6]
   exact ih (i + 1) (q4j c) (by omega) (qar hc) hk
  ·have c2:(((c % 2:Nat):Int) == 1)=false:=by simp only [beq_eq_false_iff_ne,ne_eq]; omega
   have h7:c / 2=q4j c:=by unfold q4j; rw [if_neg h2,Nat.xor_zero]
   simp only [qbq,q4b,q1a,c8,q3p,q3n,q00o,qam,c2,hq,q4r,e6]
   rw [h7]
   exact ih (i + 1) (q4j c) (by omega) (qar hc) hk
theorem q0hp {w0:World} {k0:Value→Hp→Prop} {h:Hp} {l:List UInt8} (hl:l.length≤140737488355328):∀ (post pre:List UInt8) (c:Nat),pre++post=l→c < 4294967296→k0 (.int .u32 (q5u c post:Nat)) h→
  q8o prog w0 k0 (post.length + 1) (.string (str l)) (.int .u32 (c:Int)) (.int .i64 (pre.length:Int)) h:=by
 intro post
 induction post with
 | nil=>
  intro pre c he hc hk
  have:pre=l:=by simpa using he
  subst this
  have c8:decide ((pre.length:Int) < (pre.length:Int))=false:=decide_eq_false (by omega)
  simp only [List.length_nil,q8o,qbp,q5f,q1v,q4b,q1a,c8,q3n]
  exact hk
 | cons b post ih=>
  intro pre c he hc hk
  have hlen:pre.length + (post.length + 1)=l.length:=by rw [← he]; simp
  have hg:l[pre.length]?=some b:=by rw [← he]; simp
  have hb:=UInt8.toNat_lt b
  have c1:decide ((pre.length:Int) < (l.length:Int))=true:=decide_eq_true (by omega)
  have hs:q3t (.string (str l)) (.int .i64 (pre.length:Int))=some (.int .u8 (b.toNat:Int)):=by rw [qbx,hg]; rfl
  have e1:IntKind.u32.wrap (b.toNat:Int)=(b.toNat:Int):=IntWalk.u32_in _ (by omega)
  have e2:qd .xor (.int .u32 (c:Int)) (.int .u32 (b.toNat:Int))=some (.int .u32 ((c ^^^ b.toNat:Nat):Int)):=by
   have:=q9j b hc
   rw [qan,Nat.mod_eq_of_lt (by simp only [IntKind.bits]; omega),q41 rfl (by simp only [IntKind.bits]; omega)]
  have e6:IntKind.i64.wrap ((pre.length:Int) + 1)=((pre.length + 1:Nat):Int):=by rw [IntWalk.i64_in _ (by omega)]; simp
  rw [List.length_cons,q8o]
  simp only [qbp,q5f,q1v,q4b,q1a,c1,q3p,hs,q3q,e1,e2]
  refine ⟨9,q0h5 8 0 _ rfl (q9j b hc) ?_⟩
  simp only [q4r,q1a,e6]
  have:=ih (pre++[b]) (q9u 8 (c ^^^ b.toNat)) (by simpa using he) (qmk _ _ (q9j b hc)) hk
  simpa using this
theorem qg4 {w0:World} {h:Hp} (l:List UInt8) (hl:l.length≤140737488355328):
  qf prog w0 q6z [.string (str l)] h λ v h'=>v=.int .u32 (q14 l:Nat)∧h'=h:=by
 refine qf.of_fit (by simp) λ f=>q0ak (by simp) ?_
 refine ⟨l.length + 1,q0hp hl l [] 4294967295 rfl (by omega) ?_⟩
 have e:qd .xor (.int .u32 (q5u 4294967295 l:Nat)) (.int .u32 4294967295)=some (.int .u32 (q14 l:Nat)):=by
  have h1:=qml l 4294967295 (by omega)
  have h2:=q78 l
  have:=qan .u32 (q5u 4294967295 l) 4294967295
  rw [show (4294967295:Int)=((4294967295:Nat):Int) from rfl,this,show q5u 4294967295 l ^^^ 4294967295=q14 l from rfl,Nat.mod_eq_of_lt (by simp only [IntKind.bits]; omega),q41 rfl (by simp only [IntKind.bits]; omega)]
 simp only [e,q1a,qu,q06]
 simp
theorem q00c {s:List UInt8} {k:Nat} (h:k≤s.length):(⟨s,0⟩:RS).raw k=(s.take k,⟨s.drop k,0⟩):=by
 simp [RS.raw,show ¬ (k:Int) < 0 by omega,show ¬ s.length < k by omega]
theorem qzb (b:UInt8):rdn [b]=b.toNat:=by simp [rdn]
def uv (n:Nat):Value:=.int .u64 (n:Int)
def uvs (l:List Nat):List Value:=l.map uv
@[simp] theorem q0p6 (l:List Nat):(uvs l).length=l.length:=by simp [uvs]
@[simp] theorem q0pc (l m:List Nat):uvs (l++m)=uvs l++uvs m:=by simp [uvs]
def nums:Nat→List UInt8→List Nat
 | 0,_=>[]
 | k + 1,l=>rdn (l.take 8) :: nums k (l.drop 8)
@[simp] theorem nums_length (k:Nat) (l:List UInt8):(nums k l).length=k:=by
 induction k generalizing l with
 | zero=>rfl
 | succ k ih=>simp [nums,ih]
def rdk:Nat→RS→List Nat × RS
 | 0,st=>([],st)
 | k + 1,st=>(rdn (st.raw 8).1 :: (rdk k (st.raw 8).2).1,(rdk k (st.raw 8).2).2)
@[simp] theorem q0pi (k:Nat) (st:RS):(rdk k st).1.length=k:=by
 induction k generalizing st with
 | zero=>rfl
 | succ k ih=>simp [rdk,ih]
end Go.Proofs.YtfmoemconapmhaaGreat.Ah
