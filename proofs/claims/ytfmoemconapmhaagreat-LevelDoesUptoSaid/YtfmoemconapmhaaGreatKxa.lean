/- codec.Writer: what each call does. -/
import Derived.Test.YtfmoemconapmhaaGreatGcodec
import Derived.Test.YtfmoemconapmhaaGreatGref02
import Derived.Test.YtfmoemconapmhaaGreatAh20
set_option linter.all false
namespace Go.Proofs.YtfmoemconapmhaaGreat.Ah
open Go
structure WS where
 most:Int
 bs:List UInt8
 over:Bool
def WS.put(s:WS)(l:List UInt8):WS:=if s.over then s else if s.most-s.bs.length<l.length then { s with over:=true } else { s with bs:=s.bs++l }
def Wr(w0:World)(h:Hp)(p:Nat)(st:WS)(S:List Nat):Prop:=
 ∃x T,h.blk p=some [.int .i64 st.most,x,.bool st.over]∧w0.heap.size≤p∧p<h.next∧Vec w0 h 1 x st.bs.length (bvs st.bs) T∧p∉T∧S=p::T∧0≤st.most∧st.most≤9223372036854775807
theorem Wr.lt{w0:World}{h:Hp}{p:Nat}{st:WS}{S:List Nat}(w:Wr w0 h p st S):∀b,b∈S→w0.heap.size≤b∧b<h.next:=by
 obtain ⟨x,T,a,b,c,d,e,rfl,_⟩:=w
 intro i hi
 rcases bB.1 hi with rfl|hi
 ·exact ⟨b,c⟩
 ·exact d.lt i hi
theorem Wr.frame{w0:World}{h h':Hp}{p:Nat}{st:WS}{S T T':List Nat}(w:Wr w0 h p st S)(s:Step h h' T T')(hd:∀b,b∈S→b∉T):Wr w0 h' p st S:=by
 obtain ⟨x,U,a,b,c,d,e,rfl,f⟩:=w
 exact ⟨x,U,by rw[(s.2 p c (hd p (by simp))).1];exact a,b,by have:=s.1;omega,d.frame s (λi hi=>hd i (by simp[hi])),e,rfl,f⟩
theorem tX{w0:World}{h:Hp}(most:Int)(hm:-9223372036854775808≤most∧most≤9223372036854775807):
  aj prog w0 qG [.int .i64 most] h λv h'=>v=ptr h.next∧Wr w0 h' h.next ⟨max most 0,[],false⟩ [h.next]∧Step h h' [] [h.next]:=by
 refine aj.of_fit (by simp) λf=>NU (by simp) ?_
 simp[JC]
 refine ⟨rfl,⟨_,[],by simp,f.base,by simp,.nil,by simp,rfl,by simp;omega,by simp;omega⟩,by simp,λb hb _=>?_,λb hb=>?_,rfl⟩
 ·have:b≠h.next:=by omega
  simp[this]
 ·simp at hb;subst hb;simp
theorem tu{w0:World}{h:Hp}{p:Nat}{st:WS}{S:List Nat}{ay:Option Addr}{cy:Nat}{l:List UInt8}(w:Wr w0 h p st S)(hs:Src w0.heap.size h 1 (.slice ay l.length cy) l.length (bvs l))
  (hsz:st.bs.length+l.length≤140737488355328):
  aj prog w0 mU [ptr p,.slice ay l.length cy] h λv h'=>∃S',Wr w0 h' p (st.put l) S'∧Step h h' S S':=by
 refine aj.of_fit (by simp[ptr]) λf=>On (by simp[ptr]) ?_
 have w2:=w
 obtain ⟨x,T,hb0,hp,hp2,hv,hpT,rfl,hm⟩:=w
 obtain ⟨ax,cx,hx⟩:=hv.slice
 simp[JM,ptr,hb0,hx,iQ.2 hp]
 refine ⟨λho=>⟨_,by simpa[WS.put,ho]using w2,Step.refl _ _ λb hb=>(w2.lt b hb).2⟩,λho=>?_⟩
 rw[bM _ (by omega),←hx]
 refine ⟨λhlt=>⟨hp,?_⟩,λhge=>?_⟩
 ·exact ⟨p::T,⟨x,T,by simp[WS.put,ho,hlt],hp,by simpa using hp2,by simpa[WS.put,ho,hlt]using hv.put hpT _,hpT,rfl,by simpa[WS.put,ho,hlt]using hm⟩,(Step.refl _ _ λb hb=>(w2.lt b hb).2).put (by simp) _⟩
 ·have hst:st.put l={ st with bs:=st.bs++l }:=by simp[WS.put,ho];omega
  refine gB f.base hv (by simp) hs (by simp) (by omega) (by omega) (by omega) (λx' h' T' hv' s'=>?_)
  have hpT':p∉T':=λe=>by rcases (s'.3 p e).2 with q|q;exact hpT q;omega
  have hpb:h'.blk p=h.blk p:=(s'.2 p hp2 hpT).1
  obtain ⟨ax',cx',hx'⟩:=hv'.slice
  simp[hpb,hb0,iQ.2 hp,hp,hx',hst]
  rw[←hx']
  have s2:=s'.1
  refine ⟨p::T',⟨x',T',by simp,hp,by simp;omega,by simpa using hv'.put hpT' _,hpT',rfl,hm⟩,?_⟩
  have s3:Step h h' (p::T) (p::T'):=s'.wide (λb hb=>by simp[hb]) (λb hb=>by rcases bB.1 hb with rfl|hb;exact .inr ⟨by simp,hp2⟩;exact .inl hb)
  exact s3.put (by simp) _
def be:Nat→Nat→List UInt8
 |0,_=>[]
 |s+1,n=>UInt8.ofNat (n/256^s)::be s n
@[simp] theorem kz(s n:Nat):(be s n).length=s:=by induction s with|zero=>rfl|succ s ih=>simp[be,ih]
theorem iK(n:Nat):bv (UInt8.ofNat n)=.int .u8 ((n%256:Nat):Int):=by simp[bv]
theorem YK{w0:World}{kk:IntKind}(hkk:4≤kk.bits){p q n0 s:Nat}{K:Value→Value→Hp→Prop}(hq:w0.heap.size≤q)(hs:s≤8):∀(k i:Nat) (h:Hp),i+k=s→q<h.next→
  h.blk q=some (List.replicate k (.int .u8 0)++bvs (be i n0))→(∀h',h'.blk q=some (bvs (be s n0))→Step h h' [q] [q]→K (ptr p) (.slice (some ⟨q,0,none⟩) s s) h')→
  nL prog w0 K (k+1) (ptr p) (.int kk ((n0/256^i:Nat):Int)) (.int .i64 (s:Int)) (.slice (some ⟨q,0,none⟩) s s) (.int .i64 (s:Int)) (.int .i64 (i:Int)) h:=by
 intro k
 induction k with
 |zero=>
  intro i h hi hql hb hk
  have:i=s:=by omega
  subst this
  simp[nL,uo]
  exact hk h (by simpa using hb) (.refl _ _ (by simpa using hql))
 |succ k ih=>
  intro i h hi hql hb hk
  rw[nL]
  simp[uo]
  have e1:IntKind.i64.wrap (IntKind.i64.wrap ((s:Int)-1)-(i:Int))=(k:Int):=by rw[bM ((s:Int)-1) (by omega),bM _ (by omega)];omega
  have e2:IntKind.i64.wrap ((i:Int)+1)=((i+1:Nat):Int):=by rw[bM _ (by omega)];simp
  have e3:(n0:Int)/256^i/2^min 4 kk.bits/2^min 4 kk.bits=((n0/256^(i+1):Nat):Int):=by
   rw[jL,←Nat.div_div_eq_div_mul]
   rw[kx hkk]
   simp
   omega
  have e4:IntKind.u8.wrap ((n0:Int)/256^i)=((n0/256^i%256:Nat):Int):=by rw[rd];simp
  rw[e1,e2,e3,e4]
  refine ⟨λ_=>⟨by omega,by omega,hq,_,hb,by simp;omega,?_⟩,λhle=>by omega⟩
  refine ih (i+1) _ (by omega) (by simpa using hql) ?_ (λh' hb' st=>hk h' hb' ?_)
  ·simp only[cX,if_true,fN,be,rG,iK]
   rw[List.set_append_left _ _ (by simp),List.replicate_succ',xZ _ _ (by simp)]
   simp
  ·exact ((Step.refl h [q] (by simpa using hql)).put (by simp) _).trans st
theorem ac8{w0:World}{h:Hp}{kk:IntKind}(hkk:4≤kk.bits){p:Nat}{st:WS}{S:List Nat}(n s:Nat)(hs:s≤8)(f:Fit w0 h)(w:Wr w0 h p st S)(hsz:st.bs.length+s≤140737488355328):
  xi prog w0 (ptr p) (.int kk n) (.int .i64 s) (λv h'=>∃S',Wr w0 h' p (st.put (be s n)) S'∧Step h h' S S') h:=by
 simp only[xi,Aa,vA,bR,yE]
 refine ⟨bF _,by omega,by omega,s+1,?_⟩
 have:=YK (w0:=w0) hkk (p:=p) (q:=h.next) (n0:=n) (s:=s) (K:=λy0 y6=>am prog w0 mU [y0,y6] λ_=>ar [] λv h'=>∃S',Wr w0 h' p (st.put (be s n)) S'∧Step h h' S S') f.base hs s 0 (h.new (aL [Value.int IntKind.u8 0] s) 1) (by omega) (by simp) (by simp[Ml,be]) ?_
 ·simpa using this
 ·intro h1 hb1 st1
  have s1:Step h h1 S (h.next::S):=(((Step.refl h S λb hb=>(w.lt b hb).2).new (aL [Value.int IntKind.u8 0] s) 1).trans (st1.wide (T:=h.next::S) (T':=h.next::S) (by simp) (λb hb=>by
   rcases bB.1 hb with rfl|hb
   ·exact .inl (by simp)
   ·exact .inr ⟨by simp[hb],by have:=(w.lt b hb).2;simp;omega⟩)))
  have w1:Wr w0 h1 p st S:=by
   refine (w.frame (T:=[]) (T':=[h.next]) ?_ (by simp)).frame st1 ?_
   ·exact (Step.refl h [] (by simp)).new _ _
   ·intro b hb;have:=(w.lt b hb).2;simp;omega
  have hsrc:=kO (w0:=w0) (h:=h1) (q:=h.next) (c:=s) (n:=s) (s:=1) f.base hb1 (by simp)
  refine aA (tu (l:=be s n) (ay:=some ⟨h.next,0,none⟩) (cy:=s) w1 (by simpa using hsrc) (by simpa using hsz)) ?_ |> λr=>by simpa using r
  rintro v h2 ⟨S',w2,s2⟩ f2
  simp only[aC,qR]
  exact ⟨by simp,S',w2,(s1.less (T:=S) (λb hb=>by simp[hb])).trans s2⟩
theorem ac7{w0:World}{h:Hp}{p:Nat}{st:WS}{S:List Nat}(n:Nat)(hn:n<256)(f:Fit w0 h)(w:Wr w0 h p st S)(hsz:st.bs.length+1≤140737488355328):
  xj prog w0 (ptr p) (.int .u8 n) (.int .i64 (1:Nat)) (λv h'=>∃S',Wr w0 h' p (st.put (be 1 n)) S'∧Step h h' S S') h:=by
 simp only[xj,Aa,vA,bR,yG]
 refine ⟨bF _,by omega,by omega,2,?_⟩
 have hb:(.int .u8 (n:Int):Value)=bv (UInt8.ofNat n):=by rw[iK,fz hn]
 have hbl:f.base=f.base:=rfl
 simp[rM,yF,show IntKind.i64.wrap (IntKind.i64.wrap (1-1))=0 by decide,show IntKind.i64.wrap 0=0 by decide,show IntKind.i64.wrap 1=1 by decide,Ml]
 refine ⟨f.base,?_⟩
 have s1:Step h ((h.new [Value.int IntKind.u8 0] 1).put h.next [Value.int IntKind.u8 n]) S (h.next::S):=((Step.refl h S λb hb=>(w.lt b hb).2).new _ 1).put (by simp) _
 have w1:=(w.frame ((Step.refl h [] (by simp)).new [Value.int IntKind.u8 0] 1) (by simp)).frame (((Step.refl (h.new [Value.int IntKind.u8 0] 1) [h.next] (by simp)).put (p:=h.next) (by simp) [Value.int IntKind.u8 n])) (by intro b hb;have:=(w.lt b hb).2;simp;omega)
 have hsrc:=kO (w0:=w0) (h:=(h.new [Value.int IntKind.u8 0] 1).put h.next [Value.int IntKind.u8 n]) (q:=h.next) (c:=1) (n:=1) (s:=1) f.base (cs:=bvs (be 1 n)) (by simp[be,hb]) (by simp)
 have:=aA (tu (l:=be 1 n) (ay:=some ⟨h.next,0,none⟩) (cy:=1) w1 (by simpa using hsrc) (by simpa using hsz)) (K:=λ_=>ar [] (λv h'=>∃S',Wr w0 h' p (st.put (be 1 n)) S'∧Step h h' S S')) ?_
 ·simpa using this
 ·rintro v h2 ⟨S',w2,s2⟩ f2
  simp only[aC,qR]
  exact ⟨by simp,S',w2,(s1.less (T:=S) (λb hb=>by simp[hb])).trans s2⟩
theorem Dk{w0:World}{h:Hp}{p:Nat}{st:WS}{S:List Nat}(n:Nat)(hn:n<256)(w:Wr w0 h p st S)(hsz:st.bs.length+1≤140737488355328):
  aj prog w0 vP [ptr p,.int .u8 n] h λv h'=>∃S',Wr w0 h' p (st.put (be 1 n)) S'∧Step h h' S S':=by
 refine aj.of_fit (by simp[ptr]) λf=>Ol (by simp[ptr]) ?_
 refine aA (Oq (by simp[ptr]) (ac7 n hn f w hsz)) λv h' r _=>?_
 simpa using r
theorem rA{w0:World}{h:Hp}{p:Nat}{st:WS}{S:List Nat}(n:Nat)(w:Wr w0 h p st S)(hsz:st.bs.length+4≤140737488355328):
  aj prog w0 pv [ptr p,.int .u32 n] h λv h'=>∃S',Wr w0 h' p (st.put (be 4 n)) S'∧Step h h' S S':=by
 refine aj.of_fit (by simp[ptr]) λf=>Ok (by simp[ptr]) ?_
 refine aA (Oo (by simp[ptr]) (ac8 (by decide) n 4 (by omega) f w hsz)) λv h' r _=>?_
 simpa using r
def g7(n:Nat):UInt8:=UInt8.ofNat (n%128+128)
def vi(n:Nat):List UInt8:=if h:n<128 then [UInt8.ofNat n] else g7 n::vi (n/128)
theorem YS(n:Nat):ah .or (.int .u8 (IntKind.u8.wrap (n:Int))) (.int .u8 128)=some (bv (g7 n)):=by
 have e:IntKind.u8.wrap (n:Int)=((n%256:Nat):Int):=by rw[rd];simp
 have h2:∀x,x<256→x ||| 128=x%128+128:=by
  intro x hx
  have h5:=Db (i:=7) (b:=x%128) (by omega) 1
  simp at h5
  by_cases h6:x<128
  ·rw[fz h6]at h5 ⊢
   rw[Nat.or_comm,←h5];omega
  ·have e:x=128 ||| x%128:=by rw[←h5];omega
   rw[e,Nat.or_comm,←Nat.or_assoc,Nat.or_self,←h5];omega
 have h3:=h2 (n%256) (Nat.mod_lt _ (by omega))
 have:=yp .u8 (n%256) 128
 rw[e,show (128:Int)=((128:Nat):Int) from rfl,this,g7,iK,gR rfl (Nat.mod_lt _ (by decide)),h3]
 have h4:(n%256%128+128)%2^IntKind.u8.bits=(n%128+128)%256:=by simp[IntKind.bits]
 rw[h4]
theorem Mi(n:Nat):0<(vi n).length:=by unfold vi;split <;> simp
theorem xI:∀k n,n<128^(k+1)→(vi n).length≤k+1:=by
 intro k
 induction k with
 |zero=>intro n h;unfold vi;rw[dif_pos (by simpa using h)];simp
 |succ k ih=>
  intro n h
  unfold vi
  split
  ·simp
  ·have:=ih (n/128) (by rw[jL]at h;omega)
   simp;omega
theorem fU{n:Nat}(h:n<18446744073709551616):(vi n).length≤10:=xI 9 n (by omega)
theorem ad8{w0:World}{K:Value→Value→Hp→Prop}(n:Nat):∀(h:Hp) (x:Value) (pre:List UInt8) (S:List Nat),w0.heap.size≤h.next→Vec w0 h 1 x pre.length (bvs pre) S→pre.length+(vi n).length≤100→n<18446744073709551616→
  (∀(h':Hp) (x':Value) (m:Nat) (pre':List UInt8) (S':List Nat),m<128→Vec w0 h' 1 x' pre'.length (bvs pre') S'→pre'++[UInt8.ofNat m]=pre++vi n→Step h h' S S'→K (.int .u64 m) x' h')→
  nN prog w0 K (vi n).length (.int .u64 n) x h:=by
 induction n using vi.induct with
 |case1 n hn=>
  intro h x pre S hf hv hl hb hk
  have e:vi n=[UInt8.ofNat n]:=by unfold vi;rw[dif_pos hn]
  rw[e]at hk ⊢
  simp[nN,uq,show ¬ (128:Int)≤n by omega]
  exact hk h x n pre S hn hv rfl (.refl _ _ λb hb=>(hv.lt b hb).2)
 |case2 n hn ih=>
  intro h x pre S hf hv hl hb hk
  have e:vi n=g7 n::vi (n/128):=by rw[vi];rw[dif_neg hn]
  rw[e]at hk hl ⊢
  simp at hl
  simp[nN,uq,YS]
  refine ⟨λ_=>?_,λh=>by omega⟩
  refine gB (w0:=w0) (m:=1) (s:=1) (by_:=1) (h:=h.new [bv (g7 n)] 1) (ys:=bvs [g7 n]) (by simp;omega) (hv.new _ _) (by simp) (iD hf (by simp)) (by simp) (by omega) (by omega) (by omega) (λx' h' S' hv' st=>?_)
  have st2:Step h h' S S':=(((Step.refl h S λb hb=>(hv.lt b hb).2).new _ _).less (T:=S) (λb hb=>by simp[hb])).trans st
  simp[IntKind.bits]
  have e2:(n:Int)/128=((n/128:Nat):Int):=by simp
  rw[e2]
  refine ih h' x' (pre++[g7 n]) S' (by have:=st2.1;omega) (by simpa using hv') (by simp;omega) (by omega) (λh2 x2 m pre' S2 hm hv2 hp st3=>hk h2 x2 m pre' S2 hm hv2 (by simpa using hp) (st2.trans st3))
theorem Mh{w0:World}{h:Hp}(n:Nat)(hn:n<18446744073709551616):
  aj prog w0 vQ [.int .u64 n] h λv h'=>∃S',Vec w0 h' 1 v (vi n).length (bvs (vi n)) S'∧Step h h' [] S':=by
 refine aj.of_fit (by simp) λf=>Ou (by simp) ?_
 have h10:=fU hn
 refine ⟨(vi n).length,ad8 n h _ [] [] f.base .nil (by simp;omega) hn (λh' x' m pre' S' hm hv he st=>?_)⟩
 have e:IntKind.u8.wrap (m:Int)=((m%256:Nat):Int):=by rw[rd];simp
 simp[e]
 have hb:(.int .u8 ((m:Int)%256):Value)=bv (UInt8.ofNat m):=by rw[iK];simp
 rw[hb]
 have hlen:pre'.length+1=(vi n).length:=by rw[←gU (vi n),←he];simp
 have hfb:=f.base
 have:=st.1
 refine gB (w0:=w0) (m:=1) (s:=1) (by_:=1) (h:=h'.new [bv (UInt8.ofNat m)] 1) (ys:=bvs [UInt8.ofNat m]) (by simp;omega) (hv.new _ _) (by simp) (iD (by omega) (by simp)) (by simp) (by omega) (by omega) (by omega) (λx2 h2 S2 hv2 st2=>?_)
 obtain ⟨a,c,rfl⟩:=hv2.slice
 simp
 refine ⟨S2,?_,((st.new _ _).less (T:=S') (λb hb=>by simp[hb])).trans st2⟩
 rw[←hlen]
 have he2:bvs pre'++bvs [UInt8.ofNat m]=bvs (vi n):=by rw[←kB,he];simp
 rw[←he2]
 exact hv2
theorem yg{w0:World}{h:Hp}{p:Nat}{st:WS}{S:List Nat}(n:Nat)(hn:n<18446744073709551616)(w:Wr w0 h p st S)(hsz:st.bs.length+10≤140737488355328):
  aj prog w0 lJ [ptr p,.int .u64 n] h λv h'=>∃S',Wr w0 h' p (st.put (vi n)) S'∧Step h h' S S':=by
 refine aj.of_fit (by simp[ptr]) λf=>Om (by simp[ptr]) ?_
 have h10:=fU hn
 refine aA (Mh n hn) λv h1 ⟨S1,hv,s1⟩ f1=>?_
 obtain ⟨a,c,hx⟩:=hv.slice
 subst hx
 refine aA (tu (l:=vi n) (w.frame s1 (by simp)) hv.src (by omega)) λv h2 ⟨S2,w2,s2⟩ f2=>?_
 simp only[aC,qR]
 refine ⟨by simp,S2,w2,?_⟩
 exact (s1.wide (T:=S) (T':=S) (by simp) (λb hb=>.inr ⟨hb,(w.lt b hb).2⟩)).trans s2
theorem MP{w0:World}{h:Hp}{p:Nat}{st:WS}{S:List Nat}(l:List UInt8)(hl:l.length≤70368744177664)(w:Wr w0 h p st S)(hsz:st.bs.length+10+l.length≤140737488355328):
  aj prog w0 Ai [ptr p,.string (str l)] h λv h'=>∃S',Wr w0 h' p (st.put (vi l.length++l)) S'∧Step h h' S S':=by
 refine aj.of_fit (by simp[ptr]) λf=>Oj (by simp[ptr]) ?_
 have h10:=fU (n:=l.length) (by omega)
 simp only[JL,gM,bR,gC,cL]
 rw[eL _ (by omega)]
 refine aA (Mh l.length (by omega)) λv h1 ⟨S1,hv,s1⟩ f1=>?_
 refine gB (m:=l.length) (ys:=bvs l) f1.base hv (by simp) ?_ (by simp) (by omega) (by omega) (by omega) (λx' h2 S2 hv2 s2=>?_)
 ·have:=LH (h:=h1) w0.heap.size (str l)
  simpa using this
 ·have hv3:Vec w0 h2 1 x' (vi l.length++l).length (bvs (vi l.length++l)) S2:=by simpa using hv2
  obtain ⟨a,c,rfl⟩:=hv3.slice
  have s12:=s1.trans s2
  refine aA (tu (l:=vi l.length++l) (ay:=a) (cy:=c) (w.frame s12 (by simp)) hv3.src (by simp;omega)) λv h3 ⟨S3,w3,s3⟩ f3=>?_
  simp only[aC,qR]
  exact ⟨by simp,S3,w3,(s12.wide (T:=S) (T':=S) (by simp) (λb hb=>.inr ⟨hb,(w.lt b hb).2⟩)).trans s3⟩
theorem yh{w0:World}{h:Hp}{p:Nat}{st:WS}{S:List Nat}(l:List UInt8)(hl:l.length≤70368744177664)(w:Wr w0 h p st S)(hsz:st.bs.length+l.length≤140737488355328):
  aj prog w0 sO [ptr p,.string (str l)] h λv h'=>∃S',Wr w0 h' p (st.put l) S'∧Step h h' S S':=by
 refine aj.of_fit (by simp[ptr]) λf=>Oi (by simp[ptr]) ?_
 simp only[JK,J6,cL,LV,yw]
 refine ⟨by omega,?_⟩
 have s1:=(Step.refl h [] (by simp)).new (bvs l) 1
 refine aA (tu (l:=l) (ay:=some ⟨h.next,0,none⟩) (cy:=bA) (w.frame s1 (by simp)) (iD f.base (by simp)) hsz) λv h3 ⟨S3,w3,s3⟩ f3=>?_
 simp only[aC,qR]
 exact ⟨by simp,S3,w3,(s1.wide (T:=S) (T':=S) (by simp) (λb hb=>.inr ⟨hb,(w.lt b hb).2⟩)).trans s3⟩
def WS.len(s:WS):Nat:=if s.over then 0 else s.bs.length
def WS.out(s:WS):List UInt8:=if s.over then [] else s.bs
def WS.err(s:WS):Int:=if s.over then 3 else 0
theorem qf{w0:World}{h:Hp}{p:Nat}{st:WS}{S:List Nat}(w:Wr w0 h p st S):
  aj prog w0 mT [ptr p] h λv h'=>v=.tuple #[.string (str st.out),.int .i64 st.err]∧h'=h:=by
 refine aj.of_fit (by simp[ptr]) λf=>Oh (by simp[ptr]) ?_
 obtain ⟨x,T,hb0,hp,hp2,hv,hpT,rfl,hm⟩:=w
 obtain ⟨ax,cx,hx⟩:=hv.slice
 simp[JJ,ptr,hb0,iQ.2 hp,WS.out,WS.err]
 refine ⟨λho=>by simp[ho,qY],λho=>hv.b2s ?_⟩
 simp[ho]
structure RS where
 s:List UInt8
 err:Int
def Rd(w0:World)(h:Hp)(r:Nat)(st:RS):Prop:=h.blk r=some [.string (str st.s),.int .i64 st.err]∧w0.heap.size≤r∧r<h.next∧st.s.length≤140737488355328∧0≤st.err∧st.err<1000
theorem Rd.frame{w0:World}{h h':Hp}{r:Nat}{st:RS}{T T':List Nat}(w:Rd w0 h r st)(s:Step h h' T T')(hd:r∉T):Rd w0 h' r st:=
 ⟨by rw[(s.2 r w.2.2.1 hd).1];exact w.1,w.2.1,by have:=s.1;have:=w.2.2.1;omega,w.2.2.2⟩
theorem Rd.put{w0:World}{h:Hp}{r:Nat}{st:RS}(w:Rd w0 h r st)(st':RS)(hl:st'.s.length≤140737488355328)(he:0≤st'.err∧st'.err<1000):Rd w0 (h.put r [.string (str st'.s),.int .i64 st'.err]) r st'∧Step h (h.put r [.string (str st'.s),.int .i64 st'.err]) [r] [r]:=
 ⟨⟨by simp,w.2.1,by simpa using w.2.2.1,hl,he⟩,(Step.refl h [r] (by simpa using w.2.2.1)).put (by simp) _⟩
theorem Rd.refl{w0:World}{h:Hp}{r:Nat}{st:RS}(w:Rd w0 h r st):Step h h [r] [r]:=Step.refl h [r] (by simpa using w.2.2.1)
def RS.fault(st:RS)(e:Int):RS:=if st.err=0 then { st with err:=e } else st
def RS.raw(st:RS)(n:Int):List UInt8×RS:=
 if st.err≠0 then ([],st) else if n<0 then ([],{ st with err:=1 }) else if (st.s.length:Int)<n then ([],{ st with err:=20 }) else (st.s.take n.toNat,{ st with s:=st.s.drop n.toNat })
def rdn(l:List UInt8):Nat:=l.foldl (λn b=>n*256+b.toNat) 0
def shp:List UInt8→Nat→Nat→Nat×Nat×Int
 |[],_,_=>(0,0,20)
 |c::l,i,acc=>
  if i=9∧c≠1 then (0,0,21)
  else if c.toNat<128 then (if c=0∧0<i then (0,0,21) else (acc+c.toNat%128*128^i,i+1,0))
  else shp l (i+1) (acc+c.toNat%128*128^i)
def RS.varint(st:RS):Nat×RS:=
 if st.err≠0 then (0,st) else if (shp st.s 0 0).2.2≠0 then (0,{ st with err:=(shp st.s 0 0).2.2 }) else ((shp st.s 0 0).1,{ st with s:=st.s.drop (shp st.s 0 0).2.1 })
def RS.text(st:RS):List UInt8×RS:=
 if st.varint.2.err≠0 then ([],st.varint.2) else if st.varint.2.s.length<st.varint.1 then ([],{ st.varint.2 with err:=20 }) else st.varint.2.raw st.varint.1
theorem rq{w0:World}{h:Hp}(l:List UInt8)(hl:l.length≤140737488355328):
  aj prog w0 pu [.string (str l)] h λv h'=>v=ptr h.next∧Rd w0 h' h.next ⟨l,0⟩∧Step h h' [] [h.next]:=by
 refine aj.of_fit (by simp) λf=>NT (by simp) ?_
 simp[JB]
 exact ⟨rfl,⟨by simp,f.base,by simp,hl,by simp,by simp⟩,(Step.refl h [] (by simp)).new _ _⟩
theorem uX{w0:World}{h:Hp}{r:Nat}{st:RS}(w:Rd w0 h r st)(e:Int)(he:0≤e∧e<1000):
  aj prog w0 qH [ptr r,.int .i64 e] h λv h'=>v=.string .empty∧Rd w0 h' r (st.fault e)∧Step h h' [r] [r]:=by
 refine aj.of_fit (by simp[ptr]) λf=>Od (by simp[ptr]) ?_
 simp[JH,ptr,w.1,iQ.2 w.2.1,w.2.1]
 refine ⟨λh0=>?_,λh0=>?_⟩
 ·have:=w.put { st with err:=e } w.2.2.2.1 he
  simpa[RS.fault,h0]using this
 ·simpa[RS.fault,h0]using ⟨w,w.refl⟩
theorem qc{w0:World}{h:Hp}{r:Nat}{st:RS}(w:Rd w0 h r st)(n:Int)(hn:-9223372036854775808≤n∧n≤9223372036854775807):
  aj prog w0 jX [ptr r,.int .i64 n] h λv h'=>v=.string (str (st.raw n).1)∧Rd w0 h' r (st.raw n).2∧Step h h' [r] [r]:=by
 refine aj.of_fit (by simp[ptr]) λf=>NY (by simp[ptr]) ?_
 simp[JF,ptr,w.1,iQ.2 w.2.1,w.2.1]
 refine ⟨λh0=>?_,λh0=>⟨λh1=>?_,λh1=>⟨λh2=>?_,λh2=>?_⟩⟩⟩
 ·simpa[RS.raw,h0,qY]using ⟨w,w.refl⟩
 ·refine aA (uX w 1 (by omega)) λv h' ⟨e,w',s⟩ _=>?_
  subst e
  simpa[RS.raw,h0,h1,qY,RS.fault]using ⟨by simpa[RS.fault,h0]using w',s⟩
 ·refine aA (uX w 20 (by omega)) λv h' ⟨e,w',s⟩ _=>?_
  subst e
  simpa[RS.raw,h0,Int.not_lt.2 h1,h2,qY,RS.fault]using ⟨by simpa[RS.fault,h0]using w',s⟩
 ·obtain ⟨k,rfl⟩:=CP h1
  have hk:k≤st.s.length:=by omega
  simp[pO _ _ _ hk,js _ _ _ hk,RS.raw,h0,h2,w.1,iQ.2 w.2.1,w.2.1]
  have hnl:¬ st.s.length<k:=by omega
  have hng:¬ (k:Int)<0:=by omega
  simp[hnl,hng]
  have:=w.put ⟨st.s.drop k,0⟩ (by have:=w.2.2.2.1;simp;omega) (by simp)
  simpa using this
theorem IW:∀(l:List UInt8) (n i:Nat),n<256^i→l.foldl (λn b=>n*256+b.toNat) n<256^(i+l.length):=by
 intro l
 induction l with
 |nil=>intro n i h;simpa using h
 |cons b l ih=>
  intro n i h
  have:=ih (n*256+b.toNat) (i+1) (by have:=lh b;rw[jL];omega)
  simp only[rf,bH]
  rw[show i+(l.length+1)=i+1+l.length by omega]
  exact this
theorem aag{w0:World}{K:Value→Hp→Prop}{h:Hp}{q:Nat}{l:List UInt8}(hq:w0.heap.size≤q)(hb:h.blk q=some (bvs l))(hl:l.length≤8):∀(post pre:List UInt8) (n:Nat) (c:Nat),pre++post=l→n<256^pre.length→
  K (.int .u64 (post.foldl (λn b=>n*256+b.toNat) n:Nat)) h→
  nK prog w0 K (post.length+1) (.int .u64 (n:Int)) (.slice (some ⟨q,0,none⟩) l.length c) (.int .i64 (l.length:Int)) (.int .i64 (pre.length:Int)) h:=by
 intro post
 induction post with
 |nil=>
  intro pre n c he hn hk
  have:pre=l:=by simpa using he
  subst this
  simpa[nK,ul]using hk
 |cons b post ih=>
  intro pre n c he hn hk
  have hlen:pre.length+(post.length+1)=l.length:=by rw[←he];simp
  have hg:l[pre.length]?=some b:=by rw[←he];simp
  have hn8:n<256^7:=cJ hn (rj (by omega) (by omega))
  have hbl:=lh b
  have e1:IntKind.u64.wrap ((n:Int)*256)=((n*256:Nat):Int):=by rw[eL _ (by omega)];simp
  have e2:IntKind.u64.wrap (b.toNat:Int)=(b.toNat:Int):=by rw[eL _ (by omega)]
  have e3:ah .or (.int .u64 ((n*256:Nat):Int)) (.int .u64 (b.toNat:Int))=some (.int .u64 ((n*256+b.toNat:Nat):Int)):=by
   have h5:=Db (i:=8) (b:=b.toNat) (by omega) n
   have h6:n*256 ||| b.toNat=n*256+b.toNat:=by rw[nv n 256];simpa using h5.symm
   rw[yp,h6,fz (by simp[IntKind.bits];omega),gR rfl (by simp[IntKind.bits];omega)]
  have e4:IntKind.i64.wrap ((pre.length:Int)+1)=((pre.length+1:Nat):Int):=by rw[bM _ (by omega)];simp
  rw[bH,nK]
  have hbg:(h.blk q).bind (·[pre.length]?)=some (.int .u8 (b.toNat:Int)):=by simp only[hb,je,Dy,hg];rfl
  simp[ul,hbg,iQ.2 hq,show pre.length<l.length by omega,show ¬ l.length≤pre.length by omega,show min 8 IntKind.u64.bits=8 from rfl]
  rw[e1,e2,e3,e4]
  simp
  have:=ih (pre++[b]) (n*256+b.toNat) c (by simpa using he) (by rw[aT,xX,jL];omega) (by simpa using hk)
  simpa using this
theorem IX{w0:World}{h:Hp}{r:Nat}{st:RS}(w:Rd w0 h r st)(k:Nat)(hk:k≤8):
  aj prog w0 vO [ptr r,.int .i64 k] h λv h'=>v=.int .u64 (rdn (st.raw k).1:Nat)∧Rd w0 h' r (st.raw k).2∧Step h h' [r] [r]:=by
 refine aj.of_fit (by simp[ptr]) λf=>Oe (by simp[ptr]) ?_
 have hlen:(st.raw k).1.length≤8:=by
  unfold RS.raw
  repeat' split
  all_goals simp
  omega
 refine aA (qc w k (by omega)) λv h1 ⟨e,w1,s1⟩ f1=>?_
 subst e
 simp only[J6,cL,LV,yw,vA,bR]
 refine ⟨by omega,(st.raw k).1.length+1,?_⟩
 have:=aag (w0:=w0) (K:=λy5=>ar [y5] λv h'=>v=.int .u64 (rdn (st.raw k).1:Nat)∧Rd w0 h' r (st.raw k).2∧Step h h' [r] [r]) (h:=h1.new (bvs (st.raw k).1) 1) (q:=h1.next) (l:=(st.raw k).1) f1.base (by simp) hlen (st.raw k).1 [] 0 bA (by simp) (by simp) ?_
 ·simpa using this
 ·simp only[aC,aU]
  refine ⟨by simp,rfl,w1.frame ((Step.refl h1 [] (by simp)).new _ _) (by simp),?_⟩
  exact (s1.new _ _).less (by simp)
theorem ZS(st:RS)(k:Nat):(st.raw k).1.length≤k:=by
 unfold RS.raw
 repeat' split
 all_goals simp
 omega
theorem pB(st:RS)(k:Nat):rdn (st.raw k).1<256^k:=by
 have:=IW (st.raw k).1 0 0 (by simp)
 exact cJ this (rj (by omega) (by have:=ZS st k;omega))
theorem qe{w0:World}{h:Hp}{r:Nat}{st:RS}(w:Rd w0 h r st):
  aj prog w0 mS [ptr r] h λv h'=>v=.int .u8 (rdn (st.raw 1).1:Nat)∧Rd w0 h' r (st.raw 1).2∧Step h h' [r] [r]:=by
 refine aj.of_fit (by simp[ptr]) λf=>Ob (by simp[ptr]) ?_
 refine aA (IX w 1 (by omega)) λv h1 ⟨e,w1,s1⟩ f1=>?_
 subst e
 have:=pB st 1
 have e:IntKind.u8.wrap ((rdn (st.raw (1:Nat)).1:Nat):Int)=((rdn (st.raw (1:Nat)).1:Nat):Int):=md _ (by omega)
 simp only[gC,bR,e,aC,aU]
 exact ⟨by simp,rfl,w1,s1⟩
theorem qd{w0:World}{h:Hp}{r:Nat}{st:RS}(w:Rd w0 h r st):
  aj prog w0 mQ [ptr r] h λv h'=>v=.int .u32 (rdn (st.raw 4).1:Nat)∧Rd w0 h' r (st.raw 4).2∧Step h h' [r] [r]:=by
 refine aj.of_fit (by simp[ptr]) λf=>Oa (by simp[ptr]) ?_
 refine aA (IX w 4 (by omega)) λv h1 ⟨e,w1,s1⟩ f1=>?_
 subst e
 have:=pB st 4
 have e:IntKind.u32.wrap ((rdn (st.raw (4:Nat)).1:Nat):Int)=((rdn (st.raw (4:Nat)).1:Nat):Int):=tK _ (by omega)
 simp only[gC,bR,e,aC,aU]
 exact ⟨by simp,rfl,w1,s1⟩
theorem ru{w0:World}{h:Hp}{r:Nat}{st:RS}(w:Rd w0 h r st):aj prog w0 iV [ptr r] h λv h'=>v=.int .i64 st.err∧h'=h:=by
 refine aj.of_fit (by simp[ptr]) λf=>NW (by simp[ptr]) ?_
 simp[JD,ptr,w.1,iQ.2 w.2.1,w.2.1]
def RS.left(st:RS):Nat:=if st.err≠0 then 0 else st.s.length
theorem MK{w0:World}{h:Hp}{r:Nat}{st:RS}(w:Rd w0 h r st):aj prog w0 Ae [ptr r] h λv h'=>v=.int .i64 st.left∧h'=h:=by
 refine aj.of_fit (by simp[ptr]) λf=>NX (by simp[ptr]) ?_
 simp[JE,ptr,w.1,iQ.2 w.2.1,w.2.1,RS.left]
 exact ⟨λh0=>by simp[h0],λh0=>by simp[h0]⟩
def RS.done(st:RS):Int:=if st.err≠0 then st.err else if 0<st.s.length then 22 else 0
theorem MJ{w0:World}{h:Hp}{r:Nat}{st:RS}(w:Rd w0 h r st):aj prog w0 Ad [ptr r] h λv h'=>v=.int .i64 st.done∧h'=h:=by
 refine aj.of_fit (by simp[ptr]) λf=>NV (by simp[ptr]) ?_
 refine aA (ru w) λv h1 ⟨e,e2⟩ f1=>?_
 subst e e2
 simp[ptr,w.1,iQ.2 w.2.1,w.2.1,RS.done]
 refine ⟨λh0=>by simp[h0],λh0=>⟨λh1=>by simp[h0];intro h2;simp[h2]at h1,λh1=>by simp[h0];exact h1⟩⟩
theorem tB(c:UInt8)(l:List UInt8)(i acc:Nat):shp (c::l) i acc=if i=9∧c≠1 then (0,0,21) else if c.toNat<128 then (if c=0∧0<i then (0,0,21) else (acc+c.toNat%128*128^i,i+1,0)) else shp l (i+1) (acc+c.toNat%128*128^i):=rfl
theorem Dn(b:UInt8):ah .and (.int .u8 (b.toNat:Int)) (.int .u8 127)=some (.int .u8 ((b.toNat%128:Nat):Int)):=by
 have h:=lh b
 have h5:b.toNat &&& 127=b.toNat%128:=Nat.and_two_pow_sub_one_eq_mod b.toNat 7
 have:=yo .u8 b.toNat 127
 rw[show (127:Int)=((127:Nat):Int) from rfl,this,h5,fz (by simp[IntKind.bits];omega),gR rfl (by simp[IntKind.bits];omega)]
theorem acx{w0:World}{k0 kr:Value→Value→Value→Hp→Prop}{h:Hp}{l:List UInt8}(hl:l.length≤140737488355328):∀(post pre:List UInt8) (n:Nat),pre++post=l→pre.length≤9→n<128^pre.length→
  (∀a b c,shp post pre.length n=(0,0,20)→k0 a b c h)→(shp post pre.length n≠(0,0,20)→kr (.int .u64 ((shp post pre.length n).1:Nat)) (.int .i64 ((shp post pre.length n).2.1:Nat)) (.int .i64 (shp post pre.length n).2.2) h)→
  lr prog w0 k0 kr (post.length+1) (.string (str l)) (.int .u64 (n:Int)) (.int .i64 0) (.int .i64 0) (.int .i64 (l.length:Int)) (.int .i64 (pre.length:Int)) h:=by
 intro post
 induction post with
 |nil=>
  intro pre n he hp hn h0 hr
  have:pre=l:=by simpa using he
  subst this
  simpa[lr,nM]using h0 _ _ _ rfl
 |cons b post ih=>
  intro pre n he hp hn h0 hr
  have hlen:pre.length+(post.length+1)=l.length:=by rw[←he];simp
  have hg:l[pre.length]?=some b:=by rw[←he];simp
  have hb:=lh b
  rw[bH,lr]
  rw[tB]at h0 hr
  have e1:IntKind.i64.wrap (7*(pre.length:Int))=((7*pre.length:Nat):Int):=by rw[bM _ (by omega)];simp
  have hmin:min (7*pre.length) IntKind.u64.bits=7*pre.length:=kx (by simp[IntKind.bits];omega)
  have hs:dR (.string (str l)) (.int .i64 (pre.length:Int))=some (.int .u8 (b.toNat:Int)):=by rw[ko,hg];rfl
  have e2:IntKind.u64.wrap ((b.toNat%128:Nat):Int)=((b.toNat%128:Nat):Int):=eL _ (by omega)
  have e5:IntKind.i64.wrap ((pre.length:Int)+1)=((pre.length+1:Nat):Int):=by rw[bM _ (by omega)];simp
  have hp7:128^pre.length=2^(7*pre.length):=by rw[Nat.pow_mul]
  have hm:b.toNat%128*128^pre.length≤127*128^pre.length:=jy _ (by omega)
  have e3:b.toNat%128*128^pre.length<18446744073709551616→ah .shl (.int .u64 ((b.toNat%128:Nat):Int)) (.int .i64 ((7*pre.length:Nat):Int))=some (.int .u64 ((b.toNat%128*128^pre.length:Nat):Int)):=by
   intro hlt
   have e:((b.toNat%128:Nat):Int)*2^(7*pre.length)=((b.toNat%128*128^pre.length:Nat):Int):=by rw[hp7];simp
   rw[Nr _ _ _ _ (by omega),fN,hmin,e,eL _ (by omega)]
  have e4:n+b.toNat%128*128^pre.length<18446744073709551616→ah .or (.int .u64 (n:Int)) (.int .u64 ((b.toNat%128*128^pre.length:Nat):Int))=some (.int .u64 ((n+b.toNat%128*128^pre.length:Nat):Int)):=by
   intro hlt
   have h5:=Db (i:=7*pre.length) (b:=n) (by rw[←hp7];exact hn) (b.toNat%128)
   have h6:n ||| b.toNat%128*128^pre.length=n+b.toNat%128*128^pre.length:=by rw[hp7,Nat.or_comm,nv (b.toNat%128),←h5,jK]
   rw[yp,h6,fz (by simp only[IntKind.bits];omega),gR rfl (by simp only[IntKind.bits];omega)]
  have hz:(b=0)↔b.toNat=0:=⟨λe=>by rw[e];rfl,λe=>lg.1 (by simpa using e)⟩
  have h1z:(b=1)↔b.toNat=1:=⟨λe=>by rw[e];rfl,λe=>lg.1 (by simpa using e)⟩
  have c1:decide ((pre.length:Int)<(l.length:Int))=true:=decide_eq_true (by omega)
  by_cases hA:pre.length=9∧b≠1
  ·rw[if_pos hA]at hr
   have c9:((pre.length:Int)==9)=true:=by simp;omega
   have cb:((b.toNat:Int) != 1)=true:=by
    have h1:¬ b.toNat=1:=λe=>hA.2 (h1z.2 e)
    simp only[bne_iff_ne,ne_eq];omega
   simp only[nM,fQ,mA,jh,nz,gJ,iS,bR,eF,eQ,oP,oO,kg,jp,gC,hs,c1,c9,cb]
   simpa using hr
  rw[if_neg hA]at h0 hr
  have hlt:n+b.toNat%128*128^pre.length<18446744073709551616:=by
   by_cases h9:pre.length=9
   ·have hb1:b.toNat=1:=h1z.1 (Decidable.not_not.1 λe=>hA ⟨h9,e⟩)
    rw[h9]at hn
    rw[h9,hb1]
    omega
   ·have hpow:128^pre.length≤128^8:=rj (by omega) (by omega)
    omega
  have hgo:(bif ((pre.length:Int)==9) then ((b.toNat:Int) != 1) else false)=false:=by
   cases c9:((pre.length:Int)==9) with
   |false=>rfl
   |true=>
    have h9:pre.length=9:=by simp at c9;omega
    have hb1:b.toNat=1:=h1z.1 (Decidable.not_not.1 λe=>hA ⟨h9,e⟩)
    simp[hb1]
  have key:nM prog w0 (lr prog w0 k0 kr (post.length+1)) k0 kr (.string (str l)) (.int .u64 (n:Int)) (.int .i64 0) (.int .i64 0) (.int .i64 (l.length:Int)) (.int .i64 (pre.length:Int)) h↔
    (aB (.bool (decide ((b.toNat:Int)<128))) (
     ai (.bool ((b.toNat:Int)==0)) true (aa (ah .gtr (.int .i64 (pre.length:Int)) (.int .i64 0))) λv35_16=>
     aQ (.bool ((b.toNat:Int)==0)) v35_16 (.bool false) λv36_17=>
     aB v36_17 (kr (.int .u64 0) (.int .i64 0) (.int .i64 21)) (
     kr (.int .u64 ((n+b.toNat%128*128^pre.length:Nat):Int)) (.int .i64 ((pre.length+1:Nat):Int)) (.int .i64 0))) (
     lr prog w0 k0 kr (post.length+1) (.string (str l)) (.int .u64 ((n+b.toNat%128*128^pre.length:Nat):Int)) (.int .i64 0) (.int .i64 0) (.int .i64 (l.length:Int)) (.int .i64 ((pre.length+1:Nat):Int)))) h:=by
   have hf:=e3 (by omega)
   have hg4:=e4 hlt
   cases c9:((pre.length:Int)==9) with
   |false=>
    cases c128:decide ((b.toNat:Int)<128) <;> cases c0:((b.toNat:Int)==0) <;> cases cp:decide ((0:Int)<(pre.length:Int)) <;>
     simp only[nM,fQ,mA,jh,nz,gJ,iS,bR,eF,eQ,oP,oO,kg,jp,gC,hs,c1,c9,c128,c0,cp,Dn,e1,e2,hf,hg4,e5]
   |true=>
    rw[c9]at hgo
    have cb:((b.toNat:Int) != 1)=false:=hgo
    cases c128:decide ((b.toNat:Int)<128) <;> cases c0:((b.toNat:Int)==0) <;> cases cp:decide ((0:Int)<(pre.length:Int)) <;>
     simp only[nM,fQ,mA,jh,nz,gJ,iS,bR,eF,eQ,oP,oO,kg,jp,gC,hs,c1,c9,cb,c128,c0,cp,Dn,e1,e2,hf,hg4,e5]
  rw[key]
  by_cases h128:b.toNat<128
  ·rw[if_pos h128]at h0 hr
   have c128:decide ((b.toNat:Int)<128)=true:=decide_eq_true (by omega)
   simp only[c128,eF]
   by_cases hb0:b.toNat=0
   ·have c0:((b.toNat:Int)==0)=true:=by simp only[beq_iff_eq];omega
    simp only[c0,oP,iS,bR,kg]
    by_cases hp0:0<pre.length
    ·rw[if_pos ⟨hz.2 hb0,hp0⟩]at hr
     have cp:decide ((0:Int)<(pre.length:Int))=true:=decide_eq_true (by omega)
     simp only[cp,eF]
     simpa using hr
    ·rw[if_neg (λe=>hp0 e.2)]at hr
     have cp:decide ((0:Int)<(pre.length:Int))=false:=decide_eq_false (by omega)
     simp only[cp,eQ]
     exact hr (by simp)
   ·have c0:((b.toNat:Int)==0)=false:=by simp only[beq_eq_false_iff_ne,ne_eq];omega
    rw[if_neg (λe=>hb0 (hz.1 e.1))]at hr
    simp only[c0,oO,jp,eQ]
    exact hr (by simp)
  ·rw[if_neg h128]at h0 hr
   have c128:decide ((b.toNat:Int)<128)=false:=decide_eq_false (by omega)
   simp only[c128,eQ]
   have h9:pre.length≠9:=λe=>by
    have hb1:b.toNat=1:=h1z.1 (Decidable.not_not.1 λe'=>hA ⟨e,e'⟩)
    omega
   have:=ih (pre++[b]) (n+b.toNat%128*128^pre.length) (by simpa using he) (by simp;omega) (by rw[aT,xX,jL];omega) (by simpa using h0) (by simpa using hr)
   simpa using this
theorem acy{w0:World}{h:Hp}(l:List UInt8)(hl:l.length≤140737488355328):
  aj prog w0 Aj [.string (str l)] h λv h'=>v=.tuple #[.int .u64 ((shp l 0 0).1:Nat),.int .i64 ((shp l 0 0).2.1:Nat),.int .i64 (shp l 0 0).2.2]∧h'=h:=by
 refine aj.of_fit (by simp) λf=>Ot (by simp) ?_
 simp only[B8,gM,bR,cL]
 refine ⟨l.length+1,?_⟩
 have:=acx (w0:=w0) (k0:=λy2 y3 y4=>ar [(.int .u64 0),(.int .i64 0),(.int .i64 20)] λv h'=>v=.tuple #[.int .u64 ((shp l 0 0).1:Nat),.int .i64 ((shp l 0 0).2.1:Nat),.int .i64 (shp l 0 0).2.2]∧h'=h)
  (kr:=λy2 y3 y4=>ar [y2,y3,y4] λv h'=>v=.tuple #[.int .u64 ((shp l 0 0).1:Nat),.int .i64 ((shp l 0 0).2.1:Nat),.int .i64 (shp l 0 0).2.2]∧h'=h) (h:=h) (l:=l) hl l [] 0 (by simp) (by simp) (by simp)
  (λa b c e=>by simp at e;simp[e]) (λe=>by simp)
 simpa using this
theorem L6:∀(l:List UInt8) (i n:Nat),i≤9→n<128^i→(shp l i n).1<18446744073709551616∧(shp l i n).2.1≤i+l.length∧0≤(shp l i n).2.2∧(shp l i n).2.2<1000:=by
 intro l
 induction l with
 |nil=>intro i n hi hn;simp[shp]
 |cons c l ih=>
  intro i n hi hn
  have hc:=lh c
  have hm:c.toNat%128*128^i≤127*128^i:=jy _ (by omega)
  rw[tB]
  split
  ·simp
  rename_i hA
  have h1z:(c=1)↔c.toNat=1:=⟨λe=>by rw[e];rfl,λe=>lg.1 (by simpa using e)⟩
  have hlt:n+c.toNat%128*128^i<18446744073709551616:=by
   by_cases h9:i=9
   ·have hb1:c.toNat=1:=h1z.1 (Decidable.not_not.1 λe=>hA ⟨h9,e⟩)
    rw[h9]at hn
    rw[h9,hb1]
    omega
   ·have hpow:128^i≤128^8:=rj (by omega) (by omega)
    omega
  split
  ·split
   ·simp
   ·simp;exact hlt
  ·have h9:i≠9:=λe=>by
    have hb1:c.toNat=1:=h1z.1 (Decidable.not_not.1 λe'=>hA ⟨e,e'⟩)
    omega
   have:=ih (i+1) (n+c.toNat%128*128^i) (by omega) (by rw[jL];omega)
   simp
   omega
theorem tZ{w0:World}{h:Hp}{r:Nat}{st:RS}(w:Rd w0 h r st):
  aj prog w0 jY [ptr r] h λv h'=>v=.int .u64 (st.varint.1:Nat)∧Rd w0 h' r st.varint.2∧Step h h' [r] [r]:=by
 refine aj.of_fit (by simp[ptr]) λf=>Oc (by simp[ptr]) ?_
 simp[JG,ptr,w.1,iQ.2 w.2.1,w.2.1]
 have hb:=L6 st.s 0 0 (by omega) (by simp)
 refine ⟨λh0=>?_,λh0=>?_⟩
 ·simpa[RS.varint,h0]using ⟨w,w.refl⟩
 ·refine aA (acy st.s w.2.2.2.1) λv h1 ⟨e,e1⟩ f1=>?_
  subst e e1
  simp[w.1,iQ.2 w.2.1,w.2.1]
  refine ⟨λh2=>?_,λh2=>?_⟩
  ·refine aA (uX w _ hb.2.2) λv h' ⟨e,w',s⟩ _=>?_
   simpa[RS.varint,h0,h2]using ⟨by simpa[RS.fault,h0]using w',s⟩
  ·rw[js _ _ _ (by omega)]
   have:=w.put ⟨st.s.drop (shp st.s 0 0).2.1,0⟩ (by have:=w.2.2.2.1;simp;omega) (by simp)
   simpa[RS.varint,h0,h2,w.1,w.2.1]using this
theorem ML{w0:World}{h:Hp}{r:Nat}{st:RS}(w:Rd w0 h r st):
  aj prog w0 Af [ptr r] h λv h'=>v=.string (str st.text.1)∧Rd w0 h' r st.text.2∧Step h h' [r] [r]:=by
 refine aj.of_fit (by simp[ptr]) λf=>NZ (by simp[ptr]) ?_
 refine aA (tZ w) λv h1 ⟨e,w1,s1⟩ f1=>?_
 subst e
 have hlen:IntKind.u64.wrap (st.varint.2.s.length:Int)=(st.varint.2.s.length:Int):=eL _ (by have:=w1.2.2.2.1;omega)
 simp[ptr,w1.1,iQ.2 w1.2.1,w1.2.1,hlen]
 refine ⟨λh0=>?_,λh0=>⟨λh2=>?_,λh2=>?_⟩⟩
 ·simpa[RS.text,h0,qY]using ⟨w1,s1⟩
 ·refine aA (uX w1 20 (by omega)) λv h' ⟨e,w',s⟩ _=>?_
  subst e
  simpa[RS.text,h0,h2,qY]using ⟨by simpa[RS.fault,h0]using w',s1.trans s⟩
 ·have hw:IntKind.i64.wrap (st.varint.1:Int)=(st.varint.1:Int):=bM _ (by have:=w1.2.2.2.1;omega)
  rw[hw]
  refine aA (qc w1 st.varint.1 (by have:=w1.2.2.2.1;omega)) λv h' ⟨e,w',s⟩ _=>?_
  subst e
  have hn:¬ st.varint.2.s.length<st.varint.1:=by omega
  simpa[RS.text,h0,hn]using ⟨w',s1.trans s⟩
def jk(c:Nat):Nat:=(c/2) ^^^ (if c%2=1 then 2197175160 else 0)
def nQ:Nat→Nat→Nat
 |0,c=>c
 |k+1,c=>nQ k (jk c)
def kF(c:Nat)(l:List UInt8):Nat:=l.foldl (λc b=>nQ 8 (c ^^^ b.toNat)) c
def bS(l:List UInt8):Nat:=kF 4294967295 l ^^^ 4294967295
theorem qu{c:Nat}(h:c<4294967296):jk c<4294967296:=by
 unfold jk
 exact Nat.xor_lt_two_pow (n:=32) (by omega) (by split <;> omega)
theorem yH:∀(k c:Nat),c<4294967296→nQ k c<4294967296:=by
 intro k
 induction k with
 |zero=>intro c h;exact h
 |succ k ih=>intro c h;exact ih _ (qu h)
theorem pQ{c:Nat}(b:UInt8)(h:c<4294967296):c ^^^ b.toNat<4294967296:=Nat.xor_lt_two_pow (n:=32) h (by have:=lh b;omega)
theorem yI(l:List UInt8):∀c,c<4294967296→kF c l<4294967296:=by
 induction l with
 |nil=>intro c h;exact h
 |cons b l ih=>intro c h;exact ih _ (yH 8 _ (pQ b h))
theorem j2(l:List UInt8):bS l<4294967296:=Nat.xor_lt_two_pow (n:=32) (yI l _ (by omega)) (by omega)
theorem QS{w0:World}{k2:Value→Value→Value→Value→Hp→Prop}{x0 x6 x7:Value}{h:Hp}:∀(k i c:Nat),i+k=8→c<4294967296→k2 x0 (.int .u32 (nQ k c:Nat)) x6 x7 h→
  nJ prog w0 k2 (k+1) x0 (.int .u32 (c:Int)) x6 x7 (.int .i64 (i:Int)) h:=by
 intro k
 induction k with
 |zero=>
  intro i c hi hc hk
  have c8:decide ((i:Int)<8)=false:=decide_eq_false (by omega)
  rw[nJ]
  simp only[uk,fQ,bR,c8,eQ]
  exact hk
 |succ k ih=>
  intro i c hi hc hk
  have c8:decide ((i:Int)<8)=true:=decide_eq_true (by omega)
  have e1:ah .shr (.int .u32 (c:Int)) (.int .u64 1)=some (.int .u32 ((c/2:Nat):Int)):=by rw[uc _ _ _ _ (by omega)];simp[IntKind.bits]
  have e2:ah .and (.int .u32 (c:Int)) (.int .u32 1)=some (.int .u32 ((c%2:Nat):Int)):=by
   have:=yo .u32 c 1
   rw[show (1:Int)=((1:Nat):Int) from rfl,this,Nat.and_one_is_mod,fz (by simp only[IntKind.bits];omega),gR rfl (by simp only[IntKind.bits];omega)]
  have e3:unA .neg (.int .u32 ((c%2:Nat):Int))=some (.int .u32 ((if c%2=1 then 4294967295 else 0:Nat):Int)):=by
   rw[ad4,IntKind.wrap_u32]
   split
   ·rename_i e;rw[e];rfl
   ·rename_i e;rw[show c%2=0 by omega];rfl
  have e4:ah .and (.int .u32 2197175160) (.int .u32 ((if c%2=1 then 4294967295 else 0:Nat):Int))=some (.int .u32 ((if c%2=1 then 2197175160 else 0:Nat):Int)):=by
   have:=yo .u32 2197175160 (if c%2=1 then 4294967295 else 0)
   rw[show (2197175160:Int)=((2197175160:Nat):Int) from rfl,this]
   split <;> rfl
  have e5:ah .xor (.int .u32 ((c/2:Nat):Int)) (.int .u32 ((if c%2=1 then 2197175160 else 0:Nat):Int))=some (.int .u32 (jk c:Nat)):=by
   have hl:=qu hc
   rw[qj]
   show some (Value.int IntKind.u32 (IntKind.u32.wrap ((jk c%2^IntKind.u32.bits:Nat):Int)))=_
   rw[fz (by simp only[IntKind.bits];omega),gR rfl (by simp only[IntKind.bits];omega)]
  have e6:=wrN i (by omega)
  rw[nJ]
  simp only[uk,fQ,bR,c8,eF,e1,e2,e3,e4,e5,gJ,e6]
  exact ih (i+1) (jk c) (by omega) (qu hc) hk
theorem QT{w0:World}{k0:Value→Hp→Prop}{h:Hp}{l:List UInt8}(hl:l.length≤140737488355328):∀(post pre:List UInt8) (c:Nat),pre++post=l→c<4294967296→k0 (.int .u32 (kF c post:Nat)) h→
  nI prog w0 k0 (post.length+1) (.string (str l)) (.int .u32 (c:Int)) (.int .i64 (l.length:Int)) (.int .i64 (pre.length:Int)) h:=by
 intro post
 induction post with
 |nil=>
  intro pre c he hc hk
  have:pre=l:=by simpa using he
  subst this
  have c8:decide ((pre.length:Int)<(pre.length:Int))=false:=decide_eq_false (by omega)
  simp only[cS,nI,rL,fQ,bR,c8,eQ]
  exact hk
 |cons b post ih=>
  intro pre c he hc hk
  have hlen:pre.length+(post.length+1)=l.length:=by rw[←he];simp
  have hg:l[pre.length]?=some b:=by rw[←he];simp
  have hb:=lh b
  have c1:decide ((pre.length:Int)<(l.length:Int))=true:=decide_eq_true (by omega)
  have hs:dR (.string (str l)) (.int .i64 (pre.length:Int))=some (.int .u8 (b.toNat:Int)):=by rw[ko,hg];rfl
  have e1:IntKind.u32.wrap (b.toNat:Int)=(b.toNat:Int):=tK _ (by omega)
  have e2:ah .xor (.int .u32 (c:Int)) (.int .u32 (b.toNat:Int))=some (.int .u32 ((c ^^^ b.toNat:Nat):Int)):=by
   have:=pQ b hc
   rw[qj,fz (by simp only[IntKind.bits];omega),gR rfl (by simp only[IntKind.bits];omega)]
  have e6:IntKind.i64.wrap ((pre.length:Int)+1)=((pre.length+1:Nat):Int):=by rw[bM _ (by omega)];simp
  rw[bH,nI]
  simp only[rL,fQ,bR,c1,eF,hs,gC,e1,e2]
  refine ⟨9,QS 8 0 _ rfl (pQ b hc) ?_⟩
  simp only[gJ,bR,e6]
  have:=ih (pre++[b]) (nQ 8 (c ^^^ b.toNat)) (by simpa using he) (yH _ _ (pQ b hc)) hk
  simpa using this
theorem pR{w0:World}{h:Hp}(l:List UInt8)(hl:l.length≤140737488355328):
  aj prog w0 mO [.string (str l)] h λv h'=>v=.int .u32 (bS l:Nat)∧h'=h:=by
 refine aj.of_fit (by simp) λf=>NR (by simp) ?_
 simp only[B6,gM,bR,cL]
 refine ⟨l.length+1,QT hl l [] 4294967295 rfl (by omega) ?_⟩
 have e:unA .xor (.int .u32 (kF 4294967295 l:Nat))=some (.int .u32 (bS l:Nat)):=by
  have h1:=yI l 4294967295 (by omega)
  have h2:=j2 l
  have:=qj .u32 4294967295 (kF 4294967295 l)
  rw[Nat.xor_comm,show kF 4294967295 l ^^^ 4294967295=bS l from rfl,fz (by simp only[IntKind.bits];omega),gR rfl (by simp only[IntKind.bits];omega)]at this
  rw[←this]
  rfl
 simp only[e,bR,aC,aU]
 simp
@[simp] theorem afu(p:Nat):¬ (ptr p=junk):=by simp[ptr]
theorem Ds(a b:ByteArray):ah .neq (.string a) (.string b)=some (.bool (!decide (a=b))):=by
 simp only[ah,kj]
 congr 2
 by_cases h:a=b
 ·subst h;simp
 ·simp[h,toList_eq]
theorem Z7{k:IntKind}{c:Nat}(hk:k.signed=false)(hc:c<2^k.bits):ah .quo (.int k (c:Int)) (.int k 2)=some (.int k ((c/2:Nat):Int)):=by
 rw[yq _ _ _ (by omega)]
 have:((c:Int).tdiv 2)=((c/2:Nat):Int):=by
  rw[CQ (by omega)];simp
 rw[this,gR hk (by omega)]
theorem Ja{k:IntKind}{c:Nat}:ah .rem (.int k (c:Int)) (.int k 2)=some (.int k ((c%2:Nat):Int)):=by
 rw[Dr _ _ _ (by omega)]
 have:((c:Int).tmod 2)=((c%2:Nat):Int):=by
  rw[Int.tmod_eq_emod_of_nonneg (by omega)];simp
 rw[this]
theorem ZW{w0:World}{k2:Value→Value→Value→Hp→Prop}{x0 x4:Value}{h:Hp}:∀(k i c:Nat),i+k=8→c<4294967296→k2 x0 (.int .u32 (nQ k c:Nat)) x4 h→
  nW prog w0 k2 (k+1) x0 (.int .u32 (c:Int)) x4 (.int .i64 (i:Int)) h:=by
 intro k
 induction k with
 |zero=>
  intro i c hi hc hk
  have c8:decide ((i:Int)<8)=false:=decide_eq_false (by omega)
  rw[nW]
  simp only[rS,fQ,bR,c8,eQ]
  exact hk
 |succ k ih=>
  intro i c hi hc hk
  have c8:decide ((i:Int)<8)=true:=decide_eq_true (by omega)
  have e6:=wrN i (by omega)
  have hq:=Z7 (k:=.u32) (c:=c) rfl hc
  have hl:=qu hc
  rw[nW]
  by_cases h2:c%2=1
  ·have c2:(((c%2:Nat):Int)==1)=true:=by simp only[beq_iff_eq];omega
   have e5:ah .xor (.int .u32 ((c/2:Nat):Int)) (.int .u32 2197175160)=some (.int .u32 (jk c:Nat)):=by
    have:=qj .u32 (c/2) 2197175160
    have h7:c/2 ^^^ 2197175160=jk c:=by unfold jk;rw[if_pos h2]
    rw[show (2197175160:Int)=((2197175160:Nat):Int) from rfl,this,h7,fz (by simp only[IntKind.bits];omega),gR rfl (by simp only[IntKind.bits];omega)]
   simp only[rS,fQ,bR,c8,eF,Ja,mA,c2,hq,e5,gJ,e6]
   exact ih (i+1) (jk c) (by omega) (qu hc) hk
  ·have c2:(((c%2:Nat):Int)==1)=false:=by simp only[beq_eq_false_iff_ne,ne_eq];omega
   have h7:c/2=jk c:=by unfold jk;rw[if_neg h2,Nat.xor_zero]
   simp only[rS,fQ,bR,c8,eF,eQ,Ja,mA,c2,hq,gJ,e6]
   rw[h7]
   exact ih (i+1) (jk c) (by omega) (qu hc) hk
theorem ZX{w0:World}{k0:Value→Hp→Prop}{h:Hp}{l:List UInt8}(hl:l.length≤140737488355328):∀(post pre:List UInt8) (c:Nat),pre++post=l→c<4294967296→k0 (.int .u32 (kF c post:Nat)) h→
  nV prog w0 k0 (post.length+1) (.string (str l)) (.int .u32 (c:Int)) (.int .i64 (pre.length:Int)) h:=by
 intro post
 induction post with
 |nil=>
  intro pre c he hc hk
  have:pre=l:=by simpa using he
  subst this
  have c8:decide ((pre.length:Int)<(pre.length:Int))=false:=decide_eq_false (by omega)
  simp only[cS,nV,rR,gM,cL,fQ,bR,c8,eQ]
  exact hk
 |cons b post ih=>
  intro pre c he hc hk
  have hlen:pre.length+(post.length+1)=l.length:=by rw[←he];simp
  have hg:l[pre.length]?=some b:=by rw[←he];simp
  have hb:=lh b
  have c1:decide ((pre.length:Int)<(l.length:Int))=true:=decide_eq_true (by omega)
  have hs:dR (.string (str l)) (.int .i64 (pre.length:Int))=some (.int .u8 (b.toNat:Int)):=by rw[ko,hg];rfl
  have e1:IntKind.u32.wrap (b.toNat:Int)=(b.toNat:Int):=tK _ (by omega)
  have e2:ah .xor (.int .u32 (c:Int)) (.int .u32 (b.toNat:Int))=some (.int .u32 ((c ^^^ b.toNat:Nat):Int)):=by
   have:=pQ b hc
   rw[qj,fz (by simp only[IntKind.bits];omega),gR rfl (by simp only[IntKind.bits];omega)]
  have e6:IntKind.i64.wrap ((pre.length:Int)+1)=((pre.length+1:Nat):Int):=by rw[bM _ (by omega)];simp
  rw[bH,nV]
  simp only[rR,gM,cL,fQ,bR,c1,eF,hs,gC,e1,e2]
  refine ⟨9,ZW 8 0 _ rfl (pQ b hc) ?_⟩
  simp only[gJ,bR,e6]
  have:=ih (pre++[b]) (nQ 8 (c ^^^ b.toNat)) (by simpa using he) (yH _ _ (pQ b hc)) hk
  simpa using this
theorem tv{w0:World}{h:Hp}(l:List UInt8)(hl:l.length≤140737488355328):
  aj prog w0 lK [.string (str l)] h λv h'=>v=.int .u32 (bS l:Nat)∧h'=h:=by
 refine aj.of_fit (by simp) λf=>O3 (by simp) ?_
 refine ⟨l.length+1,ZX hl l [] 4294967295 rfl (by omega) ?_⟩
 have e:ah .xor (.int .u32 (kF 4294967295 l:Nat)) (.int .u32 4294967295)=some (.int .u32 (bS l:Nat)):=by
  have h1:=yI l 4294967295 (by omega)
  have h2:=j2 l
  have:=qj .u32 (kF 4294967295 l) 4294967295
  rw[show (4294967295:Int)=((4294967295:Nat):Int) from rfl,this,show kF 4294967295 l ^^^ 4294967295=bS l from rfl,fz (by simp only[IntKind.bits];omega),gR rfl (by simp only[IntKind.bits];omega)]
 simp only[e,bR,aC,aU]
 simp
theorem aa5{w0:World}{K:Value→Hp→Prop}{h:Hp}{l:List UInt8}(hl:l.length≤8):∀(post pre:List UInt8) (n:Nat),pre++post=l→n<256^pre.length→
  K (.int .u64 (post.foldl (λn b=>n*256+b.toNat) n:Nat)) h→
  od prog w0 K (post.length+1) (.string (str l)) (.int .u64 (n:Int)) (.int .i64 (pre.length:Int)) h:=by
 intro post
 induction post with
 |nil=>
  intro pre n he hn hk
  have:pre=l:=by simpa using he
  subst this
  have c8:decide ((pre.length:Int)<(pre.length:Int))=false:=decide_eq_false (by omega)
  simp only[cS,od,u0,gM,cL,fQ,bR,c8,eQ]
  exact hk
 |cons b post ih=>
  intro pre n he hn hk
  have hlen:pre.length+(post.length+1)=l.length:=by rw[←he];simp
  have hg:l[pre.length]?=some b:=by rw[←he];simp
  have hn8:n<256^7:=cJ hn (rj (by omega) (by omega))
  have hb:=lh b
  have c1:decide ((pre.length:Int)<(l.length:Int))=true:=decide_eq_true (by omega)
  have hs:dR (.string (str l)) (.int .i64 (pre.length:Int))=some (.int .u8 (b.toNat:Int)):=by rw[ko,hg];rfl
  have e1:IntKind.u64.wrap ((n:Int)*256)=((n*256:Nat):Int):=by rw[eL _ (by omega)];simp
  have e2:IntKind.u64.wrap (b.toNat:Int)=(b.toNat:Int):=eL _ (by omega)
  have e3:IntKind.u64.wrap (((n*256:Nat):Int)+(b.toNat:Int))=((n*256+b.toNat:Nat):Int):=by rw[eL _ (by omega)];simp
  have e6:IntKind.i64.wrap ((pre.length:Int)+1)=((pre.length+1:Nat):Int):=by rw[bM _ (by omega)];simp
  rw[bH,od]
  simp only[u0,gM,cL,fQ,bR,c1,eF,hs,gC,nz,gJ,e1,e2,e3,e6]
  have:=ih (pre++[b]) (n*256+b.toNat) (by simpa using he) (by rw[aT,xX,jL];omega) hk
  simpa using this
theorem wR{w0:World}{h:Hp}(l:List UInt8)(hl:l.length≤8):
  aj prog w0 qJ [.string (str l)] h λv h'=>v=.int .u64 (rdn l:Nat)∧h'=h:=by
 refine aj.of_fit (by simp) λf=>O6 (by simp) ?_
 refine ⟨l.length+1,aa5 hl l [] 0 rfl (by simp) ?_⟩
 simp[rdn]
theorem lP{s:List UInt8}{k:Nat}(h:k≤s.length):(⟨s,0⟩:RS).raw k=(s.take k,⟨s.drop k,0⟩):=by
 simp[RS.raw,show ¬ (k:Int)<0 by omega,show ¬ s.length<k by omega]
theorem IQ{s:List UInt8}{k:Nat}(h:s.length<k):(⟨s,0⟩:RS).raw k=([],⟨s,20⟩):=by
 simp[RS.raw,show ¬ (k:Int)<0 by omega,h]
theorem ZR{s:List UInt8}{e k:Int}(h:e≠0):(⟨s,e⟩:RS).raw k=([],⟨s,e⟩):=by
 simp[RS.raw,h]
def unf:List UInt8→Nat×List UInt8×Nat×Int
 |b0::b1::b2::b3::b4::b5::b6::b7::r=>
  if [b0,b1]≠[68,70]∨b3≠0∨1048576<rdn [b4,b5,b6,b7] then (0,[],0,21)
  else if r.length<rdn [b4,b5,b6,b7]+4 then (0,[],0,20)
  else if bS ((b0::b1::b2::b3::b4::b5::b6::b7::r).take (8+rdn [b4,b5,b6,b7]))≠rdn ((r.drop (rdn [b4,b5,b6,b7])).take 4) then (0,[],0,23)
  else (b2.toNat,r.take (rdn [b4,b5,b6,b7]),12+rdn [b4,b5,b6,b7],0)
 |_=>(0,[],0,20)
def xF(u:Nat×List UInt8×Nat×Int):Value:=.tuple #[.int .u8 (u.1:Nat),.string (str u.2.1),.int .i64 (u.2.2.1:Nat),.int .i64 u.2.2.2]
theorem H4{l:List UInt8}(h:¬ l.length<8):∃b0 b1 b2 b3 b4 b5 b6 b7 r,l=b0::b1::b2::b3::b4::b5::b6::b7::r:=by
 match l with
 |b0::b1::b2::b3::b4::b5::b6::b7::r=>exact ⟨b0,b1,b2,b3,b4,b5,b6,b7,r,rfl⟩
 |[]=>simp at h
 |[_]=>simp at h
 |[_,_]=>simp at h
 |[_,_,_]=>simp at h
 |[_,_,_,_]=>simp at h
 |[_,_,_,_,_]=>simp at h
 |[_,_,_,_,_,_]=>simp at h
 |[_,_,_,_,_,_,_]=>simp at h
theorem Md{l:List UInt8}(h:l.length<8):unf l=(0,[],0,20):=by
 match l with
 |b0::b1::b2::b3::b4::b5::b6::b7::r=>simp at h;omega
 |[]=>rfl
 |[_]=>rfl
 |[_,_]=>rfl
 |[_,_,_]=>rfl
 |[_,_,_,_]=>rfl
 |[_,_,_,_,_]=>rfl
 |[_,_,_,_,_,_]=>rfl
 |[_,_,_,_,_,_,_]=>rfl
theorem IV(l:List UInt8):rdn l<256^l.length:=by
 have:=IW l 0 0 (by simp)
 simpa[rdn]using this
theorem B1(b:UInt8):rdn [b]=b.toNat:=by simp[rdn]
theorem LW(a b:UInt8):decide (str [a,b]=⟨#[68,70]⟩)=decide ([a,b]=[68,70]):=by
 have:(⟨#[68,70]⟩:ByteArray)=str [68,70]:=rfl
 rw[this]
 exact decide_eq_decide.2 adu
theorem MQ{w0:World}{h:Hp}(l:List UInt8)(hl:l.length≤140737488355328):
  aj prog w0 Ag [.string (str l)] h λv h'=>v=xF (unf l)∧Step h h' [] []:=by
 refine aj.of_fit (by simp) λf=>Og (by simp) ?_
 by_cases h8:l.length<8
 ·have c1:decide ((l.length:Int)<8)=true:=decide_eq_true (by omega)
  simp only[B7,gM,cL,bR,fQ,c1,eF,aC,cG,Md h8]
  exact ⟨by simp,rfl,Step.refl _ _ (by simp)⟩
 have c1:decide ((l.length:Int)<8)=false:=decide_eq_false (by omega)
 simp only[B7,gM,cL,bR,fQ,c1,eQ]
 refine aA (rq l hl) λv h1 ⟨e,r1,s1⟩ f1=>?_
 subst e
 obtain ⟨b0,b1,b2,b3,b4,b5,b6,b7,r,rfl⟩:=H4 h8
 refine aA (qc r1 (2:Nat) (by omega)) λv h2 ⟨e,r2,s2⟩ f2=>?_
 subst e
 rw[lP (by simp)]at r2 ⊢
 simp only[tT,tV,pU,i5]at r2 ⊢
 refine aA (qe r2) λv h3 ⟨e,r3,s3⟩ f3=>?_
 subst e
 have k1:(⟨b2::b3::b4::b5::b6::b7::r,0⟩:RS).raw 1=([b2],⟨b3::b4::b5::b6::b7::r,0⟩):=lP (k:=1) (by simp)
 rw[k1]at r3 ⊢
 refine aA (qe r3) λv h4 ⟨e,r4,s4⟩ f4=>?_
 subst e
 have k2:(⟨b3::b4::b5::b6::b7::r,0⟩:RS).raw 1=([b3],⟨b4::b5::b6::b7::r,0⟩):=lP (k:=1) (by simp)
 rw[k2]at r4 ⊢
 refine aA (qd r4) λv h5 ⟨e,r5,s5⟩ f5=>?_
 subst e
 have k3:(⟨b4::b5::b6::b7::r,0⟩:RS).raw 4=([b4,b5,b6,b7],⟨r,0⟩):=lP (k:=4) (by simp)
 rw[k3]at r5 ⊢
 have hn:=IV [b4,b5,b6,b7]
 simp only[bH,cS]at hn
 simp only[unf]
 generalize hnn:rdn [b4,b5,b6,b7]=n at hn ⊢
 have s05:Step h h5 [] [h.next]:=((((s1.trans s2).trans s3).trans s4).trans s5)
 have e1:IntKind.i64.wrap ((n:Nat):Int)=(n:Int):=bM _ (by omega)
 have hz:(b3=0)↔b3.toNat=0:=⟨λe=>by rw[e];rfl,λe=>lg.1 (by simpa using e)⟩
 simp only[gC,bR,e1,Ds,LW,B1,jh,iS]
 by_cases hA:[b0,b1]≠[68,70]∨b3≠0∨1048576<n
 ·rw[if_pos hA]
  have hgo:∀(X Y:Hp→Prop),X h5→(ai (.bool (!decide ([b0,b1]=[68,70]))) false (λK=>K (.int .u8 (b3.toNat:Int))) λv28_10=>
    ai (.bool (!decide ([b0,b1]=[68,70]))) false (aa (ah .neq v28_10 (.int .u8 0))) λv29_11=>
    aQ (.bool (!decide ([b0,b1]=[68,70]))) (.bool true) v29_11 λv30_12=>
    ai v30_12 false (λK=>K (.int .i64 (n:Int))) λv32_13=>
    ai v30_12 false (aa (ah .gtr v32_13 (.int .i64 1048576))) λv33_14=>
    aQ v30_12 (.bool true) v33_14 λv34_15=>aB v34_15 X Y) h5:=by
   intro X Y hX
   cases c1:decide ([b0,b1]=[68,70]) with
   |false=>simp only[ju,sE,kg,eF];exact hX
   |true=>
    have hm:=of_decide_eq_true c1
    simp only[ix,oN,jp,jh,bR]
    cases c2:((b3.toNat:Int) != 0) with
    |true=>simp only[sE,kg,eF];exact hX
    |false=>
     have h0:b3.toNat=0:=by simp at c2;omega
     have hn2:1048576<n:=by
      rcases hA with q|q|q
      ·exact absurd hm q
      ·exact absurd (hz.2 h0) q
      ·exact q
     have c3:decide ((1048576:Int)<(n:Int))=true:=decide_eq_true (by omega)
     simp only[oN,jp,iS,bR,c3,eF];exact hX
  refine hgo _ _ ?_
  simp only[aC,cG]
  exact ⟨by simp,rfl,s05.less (by simp)⟩
 ·rw[if_neg hA]
  have hm:[b0,b1]=[68,70]:=Decidable.not_not.1 λq=>hA (.inl q)
  have h0:b3.toNat=0:=hz.1 (Decidable.not_not.1 λq=>hA (.inr (.inl q)))
  have hn2:¬ 1048576<n:=λq=>hA (.inr (.inr q))
  have c2:((b3.toNat:Int) != 0)=false:=by simp;omega
  have c3:decide ((1048576:Int)<(n:Int))=false:=decide_eq_false (by omega)
  simp only[decide_eq_true hm,ix,oN,jp,jh,bR,c2,iS,c3,eQ]
  refine aA (qc r5 (n:Int) (by omega)) λv h6 ⟨e,r6,s6⟩ f6=>?_
  subst e
  refine aA (qd r6) λv h7 ⟨e,r7,s7⟩ f7=>?_
  subst e
  refine aA (ru r7) λv h8 ⟨e,e2⟩ f8=>?_
  subst e e2
  have s07:=(s05.trans s6).trans s7
  by_cases hs:r.length<n+4
  ·rw[if_pos hs]
   have he:(((⟨r,0⟩:RS).raw (n:Int)).2.raw 4).2.err=20:=by
    by_cases h9:r.length<n
    ·rw[IQ h9,ZR (by omega)]
    ·rw[lP (by omega)]
     have:=IQ (s:=r.drop n) (k:=4) (by simp;omega)
     exact congrArg (λx=>x.2.err) this
   rw[he]
   simp only[jh,bR,show ((20:Int) != 0)=true from rfl,eF,aC,cG]
   exact ⟨by simp,rfl,s07.less (by simp)⟩
  ·rw[if_neg hs]
   have k4:(⟨r,0⟩:RS).raw (n:Int)=(r.take n,⟨r.drop n,0⟩):=lP (by omega)
   have k5:(⟨r.drop n,0⟩:RS).raw 4=((r.drop n).take 4,⟨(r.drop n).drop 4,0⟩):=lP (k:=4) (by simp;omega)
   rw[k4,k5]
   have e8:IntKind.i64.wrap ((8:Int)+(n:Int))=((8+n:Nat):Int):=by rw[bM _ (by omega)];omega
   have e12:IntKind.i64.wrap (((8+n:Nat):Int)+4)=((12+n:Nat):Int):=by rw[bM _ (by omega)];omega
   simp only[jh,show ((0:Int) != 0)=false from rfl,eQ,gJ,bR,e8,e12]
   rw[pO _ _ _ (by simp;omega)]
   simp only[bR]
   refine aA (pR _ (by simp only[dV];omega)) λv h9 ⟨e,e2⟩ f9=>?_
   subst e e2
   simp only[jh,bR]
   by_cases hc:bS ((b0::b1::b2::b3::b4::b5::b6::b7::r).take (8+n))=rdn ((r.drop n).take 4)
   ·rw[if_neg (λq=>q hc)]
    have c4:(((bS ((b0::b1::b2::b3::b4::b5::b6::b7::r).take (8+n)):Nat):Int) != ((rdn ((r.drop n).take 4):Nat):Int))=false:=by rw[hc];simp
    simp only[c4,eQ,gJ,bR,e8,e12,aC,cG]
    exact ⟨by simp,rfl,s07.less (by simp)⟩
   ·rw[if_pos hc]
    have c4:(((bS ((b0::b1::b2::b3::b4::b5::b6::b7::r).take (8+n)):Nat):Int) != ((rdn ((r.drop n).take 4):Nat):Int))=true:=by simp only[bne_iff_ne,ne_eq];omega
    simp only[c4,eF,aC,cG]
    exact ⟨by simp,rfl,s07.less (by simp)⟩
theorem ZK{w0:World}{h:Hp}(l:List UInt8)(hl:l.length≤140737488355328):
  aj prog w0 Ap [.string (str l)] h λv h'=>v=xF (unf l)∧h'=h:=by
 refine aj.of_fit (by simp) λf=>O9 (by simp) ?_
 by_cases h8:l.length<8
 ·have c1:decide ((l.length:Int)<8)=true:=decide_eq_true (by omega)
  simp only[BE,gM,cL,bR,fQ,c1,eF,aC,cG,Md h8]
  exact ⟨by simp,rfl,by trivial⟩
 have c1:decide ((l.length:Int)<8)=false:=decide_eq_false (by omega)
 obtain ⟨b0,b1,b2,b3,b4,b5,b6,b7,r,rfl⟩:=H4 h8
 have m1:dD (.string (str (b0::b1::b2::b3::b4::b5::b6::b7::r))) (some (.int .i64 4)) (some (.int .i64 8))=some (.string (str [b4,b5,b6,b7])):=kQ _ .i64 .i64 4 8 (by omega) (by simp)
 have m2:dD (.string (str (b0::b1::b2::b3::b4::b5::b6::b7::r))) none (some (.int .i64 2))=some (.string (str [b0,b1])):=pO _ .i64 2 (by simp)
 have m3:dR (.string (str (b0::b1::b2::b3::b4::b5::b6::b7::r))) (.int .i64 3)=some (.int .u8 (b3.toNat:Int)):=ko _ .i64 3
 have m4:dR (.string (str (b0::b1::b2::b3::b4::b5::b6::b7::r))) (.int .i64 2)=some (.int .u8 (b2.toNat:Int)):=ko _ .i64 2
 simp only[BE,gM,cL,bR,fQ,c1,eQ,m1]
 refine aA (wR [b4,b5,b6,b7] (by simp)) λv h1 ⟨e,e2⟩ f1=>?_
 subst e e2
 have hn:=IV [b4,b5,b6,b7]
 simp only[bH,cS]at hn
 simp only[unf]
 generalize hnn:rdn [b4,b5,b6,b7]=n at hn ⊢
 have e1:IntKind.i64.wrap ((n:Nat):Int)=(n:Int):=bM _ (by omega)
 have hz:(b3=0)↔b3.toNat=0:=⟨λe=>by rw[e];rfl,λe=>lg.1 (by simpa using e)⟩
 simp only[m2,m3,bR,Ds,LW]
 by_cases hA:[b0,b1]≠[68,70]∨b3≠0∨1048576<n
 ·rw[if_pos hA]
  cases c1:decide ([b0,b1]=[68,70]) with
  |false=>
   simp only[ju,sE,kg,eF,aC,cG]
   exact ⟨by simp,rfl,by trivial⟩
  |true=>
   have hm:=of_decide_eq_true c1
   simp only[ix,oN,jp,jh,bR,m3]
   cases c2:((b3.toNat:Int) != 0) with
   |true=>
    simp only[sE,kg,eF,aC,cG]
    exact ⟨by simp,rfl,by trivial⟩
   |false=>
    have h0:b3.toNat=0:=by simp at c2;omega
    have hn2:1048576<n:=by
     rcases hA with q|q|q
     ·exact absurd hm q
     ·exact absurd (hz.2 h0) q
     ·exact q
    have c3:decide ((1048576:Int)<(n:Int))=true:=decide_eq_true (by omega)
    simp only[oN,jp,iS,bR,c3,eF,aC,cG]
    exact ⟨by simp,rfl,by trivial⟩
 ·rw[if_neg hA]
  have hm:[b0,b1]=[68,70]:=Decidable.not_not.1 λq=>hA (.inl q)
  have h0:b3.toNat=0:=hz.1 (Decidable.not_not.1 λq=>hA (.inr (.inl q)))
  have hn2:¬ 1048576<n:=λq=>hA (.inr (.inr q))
  have c2:((b3.toNat:Int) != 0)=false:=by simp;omega
  have c3:decide ((1048576:Int)<(n:Int))=false:=decide_eq_false (by omega)
  have e12:IntKind.i64.wrap ((12:Int)+(n:Int))=((12+n:Nat):Int):=by rw[bM _ (by omega)];omega
  have e8:IntKind.i64.wrap (((12+n:Nat):Int)-4)=((8+n:Nat):Int):=by rw[bM _ (by omega)];omega
  simp only[decide_eq_true hm,ix,oN,jp,jh,bR,m3,c2,iS,c3,eQ,gC,e1,gJ,e12,gM,cL,fQ]
  by_cases hs:r.length<n+4
  ·rw[if_pos hs]
   have c5:decide (((b0::b1::b2::b3::b4::b5::b6::b7::r).length:Int)<((12+n:Nat):Int))=true:=decide_eq_true (by simp only[bH];omega)
   simp only[c5,eF,aC,cG]
   exact ⟨by simp,rfl,by trivial⟩
  ·rw[if_neg hs]
   have c5:decide (((b0::b1::b2::b3::b4::b5::b6::b7::r).length:Int)<((12+n:Nat):Int))=false:=decide_eq_false (by simp only[bH];omega)
   have m5:=kQ (b0::b1::b2::b3::b4::b5::b6::b7::r) .i64 .i64 (8+n) (12+n) (by omega) (by simp only[bH];omega)
   have m6:=pO (b0::b1::b2::b3::b4::b5::b6::b7::r) .i64 (8+n) (by simp only[bH];omega)
   have m7:dD (.string (str (b0::b1::b2::b3::b4::b5::b6::b7::r))) (some (.int .i64 8)) (some (.int .i64 ((8+n:Nat):Int)))=_:=kQ (b0::b1::b2::b3::b4::b5::b6::b7::r) .i64 .i64 8 (8+n) (by omega) (by simp only[bH];omega)
   have q5:((b0::b1::b2::b3::b4::b5::b6::b7::r).take (12+n)).drop (8+n)=(r.drop n).take 4:=by
    rw[nn,show 12+n-(8+n)=4 by omega,jK 8 n]
    rfl
   have q7:((b0::b1::b2::b3::b4::b5::b6::b7::r).take (8+n)).drop 8=r.take n:=by
    rw[nn,show 8+n-8=n by omega]
    rfl
   rw[q5]at m5
   rw[q7]at m7
   simp only[c5,eQ,Bt,wM,rD,bR,e8,m5,m6,dL,dU,yi,true_and]
   refine aA (wR _ (by simp only[dV];omega)) λv h1 ⟨e,e2⟩ f1=>?_
   subst e e2
   simp only[dU,yi,true_and,dL]
   refine aA (tv _ (by simp only[dV];omega)) λv h1 ⟨e,e2⟩ f1=>?_
   subst e e2
   simp only[dU,yi,true_and,dL]
   have hcl:=j2 ((b0::b1::b2::b3::b4::b5::b6::b7::r).take (8+n))
   have e9:IntKind.u64.wrap ((bS ((b0::b1::b2::b3::b4::b5::b6::b7::r).take (8+n)):Nat):Int)=((bS ((b0::b1::b2::b3::b4::b5::b6::b7::r).take (8+n)):Nat):Int):=eL _ (by omega)
   simp only[wM,gC,bR,e9,jh,yR]
   by_cases hc:bS ((b0::b1::b2::b3::b4::b5::b6::b7::r).take (8+n))=rdn ((r.drop n).take 4)
   ·rw[if_neg (λq=>q hc)]
    have c4:(((rdn ((r.drop n).take 4):Nat):Int) != ((bS ((b0::b1::b2::b3::b4::b5::b6::b7::r).take (8+n)):Nat):Int))=false:=by rw[hc];simp
    simp only[c4,eQ,Bt,wM,m4,bR,rD,e8,m7,yR,aC,cG]
    exact ⟨by simp,rfl,by trivial⟩
   ·rw[if_pos hc]
    have c4:(((rdn ((r.drop n).take 4):Nat):Int) != ((bS ((b0::b1::b2::b3::b4::b5::b6::b7::r).take (8+n)):Nat):Int))=true:=by simp only[bne_iff_ne,ne_eq];omega
    simp only[c4,eF,aC,cG]
    exact ⟨by simp,rfl,by trivial⟩
def uv(n:Nat):Value:=.int .u64 (n:Int)
def uvs(l:List Nat):List Value:=l.map uv
@[simp] theorem agc(l:List Nat):(uvs l).length=l.length:=by simp[uvs]
@[simp] theorem agb(l m:List Nat):uvs (l++m)=uvs l++uvs m:=by simp[uvs]
def nums:Nat→List UInt8→List Nat
 |0,_=>[]
 |k+1,l=>rdn (l.take 8)::nums k (l.drop 8)
@[simp] theorem nums_length(k:Nat)(l:List UInt8):(nums k l).length=k:=by
 induction k generalizing l with
 |zero=>rfl
 |succ k ih=>simp[nums,ih]
def rdk:Nat→RS→List Nat×RS
 |0,st=>([],st)
 |k+1,st=>(rdn (st.raw 8).1::(rdk k (st.raw 8).2).1,(rdk k (st.raw 8).2).2)
@[simp] theorem af1(k:Nat)(st:RS):(rdk k st).1.length=k:=by
 induction k generalizing st with
 |zero=>rfl
 |succ k ih=>simp[rdk,ih]
