/- dedupref02.Number. -/
import Derived.Test.YtfmoemconapmhaaGreatKxa
set_option linter.all false
namespace Go.Proofs.YtfmoemconapmhaaGreat.Ah
open Go
theorem aa1{w0:World}{K:Value→Hp→Prop}{n:Nat}:∀(k:Nat) (h:Hp) (x:Value) (pre:List UInt8) (S:List Nat),k≤8→pre.length+k≤8→w0.heap.size≤h.next→Vec w0 h 1 x pre.length (bvs pre) S→
  (∀h' x' S',Vec w0 h' 1 x' (pre++be k n).length (bvs (pre++be k n)) S'→Step h h' S S'→K x' h')→
  nX prog w0 K (k+1) (.int .u64 (n:Int)) x (.int .i64 ((k:Int)-1)) h:=by
 intro k
 induction k with
 |zero=>
  intro h x pre S hk8 hp hf hv hk
  rw[nX]
  simp only[uy,lm,bR,show decide ((0:Int)≤((0:Nat):Int)-1)=false from rfl,eQ]
  exact hk h x S (by simpa[be]using hv) (Step.refl _ _ λb hb=>(hv.lt b hb).2)
 |succ k ih=>
  intro h x pre S hk8 hp hf hv hk
  have e0:((k+1:Nat):Int)-1=(k:Int):=by omega
  have c1:decide ((0:Int)≤(k:Int))=true:=decide_eq_true (by omega)
  have e7:IntKind.i64.wrap (8*(k:Int))=((8*k:Nat):Int):=by rw[bM _ (by omega)];simp
  have e6:IntKind.i64.wrap ((k:Int)-1)=(k:Int)-1:=bM _ (by omega)
  have e8:ah .shr (.int .u64 (n:Int)) (.int .i64 ((8*k:Nat):Int))=some (.int .u64 ((n/256^k:Nat):Int)):=by
   rw[uc _ _ _ _ (by omega),fN,kx (by simp only[IntKind.bits];omega)]
   have:256^k=2^(8*k):=by rw[Nat.pow_mul]
   rw[this];simp
  have e9:(.int .u8 (IntKind.u8.wrap ((n/256^k:Nat):Int)):Value)=bv (UInt8.ofNat (n/256^k)):=by rw[iK,rd];simp
  rw[nX,e0]
  simp only[uy,lm,bR,c1,eF,nz,e7,e8,gC,e9]
  simp
  refine gB (w0:=w0) (m:=1) (s:=1) (by_:=1) (h:=h.new [bv (UInt8.ofNat (n/256^k))] 1) (ys:=bvs [UInt8.ofNat (n/256^k)]) (by simp;omega) (hv.new _ _) (by simp) (iD hf (by simp)) (by simp) (by omega) (by omega) (by omega) (λx' h' S' hv' st2=>?_)
  simp[e6]
  have s3:Step h h' S S':=(((Step.refl h S λb hb=>(hv.lt b hb).2).new _ _).less (λb hb=>by simp[hb])).trans st2
  have hb':=st2.1
  exact ih h' x' (pre++[UInt8.ofNat (n/256^k)]) S' (by omega) (by simp;omega) (by simp at hb';omega) (by simpa using hv') (λh2 x2 S2 hv2 s2=>hk h2 x2 S2 (by simpa[be]using hv2) (s3.trans s2))
theorem lO{w0:World}{h:Hp}(n s:Nat)(hs:s≤8):
  aj prog w0 jo [.int .u64 n,.int .i64 s] h λv h'=>v=.string (str (be s n))∧Step h h' [] []:=by
 refine aj.of_fit (by simp) λf=>O5 (by simp) ?_
 have e6:IntKind.i64.wrap ((s:Int)-1)=(s:Int)-1:=bM _ (by omega)
 simp only[BD,rD,bR,e6]
 refine ⟨s+1,aa1 s h _ [] [] hs (by simp;omega) f.base .nil (λh' x' S' hv st=>?_)⟩
 simp only[gU]at hv
 refine hv.b2s ?_
 simp only[aC,aU]
 exact ⟨by simp,trivial,st.less (by simp)⟩
theorem j7{m:Int}{bs l:List UInt8}(h:(bs.length:Int)+l.length≤m):(⟨m,bs,false⟩:WS).put l=⟨m,bs++l,false⟩:=by
 simp[WS.put];omega
def eR(k:Nat)(b:List UInt8):List UInt8:=[68,70]++be 1 k++be 1 0++be 4 b.length++b
def frame(k:Nat)(b:List UInt8):List UInt8:=eR k b++be 4 (bS (eR k b))
@[simp] theorem ae0(k:Nat)(b:List UInt8):(eR k b).length=8+b.length:=by simp[eR];omega
theorem Mz{w0:World}{h:Hp}(k:Nat)(hk:k<256)(b:List UInt8)(hb:b.length≤70368744177664):
  aj prog w0 Ac [.int .u8 k,.string (str b)] h λv h' =>
   v=(if 1048576<b.length then .tuple #[.string .empty,.int .i64 3] else .tuple #[.string (str (frame k b)),.int .i64 0])∧Step h h' [] []:=by
 refine aj.of_fit (by simp) λf=>NS (by simp) ?_
 simp only[JA,gM,cL,bR,iS]
 by_cases hl:1048576<b.length
 ·have c1:decide ((1048576:Int)<(b.length:Int))=true:=decide_eq_true (by omega)
  simp only[c1,eF,aC,cG,if_pos hl]
  exact ⟨by simp,by trivial,Step.refl _ _ (by simp)⟩
 ·have c1:decide ((1048576:Int)<(b.length:Int))=false:=decide_eq_false (by omega)
  have e8:IntKind.i64.wrap (8+(b.length:Int))=8+(b.length:Int):=bM _ (by omega)
  have e12:IntKind.i64.wrap (8+(b.length:Int)+4)=12+(b.length:Int):=by rw[bM _ (by omega)];omega
  simp only[c1,eQ,gJ,bR,e8,e12,if_neg hl]
  refine aA (tX _ (by omega)) λv h1 ⟨e,w1,s1⟩ f1=>?_
  subst e
  rw[show max (12+(b.length:Int)) 0=12+(b.length:Int) by omega]at w1
  refine aA (yh [68,70] (by simp) w1 (by simp)) λv h2 ⟨S2,w2,s2⟩ f2=>?_
  rw[j7 (by simp;omega)]at w2
  refine aA (Dk k hk w2 (by simp)) λv h3 ⟨S3,w3,s3⟩ f3=>?_
  rw[j7 (by simp;omega)]at w3
  refine aA (Dk 0 (by omega) w3 (by simp)) λv h4 ⟨S4,w4,s4⟩ f4=>?_
  rw[j7 (by simp;omega)]at w4
  have e32:IntKind.u32.wrap (b.length:Int)=(b.length:Int):=tK _ (by omega)
  simp only[gC,bR,e32]
  refine aA (rA b.length w4 (by simp)) λv h5 ⟨S5,w5,s5⟩ f5=>?_
  rw[j7 (by simp;omega)]at w5
  refine aA (yh b hb w5 (by simp;omega)) λv h6 ⟨S6,w6,s6⟩ f6=>?_
  rw[j7 (by simp)]at w6
  have hfr:[]++[68,70]++be 1 k++be 1 0++be 4 b.length++b=eR k b:=by simp[eR]
  rw[hfr]at w6
  refine aA (qf w6) λv h7 ⟨e,e2⟩ f7=>?_
  subst e e2
  have o1:(⟨12+(b.length:Int),eR k b,false⟩:WS).out=eR k b:=rfl
  simp only[yX,xV,tM,xU,bR,o1]
  refine aA (pR (eR k b) (by simp;omega)) λv h8 ⟨e,e2⟩ f8=>?_
  subst e e2
  refine aA (rA (bS (eR k b)) w6 (by simp;omega)) λv h9 ⟨S9,w9,s9⟩ f9=>?_
  rw[j7 (by simp;omega)]at w9
  refine aA (qf w9) λv h10 ⟨e,e2⟩ f10=>?_
  subst e e2
  have o2:(⟨12+(b.length:Int),eR k b++be 4 (bS (eR k b)),false⟩:WS).out=frame k b:=rfl
  have o3:(⟨12+(b.length:Int),eR k b++be 4 (bS (eR k b)),false⟩:WS).err=0:=rfl
  simp only[yX,xV,tM,xU,bR,o2,o3,aC,cG]
  exact ⟨by simp,by trivial,(((((((s1.trans s2).trans s3).trans s4).trans s5).trans s6).trans s9).less (by simp))⟩
theorem ZB{w0:World}{h:Hp}(k:Nat)(hk:k<256)(b:List UInt8)(hb:b.length≤70368744177664):
  aj prog w0 sQ [.int .u8 k,.string (str b)] h λv h' =>
   v=(if 1048576<b.length then .tuple #[.string .empty,.int .i64 3] else .tuple #[.string (str (frame k b)),.int .i64 0])∧Step h h' [] []:=by
 refine aj.of_fit (by simp) λf=>O4 (by simp) ?_
 simp only[JT,gM,cL,bR,iS]
 by_cases hl:1048576<b.length
 ·have c1:decide ((1048576:Int)<(b.length:Int))=true:=decide_eq_true (by omega)
  simp only[c1,eF,aC,cG,if_pos hl]
  exact ⟨by simp,by trivial,Step.refl _ _ (by simp)⟩
 ·have c1:decide ((1048576:Int)<(b.length:Int))=false:=decide_eq_false (by omega)
  have e8:IntKind.u64.wrap (b.length:Int)=(b.length:Int):=eL _ (by omega)
  have kb:(.int .u8 (k:Int):Value)=bv (UInt8.ofNat k):=by rw[iK,fz hk]
  have zb:(.int .u8 0:Value)=bv 0:=rfl
  have hDF:(⟨#[68,70]⟩:ByteArray)=str [68,70]:=rfl
  have hfr:[68,70]++[UInt8.ofNat k,0]++be 4 b.length++b=eR k b:=by simp[eR,be]
  have fin:∀h1,Step h h1 [] []→(am prog w0 lK [.string (str (eR k b))] λv23_15=>
    aa (bG .u64 v23_15) λv24_16=>
    am prog w0 jo [v24_16,(.int .i64 4)] λv25_17=>
    aa (ah .add (.string (str (eR k b))) v25_17) λv26_18=>
    ar [v26_18,(.int .i64 0)] λv h'=>v=.tuple #[.string (str (frame k b)),.int .i64 0]∧Step h h' [] []) h1:=by
   intro h1 s1
   refine aA (tv _ (by simp;omega)) λv h2 ⟨e,e2⟩ f2=>?_
   subst e e2
   have hc:=j2 (eR k b)
   have e9:IntKind.u64.wrap ((bS (eR k b):Nat):Int)=((bS (eR k b):Nat):Int):=eL _ (by omega)
   simp only[gC,bR,e9]
   refine aA (lO _ 4 (by omega)) λv h3 ⟨e,s3⟩ f3=>?_
   subst e
   rw[gZ _ _ (by simp;omega)]
   simp only[bR,hF,aC,cG]
   exact ⟨by simp,rfl,s1.trans s3⟩
  simp only[c1,eQ,Gw,Gx,bR,gM,cL,gC,e8,if_neg hl,Gy,F1,eX,dL]
  constructor
  ·simp[kb,zb,aL,aP,bZ]
   refine my (l:=[UInt8.ofNat k,0]) (iD f.base (by simp)) ?_
   rw[hDF,gZ _ _ (by simp)]
   simp only[hF,bR,dL]
   have s1:Step h (h.new [bv (UInt8.ofNat k),bv 0] 1) [] []:=((Step.refl h [] (by simp)).new _ _).less (by simp)
   refine aA (lO _ 4 (by omega)) λv h2 ⟨e,s2⟩ f2=>?_
   subst e
   have hb2:h2.blk h.next=some (bvs [UInt8.ofNat k,0]):=by rw[(s2.2 h.next (by simp) (by simp)).1];simp
   simp only[dU,dL,Ll]
   refine ⟨my (l:=[UInt8.ofNat k,0]) (kO f.base hb2 (by simp)) ⟨rfl,rfl⟩,?_⟩
   rw[gZ _ _ (by simp)]
   simp only[hF,bR]
   rw[gZ _ _ (by simp;omega)]
   simp only[hF,bR,hfr]
   exact fin h2 (s1.trans s2)
  ·refine aA (lO _ 4 (by omega)) λv h2 ⟨e,s2⟩ f2=>?_
   subst e
   simp[kb,zb,aL,aP,bZ]
   refine my (l:=[UInt8.ofNat k,0]) (iD f2.base (by simp)) ?_
   rw[hDF,gZ _ _ (by simp)]
   simp only[hF,bR]
   rw[gZ _ _ (by simp)]
   simp only[hF,bR]
   rw[gZ _ _ (by simp;omega)]
   simp only[hF,bR,hfr]
   exact fin _ (s2.trans (((Step.refl h2 [] (by simp)).new _ _).less (by simp)))
theorem aee{n:Nat}(h:n<128):vi n=[UInt8.ofNat n]:=by unfold vi;rw[dif_pos h]
theorem aed{n:Nat}(h:¬ n<128):vi n=g7 n::vi (n/128):=by rw[vi];rw[dif_neg h]
theorem Vx(n:Nat):(g7 n).toNat=n%128+128:=by
 unfold g7
 rw[yf]
 show n%128+128<256
 omega
theorem YM{n:Nat}(h:n<256):(UInt8.ofNat n).toNat=n:=yf h
theorem C1(rest:List UInt8):∀(n i acc:Nat),n*128^i<18446744073709551616→(0<i→0<n)→shp (vi n++rest) i acc=(acc+n*128^i,i+(vi n).length,0):=by
 intro n
 induction n using vi.induct with
 |case1 n hn=>
  intro i acc h hi
  rw[aee hn]
  simp only[ku,gU,tB]
  have ht:=YM (n:=n) (by omega)
  rw[if_neg,if_pos (by omega),if_neg]
  ·rw[ht,fz hn];simp
  ·rintro ⟨e,h0⟩
   have:=hi h0
   have h2:(UInt8.ofNat n).toNat=0:=by rw[e];rfl
   omega
  ·rintro ⟨rfl,e⟩
   have:=hi (by omega)
   have:n=1:=by omega
   subst this
   exact e rfl
 |case2 n hn ih=>
  intro i acc h hi
  rw[aed hn]
  simp only[ku,tB]
  have ht:=Vx n
  have h1:n/128*128^(i+1)+n%128*128^i=n*128^i:=by
   rw[jL,nv (128^i) 128,←Nat.mul_assoc,←fW]
   congr 1
   omega
  rw[if_neg,if_neg (by omega),ih (i+1) _ (by omega) (λ_=>by omega),ht]
  ·have h2:(n%128+128)%128=n%128:=by omega
   rw[h2,←h1]
   simp
   omega
  ·rintro ⟨rfl,e⟩
   omega
theorem IZ{k:IntKind}{c:Nat}:ah .rem (.int k (c:Int)) (.int k 128)=some (.int k ((c%128:Nat):Int)):=by
 rw[Dr _ _ _ (by omega)]
 have:(c:Int).tmod 128=((c%128:Nat):Int):=by rw[Int.tmod_eq_emod_of_nonneg (by omega)];simp
 rw[this]
theorem Z6{c:Nat}(hc:c<18446744073709551616):ah .quo (.int .u64 (c:Int)) (.int .u64 128)=some (.int .u64 ((c/128:Nat):Int)):=by
 rw[yq _ _ _ (by omega)]
 have:(c:Int).tdiv 128=((c/128:Nat):Int):=by rw[CQ (by omega)];simp
 rw[this,eL _ (by omega)]
theorem Vw(n:Nat):(.int .u8 (IntKind.u8.wrap (IntKind.u8.wrap ((n%128:Nat):Int)+128)):Value)=bv (g7 n):=by
 have e1:IntKind.u8.wrap ((n%128:Nat):Int)=((n%128:Nat):Int):=md _ (by omega)
 have e2:IntKind.u8.wrap (((n%128:Nat):Int)+128)=((n%128:Nat):Int)+128:=md _ (by omega)
 rw[e1,e2,g7,iK,fz (a:=n%128+128) (by omega)]
 simp
theorem ab0{w0:World}{K:Value→Value→Hp→Prop}(n:Nat):∀(h:Hp) (x:Value) (pre:List UInt8) (S:List Nat),w0.heap.size≤h.next→Vec w0 h 1 x pre.length (bvs pre) S→pre.length+(vi n).length≤100→n<18446744073709551616→
  (∀(h':Hp) (x':Value) (m:Nat) (pre':List UInt8) (S':List Nat),m<128→Vec w0 h' 1 x' pre'.length (bvs pre') S'→pre'++[UInt8.ofNat m]=pre++vi n→Step h h' S S'→K (.int .u64 m) x' h')→
  oe prog w0 K (vi n).length (.int .u64 n) x h:=by
 induction n using vi.induct with
 |case1 n hn=>
  intro h x pre S hf hv hl hb hk
  have e:vi n=[UInt8.ofNat n]:=by unfold vi;rw[dif_pos hn]
  rw[e]at hk ⊢
  simp[oe,u6,show ¬ (128:Int)≤n by omega]
  exact hk h x n pre S hn hv rfl (.refl _ _ λb hb=>(hv.lt b hb).2)
 |case2 n hn ih=>
  intro h x pre S hf hv hl hb hk
  have e:vi n=g7 n::vi (n/128):=by rw[vi];rw[dif_neg hn]
  rw[e]at hk hl ⊢
  simp at hl
  rw[bH,oe]
  have c1:decide ((128:Int)≤(n:Int))=true:=decide_eq_true (by omega)
  simp only[u6,lm,bR,c1,eF,IZ,gC,gJ,Vw,Z6 hb]
  simp
  refine gB (w0:=w0) (m:=1) (s:=1) (by_:=1) (h:=h.new [bv (g7 n)] 1) (ys:=bvs [g7 n]) (by simp;omega) (hv.new _ _) (by simp) (iD hf (by simp)) (by simp) (by omega) (by omega) (by omega) (λx' h' S' hv' st=>?_)
  have st2:Step h h' S S':=(((Step.refl h S λb hb=>(hv.lt b hb).2).new _ _).less (T:=S) (λb hb=>by simp[hb])).trans st
  have:=ih h' x' (pre++[g7 n]) S' (by have:=st2.1;omega) (by simpa using hv') (by simp;omega) (by omega) (λh2 x2 m pre' S2 hm hv2 hp st3=>hk h2 x2 m pre' S2 hm hv2 (by simpa using hp) (st2.trans st3))
  simpa using this
theorem pA{w0:World}{h:Hp}(n:Nat)(hn:n<18446744073709551616):
  aj prog w0 lL [.int .u64 n] h λv h'=>v=.string (str (vi n))∧Step h h' [] []:=by
 refine aj.of_fit (by simp) λf=>OA (by simp) ?_
 have h10:=fU hn
 refine ⟨(vi n).length,ab0 n h _ [] [] f.base .nil (by simp;omega) hn (λh' x' m pre' S' hm hv he st=>?_)⟩
 have e:IntKind.u8.wrap (m:Int)=((m%256:Nat):Int):=by rw[rd];simp
 simp[e]
 have hb:(.int .u8 ((m:Int)%256):Value)=bv (UInt8.ofNat m):=by rw[iK];simp
 rw[hb]
 have hlen:pre'.length+1=(vi n).length:=by rw[←gU (vi n),←he];simp
 have hfb:=f.base
 have:=st.1
 refine gB (w0:=w0) (m:=1) (s:=1) (by_:=1) (h:=h'.new [bv (UInt8.ofNat m)] 1) (ys:=bvs [UInt8.ofNat m]) (by simp;omega) (hv.new _ _) (by simp) (iD (by omega) (by simp)) (by simp) (by omega) (by omega) (by omega) (λx2 h2 S2 hv2 st2=>?_)
 have he2:bvs pre'++bvs [UInt8.ofNat m]=bvs (vi n):=by rw[←kB,he];simp
 rw[he2]at hv2
 refine hv2.b2s ?_
 simp only[aC,aU]
 exact ⟨by simp,by trivial,(((st.new _ _).less (T:=S') (λb hb=>by simp[hb])).trans st2).less (by simp)⟩
theorem ZJ{w0:World}{h:Hp}(l:List UInt8)(hl:l.length≤70368744177664):
  aj prog w0 Ao [.string (str l)] h λv h'=>v=.string (str (vi l.length++l))∧Step h h' [] []:=by
 refine aj.of_fit (by simp) λf=>O8 (by simp) ?_
 have h10:=fU (n:=l.length) (by omega)
 simp only[JW,gM,bR,gC,cL]
 rw[eL _ (by omega)]
 refine aA (pA l.length (by omega)) λv h1 ⟨e,s1⟩ f1=>?_
 subst e
 rw[gZ _ _ (by simp;omega)]
 simp only[bR,aC,aU,hF]
 exact ⟨by simp,trivial,s1⟩
def lv:List UInt8→Nat
 |[]=>0
 |b::l=>b.toNat%128+128*lv l
theorem zX(l m:List UInt8):lv (l++m)=lv l+128^l.length*lv m:=by
 induction l with
 |nil=>simp[lv]
 |cons b l ih=>rw[ku,lv,lv,ih,bH,jL,Nat.mul_add,kw,←Nat.mul_assoc,nv 128 (128^l.length)]
theorem Ik(b:UInt8):lv [b]=b.toNat%128:=by simp[lv]
theorem Yt(l:List UInt8)(k:Nat):lv (l.drop k)≤lv l:=by
 have h1:=zX (l.take k) (l.drop k)
 rw[fw]at h1
 have h2:1≤128^(l.take k).length:=Nat.pos_of_ne_zero (by simp)
 have h3:=jy (lv (l.drop k)) h2
 omega
theorem Ij(l:List UInt8):lv l<128^l.length:=by
 induction l with
 |nil=>simp[lv]
 |cons b l ih=>simp only[lv,bH,jL];omega
theorem aa7{w0:World}{K:Value→Value→Hp→Prop}{h:Hp}{q l:List UInt8}{x5:Value}(hq:∃r,q++r=l)(hb:lv q<18446744073709551616)(h11:q.length≤11)(hk:K x5 (.int .u64 (lv q:Nat)) h):∀k:Nat,k≤q.length→
  nZ prog w0 K (k+1) (.string (str l)) x5 (.int .u64 (lv (q.drop k):Nat)) (.int .i64 ((k:Int)-1)) h:=by
 intro k
 induction k with
 |zero=>
  intro _
  rw[nZ]
  simp only[uz,lm,bR,show decide ((0:Int)≤((0:Nat):Int)-1)=false from rfl,eQ]
  simpa using hk
 |succ k ih=>
  intro hkl
  have hlt:k<q.length:=by omega
  obtain ⟨r,rfl⟩:=hq
  have e0:((k+1:Nat):Int)-1=(k:Int):=by omega
  have c1:decide ((0:Int)≤(k:Int))=true:=decide_eq_true (by omega)
  have hd:q.drop k=q[k]::q.drop (k+1):=jI hlt
  have hv:lv (q.drop k)=q[k].toNat%128+128*lv (q.drop (k+1)):=by rw[hd];rfl
  have hle:=Yt q k
  have hs:dR (.string (str (q++r))) (.int .i64 (k:Int))=some (.int .u8 (q[k].toNat:Int)):=by
   rw[ko,jv hlt,bW hlt];rfl
  have e1:IntKind.u64.wrap (((lv (q.drop (k+1)):Nat):Int)*128)=((lv (q.drop (k+1))*128:Nat):Int):=by rw[eL _ (by omega)];simp
  have e2:IntKind.u64.wrap ((q[k].toNat%128:Nat):Int)=((q[k].toNat%128:Nat):Int):=eL _ (by omega)
  have e3:IntKind.u64.wrap (((lv (q.drop (k+1))*128:Nat):Int)+((q[k].toNat%128:Nat):Int))=((lv (q.drop k):Nat):Int):=by rw[eL _ (by omega)];omega
  have e6:IntKind.i64.wrap ((k:Int)-1)=(k:Int)-1:=bM _ (by omega)
  rw[nZ,e0]
  simp only[uz,lm,bR,c1,eF,nz,e1,hs,IZ,gC,e2,gJ,e3,rD,e6]
  exact ih (by omega)
theorem aa8{w0:World}{k0 kr:Value→Value→Value→Hp→Prop}{h:Hp}{l:List UInt8}(hl:l.length≤140737488355328):∀(post pre:List UInt8) (fuel:Nat),pre++post=l→pre.length≤9→post.length<fuel→
  kr (.int .u64 ((shp post pre.length (lv pre)).1:Nat)) (.int .i64 ((shp post pre.length (lv pre)).2.1:Nat)) (.int .i64 (shp post pre.length (lv pre)).2.2) h→
  nY prog w0 k0 kr fuel (.string (str l)) (.int .u64 0) (.int .i64 0) (.int .i64 0) (.int .i64 (pre.length:Int)) h:=by
 intro post
 induction post with
 |nil=>
  intro pre fuel he hp hfu hr
  obtain ⟨m,rfl⟩:∃m,fuel=m+1:=⟨fuel-1,by simp at hfu;omega⟩
  have:pre=l:=by simpa using he
  subst this
  have c1:decide ((pre.length:Int)<10)=true:=decide_eq_true (by omega)
  rw[nY]
  simp only[rT,fQ,bR,c1,eF,gM,cL,lm,Int.le_refl,decide_true]
  simpa[shp]using hr
 |cons b post ih=>
  intro pre fuel he hp hfu hr
  obtain ⟨m,rfl⟩:∃m,fuel=m+1:=⟨fuel-1,by simp at hfu;omega⟩
  have hlen:pre.length+(post.length+1)=l.length:=by rw[←he];simp
  have hg:l[pre.length]?=some b:=by rw[←he];simp
  have hb:=lh b
  have c1:decide ((pre.length:Int)<10)=true:=decide_eq_true (by omega)
  have c2:decide ((l.length:Int)≤(pre.length:Int))=false:=decide_eq_false (by omega)
  have hs:dR (.string (str l)) (.int .i64 (pre.length:Int))=some (.int .u8 (b.toNat:Int)):=by rw[ko,hg];rfl
  have e5:IntKind.i64.wrap ((pre.length:Int)+1)=((pre.length+1:Nat):Int):=by rw[bM _ (by omega)];simp
  have hz:(b=0)↔b.toNat=0:=⟨λe=>by rw[e];rfl,λe=>lg.1 (by simpa using e)⟩
  have h1z:(b=1)↔b.toNat=1:=⟨λe=>by rw[e];rfl,λe=>lg.1 (by simpa using e)⟩
  rw[tB]at hr
  rw[nY]
  simp only[rT,fQ,bR,c1,eF,gM,cL,lm,c2,eQ,mA]
  have hten:∀{Z:Value→Hp→Prop},((pre.length=9∧1<b.toNat)→Z (.bool true) h)→(¬ (pre.length=9∧1<b.toNat)→Z (.bool false) h)→
    ai (.bool ((pre.length:Int)==9)) true (λK=>K (.string (str l))) (λv19=>ai (.bool ((pre.length:Int)==9)) true (aa (dR v19 (.int .i64 9))) λv20=>ai (.bool ((pre.length:Int)==9)) true (aa (ah .gtr v20 (.int .u8 1))) λv21=>aQ (.bool ((pre.length:Int)==9)) v21 (.bool false) Z) h:=by
   intro Z h1 h2
   by_cases h9:pre.length=9
   ·have c9:((pre.length:Int)==9)=true:=by simp;omega
    have hs9:dR (.string (str l)) (.int .i64 9)=some (.int .u8 (b.toNat:Int)):=by rw[←hs,h9];rfl
    simp only[c9,oP,hs9,bR,iS,kg]
    by_cases hb1:1<b.toNat
    ·have:decide ((1:Int)<(b.toNat:Int))=true:=decide_eq_true (by omega)
     rw[this];exact h1 ⟨h9,hb1⟩
    ·have:decide ((1:Int)<(b.toNat:Int))=false:=decide_eq_false (by omega)
     rw[this];exact h2 (λe=>hb1 e.2)
   ·have c9:((pre.length:Int)==9)=false:=by simp;omega
    simp only[c9,oO,jp]
    exact h2 (λe=>h9 e.1)
  refine hten (λhA=>?_) (λhA=>?_)
  ·rw[if_pos ⟨hA.1,λe=>by have:=h1z.1 e;omega⟩]at hr
   simpa using hr
  ·simp only[eQ,hs,bR,lm]
   by_cases h128:b.toNat<128
   ·have c128:decide ((128:Int)≤(b.toNat:Int))=false:=decide_eq_false (by omega)
    simp only[c128,eQ,mA,bR]
    have hzero:∀{Z:Value→Hp→Prop},((b.toNat=0∧0<pre.length)→Z (.bool true) h)→(¬ (b.toNat=0∧0<pre.length)→Z (.bool false) h)→
      ai (.bool ((b.toNat:Int)==0)) true (λK=>K (.int .i64 (pre.length:Int))) (λv32=>ai (.bool ((b.toNat:Int)==0)) true (aa (ah .gtr v32 (.int .i64 0))) λv33=>aQ (.bool ((b.toNat:Int)==0)) v33 (.bool false) Z) h:=by
     intro Z h1 h2
     by_cases h0:b.toNat=0
     ·have c0:((b.toNat:Int)==0)=true:=by simp;omega
      simp only[c0,oP,iS,bR,kg]
      by_cases hp0:0<pre.length
      ·have:decide ((0:Int)<(pre.length:Int))=true:=decide_eq_true (by omega)
       rw[this];exact h1 ⟨h0,hp0⟩
      ·have:decide ((0:Int)<(pre.length:Int))=false:=decide_eq_false (by omega)
       rw[this];exact h2 (λe=>hp0 e.2)
     ·have c0:((b.toNat:Int)==0)=false:=by simp only[beq_eq_false_iff_ne,ne_eq];omega
      simp only[c0,oO,jp]
      exact h2 (λe=>h0 e.1)
    refine hzero (λhZ=>?_) (λhZ=>?_)
    ·have hr2:kr (.int .u64 0) (.int .i64 0) (.int .i64 21) h:=by
      split at hr
      ·exact hr
      ·rw[if_pos ⟨hz.2 hZ.1,hZ.2⟩]at hr;exact hr
     simpa only[eF]using hr2
    ·have hA':¬ (pre.length=9∧b≠1):=by
      rintro ⟨h9,hb1⟩
      have:¬ b.toNat=1:=λe=>hb1 (h1z.2 e)
      have:¬ 1<b.toNat:=λe=>hA ⟨h9,e⟩
      exact hZ ⟨by omega,by omega⟩
     rw[if_neg hA',if_pos h128,if_neg (λe=>hZ ⟨hz.1 e.1,e.2⟩)]at hr
     simp only[eQ]
     have hv1:lv (pre++[b])=lv pre+b.toNat%128*128^pre.length:=by rw[zX,Ik,nv]
     have hv2:lv (pre++[b])<18446744073709551616:=by
      by_cases h9:pre.length=9
      ·have hb1:b.toNat=1:=h1z.1 (Decidable.not_not.1 λe=>hA' ⟨h9,e⟩)
       have:=Ij pre
       rw[h9]at this
       rw[hv1,hb1,h9]
       omega
      ·have:=Ij (pre++[b])
       have hpow:128^(pre++[b]).length≤128^9:=rj (by omega) (by simp;omega)
       omega
     have hin:=aa7 (w0:=w0) (K:=λy5 y6=>aa (ah .add y5 (.int .i64 1)) λv50=>kr y6 v50 (.int .i64 0)) (h:=h) (q:=pre++[b]) (l:=l) (x5:=.int .i64 (pre.length:Int)) ⟨post,by simpa using he⟩ hv2 (by simp;omega)
      (by simp only[gJ,bR,e5];rw[hv1];exact hr) (pre.length+1) (by simp)
     refine ⟨pre.length+1+1,?_⟩
     have ed:(pre++[b]).drop (pre.length+1)=[]:=List.drop_eq_nil_of_le (by simp)
     rw[ed]at hin
     have e1:((pre.length+1:Nat):Int)-1=(pre.length:Int):=by omega
     rw[e1]at hin
     exact hin
   ·have c128:decide ((128:Int)≤(b.toNat:Int))=true:=decide_eq_true (by omega)
    have h9:pre.length≠9:=λe=>hA ⟨e,by omega⟩
    rw[if_neg (λe=>h9 e.1),if_neg h128]at hr
    simp only[c128,eF,gJ,bR,e5]
    have:=ih (pre++[b]) m (by simpa using he) (by simp;omega) (by simp at hfu;omega) (by
     rw[zX,Ik,nv]
     simpa using hr)
    simpa using this
theorem wQ{w0:World}{h:Hp}(l:List UInt8)(hl:l.length≤140737488355328):
  aj prog w0 qK [.string (str l)] h λv h'=>v=.tuple #[.int .u64 ((shp l 0 0).1:Nat),.int .i64 ((shp l 0 0).2.1:Nat),.int .i64 (shp l 0 0).2.2]∧h'=h:=by
 refine aj.of_fit (by simp) λf=>O7 (by simp) ?_
 refine ⟨l.length+1,?_⟩
 refine aa8 hl l [] _ (by simp) (by simp) (by omega) ?_
 simp[lv]
theorem ZZ(b:UInt8)(l:List UInt8):rdn (b::l)=b.toNat*256^l.length+rdn l:=by
 have key:∀(l:List UInt8) (n:Nat),l.foldl (λn b=>n*256+b.toNat) n=n*256^l.length+rdn l:=by
  intro l
  induction l with
  |nil=>intro n;simp[rdn]
  |cons c l ih=>
   intro n
   have h1:=ih (n*256+c.toNat)
   have h2:=ih (0*256+c.toNat)
   simp only[rdn,rf,bH]at h1 h2 ⊢
   rw[h1,h2,fW,jL,jd,eO,Nat.mul_assoc,nv 256,kw]
 have:=key l (0*256+b.toNat)
 simpa[rdn]using this
theorem tw:∀(s n:Nat),rdn (be s n)=n%256^s:=by
 intro s
 induction s with
 |zero=>intro n;simp[be,rdn,Nat.mod_one]
 |succ s ih=>
  intro n
  rw[be,ZZ,ih,kz]
  have:(UInt8.ofNat (n/256^s)).toNat=n/256^s%256:=by simp
  rw[this,jL,Nat.mod_mul,nv,jK]
theorem Vl(k:Nat)(b:List UInt8):(frame k b).length=12+b.length:=by simp[frame];omega
theorem Mc(k:Nat)(hk:k<256)(b r:List UInt8)(hb:b.length≤1048576):unf (frame k b++r)=(k,b,12+b.length,0):=by
 have e4:be 4 b.length=[UInt8.ofNat (b.length/256^3),UInt8.ofNat (b.length/256^2),UInt8.ofNat (b.length/256^1),UInt8.ofNat (b.length/256^0)]:=rfl
 have e1:be 1 k=[UInt8.ofNat (k/256^0)]:=rfl
 have e0:be 1 0=[0]:=rfl
 have hf0:eR k b=68::70::UInt8.ofNat (k/256^0)::0::UInt8.ofNat (b.length/256^3)::UInt8.ofNat (b.length/256^2)::UInt8.ofNat (b.length/256^1)::UInt8.ofNat (b.length/256^0)::b:=by
  rw[eR,e4,e1,e0];rfl
 have hf:frame k b++r=68::70::UInt8.ofNat (k/256^0)::0::UInt8.ofNat (b.length/256^3)::UInt8.ofNat (b.length/256^2)::UInt8.ofNat (b.length/256^1)::UInt8.ofNat (b.length/256^0)::(b++(be 4 (bS (eR k b))++r)):=by
  rw[frame,cM,hf0];rfl
 have hn:rdn [UInt8.ofNat (b.length/256^3),UInt8.ofNat (b.length/256^2),UInt8.ofNat (b.length/256^1),UInt8.ofNat (b.length/256^0)]=b.length:=by
  rw[←e4,tw,fz (by omega)]
 have hc:=j2 (eR k b)
 rw[hf,unf,hn,if_neg,if_neg,if_neg]
 ·have:(UInt8.ofNat (k/256^0)).toNat=k:=by rw[Nat.pow_zero,Nat.div_one];exact yf hk
  rw[this]
  simp
 ·have h1:(68::70::UInt8.ofNat (k/256^0)::0::UInt8.ofNat (b.length/256^3)::UInt8.ofNat (b.length/256^2)::UInt8.ofNat (b.length/256^1)::UInt8.ofNat (b.length/256^0)::(b++(be 4 (bS (eR k b))++r))).take (8+b.length)=eR k b:=by
   rw[←hf,frame,cM,kZ (by simp),dY (by simp)]
  rw[h1]
  simp
  rw[tw,fz (by omega)]
 ·simp
 ·simp;omega
