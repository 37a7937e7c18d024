/- The document's Open of what Build made. -/
import Derived.Test.YtfmoemconapmhaaGreatUxa
import Derived.Test.YtfmoemconapmhaaGreatTxb
set_option linter.all false
namespace Go.Proofs.YtfmoemconapmhaaGreat.Ah
open Go
section
variable {w0:World}{h h':Hp}
theorem vj{l:List UInt8}{i:Nat}{b:UInt8}(h:l[i]?=some b):dR (.string (str l)) (.int .i64 (i:Int))=some (.int .u8 (b.toNat:Int)):=by
 rw[ko,h];rfl
theorem yQ:∀(l:List Ent) (a:Key),4*l.length≤(dT a l).length
 |[],a=>by simp
 |x::l,a=>by
  have:=yQ l x.k
  rw[dT,aT,lD,bH]
  omega
theorem aaj{k0 kr:Value→Value→Value→Hp→Prop}{x2 x3:Value}{g0:List Ent}{hh:Hp}(f:Fit w0 hh)(hr:∀x,x∈g0→bE x=true)(hl:g0.length≤100000000)(hk:∀h1 x4 S,Step hh h1 [] S→Vec w0 h1 3 x4 g0.length (g0.flatMap ee) S→k0 x2 x3 x4 h1):
  ∀(post pre:List Ent) (h1:Hp) (x4:Value) (S:List Nat) (a:Key),pre++post=g0→a.length≤64→Step hh h1 [] S→Vec w0 h1 3 x4 pre.length (pre.flatMap ee) S→
   ow prog w0 k0 kr (post.length+1) (.string (str (dT a post))) x2 x3 x4 (.string (str a)) h1:=by
 intro post
 induction post with
 |nil=>
  intro pre h1 x4 S a he ha st g
  have hpre:pre=g0:=by simpa using he
  subst hpre
  rw[cS,ow]
  simp only[uG,wd, wa,cL,dT,cS,show decide ((0:Int)<((0:Nat):Int))=false from rfl]
  exact hk h1 x4 S st g
 |cons z post ih=>
  intro pre h1 x4 S a he ha st g
  have hlen:pre.length+(post.length+1)=g0.length:=by rw[←he];simp
  have hz:=(iu z).1 (hr z (by rw[←he];simp))
  obtain ⟨d1,d2,d3⟩:=tA a z.k
  have fb:w0.heap.size≤h1.next:=cY f.base st.1
  obtain ⟨n,hn⟩:∃n,shd a z.k=n:=⟨_,rfl⟩
  rw[hn]at d1 d2 d3
  have hL:dT a (z::post)=UInt8.ofNat n::UInt8.ofNat (z.k.length-n)::cI z.g::UInt8.ofNat z.v.length::(z.k.drop n++(z.v++dT z.k post)):=by simp[dT,eb,hn,cM]
  have hkd:(z.k.drop n).length=z.k.length-n:=by simp
  obtain ⟨m,hm⟩:∃m,z.k.length-n=m:=⟨_,rfl⟩
  rw[hm]at hkd hL
  obtain ⟨u,hu⟩:∃u,z.v.length=u:=⟨_,rfl⟩
  rw[hu]at hL
  obtain ⟨R,hR⟩:∃R,dT z.k post=R:=⟨_,rfl⟩
  have hgl:(cI z.g).toNat=if z.g=true then 1 else 0:=by unfold cI;cases z.g <;> rfl
  rw[hL,hR]
  have t0:(UInt8.ofNat n).toNat=n:=by simp;omega
  have t1:(UInt8.ofNat m).toNat=m:=by simp;omega
  have t3:(UInt8.ofNat u).toNat=u:=by simp;omega
  have i0:=vj (l:=UInt8.ofNat n::UInt8.ofNat m::cI z.g::UInt8.ofNat u::(z.k.drop n++(z.v++R))) (i:=0) rfl
  have i1:=vj (l:=UInt8.ofNat n::UInt8.ofNat m::cI z.g::UInt8.ofNat u::(z.k.drop n++(z.v++R))) (i:=1) rfl
  have i2:=vj (l:=UInt8.ofNat n::UInt8.ofNat m::cI z.g::UInt8.ofNat u::(z.k.drop n++(z.v++R))) (i:=2) rfl
  have i3:=vj (l:=UInt8.ofNat n::UInt8.ofNat m::cI z.g::UInt8.ofNat u::(z.k.drop n++(z.v++R))) (i:=3) rfl
  rw[t0]at i0
  rw[t1]at i1
  rw[t3]at i3
  have hBl:(UInt8.ofNat n::UInt8.ofNat m::cI z.g::UInt8.ofNat u::(z.k.drop n++(z.v++R))).length=4+m+u+R.length:=by simp[hkd,hu];omega
  have m4:=kQ (UInt8.ofNat n::UInt8.ofNat m::cI z.g::UInt8.ofNat u::(z.k.drop n++(z.v++R))) .i64 .i64 4 (4+m) (by omega) (by omega)
  have m5:=kQ (UInt8.ofNat n::UInt8.ofNat m::cI z.g::UInt8.ofNat u::(z.k.drop n++(z.v++R))) .i64 .i64 (4+m) (4+m+u) (by omega) (by omega)
  have m6:=js (UInt8.ofNat n::UInt8.ofNat m::cI z.g::UInt8.ofNat u::(z.k.drop n++(z.v++R))) .i64 (4+m+u) (by omega)
  have q4:((UInt8.ofNat n::UInt8.ofNat m::cI z.g::UInt8.ofNat u::(z.k.drop n++(z.v++R))).take (4+m)).drop 4=z.k.drop n:=by
   rw[jK 4 m]
   simp only[tT,pU,i5]
   exact mq hkd
  have q5:((UInt8.ofNat n::UInt8.ofNat m::cI z.g::UInt8.ofNat u::(z.k.drop n++(z.v++R))).take (4+m+u)).drop (4+m)=z.v:=by
   rw[show 4+m+u=(m+u)+4 by omega,jK 4 m]
   simp only[tT,pU]
   rw[←hkd,List.take_length_add_append,kU,←hu,tR]
  have q6:(UInt8.ofNat n::UInt8.ofNat m::cI z.g::UInt8.ofNat u::(z.k.drop n++(z.v++R))).drop (4+m+u)=R:=by
   rw[show 4+m+u=(m+u)+4 by omega]
   simp only[pU]
   rw[←hkd,List.drop_length_add_append,←hu,kU]
  rw[q4]at m4
  rw[q5]at m5
  rw[q6]at m6
  generalize (UInt8.ofNat n::UInt8.ofNat m::cI z.g::UInt8.ofNat u::(z.k.drop n++(z.v++R)))=B at *
  have m7:=pO a .i64 n d1
  have hkk:a.take n++z.k.drop n=z.k:=by rw[d3,fw]
  have c1:decide ((0:Int)<(B.length:Int))=true:=decide_eq_true (by omega)
  have c2:decide ((B.length:Int)<4)=false:=decide_eq_false (by omega)
  have w0':IntKind.i64.wrap (n:Int)=(n:Int):=bM _ (by omega)
  have w1:IntKind.i64.wrap (m:Int)=(m:Int):=bM _ (by omega)
  have w3:IntKind.i64.wrap (u:Int)=(u:Int):=bM _ (by omega)
  have w4:IntKind.i64.wrap (4+(m:Int))=((4+m:Nat):Int):=by rw[bM _ (by omega)];simp
  have w5:IntKind.i64.wrap (((4+m:Nat):Int)+(u:Int))=((4+m+u:Nat):Int):=by rw[bM _ (by omega)];simp
  have c3:decide ((a.length:Int)<(n:Int))=false:=decide_eq_false (by omega)
  have c4:decide ((1:Int)<((cI z.g).toNat:Int))=false:=decide_eq_false (by rw[hgl];split <;> omega)
  have c5:decide ((B.length:Int)<((4+m+u:Nat):Int))=false:=decide_eq_false (by omega)
  have c6:(((cI z.g).toNat:Int)==1)=z.g:=by rw[hgl];cases z.g <;> rfl
  have ci:∀(k:IntKind) (x:Int),bG .i64 (.int k x)=some (.int .i64 (IntKind.i64.wrap x)):=λk x=>rfl
  rw[bH,ow]
  simp only[uG,wd, wa,cL,c1,c2]
  have i0':dR (.string (str B)) (.int .i64 0)=_:=i0
  have i1':dR (.string (str B)) (.int .i64 1)=_:=i1
  have i2':dR (.string (str B)) (.int .i64 2)=_:=i2
  have i3':dR (.string (str B)) (.int .i64 3)=_:=i3
  have m4':dD (.string (str B)) (some (.int .i64 4)) (some (.int .i64 ((4+m:Nat):Int)))=_:=m4
  simp only[i0',i1',i2',i3',ci,w0',w1,w3,wd, wa,c3,c4,w4,w5,c5,m7,m4',m5,m6,c6]
  rw[iI _ _ (by rw[dV,kW];omega),hkk]
  simp only[wd, wa,fg,dX,dJ,cU,fc]
  refine ⟨rfl,by simp,rfl,by simp,rfl,by simp,?_⟩
  refine jg (e:=ee z) fb g.gv rfl rfl (by omega) (by omega) (by omega) λx' h2 S2 g2 s2=>?_
  subst hR
  refine ih (pre++[z]) h2 x' S2 z.k (by simpa using he) (by omega) (st.trans s2) ?_
  rw[aT,fD]
  simpa using g2
theorem Z9{g:List Ent}(hr:∀x,x∈g→bE x=true)(hl:g.length≤100000000):
  aj prog w0 Av [.string (str (enc g))] h λr h'=>∃v S,r=.tuple #[v,.bool true]∧Vec w0 h' 3 v g.length (g.flatMap ee) S∧Step h h' [] S:=by
 refine aj.of_fit (by simp) λf=>OL (by simp) ?_
 have em:(.string .empty:Value)=.string (str []):=rfl
 simp only[BM]
 rw[em]
 refine ⟨g.length+1,aaj f hr hl (λh1 x4 S st g=>?_) g [] h _ [] [] rfl (by simp) (.refl _ _ (by simp)) .nil⟩
 simp only[aC,cG]
 exact ⟨by simp[g.sl.junk],x4,S,rfl,g,st⟩
theorem rrv{n:Nat}(hn:n<18446744073709551616)(rest:List UInt8):shp (vi n++rest) 0 0=(n,(vi n).length,0):=by
 have h:=C1 rest n 0 0 (by omega) (by omega)
 simpa using h
theorem xE{n:Nat}(h:n<18446744073709551616):IntKind.u64.wrap (n:Int)=(n:Int):=gR rfl h
theorem aa4{k0 kr:Value→Value→Value→Value→Value→Value→Hp→Prop}{x2 x3 x4 x6:Value}{B T:List UInt8}{G:List (List Ent)}{hh:Hp}(f:Fit w0 hh)(hB:B=aK G++T)(hBl:B.length≤100000000)(hG:∀g,g∈G→g≠[]∧∀x,x∈g→bE x=true)(hk:∀h1 x9 S,Step hh h1 [] S→Vec w0 h1 3 x9 G.flatten.length (G.flatten.flatMap ee) S→k0 (.string (str B)) x2 x3 x4 x6 x9 h1):
  ∀(post pre:List (List Ent)) (h1:Hp) (x9:Value) (S:List Nat),pre++post=G→(idx (aK pre).length post).length≤100000000→Step hh h1 [] S→Vec w0 h1 3 x9 pre.flatten.length (pre.flatten.flatMap ee) S→
   ov prog w0 k0 kr (post.length+1) (.string (str B)) x2 x3 x4 x6 (.int .i64 ((aK G).length:Int)) (.string (str (idx (aK pre).length post))) x9 h1:=by
 intro post
 induction post with
 |nil=>
  intro pre h1 x9 S he hI st g
  have hpre:pre=G:=by simpa using he
  subst hpre
  rw[cS,ov]
  simp only[uD,wd, wa,cL,idx,cS,show decide ((0:Int)<((0:Nat):Int))=false from rfl]
  exact hk h1 x9 S st g
 |cons es post ih=>
  intro pre h1 x9 S he hI st g
  obtain ⟨hne,hre⟩:=hG es (by rw[←he];simp)
  have hfk:1≤(cQ es).length∧(cQ es).length≤64:=by
   cases es with
   |nil=>exact absurd rfl hne
   |cons x es=>have:=(iu x).1 (hre x (by simp));simp only[cQ];omega
  have hO:aK G=aK pre++(enc es++(be 4 (bS (enc es))++aK post)):=by
   rw[←he,iC,show es::post=[es]++post from rfl,iC,tn,cM]
  have hOl:=congrArg List.length hO
  have hBl2:=congrArg List.length hB
  simp only[aT,kz]at hOl hBl2
  have hpo:(aK (pre++[es])).length=(aK pre).length+(enc es).length+4:=by rw[iC,aT,kL];omega
  have hcut:(B.take ((aK pre).length+(enc es).length)).drop (aK pre).length=enc es:=by
   rw[hB,hO,cM,List.take_length_add_append,kU,cM,tR]
  have hes4:4*es.length≤(enc es).length:=yQ es []
  have hpf:4*pre.flatten.length≤(aK pre).length:=by
   have:∀P:List (List Ent),4*P.flatten.length≤(aK P).length:=by
    intro P
    induction P with
    |nil=>simp
    |cons a P ih=>
     have:4*a.length≤(enc a).length:=yQ a []
     rw[show a::P=[a]++P from rfl,iC,aT,kL]
     simp only[yb,gw,aT]
     omega
   exact this pre
  have hidx:idx (aK pre).length (es::post)=vi (cQ es).length++(cQ es++(vi (aK pre).length++(vi (enc es).length++idx (aK (pre++[es])).length post))):=by
   rw[hpo]
   simp only[idx,cM]
  rw[hidx]at hI ⊢
  obtain ⟨J,hJ⟩:∃J,idx (aK (pre++[es])).length post=J:=⟨_,rfl⟩
  obtain ⟨a,ha⟩:∃a,(aK pre).length=a:=⟨_,rfl⟩
  obtain ⟨z,hz⟩:∃z,(enc es).length=z:=⟨_,rfl⟩
  obtain ⟨fr,hfr⟩:∃fr,(aK G).length=fr:=⟨_,rfl⟩
  obtain ⟨n,hn⟩:∃n,(cQ es).length=n:=⟨_,rfl⟩
  rw[ha]at hOl hpo hcut hpf hI ⊢
  rw[hz]at hOl hpo hcut hes4 hI ⊢
  rw[hfr]at hOl hBl2 ⊢
  rw[hn]at hfk hI ⊢
  rw[hJ]at hI ⊢
  have v1:=rrv (n:=n) (by omega) (cQ es++(vi a++(vi z++J)))
  have v2:=rrv (n:=a) (by omega) (vi z++J)
  have v3:=rrv (n:=z) (by omega) J
  simp only[aT,hn]at hI
  have l1:(vi n++(cQ es++(vi a++(vi z++J)))).length=(vi n).length+n+(vi a).length+(vi z).length+J.length:=by simp only[aT,hn];omega
  have d1:=js (vi n++(cQ es++(vi a++(vi z++J)))) .i64 ((vi n).length+n) (by omega)
  have d1':(vi n++(cQ es++(vi a++(vi z++J)))).drop ((vi n).length+n)=vi a++(vi z++J):=by rw[List.drop_length_add_append,←hn,kU]
  have d2:=js (vi a++(vi z++J)) .i64 (vi a).length (by simp)
  rw[kU]at d2
  have d3:=js (vi z++J) .i64 (vi z).length (by simp)
  rw[kU]at d3
  have d4:=kQ B .u64 .u64 a (a+z) (by omega) (by omega)
  rw[d1']at d1
  rw[hcut]at d4
  have pvi:1≤(vi n).length:=by unfold vi;split <;> simp
  have c1:decide ((0:Int)<((vi n++(cQ es++(vi a++(vi z++J)))).length:Int))=true:=decide_eq_true (by omega)
  have k1:IntKind.i64.wrap (((vi n++(cQ es++(vi a++(vi z++J)))).length:Int)-((vi n).length:Int))=((n+(vi a).length+(vi z).length+J.length:Nat):Int):=by rw[bM _ (by omega)];omega
  have k2:=xE (n:=n+(vi a).length+(vi z).length+J.length) (by omega)
  have c2:decide (((n+(vi a).length+(vi z).length+J.length:Nat):Int)<(n:Int))=false:=decide_eq_false (by omega)
  have k3:IntKind.i64.wrap (n:Int)=(n:Int):=bM _ (by omega)
  have k4:IntKind.i64.wrap (((vi n).length:Int)+(n:Int))=(((vi n).length+n:Nat):Int):=by rw[bM _ (by omega)];simp
  have k5:=xE (n:=fr) (by omega)
  have c3:decide ((fr:Int)<(a:Int))=false:=decide_eq_false (by omega)
  have k6:IntKind.u64.wrap ((fr:Int)-(a:Int))=((fr-a:Nat):Int):=by rw[show (fr:Int)-(a:Int)=((fr-a:Nat):Int) by omega];exact xE (by omega)
  have c4:decide (((fr-a:Nat):Int)<(z:Int))=false:=decide_eq_false (by omega)
  have k7:IntKind.u64.wrap ((a:Int)+(z:Int))=((a+z:Nat):Int):=by rw[show (a:Int)+(z:Int)=((a+z:Nat):Int) by omega];exact xE (by omega)
  rw[bH,ov]
  simp only[uD,wd, wa,cL,c1]
  refine aA (wQ _ (by omega)) λr h2 ⟨e,e'⟩ f2=>?_
  subst e
  subst h2
  simp only[v1,wd, wa,bne_self_eq_false,k1,k2,c2,k3,k4,d1]
  refine aA (wQ _ (by simp only[aT];omega)) λr h2 ⟨e,e'⟩ f2=>?_
  subst e
  subst h2
  simp only[v2,wd, wa,bne_self_eq_false,d2]
  refine aA (wQ _ (by simp only[aT];omega)) λr h2 ⟨e,e'⟩ f2=>?_
  subst e
  subst h2
  simp only[v3,wd, wa,bne_self_eq_false,k5,c3,k6,c4,d3,k7,d4]
  refine aA (Z9 hre (by omega)) λr h3 ⟨v,S3,e,g3,s3⟩ f3=>?_
  subst e
  have k8:IntKind.i64.wrap ((B.length:Int)-(pre.flatten.length:Int))=((B.length-pre.flatten.length:Nat):Int):=by rw[bM _ (by omega)];omega
  have c5:decide (((B.length-pre.flatten.length:Nat):Int)<(es.length:Int))=false:=decide_eq_false (by omega)
  simp only[wd, wa,g3.sl.lenv,g.sl.lenv,cL,k8,c5]
  have g1:=g.frame s3 (by simp)
  refine gB f3.base g1 g3.sl.lenA g3.src g3.len (by omega) (by omega) (by omega) λx' h4 S4 g4 s4=>?_
  subst hJ hfr
  have s13:Step h1 h3 S S:=(s3.less (T:=[]) (by simp)).keepS λb hb=>(g.lt b hb).2
  refine ih (pre++[es]) h4 x' S4 (by simpa using he) (by omega) ((st.trans s13).trans s4) ?_
  rw[fO,aT,fD]
  simpa using g4
theorem ZF{bl:Nat}{l:List Ent}(hz:dH (bl:Int) l=0)(hl:aY l≤1048576):
  aj prog w0 As [.string (str (aX (bl:Int) l))] h λr h'=>∃v S,r=.tuple #[v,.int .i64 (bl:Int),.int .i64 0]∧Vec w0 h' 3 v l.length (l.flatMap ee) S∧Step h h' [] S:=by
 refine aj.of_fit (by simp) λf=>OF (by simp) ?_
 obtain ⟨q1,q2,q3⟩:=Dt hz
 have hlen:=mB hz hl
 have h4:=kH l
 have hR:aX (bl:Int) l=bld bl l:=by unfold aX;rw[if_pos hz,fN]
 have hbl:=nH bl l
 rw[hR]at hlen ⊢
 have hB:bld bl l=aK (grp bl l)++(idx 0 (grp bl l)++(be 4 bl++(be 4 l.length++(be 4 (grp bl l).length++(be 4 (aK (grp bl l)).length++(be 4 (bS (dE bl l))++eJ)))))):=by
  conv=>lhs;unfold bld
  rw[show dE bl l++(be 4 (bS (dE bl l))++eJ)=(idx 0 (grp bl l)++ij bl l.length (grp bl l).length (aK (grp bl l)).length)++(be 4 (bS (dE bl l))++eJ) from rfl]
  simp only[ij,cM]
 have hgr:∀g,g∈grp bl l→g≠[]∧∀x,x∈g→bE x=true:=λg hg=>⟨mK hg,λx hx=>qt q3 x (by
  have:x∈(grp bl l).flatten:=ib.2 ⟨g,hg,hx⟩
  rwa [iM]at this)⟩
 generalize bS (dE bl l)=cr at hB
 have hfl:=iM bl l
 generalize bld bl l=B at *
 have d1:=js B .i64 (B.length-24) (by omega)
 have e1:B.drop (B.length-24)=be 4 bl++(be 4 l.length++(be 4 (grp bl l).length++(be 4 (aK (grp bl l)).length++(be 4 cr++eJ)))):=by
  rw[show B.length-24=(aK (grp bl l)).length+(idx 0 (grp bl l)).length by omega,hB,List.drop_length_add_append,kU]
 rw[e1]at d1
 have d2:=pO (be 4 bl++(be 4 l.length++(be 4 (grp bl l).length++(be 4 (aK (grp bl l)).length++(be 4 cr++eJ))))) .i64 4 (by simp)
 have e2:(be 4 bl++(be 4 l.length++(be 4 (grp bl l).length++(be 4 (aK (grp bl l)).length++(be 4 cr++eJ))))).take 4=be 4 bl:=mq (by simp)
 rw[e2]at d2
 have d3:=kQ (be 4 bl++(be 4 l.length++(be 4 (grp bl l).length++(be 4 (aK (grp bl l)).length++(be 4 cr++eJ))))) .i64 .i64 12 16 (by omega) (by simp;omega)
 have e3:((be 4 bl++(be 4 l.length++(be 4 (grp bl l).length++(be 4 (aK (grp bl l)).length++(be 4 cr++eJ))))).take 16).drop 12=be 4 (aK (grp bl l)).length:=by
  rw[←cM,←cM,←cM,mq (by simp),mg (by simp)]
 rw[e3]at d3
 have d4:=kQ B .i64 .i64 (aK (grp bl l)).length (B.length-24) (by omega) (by omega)
 have e4:(B.take (B.length-24)).drop (aK (grp bl l)).length=idx 0 (grp bl l):=by
  rw[show B.length-24=(aK (grp bl l)).length+(idx 0 (grp bl l)).length by omega,hB,List.take_length_add_append,kU,tR]
 rw[e4]at d4
 have r1:rdn (be 4 bl)=bl:=by rw[tw];omega
 have r2:rdn (be 4 (aK (grp bl l)).length)=(aK (grp bl l)).length:=by rw[tw];omega
 have k1:IntKind.i64.wrap ((B.length:Int)-24)=((B.length-24:Nat):Int):=by rw[bM _ (by omega)];omega
 have k2:IntKind.i64.wrap (bl:Int)=(bl:Int):=bM _ (by omega)
 have k3:IntKind.i64.wrap ((aK (grp bl l)).length:Int)=((aK (grp bl l)).length:Int):=bM _ (by omega)
 have c1:decide ((B.length:Int)<24)=false:=decide_eq_false (by omega)
 have c2:decide (((B.length-24:Nat):Int)<((aK (grp bl l)).length:Int))=false:=decide_eq_false (by omega)
 have d2':dD (.string (str (be 4 bl++(be 4 l.length++(be 4 (grp bl l).length++(be 4 (aK (grp bl l)).length++(be 4 cr++eJ))))))) none (some (.int .i64 4))=_:=d2
 have d3':dD (.string (str (be 4 bl++(be 4 l.length++(be 4 (grp bl l).length++(be 4 (aK (grp bl l)).length++(be 4 cr++eJ))))))) (some (.int .i64 12)) (some (.int .i64 16))=_:=d3
 simp only[BJ,wd, wa,cL,c1,k1,d1,d2',d3']
 refine aA (wR _ (by simp)) λr h2 ⟨e,e'⟩ f2=>?_
 subst e
 subst h2
 simp only[r1,wd, wa,k2]
 refine aA (wR _ (by simp)) λr h2 ⟨e,e'⟩ f2=>?_
 subst e
 subst h2
 simp only[r2,wd, wa,k3,cL,k1,c2,d4]
 refine ⟨(grp bl l).length+1,aa4 (hh:=h) (G:=grp bl l) f hB (by omega) hgr (λh3 x9 S s3 g3=>?_) (grp bl l) [] h _ [] rfl (by simp only[aK,pY,cS];omega) (.refl _ _ (by simp)) .nil⟩
 rw[hfl]at g3
 refine aA (IF (bl:Int) g3.sl (by omega)) λr h4 ⟨e,s4⟩ f4=>?_
 subst e
 rw[hz,hR]
 have c3:ah .neq (.string (str B)) (.string (str B))=some (.bool false):=by rw[jB];simp
 simp only[wd, wa,bne_self_eq_false,c3,aC,cG]
 exact ⟨by simp[g3.sl.junk],x9,S,rfl,g3.frame s4 (by simp),s3.trans (s4.keepS λb hb=>(g3.lt b hb).2)⟩
end
def jr(bl:Nat)(l:List Ent):List Nat:=[(aX (bl:Int) l).length,bS (aX (bl:Int) l)]
def lvN(bl:Nat)(r:List (List Ent)):List Nat:=r.length::r.flatMap (jr bl)
def jV(s:LS):List Nat:=[s.bl,s.fan,s.top,(bY s.lv).length]++(s.lv.take (aW s.lv)).flatMap (lvN s.bl)
theorem Jg(bl:Nat):∀r:List (List Ent),(r.flatMap (jr bl)).flatMap vi=r.flatMap (dB bl)
 |[]=>rfl
 |l::r=>by
  rw[eN,fD,Jg bl r,eN]
  simp[jr,dB]
theorem Ii(bl:Nat):∀lv:List (List (List Ent)),(lv.flatMap (lvN bl)).flatMap vi=lv.flatMap (lvB bl)
 |[]=>rfl
 |r::lv=>by
  rw[eN,fD,Ii bl lv,eN]
  simp[lvN,lvB,Jg]
theorem zZ(s:LS):(jV s).flatMap vi=cH s:=by
 unfold jV cH
 rw[fD,Ii]
 simp
theorem H6:∀l:List Nat,l.length≤(l.flatMap vi).length
 |[]=>by simp
 |n::l=>by
  have:=H6 l
  have:=Mi n
  simp only[eN,aT,bH]
  omega
section
variable {w0:World}{h h':Hp}
theorem aas{k0 kr:Value→Value→Value→Value→Value→Value→Value→Hp→Prop}{x1 x2 x3 x6 x7 x8:Value}{N:List Nat}{hh:Hp}(f:Fit w0 hh)(hN:∀n,n∈N→n≤1099511627776)(hl:(N.flatMap vi).length≤100000000)(hk:∀h1 x13 S,Step hh h1 [] S→Vec w0 h1 1 x13 N.length (inV N) S→k0 x1 x2 x3 x6 x7 x8 x13 h1):
  ∀(post pre:List Nat) (h1:Hp) (x13:Value) (S:List Nat),pre++post=N→Step hh h1 [] S→Vec w0 h1 1 x13 pre.length (inV pre) S→
   oH prog w0 k0 kr (post.length+1) x1 x2 x3 x6 x7 x8 (.string (str (post.flatMap vi))) x13 h1:=by
 intro post
 induction post with
 |nil=>
  intro pre h1 x13 S he st g
  have hpre:pre=N:=by simpa using he
  subst hpre
  rw[cS,oH]
  simp only[uR,wd, wa,cL,pY,cS,show decide ((0:Int)<((0:Nat):Int))=false from rfl]
  exact hk h1 x13 S st g
 |cons n post ih=>
  intro pre h1 x13 S he st g
  have hn:=hN n (by rw[←he];simp)
  have hp:=Mi n
  have hNl:N.flatMap vi=pre.flatMap vi++(vi n++post.flatMap vi):=by rw[←he];simp
  have hNl2:=congrArg List.length hNl
  simp only[aT]at hNl2
  have hpl:=H6 pre
  have v1:=rrv (n:=n) (by omega) (post.flatMap vi)
  have d1:=js (vi n++post.flatMap vi) .i64 (vi n).length (by simp)
  rw[kU]at d1
  have fb:w0.heap.size≤h1.next:=cY f.base st.1
  have c1:decide ((0:Int)<((vi n++post.flatMap vi).length:Int))=true:=decide_eq_true (by rw[aT];omega)
  have c2:decide ((1099511627776:Int)<(n:Int))=false:=decide_eq_false (by omega)
  have k3:IntKind.i64.wrap (n:Int)=(n:Int):=bM _ (by omega)
  rw[bH,oH,eN]
  simp only[uR,wd, wa,cL,c1]
  refine aA (wQ _ (by rw[aT];omega)) λr h2 ⟨e,e'⟩ f2=>?_
  subst e
  subst h2
  simp only[v1,wd, wa,bne_self_eq_false,c2,k3]
  refine lk fb g.gv rfl (by omega) (by omega) λx' h3 S3 g3 s3=>?_
  simp only[d1,wd, wa]
  refine ih (pre++[n]) h3 x' S3 (by simpa using he) (st.trans s3) ?_
  rw[zz,aT]
  exact g3
structure RLI(w0:World)(hh h1:Hp)(q qa q3 N0:Nat)(nums cs3 us:List Value)(lvd:List (List (List Ent)))(i:Nat)(v:Value)(ps:List (Value×List Ent))(U A:List Nat):Prop where
 st:Step hh h1 [] []
 bq:h1.blk q=some (nums++[.slice none 0 0,.slice (some ⟨qa,0,none⟩) 16 16])
 ba:h1.blk qa=some (us.set i v)
 b3:h1.blk q3=some cs3
 ez:h1.esz qa=1
 lq:hh.next≤q∧q<N0
 la:hh.next≤qa∧qa<N0
 l3:hh.next≤q3∧q3<N0
 n0:N0≤h1.next
 vec:Vec w0 h1 1 v ps.length (ps.map (·.1)) U
 rn:∀p:Value×List Ent,p∈ps→Es w0 h1 p.1 p.2∧∀b,b∈bL p.1→b∈A
 oth:∀(j:Nat) w,j≠i→us[j]?=some w→fG w0 h1 A w (lvd.getD j [])
 lA:∀b,b∈A→N0≤b∧b<h1.next
 lU:∀b,b∈U→N0≤b
 d1:q≠qa∧q3≠qa
 d2:∀b,b∈U→b∉A
theorem RLI.frame{hh:Hp}{q qa q3 N0 i:Nat}{nums cs3 us:List Value}{lvd:List (List (List Ent))}{v:Value}{ps:List (Value×List Ent)}{U A X X':List Nat}(l:RLI w0 hh h q qa q3 N0 nums cs3 us lvd i v ps U A)(st:Step h h' X X')(hX:∀b,b∈X→b=qa∨b∈U):
  Step hh h' [] []∧h'.blk q=some (nums++[.slice none 0 0,.slice (some ⟨qa,0,none⟩) 16 16])∧h'.blk q3=some cs3∧(∀p:Value×List Ent,p∈ps→Es w0 h' p.1 p.2∧∀b,b∈bL p.1→b∈A)∧(∀(j:Nat) w,j≠i→us[j]?=some w→fG w0 h' A w (lvd.getD j []))∧(∀b,b∈A→b∉X):=by
 have n:=l.st.1
 have n0:=l.n0
 have l1:=l.lq
 have l2:=l.la
 have l3:=l.l3
 have dA:∀b,b∈A→b∉X:=λb hb w=>by
  rcases hX b w with e|e
  ·have:=l.lA b hb;omega
  ·exact l.d2 b e hb
 have dq:∀b,b<N0→b≠qa→b∉X:=λb h1 h2 w=>by
  rcases hX b w with e|e
  ·exact h2 e
  ·have:=l.lU b e;omega
 refine ⟨⟨by have:=st.1;omega,λb hb _=>?_,by simp,by rw[st.lp,l.st.lp]⟩,by rw[(st.keep q (by omega) (dq q l1.2 l.d1.1)).1];exact l.bq,by rw[(st.keep q3 (by omega) (dq q3 l3.2 l.d1.2)).1];exact l.b3,λp hp=>?_,λj w hj hw=>(l.oth j w hj hw).frame (λb hb=>(l.lA b hb).2) st dA,dA⟩
 ·have k1:=l.st.keep b hb (by simp)
  have k2:=st.keep b (by omega) (dq b (by omega) (by omega))
  exact ⟨k2.1.trans k1.1,k2.2.trans k1.2⟩
 ·obtain ⟨r,hr⟩:=l.rn p hp
  exact ⟨Sl.stepL r (λb hb=>(l.lA b (hr b hb)).2) st (λb hb=>dA b (hr b hb)),hr⟩
theorem RLI.step0{hh:Hp}{q qa q3 N0 i:Nat}{nums cs3 us:List Value}{lvd:List (List (List Ent))}{v:Value}{ps:List (Value×List Ent)}{U A X':List Nat}(l:RLI w0 hh h q qa q3 N0 nums cs3 us lvd i v ps U A)(st:Step h h' [] X'):RLI w0 hh h' q qa q3 N0 nums cs3 us lvd i v ps U A:=by
 obtain ⟨e1,e2,e3,e4,e5,-⟩:=l.frame st (by simp)
 have n0:=l.n0
 have l2:=l.la
 have k:=st.keep qa (by omega) (by simp)
 have n:=st.1
 exact ⟨e1,e2,by rw[k.1];exact l.ba,e3,by rw[k.2];exact l.ez,l.lq,l.la,l.l3,by omega,l.vec.frame st (by simp),e4,e5,λb hb=>by have:=l.lA b hb;omega,l.lU,l.d1,l.d2⟩
theorem RLI.next{hh:Hp}{q qa q3 N0 i:Nat}{nums cs3 us:List Value}{s:LS}{v:Value}{ps:List (Value×List Ent)}{U A:List Nat}(l:RLI w0 hh h q qa q3 N0 nums cs3 us (s.lv.take i) i v ps U A)(hl3:us.length=16)(hlv:s.lv.length=16)(hi:i<16)(hnil:∀j,i≤j→j<16→us[j]?=some (.slice none 0 0))(e:ps.map (·.2)=s.lv.getD i []):
  RLI w0 hh h q qa q3 N0 nums cs3 (us.set i v) (s.lv.take (i+1)) (i+1) (.slice none 0 0) [] [] (U++A)∧(us.set i v).length=16∧∀j,i+1≤j→j<16→(us.set i v)[j]?=some (.slice none 0 0):=by
 have hnil':∀j,i+1≤j→j<16→(us.set i v)[j]?=some (.slice none 0 0):=λj h1 h2=>by
  rw[hH (by omega)]
  exact hnil j (by omega) h2
 have hset:(us.set i v).set (i+1) (.slice none 0 0)=us.set i v:=by
  refine nr λj=>?_
  by_cases hj:j=i+1
  ·subst hj
   by_cases h16:i+1<16
   ·rw[ia (by simp;omega),hnil' (i+1) (bF _) h16]
   ·rw[fF (by simp;omega),fF (by simp;omega)]
  ·rw[hH (λe=>hj e.symm)]
 refine ⟨⟨l.st,l.bq,by rw[hset];exact l.ba,l.b3,l.ez,l.lq,l.la,l.l3,l.n0,.nil,by simp,λj w hj hw=>?_,λb hb=>?_,by simp,l.d1,by simp⟩,by simpa using hl3,hnil'⟩
 ·rw[getD_take]
  by_cases hji:j=i
  ·subst hji
   rw[ia (by omega)]at hw
   cases hw
   rw[if_pos (by omega),←e]
   refine ⟨ps,rfl,l.vec.sl,λb hb=>by rw[l.vec.sblk_eq]at hb;simp[hb],λp hp=>?_⟩
   obtain ⟨r,hr⟩:=l.rn p hp
   exact ⟨r,λb hb=>by simp[hr b hb]⟩
  ·rw[hH (λe=>hji e.symm)]at hw
   have:=l.oth j w hji hw
   rw[getD_take]at this
   have h2:(if j<i then s.lv.getD j [] else [])=if j<i+1 then s.lv.getD j [] else []:=by
    by_cases h3:j<i
    ·rw[if_pos h3,if_pos (by omega)]
    ·rw[if_neg h3,if_neg (by omega)]
   rw[h2]at this
   exact this.more (by simp +contextual)
 ·rcases aS.1 hb with r|r
  ·exact ⟨l.lU b r,(l.vec.lt b r).2⟩
  ·exact l.lA b r
theorem z7(l:List Nat)(n:Nat):(inV l).drop n=inV (l.drop n):=by simp[inV]
theorem adk(l:List (List UInt8))(n:Nat):(stV l).drop n=stV (l.drop n):=by simp[stV]
theorem Sl.behind{x:Value}{n k:Nat}{ys:List Value}{K:av}(v:Sl w0 h 1 x n ys)(hk:k≤n)(hK:∀x',bL x'=bL x→Sl w0 h 1 x' (n-k) (ys.drop k)→K x' h):cT 1 x (some (.int .i64 (k:Int))) none none K h:=by
 have hl:=v.len
 refine v.cutN (lo:=k) (hi:=n) eY fH hk (bF _) λx' _ hs g=>?_
 rw[dY (by omega),mt]at g
 exact hK x' hs g
theorem aar{k4:Value→Value→Value→Value→Value→Value→Value→Value→Value→Hp→Prop}{kr:Value→Value→Value→Value→Value→Value→Value→Value→Value→Hp→Prop}{hh:Hp}{q qa q3 N0 i bl:Nat}{nums cs3 us:List Value}{x1 x6 x7 x17:Value}{lvd:List (List (List Ent))}{Di more:List (List Ent)}{rest:List Nat}(fh:w0.heap.size≤hh.next)(hn3:nums.length=3)(hl3:us.length=16)(hi:i<16)(hc:cs3[0]?=some (.int .i64 (bl:Int)))(hfs:∀l,l∈Di→dH (bl:Int) l=0∧aY l≤1048576)(hl:Di.length+more.length≤1000000)
  (hk:∀h1 x2 x13 v ps U A,RLI w0 hh h1 q qa q3 N0 nums cs3 us lvd i v ps U A→ps.map (·.2)=Di→Sl w0 h1 1 x2 more.length (stV (more.map λl=>aX (bl:Int) l))→(∀b,b∈bL x2→b<N0∧b≠qa)→Sl w0 h1 1 x13 rest.length (inV rest)→(∀b,b∈bL x13→b<N0∧b≠qa)→k4 x1 x2 (.pointer (some ⟨q3,0,none⟩)) x6 x7 (.pointer (some ⟨q,0,none⟩)) x13 x17 (.int .i64 (i:Int)) h1):
  ∀(post pre:List (List Ent)) (h1:Hp) (x2 x13 v:Value) (ps:List (Value×List Ent)) (U A:List Nat),pre++post=Di→RLI w0 hh h1 q qa q3 N0 nums cs3 us lvd i v ps U A→ps.map (·.2)=pre→Sl w0 h1 1 x2 (post++more).length (stV ((post++more).map λl=>aX (bl:Int) l))→(∀b,b∈bL x2→b<N0∧b≠qa)→Sl w0 h1 1 x13 (post.flatMap (jr bl)++rest).length (inV (post.flatMap (jr bl)++rest))→(∀b,b∈bL x13→b<N0∧b≠qa)→
   oJ prog w0 k4 kr (post.length+1) x1 x2 (.pointer (some ⟨q3,0,none⟩)) x6 x7 (.pointer (some ⟨q,0,none⟩)) x13 x17 (.int .i64 (i:Int)) (.int .i64 (Di.length:Int)) (.int .i64 (pre.length:Int)) h1:=by
 intro post
 induction post with
 |nil=>
  intro pre h1 x2 x13 v ps U A he l e g2 o2 g13 o13
  have hpre:pre=Di:=by simpa using he
  subst hpre
  rw[cS,oJ]
  simp only[uS,wd, wa,dQ,decide_false]
  exact hk h1 x2 x13 v ps U A l e g2 o2 g13 o13
 |cons z post ih=>
  intro pre h1 x2 x13 v ps U A he l e g2 o2 g13 o13
  have hlen:pre.length+(post.length+1)=Di.length:=by rw[←he];simp
  obtain ⟨hbz,hez⟩:=hfs z (by rw[←he];simp)
  have c1:decide ((pre.length:Int)<(Di.length:Int))=true:=decide_eq_true (by omega)
  have e6:=wrS pre z (by omega)
  have hg0:(stV ((z::post++more).map λl=>aX (bl:Int) l))[0]?=some (.string (str (aX (bl:Int) z))):=rfl
  have c2:(((z::post++more).length:Int)==0)=false:=by simp;omega
  have hN13:((z::post).flatMap (jr bl)++rest).length=2+(post.flatMap (jr bl)++rest).length:=by simp[jr];omega
  have c3:decide ((((z::post).flatMap (jr bl)++rest).length:Int)<2)=false:=decide_eq_false (by omega)
  have hpsl:ps.length=pre.length:=by have:=congrArg List.length e;simpa using this
  have l1:=l.lq
  have l2:=l.la
  have l3:=l.l3
  have n0:=l.n0
  have wq:w0.heap.size≤q:=by omega
  have wa:w0.heap.size≤qa:=by omega
  have w3:w0.heap.size≤q3:=by omega
  have hq4:∀{hx:Hp} {v ps U A},RLI w0 hh hx q qa q3 N0 nums cs3 us lvd i v ps U A→∀{K:av},K (.slice (some ⟨qa,0,none⟩) 16 16) hx→al w0 (.pointer (some ⟨q,4,none⟩)) K hx:=λl K hK=>aq wq l.bq (by rw[i6 (by omega),hn3];rfl) hK
  rw[bH,oJ]
  simp only[uS,wd, wa,c1,g2.lenv,c2,g13.lenv,c3]
  refine g2.one (i:=0) hg0 ?_
  refine aA (ZF hbz hez) λr h3 ⟨x,M,er,gx,s3⟩ f3=>?_
  subst er
  have m3:=l.step0 s3
  have hM:∀b,b∈M→h1.next≤b∧b<h3.next:=λb hb=>⟨by rcases (s3.own b hb).2 with w|w;simp at w;exact w,(s3.own b hb).1⟩
  have t0:(#[x,.int .i64 (bl:Int),.int .i64 0]:Array Value)[0]?=some x:=rfl
  have t1:(#[x,.int .i64 (bl:Int),.int .i64 0]:Array Value)[1]?=some (.int .i64 (bl:Int)):=rfl
  have t2:(#[x,.int .i64 (bl:Int),.int .i64 0]:Array Value)[2]?=some (.int .i64 0):=rfl
  simp only[wd, wa,t0,t1,t2,bne_self_eq_false]
  refine aq w3 m3.b3 hc ?_
  simp only[wd, wa,bne_self_eq_false]
  have hsi:∀w:Value,(us.set i w)[i]?=some w:=λw=>ia (by omega)
  refine hq4 m3 ?_
  refine hq4 m3 ?_
  refine oS (by omega) ?_
  refine aq wa m3.ba (hsi v) ?_
  refine ln gx.sl.isC ?_
  have s4:Step h3 (h3.new [x] 1) [] [h3.next]:=(Step.refl h3 [] (by simp)).new _ _
  have m4:=m3.step0 s4
  have b4:(h3.new [x] 1).blk h3.next=some [x]:=by simp
  have n4:(h3.new [x] 1).next=h3.next+1:=rfl
  have gx4:=gx.frame s4 (by simp)
  have n3:=s3.1
  have s14:Step h1 (h3.new [x] 1) [] []:=(s3.less (T:=[]) (by simp)).trans (s4.less (by simp))
  have fb3:=f3.base
  generalize h3.new [x] 1=h4 at *
  simp only[dU,eX,dL,ft]
  refine ⟨⟨aq wa m4.ba (hsi v) rfl,hq4 m4 rfl,hq4 m4 rfl⟩,?_⟩
  refine gB (by omega) m4.vec rfl (kO (w0:=w0) fb3 b4 rfl) rfl (by omega) (by omega) (by omega) λv' h5 U' g5 s5=>?_
  have own5:∀b,b∈U'→b∈U∨h4.next≤b:=λb hb=>(s5.own b hb).2
  have hUl:∀b,b∈U→b<h1.next:=λb hb=>(l.vec.lt b hb).2
  have haU:qa∉U:=λw=>by have:=l.lU qa w;omega
  have haU':qa∉U':=λw=>by rcases own5 qa w with r|r;exact haU r;omega
  have ba5:h5.blk qa=some (us.set i v):=by rw[(s5.keep qa (by omega) haU).1];exact m4.ba
  have bq5:h5.blk q=some (nums++[.slice none 0 0,.slice (some ⟨qa,0,none⟩) 16 16]):=by rw[(s5.keep q (by omega) (λw=>by have:=l.lU q w;omega)).1];exact m4.bq
  simp only[dU,eX,dL,ft]
  refine ⟨aq wq bq5 (by rw[i6 (by omega),hn3];rfl) rfl,?_⟩
  refine oS (by omega) ?_
  refine eH wa ba5 (by rw[i7];omega) g5.sl.isC ?_
  rw[List.set_set]
  have n5:=s5.1
  have sP:Step h5 (h5.put qa (us.set i v')) [qa] [qa]:=(Step.refl h5 [qa] (by simp;omega)).put (by simp) _
  have bP:(h5.put qa (us.set i v')).blk qa=some (us.set i v'):=by simp
  have eP:(h5.put qa (us.set i v')).esz qa=1:=by show h5.esz qa=1;rw[(s5.keep qa (by omega) haU).2];exact m4.ez
  have nP:(h5.put qa (us.set i v')).next=h5.next:=rfl
  have sX:Step h4 (h5.put qa (us.set i v')) (qa::U) (qa::U'):=(s5.consR (by omega)).trans (sP.wide (by simp) λb hb=>by
   rcases bB.1 hb with w|w
   ·subst w;exact .inl (by simp)
   ·exact .inr ⟨by simp[w],(s5.own b w).1⟩)
  have g7:=g5.frame sP (λb hb w=>by simp at w;subst w;exact haU' hb)
  have m4':=m4
  obtain ⟨y1,y2,y3,y4,y5,y6⟩:=m4'.frame sX (by simp)
  generalize h5.put qa (us.set i v')=h6 at *
  have hMX:∀b,b∈M→b∉qa::U:=λb hb w=>by
   have:=hM b hb
   rcases bB.1 w with w|w
   ·omega
   ·have:=hUl b w;omega
  have gx6:=gx4.frame sX hMX
  have fr:∀{y:Value} {n:Nat} {ys:List Value},Sl w0 h1 1 y n ys→(∀b,b∈bL y→b<N0∧b≠qa)→Sl w0 h6 1 y n ys:=λgy oy=>
   (gy.stepL (λb hb=>by have:=oy b hb;omega) s14 (by simp)).stepL (λb hb=>by have:=oy b hb;omega) sX (λb hb w=>by
    have:=oy b hb
    rcases bB.1 w with w|w
    ·exact this.2 w
    ·have:=l.lU b w;omega)
  have g13':=fr g13 o13
  have g2':=fr g2 o2
  refine Sl.behind (k:=2) g13' (by omega) λx13' e13 g13'=>?_
  refine Sl.behind (k:=1) g2' (by simp) λx2' e2 g2'=>?_
  rw[z7,hN13,Nat.add_sub_cancel_left]at g13'
  rw[adk]at g2'
  simp only[wd, wa,e6]
  refine ih (pre++[z]) h6 x2' x13' v' (ps++[(x,z)]) U' (M++A) (by simpa using he) ⟨y1,y2,bP,y3,eP,l1,l2,l3,by omega,by rw[aT,eI];exact g7,λp hp=>?_,λj w hj hw=>(y5 j w hj hw).more (by simp +contextual),λb hb=>?_,λb hb=>?_,l.d1,λb hb w=>?_⟩ (by rw[eI,e];rfl) (by simpa using g2') (λb hb=>o2 b (by rw[←e2];exact hb)) g13' (λb hb=>o13 b (by rw[←e13];exact hb))
  ·rcases aS.1 hp with w|w
   ·obtain ⟨r,hr⟩:=y4 p w
    exact ⟨r,λb hb=>by simp[hr b hb]⟩
   ·simp at w
    subst w
    exact ⟨gx6.sl,λb hb=>by rw[gx6.sblk_eq]at hb;simp[hb]⟩
  ·rcases aS.1 hb with w|w
   ·have:=hM b w;omega
   ·have:=l.lA b w;omega
  ·rcases own5 b hb with w|w
   ·exact l.lU b w
   ·omega
  ·rcases own5 b hb with r|r
   ·rcases aS.1 w with w|w
    ·have:=hM b w;have:=hUl b r;omega
    ·exact l.d2 b r w
   ·rcases aS.1 w with w|w
    ·have:=hM b w;omega
    ·have:=l.lA b w;omega
end
theorem Yw{s:LS}{W:Nat}(ok:LOk s W)(hW:W≤1048576):∀n,n∈jV s→n≤1099511627776:=by
 intro n hn
 have hnum:=ok.num
 have hrun:=ok.runs
 have hlv:=ok.len
 unfold jV at hn
 simp only[aS,bB,List.not_mem_nil,or_false,mi]at hn
 rcases hn with (rfl|rfl|rfl|rfl)|⟨r,hr,hn⟩
 ·omega
 ·omega
 ·omega
 ·unfold bY;rw[dV,eA];omega
 ·have hrm:=jb hr
  unfold lvN at hn
  rcases bB.1 hn with e|hn
  ·obtain ⟨j,hj⟩:=kV hrm
   have:=ok.lvl j
   rw[getD_some hj]at this
   omega
  ·obtain ⟨l,hl,hn⟩:=mi.1 hn
   have hc:=(ok.rok r hrm l hl).1
   have hs:aY l≤(s.lv.flatten.map aY).sum:=pP (ib.2 ⟨r,hrm,hl⟩)
   have:=ok.size
   have h1:=mB (nG hnum.1 hnum.2.1 hc) (by omega)
   have h2:=j2 (aX (s.bl:Int) l)
   simp only[jr,bB,List.not_mem_nil,or_false]at hn
   rcases hn with e|e <;> omega
section
variable {w0:World}{h h':Hp}
theorem aat{k2 kr:Value→Value→Value→Value→Value→Value→Hp→Prop}{hh:Hp}{q qa q3 N0:Nat}{nums cs3:List Value}{x1 x6 x7:Value}{s:LS}{W:Nat}(fh:w0.heap.size≤hh.next)(hn3:nums.length=3)(hc:cs3[0]?=some (.int .i64 (s.bl:Int)))(ok:LOk s W)(hW:W≤1048576)
  (hk:∀h1 x2 x13 us A,RLI w0 hh h1 q qa q3 N0 nums cs3 us (s.lv.take (aW s.lv)) (aW s.lv) (.slice none 0 0) [] [] A→us.length=16→(∀j,aW s.lv≤j→j<16→us[j]?=some (.slice none 0 0))→Sl w0 h1 1 x2 0 []→Sl w0 h1 1 x13 0 []→k2 x1 x2 x6 x7 (.pointer (some ⟨q,0,none⟩)) x13 h1):
  ∀(m i:Nat) (h1:Hp) (x2 x13:Value) (us:List Value) (A:List Nat),i+m=aW s.lv→RLI w0 hh h1 q qa q3 N0 nums cs3 us (s.lv.take i) i (.slice none 0 0) [] [] A→us.length=16→(∀j,i≤j→j<16→us[j]?=some (.slice none 0 0))→
   Sl w0 h1 1 x2 (s.lv.drop i).flatten.length (stV ((s.lv.drop i).flatten.map λl=>aX (s.bl:Int) l))→(∀b,b∈bL x2→b<N0∧b≠qa)→Sl w0 h1 1 x13 (((s.lv.take (aW s.lv)).drop i).flatMap (lvN s.bl)).length (inV (((s.lv.take (aW s.lv)).drop i).flatMap (lvN s.bl)))→(∀b,b∈bL x13→b<N0∧b≠qa)→
   oI prog w0 k2 kr (m+1) x1 x2 (.pointer (some ⟨q3,0,none⟩)) x6 x7 (.pointer (some ⟨q,0,none⟩)) x13 (.int .i64 (aW s.lv:Int)) (.int .i64 (i:Int)) h1:=by
 have hlv:=ok.len
 have hla:=j6 s.lv
 have hnum:=ok.num
 have hrun:=ok.runs
 intro m
 induction m with
 |zero=>
  intro i h1 x2 x13 us A hi l hl3 hnil g2 o2 g13 o13
  have:i=aW s.lv:=by omega
  subst this
  rw[F9 (λj hj=>qD s.lv j hj)]at g2
  rw[iz (by rw[dV];omega)]at g13
  rw[oI]
  simp only[rY,wd, wa,dQ,decide_false]
  exact hk h1 x2 x13 us A l hl3 hnil g2 g13
 |succ m ih=>
  intro i h1 x2 x13 us A hi l hl3 hnil g2 o2 g13 o13
  have c1:decide ((i:Int)<(aW s.lv:Int))=true:=decide_eq_true (by omega)
  have e6:=wrN i (by omega)
  have hgi:s.lv[i]?=some (s.lv.getD i []):=by rw[cR,bW (by omega)];rfl
  have hgm:s.lv.getD i []∈s.lv:=cK hgi
  have hdi:(s.lv.drop i).flatten=s.lv.getD i []++(s.lv.drop (i+1)).flatten:=by rw[uT (by omega),gw]
  have hti:(s.lv.take (aW s.lv)).drop i=s.lv.getD i []::(s.lv.take (aW s.lv)).drop (i+1):=by
   rw[jI (by rw[dV];omega),List.getElem_take,cR,bW (by omega)]
   rfl
  have hDl:(s.lv.getD i []).length+(s.lv.drop (i+1)).flatten.length≤1000000:=by
   have h1:=congrArg List.length hdi
   have h3:(s.lv.drop i).flatten.length≤s.lv.flatten.length:=by
    conv=>rhs;rw[←fw i s.lv,fO,aT]
    omega
   rw[aT]at h1
   omega
  rw[hti,eN]at g13
  have hN:lvN s.bl (s.lv.getD i [])++((s.lv.take (aW s.lv)).drop (i+1)).flatMap (lvN s.bl)=(s.lv.getD i []).length::((s.lv.getD i []).flatMap (jr s.bl)++((s.lv.take (aW s.lv)).drop (i+1)).flatMap (lvN s.bl)):=rfl
  rw[hN]at g13
  rw[hdi]at g2
  have hfs:∀l,l∈s.lv.getD i []→dH (s.bl:Int) l=0∧aY l≤1048576:=λl hl=>by
   have hc:=(ok.rok _ hgm l hl).1
   have hs:aY l≤(s.lv.flatten.map aY).sum:=pP (ib.2 ⟨_,hgm,hl⟩)
   have:=ok.size
   exact ⟨nG hnum.1 hnum.2.1 hc,by omega⟩
  generalize s.lv.getD i []=r at *
  generalize hrest:((s.lv.take (aW s.lv)).drop (i+1)).flatMap (lvN s.bl)=rest at *
  have c2:(((r.length::(r.flatMap (jr s.bl)++rest)).length:Int)==0)=false:=by simp;omega
  have c3:decide (((r++(s.lv.drop (i+1)).flatten).length:Int)<(r.length:Int))=false:=decide_eq_false (by rw[aT];omega)
  have h0:(inV (r.length::(r.flatMap (jr s.bl)++rest)))[0]?=some (.int .i64 (r.length:Int)):=rfl
  rw[oI]
  simp only[rY,wd, wa,c1,g13.lenv,c2]
  refine g13.one (i:=0) h0 ?_
  simp only[g2.lenv,wd, wa,c3]
  refine g13.one (i:=0) h0 ?_
  refine Sl.behind (k:=1) g13 (by simp) λx13' e13 g13'=>?_
  rw[z7,bH,Nat.add_sub_cancel]at g13'
  refine ⟨r.length+1,aar (Di:=r) (more:=(s.lv.drop (i+1)).flatten) (rest:=rest) fh hn3 hl3 (by omega) hc hfs hDl (λh2 y2 y13 v ps U A2 l2 e2 q2 p2 q13 p13=>?_) r [] h1 x2 x13' _ [] [] A rfl l rfl g2 o2 g13' (λb hb=>o13 b (by rw[←e13];exact hb))⟩
  obtain ⟨l4,hl4,hn4⟩:=l2.next hl3 hlv (by omega) hnil (by rw[e2,getD_some hgi])
  subst hrest
  simp only[wd, wa,e6]
  exact ih (i+1) h2 y2 y13 _ _ (by omega) l4 hl4 hn4 q2 p2 q13 p13
theorem ZD{vf:Value}{s:LS}{W:Nat}(ok:LOk s W)(hW:W≤1048576)(hman:(cH s).length≤1048576)(g:Sl w0 h 1 vf (gK s).length (stV (gK s)))(og:∀b,b∈bL vf→b<h.next):
  aj prog w0 A5 [eZ (s.bl:Int) (s.fan:Int) (s.top:Int),.string (str (frame 77 (cH s))),vf] h λr h'=>∃p S' A',r=.tuple #[p,.int .i64 0]∧Rv w0 h' p { s with mem:=[] } S' A'∧Step h h' [] (S'++A'):=by
 refine aj.of_fit (by simp[eZ,g.junk]) λf=>OZ (by simp[eZ,g.junk]) ?_
 have hnum:=ok.num
 have hright:=ok.right
 have hlv:=ok.len
 have hla:=j6 s.lv
 have hrun:=ok.runs
 have fb:=f.base
 have hfl:=Vl 77 (cH s)
 have hunf:=Mc 77 (by omega) (cH s) [] hman
 rw[dG]at hunf
 simp only[BW,eZ]
 refine iJ (e:=[.int .i64 (s.bl:Int),.int .i64 (s.fan:Int),.int .i64 (s.top:Int)]) ?_
 have s1:Step h (h.new [.int .i64 (s.bl:Int),.int .i64 (s.fan:Int),.int .i64 (s.top:Int)] 3) [] []:=((Step.refl h [] (by simp)).new _ _).less (by simp)
 have b1:(h.new [.int .i64 (s.bl:Int),.int .i64 (s.fan:Int),.int .i64 (s.top:Int)] 3).blk h.next=some [.int .i64 (s.bl:Int),.int .i64 (s.fan:Int),.int .i64 (s.top:Int)]:=by simp
 have n1:(h.new [.int .i64 (s.bl:Int),.int .i64 (s.fan:Int),.int .i64 (s.top:Int)] 3).next=h.next+1:=rfl
 generalize h.new [.int .i64 (s.bl:Int),.int .i64 (s.fan:Int),.int .i64 (s.top:Int)] 3=h1 at *
 refine cO fb b1 rfl ?_
 refine aA (IJ (s.bl:Int) (s.fan:Int) (s.top:Int)) λr h2 ⟨cc,_⟩ f2=>?_
 obtain ⟨q,qa,e2,bq,ba,ez,ne,lq,la,s2⟩:=cc hright
 subst e2
 have hnn:aN (cW (s.bl:Int).toNat (s.fan:Int).toNat (s.top:Int).toNat)=aN s:=by simp[aN,cW]
 rw[hnn]at bq
 have c0:((0:Int) != 0)=false:=rfl
 simp only[c0,wd, wa]
 refine aA (ZK (frame 77 (cH s)) (by omega)) λr h3 ⟨e3,e3'⟩ f3=>?_
 rw[hunf]at e3
 subst e3
 subst h3
 have c1:(((77:Nat):Int) != 77)=false:=rfl
 have c2:(((12+(cH s).length:Nat):Int) != ((frame 77 (cH s)).length:Int))=false:=by rw[hfl];simp
 have t0:(#[.int .u8 ((77:Nat):Int),.string (str (cH s)),.int .i64 ((12+(cH s).length:Nat):Int),.int .i64 0]:Array Value)[0]?=some (.int .u8 ((77:Nat):Int)):=rfl
 have t1:(#[.int .u8 ((77:Nat):Int),.string (str (cH s)),.int .i64 ((12+(cH s).length:Nat):Int),.int .i64 0]:Array Value)[1]?=some (.string (str (cH s))):=rfl
 have t2:(#[.int .u8 ((77:Nat):Int),.string (str (cH s)),.int .i64 ((12+(cH s).length:Nat):Int),.int .i64 0]:Array Value)[2]?=some (.int .i64 ((12+(cH s).length:Nat):Int)):=rfl
 have t3:(#[.int .u8 ((77:Nat):Int),.string (str (cH s)),.int .i64 ((12+(cH s).length:Nat):Int),.int .i64 0]:Array Value)[3]?=some (.int .i64 0):=rfl
 simp only[xF,c0,c1,c2,cL,wd, wa]
 rw[←zZ s]
 refine ⟨(jV s).length+1,aas (hh:=h2) f2 (Yw ok hW) (by rw[zZ];omega) (λh3 x13 S3 s3 g3=>?_) (jV s) [] h2 _ [] rfl (.refl _ _ (by simp)) .nil⟩
 have hNl:(jV s).length=4+((s.lv.take (aW s.lv)).flatMap (lvN s.bl)).length:=by unfold jV;rw[aT];rfl
 have hrl:(bY s.lv).length=aW s.lv:=by unfold bY;rw[dV,eA,hlv];omega
 have h3v:(inV (jV s))[3]?=some (.int .i64 (aW s.lv:Int)):=by
  rw[←hrl];rfl
 have c3:decide (((jV s).length:Int)<4)=false:=decide_eq_false (by omega)
 have c4:decide ((16:Int)<(aW s.lv:Int))=false:=decide_eq_false (by omega)
 simp only[g3.sl.lenv,wd, wa,c3]
 refine g3.sl.one (i:=3) h3v ?_
 simp only[wd, wa,c4]
 refine g3.sl.one (i:=3) h3v ?_
 refine Sl.behind (k:=4) g3.sl (by omega) λx13' e13 g13=>?_
 have hdr:(jV s).drop 4=(s.lv.take (aW s.lv)).flatMap (lvN s.bl):=rfl
 rw[z7,hdr,hNl,Nat.add_sub_cancel_left]at g13
 have n2:=s2.1
 have n3:=s3.1
 have s30:Step h2 h3 [] []:=s3.less (by simp)
 have sA:Step h h3 [] []:=(s1.trans s2).trans s30
 have hS3:∀b,b∈S3→h2.next≤b∧b<h3.next:=λb hb=>⟨by rcases (s3.own b hb).2 with w|w;simp at w;exact w,(s3.own b hb).1⟩
 have l:RLI w0 h h3 q qa h.next h3.next (aN s) [.int .i64 (s.bl:Int),.int .i64 (s.fan:Int),.int .i64 (s.top:Int)] (List.replicate 16 (.slice none 0 0)) (s.lv.take 0) 0 (.slice none 0 0) [] [] []:=
  ⟨sA,by rw[(s30.keep q lq.2 (by simp)).1];exact bq,by rw[(s30.keep qa la.2 (by simp)).1];exact ba,by rw[(s30.keep _ (by omega) (by simp)).1,(s2.keep _ (by omega) (by simp)).1];exact b1,by rw[(s30.keep qa la.2 (by simp)).2];exact ez,⟨by omega,by omega⟩,⟨by omega,by omega⟩,⟨by omega,by omega⟩,bF _,.nil,by simp,λj w hj hw=>by
   have hv:=pX (cK hw)
   subst hv
   exact .nil _,by simp,by simp,⟨ne,by omega⟩,by simp⟩
 have g2:Sl w0 h3 1 vf (gK s).length (stV (gK s)):=g.stepL og sA (by simp)
 have hfb:s.lv.flatten.length=(gK s).length:=by simp only[gK,eA]
 refine ⟨aW s.lv+1,aat (hh:=h) (N0:=h3.next) fb rfl rfl ok hW (λh4 y2 y13 us A l4 hl4 hn4 q2 q13=>?_) (aW s.lv) 0 h3 vf x13' _ _ (by omega) l (by simp) (λj _ hj=>by rw[tN,if_pos hj]) (by rw[i5,hfb];exact g2) (λb hb=>by have:=og b hb;have:=sA.1;omega) (by rw[i5];exact g13) (λb hb=>by rw[e13,g3.sblk_eq]at hb;have:=hS3 b hb;omega)⟩
 have l1:=l4.lq
 have l2:=l4.la
 have n0:=l4.n0
 have hset:us.set (aW s.lv) (.slice none 0 0)=us:=by
  refine nr λj=>?_
  by_cases hj:j=aW s.lv
  ·subst hj
   by_cases h16:aW s.lv<16
   ·rw[ia (by omega),hn4 _ (bF _) h16]
   ·rw[fF (by simp;omega),fF (by omega)]
  ·rw[hH (λe=>hj e.symm)]
 have rc:RvC w0 h4 q qa 16 (.slice none 0 0) us { s with mem:=[] } A:=⟨l4.bq,by rw[←hset];exact l4.ba,hl4,ne,by omega,by omega,by omega,by omega,λb hb=>(l4.lA b hb).2,⟨λw=>by have:=l4.lA q w;omega,λw=>by have:=l4.lA qa w;omega⟩,hlv,.nil,by simp[bL],λj v hj=>?_,l4.ez,.inl ⟨by decide,bF _⟩⟩
 ·have ok':LOk { s with mem:=[] } W:=⟨ok.right,ok.len,.nil,by simp,by show 0<s.top;omega,ok.rok,by
   have:=ok.size
   show aY []+(s.lv.flatten.map aY).sum≤W
   have h0:aY []=0:=rfl
   omega⟩
  have hm':cH { s with mem:=[] } = cH s:=rfl
  have z0:decide ((0:Int)<((0:Nat):Int))=false:=rfl
  have c9:ah .neq (.string (str (frame 77 (cH s)))) (.string (str (frame 77 (cH s))))=some (.bool false):=by rw[jB];simp
  simp only[q13.lenv,z0,q2.lenv,wd, wa]
  refine aA (Bx rc.rv ok' hW (by rw[hm'];exact hman)) λu h5 ⟨e5,s5⟩ f5=>?_
  rw[hm']at e5
  subst e5
  rw[zZ]
  simp only[c9,wd, wa,aC,cG]
  refine ⟨by simp,_,[q,qa],A,rfl,(rc.step0 s5).rv,(l4.st.trans s5).claim λb hb=>?_⟩
  have n5:=s5.1
  simp only[aS,bB,List.not_mem_nil,or_false]at hb
  rcases hb with (w|w)|w
  ·subst w;omega
  ·subst w;omega
  ·have:=l4.lA b w;have:=sA.1;omega
 ·by_cases hjl:j<aW s.lv
  ·have:=l4.oth j v (by omega) hj
   rw[getD_take,if_pos hjl]at this
   exact this
  ·have hj16:j<16:=by have:=(cB.1 hj).1;omega
   rw[hn4 j (by omega) hj16]at hj
   cases hj
   show fG w0 h4 A _ (s.lv.getD j [])
   rw[qD s.lv j (by omega)]
   exact .nil _
end
