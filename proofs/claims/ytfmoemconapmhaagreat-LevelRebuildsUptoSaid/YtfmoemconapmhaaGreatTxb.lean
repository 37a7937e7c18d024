/- The document's Files and Manifest. -/
import Derived.Test.YtfmoemconapmhaaGreatTxa
set_option linter.all false
namespace Go.Proofs.YtfmoemconapmhaaGreat.Ah
open Go
def stV (l:List (List UInt8)):List Value:=l.map λ b=>.string (str b)
theorem q0m0 (l:List (List UInt8)):(stV l).length=l.length:=by simp [stV]
theorem q0hl (a b:List (List UInt8)):stV (a++b)=stV a++stV b:=by simp [stV]
section
variable {w0:World} {h h':Hp}
theorem Sl.place1 {i n:Nat} {x u:Value} {ys:List Value} {k:IntKind} {K:qh} (v:Sl w0 h 1 x n ys) (hv:ys[i]?=some u)
  (hk:∀ p,(∀ h' K',Sl w0 h' 1 x n ys→K' u h'→qg w0 p K' h')→K p h):q04 1 x (.int k (i:Int)) K h:=by
 have hi:i < n:=by have:=(List.getElem?_eq_some_iff.1 hv).1; have:=v.len; omega
 obtain ⟨a,c,rfl⟩:=v.slice
 rcases v.src.2 with ⟨q,-⟩ | ⟨-,ad,rfl,-⟩
 ·omega
 ·refine ⟨ad,n,c,k,i,rfl,rfl,by omega,by omega,hk _ λ h' K' v' k'=>?_⟩
  have:=v'.one (k:=k) (K:=K') hv k'
  obtain ⟨ad',n',c',k2,j,e1,e2,-,-,r⟩:=this
  cases e1
  cases e2
  exact r
theorem q0l3 {k2:Value→Value→Value→Value→Value→Hp→Prop} {q:Nat} {x13 x14 x15 x19:Value} {s:LS} {nums1:List Value} {ps:List (Value × List Ent)} {bs0:List (List UInt8)} {hh:Hp} (f:Fit w0 hh) (hq:w0.heap.size≤q) (hql:q < hh.next) (hb:hh.blk q=some (.int .i64 (s.bl:Int) :: nums1)) (sv:Sl w0 hh 1 x19 ps.length (ps.map (·.1))) (hp:∀ p:Value × List Ent,p∈ps→Es w0 hh p.1 p.2∧p.2.length≤2000000)
  (hl:bs0.length + ps.length≤2000000) (hk:∀ h1 x S,Step hh h1 [] S→Vec w0 h1 1 x (bs0++ps.map λ p=>q0i (s.bl:Int) p.2).length (stV (bs0++ps.map λ p=>q0i (s.bl:Int) p.2)) S→k2 (.pointer (some ⟨q,0,none⟩)) x x13 x14 x15 h1):
  ∀ (post pre:List (Value × List Ent)) (h1:Hp) (x:Value) (S:List Nat),pre++post=ps→Step hh h1 [] S→Vec w0 h1 1 x (bs0++pre.map λ p=>q0i (s.bl:Int) p.2).length (stV (bs0++pre.map λ p=>q0i (s.bl:Int) p.2)) S→
   q7t prog w0 k2 (post.length + 1) (.pointer (some ⟨q,0,none⟩)) x x13 x14 x15 x19 (.int .i64 (ps.length:Int)) (.int .i64 (pre.length:Int)) h1:=by
 intro post
 induction post with
 | nil=>
  intro pre h1 x S he st g
  have hpre:pre=ps:=by simpa using he
  subst hpre
  rw [List.length_nil,q7t]
  simp only [qdv,wd, wa,Int.lt_irrefl,decide_false]
  exact hk h1 x S st g
 | cons z post ih=>
  intro pre h1 x S he st g
  have hlen:pre.length + (post.length + 1)=ps.length:=by rw [← he]; simp
  have hg:(ps.map (·.1))[pre.length]?=some z.1:=by rw [← he]; simp
  have hz:=hp z (by rw [← he]; simp)
  have c1:decide ((pre.length:Int) < (ps.length:Int))=true:=decide_eq_true (by omega)
  have e6:=wrS pre z (by omega)
  have st0:Step hh h1 [] []:=st.less (by simp)
  have hb1:h1.blk q=some (.int .i64 (s.bl:Int) :: nums1):=by rw [(st0.keep q hql (by simp)).1]; exact hb
  rw [List.length_cons,q7t]
  simp only [qdv,wd, wa,c1]
  refine (sv.step f st0 (by simp)).one hg ?_
  refine qj hq hb1 rfl ?_
  refine qq (q0fu (s.bl:Int) (Sl.step hz.1 f st0 (by simp)) hz.2) λ v h2 ⟨e,s2⟩ f2=>?_
  subst e
  simp only [wd, wa]
  have g2:=g.frame s2 (by simp)
  have st2:=st.trans (s2.keepS λ b hb=>(g.lt b hb).2)
  have hgl:(bs0++pre.map λ p=>q0i (s.bl:Int) p.2).length≤2000000:=by simp; omega
  refine q79 f2.base g2.gv rfl (by omega) (by omega) λ x' h3 S3 g3 s3=>?_
  simp only [e6]
  refine ih (pre++[z]) h3 x' S3 (by simpa using he) (st2.trans s3) ?_
  rw [List.map_append,← List.append_assoc,q0hl,List.length_append]
  exact g3
theorem q0ii {k0:Value→Hp→Prop} {q:Nat} {va vm:Value} {us:List Value} {s:LS} {A:List Nat} {W:Nat} {hh:Hp} (f:Fit w0 hh) (hq:w0.heap.size≤q) (hql:q < hh.next) (hb:hh.blk q=some (q0m s++[vm,va])) (sv:Sl w0 hh 1 va 16 us) (hu:us.length=16) (hlv:∀ (i:Nat) v,us[i]?=some v→q3c w0 hh A v (s.lv.getD i [])) (ok:LOk s W) (hW:W≤1048576)
  (hk:∀ h1 x S,Step hh h1 [] S→Vec w0 h1 1 x (q5l s).length (stV (q5l s)) S→k0 x h1):
  ∀ (m i:Nat) (h1:Hp) (x:Value) (S:List Nat),i + m=16→Step hh h1 [] S→Vec w0 h1 1 x (((s.lv.take i).flatten.map λ l=>q0i (s.bl:Int) l)).length (stV ((s.lv.take i).flatten.map λ l=>q0i (s.bl:Int) l)) S→
   q7v prog w0 k0 (m + 1) (.pointer (some ⟨q,0,none⟩)) x va (.int .i64 16) (.int .i64 (i:Int)) h1:=by
 intro m
 induction m with
 | zero=>
  intro i h1 x S hi st g
  have:i=16:=by omega
  subst this
  rw [q7v]
  simp only [qb9,wd, wa,show decide (((16:Nat):Int) < 16)=false from rfl]
  rw [List.take_of_length_le (by have:=ok.len; omega)] at g
  exact hk h1 x S st g
 | succ m ih=>
  intro i h1 x S hi st g
  have hl:=ok.len
  have c1:decide ((i:Int) < 16)=true:=decide_eq_true (by omega)
  have e6:=wrN i (by omega)
  have st0:Step hh h1 [] []:=st.less (by simp)
  have hb1:h1.blk q=some (q0m s++[vm,va]):=by rw [(st0.keep q hql (by simp)).1]; exact hb
  have hql1:q < h1.next:=by have:=st.1; omega
  obtain ⟨v,hv⟩:∃ v,us[i]?=some v:=⟨us[i]'(by omega),by simp⟩
  obtain ⟨qs,eq,gq,dq,oq⟩:=hlv i v hv
  have hgi:s.lv[i]?=some (s.lv.getD i []):=by rw [List.getD_eq_getElem?_getD,List.getElem?_eq_getElem (by omega)]; rfl
  have hti:s.lv.take (i + 1)=s.lv.take i++[s.lv.getD i []]:=by rw [List.take_add_one,hgi]; rfl
  have hflat:∀ j,(s.lv.take j).flatten.length≤s.lv.flatten.length:=λ j=>by
   have h3:s.lv.flatten.length=(s.lv.take j).flatten.length + (s.lv.drop j).flatten.length:=by
    conv=>lhs; rw [← List.take_append_drop j s.lv]
    rw [List.flatten_append,List.length_append]
   omega
  have hruns:=ok.runs
  have h1f:=hflat i
  have h2f:=hflat (i + 1)
  have hsub:∀ p:Value × List Ent,p∈qs→p.2.length≤2000000:=λ p hp=>by
   have hm:p.2∈s.lv.flatten:=List.mem_flatten.2 ⟨s.lv.getD i [],List.mem_of_getElem? hgi,by rw [eq]; exact List.mem_map.2 ⟨p,hp,rfl⟩⟩
   have h1:=qcy (f:=q0f) hm
   have h2:=q4q p.2
   have:=ok.size
   omega
  have hqs:qs.length=(s.lv.getD i []).length:=by rw [eq]; simp
  rw [hti,List.flatten_append,List.length_append,List.flatten_cons,List.flatten_nil,List.append_nil] at h2f
  rw [q7v]
  simp only [qb9,wd, wa,c1]
  refine (sv.step f st0 (by simp)).one hv ?_
  have gq1:=gq.step f st0 (by simp)
  simp only [gq1.lenv,wd, wa]
  refine ⟨qs.length + 1,q0l3 (s:=s) (bs0:=(s.lv.take i).flatten.map λ l=>q0i (s.bl:Int) l) f hq hql hb gq (λ p hp=>⟨(oq p hp).1,hsub p hp⟩) (by rw [List.length_map]; omega) (λ h2 x' S2 s2 g2=>?_) qs [] h1 x S rfl st (by rw [List.map_nil,List.append_nil]; exact g)⟩
  simp only [wd, wa,e6]
  have hfe:(s.lv.take (i + 1)).flatten.map (λ l=>q0i (s.bl:Int) l)=(s.lv.take i).flatten.map (λ l=>q0i (s.bl:Int) l)++qs.map λ p=>q0i (s.bl:Int) p.2:=by
   rw [hti,List.flatten_append,List.map_append,List.flatten_cons,List.flatten_nil,List.append_nil,eq,List.map_map]
   simp only [Function.comp_def]
  rw [← hfe] at g2
  exact ih (i + 1) h2 x' S2 (by omega) s2 g2
theorem qwz {r:Value} {s:LS} {S A:List Nat} {W:Nat} (m:Rv w0 h r s S A) (ok:LOk s W) (hW:W≤1048576):
  qf prog w0 qba [r] h λ v h'=>∃ S',Vec w0 h' 1 v (q5l s).length (stV (q5l s)) S'∧Step h h' [] S':=by
 refine qf.of_fit (by simpa using m.nj) λ f=>q04a (by simpa using m.nj) ?_
 obtain ⟨q,vm,va,us,e,hq,hql,hb,hem,sv,hu,hlv,hl⟩:=m.read
 subst e
 simp only [qif,wd, wa]
 refine qj hq hb (v:=va) rfl ?_
 simp only [sv.lenv,wd, wa]
 refine ⟨16 + 1,q0ii f hq hql hb sv hu hlv ok hW (λ h1 x S1 st g=>?_) 16 0 h _ [] rfl (.refl _ _ (by simp)) (by simpa [stV] using Vec.nil)⟩
 simp only [qu,q06]
 exact ⟨by simpa using g.sl.junk,S1,g,st⟩
theorem qha {n:Nat} (h:n < 18446744073709551616):IntKind.u64.wrap (n:Int)=((n:Nat):Int):=q41 rfl h
theorem q0nb {k4:Value→Value→Value→Value→Value→Hp→Prop} {x46 x47 x48:Value} {bl:Nat} {r more:List (List Ent)} {bs0:List UInt8} {hh:Hp} (hB:∀ l,l∈r→(q0i (bl:Int) l).length≤100000000) (hl:r.length≤1000000) (hl2:more.length≤1000000) (htot:(bs0++r.flatMap (q1s bl)).length≤2000000)
  (hk:∀ h1 x7,Fit w0 h1→Step hh h1 [] []→Sl w0 h1 1 x7 more.length (stV (more.map λ l=>q0i (bl:Int) l))→k4 (.string (str (bs0++r.flatMap (q1s bl)))) x7 x46 x47 x48 h1):
  ∀ (post pre:List (List Ent)) (h1:Hp) (x7:Value),pre++post=r→Fit w0 h1→Step hh h1 [] []→Sl w0 h1 1 x7 (post++more).length (stV ((post++more).map λ l=>q0i (bl:Int) l))→
   q7o prog w0 k4 (post.length + 1) (.string (str (bs0++pre.flatMap (q1s bl)))) x7 (.int .i64 (r.length:Int)) (.int .i64 (pre.length:Int)) x46 x47 x48 h1:=by
 intro post
 induction post with
 | nil=>
  intro pre h1 x7 he f1 st g
  have hpre:pre=r:=by simpa using he
  subst hpre
  rw [List.length_nil,q7o]
  simp only [qdk,wd, wa,Int.lt_irrefl,decide_false]
  exact hk h1 x7 f1 st g
 | cons z post ih=>
  intro pre h1 x7 he f1 st g
  have hlen:pre.length + (post.length + 1)=r.length:=by rw [← he]; simp
  have hz:=hB z (by rw [← he]; simp)
  have c1:decide ((pre.length:Int) < (r.length:Int))=true:=decide_eq_true (by omega)
  have e6:=wrS pre z (by omega)
  have hcr:=q78 (q0i (bl:Int) z)
  have h0:(stV (((z :: post)++more).map λ l=>q0i (bl:Int) l))[0]?=some (.string (str (q0i (bl:Int) z))):=rfl
  have hfm:r.flatMap (q1s bl)=pre.flatMap (q1s bl)++(q1s bl z++post.flatMap (q1s bl)):=by rw [← he]; simp
  rw [hfm] at htot
  simp only [List.length_append] at htot
  have hrb:(q1s bl z).length=(vi (q0i (bl:Int) z).length).length + (vi (q14 (q0i (bl:Int) z))).length:=by simp [q1s]
  rw [List.length_cons,q7o]
  simp only [qdk,wd, wa,c1]
  refine g.place1 (i:=0) h0 λ pa hpa=>hpa _ _ g ?_
  simp only [wd, wa,q1v,qha (n:=(q0i (bl:Int) z).length) (by omega)]
  refine g.place1 (i:=0) h0 λ pb hpb=>hpb _ _ g ?_
  refine qq (q8x _ (by omega)) λ v h2 ⟨e,s2⟩ f2=>?_
  subst e
  have g2:=g.step f1 s2 (by simp)
  simp only [q3o,q32,q4n]
  refine ⟨hpb _ _ g2 rfl,?_⟩
  refine qq (qg4 _ (by omega)) λ v h3 ⟨e,e'⟩ f3=>?_
  subst e
  subst e'
  simp only [wd, wa,qha (n:=q14 (q0i (bl:Int) z)) (by omega)]
  refine qq (q8x _ (by omega)) λ v h4 ⟨e,s4⟩ f4=>?_
  subst e
  have g4:=g2.step f3 s4 (by simp)
  rw [q36 _ _ (by rw [q1v,q1v]; omega)]
  simp only [wd, wa,q35]
  rw [q36 _ _ (by rw [q1v,q1v,List.length_append,List.length_append]; omega)]
  simp only [wd, wa,q35,e6]
  have e7:bs0++pre.flatMap (q1s bl)++(vi (q0i (bl:Int) z).length++vi (q14 (q0i (bl:Int) z)))=bs0++(pre++[z]).flatMap (q1s bl):=by simp [q1s,List.append_assoc]
  rw [e7]
  refine g4.cutN (lo:=1) (hi:=((z :: post)++more).length) rfl q2s (by simp) (Nat.le_refl _) λ x' _ _ g5=>?_
  refine ih (pre++[z]) h4 x' (by simpa using he) f4 ((st.trans s2).trans s4) ?_
  have e8:((z :: post)++more).length - 1=(post++more).length:=by simp
  have e9:((stV (((z :: post)++more).map λ l=>q0i (bl:Int) l)).take (((z :: post)++more).length * 1)).drop (1 * 1)=stV ((post++more).map λ l=>q0i (bl:Int) l):=by
   rw [List.take_of_length_le (by rw [q0m0,List.length_map]; omega)]
   rfl
  rw [e8,e9] at g5
  exact g5
theorem q0lu {k2:Value→Hp→Prop} {x46:Value} {s:LS} {bs0:List UInt8} {W:Nat} {hh:Hp} (f:Fit w0 hh) (gr:Sl w0 hh 1 x46 (q0x s.lv).length (inV (q0x s.lv))) (ok:LOk s W) (hW:W≤1048576) (htot:(bs0++(s.lv.take (q0o s.lv)).flatMap (lvB s.bl)).length≤2000000)
  (hk:∀ h1,Fit w0 h1→Step hh h1 [] []→k2 (.string (str (bs0++(s.lv.take (q0o s.lv)).flatMap (lvB s.bl)))) h1):
  ∀ (m i:Nat) (h1:Hp) (x7:Value),i + m=q0o s.lv→Fit w0 h1→Step hh h1 [] []→Sl w0 h1 1 x7 ((s.lv.drop i).flatten).length (stV ((s.lv.drop i).flatten.map λ l=>q0i (s.bl:Int) l))→
   q6s prog w0 k2 (m + 1) (.string (str (bs0++(s.lv.take i).flatMap (lvB s.bl)))) x7 x46 (.int .i64 ((q0x s.lv).length:Int)) (.int .i64 (i:Int)) h1:=by
 have hlv:=ok.len
 have hnum:=ok.num
 have hla:=q7b s.lv
 have hrl:(q0x s.lv).length=q0o s.lv:=by unfold q0x; rw [List.length_take,List.length_map,hlv]; omega
 have hruns:=ok.runs
 intro m
 induction m with
 | zero=>
  intro i h1 x7 hi f1 st g
  have:i=q0o s.lv:=by omega
  subst this
  rw [q6s,hrl]
  simp only [qb7,wd, wa,Int.lt_irrefl,decide_false]
  exact hk h1 f1 st
 | succ m ih=>
  intro i h1 x7 hi f1 st g
  have c1:decide ((i:Int) < ((q0x s.lv).length:Int))=true:=decide_eq_true (by omega)
  have e6:=wrN i (by omega)
  have hgi:s.lv[i]?=some (s.lv.getD i []):=by rw [List.getD_eq_getElem?_getD,List.getElem?_eq_getElem (by omega)]; rfl
  have hti:s.lv.take (i + 1)=s.lv.take i++[s.lv.getD i []]:=by rw [List.take_add_one,hgi]; rfl
  have hdi:(s.lv.drop i).flatten=s.lv.getD i []++(s.lv.drop (i + 1)).flatten:=by rw [qlt (by omega),List.flatten_cons]
  have hrg:(q0x s.lv)[i]?=some (s.lv.getD i []).length:=by
   unfold q0x
   rw [List.getElem?_take,if_pos (by omega),List.getElem?_map,hgi]
   rfl
  have hrn:=ok.lvl i
  have hfl:(s.lv.drop (i + 1)).flatten.length≤s.lv.flatten.length:=by
   have h3:s.lv.flatten.length=(s.lv.take (i + 1)).flatten.length + (s.lv.drop (i + 1)).flatten.length:=by
    conv=>lhs; rw [← List.take_append_drop (i + 1) s.lv]
    rw [List.flatten_append,List.length_append]
   omega
  have hfm:bs0++(s.lv.take (i + 1)).flatMap (lvB s.bl)=bs0++(s.lv.take i).flatMap (lvB s.bl)++vi (s.lv.getD i []).length++(s.lv.getD i []).flatMap (q1s s.bl):=by
   rw [hti,List.flatMap_append]
   simp only [List.flatMap_cons,List.flatMap_nil,List.append_nil,lvB,List.append_assoc]
  have htot1:(bs0++(s.lv.take (i + 1)).flatMap (lvB s.bl)).length≤2000000:=by
   have:s.lv.take (q0o s.lv)=s.lv.take (i + 1)++(s.lv.take (q0o s.lv)).drop (i + 1):=by
    conv=>lhs; rw [← List.take_append_drop (i + 1) (s.lv.take (q0o s.lv))]
    rw [List.take_take,Nat.min_eq_left (by omega)]
   rw [this,List.flatMap_append,← List.append_assoc,List.length_append] at htot
   omega
  have hB:∀ l,l∈s.lv.getD i []→(q0i (s.bl:Int) l).length≤100000000:=λ l hl=>by
   have hm:l∈s.lv.flatten:=List.mem_flatten.2 ⟨s.lv.getD i [],List.mem_of_getElem? hgi,hl⟩
   have h1:=qcy (f:=q0f) hm
   have:=ok.size
   have:=qas (qgw hnum.1 hnum.2.1 (ok.rok _ (List.mem_of_getElem? hgi) l hl).1) (by omega)
   omega
  rw [hfm] at htot1
  rw [q6s]
  simp only [qb7,wd, wa,c1]
  refine (gr.step f st (by simp)).one (qaq hrg) ?_
  simp only [wd, wa,qha (n:=(s.lv.getD i []).length) (by omega)]
  refine qq (q8x _ (by omega)) λ v h2 ⟨e,s2⟩ f2=>?_
  subst e
  have g2:=g.step f1 s2 (by simp)
  have hsz:(bs0++(s.lv.take i).flatMap (lvB s.bl)).length + (vi (s.lv.getD i []).length).length≤2000000:=by
   rw [List.length_append,List.length_append] at htot1
   omega
  rw [q36 _ _ (by rw [q1v,q1v]; omega)]
  simp only [wd, wa,q35]
  rw [hdi] at g2
  refine ⟨(s.lv.getD i []).length + 1,?_⟩
  have:=q0nb (k4:=λ y4_59 y7_60 y46_61 y47_62 y48_63=>qb (qd .add y48_63 (.int .i64 1)) λ v79_64=>q6s prog w0 k2 (m + 1) y4_59 y7_60 y46_61 y47_62 v79_64) (x46:=x46) (x47:=.int .i64 ((q0x s.lv).length:Int)) (x48:=.int .i64 (i:Int)) (bl:=s.bl) (r:=s.lv.getD i []) (more:=(s.lv.drop (i + 1)).flatten) (bs0:=bs0++(s.lv.take i).flatMap (lvB s.bl)++vi (s.lv.getD i []).length) (hh:=h2) hB (by omega) (by omega) htot1 (λ h3 x' f3 s3 g3=>?_) (s.lv.getD i []) [] h2 x7 rfl f2 (.refl _ _ (by simp)) g2
  ·rw [List.flatMap_nil,List.append_nil] at this
   exact this
  ·simp only [wd, wa,e6]
   rw [← hfm]
   exact ih (i + 1) h3 x' (by omega) f3 ((st.trans s2).trans s3) g3
theorem q0gh {k0:Value→Value→Value→Hp→Prop} {x0 x3 x32:Value} {ns:List Nat} {bs0:List UInt8} {hh:Hp} (f:Fit w0 hh) (gv:Sl w0 hh 1 x32 ns.length (inV ns)) (hn:∀ n,n∈ns→n < 18446744073709551616) (hl:ns.length≤4) (htot:(bs0++ns.flatMap vi).length≤2000000)
  (hk:∀ h1,Fit w0 h1→Step hh h1 [] []→k0 x0 x3 (.string (str (bs0++ns.flatMap vi))) h1):
  ∀ (post pre:List Nat) (h1:Hp),pre++post=ns→Fit w0 h1→Step hh h1 [] []→
   q7q prog w0 k0 (post.length + 1) x0 x3 (.string (str (bs0++pre.flatMap vi))) x32 (.int .i64 (ns.length:Int)) (.int .i64 (pre.length:Int)) h1:=by
 intro post
 induction post with
 | nil=>
  intro pre h1 he f1 st
  have hpre:pre=ns:=by simpa using he
  subst hpre
  rw [List.length_nil,q7q]
  simp only [qdo,wd, wa,Int.lt_irrefl,decide_false]
  exact hk h1 f1 st
 | cons z post ih=>
  intro pre h1 he f1 st
  have hlen:pre.length + (post.length + 1)=ns.length:=by rw [← he]; simp
  have hg:ns[pre.length]?=some z:=by rw [← he]; simp
  have hz:=hn z (by rw [← he]; simp)
  have c1:decide ((pre.length:Int) < (ns.length:Int))=true:=decide_eq_true (by omega)
  have e6:=wrS pre z (by omega)
  have hfm:ns.flatMap vi=pre.flatMap vi++(vi z++post.flatMap vi):=by rw [← he]; simp
  rw [hfm] at htot
  simp only [List.length_append] at htot
  rw [List.length_cons,q7q]
  simp only [qdo,wd, wa,c1]
  refine (gv.step f st (by simp)).one (qaq hg) ?_
  simp only [wd, wa,qha (n:=z) hz]
  refine qq (q8x _ hz) λ v h2 ⟨e,s2⟩ f2=>?_
  subst e
  rw [q36 _ _ (by rw [q1v,q1v,List.length_append]; omega)]
  simp only [wd, wa,q35,e6]
  have e7:bs0++pre.flatMap vi++vi z=bs0++(pre++[z]).flatMap vi:=by simp [List.append_assoc]
  rw [e7]
  exact ih (pre++[z]) h2 (by simpa using he) f2 (st.trans s2)
theorem q0dy {r:Value} {s:LS} {S A:List Nat} {W:Nat} (m:Rv w0 h r s S A) (ok:LOk s W) (hW:W≤1048576) (hman:(q2q s).length≤1048576):
  qf prog w0 qi0 [r] h λ v h'=>v=.string (str (frame 77 (q2q s)))∧Step h h' [] []:=by
 refine qf.of_fit (by simpa using m.nj) λ f=>q03k (by simpa using m.nj) ?_
 have hnum:=ok.num
 have hlv:=ok.len
 have hla:=q7b s.lv
 have hrl:(q0x s.lv).length=q0o s.lv:=by unfold q0x; rw [List.length_take,List.length_map,hlv]; omega
 have hmB:q2q s=[s.bl,s.fan,s.top,(q0x s.lv).length].flatMap vi++(s.lv.take (q0o s.lv)).flatMap (lvB s.bl):=by
  unfold q2q
  simp [List.append_assoc]
 simp only [qi1]
 refine qq (qy2 m) λ v14 h1 ⟨S1,g1,s1⟩ f1=>?_
 have s10:Step h h1 [] []:=s1.less (by simp)
 have m1:=m.step0 s1
 obtain ⟨q,vm,va,us,e,hq,hql,hb,hem,sv,hu,hlv2,hl⟩:=m1.read
 subst e
 simp only [wd, wa]
 refine qj hq hb rfl ?_
 refine qj hq hb rfl ?_
 refine qj hq hb rfl ?_
 simp only [g1.sl.lenv,wd, wa,q3s,q28,q1u,show q00 [(.int .i64 0:Value)] 4=[.int .i64 0,.int .i64 0,.int .i64 0,.int .i64 0] from rfl,List.set_cons_zero,List.set_cons_succ]
 refine ⟨rfl,by simp,rfl,by simp,rfl,by simp,rfl,by simp,?_⟩
 have s2:Step h1 (h1.new (inV [s.bl,s.fan,s.top,(q0x s.lv).length]) 1) [] [h1.next]:=(Step.refl h1 [] (by simp)).new _ _
 have g2:Sl w0 (h1.new (inV [s.bl,s.fan,s.top,(q0x s.lv).length]) 1) 1 (.slice (some ⟨h1.next,0,none⟩) 4 4) 4 (inV [s.bl,s.fan,s.top,(q0x s.lv).length]):=⟨_,_,rfl,q3h f1.base rfl,rfl,.inl ⟨by decide,Nat.le_refl _⟩⟩
 have f2:Fit w0 (h1.new (inV [s.bl,s.fan,s.top,(q0x s.lv).length]) 1):=f1.new (by simp [inV,qv])
 have s20:Step h1 (h1.new (inV [s.bl,s.fan,s.top,(q0x s.lv).length]) 1) [] []:=s2.less (by simp)
 have m2:=m1.step0 s2
 have gr2:=g1.sl.step f1 s2 (by simp)
 have hm4:([s.bl,s.fan,s.top,(q0x s.lv).length].flatMap vi).length≤1048576:=by
  rw [hmB,List.length_append] at hman
  omega
 show qhy _ _ _ _ _ _ _ _ _ (h1.new (inV [s.bl,s.fan,s.top,(q0x s.lv).length]) 1)
 generalize h1.new (inV [s.bl,s.fan,s.top,(q0x s.lv).length]) 1=h2 at *
 refine ⟨4 + 1,?_⟩
 have key:=q0gh (k0:=λ y0_29 y3_30 y4_31=>qi prog w0 qba [y0_29] λ v45_32=>qb (q05 y3_30) λ v47_33=>qhw prog w0 (λ y4_65=>qi prog w0 qbo [(.int .u8 77),y4_65] λ v82_66=>qb (q0g v82_66 0) λ v83_67=>qb (q0g v82_66 1) λ v84_68=>qo [v83_67] λ v h'=>v=.string (str (frame 77 (q2q s)))∧Step h h' [] []) y4_31 v45_32 y3_30 v47_33 (.int .i64 0))
  (x0:=.pointer (some ⟨q,0,none⟩)) (x3:=v14) (x32:=.slice (some ⟨h1.next,0,none⟩) 4 4) (ns:=[s.bl,s.fan,s.top,(q0x s.lv).length]) (bs0:=[]) (hh:=h2) f2 g2 (λ n hn=>by simp at hn; omega) (by simp) (by rw [List.nil_append]; omega) (λ h3 f3 s3=>?_) [s.bl,s.fan,s.top,(q0x s.lv).length] [] h2 rfl f2 (.refl _ _ (by simp))
 ·rw [List.flatMap_nil,List.append_nil] at key
  exact key
 ·rw [List.nil_append]
  have m3:=m2.step0 s3
  refine qq (qwz m3 ok hW) λ v45 h4 ⟨S4,g4,s4⟩ f4=>?_
  have s34:Step h2 h4 [] []:=s3.trans (s4.less (by simp))
  have gr4:=gr2.step f2 s34 (by simp)
  simp only [gr4.lenv,wd, wa]
  refine ⟨q0o s.lv + 1,?_⟩
  have key2:=q0lu (k2:=λ y4_65=>qi prog w0 qbo [(.int .u8 77),y4_65] λ v82_66=>qb (q0g v82_66 0) λ v83_67=>qb (q0g v82_66 1) λ v84_68=>qo [v83_67] λ v h'=>v=.string (str (frame 77 (q2q s)))∧Step h h' [] [])
   (x46:=v14) (s:=s) (bs0:=[s.bl,s.fan,s.top,(q0x s.lv).length].flatMap vi) (hh:=h4) f4 gr4 ok hW (by rw [← hmB]; omega) (λ h5 f5 s5=>?_) (q0o s.lv) 0 h4 v45 (by omega) f4 (.refl _ _ (by simp)) (by rw [List.drop_zero]; have:=g4.sl; unfold q5l at this; rw [List.length_map] at this; exact this)
  ·rw [List.take_zero,List.flatMap_nil,List.append_nil] at key2
   exact key2
  ·rw [← hmB]
   refine qq (q0fb 77 (by decide) (q2q s) (by omega)) λ v6 h6 ⟨e,s6⟩ f6=>?_
   rw [if_neg (by omega)] at e
   subst e
   simp only [wd, wa,qu,q06]
   exact ⟨by simp,trivial,(((s10.trans s20).trans s34).trans s5).trans s6⟩
end
theorem q0lq (l:List UInt8) (i:Nat) (y:UInt8):(bvs l).set i (bv y)=bvs (l.set i y):=by simp [bvs,List.map_set]
section
variable {w0:World} {h h':Hp}
theorem q0jv {k2:Value→Value→Value→Value→Value→Hp→Prop} {x4 x5 x6 x27 v:Value} {i n N:Nat} {vs:List Value} {S0 Sz:List Nat} {hh:Hp} (g0:Vec w0 hh 1 x5 N vs S0) (hv:vs[i]?=some v) (hn:n≤1000000000) (hd:∀ b,b∈S0→b∉Sz)
  (hk:∀ h1,Step hh h1 Sz Sz→k2 x4 x5 x6 x27 (.int .i64 (i:Int)) h1):
  ∀ (m j:Nat) (h1:Hp) (bs:List UInt8),j + m=n→Step hh h1 Sz Sz→Vec w0 h1 1 v n (bvs bs) Sz→
   q8l prog w0 k2 (m + 1) x4 x5 x6 (.int .i64 (i:Int)) x27 (.int .i64 (i:Int)) (.int .i64 (n:Int)) (.int .i64 (j:Int)) h1:=by
 intro m
 induction m with
 | zero=>
  intro j h1 bs hj st g
  have:j=n:=by omega
  subst this
  rw [q8l]
  simp only [qen,wd, wa,Int.lt_irrefl,decide_false]
  exact hk h1 st
 | succ m ih=>
  intro j h1 bs hj st g
  have c1:decide ((j:Int) < (n:Int))=true:=decide_eq_true (by omega)
  have e6:=wrN j (by omega)
  have hbl:bs.length=n:=by have:=g.sl.len; simpa using this
  have hbg:bs[j]?=some (bs[j]'(by omega)):=by simp
  have hvg:(bvs bs)[j]?=some (bv (bs[j]'(by omega))):=by rw [qz6,hbg]; rfl
  generalize bs[j]'(by omega)=y at hbg hvg
  have ea:qd .add (bv y) (.int .u8 1)=some (bv (UInt8.ofNat (y.toNat + 1))):=by
   rw [q3r]
   unfold bv
   rw [q4r,IntKind.wrap_u8]
   simp
  rw [q8l]
  simp only [qen,wd, wa,c1]
  refine (g0.frame st hd).sl.one hv ?_
  refine g.sl.one hvg ?_
  simp only [ea,wd, wa]
  rcases g with ⟨-,e,-⟩ | ⟨q,e,eS,hq,hql,hb,hz,hcl⟩
  ·omega
  ·subst eS
   rw [e]
   refine wr1 hq hb (by omega) (by simp; omega) rfl ?_
   rw [qc5 _ _ _ (by simp; omega),Nat.mul_one,q0lq]
   simp only [wd, wa,e6]
   have st2:Step h1 (h1.put q (bvs (bs.set j (UInt8.ofNat (y.toNat + 1))))) [q] [q]:=(Step.refl h1 [q] (by simpa using hql)).put (by simp) _
   refine ih (j + 1) _ (bs.set j (UInt8.ofNat (y.toNat + 1))) (by omega) (st.trans st2) (.inr ⟨q,e,rfl,hq,by have:=st2.1; omega,by simp,by simpa using hz,by simp; omega⟩)
theorem q0ix {k0 kr:Value→Hp→Prop} {x4 x5 x6:Value} {ps:List (Value × List UInt8 × List Nat)} {S0 S6 T:List Nat} {hh:Hp} (g0:Vec w0 hh 1 x5 ps.length (ps.map (·.1)) S0) (g6:Vec w0 hh 1 x6 ps.length (stV (ps.map λ p=>p.2.1)) S6) (hT:∀ p:Value × List UInt8 × List Nat,p∈ps→∀ b,b∈p.2.2→b∈T) (hTl:∀ b,b∈T→b < hh.next) (d0:∀ b,b∈S0→b∉T) (d6:∀ b,b∈S6→b∉T)
  (hpw:ps.Pairwise λ p q=>∀ b,b∈p.2.2→b∉q.2.2) (hl:ps.length≤1000000) (hsz:∀ p:Value × List UInt8 × List Nat,p∈ps→p.2.1.length≤100000000)
  (hk:∀ h1,Step hh h1 T T→k0 x4 h1):
  ∀ (post pre:List (Value × List UInt8 × List Nat)) (h1:Hp),pre++post=ps→Step hh h1 T T→(∀ p:Value × List UInt8 × List Nat,p∈post→Vec w0 h1 1 p.1 p.2.1.length (bvs p.2.1) p.2.2)→
   q8j prog w0 k0 kr (post.length + 1) x4 x5 x6 (.int .i64 (ps.length:Int)) (.int .i64 (pre.length:Int)) h1:=by
 intro post
 induction post with
 | nil=>
  intro pre h1 he st gp
  have hpre:pre=ps:=by simpa using he
  subst hpre
  rw [List.length_nil,q8j]
  simp only [qbk,wd, wa,Int.lt_irrefl,decide_false]
  exact hk h1 st
 | cons z post ih=>
  intro pre h1 he st gp
  have hlen:pre.length + (post.length + 1)=ps.length:=by rw [← he]; simp
  have hg:(ps.map (·.1))[pre.length]?=some z.1:=by rw [← he]; simp
  have hg6:(stV (ps.map λ p=>p.2.1))[pre.length]?=some (.string (str z.2.1)):=by rw [← he]; simp [stV]
  have hzm:z∈ps:=by rw [← he]; simp
  have hz:=gp z (by simp)
  have c1:decide ((pre.length:Int) < (ps.length:Int))=true:=decide_eq_true (by omega)
  have e6:=wrS pre z (by omega)
  have g01:=g0.frame st d0
  have g61:=g6.frame st d6
  have hzz:=hsz z hzm
  rw [List.length_cons,q8j]
  simp only [qbk,wd, wa,c1]
  refine g01.sl.one hg ?_
  refine Bs.b2s (l:=z.2.1) hz.sl ?_
  refine g61.sl.one hg6 ?_
  rw [q6l]
  simp only [ne_eq,not_true,decide_false,wd, wa]
  refine g01.sl.one hg ?_
  simp only [hz.sl.lenv,wd, wa]
  have hd0:∀ b,b∈S0→b∉z.2.2:=λ b hb w=>d0 b hb (hT z hzm b w)
  refine ⟨z.2.1.length + 1,q0jv (hh:=h1) g01 hg (by omega) hd0 (λ h2 s2=>?_) z.2.1.length 0 h1 z.2.1 (by omega) (.refl _ _ λ b hb=>(hz.lt b hb).2) hz⟩
  simp only [wd, wa,e6]
  have hpz:∀ p,p∈post→∀ b,b∈p.2.2→b∉z.2.2:=λ p hp b hb w=>by
   rw [← he,List.pairwise_append] at hpw
   exact (List.pairwise_cons.1 hpw.2.1).1 p hp b w hb
  refine ih (pre++[z]) h2 (by simpa using he) (st.trans (s2.wide (hT z hzm) λ b hb=>.inr ⟨hb,?_⟩)) λ p hp=>(gp p (by simp [hp])).frame s2 (hpz p hp)
  have:=hTl b hb
  have:=st.1
  omega
theorem q0g9 {p r:Value} {s:LS} {S A Sr Ar:List Nat} {W:Nat} (m:Lv w0 h p s S A) (mr:Rv w0 h r s Sr Ar) (ok:LOk s W) (hW:W≤1048576) (hman:(q2q s).length≤1048576):
  qf prog w0 qjn [p,r] h λ v h'=>v=.bool true∧Step h h' [] []:=by
 refine qf.of_fit (by simp [m.nj,mr.nj]) λ f=>q08u (by simp [m.nj,mr.nj]) ?_
 have hruns:=ok.runs
 have hnum:=ok.num
 simp only [qjp]
 refine qq (q0k9 m (by omega)) λ v10 h1 ⟨S0,ps,fm,efm,o1,o2,s1⟩ f1=>?_
 have mr1:=mr.step0 s1
 refine qq (qwz mr1 ok hW) λ v12 h2 ⟨S6,g6,s2⟩ f2=>?_
 have hpl:ps.length=(q5l s).length:=by have:=congrArg List.length efm; simpa only [List.length_map] using this
 have s12:Step h h2 [] []:=s1.trans (s2.less (by simp))
 have m2:=m.step0 s12
 have mr2:=mr.step0 s12
 have g0:=fm.1.frame s2 (by simp)
 rw [← hpl] at g6
 have c1:((ps.length:Int) != (ps.length:Int))=false:=by simp
 simp only [g0.sl.lenv,g6.sl.lenv,wd, wa,c1]
 refine qq (q0fz m2 ok hW hman) λ v20 h3 ⟨S3,g3,s3⟩ f3=>?_
 have s30:Step h2 h3 [] []:=s3.less (by simp)
 refine Bs.b2s (l:=frame 77 (q2q s)) g3.sl ?_
 refine qq (q0dy (mr2.step0 s30) ok hW hman) λ v23 h4 ⟨e,s4⟩ f4=>?_
 subst e
 have g34:=g3.frame s4 (by simp)
 refine ⟨(q32 _).2 (q0ge.2 (Bs.b2s (l:=frame 77 (q2q s)) g34.sl rfl)),?_⟩
 rw [q6l]
 simp only [ne_eq,not_true,decide_false,wd, wa]
 have s24:Step h2 h4 [] []:=s30.trans s4
 have g04:=g0.frame s24 (by simp)
 have g64:=g6.frame s24 (by simp)
 have hTn:∀ b,b∈ps.flatMap (λ p=>p.2.2)→h.next≤b∧b < h1.next:=λ b hb=>by
  obtain ⟨p,hp,hb⟩:=List.mem_flatMap.1 hb
  exact ⟨o2 p hp b hb,((fm.2.1 p hp).1.lt b hb).2⟩
 have s14:Step h1 h4 [] []:=(s2.less (by simp)).trans s24
 have s04:Step h h4 [] (ps.flatMap λ p=>p.2.2):=(s1.trans s14).claim λ b hb=>by
  have:=hTn b hb
  have:=s14.1
  omega
 refine ⟨ps.length + 1,q0ix (T:=ps.flatMap λ p=>p.2.2) (hh:=h4) g04 (by rw [efm]; exact g64) (λ p hp b hb=>List.mem_flatMap.2 ⟨p,hp,hb⟩) (λ b hb=>by have:=hTn b hb; have:=s14.1; omega) (λ b hb w=>?_) (λ b hb w=>?_) fm.2.2 (by rw [hpl]; simp only [q5l,List.length_map]; omega) (λ p hp=>?_) (λ h5 s5=>?_) ps [] h4 rfl (.refl _ _ λ b hb=>by have:=hTn b hb; have:=s14.1; omega) λ p hp=>((fm.2.1 p hp).1.frame s14 (by simp))⟩
 ·obtain ⟨p,hp,hb2⟩:=List.mem_flatMap.1 w
  exact (fm.2.1 p hp).2 b hb2 hb
 ·have:=(hTn b w).2
  rcases (s2.own b hb).2 with q | q
  ·simp at q
  ·omega
 ·have:p.2.1∈q5l s:=by rw [← efm]; exact List.mem_map.2 ⟨p,hp,rfl⟩
  obtain ⟨l,hl,e⟩:=List.mem_map.1 this
  rw [← e]
  obtain ⟨rr,hr,hlr⟩:=List.mem_flatten.1 hl
  have h1:=qcy (f:=q0f) hl
  have:=ok.size
  have:=qas (qgw hnum.1 hnum.2.1 (ok.rok rr hr l hlr).1) (by omega)
  omega
 ·simp only [qu,q06]
  exact ⟨by simp,trivial,(s04.trans s5).less (by simp)⟩
theorem q0jw {p r:Value} {s:LS} {S A Sr Ar:List Nat} {W:Nat} (m:Lv w0 h p s S A) (mr:Rv w0 h r s Sr Ar) (ok:LOk s W) (hW:W≤1048576) (hman:(q2q s).length≤1048576):
  qf prog w0 qf1 [p,r] h λ v h'=>v=.bool true∧Step h h' [] []:=by
 refine qf.of_fit (by simp [m.nj,mr.nj]) λ f=>q09y (by simp [m.nj,mr.nj]) ?_
 have hlv:=ok.len
 have hrl:(q0x s.lv).length≤16:=by
  unfold q0x
  rw [List.length_take,List.length_map]
  omega
 simp only [qti]
 refine qq (qgn m) λ v6 h1 ⟨S1,g1,d1,s1⟩ f1=>?_
 have s10:Step h h1 [] []:=s1.less (by simp)
 refine qq (qy2 (mr.step0 s10)) λ v8 h2 ⟨S2,g2,s2⟩ f2=>?_
 have s20:Step h h2 [] []:=s10.trans (s2.less (by simp))
 refine qq (qlr (g1.step f1 s2 (by simp)) g2.sl (by omega)) λ v9 h3 ⟨e,e'⟩ f3=>?_
 subst e
 subst e'
 simp only [decide_true,wd, wa]
 have em:ByteArray.empty=str ([]:Key):=rfl
 rw [em]
 refine qq (q0i8 (mr.step0 s20) ok hW [] []) λ v13 h4 ⟨S4,g4,s4⟩ f4=>?_
 have s40:Step h h4 [] []:=s20.trans (s4.less (by simp))
 refine qq (q0ez (m.step0 s40) ok hW g4.sl λ b hb=>by rw [g4.sblk_eq] at hb; exact (g4.lt b hb).2) λ v14 h5 ⟨e,s5⟩ f5=>?_
 subst e
 have s50:=s40.trans s5
 simp only [wd, wa]
 refine qq (q0g9 (m.step0 s50) (mr.step0 s50) ok hW hman) λ v15 h6 ⟨e,s6⟩ f6=>?_
 subst e
 simp only [wd, wa,qu,q06]
 exact ⟨by simp,trivial,s50.trans s6⟩
end
end Go.Proofs.YtfmoemconapmhaaGreat.Ah
